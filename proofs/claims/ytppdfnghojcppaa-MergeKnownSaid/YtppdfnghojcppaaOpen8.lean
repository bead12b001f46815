/-
  How the arguments of chapter 8's statements read: slices of numbers, states, pieces, drafts, arrays of drafts.
-/
import Derived.Test.YtppdfnghojcppaaOpen
import Derived.Test.YtppdfnghojcppaaMergeD
import Derived.Deep.Fields
import Derived.ChangeSlices
import Derived.Lib.SmallJoins
namespace Go.Proofs.Ytppdfnghojcppaa
open Go.RowKit Go.ChangeShapes Go.WideShapes Go.Deep
set_option linter.unusedVariables false

theorem cells_struct {H : Type} {enc : TypeId × Value → H} {P : Program} {w : World} {base : Nat} {spare : Nat → Bool} {held : Bool} {t : TypeId} {n0 : Nat} {cs : List Value} {x : DataW H × List MemPlace} {fs : Array Field}
    (ht : P.underlying t = some (.struct fs)) (h1 : oneCellFields P fs = true) (hl : cs.length = fs.size) (hf : DataW.trod enc P w base spare held n0 t cs = some x) :
    ∃ n : Nat, ∀ (j : Nat) (f : Field), fs[j]? = some f → ∃ c x, cs[j]? = some c ∧ DataW.trod enc P w base spare held n f.type [c] = some x := by
  obtain ⟨xs, n, _, _, _, hlen, hg⟩ := DataW.trod_struct ht hf
  refine ⟨n, fun j f hj => ?_⟩
  have hjl : j < fs.size := (Array.getElem?_eq_some_iff.1 hj).1
  obtain ⟨ho, hk⟩ := hone_of h1 j f hj
  have hc := hg j f hj
  rw [ho, hk] at hc
  have ex : xs[j]? = some (xs[j]'(by omega)) := List.getElem?_eq_getElem _
  have ec : cs[j]? = some (cs[j]'(by omega)) := List.getElem?_eq_getElem _
  refine ⟨cs[j]'(by omega), xs[j]'(by omega), ec, ?_⟩
  rw [← ex, ← hc, List.drop_eq_getElem_cons (by omega)]
  rfl
section
variable {H : Type} {enc : TypeId × Value → H} {w : World} {base : Nat} {spare : Nat → Bool} {held : Bool} {n : Nat} {c : Value} {x : DataW H × List MemPlace}
theorem is_int {k : IntKind} {t : TypeId} (ht : Try.prog.underlying t = some (.int k)) (h : DataW.trod enc Try.prog w base spare held n t [c] = some x) : ∃ a : Int, c = .int k a ∧ (Lit.int k a).wf = true := by
  obtain ⟨a, h1, _, h2⟩ := DataW.trod_int ht h
  exact ⟨a, by simpa using h1, h2⟩
theorem is_bool {t : TypeId} (ht : Try.prog.underlying t = some .bool) (h : DataW.trod enc Try.prog w base spare held n t [c] = some x) : ∃ a : Bool, c = .bool a := by
  obtain ⟨a, h1, _⟩ := DataW.trod_bool ht h
  exact ⟨a, by simpa using h1⟩
theorem is_string {t : TypeId} (ht : Try.prog.underlying t = some .string) (h : DataW.trod enc Try.prog w base spare held n t [c] = some x) : ∃ a : ByteArray, c = .string a ∧ a.size ≤ maxLen := by
  obtain ⟨a, h1, _, h2⟩ := DataW.trod_string ht h
  exact ⟨a, by simpa using h1, h2⟩
theorem is_ints {k : IntKind} {t e : TypeId} (ht : Try.prog.underlying t = some (.slice e)) (he : Try.prog.underlying e = some (.int k)) (hc : Try.prog.cellsOf e = 1) (h : DataW.trod enc Try.prog w base spare held n t [c] = some x) :
    ∃ (p : Option Addr) (cap : Nat) (l : List Int), c = .slice p l.length cap ∧ Ints w k p l ∧ (∀ z ∈ l, (Lit.int k z).wf = true) ∧ l.length ≤ maxLen ∧ l.length ≤ cap := by
  rcases ChangeShapes.open_ints ht he hc h with ⟨h1, _⟩ | ⟨a, len, cap, zs, h1, _, hl, hm, hz, _, hcell, hwf⟩
  · exact ⟨none, 0, [], by simpa using h1, .inl rfl, by simp, by simp, by simp⟩
  · have hlz : len ≤ zs.length := by rw [hz]; split <;> omega
    have htl : (zs.take len).length = len := by rw [List.length_take]; omega
    refine ⟨some a, cap, zs.take len, by rw [htl]; simpa using h1, ?_, fun z hz' => hwf z (List.mem_of_mem_take hz'), by omega, by omega⟩
    by_cases h0 : len = 0
    · exact .inl (by rw [h0]; rfl)
    · have hc0 := hcell 0 (by omega)
      have ha0 : a.add 0 = a := by simp [Addr.add]
      rw [ha0] at hc0
      have hs := World.cell?_spot hc0
      have hb := block_lt_of_cell hc0
      obtain ⟨b, o, sp⟩ := a
      dsimp only at hs hb
      subst hs
      refine .inr ⟨b, o, rfl, hb, fun j hj => ?_⟩
      have hcj := hcell j (by omega)
      have haj : (⟨b, o, none⟩ : Addr).add j = ⟨b, o + j, none⟩ := by unfold Addr.add; split <;> simp_all
      rw [haj] at hcj
      rw [hcj, List.getD_eq_getElem?_getD, List.getD_eq_getElem?_getD, List.getElem?_take, if_pos (by omega)]
end
theorem len4 {l : List Value} (h : l.length = 4) : ∃ a b c d, l = [a, b, c, d] := by
  match l, h with
  | [a, b, c, d], _ => exact ⟨a, b, c, d, rfl⟩
theorem u16_nat {a : Int} (h : (Lit.int .u16 a).wf = true) : ∃ m : Nat, a = (m : Int) ∧ m < 65536 := by
  have := bounds_u16 h
  exact ⟨a.toNat, by omega, by omega⟩
theorem u8_nat {a : Int} (h : (Lit.int .u8 a).wf = true) : ∃ m : Nat, a = (m : Int) ∧ m < 256 := by
  have := bounds_u8 h
  exact ⟨a.toNat, by omega, by omega⟩
theorem field_int (a : Value) {b : Value} (h : some a = some b) : a = b := Option.some.inj h

/-- A draft's cells. -/
def draftV (D : Dr8) (p : Option Addr) (cap : Nat) : List Value := [.string D.data, .int .u16 (D.long : Int), .int .u8 (D.number : Int), .slice p D.cuts.length cap]
set_option maxRecDepth 100000 in
theorem cells_draft {H : Type} {enc : TypeId × Value → H} {w : World} {base : Nat} {spare : Nat → Bool} {held : Bool} {n0 : Nat} {cs : List Value} {x : DataW H × List MemPlace} (hl : cs.length = 4)
    (h : DataW.trod enc Try.prog w base spare held n0 25 cs = some x) : ∃ (D : Dr8) (p : Option Addr) (cap : Nat), cs = draftV D p cap ∧ D.wf ∧ Ints w .u8 p D.cutsI := by
  obtain ⟨n, hf⟩ := cells_struct Try.underlying25 (by kernel_rfl) hl h
  obtain ⟨c0, c1, c2, c3, rfl⟩ := len4 hl
  obtain ⟨a0, x0, e0, h0⟩ := hf 0 _ rfl
  obtain ⟨a1, x1, e1, h1⟩ := hf 1 _ rfl
  obtain ⟨a2, x2, e2, h2⟩ := hf 2 _ rfl
  obtain ⟨a3, x3, e3, h3⟩ := hf 3 _ rfl
  obtain rfl := field_int _ e0
  obtain rfl := field_int _ e1
  obtain rfl := field_int _ e2
  obtain rfl := field_int _ e3
  obtain ⟨b0, rfl, k0⟩ := is_string Try.underlying9 h0
  obtain ⟨b1, rfl, k1⟩ := is_int Try.underlying22 h1
  obtain ⟨b2, rfl, k2⟩ := is_int Try.underlying5 h2
  obtain ⟨p, cap, l, rfl, hi, hwf, hle, _⟩ := is_ints Try.underlying23 Try.underlying5 (by kernel_rfl) h3
  obtain ⟨m1, rfl, l1⟩ := u16_nat k1
  obtain ⟨m2, rfl, l2⟩ := u8_nat k2
  have hl2 : (l.map Int.toNat).map (fun (x : Nat) => (x : Int)) = l := by
    rw [List.map_map]
    refine (List.map_congr_left fun z hz => ?_).trans (List.map_id l)
    have := bounds_u8 (hwf z hz)
    show ((z.toNat : Nat) : Int) = z
    omega
  unfold maxLen at k0 hle
  refine ⟨⟨b0, m1, m2, l.map Int.toNat⟩, p, cap, ?_, ⟨l1, l2, fun k => ?_, by show b0.size ≤ _; omega, by show (l.map Int.toNat).length ≤ _; rw [List.length_map]; omega⟩, ?_⟩
  · unfold draftV
    dsimp only
    rw [List.length_map]
  · show (l.map Int.toNat).getD k 0 < 256
    rw [List.getD_eq_getElem?_getD]
    cases hk : (l.map Int.toNat)[k]? with
    | none => decide
    | some z =>
      obtain ⟨y, hy, rfl⟩ := List.mem_map.1 (List.mem_of_getElem? hk)
      have := bounds_u8 (hwf y hy)
      show y.toNat < 256
      omega
  · unfold Dr8.cutsI
    rw [hl2]
    exact hi
set_option maxRecDepth 100000 in
theorem open_draft8 {H : Type} {enc : TypeId × Value → H} {w : World} {base : Nat} {spare : Nat → Bool} {held : Bool} {r : Reach} {b0 : Nat} {v : Value} {d : DataW H} {p : List MemPlace}
    (hv : Value.okWide Try.prog w r b0 25 v) (h : DataW.Trod enc Try.prog w base spare held 25 v d p) :
    ∃ (D : Dr8) (p : Option Addr) (cap : Nat), v = .agg #[.string D.data, .int .u16 (D.long : Int), .int .u8 (D.number : Int), .slice p D.cuts.length cap] ∧ D.wf ∧ Ints w .u8 p D.cutsI := by
  obtain ⟨cs, rfl, hsz⟩ := okWide_struct Try.underlying25 hv
  obtain ⟨fuel, hf⟩ := h
  have hC : Try.prog.cellsOf 25 = 4 := by kernel_rfl
  obtain ⟨D, p, cap, hcs, h1, h2⟩ := cells_draft (cs := cs.toList) (by rw [Array.length_toList, hsz, hC]) hf
  exact ⟨D, p, cap, by rw [← Array.toArray_toList (xs := cs), hcs]; rfl, h1, h2⟩

set_option maxRecDepth 100000 in
/-- An array of drafts: its cells, four to a draft. -/
theorem open_drafts {H : Type} {enc : TypeId × Value → H} {w : World} {base : Nat} {spare : Nat → Bool} {held : Bool} {r : Reach} {b0 N : Nat} {t : TypeId} {v : Value} {d : DataW H} {p : List MemPlace}
    (ht : Try.prog.underlying t = some (.array N 25)) (hC : Try.prog.cellsOf t = N * 4)
    (hv : Value.okWide Try.prog w r b0 t v) (h : DataW.Trod enc Try.prog w base spare held t v d p) :
    ∃ cs : List Value, v = .agg cs.toArray ∧ cs.length = N * 4 ∧ ∀ i, i < N → ∃ (D : Dr8) (p : Option Addr) (cap : Nat), (cs.drop (i * 4)).take 4 = draftV D p cap ∧ D.wf ∧ Ints w .u8 p D.cutsI := by
  simp only [Value.okWide, ht] at hv
  obtain ⟨cs, rfl, hsz, _⟩ := hv
  obtain ⟨fuel, hf⟩ := h
  obtain ⟨xs, m, _, hx, _, hlen, hg⟩ := DataW.trod_array ht hf
  have hE : Try.prog.cellsOf 25 = 4 := by kernel_rfl
  have hl : cs.toList.length = N * 4 := by rw [Array.length_toList, hsz, hC]
  refine ⟨cs.toList, rfl, hl, fun i hi => ?_⟩
  have g := hg i (by omega)
  rw [hE] at g
  obtain ⟨y, hy⟩ : ∃ y, xs[i]? = some y := ⟨xs[i]'(by omega), List.getElem?_eq_getElem _⟩
  rw [hy] at g
  exact cells_draft (cs := (cs.toList.drop (i * 4)).take 4) (by rw [List.length_take, List.length_drop]; omega) g
set_option maxRecDepth 100000 in
theorem open_drafts2 {H : Type} {enc : TypeId × Value → H} {w : World} {base : Nat} {spare : Nat → Bool} {held : Bool} {r : Reach} {b0 : Nat} {t : TypeId} {v : Value} {d : DataW H} {p : List MemPlace}
    (ht : Try.prog.underlying t = some (.array 2 25)) (hC : Try.prog.cellsOf t = 8)
    (hv : Value.okWide Try.prog w r b0 t v) (h : DataW.Trod enc Try.prog w base spare held t v d p) :
    ∃ (D : Dr8) (p : Option Addr) (cap : Nat) (D1 : Dr8) (p1 : Option Addr) (cap1 : Nat), v = .agg #[.string D.data, .int .u16 (D.long : Int), .int .u8 (D.number : Int), .slice p D.cuts.length cap, .string D1.data, .int .u16 (D1.long : Int), .int .u8 (D1.number : Int), .slice p1 D1.cuts.length cap1] ∧
      D.wf ∧ Ints w .u8 p D.cutsI ∧ D1.wf ∧ Ints w .u8 p1 D1.cutsI := by
  obtain ⟨cs, rfl, hl, hk⟩ := open_drafts ht hC hv h
  obtain ⟨D, p, cap, e0, h1, h2⟩ := hk 0 (by omega)
  obtain ⟨D1, p1, cap1, e1, h3, h4⟩ := hk 1 (by omega)
  have : cs = draftV D p cap ++ draftV D1 p1 cap1 := by
    rw [← e0, ← e1, Nat.zero_mul, List.drop_zero, Nat.one_mul]
    have : (cs.drop 4).take 4 = cs.drop 4 := List.take_of_length_le (by rw [List.length_drop]; omega)
    rw [this, List.take_append_drop]
  exact ⟨D, p, cap, D1, p1, cap1, by rw [this]; rfl, h1, h2, h3, h4⟩

def sel4 {α : Type} (a b c d : α) : Nat → α
  | 0 => a
  | 1 => b
  | 2 => c
  | _ => d
set_option maxRecDepth 100000 in
theorem open_nums {H : Type} {enc : TypeId × Value → H} {w : World} {base : Nat} {spare : Nat → Bool} {held : Bool} {r : Reach} {b0 : Nat} {t e : TypeId} {k : IntKind} {v : Value} {d : DataW H} {p : List MemPlace}
    (ht : Try.prog.underlying t = some (.slice e)) (he : Try.prog.underlying e = some (.int k)) (hc : Try.prog.cellsOf e = 1)
    (hv : Value.okWide Try.prog w r b0 t v) (h : DataW.Trod enc Try.prog w base spare held t v d p) :
    ∃ (p : Option Addr) (cap : Nat) (l : List Int), v = .slice p l.length cap ∧ Ints w k p l ∧ (∀ z ∈ l, (Lit.int k z).wf = true) ∧ l.length ≤ maxLen ∧ l.length ≤ cap := by
  obtain ⟨a, len, cap, rfl⟩ := okWide_slice ht hv
  obtain ⟨fuel, hf⟩ := h
  exact is_ints ht he hc hf
set_option maxRecDepth 100000 in
theorem open_drafts4 {H : Type} {enc : TypeId × Value → H} {w : World} {base : Nat} {spare : Nat → Bool} {held : Bool} {r : Reach} {b0 : Nat} {t : TypeId} {v : Value} {d : DataW H} {p : List MemPlace}
    (ht : Try.prog.underlying t = some (.array 4 25)) (hC : Try.prog.cellsOf t = 16)
    (hv : Value.okWide Try.prog w r b0 t v) (h : DataW.Trod enc Try.prog w base spare held t v d p) :
    ∃ (D : Nat → Dr8) (p : Nat → Option Addr) (cap : Nat → Nat), v = .agg (draftV (D 0) (p 0) (cap 0) ++ (draftV (D 1) (p 1) (cap 1) ++ (draftV (D 2) (p 2) (cap 2) ++ draftV (D 3) (p 3) (cap 3)))).toArray ∧
      ∀ i, i < 4 → (D i).wf ∧ Ints w .u8 (p i) (D i).cutsI := by
  obtain ⟨cs, rfl, hl, hk⟩ := open_drafts ht hC hv h
  obtain ⟨D0, p0, c0, e0, h0⟩ := hk 0 (by omega)
  obtain ⟨D1, p1, c1, e1, h1⟩ := hk 1 (by omega)
  obtain ⟨D2, p2, c2, e2, h2⟩ := hk 2 (by omega)
  obtain ⟨D3, p3, c3, e3, h3⟩ := hk 3 (by omega)
  have hcs : cs = draftV D0 p0 c0 ++ (draftV D1 p1 c1 ++ (draftV D2 p2 c2 ++ draftV D3 p3 c3)) := by
    rw [← e0, ← e1, ← e2, ← e3]
    have t3 : (cs.drop (3 * 4)).take 4 = cs.drop 12 := List.take_of_length_le (by rw [List.length_drop]; omega)
    have d2 : cs.drop 12 = (cs.drop 8).drop 4 := by rw [List.drop_drop]
    have d1 : cs.drop 8 = (cs.drop 4).drop 4 := by rw [List.drop_drop]
    rw [t3, d2, show 2 * 4 = 8 from rfl, List.take_append_drop, d1, show 1 * 4 = 4 from rfl, List.take_append_drop, Nat.zero_mul, List.drop_zero, List.take_append_drop]
  refine ⟨sel4 D0 D1 D2 D3, sel4 p0 p1 p2 p3, sel4 c0 c1 c2 c3, by rw [hcs]; rfl, ?_⟩
  · intro i hi
    match i, hi with
    | 0, _ => exact h0
    | 1, _ => exact h1
    | 2, _ => exact h2
    | 3, _ => exact h3
end Go.Proofs.Ytppdfnghojcppaa
