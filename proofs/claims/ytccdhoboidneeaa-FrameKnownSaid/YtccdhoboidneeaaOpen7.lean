/-
  How the arguments of chapter 7's statements read: a draft by value, a frame by value.
-/
import Derived.Test.YtccdhoboidneeaaOpen
import Derived.Test.YtccdhoboidneeaaFrameD
import Derived.Deep.Fields
namespace Go.Proofs.Ytccdhoboidneeaa
open Go.RowKit Go.ChangeShapes Go.WideShapes Go.Deep
set_option linter.unusedVariables false

/-- A struct of cells by value, one field at a time. -/
theorem open_cells {H : Type} {enc : TypeId × Value → H} {P : Program} {w : World} {base : Nat} {spare : Nat → Bool} {held : Bool} {r : Reach} {b0 : Nat} {t : TypeId} {v : Value} {d : DataW H} {p : List MemPlace} {fs : Array Field}
    (ht : P.underlying t = some (.struct fs)) (h1 : oneCellFields P fs = true) (hC : P.cellsOf t = fs.size) (hv : Value.okWide P w r b0 t v) (h : DataW.Trod enc P w base spare held t v d p) :
    ∃ (cs : List Value) (n : Nat), v = .agg cs.toArray ∧ cs.length = fs.size ∧ ∀ (j : Nat) (f : Field), fs[j]? = some f → ∃ c x, cs[j]? = some c ∧ DataW.trod enc P w base spare held n f.type [c] = some x := by
  obtain ⟨cs, rfl, hsz⟩ := okWide_struct ht hv
  obtain ⟨fuel, hf⟩ := h
  obtain ⟨xs, n, _, _, _, hlen, hg⟩ := DataW.trod_struct ht hf
  have hl : cs.toList.length = fs.size := by rw [Array.length_toList, hsz, hC]
  refine ⟨cs.toList, n, rfl, hl, fun j f hj => ?_⟩
  have hjl : j < fs.size := (Array.getElem?_eq_some_iff.1 hj).1
  obtain ⟨ho, hk⟩ := hone_of h1 j f hj
  have hc := hg j f hj
  rw [ho, hk] at hc
  have ex : xs[j]? = some (xs[j]'(by omega)) := List.getElem?_eq_getElem _
  have ec : cs.toList[j]? = some (cs.toList[j]'(by omega)) := List.getElem?_eq_getElem _
  refine ⟨cs.toList[j]'(by omega), xs[j]'(by omega), ec, ?_⟩
  rw [← ex, ← hc, show (Value.agg cs).cells.toList = cs.toList from rfl, List.drop_eq_getElem_cons (by omega)]
  rfl
section
variable {H : Type} {enc : TypeId × Value → H} {w : World} {base : Nat} {spare : Nat → Bool} {held : Bool} {n : Nat} {c : Value} {x : DataW H × List MemPlace}
theorem is_int {k : IntKind} {t : TypeId} (ht : Try.prog.underlying t = some (.int k)) (h : DataW.trod enc Try.prog w base spare held n t [c] = some x) : ∃ a : Int, c = .int k a ∧ (Lit.int k a).wf = true := by
  obtain ⟨a, h1, _, h2⟩ := DataW.trod_int ht h
  exact ⟨a, by simpa using h1, h2⟩
theorem is_bool {t : TypeId} (ht : Try.prog.underlying t = some .bool) (h : DataW.trod enc Try.prog w base spare held n t [c] = some x) : ∃ a : Bool, c = .bool a := by
  obtain ⟨a, h1, _⟩ := DataW.trod_bool ht h
  exact ⟨a, by simpa using h1⟩
theorem is_string {t : TypeId} (ht : Try.prog.underlying t = some .string) (h : DataW.trod enc Try.prog w base spare held n t [c] = some x) : ∃ a : ByteArray, c = .string a ∧ a.size ≤ maxLen := by
  obtain ⟨a, h1, _, h2⟩ := DataW.trod_string ht h
  exact ⟨a, by simpa using h1, h2⟩
end
theorem len7 {l : List Value} (h : l.length = 7) : ∃ a b c d e f g, l = [a, b, c, d, e, f, g] := by
  match l, h with
  | [a, b, c, d, e, f, g], _ => exact ⟨a, b, c, d, e, f, g, rfl⟩
theorem len9 {l : List Value} (h : l.length = 9) : ∃ a b c d e f g i j, l = [a, b, c, d, e, f, g, i, j] := by
  match l, h with
  | [a, b, c, d, e, f, g, i, j], _ => exact ⟨a, b, c, d, e, f, g, i, j, rfl⟩
theorem u16_nat {a : Int} (h : (Lit.int .u16 a).wf = true) : ∃ m : Nat, a = (m : Int) ∧ m < 65536 := by
  have := bounds_u16 h
  exact ⟨a.toNat, by omega, by omega⟩
theorem u8_nat {a : Int} (h : (Lit.int .u8 a).wf = true) : ∃ m : Nat, a = (m : Int) ∧ m < 256 := by
  have := bounds_u8 h
  exact ⟨a.toNat, by omega, by omega⟩
theorem field_int (a : Value) {b : Value} (h : some a = some b) : a = b := Option.some.inj h

set_option maxRecDepth 100000 in
theorem open_draft {H : Type} {enc : TypeId × Value → H} {w : World} {base : Nat} {spare : Nat → Bool} {held : Bool} {r : Reach} {b0 : Nat} {v : Value} {d : DataW H} {p : List MemPlace}
    (hv : Value.okWide Try.prog w r b0 24 v) (h : DataW.Trod enc Try.prog w base spare held 24 v d p) :
    ∃ D : Dr, v = .agg #[.int .u16 (D.dst : Int), .int .u16 (D.src : Int), .int .u16 (D.long : Int), .int .u8 (D.tag : Int), .int .u8 (D.kind : Int), .int .u16 (D.seq : Int), .string D.data] ∧ D.fit := by
  obtain ⟨cs, n, rfl, hl, hf⟩ := open_cells Try.underlying24 (by kernel_rfl) (by kernel_rfl) hv h
  obtain ⟨c0, c1, c2, c3, c4, c5, c6, rfl⟩ := len7 hl
  obtain ⟨a0, x0, e0, h0⟩ := hf 0 _ rfl
  obtain ⟨a1, x1, e1, h1⟩ := hf 1 _ rfl
  obtain ⟨a2, x2, e2, h2⟩ := hf 2 _ rfl
  obtain ⟨a3, x3, e3, h3⟩ := hf 3 _ rfl
  obtain ⟨a4, x4, e4, h4⟩ := hf 4 _ rfl
  obtain ⟨a5, x5, e5, h5⟩ := hf 5 _ rfl
  obtain ⟨a6, x6, e6, h6⟩ := hf 6 _ rfl
  obtain rfl := field_int _ e0
  obtain rfl := field_int _ e1
  obtain rfl := field_int _ e2
  obtain rfl := field_int _ e3
  obtain rfl := field_int _ e4
  obtain rfl := field_int _ e5
  obtain rfl := field_int _ e6
  obtain ⟨b0, rfl, k0⟩ := is_int Try.underlying22 h0
  obtain ⟨b1, rfl, k1⟩ := is_int Try.underlying22 h1
  obtain ⟨b2, rfl, k2⟩ := is_int Try.underlying22 h2
  obtain ⟨b3, rfl, k3⟩ := is_int Try.underlying5 h3
  obtain ⟨b4, rfl, k4⟩ := is_int Try.underlying5 h4
  obtain ⟨b5, rfl, k5⟩ := is_int Try.underlying22 h5
  obtain ⟨b6, rfl, k6⟩ := is_string Try.underlying9 h6
  obtain ⟨m0, rfl, l0⟩ := u16_nat k0
  obtain ⟨m1, rfl, l1⟩ := u16_nat k1
  obtain ⟨m2, rfl, l2⟩ := u16_nat k2
  obtain ⟨m3, rfl, l3⟩ := u8_nat k3
  obtain ⟨m4, rfl, l4⟩ := u8_nat k4
  obtain ⟨m5, rfl, l5⟩ := u16_nat k5
  unfold maxLen at k6
  exact ⟨⟨m0, m1, m2, m3, m4, m5, b6⟩, rfl, l0, l1, l2, l3, l4, l5, by show b6.size ≤ _; omega⟩
end Go.Proofs.Ytccdhoboidneeaa
