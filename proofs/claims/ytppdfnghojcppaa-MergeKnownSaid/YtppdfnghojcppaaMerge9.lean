/-
  The laws' own helpers: the chapter's frame, refused, joins.
-/
import Derived.Test.YtppdfnghojcppaaMerge8
import Derived.Test.YtppdfnghojcppaaMerge5
import Derived.Test.YtppdfnghojcppaaMergeJ
import Derived.Test.YtppdfnghojcppaaShelf
import Derived.Deep.DrawnRows
namespace Go.Proofs.Ytppdfnghojcppaa
open Go.RowKit Go.Sort
set_option linter.unusedVariables false

/-- The chapter's frame. -/
def octs (k : Nat) : List UInt8 := (List.range k).map UInt8.ofNat
def chap : ByteArray := sealB 0 (S (octs 130))
theorem octs_length (k : Nat) : (octs k).length = k := by simp [octs]
theorem octs_succ (k : Nat) : octs (k + 1) = octs k ++ [UInt8.ofNat k] := by simp [octs, List.range_succ]
def octV (l : List UInt8) : List Value := l.map fun b => .int .u8 (b.toNat : Int)
theorem infoU8 : (Try.prog.info? 5).map (fun i => (i.zero, i.size, i.bytes)) = some (some (.int .u8 0), 1, 1) := by kernel_rfl
theorem chap_size : chap.size = 134 := by unfold chap; rw [sealB_size, S_size, octs_length]

theorem own_added {W w1 : World} {B : Nat} {e : TypeId} {size : Nat} {v : Value} {k : Nat} {xs : List Value} {tmp : Obj} (h : W.ownsRow B e size v k xs) (hB : B ≤ W.heap.size) (hg : (W.alloc tmp).grownBy w1 v.ownBlock) : Below B W w1 := by
  refine ((Below.refl B W).alloc hB tmp).grown hg (by simp; omega) fun j ej => ?_
  rcases h.2 with ⟨rfl, _⟩ | ⟨g, cap, cur, rfl, hb, _, _⟩
  · simp [Value.ownBlock] at ej
  · obtain rfl : g = j := by simpa [Value.ownBlock] using ej
    exact hb
theorem octV_succ {k : Nat} (h : k < 130) : octV (octs (k + 1)) = octV (octs k) ++ [.int .u8 (k : Int)] := by
  have : ((UInt8.ofNat k).toNat : Int) = (k : Int) := by rw [UInt8.toNat_ofNat']; omega
  rw [octs_succ, octV, List.map_append, List.map_cons, this]; rfl
theorem octV_at (l : List UInt8) {j : Nat} (h : j < l.length) : (octV l)[j]? = some (.int .u8 (l[j].toNat : Int)) := by simp [octV, h]

set_option maxRecDepth 100000 in
theorem chapter_any (w : World) : Calls Try.prog 26 #[] w fun e w' => e = .returned (.string chap) ∧ Below w.heap.size w w' := by
  have CS := Lib.hid (Seal_any (S (octs 130)) (by rw [S_size, octs_length]; decide))
  obtain ⟨i0, hi, hz0, hz1, hz2⟩ := info_parts infoU8
  have HI := Lib.hid hi
  have HZ := Lib.hid hz0
  have HZ1 := Lib.hid hz1
  have HZ2 := Lib.hid hz2
  clear hi hz0 hz1 hz2
  go_enter Try.func26, Try.ntmps26
  go_wp2_with (fail)
  go_loopw [1, 2] (fun v i wr => ∃ k : Nat, k ≤ 130 ∧ i = .int .i64 k ∧ wr.ownsRow w.heap.size 5 1 v k (octV (octs k)) ∧ Below w.heap.size w wr) (fun _ i _ => 130 - (intOf i).toNat)
  case atStart => exact ⟨0, by omega, rfl, World.ownsRow_nil _ _ _ _, Below.refl _ _⟩
  case round =>
    obtain ⟨k, hk, rfl, hrow, hB⟩ := hrel
    by_cases hlt : k < 130
    · have hlt' : (k : Int) < 130 := by omega
      have hw8 : IntKind.u8.wrap (k : Int) = (k : Int) := by rw [IntKind.wrap_u8']; omega
      have HR := Lib.hid hrow
      clear hrow
      go_wp2_with (at_builtin; refine wpList_append_own _ rfl _ _ 23 rfl w.heap.size 5 i0 (.int .u8 0) 1 1 Try.underlying23 HI.out HZ.out HZ1.out HZ2.out rfl (by decide) _ _ _ rfl (HR.out.alloc _) ⟨wr.heap.size, 0, none⟩ 1 1 [.int .u8 (k : Int)] rfl rfl (cell_one_new _ _ _) (fun u hu => by cases List.mem_singleton.1 hu; rfl) (by unfold maxLen; omega) (by omega) (by have := hB.size; simp; omega) ?_; intro v' w5 hown' hgrow hnil)
      have hb5 := hB.trans (own_added HR.out hB.size hgrow)
      rw [← octV_succ hlt] at hown'
      clear hgrow hnil HR
      go_round
      case rel => exact ⟨k + 1, by omega, by go_num, hown', hb5⟩
      case measure => simp [intOf]; omega
    · obtain rfl : k = 130 := by omega
      obtain ⟨g, cap, rfl⟩ := ownsRow_succ (k := 129) hrow
      have hcv := conv_list wr g cap (octs 130) (fun j hj => by
        rw [hrow.cellAt j (by rw [octs_length] at hj; omega)]
        exact octV_at _ hj)
      rw [octs_length] at hcv
      clear hrow
      go_wp2_with (fail)
      refine (CS.out _).mono ?_
      rintro e w6 ⟨rfl, g6⟩
      go_wp2_with (fail)
      go_ret
      exact ⟨rfl, hB.trans (g6.mono hB.size)⟩

/-- refused. -/
def refB (s : ByteArray) (n : Int) (cuts : List Int) (code : Int) : Bool := decide ((cutL s n cuts).length = 0) && decide (cutE s n cuts = code)
theorem refused_any (s : ByteArray) (hs : s.size ≤ 9000000000000000000) (n : Int) (p : Option Addr) (cap : Nat) (cuts : List Int) (code : Int) (w : World) (hl : cuts.length ≤ 9000000000000000000) (hp : Ints w .i64 p cuts) :
    Calls Try.prog 29 #[.string s, .int .i64 n, .slice p cuts.length cap, .int .i64 code] w fun e w' => e = .returned (.bool (refB s n cuts code)) ∧ Below w.heap.size w w' := by
  have C := Lib.hid (MCut_any s hs n p cap cuts w hl hp)
  have hr : refB s n cuts code = (decide ((cutL s n cuts).length = 0) && decide (cutE s n cuts = code)) := rfl
  unfold CRet at C
  generalize cutL s n cuts = L at C hr
  generalize cutE s n cuts = E at C hr
  have HR := Lib.hid hr; clear hr hp
  go_enter Try.func29, Try.ntmps29
  go_wp2_with (fail)
  refine C.out.mono ?_
  rintro e w1 ⟨v, rfl, hrow, g1⟩
  obtain ⟨p', cap', rfl⟩ := hrow.slice
  clear hrow C
  by_cases h0 : L.length = 0
  · rw [h0] at HR ⊢
    go_wp2_with (fail)
    go_ret
    exact ⟨ret_b (by rw [HR.out]; by_cases h : E = code <;> simp [h]), (by repeat' (first | exact Below.refl _ _ | assumption | refine below_drewN ?_ _ | refine Below.drew ?_ | refine Below.alloc ?_ (by (first | exact Nat.le_refl _ | assumption | (simp; done) | omega | (simp; omega))) _ | refine Below.setCell ?_ (by (first | exact Nat.le_refl _ | assumption | (simp; done) | omega | (simp; omega))) _ | refine Below.trans ?_ (Below.mono (by assumption) (by (first | exact Nat.le_refl _ | assumption | (simp; done) | omega | (simp; omega))))))⟩
  · have hq : ((L.length : Int) == 0) = false := by simp [h0]
    go_wp2_with (fail)
    go_ret
    exact ⟨ret_b (by rw [HR.out, decide_eq_false h0]; rfl), (by repeat' (first | exact Below.refl _ _ | assumption | refine below_drewN ?_ _ | refine Below.drew ?_ | refine Below.alloc ?_ (by (first | exact Nat.le_refl _ | assumption | (simp; done) | omega | (simp; omega))) _ | refine Below.setCell ?_ (by (first | exact Nat.le_refl _ | assumption | (simp; done) | omega | (simp; omega))) _ | refine Below.trans ?_ (Below.mono (by assumption) (by (first | exact Nat.le_refl _ | assumption | (simp; done) | omega | (simp; omega))))))⟩

/-- joins. -/
def joinB (m : Mg) (p : Pc) (r : Mg) (f : ByteArray) : Bool := decide ((join m p).1 = r) && (decide ((join m p).2.1 = f) && decide ((join m p).2.2 = 0))
theorem joins_any (m : Mg) (p : Pc) (r : Mg) (f : ByteArray) (hm : m.data.size ≤ 9000000000000000000) (hp : p.data.size ≤ 9000000000000000000) (w : World) :
    Calls Try.prog 30 #[.agg #[.bool m.on, .int .i64 m.number, .int .i64 m.next, .string m.data], .agg #[.bool p.start, .int .i64 p.number, .int .i64 p.count, .string p.data], .agg #[.bool r.on, .int .i64 r.number, .int .i64 r.next, .string r.data], .string f] w fun e w' => e = .returned (.bool (joinB m p r f)) ∧ Below w.heap.size w w' := by
  have C := Lib.hid (MJoin_any m p hm hp)
  have hr : joinB m p r f = (decide ((join m p).1 = r) && (decide ((join m p).2.1 = f) && decide ((join m p).2.2 = 0))) := rfl
  unfold JRet at C
  generalize (join m p).1 = J at C hr
  generalize (join m p).2.1 = F at C hr
  generalize (join m p).2.2 = E at C hr
  have tc := fun i => three_cells w #[.bool m.on, .int .i64 m.number, .int .i64 m.next, .string m.data] #[.bool p.start, .int .i64 p.number, .int .i64 p.count, .string p.data] #[.bool r.on, .int .i64 r.number, .int .i64 r.next, .string r.data] 43 45 43 i
  have HT := Lib.hid tc; clear tc
  have hq := fun W => eql_mg J r W
  generalize decide (J = r) = q at hr hq
  have HR := Lib.hid hr; clear hr
  go_enter Try.func30, Try.ntmps30
  go_wp2_with (fail)
  refine (C.out _).mono ?_
  rintro e w1 ⟨rfl, g1⟩
  have c0 : (w1.alloc (.cells #[.bool J.on, .int .i64 J.number, .int .i64 J.next, .string J.data] 43)).cell? ⟨w.heap.size + 1 + 1, 0, none⟩ = some (.bool r.on) := (World.cell?_alloc_past _ _ _ (by have := g1.size; simp at this ⊢; omega)).trans ((g1.cell (p := ⟨w.heap.size + 1 + 1, 0, none⟩) (by simp)).trans (HT.out 0).2.2.1)
  have c1 : (w1.alloc (.cells #[.bool J.on, .int .i64 J.number, .int .i64 J.next, .string J.data] 43)).cell? ⟨w.heap.size + 1 + 1, 1, none⟩ = some (.int .i64 r.number) := (World.cell?_alloc_past _ _ _ (by have := g1.size; simp at this ⊢; omega)).trans ((g1.cell (p := ⟨w.heap.size + 1 + 1, 1, none⟩) (by simp)).trans (HT.out 1).2.2.1)
  have c2 : (w1.alloc (.cells #[.bool J.on, .int .i64 J.number, .int .i64 J.next, .string J.data] 43)).cell? ⟨w.heap.size + 1 + 1, 2, none⟩ = some (.int .i64 r.next) := (World.cell?_alloc_past _ _ _ (by have := g1.size; simp at this ⊢; omega)).trans ((g1.cell (p := ⟨w.heap.size + 1 + 1, 2, none⟩) (by simp)).trans (HT.out 2).2.2.1)
  have c3 : (w1.alloc (.cells #[.bool J.on, .int .i64 J.number, .int .i64 J.next, .string J.data] 43)).cell? ⟨w.heap.size + 1 + 1, 3, none⟩ = some (.string r.data) := (World.cell?_alloc_past _ _ _ (by have := g1.size; simp at this ⊢; omega)).trans ((g1.cell (p := ⟨w.heap.size + 1 + 1, 3, none⟩) (by simp)).trans (HT.out 3).2.2.1)
  have hb1 : Below w.heap.size w w1 := (by repeat' (first | exact Below.refl _ _ | assumption | refine below_drewN ?_ _ | refine Below.drew ?_ | refine Below.alloc ?_ (by (first | exact Nat.le_refl _ | assumption | (simp; done) | omega | (simp; omega))) _ | refine Below.setCell ?_ (by (first | exact Nat.le_refl _ | assumption | (simp; done) | omega | (simp; omega))) _ | refine Below.trans ?_ (Below.mono (by assumption) (by (first | exact Nat.le_refl _ | assumption | (simp; done) | omega | (simp; omega))))))
  have hbz := hb1.size
  clear g1
  rcases q with _ | _
  · go_wp2_with (fail)
    go_ret
    exact ⟨ret_b (by rw [HR.out]; rfl), (by repeat' (first | exact Below.refl _ _ | assumption | refine below_drewN ?_ _ | refine Below.drew ?_ | refine Below.alloc ?_ (by (first | exact Nat.le_refl _ | assumption | (simp; done) | omega | (simp; omega))) _ | refine Below.setCell ?_ (by (first | exact Nat.le_refl _ | assumption | (simp; done) | omega | (simp; omega))) _ | refine Below.trans ?_ (Below.mono (by assumption) (by (first | exact Nat.le_refl _ | assumption | (simp; done) | omega | (simp; omega))))))⟩
  · by_cases hf : F = f
    · subst hf
      go_wp2_with (fail)
      go_ret
      exact ⟨ret_b (by rw [HR.out]; simp; rfl), (by repeat' (first | exact Below.refl _ _ | assumption | refine below_drewN ?_ _ | refine Below.drew ?_ | refine Below.alloc ?_ (by (first | exact Nat.le_refl _ | assumption | (simp; done) | omega | (simp; omega))) _ | refine Below.setCell ?_ (by (first | exact Nat.le_refl _ | assumption | (simp; done) | omega | (simp; omega))) _ | refine Below.trans ?_ (Below.mono (by assumption) (by (first | exact Nat.le_refl _ | assumption | (simp; done) | omega | (simp; omega))))))⟩
    · have hf' := ba_ne hf
      go_wp2_with (fail)
      go_ret
      exact ⟨ret_b (by rw [HR.out, decide_eq_false hf]; rfl), (by repeat' (first | exact Below.refl _ _ | assumption | refine below_drewN ?_ _ | refine Below.drew ?_ | refine Below.alloc ?_ (by (first | exact Nat.le_refl _ | assumption | (simp; done) | omega | (simp; omega))) _ | refine Below.setCell ?_ (by (first | exact Nat.le_refl _ | assumption | (simp; done) | omega | (simp; omega))) _ | refine Below.trans ?_ (Below.mono (by assumption) (by (first | exact Nat.le_refl _ | assumption | (simp; done) | omega | (simp; omega))))))⟩
end Go.Proofs.Ytppdfnghojcppaa
