/-
  Contracts of chapter 8: the checks of states and pieces.
-/
import Derived.Test.YtppdfnghojcppaaMergeMath
import Derived.Laws.StructEq
namespace Go.Proofs.Ytppdfnghojcppaa
open Go.RowKit
set_option linter.unusedVariables false

theorem ret_i {k : IntKind} {a b : Int} (h : a = b) : Ending.returned (.int k a) = .returned (.int k b) := by rw [h]
theorem ret_b {a b : Bool} (h : a = b) : Ending.returned (.bool a) = .returned (.bool b) := by rw [h]

/-- Two states compared. -/
theorem beq_str (a b : ByteArray) : (a.toList == b.toList) = decide (a = b) := by
  rw [Bool.eq_iff_iff, beq_iff_eq, decide_eq_true_iff]
  exact ⟨ba_eq, fun h => by rw [h]⟩
theorem mg_eq (a b : Mg) : decide (a = b) = (decide (a.on = b.on) && (decide (a.number = b.number) && (decide (a.next = b.next) && decide (a.data = b.data)))) := by
  cases a; cases b
  simp only [Mg.mk.injEq, Bool.decide_and]
theorem pc_eq (a b : Pc) : decide (a = b) = (decide (a.start = b.start) && (decide (a.number = b.number) && (decide (a.count = b.count) && decide (a.data = b.data)))) := by
  cases a; cases b
  simp only [Pc.mk.injEq, Bool.decide_and]
theorem eql_mg (a b : Mg) (w : World) : (binOp .eql 43 (.agg #[.bool a.on, .int .i64 a.number, .int .i64 a.next, .string a.data]) (.agg #[.bool b.on, .int .i64 b.number, .int .i64 b.next, .string b.data])).run Try.prog w = .ok (.bool (decide (a = b))) w := by
  rw [mg_eq]
  cases h1 : decide (a.on = b.on) <;> cases h2 : decide (a.number = b.number) <;> cases h3 : decide (a.next = b.next) <;> cases h4 : decide (a.data = b.data) <;>
    (simp only [decide_eq_true_eq, decide_eq_false_iff_not] at h1 h2 h3 h4; simp [go_sem, beq_str, *])
theorem neq_mg (a b : Mg) (w : World) : (binOp .neq 43 (.agg #[.bool a.on, .int .i64 a.number, .int .i64 a.next, .string a.data]) (.agg #[.bool b.on, .int .i64 b.number, .int .i64 b.next, .string b.data])).run Try.prog w = .ok (.bool (!decide (a = b))) w := by
  rw [mg_eq]
  cases h1 : decide (a.on = b.on) <;> cases h2 : decide (a.number = b.number) <;> cases h3 : decide (a.next = b.next) <;> cases h4 : decide (a.data = b.data) <;>
    (simp only [decide_eq_true_eq, decide_eq_false_iff_not] at h1 h2 h3 h4; simp [go_sem, beq_str, *])
theorem eql_pc (a b : Pc) (w : World) : (binOp .eql 45 (.agg #[.bool a.start, .int .i64 a.number, .int .i64 a.count, .string a.data]) (.agg #[.bool b.start, .int .i64 b.number, .int .i64 b.count, .string b.data])).run Try.prog w = .ok (.bool (decide (a = b))) w := by
  rw [pc_eq]
  cases h1 : decide (a.start = b.start) <;> cases h2 : decide (a.number = b.number) <;> cases h3 : decide (a.count = b.count) <;> cases h4 : decide (a.data = b.data) <;>
    (simp only [decide_eq_true_eq, decide_eq_false_iff_not] at h1 h2 h3 h4; simp [go_sem, beq_str, *])
theorem neq_pc (a b : Pc) (w : World) : (binOp .neq 45 (.agg #[.bool a.start, .int .i64 a.number, .int .i64 a.count, .string a.data]) (.agg #[.bool b.start, .int .i64 b.number, .int .i64 b.count, .string b.data])).run Try.prog w = .ok (.bool (!decide (a = b))) w := by
  rw [pc_eq]
  cases h1 : decide (a.start = b.start) <;> cases h2 : decide (a.number = b.number) <;> cases h3 : decide (a.count = b.count) <;> cases h4 : decide (a.data = b.data) <;>
    (simp only [decide_eq_true_eq, decide_eq_false_iff_not] at h1 h2 h3 h4; simp [go_sem, beq_str, *])

theorem counted_any (n : Int) (w : World) : Calls Try.prog 37 #[.int .i64 n] w fun e w' => e = .returned (.bool (cnt n)) ∧ w = w' := by
  by_cases h0 : 0 ≤ n
  · by_cases h1 : n < 4
    · have hc : cnt n = true := (cnt_iff n).2 ⟨h0, by omega⟩
      go_enter Try.func37, Try.ntmps37
      go_wp2_with (fail)
      go_ret
      exact ⟨by first | rfl | (rw [hc]; rfl), rfl⟩
    · have hc : cnt n = false := decide_eq_false (by omega)
      go_enter Try.func37, Try.ntmps37
      go_wp2_with (fail)
      go_ret
      exact ⟨by first | rfl | (rw [hc]; rfl), rfl⟩
  · have hc : cnt n = false := decide_eq_false (by omega)
    go_enter Try.func37, Try.ntmps37
    go_wp2_with (fail)
    go_ret
    exact ⟨by first | rfl | (rw [hc]; rfl), rfl⟩
theorem long_any (s : ByteArray) (a b : Int) (hs : s.size ≤ 9000000000000000000) (w : World) : Calls Try.prog 36 #[.string s, .int .i64 a, .int .i64 b] w fun e w' => e = .returned (.bool (lng s a b)) ∧ w = w' := by
  by_cases h0 : a ≤ (s.size : Int)
  · by_cases h1 : (s.size : Int) ≤ b
    · have hc : lng s a b = true := (lng_iff s a b).2 ⟨h0, h1⟩
      go_enter Try.func36, Try.ntmps36
      go_wp2_with (fail)
      go_ret
      exact ⟨by first | rfl | (rw [hc]; rfl), rfl⟩
    · have hc : lng s a b = false := decide_eq_false (by omega)
      go_enter Try.func36, Try.ntmps36
      go_wp2_with (fail)
      go_ret
      exact ⟨by first | rfl | (rw [hc]; rfl), rfl⟩
  · have hc : lng s a b = false := decide_eq_false (by omega)
    go_enter Try.func36, Try.ntmps36
    go_wp2_with (fail)
    go_ret
    exact ⟨by first | rfl | (rw [hc]; rfl), rfl⟩

/-- The checks of a state. -/
theorem Right_any (m : Mg) (hs : m.data.size ≤ 9000000000000000000) (w : World) : Calls Try.prog 47 #[.agg #[.bool m.on, .int .i64 m.number, .int .i64 m.next, .string m.data]] w fun e w' => e = .returned (.bool m.ok) ∧ Below w.heap.size w w' := by
  rcases hon : m.on with _ | _
  · have hq := fun W => eql_mg m Mg.zero W
    have hr : m.ok = decide (m = Mg.zero) := by unfold Mg.ok; rw [if_neg (by simp [hon])]
    unfold Mg.zero at hq hr
    rw [hon] at hq
    have HR := Lib.hid hr; clear hr
    generalize decide (m = _) = q at hq HR
    go_enter Try.func47, Try.ntmps47
    go_wp2_with (fail)
    go_ret
    exact ⟨ret_b HR.out.symm, (by repeat' (first | exact Below.refl _ _ | assumption | refine below_drewN ?_ _ | refine Below.drew ?_ | refine Below.alloc ?_ (by (first | exact Nat.le_refl _ | assumption | (simp; done) | omega | (simp; omega))) _ | refine Below.setCell ?_ (by (first | exact Nat.le_refl _ | assumption | (simp; done) | omega | (simp; omega))) _ | refine Below.trans ?_ (Below.mono (by assumption) (by (first | exact Nat.le_refl _ | assumption | (simp; done) | omega | (simp; omega))))))⟩
  · have hr : m.ok = (cnt m.number && cnt m.next && lng m.data 60 1518) := by unfold Mg.ok; rw [if_pos hon]
    rw [Bool.eq_iff_iff, Bool.and_eq_true, Bool.and_eq_true, cnt_iff, cnt_iff, lng_iff] at hr
    have HR := Lib.hid hr; clear hr
    by_cases h0 : 0 ≤ m.number
    case neg =>
      go_enter Try.func47, Try.ntmps47
      go_wp2_with (fail)
      go_ret
      exact ⟨ret_b (by have := HR.out; rw [Bool.eq_iff_iff, this]; constructor <;> intro h <;> (try cases h) <;> omega), (by repeat' (first | exact Below.refl _ _ | assumption | refine below_drewN ?_ _ | refine Below.drew ?_ | refine Below.alloc ?_ (by (first | exact Nat.le_refl _ | assumption | (simp; done) | omega | (simp; omega))) _ | refine Below.setCell ?_ (by (first | exact Nat.le_refl _ | assumption | (simp; done) | omega | (simp; omega))) _ | refine Below.trans ?_ (Below.mono (by assumption) (by (first | exact Nat.le_refl _ | assumption | (simp; done) | omega | (simp; omega))))))⟩
    by_cases h1 : m.number ≤ 3
    case neg =>
      go_enter Try.func47, Try.ntmps47
      go_wp2_with (fail)
      go_ret
      exact ⟨ret_b (by have := HR.out; rw [Bool.eq_iff_iff, this]; constructor <;> intro h <;> (try cases h) <;> omega), (by repeat' (first | exact Below.refl _ _ | assumption | refine below_drewN ?_ _ | refine Below.drew ?_ | refine Below.alloc ?_ (by (first | exact Nat.le_refl _ | assumption | (simp; done) | omega | (simp; omega))) _ | refine Below.setCell ?_ (by (first | exact Nat.le_refl _ | assumption | (simp; done) | omega | (simp; omega))) _ | refine Below.trans ?_ (Below.mono (by assumption) (by (first | exact Nat.le_refl _ | assumption | (simp; done) | omega | (simp; omega))))))⟩
    by_cases h2 : 0 ≤ m.next
    case neg =>
      go_enter Try.func47, Try.ntmps47
      go_wp2_with (fail)
      go_ret
      exact ⟨ret_b (by have := HR.out; rw [Bool.eq_iff_iff, this]; constructor <;> intro h <;> (try cases h) <;> omega), (by repeat' (first | exact Below.refl _ _ | assumption | refine below_drewN ?_ _ | refine Below.drew ?_ | refine Below.alloc ?_ (by (first | exact Nat.le_refl _ | assumption | (simp; done) | omega | (simp; omega))) _ | refine Below.setCell ?_ (by (first | exact Nat.le_refl _ | assumption | (simp; done) | omega | (simp; omega))) _ | refine Below.trans ?_ (Below.mono (by assumption) (by (first | exact Nat.le_refl _ | assumption | (simp; done) | omega | (simp; omega))))))⟩
    by_cases h3 : m.next ≤ 3
    case neg =>
      go_enter Try.func47, Try.ntmps47
      go_wp2_with (fail)
      go_ret
      exact ⟨ret_b (by have := HR.out; rw [Bool.eq_iff_iff, this]; constructor <;> intro h <;> (try cases h) <;> omega), (by repeat' (first | exact Below.refl _ _ | assumption | refine below_drewN ?_ _ | refine Below.drew ?_ | refine Below.alloc ?_ (by (first | exact Nat.le_refl _ | assumption | (simp; done) | omega | (simp; omega))) _ | refine Below.setCell ?_ (by (first | exact Nat.le_refl _ | assumption | (simp; done) | omega | (simp; omega))) _ | refine Below.trans ?_ (Below.mono (by assumption) (by (first | exact Nat.le_refl _ | assumption | (simp; done) | omega | (simp; omega))))))⟩
    by_cases h4 : 60 ≤ m.data.size
    case neg =>
      go_enter Try.func47, Try.ntmps47
      go_wp2_with (fail)
      go_ret
      exact ⟨ret_b (by have := HR.out; rw [Bool.eq_iff_iff, this]; constructor <;> intro h <;> (try cases h) <;> omega), (by repeat' (first | exact Below.refl _ _ | assumption | refine below_drewN ?_ _ | refine Below.drew ?_ | refine Below.alloc ?_ (by (first | exact Nat.le_refl _ | assumption | (simp; done) | omega | (simp; omega))) _ | refine Below.setCell ?_ (by (first | exact Nat.le_refl _ | assumption | (simp; done) | omega | (simp; omega))) _ | refine Below.trans ?_ (Below.mono (by assumption) (by (first | exact Nat.le_refl _ | assumption | (simp; done) | omega | (simp; omega))))))⟩
    go_enter Try.func47, Try.ntmps47
    go_wp2_with (fail)
    go_ret
    exact ⟨ret_b (by have := HR.out; rw [Bool.eq_iff_iff, this, decide_eq_true_iff]; omega), (by repeat' (first | exact Below.refl _ _ | assumption | refine below_drewN ?_ _ | refine Below.drew ?_ | refine Below.alloc ?_ (by (first | exact Nat.le_refl _ | assumption | (simp; done) | omega | (simp; omega))) _ | refine Below.setCell ?_ (by (first | exact Nat.le_refl _ | assumption | (simp; done) | omega | (simp; omega))) _ | refine Below.trans ?_ (Below.mono (by assumption) (by (first | exact Nat.le_refl _ | assumption | (simp; done) | omega | (simp; omega))))))⟩

/-- The check of a piece. -/
theorem RightPiece_any (p : Pc) (hs : p.data.size ≤ 9000000000000000000) (w : World) : Calls Try.prog 48 #[.agg #[.bool p.start, .int .i64 p.number, .int .i64 p.count, .string p.data]] w fun e w' => e = .returned (.bool p.ok) ∧ Below w.heap.size w w' := by
  have HR := Lib.hid (Pc.ok_iff p)
  by_cases h0 : p.number < 0
  case pos =>
    go_enter Try.func48, Try.ntmps48
    go_wp2_with (fail)
    go_ret
    exact ⟨ret_b (by have := HR.out; rw [Bool.eq_iff_iff, this]; constructor <;> intro h <;> (try cases h) <;> omega), (by repeat' (first | exact Below.refl _ _ | assumption | refine below_drewN ?_ _ | refine Below.drew ?_ | refine Below.alloc ?_ (by (first | exact Nat.le_refl _ | assumption | (simp; done) | omega | (simp; omega))) _ | refine Below.setCell ?_ (by (first | exact Nat.le_refl _ | assumption | (simp; done) | omega | (simp; omega))) _ | refine Below.trans ?_ (Below.mono (by assumption) (by (first | exact Nat.le_refl _ | assumption | (simp; done) | omega | (simp; omega))))))⟩
  by_cases h1 : 3 < p.number
  case pos =>
    go_enter Try.func48, Try.ntmps48
    go_wp2_with (fail)
    go_ret
    exact ⟨ret_b (by have := HR.out; rw [Bool.eq_iff_iff, this]; constructor <;> intro h <;> (try cases h) <;> omega), (by repeat' (first | exact Below.refl _ _ | assumption | refine below_drewN ?_ _ | refine Below.drew ?_ | refine Below.alloc ?_ (by (first | exact Nat.le_refl _ | assumption | (simp; done) | omega | (simp; omega))) _ | refine Below.setCell ?_ (by (first | exact Nat.le_refl _ | assumption | (simp; done) | omega | (simp; omega))) _ | refine Below.trans ?_ (Below.mono (by assumption) (by (first | exact Nat.le_refl _ | assumption | (simp; done) | omega | (simp; omega))))))⟩
  by_cases h2 : p.count < 0
  case pos =>
    go_enter Try.func48, Try.ntmps48
    go_wp2_with (fail)
    go_ret
    exact ⟨ret_b (by have := HR.out; rw [Bool.eq_iff_iff, this]; constructor <;> intro h <;> (try cases h) <;> omega), (by repeat' (first | exact Below.refl _ _ | assumption | refine below_drewN ?_ _ | refine Below.drew ?_ | refine Below.alloc ?_ (by (first | exact Nat.le_refl _ | assumption | (simp; done) | omega | (simp; omega))) _ | refine Below.setCell ?_ (by (first | exact Nat.le_refl _ | assumption | (simp; done) | omega | (simp; omega))) _ | refine Below.trans ?_ (Below.mono (by assumption) (by (first | exact Nat.le_refl _ | assumption | (simp; done) | omega | (simp; omega))))))⟩
  by_cases h3 : 3 < p.count
  case pos =>
    go_enter Try.func48, Try.ntmps48
    go_wp2_with (fail)
    go_ret
    exact ⟨ret_b (by have := HR.out; rw [Bool.eq_iff_iff, this]; constructor <;> intro h <;> (try cases h) <;> omega), (by repeat' (first | exact Below.refl _ _ | assumption | refine below_drewN ?_ _ | refine Below.drew ?_ | refine Below.alloc ?_ (by (first | exact Nat.le_refl _ | assumption | (simp; done) | omega | (simp; omega))) _ | refine Below.setCell ?_ (by (first | exact Nat.le_refl _ | assumption | (simp; done) | omega | (simp; omega))) _ | refine Below.trans ?_ (Below.mono (by assumption) (by (first | exact Nat.le_refl _ | assumption | (simp; done) | omega | (simp; omega))))))⟩
  rcases hst : p.start with _ | _
  · by_cases h4 : 64 ≤ p.data.size
    case neg =>
      go_enter Try.func48, Try.ntmps48
      go_wp2_with (fail)
      go_ret
      exact ⟨ret_b (by have := HR.out; rw [Bool.eq_iff_iff, this]; constructor <;> intro h <;> (try cases h) <;> omega), (by repeat' (first | exact Below.refl _ _ | assumption | refine below_drewN ?_ _ | refine Below.drew ?_ | refine Below.alloc ?_ (by (first | exact Nat.le_refl _ | assumption | (simp; done) | omega | (simp; omega))) _ | refine Below.setCell ?_ (by (first | exact Nat.le_refl _ | assumption | (simp; done) | omega | (simp; omega))) _ | refine Below.trans ?_ (Below.mono (by assumption) (by (first | exact Nat.le_refl _ | assumption | (simp; done) | omega | (simp; omega))))))⟩
    go_enter Try.func48, Try.ntmps48
    go_wp2_with (fail)
    go_ret
    exact ⟨ret_b (by have := HR.out; rw [Bool.eq_iff_iff, this, decide_eq_true_iff, hst]; simp; omega), (by repeat' (first | exact Below.refl _ _ | assumption | refine below_drewN ?_ _ | refine Below.drew ?_ | refine Below.alloc ?_ (by (first | exact Nat.le_refl _ | assumption | (simp; done) | omega | (simp; omega))) _ | refine Below.setCell ?_ (by (first | exact Nat.le_refl _ | assumption | (simp; done) | omega | (simp; omega))) _ | refine Below.trans ?_ (Below.mono (by assumption) (by (first | exact Nat.le_refl _ | assumption | (simp; done) | omega | (simp; omega))))))⟩
  · by_cases h5 : p.count = 0
    case neg =>
      have hb : (p.count != 0) = true := by simp [h5]
      go_enter Try.func48, Try.ntmps48
      go_wp2_with (fail)
      go_ret
      exact ⟨ret_b (by have := HR.out; rw [Bool.eq_iff_iff, this, hst]; constructor <;> intro h <;> (try cases h) <;> (exfalso; simp_all)), (by repeat' (first | exact Below.refl _ _ | assumption | refine below_drewN ?_ _ | refine Below.drew ?_ | refine Below.alloc ?_ (by (first | exact Nat.le_refl _ | assumption | (simp; done) | omega | (simp; omega))) _ | refine Below.setCell ?_ (by (first | exact Nat.le_refl _ | assumption | (simp; done) | omega | (simp; omega))) _ | refine Below.trans ?_ (Below.mono (by assumption) (by (first | exact Nat.le_refl _ | assumption | (simp; done) | omega | (simp; omega))))))⟩
    have hb : (p.count != 0) = false := by simp [h5]
    by_cases h4 : 64 ≤ p.data.size
    case neg =>
      go_enter Try.func48, Try.ntmps48
      go_wp2_with (fail)
      go_ret
      exact ⟨ret_b (by have := HR.out; rw [Bool.eq_iff_iff, this]; constructor <;> intro h <;> (try cases h) <;> omega), (by repeat' (first | exact Below.refl _ _ | assumption | refine below_drewN ?_ _ | refine Below.drew ?_ | refine Below.alloc ?_ (by (first | exact Nat.le_refl _ | assumption | (simp; done) | omega | (simp; omega))) _ | refine Below.setCell ?_ (by (first | exact Nat.le_refl _ | assumption | (simp; done) | omega | (simp; omega))) _ | refine Below.trans ?_ (Below.mono (by assumption) (by (first | exact Nat.le_refl _ | assumption | (simp; done) | omega | (simp; omega))))))⟩
    go_enter Try.func48, Try.ntmps48
    go_wp2_with (fail)
    go_ret
    exact ⟨ret_b (by have := HR.out; rw [Bool.eq_iff_iff, this, decide_eq_true_iff]; constructor <;> intro h <;> (first | omega | (refine ⟨⟨by omega, by omega⟩, ⟨by omega, by omega⟩, ?_, fun _ => h5⟩; omega))), (by repeat' (first | exact Below.refl _ _ | assumption | refine below_drewN ?_ _ | refine Below.drew ?_ | refine Below.alloc ?_ (by (first | exact Nat.le_refl _ | assumption | (simp; done) | omega | (simp; omega))) _ | refine Below.setCell ?_ (by (first | exact Nat.le_refl _ | assumption | (simp; done) | omega | (simp; omega))) _ | refine Below.trans ?_ (Below.mono (by assumption) (by (first | exact Nat.le_refl _ | assumption | (simp; done) | omega | (simp; omega))))))⟩

/-- merge.Check. -/
theorem cnt_false {n : Int} (h : cnt n = false) : ¬ (0 ≤ n ∧ n ≤ 3) := of_decide_eq_false h
def Mg.code (m : Mg) : Int := if m.ok then 0 else 182
def Pc.code (p : Pc) : Int := if p.ok then 0 else 181
theorem Check_any (m : Mg) (hs : m.data.size ≤ 9000000000000000000) (w : World) : Calls Try.prog 22 #[.agg #[.bool m.on, .int .i64 m.number, .int .i64 m.next, .string m.data]] w fun e w' => e = .returned (.int .i64 m.code) ∧ Below w.heap.size w w' := by
  rcases hon : m.on with _ | _
  · have hq := fun W => neq_mg m Mg.zero W
    have hr : m.ok = decide (m = Mg.zero) := by unfold Mg.ok; rw [if_neg (by simp [hon])]
    unfold Mg.zero at hq hr
    rw [hon] at hq
    have HR := Lib.hid hr; clear hr
    generalize decide (m = _) = q at hq HR
    cases q
    · go_enter Try.func22, Try.ntmps22
      go_wp2_with (fail)
      go_ret
      exact ⟨ret_i (by rw [Mg.code, HR.out]; rfl), (by repeat' (first | exact Below.refl _ _ | assumption | refine below_drewN ?_ _ | refine Below.drew ?_ | refine Below.alloc ?_ (by (first | exact Nat.le_refl _ | assumption | (simp; done) | omega | (simp; omega))) _ | refine Below.setCell ?_ (by (first | exact Nat.le_refl _ | assumption | (simp; done) | omega | (simp; omega))) _ | refine Below.trans ?_ (Below.mono (by assumption) (by (first | exact Nat.le_refl _ | assumption | (simp; done) | omega | (simp; omega))))))⟩
    · go_enter Try.func22, Try.ntmps22
      go_wp2_with (fail)
      go_ret
      exact ⟨ret_i (by rw [Mg.code, HR.out]; rfl), (by repeat' (first | exact Below.refl _ _ | assumption | refine below_drewN ?_ _ | refine Below.drew ?_ | refine Below.alloc ?_ (by (first | exact Nat.le_refl _ | assumption | (simp; done) | omega | (simp; omega))) _ | refine Below.setCell ?_ (by (first | exact Nat.le_refl _ | assumption | (simp; done) | omega | (simp; omega))) _ | refine Below.trans ?_ (Below.mono (by assumption) (by (first | exact Nat.le_refl _ | assumption | (simp; done) | omega | (simp; omega))))))⟩
  · have hr : m.ok = (cnt m.number && cnt m.next && lng m.data 60 1518) := by unfold Mg.ok; rw [if_pos hon]
    have HR := Lib.hid hr; clear hr
    have C0 := Lib.hid (counted_any m.number)
    have C1 := Lib.hid (counted_any m.next)
    have C2 := Lib.hid (long_any m.data 60 1518 hs)
    generalize cnt m.number = q0 at C0 HR
    generalize cnt m.next = q1 at C1 HR
    generalize lng m.data 60 1518 = q2 at C2 HR
    cases q0
    · go_enter Try.func22, Try.ntmps22
      go_wp2_with (fail)
      refine (C0.out _).mono ?_
      rintro e w1 ⟨rfl, rfl⟩
      go_wp2_with (fail)
      go_ret
      exact ⟨ret_i (by rw [Mg.code, HR.out]; rfl), (by repeat' (first | exact Below.refl _ _ | assumption | refine below_drewN ?_ _ | refine Below.drew ?_ | refine Below.alloc ?_ (by (first | exact Nat.le_refl _ | assumption | (simp; done) | omega | (simp; omega))) _ | refine Below.setCell ?_ (by (first | exact Nat.le_refl _ | assumption | (simp; done) | omega | (simp; omega))) _ | refine Below.trans ?_ (Below.mono (by assumption) (by (first | exact Nat.le_refl _ | assumption | (simp; done) | omega | (simp; omega))))))⟩
    cases q1
    · go_enter Try.func22, Try.ntmps22
      go_wp2_with (fail)
      refine (C0.out _).mono ?_
      rintro e w1 ⟨rfl, rfl⟩
      go_wp2_with (fail)
      refine (C1.out _).mono ?_
      rintro e w1 ⟨rfl, rfl⟩
      go_wp2_with (fail)
      go_ret
      exact ⟨ret_i (by rw [Mg.code, HR.out]; rfl), (by repeat' (first | exact Below.refl _ _ | assumption | refine below_drewN ?_ _ | refine Below.drew ?_ | refine Below.alloc ?_ (by (first | exact Nat.le_refl _ | assumption | (simp; done) | omega | (simp; omega))) _ | refine Below.setCell ?_ (by (first | exact Nat.le_refl _ | assumption | (simp; done) | omega | (simp; omega))) _ | refine Below.trans ?_ (Below.mono (by assumption) (by (first | exact Nat.le_refl _ | assumption | (simp; done) | omega | (simp; omega))))))⟩
    cases q2
    · go_enter Try.func22, Try.ntmps22
      go_wp2_with (fail)
      refine (C0.out _).mono ?_
      rintro e w1 ⟨rfl, rfl⟩
      go_wp2_with (fail)
      refine (C1.out _).mono ?_
      rintro e w1 ⟨rfl, rfl⟩
      go_wp2_with (fail)
      refine (C2.out _).mono ?_
      rintro e w1 ⟨rfl, rfl⟩
      go_wp2_with (fail)
      go_ret
      exact ⟨ret_i (by rw [Mg.code, HR.out]; rfl), (by repeat' (first | exact Below.refl _ _ | assumption | refine below_drewN ?_ _ | refine Below.drew ?_ | refine Below.alloc ?_ (by (first | exact Nat.le_refl _ | assumption | (simp; done) | omega | (simp; omega))) _ | refine Below.setCell ?_ (by (first | exact Nat.le_refl _ | assumption | (simp; done) | omega | (simp; omega))) _ | refine Below.trans ?_ (Below.mono (by assumption) (by (first | exact Nat.le_refl _ | assumption | (simp; done) | omega | (simp; omega))))))⟩
    · go_enter Try.func22, Try.ntmps22
      go_wp2_with (fail)
      refine (C0.out _).mono ?_
      rintro e w1 ⟨rfl, rfl⟩
      go_wp2_with (fail)
      refine (C1.out _).mono ?_
      rintro e w1 ⟨rfl, rfl⟩
      go_wp2_with (fail)
      refine (C2.out _).mono ?_
      rintro e w1 ⟨rfl, rfl⟩
      go_wp2_with (fail)
      go_ret
      exact ⟨ret_i (by rw [Mg.code, HR.out]; rfl), (by repeat' (first | exact Below.refl _ _ | assumption | refine below_drewN ?_ _ | refine Below.drew ?_ | refine Below.alloc ?_ (by (first | exact Nat.le_refl _ | assumption | (simp; done) | omega | (simp; omega))) _ | refine Below.setCell ?_ (by (first | exact Nat.le_refl _ | assumption | (simp; done) | omega | (simp; omega))) _ | refine Below.trans ?_ (Below.mono (by assumption) (by (first | exact Nat.le_refl _ | assumption | (simp; done) | omega | (simp; omega))))))⟩
end Go.Proofs.Ytppdfnghojcppaa
