/-
  Contracts of chapter 8: CheckPiece, the reference's two checks, whole frames, the two checks of cuts.
-/
import Derived.Test.YtppdfnghojcppaaMerge1
import Derived.Test.YtppdfnghojcppaaCrcR
namespace Go.Proofs.Ytppdfnghojcppaa
open Go.RowKit
set_option linter.unusedVariables false

set_option maxHeartbeats 1000000 in
theorem CheckPiece_any (p : Pc) (hs : p.data.size ≤ 9000000000000000000) (w : World) : Calls Try.prog 24 #[.agg #[.bool p.start, .int .i64 p.number, .int .i64 p.count, .string p.data]] w fun e w' => e = .returned (.int .i64 p.code) ∧ Below w.heap.size w w' := by
  have hr : p.ok = (cnt p.number && cnt p.count && lng p.data 64 1522 && !(p.start && decide (p.count ≠ 0))) := rfl
  have HR := Lib.hid hr; clear hr
  have C0 := Lib.hid (counted_any p.number)
  have C1 := Lib.hid (counted_any p.count)
  have C2 := Lib.hid (long_any p.data 64 1522 hs)
  generalize cnt p.number = q0 at C0 HR
  generalize cnt p.count = q1 at C1 HR
  generalize lng p.data 64 1522 = q2 at C2 HR
  cases q0
  · go_enter Try.func24, Try.ntmps24
    go_wp2_with (fail)
    refine (C0.out _).mono ?_
    rintro e w1 ⟨rfl, rfl⟩
    go_wp2_with (fail)
    go_ret
    exact ⟨ret_i (by rw [Pc.code, HR.out]; rfl), (by repeat' (first | exact Below.refl _ _ | assumption | refine below_drewN ?_ _ | refine Below.drew ?_ | refine Below.alloc ?_ (by (first | exact Nat.le_refl _ | assumption | (simp; done) | omega | (simp; omega))) _ | refine Below.setCell ?_ (by (first | exact Nat.le_refl _ | assumption | (simp; done) | omega | (simp; omega))) _ | refine Below.trans ?_ (Below.mono (by assumption) (by (first | exact Nat.le_refl _ | assumption | (simp; done) | omega | (simp; omega))))))⟩
  cases q1
  · go_enter Try.func24, Try.ntmps24
    go_wp2_with (fail)
    refine (C0.out _).mono ?_
    rintro e w1 ⟨rfl, rfl⟩
    go_wp2_with (fail)
    refine (C1.out _).mono ?_
    rintro e w1 ⟨rfl, rfl⟩
    go_wp2_with (fail)
    go_ret
    exact ⟨ret_i (by rw [Pc.code, HR.out]; rfl), (by repeat' (first | exact Below.refl _ _ | assumption | refine below_drewN ?_ _ | refine Below.drew ?_ | refine Below.alloc ?_ (by (first | exact Nat.le_refl _ | assumption | (simp; done) | omega | (simp; omega))) _ | refine Below.setCell ?_ (by (first | exact Nat.le_refl _ | assumption | (simp; done) | omega | (simp; omega))) _ | refine Below.trans ?_ (Below.mono (by assumption) (by (first | exact Nat.le_refl _ | assumption | (simp; done) | omega | (simp; omega))))))⟩
  cases q2
  · go_enter Try.func24, Try.ntmps24
    go_wp2_with (fail)
    refine (C0.out _).mono ?_
    rintro e w1 ⟨rfl, rfl⟩
    go_wp2_with (fail)
    refine (C1.out _).mono ?_
    rintro e w1 ⟨rfl, rfl⟩
    go_wp2_with (fail)
    refine (C2.out _).mono ?_
    rintro e w1 ⟨rfl, rfl⟩
    go_wp2_with (fail)
    go_ret
    exact ⟨ret_i (by rw [Pc.code, HR.out]; rfl), (by repeat' (first | exact Below.refl _ _ | assumption | refine below_drewN ?_ _ | refine Below.drew ?_ | refine Below.alloc ?_ (by (first | exact Nat.le_refl _ | assumption | (simp; done) | omega | (simp; omega))) _ | refine Below.setCell ?_ (by (first | exact Nat.le_refl _ | assumption | (simp; done) | omega | (simp; omega))) _ | refine Below.trans ?_ (Below.mono (by assumption) (by (first | exact Nat.le_refl _ | assumption | (simp; done) | omega | (simp; omega))))))⟩
  rcases hst : p.start with _ | _
  · go_enter Try.func24, Try.ntmps24
    go_wp2_with (fail)
    refine (C0.out _).mono ?_
    rintro e w1 ⟨rfl, rfl⟩
    go_wp2_with (fail)
    refine (C1.out _).mono ?_
    rintro e w1 ⟨rfl, rfl⟩
    go_wp2_with (fail)
    refine (C2.out _).mono ?_
    rintro e w1 ⟨rfl, rfl⟩
    go_wp2_with (fail)
    go_ret
    exact ⟨ret_i (by rw [Pc.code, HR.out, hst]; rfl), (by repeat' (first | exact Below.refl _ _ | assumption | refine below_drewN ?_ _ | refine Below.drew ?_ | refine Below.alloc ?_ (by (first | exact Nat.le_refl _ | assumption | (simp; done) | omega | (simp; omega))) _ | refine Below.setCell ?_ (by (first | exact Nat.le_refl _ | assumption | (simp; done) | omega | (simp; omega))) _ | refine Below.trans ?_ (Below.mono (by assumption) (by (first | exact Nat.le_refl _ | assumption | (simp; done) | omega | (simp; omega))))))⟩
  by_cases h5 : p.count = 0
  · have hb : (p.count != 0) = false := by simp [h5]
    have hd : decide (p.count ≠ 0) = false := by simp [h5]
    rw [hst, hd] at HR
    clear hd
    rw [h5] at C1
    go_enter Try.func24, Try.ntmps24
    go_wp2_with (fail)
    refine (C0.out _).mono ?_
    rintro e w1 ⟨rfl, rfl⟩
    go_wp2_with (fail)
    refine (C1.out _).mono ?_
    rintro e w1 ⟨rfl, rfl⟩
    go_wp2_with (fail)
    refine (C2.out _).mono ?_
    rintro e w1 ⟨rfl, rfl⟩
    go_wp2_with (fail)
    go_ret
    exact ⟨ret_i (by rw [Pc.code, HR.out]; rfl), (by repeat' (first | exact Below.refl _ _ | assumption | refine below_drewN ?_ _ | refine Below.drew ?_ | refine Below.alloc ?_ (by (first | exact Nat.le_refl _ | assumption | (simp; done) | omega | (simp; omega))) _ | refine Below.setCell ?_ (by (first | exact Nat.le_refl _ | assumption | (simp; done) | omega | (simp; omega))) _ | refine Below.trans ?_ (Below.mono (by assumption) (by (first | exact Nat.le_refl _ | assumption | (simp; done) | omega | (simp; omega))))))⟩
  · have hb : (p.count != 0) = true := by simp [h5]
    have hd : decide (p.count ≠ 0) = true := by simp [h5]
    rw [hst, hd] at HR
    clear hd
    skip
    go_enter Try.func24, Try.ntmps24
    go_wp2_with (fail)
    refine (C0.out _).mono ?_
    rintro e w1 ⟨rfl, rfl⟩
    go_wp2_with (fail)
    refine (C1.out _).mono ?_
    rintro e w1 ⟨rfl, rfl⟩
    go_wp2_with (fail)
    refine (C2.out _).mono ?_
    rintro e w1 ⟨rfl, rfl⟩
    go_wp2_with (fail)
    go_ret
    exact ⟨ret_i (by rw [Pc.code, HR.out]; rfl), (by repeat' (first | exact Below.refl _ _ | assumption | refine below_drewN ?_ _ | refine Below.drew ?_ | refine Below.alloc ?_ (by (first | exact Nat.le_refl _ | assumption | (simp; done) | omega | (simp; omega))) _ | refine Below.setCell ?_ (by (first | exact Nat.le_refl _ | assumption | (simp; done) | omega | (simp; omega))) _ | refine Below.trans ?_ (Below.mono (by assumption) (by (first | exact Nat.le_refl _ | assumption | (simp; done) | omega | (simp; omega))))))⟩

theorem RCheck_any (m : Mg) (hs : m.data.size ≤ 9000000000000000000) (w : World) : Calls Try.prog 23 #[.agg #[.bool m.on, .int .i64 m.number, .int .i64 m.next, .string m.data]] w fun e w' => e = .returned (.int .i64 m.code) ∧ Below w.heap.size w w' := by
  have C0 := Lib.hid (Right_any m hs)
  have HR : Hid (m.code = if m.ok then 0 else 182) := Lib.hid rfl
  generalize m.ok = q at C0 HR
  cases q
  · go_enter Try.func23, Try.ntmps23
    go_wp2_with (fail)
    refine (C0.out _).mono ?_
    rintro e w1 ⟨rfl, g1⟩
    go_wp2_with (fail)
    go_ret
    exact ⟨ret_i (by rw [HR.out]; rfl), Below.trans (Below.alloc (Below.refl _ _) (Nat.le_refl _) _) (Below.mono g1 (by simp))⟩
  · go_enter Try.func23, Try.ntmps23
    go_wp2_with (fail)
    refine (C0.out _).mono ?_
    rintro e w1 ⟨rfl, g1⟩
    go_wp2_with (fail)
    go_ret
    exact ⟨ret_i (by rw [HR.out]; rfl), Below.trans (Below.alloc (Below.refl _ _) (Nat.le_refl _) _) (Below.mono g1 (by simp))⟩
theorem RCheckPiece_any (p : Pc) (hs : p.data.size ≤ 9000000000000000000) (w : World) : Calls Try.prog 25 #[.agg #[.bool p.start, .int .i64 p.number, .int .i64 p.count, .string p.data]] w fun e w' => e = .returned (.int .i64 p.code) ∧ Below w.heap.size w w' := by
  have C0 := Lib.hid (RightPiece_any p hs)
  have HR : Hid (p.code = if p.ok then 0 else 181) := Lib.hid rfl
  generalize p.ok = q at C0 HR
  cases q
  · go_enter Try.func25, Try.ntmps25
    go_wp2_with (fail)
    refine (C0.out _).mono ?_
    rintro e w1 ⟨rfl, g1⟩
    go_wp2_with (fail)
    go_ret
    exact ⟨ret_i (by rw [HR.out]; rfl), Below.trans (Below.alloc (Below.refl _ _) (Nat.le_refl _) _) (Below.mono g1 (by simp))⟩
  · go_enter Try.func25, Try.ntmps25
    go_wp2_with (fail)
    refine (C0.out _).mono ?_
    rintro e w1 ⟨rfl, g1⟩
    go_wp2_with (fail)
    go_ret
    exact ⟨ret_i (by rw [HR.out]; rfl), Below.trans (Below.alloc (Below.refl _ _) (Nat.le_refl _) _) (Below.mono g1 (by simp))⟩
end Go.Proofs.Ytppdfnghojcppaa
