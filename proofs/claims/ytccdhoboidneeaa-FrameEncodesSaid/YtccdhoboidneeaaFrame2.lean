/-
  Contracts of the reference's Right and Check. Written by gen_right.py.
-/
import Derived.Test.YtccdhoboidneeaaFrame1
namespace Go.Proofs.Ytccdhoboidneeaa
open Go.RowKit
set_option linter.unusedVariables false

def Fr.okP (dst src prio vid seq type : Int) (n : Nat) (p v q m : Int) : Prop := (0 ≤ dst ∧ dst ≤ 281474976710655) ∧ (0 ≤ src ∧ src ≤ 281474976710655) ∧ (0 ≤ prio ∧ prio ≤ p) ∧ (0 ≤ vid ∧ vid ≤ v) ∧
  (0 ≤ seq ∧ seq ≤ q) ∧ (type = 0 ∨ (1536 ≤ type ∧ type ≤ 65535)) ∧ type ≠ 33024 ∧ type ≠ 61889 ∧ (n : Int) ≤ m
set_option maxHeartbeats 8000000 in
theorem right1 (dst src prio vid seq type : Int) (data : ByteArray) (r : Bool) (hr : r = true ↔ Fr.okP dst src prio vid seq type data.size 0 0 0 1500) (hs : data.size ≤ 9000000000000000000) (w : World) :
    Calls Try.prog 38 #[.agg #[.int .i64 dst, .int .i64 src, .bool false, .int .i64 prio, .int .i64 vid, .bool false, .int .i64 seq, .int .i64 type, .string data]] w fun e w' => e = .returned (.bool r) ∧ Below w.heap.size w w' := by
  have HR := Lib.hid hr; clear hr
  rcases h1 : inB dst 281474976710655 with _ | _
  · have g1 : ¬ (0 ≤ dst ∧ dst ≤ 281474976710655) := of_decide_eq_false h1
    go_enter Try.func38, Try.ntmps38
    go_wp2_with (fail)
    refine (rin_of dst 281474976710655 _ h1 _).mono ?_
    rintro e w1 ⟨rfl, rfl⟩
    go_wp2_with (fail)
    go_ret
    refine ⟨ret_b ?_, (by repeat' (first | exact Below.refl _ _ | assumption | refine below_drewN ?_ _ | refine Below.drew ?_ | refine Below.alloc ?_ (by (first | exact Nat.le_refl _ | assumption | (simp; done) | omega | (simp; omega))) _ | refine Below.setCell ?_ (by (first | exact Nat.le_refl _ | assumption | (simp; done) | omega | (simp; omega))) _ | refine Below.trans ?_ (Below.mono (by assumption) (by (first | exact Nat.le_refl _ | assumption | (simp; done) | omega | (simp; omega))))))⟩
    have hr := HR.out
    unfold Fr.okP at hr
    (symm; rw [← Bool.not_eq_true, hr]; omega)
  have g1 : 0 ≤ dst ∧ dst ≤ 281474976710655 := of_decide_eq_true h1
  rcases h2 : inB src 281474976710655 with _ | _
  · have g2 : ¬ (0 ≤ src ∧ src ≤ 281474976710655) := of_decide_eq_false h2
    go_enter Try.func38, Try.ntmps38
    go_wp2_with (fail)
    refine (rin_of dst 281474976710655 _ h1 _).mono ?_
    rintro e w1 ⟨rfl, rfl⟩
    go_wp2_with (fail)
    refine (rin_of src 281474976710655 _ h2 _).mono ?_
    rintro e w1 ⟨rfl, rfl⟩
    go_wp2_with (fail)
    go_ret
    refine ⟨ret_b ?_, (by repeat' (first | exact Below.refl _ _ | assumption | refine below_drewN ?_ _ | refine Below.drew ?_ | refine Below.alloc ?_ (by (first | exact Nat.le_refl _ | assumption | (simp; done) | omega | (simp; omega))) _ | refine Below.setCell ?_ (by (first | exact Nat.le_refl _ | assumption | (simp; done) | omega | (simp; omega))) _ | refine Below.trans ?_ (Below.mono (by assumption) (by (first | exact Nat.le_refl _ | assumption | (simp; done) | omega | (simp; omega))))))⟩
    have hr := HR.out
    unfold Fr.okP at hr
    (symm; rw [← Bool.not_eq_true, hr]; omega)
  have g2 : 0 ≤ src ∧ src ≤ 281474976710655 := of_decide_eq_true h2
  rcases h3 : inB prio 7 with _ | _
  · have g3 : ¬ (0 ≤ prio ∧ prio ≤ 7) := of_decide_eq_false h3
    go_enter Try.func38, Try.ntmps38
    go_wp2_with (fail)
    refine (rin_of dst 281474976710655 _ h1 _).mono ?_
    rintro e w1 ⟨rfl, rfl⟩
    go_wp2_with (fail)
    refine (rin_of src 281474976710655 _ h2 _).mono ?_
    rintro e w1 ⟨rfl, rfl⟩
    go_wp2_with (fail)
    refine (rin_of prio 7 _ h3 _).mono ?_
    rintro e w1 ⟨rfl, rfl⟩
    go_wp2_with (fail)
    go_ret
    refine ⟨ret_b ?_, (by repeat' (first | exact Below.refl _ _ | assumption | refine below_drewN ?_ _ | refine Below.drew ?_ | refine Below.alloc ?_ (by (first | exact Nat.le_refl _ | assumption | (simp; done) | omega | (simp; omega))) _ | refine Below.setCell ?_ (by (first | exact Nat.le_refl _ | assumption | (simp; done) | omega | (simp; omega))) _ | refine Below.trans ?_ (Below.mono (by assumption) (by (first | exact Nat.le_refl _ | assumption | (simp; done) | omega | (simp; omega))))))⟩
    have hr := HR.out
    unfold Fr.okP at hr
    (symm; rw [← Bool.not_eq_true, hr]; omega)
  have g3 : 0 ≤ prio ∧ prio ≤ 7 := of_decide_eq_true h3
  rcases h4 : inB vid 4094 with _ | _
  · have g4 : ¬ (0 ≤ vid ∧ vid ≤ 4094) := of_decide_eq_false h4
    go_enter Try.func38, Try.ntmps38
    go_wp2_with (fail)
    refine (rin_of dst 281474976710655 _ h1 _).mono ?_
    rintro e w1 ⟨rfl, rfl⟩
    go_wp2_with (fail)
    refine (rin_of src 281474976710655 _ h2 _).mono ?_
    rintro e w1 ⟨rfl, rfl⟩
    go_wp2_with (fail)
    refine (rin_of prio 7 _ h3 _).mono ?_
    rintro e w1 ⟨rfl, rfl⟩
    go_wp2_with (fail)
    refine (rin_of vid 4094 _ h4 _).mono ?_
    rintro e w1 ⟨rfl, rfl⟩
    go_wp2_with (fail)
    go_ret
    refine ⟨ret_b ?_, (by repeat' (first | exact Below.refl _ _ | assumption | refine below_drewN ?_ _ | refine Below.drew ?_ | refine Below.alloc ?_ (by (first | exact Nat.le_refl _ | assumption | (simp; done) | omega | (simp; omega))) _ | refine Below.setCell ?_ (by (first | exact Nat.le_refl _ | assumption | (simp; done) | omega | (simp; omega))) _ | refine Below.trans ?_ (Below.mono (by assumption) (by (first | exact Nat.le_refl _ | assumption | (simp; done) | omega | (simp; omega))))))⟩
    have hr := HR.out
    unfold Fr.okP at hr
    (symm; rw [← Bool.not_eq_true, hr]; omega)
  have g4 : 0 ≤ vid ∧ vid ≤ 4094 := of_decide_eq_true h4
  rcases h5 : inB seq 65535 with _ | _
  · have g5 : ¬ (0 ≤ seq ∧ seq ≤ 65535) := of_decide_eq_false h5
    go_enter Try.func38, Try.ntmps38
    go_wp2_with (fail)
    refine (rin_of dst 281474976710655 _ h1 _).mono ?_
    rintro e w1 ⟨rfl, rfl⟩
    go_wp2_with (fail)
    refine (rin_of src 281474976710655 _ h2 _).mono ?_
    rintro e w1 ⟨rfl, rfl⟩
    go_wp2_with (fail)
    refine (rin_of prio 7 _ h3 _).mono ?_
    rintro e w1 ⟨rfl, rfl⟩
    go_wp2_with (fail)
    refine (rin_of vid 4094 _ h4 _).mono ?_
    rintro e w1 ⟨rfl, rfl⟩
    go_wp2_with (fail)
    refine (rin_of seq 65535 _ h5 _).mono ?_
    rintro e w1 ⟨rfl, rfl⟩
    go_wp2_with (fail)
    go_ret
    refine ⟨ret_b ?_, (by repeat' (first | exact Below.refl _ _ | assumption | refine below_drewN ?_ _ | refine Below.drew ?_ | refine Below.alloc ?_ (by (first | exact Nat.le_refl _ | assumption | (simp; done) | omega | (simp; omega))) _ | refine Below.setCell ?_ (by (first | exact Nat.le_refl _ | assumption | (simp; done) | omega | (simp; omega))) _ | refine Below.trans ?_ (Below.mono (by assumption) (by (first | exact Nat.le_refl _ | assumption | (simp; done) | omega | (simp; omega))))))⟩
    have hr := HR.out
    unfold Fr.okP at hr
    (symm; rw [← Bool.not_eq_true, hr]; omega)
  have g5 : 0 ≤ seq ∧ seq ≤ 65535 := of_decide_eq_true h5
  by_cases zprio : prio = 0
  rotate_left
  · go_enter Try.func38, Try.ntmps38
    go_wp2_with (fail)
    refine (rin_of dst 281474976710655 _ h1 _).mono ?_
    rintro e w1 ⟨rfl, rfl⟩
    go_wp2_with (fail)
    refine (rin_of src 281474976710655 _ h2 _).mono ?_
    rintro e w1 ⟨rfl, rfl⟩
    go_wp2_with (fail)
    refine (rin_of prio 7 _ h3 _).mono ?_
    rintro e w1 ⟨rfl, rfl⟩
    go_wp2_with (fail)
    refine (rin_of vid 4094 _ h4 _).mono ?_
    rintro e w1 ⟨rfl, rfl⟩
    go_wp2_with (fail)
    refine (rin_of seq 65535 _ h5 _).mono ?_
    rintro e w1 ⟨rfl, rfl⟩
    go_wp2_with (fail)
    go_ret
    refine ⟨ret_b ?_, (by repeat' (first | exact Below.refl _ _ | assumption | refine below_drewN ?_ _ | refine Below.drew ?_ | refine Below.alloc ?_ (by (first | exact Nat.le_refl _ | assumption | (simp; done) | omega | (simp; omega))) _ | refine Below.setCell ?_ (by (first | exact Nat.le_refl _ | assumption | (simp; done) | omega | (simp; omega))) _ | refine Below.trans ?_ (Below.mono (by assumption) (by (first | exact Nat.le_refl _ | assumption | (simp; done) | omega | (simp; omega))))))⟩
    have hr := HR.out
    unfold Fr.okP at hr
    (symm; rw [← Bool.not_eq_true, hr]; omega)
  subst zprio
  by_cases zvid : vid = 0
  rotate_left
  · go_enter Try.func38, Try.ntmps38
    go_wp2_with (fail)
    refine (rin_of dst 281474976710655 _ h1 _).mono ?_
    rintro e w1 ⟨rfl, rfl⟩
    go_wp2_with (fail)
    refine (rin_of src 281474976710655 _ h2 _).mono ?_
    rintro e w1 ⟨rfl, rfl⟩
    go_wp2_with (fail)
    refine (rin_of 0 7 _ h3 _).mono ?_
    rintro e w1 ⟨rfl, rfl⟩
    go_wp2_with (fail)
    refine (rin_of vid 4094 _ h4 _).mono ?_
    rintro e w1 ⟨rfl, rfl⟩
    go_wp2_with (fail)
    refine (rin_of seq 65535 _ h5 _).mono ?_
    rintro e w1 ⟨rfl, rfl⟩
    go_wp2_with (fail)
    go_ret
    refine ⟨ret_b ?_, (by repeat' (first | exact Below.refl _ _ | assumption | refine below_drewN ?_ _ | refine Below.drew ?_ | refine Below.alloc ?_ (by (first | exact Nat.le_refl _ | assumption | (simp; done) | omega | (simp; omega))) _ | refine Below.setCell ?_ (by (first | exact Nat.le_refl _ | assumption | (simp; done) | omega | (simp; omega))) _ | refine Below.trans ?_ (Below.mono (by assumption) (by (first | exact Nat.le_refl _ | assumption | (simp; done) | omega | (simp; omega))))))⟩
    have hr := HR.out
    unfold Fr.okP at hr
    (symm; rw [← Bool.not_eq_true, hr]; omega)
  subst zvid
  by_cases zseq : seq = 0
  rotate_left
  · go_enter Try.func38, Try.ntmps38
    go_wp2_with (fail)
    refine (rin_of dst 281474976710655 _ h1 _).mono ?_
    rintro e w1 ⟨rfl, rfl⟩
    go_wp2_with (fail)
    refine (rin_of src 281474976710655 _ h2 _).mono ?_
    rintro e w1 ⟨rfl, rfl⟩
    go_wp2_with (fail)
    refine (rin_of 0 7 _ h3 _).mono ?_
    rintro e w1 ⟨rfl, rfl⟩
    go_wp2_with (fail)
    refine (rin_of 0 4094 _ h4 _).mono ?_
    rintro e w1 ⟨rfl, rfl⟩
    go_wp2_with (fail)
    refine (rin_of seq 65535 _ h5 _).mono ?_
    rintro e w1 ⟨rfl, rfl⟩
    go_wp2_with (fail)
    go_ret
    refine ⟨ret_b ?_, (by repeat' (first | exact Below.refl _ _ | assumption | refine below_drewN ?_ _ | refine Below.drew ?_ | refine Below.alloc ?_ (by (first | exact Nat.le_refl _ | assumption | (simp; done) | omega | (simp; omega))) _ | refine Below.setCell ?_ (by (first | exact Nat.le_refl _ | assumption | (simp; done) | omega | (simp; omega))) _ | refine Below.trans ?_ (Below.mono (by assumption) (by (first | exact Nat.le_refl _ | assumption | (simp; done) | omega | (simp; omega))))))⟩
    have hr := HR.out
    unfold Fr.okP at hr
    (symm; rw [← Bool.not_eq_true, hr]; omega)
  subst zseq
  by_cases t0 : type = 0
  · subst t0
    go_enter Try.func38, Try.ntmps38
    go_wp2_with (fail)
    refine (rin_of dst 281474976710655 _ h1 _).mono ?_
    rintro e w1 ⟨rfl, rfl⟩
    go_wp2_with (fail)
    refine (rin_of src 281474976710655 _ h2 _).mono ?_
    rintro e w1 ⟨rfl, rfl⟩
    go_wp2_with (fail)
    refine (rin_of 0 7 _ h3 _).mono ?_
    rintro e w1 ⟨rfl, rfl⟩
    go_wp2_with (fail)
    refine (rin_of 0 4094 _ h4 _).mono ?_
    rintro e w1 ⟨rfl, rfl⟩
    go_wp2_with (fail)
    refine (rin_of 0 65535 _ h5 _).mono ?_
    rintro e w1 ⟨rfl, rfl⟩
    go_wp2_with (fail)
    go_ret
    refine ⟨ret_b ?_, (by repeat' (first | exact Below.refl _ _ | assumption | refine below_drewN ?_ _ | refine Below.drew ?_ | refine Below.alloc ?_ (by (first | exact Nat.le_refl _ | assumption | (simp; done) | omega | (simp; omega))) _ | refine Below.setCell ?_ (by (first | exact Nat.le_refl _ | assumption | (simp; done) | omega | (simp; omega))) _ | refine Below.trans ?_ (Below.mono (by assumption) (by (first | exact Nat.le_refl _ | assumption | (simp; done) | omega | (simp; omega))))))⟩
    have hr := HR.out
    unfold Fr.okP at hr
    (symm; rw [Bool.eq_iff_iff, hr, decide_eq_true_iff]; omega)
  by_cases t1 : 1536 ≤ type
  rotate_left
  · go_enter Try.func38, Try.ntmps38
    go_wp2_with (fail)
    refine (rin_of dst 281474976710655 _ h1 _).mono ?_
    rintro e w1 ⟨rfl, rfl⟩
    go_wp2_with (fail)
    refine (rin_of src 281474976710655 _ h2 _).mono ?_
    rintro e w1 ⟨rfl, rfl⟩
    go_wp2_with (fail)
    refine (rin_of 0 7 _ h3 _).mono ?_
    rintro e w1 ⟨rfl, rfl⟩
    go_wp2_with (fail)
    refine (rin_of 0 4094 _ h4 _).mono ?_
    rintro e w1 ⟨rfl, rfl⟩
    go_wp2_with (fail)
    refine (rin_of 0 65535 _ h5 _).mono ?_
    rintro e w1 ⟨rfl, rfl⟩
    go_wp2_with (fail)
    go_ret
    refine ⟨ret_b ?_, (by repeat' (first | exact Below.refl _ _ | assumption | refine below_drewN ?_ _ | refine Below.drew ?_ | refine Below.alloc ?_ (by (first | exact Nat.le_refl _ | assumption | (simp; done) | omega | (simp; omega))) _ | refine Below.setCell ?_ (by (first | exact Nat.le_refl _ | assumption | (simp; done) | omega | (simp; omega))) _ | refine Below.trans ?_ (Below.mono (by assumption) (by (first | exact Nat.le_refl _ | assumption | (simp; done) | omega | (simp; omega))))))⟩
    have hr := HR.out
    unfold Fr.okP at hr
    (symm; rw [← Bool.not_eq_true, hr]; omega)
  by_cases t2 : type ≤ 65535
  rotate_left
  · go_enter Try.func38, Try.ntmps38
    go_wp2_with (fail)
    refine (rin_of dst 281474976710655 _ h1 _).mono ?_
    rintro e w1 ⟨rfl, rfl⟩
    go_wp2_with (fail)
    refine (rin_of src 281474976710655 _ h2 _).mono ?_
    rintro e w1 ⟨rfl, rfl⟩
    go_wp2_with (fail)
    refine (rin_of 0 7 _ h3 _).mono ?_
    rintro e w1 ⟨rfl, rfl⟩
    go_wp2_with (fail)
    refine (rin_of 0 4094 _ h4 _).mono ?_
    rintro e w1 ⟨rfl, rfl⟩
    go_wp2_with (fail)
    refine (rin_of 0 65535 _ h5 _).mono ?_
    rintro e w1 ⟨rfl, rfl⟩
    go_wp2_with (fail)
    go_ret
    refine ⟨ret_b ?_, (by repeat' (first | exact Below.refl _ _ | assumption | refine below_drewN ?_ _ | refine Below.drew ?_ | refine Below.alloc ?_ (by (first | exact Nat.le_refl _ | assumption | (simp; done) | omega | (simp; omega))) _ | refine Below.setCell ?_ (by (first | exact Nat.le_refl _ | assumption | (simp; done) | omega | (simp; omega))) _ | refine Below.trans ?_ (Below.mono (by assumption) (by (first | exact Nat.le_refl _ | assumption | (simp; done) | omega | (simp; omega))))))⟩
    have hr := HR.out
    unfold Fr.okP at hr
    (symm; rw [← Bool.not_eq_true, hr]; omega)
  by_cases t3 : type = 33024
  · subst t3
    go_enter Try.func38, Try.ntmps38
    go_wp2_with (fail)
    refine (rin_of dst 281474976710655 _ h1 _).mono ?_
    rintro e w1 ⟨rfl, rfl⟩
    go_wp2_with (fail)
    refine (rin_of src 281474976710655 _ h2 _).mono ?_
    rintro e w1 ⟨rfl, rfl⟩
    go_wp2_with (fail)
    refine (rin_of 0 7 _ h3 _).mono ?_
    rintro e w1 ⟨rfl, rfl⟩
    go_wp2_with (fail)
    refine (rin_of 0 4094 _ h4 _).mono ?_
    rintro e w1 ⟨rfl, rfl⟩
    go_wp2_with (fail)
    refine (rin_of 0 65535 _ h5 _).mono ?_
    rintro e w1 ⟨rfl, rfl⟩
    go_wp2_with (fail)
    go_ret
    refine ⟨ret_b ?_, (by repeat' (first | exact Below.refl _ _ | assumption | refine below_drewN ?_ _ | refine Below.drew ?_ | refine Below.alloc ?_ (by (first | exact Nat.le_refl _ | assumption | (simp; done) | omega | (simp; omega))) _ | refine Below.setCell ?_ (by (first | exact Nat.le_refl _ | assumption | (simp; done) | omega | (simp; omega))) _ | refine Below.trans ?_ (Below.mono (by assumption) (by (first | exact Nat.le_refl _ | assumption | (simp; done) | omega | (simp; omega))))))⟩
    have hr := HR.out
    unfold Fr.okP at hr
    (symm; rw [← Bool.not_eq_true, hr]; omega)
  by_cases t4 : type = 61889
  · subst t4
    go_enter Try.func38, Try.ntmps38
    go_wp2_with (fail)
    refine (rin_of dst 281474976710655 _ h1 _).mono ?_
    rintro e w1 ⟨rfl, rfl⟩
    go_wp2_with (fail)
    refine (rin_of src 281474976710655 _ h2 _).mono ?_
    rintro e w1 ⟨rfl, rfl⟩
    go_wp2_with (fail)
    refine (rin_of 0 7 _ h3 _).mono ?_
    rintro e w1 ⟨rfl, rfl⟩
    go_wp2_with (fail)
    refine (rin_of 0 4094 _ h4 _).mono ?_
    rintro e w1 ⟨rfl, rfl⟩
    go_wp2_with (fail)
    refine (rin_of 0 65535 _ h5 _).mono ?_
    rintro e w1 ⟨rfl, rfl⟩
    go_wp2_with (fail)
    go_ret
    refine ⟨ret_b ?_, (by repeat' (first | exact Below.refl _ _ | assumption | refine below_drewN ?_ _ | refine Below.drew ?_ | refine Below.alloc ?_ (by (first | exact Nat.le_refl _ | assumption | (simp; done) | omega | (simp; omega))) _ | refine Below.setCell ?_ (by (first | exact Nat.le_refl _ | assumption | (simp; done) | omega | (simp; omega))) _ | refine Below.trans ?_ (Below.mono (by assumption) (by (first | exact Nat.le_refl _ | assumption | (simp; done) | omega | (simp; omega))))))⟩
    have hr := HR.out
    unfold Fr.okP at hr
    (symm; rw [← Bool.not_eq_true, hr]; omega)
  · go_enter Try.func38, Try.ntmps38
    go_wp2_with (fail)
    refine (rin_of dst 281474976710655 _ h1 _).mono ?_
    rintro e w1 ⟨rfl, rfl⟩
    go_wp2_with (fail)
    refine (rin_of src 281474976710655 _ h2 _).mono ?_
    rintro e w1 ⟨rfl, rfl⟩
    go_wp2_with (fail)
    refine (rin_of 0 7 _ h3 _).mono ?_
    rintro e w1 ⟨rfl, rfl⟩
    go_wp2_with (fail)
    refine (rin_of 0 4094 _ h4 _).mono ?_
    rintro e w1 ⟨rfl, rfl⟩
    go_wp2_with (fail)
    refine (rin_of 0 65535 _ h5 _).mono ?_
    rintro e w1 ⟨rfl, rfl⟩
    go_wp2_with (fail)
    go_ret
    refine ⟨ret_b ?_, (by repeat' (first | exact Below.refl _ _ | assumption | refine below_drewN ?_ _ | refine Below.drew ?_ | refine Below.alloc ?_ (by (first | exact Nat.le_refl _ | assumption | (simp; done) | omega | (simp; omega))) _ | refine Below.setCell ?_ (by (first | exact Nat.le_refl _ | assumption | (simp; done) | omega | (simp; omega))) _ | refine Below.trans ?_ (Below.mono (by assumption) (by (first | exact Nat.le_refl _ | assumption | (simp; done) | omega | (simp; omega))))))⟩
    have hr := HR.out
    unfold Fr.okP at hr
    (symm; rw [Bool.eq_iff_iff, hr]; simp [t0, t3, t4] <;> omega)
set_option maxHeartbeats 8000000 in
theorem right2 (dst src prio vid seq type : Int) (data : ByteArray) (r : Bool) (hr : r = true ↔ Fr.okP dst src prio vid seq type data.size 7 4094 0 1500) (hs : data.size ≤ 9000000000000000000) (w : World) :
    Calls Try.prog 38 #[.agg #[.int .i64 dst, .int .i64 src, .bool true, .int .i64 prio, .int .i64 vid, .bool false, .int .i64 seq, .int .i64 type, .string data]] w fun e w' => e = .returned (.bool r) ∧ Below w.heap.size w w' := by
  have HR := Lib.hid hr; clear hr
  rcases h1 : inB dst 281474976710655 with _ | _
  · have g1 : ¬ (0 ≤ dst ∧ dst ≤ 281474976710655) := of_decide_eq_false h1
    go_enter Try.func38, Try.ntmps38
    go_wp2_with (fail)
    refine (rin_of dst 281474976710655 _ h1 _).mono ?_
    rintro e w1 ⟨rfl, rfl⟩
    go_wp2_with (fail)
    go_ret
    refine ⟨ret_b ?_, (by repeat' (first | exact Below.refl _ _ | assumption | refine below_drewN ?_ _ | refine Below.drew ?_ | refine Below.alloc ?_ (by (first | exact Nat.le_refl _ | assumption | (simp; done) | omega | (simp; omega))) _ | refine Below.setCell ?_ (by (first | exact Nat.le_refl _ | assumption | (simp; done) | omega | (simp; omega))) _ | refine Below.trans ?_ (Below.mono (by assumption) (by (first | exact Nat.le_refl _ | assumption | (simp; done) | omega | (simp; omega))))))⟩
    have hr := HR.out
    unfold Fr.okP at hr
    (symm; rw [← Bool.not_eq_true, hr]; omega)
  have g1 : 0 ≤ dst ∧ dst ≤ 281474976710655 := of_decide_eq_true h1
  rcases h2 : inB src 281474976710655 with _ | _
  · have g2 : ¬ (0 ≤ src ∧ src ≤ 281474976710655) := of_decide_eq_false h2
    go_enter Try.func38, Try.ntmps38
    go_wp2_with (fail)
    refine (rin_of dst 281474976710655 _ h1 _).mono ?_
    rintro e w1 ⟨rfl, rfl⟩
    go_wp2_with (fail)
    refine (rin_of src 281474976710655 _ h2 _).mono ?_
    rintro e w1 ⟨rfl, rfl⟩
    go_wp2_with (fail)
    go_ret
    refine ⟨ret_b ?_, (by repeat' (first | exact Below.refl _ _ | assumption | refine below_drewN ?_ _ | refine Below.drew ?_ | refine Below.alloc ?_ (by (first | exact Nat.le_refl _ | assumption | (simp; done) | omega | (simp; omega))) _ | refine Below.setCell ?_ (by (first | exact Nat.le_refl _ | assumption | (simp; done) | omega | (simp; omega))) _ | refine Below.trans ?_ (Below.mono (by assumption) (by (first | exact Nat.le_refl _ | assumption | (simp; done) | omega | (simp; omega))))))⟩
    have hr := HR.out
    unfold Fr.okP at hr
    (symm; rw [← Bool.not_eq_true, hr]; omega)
  have g2 : 0 ≤ src ∧ src ≤ 281474976710655 := of_decide_eq_true h2
  rcases h3 : inB prio 7 with _ | _
  · have g3 : ¬ (0 ≤ prio ∧ prio ≤ 7) := of_decide_eq_false h3
    go_enter Try.func38, Try.ntmps38
    go_wp2_with (fail)
    refine (rin_of dst 281474976710655 _ h1 _).mono ?_
    rintro e w1 ⟨rfl, rfl⟩
    go_wp2_with (fail)
    refine (rin_of src 281474976710655 _ h2 _).mono ?_
    rintro e w1 ⟨rfl, rfl⟩
    go_wp2_with (fail)
    refine (rin_of prio 7 _ h3 _).mono ?_
    rintro e w1 ⟨rfl, rfl⟩
    go_wp2_with (fail)
    go_ret
    refine ⟨ret_b ?_, (by repeat' (first | exact Below.refl _ _ | assumption | refine below_drewN ?_ _ | refine Below.drew ?_ | refine Below.alloc ?_ (by (first | exact Nat.le_refl _ | assumption | (simp; done) | omega | (simp; omega))) _ | refine Below.setCell ?_ (by (first | exact Nat.le_refl _ | assumption | (simp; done) | omega | (simp; omega))) _ | refine Below.trans ?_ (Below.mono (by assumption) (by (first | exact Nat.le_refl _ | assumption | (simp; done) | omega | (simp; omega))))))⟩
    have hr := HR.out
    unfold Fr.okP at hr
    (symm; rw [← Bool.not_eq_true, hr]; omega)
  have g3 : 0 ≤ prio ∧ prio ≤ 7 := of_decide_eq_true h3
  rcases h4 : inB vid 4094 with _ | _
  · have g4 : ¬ (0 ≤ vid ∧ vid ≤ 4094) := of_decide_eq_false h4
    go_enter Try.func38, Try.ntmps38
    go_wp2_with (fail)
    refine (rin_of dst 281474976710655 _ h1 _).mono ?_
    rintro e w1 ⟨rfl, rfl⟩
    go_wp2_with (fail)
    refine (rin_of src 281474976710655 _ h2 _).mono ?_
    rintro e w1 ⟨rfl, rfl⟩
    go_wp2_with (fail)
    refine (rin_of prio 7 _ h3 _).mono ?_
    rintro e w1 ⟨rfl, rfl⟩
    go_wp2_with (fail)
    refine (rin_of vid 4094 _ h4 _).mono ?_
    rintro e w1 ⟨rfl, rfl⟩
    go_wp2_with (fail)
    go_ret
    refine ⟨ret_b ?_, (by repeat' (first | exact Below.refl _ _ | assumption | refine below_drewN ?_ _ | refine Below.drew ?_ | refine Below.alloc ?_ (by (first | exact Nat.le_refl _ | assumption | (simp; done) | omega | (simp; omega))) _ | refine Below.setCell ?_ (by (first | exact Nat.le_refl _ | assumption | (simp; done) | omega | (simp; omega))) _ | refine Below.trans ?_ (Below.mono (by assumption) (by (first | exact Nat.le_refl _ | assumption | (simp; done) | omega | (simp; omega))))))⟩
    have hr := HR.out
    unfold Fr.okP at hr
    (symm; rw [← Bool.not_eq_true, hr]; omega)
  have g4 : 0 ≤ vid ∧ vid ≤ 4094 := of_decide_eq_true h4
  rcases h5 : inB seq 65535 with _ | _
  · have g5 : ¬ (0 ≤ seq ∧ seq ≤ 65535) := of_decide_eq_false h5
    go_enter Try.func38, Try.ntmps38
    go_wp2_with (fail)
    refine (rin_of dst 281474976710655 _ h1 _).mono ?_
    rintro e w1 ⟨rfl, rfl⟩
    go_wp2_with (fail)
    refine (rin_of src 281474976710655 _ h2 _).mono ?_
    rintro e w1 ⟨rfl, rfl⟩
    go_wp2_with (fail)
    refine (rin_of prio 7 _ h3 _).mono ?_
    rintro e w1 ⟨rfl, rfl⟩
    go_wp2_with (fail)
    refine (rin_of vid 4094 _ h4 _).mono ?_
    rintro e w1 ⟨rfl, rfl⟩
    go_wp2_with (fail)
    refine (rin_of seq 65535 _ h5 _).mono ?_
    rintro e w1 ⟨rfl, rfl⟩
    go_wp2_with (fail)
    go_ret
    refine ⟨ret_b ?_, (by repeat' (first | exact Below.refl _ _ | assumption | refine below_drewN ?_ _ | refine Below.drew ?_ | refine Below.alloc ?_ (by (first | exact Nat.le_refl _ | assumption | (simp; done) | omega | (simp; omega))) _ | refine Below.setCell ?_ (by (first | exact Nat.le_refl _ | assumption | (simp; done) | omega | (simp; omega))) _ | refine Below.trans ?_ (Below.mono (by assumption) (by (first | exact Nat.le_refl _ | assumption | (simp; done) | omega | (simp; omega))))))⟩
    have hr := HR.out
    unfold Fr.okP at hr
    (symm; rw [← Bool.not_eq_true, hr]; omega)
  have g5 : 0 ≤ seq ∧ seq ≤ 65535 := of_decide_eq_true h5
  by_cases zseq : seq = 0
  rotate_left
  · go_enter Try.func38, Try.ntmps38
    go_wp2_with (fail)
    refine (rin_of dst 281474976710655 _ h1 _).mono ?_
    rintro e w1 ⟨rfl, rfl⟩
    go_wp2_with (fail)
    refine (rin_of src 281474976710655 _ h2 _).mono ?_
    rintro e w1 ⟨rfl, rfl⟩
    go_wp2_with (fail)
    refine (rin_of prio 7 _ h3 _).mono ?_
    rintro e w1 ⟨rfl, rfl⟩
    go_wp2_with (fail)
    refine (rin_of vid 4094 _ h4 _).mono ?_
    rintro e w1 ⟨rfl, rfl⟩
    go_wp2_with (fail)
    refine (rin_of seq 65535 _ h5 _).mono ?_
    rintro e w1 ⟨rfl, rfl⟩
    go_wp2_with (fail)
    go_ret
    refine ⟨ret_b ?_, (by repeat' (first | exact Below.refl _ _ | assumption | refine below_drewN ?_ _ | refine Below.drew ?_ | refine Below.alloc ?_ (by (first | exact Nat.le_refl _ | assumption | (simp; done) | omega | (simp; omega))) _ | refine Below.setCell ?_ (by (first | exact Nat.le_refl _ | assumption | (simp; done) | omega | (simp; omega))) _ | refine Below.trans ?_ (Below.mono (by assumption) (by (first | exact Nat.le_refl _ | assumption | (simp; done) | omega | (simp; omega))))))⟩
    have hr := HR.out
    unfold Fr.okP at hr
    (symm; rw [← Bool.not_eq_true, hr]; omega)
  subst zseq
  by_cases t0 : type = 0
  · subst t0
    go_enter Try.func38, Try.ntmps38
    go_wp2_with (fail)
    refine (rin_of dst 281474976710655 _ h1 _).mono ?_
    rintro e w1 ⟨rfl, rfl⟩
    go_wp2_with (fail)
    refine (rin_of src 281474976710655 _ h2 _).mono ?_
    rintro e w1 ⟨rfl, rfl⟩
    go_wp2_with (fail)
    refine (rin_of prio 7 _ h3 _).mono ?_
    rintro e w1 ⟨rfl, rfl⟩
    go_wp2_with (fail)
    refine (rin_of vid 4094 _ h4 _).mono ?_
    rintro e w1 ⟨rfl, rfl⟩
    go_wp2_with (fail)
    refine (rin_of 0 65535 _ h5 _).mono ?_
    rintro e w1 ⟨rfl, rfl⟩
    go_wp2_with (fail)
    go_ret
    refine ⟨ret_b ?_, (by repeat' (first | exact Below.refl _ _ | assumption | refine below_drewN ?_ _ | refine Below.drew ?_ | refine Below.alloc ?_ (by (first | exact Nat.le_refl _ | assumption | (simp; done) | omega | (simp; omega))) _ | refine Below.setCell ?_ (by (first | exact Nat.le_refl _ | assumption | (simp; done) | omega | (simp; omega))) _ | refine Below.trans ?_ (Below.mono (by assumption) (by (first | exact Nat.le_refl _ | assumption | (simp; done) | omega | (simp; omega))))))⟩
    have hr := HR.out
    unfold Fr.okP at hr
    (symm; rw [Bool.eq_iff_iff, hr, decide_eq_true_iff]; omega)
  by_cases t1 : 1536 ≤ type
  rotate_left
  · go_enter Try.func38, Try.ntmps38
    go_wp2_with (fail)
    refine (rin_of dst 281474976710655 _ h1 _).mono ?_
    rintro e w1 ⟨rfl, rfl⟩
    go_wp2_with (fail)
    refine (rin_of src 281474976710655 _ h2 _).mono ?_
    rintro e w1 ⟨rfl, rfl⟩
    go_wp2_with (fail)
    refine (rin_of prio 7 _ h3 _).mono ?_
    rintro e w1 ⟨rfl, rfl⟩
    go_wp2_with (fail)
    refine (rin_of vid 4094 _ h4 _).mono ?_
    rintro e w1 ⟨rfl, rfl⟩
    go_wp2_with (fail)
    refine (rin_of 0 65535 _ h5 _).mono ?_
    rintro e w1 ⟨rfl, rfl⟩
    go_wp2_with (fail)
    go_ret
    refine ⟨ret_b ?_, (by repeat' (first | exact Below.refl _ _ | assumption | refine below_drewN ?_ _ | refine Below.drew ?_ | refine Below.alloc ?_ (by (first | exact Nat.le_refl _ | assumption | (simp; done) | omega | (simp; omega))) _ | refine Below.setCell ?_ (by (first | exact Nat.le_refl _ | assumption | (simp; done) | omega | (simp; omega))) _ | refine Below.trans ?_ (Below.mono (by assumption) (by (first | exact Nat.le_refl _ | assumption | (simp; done) | omega | (simp; omega))))))⟩
    have hr := HR.out
    unfold Fr.okP at hr
    (symm; rw [← Bool.not_eq_true, hr]; omega)
  by_cases t2 : type ≤ 65535
  rotate_left
  · go_enter Try.func38, Try.ntmps38
    go_wp2_with (fail)
    refine (rin_of dst 281474976710655 _ h1 _).mono ?_
    rintro e w1 ⟨rfl, rfl⟩
    go_wp2_with (fail)
    refine (rin_of src 281474976710655 _ h2 _).mono ?_
    rintro e w1 ⟨rfl, rfl⟩
    go_wp2_with (fail)
    refine (rin_of prio 7 _ h3 _).mono ?_
    rintro e w1 ⟨rfl, rfl⟩
    go_wp2_with (fail)
    refine (rin_of vid 4094 _ h4 _).mono ?_
    rintro e w1 ⟨rfl, rfl⟩
    go_wp2_with (fail)
    refine (rin_of 0 65535 _ h5 _).mono ?_
    rintro e w1 ⟨rfl, rfl⟩
    go_wp2_with (fail)
    go_ret
    refine ⟨ret_b ?_, (by repeat' (first | exact Below.refl _ _ | assumption | refine below_drewN ?_ _ | refine Below.drew ?_ | refine Below.alloc ?_ (by (first | exact Nat.le_refl _ | assumption | (simp; done) | omega | (simp; omega))) _ | refine Below.setCell ?_ (by (first | exact Nat.le_refl _ | assumption | (simp; done) | omega | (simp; omega))) _ | refine Below.trans ?_ (Below.mono (by assumption) (by (first | exact Nat.le_refl _ | assumption | (simp; done) | omega | (simp; omega))))))⟩
    have hr := HR.out
    unfold Fr.okP at hr
    (symm; rw [← Bool.not_eq_true, hr]; omega)
  by_cases t3 : type = 33024
  · subst t3
    go_enter Try.func38, Try.ntmps38
    go_wp2_with (fail)
    refine (rin_of dst 281474976710655 _ h1 _).mono ?_
    rintro e w1 ⟨rfl, rfl⟩
    go_wp2_with (fail)
    refine (rin_of src 281474976710655 _ h2 _).mono ?_
    rintro e w1 ⟨rfl, rfl⟩
    go_wp2_with (fail)
    refine (rin_of prio 7 _ h3 _).mono ?_
    rintro e w1 ⟨rfl, rfl⟩
    go_wp2_with (fail)
    refine (rin_of vid 4094 _ h4 _).mono ?_
    rintro e w1 ⟨rfl, rfl⟩
    go_wp2_with (fail)
    refine (rin_of 0 65535 _ h5 _).mono ?_
    rintro e w1 ⟨rfl, rfl⟩
    go_wp2_with (fail)
    go_ret
    refine ⟨ret_b ?_, (by repeat' (first | exact Below.refl _ _ | assumption | refine below_drewN ?_ _ | refine Below.drew ?_ | refine Below.alloc ?_ (by (first | exact Nat.le_refl _ | assumption | (simp; done) | omega | (simp; omega))) _ | refine Below.setCell ?_ (by (first | exact Nat.le_refl _ | assumption | (simp; done) | omega | (simp; omega))) _ | refine Below.trans ?_ (Below.mono (by assumption) (by (first | exact Nat.le_refl _ | assumption | (simp; done) | omega | (simp; omega))))))⟩
    have hr := HR.out
    unfold Fr.okP at hr
    (symm; rw [← Bool.not_eq_true, hr]; omega)
  by_cases t4 : type = 61889
  · subst t4
    go_enter Try.func38, Try.ntmps38
    go_wp2_with (fail)
    refine (rin_of dst 281474976710655 _ h1 _).mono ?_
    rintro e w1 ⟨rfl, rfl⟩
    go_wp2_with (fail)
    refine (rin_of src 281474976710655 _ h2 _).mono ?_
    rintro e w1 ⟨rfl, rfl⟩
    go_wp2_with (fail)
    refine (rin_of prio 7 _ h3 _).mono ?_
    rintro e w1 ⟨rfl, rfl⟩
    go_wp2_with (fail)
    refine (rin_of vid 4094 _ h4 _).mono ?_
    rintro e w1 ⟨rfl, rfl⟩
    go_wp2_with (fail)
    refine (rin_of 0 65535 _ h5 _).mono ?_
    rintro e w1 ⟨rfl, rfl⟩
    go_wp2_with (fail)
    go_ret
    refine ⟨ret_b ?_, (by repeat' (first | exact Below.refl _ _ | assumption | refine below_drewN ?_ _ | refine Below.drew ?_ | refine Below.alloc ?_ (by (first | exact Nat.le_refl _ | assumption | (simp; done) | omega | (simp; omega))) _ | refine Below.setCell ?_ (by (first | exact Nat.le_refl _ | assumption | (simp; done) | omega | (simp; omega))) _ | refine Below.trans ?_ (Below.mono (by assumption) (by (first | exact Nat.le_refl _ | assumption | (simp; done) | omega | (simp; omega))))))⟩
    have hr := HR.out
    unfold Fr.okP at hr
    (symm; rw [← Bool.not_eq_true, hr]; omega)
  · go_enter Try.func38, Try.ntmps38
    go_wp2_with (fail)
    refine (rin_of dst 281474976710655 _ h1 _).mono ?_
    rintro e w1 ⟨rfl, rfl⟩
    go_wp2_with (fail)
    refine (rin_of src 281474976710655 _ h2 _).mono ?_
    rintro e w1 ⟨rfl, rfl⟩
    go_wp2_with (fail)
    refine (rin_of prio 7 _ h3 _).mono ?_
    rintro e w1 ⟨rfl, rfl⟩
    go_wp2_with (fail)
    refine (rin_of vid 4094 _ h4 _).mono ?_
    rintro e w1 ⟨rfl, rfl⟩
    go_wp2_with (fail)
    refine (rin_of 0 65535 _ h5 _).mono ?_
    rintro e w1 ⟨rfl, rfl⟩
    go_wp2_with (fail)
    go_ret
    refine ⟨ret_b ?_, (by repeat' (first | exact Below.refl _ _ | assumption | refine below_drewN ?_ _ | refine Below.drew ?_ | refine Below.alloc ?_ (by (first | exact Nat.le_refl _ | assumption | (simp; done) | omega | (simp; omega))) _ | refine Below.setCell ?_ (by (first | exact Nat.le_refl _ | assumption | (simp; done) | omega | (simp; omega))) _ | refine Below.trans ?_ (Below.mono (by assumption) (by (first | exact Nat.le_refl _ | assumption | (simp; done) | omega | (simp; omega))))))⟩
    have hr := HR.out
    unfold Fr.okP at hr
    (symm; rw [Bool.eq_iff_iff, hr]; simp [t0, t3, t4] <;> omega)
set_option maxHeartbeats 8000000 in
theorem right3 (dst src prio vid seq type : Int) (data : ByteArray) (r : Bool) (hr : r = true ↔ Fr.okP dst src prio vid seq type data.size 0 0 65535 1494) (hs : data.size ≤ 9000000000000000000) (w : World) :
    Calls Try.prog 38 #[.agg #[.int .i64 dst, .int .i64 src, .bool false, .int .i64 prio, .int .i64 vid, .bool true, .int .i64 seq, .int .i64 type, .string data]] w fun e w' => e = .returned (.bool r) ∧ Below w.heap.size w w' := by
  have HR := Lib.hid hr; clear hr
  rcases h1 : inB dst 281474976710655 with _ | _
  · have g1 : ¬ (0 ≤ dst ∧ dst ≤ 281474976710655) := of_decide_eq_false h1
    go_enter Try.func38, Try.ntmps38
    go_wp2_with (fail)
    refine (rin_of dst 281474976710655 _ h1 _).mono ?_
    rintro e w1 ⟨rfl, rfl⟩
    go_wp2_with (fail)
    go_ret
    refine ⟨ret_b ?_, (by repeat' (first | exact Below.refl _ _ | assumption | refine below_drewN ?_ _ | refine Below.drew ?_ | refine Below.alloc ?_ (by (first | exact Nat.le_refl _ | assumption | (simp; done) | omega | (simp; omega))) _ | refine Below.setCell ?_ (by (first | exact Nat.le_refl _ | assumption | (simp; done) | omega | (simp; omega))) _ | refine Below.trans ?_ (Below.mono (by assumption) (by (first | exact Nat.le_refl _ | assumption | (simp; done) | omega | (simp; omega))))))⟩
    have hr := HR.out
    unfold Fr.okP at hr
    (symm; rw [← Bool.not_eq_true, hr]; omega)
  have g1 : 0 ≤ dst ∧ dst ≤ 281474976710655 := of_decide_eq_true h1
  rcases h2 : inB src 281474976710655 with _ | _
  · have g2 : ¬ (0 ≤ src ∧ src ≤ 281474976710655) := of_decide_eq_false h2
    go_enter Try.func38, Try.ntmps38
    go_wp2_with (fail)
    refine (rin_of dst 281474976710655 _ h1 _).mono ?_
    rintro e w1 ⟨rfl, rfl⟩
    go_wp2_with (fail)
    refine (rin_of src 281474976710655 _ h2 _).mono ?_
    rintro e w1 ⟨rfl, rfl⟩
    go_wp2_with (fail)
    go_ret
    refine ⟨ret_b ?_, (by repeat' (first | exact Below.refl _ _ | assumption | refine below_drewN ?_ _ | refine Below.drew ?_ | refine Below.alloc ?_ (by (first | exact Nat.le_refl _ | assumption | (simp; done) | omega | (simp; omega))) _ | refine Below.setCell ?_ (by (first | exact Nat.le_refl _ | assumption | (simp; done) | omega | (simp; omega))) _ | refine Below.trans ?_ (Below.mono (by assumption) (by (first | exact Nat.le_refl _ | assumption | (simp; done) | omega | (simp; omega))))))⟩
    have hr := HR.out
    unfold Fr.okP at hr
    (symm; rw [← Bool.not_eq_true, hr]; omega)
  have g2 : 0 ≤ src ∧ src ≤ 281474976710655 := of_decide_eq_true h2
  rcases h3 : inB prio 7 with _ | _
  · have g3 : ¬ (0 ≤ prio ∧ prio ≤ 7) := of_decide_eq_false h3
    go_enter Try.func38, Try.ntmps38
    go_wp2_with (fail)
    refine (rin_of dst 281474976710655 _ h1 _).mono ?_
    rintro e w1 ⟨rfl, rfl⟩
    go_wp2_with (fail)
    refine (rin_of src 281474976710655 _ h2 _).mono ?_
    rintro e w1 ⟨rfl, rfl⟩
    go_wp2_with (fail)
    refine (rin_of prio 7 _ h3 _).mono ?_
    rintro e w1 ⟨rfl, rfl⟩
    go_wp2_with (fail)
    go_ret
    refine ⟨ret_b ?_, (by repeat' (first | exact Below.refl _ _ | assumption | refine below_drewN ?_ _ | refine Below.drew ?_ | refine Below.alloc ?_ (by (first | exact Nat.le_refl _ | assumption | (simp; done) | omega | (simp; omega))) _ | refine Below.setCell ?_ (by (first | exact Nat.le_refl _ | assumption | (simp; done) | omega | (simp; omega))) _ | refine Below.trans ?_ (Below.mono (by assumption) (by (first | exact Nat.le_refl _ | assumption | (simp; done) | omega | (simp; omega))))))⟩
    have hr := HR.out
    unfold Fr.okP at hr
    (symm; rw [← Bool.not_eq_true, hr]; omega)
  have g3 : 0 ≤ prio ∧ prio ≤ 7 := of_decide_eq_true h3
  rcases h4 : inB vid 4094 with _ | _
  · have g4 : ¬ (0 ≤ vid ∧ vid ≤ 4094) := of_decide_eq_false h4
    go_enter Try.func38, Try.ntmps38
    go_wp2_with (fail)
    refine (rin_of dst 281474976710655 _ h1 _).mono ?_
    rintro e w1 ⟨rfl, rfl⟩
    go_wp2_with (fail)
    refine (rin_of src 281474976710655 _ h2 _).mono ?_
    rintro e w1 ⟨rfl, rfl⟩
    go_wp2_with (fail)
    refine (rin_of prio 7 _ h3 _).mono ?_
    rintro e w1 ⟨rfl, rfl⟩
    go_wp2_with (fail)
    refine (rin_of vid 4094 _ h4 _).mono ?_
    rintro e w1 ⟨rfl, rfl⟩
    go_wp2_with (fail)
    go_ret
    refine ⟨ret_b ?_, (by repeat' (first | exact Below.refl _ _ | assumption | refine below_drewN ?_ _ | refine Below.drew ?_ | refine Below.alloc ?_ (by (first | exact Nat.le_refl _ | assumption | (simp; done) | omega | (simp; omega))) _ | refine Below.setCell ?_ (by (first | exact Nat.le_refl _ | assumption | (simp; done) | omega | (simp; omega))) _ | refine Below.trans ?_ (Below.mono (by assumption) (by (first | exact Nat.le_refl _ | assumption | (simp; done) | omega | (simp; omega))))))⟩
    have hr := HR.out
    unfold Fr.okP at hr
    (symm; rw [← Bool.not_eq_true, hr]; omega)
  have g4 : 0 ≤ vid ∧ vid ≤ 4094 := of_decide_eq_true h4
  rcases h5 : inB seq 65535 with _ | _
  · have g5 : ¬ (0 ≤ seq ∧ seq ≤ 65535) := of_decide_eq_false h5
    go_enter Try.func38, Try.ntmps38
    go_wp2_with (fail)
    refine (rin_of dst 281474976710655 _ h1 _).mono ?_
    rintro e w1 ⟨rfl, rfl⟩
    go_wp2_with (fail)
    refine (rin_of src 281474976710655 _ h2 _).mono ?_
    rintro e w1 ⟨rfl, rfl⟩
    go_wp2_with (fail)
    refine (rin_of prio 7 _ h3 _).mono ?_
    rintro e w1 ⟨rfl, rfl⟩
    go_wp2_with (fail)
    refine (rin_of vid 4094 _ h4 _).mono ?_
    rintro e w1 ⟨rfl, rfl⟩
    go_wp2_with (fail)
    refine (rin_of seq 65535 _ h5 _).mono ?_
    rintro e w1 ⟨rfl, rfl⟩
    go_wp2_with (fail)
    go_ret
    refine ⟨ret_b ?_, (by repeat' (first | exact Below.refl _ _ | assumption | refine below_drewN ?_ _ | refine Below.drew ?_ | refine Below.alloc ?_ (by (first | exact Nat.le_refl _ | assumption | (simp; done) | omega | (simp; omega))) _ | refine Below.setCell ?_ (by (first | exact Nat.le_refl _ | assumption | (simp; done) | omega | (simp; omega))) _ | refine Below.trans ?_ (Below.mono (by assumption) (by (first | exact Nat.le_refl _ | assumption | (simp; done) | omega | (simp; omega))))))⟩
    have hr := HR.out
    unfold Fr.okP at hr
    (symm; rw [← Bool.not_eq_true, hr]; omega)
  have g5 : 0 ≤ seq ∧ seq ≤ 65535 := of_decide_eq_true h5
  by_cases zprio : prio = 0
  rotate_left
  · go_enter Try.func38, Try.ntmps38
    go_wp2_with (fail)
    refine (rin_of dst 281474976710655 _ h1 _).mono ?_
    rintro e w1 ⟨rfl, rfl⟩
    go_wp2_with (fail)
    refine (rin_of src 281474976710655 _ h2 _).mono ?_
    rintro e w1 ⟨rfl, rfl⟩
    go_wp2_with (fail)
    refine (rin_of prio 7 _ h3 _).mono ?_
    rintro e w1 ⟨rfl, rfl⟩
    go_wp2_with (fail)
    refine (rin_of vid 4094 _ h4 _).mono ?_
    rintro e w1 ⟨rfl, rfl⟩
    go_wp2_with (fail)
    refine (rin_of seq 65535 _ h5 _).mono ?_
    rintro e w1 ⟨rfl, rfl⟩
    go_wp2_with (fail)
    go_ret
    refine ⟨ret_b ?_, (by repeat' (first | exact Below.refl _ _ | assumption | refine below_drewN ?_ _ | refine Below.drew ?_ | refine Below.alloc ?_ (by (first | exact Nat.le_refl _ | assumption | (simp; done) | omega | (simp; omega))) _ | refine Below.setCell ?_ (by (first | exact Nat.le_refl _ | assumption | (simp; done) | omega | (simp; omega))) _ | refine Below.trans ?_ (Below.mono (by assumption) (by (first | exact Nat.le_refl _ | assumption | (simp; done) | omega | (simp; omega))))))⟩
    have hr := HR.out
    unfold Fr.okP at hr
    (symm; rw [← Bool.not_eq_true, hr]; omega)
  subst zprio
  by_cases zvid : vid = 0
  rotate_left
  · go_enter Try.func38, Try.ntmps38
    go_wp2_with (fail)
    refine (rin_of dst 281474976710655 _ h1 _).mono ?_
    rintro e w1 ⟨rfl, rfl⟩
    go_wp2_with (fail)
    refine (rin_of src 281474976710655 _ h2 _).mono ?_
    rintro e w1 ⟨rfl, rfl⟩
    go_wp2_with (fail)
    refine (rin_of 0 7 _ h3 _).mono ?_
    rintro e w1 ⟨rfl, rfl⟩
    go_wp2_with (fail)
    refine (rin_of vid 4094 _ h4 _).mono ?_
    rintro e w1 ⟨rfl, rfl⟩
    go_wp2_with (fail)
    refine (rin_of seq 65535 _ h5 _).mono ?_
    rintro e w1 ⟨rfl, rfl⟩
    go_wp2_with (fail)
    go_ret
    refine ⟨ret_b ?_, (by repeat' (first | exact Below.refl _ _ | assumption | refine below_drewN ?_ _ | refine Below.drew ?_ | refine Below.alloc ?_ (by (first | exact Nat.le_refl _ | assumption | (simp; done) | omega | (simp; omega))) _ | refine Below.setCell ?_ (by (first | exact Nat.le_refl _ | assumption | (simp; done) | omega | (simp; omega))) _ | refine Below.trans ?_ (Below.mono (by assumption) (by (first | exact Nat.le_refl _ | assumption | (simp; done) | omega | (simp; omega))))))⟩
    have hr := HR.out
    unfold Fr.okP at hr
    (symm; rw [← Bool.not_eq_true, hr]; omega)
  subst zvid
  by_cases t0 : type = 0
  · subst t0
    go_enter Try.func38, Try.ntmps38
    go_wp2_with (fail)
    refine (rin_of dst 281474976710655 _ h1 _).mono ?_
    rintro e w1 ⟨rfl, rfl⟩
    go_wp2_with (fail)
    refine (rin_of src 281474976710655 _ h2 _).mono ?_
    rintro e w1 ⟨rfl, rfl⟩
    go_wp2_with (fail)
    refine (rin_of 0 7 _ h3 _).mono ?_
    rintro e w1 ⟨rfl, rfl⟩
    go_wp2_with (fail)
    refine (rin_of 0 4094 _ h4 _).mono ?_
    rintro e w1 ⟨rfl, rfl⟩
    go_wp2_with (fail)
    refine (rin_of seq 65535 _ h5 _).mono ?_
    rintro e w1 ⟨rfl, rfl⟩
    go_wp2_with (fail)
    go_ret
    refine ⟨ret_b ?_, (by repeat' (first | exact Below.refl _ _ | assumption | refine below_drewN ?_ _ | refine Below.drew ?_ | refine Below.alloc ?_ (by (first | exact Nat.le_refl _ | assumption | (simp; done) | omega | (simp; omega))) _ | refine Below.setCell ?_ (by (first | exact Nat.le_refl _ | assumption | (simp; done) | omega | (simp; omega))) _ | refine Below.trans ?_ (Below.mono (by assumption) (by (first | exact Nat.le_refl _ | assumption | (simp; done) | omega | (simp; omega))))))⟩
    have hr := HR.out
    unfold Fr.okP at hr
    (symm; rw [Bool.eq_iff_iff, hr, decide_eq_true_iff]; omega)
  by_cases t1 : 1536 ≤ type
  rotate_left
  · go_enter Try.func38, Try.ntmps38
    go_wp2_with (fail)
    refine (rin_of dst 281474976710655 _ h1 _).mono ?_
    rintro e w1 ⟨rfl, rfl⟩
    go_wp2_with (fail)
    refine (rin_of src 281474976710655 _ h2 _).mono ?_
    rintro e w1 ⟨rfl, rfl⟩
    go_wp2_with (fail)
    refine (rin_of 0 7 _ h3 _).mono ?_
    rintro e w1 ⟨rfl, rfl⟩
    go_wp2_with (fail)
    refine (rin_of 0 4094 _ h4 _).mono ?_
    rintro e w1 ⟨rfl, rfl⟩
    go_wp2_with (fail)
    refine (rin_of seq 65535 _ h5 _).mono ?_
    rintro e w1 ⟨rfl, rfl⟩
    go_wp2_with (fail)
    go_ret
    refine ⟨ret_b ?_, (by repeat' (first | exact Below.refl _ _ | assumption | refine below_drewN ?_ _ | refine Below.drew ?_ | refine Below.alloc ?_ (by (first | exact Nat.le_refl _ | assumption | (simp; done) | omega | (simp; omega))) _ | refine Below.setCell ?_ (by (first | exact Nat.le_refl _ | assumption | (simp; done) | omega | (simp; omega))) _ | refine Below.trans ?_ (Below.mono (by assumption) (by (first | exact Nat.le_refl _ | assumption | (simp; done) | omega | (simp; omega))))))⟩
    have hr := HR.out
    unfold Fr.okP at hr
    (symm; rw [← Bool.not_eq_true, hr]; omega)
  by_cases t2 : type ≤ 65535
  rotate_left
  · go_enter Try.func38, Try.ntmps38
    go_wp2_with (fail)
    refine (rin_of dst 281474976710655 _ h1 _).mono ?_
    rintro e w1 ⟨rfl, rfl⟩
    go_wp2_with (fail)
    refine (rin_of src 281474976710655 _ h2 _).mono ?_
    rintro e w1 ⟨rfl, rfl⟩
    go_wp2_with (fail)
    refine (rin_of 0 7 _ h3 _).mono ?_
    rintro e w1 ⟨rfl, rfl⟩
    go_wp2_with (fail)
    refine (rin_of 0 4094 _ h4 _).mono ?_
    rintro e w1 ⟨rfl, rfl⟩
    go_wp2_with (fail)
    refine (rin_of seq 65535 _ h5 _).mono ?_
    rintro e w1 ⟨rfl, rfl⟩
    go_wp2_with (fail)
    go_ret
    refine ⟨ret_b ?_, (by repeat' (first | exact Below.refl _ _ | assumption | refine below_drewN ?_ _ | refine Below.drew ?_ | refine Below.alloc ?_ (by (first | exact Nat.le_refl _ | assumption | (simp; done) | omega | (simp; omega))) _ | refine Below.setCell ?_ (by (first | exact Nat.le_refl _ | assumption | (simp; done) | omega | (simp; omega))) _ | refine Below.trans ?_ (Below.mono (by assumption) (by (first | exact Nat.le_refl _ | assumption | (simp; done) | omega | (simp; omega))))))⟩
    have hr := HR.out
    unfold Fr.okP at hr
    (symm; rw [← Bool.not_eq_true, hr]; omega)
  by_cases t3 : type = 33024
  · subst t3
    go_enter Try.func38, Try.ntmps38
    go_wp2_with (fail)
    refine (rin_of dst 281474976710655 _ h1 _).mono ?_
    rintro e w1 ⟨rfl, rfl⟩
    go_wp2_with (fail)
    refine (rin_of src 281474976710655 _ h2 _).mono ?_
    rintro e w1 ⟨rfl, rfl⟩
    go_wp2_with (fail)
    refine (rin_of 0 7 _ h3 _).mono ?_
    rintro e w1 ⟨rfl, rfl⟩
    go_wp2_with (fail)
    refine (rin_of 0 4094 _ h4 _).mono ?_
    rintro e w1 ⟨rfl, rfl⟩
    go_wp2_with (fail)
    refine (rin_of seq 65535 _ h5 _).mono ?_
    rintro e w1 ⟨rfl, rfl⟩
    go_wp2_with (fail)
    go_ret
    refine ⟨ret_b ?_, (by repeat' (first | exact Below.refl _ _ | assumption | refine below_drewN ?_ _ | refine Below.drew ?_ | refine Below.alloc ?_ (by (first | exact Nat.le_refl _ | assumption | (simp; done) | omega | (simp; omega))) _ | refine Below.setCell ?_ (by (first | exact Nat.le_refl _ | assumption | (simp; done) | omega | (simp; omega))) _ | refine Below.trans ?_ (Below.mono (by assumption) (by (first | exact Nat.le_refl _ | assumption | (simp; done) | omega | (simp; omega))))))⟩
    have hr := HR.out
    unfold Fr.okP at hr
    (symm; rw [← Bool.not_eq_true, hr]; omega)
  by_cases t4 : type = 61889
  · subst t4
    go_enter Try.func38, Try.ntmps38
    go_wp2_with (fail)
    refine (rin_of dst 281474976710655 _ h1 _).mono ?_
    rintro e w1 ⟨rfl, rfl⟩
    go_wp2_with (fail)
    refine (rin_of src 281474976710655 _ h2 _).mono ?_
    rintro e w1 ⟨rfl, rfl⟩
    go_wp2_with (fail)
    refine (rin_of 0 7 _ h3 _).mono ?_
    rintro e w1 ⟨rfl, rfl⟩
    go_wp2_with (fail)
    refine (rin_of 0 4094 _ h4 _).mono ?_
    rintro e w1 ⟨rfl, rfl⟩
    go_wp2_with (fail)
    refine (rin_of seq 65535 _ h5 _).mono ?_
    rintro e w1 ⟨rfl, rfl⟩
    go_wp2_with (fail)
    go_ret
    refine ⟨ret_b ?_, (by repeat' (first | exact Below.refl _ _ | assumption | refine below_drewN ?_ _ | refine Below.drew ?_ | refine Below.alloc ?_ (by (first | exact Nat.le_refl _ | assumption | (simp; done) | omega | (simp; omega))) _ | refine Below.setCell ?_ (by (first | exact Nat.le_refl _ | assumption | (simp; done) | omega | (simp; omega))) _ | refine Below.trans ?_ (Below.mono (by assumption) (by (first | exact Nat.le_refl _ | assumption | (simp; done) | omega | (simp; omega))))))⟩
    have hr := HR.out
    unfold Fr.okP at hr
    (symm; rw [← Bool.not_eq_true, hr]; omega)
  · go_enter Try.func38, Try.ntmps38
    go_wp2_with (fail)
    refine (rin_of dst 281474976710655 _ h1 _).mono ?_
    rintro e w1 ⟨rfl, rfl⟩
    go_wp2_with (fail)
    refine (rin_of src 281474976710655 _ h2 _).mono ?_
    rintro e w1 ⟨rfl, rfl⟩
    go_wp2_with (fail)
    refine (rin_of 0 7 _ h3 _).mono ?_
    rintro e w1 ⟨rfl, rfl⟩
    go_wp2_with (fail)
    refine (rin_of 0 4094 _ h4 _).mono ?_
    rintro e w1 ⟨rfl, rfl⟩
    go_wp2_with (fail)
    refine (rin_of seq 65535 _ h5 _).mono ?_
    rintro e w1 ⟨rfl, rfl⟩
    go_wp2_with (fail)
    go_ret
    refine ⟨ret_b ?_, (by repeat' (first | exact Below.refl _ _ | assumption | refine below_drewN ?_ _ | refine Below.drew ?_ | refine Below.alloc ?_ (by (first | exact Nat.le_refl _ | assumption | (simp; done) | omega | (simp; omega))) _ | refine Below.setCell ?_ (by (first | exact Nat.le_refl _ | assumption | (simp; done) | omega | (simp; omega))) _ | refine Below.trans ?_ (Below.mono (by assumption) (by (first | exact Nat.le_refl _ | assumption | (simp; done) | omega | (simp; omega))))))⟩
    have hr := HR.out
    unfold Fr.okP at hr
    (symm; rw [Bool.eq_iff_iff, hr]; simp [t0, t3, t4] <;> omega)
set_option maxHeartbeats 8000000 in
theorem right4 (dst src prio vid seq type : Int) (data : ByteArray) (r : Bool) (hr : r = true ↔ Fr.okP dst src prio vid seq type data.size 7 4094 65535 1494) (hs : data.size ≤ 9000000000000000000) (w : World) :
    Calls Try.prog 38 #[.agg #[.int .i64 dst, .int .i64 src, .bool true, .int .i64 prio, .int .i64 vid, .bool true, .int .i64 seq, .int .i64 type, .string data]] w fun e w' => e = .returned (.bool r) ∧ Below w.heap.size w w' := by
  have HR := Lib.hid hr; clear hr
  rcases h1 : inB dst 281474976710655 with _ | _
  · have g1 : ¬ (0 ≤ dst ∧ dst ≤ 281474976710655) := of_decide_eq_false h1
    go_enter Try.func38, Try.ntmps38
    go_wp2_with (fail)
    refine (rin_of dst 281474976710655 _ h1 _).mono ?_
    rintro e w1 ⟨rfl, rfl⟩
    go_wp2_with (fail)
    go_ret
    refine ⟨ret_b ?_, (by repeat' (first | exact Below.refl _ _ | assumption | refine below_drewN ?_ _ | refine Below.drew ?_ | refine Below.alloc ?_ (by (first | exact Nat.le_refl _ | assumption | (simp; done) | omega | (simp; omega))) _ | refine Below.setCell ?_ (by (first | exact Nat.le_refl _ | assumption | (simp; done) | omega | (simp; omega))) _ | refine Below.trans ?_ (Below.mono (by assumption) (by (first | exact Nat.le_refl _ | assumption | (simp; done) | omega | (simp; omega))))))⟩
    have hr := HR.out
    unfold Fr.okP at hr
    (symm; rw [← Bool.not_eq_true, hr]; omega)
  have g1 : 0 ≤ dst ∧ dst ≤ 281474976710655 := of_decide_eq_true h1
  rcases h2 : inB src 281474976710655 with _ | _
  · have g2 : ¬ (0 ≤ src ∧ src ≤ 281474976710655) := of_decide_eq_false h2
    go_enter Try.func38, Try.ntmps38
    go_wp2_with (fail)
    refine (rin_of dst 281474976710655 _ h1 _).mono ?_
    rintro e w1 ⟨rfl, rfl⟩
    go_wp2_with (fail)
    refine (rin_of src 281474976710655 _ h2 _).mono ?_
    rintro e w1 ⟨rfl, rfl⟩
    go_wp2_with (fail)
    go_ret
    refine ⟨ret_b ?_, (by repeat' (first | exact Below.refl _ _ | assumption | refine below_drewN ?_ _ | refine Below.drew ?_ | refine Below.alloc ?_ (by (first | exact Nat.le_refl _ | assumption | (simp; done) | omega | (simp; omega))) _ | refine Below.setCell ?_ (by (first | exact Nat.le_refl _ | assumption | (simp; done) | omega | (simp; omega))) _ | refine Below.trans ?_ (Below.mono (by assumption) (by (first | exact Nat.le_refl _ | assumption | (simp; done) | omega | (simp; omega))))))⟩
    have hr := HR.out
    unfold Fr.okP at hr
    (symm; rw [← Bool.not_eq_true, hr]; omega)
  have g2 : 0 ≤ src ∧ src ≤ 281474976710655 := of_decide_eq_true h2
  rcases h3 : inB prio 7 with _ | _
  · have g3 : ¬ (0 ≤ prio ∧ prio ≤ 7) := of_decide_eq_false h3
    go_enter Try.func38, Try.ntmps38
    go_wp2_with (fail)
    refine (rin_of dst 281474976710655 _ h1 _).mono ?_
    rintro e w1 ⟨rfl, rfl⟩
    go_wp2_with (fail)
    refine (rin_of src 281474976710655 _ h2 _).mono ?_
    rintro e w1 ⟨rfl, rfl⟩
    go_wp2_with (fail)
    refine (rin_of prio 7 _ h3 _).mono ?_
    rintro e w1 ⟨rfl, rfl⟩
    go_wp2_with (fail)
    go_ret
    refine ⟨ret_b ?_, (by repeat' (first | exact Below.refl _ _ | assumption | refine below_drewN ?_ _ | refine Below.drew ?_ | refine Below.alloc ?_ (by (first | exact Nat.le_refl _ | assumption | (simp; done) | omega | (simp; omega))) _ | refine Below.setCell ?_ (by (first | exact Nat.le_refl _ | assumption | (simp; done) | omega | (simp; omega))) _ | refine Below.trans ?_ (Below.mono (by assumption) (by (first | exact Nat.le_refl _ | assumption | (simp; done) | omega | (simp; omega))))))⟩
    have hr := HR.out
    unfold Fr.okP at hr
    (symm; rw [← Bool.not_eq_true, hr]; omega)
  have g3 : 0 ≤ prio ∧ prio ≤ 7 := of_decide_eq_true h3
  rcases h4 : inB vid 4094 with _ | _
  · have g4 : ¬ (0 ≤ vid ∧ vid ≤ 4094) := of_decide_eq_false h4
    go_enter Try.func38, Try.ntmps38
    go_wp2_with (fail)
    refine (rin_of dst 281474976710655 _ h1 _).mono ?_
    rintro e w1 ⟨rfl, rfl⟩
    go_wp2_with (fail)
    refine (rin_of src 281474976710655 _ h2 _).mono ?_
    rintro e w1 ⟨rfl, rfl⟩
    go_wp2_with (fail)
    refine (rin_of prio 7 _ h3 _).mono ?_
    rintro e w1 ⟨rfl, rfl⟩
    go_wp2_with (fail)
    refine (rin_of vid 4094 _ h4 _).mono ?_
    rintro e w1 ⟨rfl, rfl⟩
    go_wp2_with (fail)
    go_ret
    refine ⟨ret_b ?_, (by repeat' (first | exact Below.refl _ _ | assumption | refine below_drewN ?_ _ | refine Below.drew ?_ | refine Below.alloc ?_ (by (first | exact Nat.le_refl _ | assumption | (simp; done) | omega | (simp; omega))) _ | refine Below.setCell ?_ (by (first | exact Nat.le_refl _ | assumption | (simp; done) | omega | (simp; omega))) _ | refine Below.trans ?_ (Below.mono (by assumption) (by (first | exact Nat.le_refl _ | assumption | (simp; done) | omega | (simp; omega))))))⟩
    have hr := HR.out
    unfold Fr.okP at hr
    (symm; rw [← Bool.not_eq_true, hr]; omega)
  have g4 : 0 ≤ vid ∧ vid ≤ 4094 := of_decide_eq_true h4
  rcases h5 : inB seq 65535 with _ | _
  · have g5 : ¬ (0 ≤ seq ∧ seq ≤ 65535) := of_decide_eq_false h5
    go_enter Try.func38, Try.ntmps38
    go_wp2_with (fail)
    refine (rin_of dst 281474976710655 _ h1 _).mono ?_
    rintro e w1 ⟨rfl, rfl⟩
    go_wp2_with (fail)
    refine (rin_of src 281474976710655 _ h2 _).mono ?_
    rintro e w1 ⟨rfl, rfl⟩
    go_wp2_with (fail)
    refine (rin_of prio 7 _ h3 _).mono ?_
    rintro e w1 ⟨rfl, rfl⟩
    go_wp2_with (fail)
    refine (rin_of vid 4094 _ h4 _).mono ?_
    rintro e w1 ⟨rfl, rfl⟩
    go_wp2_with (fail)
    refine (rin_of seq 65535 _ h5 _).mono ?_
    rintro e w1 ⟨rfl, rfl⟩
    go_wp2_with (fail)
    go_ret
    refine ⟨ret_b ?_, (by repeat' (first | exact Below.refl _ _ | assumption | refine below_drewN ?_ _ | refine Below.drew ?_ | refine Below.alloc ?_ (by (first | exact Nat.le_refl _ | assumption | (simp; done) | omega | (simp; omega))) _ | refine Below.setCell ?_ (by (first | exact Nat.le_refl _ | assumption | (simp; done) | omega | (simp; omega))) _ | refine Below.trans ?_ (Below.mono (by assumption) (by (first | exact Nat.le_refl _ | assumption | (simp; done) | omega | (simp; omega))))))⟩
    have hr := HR.out
    unfold Fr.okP at hr
    (symm; rw [← Bool.not_eq_true, hr]; omega)
  have g5 : 0 ≤ seq ∧ seq ≤ 65535 := of_decide_eq_true h5
  by_cases t0 : type = 0
  · subst t0
    go_enter Try.func38, Try.ntmps38
    go_wp2_with (fail)
    refine (rin_of dst 281474976710655 _ h1 _).mono ?_
    rintro e w1 ⟨rfl, rfl⟩
    go_wp2_with (fail)
    refine (rin_of src 281474976710655 _ h2 _).mono ?_
    rintro e w1 ⟨rfl, rfl⟩
    go_wp2_with (fail)
    refine (rin_of prio 7 _ h3 _).mono ?_
    rintro e w1 ⟨rfl, rfl⟩
    go_wp2_with (fail)
    refine (rin_of vid 4094 _ h4 _).mono ?_
    rintro e w1 ⟨rfl, rfl⟩
    go_wp2_with (fail)
    refine (rin_of seq 65535 _ h5 _).mono ?_
    rintro e w1 ⟨rfl, rfl⟩
    go_wp2_with (fail)
    go_ret
    refine ⟨ret_b ?_, (by repeat' (first | exact Below.refl _ _ | assumption | refine below_drewN ?_ _ | refine Below.drew ?_ | refine Below.alloc ?_ (by (first | exact Nat.le_refl _ | assumption | (simp; done) | omega | (simp; omega))) _ | refine Below.setCell ?_ (by (first | exact Nat.le_refl _ | assumption | (simp; done) | omega | (simp; omega))) _ | refine Below.trans ?_ (Below.mono (by assumption) (by (first | exact Nat.le_refl _ | assumption | (simp; done) | omega | (simp; omega))))))⟩
    have hr := HR.out
    unfold Fr.okP at hr
    (symm; rw [Bool.eq_iff_iff, hr, decide_eq_true_iff]; omega)
  by_cases t1 : 1536 ≤ type
  rotate_left
  · go_enter Try.func38, Try.ntmps38
    go_wp2_with (fail)
    refine (rin_of dst 281474976710655 _ h1 _).mono ?_
    rintro e w1 ⟨rfl, rfl⟩
    go_wp2_with (fail)
    refine (rin_of src 281474976710655 _ h2 _).mono ?_
    rintro e w1 ⟨rfl, rfl⟩
    go_wp2_with (fail)
    refine (rin_of prio 7 _ h3 _).mono ?_
    rintro e w1 ⟨rfl, rfl⟩
    go_wp2_with (fail)
    refine (rin_of vid 4094 _ h4 _).mono ?_
    rintro e w1 ⟨rfl, rfl⟩
    go_wp2_with (fail)
    refine (rin_of seq 65535 _ h5 _).mono ?_
    rintro e w1 ⟨rfl, rfl⟩
    go_wp2_with (fail)
    go_ret
    refine ⟨ret_b ?_, (by repeat' (first | exact Below.refl _ _ | assumption | refine below_drewN ?_ _ | refine Below.drew ?_ | refine Below.alloc ?_ (by (first | exact Nat.le_refl _ | assumption | (simp; done) | omega | (simp; omega))) _ | refine Below.setCell ?_ (by (first | exact Nat.le_refl _ | assumption | (simp; done) | omega | (simp; omega))) _ | refine Below.trans ?_ (Below.mono (by assumption) (by (first | exact Nat.le_refl _ | assumption | (simp; done) | omega | (simp; omega))))))⟩
    have hr := HR.out
    unfold Fr.okP at hr
    (symm; rw [← Bool.not_eq_true, hr]; omega)
  by_cases t2 : type ≤ 65535
  rotate_left
  · go_enter Try.func38, Try.ntmps38
    go_wp2_with (fail)
    refine (rin_of dst 281474976710655 _ h1 _).mono ?_
    rintro e w1 ⟨rfl, rfl⟩
    go_wp2_with (fail)
    refine (rin_of src 281474976710655 _ h2 _).mono ?_
    rintro e w1 ⟨rfl, rfl⟩
    go_wp2_with (fail)
    refine (rin_of prio 7 _ h3 _).mono ?_
    rintro e w1 ⟨rfl, rfl⟩
    go_wp2_with (fail)
    refine (rin_of vid 4094 _ h4 _).mono ?_
    rintro e w1 ⟨rfl, rfl⟩
    go_wp2_with (fail)
    refine (rin_of seq 65535 _ h5 _).mono ?_
    rintro e w1 ⟨rfl, rfl⟩
    go_wp2_with (fail)
    go_ret
    refine ⟨ret_b ?_, (by repeat' (first | exact Below.refl _ _ | assumption | refine below_drewN ?_ _ | refine Below.drew ?_ | refine Below.alloc ?_ (by (first | exact Nat.le_refl _ | assumption | (simp; done) | omega | (simp; omega))) _ | refine Below.setCell ?_ (by (first | exact Nat.le_refl _ | assumption | (simp; done) | omega | (simp; omega))) _ | refine Below.trans ?_ (Below.mono (by assumption) (by (first | exact Nat.le_refl _ | assumption | (simp; done) | omega | (simp; omega))))))⟩
    have hr := HR.out
    unfold Fr.okP at hr
    (symm; rw [← Bool.not_eq_true, hr]; omega)
  by_cases t3 : type = 33024
  · subst t3
    go_enter Try.func38, Try.ntmps38
    go_wp2_with (fail)
    refine (rin_of dst 281474976710655 _ h1 _).mono ?_
    rintro e w1 ⟨rfl, rfl⟩
    go_wp2_with (fail)
    refine (rin_of src 281474976710655 _ h2 _).mono ?_
    rintro e w1 ⟨rfl, rfl⟩
    go_wp2_with (fail)
    refine (rin_of prio 7 _ h3 _).mono ?_
    rintro e w1 ⟨rfl, rfl⟩
    go_wp2_with (fail)
    refine (rin_of vid 4094 _ h4 _).mono ?_
    rintro e w1 ⟨rfl, rfl⟩
    go_wp2_with (fail)
    refine (rin_of seq 65535 _ h5 _).mono ?_
    rintro e w1 ⟨rfl, rfl⟩
    go_wp2_with (fail)
    go_ret
    refine ⟨ret_b ?_, (by repeat' (first | exact Below.refl _ _ | assumption | refine below_drewN ?_ _ | refine Below.drew ?_ | refine Below.alloc ?_ (by (first | exact Nat.le_refl _ | assumption | (simp; done) | omega | (simp; omega))) _ | refine Below.setCell ?_ (by (first | exact Nat.le_refl _ | assumption | (simp; done) | omega | (simp; omega))) _ | refine Below.trans ?_ (Below.mono (by assumption) (by (first | exact Nat.le_refl _ | assumption | (simp; done) | omega | (simp; omega))))))⟩
    have hr := HR.out
    unfold Fr.okP at hr
    (symm; rw [← Bool.not_eq_true, hr]; omega)
  by_cases t4 : type = 61889
  · subst t4
    go_enter Try.func38, Try.ntmps38
    go_wp2_with (fail)
    refine (rin_of dst 281474976710655 _ h1 _).mono ?_
    rintro e w1 ⟨rfl, rfl⟩
    go_wp2_with (fail)
    refine (rin_of src 281474976710655 _ h2 _).mono ?_
    rintro e w1 ⟨rfl, rfl⟩
    go_wp2_with (fail)
    refine (rin_of prio 7 _ h3 _).mono ?_
    rintro e w1 ⟨rfl, rfl⟩
    go_wp2_with (fail)
    refine (rin_of vid 4094 _ h4 _).mono ?_
    rintro e w1 ⟨rfl, rfl⟩
    go_wp2_with (fail)
    refine (rin_of seq 65535 _ h5 _).mono ?_
    rintro e w1 ⟨rfl, rfl⟩
    go_wp2_with (fail)
    go_ret
    refine ⟨ret_b ?_, (by repeat' (first | exact Below.refl _ _ | assumption | refine below_drewN ?_ _ | refine Below.drew ?_ | refine Below.alloc ?_ (by (first | exact Nat.le_refl _ | assumption | (simp; done) | omega | (simp; omega))) _ | refine Below.setCell ?_ (by (first | exact Nat.le_refl _ | assumption | (simp; done) | omega | (simp; omega))) _ | refine Below.trans ?_ (Below.mono (by assumption) (by (first | exact Nat.le_refl _ | assumption | (simp; done) | omega | (simp; omega))))))⟩
    have hr := HR.out
    unfold Fr.okP at hr
    (symm; rw [← Bool.not_eq_true, hr]; omega)
  · go_enter Try.func38, Try.ntmps38
    go_wp2_with (fail)
    refine (rin_of dst 281474976710655 _ h1 _).mono ?_
    rintro e w1 ⟨rfl, rfl⟩
    go_wp2_with (fail)
    refine (rin_of src 281474976710655 _ h2 _).mono ?_
    rintro e w1 ⟨rfl, rfl⟩
    go_wp2_with (fail)
    refine (rin_of prio 7 _ h3 _).mono ?_
    rintro e w1 ⟨rfl, rfl⟩
    go_wp2_with (fail)
    refine (rin_of vid 4094 _ h4 _).mono ?_
    rintro e w1 ⟨rfl, rfl⟩
    go_wp2_with (fail)
    refine (rin_of seq 65535 _ h5 _).mono ?_
    rintro e w1 ⟨rfl, rfl⟩
    go_wp2_with (fail)
    go_ret
    refine ⟨ret_b ?_, (by repeat' (first | exact Below.refl _ _ | assumption | refine below_drewN ?_ _ | refine Below.drew ?_ | refine Below.alloc ?_ (by (first | exact Nat.le_refl _ | assumption | (simp; done) | omega | (simp; omega))) _ | refine Below.setCell ?_ (by (first | exact Nat.le_refl _ | assumption | (simp; done) | omega | (simp; omega))) _ | refine Below.trans ?_ (Below.mono (by assumption) (by (first | exact Nat.le_refl _ | assumption | (simp; done) | omega | (simp; omega))))))⟩
    have hr := HR.out
    unfold Fr.okP at hr
    (symm; rw [Bool.eq_iff_iff, hr]; simp [t0, t3, t4] <;> omega)
theorem Right_any (f : Fr) (hs : f.data.size ≤ 9000000000000000000) (w : World) :
    Calls Try.prog 38 #[.agg #[.int .i64 f.dst, .int .i64 f.src, .bool f.tag, .int .i64 f.prio, .int .i64 f.vid, .bool f.hseq, .int .i64 f.seq, .int .i64 f.type, .string f.data]] w fun e w' => e = .returned (.bool f.ok) ∧ Below w.heap.size w w' := by
  have hf := f.ok_iff
  obtain ⟨dst, src, tag, prio, vid, hseq, seq, type, data⟩ := f
  cases tag <;> cases hseq
  · exact right1 dst src prio vid seq type data _ hf hs w
  · exact right3 dst src prio vid seq type data _ hf hs w
  · exact right2 dst src prio vid seq type data _ hf hs w
  · exact right4 dst src prio vid seq type data _ hf hs w
theorem RCheck_any (f : Fr) (hs : f.data.size ≤ 9000000000000000000) (w : World) :
    Calls Try.prog 22 #[.agg #[.int .i64 f.dst, .int .i64 f.src, .bool f.tag, .int .i64 f.prio, .int .i64 f.vid, .bool f.hseq, .int .i64 f.seq, .int .i64 f.type, .string f.data]] w fun e w' => e = .returned (.int .i64 f.code) ∧ Below w.heap.size w w' := by
  rcases h : f.ok with _ | _
  all_goals
    have hR := fun W => Right_any f hs W
    rw [h] at hR
    have HR := Lib.hid hR; clear hR
    unfold Fr.code
    rw [h]
    go_enter Try.func22, Try.ntmps22
    go_wp2_with (fail)
    refine (HR.out _).mono ?_
    rintro e w1 ⟨rfl, hb1⟩
    have z1 := hb1.size
    simp at z1
    go_wp2_with (fail)
    go_ret
    exact ⟨rfl, (by repeat' (first | exact Below.refl _ _ | assumption | refine below_drewN ?_ _ | refine Below.drew ?_ | refine Below.alloc ?_ (by (first | exact Nat.le_refl _ | assumption | (simp; done) | omega | (simp; omega))) _ | refine Below.setCell ?_ (by (first | exact Nat.le_refl _ | assumption | (simp; done) | omega | (simp; omega))) _ | refine Below.trans ?_ (Below.mono (by assumption) (by (first | exact Nat.le_refl _ | assumption | (simp; done) | omega | (simp; omega))))))⟩
end Go.Proofs.Ytccdhoboidneeaa
