/-
  Contracts of frame.Check and of the reference's Right and Check.
-/
import Derived.Test.YtccdhoboidneeaaFrameMath
import Derived.Test.YtccdhoboidneeaaShelf
namespace Go.Proofs.Ytccdhoboidneeaa
open Go.RowKit
set_option linter.unusedVariables false

/-- A frame as a value. -/
@[reducible] def Fr.v (f : Fr) : Value := .agg #[.int .i64 f.dst, .int .i64 f.src, .bool f.tag, .int .i64 f.prio, .int .i64 f.vid, .bool f.hseq, .int .i64 f.seq, .int .i64 f.type, .string f.data]
theorem code_ok {f : Fr} (h : f.ok = true) : (0 : Int) = f.code := by unfold Fr.code; rw [if_pos h]
theorem code_no {f : Fr} (h : ¬ f.ok = true) : (170 : Int) = f.code := by unfold Fr.code; rw [if_neg h]
theorem ret_i {k : IntKind} {a b : Int} (h : a = b) : Ending.returned (.int k a) = .returned (.int k b) := by rw [h]

theorem inside_yes (n m : Int) (h0 : 0 ≤ n) (h1 : n ≤ m) (w : World) : Calls Try.prog 36 #[.int .i64 n, .int .i64 m] w fun e w' => e = .returned (.bool true) ∧ w = w' := by
  go_enter Try.func36, Try.ntmps36
  go_wp2
  go_ret
  exact ⟨rfl, rfl⟩
theorem inside_no (n m : Int) (h : ¬ (0 ≤ n ∧ n ≤ m)) (w : World) : Calls Try.prog 36 #[.int .i64 n, .int .i64 m] w fun e w' => e = .returned (.bool false) ∧ w = w' := by
  by_cases h0 : 0 ≤ n
  · have h1 : ¬ n ≤ m := fun e => h ⟨h0, e⟩
    clear h
    go_enter Try.func36, Try.ntmps36
    go_wp2
    go_ret
    exact ⟨rfl, rfl⟩
  · clear h
    go_enter Try.func36, Try.ntmps36
    go_wp2
    go_ret
    exact ⟨rfl, rfl⟩
theorem rin_yes (n m : Int) (h0 : 0 ≤ n) (h1 : n ≤ m) (w : World) : Calls Try.prog 54 #[.int .i64 n, .int .i64 m] w fun e w' => e = .returned (.bool true) ∧ w = w' := by
  go_enter Try.func54, Try.ntmps54
  go_wp2
  go_ret
  exact ⟨rfl, rfl⟩
theorem rin_no (n m : Int) (h : ¬ (0 ≤ n ∧ n ≤ m)) (w : World) : Calls Try.prog 54 #[.int .i64 n, .int .i64 m] w fun e w' => e = .returned (.bool false) ∧ w = w' := by
  by_cases h0 : 0 ≤ n
  · have h1 : ¬ n ≤ m := fun e => h ⟨h0, e⟩
    clear h
    go_enter Try.func54, Try.ntmps54
    go_wp2
    go_ret
    exact ⟨rfl, rfl⟩
  · clear h
    go_enter Try.func54, Try.ntmps54
    go_wp2
    go_ret
    exact ⟨rfl, rfl⟩
def inB (n m : Int) : Bool := decide (0 ≤ n ∧ n ≤ m)
theorem inside_of (n m : Int) (b : Bool) (h : inB n m = b) (w : World) : Calls Try.prog 36 #[.int .i64 n, .int .i64 m] w fun e w' => e = .returned (.bool b) ∧ w = w' := by
  unfold inB at h
  cases b
  · exact inside_no n m (of_decide_eq_false h) w
  · obtain ⟨h0, h1⟩ := of_decide_eq_true h; exact inside_yes n m h0 h1 w
theorem rin_of (n m : Int) (b : Bool) (h : inB n m = b) (w : World) : Calls Try.prog 54 #[.int .i64 n, .int .i64 m] w fun e w' => e = .returned (.bool b) ∧ w = w' := by
  unfold inB at h
  cases b
  · exact rin_no n m (of_decide_eq_false h) w
  · obtain ⟨h0, h1⟩ := of_decide_eq_true h; exact rin_yes n m h0 h1 w

theorem Fr.ok_b (f : Fr) : f.ok = (inB f.dst 281474976710655 && (inB f.src 281474976710655 && (inB f.prio (if f.tag then 7 else 0) && (inB f.vid (if f.tag then 4094 else 0) && (inB f.seq (if f.hseq then 65535 else 0) &&
    (decide (f.type = 0 ∨ (1536 ≤ f.type ∧ f.type ≤ 65535)) && (decide (f.type ≠ 33024) && (decide (f.type ≠ 61889) && decide ((f.data.size : Int) ≤ if f.hseq then 1494 else 1500))))))))) := by
  unfold Fr.ok inB
  simp only [Bool.decide_and]

theorem check1 (dst src prio vid seq type : Int) (data : ByteArray) (r : Int) (hr : r = if (inB dst 281474976710655 && (inB src 281474976710655 && (inB prio 0 && (inB vid 0 && (inB seq 0 && (decide (type = 0 ∨ (1536 ≤ type ∧ type ≤ 65535)) && (decide (type ≠ 33024) && (decide (type ≠ 61889) && decide ((data.size : Int) ≤ 1500))))))))) then 0 else 170) (hs : data.size ≤ 9000000000000000000) (w : World) :
    Calls Try.prog 14 #[.agg #[.int .i64 dst, .int .i64 src, .bool false, .int .i64 prio, .int .i64 vid, .bool false, .int .i64 seq, .int .i64 type, .string data]] w fun e w' => e = .returned (.int .i64 r) ∧ Below w.heap.size w w' := by
  have HR := Lib.hid hr; clear hr
  rcases h1 : inB dst 281474976710655 with _ | _
  · go_enter Try.func14, Try.ntmps14
    go_wp2_with (fail)
    refine (inside_of dst 281474976710655 _ h1 _).mono ?_
    rintro e w1 ⟨rfl, rfl⟩
    go_wp2_with (fail)
    go_ret
    exact ⟨ret_i (by rw [HR.out, h1]; rfl), (by repeat' (first | exact Below.refl _ _ | assumption | refine below_drewN ?_ _ | refine Below.drew ?_ | refine Below.alloc ?_ (by (first | exact Nat.le_refl _ | assumption | (simp; done) | omega | (simp; omega))) _ | refine Below.setCell ?_ (by (first | exact Nat.le_refl _ | assumption | (simp; done) | omega | (simp; omega))) _ | refine Below.trans ?_ (Below.mono (by assumption) (by (first | exact Nat.le_refl _ | assumption | (simp; done) | omega | (simp; omega))))))⟩
  rcases h2 : inB src 281474976710655 with _ | _
  · go_enter Try.func14, Try.ntmps14
    go_wp2_with (fail)
    refine (inside_of dst 281474976710655 _ h1 _).mono ?_
    rintro e w1 ⟨rfl, rfl⟩
    go_wp2_with (fail)
    refine (inside_of src 281474976710655 _ h2 _).mono ?_
    rintro e w1 ⟨rfl, rfl⟩
    go_wp2_with (fail)
    go_ret
    exact ⟨ret_i (by rw [HR.out, h1, h2]; rfl), (by repeat' (first | exact Below.refl _ _ | assumption | refine below_drewN ?_ _ | refine Below.drew ?_ | refine Below.alloc ?_ (by (first | exact Nat.le_refl _ | assumption | (simp; done) | omega | (simp; omega))) _ | refine Below.setCell ?_ (by (first | exact Nat.le_refl _ | assumption | (simp; done) | omega | (simp; omega))) _ | refine Below.trans ?_ (Below.mono (by assumption) (by (first | exact Nat.le_refl _ | assumption | (simp; done) | omega | (simp; omega))))))⟩
  rcases h3 : inB prio 0 with _ | _
  · go_enter Try.func14, Try.ntmps14
    go_wp2_with (fail)
    refine (inside_of dst 281474976710655 _ h1 _).mono ?_
    rintro e w1 ⟨rfl, rfl⟩
    go_wp2_with (fail)
    refine (inside_of src 281474976710655 _ h2 _).mono ?_
    rintro e w1 ⟨rfl, rfl⟩
    go_wp2_with (fail)
    refine (inside_of prio 0 _ h3 _).mono ?_
    rintro e w1 ⟨rfl, rfl⟩
    go_wp2_with (fail)
    go_ret
    exact ⟨ret_i (by rw [HR.out, h1, h2, h3]; rfl), (by repeat' (first | exact Below.refl _ _ | assumption | refine below_drewN ?_ _ | refine Below.drew ?_ | refine Below.alloc ?_ (by (first | exact Nat.le_refl _ | assumption | (simp; done) | omega | (simp; omega))) _ | refine Below.setCell ?_ (by (first | exact Nat.le_refl _ | assumption | (simp; done) | omega | (simp; omega))) _ | refine Below.trans ?_ (Below.mono (by assumption) (by (first | exact Nat.le_refl _ | assumption | (simp; done) | omega | (simp; omega))))))⟩
  rcases h4 : inB vid 0 with _ | _
  · go_enter Try.func14, Try.ntmps14
    go_wp2_with (fail)
    refine (inside_of dst 281474976710655 _ h1 _).mono ?_
    rintro e w1 ⟨rfl, rfl⟩
    go_wp2_with (fail)
    refine (inside_of src 281474976710655 _ h2 _).mono ?_
    rintro e w1 ⟨rfl, rfl⟩
    go_wp2_with (fail)
    refine (inside_of prio 0 _ h3 _).mono ?_
    rintro e w1 ⟨rfl, rfl⟩
    go_wp2_with (fail)
    refine (inside_of vid 0 _ h4 _).mono ?_
    rintro e w1 ⟨rfl, rfl⟩
    go_wp2_with (fail)
    go_ret
    exact ⟨ret_i (by rw [HR.out, h1, h2, h3, h4]; rfl), (by repeat' (first | exact Below.refl _ _ | assumption | refine below_drewN ?_ _ | refine Below.drew ?_ | refine Below.alloc ?_ (by (first | exact Nat.le_refl _ | assumption | (simp; done) | omega | (simp; omega))) _ | refine Below.setCell ?_ (by (first | exact Nat.le_refl _ | assumption | (simp; done) | omega | (simp; omega))) _ | refine Below.trans ?_ (Below.mono (by assumption) (by (first | exact Nat.le_refl _ | assumption | (simp; done) | omega | (simp; omega))))))⟩
  rcases h5 : inB seq 0 with _ | _
  · go_enter Try.func14, Try.ntmps14
    go_wp2_with (fail)
    refine (inside_of dst 281474976710655 _ h1 _).mono ?_
    rintro e w1 ⟨rfl, rfl⟩
    go_wp2_with (fail)
    refine (inside_of src 281474976710655 _ h2 _).mono ?_
    rintro e w1 ⟨rfl, rfl⟩
    go_wp2_with (fail)
    refine (inside_of prio 0 _ h3 _).mono ?_
    rintro e w1 ⟨rfl, rfl⟩
    go_wp2_with (fail)
    refine (inside_of vid 0 _ h4 _).mono ?_
    rintro e w1 ⟨rfl, rfl⟩
    go_wp2_with (fail)
    refine (inside_of seq 0 _ h5 _).mono ?_
    rintro e w1 ⟨rfl, rfl⟩
    go_wp2_with (fail)
    go_ret
    exact ⟨ret_i (by rw [HR.out, h1, h2, h3, h4, h5]; rfl), (by repeat' (first | exact Below.refl _ _ | assumption | refine below_drewN ?_ _ | refine Below.drew ?_ | refine Below.alloc ?_ (by (first | exact Nat.le_refl _ | assumption | (simp; done) | omega | (simp; omega))) _ | refine Below.setCell ?_ (by (first | exact Nat.le_refl _ | assumption | (simp; done) | omega | (simp; omega))) _ | refine Below.trans ?_ (Below.mono (by assumption) (by (first | exact Nat.le_refl _ | assumption | (simp; done) | omega | (simp; omega))))))⟩
  go_enter Try.func14, Try.ntmps14
  go_wp2_with (fail)
  refine (inside_of dst 281474976710655 _ h1 _).mono ?_
  rintro e w1 ⟨rfl, rfl⟩
  go_wp2_with (fail)
  refine (inside_of src 281474976710655 _ h2 _).mono ?_
  rintro e w1 ⟨rfl, rfl⟩
  go_wp2_with (fail)
  refine (inside_of prio 0 _ h3 _).mono ?_
  rintro e w1 ⟨rfl, rfl⟩
  go_wp2_with (fail)
  refine (inside_of vid 0 _ h4 _).mono ?_
  rintro e w1 ⟨rfl, rfl⟩
  go_wp2_with (fail)
  refine (inside_of seq 0 _ h5 _).mono ?_
  rintro e w1 ⟨rfl, rfl⟩
  go_wp2_with (fail)
  all_goals
    go_ret
    try simp only [beq_eq_false_iff_ne, bne_eq_false_iff_eq, beq_iff_eq, bne_iff_ne, ne_eq] at *
    first
    | exact ⟨ret_i (by rw [HR.out, h1, h2, h3, h4, h5, if_pos (by simp; omega)]), (by repeat' (first | exact Below.refl _ _ | assumption | refine below_drewN ?_ _ | refine Below.drew ?_ | refine Below.alloc ?_ (by (first | exact Nat.le_refl _ | assumption | (simp; done) | omega | (simp; omega))) _ | refine Below.setCell ?_ (by (first | exact Nat.le_refl _ | assumption | (simp; done) | omega | (simp; omega))) _ | refine Below.trans ?_ (Below.mono (by assumption) (by (first | exact Nat.le_refl _ | assumption | (simp; done) | omega | (simp; omega))))))⟩
    | exact ⟨ret_i (by rw [HR.out, h1, h2, h3, h4, h5, if_neg (by simp; omega)]), (by repeat' (first | exact Below.refl _ _ | assumption | refine below_drewN ?_ _ | refine Below.drew ?_ | refine Below.alloc ?_ (by (first | exact Nat.le_refl _ | assumption | (simp; done) | omega | (simp; omega))) _ | refine Below.setCell ?_ (by (first | exact Nat.le_refl _ | assumption | (simp; done) | omega | (simp; omega))) _ | refine Below.trans ?_ (Below.mono (by assumption) (by (first | exact Nat.le_refl _ | assumption | (simp; done) | omega | (simp; omega))))))⟩
theorem check2 (dst src prio vid seq type : Int) (data : ByteArray) (r : Int) (hr : r = if (inB dst 281474976710655 && (inB src 281474976710655 && (inB prio 7 && (inB vid 4094 && (inB seq 0 && (decide (type = 0 ∨ (1536 ≤ type ∧ type ≤ 65535)) && (decide (type ≠ 33024) && (decide (type ≠ 61889) && decide ((data.size : Int) ≤ 1500))))))))) then 0 else 170) (hs : data.size ≤ 9000000000000000000) (w : World) :
    Calls Try.prog 14 #[.agg #[.int .i64 dst, .int .i64 src, .bool true, .int .i64 prio, .int .i64 vid, .bool false, .int .i64 seq, .int .i64 type, .string data]] w fun e w' => e = .returned (.int .i64 r) ∧ Below w.heap.size w w' := by
  have HR := Lib.hid hr; clear hr
  rcases h1 : inB dst 281474976710655 with _ | _
  · go_enter Try.func14, Try.ntmps14
    go_wp2_with (fail)
    refine (inside_of dst 281474976710655 _ h1 _).mono ?_
    rintro e w1 ⟨rfl, rfl⟩
    go_wp2_with (fail)
    go_ret
    exact ⟨ret_i (by rw [HR.out, h1]; rfl), (by repeat' (first | exact Below.refl _ _ | assumption | refine below_drewN ?_ _ | refine Below.drew ?_ | refine Below.alloc ?_ (by (first | exact Nat.le_refl _ | assumption | (simp; done) | omega | (simp; omega))) _ | refine Below.setCell ?_ (by (first | exact Nat.le_refl _ | assumption | (simp; done) | omega | (simp; omega))) _ | refine Below.trans ?_ (Below.mono (by assumption) (by (first | exact Nat.le_refl _ | assumption | (simp; done) | omega | (simp; omega))))))⟩
  rcases h2 : inB src 281474976710655 with _ | _
  · go_enter Try.func14, Try.ntmps14
    go_wp2_with (fail)
    refine (inside_of dst 281474976710655 _ h1 _).mono ?_
    rintro e w1 ⟨rfl, rfl⟩
    go_wp2_with (fail)
    refine (inside_of src 281474976710655 _ h2 _).mono ?_
    rintro e w1 ⟨rfl, rfl⟩
    go_wp2_with (fail)
    go_ret
    exact ⟨ret_i (by rw [HR.out, h1, h2]; rfl), (by repeat' (first | exact Below.refl _ _ | assumption | refine below_drewN ?_ _ | refine Below.drew ?_ | refine Below.alloc ?_ (by (first | exact Nat.le_refl _ | assumption | (simp; done) | omega | (simp; omega))) _ | refine Below.setCell ?_ (by (first | exact Nat.le_refl _ | assumption | (simp; done) | omega | (simp; omega))) _ | refine Below.trans ?_ (Below.mono (by assumption) (by (first | exact Nat.le_refl _ | assumption | (simp; done) | omega | (simp; omega))))))⟩
  rcases h3 : inB prio 7 with _ | _
  · go_enter Try.func14, Try.ntmps14
    go_wp2_with (fail)
    refine (inside_of dst 281474976710655 _ h1 _).mono ?_
    rintro e w1 ⟨rfl, rfl⟩
    go_wp2_with (fail)
    refine (inside_of src 281474976710655 _ h2 _).mono ?_
    rintro e w1 ⟨rfl, rfl⟩
    go_wp2_with (fail)
    refine (inside_of prio 7 _ h3 _).mono ?_
    rintro e w1 ⟨rfl, rfl⟩
    go_wp2_with (fail)
    go_ret
    exact ⟨ret_i (by rw [HR.out, h1, h2, h3]; rfl), (by repeat' (first | exact Below.refl _ _ | assumption | refine below_drewN ?_ _ | refine Below.drew ?_ | refine Below.alloc ?_ (by (first | exact Nat.le_refl _ | assumption | (simp; done) | omega | (simp; omega))) _ | refine Below.setCell ?_ (by (first | exact Nat.le_refl _ | assumption | (simp; done) | omega | (simp; omega))) _ | refine Below.trans ?_ (Below.mono (by assumption) (by (first | exact Nat.le_refl _ | assumption | (simp; done) | omega | (simp; omega))))))⟩
  rcases h4 : inB vid 4094 with _ | _
  · go_enter Try.func14, Try.ntmps14
    go_wp2_with (fail)
    refine (inside_of dst 281474976710655 _ h1 _).mono ?_
    rintro e w1 ⟨rfl, rfl⟩
    go_wp2_with (fail)
    refine (inside_of src 281474976710655 _ h2 _).mono ?_
    rintro e w1 ⟨rfl, rfl⟩
    go_wp2_with (fail)
    refine (inside_of prio 7 _ h3 _).mono ?_
    rintro e w1 ⟨rfl, rfl⟩
    go_wp2_with (fail)
    refine (inside_of vid 4094 _ h4 _).mono ?_
    rintro e w1 ⟨rfl, rfl⟩
    go_wp2_with (fail)
    go_ret
    exact ⟨ret_i (by rw [HR.out, h1, h2, h3, h4]; rfl), (by repeat' (first | exact Below.refl _ _ | assumption | refine below_drewN ?_ _ | refine Below.drew ?_ | refine Below.alloc ?_ (by (first | exact Nat.le_refl _ | assumption | (simp; done) | omega | (simp; omega))) _ | refine Below.setCell ?_ (by (first | exact Nat.le_refl _ | assumption | (simp; done) | omega | (simp; omega))) _ | refine Below.trans ?_ (Below.mono (by assumption) (by (first | exact Nat.le_refl _ | assumption | (simp; done) | omega | (simp; omega))))))⟩
  rcases h5 : inB seq 0 with _ | _
  · go_enter Try.func14, Try.ntmps14
    go_wp2_with (fail)
    refine (inside_of dst 281474976710655 _ h1 _).mono ?_
    rintro e w1 ⟨rfl, rfl⟩
    go_wp2_with (fail)
    refine (inside_of src 281474976710655 _ h2 _).mono ?_
    rintro e w1 ⟨rfl, rfl⟩
    go_wp2_with (fail)
    refine (inside_of prio 7 _ h3 _).mono ?_
    rintro e w1 ⟨rfl, rfl⟩
    go_wp2_with (fail)
    refine (inside_of vid 4094 _ h4 _).mono ?_
    rintro e w1 ⟨rfl, rfl⟩
    go_wp2_with (fail)
    refine (inside_of seq 0 _ h5 _).mono ?_
    rintro e w1 ⟨rfl, rfl⟩
    go_wp2_with (fail)
    go_ret
    exact ⟨ret_i (by rw [HR.out, h1, h2, h3, h4, h5]; rfl), (by repeat' (first | exact Below.refl _ _ | assumption | refine below_drewN ?_ _ | refine Below.drew ?_ | refine Below.alloc ?_ (by (first | exact Nat.le_refl _ | assumption | (simp; done) | omega | (simp; omega))) _ | refine Below.setCell ?_ (by (first | exact Nat.le_refl _ | assumption | (simp; done) | omega | (simp; omega))) _ | refine Below.trans ?_ (Below.mono (by assumption) (by (first | exact Nat.le_refl _ | assumption | (simp; done) | omega | (simp; omega))))))⟩
  go_enter Try.func14, Try.ntmps14
  go_wp2_with (fail)
  refine (inside_of dst 281474976710655 _ h1 _).mono ?_
  rintro e w1 ⟨rfl, rfl⟩
  go_wp2_with (fail)
  refine (inside_of src 281474976710655 _ h2 _).mono ?_
  rintro e w1 ⟨rfl, rfl⟩
  go_wp2_with (fail)
  refine (inside_of prio 7 _ h3 _).mono ?_
  rintro e w1 ⟨rfl, rfl⟩
  go_wp2_with (fail)
  refine (inside_of vid 4094 _ h4 _).mono ?_
  rintro e w1 ⟨rfl, rfl⟩
  go_wp2_with (fail)
  refine (inside_of seq 0 _ h5 _).mono ?_
  rintro e w1 ⟨rfl, rfl⟩
  go_wp2_with (fail)
  all_goals
    go_ret
    try simp only [beq_eq_false_iff_ne, bne_eq_false_iff_eq, beq_iff_eq, bne_iff_ne, ne_eq] at *
    first
    | exact ⟨ret_i (by rw [HR.out, h1, h2, h3, h4, h5, if_pos (by simp; omega)]), (by repeat' (first | exact Below.refl _ _ | assumption | refine below_drewN ?_ _ | refine Below.drew ?_ | refine Below.alloc ?_ (by (first | exact Nat.le_refl _ | assumption | (simp; done) | omega | (simp; omega))) _ | refine Below.setCell ?_ (by (first | exact Nat.le_refl _ | assumption | (simp; done) | omega | (simp; omega))) _ | refine Below.trans ?_ (Below.mono (by assumption) (by (first | exact Nat.le_refl _ | assumption | (simp; done) | omega | (simp; omega))))))⟩
    | exact ⟨ret_i (by rw [HR.out, h1, h2, h3, h4, h5, if_neg (by simp; omega)]), (by repeat' (first | exact Below.refl _ _ | assumption | refine below_drewN ?_ _ | refine Below.drew ?_ | refine Below.alloc ?_ (by (first | exact Nat.le_refl _ | assumption | (simp; done) | omega | (simp; omega))) _ | refine Below.setCell ?_ (by (first | exact Nat.le_refl _ | assumption | (simp; done) | omega | (simp; omega))) _ | refine Below.trans ?_ (Below.mono (by assumption) (by (first | exact Nat.le_refl _ | assumption | (simp; done) | omega | (simp; omega))))))⟩
theorem check3 (dst src prio vid seq type : Int) (data : ByteArray) (r : Int) (hr : r = if (inB dst 281474976710655 && (inB src 281474976710655 && (inB prio 0 && (inB vid 0 && (inB seq 65535 && (decide (type = 0 ∨ (1536 ≤ type ∧ type ≤ 65535)) && (decide (type ≠ 33024) && (decide (type ≠ 61889) && decide ((data.size : Int) ≤ 1494))))))))) then 0 else 170) (hs : data.size ≤ 9000000000000000000) (w : World) :
    Calls Try.prog 14 #[.agg #[.int .i64 dst, .int .i64 src, .bool false, .int .i64 prio, .int .i64 vid, .bool true, .int .i64 seq, .int .i64 type, .string data]] w fun e w' => e = .returned (.int .i64 r) ∧ Below w.heap.size w w' := by
  have HR := Lib.hid hr; clear hr
  rcases h1 : inB dst 281474976710655 with _ | _
  · go_enter Try.func14, Try.ntmps14
    go_wp2_with (fail)
    refine (inside_of dst 281474976710655 _ h1 _).mono ?_
    rintro e w1 ⟨rfl, rfl⟩
    go_wp2_with (fail)
    go_ret
    exact ⟨ret_i (by rw [HR.out, h1]; rfl), (by repeat' (first | exact Below.refl _ _ | assumption | refine below_drewN ?_ _ | refine Below.drew ?_ | refine Below.alloc ?_ (by (first | exact Nat.le_refl _ | assumption | (simp; done) | omega | (simp; omega))) _ | refine Below.setCell ?_ (by (first | exact Nat.le_refl _ | assumption | (simp; done) | omega | (simp; omega))) _ | refine Below.trans ?_ (Below.mono (by assumption) (by (first | exact Nat.le_refl _ | assumption | (simp; done) | omega | (simp; omega))))))⟩
  rcases h2 : inB src 281474976710655 with _ | _
  · go_enter Try.func14, Try.ntmps14
    go_wp2_with (fail)
    refine (inside_of dst 281474976710655 _ h1 _).mono ?_
    rintro e w1 ⟨rfl, rfl⟩
    go_wp2_with (fail)
    refine (inside_of src 281474976710655 _ h2 _).mono ?_
    rintro e w1 ⟨rfl, rfl⟩
    go_wp2_with (fail)
    go_ret
    exact ⟨ret_i (by rw [HR.out, h1, h2]; rfl), (by repeat' (first | exact Below.refl _ _ | assumption | refine below_drewN ?_ _ | refine Below.drew ?_ | refine Below.alloc ?_ (by (first | exact Nat.le_refl _ | assumption | (simp; done) | omega | (simp; omega))) _ | refine Below.setCell ?_ (by (first | exact Nat.le_refl _ | assumption | (simp; done) | omega | (simp; omega))) _ | refine Below.trans ?_ (Below.mono (by assumption) (by (first | exact Nat.le_refl _ | assumption | (simp; done) | omega | (simp; omega))))))⟩
  rcases h3 : inB prio 0 with _ | _
  · go_enter Try.func14, Try.ntmps14
    go_wp2_with (fail)
    refine (inside_of dst 281474976710655 _ h1 _).mono ?_
    rintro e w1 ⟨rfl, rfl⟩
    go_wp2_with (fail)
    refine (inside_of src 281474976710655 _ h2 _).mono ?_
    rintro e w1 ⟨rfl, rfl⟩
    go_wp2_with (fail)
    refine (inside_of prio 0 _ h3 _).mono ?_
    rintro e w1 ⟨rfl, rfl⟩
    go_wp2_with (fail)
    go_ret
    exact ⟨ret_i (by rw [HR.out, h1, h2, h3]; rfl), (by repeat' (first | exact Below.refl _ _ | assumption | refine below_drewN ?_ _ | refine Below.drew ?_ | refine Below.alloc ?_ (by (first | exact Nat.le_refl _ | assumption | (simp; done) | omega | (simp; omega))) _ | refine Below.setCell ?_ (by (first | exact Nat.le_refl _ | assumption | (simp; done) | omega | (simp; omega))) _ | refine Below.trans ?_ (Below.mono (by assumption) (by (first | exact Nat.le_refl _ | assumption | (simp; done) | omega | (simp; omega))))))⟩
  rcases h4 : inB vid 0 with _ | _
  · go_enter Try.func14, Try.ntmps14
    go_wp2_with (fail)
    refine (inside_of dst 281474976710655 _ h1 _).mono ?_
    rintro e w1 ⟨rfl, rfl⟩
    go_wp2_with (fail)
    refine (inside_of src 281474976710655 _ h2 _).mono ?_
    rintro e w1 ⟨rfl, rfl⟩
    go_wp2_with (fail)
    refine (inside_of prio 0 _ h3 _).mono ?_
    rintro e w1 ⟨rfl, rfl⟩
    go_wp2_with (fail)
    refine (inside_of vid 0 _ h4 _).mono ?_
    rintro e w1 ⟨rfl, rfl⟩
    go_wp2_with (fail)
    go_ret
    exact ⟨ret_i (by rw [HR.out, h1, h2, h3, h4]; rfl), (by repeat' (first | exact Below.refl _ _ | assumption | refine below_drewN ?_ _ | refine Below.drew ?_ | refine Below.alloc ?_ (by (first | exact Nat.le_refl _ | assumption | (simp; done) | omega | (simp; omega))) _ | refine Below.setCell ?_ (by (first | exact Nat.le_refl _ | assumption | (simp; done) | omega | (simp; omega))) _ | refine Below.trans ?_ (Below.mono (by assumption) (by (first | exact Nat.le_refl _ | assumption | (simp; done) | omega | (simp; omega))))))⟩
  rcases h5 : inB seq 65535 with _ | _
  · go_enter Try.func14, Try.ntmps14
    go_wp2_with (fail)
    refine (inside_of dst 281474976710655 _ h1 _).mono ?_
    rintro e w1 ⟨rfl, rfl⟩
    go_wp2_with (fail)
    refine (inside_of src 281474976710655 _ h2 _).mono ?_
    rintro e w1 ⟨rfl, rfl⟩
    go_wp2_with (fail)
    refine (inside_of prio 0 _ h3 _).mono ?_
    rintro e w1 ⟨rfl, rfl⟩
    go_wp2_with (fail)
    refine (inside_of vid 0 _ h4 _).mono ?_
    rintro e w1 ⟨rfl, rfl⟩
    go_wp2_with (fail)
    refine (inside_of seq 65535 _ h5 _).mono ?_
    rintro e w1 ⟨rfl, rfl⟩
    go_wp2_with (fail)
    go_ret
    exact ⟨ret_i (by rw [HR.out, h1, h2, h3, h4, h5]; rfl), (by repeat' (first | exact Below.refl _ _ | assumption | refine below_drewN ?_ _ | refine Below.drew ?_ | refine Below.alloc ?_ (by (first | exact Nat.le_refl _ | assumption | (simp; done) | omega | (simp; omega))) _ | refine Below.setCell ?_ (by (first | exact Nat.le_refl _ | assumption | (simp; done) | omega | (simp; omega))) _ | refine Below.trans ?_ (Below.mono (by assumption) (by (first | exact Nat.le_refl _ | assumption | (simp; done) | omega | (simp; omega))))))⟩
  go_enter Try.func14, Try.ntmps14
  go_wp2_with (fail)
  refine (inside_of dst 281474976710655 _ h1 _).mono ?_
  rintro e w1 ⟨rfl, rfl⟩
  go_wp2_with (fail)
  refine (inside_of src 281474976710655 _ h2 _).mono ?_
  rintro e w1 ⟨rfl, rfl⟩
  go_wp2_with (fail)
  refine (inside_of prio 0 _ h3 _).mono ?_
  rintro e w1 ⟨rfl, rfl⟩
  go_wp2_with (fail)
  refine (inside_of vid 0 _ h4 _).mono ?_
  rintro e w1 ⟨rfl, rfl⟩
  go_wp2_with (fail)
  refine (inside_of seq 65535 _ h5 _).mono ?_
  rintro e w1 ⟨rfl, rfl⟩
  go_wp2_with (fail)
  all_goals
    go_ret
    try simp only [beq_eq_false_iff_ne, bne_eq_false_iff_eq, beq_iff_eq, bne_iff_ne, ne_eq] at *
    first
    | exact ⟨ret_i (by rw [HR.out, h1, h2, h3, h4, h5, if_pos (by simp; omega)]), (by repeat' (first | exact Below.refl _ _ | assumption | refine below_drewN ?_ _ | refine Below.drew ?_ | refine Below.alloc ?_ (by (first | exact Nat.le_refl _ | assumption | (simp; done) | omega | (simp; omega))) _ | refine Below.setCell ?_ (by (first | exact Nat.le_refl _ | assumption | (simp; done) | omega | (simp; omega))) _ | refine Below.trans ?_ (Below.mono (by assumption) (by (first | exact Nat.le_refl _ | assumption | (simp; done) | omega | (simp; omega))))))⟩
    | exact ⟨ret_i (by rw [HR.out, h1, h2, h3, h4, h5, if_neg (by simp; omega)]), (by repeat' (first | exact Below.refl _ _ | assumption | refine below_drewN ?_ _ | refine Below.drew ?_ | refine Below.alloc ?_ (by (first | exact Nat.le_refl _ | assumption | (simp; done) | omega | (simp; omega))) _ | refine Below.setCell ?_ (by (first | exact Nat.le_refl _ | assumption | (simp; done) | omega | (simp; omega))) _ | refine Below.trans ?_ (Below.mono (by assumption) (by (first | exact Nat.le_refl _ | assumption | (simp; done) | omega | (simp; omega))))))⟩
theorem check4 (dst src prio vid seq type : Int) (data : ByteArray) (r : Int) (hr : r = if (inB dst 281474976710655 && (inB src 281474976710655 && (inB prio 7 && (inB vid 4094 && (inB seq 65535 && (decide (type = 0 ∨ (1536 ≤ type ∧ type ≤ 65535)) && (decide (type ≠ 33024) && (decide (type ≠ 61889) && decide ((data.size : Int) ≤ 1494))))))))) then 0 else 170) (hs : data.size ≤ 9000000000000000000) (w : World) :
    Calls Try.prog 14 #[.agg #[.int .i64 dst, .int .i64 src, .bool true, .int .i64 prio, .int .i64 vid, .bool true, .int .i64 seq, .int .i64 type, .string data]] w fun e w' => e = .returned (.int .i64 r) ∧ Below w.heap.size w w' := by
  have HR := Lib.hid hr; clear hr
  rcases h1 : inB dst 281474976710655 with _ | _
  · go_enter Try.func14, Try.ntmps14
    go_wp2_with (fail)
    refine (inside_of dst 281474976710655 _ h1 _).mono ?_
    rintro e w1 ⟨rfl, rfl⟩
    go_wp2_with (fail)
    go_ret
    exact ⟨ret_i (by rw [HR.out, h1]; rfl), (by repeat' (first | exact Below.refl _ _ | assumption | refine below_drewN ?_ _ | refine Below.drew ?_ | refine Below.alloc ?_ (by (first | exact Nat.le_refl _ | assumption | (simp; done) | omega | (simp; omega))) _ | refine Below.setCell ?_ (by (first | exact Nat.le_refl _ | assumption | (simp; done) | omega | (simp; omega))) _ | refine Below.trans ?_ (Below.mono (by assumption) (by (first | exact Nat.le_refl _ | assumption | (simp; done) | omega | (simp; omega))))))⟩
  rcases h2 : inB src 281474976710655 with _ | _
  · go_enter Try.func14, Try.ntmps14
    go_wp2_with (fail)
    refine (inside_of dst 281474976710655 _ h1 _).mono ?_
    rintro e w1 ⟨rfl, rfl⟩
    go_wp2_with (fail)
    refine (inside_of src 281474976710655 _ h2 _).mono ?_
    rintro e w1 ⟨rfl, rfl⟩
    go_wp2_with (fail)
    go_ret
    exact ⟨ret_i (by rw [HR.out, h1, h2]; rfl), (by repeat' (first | exact Below.refl _ _ | assumption | refine below_drewN ?_ _ | refine Below.drew ?_ | refine Below.alloc ?_ (by (first | exact Nat.le_refl _ | assumption | (simp; done) | omega | (simp; omega))) _ | refine Below.setCell ?_ (by (first | exact Nat.le_refl _ | assumption | (simp; done) | omega | (simp; omega))) _ | refine Below.trans ?_ (Below.mono (by assumption) (by (first | exact Nat.le_refl _ | assumption | (simp; done) | omega | (simp; omega))))))⟩
  rcases h3 : inB prio 7 with _ | _
  · go_enter Try.func14, Try.ntmps14
    go_wp2_with (fail)
    refine (inside_of dst 281474976710655 _ h1 _).mono ?_
    rintro e w1 ⟨rfl, rfl⟩
    go_wp2_with (fail)
    refine (inside_of src 281474976710655 _ h2 _).mono ?_
    rintro e w1 ⟨rfl, rfl⟩
    go_wp2_with (fail)
    refine (inside_of prio 7 _ h3 _).mono ?_
    rintro e w1 ⟨rfl, rfl⟩
    go_wp2_with (fail)
    go_ret
    exact ⟨ret_i (by rw [HR.out, h1, h2, h3]; rfl), (by repeat' (first | exact Below.refl _ _ | assumption | refine below_drewN ?_ _ | refine Below.drew ?_ | refine Below.alloc ?_ (by (first | exact Nat.le_refl _ | assumption | (simp; done) | omega | (simp; omega))) _ | refine Below.setCell ?_ (by (first | exact Nat.le_refl _ | assumption | (simp; done) | omega | (simp; omega))) _ | refine Below.trans ?_ (Below.mono (by assumption) (by (first | exact Nat.le_refl _ | assumption | (simp; done) | omega | (simp; omega))))))⟩
  rcases h4 : inB vid 4094 with _ | _
  · go_enter Try.func14, Try.ntmps14
    go_wp2_with (fail)
    refine (inside_of dst 281474976710655 _ h1 _).mono ?_
    rintro e w1 ⟨rfl, rfl⟩
    go_wp2_with (fail)
    refine (inside_of src 281474976710655 _ h2 _).mono ?_
    rintro e w1 ⟨rfl, rfl⟩
    go_wp2_with (fail)
    refine (inside_of prio 7 _ h3 _).mono ?_
    rintro e w1 ⟨rfl, rfl⟩
    go_wp2_with (fail)
    refine (inside_of vid 4094 _ h4 _).mono ?_
    rintro e w1 ⟨rfl, rfl⟩
    go_wp2_with (fail)
    go_ret
    exact ⟨ret_i (by rw [HR.out, h1, h2, h3, h4]; rfl), (by repeat' (first | exact Below.refl _ _ | assumption | refine below_drewN ?_ _ | refine Below.drew ?_ | refine Below.alloc ?_ (by (first | exact Nat.le_refl _ | assumption | (simp; done) | omega | (simp; omega))) _ | refine Below.setCell ?_ (by (first | exact Nat.le_refl _ | assumption | (simp; done) | omega | (simp; omega))) _ | refine Below.trans ?_ (Below.mono (by assumption) (by (first | exact Nat.le_refl _ | assumption | (simp; done) | omega | (simp; omega))))))⟩
  rcases h5 : inB seq 65535 with _ | _
  · go_enter Try.func14, Try.ntmps14
    go_wp2_with (fail)
    refine (inside_of dst 281474976710655 _ h1 _).mono ?_
    rintro e w1 ⟨rfl, rfl⟩
    go_wp2_with (fail)
    refine (inside_of src 281474976710655 _ h2 _).mono ?_
    rintro e w1 ⟨rfl, rfl⟩
    go_wp2_with (fail)
    refine (inside_of prio 7 _ h3 _).mono ?_
    rintro e w1 ⟨rfl, rfl⟩
    go_wp2_with (fail)
    refine (inside_of vid 4094 _ h4 _).mono ?_
    rintro e w1 ⟨rfl, rfl⟩
    go_wp2_with (fail)
    refine (inside_of seq 65535 _ h5 _).mono ?_
    rintro e w1 ⟨rfl, rfl⟩
    go_wp2_with (fail)
    go_ret
    exact ⟨ret_i (by rw [HR.out, h1, h2, h3, h4, h5]; rfl), (by repeat' (first | exact Below.refl _ _ | assumption | refine below_drewN ?_ _ | refine Below.drew ?_ | refine Below.alloc ?_ (by (first | exact Nat.le_refl _ | assumption | (simp; done) | omega | (simp; omega))) _ | refine Below.setCell ?_ (by (first | exact Nat.le_refl _ | assumption | (simp; done) | omega | (simp; omega))) _ | refine Below.trans ?_ (Below.mono (by assumption) (by (first | exact Nat.le_refl _ | assumption | (simp; done) | omega | (simp; omega))))))⟩
  go_enter Try.func14, Try.ntmps14
  go_wp2_with (fail)
  refine (inside_of dst 281474976710655 _ h1 _).mono ?_
  rintro e w1 ⟨rfl, rfl⟩
  go_wp2_with (fail)
  refine (inside_of src 281474976710655 _ h2 _).mono ?_
  rintro e w1 ⟨rfl, rfl⟩
  go_wp2_with (fail)
  refine (inside_of prio 7 _ h3 _).mono ?_
  rintro e w1 ⟨rfl, rfl⟩
  go_wp2_with (fail)
  refine (inside_of vid 4094 _ h4 _).mono ?_
  rintro e w1 ⟨rfl, rfl⟩
  go_wp2_with (fail)
  refine (inside_of seq 65535 _ h5 _).mono ?_
  rintro e w1 ⟨rfl, rfl⟩
  go_wp2_with (fail)
  all_goals
    go_ret
    try simp only [beq_eq_false_iff_ne, bne_eq_false_iff_eq, beq_iff_eq, bne_iff_ne, ne_eq] at *
    first
    | exact ⟨ret_i (by rw [HR.out, h1, h2, h3, h4, h5, if_pos (by simp; omega)]), (by repeat' (first | exact Below.refl _ _ | assumption | refine below_drewN ?_ _ | refine Below.drew ?_ | refine Below.alloc ?_ (by (first | exact Nat.le_refl _ | assumption | (simp; done) | omega | (simp; omega))) _ | refine Below.setCell ?_ (by (first | exact Nat.le_refl _ | assumption | (simp; done) | omega | (simp; omega))) _ | refine Below.trans ?_ (Below.mono (by assumption) (by (first | exact Nat.le_refl _ | assumption | (simp; done) | omega | (simp; omega))))))⟩
    | exact ⟨ret_i (by rw [HR.out, h1, h2, h3, h4, h5, if_neg (by simp; omega)]), (by repeat' (first | exact Below.refl _ _ | assumption | refine below_drewN ?_ _ | refine Below.drew ?_ | refine Below.alloc ?_ (by (first | exact Nat.le_refl _ | assumption | (simp; done) | omega | (simp; omega))) _ | refine Below.setCell ?_ (by (first | exact Nat.le_refl _ | assumption | (simp; done) | omega | (simp; omega))) _ | refine Below.trans ?_ (Below.mono (by assumption) (by (first | exact Nat.le_refl _ | assumption | (simp; done) | omega | (simp; omega))))))⟩
theorem Check_any (f : Fr) (hs : f.data.size ≤ 9000000000000000000) (w : World) :
    Calls Try.prog 14 #[.agg #[.int .i64 f.dst, .int .i64 f.src, .bool f.tag, .int .i64 f.prio, .int .i64 f.vid, .bool f.hseq, .int .i64 f.seq, .int .i64 f.type, .string f.data]] w fun e w' => e = .returned (.int .i64 f.code) ∧ Below w.heap.size w w' := by
  have hf := f.ok_b
  unfold Fr.code
  obtain ⟨dst, src, tag, prio, vid, hseq, seq, type, data⟩ := f
  cases tag <;> cases hseq
  · exact check1 dst src prio vid seq type data _ (by rw [hf]; rfl) hs w
  · exact check3 dst src prio vid seq type data _ (by rw [hf]; rfl) hs w
  · exact check2 dst src prio vid seq type data _ (by rw [hf]; rfl) hs w
  · exact check4 dst src prio vid seq type data _ (by rw [hf]; rfl) hs w
end Go.Proofs.Ytccdhoboidneeaa
