/-
  The contract of the reference's GetSigned.
-/
import Derived.Test.YtbcobkeliopdfaaWire4
namespace Go.Proofs.Ytbcobkeliopdfaa
open Go.RowKit
set_option linter.unusedVariables false

def sg (s : ByteArray) (a j : Nat) : Int := Wirem.signed j (vcut s a j)
theorem sg_bd (s : ByteArray) (a j : Nat) (h : a + j ≤ s.size) (h1 : 1 ≤ j) : -((128 * 256 ^ (j - 1) : Nat) : Int) ≤ sg s a j ∧ sg s a j < ((128 * 256 ^ (j - 1) : Nat) : Int) := by
  have := vcut_lt s a j h
  unfold sg Wirem.signed
  rw [Wirem.pow_split j h1] at *
  split <;> omega
theorem sg_bd7 (s : ByteArray) (a j : Nat) (h : a + j ≤ s.size) (h1 : 1 ≤ j) (h7 : j ≤ 7) : -36028797018963968 ≤ sg s a j ∧ sg s a j ≤ 36028797018963967 := by
  have := sg_bd s a j h h1
  have h2 := Nat.pow_le_pow_right (n := 256) (by omega) (show j - 1 ≤ 6 by omega)
  simp only [Nat.reducePow] at h2
  omega
theorem sg_bd8 (s : ByteArray) (a j : Nat) (h : a + j ≤ s.size) (h1 : 1 ≤ j) (h8 : j ≤ 8) : -9223372036854775808 ≤ sg s a j ∧ sg s a j ≤ 9223372036854775807 := by
  have := sg_bd s a j h h1
  have h2 := Nat.pow_le_pow_right (n := 256) (by omega) (show j - 1 ≤ 7 by omega)
  simp only [Nat.reducePow] at h2
  omega
theorem sg_succ (s : ByteArray) (a j : Nat) (h : a + j < s.size) (h1 : 1 ≤ j) : sg s a (j + 1) = 256 * sg s a j + s[a + j].toNat := by
  have hx := (s[a + j]).toNat_lt
  unfold sg Wirem.signed
  rw [vcut_succ s a j h, Nat.add_sub_cancel, Nat.pow_succ, Wirem.pow_split j h1]
  generalize 256 ^ (j - 1) = q
  split <;> split <;> omega
theorem sg_one (s : ByteArray) (a : Nat) (h : a < s.size) : sg s a 1 = if s[a].toNat < 128 then (s[a].toNat : Int) else (s[a].toNat : Int) - 256 := by
  unfold sg Wirem.signed
  rw [vcut_succ s a 0 (by omega), vcut_zero]
  simp

set_option maxRecDepth 100000 in
theorem RGetSigned_any (s : ByteArray) (a k : Int) (ha : a ≤ 9223372036854775807) (hs : s.size ≤ 9000000000000000000) (w : World) :
    Calls Try.prog 16 #[.string s, .int .i64 a, .int .i64 k] w (Ret2w (.int .i64 (gsV s a k)) (.int .i64 (getE s a k 8)) w) := by
  by_cases hk : a < 0 ∨ k < 1 ∨ 8 < k
  · have e1 : gsV s a k = 0 := by simp [gsV, hk]
    have e2 : getE s a k 8 = 2 := by simp [getE, hk]
    rw [e1, e2]
    clear e1 e2
    by_cases hk1 : a < 0
    · go_enter Try.func16, Try.ntmps16
      go_wp2_with (fail)
      go_ret2
      exact ⟨rfl, rfl⟩
    · by_cases hk2 : k < 1
      all_goals
        go_enter Try.func16, Try.ntmps16
        go_wp2_with (fail)
        go_ret2
        exact ⟨rfl, rfl⟩
  · by_cases hf : (s.size : Int) < a + k
    · have e1 : gsV s a k = 0 := by simp [gsV, hf]
      have e2 : getE s a k 8 = 5 := by unfold getE; rw [if_neg hk, if_pos hf]
      have e3 : inS s a k = false := by unfold inS; rw [decide_eq_false_iff_not]; omega
      rw [e1, e2]
      clear e1 e2
      have hh := fun W => has_any s a k (by omega) (by omega) ha hs W
      rw [e3] at hh
      have HH := Lib.hid hh; clear hh e3
      go_enter Try.func16, Try.ntmps16
      go_wp2_with (fail)
      refine (HH.out _).mono ?_
      rintro e w1 ⟨rfl, rfl⟩
      go_wp2_with (fail)
      go_ret2
      exact ⟨rfl, rfl⟩
    · have e3 : inS s a k = true := by unfold inS; rw [decide_eq_true_eq]; omega
      have hh := fun W => has_any s a k (by omega) (by omega) ha hs W
      rw [e3] at hh
      have HH := Lib.hid hh; clear hh e3
      obtain ⟨A, rfl⟩ := Int.eq_ofNat_of_zero_le (show 0 ≤ a by omega)
      obtain ⟨K, rfl⟩ := Int.eq_ofNat_of_zero_le (show 0 ≤ k by omega)
      have e1 : gsV s A K = sg s A K := by unfold gsV; rw [if_neg hk, if_neg hf]; rfl
      have e2 : getE s A K 8 = 0 := by unfold getE; rw [if_neg hk, if_neg hf]
      rw [e1, e2]
      clear e1 e2
      have hx0 := (s[A]'(by omega)).toNat_lt
      have h1 := sg_one s A (by omega)
      by_cases hneg : (s[A]'(by omega)).toNat < 128
      · rw [if_pos hneg] at h1
        have H1 := Lib.hid h1; clear h1
        have hn' : ((s[A]'(by omega)).toNat : Int) < 128 := by omega
        have hd : decide (128 ≤ ((s[A]'(by omega)).toNat : Int)) = false := by rw [decide_eq_false_iff_not]; omega
        clear hneg
        go_enter Try.func16, Try.ntmps16
        go_wp2_with (fail)
        refine (HH.out _).mono ?_
        rintro e w1 ⟨rfl, rfl⟩
        go_wp2_with (fail)
        go_loop [8, 9] (fun n i => ∃ j : Nat, 1 ≤ j ∧ j ≤ K ∧ i = .int .i64 j ∧ n = .int .i64 (sg s A j)) (fun _ i => K - (intOf i).toNat)
        case atStart => exact ⟨1, Nat.le_refl _, by omega, rfl, by rw [H1.out]⟩
        case round =>
          obtain ⟨j, hj1, hj, rfl, rfl⟩ := hrel
          by_cases hlt : j < K
          · have hb := sg_bd7 s A j (by omega) hj1 (by omega)
            have hx := (s[A + j]).toNat_lt
            have hs := sg_succ s A j (by omega) hj1
            have HS := Lib.hid hs; clear hs
            go_wp2
            go_round
            case rel => exact ⟨j + 1, by omega, by omega, by go_num, by rw [HS.out]⟩
            case measure => simp [intOf]; omega
          · obtain rfl : j = K := by omega
            go_wp2
            go_ret2
            exact ⟨rfl, rfl⟩
      · rw [if_neg hneg] at h1
        have H1 := Lib.hid h1; clear h1
        have hn' : 128 ≤ ((s[A]'(by omega)).toNat : Int) := by omega
        have hd : decide (128 ≤ ((s[A]'(by omega)).toNat : Int)) = true := by rw [decide_eq_true_eq]; omega
        clear hneg
        go_enter Try.func16, Try.ntmps16
        go_wp2_with (fail)
        refine (HH.out _).mono ?_
        rintro e w1 ⟨rfl, rfl⟩
        go_wp2_with (fail)
        go_loop [8, 9] (fun n i => ∃ j : Nat, 1 ≤ j ∧ j ≤ K ∧ i = .int .i64 j ∧ n = .int .i64 (sg s A j)) (fun _ i => K - (intOf i).toNat)
        case atStart => exact ⟨1, Nat.le_refl _, by omega, rfl, by rw [H1.out]⟩
        case round =>
          obtain ⟨j, hj1, hj, rfl, rfl⟩ := hrel
          by_cases hlt : j < K
          · have hb := sg_bd7 s A j (by omega) hj1 (by omega)
            have hx := (s[A + j]).toNat_lt
            have hs := sg_succ s A j (by omega) hj1
            have HS := Lib.hid hs; clear hs
            go_wp2
            go_round
            case rel => exact ⟨j + 1, by omega, by omega, by go_num, by rw [HS.out]⟩
            case measure => simp [intOf]; omega
          · obtain rfl : j = K := by omega
            go_wp2
            go_ret2
            exact ⟨rfl, rfl⟩
end Go.Proofs.Ytbcobkeliopdfaa
