/-
  Contracts of PutSigned and of the reference's Put and PutSigned.
-/
import Derived.Test.YtbcobkeliopdfaaWire2
namespace Go.Proofs.Ytbcobkeliopdfaa
open Go.RowKit
set_option linter.unusedVariables false

theorem PutSigned_any (s : ByteArray) (n k : Int) (hn1 : -9223372036854775808 ≤ n) (hn2 : n ≤ 9223372036854775807) (hs : s.size ≤ 9000000000000000000) (w : World) :
    Calls Try.prog 10 #[.string s, .int .i64 n, .int .i64 k] w (Ret2 (.string (psS s n k)) (.int .i64 (psE n k)) w) := by
  by_cases hk : k < 1 ∨ 8 < k
  · have e1 : psS s n k = S [] := by simp [psS, hk]
    have e2 : psE n k = 2 := by simp [psE, hk]
    rw [e1, e2]
    clear e1 e2
    go_enter Try.func10, Try.ntmps10
    go_wp2_with (fail)
    refine (put2_arg s n k hk _ _).mono ?_
    rintro e w1 ⟨rfl, rfl⟩
    go_wp2_with (fail)
    go_ret2
    exact ⟨rfl, (by repeat' (first | exact Below.refl _ _ | assumption | refine below_drewN ?_ _ | refine Below.drew ?_ | refine Below.alloc ?_ (by (first | exact Nat.le_refl _ | assumption | (simp; done) | omega | (simp; omega))) _ | refine Below.setCell ?_ (by (first | exact Nat.le_refl _ | assumption | (simp; done) | omega | (simp; omega))) _ | refine Below.trans ?_ (Below.mono (by assumption) (by (first | exact Nat.le_refl _ | assumption | (simp; done) | omega | (simp; omega))))))⟩
  · obtain ⟨j, rfl⟩ := Int.eq_ofNat_of_zero_le (show 0 ≤ k by omega)
    by_cases hb : n < -lim2 j - 1 ∨ lim2 j < n
    · have e1 : psS s n j = S [] := by unfold psS; rw [if_neg (by omega), if_pos (by simpa using hb)]
      have e2 : psE n j = 6 := by unfold psE; rw [if_neg (by omega), if_pos (by simpa using hb)]
      rw [e1, e2]
      clear e1 e2
      go_enter Try.func10, Try.ntmps10
      go_wp2_with (fail)
      refine (put2_big s n j (by omega) (by omega) hb _ _ (by simp)).mono ?_
      rintro e w1 ⟨rfl, hb1⟩
      have z1 := hb1.size
      simp at z1
      go_wp2_with (fail)
      go_ret2
      exact ⟨rfl, (by repeat' (first | exact Below.refl _ _ | assumption | refine below_drewN ?_ _ | refine Below.drew ?_ | refine Below.alloc ?_ (by (first | exact Nat.le_refl _ | assumption | (simp; done) | omega | (simp; omega))) _ | refine Below.setCell ?_ (by (first | exact Nat.le_refl _ | assumption | (simp; done) | omega | (simp; omega))) _ | refine Below.trans ?_ (Below.mono (by assumption) (by (first | exact Nat.le_refl _ | assumption | (simp; done) | omega | (simp; omega))))))⟩
    · have e1 : psS s n j = s ++ S (Wirem.be j n) := by unfold psS; rw [if_neg (by omega), if_neg (by simpa using hb)]; rfl
      have e2 : psE n j = 0 := by unfold psE; rw [if_neg (by omega), if_neg (by simpa using hb)]
      rw [e1, e2]
      clear e1 e2
      go_enter Try.func10, Try.ntmps10
      go_wp2_with (fail)
      refine (put2_ok s n j (by omega) (by omega) (by omega) (by omega) hs _ _ (by simp)).mono ?_
      rintro e w1 ⟨rfl, hb1⟩
      have z1 := hb1.size
      simp at z1
      go_wp2_with (fail)
      go_ret2
      exact ⟨rfl, (by repeat' (first | exact Below.refl _ _ | assumption | refine below_drewN ?_ _ | refine Below.drew ?_ | refine Below.alloc ?_ (by (first | exact Nat.le_refl _ | assumption | (simp; done) | omega | (simp; omega))) _ | refine Below.setCell ?_ (by (first | exact Nat.le_refl _ | assumption | (simp; done) | omega | (simp; omega))) _ | refine Below.trans ?_ (Below.mono (by assumption) (by (first | exact Nat.le_refl _ | assumption | (simp; done) | omega | (simp; omega))))))⟩

theorem RPut_any (s : ByteArray) (n k : Int) (hn1 : -9223372036854775808 ≤ n) (hn2 : n ≤ 9223372036854775807) (hs : s.size ≤ 9000000000000000000) (w : World) :
    Calls Try.prog 9 #[.string s, .int .i64 n, .int .i64 k] w (Ret2 (.string (putS s n k)) (.int .i64 (putE n k)) w) := by
  by_cases hn : n < 0
  · have e1 : putS s n k = S [] := by simp [putS, hn]
    have e2 : putE n k = 2 := by simp [putE, hn]
    rw [e1, e2]
    clear e1 e2
    go_enter Try.func9, Try.ntmps9
    go_wp2_with (fail)
    go_ret2
    exact ⟨rfl, (by repeat' (first | exact Below.refl _ _ | assumption | refine below_drewN ?_ _ | refine Below.drew ?_ | refine Below.alloc ?_ (by (first | exact Nat.le_refl _ | assumption | (simp; done) | omega | (simp; omega))) _ | refine Below.setCell ?_ (by (first | exact Nat.le_refl _ | assumption | (simp; done) | omega | (simp; omega))) _ | refine Below.trans ?_ (Below.mono (by assumption) (by (first | exact Nat.le_refl _ | assumption | (simp; done) | omega | (simp; omega))))))⟩
  · by_cases hk : k < 1 ∨ 7 < k
    · have e1 : putS s n k = S [] := by simp [putS, hk]
      have e2 : putE n k = 2 := by simp [putE, hk]
      rw [e1, e2]
      clear e1 e2
      by_cases hk1 : k < 1
      all_goals
        go_enter Try.func9, Try.ntmps9
        go_wp2_with (fail)
        go_ret2
        exact ⟨rfl, (by repeat' (first | exact Below.refl _ _ | assumption | refine below_drewN ?_ _ | refine Below.drew ?_ | refine Below.alloc ?_ (by (first | exact Nat.le_refl _ | assumption | (simp; done) | omega | (simp; omega))) _ | refine Below.setCell ?_ (by (first | exact Nat.le_refl _ | assumption | (simp; done) | omega | (simp; omega))) _ | refine Below.trans ?_ (Below.mono (by assumption) (by (first | exact Nat.le_refl _ | assumption | (simp; done) | omega | (simp; omega))))))⟩
    · obtain ⟨j, rfl⟩ := Int.eq_ofNat_of_zero_le (show 0 ≤ k by omega)
      have hp := pw_lim j
      by_cases hb : lim j < n
      · have e1 : putS s n j = S [] := by simp [putS, hb]
        have e2 : putE n j = 6 := by unfold putE; rw [if_neg (by omega), if_pos (by simpa using hb)]
        rw [e1, e2]
        clear e1 e2
        have hb' : pw j ≤ n := by omega
        clear hp
        go_enter Try.func9, Try.ntmps9
        go_wp2_with (fail)
        refine (power_any j (by omega) _).mono ?_
        rintro e w1 ⟨rfl, rfl⟩
        go_wp2_with (fail)
        go_ret2
        exact ⟨rfl, (by repeat' (first | exact Below.refl _ _ | assumption | refine below_drewN ?_ _ | refine Below.drew ?_ | refine Below.alloc ?_ (by (first | exact Nat.le_refl _ | assumption | (simp; done) | omega | (simp; omega))) _ | refine Below.setCell ?_ (by (first | exact Nat.le_refl _ | assumption | (simp; done) | omega | (simp; omega))) _ | refine Below.trans ?_ (Below.mono (by assumption) (by (first | exact Nat.le_refl _ | assumption | (simp; done) | omega | (simp; omega))))))⟩
      · have e1 : putS s n j = s ++ S (Wirem.be j n) := by unfold putS; rw [if_neg (by omega), if_neg (by simpa using hb)]; rfl
        have e2 : putE n j = 0 := by unfold putE; rw [if_neg (by omega), if_neg (by simpa using hb)]
        rw [e1, e2]
        clear e1 e2
        have hb' : n < pw j := by omega
        clear hp
        have hss : (S (Wirem.be j n)).size ≤ 8 := by rw [S_size, Wirem.be_length]; omega
        go_enter Try.func9, Try.ntmps9
        go_wp2_with (fail)
        refine (power_any j (by omega) _).mono ?_
        rintro e w1 ⟨rfl, rfl⟩
        go_wp2_with (fail)
        refine (digits_ref n j (by omega) hn1 hn2 _).mono ?_
        rintro e w1 ⟨rfl, hb1⟩
        go_wp2_with (fail)
        go_ret2
        exact ⟨rfl, hb1⟩

theorem RPutSigned_any (s : ByteArray) (n k : Int) (hn1 : -9223372036854775808 ≤ n) (hn2 : n ≤ 9223372036854775807) (hs : s.size ≤ 9000000000000000000) (w : World) :
    Calls Try.prog 11 #[.string s, .int .i64 n, .int .i64 k] w (Ret2 (.string (psS s n k)) (.int .i64 (psE n k)) w) := by
  by_cases hk : k < 1 ∨ 8 < k
  · have e1 : psS s n k = S [] := by simp [psS, hk]
    have e2 : psE n k = 2 := by simp [psE, hk]
    rw [e1, e2]
    clear e1 e2
    by_cases hk1 : k < 1
    all_goals
      go_enter Try.func11, Try.ntmps11
      go_wp2_with (fail)
      go_ret2
      exact ⟨rfl, (by repeat' (first | exact Below.refl _ _ | assumption | refine below_drewN ?_ _ | refine Below.drew ?_ | refine Below.alloc ?_ (by (first | exact Nat.le_refl _ | assumption | (simp; done) | omega | (simp; omega))) _ | refine Below.setCell ?_ (by (first | exact Nat.le_refl _ | assumption | (simp; done) | omega | (simp; omega))) _ | refine Below.trans ?_ (Below.mono (by assumption) (by (first | exact Nat.le_refl _ | assumption | (simp; done) | omega | (simp; omega))))))⟩
  · obtain ⟨j, rfl⟩ := Int.eq_ofNat_of_zero_le (show 0 ≤ k by omega)
    have hp := pw_even j (by omega)
    have hl := lim2_le j (by omega) (by omega)
    have hss : (S (Wirem.be j n)).size ≤ 8 := by rw [S_size, Wirem.be_length]; omega
    by_cases hj : j = 8
    · subst hj
      have hl8 : lim2 8 = 9223372036854775807 := by decide
      have e1 : psS s n (8 : Nat) = s ++ S (Wirem.be 8 n) := by unfold psS; rw [if_neg (by omega), if_neg (by simp [hl8]; omega)]; rfl
      have e2 : psE n (8 : Nat) = 0 := by unfold psE; rw [if_neg (by omega), if_neg (by simp [hl8]; omega)]
      rw [e1, e2]
      clear e1 e2 hp hl hl8 hk
      go_enter Try.func11, Try.ntmps11
      go_wp2_with (fail)
      refine (digits_ref n 8 (by omega) hn1 hn2 _).mono ?_
      rintro e w1 ⟨rfl, hb1⟩
      go_wp2_with (fail)
      go_ret2
      exact ⟨rfl, hb1⟩
    · have hpl := pw_le j (by omega)
      have q1 : (pw j) / 2 = lim2 j + 1 := by omega
      have q2 : (-pw j).tdiv 2 = -lim2 j - 1 := by rw [hp, Int.neg_tdiv, Int.mul_tdiv_cancel_left _ (by omega)]; omega
      by_cases hb : n < -lim2 j - 1 ∨ lim2 j < n
      · have e1 : psS s n j = S [] := by unfold psS; rw [if_neg (by omega), if_pos (by simpa using hb)]
        have e2 : psE n j = 6 := by unfold psE; rw [if_neg (by omega), if_pos (by simpa using hb)]
        rw [e1, e2]
        clear e1 e2 hp
        by_cases hb1 : lim2 j < n
        · go_enter Try.func11, Try.ntmps11
          go_wp2_with (fail)
          refine (power_any j (by omega) _).mono ?_
          rintro e w1 ⟨rfl, rfl⟩
          go_wp2_with (fail)
          go_ret2
          exact ⟨rfl, (by repeat' (first | exact Below.refl _ _ | assumption | refine below_drewN ?_ _ | refine Below.drew ?_ | refine Below.alloc ?_ (by (first | exact Nat.le_refl _ | assumption | (simp; done) | omega | (simp; omega))) _ | refine Below.setCell ?_ (by (first | exact Nat.le_refl _ | assumption | (simp; done) | omega | (simp; omega))) _ | refine Below.trans ?_ (Below.mono (by assumption) (by (first | exact Nat.le_refl _ | assumption | (simp; done) | omega | (simp; omega))))))⟩
        · have hb2 : n < -lim2 j - 1 := by omega
          clear hb
          go_enter Try.func11, Try.ntmps11
          go_wp2_with (fail)
          refine (power_any j (by omega) _).mono ?_
          rintro e w1 ⟨rfl, rfl⟩
          go_wp2_with (fail)
          refine (power_any j (by omega) _).mono ?_
          rintro e w1 ⟨rfl, rfl⟩
          go_wp2_with (fail)
          go_ret2
          exact ⟨rfl, (by repeat' (first | exact Below.refl _ _ | assumption | refine below_drewN ?_ _ | refine Below.drew ?_ | refine Below.alloc ?_ (by (first | exact Nat.le_refl _ | assumption | (simp; done) | omega | (simp; omega))) _ | refine Below.setCell ?_ (by (first | exact Nat.le_refl _ | assumption | (simp; done) | omega | (simp; omega))) _ | refine Below.trans ?_ (Below.mono (by assumption) (by (first | exact Nat.le_refl _ | assumption | (simp; done) | omega | (simp; omega))))))⟩
      · have e1 : psS s n j = s ++ S (Wirem.be j n) := by unfold psS; rw [if_neg (by omega), if_neg (by simpa using hb)]; rfl
        have e2 : psE n j = 0 := by unfold psE; rw [if_neg (by omega), if_neg (by simpa using hb)]
        rw [e1, e2]
        have hb2 : ¬ n < -lim2 j - 1 := by omega
        have hb3 : n < lim2 j + 1 := by omega
        clear e1 e2 hp hb
        go_enter Try.func11, Try.ntmps11
        go_wp2_with (fail)
        refine (power_any j (by omega) _).mono ?_
        rintro e w1 ⟨rfl, rfl⟩
        go_wp2_with (fail)
        refine (power_any j (by omega) _).mono ?_
        rintro e w1 ⟨rfl, rfl⟩
        go_wp2_with (fail)
        refine (digits_ref n j (by omega) hn1 hn2 _).mono ?_
        rintro e w1 ⟨rfl, hb1⟩
        go_wp2_with (fail)
        go_ret2
        exact ⟨rfl, hb1⟩
end Go.Proofs.Ytbcobkeliopdfaa
