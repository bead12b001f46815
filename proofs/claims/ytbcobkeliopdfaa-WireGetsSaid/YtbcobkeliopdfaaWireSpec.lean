/-
  The laws of chapter 5 in plain terms: what the contracts' values are where one follows the other.
-/
import Derived.Test.YtbcobkeliopdfaaWireKnown
namespace Go.Proofs.Ytbcobkeliopdfaa
open Go.RowKit
set_option linter.unusedVariables false

theorem lim_two (k : Nat) (h : 1 ≤ k) : lim k = 2 * lim2 k + 1 := by
  have := pw_lim k
  have := pw_even k h
  omega
theorem S_data (l : List UInt8) : (S l).data.toList = l := by simp [S]
theorem S_inj {a b : List UInt8} (h : S a = S b) : a = b := by rw [← S_data a, ← S_data b, h]
theorem cut_S (l : List UInt8) (a k : Nat) : cut (S l) a k = (l.drop a).take k := by unfold cut; rw [S_data]
theorem cut_mid (x y z : List UInt8) : cut (S (x ++ (y ++ z))) x.length y.length = y := by
  rw [cut_S, List.drop_left, List.take_left]

theorem putS_ok (s : ByteArray) (n : Int) (k : Nat) (h1 : 1 ≤ k) (h7 : k ≤ 7) (h0 : 0 ≤ n) (hn : n ≤ lim k) : putS s n k = s ++ S (Wirem.be k n) := by
  unfold putS; rw [if_neg (by omega), if_neg (by simpa using hn)]; rfl
theorem putE_ok (n : Int) (k : Nat) (h1 : 1 ≤ k) (h7 : k ≤ 7) (h0 : 0 ≤ n) (hn : n ≤ lim k) : putE n k = 0 := by
  unfold putE; rw [if_neg (by omega), if_neg (by simpa using hn)]
theorem putE_big (n : Int) (k : Nat) (h1 : 1 ≤ k) (h7 : k ≤ 7) (h0 : 0 ≤ n) (hn : lim k < n) : putE n k = 6 := by
  unfold putE; rw [if_neg (by omega), if_pos (by simpa using hn)]
theorem psS_ok (s : ByteArray) (n : Int) (k : Nat) (h1 : 1 ≤ k) (h8 : k ≤ 8) (h0 : -lim2 k - 1 ≤ n) (hn : n ≤ lim2 k) : psS s n k = s ++ S (Wirem.be k n) := by
  have : ¬ (n < -lim2 k - 1 ∨ lim2 k < n) := by omega
  unfold psS; rw [if_neg (by omega), if_neg (by simpa using this)]; rfl
theorem psE_ok (n : Int) (k : Nat) (h1 : 1 ≤ k) (h8 : k ≤ 8) (h0 : -lim2 k - 1 ≤ n) (hn : n ≤ lim2 k) : psE n k = 0 := by
  have : ¬ (n < -lim2 k - 1 ∨ lim2 k < n) := by omega
  unfold psE; rw [if_neg (by omega), if_neg (by simpa using this)]
theorem psE_big (n : Int) (k : Nat) (h1 : 1 ≤ k) (h8 : k ≤ 8) (h : n < -lim2 k - 1 ∨ lim2 k < n) : psE n k = 6 := by
  unfold psE; rw [if_neg (by omega), if_pos (by simpa using h)]
theorem getE_ok (s : ByteArray) (a k : Nat) (most : Int) (h1 : 1 ≤ k) (h7 : (k : Int) ≤ most) (h : a + k ≤ s.size) : getE s a k most = 0 := by
  unfold getE; rw [if_neg (by omega), if_neg (by omega)]
theorem getV_ok (s : ByteArray) (a k : Nat) (h1 : 1 ≤ k) (h7 : k ≤ 7) (h : a + k ≤ s.size) : getV s a k = vcut s a k := by
  unfold getV; rw [if_neg (by omega), if_neg (by omega)]; rfl
theorem gsV_ok (s : ByteArray) (a k : Nat) (h1 : 1 ≤ k) (h8 : k ≤ 8) (h : a + k ≤ s.size) : gsV s a k = Wirem.signed k (vcut s a k) := by
  unfold gsV; rw [if_neg (by omega), if_neg (by omega)]; rfl

theorem getV_mid (x z : List UInt8) (n : Int) (k : Nat) (h1 : 1 ≤ k) (h7 : k ≤ 7) (h0 : 0 ≤ n) (hn : n ≤ lim k) : getV (S (x ++ (Wirem.be k n ++ z))) x.length k = n := by
  have hl := Wirem.be_length k n
  rw [getV_ok _ _ _ h1 h7 (by rw [S_size]; simp [hl])]
  have e := cut_mid x (Wirem.be k n) z
  rw [hl] at e
  unfold vcut
  rw [e, Wirem.be_val, Int.emod_eq_of_lt h0 (by unfold lim at hn; omega)]
theorem gsV_mid (x z : List UInt8) (n : Int) (k : Nat) (h1 : 1 ≤ k) (h8 : k ≤ 8) (h0 : -lim2 k - 1 ≤ n) (hn : n ≤ lim2 k) : gsV (S (x ++ (Wirem.be k n ++ z))) x.length k = n := by
  have hl := Wirem.be_length k n
  rw [gsV_ok _ _ _ h1 h8 (by rw [S_size]; simp [hl])]
  have e := cut_mid x (Wirem.be k n) z
  rw [hl] at e
  unfold vcut
  rw [e]
  exact Wirem.signed_be k h1 n (by unfold lim2 at h0; omega) (by unfold lim2 at hn; omega)
theorem be_minus (k : Nat) (hk : k ≤ 8) : Wirem.be k (-1) = Wirem.be k (lim k) := by
  apply Wirem.be_congr
  unfold lim
  rw [← Int.add_emod_right (-1)]
  congr 1
end Go.Proofs.Ytbcobkeliopdfaa
