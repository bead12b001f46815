/-
  Contracts of the reference of chapter 5 (power, digits).
-/
import Derived.Test.YtppdfnghojcppaaWire
namespace Go.Proofs.Ytppdfnghojcppaa
open Go.RowKit
set_option linter.unusedVariables false

def pw (j : Nat) : Int := ((256 ^ j : Nat) : Int)
theorem pw_zero : pw 0 = 1 := rfl
theorem pw_succ (j : Nat) : pw (j + 1) = pw j * 256 := by unfold pw; rw [Nat.pow_succ, Int.natCast_mul]; rfl
theorem pw_lim (j : Nat) : pw j = lim j + 1 := by unfold pw lim; omega
theorem pw_le (j : Nat) (h : j ≤ 7) : 1 ≤ pw j ∧ pw j ≤ 72057594037927936 := by
  rcases Nat.eq_zero_or_pos j with rfl | h0
  · decide
  · have := lim_le j h0 h; rw [pw_lim]; omega
theorem pw_even (j : Nat) (h1 : 1 ≤ j) : pw j = 2 * (lim2 j + 1) := by
  unfold pw lim2
  rw [Wirem.pow_split j h1]
  omega

def sh (n : Int) (j : Nat) : Int := n / ((256 ^ j : Nat) : Int)
theorem sh_zero (n : Int) : sh n 0 = n := by unfold sh; simp
theorem sh_succ (n : Int) (j : Nat) : sh n (j + 1) = sh n j / 256 := by
  unfold sh
  rw [Nat.pow_succ, Int.natCast_mul, ← Int.ediv_ediv_of_nonneg (Int.natCast_nonneg _)]; rfl
theorem sh_bd (n : Int) (j : Nat) (h1 : -9223372036854775808 ≤ n) (h2 : n ≤ 9223372036854775807) : -9223372036854775808 ≤ sh n j ∧ sh n j ≤ 9223372036854775807 := by
  induction j with
  | zero => rw [sh_zero]; exact ⟨h1, h2⟩
  | succ j ih => rw [sh_succ]; omega
theorem be_front (n : Int) (j : Nat) : Wirem.be (j + 1) n = UInt8.ofNat (sh n j % 256).toNat :: Wirem.be j n := by
  induction j generalizing n with
  | zero => rw [sh_zero]; rfl
  | succ j ih =>
    rw [Wirem.be, ih (n / 256), Wirem.be]
    have e : sh (n / 256) j = sh n (j + 1) := by
      unfold sh
      rw [Int.ediv_ediv_of_nonneg (by omega), Nat.pow_succ, Int.natCast_mul, Int.mul_comm]; rfl
    rw [e]; rfl

theorem and255 (n : Int) : bits .and .i64 n 255 = n % 256 := by
  show IntKind.i64.wrap ((BitVec.ofInt 64 n &&& BitVec.ofInt 64 255).toNat : Int) = _
  have e : (BitVec.ofInt 64 n &&& BitVec.ofInt 64 255).toNat = (n % 256).toNat := by
    rw [BitVec.toNat_and]
    have e1 : (BitVec.ofInt 64 255).toNat = 2 ^ 8 - 1 := by decide
    rw [e1, Nat.and_two_pow_sub_one_eq_mod, BitVec.toNat_ofInt, show ((2 ^ 64 : Nat) : Int) = 18446744073709551616 from rfl]
    omega
  rw [e, IntKind.wrap_i64]
  omega

/-- string([]byte{x}). -/
theorem conv_one (W : World) (b : Nat) (x : Int) (h0 : 0 ≤ x) (h1 : x < 256) (h : W.cell? ⟨b, 0, none⟩ = some (.int .u8 x)) :
    (convert 23 9 (.slice (some ⟨b, 0, none⟩) 1 1)).run Try.prog W = .ok (.string (S [UInt8.ofNat x.toNat])) W := by
  have h2 := Lib.run_convert_window (P := Try.prog) W 23 5 9 Try.underlying23 Try.underlying5 Try.underlying9 b 0 (S [UInt8.ofNat x.toNat]) (by
    intro i hi
    rw [S_size] at hi
    obtain rfl : i = 0 := by simpa using hi
    rw [show (S [UInt8.ofNat x.toNat])[0] = UInt8.ofNat x.toNat from rfl, h]
    simp only [UInt8.toNat_ofNat']
    congr 2
    omega) 0 1 1 (by rw [S_size]; simp)
  exact h2


/-! What Put and PutSigned return. -/
def putS (s : ByteArray) (n k : Int) : ByteArray := if n < 0 ∨ k < 1 ∨ 7 < k then S [] else if lim k.toNat < n then S [] else s ++ S (Wirem.be k.toNat n)
def putE (n k : Int) : Int := if n < 0 ∨ k < 1 ∨ 7 < k then 2 else if lim k.toNat < n then 6 else 0
def psS (s : ByteArray) (n k : Int) : ByteArray := if k < 1 ∨ 8 < k then S [] else if n < -lim2 k.toNat - 1 ∨ lim2 k.toNat < n then S [] else s ++ S (Wirem.be k.toNat n)
def psE (n k : Int) : Int := if k < 1 ∨ 8 < k then 2 else if n < -lim2 k.toNat - 1 ∨ lim2 k.toNat < n then 6 else 0
def Ret2 (a b : Value) (w : World) (e : Ending) (w' : World) : Prop := e = .returned (.tuple #[a, b]) ∧ Below w.heap.size w w'
theorem Ret2.mk' {a b a' b' : Value} {w w' : World} {e : Ending} (h : e = .returned (.tuple #[a', b'])) (ha : a' = a) (hb : b' = b) (hw : Below w.heap.size w w') : Ret2 a b w e w' := by subst ha hb; exact ⟨h, hw⟩

theorem put1_arg (s : ByteArray) (n k : Int) (h : k < 1 ∨ 7 < k) (v : Value) (w : World) :
    Calls Try.prog 73 #[.string s, .int .i64 n, .int .i64 k, .int .i64 7, v] w fun e w' => e = .returned (.tuple #[.string (S []), .int .i64 2]) ∧ w = w' := by
  by_cases hk : k < 1
  all_goals
    go_enter Try.func73, Try.ntmps73
    go_wp2_with (fail)
    go_ret2
    exact ⟨rfl, rfl⟩
theorem put1_big (s : ByteArray) (n : Int) (k : Nat) (h1 : 1 ≤ k) (h7 : k ≤ 7) (hn0 : 0 ≤ n) (hn : lim k < n) (p : Addr) (w : World) (hc : w.cell? p = some (.int .i64 k)) :
    Calls Try.prog 73 #[.string s, .int .i64 n, .int .i64 k, .int .i64 7, .func (.func 74) #[] #[.pointer (some p)]] w fun e w' =>
      e = .returned (.tuple #[.string (S []), .int .i64 6]) ∧ Below w.heap.size w w' := by
  have hl := lim_le k h1 h7
  go_enter Try.func73, Try.ntmps73
  go_wp2_with (fail)
  refine (put1_any k h1 h7 p _ hc).mono ?_
  rintro e w1 ⟨rfl, hb1⟩
  go_wp2_with (fail)
  go_ret2
  exact ⟨rfl, hb1⟩

theorem Put_any (s : ByteArray) (n k : Int) (hs : s.size ≤ 9000000000000000000) (w : World) :
    Calls Try.prog 68 #[.string s, .int .i64 n, .int .i64 k] w (Ret2 (.string (putS s n k)) (.int .i64 (putE n k)) w) := by
  by_cases hn : n < 0
  · have e1 : putS s n k = S [] := by simp [putS, hn]
    have e2 : putE n k = 2 := by simp [putE, hn]
    rw [e1, e2]
    clear e1 e2
    go_enter Try.func68, Try.ntmps68
    go_wp2_with (fail)
    go_ret2
    exact ⟨rfl, (by repeat' (first | exact Below.refl _ _ | assumption | refine below_drewN ?_ _ | refine Below.drew ?_ | refine Below.alloc ?_ (by (first | exact Nat.le_refl _ | assumption | (simp; done) | omega | (simp; omega))) _ | refine Below.setCell ?_ (by (first | exact Nat.le_refl _ | assumption | (simp; done) | omega | (simp; omega))) _ | refine Below.trans ?_ (Below.mono (by assumption) (by (first | exact Nat.le_refl _ | assumption | (simp; done) | omega | (simp; omega))))))⟩
  · by_cases hk : k < 1 ∨ 7 < k
    · have e1 : putS s n k = S [] := by simp [putS, hk]
      have e2 : putE n k = 2 := by simp [putE, hk]
      rw [e1, e2]
      clear e1 e2
      go_enter Try.func68, Try.ntmps68
      go_wp2_with (fail)
      refine (put1_arg s n k hk _ _).mono ?_
      rintro e w1 ⟨rfl, rfl⟩
      go_wp2_with (fail)
      go_ret2
      exact ⟨rfl, (by repeat' (first | exact Below.refl _ _ | assumption | refine below_drewN ?_ _ | refine Below.drew ?_ | refine Below.alloc ?_ (by (first | exact Nat.le_refl _ | assumption | (simp; done) | omega | (simp; omega))) _ | refine Below.setCell ?_ (by (first | exact Nat.le_refl _ | assumption | (simp; done) | omega | (simp; omega))) _ | refine Below.trans ?_ (Below.mono (by assumption) (by (first | exact Nat.le_refl _ | assumption | (simp; done) | omega | (simp; omega))))))⟩
    · obtain ⟨j, rfl⟩ := Int.eq_ofNat_of_zero_le (show 0 ≤ k by omega)
      by_cases hb : lim j < n
      · have e1 : putS s n j = S [] := by simp [putS, hb]
        have e2 : putE n j = 6 := by unfold putE; rw [if_neg (by omega), if_pos (by simpa using hb)]
        rw [e1, e2]
        clear e1 e2
        go_enter Try.func68, Try.ntmps68
        go_wp2_with (fail)
        refine (put1_big s n j (by omega) (by omega) (by omega) hb _ _ (by simp)).mono ?_
        rintro e w1 ⟨rfl, hb1⟩
        have z1 := hb1.size
        simp at z1
        go_wp2_with (fail)
        go_ret2
        exact ⟨rfl, (by repeat' (first | exact Below.refl _ _ | assumption | refine below_drewN ?_ _ | refine Below.drew ?_ | refine Below.alloc ?_ (by (first | exact Nat.le_refl _ | assumption | (simp; done) | omega | (simp; omega))) _ | refine Below.setCell ?_ (by (first | exact Nat.le_refl _ | assumption | (simp; done) | omega | (simp; omega))) _ | refine Below.trans ?_ (Below.mono (by assumption) (by (first | exact Nat.le_refl _ | assumption | (simp; done) | omega | (simp; omega))))))⟩
      · have e1 : putS s n j = s ++ S (Wirem.be j n) := by unfold putS; rw [if_neg (by omega), if_neg (by simpa using hb)]; rfl
        have e2 : putE n j = 0 := by unfold putE; rw [if_neg (by omega), if_neg (by simpa using hb)]
        rw [e1, e2]
        clear e1 e2
        go_enter Try.func68, Try.ntmps68
        go_wp2_with (fail)
        refine (put1_ok s n j (by omega) (by omega) (by omega) (by omega) hs _ _ (by simp)).mono ?_
        rintro e w1 ⟨rfl, hb1⟩
        have z1 := hb1.size
        simp at z1
        go_wp2_with (fail)
        go_ret2
        exact ⟨rfl, (by repeat' (first | exact Below.refl _ _ | assumption | refine below_drewN ?_ _ | refine Below.drew ?_ | refine Below.alloc ?_ (by (first | exact Nat.le_refl _ | assumption | (simp; done) | omega | (simp; omega))) _ | refine Below.setCell ?_ (by (first | exact Nat.le_refl _ | assumption | (simp; done) | omega | (simp; omega))) _ | refine Below.trans ?_ (Below.mono (by assumption) (by (first | exact Nat.le_refl _ | assumption | (simp; done) | omega | (simp; omega))))))⟩
end Go.Proofs.Ytppdfnghojcppaa
