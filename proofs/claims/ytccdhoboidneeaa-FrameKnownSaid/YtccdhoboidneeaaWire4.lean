/-
  Contracts of Get, GetSigned and Field, and of the reference's.
-/
import Derived.Test.YtccdhoboidneeaaWire3
import Derived.Laws.BitsAllLaws
namespace Go.Proofs.Ytccdhoboidneeaa
open Go.RowKit
set_option linter.unusedVariables false

/-- The octets of s from a on, k of them. -/
def cut (s : ByteArray) (a k : Nat) : List UInt8 := (s.data.toList.drop a).take k
theorem cut_length (s : ByteArray) (a k : Nat) (h : a + k ≤ s.size) : (cut s a k).length = k := by
  unfold cut; rw [List.length_take, List.length_drop]; rw [Lib.size_eq] at h; omega
theorem cut_succ (s : ByteArray) (a j : Nat) (h : a + j < s.size) : cut s a (j + 1) = cut s a j ++ [s[a + j]] := by
  unfold cut
  rw [List.take_succ_eq_append_getElem (by rw [List.length_drop]; rw [Lib.size_eq] at h; omega), List.getElem_drop]
  rfl
theorem cut_zero (s : ByteArray) (a : Nat) : cut s a 0 = [] := rfl

def vcut (s : ByteArray) (a j : Nat) : Nat := Wirem.val (cut s a j)
theorem vcut_zero (s : ByteArray) (a : Nat) : vcut s a 0 = 0 := rfl
theorem vcut_succ (s : ByteArray) (a j : Nat) (h : a + j < s.size) : vcut s a (j + 1) = vcut s a j * 256 + s[a + j].toNat := by
  unfold vcut; rw [cut_succ s a j h, Wirem.val_snoc]
theorem vcut_lt (s : ByteArray) (a j : Nat) (h : a + j ≤ s.size) : vcut s a j < 256 ^ j := by
  have := Wirem.val_lt (cut s a j)
  rwa [cut_length s a j h] at this
theorem vcut_lt7 (s : ByteArray) (a j : Nat) (h : a + j ≤ s.size) (h7 : j ≤ 7) : vcut s a j < 72057594037927936 :=
  Nat.lt_of_lt_of_le (vcut_lt s a j h) (by have := Nat.pow_le_pow_right (n := 256) (by omega) h7; simpa using this)
theorem vcut_lt8 (s : ByteArray) (a j : Nat) (h : a + j ≤ s.size) (h8 : j ≤ 8) : vcut s a j < 18446744073709551616 :=
  Nat.lt_of_lt_of_le (vcut_lt s a j h) (by have := Nat.pow_le_pow_right (n := 256) (by omega) h8; simpa using this)

theorem or_byte (v x : Nat) (hv : v < 72057594037927936) (hx : x < 256) : bits .or .u64 ((v : Int) * 256) (x : Int) = ((v * 256 + x : Nat) : Int) := by
  have h1 : (BitVec.ofInt 64 ((v : Int) * 256)).toNat = v * 256 := by
    rw [show ((v : Int) * 256) = ((v * 256 : Nat) : Int) by omega, BitVec.ofInt_natCast, BitVec.toNat_ofNat]; exact Nat.mod_eq_of_lt (by omega)
  have h2 : (BitVec.ofInt 64 (x : Int)).toNat = x := by
    rw [BitVec.ofInt_natCast, BitVec.toNat_ofNat]; exact Nat.mod_eq_of_lt (by omega)
  show IntKind.u64.wrap ((BitVec.ofInt 64 ((v : Int) * 256) ||| BitVec.ofInt 64 (x : Int)).toNat : Int) = _
  rw [BitVec.toNat_or, h1, h2, IntKind.wrap_u64]
  have e : v * 256 ||| x = v * 256 + x := by
    rw [show v * 256 = v <<< 8 by rw [Nat.shiftLeft_eq], ← Nat.shiftLeft_add_eq_or_of_lt (by omega), Nat.shiftLeft_eq]
  rw [e]
  omega

theorem get_arg (s : ByteArray) (a k most : Int) (h : a < 0 ∨ k < 1 ∨ most < k) (w : World) :
    Calls Try.prog 70 #[.string s, .int .i64 a, .int .i64 k, .int .i64 most] w fun e w' => e = .returned (.tuple #[.int .u64 0, .int .i64 2]) ∧ w = w' := by
  by_cases h1 : a < 0
  · go_enter Try.func70, Try.ntmps70
    go_wp2_with (fail)
    go_ret2
    exact ⟨rfl, rfl⟩
  · by_cases h2 : k < 1
    all_goals
      go_enter Try.func70, Try.ntmps70
      go_wp2_with (fail)
      go_ret2
      exact ⟨rfl, rfl⟩
theorem get_form (s : ByteArray) (a k most : Int) (h0 : 0 ≤ a) (h1 : 1 ≤ k) (h2 : k ≤ most) (h : (s.size : Int) < a + k) (hs : s.size ≤ 9000000000000000000) (w : World) :
    Calls Try.prog 70 #[.string s, .int .i64 a, .int .i64 k, .int .i64 most] w fun e w' => e = .returned (.tuple #[.int .u64 0, .int .i64 5]) ∧ w = w' := by
  by_cases h3 : (s.size : Int) < a
  all_goals
    go_enter Try.func70, Try.ntmps70
    go_wp2_with (fail)
    go_ret2
    exact ⟨rfl, rfl⟩
theorem get_ok (s : ByteArray) (a k : Nat) (most : Int) (h1 : 1 ≤ k) (h2 : (k : Int) ≤ most) (h8 : k ≤ 8) (h : a + k ≤ s.size) (hs : s.size ≤ 9000000000000000000) (w : World) :
    Calls Try.prog 70 #[.string s, .int .i64 a, .int .i64 k, .int .i64 most] w fun e w' => e = .returned (.tuple #[.int .u64 (vcut s a k), .int .i64 0]) ∧ w = w' := by
  have hd : decide (s.size < a) = false := by rw [decide_eq_false_iff_not]; omega
  go_enter Try.func70, Try.ntmps70
  go_wp2_with (fail)
  go_loop [10, 11, 36] (fun n x i => ∃ j : Nat, j ≤ k ∧ i = .int .i64 j ∧ n = .int .u64 (vcut s a j)) (fun _ _ i => k - (intOf i).toNat)
  case atStart => exact ⟨0, Nat.zero_le _, rfl, rfl⟩
  case round =>
    obtain ⟨j, hj, rfl, rfl⟩ := hrel
    have hb8 := vcut_lt8 s a j (by omega) (by omega)
    by_cases hlt : j < k
    · have hb := vcut_lt7 s a j (by omega) (by omega)
      have hx := (s[a + j]).toNat_lt
      have ho := or_byte (vcut s a j) (s[a + j]).toNat hb (by omega)
      have hs := vcut_succ s a j (by omega)
      have HS := Lib.hid hs; clear hs
      go_wp2
      go_round
      case rel => exact ⟨j + 1, by omega, by go_num, by rw [HS.out]; simp⟩
      case measure => simp [intOf]; omega
    · obtain rfl : j = k := by omega
      go_wp2
      go_ret2
      exact ⟨rfl, rfl⟩

/-! What Get, GetSigned and Field return. -/
def inS (s : ByteArray) (a k : Int) : Bool := decide (a + k ≤ s.size)
def getE (s : ByteArray) (a k most : Int) : Int := if a < 0 ∨ k < 1 ∨ most < k then 2 else if (s.size : Int) < a + k then 5 else 0
def getV (s : ByteArray) (a k : Int) : Int := if a < 0 ∨ k < 1 ∨ 7 < k then 0 else if (s.size : Int) < a + k then 0 else vcut s a.toNat k.toNat
def gsV (s : ByteArray) (a k : Int) : Int := if a < 0 ∨ k < 1 ∨ 8 < k then 0 else if (s.size : Int) < a + k then 0 else Wirem.signed k.toNat (vcut s a.toNat k.toNat)
def fldE (s : ByteArray) (a k : Int) : Int := if a < 0 ∨ k < 0 then 2 else if (s.size : Int) < a + k then 5 else 0
def fldS (s : ByteArray) (a k : Int) : ByteArray := if a < 0 ∨ k < 0 then S [] else if (s.size : Int) < a + k then S [] else s.extract a.toNat (a + k).toNat
def Ret2w (a b : Value) (w : World) (e : Ending) (w' : World) : Prop := e = .returned (.tuple #[a, b]) ∧ w = w'

theorem ret_ii {k l : IntKind} {a b c d : Int} (h : a = b) (h' : c = d) : Ending.returned (.tuple #[.int k a, .int l c]) = .returned (.tuple #[.int k b, .int l d]) := by rw [h, h']

theorem ret_b {a b : Bool} (h : a = b) : Ending.returned (.bool a) = .returned (.bool b) := by rw [h]

theorem Get_any (s : ByteArray) (a k : Int) (hs : s.size ≤ 9000000000000000000) (w : World) :
    Calls Try.prog 65 #[.string s, .int .i64 a, .int .i64 k] w (Ret2w (.int .i64 (getV s a k)) (.int .i64 (getE s a k 7)) w) := by
  by_cases hk : a < 0 ∨ k < 1 ∨ 7 < k
  · have e1 : getV s a k = 0 := by simp [getV, hk]
    have e2 : getE s a k 7 = 2 := by simp [getE, hk]
    rw [e1, e2]
    clear e1 e2
    go_enter Try.func65, Try.ntmps65
    go_wp2_with (fail)
    refine (get_arg s a k 7 hk _).mono ?_
    rintro e w1 ⟨rfl, rfl⟩
    go_wp2_with (fail)
    go_ret2
    exact ⟨rfl, rfl⟩
  · by_cases hf : (s.size : Int) < a + k
    · have e1 : getV s a k = 0 := by simp [getV, hf]
      have e2 : getE s a k 7 = 5 := by unfold getE; rw [if_neg hk, if_pos hf]
      rw [e1, e2]
      clear e1 e2
      go_enter Try.func65, Try.ntmps65
      go_wp2_with (fail)
      refine (get_form s a k 7 (by omega) (by omega) (by omega) hf hs _).mono ?_
      rintro e w1 ⟨rfl, rfl⟩
      go_wp2_with (fail)
      go_ret2
      exact ⟨rfl, rfl⟩
    · obtain ⟨A, rfl⟩ := Int.eq_ofNat_of_zero_le (show 0 ≤ a by omega)
      obtain ⟨K, rfl⟩ := Int.eq_ofNat_of_zero_le (show 0 ≤ k by omega)
      have e1 : getV s A K = vcut s A K := by unfold getV; rw [if_neg hk, if_neg hf]; rfl
      have e2 : getE s A K 7 = 0 := by unfold getE; rw [if_neg hk, if_neg hf]
      rw [e1, e2]
      clear e1 e2
      have hlt := vcut_lt7 s A K (by omega) (by omega)
      go_enter Try.func65, Try.ntmps65
      go_wp2_with (fail)
      refine (get_ok s A K 7 (by omega) (by omega) (by omega) (by omega) hs _).mono ?_
      rintro e w1 ⟨rfl, rfl⟩
      go_wp2_with (fail)
      go_ret2
      exact ⟨rfl, rfl⟩

theorem slice_nat (W : World) (s : ByteArray) (A K : Nat) (h : A + K ≤ s.size) :
    (Instr.slice 9 (.string s) (some (.int .i64 A)) (some (.int .i64 ((A : Int) + (K : Int)))) none).run Try.prog W = .ok (.string (s.extract A (A + K))) W :=
  run_slice_string (P := Try.prog) W 9 s .i64 .i64 A ((A : Int) + K) Try.underlying9 (by omega) (by omega) (by omega)

theorem Field_any (s : ByteArray) (a k : Int) (hs : s.size ≤ 9000000000000000000) (w : World) :
    Calls Try.prog 66 #[.string s, .int .i64 a, .int .i64 k] w (Ret2w (.string (fldS s a k)) (.int .i64 (fldE s a k)) w) := by
  by_cases hk : a < 0 ∨ k < 0
  · have e1 : fldS s a k = S [] := by simp [fldS, hk]
    have e2 : fldE s a k = 2 := by simp [fldE, hk]
    rw [e1, e2]
    clear e1 e2
    by_cases hk1 : a < 0
    all_goals
      go_enter Try.func66, Try.ntmps66
      go_wp2_with (fail)
      go_ret2
      exact ⟨rfl, rfl⟩
  · by_cases hf : (s.size : Int) < a + k
    · have e1 : fldS s a k = S [] := by simp [fldS, hf]
      have e2 : fldE s a k = 5 := by unfold fldE; rw [if_neg hk, if_pos hf]
      rw [e1, e2]
      clear e1 e2
      by_cases hf1 : (s.size : Int) < a
      all_goals
        go_enter Try.func66, Try.ntmps66
        go_wp2_with (fail)
        go_ret2
        exact ⟨rfl, rfl⟩
    · obtain ⟨A, rfl⟩ := Int.eq_ofNat_of_zero_le (show 0 ≤ a by omega)
      obtain ⟨K, rfl⟩ := Int.eq_ofNat_of_zero_le (show 0 ≤ k by omega)
      have e1 : fldS s A K = s.extract A (A + K) := by unfold fldS; rw [if_neg hk, if_neg hf]; rfl
      have e2 : fldE s A K = 0 := by unfold fldE; rw [if_neg hk, if_neg hf]
      rw [e1, e2]
      clear e1 e2
      have hsl := fun W => slice_nat W s A K (by omega)
      go_enter Try.func66, Try.ntmps66
      go_wp2_with (fail)
      go_ret2
      exact ⟨rfl, rfl⟩

end Go.Proofs.Ytccdhoboidneeaa
