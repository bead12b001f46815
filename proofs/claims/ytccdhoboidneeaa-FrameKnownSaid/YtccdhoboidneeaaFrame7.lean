/-
  Contracts of the reader's number and field.
-/
import Derived.Test.YtccdhoboidneeaaFrameMath
namespace Go.Proofs.Ytccdhoboidneeaa
open Go.RowKit
set_option linter.unusedVariables false

theorem ret2w_swap {P : Program} {f : FuncId} {args : Array Value} {w : World} {a b : Value} (h : Calls P f args w (Ret2w a b w)) : Calls P f args w fun e w' => e = .returned (.tuple #[a, b]) ∧ w' = w := h.mono fun _ _ h => ⟨h.1, h.2.symm⟩
theorem number_ok (t : ByteArray) (a k : Nat) (ht : t.size ≤ 9000000000000000000) (h1 : 1 ≤ k) (h7 : k ≤ 7) (h : a + k ≤ t.size) (R : Nat) (K : Int) (hK : K = k) (w : World) (c0 : w.cell? ⟨R, 0, none⟩ = some (.int .i64 a)) (c1 : w.cell? ⟨R, 1, none⟩ = some (.string t)) (z : w.frozen? ⟨R, 0, none⟩ = false) :
    Calls Try.prog 56 #[.pointer (some ⟨R, 0, none⟩), .int .i64 K] w fun e w' => e = .returned (.int .i64 (vcut t a k)) ∧ ∃ n, w' = (w.setCell ⟨R, 0, none⟩ (.int .i64 ((a : Int) + k))).drewN n := by
  subst hK
  have hv : getV t a k = vcut t a k := by unfold getV; rw [if_neg (by omega), if_neg (by omega)]; rfl
  have he : getE t a k 7 = 0 := by unfold getE; rw [if_neg (by omega), if_neg (by omega)]
  have hG := fun W => Get_any t a k ht W
  rw [hv, he] at hG
  have hG := fun W => ret2w_swap (hG W)
  have HG := Lib.hid hG; clear hG hv he
  generalize vcut t a k = V at *
  go_enter Try.func56, Try.ntmps56
  go_wp2_with (fail)
  go_quiet ((go_at_call 65; exact Calls.quiet_of_same (HG.out _)))
  go_wp2_with (fail)
  go_ret
  exact ⟨rfl, _, rfl⟩
theorem field_ok (t : ByteArray) (a k : Nat) (ht : t.size ≤ 9000000000000000000) (h : a + k ≤ t.size) (R : Nat) (K : Int) (hK : K = k) (w : World) (c0 : w.cell? ⟨R, 0, none⟩ = some (.int .i64 a)) (c1 : w.cell? ⟨R, 1, none⟩ = some (.string t)) (z : w.frozen? ⟨R, 0, none⟩ = false) :
    Calls Try.prog 57 #[.pointer (some ⟨R, 0, none⟩), .int .i64 K] w fun e w' => e = .returned (.string (t.extract a (a + k))) ∧ ∃ n, w' = (w.setCell ⟨R, 0, none⟩ (.int .i64 ((a : Int) + k))).drewN n := by
  subst hK
  have hv : fldS t a k = t.extract a (a + k) := by unfold fldS; rw [if_neg (by omega), if_neg (by omega)]; rfl
  have he : fldE t a k = 0 := by unfold fldE; rw [if_neg (by omega), if_neg (by omega)]
  have hG := fun W => Field_any t a k ht W
  rw [hv, he] at hG
  have hG := fun W => ret2w_swap (hG W)
  have HG := Lib.hid hG; clear hG hv he
  generalize t.extract a (a + k) = V at *
  go_enter Try.func57, Try.ntmps57
  go_wp2_with (fail)
  go_quiet ((go_at_call 66; exact Calls.quiet_of_same (HG.out _)))
  go_wp2_with (fail)
  go_ret
  exact ⟨rfl, _, rfl⟩
theorem field_bad (t : ByteArray) (a k : Nat) (ht : t.size ≤ 9000000000000000000) (h : t.size < a + k) (R : Nat) (K : Int) (hK : K = k) (w : World) (c0 : w.cell? ⟨R, 0, none⟩ = some (.int .i64 a)) (c1 : w.cell? ⟨R, 1, none⟩ = some (.string t)) (z : w.frozen? ⟨R, 0, none⟩ = false) :
    Calls Try.prog 57 #[.pointer (some ⟨R, 0, none⟩), .int .i64 K] w fun e w' => e = .panicked [{ v := .iface 104 (.agg #[]), recovered := false }] ∧ ∃ n, w' = w.drewN n := by
  subst hK
  have he : fldE t a k = 5 := by unfold fldE; rw [if_neg (by omega), if_pos (by omega)]
  have hG := fun W => Field_any t a k ht W
  rw [he] at hG
  have hG := fun W => ret2w_swap (hG W)
  have HG := Lib.hid hG; clear hG he
  generalize fldS t a k = V at *
  go_enter Try.func57, Try.ntmps57
  go_wp2_with (fail)
  go_quiet ((go_at_call 66; exact Calls.quiet_of_same (HG.out _)))
  go_wp2_with (fail)
  exact ⟨rfl, rfl, _, rfl⟩
theorem rd_v (t : ByteArray) (a k : Nat) : ((vcut t a k : Nat) : Int) = rd t.data.toList a k := rfl
theorem and_8191 (v : Int) (h0 : 0 ≤ v) (h : v < 65536) : bits .and .i64 v 8191 = v % 8192 := by
  obtain ⟨c, rfl⟩ := Int.eq_ofNat_of_zero_le h0
  have h1 : (BitVec.ofInt 64 (c : Int)).toNat = c := by rw [BitVec.ofInt_natCast, BitVec.toNat_ofNat]; exact Nat.mod_eq_of_lt (by omega)
  show IntKind.i64.wrap ((BitVec.ofInt 64 (c : Int) &&& BitVec.ofInt 64 8191).toNat : Int) = _
  rw [BitVec.toNat_and, h1, show (BitVec.ofInt 64 8191).toNat = 2 ^ 13 - 1 by decide, Nat.and_two_pow_sub_one_eq_mod, IntWalk.i64_in _ (by omega)]
  omega
theorem setCell_drewN (w : World) (n : Nat) (p : Addr) (v : Value) : (w.drewN n).setCell p v = (w.setCell p v).drewN n := rfl
theorem number_v (t : ByteArray) (a k : Nat) (V : Int) (hv : rd t.data.toList a k = V) (ht : t.size ≤ 9000000000000000000) (h1 : 1 ≤ k) (h7 : k ≤ 7) (h : a + k ≤ t.size) (R : Nat) (K A : Int) (hK : K = k) (hA : A = a) (w : World) (c0 : w.cell? ⟨R, 0, none⟩ = some (.int .i64 A)) (c1 : w.cell? ⟨R, 1, none⟩ = some (.string t)) (z : w.frozen? ⟨R, 0, none⟩ = false) :
    Calls Try.prog 56 #[.pointer (some ⟨R, 0, none⟩), .int .i64 K] w fun e w' => e = .returned (.int .i64 V) ∧ ∃ n, w' = (w.setCell ⟨R, 0, none⟩ (.int .i64 (A + K))).drewN n := by
  subst hA hK hv
  rw [← rd_v]
  exact number_ok t a k ht h1 h7 h R _ rfl w c0 c1 z
theorem field_v (t : ByteArray) (a k : Nat) (ht : t.size ≤ 9000000000000000000) (h : a + k ≤ t.size) (R : Nat) (K A : Int) (hK : K = k) (hA : A = a) (w : World) (c0 : w.cell? ⟨R, 0, none⟩ = some (.int .i64 A)) (c1 : w.cell? ⟨R, 1, none⟩ = some (.string t)) (z : w.frozen? ⟨R, 0, none⟩ = false) :
    Calls Try.prog 57 #[.pointer (some ⟨R, 0, none⟩), .int .i64 K] w fun e w' => e = .returned (.string (t.extract a (a + k))) ∧ ∃ n, w' = (w.setCell ⟨R, 0, none⟩ (.int .i64 (A + K))).drewN n := by
  subst hA hK
  exact field_ok t a k ht h R _ rfl w c0 c1 z
theorem field_no (t : ByteArray) (a k : Nat) (ht : t.size ≤ 9000000000000000000) (h : t.size < a + k) (R : Nat) (K A : Int) (hK : K = k) (hA : A = a) (w : World) (c0 : w.cell? ⟨R, 0, none⟩ = some (.int .i64 A)) (c1 : w.cell? ⟨R, 1, none⟩ = some (.string t)) (z : w.frozen? ⟨R, 0, none⟩ = false) :
    Calls Try.prog 57 #[.pointer (some ⟨R, 0, none⟩), .int .i64 K] w fun e w' => e = .panicked [{ v := .iface 104 (.agg #[]), recovered := false }] ∧ ∃ n, w' = w.drewN n := by
  subst hA hK
  exact field_bad t a k ht h R _ rfl w c0 c1 z
end Go.Proofs.Ytccdhoboidneeaa
