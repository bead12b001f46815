/-
  Contracts of crc.Of, Octets, Seal, Mark, Good and Marked.
-/
import Derived.Test.YtppdfnghojcppaaCrc
import Derived.Deep.RegionHeld3
namespace Go.Proofs.Ytppdfnghojcppaa
open Go.RowKit
set_option linter.unusedVariables false

theorem bitsop_u32 (a b : Nat) (ha : a < 4294967296) (hb : b < 4294967296) : bits .and .u32 (a : Int) (b : Int) = ((a &&& b : Nat) : Int) ∧ bits .or .u32 (a : Int) (b : Int) = ((a ||| b : Nat) : Int) := by
  have h1 : (BitVec.ofInt 32 (a : Int)).toNat = a := by rw [BitVec.ofInt_natCast, BitVec.toNat_ofNat]; exact Nat.mod_eq_of_lt ha
  have h2 : (BitVec.ofInt 32 (b : Int)).toNat = b := by rw [BitVec.ofInt_natCast, BitVec.toNat_ofNat]; exact Nat.mod_eq_of_lt hb
  constructor
  · have hx : a &&& b < 2 ^ 32 := Nat.and_lt_two_pow _ (by omega)
    show IntKind.u32.wrap ((BitVec.ofInt 32 (a : Int) &&& BitVec.ofInt 32 (b : Int)).toNat : Int) = _
    rw [BitVec.toNat_and, h1, h2, IntKind.wrap_u32']
    omega
  · have hx : a ||| b < 2 ^ 32 := Nat.or_lt_two_pow (by omega) (by omega)
    show IntKind.u32.wrap ((BitVec.ofInt 32 (a : Int) ||| BitVec.ofInt 32 (b : Int)).toNat : Int) = _
    rw [BitVec.toNat_or, h1, h2, IntKind.wrap_u32']
    omega
theorem or_add (k a b : Nat) (h : b < 2 ^ k) : a * 2 ^ k ||| b = a * 2 ^ k + b := by
  rw [← Nat.shiftLeft_eq, Nat.shiftLeft_add_eq_or_of_lt h]
theorem and_ff00ff (c : Nat) : c &&& 16711935 = c % 256 + c / 65536 % 256 * 65536 := by
  have e1 : (16711935 : Nat) = 255 * 2 ^ 16 ||| 255 := by decide
  have e2 : c &&& 255 = c % 256 := Nat.and_two_pow_sub_one_eq_mod c 8
  have e3 : c &&& (255 * 2 ^ 16) = (c / 65536 % 256) * 2 ^ 16 := by
    apply Nat.eq_of_testBit_eq
    intro i
    rw [Nat.testBit_and, Nat.testBit_mul_two_pow, Nat.testBit_mul_two_pow, show (255 : Nat) = 2 ^ 8 - 1 by rfl, Nat.testBit_two_pow_sub_one, show (256 : Nat) = 2 ^ 8 by rfl, Nat.testBit_mod_two_pow, show (65536 : Nat) = 2 ^ 16 by rfl, Nat.testBit_div_two_pow]
    by_cases hi : 16 ≤ i
    · simp [hi, Bool.and_comm]
    · simp [hi]
  rw [e1, Nat.and_or_distrib_left, e2, e3, or_add 16 _ _ (by omega)]
  omega
theorem or_four (a0 a1 a2 a3 : Nat) (h0 : a0 < 256) (h1 : a1 < 256) (h3 : a3 < 256) : (a1 + a3 * 65536) ||| (a0 + a2 * 65536) * 256 = a2 * 16777216 + (a3 * 65536 + (a0 * 256 + a1)) := by
  have x : a1 + a3 * 65536 = a3 * 2 ^ 16 ||| a1 := by rw [or_add 16 _ _ (by omega)]; omega
  have y : (a0 + a2 * 65536) * 256 = a2 * 2 ^ 24 ||| a0 * 2 ^ 8 := by rw [or_add 24 _ _ (by omega)]; omega
  have z : a2 * 16777216 + (a3 * 65536 + (a0 * 256 + a1)) = a2 * 2 ^ 24 ||| (a3 * 2 ^ 16 ||| (a0 * 2 ^ 8 ||| a1)) := by
    rw [or_add 8 _ _ (by omega), or_add 16 _ _ (by omega), or_add 24 _ _ (by omega)]
  rw [x, y, z]
  ac_rfl

def rev (c : Nat) : Nat := c % 256 * 16777216 + (c / 256 % 256 * 65536 + (c / 65536 % 256 * 256 + c / 16777216))
theorem rev_lt (c : Nat) (h : c < 4294967296) : rev c < 4294967296 := by unfold rev; omega

theorem digits4 (c : Nat) (h : c < 4294967296) : ∃ a0 a1 a2 a3 : Nat, a0 < 256 ∧ a1 < 256 ∧ a2 < 256 ∧ a3 < 256 ∧ c = a0 + a1 * 256 + a2 * 65536 + a3 * 16777216 :=
  ⟨c % 256, c / 256 % 256, c / 65536 % 256, c / 16777216, by omega, by omega, by omega, by omega, by omega⟩
theorem rev_digits (a0 a1 a2 a3 : Nat) (h0 : a0 < 256) (h1 : a1 < 256) (h2 : a2 < 256) (h3 : a3 < 256) : rev (a0 + a1 * 256 + a2 * 65536 + a3 * 16777216) = a0 * 16777216 + (a1 * 65536 + (a2 * 256 + a3)) := by
  unfold rev; omega
theorem ofNat_congr {a b : Nat} (h : a % 256 = b % 256) : UInt8.ofNat a = UInt8.ofNat b := by
  apply UInt8.toNat_inj.1; rw [UInt8.toNat_ofNat', UInt8.toNat_ofNat']; exact h

theorem be_rev (c : Nat) (h : c < 4294967296) : Wirem.be 4 (rev c) = Crcm.oct c := by
  obtain ⟨a0, a1, a2, a3, h0, h1, h2, h3, rfl⟩ := digits4 c h
  rw [rev_digits _ _ _ _ h0 h1 h2 h3]
  unfold Crcm.oct
  simp only [Wirem.be, List.nil_append, List.cons_append, List.cons.injEq, and_true]
  generalize hR : a0 * 16777216 + (a1 * 65536 + (a2 * 256 + a3)) = R
  have r1 : (R : Int) / 256 = ((a2 + a1 * 256 + a0 * 65536 : Nat) : Int) := by omega
  have r2 : ((a2 + a1 * 256 + a0 * 65536 : Nat) : Int) / 256 = ((a1 + a0 * 256 : Nat) : Int) := by omega
  have r3 : ((a1 + a0 * 256 : Nat) : Int) / 256 = (a0 : Int) := by omega
  have d1 : (a0 + a1 * 256 + a2 * 65536 + a3 * 16777216) / 256 = a1 + a2 * 256 + a3 * 65536 := by omega
  have d2 : (a0 + a1 * 256 + a2 * 65536 + a3 * 16777216) / 65536 = a2 + a3 * 256 := by omega
  have d3 : (a0 + a1 * 256 + a2 * 65536 + a3 * 16777216) / 16777216 = a3 := by omega
  rw [r1, r2, r3, d1, d2, d3]
  refine ⟨?_, ?_, ?_, ?_⟩ <;> (apply ofNat_congr; omega)

theorem rev_facts (c : Nat) (h : c < 4294967296) : ∃ A B T V : Nat, A ≤ 16711935 ∧ B ≤ 16711935 ∧ T < 4294967296 ∧ V < 4294967296 ∧ c / 256 &&& 16711935 = A ∧ c &&& 16711935 = B ∧ A ||| B * 256 = T ∧ T * 65536 % 4294967296 = V ∧ T / 65536 ||| V = rev c := by
  obtain ⟨a0, a1, a2, a3, h0, h1, h2, h3, rfl⟩ := digits4 c h
  refine ⟨a1 + a3 * 65536, a0 + a2 * 65536, a2 * 16777216 + (a3 * 65536 + (a0 * 256 + a1)), (a0 * 256 + a1) * 65536, by omega, by omega, by omega, by omega, ?_, ?_, ?_, ?_, ?_⟩
  · rw [and_ff00ff]; omega
  · rw [and_ff00ff]; omega
  · exact or_four _ _ _ _ h0 h1 h3
  · omega
  · rw [rev_digits _ _ _ _ h0 h1 h2 h3, show (a2 * 16777216 + (a3 * 65536 + (a0 * 256 + a1))) / 65536 = a2 * 256 + a3 by omega, Nat.or_comm, show (a0 * 256 + a1) * 65536 = (a0 * 256 + a1) * 2 ^ 16 by rfl, or_add 16 _ _ (by omega)]
    omega

theorem ReverseBytes32_any (c : Nat) (hc : c < 4294967296) (w : World) :
    Calls Try.prog 69 #[.int .u32 (c : Int)] w fun e w' => e = .returned (.int .u32 ((rev c : Nat) : Int)) ∧ w = w' := by
  obtain ⟨A, B, T, V, hA, hB, hT, hV, e1, e2, e3, e4, e5⟩ := rev_facts c hc
  have f1 := (bitsop_u32 (c / 256) 16711935 (by omega) (by omega)).1
  have f2 := (bitsop_u32 c 16711935 (by omega) (by omega)).1
  have f3 := (bitsop_u32 A (B * 256) (by omega) (by omega)).2
  have f4 := (bitsop_u32 (T / 65536) V (by omega) hV).2
  rw [e1] at f1
  rw [e2] at f2
  rw [e3] at f3
  rw [e5] at f4
  have g4 : IntKind.u32.wrap ((T : Int) * 65536) = (V : Int) := by rw [IntKind.wrap_u32']; omega
  clear e1 e2 e3 e4 e5
  generalize rev c = R at *
  simp only [Int.natCast_ediv, Int.cast_ofNat_Int, Int.natCast_mul] at f1 f2 f3 f4
  go_enter Try.func69, Try.ntmps69
  go_wp2_with (fail)
  go_ret
  exact ⟨rfl, rfl⟩

theorem Octets_any (c : Nat) (hc : c < 4294967296) (w : World) :
    Calls Try.prog 57 #[.int .u32 (c : Int)] w fun e w' => e = .returned (.string (S (Crcm.oct c))) ∧ Below w.heap.size w w' := by
  have hr := rev_lt c hc
  have hl : lim 4 = 4294967295 := by decide
  have c1 := fun W => Put_any (S []) (rev c) 4 (by decide) W
  have e1 : putS (S []) (rev c) 4 = S (Crcm.oct c) := by
    unfold putS
    rw [if_neg (by omega), if_neg (by show ¬ lim 4 < _; omega), S_append, List.nil_append]
    show S (Wirem.be 4 _) = _
    rw [be_rev c hc]
  have e2 : putE (rev c) 4 = 0 := by
    unfold putE
    rw [if_neg (by omega), if_neg (by show ¬ lim 4 < _; omega)]
  rw [e1, e2] at c1
  have C1 := Lib.hid c1; clear c1 e1 e2 hl
  go_enter Try.func57, Try.ntmps57
  go_wp2_with (fail)
  refine (ReverseBytes32_any c hc _).mono ?_
  rintro e _ ⟨rfl, rfl⟩
  go_wp2_with (fail)
  refine (C1.out _).mono ?_
  rintro e w1 ⟨rfl, hb1⟩
  go_wp2_with (fail)
  go_ret
  exact ⟨rfl, hb1⟩

theorem Of_any (s : ByteArray) (hs : s.size ≤ 9000000000000000000) (w : World) :
    Calls Try.prog 58 #[.string s] w fun e w' => e = .returned (.int .u32 ((Crcm.crc s.data.toList : Nat) : Int)) ∧ Below w.heap.size w w' := by
  go_enter Try.func58, Try.ntmps58
  go_wp2_with (fail)
  refine (Extend_any 0 (by omega) s hs _).mono ?_
  rintro e w1 ⟨rfl, hb1⟩
  go_wp2_with (fail)
  go_ret
  exact ⟨rfl, hb1⟩
end Go.Proofs.Ytppdfnghojcppaa
