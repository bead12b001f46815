/-
  What damage does to sealed strings, in plain terms: bursts of 32 bits, one bit, two bits; strings of one length are linear.
-/
import Derived.Test.YtppdfnghojcppaaCrcKnown
namespace Go.Proofs.Ytppdfnghojcppaa
open Go.RowKit
set_option linter.unusedVariables false

theorem ba_eq {x y : ByteArray} (h : x.toList = y.toList) : x = y := by
  rw [Lib.toList_data, Lib.toList_data] at h
  have := congrArg S h
  rwa [S_of, S_of] at this
theorem ba_ne {x y : ByteArray} (h : x ≠ y) : (x.toList == y.toList) = false := by
  rw [beq_eq_false_iff_ne]; exact fun e => h (ba_eq e)
theorem flip_same {l : List UInt8} {E : Nat} (h : E % 2 ^ (8 * l.length) = 0) : Crcm.flip l E = l := by
  apply Crcm.le_inj (Crcm.flip_length l E)
  rw [Crcm.le_flip, h, Nat.xor_zero]
theorem flip_mod (p k n : Nat) (h : k ≤ n) : p * 2 ^ k % 2 ^ n = p % 2 ^ (n - k) * 2 ^ k := by
  rw [show (2 : Nat) ^ n = 2 ^ (n - k) * 2 ^ k by rw [← Nat.pow_add]; congr 1; omega, Nat.mul_mod_mul_right]

/-- A sealed string of which some of 32 consecutive bits are changed is not sealed. -/
theorem burst {m : Nat} (hm : m < 4294967296) (l : List UInt8) (k p : Nat) (hk : k < 8 * l.length) (hp : p < 4294967296) (h1 : Crcm.goodM m l = true) (h2 : Crcm.goodM m (Crcm.flip l (p * 2 ^ k)) = true) :
    Crcm.flip l (p * 2 ^ k) = l := by
  have h := Crcm.both_good hm (Crcm.flip_length l (p * 2 ^ k)).symm h1 h2
  rw [Crcm.le_flip, ← Nat.xor_assoc, Nat.xor_self, Nat.zero_xor, flip_mod _ _ _ (by omega)] at h
  have h0 := Crcm.burst_ne (by omega) (Nat.lt_of_le_of_lt (Nat.mod_le _ _) hp) h
  apply flip_same
  rw [flip_mod _ _ _ (by omega), h0, Nat.zero_mul]
theorem burstB (m : Nat) (hm : m < 4294967296) (s : ByteArray) (k p : Nat) (hk : k < 8 * s.size) (hp : p < 4294967296) (h1 : goodB m s = true) (hne : flipB s k p ≠ s) : goodB m (flipB s k p) = false := by
  rcases h : goodB m (flipB s k p) with _ | _
  · rfl
  · exfalso
    apply hne
    unfold goodB flipB at h
    rw [S, ByteArray.mk.injEq] at *
    have h2 : Crcm.goodM m (Crcm.flip s.data.toList (p * 2 ^ k)) = true := by simpa using h
    have := burst hm s.data.toList k p (by rw [← Lib.size_eq]; exact hk) hp h1 h2
    unfold flipB
    rw [this, S_of]

/-- Two bits, or one. -/
theorem flip_flip (l : List UInt8) (D E : Nat) : Crcm.flip (Crcm.flip l D) E = Crcm.flip l (D ^^^ E) := by
  apply Crcm.le_inj
  · rw [Crcm.flip_length, Crcm.flip_length, Crcm.flip_length]
  · rw [Crcm.le_flip, Crcm.le_flip, Crcm.le_flip, Crcm.flip_length, Nat.xor_assoc, ← Nat.xor_mod_two_pow]
theorem pairs (l : List UInt8) (a b : Nat) (ha : a < 8 * l.length) (hb : b < 8 * l.length) (hl : 8 * l.length ≤ 2000) (h1 : Crcm.goodM 0 l = true) : Crcm.goodM 0 (Crcm.flip l (2 ^ a ^^^ 2 ^ b)) = (a == b) := by
  rw [Bool.eq_iff_iff, beq_iff_eq]
  constructor
  · intro h2
    have h := Crcm.both_good (by omega) (Crcm.flip_length l _).symm h1 h2
    have hlt : 2 ^ a ^^^ 2 ^ b < 2 ^ (8 * l.length) := Nat.xor_lt_two_pow (Nat.pow_lt_pow_right (by omega) ha) (Nat.pow_lt_pow_right (by omega) hb)
    rw [Crcm.le_flip, ← Nat.xor_assoc, Nat.xor_self, Nat.zero_xor, Nat.mod_eq_of_lt hlt] at h
    rcases Nat.lt_trichotomy a b with hab | hab | hab
    · exact (Crcm.pair_ne hab (by omega) (by omega) h).elim
    · exact hab
    · rw [Nat.xor_comm] at h
      exact (Crcm.pair_ne hab (by omega) (by omega) h).elim
  · rintro rfl
    rw [Nat.xor_self, flip_same (Nat.zero_mod _)]
    exact h1
theorem pairsB (s : ByteArray) (a b : Nat) (ha : a < 8 * s.size) (hb : b < 8 * s.size) (hl : s.size ≤ 250) (h1 : goodB 0 s = true) : goodB 0 (flipB (flipB s a 1) b 1) = (a == b) := by
  have e : flipB (flipB s a 1) b 1 = S (Crcm.flip s.data.toList (2 ^ a ^^^ 2 ^ b)) := by
    unfold flipB
    rw [show (S (Crcm.flip s.data.toList (1 * 2 ^ a))).data.toList = Crcm.flip s.data.toList (1 * 2 ^ a) by simp [S], flip_flip, Nat.one_mul, Nat.one_mul]
  unfold goodB
  rw [e, show (S (Crcm.flip s.data.toList (2 ^ a ^^^ 2 ^ b))).data.toList = Crcm.flip s.data.toList (2 ^ a ^^^ 2 ^ b) by simp [S]]
  rw [Lib.size_eq] at ha hb hl
  exact pairs _ a b ha hb (by omega) h1
theorem oneB (s : ByteArray) (a : Nat) (ha : a < 8 * s.size) (h1 : goodB 0 s = true) : goodB 0 (flipB s a 1) = false := by
  apply burstB 0 (by omega) s a 1 ha (by omega) h1
  intro he
  have h2 : Crcm.flip s.data.toList (1 * 2 ^ a) = s.data.toList := by
    have := congrArg (fun x : ByteArray => x.data.toList) he
    simpa [flipB, S] using this
  have h3 := Crcm.le_flip s.data.toList (1 * 2 ^ a)
  rw [Lib.size_eq] at ha
  rw [h2, Nat.one_mul, Nat.mod_eq_of_lt (Nat.pow_lt_pow_right (by omega) ha)] at h3
  have h4 : 2 ^ a = 0 := by
    have e : Crcm.le s.data.toList ^^^ Crcm.le s.data.toList = 2 ^ a := by
      conv => lhs; rhs; rw [h3]
      rw [← Nat.xor_assoc, Nat.xor_self, Nat.zero_xor]
    rw [Nat.xor_self] at e
    exact e.symm
  have := Nat.pow_pos (n := a) (show 0 < 2 by omega)
  omega

/-- Strings of one length. -/
def xor3 : List UInt8 → List UInt8 → List UInt8 → List UInt8
  | a :: la, b :: bs, c :: cs => UInt8.ofNat (a.toNat ^^^ b.toNat ^^^ c.toNat) :: xor3 la bs cs
  | _, _, _ => []
theorem xor3_length : ∀ (n : Nat) (a b c : List UInt8), a.length = n → b.length = n → c.length = n → (xor3 a b c).length = n
  | 0, [], [], [], _, _, _ => rfl
  | n + 1, _ :: la, _ :: bs, _ :: cs, h1, h2, h3 => by
    rw [xor3, List.length_cons, xor3_length n la bs cs (by simpa using h1) (by simpa using h2) (by simpa using h3)]
theorem xor3_le : ∀ (n : Nat) (a b c : List UInt8), a.length = n → b.length = n → c.length = n → Crcm.le (xor3 a b c) = Crcm.le a ^^^ Crcm.le b ^^^ Crcm.le c
  | 0, [], [], [], _, _, _ => rfl
  | n + 1, x :: la, y :: bs, z :: cs, h1, h2, h3 => by
    have hx := x.toNat_lt
    have hy := y.toNat_lt
    have hz := z.toNat_lt
    have h : x.toNat ^^^ y.toNat ^^^ z.toNat < 256 := Nat.xor_lt_two_pow (n := 8) (Nat.xor_lt_two_pow (n := 8) (by omega) (by omega)) (by omega)
    have e : ∀ u v : Nat, u < 256 → u + v * 256 = u ^^^ v * 2 ^ 8 := fun u v hu => Crcm.add_eq_xor 8 u v hu
    simp only [xor3, Crcm.le]
    rw [xor3_le n la bs cs (by simpa using h1) (by simpa using h2) (by simpa using h3), UInt8.toNat_ofNat', Nat.mod_eq_of_lt (by omega), e _ _ h, e _ _ hx, e _ _ hy, e _ _ hz]
    rw [← Nat.shiftLeft_eq, ← Nat.shiftLeft_eq, ← Nat.shiftLeft_eq, ← Nat.shiftLeft_eq, Nat.shiftLeft_xor_distrib, Nat.shiftLeft_xor_distrib]
    ac_rfl
theorem xor3_at : ∀ (n : Nat) (a b c : List UInt8) (h1 : a.length = n) (h2 : b.length = n) (h3 : c.length = n) (j : Nat) (hj : j < n), (xor3 a b c)[j]'(by rw [xor3_length n a b c h1 h2 h3]; exact hj) = UInt8.ofNat ((a[j]'(by omega)).toNat ^^^ (b[j]'(by omega)).toNat ^^^ (c[j]'(by omega)).toNat)
  | 0, _, _, _, _, _, _, _, hj => by omega
  | n + 1, _ :: _, _ :: _, _ :: _, _, _, _, 0, _ => rfl
  | n + 1, _ :: la, _ :: bs, _ :: cs, h1, h2, h3, j + 1, hj => by
    have := xor3_at n la bs cs (by simpa using h1) (by simpa using h2) (by simpa using h3) j (by omega)
    simpa [xor3] using this
theorem linear (n : Nat) (a b c : List UInt8) (h1 : a.length = n) (h2 : b.length = n) (h3 : c.length = n) : Crcm.crc (xor3 a b c) = Crcm.crc a ^^^ Crcm.crc b ^^^ Crcm.crc c := by
  unfold Crcm.crc Crcm.extend Crcm.inv
  rw [Crcm.reg_eq, Crcm.reg_eq, Crcm.reg_eq, Crcm.reg_eq, xor3_length n a b c h1 h2 h3, h1, h2, h3, xor3_le n a b c h1 h2 h3, Nat.zero_xor]
  simp only [Crcm.Ts_xor]
  generalize Crcm.Ts (8 * n) Crcm.mask = M
  have e : M ^^^ (Crcm.Ts (8 * n) (Crcm.le a) ^^^ Crcm.Ts (8 * n) (Crcm.le b) ^^^ Crcm.Ts (8 * n) (Crcm.le c)) ^^^ Crcm.mask
      = ((M ^^^ M) ^^^ (Crcm.mask ^^^ Crcm.mask)) ^^^ (M ^^^ (Crcm.Ts (8 * n) (Crcm.le a) ^^^ Crcm.Ts (8 * n) (Crcm.le b) ^^^ Crcm.Ts (8 * n) (Crcm.le c)) ^^^ Crcm.mask) := by
    rw [Nat.xor_self, Nat.xor_self, Nat.zero_xor, Nat.zero_xor]
  rw [e]
  ac_rfl
end Go.Proofs.Ytppdfnghojcppaa
