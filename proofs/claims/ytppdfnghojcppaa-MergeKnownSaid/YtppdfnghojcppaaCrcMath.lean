/-
  PLAIN MATHEMATICS OF CHAPTER 6, NO PROGRAM IN SIGHT: the step of the check sum's register as a linear map of natural numbers; what damage of 32 consecutive bits, of one or of two bits does.
-/
namespace Crcm

/-- One step of the register with no input: the input is taken in by exclusive or beforehand. -/
def T (c : Nat) : Nat := if c % 2 = 1 then (c / 2) ^^^ 3988292384 else c / 2

/-- n steps. -/
def Ts : Nat → Nat → Nat
  | 0, c => c
  | n + 1, c => Ts n (T c)

theorem T_xor (a b : Nat) : T (a ^^^ b) = T a ^^^ T b := by
  unfold T
  have hm : (a ^^^ b) % 2 = (a % 2 + b % 2) % 2 := by
    have := Nat.xor_mod_two_eq_one (a := a) (b := b)
    omega
  rw [hm, Nat.xor_div_two]
  rcases Nat.mod_two_eq_zero_or_one a with ha | ha <;> rcases Nat.mod_two_eq_zero_or_one b with hb | hb <;> simp [ha, hb]
  · ac_rfl
  · ac_rfl
  · have e : a / 2 ^^^ 3988292384 ^^^ (b / 2 ^^^ 3988292384) = (a / 2 ^^^ b / 2) ^^^ (3988292384 ^^^ 3988292384) := by ac_rfl
    rw [e, Nat.xor_self, Nat.xor_zero]

theorem T_zero : T 0 = 0 := rfl

theorem Ts_xor (n a b : Nat) : Ts n (a ^^^ b) = Ts n a ^^^ Ts n b := by
  induction n generalizing a b with
  | zero => rfl
  | succ n ih => simp only [Ts, T_xor, ih]

theorem Ts_nought (a : Nat) : Ts 0 a = a := rfl
theorem Ts_succ (n a : Nat) : Ts (n + 1) a = Ts n (T a) := rfl
theorem Ts_zero (n : Nat) : Ts n 0 = 0 := by
  induction n with
  | zero => rfl
  | succ n ih => simpa only [Ts, T_zero] using ih

theorem Ts_add (m n a : Nat) : Ts (m + n) a = Ts n (Ts m a) := by
  induction m generalizing a with
  | zero => simp [Ts]
  | succ m ih => rw [Nat.succ_add]; simp only [Ts, ih]

theorem Ts_snoc (n a : Nat) : Ts (n + 1) a = T (Ts n a) := by rw [Ts_add]; rfl
theorem T_lt {c : Nat} (h : c < 4294967296) : T c < 4294967296 := by
  unfold T
  split
  · exact Nat.xor_lt_two_pow (n := 32) (by omega) (by omega)
  · omega

theorem Ts_lt {n c : Nat} (h : c < 4294967296) : Ts n c < 4294967296 := by
  induction n generalizing c with
  | zero => exact h
  | succ n ih => exact ih (T_lt h)

theorem xor_eq_zero {a b : Nat} (h : a ^^^ b = 0) : a = b := by
  have e : a ^^^ b ^^^ b = b := by rw [h, Nat.zero_xor]
  rwa [Nat.xor_assoc, Nat.xor_self, Nat.xor_zero] at e

theorem T_eq_zero {c : Nat} (h : c < 4294967296) (hz : T c = 0) : c = 0 := by
  unfold T at hz
  split at hz
  · have := xor_eq_zero hz; omega
  · omega

theorem Ts_eq_zero {n c : Nat} (h : c < 4294967296) (hz : Ts n c = 0) : c = 0 := by
  induction n generalizing c with
  | zero => exact hz
  | succ n ih => exact T_eq_zero h (ih (T_lt h) hz)

theorem Ts_inj {n a b : Nat} (ha : a < 4294967296) (hb : b < 4294967296) (h : Ts n a = Ts n b) : a = b := by
  apply xor_eq_zero
  apply Ts_eq_zero (n := n) (Nat.xor_lt_two_pow (n := 32) ha hb)
  rw [Ts_xor, h, Nat.xor_self]

theorem T_double (a : Nat) : T (a * 2) = a := by
  unfold T
  rw [if_neg (by omega)]
  omega

theorem Ts_shift (n a : Nat) : Ts n (a * 2 ^ n) = a := by
  induction n generalizing a with
  | zero => simp [Ts]
  | succ n ih =>
    have e : a * 2 ^ (n + 1) = (a * 2 ^ n) * 2 := by rw [Nat.pow_succ, Nat.mul_assoc]
    rw [Ts, e, T_double, ih]

/-- A number below 2^k and one shifted by k do not meet: their sum is their exclusive or. -/
theorem add_eq_xor (k a b : Nat) (h : a < 2 ^ k) : a + b * 2 ^ k = a ^^^ (b * 2 ^ k) := by
  apply Nat.eq_of_testBit_eq
  intro i
  rw [Nat.testBit_xor, Nat.testBit_mul_two_pow]
  rw [show a + b * 2 ^ k = 2 ^ k * b + a by rw [Nat.mul_comm]; omega, Nat.testBit_two_pow_mul_add b h i]
  by_cases hi : i < k
  · rw [if_pos hi]
    simp [Nat.not_le.2 hi]
  · rw [if_neg hi]
    have : a.testBit i = false := Nat.testBit_lt_two_pow (Nat.lt_of_lt_of_le h (Nat.pow_le_pow_right (by omega) (by omega)))
    simp [this, Nat.le_of_not_lt hi]

/-- The number of a string, its least octet first. -/
def le : List UInt8 → Nat
  | [] => 0
  | x :: xs => x.toNat + le xs * 256

/-- Eight steps. -/
def T8 (c : Nat) : Nat := T (T (T (T (T (T (T (T c)))))))
theorem T8_eq (c : Nat) : T8 c = Ts 8 c := rfl
attribute [irreducible] T8 Ts

/-- The register after a string. -/
def reg (c : Nat) : List UInt8 → Nat
  | [] => c
  | x :: xs => reg (T8 (c ^^^ x.toNat)) xs

theorem reg_append (c : Nat) (s t : List UInt8) : reg c (s ++ t) = reg (reg c s) t := by
  induction s generalizing c with
  | nil => rfl
  | cons x s ih => simp only [List.cons_append, reg, ih]

theorem reg_lt {c : Nat} (s : List UInt8) (h : c < 4294967296) : reg c s < 4294967296 := by
  induction s generalizing c with
  | nil => exact h
  | cons x s ih => rw [reg, T8_eq]; exact ih (Ts_lt (Nat.xor_lt_two_pow (n := 32) h (by have := x.toNat_lt; omega)))

/-- THE REGISTER AFTER A STRING IS THE REGISTER AND THE STRING'S NUMBER, STEPPED ONCE FOR EACH BIT. -/
theorem reg_eq (c : Nat) (s : List UInt8) : reg c s = Ts (8 * s.length) (c ^^^ le s) := by
  induction s generalizing c with
  | nil => simp [reg, le, Ts_nought]
  | cons x s ih =>
    have e : c ^^^ le (x :: s) = (c ^^^ x.toNat) ^^^ (le s * 2 ^ 8) := by
      rw [le, show le s * 256 = le s * 2 ^ 8 from rfl, add_eq_xor 8 _ _ (by have := x.toNat_lt; omega)]
      ac_rfl
    rw [reg, T8_eq, ih, e, List.length_cons, Nat.mul_succ, Nat.add_comm (8 * s.length) 8, Ts_add, Ts_xor 8 (c ^^^ x.toNat), Ts_shift]

theorem le_lt (s : List UInt8) : le s < 2 ^ (8 * s.length) := by
  induction s with
  | nil => simp [le]
  | cons x s ih =>
    have := x.toNat_lt
    rw [le, List.length_cons, show 8 * (s.length + 1) = 8 * s.length + 8 by omega, Nat.pow_add]
    omega

theorem le_append (s t : List UInt8) : le (s ++ t) = le s + le t * 2 ^ (8 * s.length) := by
  induction s with
  | nil => simp [le]
  | cons x s ih =>
    rw [List.cons_append, le, ih, le, List.length_cons, show 8 * (s.length + 1) = 8 * s.length + 8 by omega, Nat.pow_add, Nat.add_mul, Nat.mul_assoc, Nat.add_assoc]

theorem le_inj {s t : List UInt8} (hl : s.length = t.length) (h : le s = le t) : s = t := by
  induction s generalizing t with
  | nil => cases t with
    | nil => rfl
    | cons y t => cases hl
  | cons x s ih => cases t with
    | nil => cases hl
    | cons y t =>
      simp only [le] at h
      have hx := x.toNat_lt
      have hy := y.toNat_lt
      have e1 : x.toNat = y.toNat := by omega
      have e2 : le s = le t := by omega
      rw [UInt8.toNat_inj.1 e1, ih (by simpa using hl) e2]

/-- The four check octets of a number. -/
def oct (c : Nat) : List UInt8 := [UInt8.ofNat c, UInt8.ofNat (c / 256), UInt8.ofNat (c / 65536), UInt8.ofNat (c / 16777216)]

theorem oct_length (c : Nat) : (oct c).length = 4 := rfl
theorem le_oct {c : Nat} (h : c < 4294967296) : le (oct c) = c := by
  simp only [oct, le, UInt8.toNat_ofNat']
  omega

def mask : Nat := 4294967295
def inv (c : Nat) : Nat := c ^^^ mask
theorem inv_lt {c : Nat} (h : c < 4294967296) : inv c < 4294967296 := Nat.xor_lt_two_pow (n := 32) h (by unfold mask; omega)
theorem inv_inv (c : Nat) : inv (inv c) = c := by unfold inv; rw [Nat.xor_assoc, Nat.xor_self, Nat.xor_zero]

def extend (c : Nat) (s : List UInt8) : Nat := inv (reg (inv c) s)
def crc (s : List UInt8) : Nat := extend 0 s
theorem extend_lt {c : Nat} (s : List UInt8) (h : c < 4294967296) : extend c s < 4294967296 := inv_lt (reg_lt s (inv_lt h))
theorem crc_lt (s : List UInt8) : crc s < 4294967296 := extend_lt s (by omega)
theorem extend_append (c : Nat) (s t : List UInt8) : extend c (s ++ t) = extend (extend c s) t := by
  unfold extend; rw [inv_inv, reg_append]
theorem extend_nil (c : Nat) : extend c [] = c := by unfold extend; rw [reg, inv_inv]

def marking : Nat := 4294901760
/-- A string followed by the check octets of its sum, exclusive or m. -/
def sealM (m : Nat) (s : List UInt8) : List UInt8 := s ++ oct (crc s ^^^ m)
theorem sealM_length (m : Nat) (s : List UInt8) : (sealM m s).length = s.length + 4 := by simp [sealM, oct_length]
/-- Whether a string is one sealed with m. -/
def goodM (m : Nat) (s : List UInt8) : Bool := decide (4 ≤ s.length ∧ s.drop (s.length - 4) = oct (crc (s.take (s.length - 4)) ^^^ m))

theorem goodM_sealM (m : Nat) (s : List UInt8) : goodM m (sealM m s) = true := by
  unfold goodM
  rw [decide_eq_true_eq, sealM_length, Nat.add_sub_cancel]
  simp [sealM]

theorem goodM_iff (m : Nat) (s : List UInt8) : goodM m s = true ↔ ∃ r, s = sealM m r := by
  constructor
  · intro h
    unfold goodM at h
    rw [decide_eq_true_eq] at h
    refine ⟨s.take (s.length - 4), ?_⟩
    unfold sealM
    rw [← h.2, List.take_append_drop]
  · rintro ⟨r, rfl⟩
    exact goodM_sealM m r

/-- What the register holds behind a string sealed with m. -/
def residue (m : Nat) : Nat := Ts 32 (mask ^^^ m)

theorem reg_sealM {m : Nat} (hm : m < 4294967296) (s : List UInt8) : reg mask (sealM m s) = residue m := by
  have hc : crc s ^^^ m < 4294967296 := Nat.xor_lt_two_pow (n := 32) (crc_lt s) hm
  rw [sealM, reg_append, reg_eq (reg mask s), oct_length, le_oct hc]
  unfold residue crc extend
  have e : inv 0 = mask := by decide
  rw [e]
  unfold inv
  have e2 : reg mask s ^^^ (reg mask s ^^^ mask ^^^ m) = (reg mask s ^^^ reg mask s) ^^^ (mask ^^^ m) := by ac_rfl
  rw [e2, Nat.xor_self, Nat.zero_xor]

theorem goodM_iff_reg {m : Nat} (hm : m < 4294967296) (s : List UInt8) : goodM m s = true ↔ 4 ≤ s.length ∧ reg mask s = residue m := by
  constructor
  · intro h
    obtain ⟨r, rfl⟩ := (goodM_iff m s).1 h
    exact ⟨by rw [sealM_length]; omega, reg_sealM hm r⟩
  · rintro ⟨hl, hr⟩
    unfold goodM
    rw [decide_eq_true_eq]
    refine ⟨hl, ?_⟩
    have hc : crc (s.take (s.length - 4)) ^^^ m < 4294967296 := Nat.xor_lt_two_pow (n := 32) (crc_lt _) hm
    have hd : (s.drop (s.length - 4)).length = 4 := by rw [List.length_drop]; omega
    apply le_inj (by rw [hd, oct_length])
    rw [le_oct hc]
    have h1 : reg mask (s.take (s.length - 4) ++ s.drop (s.length - 4)) = residue m := by rw [List.take_append_drop]; exact hr
    rw [reg_append, reg_eq (reg mask _), hd] at h1
    have hR : reg mask (s.take (s.length - 4)) < 4294967296 := reg_lt _ (by unfold mask; omega)
    have hL : le (s.drop (s.length - 4)) < 4294967296 := by have := le_lt (s.drop (s.length - 4)); rw [hd] at this; exact this
    have h2 := Ts_inj (n := 32) (Nat.xor_lt_two_pow (n := 32) hR hL) (Nat.xor_lt_two_pow (n := 32) (by unfold mask; omega) hm) h1
    unfold crc extend
    have e : inv 0 = mask := by decide
    rw [e]
    unfold inv
    have e2 : le (s.drop (s.length - 4)) = reg mask (s.take (s.length - 4)) ^^^ (reg mask (s.take (s.length - 4)) ^^^ le (s.drop (s.length - 4))) := by
      rw [← Nat.xor_assoc, Nat.xor_self, Nat.zero_xor]
    rw [e2, h2]
    ac_rfl

/-- A string cannot be sealed and marked. -/
theorem good_not_marked (s : List UInt8) (h : goodM 0 s = true) : goodM marking s = false := by
  rcases hb : goodM marking s with _ | _
  · rfl
  · exfalso
    have h1 := ((goodM_iff_reg (by omega) s).1 h).2
    have h2 := ((goodM_iff_reg (by unfold marking; omega) s).1 hb).2
    rw [h1] at h2
    have := Ts_inj (n := 32) (a := mask ^^^ 0) (b := mask ^^^ marking) (by decide) (by decide) h2
    exact absurd this (by decide)

/-- TWO STRINGS OF ONE LENGTH THAT ARE BOTH SEALED WITH m: their difference vanishes in the register. -/
theorem both_good {m : Nat} (hm : m < 4294967296) {s t : List UInt8} (hl : s.length = t.length) (hs : goodM m s = true) (ht : goodM m t = true) :
    Ts (8 * s.length) (le s ^^^ le t) = 0 := by
  have h1 := ((goodM_iff_reg hm s).1 hs).2
  have h2 := ((goodM_iff_reg hm t).1 ht).2
  rw [reg_eq] at h1 h2
  rw [← hl] at h2
  have e : le s ^^^ le t = (mask ^^^ le s) ^^^ (mask ^^^ le t) := by
    have : (mask ^^^ le s) ^^^ (mask ^^^ le t) = (mask ^^^ mask) ^^^ (le s ^^^ le t) := by ac_rfl
    rw [this, Nat.xor_self, Nat.zero_xor]
  rw [e, Ts_xor, h1, h2, Nat.xor_self]

/-- A burst: a number below 2^32, shifted. -/
theorem burst_ne {n k p : Nat} (hk : k ≤ n) (hp : p < 4294967296) (h : Ts n (p * 2 ^ k) = 0) : p = 0 := by
  have e : n = k + (n - k) := by omega
  rw [e, Ts_add, Ts_shift] at h
  exact Ts_eq_zero hp h

/-- Two bits: below 2^12 places apart. -/
def onesFrom : Nat → Nat → Bool
  | 0, _ => true
  | n + 1, c => (c != 1) && onesFrom n (T c)

theorem onesFrom_ne {n c : Nat} (h : onesFrom n c = true) {d : Nat} (hd : d < n) : Ts d c ≠ 1 := by
  induction n generalizing c d with
  | zero => omega
  | succ n ih =>
    simp only [onesFrom, Bool.and_eq_true, bne_iff_ne] at h
    cases d with
    | zero => rw [Ts_nought]; exact h.1
    | succ d => rw [Ts_succ]; exact ih h.2 (by omega)

theorem ones : onesFrom 2000 (T 1) = true := by decide +kernel

theorem pair_ne {n a b : Nat} (hab : a < b) (hb : b ≤ n) (hd : b - a ≤ 2000) (h : Ts n (2 ^ a ^^^ 2 ^ b) = 0) : False := by
  have e : n = b + (n - b) := by omega
  have e1 : Ts b (2 ^ a) = Ts (b - a) 1 := by
    have : b = a + (b - a) := by omega
    rw [this, Ts_add, show (2 : Nat) ^ a = 1 * 2 ^ a by omega, Ts_shift, show a + (b - a) - a = b - a by omega]
  have e2 : Ts b (2 ^ b) = 1 := by
    have := Ts_shift b 1
    rwa [Nat.one_mul] at this
  rw [e, Ts_add, Ts_xor b, e1, e2] at h
  have h1 : Ts (b - a) 1 ^^^ 1 = 0 := Ts_eq_zero (Nat.xor_lt_two_pow (n := 32) (Ts_lt (by omega)) (by omega)) h
  have h2 := xor_eq_zero h1
  have h3 := onesFrom_ne ones (d := b - a - 1) (by omega)
  apply h3
  have h4 : Ts (b - a - 1 + 1) 1 = 1 := by rw [show b - a - 1 + 1 = b - a by omega]; exact h2
  rw [← Ts_succ]
  exact h4

/-- The table's step. -/
theorem table_step (v x : Nat) : v / 256 ^^^ T8 (v % 256 ^^^ x) = T8 (v ^^^ x) := by
  rw [T8_eq, T8_eq]
  have e : v ^^^ x = (v % 256 ^^^ x) ^^^ (v / 256 * 2 ^ 8) := by
    have h := add_eq_xor 8 (v % 256) (v / 256) (by omega)
    have h2 : v = v % 256 + v / 256 * 2 ^ 8 := by omega
    rw [h] at h2
    calc v ^^^ x = (v % 256 ^^^ v / 256 * 2 ^ 8) ^^^ x := by rw [← h2]
      _ = _ := by ac_rfl
  rw [e, Ts_xor 8 (v % 256 ^^^ x), Ts_shift, Nat.xor_comm]


/-- Octet number i of a number. -/
def bt (E i : Nat) : Nat := E / 256 ^ i % 256
theorem bt_lt (E i : Nat) : bt E i < 256 := Nat.mod_lt _ (by omega)
theorem bt_xor (a b i : Nat) : bt (a ^^^ b) i = bt a i ^^^ bt b i := by
  unfold bt
  have e : ∀ x : Nat, x / 256 ^ i = x >>> (8 * i) := fun x => by rw [Nat.shiftRight_eq_div_pow, Nat.pow_mul]
  rw [e, e, e, Nat.shiftRight_xor_distrib, show (256 : Nat) = 2 ^ 8 by rfl, Nat.xor_mod_two_pow]
theorem bt_pow (m i : Nat) : bt (2 ^ m) i = if i = m / 8 then 2 ^ (m % 8) else 0 := by
  unfold bt
  rw [show (256 : Nat) ^ i = 2 ^ (8 * i) by rw [Nat.pow_mul]]
  by_cases h1 : 8 * i ≤ m
  · rw [Nat.pow_div h1 (by omega)]
    by_cases h2 : i = m / 8
    · rw [if_pos h2, show m - 8 * i = m % 8 by omega]
      exact Nat.mod_eq_of_lt (by have := Nat.pow_lt_pow_right (a := 2) (by omega) (show m % 8 < 8 by omega); simpa using this)
    · rw [if_neg h2, show m - 8 * i = 8 + (m - 8 * i - 8) by omega, Nat.pow_add]
      exact Nat.mul_mod_right _ _
  · rw [if_neg (by omega), Nat.div_eq_of_lt (Nat.pow_lt_pow_right (by omega) (by omega))]

/-- A string of which the bits of E are changed. -/
def flip : List UInt8 → Nat → List UInt8
  | [], _ => []
  | x :: xs, E => UInt8.ofNat (x.toNat ^^^ E % 256) :: flip xs (E / 256)
theorem flip_length (l : List UInt8) (E : Nat) : (flip l E).length = l.length := by
  induction l generalizing E with
  | nil => rfl
  | cons x l ih => simp [flip, ih]
theorem flip_at (l : List UInt8) (E j : Nat) (h : j < l.length) : (flip l E)[j]'(by rw [flip_length]; exact h) = UInt8.ofNat (l[j].toNat ^^^ bt E j) := by
  induction l generalizing E j with
  | nil => simp at h
  | cons x l ih =>
    cases j with
    | zero => simp [flip, bt]
    | succ j =>
      simp only [flip, List.getElem_cons_succ]
      rw [ih (E / 256) j (by simpa using h)]
      unfold bt
      rw [Nat.div_div_eq_div_mul, Nat.pow_succ, Nat.mul_comm 256]
theorem le_flip (l : List UInt8) (E : Nat) : le (flip l E) = le l ^^^ (E % 2 ^ (8 * l.length)) := by
  induction l generalizing E with
  | nil => simp [flip, le, Nat.mod_one]
  | cons x l ih =>
    have hx := x.toNat_lt
    have h1 : x.toNat ^^^ E % 256 < 256 := Nat.xor_lt_two_pow (n := 8) (by omega) (by omega)
    have e1 : E % 2 ^ (8 * (l.length + 1)) = E % 256 + (E / 256 % 2 ^ (8 * l.length)) * 2 ^ 8 := by
      rw [show 8 * (l.length + 1) = 8 + 8 * l.length by omega, Nat.pow_add, Nat.mod_mul, Nat.mul_comm (2 ^ 8)]
    rw [flip, le, le, ih, List.length_cons, e1, UInt8.toNat_ofNat', Nat.mod_eq_of_lt (by omega), show ∀ y : Nat, y * 256 = y * 2 ^ 8 from fun _ => rfl, show ∀ y : Nat, y * 256 = y * 2 ^ 8 from fun _ => rfl, add_eq_xor 8 _ _ (by omega), add_eq_xor 8 x.toNat _ (by omega), add_eq_xor 8 (E % 256) _ (by omega)]
    have e2 : (le l ^^^ E / 256 % 2 ^ (8 * l.length)) * 2 ^ 8 = le l * 2 ^ 8 ^^^ (E / 256 % 2 ^ (8 * l.length)) * 2 ^ 8 := by
      rw [← Nat.shiftLeft_eq, Nat.shiftLeft_xor_distrib, Nat.shiftLeft_eq, Nat.shiftLeft_eq]
    rw [e2]
    ac_rfl

/-- The bits of p, the first k of them, from place a on. -/
theorem pat_set (p k a : Nat) (h : p / 2 ^ k % 2 = 1) : (p % 2 ^ (k + 1)) * 2 ^ a = (p % 2 ^ k) * 2 ^ a ^^^ 2 ^ (a + k) := by
  have e : p % 2 ^ (k + 1) = p % 2 ^ k + 1 * 2 ^ k := by rw [Nat.pow_succ, Nat.mod_mul, h]; omega
  rw [e, add_eq_xor k _ _ (Nat.mod_lt _ (Nat.pow_pos (by omega))), ← Nat.shiftLeft_eq, Nat.shiftLeft_xor_distrib, Nat.shiftLeft_eq, Nat.shiftLeft_eq, Nat.one_mul, Nat.add_comm, Nat.pow_add]
theorem pat_unset (p k : Nat) (h : ¬ p / 2 ^ k % 2 = 1) : p % 2 ^ (k + 1) = p % 2 ^ k := by
  rw [Nat.pow_succ, Nat.mod_mul, show p / 2 ^ k % 2 = 0 by omega]; omega

end Crcm
