/-
  PLAIN MATHEMATICS OF CHAPTER 5, NO PROGRAM IN SIGHT: the digits of an integer to the base 256, and what they read as.
-/
namespace Wirem

/-- The last k digits of n to the base 256, the most significant first (floor division). -/
def be : Nat → Int → List UInt8
  | 0, _ => []
  | k + 1, n => be k (n / 256) ++ [UInt8.ofNat (n % 256).toNat]

/-- The number of a string, its most significant octet first. -/
def valFrom (n : Nat) : List UInt8 → Nat
  | [] => n
  | x :: xs => valFrom (n * 256 + x.toNat) xs
def val (l : List UInt8) : Nat := valFrom 0 l

theorem be_length (k : Nat) (n : Int) : (be k n).length = k := by
  induction k generalizing n with
  | zero => rfl
  | succ k ih => simp [be, ih]

theorem valFrom_append (n : Nat) (s t : List UInt8) : valFrom n (s ++ t) = valFrom (valFrom n s) t := by
  induction s generalizing n with
  | nil => rfl
  | cons x s ih => simp only [List.cons_append, valFrom, ih]

theorem val_snoc (s : List UInt8) (x : UInt8) : val (s ++ [x]) = val s * 256 + x.toNat := by
  unfold val; rw [valFrom_append]; rfl

theorem val_lt (s : List UInt8) : val s < 256 ^ s.length := by
  induction h : s.length generalizing s with
  | zero => obtain rfl := List.eq_nil_of_length_eq_zero h; decide
  | succ k ih =>
    obtain ⟨t, x, rfl⟩ : ∃ t x, s = t ++ [x] := ⟨s.dropLast, s.getLast (by intro e; subst e; cases h), (List.dropLast_concat_getLast _).symm⟩
    have := ih t (by simpa using h)
    have := x.toNat_lt
    rw [val_snoc, Nat.pow_succ]
    omega

theorem be_val (k : Nat) (n : Int) : ((val (be k n) : Nat) : Int) = n % (256 ^ k : Nat) := by
  induction k generalizing n with
  | zero => show (0 : Int) = n % 1; omega
  | succ k ih =>
    rw [be, val_snoc, UInt8.toNat_ofNat', Int.natCast_add, Int.natCast_mul, ih]
    have hp : (0 : Int) < ((256 ^ k : Nat) : Int) := by
      have : 0 < 256 ^ k := Nat.pow_pos (by omega)
      omega
    have e : ((256 ^ (k + 1) : Nat) : Int) = 256 * ((256 ^ k : Nat) : Int) := by
      rw [Nat.pow_succ, Nat.mul_comm, Int.natCast_mul]; rfl
    have e2 : n % ((256 ^ (k + 1) : Nat) : Int) = n % 256 + 256 * (n / 256 % ((256 ^ k : Nat) : Int)) := by
      rw [e, Int.emod_def n (256 * _), Int.emod_def (n / 256), ← Int.ediv_ediv_of_nonneg (by omega : (0 : Int) ≤ 256), Int.mul_assoc]
      omega
    rw [e2]
    omega

/-- Digits do not see a multiple of 256^m, for k ≤ m. -/
theorem be_congr (k : Nat) (n m : Int) (h : n % (256 ^ k : Nat) = m % (256 ^ k : Nat)) : be k n = be k m := by
  have h1 := be_val k n
  have h2 := be_val k m
  have hv : val (be k n) = val (be k m) := by omega
  have : ∀ (k : Nat) (a b : Int), val (be k a) = val (be k b) → be k a = be k b := by
    intro k
    induction k with
    | zero => intros; rfl
    | succ k ih =>
      intro a b hab
      rw [be, be, val_snoc, val_snoc] at hab
      have ha := (UInt8.ofNat (a % 256).toNat).toNat_lt
      have hb := (UInt8.ofNat (b % 256).toNat).toNat_lt
      have e1 : (UInt8.ofNat (a % 256).toNat).toNat = (UInt8.ofNat (b % 256).toNat).toNat := by omega
      rw [be, be, UInt8.toNat_inj.1 e1, ih (a / 256) (b / 256) (by omega)]
  exact this k n m hv

theorem val_inj (s t : List UInt8) (hl : s.length = t.length) (h : val s = val t) : s = t := by
  induction hs : s.length generalizing s t with
  | zero =>
    obtain rfl := List.eq_nil_of_length_eq_zero hs
    exact (List.eq_nil_of_length_eq_zero hl.symm).symm
  | succ k ih =>
    obtain ⟨s, x, rfl⟩ : ∃ s' x, s = s' ++ [x] := ⟨s.dropLast, s.getLast (by intro e; subst e; cases hs), (List.dropLast_concat_getLast _).symm⟩
    obtain ⟨t, y, rfl⟩ : ∃ t' y, t = t' ++ [y] := ⟨t.dropLast, t.getLast (by intro e; subst e; simp at hl), (List.dropLast_concat_getLast _).symm⟩
    rw [val_snoc, val_snoc] at h
    have hx := x.toNat_lt
    have hy := y.toNat_lt
    have e1 : x.toNat = y.toNat := by omega
    rw [UInt8.toNat_inj.1 e1, ih s t (by simpa using hl) (by omega) (by simpa using hs)]

theorem val_be_lt (k : Nat) (n : Nat) (h : n < 256 ^ k) : val (be k n) = n := by
  have := be_val k n
  rw [Int.emod_eq_of_lt (by omega) (by omega)] at this
  omega

theorem be_val_self (s : List UInt8) : be s.length (val s) = s := by
  apply val_inj _ _ (be_length _ _)
  exact val_be_lt _ _ (val_lt s)

/-- Two's complement: what a string of k octets reads as. -/
def signed (k : Nat) (n : Nat) : Int := if n < 128 * 256 ^ (k - 1) then n else (n : Int) - (256 ^ k : Nat)

theorem pow_split (k : Nat) (h : 1 ≤ k) : 256 ^ k = 256 * 256 ^ (k - 1) := by
  obtain ⟨j, rfl⟩ : ∃ j, k = j + 1 := ⟨k - 1, by omega⟩
  rw [Nat.pow_succ, Nat.mul_comm]; rfl

theorem signed_be (k : Nat) (hk : 1 ≤ k) (n : Int) (h1 : -((128 * 256 ^ (k - 1) : Nat) : Int) ≤ n) (h2 : n < ((128 * 256 ^ (k - 1) : Nat) : Int)) : signed k (val (be k n)) = n := by
  have hv := be_val k n
  have hp := pow_split k hk
  unfold signed
  have hpos : 0 < 256 ^ (k - 1) := Nat.pow_pos (by omega)
  generalize 256 ^ (k - 1) = q at *
  rw [hp] at hv ⊢
  by_cases hn : 0 ≤ n
  · rw [Int.emod_eq_of_lt hn (by omega)] at hv
    rw [if_pos (by omega)]
    exact hv
  · have e : n % ((256 * q : Nat) : Int) = n + (256 * q : Nat) := by
      rw [← Int.add_emod_right]
      exact Int.emod_eq_of_lt (by omega) (by omega)
    rw [e] at hv
    rw [if_neg (by omega)]
    omega

/-- Strings of one length compare like their numbers. -/
theorem val_lex (s t : List UInt8) (hl : s.length = t.length) : s < t ↔ val s < val t := by
  have key : ∀ (s t : List UInt8) (a b : Nat), s.length = t.length → (a < b → valFrom a s < valFrom b t) ∧ (a = b → (s < t ↔ valFrom a s < valFrom b t)) := by
    intro s
    induction s with
    | nil =>
      intro t a b hl
      cases t with
      | nil => exact ⟨fun h => h, fun h => by subst h; simp [valFrom]⟩
      | cons y t => cases hl
    | cons x s ih =>
      intro t a b hl
      cases t with
      | nil => cases hl
      | cons y t =>
        have hx := x.toNat_lt
        have hy := y.toNat_lt
        have hl' : s.length = t.length := by simpa using hl
        refine ⟨fun h => ?_, fun h => ?_⟩
        · exact (ih t _ _ hl').1 (by omega)
        · subst h
          rw [List.cons_lt_cons_iff]
          simp only [valFrom]
          rcases Nat.lt_trichotomy x.toNat y.toNat with hc | hc | hc
          · have h1 := (ih t (a * 256 + x.toNat) (a * 256 + y.toNat) hl').1 (by omega)
            exact ⟨fun _ => h1, fun _ => .inl (UInt8.lt_iff_toNat_lt.2 hc)⟩
          · have e : x = y := UInt8.toNat_inj.1 hc
            subst e
            have h1 := (ih t (a * 256 + x.toNat) (a * 256 + x.toNat) hl').2 rfl
            constructor
            · rintro (h | h)
              · exact absurd h (by simp)
              · exact h1.1 h.2
            · intro h
              exact .inr ⟨rfl, h1.2 h⟩
          · have h1 := (ih t (a * 256 + x.toNat) (a * 256 + y.toNat) hl')
            have h2 : valFrom (a * 256 + y.toNat) t < valFrom (a * 256 + x.toNat) s := by
              have : ∀ (s t : List UInt8) (a b : Nat), s.length = t.length → a < b → valFrom a s < valFrom b t := by
                intro s
                induction s with
                | nil => intro t a b hl hab; cases t with
                  | nil => exact hab
                  | cons y t => cases hl
                | cons x s ih2 => intro t a b hl hab; cases t with
                  | nil => cases hl
                  | cons y t =>
                    have := x.toNat_lt
                    have := y.toNat_lt
                    exact ih2 t _ _ (by simpa using hl) (by omega)
              exact this t s _ _ hl'.symm (by omega)
            constructor
            · rintro (h | h)
              · exact absurd (UInt8.lt_iff_toNat_lt.1 h) (by omega)
              · exact absurd (congrArg UInt8.toNat h.1) (by omega)
            · intro h; omega
  exact (key s t 0 0 hl).2 rfl

end Wirem
