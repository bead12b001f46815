/-
  Damage to the last piece, in plain Lean.
-/
import Derived.Test.YtppdfnghojcppaaMergeJ
namespace Go.Proofs.Ytppdfnghojcppaa
open Go.RowKit
set_option linter.unusedVariables false

theorem xor_high (X Y Z A : Nat) (h : X < 2 ^ A) : (X + Y * 2 ^ A) ^^^ (Z * 2 ^ A) = X + (Y ^^^ Z) * 2 ^ A := by
  have e1 : (X + Y * 2 ^ A) / 2 ^ A = Y := by rw [Nat.add_mul_div_right _ _ (Nat.two_pow_pos A), Nat.div_eq_of_lt h, Nat.zero_add]
  have e2 : (X + Y * 2 ^ A) % 2 ^ A = X := by rw [Nat.add_mul_mod_self_right, Nat.mod_eq_of_lt h]
  have e3 : Z * 2 ^ A / 2 ^ A = Z := Nat.mul_div_cancel _ (Nat.two_pow_pos A)
  have e4 : Z * 2 ^ A % 2 ^ A = 0 := Nat.mul_mod_left _ _
  have hd : ((X + Y * 2 ^ A) ^^^ (Z * 2 ^ A)) / 2 ^ A = Y ^^^ Z := by rw [Nat.xor_div_two_pow, e1, e3]
  have hm : ((X + Y * 2 ^ A) ^^^ (Z * 2 ^ A)) % 2 ^ A = X := by rw [Nat.xor_mod_two_pow, e2, e4, Nat.xor_zero]
  have := Nat.div_add_mod ((X + Y * 2 ^ A) ^^^ (Z * 2 ^ A)) (2 ^ A)
  rw [hd, hm, Nat.mul_comm] at this
  omega
theorem flip_tail (x y : List UInt8) (a p : Nat) : x ++ Crcm.flip y (p * 2 ^ a) = Crcm.flip (x ++ y) (p * 2 ^ (8 * x.length + a)) := by
  apply Crcm.le_inj
  · rw [Crcm.flip_length, List.length_append, List.length_append, Crcm.flip_length]
  · rw [Crcm.le_append, Crcm.le_flip, Crcm.le_flip, Crcm.le_append, List.length_append, Nat.mul_add, Nat.pow_add 2 (8 * x.length) (8 * y.length), Nat.pow_add, ← Nat.mul_assoc, Nat.mul_comm p (2 ^ (8 * x.length)), Nat.mul_assoc, Nat.mul_mod_mul_left, Nat.mul_comm (2 ^ (8 * x.length)), xor_high _ _ _ _ (Crcm.le_lt x)]
theorem flipB_tail (x y : ByteArray) (a p : Nat) : x ++ flipB y a p = flipB (x ++ y) (8 * x.size + a) p := by
  unfold flipB
  have e : (x ++ y).data.toList = x.data.toList ++ y.data.toList := by simp
  rw [e, Lib.size_eq x, ← flip_tail, ← S_append, S_of]
theorem cat_inj {x y z : ByteArray} (h : x ++ y = x ++ z) : y = z := by
  have e := congrArg (fun t : ByteArray => t.data.toList) h
  simp only [ByteArray.data_append, Array.toList_append, List.append_cancel_left_eq] at e
  have := congrArg S e
  rwa [S_of, S_of] at this

section
variable {s : ByteArray} {n : Int} {cuts : List Int}
/-- The last piece, its text some other of the same length. -/
def lastWith (s : ByteArray) (n : Int) (cuts : List Int) (t : ByteArray) : Pc := { pieceAt s n cuts cuts.length with data := t }
theorem last_data : (pieceAt s n cuts cuts.length).data = s.extract (lastAt cuts cuts.length).toNat s.size := by
  unfold pieceAt
  dsimp only
  rw [if_neg (by omega)]
theorem Cutting.last_ok (h : Cutting s n cuts) {t : ByteArray} (ht : t.size = (pieceAt s n cuts cuts.length).data.size) : (lastWith s n cuts t).ok = true := by
  have := h.piece_ok (Nat.le_refl _)
  rw [Pc.ok_iff] at this ⊢
  unfold lastWith
  dsimp only
  rw [ht]
  exact this
theorem Cutting.last_with (h : Cutting s n cuts) {m : Mg} (hm : Ahead s n cuts cuts.length m) (a p : Nat) :
    Ytppdfnghojcppaa.withD m (lastWith s n cuts (flipB (pieceAt s n cuts cuts.length).data a p)) = flipB s (8 * (lastAt cuts cuts.length).toNat + a) p := by
  have hl := h.last (Nat.le_refl _)
  rw [last_data]
  have hcat : s.extract 0 (lastAt cuts cuts.length).toNat ++ s.extract (lastAt cuts cuts.length).toNat s.size = s := by
    rw [ext_cat _ _ _ (Nat.le_refl _), Nat.max_eq_right (by omega)]
    exact ByteArray.extract_zero_size
  have hz : (s.extract 0 (lastAt cuts cuts.length).toNat).size = (lastAt cuts cuts.length).toNat := by rw [ByteArray.size_extract]; omega
  have hf := flipB_tail (s.extract 0 (lastAt cuts cuts.length).toNat) (s.extract (lastAt cuts cuts.length).toNat s.size) a p
  rw [hcat, hz] at hf
  unfold Ytppdfnghojcppaa.withD lastWith
  dsimp only
  by_cases h0 : cuts.length = 0
  · have hs : (pieceAt s n cuts cuts.length).start = true := decide_eq_true h0
    have hl0 : (lastAt cuts cuts.length).toNat = 0 := by rw [h0]; rfl
    rw [if_pos hs, ← hf, hl0]
    have : s.extract 0 0 = ByteArray.empty := ByteArray.extract_same
    rw [this]
    exact (ByteArray.empty_append).symm
  · have hs : (pieceAt s n cuts cuts.length).start = false := decide_eq_false h0
    obtain rfl : m = stA s n cuts cuts.length := by rcases hm.2 with h | h; exact absurd h h0; exact h
    rw [if_neg (by rw [hs]; simp), ← hf]
    rfl
/-- The damaged last piece gives no frame. -/
theorem Cutting.join_damaged (h : Cutting s n cuts) {m : Mg} (hm : Ahead s n cuts cuts.length m) (a p : Nat) (ha : a < 8 * (pieceAt s n cuts cuts.length).data.size) (hp : p < 4294967296)
    (hne : flipB (pieceAt s n cuts cuts.length).data a p ≠ (pieceAt s n cuts cuts.length).data) :
    (join m (lastWith s n cuts (flipB (pieceAt s n cuts cuts.length).data a p))).2 = (⟨#[]⟩, 0) := by
  have hl := h.last (Nat.le_refl _)
  have hs := h.size
  have hw := h.last_with hm a p
  have hz := h.piece_size (Nat.le_refl _)
  rw [if_neg (by omega)] at hz
  have hcat : s.extract 0 (lastAt cuts cuts.length).toNat ++ s.extract (lastAt cuts cuts.length).toNat s.size = s := by
    rw [ext_cat _ _ _ (Nat.le_refl _), Nat.max_eq_right (by omega)]
    exact ByteArray.extract_zero_size
  have hz0 : (s.extract 0 (lastAt cuts cuts.length).toNat).size = (lastAt cuts cuts.length).toNat := by rw [ByteArray.size_extract]; omega
  have hg : goodB 0 (flipB s (8 * (lastAt cuts cuts.length).toNat + a) p) = false := by
    refine burstB 0 (by omega) s _ p (by rw [hz] at ha; omega) hp h.good fun e => hne ?_
    have hf := flipB_tail (s.extract 0 (lastAt cuts cuts.length).toNat) (s.extract (lastAt cuts cuts.length).toNat s.size) a p
    rw [hcat, hz0, e] at hf
    rw [last_data]
    refine cat_inj (hf.trans hcat.symm)
  have hok := h.last_ok (t := flipB (pieceAt s n cuts cuts.length).data a p) (flipB_size _ _ _)
  have ht : takes m (lastWith s n cuts (flipB (pieceAt s n cuts cuts.length).data a p)) = true := takes_piece hm
  have hsz : (Ytppdfnghojcppaa.withD m (lastWith s n cuts (flipB (pieceAt s n cuts cuts.length).data a p))).size ≤ 1522 := by rw [hw, flipB_size]; exact hs.2
  rw [← hw] at hg
  cases hk : goodB Crcm.marking (Ytppdfnghojcppaa.withD m (lastWith s n cuts (flipB (pieceAt s n cuts cuts.length).data a p))) with
  | true => rw [join_marked hm.1 hok ht hsz hg hk]
  | false => rw [join_none hm.1 hok ht hsz hg hk]
end
end Go.Proofs.Ytppdfnghojcppaa
