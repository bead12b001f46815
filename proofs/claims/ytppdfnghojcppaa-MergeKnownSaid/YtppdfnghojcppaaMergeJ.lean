/-
  Joining the pieces of a frame, in plain Lean.
-/
import Derived.Test.YtppdfnghojcppaaMergeMath
namespace Go.Proofs.Ytppdfnghojcppaa
open Go.RowKit
set_option linter.unusedVariables false

theorem ext_cat (t : ByteArray) (a b : Nat) (hb : b ≤ t.size) : t.extract 0 a ++ t.extract a b = t.extract 0 (max a b) := by
  rw [ByteArray.extract_append_extract]
  simp
theorem seal_head (m : Nat) (t : ByteArray) (a : Nat) (h : a ≤ t.size) : (sealB m t).extract 0 a = t.extract 0 a := by
  rw [← sealB_eq, ByteArray.extract_append]
  have : a - t.size = 0 := by omega
  rw [this]
  simp
theorem seal_cut (m : Nat) (t : ByteArray) : cutTail (sealB m t) = t := by
  unfold cutTail
  rw [sealB_size, show t.size + 4 - 4 = t.size by omega, seal_head m t t.size (Nat.le_refl _), ByteArray.extract_zero_size]
theorem seal_whole (m : Nat) (t : ByteArray) : (sealB m t).extract 0 (t.size + 4) = sealB m t := by
  have := @ByteArray.extract_zero_size (sealB m t)
  rwa [sealB_size] at this

/-- The state ahead of piece i of a frame (i not 0). -/
def stA (s : ByteArray) (n : Int) (cuts : List Int) (i : Nat) : Mg := ⟨true, n, ((i : Int) - 1) % 4, s.extract 0 (lastAt cuts i).toNat⟩
def Ahead (s : ByteArray) (n : Int) (cuts : List Int) (i : Nat) (m : Mg) : Prop := m.ok = true ∧ (i = 0 ∨ m = stA s n cuts i)
structure Cutting (s : ByteArray) (n : Int) (cuts : List Int) : Prop where
  w : whole s = true
  n : cnt n = true
  c : cutsOk s.size 0 cuts = true
section
variable {s : ByteArray} {n : Int} {cuts : List Int}
theorem Cutting.size (h : Cutting s n cuts) : 64 ≤ s.size ∧ s.size ≤ 1522 := by
  have := h.w
  unfold whole at this
  rw [Bool.and_eq_true, lng_iff] at this
  omega
theorem Cutting.good (h : Cutting s n cuts) : goodB 0 s = true := by
  have := h.w
  unfold whole at this
  rw [Bool.and_eq_true] at this
  exact this.2
theorem Cutting.at (h : Cutting s n cuts) {i : Nat} (hi : i < cuts.length) : cuts.getD i 0 ≤ (s.size : Int) - 64 ∧ lastAt cuts i + 60 ≤ cuts.getD i 0 ∧ 0 ≤ lastAt cuts i := by
  have h1 := cuts_at h.c hi
  have h2 := last_at h.size.1 h.c (i := i) (by omega)
  omega
theorem Cutting.last (h : Cutting s n cuts) {i : Nat} (hi : i ≤ cuts.length) : 0 ≤ lastAt cuts i ∧ lastAt cuts i ≤ (s.size : Int) - 64 := last_at h.size.1 h.c hi
theorem Cutting.mark_size (h : Cutting s n cuts) {i : Nat} (hi : i < cuts.length) : (sealB Crcm.marking (s.extract 0 (cuts.getD i 0).toNat)).size = (cuts.getD i 0).toNat + 4 := by
  have := h.at hi
  rw [sealB_size, ByteArray.size_extract]; omega
theorem Cutting.piece_size (h : Cutting s n cuts) {i : Nat} (hi : i ≤ cuts.length) : (pieceAt s n cuts i).data.size = (if i < cuts.length then (cuts.getD i 0).toNat + 4 else s.size) - (lastAt cuts i).toNat := by
  unfold pieceAt
  dsimp only
  split
  · rename_i hlt
    rw [ByteArray.size_extract, h.mark_size hlt, Nat.min_self]
  · rw [ByteArray.size_extract, Nat.min_self]
theorem Cutting.piece_ok (h : Cutting s n cuts) {i : Nat} (hi : i ≤ cuts.length) : (pieceAt s n cuts i).ok = true := by
  rw [Pc.ok_iff]
  have hn := (cnt_iff n).1 h.n
  have hz := h.piece_size hi
  have hs := h.size
  have hl := h.last hi
  refine ⟨hn, ?_, ?_, ?_⟩
  · unfold pieceAt
    dsimp only
    split <;> omega
  · rw [hz]
    split
    · rename_i hlt
      have := h.at hlt
      omega
    · omega
  · unfold pieceAt
    intro h0
    dsimp only at h0 ⊢
    rw [if_pos (of_decide_eq_true h0)]
theorem Cutting.st_ok (h : Cutting s n cuts) {i : Nat} (hi : i ≤ cuts.length) (h0 : i ≠ 0) : (stA s n cuts i).ok = true := by
  obtain ⟨j, rfl⟩ : ∃ j, i = j + 1 := ⟨i - 1, by omega⟩
  have hs := h.size
  have ha := h.at (i := j) (by omega)
  have hl := h.last hi
  rw [lastAt_succ] at hl
  refine Mg.mk_ok ((cnt_iff n).1 h.n) (by omega) ?_
  rw [lastAt_succ, ByteArray.size_extract]
  omega
theorem Cutting.ahead (h : Cutting s n cuts) {i : Nat} (hi : i < cuts.length) : Ahead s n cuts (i + 1) (stA s n cuts (i + 1)) := ⟨h.st_ok (by omega) (by omega), Or.inr rfl⟩
theorem takes_piece {i : Nat} {m : Mg} (hm : Ahead s n cuts i m) : takes m (pieceAt s n cuts i) = true := by
  unfold takes
  by_cases h0 : i = 0
  · subst h0
    have : (pieceAt s n cuts 0).start = true := rfl
    rw [this]; rfl
  · obtain rfl : m = stA s n cuts i := by rcases hm.2 with h | h; exact absurd h h0; exact h
    have h1 : (pieceAt s n cuts i).start = false := decide_eq_false h0
    have h2 : (stA s n cuts i).next = (pieceAt s n cuts i).count := by unfold stA pieceAt; dsimp only; rw [if_neg h0]
    have h3 : (stA s n cuts i).number = (pieceAt s n cuts i).number := rfl
    rw [h1, h2, h3]
    simp [stA]
theorem Cutting.withD (h : Cutting s n cuts) {i : Nat} (hi : i ≤ cuts.length) {m : Mg} (hm : Ahead s n cuts i m) :
    Ytppdfnghojcppaa.withD m (pieceAt s n cuts i) = if i < cuts.length then sealB Crcm.marking (s.extract 0 (cuts.getD i 0).toNat) else s := by
  unfold Ytppdfnghojcppaa.withD
  by_cases h0 : i = 0
  · subst h0
    rw [if_pos (show (pieceAt s n cuts 0).start = true from rfl)]
    unfold pieceAt
    dsimp only
    split
    · rename_i hlt
      rw [lastAt_zero]
      have := h.mark_size hlt
      have h2 := @ByteArray.extract_zero_size (sealB Crcm.marking (s.extract 0 (cuts.getD 0 0).toNat))
      rw [this] at h2
      exact h2
    · rw [lastAt_zero]
      exact ByteArray.extract_zero_size
  · obtain rfl : m = stA s n cuts i := by rcases hm.2 with h | h; exact absurd h h0; exact h
    rw [if_neg (by rw [show (pieceAt s n cuts i).start = false from decide_eq_false h0]; simp)]
    unfold pieceAt stA
    dsimp only
    have hl := h.last hi
    split
    · rename_i hlt
      have ha := h.at hlt
      have hz : (s.extract 0 (cuts.getD i 0).toNat).size = (cuts.getD i 0).toNat := by rw [ByteArray.size_extract]; omega
      have hh := seal_head Crcm.marking (s.extract 0 (cuts.getD i 0).toNat) (lastAt cuts i).toNat (by rw [hz]; omega)
      have he : (s.extract 0 (cuts.getD i 0).toNat).extract 0 (lastAt cuts i).toNat = s.extract 0 (lastAt cuts i).toNat := by
        rw [ByteArray.extract_extract]
        congr 1
        omega
      rw [← he, ← hh, ext_cat _ _ _ (by rw [h.mark_size hlt]; omega), Nat.max_eq_right (by omega)]
      have h2 := @ByteArray.extract_zero_size (sealB Crcm.marking (s.extract 0 (cuts.getD i 0).toNat))
      rwa [h.mark_size hlt] at h2
    · rw [ext_cat _ _ _ (Nat.le_refl _), Nat.max_eq_right (by omega)]
      exact ByteArray.extract_zero_size
theorem next_piece {i : Nat} {m : Mg} (hm : Ahead s n cuts i m) : nextD m (pieceAt s n cuts i) = (i : Int) % 4 := by
  unfold nextD
  by_cases h0 : i = 0
  · subst h0; rfl
  · obtain rfl : m = stA s n cuts i := by rcases hm.2 with h | h; exact absurd h h0; exact h
    rw [if_neg (by rw [show (pieceAt s n cuts i).start = false from decide_eq_false h0]; simp)]
    unfold stA
    dsimp only
    omega

/-- One step. -/
theorem Cutting.join_mid (h : Cutting s n cuts) {i : Nat} (hi : i < cuts.length) {m : Mg} (hm : Ahead s n cuts i m) : join m (pieceAt s n cuts i) = (stA s n cuts (i + 1), ⟨#[]⟩, 0) := by
  have hw := h.withD (by omega) hm
  rw [if_pos hi] at hw
  have ha := h.at hi
  have hs := h.size
  rw [join_marked hm.1 (h.piece_ok (by omega)) (takes_piece hm) (by rw [hw, h.mark_size hi]; omega) (by rw [hw]; exact good_mark _) (by rw [hw]; exact goodB_sealB _ _), hw, seal_cut, next_piece hm]
  have : (((i + 1 : Nat) : Int) - 1) % 4 = (i : Int) % 4 := by omega
  unfold stA
  rw [this, lastAt_succ]
  rfl
theorem Cutting.join_end (h : Cutting s n cuts) {m : Mg} (hm : Ahead s n cuts cuts.length m) : join m (pieceAt s n cuts cuts.length) = (Mg.zero, s, 0) := by
  have hw := h.withD (Nat.le_refl _) hm
  rw [if_neg (by omega)] at hw
  rw [join_good hm.1 (h.piece_ok (Nat.le_refl _)) (takes_piece hm) (by rw [hw]; exact h.size.2) (by rw [hw]; exact h.good), hw]
/-- How long the pieces are together. -/
def sumL (s : ByteArray) (n : Int) (cuts : List Int) : Nat → Nat
  | 0 => 0
  | i + 1 => sumL s n cuts i + (pieceAt s n cuts i).data.size
theorem Cutting.sum (h : Cutting s n cuts) : ∀ {i : Nat}, i ≤ cuts.length → sumL s n cuts i = (lastAt cuts i).toNat + 4 * i
  | 0, _ => rfl
  | i + 1, hi => by
    have ha := h.at (i := i) (by omega)
    rw [sumL, h.sum (i := i) (by omega), h.piece_size (by omega), if_pos (by omega), lastAt_succ]
    omega
theorem Cutting.sum_all (h : Cutting s n cuts) : sumL s n cuts (cuts.length + 1) = s.size + 4 * cuts.length := by
  have hl := h.last (Nat.le_refl _)
  rw [sumL, h.sum (Nat.le_refl _), h.piece_size (Nat.le_refl _), if_neg (by omega)]
  omega
end
end Go.Proofs.Ytppdfnghojcppaa
