/-
  Pieces of several frames, joined in whatever order, in plain Lean.
-/
import Derived.Test.YtppdfnghojcppaaMergeJ
namespace Go.Proofs.Ytppdfnghojcppaa
open Go.RowKit
set_option linter.unusedVariables false

/-- Four frames with their cuts. -/
structure Four (fs : Nat → ByteArray) (cs : Nat → List Int) : Prop where
  cut : ∀ i, i < 4 → Cutting (fs i) (i : Int) (cs i)
  few : ∀ i, i < 4 → (cs i).length ≤ 4
/-- A piece of one of them. -/
def Of (fs : Nat → ByteArray) (cs : Nat → List Int) (q : Pc) : Prop := ∃ i k, i < 4 ∧ k ≤ (cs i).length ∧ q = pieceAt (fs i) (i : Int) (cs i) k
/-- What the state may be. -/
def Mid (fs : Nat → ByteArray) (cs : Nat → List Int) (m : Mg) : Prop := m.ok = true ∧ (m.on = false ∨ ∃ i k, i < 4 ∧ 1 ≤ k ∧ k ≤ (cs i).length ∧ m = stA (fs i) (i : Int) (cs i) k)
section
variable {fs : Nat → ByteArray} {cs : Nat → List Int}
theorem mid_zero : Mid fs cs Mg.zero := ⟨zero_ok, .inl rfl⟩
theorem Of.num {q : Pc} (h : Of fs cs q) : ∃ i : Nat, i < 4 ∧ q.number = (i : Int) := by
  obtain ⟨i, k, hi, _, rfl⟩ := h
  exact ⟨i, hi, rfl⟩
theorem Four.ok (h : Four fs cs) {q : Pc} (hq : Of fs cs q) : q.ok = true := by
  obtain ⟨i, k, hi, hk, rfl⟩ := hq
  exact (h.cut i hi).piece_ok hk
theorem back2 {s : ByteArray} {n : Int} {cuts : List Int} (h : Cutting s n cuts) {k : Nat} (hk : k ≤ cuts.length) {m : Mg} (hm : Ahead s n cuts k m) :
    join m (pieceAt s n cuts k) = if k < cuts.length then (stA s n cuts (k + 1), ⟨#[]⟩, 0) else (Mg.zero, s, 0) := by
  by_cases hlt : k < cuts.length
  · rw [if_pos hlt, h.join_mid hlt hm]
  · rw [if_neg hlt]
    obtain rfl : k = cuts.length := by omega
    exact h.join_end hm
/-- One joining. -/
theorem Four.step (h : Four fs cs) {m : Mg} (hm : Mid fs cs m) {q : Pc} (hq : Of fs cs q) {i : Nat} (hi : q.number = (i : Int)) :
    (join m q).2.2 = 0 ∧ Mid fs cs (join m q).1 ∧ ((join m q).2.1 = ⟨#[]⟩ ∨ (join m q).2.1 = fs i) ∧ ((join m q).1.on = true → (join m q).1.number = q.number) := by
  have hqok := h.ok hq
  obtain ⟨j, k, hj, hk, rfl⟩ := hq
  obtain rfl : j = i := by
    have : (j : Int) = (i : Int) := hi
    omega
  have hC := h.cut j hj
  cases ht : takes m (pieceAt (fs j) (j : Int) (cs j) k) with
  | false =>
    rw [join_off hm.1 hqok ht]
    exact ⟨rfl, mid_zero, .inl rfl, fun h => by cases h⟩
  | true =>
    have ha : Ahead (fs j) (j : Int) (cs j) k m := by
      refine ⟨hm.1, ?_⟩
      by_cases h0 : k = 0
      · exact .inl h0
      · right
        unfold takes at ht
        rw [show (pieceAt (fs j) (j : Int) (cs j) k).start = false from decide_eq_false h0, Bool.false_or, Bool.and_eq_true, Bool.and_eq_true, decide_eq_true_iff, decide_eq_true_iff] at ht
        obtain ⟨⟨hon, hnum⟩, hnx⟩ := ht
        rcases hm.2 with hoff | ⟨i', k', hi', h1, hk', rfl⟩
        · rw [hoff] at hon; cases hon
        · have hnum' : (i' : Int) = (j : Int) := hnum
          obtain rfl : i' = j := by omega
          have hc : (pieceAt (fs i') (i' : Int) (cs i') k).count = ((k : Int) - 1) % 4 := by unfold pieceAt; dsimp only; rw [if_neg h0]
          rw [hc] at hnx
          have hnx' : ((k' : Int) - 1) % 4 = ((k : Int) - 1) % 4 := hnx
          have := h.few i' hj
          have : k' = k := by omega
          rw [this]
    rw [back2 hC hk ha]
    by_cases hlt : k < (cs j).length
    · rw [if_pos hlt]
      exact ⟨rfl, ⟨hC.st_ok (by omega) (by omega), .inr ⟨j, k + 1, hj, by omega, by omega, rfl⟩⟩, .inl rfl, fun _ => rfl⟩
    · rw [if_neg hlt]
      exact ⟨rfl, mid_zero, .inr rfl, fun h => by cases h⟩
end

/-- All pieces of the first k frames. -/
def upTo (fs : Nat → ByteArray) (cs : Nat → List Int) : Nat → List Pc
  | 0 => []
  | k + 1 => upTo fs cs k ++ pieces (fs k) (k : Int) (cs k)
theorem upTo_of (fs : Nat → ByteArray) (cs : Nat → List Int) : ∀ (k : Nat), k ≤ 4 → ∀ q ∈ upTo fs cs k, Of fs cs q
  | 0, _, q, h => by cases h
  | k + 1, hk, q, h => by
    rw [upTo, List.mem_append] at h
    rcases h with h | h
    · exact upTo_of fs cs k (by omega) q h
    · unfold pieces at h
      rw [List.mem_map] at h
      obtain ⟨j, hj, rfl⟩ := h
      rw [List.mem_range] at hj
      exact ⟨k, j, by omega, by omega, rfl⟩
theorem upTo_few {fs : Nat → ByteArray} {cs : Nat → List Int} (h : Four fs cs) : ∀ (k : Nat), k ≤ 4 → (upTo fs cs k).length ≤ 5 * k
  | 0, _ => by simp [upTo]
  | k + 1, hk => by
    have := upTo_few h k (by omega)
    have := h.few k (by omega)
    rw [upTo, List.length_append, pieces_length]
    omega
theorem upTo_pos (fs : Nat → ByteArray) (cs : Nat → List Int) (k : Nat) : 1 ≤ (upTo fs cs (k + 1)).length := by rw [upTo, List.length_append, pieces_length]; omega
end Go.Proofs.Ytppdfnghojcppaa
