/-
  What MergeKnown uses: eight invalid pieces, eight invalid states; the long frame and its 24 cuts.
-/
import Derived.Test.YtppdfnghojcppaaMergeQ
namespace Go.Proofs.Ytppdfnghojcppaa
open Go.RowKit Go.Sort
set_option linter.unusedVariables false

def pcs8 (a1 a2 a : ByteArray) : Array Value := #[
  .bool false, .int .i64 0, .int .i64 0, .string ⟨#[]⟩,
  .bool true, .int .i64 0, .int .i64 0, .string a1,
  .bool true, .int .i64 0, .int .i64 0, .string a2,
  .bool false, .int .i64 4, .int .i64 0, .string a,
  .bool false, .int .i64 (-1), .int .i64 0, .string a,
  .bool false, .int .i64 0, .int .i64 4, .string a,
  .bool false, .int .i64 0, .int .i64 (-1), .string a,
  .bool true, .int .i64 0, .int .i64 1, .string a]
def mgs8 (a1 a2 a : ByteArray) : Array Value := #[
  .bool false, .int .i64 1, .int .i64 0, .string ⟨#[]⟩,
  .bool false, .int .i64 0, .int .i64 1, .string ⟨#[]⟩,
  .bool false, .int .i64 0, .int .i64 0, .string ⟨#[120]⟩,
  .bool true, .int .i64 0, .int .i64 0, .string ⟨#[]⟩,
  .bool true, .int .i64 0, .int .i64 0, .string a1,
  .bool true, .int .i64 0, .int .i64 0, .string a2,
  .bool true, .int .i64 4, .int .i64 0, .string a,
  .bool true, .int .i64 0, .int .i64 (-1), .string a]
theorem lng_off {s : ByteArray} {a b : Int} (h : ¬ (a ≤ (s.size : Int) ∧ (s.size : Int) ≤ b)) : lng s a b = false := decide_eq_false h
theorem pc_len {p : Pc} (h : lng p.data 64 1522 = false) : p.ok = false := by unfold Pc.ok; rw [h]; simp
theorem index8p (a1 a2 a : ByteArray) (h1 : a1.size = 63) (h2 : a2.size = 1523) (h : a.size = 64) (j : Nat) (hj : j < 8) :
    ∃ q : Pc, q.ok = false ∧ q.data.size ≤ 2000 ∧ ∀ W, (Instr.index 63 (.agg (pcs8 a1 a2 a)) (.int .i64 (j : Int))).run Try.prog W = .ok (.agg #[.bool q.start, .int .i64 q.number, .int .i64 q.count, .string q.data]) W := by
  have : j = 0 ∨ j = 1 ∨ j = 2 ∨ j = 3 ∨ j = 4 ∨ j = 5 ∨ j = 6 ∨ j = 7 := by omega
  rcases this with rfl | rfl | rfl | rfl | rfl | rfl | rfl | rfl
  · exact ⟨⟨false, 0, 0, ⟨#[]⟩⟩, pc_len (lng_off (by decide)), by decide, fun _ => by kernel_rfl⟩
  · exact ⟨⟨true, 0, 0, a1⟩, pc_len (lng_off (by rw [h1]; decide)), by show a1.size ≤ _; omega, fun _ => by kernel_rfl⟩
  · exact ⟨⟨true, 0, 0, a2⟩, pc_len (lng_off (by rw [h2]; decide)), by show a2.size ≤ _; omega, fun _ => by kernel_rfl⟩
  · exact ⟨⟨false, 4, 0, a⟩, by unfold Pc.ok cnt; simp, by show a.size ≤ _; omega, fun _ => by kernel_rfl⟩
  · exact ⟨⟨false, -1, 0, a⟩, by unfold Pc.ok cnt; simp, by show a.size ≤ _; omega, fun _ => by kernel_rfl⟩
  · exact ⟨⟨false, 0, 4, a⟩, by unfold Pc.ok cnt; simp, by show a.size ≤ _; omega, fun _ => by kernel_rfl⟩
  · exact ⟨⟨false, 0, -1, a⟩, by unfold Pc.ok cnt; simp, by show a.size ≤ _; omega, fun _ => by kernel_rfl⟩
  · exact ⟨⟨true, 0, 1, a⟩, by unfold Pc.ok cnt; simp, by show a.size ≤ _; omega, fun _ => by kernel_rfl⟩
theorem mg_off {m : Mg} (h : m.on = false) (h2 : m ≠ Mg.zero) : m.ok = false := by unfold Mg.ok; rw [if_neg (by simp [h]), decide_eq_false h2]
theorem index8m (a1 a2 a : ByteArray) (h1 : a1.size = 59) (h2 : a2.size = 1519) (h : a.size = 64) (j : Nat) (hj : j < 8) :
    ∃ q : Mg, q.ok = false ∧ q.data.size ≤ 2000 ∧ ∀ W, (Instr.index 64 (.agg (mgs8 a1 a2 a)) (.int .i64 (j : Int))).run Try.prog W = .ok (.agg #[.bool q.on, .int .i64 q.number, .int .i64 q.next, .string q.data]) W := by
  have : j = 0 ∨ j = 1 ∨ j = 2 ∨ j = 3 ∨ j = 4 ∨ j = 5 ∨ j = 6 ∨ j = 7 := by omega
  rcases this with rfl | rfl | rfl | rfl | rfl | rfl | rfl | rfl
  · exact ⟨⟨false, 1, 0, ⟨#[]⟩⟩, mg_off rfl (by intro e; injection e; omega), by decide, fun _ => by kernel_rfl⟩
  · exact ⟨⟨false, 0, 1, ⟨#[]⟩⟩, mg_off rfl (by intro e; injection e; omega), by decide, fun _ => by kernel_rfl⟩
  · exact ⟨⟨false, 0, 0, ⟨#[120]⟩⟩, mg_off rfl (by intro e; injection e with _ _ _ e; exact absurd (congrArg ByteArray.size e) (by decide)), by decide, fun _ => by kernel_rfl⟩
  · exact ⟨⟨true, 0, 0, ⟨#[]⟩⟩, by decide, by decide, fun _ => by kernel_rfl⟩
  · exact ⟨⟨true, 0, 0, a1⟩, by unfold Mg.ok; simp [lng_off (s := a1) (a := 60) (b := 1518) (by rw [h1]; decide)], by show a1.size ≤ _; omega, fun _ => by kernel_rfl⟩
  · exact ⟨⟨true, 0, 0, a2⟩, by unfold Mg.ok; simp [lng_off (s := a2) (a := 60) (b := 1518) (by rw [h2]; decide)], by show a2.size ≤ _; omega, fun _ => by kernel_rfl⟩
  · exact ⟨⟨true, 4, 0, a⟩, by unfold Mg.ok cnt; simp, by show a.size ≤ _; omega, fun _ => by kernel_rfl⟩
  · exact ⟨⟨true, 0, -1, a⟩, by unfold Mg.ok cnt; simp, by show a.size ≤ _; omega, fun _ => by kernel_rfl⟩

/-- The cuts of the long frame. -/
def cuts24 (k : Nat) : List Int := (List.range k).map fun (i : Nat) => (60 * ((i : Int) + 1))
theorem cuts24_length (k : Nat) : (cuts24 k).length = k := by simp [cuts24]
theorem cuts24_succ (k : Nat) : cuts24 (k + 1) = cuts24 k ++ [60 * ((k : Int) + 1)] := by simp [cuts24, List.range_succ]
theorem cuts24_ok : cutsOk 1522 0 (cuts24 24) = true := by decide +kernel
theorem early_bad : goodB 0 (chap.extract 0 64) = false ∧ goodB Crcm.marking (chap.extract 0 64) = false := by
  have e : chap.extract 0 64 = S (octs 64) := by
    unfold chap
    rw [seal_head _ _ _ (by rw [S_size, octs_length]; decide)]
    decide +kernel
  rw [e]
  exact ⟨by decide +kernel, by decide +kernel⟩
end Go.Proofs.Ytppdfnghojcppaa
