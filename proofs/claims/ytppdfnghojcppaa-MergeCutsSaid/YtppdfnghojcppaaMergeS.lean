/-
  Contract of Same, where the two rows hold the same pieces.
-/
import Derived.Test.YtppdfnghojcppaaMergeL
import Derived.Lib.QuietBelow
import Derived.BigQuiet
namespace Go.Proofs.Ytppdfnghojcppaa
open Go.RowKit Go.Sort
set_option linter.unusedVariables false

theorem Rw.atAny {W : World} {B : Nat} {p : Option Addr} {cap : Nat} {l : List Pc} (h : Rw W B (.slice p l.length cap) l) {j : Nat} (hj : j < l.length) : ∃ g, p = some ⟨g, 0, none⟩ ∧ PcO W g (j * 4) (l.getD j Pc.zero) := by
  obtain ⟨g', cap', he, _, _, q⟩ := h.at hj
  simp only [Value.slice.injEq] at he
  obtain ⟨rfl, _⟩ := he
  rw [Nat.mul_comm] at q
  exact ⟨g', rfl, q⟩

set_option maxRecDepth 100000 in
set_option maxHeartbeats 1000000 in
theorem Same_any (B1 B2 : Nat) (p1 p2 : Option Addr) (c1 c2 : Nat) (l : List Pc) (hl : l.length ≤ 1000) (w : World) (h1 : Rw w B1 (.slice p1 l.length c1) l) (h2 : Rw w B2 (.slice p2 l.length c2) l) :
    Calls Try.prog 15 #[.slice p1 l.length c1, .slice p2 l.length c2] w fun e w' => e = .returned (.bool true) ∧ Below w.heap.size w w' := by
  have H1 := Lib.hid h1
  have H2 := Lib.hid h2
  clear h1 h2
  go_enter Try.func15, Try.ntmps15
  go_wp2_with (fail)
  go_loopw [5] (fun i wr => ∃ k : Nat, k ≤ l.length ∧ i = .int .i64 k ∧ Below w.heap.size w wr) (fun i _ => l.length - (intOf i).toNat)
  case atStart => exact ⟨0, by omega, rfl, Below.refl _ _⟩
  case round =>
    obtain ⟨k, hk, rfl, hB⟩ := hrel
    by_cases hlt : k < l.length
    · have hlt' : (k : Int) < (l.length : Int) := by omega
      obtain ⟨g1, rfl, q1⟩ := (H1.out.keep hB).atAny hlt
      obtain ⟨g2, rfl, q2⟩ := (H2.out.keep hB).atAny hlt
      have hq := fun W => neq_pc (l.getD k Pc.zero) (l.getD k Pc.zero) W
      rw [decide_eq_true rfl] at hq
      generalize l.getD k Pc.zero = q at q1 q2 hq
      have a0 := cell_regrown q1.c0
      have a1 := cell_regrown q1.c1
      have a2 := cell_regrown q1.c2
      have a3 := cell_regrown q1.c3
      have b0 := cell_regrown q2.c0
      have b1 := cell_regrown q2.c1
      have b2 := cell_regrown q2.c2
      have b3 := cell_regrown q2.c3
      clear q1 q2
      have hBz := hB.size
      go_upto_region 6 with fail
      refine wp_region_quiet_below (by kernel_rfl) (by kernel_rfl) ?_
      repeat (first | go_big_quiet_step (fail) | quiet_step (fail))
      refine wpQuiet_nil ?_
      intro _ hw'
      obtain ⟨⟨dq, osq⟩, hw''⟩ := hw'
      subst hw''
      have hbq := hB.trans ((below_regrown wr dq osq).mono hBz)
      clear a0 a1 a2 a3 b0 b1 b2 b3
      generalize grow (redrawn wr dq) osq = wq at *
      go_wp2_with (fail)
      go_round
      case rel => exact ⟨k + 1, by omega, by go_num, hbq⟩
      case measure => simp [intOf] <;> omega
    · obtain rfl : k = l.length := by omega
      go_wp2_with (fail)
      go_ret
      exact ⟨rfl, hB⟩
end Go.Proofs.Ytppdfnghojcppaa
