/-
  Decode's deferred function.
-/
import Derived.Test.YtccdhoboidneeaaFrame6
import Derived.Recover
import Derived.Defers
namespace Go.Proofs.Ytccdhoboidneeaa
open Go.RowKit
set_option linter.unusedVariables false

theorem catch_panicking (F E : Nat) (g : Fr) (x : Int) (u : TypeId) (pv : Value) (older : List PanicEntry) (w : World) (hg : FrAt w F g) (hz : ∀ j, w.frozen? ⟨F, j, none⟩ = false) (hc : w.cell? ⟨E, 0, none⟩ = some (.int .i64 x)) (he : w.frozen? ⟨E, 0, none⟩ = false) (hne : F ≠ E) (n : Nat) (hF : n ≤ F) (hE : n ≤ E) :
    CallsD Try.prog 42 #[.pointer (some ⟨F, 0, none⟩), .pointer (some ⟨E, 0, none⟩)] (.panicking ({ v := .iface u pv, recovered := false } :: older)) w fun e u' w' =>
      e = .returned (.tuple #[]) ∧ u' = .panicking ({ v := .iface u pv, recovered := true } :: older) ∧ FrAt w' F Fr.none ∧ w'.cell? ⟨E, 0, none⟩ = some (.int .i64 5) ∧ Below n w w' := by
  obtain ⟨c0, c1, c2, c3, c4, c5, c6, c7, c8⟩ := hg
  have z0 := hz 0
  have z1 := hz 1
  have z2 := hz 2
  have z3 := hz 3
  have z4 := hz 4
  have z5 := hz 5
  have z6 := hz 6
  have z7 := hz 7
  have z8 := hz 8
  refine callsD_of_wpS Try.func42 rfl fun c₀ cs hu => ?_
  apply wpS_seq
  apply wpS_region
  simp [wpOpsS, go_sem, recoverD, hu, Try.ntmps42, Exit.thenS]
  refine wpS_cond (t := true) (by simp [Act.eval, Array.replicate]) ?_
  simp only [if_true]
  apply wpS_region
  simp [wpOpsS, go_sem, hc, he, c0, c1, c2, c3, c4, c5, c6, c7, c8, z0, z1, z2, z3, z4, z5, z6, z7, z8, bodyPostS, results, Try.results42]
  refine ⟨⟨?_, ?_, ?_, ?_, ?_, ?_, ?_, ?_, ?_⟩, (((((((((((Below.refl n w).setCell (p := ⟨F, 0, none⟩) hF _).setCell (p := ⟨F, 1, none⟩) hF _).setCell (p := ⟨F, 2, none⟩) hF _).setCell (p := ⟨F, 3, none⟩) hF _).setCell (p := ⟨F, 4, none⟩) hF _).setCell (p := ⟨F, 5, none⟩) hF _).setCell (p := ⟨F, 6, none⟩) hF _).setCell (p := ⟨F, 7, none⟩) hF _).setCell (p := ⟨F, 8, none⟩) hF _).setCell (p := ⟨E, 0, none⟩) hE _)⟩
  all_goals simp [go_sem, c0, c1, c2, c3, c4, c5, c6, c7, c8, Fr.none, S]
theorem catch_idle (F E : Nat) (w : World) :
    CallsD Try.prog 42 #[.pointer (some ⟨F, 0, none⟩), .pointer (some ⟨E, 0, none⟩)] .returning w fun e u' w' => e = .returned (.tuple #[]) ∧ u' = .returning ∧ w' = w := by
  refine callsD_of_wpS Try.func42 rfl fun c₀ cs hu => ?_
  apply wpS_seq
  apply wpS_region
  simp [wpOpsS, go_sem, recoverD, hu, Try.ntmps42, Exit.thenS]
  refine wpS_cond (t := false) (by simp [Act.eval, Array.replicate]) ?_
  simp only [Bool.false_eq_true, if_false]
  refine wpS_of_wp (wp_skip ?_)
  cases c₀
  simp_all [bodyPostS, results, Try.results42]
end Go.Proofs.Ytccdhoboidneeaa
