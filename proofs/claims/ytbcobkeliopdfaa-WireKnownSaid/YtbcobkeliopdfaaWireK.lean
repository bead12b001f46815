/-
  The statement WireKnown holds: the examples of chapter 5, the limits of every length, and the order of errors. No condition.
-/
import Derived.Test.YtbcobkeliopdfaaRows
import Derived.Test.YtbcobkeliopdfaaWireSpec
import Derived.ProofKit
import Derived.OpenShut
import Derived.ShutString
namespace Go.Proofs.Ytbcobkeliopdfaa
open Go.RowKit
set_option linter.unusedVariables false

theorem wk_pow (j : Nat) (h1 : 1 ≤ j) (h7 : j ≤ 7) : wrap64 (2 ^ (8 * j)) = lim j + 1 := by
  have hk : j = 1 ∨ j = 2 ∨ j = 3 ∨ j = 4 ∨ j = 5 ∨ j = 6 ∨ j = 7 := by omega
  rcases hk with rfl | rfl | rfl | rfl | rfl | rfl | rfl <;> decide +kernel

set_option maxRecDepth 100000 in
set_option maxHeartbeats 1000000 in
theorem wireKnown_walk (w : World) : Calls Try.prog 7 #[] w fun e w' => e = .returned (.bool true) ∧ Below w.heap.size w w' := by
  go_enter Try.func7, Try.ntmps7
  go_wp2_with (fail)
  go_loopw [1,2,3,4,5,6,7,8,9,10] (fun k _ _ _ _ _ _ _ _ _ wr => ∃ j : Nat, 1 ≤ j ∧ j ≤ 8 ∧ k = .int .i64 j ∧ Below w.heap.size w wr) (fun k _ _ _ _ _ _ _ _ _ _ => 8 - (intOf k).toNat)
  case atStart => exact ⟨1, by omega, by omega, rfl, Below.refl _ _⟩
  case round =>
    obtain ⟨j, h1, h2, rfl, hb⟩ := hrel
    by_cases hlt : j < 8
    · have hl := lim_le j h1 (by omega)
      have hl2 := lim2_le j h1 (by omega)
      have ht := lim_two j h1
      have hlen := Wirem.be_length j (lim j)
      have c1 := fun W => Calls.ret2 (Put_any (S []) (lim j) j (by decide) W) (by rw [putS_ok _ _ _ h1 (by omega) (by omega) (by omega), S_append, List.nil_append]) (by rw [putE_ok _ _ h1 (by omega) (by omega) (by omega)])
      have c2 := fun W => Calls.ret2 (Put_any (S []) (lim j + 1) j (by decide) W) rfl (by rw [putE_big _ _ h1 (by omega) (by omega) (by omega)])
      have c3 := fun W => Calls.ret2 (PutSigned_any (S []) (lim2 j + 1) j (by omega) (by omega) (by decide) W) rfl (by rw [psE_big _ _ h1 (by omega) (by omega)])
      have c4 := fun W => Calls.ret2 (PutSigned_any (S []) (-lim2 j - 2) j (by omega) (by omega) (by decide) W) rfl (by rw [psE_big _ _ h1 (by omega) (by omega)])
      have c5 := fun W => gets_true (S (Wirem.be j (lim j))) 0 j (lim j) (by rw [S_size, hlen]; omega) (by have := getV_mid [] [] (lim j) j h1 (by omega) (by omega) (by omega); rw [List.nil_append, List.append_nil] at this; exact this) (getE_ok _ 0 j 7 h1 (by omega) (by rw [S_size, hlen]; omega)) W
      have c6 := fun W => signed_true (-1) j (S (Wirem.be j (lim j))) (by omega) (by omega) (by rw [S_size, hlen]; omega) (by rw [psS_ok _ _ _ h1 (by omega) (by omega) (by omega), S_append, List.nil_append, be_minus j (by omega)]) (by rw [psE_ok _ _ h1 (by omega) (by omega) (by omega)])
        (by have := gsV_mid [] [] (-1) j h1 (by omega) (by omega) (by omega); rw [List.nil_append, List.append_nil, be_minus j (by omega)] at this; exact this) (getE_ok _ 0 j 8 h1 (by omega) (by rw [S_size, hlen]; omega)) W
      have hsz : (S (Wirem.be j (lim j))).size = j := by rw [S_size, hlen]
      have C1 := Lib.hid c1; clear c1
      have C2 := Lib.hid c2; clear c2
      have C3 := Lib.hid c3; clear c3
      have C4 := Lib.hid c4; clear c4
      have C5 := Lib.hid c5; clear c5
      have C6 := Lib.hid c6; clear c6
      have q1 : lim j / 2 = lim2 j := by omega
      have q2 : (-lim j).tdiv 2 = -lim2 j := by rw [Int.neg_tdiv, Int.tdiv_eq_ediv_of_nonneg (by omega)]; omega
      have he := wk_pow j h1 (by omega)
      generalize lim j = L at *
      generalize lim2 j = M at *
      clear ht hlen
      go_wp2_with (fail)
      refine (C1.out _).mono ?_
      rintro e w1 ⟨rfl, hb1⟩
      go_wp2_with (fail)
      refine (C2.out _).mono ?_
      rintro e w2 ⟨rfl, hb2⟩
      go_wp2_with (fail)
      refine (C3.out _).mono ?_
      rintro e w3 ⟨rfl, hb3⟩
      go_wp2_with (fail)
      refine (C4.out _).mono ?_
      rintro e w4 ⟨rfl, hb4⟩
      go_wp2_with (fail)
      refine (C5.out _).mono ?_
      rintro e _ ⟨rfl, rfl⟩
      go_wp2_with (fail)
      refine (C6.out _).mono ?_
      rintro e w5 ⟨rfl, hb5⟩
      go_wp2_with (fail)
      have z := hb.size
      have z1 := hb1.size
      have z2 := hb2.size
      have z3 := hb3.size
      have z4 := hb4.size
      go_roundw
      case rel => exact ⟨j + 1, by omega, by omega, by go_num, ((((hb.trans (hb1.mono z)).trans (hb2.mono (by omega))).trans (hb3.mono (by omega))).trans (hb4.mono (by omega))).trans (hb5.mono (by omega))⟩
      case measure => simp [intOf]; omega
    · obtain rfl : j = 8 := by omega
      go_wp2_with (fail)
      refine (Calls.ret2 (Put_any (S []) (-1) 0 (by decide) _) rfl (show Value.int .i64 (putE (-1) 0) = .int .i64 2 by rw [show putE (-1) 0 = 2 by decide +kernel])).mono ?_
      rintro e v1 ⟨rfl, g1⟩
      have B1 := hb.trans (g1.mono hb.size)
      have y1 := B1.size
      go_wp2_with (fail)
      refine (Calls.ret2 (Put_any (S []) 0 8 (by decide) _) rfl (show Value.int .i64 (putE 0 8) = .int .i64 2 by rw [show putE 0 8 = 2 by decide +kernel])).mono ?_
      rintro e v2 ⟨rfl, g2⟩
      have B2 := B1.trans (g2.mono B1.size)
      have y2 := B2.size
      go_wp2_with (fail)
      refine (Calls.ret2 (PutSigned_any (S []) 0 9 (by decide) (by decide) (by decide) _) rfl (show Value.int .i64 (psE 0 9) = .int .i64 2 by rw [show psE 0 9 = 2 by decide +kernel])).mono ?_
      rintro e v3 ⟨rfl, g3⟩
      have B3 := B2.trans (g3.mono B2.size)
      have y3 := B3.size
      go_wp2_with (fail)
      refine (Calls.ret2w (GetSigned_any (S []) 0 9 (by decide) _) rfl (show Value.int .i64 (getE (S []) 0 9 8) = .int .i64 2 by rw [show getE (S []) 0 9 8 = 2 by decide +kernel])).mono ?_
      rintro e _ ⟨rfl, rfl⟩
      go_wp2_with (fail)
      refine (Calls.ret2w (GetSigned_any (S []) (-1) 1 (by decide) _) rfl (show Value.int .i64 (getE (S []) (-1) 1 8) = .int .i64 2 by rw [show getE (S []) (-1) 1 8 = 2 by decide +kernel])).mono ?_
      rintro e _ ⟨rfl, rfl⟩
      go_wp2_with (fail)
      refine (works5 _).mono ?_
      rintro e v4 ⟨rfl, g4⟩
      have B4 := B3.trans (g4.mono B3.size)
      have y4 := B4.size
      go_wp2_with (fail)
      refine (signed_true (-9223372036854775808) 8 (S [128, 0, 0, 0, 0, 0, 0, 0]) (by decide) (by decide) (by decide) (by decide +kernel) (by decide +kernel) (by decide +kernel) (by decide +kernel) _).mono ?_
      rintro e v5 ⟨rfl, g5⟩
      have B5 := B4.trans (g5.mono B4.size)
      have y5 := B5.size
      go_wp2_with (fail)
      refine (signed_true 9223372036854775807 8 (S [127, 255, 255, 255, 255, 255, 255, 255]) (by decide) (by decide) (by decide) (by decide +kernel) (by decide +kernel) (by decide +kernel) (by decide +kernel) _).mono ?_
      rintro e v6 ⟨rfl, g6⟩
      have B6 := B5.trans (g6.mono B5.size)
      have y6 := B6.size
      go_wp2_with (fail)
      refine (puts_true (S []) 0 7 (S [0, 0, 0, 0, 0, 0, 0]) (by decide) (by decide +kernel) (by decide +kernel) _).mono ?_
      rintro e v7 ⟨rfl, g7⟩
      have B7 := B6.trans (g7.mono B6.size)
      have y7 := B7.size
      go_wp2_with (fail)
      refine (refused_true (S []) 4611686018427387904 7 5 (by decide) (by decide +kernel) (by decide +kernel) _).mono ?_
      rintro e _ ⟨rfl, rfl⟩
      go_wp2_with (fail)
      refine (field_true (S []) 0 4611686018427387904 (S []) 5 (by decide) (by decide +kernel) (by decide +kernel) _).mono ?_
      rintro e _ ⟨rfl, rfl⟩
      go_wp2_with (fail)
      refine (field_true (S [97, 98]) 3 0 (S []) 5 (by decide) (by decide +kernel) (by decide +kernel) _).mono ?_
      rintro e _ ⟨rfl, rfl⟩
      go_wp2_with (fail)
      refine (field_true (S [97, 98]) (-1) 0 (S []) 2 (by decide) (by decide +kernel) (by decide +kernel) _).mono ?_
      rintro e _ ⟨rfl, rfl⟩
      go_wp2_with (fail)
      refine (field_true (S [97, 98]) 0 (-1) (S []) 2 (by decide) (by decide +kernel) (by decide +kernel) _).mono ?_
      rintro e _ ⟨rfl, rfl⟩
      go_wp2_with (fail)
      refine (field_true (S [97, 98]) 2 0 (S []) 0 (by decide) (by decide +kernel) (by decide +kernel) _).mono ?_
      rintro e _ ⟨rfl, rfl⟩
      go_wp2_with (fail)
      go_ret
      exact ⟨rfl, B7⟩

namespace wireKnown
open Go.ChangeShapes Go.WideShapes Go.ChangeAt Go.RowKit
open Go.ChangeMaps (open_string shut_string)
theorem own : ownKnob Try.prog.godebug = none := by kernel_rfl
theorem laidOut : laidOutB Try.prog = true := by kernel_rfl

set_option maxRecDepth 100000 in
theorem lifted (os : Os) (started : os.Started) (H : Type) (enc : TypeId × Value → H) :
    ReturnsInHanded {} Try.checked os 7 .any (Rows.wireKnownSpec.pre6 enc Try.prog Try.f7 Rows.wireKnownRow.domain false) (Rows.wireKnownSpec.post enc Try.prog Try.f7 false true false false) := by
  refine returnsInHanded_of_change (C := Try.checked) own started (by kernel_rfl) Try.func7
    (ChangeSpec.witness6 (enc := enc) (C := Try.checked) false ⟨#[], #[], []⟩ 8 (by kernel_rfl) (by kernel_rfl) (by kernel_rfl) (by kernel_rfl)) ?_
  intro W base args ds gs before hval0 hW hcnd _
  have hval : ∀ (j : Nat) t v, Try.f7.params[j]? = some t → args[j]? = some v → Value.okWide Try.prog W .any base t v := hval0
  have hW' := hW
  obtain ⟨p, q, hA0, hV, rfl, hfz, hnd⟩ := hW
  have hA : DataW.TrodAll enc Try.prog W 0 (fun _ => true) true Try.f7.params.toList args.toList ds p := hA0
  rw [Try.params7] at hA hval
  obtain ⟨rfl, rfl, rfl⟩ := trodAll_none hA
  obtain ⟨rfl, rfl⟩ := trodVars_none hV
  clear hA0 hval0
  refine (wireKnown_walk  W).mono fun e W' ⟨he, bel⟩ => ?_
  subst he
  exact ⟨_, rfl, _, _, _, [], [], [], hW', trodAll_mk1 (shut_bool Try.underlying4 _), trodAll_mk0, rfl, bel.frame _, fun h => by cases h⟩

theorem over : Rows.wireKnownRow.holds Try.pinned (OpenSpec.ofChange Rows.wireKnownSpec) :=
  OpenClaim.holds_of_wide 7 Try.f7 rfl rfl rfl rfl rfl rfl rfl ⟨rfl, rfl, rfl, rfl, rfl⟩ rfl rfl rfl rfl rfl (by kernel_rfl) Try.func7 (by kernel_rfl)
    (of_decide_eq_true (by kernel_rfl)) (by unfold Func.isWrapper; first | (rw [if_pos (by decide +kernel)]; kernel_rfl) | (rw [if_neg (by decide +kernel)]; exact ⟨rfl, rfl⟩))
    (fun os started H enc _ => lifted os started H enc)

theorem proved : Rows.WireKnownSaid := over
#print axioms proved
end wireKnown
end Go.Proofs.Ytbcobkeliopdfaa
