/-
  The statement WireGets holds: Get, GetSigned and Field return what the chapter specifies. No condition.
-/
import Derived.Test.YtbcobkeliopdfaaOpen
import Derived.Test.YtbcobkeliopdfaaWireB
import Derived.Test.YtbcobkeliopdfaaWireP
namespace Go.Proofs.Ytbcobkeliopdfaa
open Go.RowKit
set_option linter.unusedVariables false

theorem pick3_bd {u a b c : Int} {j : Nat} (ha : a ≤ u) (hb : b ≤ u) (hc : c ≤ u) : pick3 a b c j ≤ u := by
  unfold pick3; repeat' split
  all_goals assumption
theorem ix32 (a b c d e f : Int) (j : Nat) (h : j < 3) (W : World) : (Instr.index 31 (.agg #[.int .i64 a, .int .i64 b, .int .i64 c, .int .i64 d, .int .i64 e, .int .i64 f]) (.int .i64 j)).run Try.prog W = .ok (.agg #[.int .i64 (pick3 a c e j), .int .i64 (pick3 b d f j)]) W := by
  have : j = 0 ∨ j = 1 ∨ j = 2 := by omega
  rcases this with rfl | rfl | rfl <;> (show _ = _; kernel_rfl)

set_option maxRecDepth 100000 in
set_option maxHeartbeats 1000000 in
theorem wireGets_walk (s : ByteArray) (a k : Int) (hs : s.size ≤ maxLen) (hn : (Lit.int .i64 a).wf = true) (hk : (Lit.int .i64 k).wf = true) (w : World) :
   Calls Try.prog 4 #[.string s, .int .i64 a, .int .i64 k] w fun e w' => e = .returned (.bool true) ∧ Below w.heap.size w w' := by
  unfold maxLen at hs
  have hn1 : -9223372036854775808 ≤ a ∧ a ≤ 9223372036854775807 := bounds_i64 hn
  have hk1 : -9223372036854775808 ≤ k ∧ k ≤ 9223372036854775807 := bounds_i64 hk
  go_enter Try.func4, Try.ntmps4
  go_wp2_with (fail)
  have q1 := (w64_bd ((IntKind.u64.wrap a).tmod 22)).2
  have q2 := (w64_bd ((IntKind.u64.wrap k).tmod 10)).2
  have ha20 := extract_le s 20
  simp only [Int.cast_ofNat_Int] at ha20
  generalize s.extract 0 (min (s.size : Int) 20).toNat = A at *
  generalize wrap64 ((IntKind.u64.wrap a).tmod 22) = x1 at *
  generalize wrap64 ((IntKind.u64.wrap k).tmod 10) = x2 at *
  go_loopw [45] (fun i wr => ∃ j : Nat, j ≤ 3 ∧ i = .int .i64 j ∧ Below w.heap.size w wr) (fun i _ => 3 - (intOf i).toNat)
  case atStart => exact ⟨0, by omega, rfl, Below.refl _ _⟩
  case round =>
    obtain ⟨j, h1, rfl, hb⟩ := hrel
    by_cases hlt : j < 3
    · have hix := fun a b c d e f W => ix32 a b c d e f j hlt W
      have hd3 : decide ((j : Int) < 3) = true := by rw [decide_eq_true_eq]; omega
      have r1 := pick3_bd (j := j) hn1.2 q1 q1
      have r2 := pick3_bd (j := j) hk1.2 q2 hk1.2
      have y := hb.size
      go_wp2_with (fail)
      generalize pick3 a x1 x1 j = a' at *
      generalize pick3 k x2 k j = k' at *
      refine (Get_any A a' k' (by omega) _).mono ?_
      rintro e _ ⟨rfl, rfl⟩
      go_wp2_with (fail)
      refine (RGet_any A a' k' r1 (by omega) _).mono ?_
      rintro e _ ⟨rfl, rfl⟩
      go_wp2_with (fail)
      refine (GetSigned_any A a' k' (by omega) _).mono ?_
      rintro e _ ⟨rfl, rfl⟩
      go_wp2_with (fail)
      refine (RGetSigned_any A a' k' r1 (by omega) _).mono ?_
      rintro e _ ⟨rfl, rfl⟩
      go_wp2_with (fail)
      refine (Field_any A a' k' (by omega) _).mono ?_
      rintro e _ ⟨rfl, rfl⟩
      go_wp2_with (fail)
      refine (RField_any A a' k' r1 r2 (by omega) _).mono ?_
      rintro e _ ⟨rfl, rfl⟩
      go_wp2_with (fail)
      go_roundw
      case rel => exact ⟨j + 1, by omega, by go_num, (by repeat' (first | exact Below.refl _ _ | assumption | refine below_drewN ?_ _ | refine Below.drew ?_ | refine Below.alloc ?_ (by (first | exact Nat.le_refl _ | assumption | (simp; done) | omega | (simp; omega))) _ | refine Below.setCell ?_ (by (first | exact Nat.le_refl _ | assumption | (simp; done) | omega | (simp; omega))) _ | refine Below.trans ?_ (Below.mono (by assumption) (by (first | exact Nat.le_refl _ | assumption | (simp; done) | omega | (simp; omega))))))⟩
      case measure => simp [intOf]; omega
    · obtain rfl : j = 3 := by omega
      go_wp2_with (fail)
      refine (works5 _).mono ?_
      rintro e w9 ⟨rfl, hb9⟩
      go_wp2_with (fail)
      go_ret
      exact ⟨rfl, hb.trans (hb9.mono hb.size)⟩

namespace wireGets
open Go.ChangeShapes Go.WideShapes Go.ChangeAt Go.RowKit
open Go.ChangeMaps (open_string shut_string)
theorem own : ownKnob Try.prog.godebug = none := by kernel_rfl
theorem laidOut : laidOutB Try.prog = true := by kernel_rfl

set_option maxRecDepth 100000 in
theorem lifted (os : Os) (started : os.Started) (H : Type) (enc : TypeId × Value → H) :
    ReturnsInHanded {} Try.checked os 4 .any (Rows.wireGetsSpec.pre6 enc Try.prog Try.f4 Rows.wireGetsRow.domain false) (Rows.wireGetsSpec.post enc Try.prog Try.f4 false true false false) := by
  refine returnsInHanded_of_change (C := Try.checked) own started (by kernel_rfl) Try.func4
    (ChangeSpec.witness6 (enc := enc) (C := Try.checked) false ⟨#[], #[.string ByteArray.empty, .int .i64 0, .int .i64 0], []⟩ 8 (by kernel_rfl) (by kernel_rfl) (by kernel_rfl) (by kernel_rfl)) ?_
  intro W base args ds gs before hval0 hW hcnd _
  have hval : ∀ (j : Nat) t v, Try.f4.params[j]? = some t → args[j]? = some v → Value.okWide Try.prog W .any base t v := hval0
  have hW' := hW
  obtain ⟨p, q, hA0, hV, rfl, hfz, hnd⟩ := hW
  have hA : DataW.TrodAll enc Try.prog W 0 (fun _ => true) true Try.f4.params.toList args.toList ds p := hA0
  rw [Try.params4] at hA hval
  obtain ⟨v0, vs0, d0, ds0, p0, q0, hargs, rfl, rfl, h0, r0⟩ := trodAll_cons hA
  obtain ⟨v1, vs1, d1, ds1, p1, q1, rfl, rfl, rfl, h1, r1⟩ := trodAll_cons r0
  obtain ⟨v2, vs2, d2, ds2, p2, q2, rfl, rfl, rfl, h2, r2⟩ := trodAll_cons r1
  obtain ⟨rfl, rfl, rfl⟩ := trodAll_nil r2
  obtain rfl : args = #[v0, v1, v2] := by cases args; simp_all
  obtain ⟨rfl, rfl⟩ := trodVars_none hV
  have k0 := h0
  have lt0 : ∀ x ∈ p0, x.block < W.heap.size := by obtain ⟨m, hm⟩ := k0; exact DataW.trod_lt m _ _ _ hm
  have k1 := h1
  have lt1 : ∀ x ∈ p1, x.block < W.heap.size := by obtain ⟨m, hm⟩ := k1; exact DataW.trod_lt m _ _ _ hm
  have k2 := h2
  have lt2 : ∀ x ∈ p2, x.block < W.heap.size := by obtain ⟨m, hm⟩ := k2; exact DataW.trod_lt m _ _ _ hm
  obtain ⟨a0, rfl, rfl, rfl, w0⟩ := open_string Try.underlying9 (hval 0 9 v0 rfl rfl) h0
  obtain ⟨a1, rfl, rfl, rfl, w1⟩ := open_int Try.underlying3 (hval 1 3 v1 rfl rfl) h1
  obtain ⟨a2, rfl, rfl, rfl, w2⟩ := open_int Try.underlying3 (hval 2 3 v2 rfl rfl) h2
  clear hA0 hval0
  refine (wireGets_walk a0 a1 a2 w0 w1 w2 W).mono fun e W' ⟨he, bel⟩ => ?_
  subst he
  exact ⟨_, rfl, _, _, _, [], _, [], hW', trodAll_mk1 (shut_bool Try.underlying4 _), (trodAll_cons_mk (Below.trod laidOut (by kernel_rfl) (of_decide_eq_true (by kernel_rfl)) k0 bel lt0) (trodAll_cons_mk (Below.trod laidOut (by kernel_rfl) (of_decide_eq_true (by kernel_rfl)) k1 bel lt1) (trodAll_cons_mk (Below.trod laidOut (by kernel_rfl) (of_decide_eq_true (by kernel_rfl)) k2 bel lt2) trodAll_mk0))), rfl, bel.frame _, fun h => by cases h⟩

theorem over : Rows.wireGetsRow.holds Try.pinned (OpenSpec.ofChange Rows.wireGetsSpec) :=
  OpenClaim.holds_of_wide 4 Try.f4 rfl rfl rfl rfl rfl rfl rfl ⟨rfl, rfl, rfl, rfl, rfl⟩ rfl rfl rfl rfl rfl (by kernel_rfl) Try.func4 (by kernel_rfl)
    (of_decide_eq_true (by kernel_rfl)) (by unfold Func.isWrapper; first | (rw [if_pos (by decide +kernel)]; kernel_rfl) | (rw [if_neg (by decide +kernel)]; exact ⟨rfl, rfl⟩))
    (fun os started H enc _ => lifted os started H enc)

theorem proved : Rows.WireGetsSaid := over
#print axioms proved
end wireGets
end Go.Proofs.Ytbcobkeliopdfaa
