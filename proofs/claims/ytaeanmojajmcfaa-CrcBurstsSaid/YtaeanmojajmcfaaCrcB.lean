/-
  The statement CrcBursts holds: a sealed string of which some of 32 consecutive bits are changed is not sealed, and a marked one is not marked. No condition.
-/
import Derived.Test.YtaeanmojajmcfaaOpen
import Derived.Test.YtaeanmojajmcfaaCrcDmg
namespace Go.Proofs.Ytaeanmojajmcfaa
open Go.RowKit
set_option linter.unusedVariables false
theorem cut_le4 (s : ByteArray) (c : Nat) : (s.extract 0 (min (s.size : Int) c).toNat).size ≤ c := by rw [ByteArray.size_extract]; omega
theorem ix2s (x y : ByteArray) (W : World) : (Instr.index 34 (.agg #[.string x, .string y]) (.int .i64 0)).run Try.prog W = .ok (.string x) W ∧ (Instr.index 34 (.agg #[.string x, .string y]) (.int .i64 1)).run Try.prog W = .ok (.string y) W := ⟨by kernel_rfl, by kernel_rfl⟩

set_option maxRecDepth 100000 in
set_option maxHeartbeats 1000000 in
theorem crcBursts_walk (s : ByteArray) (a p : Int) (hs : s.size ≤ maxLen) (ha : (Lit.int .u16 a).wf = true) (hp : (Lit.int .u32 p).wf = true) (w : World) :
   Calls Try.prog 5 #[.string s, .int .u16 a, .int .u32 p] w fun e w' => e = .returned (.bool true) ∧ Below w.heap.size w w' := by
  unfold maxLen at hs
  have ha1 : 0 ≤ a ∧ a ≤ 65535 := bounds_u16 ha
  have hp1 : 0 ≤ p ∧ p ≤ 4294967295 := bounds_u32 hp
  clear ha hp
  obtain ⟨P, rfl⟩ := Int.eq_ofNat_of_zero_le hp1.1
  have hP : P < 4294967296 := by omega
  go_enter Try.func5, Try.ntmps5
  go_wp2_with (fail)
  refine (works6 _).mono ?_
  rintro e w1 ⟨rfl, hw1⟩
  have y1 := hw1.size
  go_wp2_with (fail)
  have hA := cut_le4 s 100
  simp only [Int.cast_ofNat_Int] at hA
  generalize s.extract 0 (min (s.size : Int) 100).toNat = A at *
  have hT1 := sealB_size 0 A
  have hT2 := sealB_size Crcm.marking A
  have g1 := goodB_sealB 0 A
  have g2 := goodB_sealB Crcm.marking A
  have g3 := marked_seal A
  have g4 := good_mark A
  have c1 := fun W => Seal_any A (by omega) W
  have c2 := fun W => Mark_any A (by omega) W
  generalize sealB 0 A = T1 at *
  generalize sealB Crcm.marking A = T2 at *
  have c3 := fun W => Good_any T1 (by omega) W
  have c4 := fun W => Marked_any T1 (by omega) W
  have c5 := fun W => Good_any T2 (by omega) W
  have c6 := fun W => Marked_any T2 (by omega) W
  rw [g1] at c3
  rw [g3] at c4
  rw [g4] at c5
  rw [g2] at c6
  have C1 := Lib.hid c1; clear c1
  have C2 := Lib.hid c2; clear c2
  have C3 := Lib.hid c3; clear c3
  have C4 := Lib.hid c4; clear c4
  have C5 := Lib.hid c5; clear c5
  have C6 := Lib.hid c6; clear c6
  have G1 := Lib.hid g1; clear g1
  have G2 := Lib.hid g2; clear g2
  clear g3 g4
  refine (C1.out _).mono ?_
  rintro e w2 ⟨rfl, hw2⟩
  have B2 := hw1.trans (hw2.mono y1)
  have y2 := B2.size
  go_wp2_with (fail)
  refine (C2.out _).mono ?_
  rintro e w3 ⟨rfl, hw3⟩
  have B3 := B2.trans (hw3.mono y2)
  have y3 := B3.size
  go_wp2_with (fail)
  go_loopw [23] (fun i wr => ∃ j : Nat, j ≤ 2 ∧ i = .int .i64 j ∧ Below w.heap.size w wr) (fun i _ => 2 - (intOf i).toNat)
  case atStart => exact ⟨0, by omega, rfl, B3⟩
  case round =>
    obtain ⟨j, hj, rfl, hb⟩ := hrel
    have yb := hb.size
    by_cases hlt : j < 2
    · obtain ⟨K, e1, f1⟩ : ∃ K : Nat, a % (8 * ((A.size : Int) + 4)) = (K : Int) ∧ K < 8 * (A.size + 4) := ⟨(a % (8 * ((A.size : Int) + 4))).toNat, by have := Int.emod_nonneg a (show 8 * ((A.size : Int) + 4) ≠ 0 by omega); omega, by have := Int.emod_lt_of_pos a (show 0 < 8 * ((A.size : Int) + 4) by omega); omega⟩
      have hj2 : j = 0 ∨ j = 1 := by omega
      rcases hj2 with rfl | rfl
      · have hix := fun W => (ix2s T1 T2 W).1
        have d1 := fun W => Flip_any T1 (by omega) K (by omega) P hP W
        have D1 := Lib.hid d1; clear d1
        by_cases hu : flipB T1 K P = T1
        · rw [hu] at D1
          go_wp2_with (fail)
          refine (D1.out _).mono ?_
          rintro e w4 ⟨rfl, hw4⟩
          have B4 := hb.trans (hw4.mono yb)
          go_wp2_with (fail)
          go_roundw
          case rel => exact ⟨1, by omega, by go_num, B4⟩
          case measure => simp [intOf]
        · have hb1 := burstB 0 (by omega) T1 K P (by omega) hP G1.out hu
          have hun := ba_ne hu
          have d2 := fun W => Good_any (flipB T1 K P) (by rw [flipB_size]; omega) W
          rw [hb1] at d2
          have D2 := Lib.hid d2; clear d2 hb1 hu
          generalize flipB T1 K P = U at *
          go_wp2_with (fail)
          refine (D1.out _).mono ?_
          rintro e w4 ⟨rfl, hw4⟩
          have B4 := hb.trans (hw4.mono yb)
          have y4 := B4.size
          go_wp2_with (fail)
          refine (C3.out _).mono ?_
          rintro e w5 ⟨rfl, hw5⟩
          have B5 := B4.trans (hw5.mono y4)
          have y5 := B5.size
          go_wp2_with (fail)
          refine (D2.out _).mono ?_
          rintro e w6 ⟨rfl, hw6⟩
          have B6 := B5.trans (hw6.mono y5)
          have y6 := B6.size
          go_wp2_with (fail)
          refine (C4.out _).mono ?_
          rintro e w7 ⟨rfl, hw7⟩
          have B7 := B6.trans (hw7.mono y6)
          go_wp2_with (fail)
          go_roundw
          case rel => exact ⟨1, by omega, by go_num, B7⟩
          case measure => simp [intOf]
      · have hix := fun W => (ix2s T1 T2 W).2
        have d1 := fun W => Flip_any T2 (by omega) K (by omega) P hP W
        have D1 := Lib.hid d1; clear d1
        by_cases hu : flipB T2 K P = T2
        · rw [hu] at D1
          go_wp2_with (fail)
          refine (D1.out _).mono ?_
          rintro e w4 ⟨rfl, hw4⟩
          have B4 := hb.trans (hw4.mono yb)
          go_wp2_with (fail)
          go_roundw
          case rel => exact ⟨2, by omega, by go_num, B4⟩
          case measure => simp [intOf]
        · have hb1 := burstB Crcm.marking (by decide) T2 K P (by omega) hP G2.out hu
          have hun := ba_ne hu
          have d2 := fun W => Marked_any (flipB T2 K P) (by rw [flipB_size]; omega) W
          rw [hb1] at d2
          have D2 := Lib.hid d2; clear d2 hb1 hu
          generalize flipB T2 K P = U at *
          go_wp2_with (fail)
          refine (D1.out _).mono ?_
          rintro e w4 ⟨rfl, hw4⟩
          have B4 := hb.trans (hw4.mono yb)
          have y4 := B4.size
          go_wp2_with (fail)
          refine (C5.out _).mono ?_
          rintro e w5 ⟨rfl, hw5⟩
          have B5 := B4.trans (hw5.mono y4)
          have y5 := B5.size
          go_wp2_with (fail)
          refine (C6.out _).mono ?_
          rintro e w6 ⟨rfl, hw6⟩
          have B6 := B5.trans (hw6.mono y5)
          have y6 := B6.size
          go_wp2_with (fail)
          refine (D2.out _).mono ?_
          rintro e w7 ⟨rfl, hw7⟩
          have B7 := B6.trans (hw7.mono y6)
          go_wp2_with (fail)
          go_roundw
          case rel => exact ⟨2, by omega, by go_num, B7⟩
          case measure => simp [intOf]
    · obtain rfl : j = 2 := by omega
      go_wp2_with (fail)
      refine (C1.out _).mono ?_
      rintro e w4 ⟨rfl, hw4⟩
      have B4 := hb.trans (hw4.mono yb)
      have y4 := B4.size
      go_wp2_with (fail)
      refine (C3.out _).mono ?_
      rintro e w5 ⟨rfl, hw5⟩
      have B5 := B4.trans (hw5.mono y4)
      have y5 := B5.size
      go_wp2_with (fail)
      refine (C2.out _).mono ?_
      rintro e w6 ⟨rfl, hw6⟩
      have B6 := B5.trans (hw6.mono y5)
      have y6 := B6.size
      go_wp2_with (fail)
      refine (C6.out _).mono ?_
      rintro e w7 ⟨rfl, hw7⟩
      have B7 := B6.trans (hw7.mono y6)
      have y7 := B7.size
      go_wp2_with (fail)
      refine (C2.out _).mono ?_
      rintro e w8 ⟨rfl, hw8⟩
      have B8 := B7.trans (hw8.mono y7)
      have y8 := B8.size
      go_wp2_with (fail)
      refine (C5.out _).mono ?_
      rintro e w9 ⟨rfl, hw9⟩
      have B9 := B8.trans (hw9.mono y8)
      have y9 := B9.size
      go_wp2_with (fail)
      refine (C1.out _).mono ?_
      rintro e w10 ⟨rfl, hw10⟩
      have B10 := B9.trans (hw10.mono y9)
      have y10 := B10.size
      go_wp2_with (fail)
      refine (C4.out _).mono ?_
      rintro e w11 ⟨rfl, hw11⟩
      have B11 := B10.trans (hw11.mono y10)
      go_wp2_with (fail)
      go_ret
      exact ⟨rfl, B11⟩

namespace crcBursts
open Go.ChangeShapes Go.WideShapes Go.ChangeAt Go.RowKit
open Go.ChangeMaps (open_string shut_string)
theorem own : ownKnob Try.prog.godebug = none := by kernel_rfl
theorem laidOut : laidOutB Try.prog = true := by kernel_rfl

set_option maxRecDepth 100000 in
theorem lifted (os : Os) (started : os.Started) (H : Type) (enc : TypeId × Value → H) :
    ReturnsInHanded {} Try.checked os 5 .any (Rows.crcBurstsSpec.pre6 enc Try.prog Try.f5 Rows.crcBurstsRow.domain false) (Rows.crcBurstsSpec.post enc Try.prog Try.f5 false true false false) := by
  refine returnsInHanded_of_change (C := Try.checked) own started (by kernel_rfl) Try.func5
    (ChangeSpec.witness6 (enc := enc) (C := Try.checked) false ⟨#[], #[.string ByteArray.empty, .int .u16 0, .int .u32 0], []⟩ 8 (by kernel_rfl) (by kernel_rfl) (by kernel_rfl) (by kernel_rfl)) ?_
  intro W base args ds gs before hval0 hW hcnd _
  have hval : ∀ (j : Nat) t v, Try.f5.params[j]? = some t → args[j]? = some v → Value.okWide Try.prog W .any base t v := hval0
  have hW' := hW
  obtain ⟨p, q, hA0, hV, rfl, hfz, hnd⟩ := hW
  have hA : DataW.TrodAll enc Try.prog W 0 (fun _ => true) true Try.f5.params.toList args.toList ds p := hA0
  rw [Try.params5] at hA hval
  obtain ⟨v0, vs0, d0, ds0, p0, q0, hargs, rfl, rfl, h0, r0⟩ := trodAll_cons hA
  obtain ⟨v1, vs1, d1, ds1, p1, q1, rfl, rfl, rfl, h1, r1⟩ := trodAll_cons r0
  obtain ⟨v2, vs2, d2, ds2, p2, q2, rfl, rfl, rfl, h2, r2⟩ := trodAll_cons r1
  obtain ⟨rfl, rfl, rfl⟩ := trodAll_nil r2
  obtain rfl : args = #[v0, v1, v2] := by cases args; simp_all
  obtain ⟨rfl, rfl⟩ := trodVars_none hV
  have k0 := h0
  have lt0 : ∀ x ∈ p0, x.block < W.heap.size := by obtain ⟨m, hm⟩ := k0; exact DataW.trod_lt m _ _ _ hm
  have k1 := h1
  have lt1 : ∀ x ∈ p1, x.block < W.heap.size := by obtain ⟨m, hm⟩ := k1; exact DataW.trod_lt m _ _ _ hm
  have k2 := h2
  have lt2 : ∀ x ∈ p2, x.block < W.heap.size := by obtain ⟨m, hm⟩ := k2; exact DataW.trod_lt m _ _ _ hm
  obtain ⟨a0, rfl, rfl, rfl, w0⟩ := open_string Try.underlying9 (hval 0 9 v0 rfl rfl) h0
  obtain ⟨a1, rfl, rfl, rfl, w1⟩ := open_int Try.underlying29 (hval 1 29 v1 rfl rfl) h1
  obtain ⟨a2, rfl, rfl, rfl, w2⟩ := open_int Try.underlying22 (hval 2 22 v2 rfl rfl) h2
  clear hA0 hval0
  refine (crcBursts_walk a0 a1 a2 w0 w1 w2 W).mono fun e W' ⟨he, bel⟩ => ?_
  subst he
  exact ⟨_, rfl, _, _, _, [], _, [], hW', trodAll_mk1 (shut_bool Try.underlying4 _), (trodAll_cons_mk (Below.trod laidOut (by kernel_rfl) (of_decide_eq_true (by kernel_rfl)) k0 bel lt0) (trodAll_cons_mk (Below.trod laidOut (by kernel_rfl) (of_decide_eq_true (by kernel_rfl)) k1 bel lt1) (trodAll_cons_mk (Below.trod laidOut (by kernel_rfl) (of_decide_eq_true (by kernel_rfl)) k2 bel lt2) trodAll_mk0))), rfl, bel.frame _, fun h => by cases h⟩

theorem over : Rows.crcBurstsRow.holds Try.pinned (OpenSpec.ofChange Rows.crcBurstsSpec) :=
  OpenClaim.holds_of_wide 5 Try.f5 rfl rfl rfl rfl rfl rfl rfl ⟨rfl, rfl, rfl, rfl, rfl⟩ rfl rfl rfl rfl rfl (by kernel_rfl) Try.func5 (by kernel_rfl)
    (of_decide_eq_true (by kernel_rfl)) (by unfold Func.isWrapper; first | (rw [if_pos (by decide +kernel)]; kernel_rfl) | (rw [if_neg (by decide +kernel)]; exact ⟨rfl, rfl⟩))
    (fun os started H enc _ => lifted os started H enc)

theorem proved : Rows.CrcBurstsSaid := over
#print axioms proved
end crcBursts
end Go.Proofs.Ytaeanmojajmcfaa
