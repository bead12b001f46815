/-
  The statement CrcPairs holds: a sealed string of which exactly two bits are changed is not sealed. No condition.
-/
import Derived.Test.YtaeanmojajmcfaaOpen
import Derived.Test.YtaeanmojajmcfaaCrcDmg
namespace Go.Proofs.Ytaeanmojajmcfaa
open Go.RowKit
set_option linter.unusedVariables false
theorem cut_le3 (s : ByteArray) (c : Nat) : (s.extract 0 (min (s.size : Int) c).toNat).size ≤ c := by rw [ByteArray.size_extract]; omega

set_option maxRecDepth 100000 in
set_option maxHeartbeats 1000000 in
theorem crcPairs_walk (s : ByteArray) (a b : Int) (hs : s.size ≤ maxLen) (ha : (Lit.int .u16 a).wf = true) (hb : (Lit.int .u16 b).wf = true) (w : World) :
   Calls Try.prog 6 #[.string s, .agg #[.int .u16 a, .int .u16 b]] w fun e w' => e = .returned (.bool true) ∧ Below w.heap.size w w' := by
  unfold maxLen at hs
  have ha1 : 0 ≤ a ∧ a ≤ 65535 := bounds_u16 ha
  have hb1 : 0 ≤ b ∧ b ≤ 65535 := bounds_u16 hb
  clear ha hb
  go_enter Try.func6, Try.ntmps6
  go_wp2_with (fail)
  refine (works6 _).mono ?_
  rintro e w1 ⟨rfl, hw1⟩
  have y1 := hw1.size
  simp at y1
  have k0 : w1.cell? ⟨w.heap.size, 0, none⟩ = some (.int .u16 a) := (hw1.cell (p := ⟨w.heap.size, 0, none⟩) (by simp)).trans (by simp)
  have k1 : w1.cell? ⟨w.heap.size, 1, none⟩ = some (.int .u16 b) := (hw1.cell (p := ⟨w.heap.size, 1, none⟩) (by simp)).trans (by simp)
  go_wp2_with (fail)
  have hA := cut_le3 s 200
  simp only [Int.cast_ofNat_Int] at hA
  generalize s.extract 0 (min (s.size : Int) 200).toNat = A at *
  have hT := sealB_size 0 A
  have hG := goodB_sealB 0 A
  have c1 := fun W => Seal_any A (by omega) W
  generalize sealB 0 A = T at *
  refine (c1 _).mono ?_
  rintro e w2 ⟨rfl, hw2⟩
  clear c1
  have y2 := hw2.size
  have k2 : w2.cell? ⟨w.heap.size, 0, none⟩ = some (.int .u16 a) := (hw2.cell (p := ⟨w.heap.size, 0, none⟩) (by simp; omega)).trans k0
  have k3 : w2.cell? ⟨w.heap.size, 1, none⟩ = some (.int .u16 b) := (hw2.cell (p := ⟨w.heap.size, 1, none⟩) (by simp; omega)).trans k1
  have hG' := Lib.hid hG; clear hG
  go_wp2_with (fail)
  go_quiet (fail)
  go_wp2_with (fail)
  obtain ⟨K1, e1, f1⟩ : ∃ K : Nat, a % (8 * ((A.size : Int) + 4)) = (K : Int) ∧ K < 8 * T.size := ⟨(a % (8 * ((A.size : Int) + 4))).toNat, by have := Int.emod_nonneg a (show 8 * ((A.size : Int) + 4) ≠ 0 by omega); omega, by have := Int.emod_lt_of_pos a (show 0 < 8 * ((A.size : Int) + 4) by omega); omega⟩
  obtain ⟨K2, e2, f2⟩ : ∃ K : Nat, b % (8 * ((A.size : Int) + 4)) = (K : Int) ∧ K < 8 * T.size := ⟨(b % (8 * ((A.size : Int) + 4))).toNat, by have := Int.emod_nonneg b (show 8 * ((A.size : Int) + 4) ≠ 0 by omega); omega, by have := Int.emod_lt_of_pos b (show 0 < 8 * ((A.size : Int) + 4) by omega); omega⟩
  rw [e1, e2]
  clear e1 e2
  have p1 := pairsB T K1 K2 f1 f2 (by omega) hG'.out
  have p2 := oneB T K1 f1 hG'.out
  have c1 := fun W => Flip_any T (by omega) K1 (by omega) 1 (by omega) W
  have c2 := fun W => Flip_any (flipB T K1 1) (by rw [flipB_size]; omega) K2 (by omega) 1 (by omega) W
  have c3 := fun W => Good_any (flipB (flipB T K1 1) K2 1) (by rw [flipB_size, flipB_size]; omega) W
  have c4 := fun W => Good_any (flipB T K1 1) (by rw [flipB_size]; omega) W
  rw [p1] at c3
  rw [p2] at c4
  clear p1 p2
  generalize flipB (flipB T K1 1) K2 1 = U2 at *
  generalize flipB T K1 1 = U1 at *
  have C1 := Lib.hid c1; clear c1
  have C2 := Lib.hid c2; clear c2
  have C3 := Lib.hid c3; clear c3
  have C4 := Lib.hid c4; clear c4
  refine (C1.out _).mono ?_
  rintro e w3 ⟨rfl, hw3⟩
  go_wp2_with (fail)
  refine (C2.out _).mono ?_
  rintro e w4 ⟨rfl, hw4⟩
  have B1 : Below w.heap.size w w1 := ((Below.refl _ w).alloc (Nat.le_refl _) _).trans (hw1.mono (by simp))
  have z1 := B1.size
  have B2 := B1.trans (hw2.mono z1)
  have z2 := B2.size
  have B3 : Below w.heap.size w w3 := (below_drewN B2 nq).trans (hw3.mono z2)
  have z3 := B3.size
  have B4 := B3.trans (hw4.mono z3)
  have z4 := B4.size
  rcases hq : (K1 == K2) with _ | _
  · have hq2 : ((K1 : Int) == (K2 : Int)) = false := by rw [beq_eq_false_iff_ne] at *; omega
    have C3' := C3.out
    rw [hq] at C3'
    have C5 := Lib.hid C3'; clear C3' C3 hq
    go_wp2_with (fail)
    refine (C5.out _).mono ?_
    rintro e w5 ⟨rfl, hw5⟩
    have B5 := B4.trans (hw5.mono z4)
    have z5 := B5.size
    go_wp2_with (fail)
    refine (C1.out _).mono ?_
    rintro e w6 ⟨rfl, hw6⟩
    have B6 := B5.trans (hw6.mono z5)
    have z6 := B6.size
    go_wp2_with (fail)
    refine (C4.out _).mono ?_
    rintro e w7 ⟨rfl, hw7⟩
    have B7 := B6.trans (hw7.mono z6)
    go_wp2_with (fail)
    go_ret
    exact ⟨rfl, B7⟩
  · have hq2 : ((K1 : Int) == (K2 : Int)) = true := by rw [beq_iff_eq] at *; omega
    have C3' := C3.out
    rw [hq] at C3'
    have C5 := Lib.hid C3'; clear C3' C3 hq
    go_wp2_with (fail)
    refine (C5.out _).mono ?_
    rintro e w5 ⟨rfl, hw5⟩
    have B5 := B4.trans (hw5.mono z4)
    have z5 := B5.size
    go_wp2_with (fail)
    refine (C1.out _).mono ?_
    rintro e w6 ⟨rfl, hw6⟩
    have B6 := B5.trans (hw6.mono z5)
    have z6 := B6.size
    go_wp2_with (fail)
    refine (C4.out _).mono ?_
    rintro e w7 ⟨rfl, hw7⟩
    have B7 := B6.trans (hw7.mono z6)
    go_wp2_with (fail)
    go_ret
    exact ⟨rfl, B7⟩

namespace crcPairs
open Go.ChangeShapes Go.WideShapes Go.ChangeAt Go.RowKit
open Go.ChangeMaps (open_string shut_string)
theorem own : ownKnob Try.prog.godebug = none := by kernel_rfl
theorem laidOut : laidOutB Try.prog = true := by kernel_rfl

set_option maxRecDepth 100000 in
theorem lifted (os : Os) (started : os.Started) (H : Type) (enc : TypeId × Value → H) :
    ReturnsInHanded {} Try.checked os 6 .any (Rows.crcPairsSpec.pre6 enc Try.prog Try.f6 Rows.crcPairsRow.domain false) (Rows.crcPairsSpec.post enc Try.prog Try.f6 false true false false) := by
  refine returnsInHanded_of_change (C := Try.checked) own started (by kernel_rfl) Try.func6
    (ChangeSpec.witness6 (enc := enc) (C := Try.checked) false ⟨#[], #[.string ByteArray.empty, .agg #[.int .u16 0, .int .u16 0]], []⟩ 8 (by kernel_rfl) (by kernel_rfl) (by kernel_rfl) (by kernel_rfl)) ?_
  intro W base args ds gs before hval0 hW hcnd _
  have hval : ∀ (j : Nat) t v, Try.f6.params[j]? = some t → args[j]? = some v → Value.okWide Try.prog W .any base t v := hval0
  have hW' := hW
  obtain ⟨p, q, hA0, hV, rfl, hfz, hnd⟩ := hW
  have hA : DataW.TrodAll enc Try.prog W 0 (fun _ => true) true Try.f6.params.toList args.toList ds p := hA0
  rw [Try.params6] at hA hval
  obtain ⟨v0, vs0, d0, ds0, p0, q0, hargs, rfl, rfl, h0, r0⟩ := trodAll_cons hA
  obtain ⟨v1, vs1, d1, ds1, p1, q1, rfl, rfl, rfl, h1, r1⟩ := trodAll_cons r0
  obtain ⟨rfl, rfl, rfl⟩ := trodAll_nil r1
  obtain rfl : args = #[v0, v1] := by cases args; simp_all
  obtain ⟨rfl, rfl⟩ := trodVars_none hV
  have k0 := h0
  have lt0 : ∀ x ∈ p0, x.block < W.heap.size := by obtain ⟨m, hm⟩ := k0; exact DataW.trod_lt m _ _ _ hm
  have k1 := h1
  have lt1 : ∀ x ∈ p1, x.block < W.heap.size := by obtain ⟨m, hm⟩ := k1; exact DataW.trod_lt m _ _ _ hm
  obtain ⟨a0, rfl, rfl, rfl, w0⟩ := open_string Try.underlying9 (hval 0 9 v0 rfl rfl) h0
  obtain ⟨a1, b1, rfl, w1, u1⟩ := open_two Try.underlying35 Try.underlying29 (by kernel_rfl) (by kernel_rfl) (hval 1 35 v1 rfl rfl) h1
  clear hA0 hval0
  refine (crcPairs_walk a0 a1 b1 w0 w1 u1 W).mono fun e W' ⟨he, bel⟩ => ?_
  subst he
  exact ⟨_, rfl, _, _, _, [], _, [], hW', trodAll_mk1 (shut_bool Try.underlying4 _), (trodAll_cons_mk (Below.trod laidOut (by kernel_rfl) (of_decide_eq_true (by kernel_rfl)) k0 bel lt0) (trodAll_cons_mk (Below.trod laidOut (by kernel_rfl) (of_decide_eq_true (by kernel_rfl)) k1 bel lt1) trodAll_mk0)), rfl, bel.frame _, fun h => by cases h⟩

theorem over : Rows.crcPairsRow.holds Try.pinned (OpenSpec.ofChange Rows.crcPairsSpec) :=
  OpenClaim.holds_of_wide 6 Try.f6 rfl rfl rfl rfl rfl rfl rfl ⟨rfl, rfl, rfl, rfl, rfl⟩ rfl rfl rfl rfl rfl (by kernel_rfl) Try.func6 (by kernel_rfl)
    (of_decide_eq_true (by kernel_rfl)) (by unfold Func.isWrapper; first | (rw [if_pos (by decide +kernel)]; kernel_rfl) | (rw [if_neg (by decide +kernel)]; exact ⟨rfl, rfl⟩))
    (fun os started H enc _ => lifted os started H enc)

theorem proved : Rows.CrcPairsSaid := over
#print axioms proved
end crcPairs
end Go.Proofs.Ytaeanmojajmcfaa
