/-
  The statement CrcSums holds: Of, Extend, Octets, Seal and Mark return what the chapter specifies. No condition.
-/
import Derived.Test.YtaeanmojajmcfaaOpen
import Derived.Test.YtaeanmojajmcfaaCrcKnown
namespace Go.Proofs.Ytaeanmojajmcfaa
open Go.RowKit
set_option linter.unusedVariables false
theorem cut_le (s : ByteArray) (c : Nat) : (s.extract 0 (min (s.size : Int) c).toNat).size ≤ c := by rw [ByteArray.size_extract]; omega

set_option maxRecDepth 100000 in
set_option maxHeartbeats 1000000 in
theorem crcSums_walk (s : ByteArray) (c : Int) (hs : s.size ≤ maxLen) (hc : (Lit.int .u32 c).wf = true) (w : World) :
   Calls Try.prog 3 #[.string s, .int .u32 c] w fun e w' => e = .returned (.bool true) ∧ Below w.heap.size w w' := by
  unfold maxLen at hs
  have hc1 : 0 ≤ c ∧ c ≤ 4294967295 := bounds_u32 hc
  obtain ⟨C, rfl⟩ := Int.eq_ofNat_of_zero_le hc1.1
  have hC : C < 4294967296 := by omega
  clear hc hc1
  go_enter Try.func3, Try.ntmps3
  go_wp2_with (fail)
  have ha := cut_le s 100
  simp only [Int.cast_ofNat_Int] at ha
  generalize s.extract 0 (min (s.size : Int) 100).toNat = A at *
  have h9 : A.size ≤ 9000000000000000000 := by omega
  have c1 := Lib.hid (fun W => Of_any A h9 W)
  have c2 := Lib.hid (fun W => ROf_any A h9 W)
  have c3 := Lib.hid (fun W => Extend_any C hC A h9 W)
  have c4 := Lib.hid (fun W => RExtend_any C hC A h9 W)
  have c5 := Lib.hid (fun W => Octets_any C hC W)
  have c6 := Lib.hid (fun W => ROctets_any C hC W)
  have c7 := Lib.hid (fun W => Seal_any A h9 W)
  have c8 := Lib.hid (fun W => RSeal_any A h9 W)
  have c9 := Lib.hid (fun W => Mark_any A h9 W)
  have c10 := Lib.hid (fun W => RMark_any A h9 W)
  have c11 := Lib.hid (fun W => works6 W)
  refine (c1.out _).mono ?_
  rintro e v0 ⟨rfl, g0⟩
  have B0 := g0
  have y0 := B0.size
  go_wp2_with (fail)
  refine (c2.out _).mono ?_
  rintro e _ ⟨rfl, rfl⟩
  go_wp2_with (fail)
  refine (c3.out _).mono ?_
  rintro e v2 ⟨rfl, g2⟩
  have B2 := B0.trans (g2.mono y0)
  have y2 := B2.size
  go_wp2_with (fail)
  refine (c4.out _).mono ?_
  rintro e _ ⟨rfl, rfl⟩
  go_wp2_with (fail)
  refine (c5.out _).mono ?_
  rintro e v4 ⟨rfl, g4⟩
  have B4 := B2.trans (g4.mono y2)
  have y4 := B4.size
  go_wp2_with (fail)
  refine (c6.out _).mono ?_
  rintro e v5 ⟨rfl, g5⟩
  have B5 := B4.trans (g5.mono y4)
  have y5 := B5.size
  go_wp2_with (fail)
  refine (c7.out _).mono ?_
  rintro e v6 ⟨rfl, g6⟩
  have B6 := B5.trans (g6.mono y5)
  have y6 := B6.size
  go_wp2_with (fail)
  refine (c8.out _).mono ?_
  rintro e v7 ⟨rfl, g7⟩
  have B7 := B6.trans (g7.mono y6)
  have y7 := B7.size
  go_wp2_with (fail)
  refine (c9.out _).mono ?_
  rintro e v8 ⟨rfl, g8⟩
  have B8 := B7.trans (g8.mono y7)
  have y8 := B8.size
  go_wp2_with (fail)
  refine (c10.out _).mono ?_
  rintro e v9 ⟨rfl, g9⟩
  have B9 := B8.trans (g9.mono y8)
  have y9 := B9.size
  go_wp2_with (fail)
  refine (c11.out _).mono ?_
  rintro e v10 ⟨rfl, g10⟩
  have B10 := B9.trans (g10.mono y9)
  have y10 := B10.size
  go_wp2_with (fail)
  go_ret
  exact ⟨rfl, B10⟩

namespace crcSums
open Go.ChangeShapes Go.WideShapes Go.ChangeAt Go.RowKit
open Go.ChangeMaps (open_string shut_string)
theorem own : ownKnob Try.prog.godebug = none := by kernel_rfl
theorem laidOut : laidOutB Try.prog = true := by kernel_rfl

set_option maxRecDepth 100000 in
theorem lifted (os : Os) (started : os.Started) (H : Type) (enc : TypeId × Value → H) :
    ReturnsInHanded {} Try.checked os 3 .any (Rows.crcSumsSpec.pre6 enc Try.prog Try.f3 Rows.crcSumsRow.domain false) (Rows.crcSumsSpec.post enc Try.prog Try.f3 false true false false) := by
  refine returnsInHanded_of_change (C := Try.checked) own started (by kernel_rfl) Try.func3
    (ChangeSpec.witness6 (enc := enc) (C := Try.checked) false ⟨#[], #[.string ByteArray.empty, .int .u32 0], []⟩ 8 (by kernel_rfl) (by kernel_rfl) (by kernel_rfl) (by kernel_rfl)) ?_
  intro W base args ds gs before hval0 hW hcnd _
  have hval : ∀ (j : Nat) t v, Try.f3.params[j]? = some t → args[j]? = some v → Value.okWide Try.prog W .any base t v := hval0
  have hW' := hW
  obtain ⟨p, q, hA0, hV, rfl, hfz, hnd⟩ := hW
  have hA : DataW.TrodAll enc Try.prog W 0 (fun _ => true) true Try.f3.params.toList args.toList ds p := hA0
  rw [Try.params3] at hA hval
  obtain ⟨v0, vs0, d0, ds0, p0, q0, hargs, rfl, rfl, h0, r0⟩ := trodAll_cons hA
  obtain ⟨v1, vs1, d1, ds1, p1, q1, rfl, rfl, rfl, h1, r1⟩ := trodAll_cons r0
  obtain ⟨rfl, rfl, rfl⟩ := trodAll_nil r1
  obtain rfl : args = #[v0, v1] := by cases args; simp_all
  obtain ⟨rfl, rfl⟩ := trodVars_none hV
  have k0 := h0
  have lt0 : ∀ x ∈ p0, x.block < W.heap.size := by obtain ⟨m, hm⟩ := k0; exact DataW.trod_lt m _ _ _ hm
  have k1 := h1
  have lt1 : ∀ x ∈ p1, x.block < W.heap.size := by obtain ⟨m, hm⟩ := k1; exact DataW.trod_lt m _ _ _ hm
  obtain ⟨a0, rfl, rfl, rfl, w0⟩ := open_string Try.underlying9 (hval 0 9 v0 rfl rfl) h0
  obtain ⟨a1, rfl, rfl, rfl, w1⟩ := open_int Try.underlying22 (hval 1 22 v1 rfl rfl) h1
  clear hA0 hval0
  refine (crcSums_walk a0 a1 w0 w1 W).mono fun e W' ⟨he, bel⟩ => ?_
  subst he
  exact ⟨_, rfl, _, _, _, [], _, [], hW', trodAll_mk1 (shut_bool Try.underlying4 _), (trodAll_cons_mk (Below.trod laidOut (by kernel_rfl) (of_decide_eq_true (by kernel_rfl)) k0 bel lt0) (trodAll_cons_mk (Below.trod laidOut (by kernel_rfl) (of_decide_eq_true (by kernel_rfl)) k1 bel lt1) trodAll_mk0)), rfl, bel.frame _, fun h => by cases h⟩

theorem over : Rows.crcSumsRow.holds Try.pinned (OpenSpec.ofChange Rows.crcSumsSpec) :=
  OpenClaim.holds_of_wide 3 Try.f3 rfl rfl rfl rfl rfl rfl rfl ⟨rfl, rfl, rfl, rfl, rfl⟩ rfl rfl rfl rfl rfl (by kernel_rfl) Try.func3 (by kernel_rfl)
    (of_decide_eq_true (by kernel_rfl)) (by unfold Func.isWrapper; first | (rw [if_pos (by decide +kernel)]; kernel_rfl) | (rw [if_neg (by decide +kernel)]; exact ⟨rfl, rfl⟩))
    (fun os started H enc _ => lifted os started H enc)

theorem proved : Rows.CrcSumsSaid := over
#print axioms proved
end crcSums
end Go.Proofs.Ytaeanmojajmcfaa
