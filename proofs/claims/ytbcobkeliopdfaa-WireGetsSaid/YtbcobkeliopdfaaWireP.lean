/-
  The statement WirePuts holds: Put and PutSigned return what the chapter specifies. No condition.
-/
import Derived.Test.YtbcobkeliopdfaaOpen
import Derived.Test.YtbcobkeliopdfaaWireB
namespace Go.Proofs.Ytbcobkeliopdfaa
open Go.RowKit
set_option linter.unusedVariables false

def pick3 (a b c : Int) (j : Nat) : Int := if j = 0 then a else if j = 1 then b else c
def pick6 (a b c d e f : Int) (j : Nat) : Int := if j = 0 then a else if j = 1 then b else if j = 2 then c else if j = 3 then d else if j = 4 then e else f
theorem pick6_bd {l u a b c d e f : Int} {j : Nat} (ha : l ≤ a ∧ a ≤ u) (hb : l ≤ b ∧ b ≤ u) (hc : l ≤ c ∧ c ≤ u) (hd : l ≤ d ∧ d ≤ u) (he : l ≤ e ∧ e ≤ u) (hf : l ≤ f ∧ f ≤ u) : l ≤ pick6 a b c d e f j ∧ pick6 a b c d e f j ≤ u := by
  unfold pick6; repeat' split
  all_goals assumption
theorem ix3 (a b c : Int) (j : Nat) (h : j < 3) (W : World) : (Instr.index 23 (.agg #[.int .i64 a, .int .i64 b, .int .i64 c]) (.int .i64 j)).run Try.prog W = .ok (.int .i64 (pick3 a b c j)) W := by
  have : j = 0 ∨ j = 1 ∨ j = 2 := by omega
  rcases this with rfl | rfl | rfl <;> (show _ = _; kernel_rfl)
theorem ix6 (a b c d e f : Int) (j : Nat) (h : j < 6) (W : World) : (Instr.index 24 (.agg #[.int .i64 a, .int .i64 b, .int .i64 c, .int .i64 d, .int .i64 e, .int .i64 f]) (.int .i64 j)).run Try.prog W = .ok (.int .i64 (pick6 a b c d e f j)) W := by
  have : j = 0 ∨ j = 1 ∨ j = 2 ∨ j = 3 ∨ j = 4 ∨ j = 5 := by omega
  rcases this with rfl | rfl | rfl | rfl | rfl | rfl <;> (show _ = _; kernel_rfl)

theorem w64_bd (x : Int) : -9223372036854775808 ≤ wrap64 x ∧ wrap64 x ≤ 9223372036854775807 := by unfold wrap64; omega
theorem div_bd (n : Int) (m : Nat) (h1 : -9223372036854775808 ≤ n) (h2 : n ≤ 9223372036854775807) : -9223372036854775808 ≤ n / 2 ^ m ∧ n / 2 ^ m ≤ 9223372036854775807 := by
  have hp : (0 : Int) < 2 ^ m := Int.pow_pos (by omega)
  constructor
  · rw [Int.le_ediv_iff_mul_le hp]
    have : (-9223372036854775808 : Int) * 2 ^ m ≤ -9223372036854775808 * 1 := Int.mul_le_mul_of_nonpos_left (by omega) (by omega)
    omega
  · by_cases h0 : 0 ≤ n
    · have := Int.ediv_le_self (2 ^ m : Int) h0
      omega
    · have : n / 2 ^ m < 0 := Int.ediv_neg_of_neg_of_pos (by omega) hp
      omega

set_option maxRecDepth 100000 in
set_option maxHeartbeats 1000000 in
theorem wirePuts_walk (s : ByteArray) (n o k : Int) (hs : s.size ≤ maxLen) (hn : (Lit.int .i64 n).wf = true) (ho : (Lit.int .u8 o).wf = true) (hk : (Lit.int .i64 k).wf = true) (w : World) :
   Calls Try.prog 3 #[.string s, .int .i64 n, .int .u8 o, .int .i64 k] w fun e w' => e = .returned (.bool true) ∧ Below w.heap.size w w' := by
  unfold maxLen at hs
  have hn1 : -9223372036854775808 ≤ n ∧ n ≤ 9223372036854775807 := bounds_i64 hn
  have ho1 : 0 ≤ o ∧ o ≤ 255 := bounds_u8 ho
  have hk1 : -9223372036854775808 ≤ k ∧ k ≤ 9223372036854775807 := bounds_i64 hk
  go_enter Try.func3, Try.ntmps3
  go_wp2_with (fail)
  have ha20 := extract_le s 20
  simp only [Int.cast_ofNat_Int] at ha20
  generalize s.extract 0 (min (s.size : Int) 20).toNat = A at *
  go_loopw [32] (fun i wr => ∃ j : Nat, j ≤ 3 ∧ i = .int .i64 j ∧ Below w.heap.size w wr) (fun i _ => 3 - (intOf i).toNat)
  case atStart => exact ⟨0, by omega, rfl, Below.refl _ _⟩
  case round =>
    obtain ⟨j, h1, rfl, hb⟩ := hrel
    by_cases hlt : j < 3
    · have hix := fun a b c W => ix3 a b c j hlt W
      have hd3 : decide ((j : Int) < 3) = true := by rw [decide_eq_true_eq]; omega
      go_wp2_with (fail)
      have q1 : -9223372036854775808 ≤ n / 2 ^ (o % 64).toNat ∧ n / 2 ^ (o % 64).toNat ≤ 9223372036854775807 := div_bd n _ hn1.1 hn1.2
      have q2 := w64_bd (2 ^ (o % 63).toNat)
      have q3 := w64_bd (wrap64 (2 ^ (o % 63).toNat) - 1)
      have q4 := w64_bd (-2 ^ (o % 64).toNat)
      have q5 := w64_bd (wrap64 (-2 ^ (o % 64).toNat) - 1)
      generalize wrap64 (wrap64 (2 ^ (o % 63).toNat) - 1) = x3 at *
      generalize wrap64 (wrap64 (-2 ^ (o % 64).toNat) - 1) = x5 at *
      generalize wrap64 (2 ^ (o % 63).toNat) = x2 at *
      generalize wrap64 (-2 ^ (o % 64).toNat) = x4 at *
      generalize n / 2 ^ (o % 64).toNat = x1 at *
      generalize pick3 k (wrap64 ((IntKind.u64.wrap k).tmod 10)) (-1) j = K at *
      obtain ⟨wo, rfl⟩ : ∃ wo : World, wo = wr := ⟨_, rfl⟩
      go_loopw [55] (fun i wr => ∃ j : Nat, j ≤ 6 ∧ i = .int .i64 j ∧ Below w.heap.size w wr) (fun i _ => 6 - (intOf i).toNat)
      case atStart => exact ⟨0, by omega, rfl, hb⟩
      case round =>
        obtain ⟨i, hi1, rfl, hb2⟩ := hrel
        by_cases hlt2 : i < 6
        · have hix2 := fun a b c d e f W => ix6 a b c d e f i hlt2 W
          have hM := pick6_bd (j := i) hn1 q1 q2 q3 q4 q5
          go_wp2_with (fail)
          generalize pick6 n x1 x2 x3 x4 x5 i = M at *
          refine (Put_any A M K (by omega) _).mono ?_
          rintro e w1 ⟨rfl, hb3⟩
          go_wp2_with (fail)
          refine (RPut_any A M K hM.1 hM.2 (by omega) _).mono ?_
          rintro e w2 ⟨rfl, hb4⟩
          go_wp2_with (fail)
          refine (PutSigned_any A M K hM.1 hM.2 (by omega) _).mono ?_
          rintro e w3 ⟨rfl, hb5⟩
          go_wp2_with (fail)
          refine (RPutSigned_any A M K hM.1 hM.2 (by omega) _).mono ?_
          rintro e w4 ⟨rfl, hb6⟩
          go_wp2_with (fail)
          have y2 := hb2.size
          have y3 := hb3.size
          have y4 := hb4.size
          have y5 := hb5.size
          go_roundw
          case rel => exact ⟨i + 1, by omega, by go_num, (((hb2.trans (hb3.mono y2)).trans (hb4.mono (by omega))).trans (hb5.mono (by omega))).trans (hb6.mono (by omega))⟩
          case measure => simp [intOf]; omega
        · obtain rfl : i = 6 := by omega
          go_wp2_with (fail)
          go_roundw
          case rel => exact ⟨j + 1, by omega, by go_num, hb2⟩
          case measure => simp [intOf]; omega
    · obtain rfl : j = 3 := by omega
      go_wp2_with (fail)
      refine (works5 _).mono ?_
      rintro e w9 ⟨rfl, hb9⟩
      go_wp2_with (fail)
      go_ret
      exact ⟨rfl, hb.trans (hb9.mono hb.size)⟩

namespace wirePuts
open Go.ChangeShapes Go.WideShapes Go.ChangeAt Go.RowKit
open Go.ChangeMaps (open_string shut_string)
theorem own : ownKnob Try.prog.godebug = none := by kernel_rfl
theorem laidOut : laidOutB Try.prog = true := by kernel_rfl

set_option maxRecDepth 100000 in
theorem lifted (os : Os) (started : os.Started) (H : Type) (enc : TypeId × Value → H) :
    ReturnsInHanded {} Try.checked os 3 .any (Rows.wirePutsSpec.pre6 enc Try.prog Try.f3 Rows.wirePutsRow.domain false) (Rows.wirePutsSpec.post enc Try.prog Try.f3 false true false false) := by
  refine returnsInHanded_of_change (C := Try.checked) own started (by kernel_rfl) Try.func3
    (ChangeSpec.witness6 (enc := enc) (C := Try.checked) false ⟨#[], #[.string ByteArray.empty, .int .i64 0, .int .u8 0, .int .i64 0], []⟩ 8 (by kernel_rfl) (by kernel_rfl) (by kernel_rfl) (by kernel_rfl)) ?_
  intro W base args ds gs before hval0 hW hcnd _
  have hval : ∀ (j : Nat) t v, Try.f3.params[j]? = some t → args[j]? = some v → Value.okWide Try.prog W .any base t v := hval0
  have hW' := hW
  obtain ⟨p, q, hA0, hV, rfl, hfz, hnd⟩ := hW
  have hA : DataW.TrodAll enc Try.prog W 0 (fun _ => true) true Try.f3.params.toList args.toList ds p := hA0
  rw [Try.params3] at hA hval
  obtain ⟨v0, vs0, d0, ds0, p0, q0, hargs, rfl, rfl, h0, r0⟩ := trodAll_cons hA
  obtain ⟨v1, vs1, d1, ds1, p1, q1, rfl, rfl, rfl, h1, r1⟩ := trodAll_cons r0
  obtain ⟨v2, vs2, d2, ds2, p2, q2, rfl, rfl, rfl, h2, r2⟩ := trodAll_cons r1
  obtain ⟨v3, vs3, d3, ds3, p3, q3, rfl, rfl, rfl, h3, r3⟩ := trodAll_cons r2
  obtain ⟨rfl, rfl, rfl⟩ := trodAll_nil r3
  obtain rfl : args = #[v0, v1, v2, v3] := by cases args; simp_all
  obtain ⟨rfl, rfl⟩ := trodVars_none hV
  have k0 := h0
  have lt0 : ∀ x ∈ p0, x.block < W.heap.size := by obtain ⟨m, hm⟩ := k0; exact DataW.trod_lt m _ _ _ hm
  have k1 := h1
  have lt1 : ∀ x ∈ p1, x.block < W.heap.size := by obtain ⟨m, hm⟩ := k1; exact DataW.trod_lt m _ _ _ hm
  have k2 := h2
  have lt2 : ∀ x ∈ p2, x.block < W.heap.size := by obtain ⟨m, hm⟩ := k2; exact DataW.trod_lt m _ _ _ hm
  have k3 := h3
  have lt3 : ∀ x ∈ p3, x.block < W.heap.size := by obtain ⟨m, hm⟩ := k3; exact DataW.trod_lt m _ _ _ hm
  obtain ⟨a0, rfl, rfl, rfl, w0⟩ := open_string Try.underlying9 (hval 0 9 v0 rfl rfl) h0
  obtain ⟨a1, rfl, rfl, rfl, w1⟩ := open_int Try.underlying3 (hval 1 3 v1 rfl rfl) h1
  obtain ⟨a2, rfl, rfl, rfl, w2⟩ := open_int Try.underlying5 (hval 2 5 v2 rfl rfl) h2
  obtain ⟨a3, rfl, rfl, rfl, w3⟩ := open_int Try.underlying3 (hval 3 3 v3 rfl rfl) h3
  clear hA0 hval0
  refine (wirePuts_walk a0 a1 a2 a3 w0 w1 w2 w3 W).mono fun e W' ⟨he, bel⟩ => ?_
  subst he
  exact ⟨_, rfl, _, _, _, [], _, [], hW', trodAll_mk1 (shut_bool Try.underlying4 _), (trodAll_cons_mk (Below.trod laidOut (by kernel_rfl) (of_decide_eq_true (by kernel_rfl)) k0 bel lt0) (trodAll_cons_mk (Below.trod laidOut (by kernel_rfl) (of_decide_eq_true (by kernel_rfl)) k1 bel lt1) (trodAll_cons_mk (Below.trod laidOut (by kernel_rfl) (of_decide_eq_true (by kernel_rfl)) k2 bel lt2) (trodAll_cons_mk (Below.trod laidOut (by kernel_rfl) (of_decide_eq_true (by kernel_rfl)) k3 bel lt3) trodAll_mk0)))), rfl, bel.frame _, fun h => by cases h⟩

theorem over : Rows.wirePutsRow.holds Try.pinned (OpenSpec.ofChange Rows.wirePutsSpec) :=
  OpenClaim.holds_of_wide 3 Try.f3 rfl rfl rfl rfl rfl rfl rfl ⟨rfl, rfl, rfl, rfl, rfl⟩ rfl rfl rfl rfl rfl (by kernel_rfl) Try.func3 (by kernel_rfl)
    (of_decide_eq_true (by kernel_rfl)) (by unfold Func.isWrapper; first | (rw [if_pos (by decide +kernel)]; kernel_rfl) | (rw [if_neg (by decide +kernel)]; exact ⟨rfl, rfl⟩))
    (fun os started H enc _ => lifted os started H enc)

theorem proved : Rows.WirePutsSaid := over
#print axioms proved
end wirePuts
end Go.Proofs.Ytbcobkeliopdfaa
