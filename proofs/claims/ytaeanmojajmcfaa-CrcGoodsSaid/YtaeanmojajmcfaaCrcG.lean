/-
  The statement CrcGoods holds: Good and Marked return what the chapter specifies. No condition.
-/
import Derived.Test.YtaeanmojajmcfaaOpen
import Derived.Test.YtaeanmojajmcfaaCrcDmg
namespace Go.Proofs.Ytaeanmojajmcfaa
open Go.RowKit
set_option linter.unusedVariables false
theorem cut_le5 (s : ByteArray) (c : Nat) : (s.extract 0 (min (s.size : Int) c).toNat).size ≤ c := by rw [ByteArray.size_extract]; omega
def pick7 (a b c d e f g : ByteArray) (j : Nat) : ByteArray := if j = 0 then a else if j = 1 then b else if j = 2 then c else if j = 3 then d else if j = 4 then e else if j = 5 then f else g
theorem pick7_le {a b c d e f g : ByteArray} {n j : Nat} (h0 : a.size ≤ n) (h1 : b.size ≤ n) (h2 : c.size ≤ n) (h3 : d.size ≤ n) (h4 : e.size ≤ n) (h5 : f.size ≤ n) (h6 : g.size ≤ n) : (pick7 a b c d e f g j).size ≤ n := by
  unfold pick7; repeat' split
  all_goals assumption
theorem ix7s (a b c d e f g : ByteArray) (j : Nat) (h : j < 7) (W : World) : (Instr.index 31 (.agg #[.string a, .string b, .string c, .string d, .string e, .string f, .string g]) (.int .i64 j)).run Try.prog W = .ok (.string (pick7 a b c d e f g j)) W := by
  have : j = 0 ∨ j = 1 ∨ j = 2 ∨ j = 3 ∨ j = 4 ∨ j = 5 ∨ j = 6 := by omega
  rcases this with rfl | rfl | rfl | rfl | rfl | rfl | rfl <;> (show _ = _; kernel_rfl)

attribute [local go_sem ↓] Go.wp_at_zero Go.wp_at_succ
set_option maxRecDepth 100000 in
set_option maxHeartbeats 1000000 in
theorem crcGoods_walk (s : ByteArray) (a p : Int) (hs : s.size ≤ maxLen) (ha : (Lit.int .u16 a).wf = true) (hp : (Lit.int .u32 p).wf = true) (w : World) :
   Calls Try.prog 4 #[.string s, .int .u16 a, .int .u32 p] w fun e w' => e = .returned (.bool true) ∧ Below w.heap.size w w' := by
  unfold maxLen at hs
  have ha1 : 0 ≤ a ∧ a ≤ 65535 := bounds_u16 ha
  have hp1 : 0 ≤ p ∧ p ≤ 4294967295 := bounds_u32 hp
  clear ha hp
  obtain ⟨P, rfl⟩ := Int.eq_ofNat_of_zero_le hp1.1
  have hP : P < 4294967296 := by omega
  go_enter Try.func4, Try.ntmps4
  go_wp2_with (fail)
  have hA := cut_le5 s 100
  simp only [Int.cast_ofNat_Int] at hA
  generalize s.extract 0 (min (s.size : Int) 100).toNat = A at *
  have hT1 := sealB_size 0 A
  have hT2 := sealB_size Crcm.marking A
  have c1 := fun W => RSeal_any A (by omega) W
  have c2 := fun W => RMark_any A (by omega) W
  generalize sealB 0 A = T1 at *
  generalize sealB Crcm.marking A = T2 at *
  refine (c1 _).mono ?_
  rintro e w1 ⟨rfl, hw1⟩
  have y1 := hw1.size
  go_wp2_with (fail)
  refine (c2 _).mono ?_
  rintro e w2 ⟨rfl, hw2⟩
  clear c1 c2
  have B2 := hw1.trans (hw2.mono y1)
  have y2 := B2.size
  go_wp2_with (fail)
  obtain ⟨K, e1, f1⟩ : ∃ K : Nat, a % (8 * ((A.size : Int) + 4)) = (K : Int) ∧ K < 8 * (A.size + 4) := ⟨(a % (8 * ((A.size : Int) + 4))).toNat, by have := Int.emod_nonneg a (show 8 * ((A.size : Int) + 4) ≠ 0 by omega); omega, by have := Int.emod_lt_of_pos a (show 0 < 8 * ((A.size : Int) + 4) by omega); omega⟩
  rw [e1]
  clear e1
  obtain ⟨Q, e2⟩ : ∃ Q : Nat, K / 8 = Q := ⟨_, rfl⟩
  have q1 : (K : Int) / 8 = (Q : Int) := by omega
  have q2 : (Q : Int) ≤ (A.size : Int) + 4 := by omega
  have q3 : (0 : Int) ≤ (Q : Int) := by omega
  have q4 : (0 : Int) ≤ (K : Int) := by omega
  have q5 : (K : Int).tdiv 8 = (Q : Int) := by rw [Int.tdiv_eq_ediv_of_nonneg q4]; exact q1
  have q6 : IntKind.i64.wrap (Q : Int) = (Q : Int) := IntWalk.i64_in _ (by omega)
  have q7 : IntKind.i64.wrap ((K : Int).tdiv 8) = (Q : Int) := by rw [q5, q6]
  have q8 : IntKind.i64.wrap ((K : Int) / 8) = (Q : Int) := by rw [q1, q6]
  have d1 := fun W => Flip_any T1 (by omega) K (by omega) P hP W
  have d2 := fun W => Flip_any T2 (by omega) K (by omega) P hP W
  have z1 := flipB_size T1 K P
  have z2 := flipB_size T2 K P
  generalize flipB T1 K P = U1 at *
  generalize flipB T2 K P = U2 at *
  have D1 := Lib.hid d1; clear d1
  have D2 := Lib.hid d2; clear d2
  have BB : Below w.heap.size w w2.drew := B2.drew
  go_region_held3 (fun _ => True) (trivial) (first | (go_at_call 21; ((with_reducible refine (D1.out _).mono ?_); rintro e v ⟨rfl, g⟩; replace BB := BB.trans (g.mono BB.size))) | (go_at_call 21; ((with_reducible refine (D2.out _).mono ?_); rintro e v ⟨rfl, g⟩; replace BB := BB.trans (g.mono BB.size))))
  go_wp2_with (fail)
  have x1 : (T1.extract 0 Q).size ≤ 104 := by rw [ByteArray.size_extract]; omega
  have x2 : (T2.extract Q (A.size + 4)).size ≤ 104 := by rw [ByteArray.size_extract]; omega
  have hX := fun j => pick7_le (a := A) (b := T1) (c := T2) (d := U1) (e := U2) (j := j) (n := 104) (by omega) (by omega) (by omega) (by omega) (by omega) x1 x2
  generalize T1.extract 0 Q = V1 at *
  generalize T2.extract Q (A.size + 4) = V2 at *
  have yv := BB.size
  have HX := Lib.hid hX; clear hX
  clear q1 q2 q3 q4 q5 q6 q7 q8 e2 D1 D2
  go_loopw [47] (fun i wr => ∃ j : Nat, j ≤ 7 ∧ i = .int .i64 j ∧ Below w.heap.size w wr) (fun i _ => 7 - (intOf i).toNat)
  case atStart => exact ⟨0, by omega, rfl, BB⟩
  case round =>
    obtain ⟨j, hj, rfl, hb⟩ := hrel
    have yb := hb.size
    by_cases hlt : j < 7
    · have hix := fun W => ix7s A T1 T2 U1 U2 V1 V2 j hlt W
      have hXj := HX.out j
      have hd3 : decide ((j : Int) < 7) = true := by rw [decide_eq_true_eq]; omega
      generalize pick7 A T1 T2 U1 U2 V1 V2 j = X at *
      have C1 := Lib.hid (fun W => Good_any X (by omega) W)
      have C2 := Lib.hid (fun W => RGood_any X (by omega) W)
      have C3 := Lib.hid (fun W => Marked_any X (by omega) W)
      have C4 := Lib.hid (fun W => RMarked_any X (by omega) W)
      go_wp2_with (fail)
      refine (C1.out _).mono ?_
      rintro e w4 ⟨rfl, hw4⟩
      have B4 := hb.trans (hw4.mono yb)
      have y4 := B4.size
      go_wp2_with (fail)
      refine (C2.out _).mono ?_
      rintro e w5 ⟨rfl, hw5⟩
      have B5 := B4.trans (hw5.mono y4)
      have y5 := B5.size
      go_wp2_with (fail)
      refine (C3.out _).mono ?_
      rintro e w6 ⟨rfl, hw6⟩
      have B6 := B5.trans (hw6.mono y5)
      have y6 := B6.size
      go_wp2_with (fail)
      refine (C4.out _).mono ?_
      rintro e w7 ⟨rfl, hw7⟩
      have B7 := B6.trans (hw7.mono y6)
      go_wp2_with (fail)
      go_roundw
      case rel => exact ⟨j + 1, by omega, by go_num, B7⟩
      case measure => simp [intOf]; omega
    · obtain rfl : j = 7 := by omega
      go_wp2_with (fail)
      refine (works6 _).mono ?_
      rintro e w4 ⟨rfl, hw4⟩
      go_wp2_with (fail)
      go_ret
      exact ⟨rfl, hb.trans (hw4.mono yb)⟩

namespace crcGoods
open Go.ChangeShapes Go.WideShapes Go.ChangeAt Go.RowKit
open Go.ChangeMaps (open_string shut_string)
theorem own : ownKnob Try.prog.godebug = none := by kernel_rfl
theorem laidOut : laidOutB Try.prog = true := by kernel_rfl

set_option maxRecDepth 100000 in
theorem lifted (os : Os) (started : os.Started) (H : Type) (enc : TypeId × Value → H) :
    ReturnsInHanded {} Try.checked os 4 .any (Rows.crcGoodsSpec.pre6 enc Try.prog Try.f4 Rows.crcGoodsRow.domain false) (Rows.crcGoodsSpec.post enc Try.prog Try.f4 false true false false) := by
  refine returnsInHanded_of_change (C := Try.checked) own started (by kernel_rfl) Try.func4
    (ChangeSpec.witness6 (enc := enc) (C := Try.checked) false ⟨#[], #[.string ByteArray.empty, .int .u16 0, .int .u32 0], []⟩ 8 (by kernel_rfl) (by kernel_rfl) (by kernel_rfl) (by kernel_rfl)) ?_
  intro W base args ds gs before hval0 hW hcnd _
  have hval : ∀ (j : Nat) t v, Try.f4.params[j]? = some t → args[j]? = some v → Value.okWide Try.prog W .any base t v := hval0
  have hW' := hW
  obtain ⟨p, q, hA0, hV, rfl, hfz, hnd⟩ := hW
  have hA : DataW.TrodAll enc Try.prog W 0 (fun _ => true) true Try.f4.params.toList args.toList ds p := hA0
  rw [Try.params4] at hA hval
  obtain ⟨v0, vs0, d0, ds0, p0, q0, hargs, rfl, rfl, h0, r0⟩ := trodAll_cons hA
  obtain ⟨v1, vs1, d1, ds1, p1, q1, rfl, rfl, rfl, h1, r1⟩ := trodAll_cons r0
  obtain ⟨v2, vs2, d2, ds2, p2, q2, rfl, rfl, rfl, h2, r2⟩ := trodAll_cons r1
  obtain ⟨rfl, rfl, rfl⟩ := trodAll_nil r2
  obtain rfl : args = #[v0, v1, v2] := by cases args; simp_all
  obtain ⟨rfl, rfl⟩ := trodVars_none hV
  have k0 := h0
  have lt0 : ∀ x ∈ p0, x.block < W.heap.size := by obtain ⟨m, hm⟩ := k0; exact DataW.trod_lt m _ _ _ hm
  have k1 := h1
  have lt1 : ∀ x ∈ p1, x.block < W.heap.size := by obtain ⟨m, hm⟩ := k1; exact DataW.trod_lt m _ _ _ hm
  have k2 := h2
  have lt2 : ∀ x ∈ p2, x.block < W.heap.size := by obtain ⟨m, hm⟩ := k2; exact DataW.trod_lt m _ _ _ hm
  obtain ⟨a0, rfl, rfl, rfl, w0⟩ := open_string Try.underlying9 (hval 0 9 v0 rfl rfl) h0
  obtain ⟨a1, rfl, rfl, rfl, w1⟩ := open_int Try.underlying29 (hval 1 29 v1 rfl rfl) h1
  obtain ⟨a2, rfl, rfl, rfl, w2⟩ := open_int Try.underlying22 (hval 2 22 v2 rfl rfl) h2
  clear hA0 hval0
  refine (crcGoods_walk a0 a1 a2 w0 w1 w2 W).mono fun e W' ⟨he, bel⟩ => ?_
  subst he
  exact ⟨_, rfl, _, _, _, [], _, [], hW', trodAll_mk1 (shut_bool Try.underlying4 _), (trodAll_cons_mk (Below.trod laidOut (by kernel_rfl) (of_decide_eq_true (by kernel_rfl)) k0 bel lt0) (trodAll_cons_mk (Below.trod laidOut (by kernel_rfl) (of_decide_eq_true (by kernel_rfl)) k1 bel lt1) (trodAll_cons_mk (Below.trod laidOut (by kernel_rfl) (of_decide_eq_true (by kernel_rfl)) k2 bel lt2) trodAll_mk0))), rfl, bel.frame _, fun h => by cases h⟩

theorem over : Rows.crcGoodsRow.holds Try.pinned (OpenSpec.ofChange Rows.crcGoodsSpec) :=
  OpenClaim.holds_of_wide 4 Try.f4 rfl rfl rfl rfl rfl rfl rfl ⟨rfl, rfl, rfl, rfl, rfl⟩ rfl rfl rfl rfl rfl (by kernel_rfl) Try.func4 (by kernel_rfl)
    (of_decide_eq_true (by kernel_rfl)) (by unfold Func.isWrapper; first | (rw [if_pos (by decide +kernel)]; kernel_rfl) | (rw [if_neg (by decide +kernel)]; exact ⟨rfl, rfl⟩))
    (fun os started H enc _ => lifted os started H enc)

theorem proved : Rows.CrcGoodsSaid := over
#print axioms proved
end crcGoods
end Go.Proofs.Ytaeanmojajmcfaa
