/-
  The statement WireOrder holds: encodings of the same length compare as strings like their integers, and a number has one encoding. No condition.
-/
import Derived.Test.YtbcobkeliopdfaaOpen
import Derived.Test.YtbcobkeliopdfaaWireB
namespace Go.Proofs.Ytbcobkeliopdfaa
open Go.RowKit
set_option linter.unusedVariables false

theorem less_iff (l m : List UInt8) : Op.bytesLess l m = decide (l < m) := by
  induction l generalizing m with
  | nil => cases m with
    | nil => rfl
    | cons y m => simp [Op.bytesLess]
  | cons x l ih => cases m with
    | nil => simp [Op.bytesLess]
    | cons y m =>
      rw [Op.bytesLess, ih]
      rw [Bool.eq_iff_iff]
      simp [List.cons_lt_cons_iff]
theorem order_less (j : Nat) (a b : Int) (ha0 : 0 ≤ a) (ha1 : a ≤ lim j) (hb0 : 0 ≤ b) (hb1 : b ≤ lim j) : Op.bytesLess (S (Wirem.be j a)).toList (S (Wirem.be j b)).toList = decide (a < b) := by
  rw [less_iff, S_toList, S_toList, Bool.eq_iff_iff, decide_eq_true_eq, decide_eq_true_eq, Wirem.val_lex _ _ (by rw [Wirem.be_length, Wirem.be_length])]
  have h1 := Wirem.be_val j a
  have h2 := Wirem.be_val j b
  rw [Int.emod_eq_of_lt ha0 (by unfold lim at ha1; omega)] at h1
  rw [Int.emod_eq_of_lt hb0 (by unfold lim at hb1; omega)] at h2
  omega
theorem order_eq (j : Nat) (a b : Int) (ha0 : 0 ≤ a) (ha1 : a ≤ lim j) (hb0 : 0 ≤ b) (hb1 : b ≤ lim j) : ((S (Wirem.be j a)).toList == (S (Wirem.be j b)).toList) = (a == b) := by
  rw [S_toList, S_toList, Bool.eq_iff_iff, beq_iff_eq, beq_iff_eq]
  constructor
  · intro h
    have h1 := Wirem.be_val j a
    have h2 := Wirem.be_val j b
    rw [Int.emod_eq_of_lt ha0 (by unfold lim at ha1; omega)] at h1
    rw [Int.emod_eq_of_lt hb0 (by unfold lim at hb1; omega)] at h2
    rw [h] at h1
    omega
  · intro h; rw [h]
set_option maxRecDepth 100000 in
set_option maxHeartbeats 1000000 in
theorem wireOrder_walk (n1 n2 o : Int) (hn : (Lit.int .i64 n1).wf = true) (hm : (Lit.int .i64 n2).wf = true) (ho : (Lit.int .u8 o).wf = true) (w : World) :
   Calls Try.prog 6 #[.agg #[.int .i64 n1, .int .i64 n2], .int .u8 o] w fun e w' => e = .returned (.bool true) ∧ Below w.heap.size w w' := by
  have ho1 : 0 ≤ o ∧ o ≤ 255 := bounds_u8 ho
  obtain ⟨j, hj⟩ : ∃ j : Nat, 1 + o % 7 = (j : Int) := ⟨(1 + o % 7).toNat, by omega⟩
  have hj1 : 1 ≤ j := by omega
  have hj7 : j ≤ 7 := by omega
  have hp := wb_pow j hj1 hj7
  have hl := lim_le j hj1 hj7
  obtain ⟨N1, hN1, hN12, _⟩ := u64_wrap n1 0 (by omega)
  obtain ⟨N2, hN2, hN22, _⟩ := u64_wrap n2 0 (by omega)
  obtain ⟨a, ha, ha0, ha1⟩ : ∃ m : Int, (N1 : Int) % (lim j + 1) = m ∧ 0 ≤ m ∧ m ≤ lim j := ⟨_, rfl, Int.emod_nonneg _ (by omega), by have := Int.emod_lt_of_pos (N1 : Int) (show 0 < lim j + 1 by omega); omega⟩
  obtain ⟨b, hb, hb0, hb1⟩ : ∃ m : Int, (N2 : Int) % (lim j + 1) = m ∧ 0 ≤ m ∧ m ≤ lim j := ⟨_, rfl, Int.emod_nonneg _ (by omega), by have := Int.emod_lt_of_pos (N2 : Int) (show 0 < lim j + 1 by omega); omega⟩
  go_enter Try.func6, Try.ntmps6
  go_wp2_with (fail)
  refine (works5 _).mono ?_
  rintro e w1 ⟨rfl, hbw⟩
  have k0 : w1.cell? ⟨w.heap.size, 0, none⟩ = some (.int .i64 n1) := (hbw.cell (p := ⟨w.heap.size, 0, none⟩) (by simp)).trans (by simp)
  have k1 : w1.cell? ⟨w.heap.size, 1, none⟩ = some (.int .i64 n2) := (hbw.cell (p := ⟨w.heap.size, 1, none⟩) (by simp)).trans (by simp)
  have y0 := hbw.size
  simp only [World.size_alloc] at y0
  go_wp2_with (fail)
  go_quiet (fail)
  go_wp2_with (fail)
  have r1 := order_less j a b ha0 ha1 hb0 hb1
  have r2 := order_eq j a b ha0 ha1 hb0 hb1
  have e0 : ∀ l, S [] ++ S l = S l := fun l => by rw [S_append, List.nil_append]
  have c1 := fun W => Calls.ret2 (Put_any (S []) a j (by decide) W) (by rw [putS_ok _ _ _ hj1 hj7 ha0 ha1, e0]) (by rw [putE_ok _ _ hj1 hj7 ha0 ha1])
  have c2 := fun W => Calls.ret2 (Put_any (S []) b j (by decide) W) (by rw [putS_ok _ _ _ hj1 hj7 hb0 hb1, e0]) (by rw [putE_ok _ _ hj1 hj7 hb0 hb1])
  clear e0
  generalize S (Wirem.be j a) = A at *
  generalize S (Wirem.be j b) = B at *
  have C1 := Lib.hid c1; clear c1
  have C2 := Lib.hid c2; clear c2
  refine (C1.out _).mono ?_
  rintro e w2 ⟨rfl, hb2⟩
  have y2 := hb2.size
  have k2 : w2.cell? ⟨w.heap.size, 1, none⟩ = some (.int .i64 n2) := (hb2.cell (p := ⟨w.heap.size, 1, none⟩) (by simp; omega)).trans k1
  go_wp2_with (fail)
  refine (C2.out _).mono ?_
  rintro e w3 ⟨rfl, hb3⟩
  go_wp2_with (fail)
  go_ret
  exact ⟨rfl, (below_drewN ((((Below.refl _ w).alloc (Nat.le_refl _) _)).trans (hbw.mono (by simp))) nq).trans ((hb2.mono (by simp; omega)).trans (hb3.mono (by simp at y2; omega)))⟩

namespace wireOrder
open Go.ChangeShapes Go.WideShapes Go.ChangeAt Go.RowKit
open Go.ChangeMaps (open_string shut_string)
theorem own : ownKnob Try.prog.godebug = none := by kernel_rfl
theorem laidOut : laidOutB Try.prog = true := by kernel_rfl

set_option maxRecDepth 100000 in
theorem lifted (os : Os) (started : os.Started) (H : Type) (enc : TypeId × Value → H) :
    ReturnsInHanded {} Try.checked os 6 .any (Rows.wireOrderSpec.pre6 enc Try.prog Try.f6 Rows.wireOrderRow.domain false) (Rows.wireOrderSpec.post enc Try.prog Try.f6 false true false false) := by
  refine returnsInHanded_of_change (C := Try.checked) own started (by kernel_rfl) Try.func6
    (ChangeSpec.witness6 (enc := enc) (C := Try.checked) false ⟨#[], #[.agg #[.int .i64 0, .int .i64 0], .int .u8 0], []⟩ 8 (by kernel_rfl) (by kernel_rfl) (by kernel_rfl) (by kernel_rfl)) ?_
  intro W base args ds gs before hval0 hW hcnd _
  have hval : ∀ (j : Nat) t v, Try.f6.params[j]? = some t → args[j]? = some v → Value.okWide Try.prog W .any base t v := hval0
  have hW' := hW
  obtain ⟨p, q, hA0, hV, rfl, hfz, hnd⟩ := hW
  have hA : DataW.TrodAll enc Try.prog W 0 (fun _ => true) true Try.f6.params.toList args.toList ds p := hA0
  rw [Try.params6] at hA hval
  obtain ⟨v0, vs0, d0, ds0, p0, q0, hargs, rfl, rfl, h0, r0⟩ := trodAll_cons hA
  obtain ⟨v1, vs1, d1, ds1, p1, q1, rfl, rfl, rfl, h1, r1⟩ := trodAll_cons r0
  obtain ⟨rfl, rfl, rfl⟩ := trodAll_nil r1
  obtain rfl : args = #[v0, v1] := by cases args; simp_all
  obtain ⟨rfl, rfl⟩ := trodVars_none hV
  have k0 := h0
  have lt0 : ∀ x ∈ p0, x.block < W.heap.size := by obtain ⟨m, hm⟩ := k0; exact DataW.trod_lt m _ _ _ hm
  have k1 := h1
  have lt1 : ∀ x ∈ p1, x.block < W.heap.size := by obtain ⟨m, hm⟩ := k1; exact DataW.trod_lt m _ _ _ hm
  obtain ⟨a0, b0, rfl, w0, u0⟩ := open_two Try.underlying30 Try.underlying3 (by kernel_rfl) (by kernel_rfl) (hval 0 30 v0 rfl rfl) h0
  obtain ⟨a1, rfl, rfl, rfl, w1⟩ := open_int Try.underlying5 (hval 1 5 v1 rfl rfl) h1
  clear hA0 hval0
  refine (wireOrder_walk a0 b0 a1 w0 u0 w1 W).mono fun e W' ⟨he, bel⟩ => ?_
  subst he
  exact ⟨_, rfl, _, _, _, [], _, [], hW', trodAll_mk1 (shut_bool Try.underlying4 _), (trodAll_cons_mk (Below.trod laidOut (by kernel_rfl) (of_decide_eq_true (by kernel_rfl)) k0 bel lt0) (trodAll_cons_mk (Below.trod laidOut (by kernel_rfl) (of_decide_eq_true (by kernel_rfl)) k1 bel lt1) trodAll_mk0)), rfl, bel.frame _, fun h => by cases h⟩

theorem over : Rows.wireOrderRow.holds Try.pinned (OpenSpec.ofChange Rows.wireOrderSpec) :=
  OpenClaim.holds_of_wide 6 Try.f6 rfl rfl rfl rfl rfl rfl rfl ⟨rfl, rfl, rfl, rfl, rfl⟩ rfl rfl rfl rfl rfl (by kernel_rfl) Try.func6 (by kernel_rfl)
    (of_decide_eq_true (by kernel_rfl)) (by unfold Func.isWrapper; first | (rw [if_pos (by decide +kernel)]; kernel_rfl) | (rw [if_neg (by decide +kernel)]; exact ⟨rfl, rfl⟩))
    (fun os started H enc _ => lifted os started H enc)

theorem proved : Rows.WireOrderSaid := over
#print axioms proved
end wireOrder
end Go.Proofs.Ytbcobkeliopdfaa
