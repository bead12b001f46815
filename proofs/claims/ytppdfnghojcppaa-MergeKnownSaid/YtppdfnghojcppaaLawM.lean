/-
  MergeKnown holds: the examples, the limits, invalid pieces and states, and the order of errors. It has no arguments and no condition.
-/
import Derived.Test.YtppdfnghojcppaaMergeT
namespace Go.Proofs.Ytppdfnghojcppaa
open Go.RowKit Go.Sort
set_option linter.unusedVariables false

theorem S_rep (b : UInt8) (n : Nat) : (S (List.replicate n b)).size = n := by rw [S_size, List.length_replicate]
theorem whole_seal {s : ByteArray} (h : 60 ≤ s.size ∧ s.size ≤ 1518) : whole (sealB 0 s) = true := by
  unfold whole
  rw [Bool.and_eq_true, lng_iff, sealB_size]
  exact ⟨by omega, goodB_sealB _ _⟩
theorem not_whole {s : ByteArray} (h : ¬ (64 ≤ s.size ∧ s.size ≤ 1522)) : whole s = false := by
  unfold whole
  rw [lng_off (by omega), Bool.false_and]
set_option maxHeartbeats 1000000 in
theorem known_any (w : World) : Calls Try.prog 8 #[] w fun e w' => e = .returned (.bool true) ∧ Below w.heap.size w w' := by
  have hc := chap_size
  have hcw := chap_whole
  obtain ⟨b0, b1⟩ := early_bad
  have h64 : (chap.extract 0 64).size = 64 := by rw [ByteArray.size_extract, hc]; rfl
  have h63 : (chap.extract 0 63).size = 63 := by rw [ByteArray.size_extract, hc]; rfl
  have h59 : (chap.extract 0 59).size = 59 := by rw [ByteArray.size_extract, hc]; rfl
  have CH : Gives 26 #[] (.string chap) := fun W => chapter_any W
  generalize chap = c at *
  generalize hd64 : c.extract 0 64 = d64 at *
  generalize hd63 : c.extract 0 63 = d63 at *
  generalize hd59 : c.extract 0 59 = d59 at *
  have hx23 := S_rep 120 1523
  have hx19 := S_rep 120 1519
  have hx18 := S_rep 120 1518
  have hz18 := S_rep 122 1518
  have hz19 := S_rep 122 1519
  have hq60 := S_rep 113 60
  have rx23 := repeat_one 120 1523 (by decide)
  have rx19 := repeat_one 120 1519 (by decide)
  have rx18 := repeat_one 120 1518 (by decide)
  have rz18 := repeat_one 122 1518 (by decide)
  have rz19 := repeat_one 122 1519 (by decide)
  have rq60 := repeat_one 113 60 (by decide)
  generalize S (List.replicate 1523 120) = x23 at *
  generalize S (List.replicate 1519 120) = x19 at *
  generalize S (List.replicate 1518 120) = x18 at *
  generalize S (List.replicate 1518 122) = z18 at *
  generalize S (List.replicate 1519 122) = z19 at *
  generalize S (List.replicate 60 113) = q60 at *
  have SL : Gives 28 #[.string z18] (.string (sealB 0 z18)) := fun W => Seal_any z18 (by omega) W
  have SQ : Gives 28 #[.string q60] (.string (sealB 0 q60)) := fun W => Seal_any q60 (by omega) W
  have SD : Gives 28 #[.string d59] (.string (sealB 0 d59)) := fun W => Seal_any d59 (by omega) W
  have SZ : Gives 28 #[.string z19] (.string (sealB 0 z19)) := fun W => Seal_any z19 (by omega) W
  have wl := whole_seal (s := z18) (by omega)
  have wq := whole_seal (s := q60) (by omega)
  have wd : whole (sealB 0 d59) = false := not_whole (by rw [sealB_size]; omega)
  have wz : whole (sealB 0 z19) = false := not_whole (by rw [sealB_size]; omega)
  have gq : goodB 0 (sealB 0 q60) = true := goodB_sealB _ _
  have sl : (sealB 0 z18).size = 1522 := by rw [sealB_size]; omega
  have sq : (sealB 0 q60).size = 64 := by rw [sealB_size]; omega
  have sd : (sealB 0 d59).size = 63 := by rw [sealB_size]; omega
  have sz : (sealB 0 z19).size = 1523 := by rw [sealB_size]; omega
  generalize sealB 0 z18 = long at *
  generalize sealB 0 q60 = small at *
  generalize sealB 0 d59 = s59 at *
  generalize sealB 0 z19 = sz19 at *
  have HC : Cutting long 3 (cuts24 24) := ⟨wl, by decide, by rw [sl]; exact cuts24_ok⟩
  have hps : (pieceAt long 3 (cuts24 24) 24).data.size = 82 := by
    rw [HC.piece_size (i := 24) (by rw [cuts24_length]; exact Nat.le_refl _), sl, if_neg (by rw [cuts24_length]; omega)]
    rfl
  have fo : (⟨true, 0, 2, x18⟩ : Mg).ok = true := Mg.mk_ok (by decide) (by decide) (by omega)
  have pk : (⟨false, 0, 2, d64⟩ : Pc).ok = true := (Pc.ok_iff _).2 ⟨(by decide : (0 : Int) ≤ 0 ∧ (0 : Int) ≤ 3), (by decide : (0 : Int) ≤ 2 ∧ (2 : Int) ≤ 3), by show 64 ≤ d64.size ∧ d64.size ≤ 1522; omega, fun h => by cases h⟩
  have pq : (⟨true, 1, 0, small⟩ : Pc).ok = true := (Pc.ok_iff _).2 ⟨(by decide : (0 : Int) ≤ 1 ∧ (1 : Int) ≤ 3), (by decide : (0 : Int) ≤ 0 ∧ (0 : Int) ≤ 3), by show 64 ≤ small.size ∧ small.size ≤ 1522; omega, fun _ => rfl⟩
  have pp : (⟨true, 0, 0, d64⟩ : Pc).ok = true := (Pc.ok_iff _).2 ⟨(by decide : (0 : Int) ≤ 0 ∧ (0 : Int) ≤ 3), (by decide : (0 : Int) ≤ 0 ∧ (0 : Int) ≤ 3), by show 64 ≤ d64.size ∧ d64.size ≤ 1522; omega, fun _ => rfl⟩
  have jA : join ⟨true, 0, 2, x18⟩ ⟨false, 0, 2, d64⟩ = (Mg.zero, ⟨#[]⟩, 0) := join_long fo pk rfl (by show 1522 < (x18 ++ d64).size; rw [ByteArray.size_append]; omega)
  have jB : join Mg.zero ⟨true, 1, 0, small⟩ = (Mg.zero, small, 0) := join_good zero_ok pq rfl (by show small.size ≤ 1522; omega) gq
  have jC : join ⟨true, 0, 2, x18⟩ ⟨true, 0, 0, d64⟩ = (Mg.zero, ⟨#[]⟩, 0) := join_none fo pp rfl (by show d64.size ≤ 1522; omega) b0 b1
  have J1 := joins_ok jA (by show x18.size ≤ _; omega) (by show d64.size ≤ _; omega)
  unfold Mg.zero at J1
  dsimp only at J1
  have J2 := joins_ok jB (by decide) (by show small.size ≤ _; omega)
  unfold Mg.zero at J2
  dsimp only at J2
  have J3 := joins_ok jC (by show x18.size ≤ _; omega) (by show d64.size ≤ _; omega)
  unfold Mg.zero at J3
  dsimp only at J3
  have K1 : Gives 22 #[.agg #[.bool true, .int .i64 0, .int .i64 2, .string x18]] (.int .i64 0) := by
    have := Check_ok fo
    dsimp only at this
    exact this
  have K2 : Gives 24 #[.agg #[.bool true, .int .i64 0, .int .i64 0, .string d64]] (.int .i64 0) := fun W => by
    have := CheckPiece_any ⟨true, 0, 0, d64⟩ (by show d64.size ≤ _; omega) W
    have hcd : (⟨true, 0, 0, d64⟩ : Pc).code = 0 := by unfold Pc.code; rw [if_pos pp]
    rw [hcd] at this
    exact this
  have cs : c.size ≤ 9000000000000000000 := by omega
  have ss : small.size ≤ 9000000000000000000 := by omega
  refine known_core c d64 d63 d59 x23 x19 z18 long (pieceAt long 3 (cuts24 24) 24).data x18 q60 small s59 z19 sz19 hc h64 h63 h59 hx23 hx19 hd64 hd63 hd59 CH sl hps ?_ rx18 rq60 SQ SD rz19 SZ ?_ ?_ ?_ ?_ ?_ ?_ ?_ J1 J2 J3 K1 K2 rz18 SL rx23 rx19 w
  · intro W p cap hp
    have hm := MCut_any long (by omega) 3 p cap (cuts24 24) W (by rw [cuts24_length]; decide) hp
    rw [cuts24_length] at hm
    refine hm.mono ?_
    rintro e w' ⟨v, rfl, hrow, hb⟩
    rw [HC.cutL] at hrow
    rw [HC.cutE]
    have hl : (pieces long 3 (cuts24 24)).length = 25 := by rw [pieces_length, cuts24_length]
    obtain ⟨g, cap', rfl, _, _, _⟩ := hrow.at (j := 0) (by rw [hl]; decide)
    have at4 := fun (j : Nat) (hj : j < 25) => hrow.at4 (j := j) (by rw [hl]; exact hj)
    have gd : ∀ j, j < 25 → (pieces long 3 (cuts24 24)).getD j Pc.zero = pieceAt long 3 (cuts24 24) j := fun j hj => by
      rw [List.getD_eq_getElem?_getD, pieces_at _ _ _ _ (by rw [cuts24_length]; omega)]; rfl
    have q24 := at4 24 (by decide)
    have q5 := at4 5 (by decide)
    have q1 := at4 1 (by decide)
    have q4 := at4 4 (by decide)
    rw [gd _ (by decide)] at q24 q5 q1 q4
    rw [hl]
    exact ⟨g, cap', rfl, ⟨q24.c3, q5.c2, q24.c2, q1.c2, q4.c2⟩, hb⟩
  · exact fun W => refused_ok (by omega) (cutE_form (n := 0) (cuts := []) wd) (by decide) (by decide) none 0 W (.inl rfl)
  · exact fun W => refused_ok (by omega) (cutE_form (n := 9) (cuts := []) wz) (by decide) (by decide) none 0 W (.inl rfl)
  · exact fun W p hp => refused_ok ss (cutE_cuts (n := 0) (cuts := [60]) wq (by decide) (by rw [sq]; decide)) (by decide) (by decide) p 1 W hp
  · exact fun W p hp => refused_ok ss (cutE_arg (n := -1) (cuts := [-1]) wq (by decide)) (by decide) (by decide) p 1 W hp
  · exact fun W p hp => refused_ok cs (cutE_cuts (n := 0) (cuts := [-60]) hcw (by decide) (by rw [hc]; decide)) (by decide) (by decide) p 1 W hp
  · exact fun W p hp => refused_ok cs (cutE_cuts (n := 0) (cuts := [60, 60]) hcw (by decide) (by rw [hc]; decide)) (by decide) (by decide) p 2 W hp
  · exact fun W p hp => refused_ok cs (cutE_cuts (n := 0) (cuts := [4611686018427387904]) hcw (by decide) (by rw [hc]; decide)) (by decide) (by decide) p 1 W hp
namespace mergeKnown
open Go.ChangeShapes Go.WideShapes Go.ChangeAt Go.RowKit
open Go.ChangeMaps (open_string shut_string)
theorem own : ownKnob Try.prog.godebug = none := by kernel_rfl
theorem laidOut : laidOutB Try.prog = true := by kernel_rfl

set_option maxRecDepth 100000 in
theorem lifted (os : Os) (started : os.Started) (H : Type) (enc : TypeId × Value → H) :
    ReturnsInHanded {} Try.checked os 8 .any (Rows.mergeKnownSpec.pre6 enc Try.prog Try.f8 Rows.mergeKnownRow.domain false) (Rows.mergeKnownSpec.post enc Try.prog Try.f8 false true false false) := by
  refine returnsInHanded_of_change (C := Try.checked) own started (by kernel_rfl) Try.func8
    (ChangeSpec.witness6 (enc := enc) (C := Try.checked) false ⟨#[], #[], []⟩ 8 (by kernel_rfl) (by kernel_rfl) (by kernel_rfl) (by kernel_rfl)) ?_
  intro W base args ds gs before hval0 hW hcnd _
  have hval : ∀ (j : Nat) t v, Try.f8.params[j]? = some t → args[j]? = some v → Value.okWide Try.prog W .any base t v := hval0
  have hW' := hW
  obtain ⟨p, q, hA0, hV, rfl, hfz, hnd⟩ := hW
  have hA : DataW.TrodAll enc Try.prog W 0 (fun _ => true) true Try.f8.params.toList args.toList ds p := hA0
  rw [Try.params8] at hA hval
  obtain ⟨rfl, rfl, rfl⟩ := trodAll_none hA
  obtain ⟨rfl, rfl⟩ := trodVars_none hV
  clear hA0 hval0
  refine (known_any  W ).mono fun e W' ⟨he, bel⟩ => ?_
  subst he
  exact ⟨_, rfl, _, _, _, [], [], [], hW', trodAll_mk1 (shut_bool Try.underlying4 _), trodAll_mk0, rfl, bel.frame _, fun h => by cases h⟩

theorem over : Rows.mergeKnownRow.holds Try.pinned (OpenSpec.ofChange Rows.mergeKnownSpec) :=
  OpenClaim.holds_of_wide 8 Try.f8 rfl rfl rfl rfl rfl rfl rfl ⟨rfl, rfl, rfl, rfl, rfl⟩ rfl rfl rfl rfl rfl (by kernel_rfl) Try.func8 (by kernel_rfl)
    (of_decide_eq_true (by kernel_rfl)) (by unfold Func.isWrapper; first | (rw [if_pos (by decide +kernel)]; kernel_rfl) | (rw [if_neg (by decide +kernel)]; exact ⟨rfl, rfl⟩))
    (fun os started H enc _ => lifted os started H enc)

theorem proved : Rows.MergeKnownSaid := over
#print axioms proved
end mergeKnown
end Go.Proofs.Ytppdfnghojcppaa
