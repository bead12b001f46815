/-
  Contract of merge.Join.
-/
import Derived.Test.YtppdfnghojcppaaMerge4
import Derived.StillTailTactics
namespace Go.Proofs.Ytppdfnghojcppaa
open Go.RowKit Go.Sort
set_option linter.unusedVariables false

theorem takes_any (m : Mg) (p : Pc) (w : World) : Calls Try.prog 43 #[.agg #[.bool m.on, .int .i64 m.number, .int .i64 m.next, .string m.data], .agg #[.bool p.start, .int .i64 p.number, .int .i64 p.count, .string p.data]] w fun e w' => e = .returned (.bool (takes m p)) ∧ Below w.heap.size w w' := by
  obtain ⟨mo, mn, mx, md⟩ := m
  obtain ⟨ps, pn, pc, pd⟩ := p
  rcases ps with _ | _
  case true =>
    go_enter Try.func43, Try.ntmps43
    go_wp2_with (fail)
    go_ret
    exact ⟨rfl, (by repeat' (first | exact Below.refl _ _ | assumption | refine below_drewN ?_ _ | refine Below.drew ?_ | refine Below.alloc ?_ (by (first | exact Nat.le_refl _ | assumption | (simp; done) | omega | (simp; omega))) _ | refine Below.setCell ?_ (by (first | exact Nat.le_refl _ | assumption | (simp; done) | omega | (simp; omega))) _ | refine Below.trans ?_ (Below.mono (by assumption) (by (first | exact Nat.le_refl _ | assumption | (simp; done) | omega | (simp; omega))))))⟩
  rcases mo with _ | _
  case false =>
    go_enter Try.func43, Try.ntmps43
    go_wp2_with (fail)
    go_ret
    exact ⟨rfl, (by repeat' (first | exact Below.refl _ _ | assumption | refine below_drewN ?_ _ | refine Below.drew ?_ | refine Below.alloc ?_ (by (first | exact Nat.le_refl _ | assumption | (simp; done) | omega | (simp; omega))) _ | refine Below.setCell ?_ (by (first | exact Nat.le_refl _ | assumption | (simp; done) | omega | (simp; omega))) _ | refine Below.trans ?_ (Below.mono (by assumption) (by (first | exact Nat.le_refl _ | assumption | (simp; done) | omega | (simp; omega))))))⟩
  have hT : takes ⟨true, mn, mx, md⟩ ⟨false, pn, pc, pd⟩ = (decide (mn = pn) && decide (mx = pc)) := rfl
  have HT := Lib.hid hT; clear hT
  by_cases e1 : mn = pn
  case neg =>
    have hb : (mn == pn) = false := by simp [e1]
    go_enter Try.func43, Try.ntmps43
    go_wp2_with (fail)
    go_ret
    exact ⟨ret_b (by rw [HT.out, decide_eq_false e1]; rfl), (by repeat' (first | exact Below.refl _ _ | assumption | refine below_drewN ?_ _ | refine Below.drew ?_ | refine Below.alloc ?_ (by (first | exact Nat.le_refl _ | assumption | (simp; done) | omega | (simp; omega))) _ | refine Below.setCell ?_ (by (first | exact Nat.le_refl _ | assumption | (simp; done) | omega | (simp; omega))) _ | refine Below.trans ?_ (Below.mono (by assumption) (by (first | exact Nat.le_refl _ | assumption | (simp; done) | omega | (simp; omega))))))⟩
  subst e1
  go_enter Try.func43, Try.ntmps43
  go_wp2_with (fail)
  go_ret
  exact ⟨ret_b (by rw [HT.out]; simp only [decide_true, Bool.true_and]; rfl), (by repeat' (first | exact Below.refl _ _ | assumption | refine below_drewN ?_ _ | refine Below.drew ?_ | refine Below.alloc ?_ (by (first | exact Nat.le_refl _ | assumption | (simp; done) | omega | (simp; omega))) _ | refine Below.setCell ?_ (by (first | exact Nat.le_refl _ | assumption | (simp; done) | omega | (simp; omega))) _ | refine Below.trans ?_ (Below.mono (by assumption) (by (first | exact Nat.le_refl _ | assumption | (simp; done) | omega | (simp; omega))))))⟩

theorem with_any (m : Mg) (p : Pc) (h1 : m.data.size ≤ 4000) (h2 : p.data.size ≤ 4000) (w : World) : Calls Try.prog 44 #[.agg #[.bool m.on, .int .i64 m.number, .int .i64 m.next, .string m.data], .agg #[.bool p.start, .int .i64 p.number, .int .i64 p.count, .string p.data]] w fun e w' => e = .returned (.string (withD m p)) ∧ Below w.heap.size w w' := by
  obtain ⟨mo, mn, mx, md⟩ := m
  obtain ⟨ps, pn, pc, pd⟩ := p
  have h1' : md.size ≤ 4000 := h1
  have h2' : pd.size ≤ 4000 := h2
  rcases ps with _ | _
  · have hW : withD ⟨mo, mn, mx, md⟩ ⟨false, pn, pc, pd⟩ = md ++ pd := rfl
    rw [hW]
    clear hW h1 h2
    have n1 : ¬ 9223372036854775807 < md.size + pd.size := by omega
    go_enter Try.func44, Try.ntmps44
    go_wp2_with (fail)
    go_ret
    exact ⟨rfl, (by repeat' (first | exact Below.refl _ _ | assumption | refine below_drewN ?_ _ | refine Below.drew ?_ | refine Below.alloc ?_ (by (first | exact Nat.le_refl _ | assumption | (simp; done) | omega | (simp; omega))) _ | refine Below.setCell ?_ (by (first | exact Nat.le_refl _ | assumption | (simp; done) | omega | (simp; omega))) _ | refine Below.trans ?_ (Below.mono (by assumption) (by (first | exact Nat.le_refl _ | assumption | (simp; done) | omega | (simp; omega))))))⟩
  · have hW : withD ⟨mo, mn, mx, md⟩ ⟨true, pn, pc, pd⟩ = pd := rfl
    rw [hW]
    clear hW h1 h2
    go_enter Try.func44, Try.ntmps44
    go_wp2_with (fail)
    go_ret
    exact ⟨rfl, (by repeat' (first | exact Below.refl _ _ | assumption | refine below_drewN ?_ _ | refine Below.drew ?_ | refine Below.alloc ?_ (by (first | exact Nat.le_refl _ | assumption | (simp; done) | omega | (simp; omega))) _ | refine Below.setCell ?_ (by (first | exact Nat.le_refl _ | assumption | (simp; done) | omega | (simp; omega))) _ | refine Below.trans ?_ (Below.mono (by assumption) (by (first | exact Nat.le_refl _ | assumption | (simp; done) | omega | (simp; omega))))))⟩

theorem after_any (m : Mg) (p : Pc) (d : ByteArray) (h1 : 0 ≤ m.next ∧ m.next ≤ 3) (w : World) : Calls Try.prog 45 #[.agg #[.bool m.on, .int .i64 m.number, .int .i64 m.next, .string m.data], .agg #[.bool p.start, .int .i64 p.number, .int .i64 p.count, .string p.data], .string d] w fun e w' => e = .returned (.agg #[.bool true, .int .i64 p.number, .int .i64 (nextD m p), .string d]) ∧ Below w.heap.size w w' := by
  obtain ⟨mo, mn, mx, md⟩ := m
  obtain ⟨ps, pn, pc, pd⟩ := p
  have h1' : 0 ≤ mx ∧ mx ≤ 3 := h1
  have ht : (mx + 1).tmod 4 = (mx + 1) % 4 := Int.tmod_eq_emod_of_nonneg (by omega)
  have HT := Lib.hid ht; clear ht
  clear h1
  rcases ps with _ | _
  · have hW : nextD ⟨mo, mn, mx, md⟩ ⟨false, pn, pc, pd⟩ = (mx + 1) % 4 := rfl
    rw [hW]
    clear hW
    go_enter Try.func45, Try.ntmps45
    go_wp2_with (fail)
    have tc := fun i => (three_cells w #[.bool mo, .int .i64 mn, .int .i64 mx, .string md] #[.bool false, .int .i64 pn, .int .i64 pc, .string pd] #[.bool true, .int .i64 pn, .int .i64 ((mx + 1) % 4), .string d] 80 45 43 i).2.2.1
    refine bodyPost_ret (v := .agg #[.bool true, .int .i64 pn, .int .i64 ((mx + 1) % 4), .string d]) (by simp [results, Try.results45, go_sem, tc 0, tc 1, tc 2, tc 3]) rfl ⟨rfl, (by repeat' (first | exact Below.refl _ _ | assumption | refine below_drewN ?_ _ | refine Below.drew ?_ | refine Below.alloc ?_ (by (first | exact Nat.le_refl _ | assumption | (simp; done) | omega | (simp; omega))) _ | refine Below.setCell ?_ (by (first | exact Nat.le_refl _ | assumption | (simp; done) | omega | (simp; omega))) _ | refine Below.trans ?_ (Below.mono (by assumption) (by (first | exact Nat.le_refl _ | assumption | (simp; done) | omega | (simp; omega))))))⟩
  · have hW : nextD ⟨mo, mn, mx, md⟩ ⟨true, pn, pc, pd⟩ = 0 := rfl
    rw [hW]
    clear hW
    go_enter Try.func45, Try.ntmps45
    go_wp2_with (fail)
    have tc := fun i => (three_cells w #[.bool mo, .int .i64 mn, .int .i64 mx, .string md] #[.bool true, .int .i64 pn, .int .i64 pc, .string pd] #[.bool true, .int .i64 pn, .int .i64 (0), .string d] 80 45 43 i).2.2.1
    refine bodyPost_ret (v := .agg #[.bool true, .int .i64 pn, .int .i64 (0), .string d]) (by simp [results, Try.results45, go_sem, tc 0, tc 1, tc 2, tc 3]) rfl ⟨rfl, (by repeat' (first | exact Below.refl _ _ | assumption | refine below_drewN ?_ _ | refine Below.drew ?_ | refine Below.alloc ?_ (by (first | exact Nat.le_refl _ | assumption | (simp; done) | omega | (simp; omega))) _ | refine Below.setCell ?_ (by (first | exact Nat.le_refl _ | assumption | (simp; done) | omega | (simp; omega))) _ | refine Below.trans ?_ (Below.mono (by assumption) (by (first | exact Nat.le_refl _ | assumption | (simp; done) | omega | (simp; omega))))))⟩

set_option maxHeartbeats 1000000 in
theorem MJoin_ok (m : Mg) (p : Pc) (w : World) (h : m.ok = true) (h2 : p.ok = true) : Calls Try.prog 20 #[.agg #[.bool m.on, .int .i64 m.number, .int .i64 m.next, .string m.data], .agg #[.bool p.start, .int .i64 p.number, .int .i64 p.count, .string p.data]] w (JRet m p w) := by
  have hm := m.ok_size h
  have hn := m.ok_next h
  have hp := ((Pc.ok_iff p).1 h2).2.2.1
  have C1 := Lib.hid (Check_any m (by omega))
  have C2 := Lib.hid (CheckPiece_any p (by omega))
  have hc1 : m.code = 0 := by unfold Mg.code; rw [if_pos h]
  have hc2 : p.code = 0 := by unfold Pc.code; rw [if_pos h2]
  rw [hc1] at C1
  rw [hc2] at C2
  clear hc1 hc2
  have J0 := Lib.hid (jw_first w m p)
  have HH := Lib.hid h; clear h
  have HH2 := Lib.hid h2; clear h2
  go_enter Try.func20, Try.ntmps20
  go_wp2_with (fail)
  refine (C1.out _).mono ?_
  rintro e w1 ⟨rfl, g1⟩
  have J1 := Lib.hid (J0.out.keep g1)
  have s0 := J1.out.pc.c0
  have s1 := J1.out.pc.c1
  have s2 := J1.out.pc.c2
  have s3 := J1.out.pc.c3
  go_wp2_with (fail)
  refine (C2.out _).mono ?_
  rintro e w2 ⟨rfl, g2⟩
  have J2 := Lib.hid (J1.out.keep g2)
  clear s0 s1 s2 s3 J0 J1 g1 g2 C1 C2
  have m0 := J2.out.mg.c0
  have m1 := J2.out.mg.c1
  have m2 := J2.out.mg.c2
  have m3 := J2.out.mg.c3
  go_upto_region 8 with fail
  go_region
  clear m0 m1 m2 m3
  have J3 := Lib.hid (J2.out.keep (W' := (w2.alloc (.cells #[.bool m.on, .int .i64 m.number, .int .i64 m.next, .string m.data] 80)).drew) (by repeat' (first | exact Below.refl _ _ | assumption | refine below_drewN ?_ _ | refine Below.drew ?_ | refine Below.alloc ?_ (by (first | exact Nat.le_refl _ | assumption | (simp; done) | omega | (simp; omega))) _ | refine Below.setCell ?_ (by (first | exact Nat.le_refl _ | assumption | (simp; done) | omega | (simp; omega))) _ | refine Below.trans ?_ (Below.mono (by assumption) (by (first | exact Nat.le_refl _ | assumption | (simp; done) | omega | (simp; omega)))))))
  clear J2
  generalize (w2.alloc (.cells #[.bool m.on, .int .i64 m.number, .int .i64 m.next, .string m.data] 80)).drew = w3 at *
  have CT := Lib.hid (takes_any m p w3)
  have CW := Lib.hid (with_any m p (by omega) (by omega))
  obtain ⟨q, hq⟩ : ∃ q, takes m p = q := ⟨_, rfl⟩
  rw [hq] at CT
  have HQ := Lib.hid hq; clear hq
  have s0 := J3.out.pc.c0
  have s1 := J3.out.pc.c1
  have s2 := J3.out.pc.c2
  have s3 := J3.out.pc.c3
  go_wp2_with (fail)
  refine CT.out.mono ?_
  rintro e w4 ⟨rfl, g4⟩
  have J4 := Lib.hid (J3.out.keep g4)
  clear s0 s1 s2 s3 J3 g4 CT
  rcases q with _ | _
  case false =>
    have HJ := Lib.hid (join_off HH.out HH2.out HQ.out)
    obtain ⟨o, ho⟩ := J4.out.rs; have r0 := ho.c0; have r1 := ho.c1; have r2 := ho.c2; have r3 := ho.c3; have z0 := J4.out.fz 0; have z1 := J4.out.fz 1; have z2 := J4.out.fz 2; have z3 := J4.out.fz 3
    go_wp2_with (fail)
    obtain ⟨qa, qb⟩ := J4.out.put Mg.zero; obtain ⟨w5, hw5⟩ : ∃ W, putMg w4 (w.heap.size + 1 + 1) Mg.zero = W := ⟨_, rfl⟩; rw [hw5] at qa qb; unfold putMg at hw5; try unfold Mg.zero at hw5; dsimp only at hw5; rw [hw5]; have q0 := qa.c0; have q1 := qa.c1; have q2 := qa.c2; have q3 := qa.c3; refine bodyPost_ret (v := .tuple #[.agg #[.bool Mg.zero.on, .int .i64 Mg.zero.number, .int .i64 Mg.zero.next, .string Mg.zero.data], .string ⟨#[]⟩, .int .i64 0]) (by simp [results, Try.results20, go_sem, q0, q1, q2, q3]) rfl (jret HJ.out qb)
  have s0 := J4.out.pc.c0
  have s1 := J4.out.pc.c1
  have s2 := J4.out.pc.c2
  have s3 := J4.out.pc.c3
  go_wp2_with (fail)
  refine (CW.out _).mono ?_
  rintro e w5 ⟨rfl, g5⟩
  have HJ3 := Lib.hid (J4.out.keep g5)
  clear s0 s1 s2 s3 J4 g5 CW
  have hN := nextD_range (p := p) HH.out
  have hz := withD_size (m := m) HH2.out
  have hz2 : (withD m p).size ≤ 4000 := by unfold withD; split <;> (try rw [ByteArray.size_append]) <;> omega
  by_cases h4 : (withD m p).size ≤ 1522
  case neg =>
    have HJ := Lib.hid (join_long HH.out HH2.out HQ.out (by omega))
    generalize withD m p = d at *
    obtain ⟨o, ho⟩ := HJ3.out.rs; have r0 := ho.c0; have r1 := ho.c1; have r2 := ho.c2; have r3 := ho.c3; have z0 := HJ3.out.fz 0; have z1 := HJ3.out.fz 1; have z2 := HJ3.out.fz 2; have z3 := HJ3.out.fz 3
    go_wp2_with (fail)
    obtain ⟨qa, qb⟩ := HJ3.out.put Mg.zero; obtain ⟨w5, hw5⟩ : ∃ W, putMg w5 (w.heap.size + 1 + 1) Mg.zero = W := ⟨_, rfl⟩; rw [hw5] at qa qb; unfold putMg at hw5; try unfold Mg.zero at hw5; dsimp only at hw5; rw [hw5]; have q0 := qa.c0; have q1 := qa.c1; have q2 := qa.c2; have q3 := qa.c3; refine bodyPost_ret (v := .tuple #[.agg #[.bool Mg.zero.on, .int .i64 Mg.zero.number, .int .i64 Mg.zero.next, .string Mg.zero.data], .string ⟨#[]⟩, .int .i64 0]) (by simp [results, Try.results20, go_sem, q0, q1, q2, q3]) rfl (jret HJ.out qb)
  have CG := Lib.hid (Good_any (withD m p) (by omega))
  have CM := Lib.hid (Marked_any (withD m p) (by omega))
  obtain ⟨g, hg⟩ : ∃ g, goodB 0 (withD m p) = g := ⟨_, rfl⟩
  rw [hg] at CG
  rcases g with _ | _
  case true =>
    have HJ := Lib.hid (join_good HH.out HH2.out HQ.out h4 hg)
    clear hg CM
    generalize withD m p = d at *
    go_wp2_with (fail)
    refine (CG.out _).mono ?_
    rintro e w6 ⟨rfl, g6⟩
    have J6 := Lib.hid (HJ3.out.keep g6)
    obtain ⟨o, ho⟩ := J6.out.rs; have r0 := ho.c0; have r1 := ho.c1; have r2 := ho.c2; have r3 := ho.c3; have z0 := J6.out.fz 0; have z1 := J6.out.fz 1; have z2 := J6.out.fz 2; have z3 := J6.out.fz 3
    go_wp2_with (fail)
    obtain ⟨qa, qb⟩ := J6.out.put Mg.zero; obtain ⟨w5, hw5⟩ : ∃ W, putMg w6 (w.heap.size + 1 + 1) Mg.zero = W := ⟨_, rfl⟩; rw [hw5] at qa qb; unfold putMg at hw5; try unfold Mg.zero at hw5; dsimp only at hw5; rw [hw5]; have q0 := qa.c0; have q1 := qa.c1; have q2 := qa.c2; have q3 := qa.c3; refine bodyPost_ret (v := .tuple #[.agg #[.bool Mg.zero.on, .int .i64 Mg.zero.number, .int .i64 Mg.zero.next, .string Mg.zero.data], .string d, .int .i64 0]) (by simp [results, Try.results20, go_sem, q0, q1, q2, q3]) rfl (jret HJ.out qb)
  obtain ⟨g2, hg2⟩ : ∃ g, goodB Crcm.marking (withD m p) = g := ⟨_, rfl⟩
  rw [hg2] at CM
  rcases g2 with _ | _
  case false =>
    have HJ := Lib.hid (join_none HH.out HH2.out HQ.out h4 hg hg2)
    clear hg hg2
    generalize withD m p = d at *
    go_wp2_with (fail)
    refine (CG.out _).mono ?_
    rintro e w6 ⟨rfl, g6⟩
    have J6 := Lib.hid (HJ3.out.keep g6)
    go_wp2_with (fail)
    refine (CM.out _).mono ?_
    rintro e w7 ⟨rfl, g7⟩
    have J7 := Lib.hid (J6.out.keep g7)
    obtain ⟨o, ho⟩ := J7.out.rs; have r0 := ho.c0; have r1 := ho.c1; have r2 := ho.c2; have r3 := ho.c3; have z0 := J7.out.fz 0; have z1 := J7.out.fz 1; have z2 := J7.out.fz 2; have z3 := J7.out.fz 3
    go_wp2_with (fail)
    obtain ⟨qa, qb⟩ := J7.out.put Mg.zero; obtain ⟨w5, hw5⟩ : ∃ W, putMg w7 (w.heap.size + 1 + 1) Mg.zero = W := ⟨_, rfl⟩; rw [hw5] at qa qb; unfold putMg at hw5; try unfold Mg.zero at hw5; dsimp only at hw5; rw [hw5]; have q0 := qa.c0; have q1 := qa.c1; have q2 := qa.c2; have q3 := qa.c3; refine bodyPost_ret (v := .tuple #[.agg #[.bool Mg.zero.on, .int .i64 Mg.zero.number, .int .i64 Mg.zero.next, .string Mg.zero.data], .string ⟨#[]⟩, .int .i64 0]) (by simp [results, Try.results20, go_sem, q0, q1, q2, q3]) rfl (jret HJ.out qb)
  have HJ := Lib.hid (join_marked HH.out HH2.out HQ.out h4 hg hg2)
  clear hg hg2
  have CA := Lib.hid (after_any m p (cutTail (withD m p)) hn)
  generalize withD m p = d at *
  go_wp2_with (fail)
  refine (CG.out _).mono ?_
  rintro e w6 ⟨rfl, g6⟩
  have J6 := Lib.hid (HJ3.out.keep g6)
  go_wp2_with (fail)
  refine (CM.out _).mono ?_
  rintro e w7 ⟨rfl, g7⟩
  have J7 := Lib.hid (J6.out.keep g7)
  clear HJ3 J6 g6 g7 CG CM
  go_upto_region 17 with fail
  set_option maxRecDepth 100000 in refine wp_region_still_tail 7 (by kernel_rfl) (by kernel_rfl) ?_
  simp only [List.take_succ_cons, List.take_zero, List.drop_succ_cons, List.drop_zero]
  obtain ⟨w8, hw8⟩ : ∃ W, w7.drew = W := ⟨_, rfl⟩
  have hd : ({ w7 with drawn := w7.drawn + 1 } : World) = w8 := hw8
  rw [hd]
  have J8 := Lib.hid (J7.out.keep (W' := w8) (by rw [← hw8]; exact (by repeat' (first | exact Below.refl _ _ | assumption | refine below_drewN ?_ _ | refine Below.drew ?_ | refine Below.alloc ?_ (by (first | exact Nat.le_refl _ | assumption | (simp; done) | omega | (simp; omega))) _ | refine Below.setCell ?_ (by (first | exact Nat.le_refl _ | assumption | (simp; done) | omega | (simp; omega))) _ | refine Below.trans ?_ (Below.mono (by assumption) (by (first | exact Nat.le_refl _ | assumption | (simp; done) | omega | (simp; omega))))))))
  clear hd hw8 J7
  have s0 := J8.out.pc.c0
  have s1 := J8.out.pc.c1
  have s2 := J8.out.pc.c2
  have s3 := J8.out.pc.c3
  have hi : IntKind.i64.wrap ((d.size : Int) - 4) = (d.size : Int) - 4 := IntWalk.i64_in _ (by omega)
  have b1 : (4 : Int) ≤ (d.size : Int) := by omega
  have b2 : (d.size : Int) - 4 ≤ (d.size : Int) := by omega
  have b3 : ((d.size : Int) - 4).toNat = d.size - 4 := by omega
  set_option maxRecDepth 100000 in repeat still_step
  set_option maxRecDepth 100000 in refine wpStill_nil ?_
  clear b1 b2 b3 hi
  change wpList _ _ _ _ _ w8
  have CA2 : Hid (∀ w', Calls Try.prog 45 #[.agg #[.bool m.on, .int .i64 m.number, .int .i64 m.next, .string m.data], .agg #[.bool p.start, .int .i64 p.number, .int .i64 p.count, .string p.data], .string (d.extract 0 (d.size - 4))] w' fun e w'' => e = .returned (.agg #[.bool true, .int .i64 p.number, .int .i64 (nextD m p), .string (d.extract 0 (d.size - 4))]) ∧ Below w'.heap.size w' w'') := CA
  clear CA
  go_wp2_with (fail)
  refine (CA2.out _).mono ?_
  rintro e w9 ⟨rfl, g9⟩
  have J9 := Lib.hid (J8.out.keep g9)
  clear CA2 s0 s1 s2 s3 g9 J8
  obtain ⟨o, ho⟩ := J9.out.rs; have r0 := ho.c0; have r1 := ho.c1; have r2 := ho.c2; have r3 := ho.c3; have z0 := J9.out.fz 0; have z1 := J9.out.fz 1; have z2 := J9.out.fz 2; have z3 := J9.out.fz 3
  go_wp2_with (fail)
  have HJ2 : Hid (join m p = (⟨true, p.number, nextD m p, d.extract 0 (d.size - 4)⟩, ⟨#[]⟩, 0)) := Lib.hid HJ.out
  obtain ⟨qa, qb⟩ := J9.out.put ⟨true, p.number, nextD m p, d.extract 0 (d.size - 4)⟩
  obtain ⟨w10, hw10⟩ : ∃ W, putMg w9 (w.heap.size + 1 + 1) ⟨true, p.number, nextD m p, d.extract 0 (d.size - 4)⟩ = W := ⟨_, rfl⟩
  rw [hw10] at qa qb
  unfold putMg at hw10
  dsimp only at hw10
  rw [hw10]
  have q0 := qa.c0
  have q1 := qa.c1
  have q2 := qa.c2
  have q3 := qa.c3
  refine bodyPost_ret (v := .tuple #[.agg #[.bool true, .int .i64 p.number, .int .i64 (nextD m p), .string (d.extract 0 (d.size - 4))], .string ⟨#[]⟩, .int .i64 0]) (by simp [results, Try.results20, go_sem, q0, q1, q2, q3]) rfl (jret HJ2.out qb)

theorem MJoin_any (m : Mg) (p : Pc) (hm : m.data.size ≤ 9000000000000000000) (hp : p.data.size ≤ 9000000000000000000) (w : World) : Calls Try.prog 20 #[.agg #[.bool m.on, .int .i64 m.number, .int .i64 m.next, .string m.data], .agg #[.bool p.start, .int .i64 p.number, .int .i64 p.count, .string p.data]] w (JRet m p w) := by
  cases h : m.ok with
  | false =>
    have C1 := Lib.hid (Check_any m hm)
    have hc : m.code = 182 := by unfold Mg.code; rw [if_neg (by simp [h])]
    rw [hc] at C1
    clear hc
    have HJ := Lib.hid (join_bad (p := p) h)
    have J0 := Lib.hid (jw_first w m p)
    go_enter Try.func20, Try.ntmps20
    go_wp2_with (fail)
    refine (C1.out _).mono ?_
    rintro e w1 ⟨rfl, g1⟩
    have J1 := Lib.hid (J0.out.keep g1)
    obtain ⟨o, ho⟩ := J1.out.rs; have r0 := ho.c0; have r1 := ho.c1; have r2 := ho.c2; have r3 := ho.c3; have z0 := J1.out.fz 0; have z1 := J1.out.fz 1; have z2 := J1.out.fz 2; have z3 := J1.out.fz 3
    go_wp2_with (fail)
    obtain ⟨qa, qb⟩ := J1.out.put Mg.zero; obtain ⟨w5, hw5⟩ : ∃ W, putMg w1 (w.heap.size + 1 + 1) Mg.zero = W := ⟨_, rfl⟩; rw [hw5] at qa qb; unfold putMg at hw5; try unfold Mg.zero at hw5; dsimp only at hw5; rw [hw5]; have q0 := qa.c0; have q1 := qa.c1; have q2 := qa.c2; have q3 := qa.c3; refine bodyPost_ret (v := .tuple #[.agg #[.bool Mg.zero.on, .int .i64 Mg.zero.number, .int .i64 Mg.zero.next, .string Mg.zero.data], .string ⟨#[]⟩, .int .i64 182]) (by simp [results, Try.results20, go_sem, q0, q1, q2, q3]) rfl (jret HJ.out qb)
  | true =>
    cases h2 : p.ok with
    | true => exact MJoin_ok m p w h h2
    | false =>
      have C1 := Lib.hid (Check_any m hm)
      have C2 := Lib.hid (CheckPiece_any p hp)
      have HJ := Lib.hid (join_piece h h2)
      have hc : m.code = 0 := by unfold Mg.code; rw [if_pos h]
      have hc2 : p.code = 181 := by unfold Pc.code; rw [if_neg (by simp [h2])]
      rw [hc] at C1
      rw [hc2] at C2
      clear hc hc2 h h2
      have J0 := Lib.hid (jw_first w m p)
      go_enter Try.func20, Try.ntmps20
      go_wp2_with (fail)
      refine (C1.out _).mono ?_
      rintro e w1 ⟨rfl, g1⟩
      have J1 := Lib.hid (J0.out.keep g1)
      have s0 := J1.out.pc.c0
      have s1 := J1.out.pc.c1
      have s2 := J1.out.pc.c2
      have s3 := J1.out.pc.c3
      go_wp2_with (fail)
      refine (C2.out _).mono ?_
      rintro e w2 ⟨rfl, g2⟩
      have J2 := Lib.hid (J1.out.keep g2)
      obtain ⟨o, ho⟩ := J2.out.rs; have r0 := ho.c0; have r1 := ho.c1; have r2 := ho.c2; have r3 := ho.c3; have z0 := J2.out.fz 0; have z1 := J2.out.fz 1; have z2 := J2.out.fz 2; have z3 := J2.out.fz 3
      go_wp2_with (fail)
      obtain ⟨qa, qb⟩ := J2.out.put Mg.zero; obtain ⟨w5, hw5⟩ : ∃ W, putMg w2 (w.heap.size + 1 + 1) Mg.zero = W := ⟨_, rfl⟩; rw [hw5] at qa qb; unfold putMg at hw5; try unfold Mg.zero at hw5; dsimp only at hw5; rw [hw5]; have q0 := qa.c0; have q1 := qa.c1; have q2 := qa.c2; have q3 := qa.c3; refine bodyPost_ret (v := .tuple #[.agg #[.bool Mg.zero.on, .int .i64 Mg.zero.number, .int .i64 Mg.zero.next, .string Mg.zero.data], .string ⟨#[]⟩, .int .i64 181]) (by simp [results, Try.results20, go_sem, q0, q1, q2, q3]) rfl (jret HJ.out qb)
end Go.Proofs.Ytppdfnghojcppaa
