/-
  The walk through MergeKnown, over contracts.
-/
import Derived.Test.YtppdfnghojcppaaMergeR
import Derived.Lib.QuietBelow
import Derived.Deep.CutBlock
namespace Go.Proofs.Ytppdfnghojcppaa
open Go.RowKit Go.Sort
set_option linter.unusedVariables false

set_option maxRecDepth 100000 in
set_option maxHeartbeats 4000000 in
theorem known_core (c d64 d63 d59 x23 x19 z18 long e24 x18 q60 small s59 z19 sz19 : ByteArray) (hc : c.size = 134) (h64 : d64.size = 64) (h63 : d63.size = 63) (h59 : d59.size = 59) (hx23 : x23.size = 1523) (hx19 : x19.size = 1519)
    (e64 : c.extract 0 64 = d64) (e63 : c.extract 0 63 = d63) (e59 : c.extract 0 59 = d59)
    (CH0 : Gives 26 #[] (.string c))
    (hlz : long.size = 1522)
    (he24 : e24.size = 82)
    (CU0 : ∀ W p cap, Ints W .i64 p (cuts24 24) → Calls Try.prog 13 #[.string long, .int .i64 3, .slice p 24 cap] W fun e w' => ∃ g cap', e = .returned (.tuple #[.slice (some ⟨g, 0, none⟩) 25 cap', .int .i64 0]) ∧ (w'.cell? ⟨g, 99, none⟩ = some (.string e24) ∧ w'.cell? ⟨g, 22, none⟩ = some (.int .i64 0) ∧ w'.cell? ⟨g, 98, none⟩ = some (.int .i64 3) ∧ w'.cell? ⟨g, 6, none⟩ = some (.int .i64 0) ∧ w'.cell? ⟨g, 18, none⟩ = some (.int .i64 3)) ∧ Below W.heap.size W w')
    (RX18 : Gives 27 #[.string ⟨#[120]⟩, .int .i64 1518] (.string x18))
    (RQ60 : Gives 27 #[.string ⟨#[113]⟩, .int .i64 60] (.string q60)) (SQ : Gives 28 #[.string q60] (.string small))
    (SD : Gives 28 #[.string d59] (.string s59))
    (RZ19 : Gives 27 #[.string ⟨#[122]⟩, .int .i64 1519] (.string z19)) (SZ : Gives 28 #[.string z19] (.string sz19))
    (R1 : ∀ W, Calls Try.prog 29 #[.string s59, .int .i64 0, .slice none 0 0, .int .i64 5] W fun e w' => e = .returned (.bool true) ∧ Below W.heap.size W w')
    (R2 : ∀ W, Calls Try.prog 29 #[.string sz19, .int .i64 9, .slice none 0 0, .int .i64 5] W fun e w' => e = .returned (.bool true) ∧ Below W.heap.size W w')
    (R3 : ∀ W p, Ints W .i64 p [60] → Calls Try.prog 29 #[.string small, .int .i64 0, .slice p 1 1, .int .i64 180] W fun e w' => e = .returned (.bool true) ∧ Below W.heap.size W w')
    (R4 : ∀ W p, Ints W .i64 p [-1] → Calls Try.prog 29 #[.string small, .int .i64 (-1), .slice p 1 1, .int .i64 2] W fun e w' => e = .returned (.bool true) ∧ Below W.heap.size W w')
    (R5 : ∀ W p, Ints W .i64 p [-60] → Calls Try.prog 29 #[.string c, .int .i64 0, .slice p 1 1, .int .i64 180] W fun e w' => e = .returned (.bool true) ∧ Below W.heap.size W w')
    (R6 : ∀ W p, Ints W .i64 p [60, 60] → Calls Try.prog 29 #[.string c, .int .i64 0, .slice p 2 2, .int .i64 180] W fun e w' => e = .returned (.bool true) ∧ Below W.heap.size W w')
    (R7 : ∀ W p, Ints W .i64 p [4611686018427387904] → Calls Try.prog 29 #[.string c, .int .i64 0, .slice p 1 1, .int .i64 180] W fun e w' => e = .returned (.bool true) ∧ Below W.heap.size W w')
    (J1 : Gives 30 #[.agg #[.bool true, .int .i64 0, .int .i64 2, .string x18], .agg #[.bool false, .int .i64 0, .int .i64 2, .string d64], .agg #[.bool false, .int .i64 0, .int .i64 0, .string ⟨#[]⟩], .string ⟨#[]⟩] (.bool true))
    (J2 : Gives 30 #[.agg #[.bool false, .int .i64 0, .int .i64 0, .string ⟨#[]⟩], .agg #[.bool true, .int .i64 1, .int .i64 0, .string small], .agg #[.bool false, .int .i64 0, .int .i64 0, .string ⟨#[]⟩], .string small] (.bool true))
    (J3 : Gives 30 #[.agg #[.bool true, .int .i64 0, .int .i64 2, .string x18], .agg #[.bool true, .int .i64 0, .int .i64 0, .string d64], .agg #[.bool false, .int .i64 0, .int .i64 0, .string ⟨#[]⟩], .string ⟨#[]⟩] (.bool true))
    (K1 : Gives 22 #[.agg #[.bool true, .int .i64 0, .int .i64 2, .string x18]] (.int .i64 0))
    (K2 : Gives 24 #[.agg #[.bool true, .int .i64 0, .int .i64 0, .string d64]] (.int .i64 0))
    (RZ18 : Gives 27 #[.string ⟨#[122]⟩, .int .i64 1518] (.string z18)) (SL0 : Gives 28 #[.string z18] (.string long))
    (RX23 : Gives 27 #[.string ⟨#[120]⟩, .int .i64 1523] (.string x23))
    (RX19 : Gives 27 #[.string ⟨#[120]⟩, .int .i64 1519] (.string x19)) (w : World) :
    Calls Try.prog 8 #[] w fun e w' => e = .returned (.bool true) ∧ Below w.heap.size w w' := by
  have CH := Lib.hid CH0
  have RX := Lib.hid RX23
  have RY := Lib.hid RX19
  have RZ := Lib.hid RZ18
  have SL := Lib.hid SL0
  clear CH0 RX23 RX19 RZ18 SL0
  have HCU0 := Lib.hid CU0
  have HRX18 := Lib.hid RX18
  have HRQ60 := Lib.hid RQ60
  have HSQ := Lib.hid SQ
  have HSD := Lib.hid SD
  have HRZ19 := Lib.hid RZ19
  have HSZ := Lib.hid SZ
  have HR1 := Lib.hid R1
  have HR2 := Lib.hid R2
  have HR3 := Lib.hid R3
  have HR4 := Lib.hid R4
  have HR5 := Lib.hid R5
  have HR6 := Lib.hid R6
  have HR7 := Lib.hid R7
  have HJ1 := Lib.hid J1
  have HJ2 := Lib.hid J2
  have HJ3 := Lib.hid J3
  have HK1 := Lib.hid K1
  have HK2 := Lib.hid K2
  clear CU0 RX18 RQ60 SQ SD RZ19 SZ R1 R2 R3 R4 R5 R6 R7 J1 J2 J3 K1 K2
  have n1 : ¬ ((c.size : Int) < 64) := by omega
  have n2 : (64 : Int) ≤ (c.size : Int) := by omega
  have n3 : (63 : Int) ≤ (c.size : Int) := by omega
  have n4 : (59 : Int) ≤ (c.size : Int) := by omega
  go_enter Try.func8, Try.ntmps8
  go_wp2_with (fail)
  refine (CH.out _).mono ?_
  rintro e w1 ⟨rfl, g1⟩
  have hB1 : Below w.heap.size w w1 := g1
  clear CH g1
  go_upto_region 6 with fail
  have HP := Lib.hid (pv_new w1 ⟨true, 0, 0, d64⟩)
  have hB2 : Below w.heap.size w (w1.alloc (.cells #[.bool true, .int .i64 0, .int .i64 0, .string d64] 45)) := hB1.alloc hB1.size _
  generalize w1.alloc (.cells #[.bool true, .int .i64 0, .int .i64 0, .string d64] 45) = w2 at *
  have j1 := RX.out.quiet w2
  refine wp_region_quiet_below (by kernel_rfl) (by kernel_rfl) ?_
  repeat (first | go_big_quiet_step (first | (with_reducible exact j1 _ _)) | quiet_step (first | (with_reducible exact j1 _ _)))
  refine wpQuiet_nil ?_
  intro _ hw'
  obtain ⟨⟨dq, osq⟩, hw''⟩ := hw'
  subst hw''
  have HP3 := Lib.hid (HP.out.keep (below_regrown w2 dq osq))
  have HB3 := Lib.hid (hB2.trans ((below_regrown w2 dq osq).mono hB2.size))
  clear j1 HP hB2 RX
  go_upto_block 0 with fail
  go_cut [] (fun wx => PV wx w1.heap.size ⟨true, 0, 0, d64⟩ ∧ Below w.heap.size w wx)
  case first =>
    go_wp2_with (fail)
    go_loopw [50] (fun i wr2 => ∃ j : Nat, j ≤ 8 ∧ i = .int .i64 j ∧ PV wr2 w1.heap.size ⟨true, 0, 0, d64⟩ ∧ Below w.heap.size w wr2) (fun i _ => 8 - (intOf i).toNat)
    case atStart => exact ⟨0, by omega, rfl, HP3.out, HB3.out⟩
    case round =>
      obtain ⟨wr2, hw2⟩ : ∃ W, W = wr := ⟨_, rfl⟩
      subst hw2
      obtain ⟨j, hj8, rfl, hpj, hbj⟩ := hrel
      clear HP3 HB3
      have HP := Lib.hid hpj
      have HB := Lib.hid hbj
      clear hpj hbj
      by_cases hjl : j < 8
      case neg =>
        obtain rfl : j = 8 := by omega
        go_wp2_with (fail)
        go_meet
        exact ⟨HP.out, HB.out⟩
      have hjl' : (j : Int) < 8 := by omega
      obtain ⟨q, hq, hqz, hki⟩ := index8p d63 x23 d64 h63 hx23 h64 j hjl
      unfold pcs8 at hki
      have C1 := Lib.hid (MJoin_any Mg.zero q (by decide) (by omega))
      have C2 := Lib.hid (MJoin_any ⟨false, 0, 1, ⟨#[]⟩⟩ q (by decide) (by omega))
      have hcd : q.code = 181 := by unfold Pc.code; rw [if_neg (by simp [hq])]
      have C3 := Lib.hid (CheckPiece_any q (by omega))
      unfold JRet at C1 C2
      rw [join_piece zero_ok hq] at C1
      rw [join_bad (by decide)] at C2
      rw [hcd] at C3
      unfold Mg.zero at C1 C2
      dsimp only at C1 C2
      have bk : Below wr2.heap.size wr2 (wr2.alloc (.cells #[.bool q.start, .int .i64 q.number, .int .i64 q.count, .string q.data] 45)) := (Below.refl _ _).alloc (Nat.le_refl _) _
      have HX1 := Lib.hid (pv_new wr2 q)
      have HP1 := Lib.hid (HP.out.keep bk)
      have HB1 := Lib.hid (HB.out.trans (bk.mono HB.out.size))
      clear hcd hq bk HP HB
      go_upto_region 9 with fail
      generalize wr2.alloc (.cells #[.bool q.start, .int .i64 q.number, .int .i64 q.count, .string q.data] 45) = v1 at *
      have y0 := HX1.out.at'.c0
      have y1 := HX1.out.at'.c1
      have y2 := HX1.out.at'.c2
      have y3 := HX1.out.at'.c3
      go_wp2_with (fail)
      refine (C1.out _).mono ?_
      rintro e v2 ⟨rfl, g2⟩
      have bk := g2.trans (((Below.refl _ v2).alloc (Nat.le_refl _) (.cells #[.bool false, .int .i64 0, .int .i64 0, .string ⟨#[]⟩] 43)).mono g2.size)
      have HX2 := Lib.hid (HX1.out.keep bk)
      have HP2 := Lib.hid (HP1.out.keep bk)
      have HB2 := Lib.hid (HB1.out.trans (bk.mono HB1.out.size))
      clear g2 bk HX1 HP1 HB1 C1 y0 y1 y2 y3
      go_upto_region 10 with fail
      generalize v2.alloc (.cells #[.bool false, .int .i64 0, .int .i64 0, .string ⟨#[]⟩] 43) = v3 at *
      have y0 := HX2.out.at'.c0
      have y1 := HX2.out.at'.c1
      have y2 := HX2.out.at'.c2
      have y3 := HX2.out.at'.c3
      go_wp2_with (fail)
      refine (C2.out _).mono ?_
      rintro e v4 ⟨rfl, g4⟩
      have bk := g4.trans (((Below.refl _ v4).alloc (Nat.le_refl _) (.cells #[.bool false, .int .i64 0, .int .i64 0, .string ⟨#[]⟩] 43)).mono g4.size)
      have HX5 := Lib.hid (HX2.out.keep bk)
      have HP5 := Lib.hid (HP2.out.keep bk)
      have HB5 := Lib.hid (HB2.out.trans (bk.mono HB2.out.size))
      clear g4 bk HX2 HP2 HB2 C2 y0 y1 y2 y3
      go_upto_region 11 with fail
      generalize v4.alloc (.cells #[.bool false, .int .i64 0, .int .i64 0, .string ⟨#[]⟩] 43) = v5 at *
      have y0 := HX5.out.at'.c0
      have y1 := HX5.out.at'.c1
      have y2 := HX5.out.at'.c2
      have y3 := HX5.out.at'.c3
      go_wp2_with (fail)
      refine (C3.out _).mono ?_
      rintro e v6 ⟨rfl, g6⟩
      have HP6 := Lib.hid (HP5.out.keep g6)
      have HB6 := Lib.hid (HB5.out.trans (g6.mono HB5.out.size))
      clear g6 HX5 HP5 HB5 C3 y0 y1 y2 y3
      go_wp2_with (fail)
      go_round
      case rel => exact ⟨j + 1, by omega, by go_num, HP6.out, HB6.out⟩
      case measure => simp [intOf] <;> omega
  case rest =>
  obtain ⟨hp7, hb7⟩ := hcut
  clear HP3 HB3
  go_upto_region 14 with fail
  have j1 := RY.out.quiet wc
  refine wp_region_quiet_below (by kernel_rfl) (by kernel_rfl) ?_
  repeat (first | go_big_quiet_step (first | (with_reducible exact j1 _ _)) | quiet_step (first | (with_reducible exact j1 _ _)))
  refine wpQuiet_nil ?_
  intro _ hw'
  obtain ⟨⟨dq, osq⟩, hw''⟩ := hw'
  subst hw''
  have HP3 := Lib.hid (hp7.keep (below_regrown wc dq osq))
  have HB3 := Lib.hid (hb7.trans ((below_regrown wc dq osq).mono hb7.size))
  clear j1 hp7 hb7 RY
  go_upto_block 2 with fail
  go_cut [] (fun wx => PV wx w1.heap.size ⟨true, 0, 0, d64⟩ ∧ Below w.heap.size w wx)
  case first =>
    go_wp2_with (fail)
    go_loopw [93] (fun i wr2 => ∃ j : Nat, j ≤ 8 ∧ i = .int .i64 j ∧ PV wr2 w1.heap.size ⟨true, 0, 0, d64⟩ ∧ Below w.heap.size w wr2) (fun i _ => 8 - (intOf i).toNat)
    case atStart => exact ⟨0, by omega, rfl, HP3.out, HB3.out⟩
    case round =>
      obtain ⟨wr2, hw2⟩ : ∃ W, W = wr := ⟨_, rfl⟩
      subst hw2
      obtain ⟨j, hj8, rfl, hpj, hbj⟩ := hrel
      clear HP3 HB3
      have HP := Lib.hid hpj
      have HB := Lib.hid hbj
      clear hpj hbj
      by_cases hjl : j < 8
      case neg =>
        obtain rfl : j = 8 := by omega
        go_wp2_with (fail)
        go_meet
        exact ⟨HP.out, HB.out⟩
      have hjl' : (j : Int) < 8 := by omega
      obtain ⟨q, hq, hqz, hki⟩ := index8m d59 x19 d64 h59 hx19 h64 j hjl
      unfold mgs8 at hki
      have C1 := Lib.hid (MJoin_any q ⟨true, 0, 0, d64⟩ (by omega) (by show d64.size ≤ _; omega))
      have hcd : q.code = 182 := by unfold Mg.code; rw [if_neg (by simp [hq])]
      have C3 := Lib.hid (Check_any q (by omega))
      unfold JRet at C1
      rw [join_bad hq] at C1
      rw [hcd] at C3
      unfold Mg.zero at C1
      dsimp only at C1
      have hqq := fun W => neq_mg Mg.zero Mg.zero W
      rw [decide_eq_true rfl] at hqq
      unfold Mg.zero at hqq
      dsimp only at hqq
      have bk : Below wr2.heap.size wr2 (wr2.alloc (.cells #[.bool q.on, .int .i64 q.number, .int .i64 q.next, .string q.data] 43)) := (Below.refl _ _).alloc (Nat.le_refl _) _
      have HX1 := Lib.hid (mv_new wr2 q)
      have HP1 := Lib.hid (HP.out.keep bk)
      have HB1 := Lib.hid (HB.out.trans (bk.mono HB.out.size))
      clear hcd hq bk HP HB
      go_upto_region 17 with fail
      generalize wr2.alloc (.cells #[.bool q.on, .int .i64 q.number, .int .i64 q.next, .string q.data] 43) = v1 at *
      have y0 := HX1.out.at'.c0
      have y1 := HX1.out.at'.c1
      have y2 := HX1.out.at'.c2
      have y3 := HX1.out.at'.c3
      have a0 : v1.cell? ⟨w1.heap.size, 0, none⟩ = some (.bool true) := HP1.out.at'.c0
      have a1 : v1.cell? ⟨w1.heap.size, 1, none⟩ = some (.int .i64 0) := HP1.out.at'.c1
      have a2 : v1.cell? ⟨w1.heap.size, 2, none⟩ = some (.int .i64 0) := HP1.out.at'.c2
      have a3 : v1.cell? ⟨w1.heap.size, 3, none⟩ = some (.string d64) := HP1.out.at'.c3
      go_wp2_with (fail)
      refine (C1.out _).mono ?_
      rintro e v2 ⟨rfl, g2⟩
      have bk := g2.trans (((Below.refl _ v2).alloc (Nat.le_refl _) (.cells #[.bool false, .int .i64 0, .int .i64 0, .string ⟨#[]⟩] 43)).mono g2.size)
      have HX2 := Lib.hid (HX1.out.keep bk)
      have HP2 := Lib.hid (HP1.out.keep bk)
      have HB2 := Lib.hid (HB1.out.trans (bk.mono HB1.out.size))
      have HN2 := Lib.hid (mv_new v2 ⟨false, 0, 0, ⟨#[]⟩⟩)
      clear g2 bk HX1 HP1 HB1 C1 y0 y1 y2 y3 a0 a1 a2 a3
      go_upto_region 18 with fail
      generalize v2.alloc (.cells #[.bool false, .int .i64 0, .int .i64 0, .string ⟨#[]⟩] 43) = v3 at *
      have y0 := HX2.out.at'.c0
      have y1 := HX2.out.at'.c1
      have y2 := HX2.out.at'.c2
      have y3 := HX2.out.at'.c3
      go_wp2_with (fail)
      refine (C3.out _).mono ?_
      rintro e v6 ⟨rfl, g6⟩
      have HP6 := Lib.hid (HP2.out.keep g6)
      have HB6 := Lib.hid (HB2.out.trans (g6.mono HB2.out.size))
      have HN6 := Lib.hid (HN2.out.keep g6)
      have n0 : v6.cell? ⟨v2.heap.size, 0, none⟩ = some (.bool false) := HN6.out.at'.c0
      have n1' : v6.cell? ⟨v2.heap.size, 1, none⟩ = some (.int .i64 0) := HN6.out.at'.c1
      have n2' : v6.cell? ⟨v2.heap.size, 2, none⟩ = some (.int .i64 0) := HN6.out.at'.c2
      have n3' : v6.cell? ⟨v2.heap.size, 3, none⟩ = some (.string ⟨#[]⟩) := HN6.out.at'.c3
      clear g6 HX2 HP2 HB2 HN2 C3 y0 y1 y2 y3
      go_wp2_with (fail)
      clear n0 n1' n2' n3' HN6
      go_round
      case rel => exact ⟨j + 1, by omega, by go_num, HP6.out, HB6.out⟩
      case measure => simp [intOf] <;> omega
  case rest =>
  obtain ⟨hp7, hb7⟩ := hcut
  clear HP3 HB3
  have HP := Lib.hid hp7
  have HB := Lib.hid hb7
  clear hp7 hb7
  go_upto_region 21 with fail
  go_wp2_with (fail)
  refine (RZ.out _).mono ?_
  rintro e w3 ⟨rfl, g3⟩
  have HP2 := Lib.hid (HP.out.keep g3)
  have HB2 := Lib.hid (HB.out.trans (g3.mono HB.out.size))
  clear HP HB g3 RZ
  go_wp2_with (fail)
  refine (SL.out _).mono ?_
  rintro e w4 ⟨rfl, g4⟩
  have HP := Lib.hid (HP2.out.keep g4)
  have HB := Lib.hid (HB2.out.trans (g4.mono HB2.out.size))
  clear HP2 HB2 g4 SL
  have hpl : w1.heap.size < w4.heap.size := HP.out.lt
  have hwl : w.heap.size ≤ w4.heap.size := HB.out.size
  go_upto_block 4 with fail
  go_cut [18] (fun s wx => (∃ p cap, s = .slice p 24 cap ∧ Ints wx .i64 p (cuts24 24)) ∧ PV wx w1.heap.size ⟨true, 0, 0, d64⟩ ∧ Below w.heap.size w wx)
  case first =>
    obtain ⟨i0, hi, hz0, hz1, hz2⟩ := info_parts infoInt
    have HI := Lib.hid hi
    have HZ := Lib.hid hz0
    have HZ1 := Lib.hid hz1
    have HZ2 := Lib.hid hz2
    clear hi hz0 hz1 hz2
    go_wp2_with (fail)
    go_loopw [18, 19] (fun v i wr2 => ∃ (k : Nat) (z : Int), k ≤ 24 ∧ z = 60 * ((k : Int) + 1) ∧ i = .int .i64 z ∧ OwnI wr2 w4.heap.size v (cuts24 k) ∧ PV wr2 w1.heap.size ⟨true, 0, 0, d64⟩ ∧ Below w.heap.size w wr2 ∧ w4.heap.size ≤ wr2.heap.size) (fun _ i _ => 1600 - (intOf i).toNat)
    case atStart => exact ⟨0, 60, by omega, by omega, rfl, OwnI.nil _ _, HP.out, HB.out, Nat.le_refl _⟩
    case round =>
      obtain ⟨wr2, hw2⟩ : ∃ W, W = wr := ⟨_, rfl⟩
      subst hw2
      obtain ⟨k, z, hk, hz, rfl, hrow, hpk, hbk, hsk⟩ := hrel
      clear HP HB
      have HR := Lib.hid hrow
      have HP := Lib.hid hpk
      have HB := Lib.hid hbk
      clear hrow hpk hbk
      by_cases hkl : k < 24
      case neg =>
        obtain rfl : k = 24 := by omega
        have hz' : ¬ (z ≤ 1458) := by omega
        have hz2 : (1458 : Int) < z := by omega
        obtain ⟨p, cap, rfl, hI⟩ := HR.out.ints
        clear HR
        have HIn := Lib.hid hI
        clear hI hz
        go_wp2_with (fail)
        go_meet
        exact ⟨⟨p, cap, by rw [cuts24_length], HIn.out⟩, HP.out, HB.out⟩
      have hz' : z ≤ 1458 := by omega
      have hz3 : IntKind.i64.wrap (z + 60) = z + 60 := IntWalk.i64_in _ (by omega)
      have hln : (cuts24 k).length = k := cuts24_length k
      have HZz := Lib.hid hz
      have hz0 : 0 ≤ z := by omega
      clear hz
      go_wp2_with (at_builtin; refine wpList_append_own _ rfl _ _ 26 rfl w4.heap.size 3 i0 (.int .i64 0) 1 8 Try.underlying26 HI.out HZ.out HZ1.out HZ2.out rfl (by decide) _ _ _ rfl (HR.out.alloc _) ⟨wr2.heap.size, 0, none⟩ 1 1 [.int .i64 z] rfl rfl (cell_one_new _ _ _) (fun u hu => by cases List.mem_singleton.1 hu; rfl) (by unfold maxLen; omega) (by omega) (by simp <;> omega) ?_; intro v' w5 hown' hgrow hnil)
      have hb5 := own_added HR.out (by omega) hgrow
      have hr5 := OwnI.snoc hown'
      rw [HZz.out, ← cuts24_succ] at hr5
      have hp5 := HP.out.keepB hpl hb5
      have hbe := HB.out.trans (hb5.mono hwl)
      have hs5 := Nat.le_trans hsk hb5.size
      have hz4 := HZz.out
      clear hown' hgrow hnil HR HP HB hb5 HZz
      go_round
      case rel => exact ⟨k + 1, z + 60, by omega, by omega, by first | rfl | rw [hz3], hr5, hp5, hbe, hs5⟩
      case measure => simp [intOf] <;> omega
  case rest =>
  obtain ⟨⟨pc24, cap24, rfl, hI⟩, hp7, hb7⟩ := hcut
  clear HP HB
  have HP := Lib.hid hp7
  have HB := Lib.hid hb7
  have HIn := Lib.hid hI
  clear hp7 hb7 hI
  go_wp2_with (fail)
  refine (HCU0.out _ _ _ HIn.out).mono ?_
  rintro e w5 ⟨gr, cr, rfl, ⟨k0, k1, k2, k3, k4⟩, g5⟩
  have HP2 := Lib.hid (HP.out.keep g5)
  have HB2 := Lib.hid (HB.out.trans (g5.mono HB.out.size))
  clear HP HB g5 HIn HCU0
  have he24' : (e24.size : Int) = 82 := by omega
  go_upto_region 30 with fail
  clear k0 k1 k2 k3 k4
  go_wp2_with (fail)
  refine (HRX18.out _).mono ?_
  rintro e w6 ⟨rfl, g6⟩
  have bk := g6.trans (((Below.refl _ w6).alloc (Nat.le_refl _) (.cells #[.bool true, .int .i64 0, .int .i64 2, .string x18] 43)).mono g6.size)
  have HP := Lib.hid (HP2.out.keep bk)
  have HB := Lib.hid (HB2.out.trans (bk.mono HB2.out.size))
  have HF := Lib.hid (mv_new w6 ⟨true, 0, 2, x18⟩)
  clear HP2 HB2 g6 bk HRX18
  go_upto_region 31 with fail
  generalize w6.alloc (.cells #[.bool true, .int .i64 0, .int .i64 2, .string x18] 43) = wa0 at *
  go_wp2_with (fail)
  refine (HRQ60.out _).mono ?_
  rintro e wa1 ⟨rfl, ga1⟩
  have gb1 := ga1
  have HP1' := Lib.hid (HP.out.keep gb1)
  have HB1' := Lib.hid (HB.out.trans (gb1.mono HB.out.size))
  have HF1' := Lib.hid (HF.out.keep gb1)
  clear HP HB HF ga1 gb1
  have HP := HP1'
  have HB := HB1'
  have HF := HF1'
  clear HP1' HB1' HF1'
  go_wp2_with (fail)
  refine (HSQ.out _).mono ?_
  rintro e wa2 ⟨rfl, ga2⟩
  have gb2 := ga2
  have HP2' := Lib.hid (HP.out.keep gb2)
  have HB2' := Lib.hid (HB.out.trans (gb2.mono HB.out.size))
  have HF2' := Lib.hid (HF.out.keep gb2)
  clear HP HB HF ga2 gb2
  have HP := HP2'
  have HB := HB2'
  have HF := HF2'
  clear HP2' HB2' HF2'
  go_wp2_with (fail)
  refine (HSD.out _).mono ?_
  rintro e wa3 ⟨rfl, ga3⟩
  have gb3 := ga3
  have HP3' := Lib.hid (HP.out.keep gb3)
  have HB3' := Lib.hid (HB.out.trans (gb3.mono HB.out.size))
  have HF3' := Lib.hid (HF.out.keep gb3)
  clear HP HB HF ga3 gb3
  have HP := HP3'
  have HB := HB3'
  have HF := HF3'
  clear HP3' HB3' HF3'
  go_wp2_with (fail)
  refine (HR1.out _).mono ?_
  rintro e wa4 ⟨rfl, ga4⟩
  have gb4 := ga4
  have HP4' := Lib.hid (HP.out.keep gb4)
  have HB4' := Lib.hid (HB.out.trans (gb4.mono HB.out.size))
  have HF4' := Lib.hid (HF.out.keep gb4)
  clear HP HB HF ga4 gb4
  have HP := HP4'
  have HB := HB4'
  have HF := HF4'
  clear HP4' HB4' HF4'
  go_wp2_with (fail)
  refine (HRZ19.out _).mono ?_
  rintro e wa5 ⟨rfl, ga5⟩
  have gb5 := ga5
  have HP5' := Lib.hid (HP.out.keep gb5)
  have HB5' := Lib.hid (HB.out.trans (gb5.mono HB.out.size))
  have HF5' := Lib.hid (HF.out.keep gb5)
  clear HP HB HF ga5 gb5
  have HP := HP5'
  have HB := HB5'
  have HF := HF5'
  clear HP5' HB5' HF5'
  go_wp2_with (fail)
  refine (HSZ.out _).mono ?_
  rintro e wa6 ⟨rfl, ga6⟩
  have gb6 := ga6
  have HP6' := Lib.hid (HP.out.keep gb6)
  have HB6' := Lib.hid (HB.out.trans (gb6.mono HB.out.size))
  have HF6' := Lib.hid (HF.out.keep gb6)
  clear HP HB HF ga6 gb6
  have HP := HP6'
  have HB := HB6'
  have HF := HF6'
  clear HP6' HB6' HF6'
  go_wp2_with (fail)
  refine (HR2.out _).mono ?_
  rintro e wa7 ⟨rfl, ga7⟩
  have gb7 := ga7
  have HP7' := Lib.hid (HP.out.keep gb7)
  have HB7' := Lib.hid (HB.out.trans (gb7.mono HB.out.size))
  have HF7' := Lib.hid (HF.out.keep gb7)
  clear HP HB HF ga7 gb7
  have HP := HP7'
  have HB := HB7'
  have HF := HF7'
  clear HP7' HB7' HF7'
  go_wp2_with (fail)
  refine (HR3.out _ _ (ints_one wa7 60)).mono ?_
  rintro e wa8 ⟨rfl, ga8⟩
  have gb8 : Below wa7.heap.size wa7 wa8 := Below.trans ((Below.refl _ wa7).alloc (Nat.le_refl _) _) (ga8.mono (by simp))
  have HP8' := Lib.hid (HP.out.keep gb8)
  have HB8' := Lib.hid (HB.out.trans (gb8.mono HB.out.size))
  have HF8' := Lib.hid (HF.out.keep gb8)
  clear HP HB HF ga8 gb8
  have HP := HP8'
  have HB := HB8'
  have HF := HF8'
  clear HP8' HB8' HF8'
  go_wp2_with (fail)
  refine (HR4.out _ _ (ints_one wa8 (-1))).mono ?_
  rintro e wa9 ⟨rfl, ga9⟩
  have gb9 : Below wa8.heap.size wa8 wa9 := Below.trans ((Below.refl _ wa8).alloc (Nat.le_refl _) _) (ga9.mono (by simp))
  have HP9' := Lib.hid (HP.out.keep gb9)
  have HB9' := Lib.hid (HB.out.trans (gb9.mono HB.out.size))
  have HF9' := Lib.hid (HF.out.keep gb9)
  clear HP HB HF ga9 gb9
  have HP := HP9'
  have HB := HB9'
  have HF := HF9'
  clear HP9' HB9' HF9'
  go_wp2_with (fail)
  refine (HR5.out _ _ (ints_one wa9 (-60))).mono ?_
  rintro e wa10 ⟨rfl, ga10⟩
  have gb10 : Below wa9.heap.size wa9 wa10 := Below.trans ((Below.refl _ wa9).alloc (Nat.le_refl _) _) (ga10.mono (by simp))
  have HP10' := Lib.hid (HP.out.keep gb10)
  have HB10' := Lib.hid (HB.out.trans (gb10.mono HB.out.size))
  have HF10' := Lib.hid (HF.out.keep gb10)
  clear HP HB HF ga10 gb10
  have HP := HP10'
  have HB := HB10'
  have HF := HF10'
  clear HP10' HB10' HF10'
  go_wp2_with (fail)
  refine (HR6.out _ _ (ints_two wa10 60 60)).mono ?_
  rintro e wa11 ⟨rfl, ga11⟩
  have gb11 : Below wa10.heap.size wa10 wa11 := Below.trans ((Below.refl _ wa10).alloc (Nat.le_refl _) _) (ga11.mono (by simp))
  have HP11' := Lib.hid (HP.out.keep gb11)
  have HB11' := Lib.hid (HB.out.trans (gb11.mono HB.out.size))
  have HF11' := Lib.hid (HF.out.keep gb11)
  clear HP HB HF ga11 gb11
  have HP := HP11'
  have HB := HB11'
  have HF := HF11'
  clear HP11' HB11' HF11'
  go_wp2_with (fail)
  refine (HR7.out _ _ (ints_one wa11 4611686018427387904)).mono ?_
  rintro e wa12 ⟨rfl, ga12⟩
  have gb12 : Below wa11.heap.size wa11 wa12 := Below.trans ((Below.refl _ wa11).alloc (Nat.le_refl _) _) (ga12.mono (by simp))
  have HP12' := Lib.hid (HP.out.keep gb12)
  have HB12' := Lib.hid (HB.out.trans (gb12.mono HB.out.size))
  have HF12' := Lib.hid (HF.out.keep gb12)
  clear HP HB HF ga12 gb12
  have HP := HP12'
  have HB := HB12'
  have HF := HF12'
  clear HP12' HB12' HF12'
  go_wp2_with (fail)
  refine (works_any _).mono ?_
  rintro e wa13 ⟨rfl, ga13⟩
  have gb13 := ga13
  have HP13' := Lib.hid (HP.out.keep gb13)
  have HB13' := Lib.hid (HB.out.trans (gb13.mono HB.out.size))
  have HF13' := Lib.hid (HF.out.keep gb13)
  clear HP HB HF ga13 gb13
  have HP := HP13'
  have HB := HB13'
  have HF := HF13'
  clear HP13' HB13' HF13'
  have f0 : wa13.cell? ⟨w6.heap.size, 0, none⟩ = some (.bool true) := HF.out.at'.c0
  have f1 : wa13.cell? ⟨w6.heap.size, 1, none⟩ = some (.int .i64 0) := HF.out.at'.c1
  have f2 : wa13.cell? ⟨w6.heap.size, 2, none⟩ = some (.int .i64 2) := HF.out.at'.c2
  have f3 : wa13.cell? ⟨w6.heap.size, 3, none⟩ = some (.string x18) := HF.out.at'.c3
  go_wp2_with (fail)
  refine (HJ1.out _).mono ?_
  rintro e wa14 ⟨rfl, ga14⟩
  have gb14 := ga14
  have HP14' := Lib.hid (HP.out.keep gb14)
  have HB14' := Lib.hid (HB.out.trans (gb14.mono HB.out.size))
  have HF14' := Lib.hid (HF.out.keep gb14)
  clear HP HB HF ga14 gb14
  have HP := HP14'
  have HB := HB14'
  have HF := HF14'
  clear HP14' HB14' HF14'
  clear f0 f1 f2 f3
  go_wp2_with (fail)
  refine (HJ2.out _).mono ?_
  rintro e wa15 ⟨rfl, ga15⟩
  have gb15 := ga15
  have HP15' := Lib.hid (HP.out.keep gb15)
  have HB15' := Lib.hid (HB.out.trans (gb15.mono HB.out.size))
  have HF15' := Lib.hid (HF.out.keep gb15)
  clear HP HB HF ga15 gb15
  have HP := HP15'
  have HB := HB15'
  have HF := HF15'
  clear HP15' HB15' HF15'
  have f0 : wa15.cell? ⟨w6.heap.size, 0, none⟩ = some (.bool true) := HF.out.at'.c0
  have f1 : wa15.cell? ⟨w6.heap.size, 1, none⟩ = some (.int .i64 0) := HF.out.at'.c1
  have f2 : wa15.cell? ⟨w6.heap.size, 2, none⟩ = some (.int .i64 2) := HF.out.at'.c2
  have f3 : wa15.cell? ⟨w6.heap.size, 3, none⟩ = some (.string x18) := HF.out.at'.c3
  have a0 : wa15.cell? ⟨w1.heap.size, 0, none⟩ = some (.bool true) := HP.out.at'.c0
  have a1 : wa15.cell? ⟨w1.heap.size, 1, none⟩ = some (.int .i64 0) := HP.out.at'.c1
  have a2 : wa15.cell? ⟨w1.heap.size, 2, none⟩ = some (.int .i64 0) := HP.out.at'.c2
  have a3 : wa15.cell? ⟨w1.heap.size, 3, none⟩ = some (.string d64) := HP.out.at'.c3
  go_wp2_with (fail)
  refine (HJ3.out _).mono ?_
  rintro e wa16 ⟨rfl, ga16⟩
  have gb16 := ga16
  have HP16' := Lib.hid (HP.out.keep gb16)
  have HB16' := Lib.hid (HB.out.trans (gb16.mono HB.out.size))
  have HF16' := Lib.hid (HF.out.keep gb16)
  clear HP HB HF ga16 gb16
  have HP := HP16'
  have HB := HB16'
  have HF := HF16'
  clear HP16' HB16' HF16'
  clear f0 f1 f2 f3
  clear a0 a1 a2 a3
  have f0 : wa16.cell? ⟨w6.heap.size, 0, none⟩ = some (.bool true) := HF.out.at'.c0
  have f1 : wa16.cell? ⟨w6.heap.size, 1, none⟩ = some (.int .i64 0) := HF.out.at'.c1
  have f2 : wa16.cell? ⟨w6.heap.size, 2, none⟩ = some (.int .i64 2) := HF.out.at'.c2
  have f3 : wa16.cell? ⟨w6.heap.size, 3, none⟩ = some (.string x18) := HF.out.at'.c3
  go_wp2_with (fail)
  refine (HK1.out _).mono ?_
  rintro e wa17 ⟨rfl, ga17⟩
  have gb17 := ga17
  have HP17' := Lib.hid (HP.out.keep gb17)
  have HB17' := Lib.hid (HB.out.trans (gb17.mono HB.out.size))
  have HF17' := Lib.hid (HF.out.keep gb17)
  clear HP HB HF ga17 gb17
  have HP := HP17'
  have HB := HB17'
  have HF := HF17'
  clear HP17' HB17' HF17'
  clear f0 f1 f2 f3
  have a0 : wa17.cell? ⟨w1.heap.size, 0, none⟩ = some (.bool true) := HP.out.at'.c0
  have a1 : wa17.cell? ⟨w1.heap.size, 1, none⟩ = some (.int .i64 0) := HP.out.at'.c1
  have a2 : wa17.cell? ⟨w1.heap.size, 2, none⟩ = some (.int .i64 0) := HP.out.at'.c2
  have a3 : wa17.cell? ⟨w1.heap.size, 3, none⟩ = some (.string d64) := HP.out.at'.c3
  go_wp2_with (fail)
  refine (HK2.out _).mono ?_
  rintro e wa18 ⟨rfl, ga18⟩
  have gb18 := ga18
  have HP18' := Lib.hid (HP.out.keep gb18)
  have HB18' := Lib.hid (HB.out.trans (gb18.mono HB.out.size))
  have HF18' := Lib.hid (HF.out.keep gb18)
  clear HP HB HF ga18 gb18
  have HP := HP18'
  have HB := HB18'
  have HF := HF18'
  clear HP18' HB18' HF18'
  clear a0 a1 a2 a3
  go_wp2_with (fail)
  go_ret
  exact ⟨rfl, HB.out⟩

end Go.Proofs.Ytppdfnghojcppaa
