/-
  MergeBack.
-/
import Derived.Test.YtppdfnghojcppaaMergeL
import Derived.Deep.RegionHeld3
import Derived.Deep.RegionWith
import Derived.Deep.CutBlock
import Derived.BigQuiet
namespace Go.Proofs.Ytppdfnghojcppaa
open Go.RowKit Go.Sort
set_option linter.unusedVariables false

/-- Joining two that are valid is no error. -/
theorem join_zero {m : Mg} {p : Pc} (h : m.ok = true) (h2 : p.ok = true) : (join m p).2.2 = 0 := by
  cases h3 : takes m p with
  | false => rw [join_off h h2 h3]
  | true =>
  by_cases h4 : (withD m p).size ≤ 1522
  · cases h5 : goodB 0 (withD m p) with
    | true => rw [join_good h h2 h3 h4 h5]
    | false =>
    cases h6 : goodB Crcm.marking (withD m p) with
    | true => rw [join_marked h h2 h3 h4 h5 h6]
    | false => rw [join_none h h2 h3 h4 h5 h6]
  · rw [join_long h h2 h3 (by omega)]
theorem pieces_ok {s : ByteArray} {n : Int} {cuts : List Int} (h : Cutting s n cuts) {k : Nat} (hk : k < (pieces s n cuts).length) : ((pieces s n cuts).getD k Pc.zero).ok = true := by
  rw [pieces_length] at hk
  rw [List.getD_eq_getElem?_getD, pieces_at _ _ _ _ hk]
  exact h.piece_ok (by omega)

theorem Cutting.back_step {s : ByteArray} {n : Int} {cuts : List Int} (h : Cutting s n cuts) {k : Nat} (hk : k ≤ cuts.length) {m : Mg} (hm : Ahead s n cuts k m) :
    (join m (pieceAt s n cuts k)).2.2 = 0 ∧ (k < cuts.length → (join m (pieceAt s n cuts k)).1 = stA s n cuts (k + 1) ∧ (join m (pieceAt s n cuts k)).2.1 = ⟨#[]⟩) ∧ (¬ k < cuts.length → (join m (pieceAt s n cuts k)).1 = Mg.zero ∧ (join m (pieceAt s n cuts k)).2.1 = s) := by
  by_cases hlt : k < cuts.length
  · rw [h.join_mid hlt hm]
    exact ⟨rfl, fun _ => ⟨rfl, rfl⟩, fun h => absurd hlt h⟩
  · obtain rfl : k = cuts.length := by omega
    rw [h.join_end hm]
    exact ⟨rfl, fun h => absurd h hlt, fun _ => ⟨rfl, rfl⟩⟩
theorem Check_ok {m : Mg} (h : m.ok = true) : Gives 22 #[.agg #[.bool m.on, .int .i64 m.number, .int .i64 m.next, .string m.data]] (.int .i64 0) := fun W => by
  have := Check_any m (by have := Mg.ok_size h; omega) W
  have hc : m.code = 0 := by unfold Mg.code; rw [if_pos h]
  rwa [hc] at this
theorem CheckPiece_ok {p : Pc} (h : p.ok = true) : Gives 24 #[.agg #[.bool p.start, .int .i64 p.number, .int .i64 p.count, .string p.data]] (.int .i64 0) := fun W => by
  have := CheckPiece_any p (by rw [Pc.ok_iff] at h; omega) W
  have hc : p.code = 0 := by unfold Pc.code; rw [if_pos h]
  rwa [hc] at this

set_option maxRecDepth 100000 in
set_option maxHeartbeats 4000000 in
theorem mergeBack_walk (D : Dr8) (p0 : Option Addr) (cap0 : Nat) (D1 : Dr8) (p1 : Option Addr) (cap1 : Nat) (bef : Int) (w : World) (hD : D.wf) (hI : Ints w .u8 p0 D.cutsI) (hD1 : D1.wf) (hI1 : Ints w .u8 p1 D1.cutsI) (hbef : (Lit.int .u8 bef).wf = true) :
    Calls Try.prog 5 #[.agg #[.string D.data, .int .u16 (D.long : Int), .int .u8 (D.number : Int), .slice p0 D.cuts.length cap0, .string D1.data, .int .u16 (D1.long : Int), .int .u8 (D1.number : Int), .slice p1 D1.cuts.length cap1], .int .u8 bef] w fun e w' => e = .returned (.bool true) ∧ Below w.heap.size w w' := by
  have hb2 := bounds_u8 hbef
  obtain ⟨bn, rfl⟩ : ∃ n : Nat, bef = (n : Int) := ⟨bef.toNat, by omega⟩
  clear hbef
  have hC := D.cut_ok 30
  have hl30 := D.offsets_length 30
  have hC1 := D1.cut_ok 30
  have hl31 := D1.offsets_length 30
  have CF := Lib.hid (Frame_any D hD.l hD.s (.slice p0 D.cuts.length cap0) rfl)
  have CO := Lib.hid (Offsets_any D hD 30 (by omega) p0 cap0)
  have CP := Lib.hid (Pieces_any D1 hD1 30 (by omega) p1 cap1)
  have hLd : D1.pieces 30 = pieces D1.frame ((D1.number : Int) % 4) (D1.offsets 30) := rfl
  rw [hLd] at CP
  have CC := Lib.hid (fun p' cap' W h => MCut_any D.frame (by have := D.frame_range; omega) ((D.number : Int) % 4) p' cap' (D.offsets 30) W (by omega) h)
  have hE : cutE D.frame ((D.number : Int) % 4) (D.offsets 30) = 0 := (D.cut_ok 30).cutE
  have hL : cutL D.frame ((D.number : Int) % 4) (D.offsets 30) = pieces D.frame ((D.number : Int) % 4) (D.offsets 30) := (D.cut_ok 30).cutL
  unfold CRet at CC
  rw [hE, hL] at CC
  have hwn : IntKind.i64.wrap ((D.number : Int).tmod 4) = (D.number : Int) % 4 := by have := hD.n; rw [Int.tmod_eq_emod_of_nonneg (by omega)]; exact IntWalk.i64_in _ (by omega)
  have hnn := hD.n
  generalize D.frame = s at *
  generalize hnum : (D.number : Int) % 4 = num at *
  generalize D.offsets 30 = cuts at *
  generalize D1.frame = s1 at *
  generalize (D1.number : Int) % 4 = num1 at *
  generalize D1.offsets 30 = cuts1 at *
  have HC := Lib.hid hC
  have HC1 := Lib.hid hC1
  have HI := Lib.hid hI
  have HI1 := Lib.hid hI1
  have hlen := pieces_length s num cuts
  have hlen1 := pieces_length s1 num1 cuts1
  have HNum := Lib.hid hnum
  have HWN := Lib.hid hwn
  clear hLd hC hC1 hI hI1 hD hD1 hE hL hnum hwn
  go_enter Try.func5, Try.ntmps5
  go_wp2_with (fail)
  refine (works_any _).mono ?_
  rintro e w1 ⟨rfl, g1⟩
  have hB1 : Below w.heap.size w w1 := Below.trans ((Below.refl _ w).alloc (Nat.le_refl _) _) (g1.mono (by simp))
  have hbx := fun j => (g1.cell (p := ⟨w.heap.size, j, none⟩) (by simp)).trans (World.cell?_alloc_at _ _ _ _ rfl)
  have HBX := Lib.hid hbx
  have hz1 : w.heap.size < w1.heap.size := by have := g1.size; simp at this; omega
  clear hbx g1
  have b0 : w1.cell? ⟨w.heap.size, 0, none⟩ = some (.string D.data) := HBX.out 0
  have b1 : w1.cell? ⟨w.heap.size, 1, none⟩ = some (.int .u16 (D.long : Int)) := HBX.out 1
  have b2 : w1.cell? ⟨w.heap.size, 2, none⟩ = some (.int .u8 (D.number : Int)) := HBX.out 2
  have b3 : w1.cell? ⟨w.heap.size, 3, none⟩ = some (.slice p0 D.cuts.length cap0) := HBX.out 3
  have b4 : w1.cell? ⟨w.heap.size, 4, none⟩ = some (.string D1.data) := HBX.out 4
  have b5 : w1.cell? ⟨w.heap.size, 5, none⟩ = some (.int .u16 (D1.long : Int)) := HBX.out 5
  have b6 : w1.cell? ⟨w.heap.size, 6, none⟩ = some (.int .u8 (D1.number : Int)) := HBX.out 6
  have b7 : w1.cell? ⟨w.heap.size, 7, none⟩ = some (.slice p1 D1.cuts.length cap1) := HBX.out 7
  go_wp2_with (fail)
  refine (CF.out _).mono ?_
  rintro e w2 ⟨rfl, g2⟩
  replace b0 := (g2.cell (p := ⟨w.heap.size, 0, none⟩) hz1).trans b0
  replace b1 := (g2.cell (p := ⟨w.heap.size, 1, none⟩) hz1).trans b1
  replace b2 := (g2.cell (p := ⟨w.heap.size, 2, none⟩) hz1).trans b2
  replace b3 := (g2.cell (p := ⟨w.heap.size, 3, none⟩) hz1).trans b3
  replace b4 := (g2.cell (p := ⟨w.heap.size, 4, none⟩) hz1).trans b4
  replace b5 := (g2.cell (p := ⟨w.heap.size, 5, none⟩) hz1).trans b5
  replace b6 := (g2.cell (p := ⟨w.heap.size, 6, none⟩) hz1).trans b6
  replace b7 := (g2.cell (p := ⟨w.heap.size, 7, none⟩) hz1).trans b7
  have hB2 := hB1.trans (g2.mono hB1.size)
  have hz2 := Nat.lt_of_lt_of_le hz1 g2.size
  clear g2 CF HBX
  go_wp2_with (fail)
  refine (CO.out _ (HI.out.keep hB2)).mono ?_
  rintro e w3 ⟨v, rfl, hown, g3⟩
  obtain ⟨pc, capc, rfl, hic⟩ := hown.ints
  replace b0 := (g3.cell (p := ⟨w.heap.size, 0, none⟩) hz2).trans b0
  replace b1 := (g3.cell (p := ⟨w.heap.size, 1, none⟩) hz2).trans b1
  replace b2 := (g3.cell (p := ⟨w.heap.size, 2, none⟩) hz2).trans b2
  replace b3 := (g3.cell (p := ⟨w.heap.size, 3, none⟩) hz2).trans b3
  replace b4 := (g3.cell (p := ⟨w.heap.size, 4, none⟩) hz2).trans b4
  replace b5 := (g3.cell (p := ⟨w.heap.size, 5, none⟩) hz2).trans b5
  replace b6 := (g3.cell (p := ⟨w.heap.size, 6, none⟩) hz2).trans b6
  replace b7 := (g3.cell (p := ⟨w.heap.size, 7, none⟩) hz2).trans b7
  have hB3 := hB2.trans (g3.mono hB2.size)
  have hz3 := Nat.lt_of_lt_of_le hz2 g3.size
  have HIC := Lib.hid hic
  clear g3 CO hown hic
  go_wp2_with (fail)
  rw [HNum.out]
  refine (CC.out _ _ _ HIC.out).mono ?_
  rintro e w4 ⟨v, rfl, hrow, g4⟩
  have hB4 := hB3.trans (g4.mono hB3.size)
  have hz4 := Nat.lt_of_lt_of_le hz3 g4.size
  have hlow := (HIC.out.keep g4).low
  replace b0 := (g4.cell (p := ⟨w.heap.size, 0, none⟩) hz3).trans b0
  replace b1 := (g4.cell (p := ⟨w.heap.size, 1, none⟩) hz3).trans b1
  replace b2 := (g4.cell (p := ⟨w.heap.size, 2, none⟩) hz3).trans b2
  replace b3 := (g4.cell (p := ⟨w.heap.size, 3, none⟩) hz3).trans b3
  replace b4 := (g4.cell (p := ⟨w.heap.size, 4, none⟩) hz3).trans b4
  replace b5 := (g4.cell (p := ⟨w.heap.size, 5, none⟩) hz3).trans b5
  replace b6 := (g4.cell (p := ⟨w.heap.size, 6, none⟩) hz3).trans b6
  replace b7 := (g4.cell (p := ⟨w.heap.size, 7, none⟩) hz3).trans b7
  have hR0 := hrow.lower (B' := w.heap.size) hB3.size
  obtain ⟨g, cap, rfl, _, hglt, _⟩ := hrow.at (j := 0) (by omega)
  rw [hlen] at hR0 ⊢
  have HR0 := Lib.hid hR0
  have HLow := Lib.hid hlow
  clear hrow g4 hR0 HIC CC hlow
  have hM0 := Lib.hid (mv_new w4 Mg.zero)
  have bA : Below w4.heap.size w4 (w4.alloc (.cells #[.bool Mg.zero.on, .int .i64 Mg.zero.number, .int .i64 Mg.zero.next, .string Mg.zero.data] 43)) := (Below.refl _ w4).alloc (Nat.le_refl _) _
  replace b4 : (w4.alloc (.cells #[.bool false, .int .i64 0, .int .i64 0, .string ⟨#[]⟩] 43)).cell? ⟨w.heap.size, 4, none⟩ = some (.string D1.data) := (bA.cell (p := ⟨w.heap.size, 4, none⟩) hz4).trans b4
  replace b5 : (w4.alloc (.cells #[.bool false, .int .i64 0, .int .i64 0, .string ⟨#[]⟩] 43)).cell? ⟨w.heap.size, 5, none⟩ = some (.int .u16 (D1.long : Int)) := (bA.cell (p := ⟨w.heap.size, 5, none⟩) hz4).trans b5
  replace b6 : (w4.alloc (.cells #[.bool false, .int .i64 0, .int .i64 0, .string ⟨#[]⟩] 43)).cell? ⟨w.heap.size, 6, none⟩ = some (.int .u8 (D1.number : Int)) := (bA.cell (p := ⟨w.heap.size, 6, none⟩) hz4).trans b6
  replace b7 : (w4.alloc (.cells #[.bool false, .int .i64 0, .int .i64 0, .string ⟨#[]⟩] 43)).cell? ⟨w.heap.size, 7, none⟩ = some (.slice p1 D1.cuts.length cap1) := (bA.cell (p := ⟨w.heap.size, 7, none⟩) hz4).trans b7
  clear b0 b1 b2 b3
  go_wp2_with (fail)
  refine (CP.out _ (HI1.out.keep (hB4.trans (bA.mono hB4.size)))).mono ?_
  rintro e w5 ⟨v, rfl, hrow, g5⟩
  have g5' : Below w4.heap.size w4 w5 := bA.trans (g5.mono (by simp))
  have hM5 := hM0.out.keep g5
  have hR5 := HR0.out.keep g5'
  have hL5 := HLow.out.keep g5'
  have hB5 := hB4.trans (g5'.mono hB4.size)
  obtain ⟨q1, cap1', rfl, hgq, _, _⟩ := hrow.at (j := 0) (by omega)
  have hgq' : w4.heap.size < q1 := by simp at hgq; omega
  rw [hlen1] at hrow ⊢
  have hRo := hrow.lower (B' := w.heap.size) (by have := hB4.size; simp; omega)
  have HM := Lib.hid hM5
  have HR := Lib.hid hR5
  have HL := Lib.hid hL5
  have HRo := Lib.hid hRo
  have hBw4 := hB4.size
  clear b4 b5 b6 b7 hrow hRo hM5 hR5 hL5 g5 g5' bA hM0 HR0 HLow hgq hB4 hB3 hB2 hB1 CP hz1 hz2 hz3 hz4 HI HI1
  go_upto_block 0 with fail
  go_cut [] (fun wx => ∃ m, MV wx w4.heap.size m ∧ m.ok = true ∧ Rw wx w.heap.size (.slice (some ⟨g, 0, none⟩) (cuts.length + 1) cap) (pieces s num cuts) ∧ Low w4.heap.size wx pc cuts ∧ Below w.heap.size w wx)
  case first =>
    go_wp2_with (fail)
    go_loopw [11] (fun i wr => ∃ (k : Nat) (m : Mg), k ≤ cuts1.length + 1 ∧ i = .int .i64 k ∧ MV wr w4.heap.size m ∧ m.ok = true ∧ Rw wr w.heap.size (.slice (some ⟨g, 0, none⟩) (cuts.length + 1) cap) (pieces s num cuts) ∧ Low w4.heap.size wr pc cuts ∧ Rw wr w.heap.size (.slice (some ⟨q1, 0, none⟩) (cuts1.length + 1) cap1') (pieces s1 num1 cuts1) ∧ Below w.heap.size w wr) (fun i _ => cuts1.length + 1 - (intOf i).toNat)
    case atStart => exact ⟨0, Mg.zero, by omega, rfl, HM.out, zero_ok, HR.out, HL.out, HRo.out, hB5⟩
    case round =>
      obtain ⟨k, m, hk, rfl, hMV, hmok, hrow, hlo, hro, hB⟩ := hrel
      have HEnd : Hid (∃ m, MV wr w4.heap.size m ∧ m.ok = true ∧ Rw wr w.heap.size (.slice (some ⟨g, 0, none⟩) (cuts.length + 1) cap) (pieces s num cuts) ∧ Low w4.heap.size wr pc cuts ∧ Below w.heap.size w wr) := Lib.hid ⟨m, hMV, hmok, hrow, hlo, hB⟩
      clear HM HR HL HRo hB5
      by_cases hkl : k < cuts1.length + 1
      case neg =>
        obtain rfl : k = cuts1.length + 1 := by omega
        have hkl' : ¬ (((cuts1.length + 1 : Nat) : Int) < (cuts1.length : Int) + 1) := by omega
        clear hMV hrow hlo hro hB hmok
        go_wp2_with (fail)
        go_meet
        exact HEnd.out
      have hkl' : (k : Int) < (cuts1.length : Int) + 1 := by omega
      by_cases hkb : k < bn
      case neg =>
        have hkb' : ¬ ((k : Int) < (bn : Int)) := by omega
        clear hMV hrow hlo hro hB hmok
        go_wp2_with (fail)
        go_meet
        exact HEnd.out
      have hkb' : (k : Int) < (bn : Int) := by omega
      clear HEnd
      have hpc := (hlen1 ▸ hro : Rw wr w.heap.size (.slice (some ⟨q1, 0, none⟩) (pieces s1 num1 cuts1).length cap1') (pieces s1 num1 cuts1)).at4 (j := k) (by omega)
      have hqok := pieces_ok HC1.out (k := k) (by omega)
      generalize (pieces s1 num1 cuts1).getD k Pc.zero = q at hpc hqok
      have hc0 := join_zero hmok hqok
      have hro2 := join_ok m q
      have CJ := Lib.hid (MJoin_any m q (by have := Mg.ok_size hmok; omega) (by rw [Pc.ok_iff] at hqok; omega))
      unfold JRet at CJ
      rw [hc0] at CJ
      generalize (join m q).1 = r at CJ hro2
      generalize (join m q).2.1 = f at CJ
      have HV := Lib.hid hMV
      have HRw := Lib.hid hrow
      have HLo := Lib.hid hlo
      have HRo := Lib.hid hro
      have Hr := Lib.hid hro2
      have v0 := hMV.at'.c0
      have v1 := hMV.at'.c1
      have v2 := hMV.at'.c2
      have v3 := hMV.at'.c3
      have e0 := hpc.c0
      have e1 := hpc.c1
      have e2 := hpc.c2
      have e3 := hpc.c3
      clear hMV hrow hlo hro hmok hqok hc0 hro2 hpc
      go_upto_region 13 with fail
      go_region_with (go_at_call 20; refine (CJ.out _).mono ?_; rintro e wn ⟨rfl, gn⟩; have hg : Below wr.heap.size wr wn := Below.trans (Below.drew (Below.refl _ wr)) gn; have HV2 := Lib.hid (HV.out.keep hg); have v0 := HV2.out.at'.c0; have v1 := HV2.out.at'.c1; have v2 := HV2.out.at'.c2; have v3 := HV2.out.at'.c3; have y0 := HV2.out.fz 0; have y1 := HV2.out.fz 1; have y2 := HV2.out.fz 2; have y3 := HV2.out.fz 3)
      all_goals
        have hs := HV2.out.store r
        have hB2 := hB.trans (hg.mono hB.size)
        have hw4r : w4.heap.size ≤ wr.heap.size := Nat.le_of_lt HV.out.lt
        have hrow2 := (HRw.out.keep hg).byHeap (store_heap wn w4.heap.size r g (by omega))
        have hro2 := (HRo.out.keep hg).byHeap (store_heap wn w4.heap.size r q1 (by omega))
        have hlo2 := (HLo.out.keep (hg.mono hw4r)).keep hs.2
        have hb2' := hB2.trans (hs.2.mono hBw4)
        have HS := Lib.hid hs.1
        clear v0 v1 v2 v3 y0 y1 y2 y3 e0 e1 e2 e3 HV2 HV HRw HRo HLo CJ gn hg hs hB2 hB
        go_wp2_with (fail)
        go_round
        case rel => exact ⟨k + 1, r, by omega, by go_num, HS.out, Hr.out, hrow2, hlo2, hro2, hb2'⟩
        case measure => simp [intOf] <;> omega
  case rest =>
  obtain ⟨m0, hMV, hmok, hrow, hlo, hB⟩ := hcut
  clear HM HR HL HRo hB5
  have HM := Lib.hid hMV
  have HR := Lib.hid hrow
  have HL := Lib.hid hlo
  have h0a : Ahead s num cuts 0 m0 := ⟨hmok, .inl rfl⟩
  have HA := Lib.hid h0a
  clear hMV hrow hlo h0a
  go_wp2_with (fail)
  go_loopw [12, 13] (fun l i wr => ∃ (k : Nat) (m : Mg), k ≤ cuts.length + 1 ∧ i = .int .i64 k ∧ l = .int .i64 (sumL s num cuts k) ∧ MV wr w4.heap.size m ∧ m.ok = true ∧ (k ≤ cuts.length → Ahead s num cuts k m) ∧ (k = cuts.length + 1 → m = Mg.zero) ∧ Rw wr w.heap.size (.slice (some ⟨g, 0, none⟩) (cuts.length + 1) cap) (pieces s num cuts) ∧ Low w4.heap.size wr pc cuts ∧ Below w.heap.size w wr) (fun _ i _ => cuts.length + 1 - (intOf i).toNat)
  case atStart => exact ⟨0, m0, by omega, rfl, rfl, HM.out, hmok, fun _ => HA.out, fun h => by omega, HR.out, HL.out, hB⟩
  case round =>
    obtain ⟨k, m, hk, rfl, rfl, hMV, hmok, hah, hze, hrow, hlo, hB'⟩ := hrel
    clear HM HR HL HA hB
    by_cases hkl : k < cuts.length + 1
    case neg =>
      obtain rfl : k = cuts.length + 1 := by omega
      obtain rfl := hze rfl
      have hkl' : ¬ (((cuts.length + 1 : Nat) : Int) < (cuts.length : Int) + 1) := by omega
      have v0 := hMV.at'.c0
      have v1 := hMV.at'.c1
      have v2 := hMV.at'.c2
      have v3 := hMV.at'.c3
      unfold Mg.zero at v0 v1 v2 v3
      dsimp only at v0 v1 v2 v3
      have hsum : ((sumL s num cuts (cuts.length + 1) : Nat) : Int) = (s.size : Int) + 4 * (cuts.length : Int) := by rw [HC.out.sum_all]; push_cast; rfl
      rw [hsum]
      have hss := HC.out.size
      have hq := fun W => eql_mg Mg.zero Mg.zero W
      rw [decide_eq_true rfl] at hq
      unfold Mg.zero at hq
      clear hMV hah hrow hlo hze hsum
      go_wp2_with (fail)
      go_ret
      exact ⟨ret_b (by simp), hB'⟩
    have hkl' : (k : Int) < (cuts.length : Int) + 1 := by omega
    have hpc := (hlen ▸ hrow : Rw wr w.heap.size (.slice (some ⟨g, 0, none⟩) (pieces s num cuts).length cap) (pieces s num cuts)).at4 (j := k) (by omega)
    have hgk : (pieces s num cuts).getD k Pc.zero = pieceAt s num cuts k := by rw [List.getD_eq_getElem?_getD, pieces_at _ _ _ _ hkl]; rfl
    rw [hgk] at hpc
    have hqok := HC.out.piece_ok (i := k) (by omega)
    have hsuc : sumL s num cuts (k + 1) = sumL s num cuts k + (pieceAt s num cuts k).data.size := rfl
    have hsle := HC.out.sum (i := k) (by omega)
    have hlast := HC.out.last (i := k) (by omega)
    have hss := HC.out.size
    obtain ⟨hc0, hmid, hend⟩ := HC.out.back_step (k := k) (by omega) (hah (by omega))
    have hro := join_ok m (pieceAt s num cuts k)
    have hah2 := fun h : k < cuts.length => HC.out.ahead h
    generalize pieceAt s num cuts k = q at hpc hqok hsuc hmid hend hc0 hro
    have hqz := ((Pc.ok_iff q).1 hqok).2.2.1
    have CJ := Lib.hid (MJoin_any m q (by have := Mg.ok_size hmok; omega) (by omega))
    have CK := Lib.hid (CheckPiece_ok hqok)
    have CH := Lib.hid (Check_ok hro)
    unfold JRet at CJ
    rw [hc0] at CJ
    generalize (join m q).1 = r at CJ hmid hend hro CH
    generalize (join m q).2.1 = f at CJ hmid hend
    have HS0 : Hid (wr.cell? ⟨w4.heap.size, 0, none⟩ = some (.bool m.on) ∧ wr.cell? ⟨w4.heap.size, 1, none⟩ = some (.int .i64 m.number) ∧ wr.cell? ⟨w4.heap.size, 2, none⟩ = some (.int .i64 m.next) ∧ wr.cell? ⟨w4.heap.size, 3, none⟩ = some (.string m.data) ∧ wr.cell? ⟨g, k * 4, none⟩ = some (.bool q.start) ∧ wr.cell? ⟨g, k * 4 + 1, none⟩ = some (.int .i64 q.number) ∧ wr.cell? ⟨g, k * 4 + 2, none⟩ = some (.int .i64 q.count) ∧ wr.cell? ⟨g, k * 4 + 3, none⟩ = some (.string q.data)) := Lib.hid ⟨hMV.at'.c0, hMV.at'.c1, hMV.at'.c2, hMV.at'.c3, hpc.c0, hpc.c1, hpc.c2, hpc.c3⟩
    have HMV := Lib.hid hMV
    have HRow := Lib.hid hrow
    have HLo := Lib.hid hlo
    have HPC := Lib.hid hpc
    have Hmid := Lib.hid hmid
    have Hend := Lib.hid hend
    have Hah2 := Lib.hid hah2
    have HSuc := Lib.hid hsuc
    have Hro := Lib.hid hro
    clear hpc hMV hah hze hrow hlo hc0 hqok hmok hro hmid hend hah2 hsuc hgk
    have hsle2 : sumL s num cuts k ≤ 3000 := by omega
    generalize hSk : sumL s num cuts k = Sk at hsle hsle2
    have HSk := Lib.hid hSk
    clear hSk hsle hlast
    go_upto_region 20 with fail
    go_cut [14, 15, 16] (fun s12 s13 s14 wx => s13 = .string f ∧ s14 = .int .i64 0 ∧ ∃ Bn, s12 = .pointer (some ⟨Bn, 0, none⟩) ∧ NB wr wx Bn r)
    case first =>
      have hS := HS0.out
      have hBw : w4.heap.size < wr.heap.size := HMV.out.lt
      have hgw : g < wr.heap.size := by omega
      go_region_held3 (fun w' => w'.cell? ⟨w4.heap.size, 0, none⟩ = some (.bool m.on) ∧ w'.cell? ⟨w4.heap.size, 1, none⟩ = some (.int .i64 m.number) ∧ w'.cell? ⟨w4.heap.size, 2, none⟩ = some (.int .i64 m.next) ∧ w'.cell? ⟨w4.heap.size, 3, none⟩ = some (.string m.data) ∧ w'.cell? ⟨g, k * 4, none⟩ = some (.bool q.start) ∧ w'.cell? ⟨g, k * 4 + 1, none⟩ = some (.int .i64 q.number) ∧ w'.cell? ⟨g, k * 4 + 2, none⟩ = some (.int .i64 q.count) ∧ w'.cell? ⟨g, k * 4 + 3, none⟩ = some (.string q.data)) (first | with_reducible exact hS | with_reducible exact cells8p r hS hBw hgw | go_keep) (first | (go_at_call 20; refine (CJ.out _).mono ?_; rintro e wn ⟨rfl, gn⟩; have hS := cells8 (by assumption) gn; (try (have n0 : wn.cell? ⟨wr.heap.size, 0, none⟩ = some (.bool false) := (gn.cell (p := ⟨wr.heap.size, 0, none⟩) (by simp)).trans (World.cell?_alloc_at _ _ _ _ rfl); have n1 : wn.cell? ⟨wr.heap.size, 1, none⟩ = some (.int .i64 0) := (gn.cell (p := ⟨wr.heap.size, 1, none⟩) (by simp)).trans (World.cell?_alloc_at _ _ _ _ rfl); have n2 : wn.cell? ⟨wr.heap.size, 2, none⟩ = some (.int .i64 0) := (gn.cell (p := ⟨wr.heap.size, 2, none⟩) (by simp)).trans (World.cell?_alloc_at _ _ _ _ rfl); have n3 : wn.cell? ⟨wr.heap.size, 3, none⟩ = some (.string ⟨#[]⟩) := (gn.cell (p := ⟨wr.heap.size, 3, none⟩) (by simp)).trans (World.cell?_alloc_at _ _ _ _ rfl); have f0 := fun j => (gn.frozen (p := ⟨wr.heap.size, j, none⟩) (by simp)).trans (World.frozen?_alloc_at _ _ _ _ rfl); have z0 := f0 0; have z1 := f0 1; have z2 := f0 2; have z3 := f0 3))))
      · have hg : Below wr.heap.size wr wn := Below.trans (Below.drew (Below.refl _ wr)) gn
        go_wp2_with (fail)
        go_meet
        exact ⟨rfl, rfl, _, rfl, nb_alloc r hg⟩
      · have hg : Below wr.heap.size wr wn := Below.trans ((Below.drew (Below.refl _ wr)).alloc (Nat.le_refl _) _) (gn.mono (by simp))
        have hz : wr.heap.size < wn.heap.size := by have := gn.size; simp at this; omega
        go_wp2_with (fail)
        go_meet
        exact ⟨rfl, rfl, _, rfl, nb_put r hg hz n0 n1 n2 n3⟩
    case rest =>
    obtain ⟨rfl, rfl, Bn, rfl, hNB⟩ := ‹_ ∧ _ ∧ ∃ Bn, _›
    clear HS0 CJ
    have hw4r : w4.heap.size ≤ wr.heap.size := Nat.le_of_lt HMV.out.lt
    have HV := Lib.hid (HMV.out.keep hNB.bel)
    have HRc := Lib.hid (HRow.out.keep hNB.bel)
    have HLc := Lib.hid (HLo.out.keep (hNB.bel.mono hw4r))
    have hBc := hB'.trans (hNB.bel.mono hB'.size)
    have hk := fun (a : Addr) (v : Value) (h : wr.cell? a = some v) => (hNB.bel.cell (block_lt_of_cell h)).trans h
    have e0 := hk _ _ HPC.out.c0
    have e1 := hk _ _ HPC.out.c1
    have e2 := hk _ _ HPC.out.c2
    have e3 := hk _ _ HPC.out.c3
    have n0 := hNB.at'.c0
    have n1 := hNB.at'.c1
    have n2 := hNB.at'.c2
    have n3 := hNB.at'.c3
    clear hNB hk HMV HRow HLo HPC hB'
    go_upto_region 22 with fail
    have hsne : s ≠ ⟨#[]⟩ := by
      intro h
      have := hss.1
      rw [h] at this
      exact absurd this (by decide)
    by_cases hlt : k < cuts.length
    · obtain ⟨hr, rfl⟩ := Hmid.out hlt
      have hat := (HLc.out.ints (Nat.le_of_lt HV.out.lt)).at hlt
      have hcut := HC.out.at hlt
      have hd : (r.data.toList == (s.extract 0 (cuts.getD k 0).toNat).toList) = true := by rw [hr]; unfold stA; dsimp only; rw [lastAt_succ]; simp
      generalize cuts.getD k 0 = x at hat hcut hd
      obtain ⟨b, o, rfl, hb, hcx⟩ := hat
      have hx0 : 0 ≤ x := by omega
      have hx1 : x ≤ (s.size : Int) := by omega
      have hks : ((k : Int) == (cuts.length : Int)) = false := by simp; omega
      have hkl3 : (k : Int) < (cuts.length : Int) := by omega
      have hse : s.toList.isEmpty = false := by
        rw [List.isEmpty_eq_false_iff]
        exact fun h => hsne (ba_eq (by rw [h]; simp))
      have hcq := cell_regrown hcx
      have HRr := Lib.hid hr
      clear hcut hsne hcx hr
      have a0 := cell_regrown e0
      have a1 := cell_regrown e1
      have a2 := cell_regrown e2
      have a3 := cell_regrown e3
      have c0 := cell_regrown n0
      have c1 := cell_regrown n1
      have c2 := cell_regrown n2
      have c3 := cell_regrown n3
      have j1 := CH.out.quiet wc
      have j2 := CK.out.quiet wc
      clear e0 e1 e2 e3 CH CK
      refine wp_region_quiet_below (by kernel_rfl) (by kernel_rfl) ?_
      repeat (first | go_big_quiet_step (first | (with_reducible exact j1 _ _) | (with_reducible exact j2 _ _)) | quiet_step (first | (with_reducible exact j1 _ _) | (with_reducible exact j2 _ _)))
      refine wpQuiet_nil ?_
      intro _ hw'
      obtain ⟨⟨dq, osq⟩, hw''⟩ := hw'
      subst hw''
      clear a0 a1 a2 a3 c0 c1 c2 c3 j1 j2
      have hbq := below_regrown wc dq osq
      have hnlt := fun (j : Nat) (v : Value) (h : wc.cell? ⟨Bn, j, none⟩ = some v) => (hbq.cell (block_lt_of_cell h)).trans h
      have n0 := hnlt _ _ n0
      have n1 := hnlt _ _ n1
      have n2 := hnlt _ _ n2
      have n3 := hnlt _ _ n3
      have HVq := Lib.hid (HV.out.keep hbq)
      have hRq := HRc.out.keep hbq
      have hLq := HLc.out.keep (hbq.mono (Nat.le_of_lt HV.out.lt))
      have hBq := hBc.trans (hbq.mono hBc.size)
      clear hbq hnlt HV HRc HLc hBc
      generalize grow (redrawn wc dq) osq = wq at *
      have v0 := HVq.out.at'.c0
      have v1 := HVq.out.at'.c1
      have v2 := HVq.out.at'.c2
      have v3 := HVq.out.at'.c3
      have y0 := HVq.out.fz 0
      have y1 := HVq.out.fz 1
      have y2 := HVq.out.fz 2
      have y3 := HVq.out.fz 3
      have hs := HVq.out.store r
      have hr2 := hRq.keepB hglt hs.2
      have hl2 := hLq.keep hs.2
      have hb2' := hBq.trans (hs.2.mono hBw4)
      have HS := Lib.hid hs.1
      clear hRq hLq hBq hs
      go_wp2_with (fail)
      clear v0 v1 v2 v3 y0 y1 y2 y3 n0 n1 n2 n3 HVq
      go_round
      case rel => exact ⟨k + 1, r, by omega, by go_num, by rw [HSuc.out, HSk.out]; go_num, HS.out, Hro.out, fun _ => HRr.out ▸ Hah2.out hlt, fun h => by omega, hr2, hl2, hb2'⟩
      case measure => simp [intOf] <;> omega
    · obtain ⟨hr, rfl⟩ := Hend.out hlt
      have hks : ((k : Int) == (cuts.length : Int)) = true := by simp; omega
      have hkl3 : ¬ ((k : Int) < (cuts.length : Int)) := by omega
      have HRr := Lib.hid hr
      clear hsne hr
      have a0 := cell_regrown e0
      have a1 := cell_regrown e1
      have a2 := cell_regrown e2
      have a3 := cell_regrown e3
      have c0 := cell_regrown n0
      have c1 := cell_regrown n1
      have c2 := cell_regrown n2
      have c3 := cell_regrown n3
      have j1 := CH.out.quiet wc
      have j2 := CK.out.quiet wc
      clear e0 e1 e2 e3 CH CK
      refine wp_region_quiet_below (by kernel_rfl) (by kernel_rfl) ?_
      repeat (first | go_big_quiet_step (first | (with_reducible exact j1 _ _) | (with_reducible exact j2 _ _)) | quiet_step (first | (with_reducible exact j1 _ _) | (with_reducible exact j2 _ _)))
      refine wpQuiet_nil ?_
      intro _ hw'
      obtain ⟨⟨dq, osq⟩, hw''⟩ := hw'
      subst hw''
      clear a0 a1 a2 a3 c0 c1 c2 c3 j1 j2
      have hbq := below_regrown wc dq osq
      have hnlt := fun (j : Nat) (v : Value) (h : wc.cell? ⟨Bn, j, none⟩ = some v) => (hbq.cell (block_lt_of_cell h)).trans h
      have n0 := hnlt _ _ n0
      have n1 := hnlt _ _ n1
      have n2 := hnlt _ _ n2
      have n3 := hnlt _ _ n3
      have HVq := Lib.hid (HV.out.keep hbq)
      have hRq := HRc.out.keep hbq
      have hLq := HLc.out.keep (hbq.mono (Nat.le_of_lt HV.out.lt))
      have hBq := hBc.trans (hbq.mono hBc.size)
      clear hbq hnlt HV HRc HLc hBc
      generalize grow (redrawn wc dq) osq = wq at *
      have v0 := HVq.out.at'.c0
      have v1 := HVq.out.at'.c1
      have v2 := HVq.out.at'.c2
      have v3 := HVq.out.at'.c3
      have y0 := HVq.out.fz 0
      have y1 := HVq.out.fz 1
      have y2 := HVq.out.fz 2
      have y3 := HVq.out.fz 3
      have hs := HVq.out.store r
      have hr2 := hRq.keepB hglt hs.2
      have hl2 := hLq.keep hs.2
      have hb2' := hBq.trans (hs.2.mono hBw4)
      have HS := Lib.hid hs.1
      clear hRq hLq hBq hs
      go_wp2_with (fail)
      clear v0 v1 v2 v3 y0 y1 y2 y3 n0 n1 n2 n3 HVq
      go_round
      case rel => exact ⟨k + 1, r, by omega, by go_num, by rw [HSuc.out, HSk.out]; go_num, HS.out, Hro.out, fun h => by omega, fun _ => HRr.out, hr2, hl2, hb2'⟩
      case measure => simp [intOf] <;> omega
namespace mergeBack
open Go.ChangeShapes Go.WideShapes Go.ChangeAt Go.RowKit
open Go.ChangeMaps (open_string shut_string)
theorem own : ownKnob Try.prog.godebug = none := by kernel_rfl
theorem laidOut : laidOutB Try.prog = true := by kernel_rfl

set_option maxRecDepth 100000 in
theorem lifted (os : Os) (started : os.Started) (H : Type) (enc : TypeId × Value → H) :
    ReturnsInHanded {} Try.checked os 5 .any (Rows.mergeBackSpec.pre6 enc Try.prog Try.f5 Rows.mergeBackRow.domain false) (Rows.mergeBackSpec.post enc Try.prog Try.f5 false true false false) := by
  refine returnsInHanded_of_change (C := Try.checked) own started (by kernel_rfl) Try.func5
    (ChangeSpec.witness6 (enc := enc) (C := Try.checked) false ⟨#[], #[.agg #[.string ByteArray.empty, .int .u16 0, .int .u8 0, .slice none 0 0, .string ByteArray.empty, .int .u16 0, .int .u8 0, .slice none 0 0], .int .u8 0], []⟩ 8 (by kernel_rfl) (by kernel_rfl) (by kernel_rfl) (by kernel_rfl)) ?_
  intro W base args ds gs before hval0 hW hcnd _
  have hval : ∀ (j : Nat) t v, Try.f5.params[j]? = some t → args[j]? = some v → Value.okWide Try.prog W .any base t v := hval0
  have hW' := hW
  obtain ⟨p, q, hA0, hV, rfl, hfz, hnd⟩ := hW
  have hA : DataW.TrodAll enc Try.prog W 0 (fun _ => true) true Try.f5.params.toList args.toList ds p := hA0
  rw [Try.params5] at hA hval
  obtain ⟨v0, vs0, d0, ds0, p0, q0, hargs, rfl, rfl, h0, r0⟩ := trodAll_cons hA
  obtain ⟨v1, vs1, d1, ds1, p1, q1, rfl, rfl, rfl, h1, r1⟩ := trodAll_cons r0
  obtain ⟨rfl, rfl, rfl⟩ := trodAll_nil r1
  obtain rfl : args = #[v0, v1] := by cases args; simp_all
  obtain ⟨rfl, rfl⟩ := trodVars_none hV
  have k0 := h0
  have lt0 : ∀ x ∈ p0, x.block < W.heap.size := by obtain ⟨m, hm⟩ := k0; exact DataW.trod_lt m _ _ _ hm
  have k1 := h1
  have lt1 : ∀ x ∈ p1, x.block < W.heap.size := by obtain ⟨m, hm⟩ := k1; exact DataW.trod_lt m _ _ _ hm
  obtain ⟨a0, p0', q0', b0, r0', s0', rfl, w0, i0, u0, k0'⟩ := open_drafts2 Try.underlying46 (by kernel_rfl) (hval 0 46 v0 rfl rfl) h0
  obtain ⟨a1, rfl, rfl, rfl, w1⟩ := open_int Try.underlying5 (hval 1 5 v1 rfl rfl) h1
  clear hA0 hval0
  refine (mergeBack_walk a0 p0' q0' b0 r0' s0' a1 W w0 i0 u0 k0' w1).mono fun e W' ⟨he, bel⟩ => ?_
  subst he
  exact ⟨_, rfl, _, _, _, [], _, [], hW', trodAll_mk1 (shut_bool Try.underlying4 _), (trodAll_cons_mk (Below.trod laidOut (by kernel_rfl) (of_decide_eq_true (by kernel_rfl)) k0 bel lt0) (trodAll_cons_mk (Below.trod laidOut (by kernel_rfl) (of_decide_eq_true (by kernel_rfl)) k1 bel lt1) trodAll_mk0)), rfl, bel.frame _, fun h => by cases h⟩

theorem over : Rows.mergeBackRow.holds Try.pinned (OpenSpec.ofChange Rows.mergeBackSpec) :=
  OpenClaim.holds_of_wide 5 Try.f5 rfl rfl rfl rfl rfl rfl rfl ⟨rfl, rfl, rfl, rfl, rfl⟩ rfl rfl rfl rfl rfl (by kernel_rfl) Try.func5 (by kernel_rfl)
    (of_decide_eq_true (by kernel_rfl)) (by unfold Func.isWrapper; first | (rw [if_pos (by decide +kernel)]; kernel_rfl) | (rw [if_neg (by decide +kernel)]; exact ⟨rfl, rfl⟩))
    (fun os started H enc _ => lifted os started H enc)

theorem proved : Rows.MergeBackSaid := over
#print axioms proved
end mergeBack
end Go.Proofs.Ytppdfnghojcppaa
