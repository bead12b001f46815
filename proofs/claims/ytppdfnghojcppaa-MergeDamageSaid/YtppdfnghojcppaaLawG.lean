/-
  MergeDamage.
-/
import Derived.Test.YtppdfnghojcppaaMergeL
import Derived.Deep.RegionHeld3
namespace Go.Proofs.Ytppdfnghojcppaa
open Go.RowKit Go.Sort
set_option linter.unusedVariables false

theorem Cutting.dmg_step {s : ByteArray} {n : Int} {cuts : List Int} (h : Cutting s n cuts) (a p : Nat) (ha : a < 8 * (pieceAt s n cuts cuts.length).data.size) (hp : p < 4294967296) {k : Nat} (hk : k ≤ cuts.length) {m : Mg} (hm : Ahead s n cuts k m) {q : Pc}
    (hq : q = if k < cuts.length then pieceAt s n cuts k else lastWith s n cuts (flipB (pieceAt s n cuts cuts.length).data a p)) :
    (join m q).2.2 = 0 ∧ ((join m q).2.1 = ⟨#[]⟩ ∨ (k = cuts.length ∧ flipB (pieceAt s n cuts cuts.length).data a p = (pieceAt s n cuts cuts.length).data)) ∧ (k < cuts.length → Ahead s n cuts (k + 1) (join m q).1) := by
  by_cases hlt : k < cuts.length
  · rw [if_pos hlt] at hq
    subst hq
    rw [h.join_mid hlt hm]
    exact ⟨rfl, .inl rfl, fun _ => h.ahead hlt⟩
  · rw [if_neg hlt] at hq
    subst hq
    obtain rfl : k = cuts.length := by omega
    by_cases he : flipB (pieceAt s n cuts cuts.length).data a p = (pieceAt s n cuts cuts.length).data
    · have : lastWith s n cuts (flipB (pieceAt s n cuts cuts.length).data a p) = pieceAt s n cuts cuts.length := by rw [he]; rfl
      rw [this, h.join_end hm]
      exact ⟨rfl, .inr ⟨rfl, he⟩, fun h => absurd h hlt⟩
    · have := h.join_damaged hm a p ha hp he
      rw [this]
      exact ⟨rfl, .inl rfl, fun h => absurd h hlt⟩

set_option maxRecDepth 100000 in
set_option maxHeartbeats 4000000 in
theorem mergeDamage_walk (D : Dr8) (p0 : Option Addr) (cap0 : Nat) (at' pat : Int) (w : World) (hD : D.wf) (hI : Ints w .u8 p0 D.cutsI) (hat : (Lit.int .u16 at').wf = true) (hpat : (Lit.int .u32 pat).wf = true) :
    Calls Try.prog 7 #[.agg #[.string D.data, .int .u16 (D.long : Int), .int .u8 (D.number : Int), .slice p0 D.cuts.length cap0], .int .u16 at', .int .u32 pat] w fun e w' => e = .returned (.bool true) ∧ Below w.heap.size w w' := by
  have hat2 := bounds_u16 hat
  have hpat2 := bounds_u32 hpat
  obtain ⟨an, rfl⟩ : ∃ n : Nat, at' = (n : Int) := ⟨at'.toNat, by omega⟩
  obtain ⟨pn, rfl⟩ : ∃ n : Nat, pat = (n : Int) := ⟨pat.toNat, by omega⟩
  clear hat hpat
  have hC := D.cut_ok 30
  have hl30 := D.offsets_length 30
  have CP := Lib.hid (Pieces_any D hD 30 (by omega) p0 cap0)
  have hLd : D.pieces 30 = pieces D.frame ((D.number : Int) % 4) (D.offsets 30) := rfl
  rw [hLd] at CP
  generalize D.frame = s at *
  generalize (D.number : Int) % 4 = num at *
  generalize D.offsets 30 = cuts at *
  have HC := Lib.hid hC
  have HI := Lib.hid hI
  have hlen := pieces_length s num cuts
  have hgl : (pieces s num cuts).getD cuts.length Pc.zero = pieceAt s num cuts cuts.length := by rw [List.getD_eq_getElem?_getD, pieces_at _ _ _ _ (by omega)]; rfl
  have HG := Lib.hid hgl
  clear hLd hC hI hD hgl
  go_enter Try.func7, Try.ntmps7
  go_wp2_with (fail)
  refine (works_any _).mono ?_
  rintro e w1 ⟨rfl, g1⟩
  have hB1 : Below w.heap.size w w1 := Below.trans ((Below.refl _ w).alloc (Nat.le_refl _) _) (g1.mono (by simp))
  have hbx := fun j => (g1.cell (p := ⟨w.heap.size, j, none⟩) (by simp)).trans (World.cell?_alloc_at _ _ _ _ rfl)
  have b0 : w1.cell? ⟨w.heap.size, 0, none⟩ = some (.string D.data) := hbx 0
  have b1 : w1.cell? ⟨w.heap.size, 1, none⟩ = some (.int .u16 (D.long : Int)) := hbx 1
  have b2 : w1.cell? ⟨w.heap.size, 2, none⟩ = some (.int .u8 (D.number : Int)) := hbx 2
  have b3 : w1.cell? ⟨w.heap.size, 3, none⟩ = some (.slice p0 D.cuts.length cap0) := hbx 3
  clear hbx g1
  go_wp2_with (fail)
  refine (CP.out _ (HI.out.keep hB1)).mono ?_
  rintro e w2 ⟨v, rfl, hrow, g2⟩
  have hB2 := hB1.trans (g2.mono hB1.size)
  have hb12 := hB1.size
  have hR0 := hrow.lower (B' := w.heap.size) hB1.size
  obtain ⟨g, cap, rfl, _, hglt, _⟩ := hrow.at (j := cuts.length) (by omega)
  have hpc := hrow.at4 (j := cuts.length) (by omega)
  rw [HG.out] at hpc
  have hsz := HC.out.piece_size (i := cuts.length) (Nat.le_refl _)
  have hss := HC.out.size
  have hlast := HC.out.last (Nat.le_refl _)
  rw [if_neg (by omega)] at hsz
  have hd64 : 64 ≤ (pieceAt s num cuts cuts.length).data.size ∧ (pieceAt s num cuts cuts.length).data.size ≤ 1522 := by omega
  have HR := Lib.hid hR0
  have c3 := hpc.c3
  clear b0 b1 b2 b3 hrow g2 CP hpc hR0 hsz hlast
  rw [hlen] at HR ⊢
  obtain ⟨d, hd⟩ : ∃ d, (pieceAt s num cuts cuts.length).data = d := ⟨_, rfl⟩
  rw [hd] at c3 hd64
  have HDd := Lib.hid hd
  clear hd
  go_wp2_with (fail)
  have hcast : (an : Int) % (8 * (d.size : Int)) = ((an % (8 * d.size) : Nat) : Int) := by push_cast; rfl
  rw [hcast]
  have hax : an % (8 * d.size) < 8 * d.size := Nat.mod_lt _ (by omega)
  generalize an % (8 * d.size) = ax at hax
  clear hcast
  refine (Flip_any d (by omega) ax (by omega) pn (by omega) _).mono ?_
  rintro e w3 ⟨rfl, g3⟩
  have HR3 := Lib.hid (HR.out.keep g3)
  have hB3 := hB2.trans (g3.mono hB2.size)
  have hglt3 : g < w3.heap.size := Nat.lt_of_lt_of_le hglt g3.size
  have hstep := fun (k : Nat) (hk : k ≤ cuts.length) (m : Mg) (hm : Ahead s num cuts k m) (q : Pc) => HC.out.dmg_step ax pn (by rw [HDd.out]; exact hax) (by omega) hk hm (q := q)
  rw [HDd.out] at hstep
  have HSt := Lib.hid hstep
  clear hstep g3 HR hB2 c3
  have hfs : (flipB d ax pn).size = d.size := flipB_size _ _ _
  generalize flipB d ax pn = fl at *
  have c3 := ((hlen ▸ HR3.out : Rw w3 w.heap.size (.slice (some ⟨g, 0, none⟩) (pieces s num cuts).length cap) (pieces s num cuts)).at4 (j := cuts.length) (by omega)).c3
  have z3 := (hlen ▸ HR3.out : Rw w3 w.heap.size (.slice (some ⟨g, 0, none⟩) (pieces s num cuts).length cap) (pieces s num cuts)).fz (cuts.length * 4 + 3)
  have hset := (hlen ▸ HR3.out : Rw w3 w.heap.size (.slice (some ⟨g, 0, none⟩) (pieces s num cuts).length cap) (pieces s num cuts)).setText (k := cuts.length) (by omega) fl
  rw [hlen, HG.out] at hset
  rw [HG.out] at c3
  have hgk : ∀ k, k ≤ cuts.length → ((pieces s num cuts).set cuts.length { pieceAt s num cuts cuts.length with data := fl }).getD k Pc.zero = if k < cuts.length then pieceAt s num cuts k else lastWith s num cuts fl := by
    intro k hk
    rw [List.getD_eq_getElem?_getD, List.getElem?_set]
    by_cases h : k < cuts.length
    · rw [if_neg (by omega), if_pos h, pieces_at _ _ _ _ (by omega)]; rfl
    · obtain rfl : k = cuts.length := by omega
      rw [if_pos rfl, if_neg h, if_pos (by omega)]; rfl
  have hll : ((pieces s num cuts).set cuts.length { pieceAt s num cuts cuts.length with data := fl }).length = cuts.length + 1 := by rw [List.length_set, hlen]
  generalize (pieces s num cuts).set cuts.length { pieceAt s num cuts cuts.length with data := fl } = L at hset hgk hll
  have HGK := Lib.hid hgk
  have hB4 : Below w.heap.size w (w3.setCell ⟨g, cuts.length * 4 + 3, none⟩ (.string fl)) := hB3.setCell (p := ⟨g, cuts.length * 4 + 3, none⟩) (by show w.heap.size ≤ g; omega) _
  have hz4 : (w3.setCell ⟨g, cuts.length * 4 + 3, none⟩ (.string fl)).heap.size = w3.heap.size := by simp
  have HRs := Lib.hid hset
  clear hgk hset HR3
  go_upto_region 7 with fail
  clear c3 z3
  generalize w3.setCell ⟨g, cuts.length * 4 + 3, none⟩ (.string fl) = w4 at *
  have hM0 := Lib.hid (mv_new w4 Mg.zero)
  have HR5 := Lib.hid (HRs.out.keep (W' := w4.alloc (.cells #[.bool Mg.zero.on, .int .i64 Mg.zero.number, .int .i64 Mg.zero.next, .string Mg.zero.data] 43)) (by repeat' (first | exact Below.refl _ _ | assumption | refine below_drewN ?_ _ | refine Below.drew ?_ | refine Below.alloc ?_ (by (first | exact Nat.le_refl _ | assumption | (simp; done) | omega | (simp; omega))) _ | refine Below.setCell ?_ (by (first | exact Nat.le_refl _ | assumption | (simp; done) | omega | (simp; omega))) _ | refine Below.trans ?_ (Below.mono (by assumption) (by (first | exact Nat.le_refl _ | assumption | (simp; done) | omega | (simp; omega)))))))
  have hB5 : Below w.heap.size w (w4.alloc (.cells #[.bool Mg.zero.on, .int .i64 Mg.zero.number, .int .i64 Mg.zero.next, .string Mg.zero.data] 43)) := hB4.alloc hB4.size _
  have hgB : g < w4.heap.size := by omega
  have h0a : Ahead s num cuts 0 Mg.zero := ⟨zero_ok, .inl rfl⟩
  have HA := Lib.hid h0a
  clear h0a HRs hz4 hglt3 hB3 HG
  go_wp2_with (fail)
  go_loopw [11] (fun i wr => ∃ (k : Nat) (m : Mg), k ≤ cuts.length + 1 ∧ i = .int .i64 k ∧ MV wr w4.heap.size m ∧ m.ok = true ∧ (k ≤ cuts.length → Ahead s num cuts k m) ∧ Rw wr w.heap.size (.slice (some ⟨g, 0, none⟩) (cuts.length + 1) cap) L ∧ Below w.heap.size w wr) (fun i _ => cuts.length + 1 - (intOf i).toNat)
  case atStart => exact ⟨0, Mg.zero, by omega, rfl, hM0.out, zero_ok, fun _ => HA.out, HR5.out, hB5⟩
  case round =>
    obtain ⟨k, m, hk, rfl, hMV, hmok, hah, hrow, hB⟩ := hrel
    clear hM0 HR5 hB5 HA
    by_cases hkl : k < cuts.length + 1
    case neg =>
      obtain rfl : k = cuts.length + 1 := by omega
      have hkl' : ¬ (((cuts.length + 1 : Nat) : Int) < (cuts.length : Int) + 1) := by omega
      clear hMV hah hrow
      go_wp2_with (fail)
      go_ret
      exact ⟨rfl, hB⟩
    have hkl' : (k : Int) < (cuts.length : Int) + 1 := by omega
    have hq := HGK.out k (by omega)
    have hpc := (hll ▸ hrow : Rw wr w.heap.size (.slice (some ⟨g, 0, none⟩) L.length cap) L).at4 (j := k) (by omega)
    have hpl := (hll ▸ hrow : Rw wr w.heap.size (.slice (some ⟨g, 0, none⟩) L.length cap) L).at4 (j := cuts.length) (by omega)
    have hql := HGK.out cuts.length (by omega)
    rw [if_neg (by omega)] at hql
    rw [hql] at hpl
    clear hql
    have hst := HSt.out k (by omega) m (hah (by omega)) _ hq
    have hqs : (L.getD k Pc.zero).data.size ≤ 9000000000000000000 := by
      rw [hq]
      split
      · have := HC.out.piece_ok (i := k) (by omega)
        rw [Pc.ok_iff] at this
        omega
      · show fl.size ≤ _
        omega
    generalize L.getD k Pc.zero = q at hq hpc hst hqs
    have CJ := Lib.hid (MJoin_any m q (by have := Mg.ok_size hmok; omega) hqs)
    unfold JRet at CJ
    have hro := join_ok m q
    generalize (join m q).1 = r at CJ hst hro
    generalize (join m q).2.1 = f at CJ hst
    obtain ⟨hc0, hf, hnx⟩ := hst
    rw [hc0] at CJ
    have HS0 : Hid (wr.cell? ⟨w4.heap.size, 0, none⟩ = some (.bool m.on) ∧ wr.cell? ⟨w4.heap.size, 1, none⟩ = some (.int .i64 m.number) ∧ wr.cell? ⟨w4.heap.size, 2, none⟩ = some (.int .i64 m.next) ∧ wr.cell? ⟨w4.heap.size, 3, none⟩ = some (.string m.data) ∧ wr.cell? ⟨g, k * 4, none⟩ = some (.bool q.start) ∧ wr.cell? ⟨g, k * 4 + 1, none⟩ = some (.int .i64 q.number) ∧ wr.cell? ⟨g, k * 4 + 2, none⟩ = some (.int .i64 q.count) ∧ wr.cell? ⟨g, k * 4 + 3, none⟩ = some (.string q.data)) := Lib.hid ⟨hMV.at'.c0, hMV.at'.c1, hMV.at'.c2, hMV.at'.c3, hpc.c0, hpc.c1, hpc.c2, hpc.c3⟩
    have HMV := Lib.hid hMV
    have HRow := Lib.hid hrow
    have HPL := Lib.hid hpl
    have Hnx := Lib.hid hnx
    have Hf := Lib.hid hf
    have Hro := Lib.hid hro
    clear hq hpc hMV hah hrow hpl hnx hf hc0 hqs hmok hro
    go_upto_region 11 with fail
    go_cut [12, 13, 14] (fun s12 s13 s14 wx => s13 = .string f ∧ s14 = .int .i64 0 ∧ ∃ Bn, s12 = .pointer (some ⟨Bn, 0, none⟩) ∧ NB wr wx Bn r)
    case first =>
      have hS := HS0.out
      have hBw : w4.heap.size < wr.heap.size := HMV.out.lt
      have hgw : g < wr.heap.size := by omega
      go_region_held3 (fun w' => w'.cell? ⟨w4.heap.size, 0, none⟩ = some (.bool m.on) ∧ w'.cell? ⟨w4.heap.size, 1, none⟩ = some (.int .i64 m.number) ∧ w'.cell? ⟨w4.heap.size, 2, none⟩ = some (.int .i64 m.next) ∧ w'.cell? ⟨w4.heap.size, 3, none⟩ = some (.string m.data) ∧ w'.cell? ⟨g, k * 4, none⟩ = some (.bool q.start) ∧ w'.cell? ⟨g, k * 4 + 1, none⟩ = some (.int .i64 q.number) ∧ w'.cell? ⟨g, k * 4 + 2, none⟩ = some (.int .i64 q.count) ∧ w'.cell? ⟨g, k * 4 + 3, none⟩ = some (.string q.data)) (first | with_reducible exact hS | with_reducible exact cells8p r hS hBw hgw | go_keep) (first | (go_at_call 20; refine (CJ.out _).mono ?_; rintro e wn ⟨rfl, gn⟩; have hS := cells8 (by assumption) gn; (try (have n0 : wn.cell? ⟨wr.heap.size, 0, none⟩ = some (.bool false) := (gn.cell (p := ⟨wr.heap.size, 0, none⟩) (by simp)).trans (World.cell?_alloc_at _ _ _ _ rfl); have n1 : wn.cell? ⟨wr.heap.size, 1, none⟩ = some (.int .i64 0) := (gn.cell (p := ⟨wr.heap.size, 1, none⟩) (by simp)).trans (World.cell?_alloc_at _ _ _ _ rfl); have n2 : wn.cell? ⟨wr.heap.size, 2, none⟩ = some (.int .i64 0) := (gn.cell (p := ⟨wr.heap.size, 2, none⟩) (by simp)).trans (World.cell?_alloc_at _ _ _ _ rfl); have n3 : wn.cell? ⟨wr.heap.size, 3, none⟩ = some (.string ⟨#[]⟩) := (gn.cell (p := ⟨wr.heap.size, 3, none⟩) (by simp)).trans (World.cell?_alloc_at _ _ _ _ rfl); have f0 := fun j => (gn.frozen (p := ⟨wr.heap.size, j, none⟩) (by simp)).trans (World.frozen?_alloc_at _ _ _ _ rfl); have z0 := f0 0; have z1 := f0 1; have z2 := f0 2; have z3 := f0 3))))
      · have hg : Below wr.heap.size wr wn := Below.trans (Below.drew (Below.refl _ wr)) gn
        go_wp2_with (fail)
        go_meet
        exact ⟨rfl, rfl, _, rfl, nb_alloc r hg⟩
      · have hg : Below wr.heap.size wr wn := Below.trans ((Below.drew (Below.refl _ wr)).alloc (Nat.le_refl _) _) (gn.mono (by simp))
        have hz : wr.heap.size < wn.heap.size := by have := gn.size; simp at this; omega
        go_wp2_with (fail)
        go_meet
        exact ⟨rfl, rfl, _, rfl, nb_put r hg hz n0 n1 n2 n3⟩
    case rest =>
    obtain ⟨rfl, rfl, Bn, rfl, hNB⟩ := ‹_ ∧ _ ∧ ∃ Bn, _›
    clear HS0 CJ
    have HV := Lib.hid (HMV.out.keep hNB.bel)
    have HRc := Lib.hid (HRow.out.keep hNB.bel)
    have hBc := hB.trans (hNB.bel.mono hB.size)
    have n0 := hNB.at'.c0
    have n1 := hNB.at'.c1
    have n2 := hNB.at'.c2
    have n3 := hNB.at'.c3
    have v0 := HV.out.at'.c0
    have v1 := HV.out.at'.c1
    have v2 := HV.out.at'.c2
    have v3 := HV.out.at'.c3
    have y0 := HV.out.fz 0
    have y1 := HV.out.fz 1
    have y2 := HV.out.fz 2
    have y3 := HV.out.fz 3
    have hpl3 : wc.cell? ⟨g, cuts.length * 4 + 3, none⟩ = some (.string fl) := (hNB.bel.cell (block_lt_of_cell HPL.out.c3)).trans HPL.out.c3
    clear hNB HMV HRow HPL hB
    have hgB4 : g < w4.heap.size := hgB
    have hBw4 : w.heap.size ≤ w4.heap.size := hB4.size
    by_cases hf0 : f = ⟨#[]⟩
    · subst hf0
      go_wp2_with (fail)
      all_goals
        have hs := HV.out.store r
        have hr2 := HRc.out.keepB hgB4 hs.2
        have hb2 := hBc.trans (hs.2.mono hBw4)
        clear n0 n1 n2 n3 v0 v1 v2 v3 y0 y1 y2 y3 hpl3 HV HRc hBc
        go_round
        case rel => exact ⟨k + 1, r, by omega, by go_num, hs.1, Hro.out, fun h => Hnx.out (by omega), hr2, hb2⟩
        case measure => simp [intOf] <;> omega
    · have hf' := ba_ne hf0
      obtain ⟨rfl, rfl⟩ := Hf.out.resolve_left hf0
      go_wp2_with (fail)
      all_goals
        have hs := HV.out.store r
        have hr2 := HRc.out.keepB hgB4 hs.2
        have hb2 := hBc.trans (hs.2.mono hBw4)
        clear n0 n1 n2 n3 v0 v1 v2 v3 y0 y1 y2 y3 hpl3 HV HRc hBc
        go_round
        case rel => exact ⟨cuts.length + 1, r, by omega, by go_num, hs.1, Hro.out, fun h => Hnx.out (by omega), hr2, hb2⟩
        case measure => simp [intOf] <;> omega

namespace mergeDamage
open Go.ChangeShapes Go.WideShapes Go.ChangeAt Go.RowKit
open Go.ChangeMaps (open_string shut_string)
theorem own : ownKnob Try.prog.godebug = none := by kernel_rfl
theorem laidOut : laidOutB Try.prog = true := by kernel_rfl

set_option maxRecDepth 100000 in
theorem lifted (os : Os) (started : os.Started) (H : Type) (enc : TypeId × Value → H) :
    ReturnsInHanded {} Try.checked os 7 .any (Rows.mergeDamageSpec.pre6 enc Try.prog Try.f7 Rows.mergeDamageRow.domain false) (Rows.mergeDamageSpec.post enc Try.prog Try.f7 false true false false) := by
  refine returnsInHanded_of_change (C := Try.checked) own started (by kernel_rfl) Try.func7
    (ChangeSpec.witness6 (enc := enc) (C := Try.checked) false ⟨#[], #[.agg #[.string ByteArray.empty, .int .u16 0, .int .u8 0, .slice none 0 0], .int .u16 0, .int .u32 0], []⟩ 8 (by kernel_rfl) (by kernel_rfl) (by kernel_rfl) (by kernel_rfl)) ?_
  intro W base args ds gs before hval0 hW hcnd _
  have hval : ∀ (j : Nat) t v, Try.f7.params[j]? = some t → args[j]? = some v → Value.okWide Try.prog W .any base t v := hval0
  have hW' := hW
  obtain ⟨p, q, hA0, hV, rfl, hfz, hnd⟩ := hW
  have hA : DataW.TrodAll enc Try.prog W 0 (fun _ => true) true Try.f7.params.toList args.toList ds p := hA0
  rw [Try.params7] at hA hval
  obtain ⟨v0, vs0, d0, ds0, p0, q0, hargs, rfl, rfl, h0, r0⟩ := trodAll_cons hA
  obtain ⟨v1, vs1, d1, ds1, p1, q1, rfl, rfl, rfl, h1, r1⟩ := trodAll_cons r0
  obtain ⟨v2, vs2, d2, ds2, p2, q2, rfl, rfl, rfl, h2, r2⟩ := trodAll_cons r1
  obtain ⟨rfl, rfl, rfl⟩ := trodAll_nil r2
  obtain rfl : args = #[v0, v1, v2] := by cases args; simp_all
  obtain ⟨rfl, rfl⟩ := trodVars_none hV
  have k0 := h0
  have lt0 : ∀ x ∈ p0, x.block < W.heap.size := by obtain ⟨m, hm⟩ := k0; exact DataW.trod_lt m _ _ _ hm
  have k1 := h1
  have lt1 : ∀ x ∈ p1, x.block < W.heap.size := by obtain ⟨m, hm⟩ := k1; exact DataW.trod_lt m _ _ _ hm
  have k2 := h2
  have lt2 : ∀ x ∈ p2, x.block < W.heap.size := by obtain ⟨m, hm⟩ := k2; exact DataW.trod_lt m _ _ _ hm
  obtain ⟨a0, p0', q0', rfl, w0, i0⟩ := open_draft8 (hval 0 25 v0 rfl rfl) h0
  obtain ⟨a1, rfl, rfl, rfl, w1⟩ := open_int Try.underlying22 (hval 1 22 v1 rfl rfl) h1
  obtain ⟨a2, rfl, rfl, rfl, w2⟩ := open_int Try.underlying51 (hval 2 51 v2 rfl rfl) h2
  clear hA0 hval0
  refine (mergeDamage_walk a0 p0' q0' a1 a2 W w0 i0 w1 w2).mono fun e W' ⟨he, bel⟩ => ?_
  subst he
  exact ⟨_, rfl, _, _, _, [], _, [], hW', trodAll_mk1 (shut_bool Try.underlying4 _), (trodAll_cons_mk (Below.trod laidOut (by kernel_rfl) (of_decide_eq_true (by kernel_rfl)) k0 bel lt0) (trodAll_cons_mk (Below.trod laidOut (by kernel_rfl) (of_decide_eq_true (by kernel_rfl)) k1 bel lt1) (trodAll_cons_mk (Below.trod laidOut (by kernel_rfl) (of_decide_eq_true (by kernel_rfl)) k2 bel lt2) trodAll_mk0))), rfl, bel.frame _, fun h => by cases h⟩

theorem over : Rows.mergeDamageRow.holds Try.pinned (OpenSpec.ofChange Rows.mergeDamageSpec) :=
  OpenClaim.holds_of_wide 7 Try.f7 rfl rfl rfl rfl rfl rfl rfl ⟨rfl, rfl, rfl, rfl, rfl⟩ rfl rfl rfl rfl rfl (by kernel_rfl) Try.func7 (by kernel_rfl)
    (of_decide_eq_true (by kernel_rfl)) (by unfold Func.isWrapper; first | (rw [if_pos (by decide +kernel)]; kernel_rfl) | (rw [if_neg (by decide +kernel)]; exact ⟨rfl, rfl⟩))
    (fun os started H enc _ => lifted os started H enc)

theorem proved : Rows.MergeDamageSaid := over
#print axioms proved
end mergeDamage
end Go.Proofs.Ytppdfnghojcppaa
