/-
  MergeMixed.
-/
import Derived.Test.YtppdfnghojcppaaMergeL
import Derived.Test.YtppdfnghojcppaaMergeM
import Derived.Deep.RegionHeld3
import Derived.Deep.CutBlock
namespace Go.Proofs.Ytppdfnghojcppaa
open Go.RowKit Go.Sort
set_option linter.unusedVariables false

/-- The numbers that the array's drafts hold when the first k have been set. -/
def numK (D : Nat → Dr8) (k i : Nat) : Int := if i < k then (i : Int) else ((D i).number : Int)
structure Arr (D : Nat → Dr8) (p : Nat → Option Addr) (cap : Nat → Nat) (n k : Nat) (W : World) : Prop where
  c0 : ∀ i, i < 4 → W.cell? ⟨n, i * 4, none⟩ = some (.string (D i).data)
  c1 : ∀ i, i < 4 → W.cell? ⟨n, i * 4 + 1, none⟩ = some (.int .u16 ((D i).long : Int))
  c2 : ∀ i, i < 4 → W.cell? ⟨n, i * 4 + 2, none⟩ = some (.int .u8 (numK D k i))
  c3 : ∀ i, i < 4 → W.cell? ⟨n, i * 4 + 3, none⟩ = some (.slice (p i) (D i).cuts.length (cap i))
  fz : ∀ j, W.frozen? ⟨n, j, none⟩ = false
  lt : n < W.heap.size
theorem Arr.keep {D : Nat → Dr8} {p : Nat → Option Addr} {cap : Nat → Nat} {n k : Nat} {W W' : World} (h : Arr D p cap n k W) (hb : Below (n + 1) W W') : Arr D p cap n k W' :=
  have c := fun j => hb.cell (p := ⟨n, j, none⟩) (by show n < n + 1; omega)
  ⟨fun i hi => (c _).trans (h.c0 i hi), fun i hi => (c _).trans (h.c1 i hi), fun i hi => (c _).trans (h.c2 i hi), fun i hi => (c _).trans (h.c3 i hi), fun j => by rw [hb.frozen (p := ⟨n, j, none⟩) (by show n < n + 1; omega)]; exact h.fz j, Nat.lt_of_lt_of_le h.lt hb.size⟩
theorem Arr.set {D : Nat → Dr8} {p : Nat → Option Addr} {cap : Nat → Nat} {n k : Nat} {W : World} (h : Arr D p cap n k W) (hk : k < 4) : Arr D p cap n (k + 1) (W.setCell ⟨n, k * 4 + 2, none⟩ (.int .u8 (k : Int))) := by
  refine ⟨fun i hi => ?_, fun i hi => ?_, fun i hi => ?_, fun i hi => ?_, fun j => by rw [World.frozen?_setCell]; exact h.fz j, by have := h.lt; simpa using this⟩
  · rw [cell_set _ _ (h.c0 i hi), if_neg (by omega)]
  · rw [cell_set _ _ (h.c1 i hi), if_neg (by omega)]
  · rw [cell_set _ _ (h.c2 i hi)]
    by_cases e : i = k
    · subst e
      rw [if_pos rfl]
      unfold numK
      rw [if_pos (by omega)]
    · rw [if_neg (by omega)]
      unfold numK
      by_cases hik : i < k
      · rw [if_pos hik, if_pos (by omega)]
      · rw [if_neg hik, if_neg (by omega)]
  · rw [cell_set _ _ (h.c3 i hi), if_neg (by omega)]
theorem Rw.cellset {W : World} {B n j : Nat} {v u : Value} {l : List Pc} (h : Rw W B v l) (hn : n < B) : Rw (W.setCell ⟨n, j, none⟩ u) B v l := by
  refine ⟨h.1, ?_⟩
  rcases h.2 with hv | ⟨g, cap, cur, hv, hB, hh, rest⟩
  · exact .inl hv
  · exact .inr ⟨g, cap, cur, hv, hB, (Below.heap_setCell _ _ _ g (by show g ≠ n; omega)).trans hh, rest⟩
theorem Rw.joined {W w1 : World} {B : Nat} {v v' : Value} {l l2 : List Pc} (_h : Rw W B v l) (ho : w1.ownsRow B 45 4 v' (l.length + l2.length) (flat l ++ flat l2)) : Rw w1 B v' (l ++ l2) := by
  unfold Rw
  rw [flat_append, List.length_append]
  exact ho
theorem Rw.added2 {W w1 : World} {B : Nat} {v : Value} {l : List Pc} (h : Rw W B v l) (hB : B ≤ W.heap.size) (hg : W.grownBy w1 v.ownBlock) : Below B W w1 := by
  refine (Below.refl B W).grown hg hB fun j ej => ?_
  rcases h.2 with ⟨rfl, _⟩ | ⟨g, cap, cur, rfl, hb, _, _⟩
  · simp [Value.ownBlock] at ej
  · obtain rfl : g = j := by simpa [Value.ownBlock] using ej
    exact hb
theorem cells4 {W W' : World} {a0 a1 a2 a3 : Addr} {v0 v1 v2 v3 : Value} (h : W.cell? a0 = some v0 ∧ W.cell? a1 = some v1 ∧ W.cell? a2 = some v2 ∧ W.cell? a3 = some v3) (hb : Below W.heap.size W W') :
    W'.cell? a0 = some v0 ∧ W'.cell? a1 = some v1 ∧ W'.cell? a2 = some v2 ∧ W'.cell? a3 = some v3 :=
  have k := fun (a : Addr) (v : Value) (h : W.cell? a = some v) => (hb.cell (block_lt_of_cell h)).trans h
  ⟨k _ _ h.1, k _ _ h.2.1, k _ _ h.2.2.1, k _ _ h.2.2.2⟩
theorem Check_ok {m : Mg} (h : m.ok = true) : Gives 22 #[.agg #[.bool m.on, .int .i64 m.number, .int .i64 m.next, .string m.data]] (.int .i64 0) := fun W => by
  have := Check_any m (by have := Mg.ok_size h; omega) W
  have hc : m.code = 0 := by unfold Mg.code; rw [if_pos h]
  rwa [hc] at this
theorem not_empty {s : ByteArray} (h : s ≠ ⟨#[]⟩) : s.toList.isEmpty = false := by
  rw [List.isEmpty_eq_false_iff]
  exact fun e => h (ba_eq (by rw [e]; simp))
/-- The four drafts, numbered. -/
def numbered (D : Nat → Dr8) (i : Nat) : Dr8 := { D i with number := i }
def fsOf (D : Nat → Dr8) (i : Nat) : ByteArray := (D i).frame
def csOf (D : Nat → Dr8) (i : Nat) : List Int := (D i).offsets 4
theorem four_of (D : Nat → Dr8) : Four (fsOf D) (csOf D) := by
  refine ⟨fun i hi => ?_, fun i hi => (D i).offsets_length 4⟩
  have h := (numbered D i).cut_ok 4
  have e : ((numbered D i).number : Int) % 4 = (i : Int) := by show (i : Int) % 4 = (i : Int); omega
  rw [e] at h
  exact h

set_option maxRecDepth 100000 in
set_option maxHeartbeats 4000000 in
theorem mergeMixed_walk (D : Nat → Dr8) (p : Nat → Option Addr) (cap : Nat → Nat) (po : Option Addr) (capo : Nat) (lo : List Int) (w : World) (hD : ∀ i, i < 4 → (D i).wf ∧ Ints w .u8 (p i) (D i).cutsI) (hpo : Ints w .u8 po lo) (hlo : ∀ z ∈ lo, (Lit.int .u8 z).wf = true) (hll : lo.length ≤ maxLen) :
    Calls Try.prog 6 #[.agg (draftV (D 0) (p 0) (cap 0) ++ (draftV (D 1) (p 1) (cap 1) ++ (draftV (D 2) (p 2) (cap 2) ++ draftV (D 3) (p 3) (cap 3)))).toArray, .slice po lo.length capo] w fun e w' => e = .returned (.bool true) ∧ Below w.heap.size w w' := by
  unfold maxLen at hll
  have HF := Lib.hid (four_of D)
  have HD := Lib.hid hD
  have HPo := Lib.hid hpo
  have HLo := Lib.hid hlo
  have hA0 : Arr D p cap w.heap.size 0 (w.alloc (.cells (draftV (D 0) (p 0) (cap 0) ++ (draftV (D 1) (p 1) (cap 1) ++ (draftV (D 2) (p 2) (cap 2) ++ draftV (D 3) (p 3) (cap 3)))).toArray 59)) := by
    refine ⟨fun i hi => ?_, fun i hi => ?_, fun i hi => ?_, fun i hi => ?_, fun j => World.frozen?_alloc_at _ _ _ _ rfl, by simp⟩
    all_goals
      rw [World.cell?_alloc_at _ _ _ _ rfl]
      match i, hi with
      | 0, _ => rfl
      | 1, _ => rfl
      | 2, _ => rfl
      | 3, _ => rfl
  simp only [draftV, List.cons_append, List.nil_append] at hA0 ⊢
  have HA0 := Lib.hid hA0
  clear hA0 hD hpo hlo
  obtain ⟨i0, hi, hz0, hz1, hz2⟩ := info_parts infoPc
  have IH := Lib.hid hi
  have IZ := Lib.hid hz0
  have IZ1 := Lib.hid hz1
  have IZ2 := Lib.hid hz2
  clear hi hz0 hz1 hz2
  go_enter Try.func6, Try.ntmps6
  go_wp2_with (fail)
  refine (works_any _).mono ?_
  rintro e w1 ⟨rfl, g1⟩
  have hB1 : Below w.heap.size w w1 := Below.trans ((Below.refl _ w).alloc (Nat.le_refl _) _) (g1.mono (by simp))
  have HA1 := Lib.hid (HA0.out.keep (g1.mono (by simp)))
  clear g1 HA0
  go_upto_block 0 with fail
  go_cut [5] (fun s5 wx => Arr D p cap w.heap.size 4 wx ∧ Rw wx (w.heap.size + 1) s5 (upTo (fsOf D) (csOf D) 4) ∧ Below w.heap.size w wx)
  case first =>
    go_wp2_with (fail)
    go_loopw [5, 6] (fun v i wr => ∃ k : Nat, k ≤ 4 ∧ i = .int .i64 k ∧ Arr D p cap w.heap.size k wr ∧ Rw wr (w.heap.size + 1) v (upTo (fsOf D) (csOf D) k) ∧ Below w.heap.size w wr) (fun _ i _ => 4 - (intOf i).toNat)
    case atStart => exact ⟨0, by omega, rfl, HA1.out, Rw.nil _ _, hB1⟩
    case round =>
      obtain ⟨k, hk, rfl, hA, hrow, hB⟩ := hrel
      clear HA1 hB1
      by_cases hkl : k < 4
      case neg =>
        obtain rfl : k = 4 := by omega
        have HE : Hid (Arr D p cap w.heap.size 4 wr ∧ Rw wr (w.heap.size + 1) u5 (upTo (fsOf D) (csOf D) 4) ∧ Below w.heap.size w wr) := Lib.hid ⟨hA, hrow, hB⟩
        clear hA hrow hB
        go_wp2_with (fail)
        go_meet
        exact HE.out
      have hkl' : (k : Int) < 4 := by omega
      have hw8 : IntKind.u8.wrap (k : Int) = (k : Int) := by rw [IntKind.wrap_u8']; omega
      have hA2 := Lib.hid (hA.set hkl)
      have hR2 := Lib.hid (hrow.cellset (n := w.heap.size) (j := k * 4 + 2) (u := .int .u8 (k : Int)) (by omega))
      have hB2 : Below w.heap.size w (wr.setCell ⟨w.heap.size, k * 4 + 2, none⟩ (.int .u8 (k : Int))) := hB.setCell (p := ⟨w.heap.size, k * 4 + 2, none⟩) (Nat.le_refl _) _
      have a2 := hA.c2 k hkl
      have z2 := hA.fz (k * 4 + 2)
      clear hA hrow hB
      go_upto_region 8 with fail
      clear a2 z2
      generalize wr.setCell ⟨w.heap.size, k * 4 + 2, none⟩ (.int .u8 (k : Int)) = wq at *
      obtain ⟨hwf, hin⟩ := HD.out k hkl
      have hwf' : (numbered D k).wf := ⟨hwf.l, by show k < 256; omega, hwf.c, hwf.s, hwf.z⟩
      have hfr := (D k).frame_range
      have hC := HF.out.cut k hkl
      have hfew := HF.out.few k hkl
      have CF : Hid (∀ W, Calls Try.prog 11 #[.agg #[.string (D k).data, .int .u16 ((D k).long : Int), .int .u8 (k : Int), .slice (p k) (D k).cuts.length (cap k)]] W fun e w' => e = .returned (.string (fsOf D k)) ∧ Below W.heap.size W w') := Lib.hid (Frame_any (numbered D k) hwf'.l hwf'.s (.slice (p k) (D k).cuts.length (cap k)) rfl)
      have CO : Hid (∀ W, Ints W .u8 (p k) (D k).cutsI → Calls Try.prog 10 #[.agg #[.string (D k).data, .int .u16 ((D k).long : Int), .int .u8 (k : Int), .slice (p k) (D k).cuts.length (cap k)], .int .i64 4] W fun e w' => ∃ v, e = .returned v ∧ OwnI w' W.heap.size v (csOf D k) ∧ Below W.heap.size W w') := Lib.hid (Offsets_any (numbered D k) hwf' 4 (by omega) (p k) (cap k))
      have CC := Lib.hid (fun p' cap' W h => MCut_any (fsOf D k) (by have := hC.size; omega) (k : Int) p' cap' (csOf D k) W (by omega) h)
      unfold CRet at CC
      rw [hC.cutE, hC.cutL] at CC
      have HIn := Lib.hid hin
      have hup : upTo (fsOf D) (csOf D) (k + 1) = upTo (fsOf D) (csOf D) k ++ pieces (fsOf D k) (k : Int) (csOf D k) := rfl
      have hln := pieces_length (fsOf D k) (k : Int) (csOf D k)
      have hu5 := upTo_few HF.out k (by omega)
      have HUp := Lib.hid hup
      have hca : (D k).cutsI.length = (D k).cuts.length := (D k).cutsI_length
      clear hwf hwf' hin hup hfr hC hca
      generalize upTo (fsOf D) (csOf D) k = U at hR2 HUp hu5
      generalize pieces (fsOf D k) (k : Int) (csOf D k) = P at CC HUp hln
      generalize fsOf D k = F at CF CC
      generalize csOf D k = O at CO CC hfew hln
      have hG : Below wq.heap.size wq wq.drew := Below.drew (Below.refl _ _)
      have hnk : numK D (k + 1) k = (k : Int) := by unfold numK; rw [if_pos (by omega)]
      have hS : wq.drew.cell? ⟨w.heap.size, k * 4, none⟩ = some (.string (D k).data) ∧ wq.drew.cell? ⟨w.heap.size, k * 4 + 1, none⟩ = some (.int .u16 ((D k).long : Int)) ∧ wq.drew.cell? ⟨w.heap.size, k * 4 + 2, none⟩ = some (.int .u8 (k : Int)) ∧ wq.drew.cell? ⟨w.heap.size, k * 4 + 3, none⟩ = some (.slice (p k) (D k).cuts.length (cap k)) := ⟨hA2.out.c0 k hkl, hA2.out.c1 k hkl, by have := hA2.out.c2 k hkl; rw [hnk] at this; exact this, hA2.out.c3 k hkl⟩
      go_region_held3 (fun w' => w'.cell? ⟨w.heap.size, k * 4, none⟩ = some (.string (D k).data) ∧ w'.cell? ⟨w.heap.size, k * 4 + 1, none⟩ = some (.int .u16 ((D k).long : Int)) ∧ w'.cell? ⟨w.heap.size, k * 4 + 2, none⟩ = some (.int .u8 (k : Int)) ∧ w'.cell? ⟨w.heap.size, k * 4 + 3, none⟩ = some (.slice (p k) (D k).cuts.length (cap k))) (first | with_reducible exact hS) (first | (go_at_call 11; refine (CF.out _).mono ?_; rintro e wn ⟨rfl, gn⟩; have hS := cells4 hS gn; have hG := Below.trans hG (gn.mono hG.size); (try have hN := Lib.hid (hN.out.keep gn))) | (go_at_call 10; refine (CO.out _ (HIn.out.keep (hB2.trans (hG.mono hB2.size)))).mono ?_; rintro e wn ⟨v, rfl, ho, gn⟩; obtain ⟨p', cap', rfl, hi'⟩ := ho.ints; have hN := Lib.hid hi'; clear hi' ho; have hS := cells4 hS gn; have hG := Below.trans hG (gn.mono hG.size)) | (go_at_call 13; refine (CC.out _ _ _ hN.out).mono ?_; rintro e wn ⟨v, rfl, hr, gn⟩; have hRn := Lib.hid (hr.lower (B' := wq.heap.size) hG.size); have hS := cells4 hS gn; have hG := Below.trans hG (gn.mono hG.size)))
      obtain ⟨gp, cg, rfl, hg0, hglt, _⟩ := hRn.out.at (j := 0) (by omega)
      have HRc := Lib.hid (hR2.out.keep hG)
      have hnews := World.ownsRow.cells (g := gp) hRn.out rfl
      have HNews := Lib.hid hnews
      have hBn := hB2.trans (hG.mono hB2.size)
      have hsz := hA2.out.lt
      have hGz := hG.size
      have hA3 := Lib.hid (hA2.out.keep (hG.mono (by omega)))
      clear hS hN hR2 hA2 CF CO CC HIn hnews hG hB2
      go_wp2_with (at_builtin; refine wpList_append_own _ rfl _ _ 35 rfl (w.heap.size + 1) 45 i0 (.agg #[.bool false, .int .i64 0, .int .i64 0, .string ⟨#[]⟩]) 4 40 Try.underlying35 IH.out IZ.out IZ1.out IZ2.out rfl (by decide) _ _ _ rfl HRc.out ⟨gp, 0, none⟩ P.length cg (flat P) rfl (flat_length P) HNews.out (flat_plain P) (by unfold maxLen; omega) (by omega) (by omega) ?_; intro v' w6 hown' hgrow hnil)
      have hb6 := HRc.out.added2 (by omega) hgrow
      have hr6 := HRc.out.joined hown'
      rw [← HUp.out] at hr6
      have hA6 := hA3.out.keep hb6
      have hBB := hBn.trans (hb6.mono (by omega))
      clear hown' hgrow hnil HRc HNews hRn hA3 hBn hb6
      go_round
      case rel => exact ⟨k + 1, by omega, by go_num, hA6, hr6, hBB⟩
      case measure => simp [intOf] <;> omega
  case rest =>
  obtain ⟨hA, hrow, hB⟩ := ‹_ ∧ _ ∧ Below w.heap.size w wc›
  clear HA1 hB1 IH IZ IZ1 IZ2
  have hlp : 1 ≤ (upTo (fsOf D) (csOf D) 4).length := upTo_pos (fsOf D) (csOf D) 3
  have hl20 := upTo_few HF.out 4 (by omega)
  have hof := upTo_of (fsOf D) (csOf D) 4 (by omega)
  have HOf := Lib.hid hof
  have hgv : ∃ g cg, u5 = .slice (some ⟨g, 0, none⟩) (upTo (fsOf D) (csOf D) 4).length cg ∧ w.heap.size + 1 ≤ g ∧ g < wc.heap.size := by
    obtain ⟨g, cg, h1, h2, h3, _⟩ := hrow.at (j := 0) (by omega)
    exact ⟨g, cg, h1, h2, h3⟩
  generalize upTo (fsOf D) (csOf D) 4 = L at *
  obtain ⟨g, cg, rfl, hg1, hg2⟩ := hgv
  have hM0 := Lib.hid (mv_new wc Mg.zero)
  have bA : Below wc.heap.size wc (wc.alloc (.cells #[.bool Mg.zero.on, .int .i64 Mg.zero.number, .int .i64 Mg.zero.next, .string Mg.zero.data] 43)) := (Below.refl _ wc).alloc (Nat.le_refl _) _
  have hsz := hA.lt
  have HA2 := Lib.hid (hA.keep (bA.mono (by omega)))
  have HR2 := Lib.hid (hrow.keep bA)
  have hB2 := hB.trans (bA.mono hB.size)
  clear hA hrow hB bA hof
  go_wp2_with (fail)
  go_loopw [10] (fun i wr => ∃ (k : Nat) (m : Mg), k ≤ 60 ∧ k ≤ lo.length ∧ i = .int .i64 k ∧ MV wr wc.heap.size m ∧ Mid (fsOf D) (csOf D) m ∧ Arr D p cap w.heap.size 4 wr ∧ Rw wr (w.heap.size + 1) (.slice (some ⟨g, 0, none⟩) L.length cg) L ∧ Below w.heap.size w wr) (fun i _ => 60 - (intOf i).toNat)
  case atStart => exact ⟨0, Mg.zero, by omega, by omega, rfl, hM0.out, mid_zero, HA2.out, HR2.out, hB2⟩
  case round =>
    obtain ⟨k, m, hk60, hkl, rfl, hMV, hmid, hA, hrow, hB⟩ := hrel
    clear hM0 HA2 HR2 hB2
    have HBq : Hid (Below w.heap.size w wr) := Lib.hid hB
    by_cases hk1 : k < lo.length
    case neg =>
      have hk1' : (lo.length : Int) ≤ (k : Int) := by omega
      clear hMV hmid hA hrow hB
      go_wp2_with (fail)
      go_ret
      exact ⟨rfl, HBq.out⟩
    have hk1' : (k : Int) < (lo.length : Int) := by omega
    by_cases hk2 : k < 60
    case neg =>
      have hk2' : ¬ ((k : Int) < 60) := by omega
      clear hMV hmid hA hrow hB
      go_wp2_with (fail)
      go_ret
      exact ⟨rfl, HBq.out⟩
    have hk2' : (k : Int) < 60 := by omega
    have hat := (HPo.out.keep hB).at hk1
    have hzm : lo.getD k 0 ∈ lo := by rw [List.getD_eq_getElem?_getD, List.getElem?_eq_getElem hk1]; exact List.getElem_mem _
    have hzw := bounds_u8 (HLo.out _ hzm)
    generalize lo.getD k 0 = z at hat hzw
    obtain ⟨zn, rfl⟩ : ∃ n : Nat, z = (n : Int) := ⟨z.toNat, by omega⟩
    obtain ⟨b, o, rfl, hb, hcz⟩ := hat
    have hix : zn % L.length < L.length := Nat.mod_lt _ (by omega)
    have hqo := HOf.out (L.getD (zn % L.length) Pc.zero) (by rw [List.getD_eq_getElem?_getD, List.getElem?_eq_getElem hix]; exact List.getElem_mem _)
    have hpc := hrow.at4 hix
    have hiz : (zn : Int) % (L.length : Int) = ((zn % L.length : Nat) : Int) := by push_cast; rfl
    have hw1 : IntKind.i64.wrap ((zn : Int).tmod (L.length : Int)) = ((zn % L.length : Nat) : Int) := by
      rw [Int.tmod_eq_emod_of_nonneg (by omega), hiz]
      exact IntWalk.i64_in _ (by omega)
    have HV := Lib.hid hMV
    have HMid := Lib.hid hmid
    have HAr := Lib.hid hA
    have HRow := Lib.hid hrow
    have HHiz := Lib.hid hiz
    clear hmid hA hrow hB hzm hMV hw1 hiz
    generalize L.getD (zn % L.length) Pc.zero = q at hqo hpc
    generalize hidx : zn % L.length = ix at hpc hix HHiz
    have e0 := hpc.c0
    have e1 := hpc.c1
    have e2 := hpc.c2
    have e3 := hpc.c3
    have hix' : (ix : Int) < (L.length : Int) := by omega
    clear hpc
    have hiz := HHiz.out
    go_upto_region 17 with fail
    have bx : Below wr.heap.size wr (wr.alloc (.cells #[.bool q.start, .int .i64 q.number, .int .i64 q.count, .string q.data] 45)) := (Below.refl _ wr).alloc (Nat.le_refl _) _
    have hx : PcAt (wr.alloc (.cells #[.bool q.start, .int .i64 q.number, .int .i64 q.count, .string q.data] 45)) wr.heap.size q := (pw_first wr q).pc
    have hwcr := HV.out.lt
    have HV1 := Lib.hid (HV.out.keep bx)
    have HA1 := Lib.hid (HAr.out.keep (bx.mono (by omega)))
    have HR1 := Lib.hid (HRow.out.keep bx)
    have HB1 := Lib.hid (HBq.out.trans (bx.mono HBq.out.size))
    have hz1 : (wr.alloc (.cells #[.bool q.start, .int .i64 q.number, .int .i64 q.count, .string q.data] 45)).heap.size = wr.heap.size + 1 := by simp
    have HX := Lib.hid hx
    clear e0 e1 e2 e3 hcz bx hx HV HAr HRow HBq hiz hix'
    generalize wr.alloc (.cells #[.bool q.start, .int .i64 q.number, .int .i64 q.count, .string q.data] 45) = w7 at *
    obtain ⟨jn, hj4, hjn⟩ := hqo.num
    obtain ⟨hc0, hmid2, hff, hnn⟩ := HF.out.step HMid.out hqo hjn
    have hqk := HF.out.ok hqo
    have hqz := ((Pc.ok_iff q).1 hqk).2.2.1
    have hmz := Mg.ok_size HMid.out.1
    have CJ := Lib.hid (MJoin_any m q (by omega) (by omega))
    unfold JRet at CJ
    rw [hc0] at CJ
    generalize (join m q).1 = r at CJ hmid2 hff hnn
    generalize (join m q).2.1 = f at CJ hff
    have CK := Lib.hid (Check_ok hmid2.1)
    have HM2 := Lib.hid hmid2
    have Hff := Lib.hid hff
    have Hnn := Lib.hid hnn
    have HJn := Lib.hid hjn
    have v0 := HV1.out.at'.c0
    have v1 := HV1.out.at'.c1
    have v2 := HV1.out.at'.c2
    have v3 := HV1.out.at'.c3
    have x0 := HX.out.c0
    have x1 := HX.out.c1
    have x2 := HX.out.c2
    have x3 := HX.out.c3
    clear hc0 hmid2 hff hnn hqk hqo HMid hjn
    go_wp2_with (fail)
    refine (CJ.out _).mono ?_
    rintro e w8 ⟨rfl, g8⟩
    have hz8 := g8.size
    have HV2 := Lib.hid (HV1.out.keep g8)
    have HA2 := Lib.hid (HA1.out.keep (g8.mono (by omega)))
    have HR2 := Lib.hid (HR1.out.keep g8)
    have HB2 := Lib.hid (HB1.out.trans (g8.mono HB1.out.size))
    have HX2 := Lib.hid (HX.out.keep g8 (by omega))
    clear v0 v1 v2 v3 x0 x1 x2 x3 HV1 HA1 HR1 HB1 HX CJ g8
    have bn : Below w8.heap.size w8 (w8.alloc (.cells #[.bool r.on, .int .i64 r.number, .int .i64 r.next, .string r.data] 43)) := (Below.refl _ w8).alloc (Nat.le_refl _) _
    have HN := Lib.hid (mv_new w8 r)
    have HV3 := Lib.hid (HV2.out.keep bn)
    have HA3 := Lib.hid (HA2.out.keep (bn.mono (by omega)))
    have HR3 := Lib.hid (HR2.out.keep bn)
    have HB3 := Lib.hid (HB2.out.trans (bn.mono HB2.out.size))
    have HX3 := Lib.hid (HX2.out.keep bn (by omega))
    have hz9 : (w8.alloc (.cells #[.bool r.on, .int .i64 r.number, .int .i64 r.next, .string r.data] 43)).heap.size = w8.heap.size + 1 := by simp
    go_upto_region 18 with fail
    clear HV2 HA2 HR2 HB2 HX2 bn
    generalize w8.alloc (.cells #[.bool r.on, .int .i64 r.number, .int .i64 r.next, .string r.data] 43) = w9 at *
    have n0 := HN.out.at'.c0
    have n1 := HN.out.at'.c1
    have n2 := HN.out.at'.c2
    have n3 := HN.out.at'.c3
    go_wp2_with (fail)
    refine (CK.out _).mono ?_
    rintro e wa ⟨rfl, ga⟩
    have hza := ga.size
    have HV4 := Lib.hid (HV3.out.keep ga)
    have HA4 := Lib.hid (HA3.out.keep (ga.mono (by omega)))
    have HR4 := Lib.hid (HR3.out.keep ga)
    have HB4 := Lib.hid (HB3.out.trans (ga.mono HB3.out.size))
    have HX4 := Lib.hid (HX3.out.keep ga (by omega))
    have HN4 := Lib.hid (HN.out.keep ga)
    clear n0 n1 n2 n3 HV3 HA3 HR3 HB3 HX3 HN ga CK
    have hwcw : w.heap.size ≤ wc.heap.size := by omega
    by_cases hf0 : f = ⟨#[]⟩
    · subst hf0
      have HVe := HV4
      have HAe := HA4
      have HRe := HR4
      have HBe := HB4
      have HXe := HX4
      have HNe := HN4
      clear HV4 HA4 HR4 HB4 HX4 HN4
      have n0 := HNe.out.at'.c0
      have n1 := HNe.out.at'.c1
      have n2 := HNe.out.at'.c2
      have n3 := HNe.out.at'.c3
      have v0 := HVe.out.at'.c0
      have v1 := HVe.out.at'.c1
      have v2 := HVe.out.at'.c2
      have v3 := HVe.out.at'.c3
      have y0 := HVe.out.fz 0
      have y1 := HVe.out.fz 1
      have y2 := HVe.out.fz 2
      have y3 := HVe.out.fz 3
      have x1 := HXe.out.c1
      rw [HJn.out] at x1
      obtain ⟨on, hon⟩ : ∃ on, r.on = on := ⟨_, rfl⟩
      have hnum : on = true → (r.number != (jn : Int)) = false := by
        intro h
        rw [Hnn.out (hon.trans h), HJn.out]
        simp
      rw [hon] at n0
      have HOn := Lib.hid hon
      have HVx := HNe
      clear hon HNe HXe
      rcases on with _ | _
      · clear hnum
        go_wp2_with (fail)
        have hs := HVe.out.store r
        rw [HOn.out] at hs
        have hAs := HAe.out.keep (hs.2.mono (by omega))
        have hRs := HRe.out.keepB hg2 hs.2
        have hBs := HBe.out.trans (hs.2.mono hwcw)
        have HSs := Lib.hid hs.1
        clear n0 n1 n2 n3 v0 v1 v2 v3 y0 y1 y2 y3 x1 hs HVe HAe HRe HBe
        go_round
        case rel => exact ⟨k + 1, r, by omega, by omega, by go_num, HSs.out, HM2.out, hAs, hRs, hBs⟩
        case measure => simp [intOf] <;> omega
      · have hnum' := hnum rfl
        clear hnum
        go_wp2_with (fail)
        have hs := HVe.out.store r
        rw [HOn.out] at hs
        have hAs := HAe.out.keep (hs.2.mono (by omega))
        have hRs := HRe.out.keepB hg2 hs.2
        have hBs := HBe.out.trans (hs.2.mono hwcw)
        have HSs := Lib.hid hs.1
        clear n0 n1 n2 n3 v0 v1 v2 v3 y0 y1 y2 y3 x1 hs HVe HAe HRe HBe
        go_round
        case rel => exact ⟨k + 1, r, by omega, by omega, by go_num, HSs.out, HM2.out, hAs, hRs, hBs⟩
        case measure => simp [intOf] <;> omega
    · have hf' := not_empty hf0
      have hfe := Hff.out.resolve_left hf0
      have x1 := HX4.out.c1
      rw [HJn.out] at x1
      have hnk : numK D 4 jn = (jn : Int) := by unfold numK; rw [if_pos hj4]
      have d0 := HA4.out.c0 jn hj4
      have d1 := HA4.out.c1 jn hj4
      have d2 := HA4.out.c2 jn hj4
      have d3 := HA4.out.c3 jn hj4
      rw [hnk] at d2
      obtain ⟨hwf, _⟩ := HD.out jn hj4
      have CF : Hid (∀ W, Calls Try.prog 11 #[.agg #[.string (D jn).data, .int .u16 ((D jn).long : Int), .int .u8 (jn : Int), .slice (p jn) (D jn).cuts.length (cap jn)]] W fun e w' => e = .returned (.string f) ∧ Below W.heap.size W w') := Lib.hid (by rw [hfe]; exact Frame_any (numbered D jn) hwf.l hwf.s (.slice (p jn) (D jn).cuts.length (cap jn)) rfl)
      have hj4' : (jn : Int) < 4 := by omega
      clear hwf hfe hnk
      go_wp2_with (fail)
      refine (CF.out _).mono ?_
      rintro e wb ⟨rfl, gb⟩
      have hzb := gb.size
      have HVe := Lib.hid (HV4.out.keep gb)
      have HAe := Lib.hid (HA4.out.keep (gb.mono (by omega)))
      have HRe := Lib.hid (HR4.out.keep gb)
      have HBe := Lib.hid (HB4.out.trans (gb.mono HB4.out.size))
      have HXe := Lib.hid (HX4.out.keep gb (by omega))
      have HNe := Lib.hid (HN4.out.keep gb)
      clear d0 d1 d2 d3 x1 HV4 HA4 HR4 HB4 HX4 HN4 gb CF hf'
      have n0 := HNe.out.at'.c0
      have n1 := HNe.out.at'.c1
      have n2 := HNe.out.at'.c2
      have n3 := HNe.out.at'.c3
      have v0 := HVe.out.at'.c0
      have v1 := HVe.out.at'.c1
      have v2 := HVe.out.at'.c2
      have v3 := HVe.out.at'.c3
      have y0 := HVe.out.fz 0
      have y1 := HVe.out.fz 1
      have y2 := HVe.out.fz 2
      have y3 := HVe.out.fz 3
      have x1 := HXe.out.c1
      rw [HJn.out] at x1
      obtain ⟨on, hon⟩ : ∃ on, r.on = on := ⟨_, rfl⟩
      have hnum : on = true → (r.number != (jn : Int)) = false := by
        intro h
        rw [Hnn.out (hon.trans h), HJn.out]
        simp
      rw [hon] at n0
      have HOn := Lib.hid hon
      have HVx := HNe
      clear hon HNe HXe
      rcases on with _ | _
      · clear hnum
        go_wp2_with (fail)
        have hs := HVe.out.store r
        rw [HOn.out] at hs
        have hAs := HAe.out.keep (hs.2.mono (by omega))
        have hRs := HRe.out.keepB hg2 hs.2
        have hBs := HBe.out.trans (hs.2.mono hwcw)
        have HSs := Lib.hid hs.1
        clear n0 n1 n2 n3 v0 v1 v2 v3 y0 y1 y2 y3 x1 hs HVe HAe HRe HBe
        go_round
        case rel => exact ⟨k + 1, r, by omega, by omega, by go_num, HSs.out, HM2.out, hAs, hRs, hBs⟩
        case measure => simp [intOf] <;> omega
      · have hnum' := hnum rfl
        clear hnum
        go_wp2_with (fail)
        have hs := HVe.out.store r
        rw [HOn.out] at hs
        have hAs := HAe.out.keep (hs.2.mono (by omega))
        have hRs := HRe.out.keepB hg2 hs.2
        have hBs := HBe.out.trans (hs.2.mono hwcw)
        have HSs := Lib.hid hs.1
        clear n0 n1 n2 n3 v0 v1 v2 v3 y0 y1 y2 y3 x1 hs HVe HAe HRe HBe
        go_round
        case rel => exact ⟨k + 1, r, by omega, by omega, by go_num, HSs.out, HM2.out, hAs, hRs, hBs⟩
        case measure => simp [intOf] <;> omega
namespace mergeMixed
open Go.ChangeShapes Go.WideShapes Go.ChangeAt Go.RowKit
open Go.ChangeMaps (open_string shut_string)
theorem own : ownKnob Try.prog.godebug = none := by kernel_rfl
theorem laidOut : laidOutB Try.prog = true := by kernel_rfl

set_option maxRecDepth 100000 in
theorem lifted (os : Os) (started : os.Started) (H : Type) (enc : TypeId × Value → H) :
    ReturnsInHanded {} Try.checked os 6 .any (Rows.mergeMixedSpec.pre6 enc Try.prog Try.f6 Rows.mergeMixedRow.domain false) (Rows.mergeMixedSpec.post enc Try.prog Try.f6 false true false false) := by
  refine returnsInHanded_of_change (C := Try.checked) own started (by kernel_rfl) Try.func6
    (ChangeSpec.witness6 (enc := enc) (C := Try.checked) false ⟨#[], #[.agg #[.string ByteArray.empty, .int .u16 0, .int .u8 0, .slice none 0 0, .string ByteArray.empty, .int .u16 0, .int .u8 0, .slice none 0 0, .string ByteArray.empty, .int .u16 0, .int .u8 0, .slice none 0 0, .string ByteArray.empty, .int .u16 0, .int .u8 0, .slice none 0 0], .slice none 0 0], []⟩ 8 (by kernel_rfl) (by kernel_rfl) (by kernel_rfl) (by kernel_rfl)) ?_
  intro W base args ds gs before hval0 hW hcnd _
  have hval : ∀ (j : Nat) t v, Try.f6.params[j]? = some t → args[j]? = some v → Value.okWide Try.prog W .any base t v := hval0
  have hW' := hW
  obtain ⟨p, q, hA0, hV, rfl, hfz, hnd⟩ := hW
  have hA : DataW.TrodAll enc Try.prog W 0 (fun _ => true) true Try.f6.params.toList args.toList ds p := hA0
  rw [Try.params6] at hA hval
  obtain ⟨v0, vs0, d0, ds0, p0, q0, hargs, rfl, rfl, h0, r0⟩ := trodAll_cons hA
  obtain ⟨v1, vs1, d1, ds1, p1, q1, rfl, rfl, rfl, h1, r1⟩ := trodAll_cons r0
  obtain ⟨rfl, rfl, rfl⟩ := trodAll_nil r1
  obtain rfl : args = #[v0, v1] := by cases args; simp_all
  obtain ⟨rfl, rfl⟩ := trodVars_none hV
  have k0 := h0
  have lt0 : ∀ x ∈ p0, x.block < W.heap.size := by obtain ⟨m, hm⟩ := k0; exact DataW.trod_lt m _ _ _ hm
  have k1 := h1
  have lt1 : ∀ x ∈ p1, x.block < W.heap.size := by obtain ⟨m, hm⟩ := k1; exact DataW.trod_lt m _ _ _ hm
  obtain ⟨a0, p0', q0', rfl, w0⟩ := open_drafts4 Try.underlying59 (by kernel_rfl) (hval 0 59 v0 rfl rfl) h0
  obtain ⟨p1', q1', a1, rfl, w1, i1, u1⟩ := open_nums Try.underlying23 Try.underlying5 (by kernel_rfl) (hval 1 23 v1 rfl rfl) h1
  clear hA0 hval0
  refine (mergeMixed_walk a0 p0' q0' p1' q1' a1 W w0 w1 i1 u1).mono fun e W' ⟨he, bel⟩ => ?_
  subst he
  exact ⟨_, rfl, _, _, _, [], _, [], hW', trodAll_mk1 (shut_bool Try.underlying4 _), (trodAll_cons_mk (Below.trod laidOut (by kernel_rfl) (of_decide_eq_true (by kernel_rfl)) k0 bel lt0) (trodAll_cons_mk (Below.trod laidOut (by kernel_rfl) (of_decide_eq_true (by kernel_rfl)) k1 bel lt1) trodAll_mk0)), rfl, bel.frame _, fun h => by cases h⟩

theorem over : Rows.mergeMixedRow.holds Try.pinned (OpenSpec.ofChange Rows.mergeMixedSpec) :=
  OpenClaim.holds_of_wide 6 Try.f6 rfl rfl rfl rfl rfl rfl rfl ⟨rfl, rfl, rfl, rfl, rfl⟩ rfl rfl rfl rfl rfl (by kernel_rfl) Try.func6 (by kernel_rfl)
    (of_decide_eq_true (by kernel_rfl)) (by unfold Func.isWrapper; first | (rw [if_pos (by decide +kernel)]; kernel_rfl) | (rw [if_neg (by decide +kernel)]; exact ⟨rfl, rfl⟩))
    (fun os started H enc _ => lifted os started H enc)

theorem proved : Rows.MergeMixedSaid := over
#print axioms proved
end mergeMixed
end Go.Proofs.Ytppdfnghojcppaa
