/-
  MergeCuts.
-/
import Derived.Test.YtppdfnghojcppaaMergeS
import Derived.Laws.AppendOwnNone
namespace Go.Proofs.Ytppdfnghojcppaa
open Go.RowKit Go.Sort
set_option linter.unusedVariables false

theorem index3s (x0 x1 x2 : ByteArray) (B : Nat) (h0 : x0.size ≤ B) (h1 : x1.size ≤ B) (h2 : x2.size ≤ B) (k : Nat) (hk : k < 3) :
    ∃ x : ByteArray, x.size ≤ B ∧ ∀ W, (Instr.index 32 (.agg #[.string x0, .string x1, .string x2]) (.int .i64 (k : Int))).run Try.prog W = .ok (.string x) W := by
  have : k = 0 ∨ k = 1 ∨ k = 2 := by omega
  rcases this with rfl | rfl | rfl
  · exact ⟨x0, h0, fun _ => by kernel_rfl⟩
  · exact ⟨x1, h1, fun _ => by kernel_rfl⟩
  · exact ⟨x2, h2, fun _ => by kernel_rfl⟩
theorem index2i (x0 x1 : Int) (k : Nat) (hk : k < 2) : ∃ x : Int, ∀ W, (Instr.index 34 (.agg #[.int .i64 x0, .int .i64 x1]) (.int .i64 (k : Int))).run Try.prog W = .ok (.int .i64 x) W := by
  have : k = 0 ∨ k = 1 := by omega
  rcases this with rfl | rfl
  · exact ⟨x0, fun _ => by kernel_rfl⟩
  · exact ⟨x1, fun _ => by kernel_rfl⟩
/-- A slice of numbers that may be cut by. -/
def Cuts (W : World) (v : Value) : Prop := ∃ p cap l, v = .slice p l.length cap ∧ l.length ≤ 1000 ∧ Ints W .i64 p l
theorem index5l (v0 v1 v2 v3 v4 : Value) (k : Nat) (hk : k < 5) (Q : Value → Prop) (h0 : Q v0) (h1 : Q v1) (h2 : Q v2) (h3 : Q v3) (h4 : Q v4) (p0 p1 p2 p3 p4 : Option Addr) (n0 n1 n2 n3 n4 c0 c1 c2 c3 c4 : Nat) (e0 : v0 = .slice p0 n0 c0) (e1 : v1 = .slice p1 n1 c1) (e2 : v2 = .slice p2 n2 c2) (e3 : v3 = .slice p3 n3 c3) (e4 : v4 = .slice p4 n4 c4) :
    ∃ v, Q v ∧ ∀ W, (Instr.index 33 (.agg #[v0, v1, v2, v3, v4]) (.int .i64 (k : Int))).run Try.prog W = .ok v W := by
  subst e0 e1 e2 e3 e4
  have : k = 0 ∨ k = 1 ∨ k = 2 ∨ k = 3 ∨ k = 4 := by omega
  rcases this with rfl | rfl | rfl | rfl | rfl
  · exact ⟨_, h0, fun _ => by kernel_rfl⟩
  · exact ⟨_, h1, fun _ => by kernel_rfl⟩
  · exact ⟨_, h2, fun _ => by kernel_rfl⟩
  · exact ⟨_, h3, fun _ => by kernel_rfl⟩
  · exact ⟨_, h4, fun _ => by kernel_rfl⟩
theorem Ints.take {W : World} {k : IntKind} {p : Option Addr} {l : List Int} (h : Ints W k p l) (n : Nat) : Ints W k p (l.take n) := by
  rcases h with h | ⟨b, o, hp, hlt, hc⟩
  · exact .inl (by rw [h]; simp)
  · refine .inr ⟨b, o, hp, hlt, fun j hj => ?_⟩
    rw [List.length_take] at hj
    rw [hc j (by omega), List.getD_eq_getElem?_getD, List.getD_eq_getElem?_getD, List.getElem?_take, if_pos (by omega)]
theorem Ints.lt {W : World} {k : IntKind} {p : Option Addr} {l : List Int} (h : Ints W k p l) {j : Nat} (hj : j < l.length) : ∃ b o, p = some ⟨b, o, none⟩ ∧ b < W.heap.size := by
  obtain ⟨b, o, h1, h2, _⟩ := h.at hj
  exact ⟨b, o, h1, h2⟩
theorem Ints.set {W : World} {b o : Nat} {l : List Int} (h : Ints W .i64 (some ⟨b, o, none⟩) l) {ix : Nat} (hix : ix < l.length) (y : Int) : Ints (W.setCell ⟨b, o + ix, none⟩ (.int .i64 y)) .i64 (some ⟨b, o, none⟩) (l.set ix y) := by
  rcases h with h | ⟨b', o', hp, hlt, hc⟩
  · rw [h] at hix; cases hix
  · simp only [Option.some.injEq, Addr.mk.injEq, and_true] at hp
    obtain ⟨rfl, rfl⟩ := hp
    refine .inr ⟨b, o, rfl, by simpa using hlt, fun j hj => ?_⟩
    rw [List.length_set] at hj
    rw [cell_set _ _ (hc j hj), List.getD_eq_getElem?_getD, List.getD_eq_getElem?_getD, List.getElem?_set]
    by_cases e : ix = j
    · subst e
      rw [if_pos rfl, if_pos rfl, if_pos hix]; rfl
    · rw [if_neg (by omega), if_neg e]
theorem own_empty (W : World) (B : Nat) (hB : B ≤ W.heap.size) : (W.alloc (.cells #[] 3)).ownsRow B 3 1 (.slice (some ⟨W.heap.size, 0, none⟩) 0 0) 0 [] :=
  ⟨rfl, .inr ⟨W.heap.size, 0, #[], rfl, hB, World.alloc_heap_new W _, Nat.le_refl _, Nat.zero_le _, rfl, rfl⟩⟩

set_option maxRecDepth 100000 in
set_option maxHeartbeats 4000000 in
theorem mergeCuts_walk (s0 : ByteArray) (D : Dr8) (p0 : Option Addr) (cap0 : Nat) (num : Int) (pc : Option Addr) (capc : Nat) (lc : List Int) (by' : Int) (w : World) (hs0 : s0.size ≤ maxLen) (hD : D.wf) (hI : Ints w .u8 p0 D.cutsI) (hnum : (Lit.int .i64 num).wf = true) (hlc : Ints w .i64 pc lc) (hlcw : ∀ z ∈ lc, (Lit.int .i64 z).wf = true) (hlcl : lc.length ≤ maxLen ∧ lc.length ≤ capc) (hby : (Lit.int .i8 by').wf = true) :
    Calls Try.prog 3 #[.string s0, .agg #[.string D.data, .int .u16 (D.long : Int), .int .u8 (D.number : Int), .slice p0 D.cuts.length cap0], .int .i64 num, .slice pc lc.length capc, .int .i8 by'] w fun e w' => e = .returned (.bool true) ∧ Below w.heap.size w w' := by
  unfold maxLen at hs0 hlcl
  have hby2 := bounds_i8 hby
  have hl30 := D.offsets_length 30
  have hfr := D.frame_range
  have hnn := hD.n
  have CO := Lib.hid (Offsets_any D hD 30 (by omega) p0 cap0)
  have CF := Lib.hid (Frame_any D hD.l hD.s (.slice p0 D.cuts.length cap0) rfl)
  generalize D.offsets 30 = O at *
  generalize D.frame = f at *
  have HI := Lib.hid hI
  have HLc := Lib.hid hlc
  have hIb := dbox_new w D (.slice p0 D.cuts.length cap0)
  have HDb := Lib.hid hIb
  clear hD hI hlc hby hlcw hIb
  go_enter Try.func3, Try.ntmps3
  have m0 : (0 : Int) ≤ min (s0.size : Int) 200 := by omega
  have m1 : min (s0.size : Int) 200 ≤ (s0.size : Int) := by omega
  have m2 : (0 : Int) ≤ min (lc.length : Int) 8 := by omega
  have m3 : min (lc.length : Int) 8 ≤ (capc : Int) := by omega
  go_upto_region 1 with fail
  go_region
  have hsz : (s0.extract 0 (min (s0.size : Int) 200).toNat).size ≤ 200 := by rw [ByteArray.size_extract]; omega
  have h8 : (min (lc.length : Int) 8).toNat = (lc.take 8).length := by rw [List.length_take]; omega
  have h8l : (lc.take 8).length ≤ 8 := by rw [List.length_take]; omega
  have HL8 := Lib.hid (HLc.out.take 8)
  rw [h8]
  generalize s0.extract 0 (min (s0.size : Int) 200).toNat = s at *
  generalize lc.take 8 = l8 at *
  have bD : Below w.heap.size w (w.alloc (.cells #[.string D.data, .int .u16 (D.long : Int), .int .u8 (D.number : Int), .slice p0 D.cuts.length cap0] 25)).drew := (by repeat' (first | exact Below.refl _ _ | assumption | refine below_drewN ?_ _ | refine Below.drew ?_ | refine Below.alloc ?_ (by (first | exact Nat.le_refl _ | assumption | (simp; done) | omega | (simp; omega))) _ | refine Below.setCell ?_ (by (first | exact Nat.le_refl _ | assumption | (simp; done) | omega | (simp; omega))) _ | refine Below.trans ?_ (Below.mono (by assumption) (by (first | exact Nat.le_refl _ | assumption | (simp; done) | omega | (simp; omega))))))
  have HD1 := Lib.hid (HDb.out.keep (W' := (w.alloc (.cells #[.string D.data, .int .u16 (D.long : Int), .int .u8 (D.number : Int), .slice p0 D.cuts.length cap0] 25)).drew) (by repeat' (first | exact Below.refl _ _ | assumption | refine below_drewN ?_ _ | refine Below.drew ?_ | refine Below.alloc ?_ (by (first | exact Nat.le_refl _ | assumption | (simp; done) | omega | (simp; omega))) _ | refine Below.setCell ?_ (by (first | exact Nat.le_refl _ | assumption | (simp; done) | omega | (simp; omega))) _ | refine Below.trans ?_ (Below.mono (by assumption) (by (first | exact Nat.le_refl _ | assumption | (simp; done) | omega | (simp; omega)))))))
  clear m0 m1 m2 m3 h8 HDb HLc hlcl
  generalize (w.alloc (.cells #[.string D.data, .int .u16 (D.long : Int), .int .u8 (D.number : Int), .slice p0 D.cuts.length cap0] 25)).drew = w1 at *
  have d0 := HD1.out.c0
  have d1 := HD1.out.c1
  have d2 := HD1.out.c2
  have d3 := HD1.out.c3
  go_wp2_with (fail)
  refine (CO.out _ (HI.out.keep bD)).mono ?_
  rintro e w2 ⟨v, rfl, hown, g2⟩
  have HD2 := Lib.hid (HD1.out.keep g2)
  have hB2 := bD.trans (g2.mono bD.size)
  have hown2 := hown.lower (B' := w.heap.size) bD.size
  have HO := Lib.hid hown2
  obtain ⟨p1, cap1, rfl, hi1⟩ := hown2.ints
  have HI1 := Lib.hid hi1
  clear d0 d1 d2 d3 HD1 bD g2 CO hown hown2 hi1
  obtain ⟨i0, hi, hz0, hz1, hz2⟩ := info_parts infoInt
  have IH := Lib.hid hi
  have IZ := Lib.hid hz0
  have IZ1 := Lib.hid hz1
  have IZ2 := Lib.hid hz2
  clear hi hz0 hz1 hz2
  have HE := Lib.hid (own_empty w2 w2.heap.size (Nat.le_refl _))
  have bE : Below w2.heap.size w2 (w2.alloc (.cells #[] 3)) := (Below.refl _ w2).alloc (Nat.le_refl _) _
  go_upto_region 3 with fail
  go_cut [12] (fun s12 wx => OwnI wx w2.heap.size s12 O ∧ Below w2.heap.size w2 wx)
  case first =>
    rcases HO.out.2 with ⟨hv, h0⟩ | ⟨g, cp, cur, hv, hg, hh, _⟩
    · simp only [Value.slice.injEq] at hv
      obtain ⟨rfl, hl0, rfl⟩ := hv
      obtain rfl : O = [] := List.length_eq_zero_iff.1 hl0
      go_wp2_with (at_builtin; refine wpList_append_own_none rfl _ _ 26 rfl w2.heap.size 3 i0 1 Try.underlying26 IH.out _ _ _ rfl HE.out rfl ?_)
      go_meet
      exact ⟨HE.out, bE⟩
    · simp only [Value.slice.injEq] at hv
      obtain ⟨rfl, _, rfl⟩ := hv
      have hnews := World.ownsRow.cells (g := g) (HO.out.keep bE) rfl
      have HNews := Lib.hid hnews
      have hBz := hB2.size
      go_wp2_with (at_builtin; refine wpList_append_own _ rfl _ _ 26 rfl w2.heap.size 3 i0 (.int .i64 0) 1 8 Try.underlying26 IH.out IZ.out IZ1.out IZ2.out rfl (by decide) _ _ _ rfl HE.out ⟨g, 0, none⟩ O.length cap1 (O.map (Value.int .i64)) rfl (by simp) HNews.out (fun u hu => by obtain ⟨z, _, rfl⟩ := List.mem_map.1 hu; rfl) (by unfold maxLen; omega) (by omega) (by simp) ?_; intro v' w5 hown' hgrow hnil)
      go_meet
      have hb5 : Below w2.heap.size w2 w5 := bE.grown hgrow (by simp) fun k e => by
        have h2 : some w2.heap.size = some k := e
        injection h2 with h3
        omega
      rw [List.nil_append, Nat.zero_add] at hown'
      exact ⟨hown', hb5⟩
  case rest =>
  obtain ⟨hob, hbc⟩ := ‹_ ∧ Below w2.heap.size w2 wc›
  obtain ⟨pb, capb, rfl, hib⟩ := hob.ints
  have HBc := Lib.hid hbc
  have HB2 := Lib.hid hB2
  have HIb := Lib.hid hib
  have hbz := hbc.size
  have hB2z := hB2.size
  have hfzb : ∀ b o, pb = some ⟨b, o, none⟩ → ∀ j, wc.frozen? ⟨b, j, none⟩ = false := by
    rintro b o rfl j
    have : o = 0 := by
      rcases hob.2 with ⟨hv, _⟩ | ⟨g, _, _, hv, _⟩
      · simp at hv
      · simp only [Value.slice.injEq, Option.some.injEq, Addr.mk.injEq] at hv; exact hv.1.2.1
    subst this
    exact World.ownsRow.frozenAt hob j
  have hbge : ∀ b o, pb = some ⟨b, o, none⟩ → w2.heap.size ≤ b := by
    rintro b o rfl
    rcases hob.2 with ⟨hv, _⟩ | ⟨g, _, _, hv, hg, _⟩
    · simp at hv
    · simp only [Value.slice.injEq, Option.some.injEq, Addr.mk.injEq] at hv; omega
  have HFz := Lib.hid hfzb
  have HGe := Lib.hid hbge
  clear HO IH IZ IZ1 IZ2 HE bE hob hbc hib hB2 hfzb hbge
  go_upto_if 41 with fail
  go_cut [] (fun wx => (∃ B : List Int, B.length = O.length ∧ Ints wx .i64 pb B) ∧ Below w2.heap.size wc wx)
  case first =>
    by_cases h0 : O.length = 0
    · have h0' : ¬ (0 < O.length) := by omega
      have HX : Hid ((∃ B : List Int, B.length = O.length ∧ Ints wc .i64 pb B) ∧ Below w2.heap.size wc wc) := Lib.hid ⟨⟨O, rfl, HIb.out⟩, Below.refl _ _⟩
      go_wp2_with (fail)
      go_meet
      exact HX.out
    have hpos : 0 < O.length := by omega
    obtain ⟨un, hun⟩ : ∃ n : Nat, IntKind.u64.wrap num = (n : Int) := ⟨(IntKind.u64.wrap num).toNat, by rw [IntKind.wrap_u64]; omega⟩
    have hix : un % O.length < O.length := Nat.mod_lt _ hpos
    have htm : ((un : Int)).tmod (O.length : Int) = ((un % O.length : Nat) : Int) := by rw [Int.tmod_eq_emod_of_nonneg (by omega)]; push_cast; rfl
    generalize un % O.length = ix at hix htm
    have hix' : (ix : Int) < (O.length : Int) := Int.ofNat_lt.2 hix
    have hw6 : wrap64 (ix : Int) = (ix : Int) := IntWalk.wrap64_in _ ⟨by omega, by omega⟩
    obtain ⟨b, o, rfl, hb, hcx⟩ := HIb.out.at hix
    have hfz := HFz.out b o rfl (o + ix)
    have HB := Lib.hid (HGe.out b o rfl)
    clear hnum
    go_wp2_with (fail)
    go_meet
    exact ⟨⟨O.set ix (wrap64 (O[ix] + by')), by simp, Ints.set HIb.out hix _⟩, (Below.refl _ _).setCell (p := ⟨b, o + ix, none⟩) HB.out _⟩
  case rest =>
  obtain ⟨⟨B, hBl, hBi⟩, hbB⟩ := ‹_ ∧ Below w2.heap.size _ wc›
  have hb2c := HBc.out.trans hbB
  have HD4 := Lib.hid (HD2.out.keep hb2c)
  have HI4 := Lib.hid (HI1.out.keep hb2c)
  have hB4 := HB2.out.trans (hb2c.mono HB2.out.size)
  have HBi := Lib.hid hBi
  have d0 := HD4.out.c0
  have d1 := HD4.out.c1
  have d2 := HD4.out.c2
  have d3 := HD4.out.c3
  clear HD2 HI1 HBc HB2 hb2c hbB hBi HFz HGe HIb
  have CS := Lib.hid (RSeal_any s (by omega))
  go_wp2_with (fail)
  refine (CF.out _).mono ?_
  rintro e w5 ⟨rfl, g5⟩
  go_wp2_with (fail)
  refine (CS.out _).mono ?_
  rintro e w6 ⟨rfl, g6⟩
  have g56 := g5.trans (g6.mono g5.size)
  have HD6 := Lib.hid (HD4.out.keep g56)
  have HI6 := Lib.hid (HI4.out.keep g56)
  have HB6 := Lib.hid (HBi.out.keep g56)
  have hB6 := hB4.trans (g56.mono hB4.size)
  have HL6 := Lib.hid (HL8.out.keep hB6)
  have hss : (sealB 0 s).size ≤ 300 := by rw [sealB_size]; omega
  generalize sealB 0 s = s2 at *
  clear d0 d1 d2 d3 HD4 HI4 HBi hB4 CF CS g5 g6 g56 HL8 HI
  go_wp2_with (fail)
  go_loopw [63] (fun i wr => ∃ k : Nat, k ≤ 3 ∧ i = .int .i64 k ∧ Below w6.heap.size w6 wr) (fun i _ => 3 - (intOf i).toNat)
  case atStart => exact ⟨0, by omega, rfl, Below.refl _ _⟩
  case round =>
    obtain ⟨k, hk, rfl, hr1⟩ := hrel
    by_cases hkl : k < 3
    case neg =>
      have hkl' : ¬ ((k : Int) < 3) := by omega
      go_wp2_with (fail)
      refine (works_any _).mono ?_
      rintro e w7 ⟨rfl, g7⟩
      go_wp2_with (fail)
      go_ret
      exact ⟨rfl, (hB6.trans (hr1.mono hB6.size)).trans (g7.mono (Nat.le_trans hB6.size hr1.size))⟩
    have hkl' : (k : Int) < 3 := by omega
    obtain ⟨x, hx, hxi⟩ := index3s s s2 f 3000 (by omega) (by omega) (by omega) k hkl
    go_upto_block 2 with fail
    generalize wrap64 ((f.size : Int) - 64 + wrap64 (by'.tmod 2)) = z
    have bA : Below wr.heap.size wr (wr.alloc (.cells #[.int .i64 z] 3)) := (Below.refl _ wr).alloc (Nat.le_refl _) _
    have hzi := ints_one wr z
    have b6A : Below w6.heap.size w6 (wr.alloc (.cells #[.int .i64 z] 3)) := hr1.trans (bA.mono hr1.size)
    have q0 : Cuts (wr.alloc (.cells #[.int .i64 z] 3)) (.slice pc l8.length capc) := ⟨_, _, _, rfl, by omega, HL6.out.keep b6A⟩
    have q1 : Cuts (wr.alloc (.cells #[.int .i64 z] 3)) (.slice p1 O.length cap1) := ⟨_, _, _, rfl, by omega, HI6.out.keep b6A⟩
    have q2 : Cuts (wr.alloc (.cells #[.int .i64 z] 3)) (.slice pb O.length capb) := ⟨_, _, B, by rw [hBl], by omega, HB6.out.keep b6A⟩
    have q3 : Cuts (wr.alloc (.cells #[.int .i64 z] 3)) (.slice none 0 0) := ⟨_, _, [], rfl, by simp, .inl rfl⟩
    have q4 : Cuts (wr.alloc (.cells #[.int .i64 z] 3)) (.slice (some ⟨wr.heap.size, 0, none⟩) 1 1) := ⟨_, _, [z], rfl, by simp, hzi⟩
    have HDA := Lib.hid (HD6.out.keep b6A)
    have HQ : Hid (∀ k2 : Nat, k2 < 5 → ∃ v, Cuts (wr.alloc (.cells #[.int .i64 z] 3)) v ∧ ∀ W, (Instr.index 33 (.agg #[.slice pc l8.length capc, .slice p1 O.length cap1, .slice pb O.length capb, .slice none 0 0, .slice (some ⟨wr.heap.size, 0, none⟩) 1 1]) (.int .i64 (k2 : Int))).run Try.prog W = .ok v W) :=
      Lib.hid (fun k2 h => index5l _ _ _ _ _ k2 h _ q0 q1 q2 q3 q4 _ _ _ _ _ _ _ _ _ _ _ _ _ _ _ rfl rfl rfl rfl rfl)
    clear q0 q1 q2 q3 q4 hzi bA hr1 hxi
    generalize wr.alloc (.cells #[.int .i64 z] 3) = wA at *
    go_wp2_with (fail)
    go_loopw [78] (fun i wr2 => ∃ k2 : Nat, k2 ≤ 5 ∧ i = .int .i64 k2 ∧ Below wA.heap.size wA wr2) (fun i _ => 5 - (intOf i).toNat)
    case atStart => exact ⟨0, by omega, rfl, Below.refl _ _⟩
    case round =>
      obtain ⟨wr2, hw2⟩ : ∃ W, W = wr := ⟨_, rfl⟩
      subst hw2
      obtain ⟨k2, hk2, rfl, hr2⟩ := hrel
      by_cases hk2l : k2 < 5
      case neg =>
        have hk2' : ¬ ((k2 : Int) < 5) := by omega
        have hbk := b6A.trans (hr2.mono b6A.size)
        go_wp2_with (fail)
        go_round
        case rel => exact ⟨k + 1, by omega, by go_num, hbk⟩
        case measure => simp [intOf] <;> omega
      have hk2' : (k2 : Int) < 5 := by omega
      obtain ⟨v, ⟨p, cp, l, rfl, hll, hli⟩, hvi⟩ := HQ.out k2 hk2l
      have HLi := Lib.hid (hli.keep hr2)
      have HDB := Lib.hid (HDA.out.keep hr2)
      have d2 := HDB.out.c2
      clear hli
      go_wp2_with (fail)
      go_loopw [87] (fun i wr3 => ∃ k3 : Nat, k3 ≤ 2 ∧ i = .int .i64 k3 ∧ Below wr2.heap.size wr2 wr3) (fun i _ => 2 - (intOf i).toNat)
      case atStart => exact ⟨0, by omega, rfl, Below.refl _ _⟩
      case round =>
        obtain ⟨wr3, hw3⟩ : ∃ W, W = wr := ⟨_, rfl⟩
        subst hw3
        obtain ⟨k3, hk3, rfl, hr3⟩ := hrel
        by_cases hk3l : k3 < 2
        case neg =>
          have hk3' : ¬ ((k3 : Int) < 2) := by omega
          have hbk := hr2.trans (hr3.mono hr2.size)
          go_wp2_with (fail)
          go_round
          case rel => exact ⟨k2 + 1, by omega, by go_num, hbk⟩
          case measure => simp [intOf] <;> omega
        have hk3' : (k3 : Int) < 2 := by omega
        obtain ⟨y, hyi⟩ := index2i num ((D.number : Int) % 4) k3 hk3l
        have C1 := Lib.hid (MCut_any x (by omega) y p cp l wr3 (by omega) (HLi.out.keep hr3))
        have C2 := Lib.hid (fun W (hb : Below wr3.heap.size wr3 W) => RCut_any x (by omega) y p cp l W (by omega) ((HLi.out.keep hr3).keep hb))
        have hcl : (cutL x y l).length ≤ 1000 := by
          unfold cutL
          split
          · rename_i h0
            by_cases hw : whole x = true
            · by_cases hn : cnt y = true
              · by_cases hc : cutsOk x.size 0 l = true
                · have := cuts_few hc (whole_size hw).2
                  rw [pieces_length]; omega
                · rw [cutE_cuts hw hn (by simpa using hc)] at h0; omega
              · rw [cutE_arg hw (by simpa using hn)] at h0; omega
            · rw [cutE_form (by simpa using hw)] at h0; omega
          · simp
        unfold CRet at C1 C2
        generalize cutL x y l = L at C1 C2 hcl
        generalize cutE x y l = E at C1 C2
        clear d2
        go_wp2_with (fail)
        refine C1.out.mono ?_
        rintro e w8 ⟨v1, rfl, hR1, g8⟩
        go_wp2_with (fail)
        refine (C2.out _ g8).mono ?_
        rintro e w9 ⟨v2, rfl, hR2, g9⟩
        obtain ⟨a1, b1, rfl⟩ := hR1.slice
        obtain ⟨a2, b2, rfl⟩ := hR2.slice
        have CSm := Lib.hid (Same_any _ _ a1 a2 b1 b2 L hcl w9 (hR1.keep g9) hR2)
        have g89 := g8.trans (g9.mono g8.size)
        clear hR1 hR2 C1 C2 g8 g9
        go_wp2_with (fail)
        refine CSm.out.mono ?_
        rintro e wa ⟨rfl, ga⟩
        have hbk := hr3.trans ((g89.trans (ga.mono g89.size)).mono hr3.size)
        clear ga g89 CSm
        go_wp2_with (fail)
        go_round
        case rel => exact ⟨k3 + 1, by omega, by go_num, hbk⟩
        case measure => simp [intOf] <;> omega
namespace mergeCuts
open Go.ChangeShapes Go.WideShapes Go.ChangeAt Go.RowKit
open Go.ChangeMaps (open_string shut_string)
theorem own : ownKnob Try.prog.godebug = none := by kernel_rfl
theorem laidOut : laidOutB Try.prog = true := by kernel_rfl

set_option maxRecDepth 100000 in
theorem lifted (os : Os) (started : os.Started) (H : Type) (enc : TypeId × Value → H) :
    ReturnsInHanded {} Try.checked os 3 .any (Rows.mergeCutsSpec.pre6 enc Try.prog Try.f3 Rows.mergeCutsRow.domain false) (Rows.mergeCutsSpec.post enc Try.prog Try.f3 false true false false) := by
  refine returnsInHanded_of_change (C := Try.checked) own started (by kernel_rfl) Try.func3
    (ChangeSpec.witness6 (enc := enc) (C := Try.checked) false ⟨#[], #[.string ByteArray.empty, .agg #[.string ByteArray.empty, .int .u16 0, .int .u8 0, .slice none 0 0], .int .i64 0, .slice none 0 0, .int .i8 0], []⟩ 8 (by kernel_rfl) (by kernel_rfl) (by kernel_rfl) (by kernel_rfl)) ?_
  intro W base args ds gs before hval0 hW hcnd _
  have hval : ∀ (j : Nat) t v, Try.f3.params[j]? = some t → args[j]? = some v → Value.okWide Try.prog W .any base t v := hval0
  have hW' := hW
  obtain ⟨p, q, hA0, hV, rfl, hfz, hnd⟩ := hW
  have hA : DataW.TrodAll enc Try.prog W 0 (fun _ => true) true Try.f3.params.toList args.toList ds p := hA0
  rw [Try.params3] at hA hval
  obtain ⟨v0, vs0, d0, ds0, p0, q0, hargs, rfl, rfl, h0, r0⟩ := trodAll_cons hA
  obtain ⟨v1, vs1, d1, ds1, p1, q1, rfl, rfl, rfl, h1, r1⟩ := trodAll_cons r0
  obtain ⟨v2, vs2, d2, ds2, p2, q2, rfl, rfl, rfl, h2, r2⟩ := trodAll_cons r1
  obtain ⟨v3, vs3, d3, ds3, p3, q3, rfl, rfl, rfl, h3, r3⟩ := trodAll_cons r2
  obtain ⟨v4, vs4, d4, ds4, p4, q4, rfl, rfl, rfl, h4, r4⟩ := trodAll_cons r3
  obtain ⟨rfl, rfl, rfl⟩ := trodAll_nil r4
  obtain rfl : args = #[v0, v1, v2, v3, v4] := by cases args; simp_all
  obtain ⟨rfl, rfl⟩ := trodVars_none hV
  have k0 := h0
  have lt0 : ∀ x ∈ p0, x.block < W.heap.size := by obtain ⟨m, hm⟩ := k0; exact DataW.trod_lt m _ _ _ hm
  have k1 := h1
  have lt1 : ∀ x ∈ p1, x.block < W.heap.size := by obtain ⟨m, hm⟩ := k1; exact DataW.trod_lt m _ _ _ hm
  have k2 := h2
  have lt2 : ∀ x ∈ p2, x.block < W.heap.size := by obtain ⟨m, hm⟩ := k2; exact DataW.trod_lt m _ _ _ hm
  have k3 := h3
  have lt3 : ∀ x ∈ p3, x.block < W.heap.size := by obtain ⟨m, hm⟩ := k3; exact DataW.trod_lt m _ _ _ hm
  have k4 := h4
  have lt4 : ∀ x ∈ p4, x.block < W.heap.size := by obtain ⟨m, hm⟩ := k4; exact DataW.trod_lt m _ _ _ hm
  obtain ⟨a0, rfl, rfl, rfl, w0⟩ := open_string Try.underlying9 (hval 0 9 v0 rfl rfl) h0
  obtain ⟨a1, p1', q1', rfl, w1, i1⟩ := open_draft8 (hval 1 25 v1 rfl rfl) h1
  obtain ⟨a2, rfl, rfl, rfl, w2⟩ := open_int Try.underlying3 (hval 2 3 v2 rfl rfl) h2
  obtain ⟨p3', q3', a3, rfl, w3, i3, u3⟩ := open_nums Try.underlying26 Try.underlying3 (by kernel_rfl) (hval 3 26 v3 rfl rfl) h3
  obtain ⟨a4, rfl, rfl, rfl, w4⟩ := open_int Try.underlying27 (hval 4 27 v4 rfl rfl) h4
  clear hA0 hval0
  refine (mergeCuts_walk a0 a1 p1' q1' a2 p3' q3' a3 a4 W w0 w1 i1 w2 w3 i3 u3 w4).mono fun e W' ⟨he, bel⟩ => ?_
  subst he
  exact ⟨_, rfl, _, _, _, [], _, [], hW', trodAll_mk1 (shut_bool Try.underlying4 _), (trodAll_cons_mk (Below.trod laidOut (by kernel_rfl) (of_decide_eq_true (by kernel_rfl)) k0 bel lt0) (trodAll_cons_mk (Below.trod laidOut (by kernel_rfl) (of_decide_eq_true (by kernel_rfl)) k1 bel lt1) (trodAll_cons_mk (Below.trod laidOut (by kernel_rfl) (of_decide_eq_true (by kernel_rfl)) k2 bel lt2) (trodAll_cons_mk (Below.trod laidOut (by kernel_rfl) (of_decide_eq_true (by kernel_rfl)) k3 bel lt3) (trodAll_cons_mk (Below.trod laidOut (by kernel_rfl) (of_decide_eq_true (by kernel_rfl)) k4 bel lt4) trodAll_mk0))))), rfl, bel.frame _, fun h => by cases h⟩

theorem over : Rows.mergeCutsRow.holds Try.pinned (OpenSpec.ofChange Rows.mergeCutsSpec) :=
  OpenClaim.holds_of_wide 3 Try.f3 rfl rfl rfl rfl rfl rfl rfl ⟨rfl, rfl, rfl, rfl, rfl⟩ rfl rfl rfl rfl rfl (by kernel_rfl) Try.func3 (by kernel_rfl)
    (of_decide_eq_true (by kernel_rfl)) (by unfold Func.isWrapper; first | (rw [if_pos (by decide +kernel)]; kernel_rfl) | (rw [if_neg (by decide +kernel)]; exact ⟨rfl, rfl⟩))
    (fun os started H enc _ => lifted os started H enc)

theorem proved : Rows.MergeCutsSaid := over
#print axioms proved
end mergeCuts
end Go.Proofs.Ytppdfnghojcppaa
