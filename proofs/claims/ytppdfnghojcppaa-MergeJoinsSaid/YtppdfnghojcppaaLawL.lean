/-
  MergeJoins holds for every state, piece, pair of drafts, order and flip: Check, CheckPiece and Join return what the chapter specifies. No condition.
-/
import Derived.Test.YtppdfnghojcppaaMergeQ
import Derived.Deep.RegionHeld3
import Derived.Deep.CutBlock
import Derived.StillTailTactics
namespace Go.Proofs.Ytppdfnghojcppaa
open Go.RowKit Go.Sort
set_option linter.unusedVariables false

theorem Jn.d8 {w : World} {m : Mg} {p : Pc} {a b c d e f g h : Value} {W : World} (H : Jn w m p #[a, b, c, d, e, f, g, h] W) :
    W.cell? ⟨w.heap.size + 2, 0, none⟩ = some a ∧ W.cell? ⟨w.heap.size + 2, 1, none⟩ = some b ∧ W.cell? ⟨w.heap.size + 2, 2, none⟩ = some c ∧ W.cell? ⟨w.heap.size + 2, 3, none⟩ = some d ∧ W.cell? ⟨w.heap.size + 2, 4, none⟩ = some e ∧ W.cell? ⟨w.heap.size + 2, 5, none⟩ = some f ∧ W.cell? ⟨w.heap.size + 2, 6, none⟩ = some g ∧ W.cell? ⟨w.heap.size + 2, 7, none⟩ = some h :=
  ⟨H.d 0, H.d 1, H.d 2, H.d 3, H.d 4, H.d 5, H.d 6, H.d 7⟩

theorem index2m (a b : Mg) (j : Nat) (hj : j < 2) : ∃ k : Mg, (k = a ∨ k = b) ∧ ∀ W, (Instr.index 52 (.agg #[.bool a.on, .int .i64 a.number, .int .i64 a.next, .string a.data, .bool b.on, .int .i64 b.number, .int .i64 b.next, .string b.data]) (.int .i64 (j : Int))).run Try.prog W = .ok (.agg #[.bool k.on, .int .i64 k.number, .int .i64 k.next, .string k.data]) W := by
  have : j = 0 ∨ j = 1 := by omega
  rcases this with rfl | rfl
  · exact ⟨a, .inl rfl, fun _ => by kernel_rfl⟩
  · exact ⟨b, .inr rfl, fun _ => by kernel_rfl⟩
/-- What the loop knows. -/
structure Rj (w : World) (m : Mg) (p : Pc) (ds : Array Value) (Bs g cg : Nat) (L : List Pc) (st : Mg) (W : World) : Prop where
  j : Jn w m p ds W
  s : MV W Bs st
  r : Rw W (w.heap.size + 3) (.slice (some ⟨g, 0, none⟩) L.length cg) L
theorem Rj.keep {w : World} {m : Mg} {p : Pc} {ds : Array Value} {Bs g cg : Nat} {L : List Pc} {st : Mg} {W W' : World} (h : Rj w m p ds Bs g cg L st W) (hb : Below W.heap.size W W') : Rj w m p ds Bs g cg L st W' := ⟨h.j.keep hb, h.s.keep hb, h.r.keep hb⟩
theorem Rj.keepB {w : World} {m : Mg} {p : Pc} {ds : Array Value} {Bs g cg B : Nat} {L : List Pc} {st : Mg} {W W' : World} (h : Rj w m p ds Bs g cg L st W) (h1 : w.heap.size + 2 < B) (h2 : Bs < B) (h3 : g < B) (hb : Below B W W') : Rj w m p ds Bs g cg L st W' := ⟨h.j.keepB h1 hb, h.s.keepB h2 hb, h.r.keepB h3 hb⟩
theorem Rj.store {w : World} {m : Mg} {p : Pc} {ds : Array Value} {Bs g cg : Nat} {L : List Pc} {st : Mg} {W : World} (h : Rj w m p ds Bs g cg L st W) (h1 : w.heap.size + 2 < Bs) (h3 : g < Bs) (r : Mg) :
    Rj w m p ds Bs g cg L r ((((W.setCell ⟨Bs, 0, none⟩ (.bool r.on)).setCell ⟨Bs, 1, none⟩ (.int .i64 r.number)).setCell ⟨Bs, 2, none⟩ (.int .i64 r.next)).setCell ⟨Bs, 3, none⟩ (.string r.data)) :=
  have hs := h.s.store r
  ⟨h.j.keepB h1 hs.2, hs.1, h.r.keepB h3 hs.2⟩

set_option maxRecDepth 100000 in
set_option maxHeartbeats 4000000 in
theorem mergeJoins_walk (m0 : Mg) (p0 : Pc) (D : Dr8) (pd : Option Addr) (capd : Nat) (D1 : Dr8) (pd1 : Option Addr) (capd1 : Nat) (po : Option Addr) (capo : Nat) (lo : List Int) (flip : Int) (w : World) (hm0 : m0.data.size ≤ maxLen) (hp0 : p0.data.size ≤ maxLen) (hD : D.wf) (hpd : Ints w .u8 pd D.cutsI) (hD1 : D1.wf) (hpd1 : Ints w .u8 pd1 D1.cutsI) (hpo : Ints w .u8 po lo) (hlo : ∀ z ∈ lo, (Lit.int .u8 z).wf = true) (hll0 : lo.length ≤ maxLen ∧ lo.length ≤ capo) (hflip : (Lit.int .u16 flip).wf = true) :
    Calls Try.prog 4 #[.agg #[.bool m0.on, .int .i64 m0.number, .int .i64 m0.next, .string m0.data], .agg #[.bool p0.start, .int .i64 p0.number, .int .i64 p0.count, .string p0.data], .agg #[.string D.data, .int .u16 (D.long : Int), .int .u8 (D.number : Int), .slice pd D.cuts.length capd, .string D1.data, .int .u16 (D1.long : Int), .int .u8 (D1.number : Int), .slice pd1 D1.cuts.length capd1], .slice po lo.length capo, .int .u16 flip] w fun e w' => e = .returned (.bool true) ∧ Below w.heap.size w w' := by
  have hll := hll0.1
  have hfl := bounds_u16 hflip
  obtain ⟨fl, rfl⟩ : ∃ n : Nat, flip = (n : Int) := ⟨flip.toNat, by omega⟩
  clear hll0 hflip
  have CS := Lib.hid (short_any m0 p0 hm0 hp0)
  have hms : (shortM m0).data.size ≤ 1530 := upTo1530_size _
  have hps : (shortP p0).data.size ≤ 1530 := upTo1530_size _
  generalize shortM m0 = m at CS hms
  generalize shortP p0 = p at CS hps
  unfold maxLen at hll
  clear hm0 hp0
  have CP := Lib.hid (Pieces_any D hD 30 (by omega) pd capd)
  have CP1 := Lib.hid (Pieces_any D1 hD1 30 (by omega) pd1 capd1)
  have hc := pieces_count D
  have hc1 := pieces_count D1
  have hok : ∀ q ∈ D.pieces 30 ++ D1.pieces 30, q.ok = true := by
    intro q hq
    rcases List.mem_append.1 hq with h | h
    · exact pieces_good D q h
    · exact pieces_good D1 q h
  have HOk := Lib.hid hok
  have HPd := Lib.hid hpd
  have HPd1 := Lib.hid hpd1
  have HPo := Lib.hid hpo
  have HLo := Lib.hid hlo
  clear hD hpd hD1 hpd1 hpo hlo hok
  generalize D.pieces 30 = l0 at *
  generalize D1.pieces 30 = l1 at *
  have HJ := Lib.hid (jn_new w m0 p0 #[.string D.data, .int .u16 (D.long : Int), .int .u8 (D.number : Int), .slice pd D.cuts.length capd, .string D1.data, .int .u16 (D1.long : Int), .int .u8 (D1.number : Int), .slice pd1 D1.cuts.length capd1] 46)
  go_enter Try.func4, Try.ntmps4
  go_wp2_with (fail)
  refine (CS.out _).mono ?_
  rintro e w1 ⟨rfl, g1⟩
  have HJ1 := Lib.hid (HJ.out.keep g1)
  clear HJ g1 CS
  have a0 := HJ1.out.mv.at'.c0
  have a1 := HJ1.out.mv.at'.c1
  have a2 := HJ1.out.mv.at'.c2
  have a3 := HJ1.out.mv.at'.c3
  have z0 := HJ1.out.mv.fz 0
  have z1 := HJ1.out.mv.fz 1
  have z2 := HJ1.out.mv.fz 2
  have z3 := HJ1.out.mv.fz 3
  have b0 := HJ1.out.pv.at'.c0
  have b1 := HJ1.out.pv.at'.c1
  have b2 := HJ1.out.pv.at'.c2
  have b3 := HJ1.out.pv.at'.c3
  have y0 := HJ1.out.pv.fz 0
  have y1 := HJ1.out.pv.fz 1
  have y2 := HJ1.out.pv.fz 2
  have y3 := HJ1.out.pv.fz 3
  have HJ2 := Lib.hid (HJ1.out.stored m p)
  go_upto_region 2 with fail
  clear a0 a1 a2 a3 b0 b1 b2 b3 z0 z1 z2 z3 y0 y1 y2 y3 HJ1
  generalize ((((((((w1.setCell ⟨w.heap.size, 0, none⟩ (.bool m.on)).setCell ⟨w.heap.size, 1, none⟩ (.int .i64 m.number)).setCell ⟨w.heap.size, 2, none⟩ (.int .i64 m.next)).setCell ⟨w.heap.size, 3, none⟩ (.string m.data)).setCell ⟨w.heap.size + 1, 0, none⟩ (.bool p.start)).setCell ⟨w.heap.size + 1, 1, none⟩ (.int .i64 p.number)).setCell ⟨w.heap.size + 1, 2, none⟩ (.int .i64 p.count)).setCell ⟨w.heap.size + 1, 3, none⟩ (.string p.data)) = w2 at *
  go_cut [11] (fun s11 wx => ∃ g cg, s11 = .slice (some ⟨g, 0, none⟩) (l0 ++ l1).length cg ∧ Rw wx w2.heap.size (.slice (some ⟨g, 0, none⟩) (l0 ++ l1).length cg) (l0 ++ l1) ∧ g < wx.heap.size ∧ Jn w m p #[.string D.data, .int .u16 (D.long : Int), .int .u8 (D.number : Int), .slice pd D.cuts.length capd, .string D1.data, .int .u16 (D1.long : Int), .int .u8 (D1.number : Int), .slice pd1 D1.cuts.length capd1] wx)
  case first =>
    have HJ := Lib.hid HJ2.out.drew
    have hS := HJ.out.d8
    have hdl := HJ2.out.dl
    go_region_held3 (fun w' => w'.cell? ⟨w.heap.size + 2, 0, none⟩ = some (.string D.data) ∧ w'.cell? ⟨w.heap.size + 2, 1, none⟩ = some (.int .u16 (D.long : Int)) ∧ w'.cell? ⟨w.heap.size + 2, 2, none⟩ = some (.int .u8 (D.number : Int)) ∧ w'.cell? ⟨w.heap.size + 2, 3, none⟩ = some (.slice pd D.cuts.length capd) ∧ w'.cell? ⟨w.heap.size + 2, 4, none⟩ = some (.string D1.data) ∧ w'.cell? ⟨w.heap.size + 2, 5, none⟩ = some (.int .u16 (D1.long : Int)) ∧ w'.cell? ⟨w.heap.size + 2, 6, none⟩ = some (.int .u8 (D1.number : Int)) ∧ w'.cell? ⟨w.heap.size + 2, 7, none⟩ = some (.slice pd1 D1.cuts.length capd1)) (first | with_reducible exact hS) (first | (have hN := HN; go_at_call 18; refine (CP1.out _ (HPd1.out.keep HJ.out.bel)).mono ?_; rintro e wm ⟨v2, rfl, hr2, gn2⟩; obtain ⟨gp, cg, rfl, _, _, _⟩ := hr2.at (j := 0) (by omega); have HC := Lib.hid hr2.cells; have HN := Lib.hid (HN.out.keep gn2); have HJ := Lib.hid (HJ.out.keep gn2); have hS := HJ.out.d8; have hzn : w2.heap.size ≤ wm.heap.size := Nat.le_trans hzn gn2.size) | (go_at_call 18; refine (CP.out _ (HPd.out.keep HJ.out.bel)).mono ?_; rintro e wn ⟨v, rfl, hr, gn⟩; have HN := Lib.hid (hr.lower (B' := w2.heap.size) (Nat.le_refl _)); have HJ := Lib.hid (HJ.out.keep gn); have hS := HJ.out.d8; have hzn : w2.heap.size ≤ wn.heap.size := gn.size) | (refine step_rows (n := l1.length) (c := cg) rfl (.tmp 38) (.tmp 41) rfl (by simp [Act.eval]) HN.out (by simp [Act.eval]) rfl HC.out (by omega) (by omega) hzn ?_; intro g' cap' w' hr hb hlt; have HJ := Lib.hid (HJ.out.keepB hdl hb); have hS := HJ.out.d8; have HR := Lib.hid hr))
    all_goals
      go_wp2_with (fail)
      go_meet
      exact ⟨g', cap', by rw [List.length_append], HR.out, hlt, HJ.out⟩
  case rest =>
  obtain ⟨g, cg, rfl, hrow, hg, hj⟩ := hcut
  have hL0 : 1 ≤ (l0 ++ l1).length ∧ (l0 ++ l1).length ≤ 62 := by rw [List.length_append]; omega
  have hdl := HJ2.out.dl
  clear HJ2 CP CP1 HPd HPd1 hc hc1
  have hw2 := hj.bel.size
  generalize l0 ++ l1 = L0 at *
  have HR3 := Lib.hid (hrow.lower (B' := w.heap.size + 3) (by omega))
  have HJ3 := Lib.hid hj
  have HDl := Lib.hid hj.dl
  clear hdl
  have hix : fl % L0.length < L0.length := Nat.mod_lt _ (by omega)
  have hqo := HOk.out (L0.getD (fl % L0.length) Pc.zero) (by rw [List.getD_eq_getElem?_getD, List.getElem?_eq_getElem hix]; exact List.getElem_mem _)
  have hpc := hrow.at4 hix
  have hiz : (fl : Int) % (L0.length : Int) = ((fl % L0.length : Nat) : Int) := by push_cast; rfl
  have HHiz := Lib.hid hiz
  have hqz := ((Pc.ok_iff _).1 hqo).2.2.1
  clear hrow hj hiz hqo
  generalize L0.getD (fl % L0.length) Pc.zero = q at hqz hpc
  generalize hidx : fl % L0.length = ix at hpc hix HHiz
  have e0 := hpc.c0
  have e1 := hpc.c1
  have e2 := hpc.c2
  have e3 := hpc.c3
  have hix' : (ix : Int) < (L0.length : Int) := by omega
  clear hpc
  have hiz := HHiz.out
  have hdw : w.heap.size + 2 < wc.heap.size := HDl.out
  go_upto_region 4 with fail
  have bx : Below wc.heap.size wc (wc.alloc (.cells #[.bool q.start, .int .i64 q.number, .int .i64 q.count, .string q.data] 45)) := (Below.refl _ wc).alloc (Nat.le_refl _) _
  have HX := Lib.hid (pv_new wc q)
  have HR4 := Lib.hid (HR3.out.keep bx)
  have HJ4 := Lib.hid (HJ3.out.keep bx)
  clear e0 e1 e2 e3 bx HR3 HJ3 hiz hix' HHiz hidx hix
  generalize wc.alloc (.cells #[.bool q.start, .int .i64 q.number, .int .i64 q.count, .string q.data] 45) = w4 at *
  generalize wc.heap.size = Bx at *
  have hx3 := HX.out.at'.c3
  obtain ⟨d, hd⟩ : ∃ d, q.data = d := ⟨_, rfl⟩
  rw [hd] at hx3 hqz
  have hax : fl % (8 * d.size) < 8 * d.size := Nat.mod_lt _ (by omega)
  have hwm : IntKind.i64.wrap (8 * (d.size : Int)) = 8 * (d.size : Int) := IntWalk.i64_in _ (by omega)
  have hd0 : ¬ (8 * (d.size : Int) = 0) := by omega
  have hmd : Hid ((fl : Int) % (8 * (d.size : Int)) = ((fl % (8 * d.size) : Nat) : Int)) := Lib.hid (by push_cast; rfl)
  have hor : Hid (bits .or .u32 (fl : Int) 1 = ((fl ||| 1 : Nat) : Int)) := Lib.hid (bitsop_u32 fl 1 (by omega) (by omega)).2
  have hol : fl ||| 1 < 4294967296 := Nat.or_lt_two_pow (n := 32) (by omega) (by omega)
  have HF : Hid (∀ W, Calls Try.prog 19 #[.string d, .int .i64 ((fl % (8 * d.size) : Nat) : Int), .int .u32 ((fl ||| 1 : Nat) : Int)] W fun e w' => e = .returned (.string (flipB d (fl % (8 * d.size)) (fl ||| 1))) ∧ Below W.heap.size W w') := Lib.hid (Flip_any d (by omega) (fl % (8 * d.size)) (by omega) (fl ||| 1) hol)
  have hfs : (flipB d (fl % (8 * d.size)) (fl ||| 1)).size = d.size := flipB_size _ _ _
  generalize flipB d (fl % (8 * d.size)) (fl ||| 1) = fd at HF hfs
  generalize fl % (8 * d.size) = ax at *
  generalize fl ||| 1 = px at *
  go_cut [] (fun wx => PV wx Bx { q with data := fd } ∧ Rw wx (w.heap.size + 3) (.slice (some ⟨g, 0, none⟩) L0.length cg) L0 ∧ Jn w m p #[.string D.data, .int .u16 (D.long : Int), .int .u8 (D.number : Int), .slice pd D.cuts.length capd, .string D1.data, .int .u16 (D1.long : Int), .int .u8 (D1.number : Int), .slice pd1 D1.cuts.length capd1] wx)
  case first =>
    go_still_tail 12, (by kernel_rfl)
    change wpList _ _ _ _ _ w4.drew
    go_wp2_with (fail)
    rw [hmd.out, hor.out]
    refine (HF.out _).mono ?_
    rintro e wn ⟨rfl, gn⟩
    have HXn := Lib.hid (HX.out.drew.keep gn)
    have hRn := (HR4.out.keep (Below.drew (Below.refl _ _))).keep gn
    have hJn := HJ4.out.drew.keep gn
    have hA := HXn.out.at'.c3
    have zA := HXn.out.fz 3
    have sB : Below Bx wn (wn.setCell ⟨Bx, 3, none⟩ (.string fd)) := (Below.refl _ _).setCell (p := ⟨Bx, 3, none⟩) (Nat.le_refl _) _
    have HRn := Lib.hid (hRn.keepB hg sB)
    have HJn := Lib.hid (hJn.keepB hdw sB)
    clear hRn hJn sB gn
    go_wp2_with (fail)
    go_meet
    exact ⟨HXn.out.text fd, HRn.out, HJn.out⟩
  case rest =>
  obtain ⟨hx5, hr5, hj5⟩ := hcut
  clear HX HR4 HJ4 HF hx3 hwm hmd hor hol hd0
  obtain ⟨b, hb⟩ : ∃ b : Pc, b = { q with data := fd } := ⟨_, rfl⟩
  have hbz : b.data.size ≤ 1522 := by
    rw [hb]
    show fd.size ≤ 1522
    omega
  rw [← hb] at hx5
  obtain ⟨i0, hi, hz0, hz1, hz2⟩ := info_parts infoPc
  have IH := Lib.hid hi
  have IZ := Lib.hid hz0
  have IZ1 := Lib.hid hz1
  have IZ2 := Lib.hid hz2
  clear hi hz0 hz1 hz2 hb hfs hd hqz
  have x0 := hx5.at'.c0
  have x1 := hx5.at'.c1
  have x2 := hx5.at'.c2
  have x3 := hx5.at'.c3
  have b0 := hj5.pv.at'.c0
  have b1 := hj5.pv.at'.c1
  have b2 := hj5.pv.at'.c2
  have b3 := hj5.pv.at'.c3
  have bA : Below wc.heap.size wc (wc.alloc (.cells #[.bool b.start, .int .i64 b.number, .int .i64 b.count, .string b.data, .bool p.start, .int .i64 p.number, .int .i64 p.count, .string p.data] 45)) := (Below.refl _ wc).alloc (Nat.le_refl _) _
  have HRc := Lib.hid (hr5.keep bA)
  have HNews : Hid (∀ j u, (flat [b, p])[j]? = some u → (wc.alloc (.cells #[.bool b.start, .int .i64 b.number, .int .i64 b.count, .string b.data, .bool p.start, .int .i64 p.number, .int .i64 p.count, .string p.data] 45)).cell? ((⟨wc.heap.size, 0, none⟩ : Addr).add j) = some u) := Lib.hid (two_new wc b p)
  have HJ6 := Lib.hid (hj5.keep bA)
  have hwz : w.heap.size + 3 ≤ wc.heap.size := hj5.dl
  clear hx5 hr5 hj5 bA
  go_upto_region 6 with (at_builtin; refine wpList_append_own _ rfl _ _ 35 rfl (w.heap.size + 3) 45 i0 (.agg #[.bool false, .int .i64 0, .int .i64 0, .string ⟨#[]⟩]) 4 40 Try.underlying35 IH.out IZ.out IZ1.out IZ2.out rfl (by decide) _ _ _ rfl HRc.out ⟨wc.heap.size, 0, none⟩ 2 2 (flat [b, p]) rfl (flat_length [b, p]) HNews.out (flat_plain [b, p]) (by unfold maxLen; omega) (by omega) (by simp <;> omega) ?_; intro v' w6 hown' hgrow hnil)
  have hb6 := HRc.out.added2 (size_le_alloc hwz _) hgrow
  have hr6 := HRc.out.joined hown'
  have hj6 := HJ6.out.keepB (Nat.lt_succ_self _) hb6
  have hLs : ∀ x ∈ L0 ++ [b, p], x.data.size ≤ 1600 := by
    intro x hx
    rcases List.mem_append.1 hx with h | h
    · have := ((Pc.ok_iff _).1 (HOk.out x h)).2.2.1
      omega
    · simp only [List.mem_cons, List.not_mem_nil, or_false] at h
      rcases h with rfl | rfl
      · omega
      · omega
  have hL1 : 1 ≤ (L0 ++ [b, p]).length := by rw [List.length_append]; omega
  have hL2 : (L0 ++ [b, p]).length ≤ 64 := by rw [List.length_append]; show _ + 2 ≤ 64; omega
  have HLs := Lib.hid hLs
  clear hown' hgrow hnil HRc HNews HJ6 hb6 HOk hL0 hLs x0 x1 x2 x3 b0 b1 b2 b3 IH IZ IZ1 IZ2
  generalize L0 ++ [b, p] = L at *
  obtain ⟨g2, cg2, rfl, _, hg2, _⟩ := hr6.at (j := 0) (by omega)
  have bM : Below w6.heap.size w6 (w6.alloc (.cells #[.bool Mg.zero.on, .int .i64 Mg.zero.number, .int .i64 Mg.zero.next, .string Mg.zero.data] 43)) := (Below.refl _ w6).alloc (Nat.le_refl _) _
  have HD0 : Hid (Rj w m p #[.string D.data, .int .u16 (D.long : Int), .int .u8 (D.number : Int), .slice pd D.cuts.length capd, .string D1.data, .int .u16 (D1.long : Int), .int .u8 (D1.number : Int), .slice pd1 D1.cuts.length capd1] w6.heap.size g2 cg2 L Mg.zero (w6.alloc (.cells #[.bool Mg.zero.on, .int .i64 Mg.zero.number, .int .i64 Mg.zero.next, .string Mg.zero.data] 43))) := Lib.hid ⟨hj6.keep bM, mv_new w6 Mg.zero, hr6.keep bM⟩
  have hB0 : w.heap.size + 2 < w6.heap.size := hj6.dl
  clear hj6 hr6 bM
  go_upto_block 0 with fail
  go_cut [] (fun wx => Jn w m p #[.string D.data, .int .u16 (D.long : Int), .int .u8 (D.number : Int), .slice pd D.cuts.length capd, .string D1.data, .int .u16 (D1.long : Int), .int .u8 (D1.number : Int), .slice pd1 D1.cuts.length capd1] wx)
  case first =>
    go_wp2_with (fail)
    go_loopw [14] (fun i wr => ∃ (k : Nat) (st : Mg), k ≤ 30 ∧ k ≤ lo.length ∧ i = .int .i64 k ∧ st.ok = true ∧ Rj w m p #[.string D.data, .int .u16 (D.long : Int), .int .u8 (D.number : Int), .slice pd D.cuts.length capd, .string D1.data, .int .u16 (D1.long : Int), .int .u8 (D1.number : Int), .slice pd1 D1.cuts.length capd1] w6.heap.size g2 cg2 L st wr) (fun i _ => 30 - (intOf i).toNat)
    case atStart => exact ⟨0, Mg.zero, by omega, by omega, rfl, zero_ok, HD0.out⟩
    case round =>
      obtain ⟨k, st, hk60, hkl, rfl, hsok, hrj⟩ := hrel
      have HR := Lib.hid hrj
      clear HD0 hrj
      by_cases hk1 : k < lo.length
      case neg =>
        have hk1' : (lo.length : Int) ≤ (k : Int) := by omega
        go_wp2_with (fail)
        go_meet
        exact HR.out.j
      have hk1' : (k : Int) < (lo.length : Int) := by omega
      by_cases hk2 : k < 30
      case neg =>
        have hk2' : ¬ ((k : Int) < 30) := by omega
        go_wp2_with (fail)
        go_meet
        exact HR.out.j
      have hk2' : (k : Int) < 30 := by omega
      have hat := (HPo.out.keep HR.out.j.bel).at hk1
      have hzm : lo.getD k 0 ∈ lo := by rw [List.getD_eq_getElem?_getD, List.getElem?_eq_getElem hk1]; exact List.getElem_mem _
      have hzw := bounds_u8 (HLo.out _ hzm)
      generalize lo.getD k 0 = z at hat hzw
      obtain ⟨zn, rfl⟩ : ∃ n : Nat, z = (n : Int) := ⟨z.toNat, by omega⟩
      obtain ⟨ob, oo, rfl, hob, hcz⟩ := hat
      have hix : zn % L.length < L.length := Nat.mod_lt _ (by omega)
      have hqz := HLs.out (L.getD (zn % L.length) Pc.zero) (by rw [List.getD_eq_getElem?_getD, List.getElem?_eq_getElem hix]; exact List.getElem_mem _)
      have hpc := HR.out.r.at4 hix
      have hiz : (zn : Int) % (L.length : Int) = ((zn % L.length : Nat) : Int) := by push_cast; rfl
      have HHiz := Lib.hid hiz
      clear hzm hiz
      generalize L.getD (zn % L.length) Pc.zero = x at hqz hpc
      generalize hidx : zn % L.length = ix at hpc hix HHiz
      have e0 := hpc.c0
      have e1 := hpc.c1
      have e2 := hpc.c2
      have e3 := hpc.c3
      have hix' : (ix : Int) < (L.length : Int) := by omega
      clear hpc
      have hiz := HHiz.out
      go_upto_region 11 with fail
      have bx : Below wr.heap.size wr (wr.alloc (.cells #[.bool x.start, .int .i64 x.number, .int .i64 x.count, .string x.data] 45)) := (Below.refl _ wr).alloc (Nat.le_refl _) _
      have hcz2 := (bx.cell (block_lt_of_cell hcz)).trans hcz
      have HX := Lib.hid (pv_new wr x)
      have HR2 := Lib.hid (HR.out.keep bx)
      have hsl := HR.out.s.lt
      clear e0 e1 e2 e3 hcz bx HR hiz hix' HHiz hidx hix
      generalize wr.alloc (.cells #[.bool x.start, .int .i64 x.number, .int .i64 x.count, .string x.data] 45) = w7 at *
      generalize wr.heap.size = Bq at *
      go_cut [93] (fun s wx => s = .bool (decide ((k : Int) % 3 = 2)) ∧ wx = w7)
      case first =>
        go_wp2_with (fail)
        go_meet
        exact ⟨rfl, rfl⟩
      case rest =>
      obtain ⟨rfl, rfl⟩ := hcut
      refine ‹∀ (a : Act) (w : World), Code.wp _ _ _ a w → _› _ _ ?_
      go_cut [] (fun wx => ∃ c, PV wx Bq { x with count := c } ∧ Rj w m p #[.string D.data, .int .u16 (D.long : Int), .int .u8 (D.number : Int), .slice pd D.cuts.length capd, .string D1.data, .int .u16 (D1.long : Int), .int .u8 (D1.number : Int), .slice pd1 D1.cuts.length capd1] w6.heap.size g2 cg2 L st wx)
      case first =>
        by_cases h3 : (k : Int) % 3 = 2
        · rw [decide_eq_true h3]
          have y2 := HX.out.at'.c2
          have z2 := HX.out.fz 2
          go_wp2_with (fail)
          go_meet
          exact ⟨_, HX.out.count _, HR2.out.keepB (by omega) hsl (by omega) ((Below.refl _ _).setCell (p := ⟨Bq, 2, none⟩) (Nat.le_refl _) _)⟩
        · rw [decide_eq_false h3]
          go_wp2_with (fail)
          go_meet
          exact ⟨_, HX.out, HR2.out⟩
      case rest =>
      obtain ⟨c, hxc, hrc⟩ := hcut
      obtain ⟨y, hy⟩ : ∃ y : Pc, y = { x with count := c } := ⟨_, rfl⟩
      have hyz : y.data.size ≤ 1600 := by rw [hy]; exact hqz
      rw [← hy] at hxc
      clear HX
      have HX := Lib.hid hxc
      have HR := Lib.hid hrc
      clear HR2 hxc hrc hy hqz hcz2 hzw hob
      have a0 := HR.out.j.mv.at'.c0
      have a1 := HR.out.j.mv.at'.c1
      have a2 := HR.out.j.mv.at'.c2
      have a3 := HR.out.j.mv.at'.c3
      have s0 := HR.out.s.at'.c0
      have s1 := HR.out.s.at'.c1
      have s2 := HR.out.s.at'.c2
      have s3 := HR.out.s.at'.c3
      go_upto_block 2 with fail
      clear a0 a1 a2 a3 s0 s1 s2 s3
      have hso := Mg.ok_size hsok
      go_cut [] (fun wx => PV wx Bq y ∧ Rj w m p #[.string D.data, .int .u16 (D.long : Int), .int .u8 (D.number : Int), .slice pd D.cuts.length capd, .string D1.data, .int .u16 (D1.long : Int), .int .u8 (D1.number : Int), .slice pd1 D1.cuts.length capd1] w6.heap.size g2 cg2 L st wx)
      case first =>
        go_wp2_with (fail)
        go_loopw [104] (fun i wr2 => ∃ j : Nat, j ≤ 2 ∧ i = .int .i64 j ∧ PV wr2 Bq y ∧ Rj w m p #[.string D.data, .int .u16 (D.long : Int), .int .u8 (D.number : Int), .slice pd D.cuts.length capd, .string D1.data, .int .u16 (D1.long : Int), .int .u8 (D1.number : Int), .slice pd1 D1.cuts.length capd1] w6.heap.size g2 cg2 L st wr2) (fun i _ => 2 - (intOf i).toNat)
        case atStart => exact ⟨0, by omega, rfl, HX.out, HR.out⟩
        case round =>
          obtain ⟨wr2, hw2⟩ : ∃ W, W = wr := ⟨_, rfl⟩
          subst hw2
          obtain ⟨j, hj2, rfl, hxj, hrj⟩ := hrel
          clear HX HR
          have HX := Lib.hid hxj
          have HR := Lib.hid hrj
          clear hxj hrj
          by_cases hjl : j < 2
          case neg =>
            obtain rfl : j = 2 := by omega
            go_wp2_with (fail)
            go_meet
            exact ⟨HX.out, HR.out⟩
          have hjl' : (j : Int) < 2 := by omega
          obtain ⟨kk, hkk, hki⟩ := index2m m st j hjl
          have hkz : kk.data.size ≤ 1600 := by rcases hkk with rfl | rfl <;> omega
          have CM := Lib.hid (MJoin_any kk y (by omega) (by omega))
          have CR := Lib.hid (RJoin_any kk y (by omega) (by omega))
          unfold JRet at CM CR
          generalize (join kk y).1 = r at CM CR
          generalize (join kk y).2.1 = f at CM CR
          generalize (join kk y).2.2 = ec at CM CR
          have bk : Below wr2.heap.size wr2 (wr2.alloc (.cells #[.bool kk.on, .int .i64 kk.number, .int .i64 kk.next, .string kk.data] 43)) := (Below.refl _ _).alloc (Nat.le_refl _) _
          have HK := Lib.hid (mv_new wr2 kk)
          have HX1 := Lib.hid (HX.out.keep bk)
          have HR1 := Lib.hid (HR.out.keep bk)
          clear hkk bk HX HR
          go_upto_region 16 with fail
          generalize wr2.alloc (.cells #[.bool kk.on, .int .i64 kk.number, .int .i64 kk.next, .string kk.data] 43) = v1 at *
          have k0 := HK.out.at'.c0
          have k1 := HK.out.at'.c1
          have k2 := HK.out.at'.c2
          have k3 := HK.out.at'.c3
          have y0 := HX1.out.at'.c0
          have y1 := HX1.out.at'.c1
          have y2 := HX1.out.at'.c2
          have y3 := HX1.out.at'.c3
          go_wp2_with (fail)
          refine (CM.out _).mono ?_
          rintro e v2 ⟨rfl, g2'⟩
          have HK2 := Lib.hid (HK.out.keep g2')
          have HX2 := Lib.hid (HX1.out.keep g2')
          have HR2 := Lib.hid (HR1.out.keep g2')
          clear HK HX1 HR1 g2' CM k0 k1 k2 k3 y0 y1 y2 y3
          have bn : Below v2.heap.size v2 (v2.alloc (.cells #[.bool r.on, .int .i64 r.number, .int .i64 r.next, .string r.data] 43)) := (Below.refl _ _).alloc (Nat.le_refl _) _
          have HN3 := Lib.hid (mv_new v2 r)
          have HK3 := Lib.hid (HK2.out.keep bn)
          have HX3 := Lib.hid (HX2.out.keep bn)
          have HR3 := Lib.hid (HR2.out.keep bn)
          clear HK2 HX2 HR2 bn
          go_upto_region 17 with fail
          generalize v2.alloc (.cells #[.bool r.on, .int .i64 r.number, .int .i64 r.next, .string r.data] 43) = v3 at *
          have k0 := HK3.out.at'.c0
          have k1 := HK3.out.at'.c1
          have k2 := HK3.out.at'.c2
          have k3 := HK3.out.at'.c3
          have y0 := HX3.out.at'.c0
          have y1 := HX3.out.at'.c1
          have y2 := HX3.out.at'.c2
          have y3 := HX3.out.at'.c3
          go_wp2_with (fail)
          refine (CR.out _).mono ?_
          rintro e v4 ⟨rfl, g4⟩
          have HN4 := Lib.hid (HN3.out.keep g4)
          have HK4 := Lib.hid (HK3.out.keep g4)
          have HX4 := Lib.hid (HX3.out.keep g4)
          have HR4 := Lib.hid (HR3.out.keep g4)
          clear HN3 HK3 HX3 HR3 g4 CR k0 k1 k2 k3 y0 y1 y2 y3
          have bn : Below v4.heap.size v4 (v4.alloc (.cells #[.bool r.on, .int .i64 r.number, .int .i64 r.next, .string r.data] 43)) := (Below.refl _ _).alloc (Nat.le_refl _) _
          have HO5 := Lib.hid (mv_new v4 r)
          have HN5 := Lib.hid (HN4.out.keep bn)
          have HK5 := Lib.hid (HK4.out.keep bn)
          have HX5 := Lib.hid (HX4.out.keep bn)
          have HR5 := Lib.hid (HR4.out.keep bn)
          clear HN4 HK4 HX4 HR4 bn
          go_upto_region 18 with fail
          generalize v4.alloc (.cells #[.bool r.on, .int .i64 r.number, .int .i64 r.next, .string r.data] 43) = v5 at *
          have k0 := cell_regrown HK5.out.at'.c0
          have k1 := cell_regrown HK5.out.at'.c1
          have k2 := cell_regrown HK5.out.at'.c2
          have k3 := cell_regrown HK5.out.at'.c3
          have y0 := cell_regrown HX5.out.at'.c0
          have y1 := cell_regrown HX5.out.at'.c1
          have y2 := cell_regrown HX5.out.at'.c2
          have y3 := cell_regrown HX5.out.at'.c3
          have n0 := cell_regrown HN5.out.at'.c0
          have n1 := cell_regrown HN5.out.at'.c1
          have n2 := cell_regrown HN5.out.at'.c2
          have n3 := cell_regrown HN5.out.at'.c3
          have o0 := cell_regrown HO5.out.at'.c0
          have o1 := cell_regrown HO5.out.at'.c1
          have o2 := cell_regrown HO5.out.at'.c2
          have o3 := cell_regrown HO5.out.at'.c3
          have hq : ∀ W, (binOp .neq 43 (.agg #[.bool r.on, .int .i64 r.number, .int .i64 r.next, .string r.data]) (.agg #[.bool r.on, .int .i64 r.number, .int .i64 r.next, .string r.data])).run Try.prog W = .ok (.bool false) W := fun W => by
            have := neq_mg r r W
            rw [decide_eq_true rfl] at this
            exact this
          have j1 := Gives.quiet (f := 22) (v := .int .i64 kk.code) (Check_any kk (by omega)) v5
          have j2 := Gives.quiet (f := 23) (v := .int .i64 kk.code) (RCheck_any kk (by omega)) v5
          have j3 := Gives.quiet (f := 24) (v := .int .i64 y.code) (CheckPiece_any y (by omega)) v5
          have j4 := Gives.quiet (f := 25) (v := .int .i64 y.code) (RCheckPiece_any y (by omega)) v5
          generalize kk.code = kc at j1 j2
          generalize y.code = yc at j3 j4
          refine wp_region_quiet_below (by kernel_rfl) (by kernel_rfl) ?_
          repeat (first | go_big_quiet_step (first | (with_reducible exact j1 _ _) | (with_reducible exact j2 _ _) | (with_reducible exact j3 _ _) | (with_reducible exact j4 _ _)) | quiet_step (first | (with_reducible exact j1 _ _) | (with_reducible exact j2 _ _) | (with_reducible exact j3 _ _) | (with_reducible exact j4 _ _)))
          refine wpQuiet_nil ?_
          intro _ hw'
          obtain ⟨⟨dq, osq⟩, hw''⟩ := hw'
          subst hw''
          have hXe := HX5.out.keep (below_regrown v5 dq osq)
          have hRe := HR5.out.keep (below_regrown v5 dq osq)
          have HXe := Lib.hid hXe
          have HRe := Lib.hid hRe
          clear k0 k1 k2 k3 y0 y1 y2 y3 n0 n1 n2 n3 o0 o1 o2 o3 j1 j2 j3 j4 HX5 HR5 HK5 HN5 HO5 hXe hRe
          go_wp2_with (fail)
          go_round
          case rel => exact ⟨j + 1, by omega, by go_num, HXe.out, HRe.out⟩
          case measure => simp [intOf] <;> omega
      case rest =>
      obtain ⟨hxc, hrc⟩ := hcut
      clear HX HR
      have HX := Lib.hid hxc
      have HR := Lib.hid hrc
      clear hxc hrc
      have hro := join_ok st y
      have CR := Lib.hid (RJoin_any st y (by omega) (by omega))
      unfold JRet at CR
      generalize (join st y).1 = r at CR hro
      generalize (join st y).2.1 = f at CR
      generalize (join st y).2.2 = ec at CR
      have s0 := HR.out.s.at'.c0
      have s1 := HR.out.s.at'.c1
      have s2 := HR.out.s.at'.c2
      have s3 := HR.out.s.at'.c3
      have y0 := HX.out.at'.c0
      have y1 := HX.out.at'.c1
      have y2 := HX.out.at'.c2
      have y3 := HX.out.at'.c3
      go_upto_region 21 with fail
      go_wp2_with (fail)
      refine (CR.out _).mono ?_
      rintro e v2 ⟨rfl, g2'⟩
      have HR2 := Lib.hid (HR.out.keep g2')
      clear CR g2' HX HR s0 s1 s2 s3 y0 y1 y2 y3
      have s0 := HR2.out.s.at'.c0
      have s1 := HR2.out.s.at'.c1
      have s2 := HR2.out.s.at'.c2
      have s3 := HR2.out.s.at'.c3
      have z0 := HR2.out.s.fz 0
      have z1 := HR2.out.s.fz 1
      have z2 := HR2.out.s.fz 2
      have z3 := HR2.out.s.fz 3
      have HRs := Lib.hid (HR2.out.store hB0 hg2 r)
      go_wp2_with (fail)
      clear s0 s1 s2 s3 z0 z1 z2 z3 HR2
      go_round
      case rel => exact ⟨k + 1, r, by omega, by omega, by go_num, hro, HRs.out⟩
      case measure => simp [intOf] <;> omega
  case rest =>
  have HJ := Lib.hid hcut
  clear HD0
  have CM := Lib.hid (MJoin_any m p (by omega) (by omega))
  have CR := Lib.hid (RJoin_any m p (by omega) (by omega))
  unfold JRet at CM CR
  generalize (join m p).1 = r at CM CR
  generalize (join m p).2.1 = f at CM CR
  generalize (join m p).2.2 = ec at CM CR
  have s0 := HJ.out.mv.at'.c0
  have s1 := HJ.out.mv.at'.c1
  have s2 := HJ.out.mv.at'.c2
  have s3 := HJ.out.mv.at'.c3
  have y0 := HJ.out.pv.at'.c0
  have y1 := HJ.out.pv.at'.c1
  have y2 := HJ.out.pv.at'.c2
  have y3 := HJ.out.pv.at'.c3
  go_upto_region 22 with fail
  go_wp2_with (fail)
  refine (CM.out _).mono ?_
  rintro e v2 ⟨rfl, g2'⟩
  have HJ2 := Lib.hid (HJ.out.keep g2')
  have bn : Below v2.heap.size v2 (v2.alloc (.cells #[.bool r.on, .int .i64 r.number, .int .i64 r.next, .string r.data] 43)) := (Below.refl _ _).alloc (Nat.le_refl _) _
  have HN3 := Lib.hid (mv_new v2 r)
  have HJ3 := Lib.hid (HJ2.out.keep bn)
  clear CM g2' HJ HJ2 bn s0 s1 s2 s3 y0 y1 y2 y3
  go_upto_region 23 with fail
  generalize v2.alloc (.cells #[.bool r.on, .int .i64 r.number, .int .i64 r.next, .string r.data] 43) = v3 at *
  have s0 := HJ3.out.mv.at'.c0
  have s1 := HJ3.out.mv.at'.c1
  have s2 := HJ3.out.mv.at'.c2
  have s3 := HJ3.out.mv.at'.c3
  have y0 := HJ3.out.pv.at'.c0
  have y1 := HJ3.out.pv.at'.c1
  have y2 := HJ3.out.pv.at'.c2
  have y3 := HJ3.out.pv.at'.c3
  go_wp2_with (fail)
  refine (CR.out _).mono ?_
  rintro e v4 ⟨rfl, g4⟩
  have HN4 := Lib.hid (HN3.out.keep g4)
  have HJ4 := Lib.hid (HJ3.out.keep g4)
  have bn : Below v4.heap.size v4 (v4.alloc (.cells #[.bool r.on, .int .i64 r.number, .int .i64 r.next, .string r.data] 43)) := (Below.refl _ _).alloc (Nat.le_refl _) _
  have HO5 := Lib.hid (mv_new v4 r)
  have HN5 := Lib.hid (HN4.out.keep bn)
  have HJ5 := Lib.hid (HJ4.out.keep bn)
  clear CR g4 HN3 HJ3 HN4 HJ4 bn s0 s1 s2 s3 y0 y1 y2 y3
  go_upto_region 24 with fail
  generalize v4.alloc (.cells #[.bool r.on, .int .i64 r.number, .int .i64 r.next, .string r.data] 43) = v5 at *
  have n0 := HN5.out.at'.c0
  have n1 := HN5.out.at'.c1
  have n2 := HN5.out.at'.c2
  have n3 := HN5.out.at'.c3
  have o0 := HO5.out.at'.c0
  have o1 := HO5.out.at'.c1
  have o2 := HO5.out.at'.c2
  have o3 := HO5.out.at'.c3
  have hq : ∀ W, (binOp .eql 43 (.agg #[.bool r.on, .int .i64 r.number, .int .i64 r.next, .string r.data]) (.agg #[.bool r.on, .int .i64 r.number, .int .i64 r.next, .string r.data])).run Try.prog W = .ok (.bool true) W := fun W => by
    have := eql_mg r r W
    rw [decide_eq_true rfl] at this
    exact this
  go_wp2_with (fail)
  refine (works_any _).mono ?_
  rintro e v6 ⟨rfl, g6⟩
  have HBe := Lib.hid (HJ5.out.keep g6).bel
  clear n0 n1 n2 n3 o0 o1 o2 o3 g6
  go_wp2_with (fail)
  go_ret
  exact ⟨rfl, HBe.out⟩
namespace mergeJoins
open Go.ChangeShapes Go.WideShapes Go.ChangeAt Go.RowKit
open Go.ChangeMaps (open_string shut_string)
theorem own : ownKnob Try.prog.godebug = none := by kernel_rfl
theorem laidOut : laidOutB Try.prog = true := by kernel_rfl

set_option maxRecDepth 100000 in
theorem lifted (os : Os) (started : os.Started) (H : Type) (enc : TypeId × Value → H) :
    ReturnsInHanded {} Try.checked os 4 .any (Rows.mergeJoinsSpec.pre6 enc Try.prog Try.f4 Rows.mergeJoinsRow.domain false) (Rows.mergeJoinsSpec.post enc Try.prog Try.f4 false true false false) := by
  refine returnsInHanded_of_change (C := Try.checked) own started (by kernel_rfl) Try.func4
    (ChangeSpec.witness6 (enc := enc) (C := Try.checked) false ⟨#[], #[.agg #[.bool false, .int .i64 0, .int .i64 0, .string ByteArray.empty], .agg #[.bool false, .int .i64 0, .int .i64 0, .string ByteArray.empty], .agg #[.string ByteArray.empty, .int .u16 0, .int .u8 0, .slice none 0 0, .string ByteArray.empty, .int .u16 0, .int .u8 0, .slice none 0 0], .slice none 0 0, .int .u16 0], []⟩ 8 (by kernel_rfl) (by kernel_rfl) (by kernel_rfl) (by kernel_rfl)) ?_
  intro W base args ds gs before hval0 hW hcnd _
  have hval : ∀ (j : Nat) t v, Try.f4.params[j]? = some t → args[j]? = some v → Value.okWide Try.prog W .any base t v := hval0
  have hW' := hW
  obtain ⟨p, q, hA0, hV, rfl, hfz, hnd⟩ := hW
  have hA : DataW.TrodAll enc Try.prog W 0 (fun _ => true) true Try.f4.params.toList args.toList ds p := hA0
  rw [Try.params4] at hA hval
  obtain ⟨v0, vs0, d0, ds0, p0, q0, hargs, rfl, rfl, h0, r0⟩ := trodAll_cons hA
  obtain ⟨v1, vs1, d1, ds1, p1, q1, rfl, rfl, rfl, h1, r1⟩ := trodAll_cons r0
  obtain ⟨v2, vs2, d2, ds2, p2, q2, rfl, rfl, rfl, h2, r2⟩ := trodAll_cons r1
  obtain ⟨v3, vs3, d3, ds3, p3, q3, rfl, rfl, rfl, h3, r3⟩ := trodAll_cons r2
  obtain ⟨v4, vs4, d4, ds4, p4, q4, rfl, rfl, rfl, h4, r4⟩ := trodAll_cons r3
  obtain ⟨rfl, rfl, rfl⟩ := trodAll_nil r4
  obtain rfl : args = #[v0, v1, v2, v3, v4] := by cases args; simp_all
  obtain ⟨rfl, rfl⟩ := trodVars_none hV
  have k0 := h0
  have lt0 : ∀ x ∈ p0, x.block < W.heap.size := by obtain ⟨m, hm⟩ := k0; exact DataW.trod_lt m _ _ _ hm
  have k1 := h1
  have lt1 : ∀ x ∈ p1, x.block < W.heap.size := by obtain ⟨m, hm⟩ := k1; exact DataW.trod_lt m _ _ _ hm
  have k2 := h2
  have lt2 : ∀ x ∈ p2, x.block < W.heap.size := by obtain ⟨m, hm⟩ := k2; exact DataW.trod_lt m _ _ _ hm
  have k3 := h3
  have lt3 : ∀ x ∈ p3, x.block < W.heap.size := by obtain ⟨m, hm⟩ := k3; exact DataW.trod_lt m _ _ _ hm
  have k4 := h4
  have lt4 : ∀ x ∈ p4, x.block < W.heap.size := by obtain ⟨m, hm⟩ := k4; exact DataW.trod_lt m _ _ _ hm
  obtain ⟨a0, rfl, w0⟩ := open_merge (hval 0 43 v0 rfl rfl) h0
  obtain ⟨a1, rfl, w1⟩ := open_piece (hval 1 45 v1 rfl rfl) h1
  obtain ⟨a2, p2', q2', b2, r2', s2', rfl, w2, i2, u2, k2'⟩ := open_drafts2 Try.underlying46 (by kernel_rfl) (hval 2 46 v2 rfl rfl) h2
  obtain ⟨p3', q3', a3, rfl, w3, i3, u3⟩ := open_nums Try.underlying23 Try.underlying5 (by kernel_rfl) (hval 3 23 v3 rfl rfl) h3
  obtain ⟨a4, rfl, rfl, rfl, w4⟩ := open_int Try.underlying22 (hval 4 22 v4 rfl rfl) h4
  clear hA0 hval0
  refine (mergeJoins_walk a0 a1 a2 p2' q2' b2 r2' s2' p3' q3' a3 a4 W w0 w1 w2 i2 u2 k2' w3 i3 u3 w4).mono fun e W' ⟨he, bel⟩ => ?_
  subst he
  exact ⟨_, rfl, _, _, _, [], _, [], hW', trodAll_mk1 (shut_bool Try.underlying4 _), (trodAll_cons_mk (Below.trod laidOut (by kernel_rfl) (of_decide_eq_true (by kernel_rfl)) k0 bel lt0) (trodAll_cons_mk (Below.trod laidOut (by kernel_rfl) (of_decide_eq_true (by kernel_rfl)) k1 bel lt1) (trodAll_cons_mk (Below.trod laidOut (by kernel_rfl) (of_decide_eq_true (by kernel_rfl)) k2 bel lt2) (trodAll_cons_mk (Below.trod laidOut (by kernel_rfl) (of_decide_eq_true (by kernel_rfl)) k3 bel lt3) (trodAll_cons_mk (Below.trod laidOut (by kernel_rfl) (of_decide_eq_true (by kernel_rfl)) k4 bel lt4) trodAll_mk0))))), rfl, bel.frame _, fun h => by cases h⟩

theorem over : Rows.mergeJoinsRow.holds Try.pinned (OpenSpec.ofChange Rows.mergeJoinsSpec) :=
  OpenClaim.holds_of_wide 4 Try.f4 rfl rfl rfl rfl rfl rfl rfl ⟨rfl, rfl, rfl, rfl, rfl⟩ rfl rfl rfl rfl rfl (by kernel_rfl) Try.func4 (by kernel_rfl)
    (of_decide_eq_true (by kernel_rfl)) (by unfold Func.isWrapper; first | (rw [if_pos (by decide +kernel)]; kernel_rfl) | (rw [if_neg (by decide +kernel)]; exact ⟨rfl, rfl⟩))
    (fun os started H enc _ => lifted os started H enc)

theorem proved : Rows.MergeJoinsSaid := over
#print axioms proved
end mergeJoins
end Go.Proofs.Ytppdfnghojcppaa
