/-
  MergeSound holds for every piece, draft and order: each frame that is returned is a whole frame that ends with the last piece. No condition.
-/
import Derived.Test.YtppdfnghojcppaaMergeP
import Derived.Deep.RegionHeld3
import Derived.Deep.CutBlock
namespace Go.Proofs.Ytppdfnghojcppaa
open Go.RowKit Go.Sort
set_option linter.unusedVariables false

/-- Three pieces in three blocks, the draft in another. -/
structure Th (w : World) (H A B : Nat) (p : Pc) (a b : ByteArray) (D : Dr8) (v : Value) (n0 : Nat) (W : World) : Prop where
  h : PV W H p
  a : PV W A { p with data := a }
  b : PV W B { p with data := b }
  d0 : W.cell? ⟨H + 1, 0, none⟩ = some (.string D.data)
  d1 : W.cell? ⟨H + 1, 1, none⟩ = some (.int .u16 (D.long : Int))
  d2 : W.cell? ⟨H + 1, 2, none⟩ = some (.int .u8 (D.number : Int))
  d3 : W.cell? ⟨H + 1, 3, none⟩ = some v
  dl : H + 1 < W.heap.size
  ge : n0 ≤ A ∧ n0 ≤ B
  gh : H + 1 < n0
  ne : A ≠ B
  bel : Below H w W
theorem Th.keep {w : World} {H A B : Nat} {p : Pc} {a b : ByteArray} {D : Dr8} {v : Value} {n0 : Nat} {W W' : World} (h : Th w H A B p a b D v n0 W) (hb : Below W.heap.size W W') : Th w H A B p a b D v n0 W' :=
  have k := fun j => hb.cell (p := ⟨H + 1, j, none⟩) h.dl
  ⟨h.h.keep hb, h.a.keep hb, h.b.keep hb, (k 0).trans h.d0, (k 1).trans h.d1, (k 2).trans h.d2, (k 3).trans h.d3, Nat.lt_of_lt_of_le h.dl hb.size, h.ge, h.gh, h.ne, h.bel.trans (hb.mono (by have := h.dl; omega))⟩
theorem far_cell {W : World} {B B' i j : Nat} {v : Value} (h : B ≠ B') : (W.setCell ⟨B', i, none⟩ v).cell? ⟨B, j, none⟩ = W.cell? ⟨B, j, none⟩ :=
  World.cell?_setCell_other _ _ _ _ (by intro e; injection e with e; exact h e.symm)
theorem Th.setA {w : World} {H A B : Nat} {p : Pc} {a b : ByteArray} {D : Dr8} {v : Value} {n0 : Nat} {W : World} (h : Th w H A B p a b D v n0 W) (a' : ByteArray) : Th w H A B p a' b D v n0 (W.setCell ⟨A, 3, none⟩ (.string a')) :=
  have hd : H + 1 ≠ A := by have := h.ge; have := h.gh; omega
  ⟨h.h.other (by have := h.ge; have := h.gh; omega) _ _, h.a.text a', h.b.other h.ne.symm _ _, (far_cell hd).trans h.d0, (far_cell hd).trans h.d1, (far_cell hd).trans h.d2, (far_cell hd).trans h.d3, by have := h.dl; simpa using this, h.ge, h.gh, h.ne, h.bel.setCell (p := ⟨A, 3, none⟩) (by have := h.ge; have := h.gh; show H ≤ A; omega) _⟩
theorem Th.setB {w : World} {H A B : Nat} {p : Pc} {a b : ByteArray} {D : Dr8} {v : Value} {n0 : Nat} {W : World} (h : Th w H A B p a b D v n0 W) (b' : ByteArray) : Th w H A B p a b' D v n0 (W.setCell ⟨B, 3, none⟩ (.string b')) :=
  have hd : H + 1 ≠ B := by have := h.ge; have := h.gh; omega
  ⟨h.h.other (by have := h.ge; have := h.gh; omega) _ _, h.a.other h.ne _ _, h.b.text b', (far_cell hd).trans h.d0, (far_cell hd).trans h.d1, (far_cell hd).trans h.d2, (far_cell hd).trans h.d3, by have := h.dl; simpa using this, h.ge, h.gh, h.ne, h.bel.setCell (p := ⟨B, 3, none⟩) (by have := h.ge; have := h.gh; show H ≤ B; omega) _⟩
theorem Th.drew {w : World} {H A B : Nat} {p : Pc} {a b : ByteArray} {D : Dr8} {v : Value} {n0 : Nat} {W : World} (h : Th w H A B p a b D v n0 W) : Th w H A B p a b D v n0 W.drew := h.keep (Below.drew (Below.refl _ _))

theorem th_new {w w2 : World} {p : Pc} {D : Dr8} {v : Value} {n : Nat} (hH : PV w2 w.heap.size p) (hd : ∀ j, w2.cell? ⟨w.heap.size + 1, j, none⟩ = #[.string D.data, .int .u16 (D.long : Int), .int .u8 (D.number : Int), v][j]?) (hB : Below w.heap.size w w2) (hz : w2.heap.size = n) (hn : w.heap.size + 1 < n) :
    Th w w.heap.size n (n + 1) p p.data p.data D v n ((w2.alloc (.cells #[.bool p.start, .int .i64 p.number, .int .i64 p.count, .string p.data] 45)).alloc (.cells #[.bool p.start, .int .i64 p.number, .int .i64 p.count, .string p.data] 45)).drew := by
  subst hz
  have b1 : Below w2.heap.size w2 ((w2.alloc (.cells #[.bool p.start, .int .i64 p.number, .int .i64 p.count, .string p.data] 45)).alloc (.cells #[.bool p.start, .int .i64 p.number, .int .i64 p.count, .string p.data] 45)).drew := (((Below.refl _ _).alloc (Nat.le_refl _) _).alloc (by simp) _).drew
  have k := fun j => (b1.cell (p := ⟨w.heap.size + 1, j, none⟩) hn).trans (hd j)
  have hq := pv_new (w2.alloc (.cells #[.bool p.start, .int .i64 p.number, .int .i64 p.count, .string p.data] 45)) p
  rw [World.size_alloc] at hq
  exact ⟨hH.keep b1, ((pv_new w2 p).old _).drew, hq.drew, (k 0).trans rfl, (k 1).trans rfl, (k 2).trans rfl, (k 3).trans rfl, by simp; omega, ⟨Nat.le_refl _, by omega⟩, hn, by omega, hB.trans (b1.mono (by omega))⟩
theorem Th.swap {w : World} {H A B : Nat} {p : Pc} {a : ByteArray} {D : Dr8} {v : Value} {n0 : Nat} {W : World} (h : Th w H A B p a a D v n0 W) : Th w H B A p a a D v n0 W := ⟨h.h, h.b, h.a, h.d0, h.d1, h.d2, h.d3, h.dl, ⟨h.ge.2, h.ge.1⟩, h.gh, h.ne.symm, h.bel⟩

theorem Th.limbs {w : World} {H A B : Nat} {p : Pc} {a b : ByteArray} {D : Dr8} {v : Value} {n0 : Nat} {W : World} (h : Th w H A B p a b D v n0 W) :
    W.cell? ⟨H, 0, none⟩ = some (.bool p.start) ∧ W.cell? ⟨H, 1, none⟩ = some (.int .i64 p.number) ∧ W.cell? ⟨H, 2, none⟩ = some (.int .i64 p.count) ∧ W.cell? ⟨H, 3, none⟩ = some (.string (p.data)) ∧ W.cell? ⟨A, 0, none⟩ = some (.bool p.start) ∧ W.cell? ⟨A, 1, none⟩ = some (.int .i64 p.number) ∧ W.cell? ⟨A, 2, none⟩ = some (.int .i64 p.count) ∧ W.cell? ⟨A, 3, none⟩ = some (.string (a)) ∧ W.cell? ⟨B, 0, none⟩ = some (.bool p.start) ∧ W.cell? ⟨B, 1, none⟩ = some (.int .i64 p.number) ∧ W.cell? ⟨B, 2, none⟩ = some (.int .i64 p.count) ∧ W.cell? ⟨B, 3, none⟩ = some (.string (b)) ∧ W.cell? ⟨H + 1, 0, none⟩ = some (.string D.data) ∧ W.cell? ⟨H + 1, 1, none⟩ = some (.int .u16 (D.long : Int)) ∧ W.cell? ⟨H + 1, 2, none⟩ = some (.int .u8 (D.number : Int)) ∧ W.cell? ⟨H + 1, 3, none⟩ = some (v) :=
  ⟨h.h.at'.c0, h.h.at'.c1, h.h.at'.c2, h.h.at'.c3, h.a.at'.c0, h.a.at'.c1, h.a.at'.c2, h.a.at'.c3, h.b.at'.c0, h.b.at'.c1, h.b.at'.c2, h.b.at'.c3, h.d0, h.d1, h.d2, h.d3⟩
theorem Th.keepB {w : World} {H A B : Nat} {p : Pc} {a b : ByteArray} {D : Dr8} {v : Value} {n0 n1 : Nat} {W W' : World} (h : Th w H A B p a b D v n0 W) (h1 : A < n1) (h2 : B < n1) (hn : n1 ≤ W.heap.size) (hb : Below n1 W W') : Th w H A B p a b D v n0 W' :=
  have h0 : H + 1 < n1 := by have := h.ge; have := h.gh; omega
  have k := fun j => hb.cell (p := ⟨H + 1, j, none⟩) h0
  ⟨h.h.keepB (by omega) hb, h.a.keepB h1 hb, h.b.keepB h2 hb, (k 0).trans h.d0, (k 1).trans h.d1, (k 2).trans h.d2, (k 3).trans h.d3, Nat.lt_of_lt_of_le h.dl hb.size, h.ge, h.gh, h.ne, h.bel.trans (hb.mono (by omega))⟩
theorem Th.alloc {w : World} {H A B : Nat} {p : Pc} {a b : ByteArray} {D : Dr8} {v : Value} {n0 : Nat} {W : World} (h : Th w H A B p a b D v n0 W) (o : Obj) : Th w H A B p a b D v n0 (W.alloc o) := h.keep ((Below.refl _ _).alloc (Nat.le_refl _) _)

theorem pieces_small (D : Dr8) : ∀ q ∈ D.pieces 30, q.data.size ≤ 2000 := by
  intro q hq
  obtain ⟨i, hi, rfl⟩ := List.mem_map.1 hq
  have := (Pc.ok_iff _).1 ((D.cut_ok 30).piece_ok (i := i) (by have := List.mem_range.1 hi; omega))
  omega
/-- What a round of the loop knows. -/
structure Rd (w : World) (Bm g cg Bx : Nat) (L : List Pc) (m : Mg) (q : Pc) (W : World) : Prop where
  mv : MV W Bm m
  row : Rw W w.heap.size (.slice (some ⟨g, 0, none⟩) L.length cg) L
  x : PV W Bx q
  bel : Below w.heap.size w W
theorem Rd.keep {w : World} {Bm g cg Bx : Nat} {L : List Pc} {m : Mg} {q : Pc} {W W' : World} (h : Rd w Bm g cg Bx L m q W) (hb : Below W.heap.size W W') : Rd w Bm g cg Bx L m q W' :=
  ⟨h.mv.keep hb, h.row.keep hb, h.x.keep hb, h.bel.trans (hb.mono h.bel.size)⟩
theorem RowC.drew {W : World} {g : Nat} {l : List Pc} (h : RowC W g l) : RowC W.drew g l := h
theorem size_le_alloc {n : Nat} {W : World} (h : n ≤ W.heap.size) (o : Obj) : n ≤ (W.alloc o).heap.size := by simp; omega

set_option maxRecDepth 100000 in
set_option maxHeartbeats 4000000 in
theorem mergeSound_walk (p0 : Pc) (D : Dr8) (pd : Option Addr) (capd : Nat) (po : Option Addr) (capo : Nat) (lo : List Int) (w : World) (hp0 : p0.data.size ≤ maxLen) (hD : D.wf) (hpd : Ints w .u8 pd D.cutsI) (hpo : Ints w .u8 po lo) (hlo : ∀ z ∈ lo, (Lit.int .u8 z).wf = true) (hll0 : lo.length ≤ maxLen ∧ lo.length ≤ capo) :
    Calls Try.prog 9 #[.agg #[.bool p0.start, .int .i64 p0.number, .int .i64 p0.count, .string p0.data], .agg #[.string D.data, .int .u16 (D.long : Int), .int .u8 (D.number : Int), .slice pd D.cuts.length capd], .slice po lo.length capo] w fun e w' => e = .returned (.bool true) ∧ Below w.heap.size w w' := by
  have hll := hll0.1
  clear hll0
  unfold maxLen at hll hp0
  have HD := Lib.hid hD
  have HPd := Lib.hid hpd
  have HPo := Lib.hid hpo
  have HLo := Lib.hid hlo
  clear hD hpd hpo hlo
  have hbp : PV ((w.alloc (.cells #[.bool p0.start, .int .i64 p0.number, .int .i64 p0.count, .string p0.data] 45)).alloc (.cells #[.string D.data, .int .u16 (D.long : Int), .int .u8 (D.number : Int), .slice pd D.cuts.length capd] 25)) w.heap.size p0 := (pv_new w p0).old _
  have hbd := fun j => (two_cells w #[.bool p0.start, .int .i64 p0.number, .int .i64 p0.count, .string p0.data] #[.string D.data, .int .u16 (D.long : Int), .int .u8 (D.number : Int), .slice pd D.cuts.length capd] 45 25 j).2
  have HBp := Lib.hid hbp
  have HBd := Lib.hid hbd
  clear hbp hbd
  go_enter Try.func9, Try.ntmps9
  go_wp2_with (fail)
  refine (works_any _).mono ?_
  rintro e w1 ⟨rfl, g1⟩
  have hB1 : Below w.heap.size w w1 := Below.trans (Below.alloc ((Below.refl _ w).alloc (Nat.le_refl _) _) (by simp) _) (g1.mono (by simp; omega))
  have hz1 : w.heap.size + 1 < w1.heap.size := by have := g1.size; simp at this; omega
  have HP1 := Lib.hid (HBp.out.keep g1)
  have HD1 := Lib.hid (fun j => (g1.cell (p := ⟨w.heap.size + 1, j, none⟩) (by simp)).trans (HBd.out j))
  clear g1 HBp HBd
  have a0 := HP1.out.at'.c0
  have a1 := HP1.out.at'.c1
  have a2 := HP1.out.at'.c2
  have a3 := HP1.out.at'.c3
  have z3 := HP1.out.fz 3
  have hmn : (min (p0.data.size : Int) 200) = ((min p0.data.size 200 : Nat) : Int) := by omega
  have hmb : min p0.data.size 200 ≤ p0.data.size ∧ min p0.data.size 200 ≤ 200 := by omega
  go_upto_region 4 with fail
  have HP2 := Lib.hid (HP1.out.text (p0.data.extract 0 (min p0.data.size 200)))
  have HD2 := Lib.hid (fun j => (far_cell (i := 3) (v := .string (p0.data.extract 0 (min p0.data.size 200))) (j := j) (W := w1) (show w.heap.size + 1 ≠ w.heap.size by omega)).trans (HD1.out j))
  have hB2 : Below w.heap.size w (w1.setCell ⟨w.heap.size, 3, none⟩ (.string (p0.data.extract 0 (min p0.data.size 200)))) := hB1.setCell (p := ⟨w.heap.size, 3, none⟩) (Nat.le_refl _) _
  have hz2 : (w1.setCell ⟨w.heap.size, 3, none⟩ (.string (p0.data.extract 0 (min p0.data.size 200)))).heap.size = w1.heap.size := by simp
  have hpx : (p0.data.extract 0 (min p0.data.size 200)).size ≤ 200 := by rw [ByteArray.size_extract]; omega
  clear a0 a1 a2 a3 z3 HP1 HD1 hmn hmb hB1
  generalize w1.setCell ⟨w.heap.size, 3, none⟩ (.string (p0.data.extract 0 (min p0.data.size 200))) = w2 at *
  obtain ⟨p, hp⟩ : ∃ p : Pc, p = ⟨p0.start, p0.number, p0.count, p0.data.extract 0 (min p0.data.size 200)⟩ := ⟨_, rfl⟩
  have e0 : p0.start = p.start := by rw [hp]
  have e1 : p0.number = p.number := by rw [hp]
  have e2 : p0.count = p.count := by rw [hp]
  have e3 : p0.data.extract 0 (min p0.data.size 200) = p.data := by rw [hp]
  have hpz : p.data.size ≤ 200 := by rw [← e3]; exact hpx
  have HP3 : Hid (PV w2 w.heap.size p) := Lib.hid (by rw [hp]; exact HP2.out)
  have a0 := HP3.out.at'.c0
  have a1 := HP3.out.at'.c1
  have a2 := HP3.out.at'.c2
  have a3 := HP3.out.at'.c3
  clear HP2 hpx hp e0 e1 e2 e3
  go_cut [7, 8] (fun s7 s8 wx => ∃ A B, s7 = .pointer (some ⟨A, 0, none⟩) ∧ s8 = .pointer (some ⟨B, 0, none⟩) ∧ Th w w.heap.size A B p p.data p.data D (.slice pd D.cuts.length capd) w1.heap.size wx)
  case first =>
    have hS : w2.cell? ⟨w.heap.size, 0, none⟩ = some (.bool p.start) ∧ w2.cell? ⟨w.heap.size, 1, none⟩ = some (.int .i64 p.number) ∧ w2.cell? ⟨w.heap.size, 2, none⟩ = some (.int .i64 p.count) ∧ w2.cell? ⟨w.heap.size, 3, none⟩ = some (.string p.data) := ⟨a0, a1, a2, a3⟩
    go_region_held3 (fun w' => w'.cell? ⟨w.heap.size, 0, none⟩ = some (.bool p.start) ∧ w'.cell? ⟨w.heap.size, 1, none⟩ = some (.int .i64 p.number) ∧ w'.cell? ⟨w.heap.size, 2, none⟩ = some (.int .i64 p.count) ∧ w'.cell? ⟨w.heap.size, 3, none⟩ = some (.string p.data)) (first | with_reducible exact hS | go_keep) (fail)
    · go_wp2_with (fail)
      go_meet
      exact ⟨_, _, rfl, rfl, th_new HP3.out HD2.out hB2 hz2 hz1⟩
    · go_wp2_with (fail)
      go_meet
      exact ⟨_, _, rfl, rfl, (th_new HP3.out HD2.out hB2 hz2 hz1).swap⟩
  case rest =>
  clear a0 a1 a2 a3 HP3 HD2 hB2 hz2
  obtain ⟨A, B, rfl, rfl, hT⟩ := ‹∃ _, _›
  have HT := Lib.hid hT
  have hAB : A ≠ B := hT.ne
  have hBA : B ≠ A := hT.ne.symm
  have hge : w1.heap.size ≤ A ∧ w1.heap.size ≤ B := hT.ge
  have hHA : w.heap.size ≠ A := by omega
  have hHB : w.heap.size ≠ B := by omega
  clear hT hge hcut
  go_upto_region 5 with fail
  go_cut [] (fun wx => Th w w.heap.size A B p (sealB 0 p.data) (sealB Crcm.marking p.data) D (.slice pd D.cuts.length capd) w1.heap.size wx)
  case first =>
    have hS : wc.drew.cell? ⟨w.heap.size, 3, none⟩ = some (.string p.data) := HT.out.h.at'.c3
    have HT := Lib.hid HT.out.drew
    go_region_held3 (fun w' => w'.cell? ⟨w.heap.size, 3, none⟩ = some (.string p.data)) (first | with_reducible exact hS | with_reducible exact (far_cell hHA).trans hS | with_reducible exact (far_cell hHB).trans ((far_cell hHA).trans hS)) (first | (go_at_call 28; refine (Seal_any _ (by omega) _).mono ?_; rintro e wn ⟨rfl, gn⟩; have hS := (gn.cell (block_lt_of_cell hS)).trans hS; have HT := Lib.hid (HT.out.keep gn)) | (go_at_call 31; refine (Mark_any _ (by omega) _).mono ?_; rintro e wn ⟨rfl, gn⟩; have hS := (gn.cell (block_lt_of_cell hS)).trans hS; have HT := Lib.hid (HT.out.keep gn); have hA := HT.out.a.at'.c3; have hB := HT.out.b.at'.c3; have zA := HT.out.a.fz 3; have zB := HT.out.b.fz 3))
    go_wp2_with (fail)
    go_meet
    exact (HT.out.setA _).setB _
  case rest =>
  have HT2 : Hid (Th w w.heap.size A B p (sealB 0 p.data) (sealB Crcm.marking p.data) D (.slice pd D.cuts.length capd) w1.heap.size wc) := Lib.hid hcut
  clear HT hcut hAB hBA hHA hHB
  go_upto_region 6 with fail
  have CP := Lib.hid (Pieces_any D HD.out 30 (by omega) pd capd)
  have hzA : A < wc.heap.size := HT2.out.a.lt
  have hzB : B < wc.heap.size := HT2.out.b.lt
  have hpl : (D.pieces 30).length ≤ 31 := by unfold Dr8.pieces; rw [pieces_length]; have := D.offsets_length 30; omega
  have hs2 : (sealB 0 p.data).size = p.data.size + 4 := sealB_size _ _
  have hs3 : (sealB Crcm.marking p.data).size = p.data.size + 4 := sealB_size _ _
  go_cut [9] (fun s9 wx => ∃ g cap, s9 = .slice (some ⟨g, 0, none⟩) (D.pieces 30 ++ [p, { p with data := sealB 0 p.data }, { p with data := sealB Crcm.marking p.data }]).length cap ∧ Rw wx w.heap.size (.slice (some ⟨g, 0, none⟩) (D.pieces 30 ++ [p, { p with data := sealB 0 p.data }, { p with data := sealB Crcm.marking p.data }]).length cap) (D.pieces 30 ++ [p, { p with data := sealB 0 p.data }, { p with data := sealB Crcm.marking p.data }]) ∧ g < wx.heap.size ∧ Below w.heap.size w wx)
  case first =>
    generalize sealB 0 p.data = sA at *
    generalize sealB Crcm.marking p.data = sB at *
    have HT := Lib.hid HT2.out.drew
    have hS := HT.out.limbs
    go_region_held3 (fun w' => w'.cell? ⟨w.heap.size, 0, none⟩ = some (.bool p.start) ∧ w'.cell? ⟨w.heap.size, 1, none⟩ = some (.int .i64 p.number) ∧ w'.cell? ⟨w.heap.size, 2, none⟩ = some (.int .i64 p.count) ∧ w'.cell? ⟨w.heap.size, 3, none⟩ = some (.string (p.data)) ∧ w'.cell? ⟨A, 0, none⟩ = some (.bool p.start) ∧ w'.cell? ⟨A, 1, none⟩ = some (.int .i64 p.number) ∧ w'.cell? ⟨A, 2, none⟩ = some (.int .i64 p.count) ∧ w'.cell? ⟨A, 3, none⟩ = some (.string (sA)) ∧ w'.cell? ⟨B, 0, none⟩ = some (.bool p.start) ∧ w'.cell? ⟨B, 1, none⟩ = some (.int .i64 p.number) ∧ w'.cell? ⟨B, 2, none⟩ = some (.int .i64 p.count) ∧ w'.cell? ⟨B, 3, none⟩ = some (.string (sB)) ∧ w'.cell? ⟨w.heap.size + 1, 0, none⟩ = some (.string D.data) ∧ w'.cell? ⟨w.heap.size + 1, 1, none⟩ = some (.int .u16 (D.long : Int)) ∧ w'.cell? ⟨w.heap.size + 1, 2, none⟩ = some (.int .u8 (D.number : Int)) ∧ w'.cell? ⟨w.heap.size + 1, 3, none⟩ = some (.slice pd D.cuts.length capd)) (first | with_reducible exact hS | exact (HT.out.alloc _).limbs | exact (HT2.out.alloc _).drew.limbs) (first | (go_at_call 18; refine (CP.out _ (HPd.out.keep (by first | exact HT.out.bel | exact (HT2.out.alloc _).drew.bel))).mono ?_; rintro e wn ⟨v, rfl, hr, gn⟩; have HN := Lib.hid (hr.lower (B' := wc.heap.size) (by first | exact Nat.le_refl _ | exact size_le_alloc (Nat.le_refl _) _)); (try have HC := Lib.hid (RowC.keep (RowC.drew (three_new wc p ⟨p.start, p.number, p.count, sA⟩ ⟨p.start, p.number, p.count, sB⟩)) gn)); have HT : Hid (Th w w.heap.size A B p sA sB D (.slice pd D.cuts.length capd) w1.heap.size wn) := Lib.hid (by first | exact HT.out.keep gn | exact (HT2.out.alloc _).drew.keep gn); have hS := HT.out.limbs; have hzn : wc.heap.size ≤ wn.heap.size := by have := gn.size; first | exact this | exact Nat.le_trans (size_le_alloc (Nat.le_refl _) _) this) | (have HT0 := HT.out; have hz0 : wc.heap.size ≤ wn.heap.size := hzn; refine step_rows (n := 3) (c := 3) rfl (.tmp 37) (.tmp 41) rfl (by simp [Act.eval]) HN.out (by simp [Act.eval]) rfl HC.out (Nat.zero_lt_succ _) (Nat.le_trans (Nat.add_le_add_right hpl 3) (by decide)) hz0 ?_; intro g' cap' w' hr hb hlt; have HT : Hid (Th w w.heap.size A B p sA sB D (.slice pd D.cuts.length capd) w1.heap.size w') := Lib.hid (HT0.keepB hzA hzB hz0 hb); have hS := HT.out.limbs; have HR := Lib.hid hr) | (have HT0 := HT.out.alloc (.cells #[.bool p.start, .int .i64 p.number, .int .i64 p.count, .string p.data, .bool p.start, .int .i64 p.number, .int .i64 p.count, .string sA, .bool p.start, .int .i64 p.number, .int .i64 p.count, .string sB] 45); have hz0 : wc.heap.size ≤ (wn.alloc (.cells #[.bool p.start, .int .i64 p.number, .int .i64 p.count, .string p.data, .bool p.start, .int .i64 p.number, .int .i64 p.count, .string sA, .bool p.start, .int .i64 p.number, .int .i64 p.count, .string sB] 45)).heap.size := size_le_alloc hzn _; refine step_rows (n := 3) (c := 3) rfl (.tmp 37) (.tmp 41) rfl (by simp [Act.eval]) (HN.out.keep ((Below.refl _ wn).alloc (Nat.le_refl _) _)) (by simp [Act.eval]) rfl (three_new wn p ⟨p.start, p.number, p.count, sA⟩ ⟨p.start, p.number, p.count, sB⟩) (Nat.zero_lt_succ _) (Nat.le_trans (Nat.add_le_add_right hpl 3) (by decide)) hz0 ?_; intro g' cap' w' hr hb hlt; have HT : Hid (Th w w.heap.size A B p sA sB D (.slice pd D.cuts.length capd) w1.heap.size w') := Lib.hid (HT0.keepB hzA hzB hz0 hb); have hS := HT.out.limbs; have HR := Lib.hid hr))
    all_goals
      go_wp2_with (fail)
      go_meet
      exact ⟨g', cap', by rw [List.length_append]; rfl, HR.out.lower (B' := w.heap.size) HT2.out.bel.size, hlt, HT.out.bel⟩
  case rest =>
  obtain ⟨g, cg, rfl, hrow, hg2, hB⟩ := hcut
  have hLs : ∀ q ∈ (D.pieces 30 ++ [p, { p with data := sealB 0 p.data }, { p with data := sealB Crcm.marking p.data }]), q.data.size ≤ 2000 := by
    intro q hq
    rcases List.mem_append.1 hq with h | h
    · exact pieces_small D q h
    · simp only [List.mem_cons, List.not_mem_nil, or_false] at h
      rcases h with rfl | rfl | rfl
      · omega
      · show (sealB 0 p.data).size ≤ 2000
        omega
      · show (sealB Crcm.marking p.data).size ≤ 2000
        omega
  have hL1 : 1 ≤ (D.pieces 30 ++ [p, { p with data := sealB 0 p.data }, { p with data := sealB Crcm.marking p.data }]).length ∧ (D.pieces 30 ++ [p, { p with data := sealB 0 p.data }, { p with data := sealB Crcm.marking p.data }]).length ≤ 40 := by
    rw [List.length_append]
    show 1 ≤ _ + 3 ∧ _ + 3 ≤ 40
    omega
  have HLs := Lib.hid hLs
  clear hLs HT2 CP hs2 hs3 hzA hzB hpl HPd HD hz1 hpz
  generalize (D.pieces 30 ++ [p, { p with data := sealB 0 p.data }, { p with data := sealB Crcm.marking p.data }]) = L at *
  have hM0 := Lib.hid (mv_new wc Mg.zero)
  have bA : Below wc.heap.size wc (wc.alloc (.cells #[.bool Mg.zero.on, .int .i64 Mg.zero.number, .int .i64 Mg.zero.next, .string Mg.zero.data] 43)) := (Below.refl _ wc).alloc (Nat.le_refl _) _
  have HR2 := Lib.hid (hrow.keep bA)
  have hB2 := hB.trans (bA.mono hB.size)
  have hwc := hB.size
  clear hrow hB bA
  go_wp2_with (fail)
  go_loopw [11] (fun i wr => ∃ (k : Nat) (m : Mg), k ≤ 40 ∧ k ≤ lo.length ∧ i = .int .i64 k ∧ m.ok = true ∧ MV wr wc.heap.size m ∧ Rw wr w.heap.size (.slice (some ⟨g, 0, none⟩) L.length cg) L ∧ Below w.heap.size w wr) (fun i _ => 40 - (intOf i).toNat)
  case atStart => exact ⟨0, Mg.zero, by omega, by omega, rfl, zero_ok, hM0.out, HR2.out, hB2⟩
  case round =>
    obtain ⟨k, m, hk60, hkl, rfl, hmok, hMV, hrow, hB⟩ := hrel
    clear hM0 HR2 hB2
    have HBq : Hid (Below w.heap.size w wr) := Lib.hid hB
    by_cases hk1 : k < lo.length
    case neg =>
      have hk1' : (lo.length : Int) ≤ (k : Int) := by omega
      clear hMV hrow hB hmok
      go_wp2_with (fail)
      go_ret
      exact ⟨rfl, HBq.out⟩
    have hk1' : (k : Int) < (lo.length : Int) := by omega
    by_cases hk2 : k < 40
    case neg =>
      have hk2' : ¬ ((k : Int) < 40) := by omega
      clear hMV hrow hB hmok
      go_wp2_with (fail)
      go_ret
      exact ⟨rfl, HBq.out⟩
    have hk2' : (k : Int) < 40 := by omega
    have hat := (HPo.out.keep hB).at hk1
    have hzm : lo.getD k 0 ∈ lo := by rw [List.getD_eq_getElem?_getD, List.getElem?_eq_getElem hk1]; exact List.getElem_mem _
    have hzw := bounds_u8 (HLo.out _ hzm)
    generalize lo.getD k 0 = z at hat hzw
    obtain ⟨zn, rfl⟩ : ∃ n : Nat, z = (n : Int) := ⟨z.toNat, by omega⟩
    obtain ⟨b, o, rfl, hb, hcz⟩ := hat
    have hix : zn % L.length < L.length := Nat.mod_lt _ (by omega)
    have hqz := HLs.out (L.getD (zn % L.length) Pc.zero) (by rw [List.getD_eq_getElem?_getD, List.getElem?_eq_getElem hix]; exact List.getElem_mem _)
    have hpc := hrow.at4 hix
    have hiz : (zn : Int) % (L.length : Int) = ((zn % L.length : Nat) : Int) := by push_cast; rfl
    have HV := Lib.hid hMV
    have HRow := Lib.hid hrow
    have HHiz := Lib.hid hiz
    clear hrow hB hzm hMV hiz
    generalize L.getD (zn % L.length) Pc.zero = q at hqz hpc
    generalize hidx : zn % L.length = ix at hpc hix HHiz
    have e0 := hpc.c0
    have e1 := hpc.c1
    have e2 := hpc.c2
    have e3 := hpc.c3
    have hix' : (ix : Int) < (L.length : Int) := by omega
    clear hpc
    have hiz := HHiz.out
    go_upto_region 12 with fail
    have bx : Below wr.heap.size wr (wr.alloc (.cells #[.bool q.start, .int .i64 q.number, .int .i64 q.count, .string q.data] 45)) := (Below.refl _ wr).alloc (Nat.le_refl _) _
    have HD1 : Hid (Rd w wc.heap.size g cg wr.heap.size L m q (wr.alloc (.cells #[.bool q.start, .int .i64 q.number, .int .i64 q.count, .string q.data] 45))) := Lib.hid ⟨HV.out.keep bx, HRow.out.keep bx, pv_new wr q, HBq.out.trans (bx.mono HBq.out.size)⟩
    clear e0 e1 e2 e3 hcz bx HV HRow HBq hiz hix' HHiz hidx hix hzw hb
    generalize wr.alloc (.cells #[.bool q.start, .int .i64 q.number, .int .i64 q.count, .string q.data] 45) = w7 at *
    have v0 := HD1.out.mv.at'.c0
    have v1 := HD1.out.mv.at'.c1
    have v2 := HD1.out.mv.at'.c2
    have v3 := HD1.out.mv.at'.c3
    have x0 := HD1.out.x.at'.c0
    have x1 := HD1.out.x.at'.c1
    have x2 := HD1.out.x.at'.c2
    have x3 := HD1.out.x.at'.c3
    have hmz := Mg.ok_size hmok
    have hro := join_ok m q
    by_cases hqo : q.ok = true
    case neg =>
      have hqf : q.ok = false := by simpa using hqo
      have CJ := Lib.hid (MJoin_any m q (by omega) (by omega))
      unfold JRet at CJ
      rw [join_piece hmok hqf] at CJ
      unfold Mg.zero at CJ
      dsimp only at CJ
      have hq := fun W => neq_mg Mg.zero Mg.zero W
      rw [decide_eq_true rfl] at hq
      unfold Mg.zero at hq
      dsimp only at hq
      clear hro hqo hqf
      go_wp2_with (fail)
      refine (CJ.out _).mono ?_
      rintro e w8 ⟨rfl, g8⟩
      have HD2 := Lib.hid (HD1.out.keep g8)
      have HD3 := Lib.hid (HD2.out.keep ((Below.refl _ w8).alloc (Nat.le_refl _) (.cells #[.bool false, .int .i64 0, .int .i64 0, .string ⟨#[]⟩] 43)))
      clear v0 v1 v2 v3 x0 x1 x2 x3 HD1 HD2 g8 CJ
      go_wp2_with (fail)
      go_round
      case rel => exact ⟨k + 1, m, by omega, by omega, by go_num, hmok, HD3.out.mv, HD3.out.row, HD3.out.bel⟩
      case measure => simp [intOf] <;> omega
    obtain ⟨hc0, hff⟩ := join_sound hmok hqo
    have hjz : q.start = true → join Mg.zero q = ((join m q).1, (join m q).2.1, 0) := fun h => by
      rw [join_start hmok h]
      exact Prod.ext rfl (Prod.ext rfl hc0)
    have CJ := Lib.hid (MJoin_any m q (by omega) (by omega))
    unfold JRet at CJ
    rw [hc0] at CJ
    generalize (join m q).1 = r at CJ hjz hro
    generalize (join m q).2.1 = f at CJ hjz hff
    have HJz := Lib.hid hjz
    have Hff := Lib.hid hff
    clear hjz hff hqo hc0
    go_wp2_with (fail)
    refine (CJ.out _).mono ?_
    rintro e w8 ⟨rfl, g8⟩
    have HD2 := Lib.hid (HD1.out.keep g8)
    have HN := Lib.hid (mv_new w8 r)
    have HD3 := Lib.hid (HD2.out.keep ((Below.refl _ w8).alloc (Nat.le_refl _) (.cells #[.bool r.on, .int .i64 r.number, .int .i64 r.next, .string r.data] 43)))
    clear v0 v1 v2 v3 x0 x1 x2 x3 HD1 g8 CJ HD2
    go_upto_region 16 with fail
    generalize w8.alloc (.cells #[.bool r.on, .int .i64 r.number, .int .i64 r.next, .string r.data] 43) = w9 at *
    go_cut [107] (fun s wx => s = .bool false ∧ Rd w wc.heap.size g cg wr.heap.size L m q wx ∧ MV wx w8.heap.size r)
    case first =>
      by_cases hf0 : f = ⟨#[]⟩
      · subst hf0
        go_wp2_with (fail)
        go_meet
        exact ⟨rfl, HD3.out, HN.out⟩
      · have hf' := not_empty hf0
        obtain ⟨hgd, h64, h1522, hsf⟩ := Hff.out.resolve_left hf0
        have CG := Lib.hid (Good_any f (by omega))
        rw [hgd] at CG
        have CS : Hid (∀ W, Calls Try.prog 33 #[.string f, .string q.data] W fun e w' => e = .returned (.bool true) ∧ w' = W) := Lib.hid (fun W => by
          have := Try.strings_HasSuffix f q.data W (by omega)
          rwa [hsf] at this)
        have k1 : ¬ ((f.size : Int) < 64) := by omega
        have k2 : ¬ ((1522 : Int) < (f.size : Int)) := by omega
        clear hgd hsf hf0
        go_wp2_with (fail)
        refine (CG.out _).mono ?_
        rintro e wb ⟨rfl, gb⟩
        have HD4 := Lib.hid (HD3.out.keep gb)
        have HN4 := Lib.hid (HN.out.keep gb)
        have x3 := HD4.out.x.at'.c3
        clear HD3 HN gb CG
        go_wp2_with (fail)
        refine (CS.out _).mono ?_
        rintro e wb2 ⟨rfl, rfl⟩
        go_wp2_with (fail)
        go_meet
        exact ⟨by rw [decide_eq_false (show ¬ ((f.size : Int) < 64) by omega), decide_eq_false (show ¬ ((1522 : Int) < (f.size : Int)) by omega)]; rfl, HD4.out, HN4.out⟩
    case rest =>
      obtain ⟨rfl, hd4, hn4⟩ := hcut
      have HD4 := Lib.hid hd4
      have HN4 := Lib.hid hn4
      clear hd4 hn4 HD3 HN Hff
      have x0 := HD4.out.x.at'.c0
      rcases hst : q.start with _ | _
      · rw [hst] at x0
        clear HJz
        have v0 := HD4.out.mv.at'.c0
        have v1 := HD4.out.mv.at'.c1
        have v2 := HD4.out.mv.at'.c2
        have v3 := HD4.out.mv.at'.c3
        have y0 := HD4.out.mv.fz 0
        have y1 := HD4.out.mv.fz 1
        have y2 := HD4.out.mv.fz 2
        have y3 := HD4.out.mv.fz 3
        have n0 := HN4.out.at'.c0
        have n1 := HN4.out.at'.c1
        have n2 := HN4.out.at'.c2
        have n3 := HN4.out.at'.c3
        have hs := HD4.out.mv.store r
        have hrs := HD4.out.row.keepB hg2 hs.2
        have hbs := HD4.out.bel.trans (hs.2.mono hwc)
        have HSs := Lib.hid hs.1
        go_wp2_with (fail)
        clear v0 v1 v2 v3 y0 y1 y2 y3 n0 n1 n2 n3 hs
        go_round
        case rel => exact ⟨k + 1, r, by omega, by omega, by go_num, hro, HSs.out, hrs, hbs⟩
        case measure => simp [intOf] <;> omega
      · have CZ : Hid (Gives 30 #[.agg #[.bool Mg.zero.on, .int .i64 Mg.zero.number, .int .i64 Mg.zero.next, .string Mg.zero.data], .agg #[.bool q.start, .int .i64 q.number, .int .i64 q.count, .string q.data], .agg #[.bool r.on, .int .i64 r.number, .int .i64 r.next, .string r.data], .string f] (.bool true)) := Lib.hid (joins_ok (HJz.out hst) (by decide) (by omega))
        unfold Gives Mg.zero at CZ
        dsimp only at CZ
        have x1 := HD4.out.x.at'.c1
        have x2 := HD4.out.x.at'.c2
        have x3 := HD4.out.x.at'.c3
        rw [hst] at x0 CZ
        have n0 := HN4.out.at'.c0
        have n1 := HN4.out.at'.c1
        have n2 := HN4.out.at'.c2
        have n3 := HN4.out.at'.c3
        clear HJz
        go_wp2_with (fail)
        refine (CZ.out _).mono ?_
        rintro e wd ⟨rfl, gd⟩
        have HD5 := Lib.hid (HD4.out.keep gd)
        have HN5 := Lib.hid (HN4.out.keep gd)
        clear x0 x1 x2 x3 n0 n1 n2 n3 HD4 HN4 gd CZ
        have v0 := HD5.out.mv.at'.c0
        have v1 := HD5.out.mv.at'.c1
        have v2 := HD5.out.mv.at'.c2
        have v3 := HD5.out.mv.at'.c3
        have y0 := HD5.out.mv.fz 0
        have y1 := HD5.out.mv.fz 1
        have y2 := HD5.out.mv.fz 2
        have y3 := HD5.out.mv.fz 3
        have n0 := HN5.out.at'.c0
        have n1 := HN5.out.at'.c1
        have n2 := HN5.out.at'.c2
        have n3 := HN5.out.at'.c3
        have hs := HD5.out.mv.store r
        have hrs := HD5.out.row.keepB hg2 hs.2
        have hbs := HD5.out.bel.trans (hs.2.mono hwc)
        have HSs := Lib.hid hs.1
        go_wp2_with (fail)
        clear v0 v1 v2 v3 y0 y1 y2 y3 n0 n1 n2 n3 hs
        go_round
        case rel => exact ⟨k + 1, r, by omega, by omega, by go_num, hro, HSs.out, hrs, hbs⟩
        case measure => simp [intOf] <;> omega
namespace mergeSound
open Go.ChangeShapes Go.WideShapes Go.ChangeAt Go.RowKit
open Go.ChangeMaps (open_string shut_string)
theorem own : ownKnob Try.prog.godebug = none := by kernel_rfl
theorem laidOut : laidOutB Try.prog = true := by kernel_rfl

set_option maxRecDepth 100000 in
theorem lifted (os : Os) (started : os.Started) (H : Type) (enc : TypeId × Value → H) :
    ReturnsInHanded {} Try.checked os 9 .any (Rows.mergeSoundSpec.pre6 enc Try.prog Try.f9 Rows.mergeSoundRow.domain false) (Rows.mergeSoundSpec.post enc Try.prog Try.f9 false true false false) := by
  refine returnsInHanded_of_change (C := Try.checked) own started (by kernel_rfl) Try.func9
    (ChangeSpec.witness6 (enc := enc) (C := Try.checked) false ⟨#[], #[.agg #[.bool false, .int .i64 0, .int .i64 0, .string ByteArray.empty], .agg #[.string ByteArray.empty, .int .u16 0, .int .u8 0, .slice none 0 0], .slice none 0 0], []⟩ 8 (by kernel_rfl) (by kernel_rfl) (by kernel_rfl) (by kernel_rfl)) ?_
  intro W base args ds gs before hval0 hW hcnd _
  have hval : ∀ (j : Nat) t v, Try.f9.params[j]? = some t → args[j]? = some v → Value.okWide Try.prog W .any base t v := hval0
  have hW' := hW
  obtain ⟨p, q, hA0, hV, rfl, hfz, hnd⟩ := hW
  have hA : DataW.TrodAll enc Try.prog W 0 (fun _ => true) true Try.f9.params.toList args.toList ds p := hA0
  rw [Try.params9] at hA hval
  obtain ⟨v0, vs0, d0, ds0, p0, q0, hargs, rfl, rfl, h0, r0⟩ := trodAll_cons hA
  obtain ⟨v1, vs1, d1, ds1, p1, q1, rfl, rfl, rfl, h1, r1⟩ := trodAll_cons r0
  obtain ⟨v2, vs2, d2, ds2, p2, q2, rfl, rfl, rfl, h2, r2⟩ := trodAll_cons r1
  obtain ⟨rfl, rfl, rfl⟩ := trodAll_nil r2
  obtain rfl : args = #[v0, v1, v2] := by cases args; simp_all
  obtain ⟨rfl, rfl⟩ := trodVars_none hV
  have k0 := h0
  have lt0 : ∀ x ∈ p0, x.block < W.heap.size := by obtain ⟨m, hm⟩ := k0; exact DataW.trod_lt m _ _ _ hm
  have k1 := h1
  have lt1 : ∀ x ∈ p1, x.block < W.heap.size := by obtain ⟨m, hm⟩ := k1; exact DataW.trod_lt m _ _ _ hm
  have k2 := h2
  have lt2 : ∀ x ∈ p2, x.block < W.heap.size := by obtain ⟨m, hm⟩ := k2; exact DataW.trod_lt m _ _ _ hm
  obtain ⟨a0, rfl, w0⟩ := open_piece (hval 0 45 v0 rfl rfl) h0
  obtain ⟨a1, p1', q1', rfl, w1, i1⟩ := open_draft8 (hval 1 25 v1 rfl rfl) h1
  obtain ⟨p2', q2', a2, rfl, w2, i2, u2⟩ := open_nums Try.underlying23 Try.underlying5 (by kernel_rfl) (hval 2 23 v2 rfl rfl) h2
  clear hA0 hval0
  refine (mergeSound_walk a0 a1 p1' q1' p2' q2' a2 W w0 w1 i1 w2 i2 u2).mono fun e W' ⟨he, bel⟩ => ?_
  subst he
  exact ⟨_, rfl, _, _, _, [], _, [], hW', trodAll_mk1 (shut_bool Try.underlying4 _), (trodAll_cons_mk (Below.trod laidOut (by kernel_rfl) (of_decide_eq_true (by kernel_rfl)) k0 bel lt0) (trodAll_cons_mk (Below.trod laidOut (by kernel_rfl) (of_decide_eq_true (by kernel_rfl)) k1 bel lt1) (trodAll_cons_mk (Below.trod laidOut (by kernel_rfl) (of_decide_eq_true (by kernel_rfl)) k2 bel lt2) trodAll_mk0))), rfl, bel.frame _, fun h => by cases h⟩

theorem over : Rows.mergeSoundRow.holds Try.pinned (OpenSpec.ofChange Rows.mergeSoundSpec) :=
  OpenClaim.holds_of_wide 9 Try.f9 rfl rfl rfl rfl rfl rfl rfl ⟨rfl, rfl, rfl, rfl, rfl⟩ rfl rfl rfl rfl rfl (by kernel_rfl) Try.func9 (by kernel_rfl)
    (of_decide_eq_true (by kernel_rfl)) (by unfold Func.isWrapper; first | (rw [if_pos (by decide +kernel)]; kernel_rfl) | (rw [if_neg (by decide +kernel)]; exact ⟨rfl, rfl⟩))
    (fun os started H enc _ => lifted os started H enc)

theorem proved : Rows.MergeSoundSaid := over
#print axioms proved
end mergeSound
end Go.Proofs.Ytppdfnghojcppaa
