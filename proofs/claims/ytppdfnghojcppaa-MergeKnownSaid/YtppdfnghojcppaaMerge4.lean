/-
  Contract of the reference's Join.
-/
import Derived.Test.YtppdfnghojcppaaMerge3
import Derived.Lib.QuietBelow
import Derived.Deep.DeepCutAuto
import Derived.Deep.LoopGhost
import Derived.BigRegion
namespace Go.Proofs.Ytppdfnghojcppaa
open Go.RowKit Go.Sort
set_option linter.unusedVariables false

/-- A state, a piece in a block. -/
structure MgAt (W : World) (B : Nat) (m : Mg) : Prop where
  c0 : W.cell? ⟨B, 0, none⟩ = some (.bool m.on)
  c1 : W.cell? ⟨B, 1, none⟩ = some (.int .i64 m.number)
  c2 : W.cell? ⟨B, 2, none⟩ = some (.int .i64 m.next)
  c3 : W.cell? ⟨B, 3, none⟩ = some (.string m.data)
structure PcAt (W : World) (B : Nat) (p : Pc) : Prop where
  c0 : W.cell? ⟨B, 0, none⟩ = some (.bool p.start)
  c1 : W.cell? ⟨B, 1, none⟩ = some (.int .i64 p.number)
  c2 : W.cell? ⟨B, 2, none⟩ = some (.int .i64 p.count)
  c3 : W.cell? ⟨B, 3, none⟩ = some (.string p.data)
theorem MgAt.turn {W W' : World} {B : Nat} {m : Mg} (h : MgAt W B m) (hk : ∀ j, W'.cell? ⟨B, j, none⟩ = W.cell? ⟨B, j, none⟩) : MgAt W' B m :=
  ⟨(hk 0).trans h.c0, (hk 1).trans h.c1, (hk 2).trans h.c2, (hk 3).trans h.c3⟩
theorem PcAt.turn {W W' : World} {B : Nat} {m : Pc} (h : PcAt W B m) (hk : ∀ j, W'.cell? ⟨B, j, none⟩ = W.cell? ⟨B, j, none⟩) : PcAt W' B m :=
  ⟨(hk 0).trans h.c0, (hk 1).trans h.c1, (hk 2).trans h.c2, (hk 3).trans h.c3⟩
theorem MgAt.keep {W W' : World} {B : Nat} {m : Mg} (h : MgAt W B m) (hb : Below W.heap.size W W') (hB : B < W.heap.size) : MgAt W' B m := h.turn fun j => hb.cell hB
theorem PcAt.keep {W W' : World} {B : Nat} {m : Pc} (h : PcAt W B m) (hb : Below W.heap.size W W') (hB : B < W.heap.size) : PcAt W' B m := h.turn fun j => hb.cell hB

/-- While Join works: the state and the piece in their boxes, the result in its own. -/
structure Jw (w : World) (m : Mg) (p : Pc) (W : World) : Prop where
  mg : MgAt W w.heap.size m
  pc : PcAt W (w.heap.size + 1) p
  rs : ∃ r : Mg, MgAt W (w.heap.size + 1 + 1) r
  fz : ∀ j, W.frozen? ⟨w.heap.size + 1 + 1, j, none⟩ = false
  big : w.heap.size + 1 + 1 < W.heap.size
  bel : Below w.heap.size w W
theorem Jw.keep {w W W' : World} {m : Mg} {p : Pc} (h : Jw w m p W) (hb : Below W.heap.size W W') : Jw w m p W' := by
  have hg := h.big
  have hs := hb.size
  obtain ⟨r, hr⟩ := h.rs
  exact ⟨h.mg.keep hb (by omega), h.pc.keep hb (by omega), ⟨r, hr.keep hb hg⟩, fun j => by rw [hb.frozen hg]; exact h.fz j, by omega, h.bel.trans (hb.mono (by omega))⟩
theorem three_cells (w : World) (A B C : Array Value) (x y z : TypeId) (i : Nat) :
    (((w.alloc (.cells A x)).alloc (.cells B y)).alloc (.cells C z)).cell? ⟨w.heap.size, i, none⟩ = A[i]? ∧
    (((w.alloc (.cells A x)).alloc (.cells B y)).alloc (.cells C z)).cell? ⟨w.heap.size + 1, i, none⟩ = B[i]? ∧
    (((w.alloc (.cells A x)).alloc (.cells B y)).alloc (.cells C z)).cell? ⟨w.heap.size + 1 + 1, i, none⟩ = C[i]? ∧
    (((w.alloc (.cells A x)).alloc (.cells B y)).alloc (.cells C z)).frozen? ⟨w.heap.size + 1 + 1, i, none⟩ = false := by
  refine ⟨?_, ?_, ?_, ?_⟩
  · rw [World.cell?_alloc_past _ _ _ (by simp; omega), World.cell?_alloc_past _ _ _ (by simp), World.cell?_alloc_at _ _ _ _ rfl]
  · rw [World.cell?_alloc_past _ _ _ (by simp), World.cell?_alloc_at _ _ _ _ (by simp)]
  · rw [World.cell?_alloc_at _ _ _ _ (by simp)]
  · rw [World.frozen?_alloc_at _ _ _ _ (by simp)]
theorem jw_first (w : World) (m : Mg) (p : Pc) : Jw w m p (((w.alloc (.cells #[.bool m.on, .int .i64 m.number, .int .i64 m.next, .string m.data] 43)).alloc (.cells #[.bool p.start, .int .i64 p.number, .int .i64 p.count, .string p.data] 45)).alloc (.cells #[.bool false, .int .i64 0, .int .i64 0, .string ⟨#[]⟩] 43)) :=
  have h := fun i => three_cells w #[.bool m.on, .int .i64 m.number, .int .i64 m.next, .string m.data] #[.bool p.start, .int .i64 p.number, .int .i64 p.count, .string p.data] #[.bool false, .int .i64 0, .int .i64 0, .string ⟨#[]⟩] 43 45 43 i
  ⟨⟨(h 0).1, (h 1).1, (h 2).1, (h 3).1⟩, ⟨(h 0).2.1, (h 1).2.1, (h 2).2.1, (h 3).2.1⟩, ⟨Mg.zero, ⟨(h 0).2.2.1, (h 1).2.2.1, (h 2).2.2.1, (h 3).2.2.1⟩⟩, fun j => (h j).2.2.2, by simp, (by repeat' (first | exact Below.refl _ _ | assumption | refine below_drewN ?_ _ | refine Below.drew ?_ | refine Below.alloc ?_ (by (first | exact Nat.le_refl _ | assumption | (simp; done) | omega | (simp; omega))) _ | refine Below.setCell ?_ (by (first | exact Nat.le_refl _ | assumption | (simp; done) | omega | (simp; omega))) _ | refine Below.trans ?_ (Below.mono (by assumption) (by (first | exact Nat.le_refl _ | assumption | (simp; done) | omega | (simp; omega))))))⟩
/-- The world behind the storing of a result. -/
def putMg (W : World) (B : Nat) (r : Mg) : World := (((W.setCell ⟨B, 0, none⟩ (.bool r.on)).setCell ⟨B, 1, none⟩ (.int .i64 r.number)).setCell ⟨B, 2, none⟩ (.int .i64 r.next)).setCell ⟨B, 3, none⟩ (.string r.data)
theorem cell_set {W : World} {B j : Nat} {u : Value} (i : Nat) (v : Value) (h : W.cell? ⟨B, j, none⟩ = some u) : (W.setCell ⟨B, i, none⟩ v).cell? ⟨B, j, none⟩ = some (if i = j then v else u) := by
  by_cases e : i = j
  · subst e
    rw [if_pos rfl]
    exact World.cell?_setCell_same _ _ _ h
  · rw [if_neg e, World.cell?_setCell_other _ _ _ _ (by intro h; injection h with _ h; exact e h)]
    exact h
theorem putMg_at {W : World} {B : Nat} {o : Mg} (r : Mg) (h : MgAt W B o) : MgAt (putMg W B r) B r :=
  ⟨cell_set 3 _ (cell_set 2 _ (cell_set 1 _ (cell_set 0 _ h.c0))), cell_set 3 _ (cell_set 2 _ (cell_set 1 _ (cell_set 0 _ h.c1))),
   cell_set 3 _ (cell_set 2 _ (cell_set 1 _ (cell_set 0 _ h.c2))), cell_set 3 _ (cell_set 2 _ (cell_set 1 _ (cell_set 0 _ h.c3)))⟩
theorem putMg_bel {W : World} {B n : Nat} (r : Mg) (h : n ≤ B) {w : World} (hb : Below n w W) : Below n w (putMg W B r) := by
  unfold putMg
  exact Below.setCell (Below.setCell (Below.setCell (Below.setCell hb h _) h _) h _) h _
theorem Jw.put {w W : World} {m : Mg} {p : Pc} (h : Jw w m p W) (r : Mg) : MgAt (putMg W (w.heap.size + 1 + 1) r) (w.heap.size + 1 + 1) r ∧ Below w.heap.size w (putMg W (w.heap.size + 1 + 1) r) := by
  obtain ⟨o, ho⟩ := h.rs
  exact ⟨putMg_at r ho, putMg_bel r (by omega) h.bel⟩
theorem Jw.putd {w W : World} {m : Mg} {p : Pc} (h : Jw w m p W) (r : Mg) : MgAt (putMg W (w.heap.size + 1 + 1) r).drew (w.heap.size + 1 + 1) r ∧ Below w.heap.size w (putMg W (w.heap.size + 1 + 1) r).drew :=
  ⟨(h.put r).1.turn fun _ => rfl, Below.drew (h.put r).2⟩

/-- What Join gives back. -/
def JRet (m : Mg) (p : Pc) (w : World) (e : Ending) (w' : World) : Prop :=
  e = .returned (.tuple #[.agg #[.bool (join m p).1.on, .int .i64 (join m p).1.number, .int .i64 (join m p).1.next, .string (join m p).1.data], .string (join m p).2.1, .int .i64 (join m p).2.2]) ∧ Below w.heap.size w w'
theorem jret {m : Mg} {p : Pc} {w w' : World} {r : Mg} {f : ByteArray} {c : Int} (h : join m p = (r, f, c)) (hb : Below w.heap.size w w') : JRet m p w (.returned (.tuple #[.agg #[.bool r.on, .int .i64 r.number, .int .i64 r.next, .string r.data], .string f, .int .i64 c])) w' := by
  unfold JRet; rw [h]; exact ⟨rfl, hb⟩

theorem RJoin_bad (m : Mg) (p : Pc) (hm : m.data.size ≤ 9000000000000000000) (w : World) (h : m.ok = false) : Calls Try.prog 21 #[.agg #[.bool m.on, .int .i64 m.number, .int .i64 m.next, .string m.data], .agg #[.bool p.start, .int .i64 p.number, .int .i64 p.count, .string p.data]] w (JRet m p w) := by
  have C1 := Lib.hid (Right_any m hm)
  rw [h] at C1
  have HJ := Lib.hid (join_bad (p := p) h)
  have J0 := Lib.hid (jw_first w m p)
  go_enter Try.func21, Try.ntmps21
  go_wp2_with (fail)
  refine (C1.out _).mono ?_
  rintro e w1 ⟨rfl, g1⟩
  have J1 := Lib.hid (J0.out.keep g1)
  obtain ⟨o, ho⟩ := J1.out.rs; have r0 := ho.c0; have r1 := ho.c1; have r2 := ho.c2; have r3 := ho.c3; have z0 := J1.out.fz 0; have z1 := J1.out.fz 1; have z2 := J1.out.fz 2; have z3 := J1.out.fz 3
  go_wp2_with (fail)
  obtain ⟨qa, qb⟩ := J1.out.put Mg.zero; obtain ⟨w5, hw5⟩ : ∃ W, putMg w1 (w.heap.size + 1 + 1) Mg.zero = W := ⟨_, rfl⟩; rw [hw5] at qa qb; unfold putMg at hw5; try unfold Mg.zero at hw5; dsimp only at hw5; rw [hw5]; have q0 := qa.c0; have q1 := qa.c1; have q2 := qa.c2; have q3 := qa.c3; refine bodyPost_ret (v := .tuple #[.agg #[.bool Mg.zero.on, .int .i64 Mg.zero.number, .int .i64 Mg.zero.next, .string Mg.zero.data], .string ⟨#[]⟩, .int .i64 182]) (by simp [results, Try.results21, go_sem, q0, q1, q2, q3]) rfl (jret HJ.out qb)

theorem RJoin_piece (m : Mg) (p : Pc) (hm : m.data.size ≤ 9000000000000000000) (hp : p.data.size ≤ 9000000000000000000) (w : World) (h : m.ok = true) (h2 : p.ok = false) : Calls Try.prog 21 #[.agg #[.bool m.on, .int .i64 m.number, .int .i64 m.next, .string m.data], .agg #[.bool p.start, .int .i64 p.number, .int .i64 p.count, .string p.data]] w (JRet m p w) := by
  have C1 := Lib.hid (Right_any m hm)
  have C2 := Lib.hid (RightPiece_any p hp)
  have HJ := Lib.hid (join_piece h h2)
  rw [h] at C1
  rw [h2] at C2
  have J0 := Lib.hid (jw_first w m p)
  go_enter Try.func21, Try.ntmps21
  go_wp2_with (fail)
  refine (C1.out _).mono ?_
  rintro e w1 ⟨rfl, g1⟩
  have J1 := Lib.hid (J0.out.keep g1)
  have s0 := J1.out.pc.c0
  have s1 := J1.out.pc.c1
  have s2 := J1.out.pc.c2
  have s3 := J1.out.pc.c3
  go_wp2_with (fail)
  refine (C2.out _).mono ?_
  rintro e w2 ⟨rfl, g2⟩
  have J2 := Lib.hid (J1.out.keep g2)
  obtain ⟨o, ho⟩ := J2.out.rs; have r0 := ho.c0; have r1 := ho.c1; have r2 := ho.c2; have r3 := ho.c3; have z0 := J2.out.fz 0; have z1 := J2.out.fz 1; have z2 := J2.out.fz 2; have z3 := J2.out.fz 3
  go_wp2_with (fail)
  obtain ⟨qa, qb⟩ := J2.out.put Mg.zero; obtain ⟨w5, hw5⟩ : ∃ W, putMg w2 (w.heap.size + 1 + 1) Mg.zero = W := ⟨_, rfl⟩; rw [hw5] at qa qb; unfold putMg at hw5; try unfold Mg.zero at hw5; dsimp only at hw5; rw [hw5]; have q0 := qa.c0; have q1 := qa.c1; have q2 := qa.c2; have q3 := qa.c3; refine bodyPost_ret (v := .tuple #[.agg #[.bool Mg.zero.on, .int .i64 Mg.zero.number, .int .i64 Mg.zero.next, .string Mg.zero.data], .string ⟨#[]⟩, .int .i64 181]) (by simp [results, Try.results21, go_sem, q0, q1, q2, q3]) rfl (jret HJ.out qb)

theorem quiet_cells {w0 W : World} (dq os) (m : Mg) (p : Pc) (J : Jw w0 m p W) : Jw w0 m p (grow (redrawn W dq) os) := J.keep (below_regrown W dq os)

set_option maxHeartbeats 1000000 in
theorem RJoin_ok (m : Mg) (p : Pc) (w : World) (h : m.ok = true) (h2 : p.ok = true) : Calls Try.prog 21 #[.agg #[.bool m.on, .int .i64 m.number, .int .i64 m.next, .string m.data], .agg #[.bool p.start, .int .i64 p.number, .int .i64 p.count, .string p.data]] w (JRet m p w) := by
  have hm := m.ok_size h
  have hn := m.ok_next h
  have hp := ((Pc.ok_iff p).1 h2).2.2.1
  have C1 := Lib.hid (Right_any m (by omega))
  have C2 := Lib.hid (RightPiece_any p (by omega))
  rw [h] at C1
  rw [h2] at C2
  have J0 := Lib.hid (jw_first w m p)
  have HH := Lib.hid h; clear h
  have HH2 := Lib.hid h2; clear h2
  go_enter Try.func21, Try.ntmps21
  go_wp2_with (fail)
  refine (C1.out _).mono ?_
  rintro e w1 ⟨rfl, g1⟩
  have J1 := Lib.hid (J0.out.keep g1)
  have s0 := J1.out.pc.c0
  have s1 := J1.out.pc.c1
  have s2 := J1.out.pc.c2
  have s3 := J1.out.pc.c3
  go_wp2_with (fail)
  refine (C2.out _).mono ?_
  rintro e w2 ⟨rfl, g2⟩
  have J2 := Lib.hid (J1.out.keep g2)
  clear s0 s1 s2 s3 J0 J1 g1 g2 C1 C2
  have s0 := J2.out.pc.c0
  have s3 := J2.out.pc.c3
  obtain ⟨q, hq⟩ : ∃ q, p.start = q := ⟨_, rfl⟩
  have hW : withD m p = if q = true then p.data else m.data ++ p.data := by unfold withD; rw [hq]
  have hN : nextD m p = if q = true then 0 else (m.next + 1) % 4 := by unfold nextD; rw [hq]
  have hT : takes m p = (q || (m.on && decide (m.number = p.number) && decide (m.next = p.count))) := by unfold takes; rw [hq]
  rw [hq] at s0
  clear hq
  go_upto_if 21 with fail
  go_cut [7, 8] (fun s7 s8 wx => s7 = .string (withD m p) ∧ s8 = .int .i64 (nextD m p) ∧ takes m p = true ∧ Jw w m p wx)
  case first =>
    rcases q with _ | _
    case true =>
      have HW := Lib.hid hW
      have HN := Lib.hid hN
      have HT := Lib.hid hT
      clear hW hN hT
      go_wp2_with (fail)
      go_meet
      exact ⟨by rw [HW.out]; rfl, by rw [HN.out]; rfl, by rw [HT.out]; rfl, J2.out⟩
    have m0 := J2.out.mg.c0
    have m1 := J2.out.mg.c1
    have m2 := J2.out.mg.c2
    have m3 := J2.out.mg.c3
    have s1 := J2.out.pc.c1
    have s2 := J2.out.pc.c2
    obtain ⟨qo, hqo⟩ : ∃ q, m.on = q := ⟨_, rfl⟩
    rw [hqo] at m0 hT
    clear hqo
    have HW := Lib.hid hW; clear hW
    have HN := Lib.hid hN; clear hN
    rcases qo with _ | _
    · have HJ := Lib.hid (join_off HH.out HH2.out hT); clear hT
      obtain ⟨o, ho⟩ := J2.out.rs; have r0 := ho.c0; have r1 := ho.c1; have r2 := ho.c2; have r3 := ho.c3; have z0 := J2.out.fz 0; have z1 := J2.out.fz 1; have z2 := J2.out.fz 2; have z3 := J2.out.fz 3
      go_wp2_with (fail)
      obtain ⟨qa, qb⟩ := J2.out.put Mg.zero; obtain ⟨w5, hw5⟩ : ∃ W, putMg w2 (w.heap.size + 1 + 1) Mg.zero = W := ⟨_, rfl⟩; rw [hw5] at qa qb; unfold putMg at hw5; try unfold Mg.zero at hw5; dsimp only at hw5; rw [hw5]; have q0 := qa.c0; have q1 := qa.c1; have q2 := qa.c2; have q3 := qa.c3; refine bodyPost_ret (v := .tuple #[.agg #[.bool Mg.zero.on, .int .i64 Mg.zero.number, .int .i64 Mg.zero.next, .string Mg.zero.data], .string ⟨#[]⟩, .int .i64 0]) (by simp [results, Try.results21, go_sem, q0, q1, q2, q3]) rfl (jret HJ.out qb)
    by_cases e1 : m.number = p.number
    case neg =>
      have hb : (m.number != p.number) = true := by simp [e1]
      rw [decide_eq_false e1] at hT
      have HJ := Lib.hid (join_off HH.out HH2.out hT); clear hT
      obtain ⟨o, ho⟩ := J2.out.rs; have r0 := ho.c0; have r1 := ho.c1; have r2 := ho.c2; have r3 := ho.c3; have z0 := J2.out.fz 0; have z1 := J2.out.fz 1; have z2 := J2.out.fz 2; have z3 := J2.out.fz 3
      go_wp2_with (fail)
      obtain ⟨qa, qb⟩ := J2.out.put Mg.zero; obtain ⟨w5, hw5⟩ : ∃ W, putMg w2 (w.heap.size + 1 + 1) Mg.zero = W := ⟨_, rfl⟩; rw [hw5] at qa qb; unfold putMg at hw5; try unfold Mg.zero at hw5; dsimp only at hw5; rw [hw5]; have q0 := qa.c0; have q1 := qa.c1; have q2 := qa.c2; have q3 := qa.c3; refine bodyPost_ret (v := .tuple #[.agg #[.bool Mg.zero.on, .int .i64 Mg.zero.number, .int .i64 Mg.zero.next, .string Mg.zero.data], .string ⟨#[]⟩, .int .i64 0]) (by simp [results, Try.results21, go_sem, q0, q1, q2, q3]) rfl (jret HJ.out qb)
    have hb : (m.number != p.number) = false := by simp [e1]
    rw [decide_eq_true e1] at hT
    clear e1
    by_cases e2 : m.next = p.count
    case neg =>
      have hb2 : (m.next != p.count) = true := by simp [e2]
      rw [decide_eq_false e2] at hT
      have HJ := Lib.hid (join_off HH.out HH2.out hT); clear hT
      obtain ⟨o, ho⟩ := J2.out.rs; have r0 := ho.c0; have r1 := ho.c1; have r2 := ho.c2; have r3 := ho.c3; have z0 := J2.out.fz 0; have z1 := J2.out.fz 1; have z2 := J2.out.fz 2; have z3 := J2.out.fz 3
      go_wp2_with (fail)
      obtain ⟨qa, qb⟩ := J2.out.put Mg.zero; obtain ⟨w5, hw5⟩ : ∃ W, putMg w2 (w.heap.size + 1 + 1) Mg.zero = W := ⟨_, rfl⟩; rw [hw5] at qa qb; unfold putMg at hw5; try unfold Mg.zero at hw5; dsimp only at hw5; rw [hw5]; have q0 := qa.c0; have q1 := qa.c1; have q2 := qa.c2; have q3 := qa.c3; refine bodyPost_ret (v := .tuple #[.agg #[.bool Mg.zero.on, .int .i64 Mg.zero.number, .int .i64 Mg.zero.next, .string Mg.zero.data], .string ⟨#[]⟩, .int .i64 0]) (by simp [results, Try.results21, go_sem, q0, q1, q2, q3]) rfl (jret HJ.out qb)
    have hb2 : (m.next != p.count) = false := by simp [e2]
    rw [decide_eq_true e2] at hT
    clear e2
    have HT := Lib.hid hT; clear hT
    go_upto_region 9 with fail
    clear hb hb2
    have n1 : ¬ 9223372036854775807 < m.data.size + p.data.size := by omega
    have k2 := cell_regrown m2
    have k3 := cell_regrown m3
    have k4 := cell_regrown s3
    have hi : IntKind.i64.wrap (m.next + 1) = m.next + 1 := IntWalk.i64_in _ (by omega)
    refine wp_region_quiet_below (by kernel_rfl) (by kernel_rfl) ?_
    repeat (quiet_step (fail))
    refine wpQuiet_nil ?_
    intro _ hw'
    obtain ⟨⟨dq, osq⟩, hw''⟩ := hw'
    subst hw''
    clear k2 k3 k4 n1 hi m0 m1 m2 m3 s0 s1 s2 s3
    have J3 := Lib.hid (J2.out.keep (below_regrown w2 dq osq))
    clear J2
    generalize grow (redrawn w2 dq) osq = w3 at *
    have ht : (m.next + 1).tmod 4 = (m.next + 1) % 4 := Int.tmod_eq_emod_of_nonneg (by omega)
    rw [ht]
    clear ht
    go_wp2_with (fail)
    go_meet
    exact ⟨by rw [HW.out]; rfl, by rw [HN.out]; rfl, by rw [HT.out]; rfl, J3.out⟩
  case rest =>
  obtain ⟨rfl, rfl, hT, J3⟩ := hcut
  clear hW hN s0 s3 J2
  have HT := Lib.hid hT; clear hT
  have hN := nextD_range (p := p) HH.out
  have hz := withD_size (m := m) HH2.out
  have hz2 : (withD m p).size ≤ 4000 := by unfold withD; split <;> (try rw [ByteArray.size_append]) <;> omega
  have HJ3 := Lib.hid J3; clear J3
  by_cases h4 : (withD m p).size ≤ 1522
  case neg =>
    have HJ := Lib.hid (join_long HH.out HH2.out HT.out (by omega))
    generalize withD m p = d at *
    obtain ⟨o, ho⟩ := HJ3.out.rs; have r0 := ho.c0; have r1 := ho.c1; have r2 := ho.c2; have r3 := ho.c3; have z0 := HJ3.out.fz 0; have z1 := HJ3.out.fz 1; have z2 := HJ3.out.fz 2; have z3 := HJ3.out.fz 3
    go_wp2_with (fail)
    obtain ⟨qa, qb⟩ := HJ3.out.put Mg.zero; obtain ⟨w5, hw5⟩ : ∃ W, putMg wc (w.heap.size + 1 + 1) Mg.zero = W := ⟨_, rfl⟩; rw [hw5] at qa qb; unfold putMg at hw5; try unfold Mg.zero at hw5; dsimp only at hw5; rw [hw5]; have q0 := qa.c0; have q1 := qa.c1; have q2 := qa.c2; have q3 := qa.c3; refine bodyPost_ret (v := .tuple #[.agg #[.bool Mg.zero.on, .int .i64 Mg.zero.number, .int .i64 Mg.zero.next, .string Mg.zero.data], .string ⟨#[]⟩, .int .i64 0]) (by simp [results, Try.results21, go_sem, q0, q1, q2, q3]) rfl (jret HJ.out qb)
  have CG := Lib.hid (RGood_any (withD m p) (by omega))
  have CM := Lib.hid (RMarked_any (withD m p) (by omega))
  obtain ⟨g, hg⟩ : ∃ g, goodB 0 (withD m p) = g := ⟨_, rfl⟩
  rw [hg] at CG
  rcases g with _ | _
  case true =>
    have HJ := Lib.hid (join_good HH.out HH2.out HT.out h4 hg)
    clear hg CM
    generalize withD m p = d at *
    go_wp2_with (fail)
    refine (CG.out _).mono ?_
    rintro e w4 ⟨rfl, g4⟩
    have J4 := Lib.hid (HJ3.out.keep g4)
    obtain ⟨o, ho⟩ := J4.out.rs; have r0 := ho.c0; have r1 := ho.c1; have r2 := ho.c2; have r3 := ho.c3; have z0 := J4.out.fz 0; have z1 := J4.out.fz 1; have z2 := J4.out.fz 2; have z3 := J4.out.fz 3
    go_wp2_with (fail)
    obtain ⟨qa, qb⟩ := J4.out.put Mg.zero; obtain ⟨w5, hw5⟩ : ∃ W, putMg w4 (w.heap.size + 1 + 1) Mg.zero = W := ⟨_, rfl⟩; rw [hw5] at qa qb; unfold putMg at hw5; try unfold Mg.zero at hw5; dsimp only at hw5; rw [hw5]; have q0 := qa.c0; have q1 := qa.c1; have q2 := qa.c2; have q3 := qa.c3; refine bodyPost_ret (v := .tuple #[.agg #[.bool Mg.zero.on, .int .i64 Mg.zero.number, .int .i64 Mg.zero.next, .string Mg.zero.data], .string d, .int .i64 0]) (by simp [results, Try.results21, go_sem, q0, q1, q2, q3]) rfl (jret HJ.out qb)
  obtain ⟨g2, hg2⟩ : ∃ g, goodB Crcm.marking (withD m p) = g := ⟨_, rfl⟩
  rw [hg2] at CM
  rcases g2 with _ | _
  case false =>
    have HJ := Lib.hid (join_none HH.out HH2.out HT.out h4 hg hg2)
    clear hg hg2
    generalize withD m p = d at *
    go_wp2_with (fail)
    refine (CG.out _).mono ?_
    rintro e w4 ⟨rfl, g4⟩
    have J4 := Lib.hid (HJ3.out.keep g4)
    go_wp2_with (fail)
    refine (CM.out _).mono ?_
    rintro e w5 ⟨rfl, g5⟩
    have J5 := Lib.hid (J4.out.keep g5)
    obtain ⟨o, ho⟩ := J5.out.rs; have r0 := ho.c0; have r1 := ho.c1; have r2 := ho.c2; have r3 := ho.c3; have z0 := J5.out.fz 0; have z1 := J5.out.fz 1; have z2 := J5.out.fz 2; have z3 := J5.out.fz 3
    go_wp2_with (fail)
    obtain ⟨qa, qb⟩ := J5.out.put Mg.zero; obtain ⟨w5, hw5⟩ : ∃ W, putMg w5 (w.heap.size + 1 + 1) Mg.zero = W := ⟨_, rfl⟩; rw [hw5] at qa qb; unfold putMg at hw5; try unfold Mg.zero at hw5; dsimp only at hw5; rw [hw5]; have q0 := qa.c0; have q1 := qa.c1; have q2 := qa.c2; have q3 := qa.c3; refine bodyPost_ret (v := .tuple #[.agg #[.bool Mg.zero.on, .int .i64 Mg.zero.number, .int .i64 Mg.zero.next, .string Mg.zero.data], .string ⟨#[]⟩, .int .i64 0]) (by simp [results, Try.results21, go_sem, q0, q1, q2, q3]) rfl (jret HJ.out qb)
  have HJ := Lib.hid (join_marked HH.out HH2.out HT.out h4 hg hg2)
  clear hg hg2
  generalize withD m p = d at *
  go_wp2_with (fail)
  refine (CG.out _).mono ?_
  rintro e w4 ⟨rfl, g4⟩
  have J4 := Lib.hid (HJ3.out.keep g4)
  go_wp2_with (fail)
  refine (CM.out _).mono ?_
  rintro e w5 ⟨rfl, g5⟩
  have J5 := Lib.hid (J4.out.keep g5)
  clear HJ3 J4 g4 g5 CG CM
  go_upto_region 15 with fail
  obtain ⟨o, ho⟩ := J5.out.rs; have r0 := ho.c0; have r1 := ho.c1; have r2 := ho.c2; have r3 := ho.c3; have z0 := J5.out.fz 0; have z1 := J5.out.fz 1; have z2 := J5.out.fz 2; have z3 := J5.out.fz 3
  have s1 := J5.out.pc.c1
  have hi : IntKind.i64.wrap ((d.size : Int) - 4) = (d.size : Int) - 4 := IntWalk.i64_in _ (by omega)
  go_region
  have HJ2 : Hid (join m p = (⟨true, p.number, nextD m p, d.extract 0 (d.size - 4)⟩, ⟨#[]⟩, 0)) := Lib.hid HJ.out
  obtain ⟨qa, qb⟩ := J5.out.putd ⟨true, p.number, nextD m p, d.extract 0 (d.size - 4)⟩
  obtain ⟨w6, hw6⟩ : ∃ W, (putMg w5 (w.heap.size + 1 + 1) ⟨true, p.number, nextD m p, d.extract 0 (d.size - 4)⟩).drew = W := ⟨_, rfl⟩
  rw [hw6] at qa qb
  unfold putMg at hw6
  dsimp only at hw6
  rw [hw6]
  have q0 := qa.c0
  have q1 := qa.c1
  have q2 := qa.c2
  have q3 := qa.c3
  clear hi s1 r0 r1 r2 r3 z0 z1 z2 z3
  go_wp2_with (fail)
  refine bodyPost_ret (v := .tuple #[.agg #[.bool true, .int .i64 p.number, .int .i64 (nextD m p), .string (d.extract 0 (d.size - 4))], .string ⟨#[]⟩, .int .i64 0]) (by simp [results, Try.results21, go_sem, q0, q1, q2, q3]) rfl (jret HJ2.out qb)

theorem RJoin_any (m : Mg) (p : Pc) (hm : m.data.size ≤ 9000000000000000000) (hp : p.data.size ≤ 9000000000000000000) (w : World) : Calls Try.prog 21 #[.agg #[.bool m.on, .int .i64 m.number, .int .i64 m.next, .string m.data], .agg #[.bool p.start, .int .i64 p.number, .int .i64 p.count, .string p.data]] w (JRet m p w) := by
  cases h : m.ok with
  | false => exact RJoin_bad m p hm w h
  | true =>
    cases h2 : p.ok with
    | false => exact RJoin_piece m p hm hp w h h2
    | true => exact RJoin_ok m p w h h2
end Go.Proofs.Ytppdfnghojcppaa
