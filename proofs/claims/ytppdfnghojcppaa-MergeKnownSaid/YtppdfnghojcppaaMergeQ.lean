/-
  What MergeJoins uses: states and pieces cut to 1530 octets.
-/
import Derived.Test.YtppdfnghojcppaaMergeP
import Derived.Deep.RegionHeld3
import Derived.Deep.CutBlock
namespace Go.Proofs.Ytppdfnghojcppaa
open Go.RowKit Go.Sort
set_option linter.unusedVariables false

def upTo1530 (d : ByteArray) : ByteArray := d.extract 0 (min d.size 1530)
theorem upTo1530_size (d : ByteArray) : (upTo1530 d).size ≤ 1530 := by unfold upTo1530; rw [ByteArray.size_extract]; omega
def shortM (m : Mg) : Mg := { m with data := upTo1530 m.data }
def shortP (p : Pc) : Pc := { p with data := upTo1530 p.data }

set_option maxRecDepth 100000 in
set_option maxHeartbeats 4000000 in
theorem short_any (m : Mg) (p : Pc) (hm : m.data.size ≤ maxLen) (hp : p.data.size ≤ maxLen) (w : World) :
    Calls Try.prog 17 #[.agg #[.bool m.on, .int .i64 m.number, .int .i64 m.next, .string m.data], .agg #[.bool p.start, .int .i64 p.number, .int .i64 p.count, .string p.data]] w fun e w' => e = .returned (.tuple #[.agg #[.bool (shortM m).on, .int .i64 (shortM m).number, .int .i64 (shortM m).next, .string (shortM m).data], .agg #[.bool (shortP p).start, .int .i64 (shortP p).number, .int .i64 (shortP p).count, .string (shortP p).data]]) ∧ Below w.heap.size w w' := by
  unfold maxLen at hm hp
  have hm1 : (min (m.data.size : Int) 1530) = ((min m.data.size 1530 : Nat) : Int) := by omega
  have hp1 : (min (p.data.size : Int) 1530) = ((min p.data.size 1530 : Nat) : Int) := by omega
  have hm2 : min m.data.size 1530 ≤ m.data.size := by omega
  have hp2 : min p.data.size 1530 ≤ p.data.size := by omega
  go_enter Try.func17, Try.ntmps17
  go_upto_region 1 with fail
  go_region
  go_upto_region 2 with fail
  go_region
  go_wp2_with (fail)
  exact bodyPost_ret (v := .tuple #[.agg #[.bool (shortM m).on, .int .i64 (shortM m).number, .int .i64 (shortM m).next, .string (shortM m).data], .agg #[.bool (shortP p).start, .int .i64 (shortP p).number, .int .i64 (shortP p).count, .string (shortP p).data]]) (by simp [results, Try.results17, go_sem, shortM, shortP, upTo1530]) rfl ⟨rfl, (by repeat' (first | exact Below.refl _ _ | assumption | refine below_drewN ?_ _ | refine Below.drew ?_ | refine Below.alloc ?_ (by (first | exact Nat.le_refl _ | assumption | (simp; done) | omega | (simp; omega))) _ | refine Below.setCell ?_ (by (first | exact Nat.le_refl _ | assumption | (simp; done) | omega | (simp; omega))) _ | refine Below.trans ?_ (Below.mono (by assumption) (by (first | exact Nat.le_refl _ | assumption | (simp; done) | omega | (simp; omega))))))⟩
theorem far_cell {W : World} {B B' i j : Nat} {v : Value} (h : B ≠ B') : (W.setCell ⟨B', i, none⟩ v).cell? ⟨B, j, none⟩ = W.cell? ⟨B, j, none⟩ :=
  World.cell?_setCell_other _ _ _ _ (by intro e; injection e with e; exact h e.symm)
/-- A state, a piece and two drafts in their blocks. -/
structure Jn (w : World) (m : Mg) (p : Pc) (ds : Array Value) (W : World) : Prop where
  mv : MV W w.heap.size m
  pv : PV W (w.heap.size + 1) p
  d : ∀ j, W.cell? ⟨w.heap.size + 2, j, none⟩ = ds[j]?
  dl : w.heap.size + 2 < W.heap.size
  bel : Below w.heap.size w W
theorem Jn.keep {w : World} {m : Mg} {p : Pc} {ds : Array Value} {W W' : World} (h : Jn w m p ds W) (hb : Below W.heap.size W W') : Jn w m p ds W' :=
  ⟨h.mv.keep hb, h.pv.keep hb, fun j => (hb.cell (p := ⟨w.heap.size + 2, j, none⟩) h.dl).trans (h.d j), Nat.lt_of_lt_of_le h.dl hb.size, h.bel.trans (hb.mono h.bel.size)⟩
theorem Jn.keepB {w : World} {m : Mg} {p : Pc} {ds : Array Value} {B : Nat} {W W' : World} (h : Jn w m p ds W) (hB : w.heap.size + 2 < B) (hb : Below B W W') : Jn w m p ds W' :=
  ⟨h.mv.keepB (by omega) hb, h.pv.keepB (by omega) hb, fun j => (hb.cell (p := ⟨w.heap.size + 2, j, none⟩) hB).trans (h.d j), Nat.lt_of_lt_of_le h.dl hb.size, h.bel.trans (hb.mono (by omega))⟩
theorem Jn.drew {w : World} {m : Mg} {p : Pc} {ds : Array Value} {W : World} (h : Jn w m p ds W) : Jn w m p ds W.drew := h.keep (Below.drew (Below.refl _ _))
theorem jn_new (w : World) (m : Mg) (p : Pc) (ds : Array Value) (t : TypeId) : Jn w m p ds (((w.alloc (.cells #[.bool m.on, .int .i64 m.number, .int .i64 m.next, .string m.data] 43)).alloc (.cells #[.bool p.start, .int .i64 p.number, .int .i64 p.count, .string p.data] 45)).alloc (.cells ds t)) := by
  have b1 : Below (w.alloc (.cells #[.bool m.on, .int .i64 m.number, .int .i64 m.next, .string m.data] 43)).heap.size (w.alloc (.cells #[.bool m.on, .int .i64 m.number, .int .i64 m.next, .string m.data] 43)) ((w.alloc (.cells #[.bool m.on, .int .i64 m.number, .int .i64 m.next, .string m.data] 43)).alloc (.cells #[.bool p.start, .int .i64 p.number, .int .i64 p.count, .string p.data] 45)) := (Below.refl _ _).alloc (Nat.le_refl _) _
  have b2 : Below ((w.alloc (.cells #[.bool m.on, .int .i64 m.number, .int .i64 m.next, .string m.data] 43)).alloc (.cells #[.bool p.start, .int .i64 p.number, .int .i64 p.count, .string p.data] 45)).heap.size ((w.alloc (.cells #[.bool m.on, .int .i64 m.number, .int .i64 m.next, .string m.data] 43)).alloc (.cells #[.bool p.start, .int .i64 p.number, .int .i64 p.count, .string p.data] 45)) (((w.alloc (.cells #[.bool m.on, .int .i64 m.number, .int .i64 m.next, .string m.data] 43)).alloc (.cells #[.bool p.start, .int .i64 p.number, .int .i64 p.count, .string p.data] 45)).alloc (.cells ds t)) := (Below.refl _ _).alloc (Nat.le_refl _) _
  have hp := pv_new (w.alloc (.cells #[.bool m.on, .int .i64 m.number, .int .i64 m.next, .string m.data] 43)) p
  rw [World.size_alloc] at hp
  refine ⟨((mv_new w m).keep b1).keep b2, hp.keep b2, fun j => World.cell?_alloc_at _ _ _ _ (by simp), by simp, ?_⟩
  exact (((Below.refl _ w).alloc (Nat.le_refl _) _).alloc (by simp) _).alloc (by simp; omega) _
theorem Jn.stored {w : World} {m : Mg} {p : Pc} {ds : Array Value} {W : World} (h : Jn w m p ds W) (r : Mg) (q : Pc) : Jn w r q ds ((((((((W.setCell ⟨w.heap.size, 0, none⟩ (.bool r.on)).setCell ⟨w.heap.size, 1, none⟩ (.int .i64 r.number)).setCell ⟨w.heap.size, 2, none⟩ (.int .i64 r.next)).setCell ⟨w.heap.size, 3, none⟩ (.string r.data)).setCell ⟨w.heap.size + 1, 0, none⟩ (.bool q.start)).setCell ⟨w.heap.size + 1, 1, none⟩ (.int .i64 q.number)).setCell ⟨w.heap.size + 1, 2, none⟩ (.int .i64 q.count)).setCell ⟨w.heap.size + 1, 3, none⟩ (.string q.data)) := by
  have hm := h.mv.store r
  have hp := (h.pv.puts (B' := w.heap.size) (by omega) (.bool r.on) (.int .i64 r.number) (.int .i64 r.next) (.string r.data)).put q
  have s := fun (W : World) (i : Nat) (v : Value) => (Below.refl (w.heap.size + 1) W).setCell (p := ⟨w.heap.size + 1, i, none⟩) (Nat.le_refl _) v
  refine ⟨hm.1.keepB (Nat.lt_succ_self _) ((((s _ 0 _).trans (s _ 1 _)).trans (s _ 2 _)).trans (s _ 3 _)), hp, fun j => ?_, by have := h.dl; simpa using this, h.bel.trans (hm.2.trans (((((s _ 0 _).trans (s _ 1 _)).trans (s _ 2 _)).trans (s _ 3 _)).mono (by omega)))⟩
  rw [far_cell (by omega), far_cell (by omega), far_cell (by omega), far_cell (by omega), far_cell (by omega), far_cell (by omega), far_cell (by omega), far_cell (by omega)]
  exact h.d j
theorem RowC.drew {W : World} {g : Nat} {l : List Pc} (h : RowC W g l) : RowC W.drew g l := h
theorem size_le_alloc {n : Nat} {W : World} (h : n ≤ W.heap.size) (o : Obj) : n ≤ (W.alloc o).heap.size := by simp; omega
theorem pieces_good (D : Dr8) : ∀ q ∈ D.pieces 30, q.ok = true := by
  intro q hq
  obtain ⟨i, hi, rfl⟩ := List.mem_map.1 hq
  exact (D.cut_ok 30).piece_ok (i := i) (by have := List.mem_range.1 hi; omega)
theorem pieces_count (D : Dr8) : 1 ≤ (D.pieces 30).length ∧ (D.pieces 30).length ≤ 31 := by
  unfold Dr8.pieces
  rw [pieces_length]
  have := D.offsets_length 30
  omega
end Go.Proofs.Ytppdfnghojcppaa
