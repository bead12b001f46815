/-
  What the laws' walks share: rows of pieces that are written to, states in their boxes.
-/
import Derived.Test.YtppdfnghojcppaaMerge10
import Derived.Test.YtppdfnghojcppaaMergeK
import Derived.Test.YtppdfnghojcppaaOpen8
namespace Go.Proofs.Ytppdfnghojcppaa
open Go.RowKit Go.Sort
set_option linter.unusedVariables false

theorem flat_set (d : ByteArray) : ∀ (l : List Pc) (k : Nat), k < l.length → (flat l).set (k * 4 + 3) (.string d) = flat (l.set k { l.getD k Pc.zero with data := d })
  | [], k, h => by cases h
  | p :: l, 0, _ => rfl
  | p :: l, k + 1, h => by
    have h4 : (k + 1) * 4 + 3 = k * 4 + 3 + 1 + 1 + 1 + 1 := by omega
    rw [h4]
    show (Value.bool p.start :: .int .i64 p.number :: .int .i64 p.count :: .string p.data :: flat l).set (k * 4 + 3 + 1 + 1 + 1 + 1) (.string d) = flat (p :: l.set k { l.getD k Pc.zero with data := d })
    simp only [List.set_cons_succ, flat]
    rw [flat_set d l k (by simpa using h)]
theorem Rw.setText {W : World} {B g cap : Nat} {l : List Pc} (h : Rw W B (.slice (some ⟨g, 0, none⟩) l.length cap) l) {k : Nat} (hk : k < l.length) (d : ByteArray) :
    Rw (W.setCell ⟨g, k * 4 + 3, none⟩ (.string d)) B (.slice (some ⟨g, 0, none⟩) l.length cap) (l.set k { l.getD k Pc.zero with data := d }) := by
  have := (World.ownsRow.stored h (k * 4 + 3) (.string d)).1
  unfold Rw
  rw [List.length_set, ← flat_set d l k hk]
  exact this
theorem Rw.fz {W : World} {B g cap : Nat} {l : List Pc} (h : Rw W B (.slice (some ⟨g, 0, none⟩) l.length cap) l) (j : Nat) : W.frozen? ⟨g, j, none⟩ = false := World.ownsRow.frozenAt h j


theorem Rw.at4 {W : World} {B g cap : Nat} {l : List Pc} (h : Rw W B (.slice (some ⟨g, 0, none⟩) l.length cap) l) {j : Nat} (hj : j < l.length) : PcO W g (j * 4) (l.getD j Pc.zero) := by
  obtain ⟨g', cap', he, _, _, q⟩ := h.at hj
  simp only [Value.slice.injEq, Option.some.injEq, Addr.mk.injEq] at he
  obtain ⟨⟨rfl, _⟩, _⟩ := he
  rw [Nat.mul_comm]
  exact q
theorem Rw.keepB {W W' : World} {B g cap n Bm : Nat} {l : List Pc} (h : Rw W B (.slice (some ⟨g, 0, none⟩) n cap) l) (hg : g < Bm) (hb : Below Bm W W') : Rw W' B (.slice (some ⟨g, 0, none⟩) n cap) l := by
  refine ⟨h.1, ?_⟩
  rcases h.2 with ⟨hv, _⟩ | ⟨g', cap', cur, hv, hB, hh, rest⟩
  · simp at hv
  · simp only [Value.slice.injEq, Option.some.injEq, Addr.mk.injEq, and_true] at hv
    obtain ⟨rfl, hv2⟩ := hv
    exact .inr ⟨g, cap', cur, by rw [hv2.1, hv2.2], hB, (hb.block g hg).trans hh, rest⟩

/-- A variable of type Merge in its block. -/
structure MV (W : World) (B : Nat) (m : Mg) : Prop where
  at' : MgAt W B m
  fz : ∀ j, W.frozen? ⟨B, j, none⟩ = false
  lt : B < W.heap.size
theorem MV.keep {W W' : World} {B : Nat} {m : Mg} (h : MV W B m) (hb : Below W.heap.size W W') : MV W' B m := ⟨h.at'.keep hb h.lt, fun j => by rw [hb.frozen h.lt]; exact h.fz j, Nat.lt_of_lt_of_le h.lt hb.size⟩
theorem mv_new (W : World) (m : Mg) : MV (W.alloc (.cells #[.bool m.on, .int .i64 m.number, .int .i64 m.next, .string m.data] 43)) W.heap.size m :=
  ⟨⟨World.cell?_alloc_at _ _ _ _ rfl, World.cell?_alloc_at _ _ _ _ rfl, World.cell?_alloc_at _ _ _ _ rfl, World.cell?_alloc_at _ _ _ _ rfl⟩, fun j => World.frozen?_alloc_at _ _ _ _ rfl, by simp⟩
theorem putMg_fz (W : World) (B : Nat) (r : Mg) (a : Addr) : (putMg W B r).frozen? a = W.frozen? a := by unfold putMg; rw [World.frozen?_setCell, World.frozen?_setCell, World.frozen?_setCell, World.frozen?_setCell]
theorem MV.put {W : World} {B : Nat} {m : Mg} (h : MV W B m) (r : Mg) : MV (putMg W B r) B r ∧ Below B W (putMg W B r) :=
  ⟨⟨putMg_at r h.at', fun j => by rw [putMg_fz]; exact h.fz j, by have := h.lt; unfold putMg; simpa using this⟩, putMg_bel r (Nat.le_refl _) (Below.refl _ _)⟩
theorem MV.keepB {W W' : World} {B B' : Nat} {m : Mg} (h : MV W B m) (hB : B < B') (hb : Below B' W W') : MV W' B m :=
  ⟨h.at'.turn fun j => hb.cell (p := ⟨B, j, none⟩) hB, fun j => by rw [hb.frozen hB]; exact h.fz j, Nat.lt_of_lt_of_le h.lt hb.size⟩

/-- Eight cells: a state, and a piece in a row. -/
theorem cells8 {W W' : World} {Bm g o : Nat} {m : Mg} {p : Pc} (h : W.cell? ⟨Bm, 0, none⟩ = some (.bool m.on) ∧ W.cell? ⟨Bm, 1, none⟩ = some (.int .i64 m.number) ∧ W.cell? ⟨Bm, 2, none⟩ = some (.int .i64 m.next) ∧ W.cell? ⟨Bm, 3, none⟩ = some (.string m.data) ∧ W.cell? ⟨g, o, none⟩ = some (.bool p.start) ∧ W.cell? ⟨g, o + 1, none⟩ = some (.int .i64 p.number) ∧ W.cell? ⟨g, o + 2, none⟩ = some (.int .i64 p.count) ∧ W.cell? ⟨g, o + 3, none⟩ = some (.string p.data))
    (hb : Below W.heap.size W W') : W'.cell? ⟨Bm, 0, none⟩ = some (.bool m.on) ∧ W'.cell? ⟨Bm, 1, none⟩ = some (.int .i64 m.number) ∧ W'.cell? ⟨Bm, 2, none⟩ = some (.int .i64 m.next) ∧ W'.cell? ⟨Bm, 3, none⟩ = some (.string m.data) ∧ W'.cell? ⟨g, o, none⟩ = some (.bool p.start) ∧ W'.cell? ⟨g, o + 1, none⟩ = some (.int .i64 p.number) ∧ W'.cell? ⟨g, o + 2, none⟩ = some (.int .i64 p.count) ∧ W'.cell? ⟨g, o + 3, none⟩ = some (.string p.data) :=
  have k := fun (a : Addr) (v : Value) (h : W.cell? a = some v) => (hb.cell (block_lt_of_cell h)).trans h
  ⟨k _ _ h.1, k _ _ h.2.1, k _ _ h.2.2.1, k _ _ h.2.2.2.1, k _ _ h.2.2.2.2.1, k _ _ h.2.2.2.2.2.1, k _ _ h.2.2.2.2.2.2.1, k _ _ h.2.2.2.2.2.2.2⟩
theorem cells8p {W : World} {Bm g o B : Nat} {m : Mg} {p : Pc} (r : Mg) (h : W.cell? ⟨Bm, 0, none⟩ = some (.bool m.on) ∧ W.cell? ⟨Bm, 1, none⟩ = some (.int .i64 m.number) ∧ W.cell? ⟨Bm, 2, none⟩ = some (.int .i64 m.next) ∧ W.cell? ⟨Bm, 3, none⟩ = some (.string m.data) ∧ W.cell? ⟨g, o, none⟩ = some (.bool p.start) ∧ W.cell? ⟨g, o + 1, none⟩ = some (.int .i64 p.number) ∧ W.cell? ⟨g, o + 2, none⟩ = some (.int .i64 p.count) ∧ W.cell? ⟨g, o + 3, none⟩ = some (.string p.data)) (h1 : Bm < B) (h2 : g < B) : ((((W.setCell ⟨B, 0, none⟩ (.bool r.on)).setCell ⟨B, 1, none⟩ (.int .i64 r.number)).setCell ⟨B, 2, none⟩ (.int .i64 r.next)).setCell ⟨B, 3, none⟩ (.string r.data)).cell? ⟨Bm, 0, none⟩ = some (.bool m.on) ∧ ((((W.setCell ⟨B, 0, none⟩ (.bool r.on)).setCell ⟨B, 1, none⟩ (.int .i64 r.number)).setCell ⟨B, 2, none⟩ (.int .i64 r.next)).setCell ⟨B, 3, none⟩ (.string r.data)).cell? ⟨Bm, 1, none⟩ = some (.int .i64 m.number) ∧ ((((W.setCell ⟨B, 0, none⟩ (.bool r.on)).setCell ⟨B, 1, none⟩ (.int .i64 r.number)).setCell ⟨B, 2, none⟩ (.int .i64 r.next)).setCell ⟨B, 3, none⟩ (.string r.data)).cell? ⟨Bm, 2, none⟩ = some (.int .i64 m.next) ∧ ((((W.setCell ⟨B, 0, none⟩ (.bool r.on)).setCell ⟨B, 1, none⟩ (.int .i64 r.number)).setCell ⟨B, 2, none⟩ (.int .i64 r.next)).setCell ⟨B, 3, none⟩ (.string r.data)).cell? ⟨Bm, 3, none⟩ = some (.string m.data) ∧ ((((W.setCell ⟨B, 0, none⟩ (.bool r.on)).setCell ⟨B, 1, none⟩ (.int .i64 r.number)).setCell ⟨B, 2, none⟩ (.int .i64 r.next)).setCell ⟨B, 3, none⟩ (.string r.data)).cell? ⟨g, o, none⟩ = some (.bool p.start) ∧ ((((W.setCell ⟨B, 0, none⟩ (.bool r.on)).setCell ⟨B, 1, none⟩ (.int .i64 r.number)).setCell ⟨B, 2, none⟩ (.int .i64 r.next)).setCell ⟨B, 3, none⟩ (.string r.data)).cell? ⟨g, o + 1, none⟩ = some (.int .i64 p.number) ∧ ((((W.setCell ⟨B, 0, none⟩ (.bool r.on)).setCell ⟨B, 1, none⟩ (.int .i64 r.number)).setCell ⟨B, 2, none⟩ (.int .i64 r.next)).setCell ⟨B, 3, none⟩ (.string r.data)).cell? ⟨g, o + 2, none⟩ = some (.int .i64 p.count) ∧ ((((W.setCell ⟨B, 0, none⟩ (.bool r.on)).setCell ⟨B, 1, none⟩ (.int .i64 r.number)).setCell ⟨B, 2, none⟩ (.int .i64 r.next)).setCell ⟨B, 3, none⟩ (.string r.data)).cell? ⟨g, o + 3, none⟩ = some (.string p.data) :=
  have hb := putMg_bel (B := B) r (Nat.le_refl _) (Below.refl B W)
  have k := fun (b j : Nat) (hb' : b < B) => hb.cell (p := ⟨b, j, none⟩) hb'
  ⟨(k _ _ h1).trans h.1, (k _ _ h1).trans h.2.1, (k _ _ h1).trans h.2.2.1, (k _ _ h1).trans h.2.2.2.1, (k _ _ h2).trans h.2.2.2.2.1, (k _ _ h2).trans h.2.2.2.2.2.1, (k _ _ h2).trans h.2.2.2.2.2.2.1, (k _ _ h2).trans h.2.2.2.2.2.2.2⟩
/-- What a joining leaves: the new state in a block of its own. -/
structure NB (w0 W : World) (B : Nat) (r : Mg) : Prop where
  at' : MgAt W B r
  lt : B < W.heap.size
  ge : w0.heap.size ≤ B
  bel : Below w0.heap.size w0 W

theorem nb_alloc {w0 wn : World} (r : Mg) (hg : Below w0.heap.size w0 wn) : NB w0 (wn.alloc (.cells #[.bool r.on, .int .i64 r.number, .int .i64 r.next, .string r.data] 43)) wn.heap.size r :=
  ⟨(mv_new wn r).at', (mv_new wn r).lt, hg.size, hg.alloc hg.size _⟩
theorem nb_put {w0 wn : World} (r : Mg) (hg : Below w0.heap.size w0 wn) (hz : w0.heap.size < wn.heap.size) (n0 : wn.cell? ⟨w0.heap.size, 0, none⟩ = some (.bool false)) (n1 : wn.cell? ⟨w0.heap.size, 1, none⟩ = some (.int .i64 0)) (n2 : wn.cell? ⟨w0.heap.size, 2, none⟩ = some (.int .i64 0)) (n3 : wn.cell? ⟨w0.heap.size, 3, none⟩ = some (.string ⟨#[]⟩)) :
    NB w0 ((((wn.setCell ⟨w0.heap.size, 0, none⟩ (.bool r.on)).setCell ⟨w0.heap.size, 1, none⟩ (.int .i64 r.number)).setCell ⟨w0.heap.size, 2, none⟩ (.int .i64 r.next)).setCell ⟨w0.heap.size, 3, none⟩ (.string r.data)) w0.heap.size r :=
  ⟨putMg_at (o := ⟨false, 0, 0, ⟨#[]⟩⟩) r ⟨n0, n1, n2, n3⟩, by simpa using hz, Nat.le_refl _, putMg_bel r (Nat.le_refl _) hg⟩
/-- The joined state is stored into its variable: what lies ahead of that variable lies on. -/
theorem MV.store {W : World} {B : Nat} {m : Mg} (h : MV W B m) (r : Mg) :
    MV ((((W.setCell ⟨B, 0, none⟩ (.bool r.on)).setCell ⟨B, 1, none⟩ (.int .i64 r.number)).setCell ⟨B, 2, none⟩ (.int .i64 r.next)).setCell ⟨B, 3, none⟩ (.string r.data)) B r ∧
    Below B W ((((W.setCell ⟨B, 0, none⟩ (.bool r.on)).setCell ⟨B, 1, none⟩ (.int .i64 r.number)).setCell ⟨B, 2, none⟩ (.int .i64 r.next)).setCell ⟨B, 3, none⟩ (.string r.data)) := h.put r

theorem store_heap (W : World) (B : Nat) (r : Mg) (k : Nat) (h : k ≠ B) :
    ((((W.setCell ⟨B, 0, none⟩ (.bool r.on)).setCell ⟨B, 1, none⟩ (.int .i64 r.number)).setCell ⟨B, 2, none⟩ (.int .i64 r.next)).setCell ⟨B, 3, none⟩ (.string r.data)).heap[k]? = W.heap[k]? := by
  rw [Below.heap_setCell _ _ _ k h, Below.heap_setCell _ _ _ k h, Below.heap_setCell _ _ _ k h, Below.heap_setCell _ _ _ k h]
theorem Rw.byHeap {W W' : World} {B g cap n : Nat} {l : List Pc} (h : Rw W B (.slice (some ⟨g, 0, none⟩) n cap) l) (he : W'.heap[g]? = W.heap[g]?) : Rw W' B (.slice (some ⟨g, 0, none⟩) n cap) l := by
  refine ⟨h.1, ?_⟩
  rcases h.2 with ⟨hv, _⟩ | ⟨g', cap', cur, hv, hB, hh, rest⟩
  · simp at hv
  · simp only [Value.slice.injEq, Option.some.injEq, Addr.mk.injEq, and_true] at hv
    obtain ⟨rfl, hv2⟩ := hv
    exact .inr ⟨g, cap', cur, by rw [hv2.1, hv2.2], hB, he.trans hh, rest⟩
end Go.Proofs.Ytppdfnghojcppaa
