/-
  States and pieces as arguments; pieces in blocks; rows put together inside a region that draws its order; what a joining says of arbitrary pieces.
-/
import Derived.Test.YtppdfnghojcppaaMergeL
import Derived.Test.YtppdfnghojcppaaShelf
import Derived.Deep.AppendLies
namespace Go.Proofs.Ytppdfnghojcppaa
open Go.RowKit Go.Sort Go.ChangeShapes Go.WideShapes Go.Deep
set_option linter.unusedVariables false

set_option maxRecDepth 100000 in
theorem open_piece {H : Type} {enc : TypeId × Value → H} {w : World} {base : Nat} {spare : Nat → Bool} {held : Bool} {r : Reach} {b0 : Nat} {v : Value} {d : DataW H} {p : List MemPlace}
    (hv : Value.okWide Try.prog w r b0 45 v) (h : DataW.Trod enc Try.prog w base spare held 45 v d p) :
    ∃ q : Pc, v = .agg #[.bool q.start, .int .i64 q.number, .int .i64 q.count, .string q.data] ∧ q.data.size ≤ maxLen := by
  obtain ⟨cs, rfl, hsz⟩ := okWide_struct Try.underlying45 hv
  obtain ⟨fuel, hf⟩ := h
  have hC : Try.prog.cellsOf 45 = 4 := by kernel_rfl
  have hl : cs.toList.length = 4 := by rw [Array.length_toList, hsz, hC]
  obtain ⟨n, hf⟩ := cells_struct Try.underlying45 (by kernel_rfl) hl hf
  obtain ⟨c0, c1, c2, c3, hcs⟩ := len4 hl
  rw [hcs] at hf
  obtain ⟨a0, x0, e0, h0⟩ := hf 0 _ rfl
  obtain ⟨a1, x1, e1, h1⟩ := hf 1 _ rfl
  obtain ⟨a2, x2, e2, h2⟩ := hf 2 _ rfl
  obtain ⟨a3, x3, e3, h3⟩ := hf 3 _ rfl
  obtain rfl := field_int _ e0
  obtain rfl := field_int _ e1
  obtain rfl := field_int _ e2
  obtain rfl := field_int _ e3
  obtain ⟨b0, rfl⟩ := is_bool Try.underlying4 h0
  obtain ⟨b1, rfl, k1⟩ := is_int Try.underlying3 h1
  obtain ⟨b2, rfl, k2⟩ := is_int Try.underlying3 h2
  obtain ⟨b3, rfl, k3⟩ := is_string Try.underlying9 h3
  exact ⟨⟨b0, b1, b2, b3⟩, by rw [← Array.toArray_toList (xs := cs), hcs], k3⟩
set_option maxRecDepth 100000 in
theorem open_merge {H : Type} {enc : TypeId × Value → H} {w : World} {base : Nat} {spare : Nat → Bool} {held : Bool} {r : Reach} {b0 : Nat} {v : Value} {d : DataW H} {p : List MemPlace}
    (hv : Value.okWide Try.prog w r b0 43 v) (h : DataW.Trod enc Try.prog w base spare held 43 v d p) :
    ∃ q : Mg, v = .agg #[.bool q.on, .int .i64 q.number, .int .i64 q.next, .string q.data] ∧ q.data.size ≤ maxLen := by
  obtain ⟨cs, rfl, hsz⟩ := okWide_struct Try.underlying43 hv
  obtain ⟨fuel, hf⟩ := h
  have hC : Try.prog.cellsOf 43 = 4 := by kernel_rfl
  have hl : cs.toList.length = 4 := by rw [Array.length_toList, hsz, hC]
  obtain ⟨n, hf⟩ := cells_struct Try.underlying43 (by kernel_rfl) hl hf
  obtain ⟨c0, c1, c2, c3, hcs⟩ := len4 hl
  rw [hcs] at hf
  obtain ⟨a0, x0, e0, h0⟩ := hf 0 _ rfl
  obtain ⟨a1, x1, e1, h1⟩ := hf 1 _ rfl
  obtain ⟨a2, x2, e2, h2⟩ := hf 2 _ rfl
  obtain ⟨a3, x3, e3, h3⟩ := hf 3 _ rfl
  obtain rfl := field_int _ e0
  obtain rfl := field_int _ e1
  obtain rfl := field_int _ e2
  obtain rfl := field_int _ e3
  obtain ⟨b0, rfl⟩ := is_bool Try.underlying4 h0
  obtain ⟨b1, rfl, k1⟩ := is_int Try.underlying3 h1
  obtain ⟨b2, rfl, k2⟩ := is_int Try.underlying3 h2
  obtain ⟨b3, rfl, k3⟩ := is_string Try.underlying9 h3
  exact ⟨⟨b0, b1, b2, b3⟩, by rw [← Array.toArray_toList (xs := cs), hcs], k3⟩

/-- A variable of type Piece in its block. -/
structure PV (W : World) (B : Nat) (p : Pc) : Prop where
  at' : PcAt W B p
  fz : ∀ j, W.frozen? ⟨B, j, none⟩ = false
  lt : B < W.heap.size
theorem PV.keep {W W' : World} {B : Nat} {p : Pc} (h : PV W B p) (hb : Below W.heap.size W W') : PV W' B p := ⟨h.at'.keep hb h.lt, fun j => by rw [hb.frozen h.lt]; exact h.fz j, Nat.lt_of_lt_of_le h.lt hb.size⟩
theorem PV.keepB {W W' : World} {B B' : Nat} {p : Pc} (h : PV W B p) (hB : B < B') (hb : Below B' W W') : PV W' B p :=
  ⟨h.at'.turn fun j => hb.cell (p := ⟨B, j, none⟩) hB, fun j => by rw [hb.frozen hB]; exact h.fz j, Nat.lt_of_lt_of_le h.lt hb.size⟩
theorem pv_new (W : World) (p : Pc) : PV (W.alloc (.cells #[.bool p.start, .int .i64 p.number, .int .i64 p.count, .string p.data] 45)) W.heap.size p :=
  ⟨⟨World.cell?_alloc_at _ _ _ _ rfl, World.cell?_alloc_at _ _ _ _ rfl, World.cell?_alloc_at _ _ _ _ rfl, World.cell?_alloc_at _ _ _ _ rfl⟩, fun j => World.frozen?_alloc_at _ _ _ _ rfl, by simp⟩
theorem PV.text {W : World} {B : Nat} {p : Pc} (h : PV W B p) (d : ByteArray) : PV (W.setCell ⟨B, 3, none⟩ (.string d)) B { p with data := d } :=
  ⟨⟨cell_set 3 _ h.at'.c0, cell_set 3 _ h.at'.c1, cell_set 3 _ h.at'.c2, cell_set 3 _ h.at'.c3⟩, fun j => by rw [World.frozen?_setCell]; exact h.fz j, by have := h.lt; simpa using this⟩
theorem PV.count {W : World} {B : Nat} {p : Pc} (h : PV W B p) (c : Int) : PV (W.setCell ⟨B, 2, none⟩ (.int .i64 c)) B { p with count := c } :=
  ⟨⟨cell_set 2 _ h.at'.c0, cell_set 2 _ h.at'.c1, cell_set 2 _ h.at'.c2, cell_set 2 _ h.at'.c3⟩, fun j => by rw [World.frozen?_setCell]; exact h.fz j, by have := h.lt; simpa using this⟩
theorem PV.other {W : World} {B : Nat} {p : Pc} (h : PV W B p) {B' : Nat} (hB : B ≠ B') (i : Nat) (v : Value) : PV (W.setCell ⟨B', i, none⟩ v) B p :=
  ⟨h.at'.turn fun j => World.cell?_setCell_other _ _ _ _ (by intro e; injection e with e; exact hB e.symm), fun j => by rw [World.frozen?_setCell]; exact h.fz j, by have := h.lt; simpa using this⟩
theorem PV.drew {W : World} {B : Nat} {p : Pc} (h : PV W B p) : PV W.drew B p := ⟨h.at'.turn fun _ => rfl, fun j => h.fz j, h.lt⟩
theorem PV.old {W : World} {B : Nat} {p : Pc} (h : PV W B p) (o : Obj) : PV (W.alloc o) B p := h.keep (by repeat' (first | exact Below.refl _ _ | assumption | refine below_drewN ?_ _ | refine Below.drew ?_ | refine Below.alloc ?_ (by (first | exact Nat.le_refl _ | assumption | (simp; done) | omega | (simp; omega))) _ | refine Below.setCell ?_ (by (first | exact Nat.le_refl _ | assumption | (simp; done) | omega | (simp; omega))) _ | refine Below.trans ?_ (Below.mono (by assumption) (by (first | exact Nat.le_refl _ | assumption | (simp; done) | omega | (simp; omega))))))
/-- All four cells are stored. -/
theorem PV.put {W : World} {B : Nat} {o : Pc} (h : PV W B o) (p : Pc) : PV ((((W.setCell ⟨B, 0, none⟩ (.bool p.start)).setCell ⟨B, 1, none⟩ (.int .i64 p.number)).setCell ⟨B, 2, none⟩ (.int .i64 p.count)).setCell ⟨B, 3, none⟩ (.string p.data)) B p :=
  ⟨⟨cell_set 3 _ (cell_set 2 _ (cell_set 1 _ (cell_set 0 _ h.at'.c0))), cell_set 3 _ (cell_set 2 _ (cell_set 1 _ (cell_set 0 _ h.at'.c1))), cell_set 3 _ (cell_set 2 _ (cell_set 1 _ (cell_set 0 _ h.at'.c2))), cell_set 3 _ (cell_set 2 _ (cell_set 1 _ (cell_set 0 _ h.at'.c3)))⟩,
   fun j => by rw [World.frozen?_setCell, World.frozen?_setCell, World.frozen?_setCell, World.frozen?_setCell]; exact h.fz j, by have := h.lt; simpa using this⟩
theorem PV.puts {W : World} {B : Nat} {p : Pc} (h : PV W B p) {B' : Nat} (hB : B ≠ B') (a b c d : Value) : PV ((((W.setCell ⟨B', 0, none⟩ a).setCell ⟨B', 1, none⟩ b).setCell ⟨B', 2, none⟩ c).setCell ⟨B', 3, none⟩ d) B p := (((h.other hB 0 a).other hB 1 b).other hB 2 c).other hB 3 d

/-- The cells of a new row of three, of two pieces. -/
def RowC (W : World) (g : Nat) (l : List Pc) : Prop := ∀ (j : Nat) (u : Value), (flat l)[j]? = some u → W.cell? ((⟨g, 0, none⟩ : Addr).add j) = some u
theorem RowC.keep {W W' : World} {g : Nat} {l : List Pc} (h : RowC W g l) (hb : Below W.heap.size W W') : RowC W' g l := fun j u hj => (hb.cell (block_lt_of_cell (h j u hj))).trans (h j u hj)
theorem addr_add (g j : Nat) : (⟨g, 0, none⟩ : Addr).add j = ⟨g, j, none⟩ := by simp only [Addr.add]; split <;> simp_all
theorem three_new (w : World) (p q r : Pc) : RowC (w.alloc (.cells #[.bool p.start, .int .i64 p.number, .int .i64 p.count, .string p.data, .bool q.start, .int .i64 q.number, .int .i64 q.count, .string q.data, .bool r.start, .int .i64 r.number, .int .i64 r.count, .string r.data] 45)) w.heap.size [p, q, r] := by
  intro j u hj
  rw [addr_add, World.cell?_alloc_at _ _ _ _ rfl]
  simpa [flat] using hj
theorem two_new (w : World) (p q : Pc) : RowC (w.alloc (.cells #[.bool p.start, .int .i64 p.number, .int .i64 p.count, .string p.data, .bool q.start, .int .i64 q.number, .int .i64 q.count, .string q.data] 45)) w.heap.size [p, q] := by
  intro j u hj
  rw [addr_add, World.cell?_alloc_at _ _ _ _ rfl]
  simpa [flat] using hj
theorem Rw.cells {W : World} {B g cap : Nat} {n : Nat} {l : List Pc} (h : Rw W B (.slice (some ⟨g, 0, none⟩) n cap) l) : RowC W g l := World.ownsRow.cells (g := g) h rfl
theorem RowC.app {W : World} {g : Nat} {l : List Pc} (h : RowC W g l) : ∀ j u, (flat l)[j]? = some u → W.cell? ((⟨g, 0, none⟩ : Addr).add j) = some u := h

theorem Rw.cellset {W : World} {B n j : Nat} {v u : Value} {l : List Pc} (h : Rw W B v l) (hn : n < B) : Rw (W.setCell ⟨n, j, none⟩ u) B v l := by
  refine ⟨h.1, ?_⟩
  rcases h.2 with hv | ⟨g, cap, cur, hv, hB, hh, rest⟩
  · exact .inl hv
  · exact .inr ⟨g, cap, cur, hv, hB, (Below.heap_setCell _ _ _ g (by show g ≠ n; omega)).trans hh, rest⟩
theorem Rw.joined {W w1 : World} {B : Nat} {v v' : Value} {l l2 : List Pc} (_h : Rw W B v l) (ho : w1.ownsRow B 45 4 v' (l.length + l2.length) (flat l ++ flat l2)) : Rw w1 B v' (l ++ l2) := by
  unfold Rw
  rw [flat_append, List.length_append]
  exact ho
theorem Rw.added2 {W w1 : World} {B : Nat} {v : Value} {l : List Pc} (h : Rw W B v l) (hB : B ≤ W.heap.size) (hg : W.grownBy w1 v.ownBlock) : Below B W w1 := by
  refine (Below.refl B W).grown hg hB fun j ej => ?_
  rcases h.2 with ⟨rfl, _⟩ | ⟨g, cap, cur, rfl, hb, _, _⟩
  · simp [Value.ownBlock] at ej
  · obtain rfl : g = j := by simpa [Value.ownBlock] using ej
    exact hb
theorem Check_ok {m : Mg} (h : m.ok = true) : Gives 22 #[.agg #[.bool m.on, .int .i64 m.number, .int .i64 m.next, .string m.data]] (.int .i64 0) := fun W => by
  have := Check_any m (by have := Mg.ok_size h; omega) W
  have hc : m.code = 0 := by unfold Mg.code; rw [if_pos h]
  rwa [hc] at this
theorem not_empty {s : ByteArray} (h : s ≠ ⟨#[]⟩) : s.toList.isEmpty = false := by
  rw [List.isEmpty_eq_false_iff]
  exact fun e => h (ba_eq (by rw [e]; simp))
/-- Appending a row to a row, as one step of a region that draws its order. -/
theorem step_rows {ops : Array Oper} {o : Oper} {a : Act} {w : World} {K : Act → World → Prop} {Q : Exit → Act → World → Prop} {E : Prop} (hgd : o.guard = none) (s x : Operand)
    (ho : o.op = .call { callee := .builtin .append, args := #[s, x], argTypes := #[35, 35] })
    {B : Nat} {v : Value} {l : List Pc} (hs : a.eval s = v) (h : Rw w B v l) {g n c : Nat} {l2 : List Pc} (hx : a.eval x = .slice (some ⟨g, 0, none⟩) n c) (hn : n = l2.length) (hc : RowC w g l2)
    (hm : 0 < n) (hsm : l.length + l2.length ≤ 1000000) (hB : B ≤ w.heap.size)
    (hK : ∀ g' cap' w', Rw w' B (.slice (some ⟨g', 0, none⟩) (l ++ l2).length cap') (l ++ l2) → Below B w w' → g' < w'.heap.size → K (a.put o.dst (.slice (some ⟨g', 0, none⟩) (l ++ l2).length cap')) w') :
    if Region.wanted o (yielded ops a.tmps) = true then Oper.wp Try.prog o a w K Q else E := by
  obtain ⟨i0, hi, hz0, hz1, hz2⟩ := info_parts infoPc
  subst hn
  refine step_append_lies w hgd s x 35 ho B 45 i0 _ 4 40 Try.underlying35 hi hz0 hz1 hz2 rfl (by decide) v l.length (flat l) hs h ⟨g, 0, none⟩ l2.length c (flat l2) hx (flat_length l2) hc (flat_plain l2) hm (by unfold maxLen; omega) (by omega) hB _ rfl ?_
  intro g' cap' w' hown hgrow _ hlt
  have hb := h.added2 hB hgrow
  have hr := h.joined hown
  have := hK g' cap' w' (by rw [List.length_append]; exact hr) hb hlt
  rwa [List.length_append] at this

theorem suffix_cat (a b : ByteArray) : Lib.hasSuffix (a ++ b).data.toList b.data.toList = true := by
  unfold Lib.hasSuffix
  rw [ByteArray.data_append, Array.toList_append, List.isSuffixOf_iff_suffix]
  exact List.suffix_append _ _
theorem suffix_self (b : ByteArray) : Lib.hasSuffix b.data.toList b.data.toList = true := by
  unfold Lib.hasSuffix
  rw [List.isSuffixOf_iff_suffix]
  exact List.suffix_refl _
theorem suffix_with (m : Mg) (q : Pc) : Lib.hasSuffix (withD m q).data.toList q.data.data.toList = true := by
  unfold withD
  split
  · exact suffix_self _
  · exact suffix_cat _ _
theorem takes_start (m : Mg) {q : Pc} (h : q.start = true) : takes m q = true := by unfold takes; rw [h]; rfl
theorem withD_start (m : Mg) {q : Pc} (h : q.start = true) : withD m q = q.data := by unfold withD; rw [if_pos h]
theorem nextD_start (m : Mg) {q : Pc} (h : q.start = true) : nextD m q = 0 := by unfold nextD; rw [if_pos h]
theorem join_start {m : Mg} {q : Pc} (hm : m.ok = true) (h : q.start = true) : join Mg.zero q = join m q := by
  unfold join
  rw [hm, zero_ok, takes_start m h, takes_start Mg.zero h, withD_start m h, withD_start Mg.zero h, nextD_start m h, nextD_start Mg.zero h]
/-- What a joining of an arbitrary piece says. -/
theorem join_sound {m : Mg} {q : Pc} (hm : m.ok = true) (hq : q.ok = true) : (join m q).2.2 = 0 ∧
    ((join m q).2.1 = ⟨#[]⟩ ∨ (goodB 0 (join m q).2.1 = true ∧ 64 ≤ (join m q).2.1.size ∧ (join m q).2.1.size ≤ 1522 ∧ Lib.hasSuffix (join m q).2.1.data.toList q.data.data.toList = true)) := by
  cases h3 : takes m q with
  | false => rw [join_off hm hq h3]; exact ⟨rfl, .inl rfl⟩
  | true =>
  by_cases h4 : (withD m q).size ≤ 1522
  · cases h5 : goodB 0 (withD m q) with
    | true => rw [join_good hm hq h3 h4 h5]; exact ⟨rfl, .inr ⟨h5, withD_size hq, h4, suffix_with m q⟩⟩
    | false =>
    cases h6 : goodB Crcm.marking (withD m q) with
    | false => rw [join_none hm hq h3 h4 h5 h6]; exact ⟨rfl, .inl rfl⟩
    | true => rw [join_marked hm hq h3 h4 h5 h6]; exact ⟨rfl, .inl rfl⟩
  · rw [join_long hm hq h3 (by omega)]; exact ⟨rfl, .inl rfl⟩
end Go.Proofs.Ytppdfnghojcppaa
