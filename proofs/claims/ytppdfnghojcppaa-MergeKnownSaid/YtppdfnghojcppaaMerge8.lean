/-
  Contract of merge.Cut.
-/
import Derived.Test.YtppdfnghojcppaaMerge7
namespace Go.Proofs.Ytppdfnghojcppaa
open Go.RowKit Go.Sort
set_option linter.unusedVariables false

attribute [local go_sem] Oper.semAt_some

/-- What a round of Cut's loop keeps: all that lay ahead of the call, and the iterator's three boxes. -/
structure Kc (B0 B1 : Nat) (A B : World) : Prop where
  bel : Below B0 A B
  box : ∀ k, B1 ≤ k → k < B1 + 3 → k < A.heap.size → B.heap[k]? = A.heap[k]?
theorem Kc.trans {B0 B1 : Nat} {A B C : World} (h : Kc B0 B1 A B) (k : Kc B0 B1 B C) : Kc B0 B1 A C :=
  ⟨h.bel.trans k.bel, fun j h1 h2 h3 => (k.box j h1 h2 (Nat.lt_of_lt_of_le h3 h.bel.size)).trans (h.box j h1 h2 h3)⟩
theorem kc_put {B0 B1 : Nat} {w : World} (h0 : B0 ≤ w.heap.size) (h1 : B1 + 3 ≤ w.heap.size) (W : World) (l : Nat) (o o' : Obj) (hl : w.heap.size ≤ l) (h : W.heap[l]? = some o) (hc : o.isCells = false) (hw : o.isWalk = false) : Kc B0 B1 W (W.putObj l o') :=
  ⟨belowK_b h0 W l o o' hl h hc hw, fun k _ hk _ => World.putObj_heap_other (by omega)⟩
theorem Kc.pin {B0 B1 : Nat} {s : ByteArray} {n : Int} {p : Option Addr} {cap : Nat} {cuts : List Int} {A B : World} (hp : PIn B0 s n p cap cuts B1 (B1 + 1) (B1 + 1 + 1) A) (h : Kc B0 B1 A B) : PIn B0 s n p cap cuts B1 (B1 + 1) (B1 + 1 + 1) B :=
  ⟨(World.cell?_of_block (h.box B1 (by omega) (by omega) hp.ls)).trans hp.cs, (World.cell?_of_block (h.box (B1 + 1) (by omega) (by omega) hp.ln)).trans hp.cn, (World.cell?_of_block (h.box (B1 + 1 + 1) (by omega) (by omega) hp.lc)).trans hp.cc,
   Nat.lt_of_lt_of_le hp.ls h.bel.size, Nat.lt_of_lt_of_le hp.ln h.bel.size, Nat.lt_of_lt_of_le hp.lc h.bel.size, Nat.le_trans hp.l0 h.bel.size, hp.it.keep h.bel⟩

/-- The block of a round's piece. -/
def PBox (W : World) (B : Nat) (x : Pc) : Prop := W.heap[B]? = some (.cells #[.bool x.start, .int .i64 x.number, .int .i64 x.count, .string x.data] 45 (0, 0))
theorem PBox.lt {W : World} {B : Nat} {x : Pc} (h : PBox W B x) : B < W.heap.size := (Array.getElem?_eq_some_iff.1 h).1
theorem PBox.new (W : World) (x : Pc) : PBox (W.alloc (.cells #[.bool x.start, .int .i64 x.number, .int .i64 x.count, .string x.data] 45)) W.heap.size x := World.alloc_heap_new W _
theorem PBox.cells {W : World} {B : Nat} {x : Pc} (h : PBox W B x) : PcAt W B x :=
  ⟨by simp [World.cell?, show W.heap[B]? = _ from h], by simp [World.cell?, show W.heap[B]? = _ from h], by simp [World.cell?, show W.heap[B]? = _ from h], by simp [World.cell?, show W.heap[B]? = _ from h]⟩
theorem pbox_own (B B' : Nat) (x : Pc) : OwnFrom B' (fun (_ : Unit) W => PBox W B x) := fun _ X Y row hs hg hr => by
  refine (hg.block B hs.lt (fun e => ?_)).trans hs
  obtain ⟨_, o, ho, hc⟩ := hr B e.symm
  rw [show X.heap[B]? = _ from hs] at ho; cases ho; cases hc

/-- Behind the append of a round: the law's two words turned into what the loop asks. -/
theorem app_box {W w1 : World} {n₀ B : Nat} {v : Value} {k : Nat} {xs : List Value} {tmp : Obj}
    (hv : Boxed W B 35 v) (hrow : W.ownsRow n₀ 45 4 v k xs) (hgrow : (W.alloc tmp).grownBy w1 v.ownBlock) : Boxed w1 B 35 v :=
  (hv.alloc tmp).kept hgrow (hv.not_row (by decide) hrow)
theorem app_set {w1 : World} {n₀ B : Nat} {v v' : Value} {m : Nat} {ys : List Value} (hv1 : Boxed w1 B 35 v) (hown' : w1.ownsRow n₀ 45 4 v' m ys) :
    Boxed (w1.setCell ⟨B, 0, none⟩ v') B 35 v' ∧ (w1.setCell ⟨B, 0, none⟩ v').ownsRow n₀ 45 4 v' m ys :=
  ⟨hv1.set v', hown'.kept (grownBy_setCell' w1 B v') (.inr (hv1.not_row (by decide) hown').symm)⟩
theorem app_others {W w1 : World} {n₀ : Nat} {v : Value} {k : Nat} {xs : List Value} {tmp : Obj} (hrow : W.ownsRow n₀ 45 4 v k xs) (hgrow : (W.alloc tmp).grownBy w1 v.ownBlock) : KeepsOthers W w1 := by
  refine (KeepsOthers.alloc W tmp).trans (KeepsOthers.of_grownBy hgrow fun j o ej hj => ?_)
  rcases (hrow.alloc tmp).2 with ⟨rfl, _⟩ | ⟨g, cap, cur, rfl, _, hgb, _⟩
  · simp [Value.ownBlock] at ej
  · obtain rfl : g = j := by simpa [Value.ownBlock] using ej
    rw [hgb] at hj; cases hj; rfl

theorem pieces_stops (m : Nat) (hm : 1 ≤ m) (B0 B1 : Nat) (s : ByteArray) (n : Int) (p : Option Addr) (cap : Nat) (cuts : List Int) (hs : 64 ≤ s.size ∧ s.size ≤ 1522) (hC : cutsOk s.size 0 cuts = true) (w : World)
    (hP : PIn B0 s n p cap cuts B1 (B1 + 1) (B1 + 1 + 1) w) :
    SeqStopsK Fence.wide m Try.prog 62 #[.pointer (some ⟨B1 + 1 + 1, 0, none⟩), .pointer (some ⟨B1 + 1, 0, none⟩), .pointer (some ⟨B1, 0, none⟩)] (fun x : Pc => #[.agg #[.bool x.start, .int .i64 x.number, .int .i64 x.count, .string x.data]]) (Kc B0 B1) (fun ys => ys = pieces s n cuts) (fun pre => pre <+: pieces s n cuts) (cuts.length + 1) w :=
  fun l J Jx W hW hJ _ hY h0 => pieces1_in m hm B0 l B1 (B1 + 1) (B1 + 1 + 1) s n p cap cuts hs hC (Kc B0 B1) (fun _ _ h k => k.pin h) J Jx W hJ hY (hP.keep hW) h0

theorem MCut_form (s : ByteArray) (hs : s.size ≤ 9000000000000000000) (n : Int) (p : Option Addr) (cap : Nat) (cuts : List Int) (w : World) (h : whole s = false) :
    Calls Try.prog 13 #[.string s, .int .i64 n, .slice p cuts.length cap] w (CRet s n cuts w) := by
  have C1 := Lib.hid (long_any s 64 1522 hs)
  have C2 := Lib.hid (Good_any s hs)
  have HE := Lib.hid (cutE_form (n := n) (cuts := cuts) h)
  unfold whole at h
  refine (callsIn_wide (n := 3)).1 ?_
  refine callsIn_of_wp_marks Try.func13 rfl trivial ?_ rfl
  simp only [Try.ntmps13, List.size_toArray, List.length_cons, List.length_nil, Nat.reduceAdd, Nat.reduceSub, Array.replicate_succ, Array.replicate_zero, List.push_toArray, List.append_toArray, List.nil_append, List.cons_append]
  refine wpIn_wide.2 ?_
  cases hl : lng s 64 1522 with
  | false =>
    rw [hl] at C1
    clear h hl
    go_wp2_with (fail)
    refine (C1.out _).mono ?_
    rintro e w1 ⟨rfl, rfl⟩
    go_wp2_with (fail)
    exact ⟨_, results_tmp2 (t := 6) (u := 7) rfl _ _ _, cret_bad HE.out (by decide) (Below.refl _ _)⟩
  | true =>
    rw [hl] at C1 h
    rw [Bool.true_and] at h
    rw [h] at C2
    clear h hl
    go_wp2_with (fail)
    refine (C1.out _).mono ?_
    rintro e w1 ⟨rfl, rfl⟩
    go_wp2_with (fail)
    refine (C2.out _).mono ?_
    rintro e w2 ⟨rfl, g2⟩
    go_wp2_with (fail)
    exact ⟨_, results_tmp2 (t := 6) (u := 7) rfl _ _ _, cret_bad HE.out (by decide) g2⟩

theorem whole_two {s : ByteArray} (h : whole s = true) : lng s 64 1522 = true ∧ goodB 0 s = true := by
  unfold whole at h
  rwa [Bool.and_eq_true] at h
theorem MCut_arg (s : ByteArray) (n : Int) (p : Option Addr) (cap : Nat) (cuts : List Int) (w : World) (h : whole s = true) (h2 : cnt n = false) :
    Calls Try.prog 13 #[.string s, .int .i64 n, .slice p cuts.length cap] w (CRet s n cuts w) := by
  have hs := whole_size h
  have C1 := Lib.hid (long_any s 64 1522 (by omega))
  have C2 := Lib.hid (Good_any s (by omega))
  have C3 := Lib.hid (counted_any n)
  have HE := Lib.hid (cutE_arg (cuts := cuts) h h2)
  rw [(whole_two h).1] at C1
  rw [(whole_two h).2] at C2
  rw [h2] at C3
  clear h h2
  refine (callsIn_wide (n := 3)).1 ?_
  refine callsIn_of_wp_marks Try.func13 rfl trivial ?_ rfl
  simp only [Try.ntmps13, List.size_toArray, List.length_cons, List.length_nil, Nat.reduceAdd, Nat.reduceSub, Array.replicate_succ, Array.replicate_zero, List.push_toArray, List.append_toArray, List.nil_append, List.cons_append]
  refine wpIn_wide.2 ?_
  go_wp2_with (fail)
  refine (C1.out _).mono ?_
  rintro e w1 ⟨rfl, rfl⟩
  go_wp2_with (fail)
  refine (C2.out _).mono ?_
  rintro e w2 ⟨rfl, g2⟩
  go_wp2_with (fail)
  refine (C3.out _).mono ?_
  rintro e w3 ⟨rfl, rfl⟩
  go_wp2_with (fail)
  exact ⟨_, results_tmp2 (t := 6) (u := 7) rfl _ _ _, cret_bad HE.out (by decide) g2⟩

theorem MCut_cuts (s : ByteArray) (n : Int) (p : Option Addr) (cap : Nat) (cuts : List Int) (w : World) (hl : cuts.length ≤ 9000000000000000000) (hp : Ints w .i64 p cuts) (h : whole s = true) (h2 : cnt n = true) (h3 : cutsOk s.size 0 cuts = false) :
    Calls Try.prog 13 #[.string s, .int .i64 n, .slice p cuts.length cap] w (CRet s n cuts w) := by
  have hs := whole_size h
  have C1 := Lib.hid (long_any s 64 1522 (by omega))
  have C2 := Lib.hid (Good_any s (by omega))
  have C3 := Lib.hid (counted_any n)
  have HE := Lib.hid (cutE_cuts h h2 h3)
  rw [(whole_two h).1] at C1
  rw [(whole_two h).2] at C2
  rw [h2] at C3
  clear h h2
  refine (callsIn_wide (n := 3)).1 ?_
  refine callsIn_of_wp_marks Try.func13 rfl trivial ?_ rfl
  simp only [Try.ntmps13, List.size_toArray, List.length_cons, List.length_nil, Nat.reduceAdd, Nat.reduceSub, Array.replicate_succ, Array.replicate_zero, List.push_toArray, List.append_toArray, List.nil_append, List.cons_append]
  refine wpIn_wide.2 ?_
  go_wp2_with (fail)
  refine (C1.out _).mono ?_
  rintro e w1 ⟨rfl, rfl⟩
  go_wp2_with (fail)
  refine (C2.out _).mono ?_
  rintro e w2 ⟨rfl, g2⟩
  go_wp2_with (fail)
  refine (C3.out _).mono ?_
  rintro e w3 ⟨rfl, rfl⟩
  have C4 := Lib.hid (checkCuts_any s (by omega) p cap cuts w2 hl (hp.keep g2))
  rw [h3] at C4
  unfold cutC at C4
  rw [if_neg (by decide)] at C4
  go_wp2_with (fail)
  refine C4.out.mono ?_
  rintro e w4 ⟨rfl, rfl⟩
  go_wp2_with (fail)
  exact ⟨_, results_tmp2 (t := 6) (u := 7) rfl _ _ _, cret_bad HE.out (by decide) g2⟩

set_option maxRecDepth 100000 in
set_option maxHeartbeats 2000000 in
theorem MCut_ok (s : ByteArray) (n : Int) (p : Option Addr) (cap : Nat) (cuts : List Int) (w : World) (hp : Ints w .i64 p cuts) (h : whole s = true) (h2 : cnt n = true) (h3 : cutsOk s.size 0 cuts = true) :
    Calls Try.prog 13 #[.string s, .int .i64 n, .slice p cuts.length cap] w (CRet s n cuts w) := by
  have hs := whole_size h
  have hl := cuts_few h3 hs.2
  have C1 := Lib.hid (long_any s 64 1522 (by omega))
  have C2 := Lib.hid (Good_any s (by omega))
  have C3 := Lib.hid (counted_any n)
  have HE := Lib.hid (cutE_ok h h2 h3)
  rw [(whole_two h).1] at C1
  rw [(whole_two h).2] at C2
  rw [h2] at C3
  have HC := Lib.hid h3
  clear h h2
  refine (callsIn_wide (n := 3)).1 ?_
  refine callsIn_of_wp_marks Try.func13 rfl trivial ?_ rfl
  simp only [Try.ntmps13, List.size_toArray, List.length_cons, List.length_nil, Nat.reduceAdd, Nat.reduceSub, Array.replicate_succ, Array.replicate_zero, List.push_toArray, List.append_toArray, List.nil_append, List.cons_append]
  refine wpIn_wide.2 ?_
  go_wp2_with (fail)
  refine (C1.out _).mono ?_
  rintro e w1 ⟨rfl, rfl⟩
  go_wp2_with (fail)
  refine (C2.out _).mono ?_
  rintro e w2 ⟨rfl, g2⟩
  go_wp2_with (fail)
  refine (C3.out _).mono ?_
  rintro e w3 ⟨rfl, rfl⟩
  have C4 := Lib.hid (checkCuts_any s (by omega) p cap cuts w2 (by omega) (hp.keep g2))
  rw [h3] at C4
  unfold cutC at C4
  rw [if_pos rfl] at C4
  have HP := Lib.hid hp
  clear h3 hp C1 C2 C3
  go_wp2_with (fail)
  refine C4.out.mono ?_
  rintro e w4 ⟨rfl, rfl⟩
  clear C4
  have C5 := Lib.hid (pieces_any s n p cuts.length cap)
  go_wp2_with (fail)
  refine (C5.out _).mono ?_
  rintro e w5 ⟨rfl, hw5⟩
  clear C5
  have hz1 : (w2.alloc (.cells #[.slice none 0 0] 35)).heap.size = w2.heap.size + 1 := by simp
  rw [hz1]
  have bL := (((Boxed.new w2 35 (.slice none 0 0)).alloc (.cells #[.string s] 9)).alloc (.cells #[.int .i64 n] 3)).alloc (.cells #[.slice p cuts.length cap] 26)
  have bB : Below w2.heap.size w2 w5 := by rw [hw5]; exact (((Below.refl _ w2).alloc (Nat.le_refl _) _).alloc (by simp) _).alloc (by simp; omega) _ |>.alloc (by simp; omega) _
  have hz5 : w5.heap.size = w2.heap.size + 4 := by rw [hw5]; simp
  have hPi : PIn w.heap.size s n p cap cuts (w2.heap.size + 1) (w2.heap.size + 1 + 1) (w2.heap.size + 1 + 1 + 1) w5 := by
    have hlow := HP.out.low.keep (g2.trans (bB.mono g2.size))
    have hsz := g2.size
    rw [hw5] at hlow ⊢
    have tc := three_cells (w2.alloc (.cells #[.slice none 0 0] 35)) #[.string s] #[.int .i64 n] #[.slice p cuts.length cap] 9 3 26 0
    rw [hz1] at tc
    exact ⟨tc.1, tc.2.1, tc.2.2.1, by simp, by simp, by simp, by simp; omega, hlow⟩
  rw [← hw5] at bL
  have hB5 := g2.trans (bB.mono g2.size)
  have hg2 := g2.size
  clear hw5 hz1
  go_wp2_with (fail)
  refine (wpIn_wide (n := 3)).1 ?_
  refine wpIn_rangeFunc_ownH (F := Fence.wide) (n := 3) rfl (by omega) (gf := 62) (lb := #[.pointer (some ⟨w2.heap.size + 1 + 1 + 1, 0, none⟩), .pointer (some ⟨w2.heap.size + 1 + 1, 0, none⟩), .pointer (some ⟨w2.heap.size + 1, 0, none⟩)]) rfl trivial (enters_of Try.func62 (by kernel_rfl) rfl)
    (pieces_stops (3 - 1) (by omega) w.heap.size (w2.heap.size + 1) s n p cap cuts hs HC.out w5 hPi) (fun h k => h.trans k) (kc_put (by omega) (by omega)) (Below.refl _ _) (fun _ => rfl)
    (fun pre W => (∃ v, Boxed W w2.heap.size 35 v ∧ Rw W w5.heap.size v pre ∧ True) ∧ Below w.heap.size w W)
    (fun _ _ _ => False)
    (OwnFrom.and (Own.from (holdsRow_own w5.heap.size w2.heap.size 35 45 4 (fun pre : List Pc => pre.length) flat (fun _ _ => True)) _) (ownFrom_below (Nat.le_refl _) (by omega)))
    (fun _ _ _ _ _ hs _ _ => hs)
    ⟨⟨_, bL, Rw.nil _ _, trivial⟩, hB5⟩
    (fun x a' W => ∃ Bx, w2.heap.size < Bx ∧ PBox W Bx x ∧ a' = { tmps := #[.string s, .int .i64 n, .slice p cuts.length cap, undef, undef, undef, .slice none 0 0, .int .i64 0, .int .i64 0, .pointer (some ⟨w2.heap.size, 0, none⟩), .pointer (some ⟨Bx, 0, none⟩), .string s, .bool true, .bool false, .bool false, .string s, .bool true, .bool false, .bool false, .int .i64 n, .bool true, .bool false, .string s, .slice p cuts.length cap, .int .i64 0, .int .i64 0, .bool false, undef, .string s, .int .i64 n, .slice p cuts.length cap, .func (.func 62) #[] #[.pointer (some ⟨w2.heap.size + 1 + 1 + 1, 0, none⟩), .pointer (some ⟨w2.heap.size + 1 + 1, 0, none⟩), .pointer (some ⟨w2.heap.size + 1, 0, none⟩)], .agg #[.bool x.start, .int .i64 x.number, .int .i64 x.count, .string x.data], undef, undef, undef, undef, undef], defers := [] })
    (fun x a' _ X Y row hs hg hr => by obtain ⟨Bx, h1, h2, h3⟩ := hs; exact ⟨Bx, h1, pbox_own Bx _ x () X Y row h2 hg hr, h3⟩)
    ?assign ?body ?done ?stop
  case assign =>
    rintro l pre x W K ⟨⟨v, hv, hrow, _⟩, hB1⟩ hK
    gi_wp2
    exact hK _ _ ((KeepsOthers.alloc _ _).from _) ⟨(Below.refl _ W).alloc hB1.size _, fun k _ _ hk => Below.heap_alloc W _ k hk⟩ ⟨⟨v, hv.alloc _, hrow.alloc _, trivial⟩, hB1.alloc hB1.size _⟩ ⟨W.heap.size, hv.lt, PBox.new W x, rfl⟩
  case body =>
    rintro l pre x a' W hl ⟨r, hr⟩ ⟨⟨v, hv, hrow, _⟩, hB1⟩ ⟨Bx, hBx, bX, rfl⟩ hlt
    have hc := hv.cell
    have hcx := bX.cells
    have x0 := hcx.c0
    have x1 := hcx.c1
    have x2 := hcx.c2
    have x3 := hcx.c3
    clear hcx
    have hWz : w5.heap.size ≤ W.heap.size := by have := (Array.getElem?_eq_some_iff.1 hr).1; omega
    obtain ⟨i0, hi, hz0, hz1, hz2⟩ := info_parts infoPc
    have HI := Lib.hid hi
    have HZ := Lib.hid hz0
    have HZ1 := Lib.hid hz1
    have HZ2 := Lib.hid hz2
    clear hi hz0 hz1 hz2
    gi_wp2_with (gi_at_builtin; refine wpListIn_append_own _ rfl _ _ 35 rfl w5.heap.size 45 i0 (.agg #[.bool false, .int .i64 0, .int .i64 0, .string ⟨#[]⟩]) 4 40 Try.underlying35 HI.out HZ.out HZ1.out HZ2.out rfl (by decide) _ _ _ rfl (hrow.alloc _) ⟨W.heap.size, 0, none⟩ 1 1 (flat [x]) rfl rfl (four_new W x) (flat_plain [x]) (by unfold maxLen; omega) (by omega) (by simp; omega) ?_; intro v' w6 hown' hgrow hnil; obtain ⟨g', cap', rfl⟩ := ownsRow_succ hown'; have hv1 := app_box hv hrow hgrow; have hc1 := hv1.cell; have hf1 := hv1.frozen)
    have hb6 : Below w5.heap.size W w6 := Rw.added hrow hWz hgrow
    have hko := app_others hrow hgrow
    have hrs : Rw w6 w5.heap.size (.slice (some ⟨g', 0, none⟩) (pre.length + 1) cap') (pre ++ [x]) := Rw.snoc hrow hown'
    have hset := app_set hv1 hrs
    clear hown' hgrow hnil hc hc1 hf1 x0 x1 x2 x3
    have hlow : w.heap.size ≤ w2.heap.size := hg2
    have hb7 := (hb6.mono (show w.heap.size ≤ w5.heap.size by omega)).setCell (p := ⟨w2.heap.size, 0, none⟩) hlow (.slice (some ⟨g', 0, none⟩) (pre.length + 1) cap')
    refine ⟨(hko.trans (KeepsOthers.setCell _ _ _)).from _, ⟨hb7, fun k h1 h2 _ => (Below.heap_setCell _ _ _ k (by show k ≠ w2.heap.size; omega)).trans (hb6.block k (by omega))⟩, ⟨_, hset.1, hset.2, trivial⟩, hB1.trans hb7⟩
  case done =>
    rintro D ys W hD rfl ⟨⟨v, hv, hrow, _⟩, hB1⟩ hK
    have hc := hv.cell
    gi_wp2
    go_wp2_with (fail)
    refine ⟨by simp, .inl ⟨_, _, rfl, run_takeDeferred hK, ?_⟩⟩
    exact ⟨_, results_tmp2 (t := 6) (u := 7) rfl _ _ _, cret_ok HE.out (Rw.lower (ownsRow_putObj hrow _ hK rfl) (by omega)) (hB1.trans (belowK_b (w := w) (Nat.le_refl _) W D _ _ (by omega) hK rfl rfl))⟩
  case stop =>
    rintro D c pre W _ _ h _
    exact h.elim

theorem MCut_any (s : ByteArray) (hs : s.size ≤ 9000000000000000000) (n : Int) (p : Option Addr) (cap : Nat) (cuts : List Int) (w : World) (hl : cuts.length ≤ 9000000000000000000) (hp : Ints w .i64 p cuts) :
    Calls Try.prog 13 #[.string s, .int .i64 n, .slice p cuts.length cap] w (CRet s n cuts w) := by
  cases h : whole s with
  | false => exact MCut_form s hs n p cap cuts w h
  | true =>
  cases h2 : cnt n with
  | false => exact MCut_arg s n p cap cuts w h h2
  | true =>
  cases h3 : cutsOk s.size 0 cuts with
  | false => exact MCut_cuts s n p cap cuts w hl hp h h2 h3
  | true => exact MCut_ok s n p cap cuts w hp h h2 h3
end Go.Proofs.Ytppdfnghojcppaa
