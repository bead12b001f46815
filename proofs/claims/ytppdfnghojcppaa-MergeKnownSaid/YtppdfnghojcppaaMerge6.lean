/-
  Rows of pieces in memory; contract of the reference's Cut.
-/
import Derived.Test.YtppdfnghojcppaaMerge4
import Derived.Laws.AppendOwn
import Derived.Laws.OwnMore
import Derived.Maps.AppendAt
namespace Go.Proofs.Ytppdfnghojcppaa
open Go.RowKit Go.Sort
set_option linter.unusedVariables false

/-- The cells of a row of pieces. -/
def flat : List Pc → List Value
  | [] => []
  | p :: l => .bool p.start :: .int .i64 p.number :: .int .i64 p.count :: .string p.data :: flat l
theorem flat_length : ∀ l : List Pc, (flat l).length = l.length * 4
  | [] => rfl
  | p :: l => by simp only [flat, List.length_cons, flat_length l]; omega
theorem flat_append : ∀ a b : List Pc, flat (a ++ b) = flat a ++ flat b
  | [], b => rfl
  | p :: a, b => by simp only [List.cons_append, flat, flat_append a b]
theorem flat_at : ∀ (l : List Pc) (j : Nat), j < l.length → (flat l)[4 * j]? = some (.bool (l.getD j Pc.zero).start) ∧ (flat l)[4 * j + 1]? = some (.int .i64 (l.getD j Pc.zero).number) ∧
    (flat l)[4 * j + 2]? = some (.int .i64 (l.getD j Pc.zero).count) ∧ (flat l)[4 * j + 3]? = some (.string (l.getD j Pc.zero).data)
  | [], j, h => by cases h
  | p :: l, 0, h => ⟨rfl, rfl, rfl, rfl⟩
  | p :: l, j + 1, h => by
    have ih := flat_at l j (by simpa using h)
    have h4 : 4 * (j + 1) = 4 * j + 1 + 1 + 1 + 1 := by omega
    rw [h4]
    exact ih
theorem flat_plain : ∀ (l : List Pc) (u : Value), u ∈ flat l → u.oneCell' = true
  | [], u, h => by cases h
  | p :: l, u, h => by
    rw [flat] at h
    simp only [List.mem_cons] at h
    rcases h with rfl | rfl | rfl | rfl | h
    · rfl
    · rfl
    · rfl
    · rfl
    · exact flat_plain l u h

/-- The value v is a slice of its own (from block B on) of these pieces. -/
def Rw (W : World) (B : Nat) (v : Value) (l : List Pc) : Prop := W.ownsRow B 45 4 v l.length (flat l)
theorem Rw.nil (W : World) (B : Nat) : Rw W B (.slice none 0 0) [] := World.ownsRow_nil _ _ _ _
theorem Rw.keep {W W' : World} {B : Nat} {v : Value} {l : List Pc} (h : Rw W B v l) (hb : Below W.heap.size W W') : Rw W' B v l := by
  refine ⟨h.1, ?_⟩
  rcases h.2 with hn | ⟨g, cap, cur, hv, hB, hg, rest⟩
  · exact .inl hn
  · exact .inr ⟨g, cap, cur, hv, hB, (hb.block g (Array.getElem?_eq_some_iff.1 hg).1).trans hg, rest⟩
theorem Rw.slice {W : World} {B : Nat} {v : Value} {l : List Pc} (h : Rw W B v l) : ∃ p cap, v = .slice p l.length cap := by
  rcases h.2 with ⟨hv, hn⟩ | ⟨g, cap, cur, hv, _⟩
  · exact ⟨none, 0, by rw [hv, hn]⟩
  · exact ⟨_, _, hv⟩
theorem Rw.lower {W : World} {B B' : Nat} {v : Value} {l : List Pc} (h : Rw W B v l) (hb : B' ≤ B) : Rw W B' v l := by
  refine ⟨h.1, ?_⟩
  rcases h.2 with hn | ⟨g, cap, cur, hv, hB, rest⟩
  · exact .inl hn
  · exact .inr ⟨g, cap, cur, hv, by omega, rest⟩
/-- A piece somewhere in a block. -/
structure PcO (W : World) (B o : Nat) (p : Pc) : Prop where
  c0 : W.cell? ⟨B, o, none⟩ = some (.bool p.start)
  c1 : W.cell? ⟨B, o + 1, none⟩ = some (.int .i64 p.number)
  c2 : W.cell? ⟨B, o + 2, none⟩ = some (.int .i64 p.count)
  c3 : W.cell? ⟨B, o + 3, none⟩ = some (.string p.data)
theorem Rw.at {W : World} {B : Nat} {v : Value} {l : List Pc} (h : Rw W B v l) {j : Nat} (hj : j < l.length) :
    ∃ g cap, v = .slice (some ⟨g, 0, none⟩) l.length cap ∧ B ≤ g ∧ g < W.heap.size ∧ PcO W g (4 * j) (l.getD j Pc.zero) := by
  have h' := h
  rcases h.2 with ⟨_, hn⟩ | ⟨g, cap, cur, rfl, hB, hg, hn, hc, hs, ht⟩
  · omega
  · obtain ⟨a0, a1, a2, a3⟩ := flat_at l j hj
    have hc := fun i (hi : i < l.length * 4) => h'.cellAt i hi
    exact ⟨g, cap, rfl, hB, (Array.getElem?_eq_some_iff.1 hg).1, (hc _ (by omega)).trans a0, (hc _ (by omega)).trans a1, (hc _ (by omega)).trans a2, (hc _ (by omega)).trans a3⟩

/-- A piece under way: in the block that was new in W0. -/
structure Pw (W0 W : World) (p : Pc) : Prop where
  pc : PcAt W W0.heap.size p
  fz : ∀ j, W.frozen? ⟨W0.heap.size, j, none⟩ = false
  big : W0.heap.size < W.heap.size
  bel : Below W0.heap.size W0 W
theorem Pw.keep {W0 W W' : World} {p : Pc} (h : Pw W0 W p) (hb : Below W.heap.size W W') : Pw W0 W' p :=
  ⟨h.pc.keep hb h.big, fun j => by rw [hb.frozen h.big]; exact h.fz j, Nat.lt_of_lt_of_le h.big hb.size, h.bel.trans (hb.mono (by have := h.big; omega))⟩
theorem pw_first (W : World) (p : Pc) : Pw W (W.alloc (.cells #[.bool p.start, .int .i64 p.number, .int .i64 p.count, .string p.data] 45)) p :=
  ⟨⟨by rw [World.cell?_alloc_at _ _ _ _ rfl]; rfl, by rw [World.cell?_alloc_at _ _ _ _ rfl]; rfl, by rw [World.cell?_alloc_at _ _ _ _ rfl]; rfl, by rw [World.cell?_alloc_at _ _ _ _ rfl]; rfl⟩,
   fun j => by rw [World.frozen?_alloc_at _ _ _ _ rfl], by simp, (by repeat' (first | exact Below.refl _ _ | assumption | refine below_drewN ?_ _ | refine Below.drew ?_ | refine Below.alloc ?_ (by (first | exact Nat.le_refl _ | assumption | (simp; done) | omega | (simp; omega))) _ | refine Below.setCell ?_ (by (first | exact Nat.le_refl _ | assumption | (simp; done) | omega | (simp; omega))) _ | refine Below.trans ?_ (Below.mono (by assumption) (by (first | exact Nat.le_refl _ | assumption | (simp; done) | omega | (simp; omega))))))⟩
theorem frozen_set (W : World) (B i j : Nat) (v : Value) : (W.setCell ⟨B, i, none⟩ v).frozen? ⟨B, j, none⟩ = W.frozen? ⟨B, j, none⟩ := World.frozen?_setCell _ _ _ _
theorem Pw.count {W0 W : World} {p : Pc} (h : Pw W0 W p) (c : Int) : Pw W0 (W.setCell ⟨W0.heap.size, 2, none⟩ (.int .i64 c)) { p with count := c } :=
  ⟨⟨cell_set 2 _ h.pc.c0, cell_set 2 _ h.pc.c1, cell_set 2 _ h.pc.c2, cell_set 2 _ h.pc.c3⟩, fun j => by rw [World.frozen?_setCell]; exact h.fz j, by have := h.big; simpa using this, h.bel.setCell (Nat.le_refl _) _⟩
theorem Pw.text {W0 W : World} {p : Pc} (h : Pw W0 W p) (d : ByteArray) : Pw W0 (W.setCell ⟨W0.heap.size, 3, none⟩ (.string d)) { p with data := d } :=
  ⟨⟨cell_set 3 _ h.pc.c0, cell_set 3 _ h.pc.c1, cell_set 3 _ h.pc.c2, cell_set 3 _ h.pc.c3⟩, fun j => by rw [World.frozen?_setCell]; exact h.fz j, by have := h.big; simpa using this, h.bel.setCell (Nat.le_refl _) _⟩

/-- Appending one piece: what the law asks, what it leaves. -/
theorem four_new (w : World) (p : Pc) : ∀ j u, (flat [p])[j]? = some u → (w.alloc (.cells #[.bool p.start, .int .i64 p.number, .int .i64 p.count, .string p.data] 45)).cell? ((⟨w.heap.size, 0, none⟩ : Addr).add j) = some u := by
  intro j u hj
  have : (⟨w.heap.size, 0, none⟩ : Addr).add j = ⟨w.heap.size, j, none⟩ := by
    simp only [Addr.add]
    split <;> simp_all
  rw [this, World.cell?_alloc_at _ _ _ _ rfl]
  simpa [flat] using hj
theorem Rw.added {W w1 : World} {B : Nat} {v : Value} {l : List Pc} {tmp : Obj} (h : Rw W B v l) (hB : B ≤ W.heap.size) (hg : (W.alloc tmp).grownBy w1 v.ownBlock) : Below B W w1 := by
  refine ((Below.refl B W).alloc hB tmp).grown hg (by simp; omega) fun j ej => ?_
  rcases h.2 with ⟨rfl, _⟩ | ⟨g, cap, cur, rfl, hb, _, _⟩
  · simp [Value.ownBlock] at ej
  · obtain rfl : g = j := by simpa [Value.ownBlock] using ej
    exact hb

theorem Rw.snoc {W w1 : World} {B : Nat} {v v' : Value} {l : List Pc} {q : Pc} (_h : Rw W B v l) (ho : w1.ownsRow B 45 4 v' (l.length + 1) (flat l ++ flat [q])) : Rw w1 B v' (l ++ [q]) := by
  unfold Rw
  rw [flat_append, List.length_append]
  exact ho
theorem infoPc : (Try.prog.info? 45).map (fun i => (i.zero, i.size, i.bytes)) = some (some (.agg #[.bool false, .int .i64 0, .int .i64 0, .string ⟨#[]⟩]), 4, 40) := by kernel_rfl

/-- Up to piece k. -/
theorem pieces_take_succ (s : ByteArray) (n : Int) (cuts : List Int) (k : Nat) (h : k < cuts.length + 1) : (pieces s n cuts).take (k + 1) = (pieces s n cuts).take k ++ [pieceAt s n cuts k] := by
  rw [List.take_add_one, pieces_at s n cuts k h]
  rfl
theorem pieces_take_all (s : ByteArray) (n : Int) (cuts : List Int) : (pieces s n cuts).take (cuts.length + 1) = pieces s n cuts := List.take_of_length_le (by rw [pieces_length]; omega)

theorem cutsOk_len {n : Nat} : ∀ {cuts : List Int} {last : Int}, cutsOk n last cuts = true → cuts ≠ [] → last + 60 * (cuts.length : Int) ≤ (n : Int) - 64
  | [], _, _, h => absurd rfl h
  | c :: cs, last, h, _ => by
    rw [cutsOk, Bool.and_eq_true, decide_eq_true_iff] at h
    by_cases e : cs = []
    · subst e
      simp only [List.length_cons, List.length_nil]
      omega
    · have := cutsOk_len h.2 e
      simp only [List.length_cons]
      omega
theorem cuts_few {n : Nat} {cuts : List Int} (h : cutsOk n 0 cuts = true) (hn : n ≤ 1522) : cuts.length ≤ 24 := by
  by_cases e : cuts = []
  · rw [e]; simp
  · have := cutsOk_len h e
    omega
theorem whole_size {s : ByteArray} (h : whole s = true) : 64 ≤ s.size ∧ s.size ≤ 1522 := by
  unfold whole at h
  rw [Bool.and_eq_true, lng_iff] at h
  omega

/-- What Cut gives back. -/
def CRet (s : ByteArray) (n : Int) (cuts : List Int) (w : World) (e : Ending) (w' : World) : Prop :=
  ∃ v, e = .returned (.tuple #[v, .int .i64 (cutE s n cuts)]) ∧ Rw w' w.heap.size v (cutL s n cuts) ∧ Below w.heap.size w w'
theorem cret_bad {s : ByteArray} {n : Int} {cuts : List Int} {w w' : World} {c : Int} (h : cutE s n cuts = c) (h0 : c ≠ 0) (hb : Below w.heap.size w w') : CRet s n cuts w (.returned (.tuple #[.slice none 0 0, .int .i64 c])) w' := by
  have hl : cutL s n cuts = [] := by unfold cutL; rw [if_neg (by rw [h]; exact h0)]
  exact ⟨_, by rw [h], by rw [hl]; exact Rw.nil _ _, hb⟩
theorem cret_ok {s : ByteArray} {n : Int} {cuts : List Int} {w w' : World} {v : Value} (h : cutE s n cuts = 0) (hr : Rw w' w.heap.size v (pieces s n cuts)) (hb : Below w.heap.size w w') : CRet s n cuts w (.returned (.tuple #[v, .int .i64 0])) w' := by
  have hl : cutL s n cuts = pieces s n cuts := by unfold cutL; rw [if_pos h]
  exact ⟨v, by rw [h], by rw [hl]; exact hr, hb⟩
theorem cutE_form {s : ByteArray} {n : Int} {cuts : List Int} (h : whole s = false) : cutE s n cuts = 5 := by unfold cutE; rw [if_pos h]
theorem cutE_arg {s : ByteArray} {n : Int} {cuts : List Int} (h : whole s = true) (h2 : cnt n = false) : cutE s n cuts = 2 := by unfold cutE; rw [if_neg (by simp [h]), if_pos h2]
theorem cutE_cuts {s : ByteArray} {n : Int} {cuts : List Int} (h : whole s = true) (h2 : cnt n = true) (h3 : cutsOk s.size 0 cuts = false) : cutE s n cuts = 180 := by
  unfold cutE; rw [if_neg (by simp [h]), if_neg (by simp [h2]), if_pos h3]
theorem cutE_ok {s : ByteArray} {n : Int} {cuts : List Int} (h : whole s = true) (h2 : cnt n = true) (h3 : cutsOk s.size 0 cuts = true) : cutE s n cuts = 0 := by
  unfold cutE; rw [if_neg (by simp [h]), if_neg (by simp [h2]), if_neg (by simp [h3])]

theorem RCut_form (s : ByteArray) (hs : s.size ≤ 9000000000000000000) (n : Int) (p : Option Addr) (cap : Nat) (cuts : List Int) (w : World) (h : whole s = false) :
    Calls Try.prog 14 #[.string s, .int .i64 n, .slice p cuts.length cap] w (CRet s n cuts w) := by
  have C1 := Lib.hid (Whole_any s hs)
  rw [h] at C1
  have HE := Lib.hid (cutE_form (n := n) (cuts := cuts) h)
  go_enter Try.func14, Try.ntmps14
  go_wp2_with (fail)
  refine (C1.out _).mono ?_
  rintro e w1 ⟨rfl, g1⟩
  go_wp2_with (fail)
  go_ret2
  exact cret_bad HE.out (by decide) g1
theorem RCut_arg (s : ByteArray) (hs : s.size ≤ 9000000000000000000) (n : Int) (p : Option Addr) (cap : Nat) (cuts : List Int) (w : World) (h : whole s = true) (h2 : cnt n = false) :
    Calls Try.prog 14 #[.string s, .int .i64 n, .slice p cuts.length cap] w (CRet s n cuts w) := by
  have C1 := Lib.hid (Whole_any s hs)
  rw [h] at C1
  have HE := Lib.hid (cutE_arg (cuts := cuts) h h2)
  have hn : ¬ (0 ≤ n ∧ n ≤ 3) := of_decide_eq_false h2
  by_cases h0 : n < 0
  · go_enter Try.func14, Try.ntmps14
    go_wp2_with (fail)
    refine (C1.out _).mono ?_
    rintro e w1 ⟨rfl, g1⟩
    go_wp2_with (fail)
    go_ret2
    exact cret_bad HE.out (by decide) g1
  · have h1 : 3 < n := by omega
    go_enter Try.func14, Try.ntmps14
    go_wp2_with (fail)
    refine (C1.out _).mono ?_
    rintro e w1 ⟨rfl, g1⟩
    go_wp2_with (fail)
    go_ret2
    exact cret_bad HE.out (by decide) g1
theorem RCut_cuts (s : ByteArray) (hs : s.size ≤ 9000000000000000000) (n : Int) (p : Option Addr) (cap : Nat) (cuts : List Int) (w : World) (hl : cuts.length ≤ 9000000000000000000) (hp : Ints w .i64 p cuts) (h : whole s = true) (h2 : cnt n = true) (h3 : cutsOk s.size 0 cuts = false) :
    Calls Try.prog 14 #[.string s, .int .i64 n, .slice p cuts.length cap] w (CRet s n cuts w) := by
  have C1 := Lib.hid (Whole_any s hs)
  rw [h] at C1
  have HE := Lib.hid (cutE_cuts h h2 h3)
  have hn := (cnt_iff n).1 h2
  go_enter Try.func14, Try.ntmps14
  go_wp2_with (fail)
  refine (C1.out _).mono ?_
  rintro e w1 ⟨rfl, g1⟩
  have C2 := Lib.hid (allowed_any s hs p cap cuts w1 hl (hp.keep g1))
  rw [h3] at C2
  go_wp2_with (fail)
  refine C2.out.mono ?_
  rintro e w2 ⟨rfl, rfl⟩
  go_wp2_with (fail)
  go_ret2
  exact cret_bad HE.out (by decide) g1

def cntAt (k : Nat) : Int := if k = 0 then 0 else ((k : Int) - 1) % 4
theorem cntAt_zero : cntAt 0 = 0 := rfl
theorem cntAt_pos {k : Nat} (h : 0 < k) : cntAt k = ((k : Int) - 1) % 4 := by unfold cntAt; rw [if_neg (by omega)]
theorem pieceAt_mid (s : ByteArray) (n : Int) (cuts : List Int) (k : Nat) (h : k < cuts.length) : pieceAt s n cuts k = ⟨(k : Int) == 0, n, cntAt k, (sealB Crcm.marking (s.extract 0 (cuts.getD k 0).toNat)).extract (lastAt cuts k).toNat ((cuts.getD k 0).toNat + 4)⟩ := by
  have : decide (k = 0) = ((k : Int) == 0) := by rw [Bool.eq_iff_iff, decide_eq_true_iff, beq_iff_eq]; omega
  unfold pieceAt cntAt
  rw [if_pos h, this]
theorem pieceAt_end (s : ByteArray) (n : Int) (cuts : List Int) (k : Nat) (h : ¬ k < cuts.length) : pieceAt s n cuts k = ⟨(k : Int) == 0, n, cntAt k, s.extract (lastAt cuts k).toNat s.size⟩ := by
  have : decide (k = 0) = ((k : Int) == 0) := by rw [Bool.eq_iff_iff, decide_eq_true_iff, beq_iff_eq]; omega
  unfold pieceAt cntAt
  rw [if_neg h, this]
/-- Piece k under way, its text still the rest of the frame; or done. -/
def Half (s : ByteArray) (n : Int) (k : Nat) (L : Int) (W0 W : World) : Prop := Pw W0 W ⟨(k : Int) == 0, n, cntAt k, s.extract L.toNat s.size⟩
def Done (s : ByteArray) (n : Int) (cuts : List Int) (k : Nat) (W0 W : World) : Prop := Pw W0 W (pieceAt s n cuts k)

set_option maxRecDepth 100000 in
set_option maxHeartbeats 1000000 in
theorem RCut_ok (s : ByteArray) (n : Int) (p : Option Addr) (cap : Nat) (cuts : List Int) (w : World) (hp : Ints w .i64 p cuts) (h : whole s = true) (h2 : cnt n = true) (h3 : cutsOk s.size 0 cuts = true) :
    Calls Try.prog 14 #[.string s, .int .i64 n, .slice p cuts.length cap] w (CRet s n cuts w) := by
  have hs := whole_size h
  have C1 := Lib.hid (Whole_any s (by omega))
  rw [h] at C1
  have HE := Lib.hid (cutE_ok h h2 h3)
  have hn := (cnt_iff n).1 h2
  have hl := cuts_few h3 hs.2
  have HC := Lib.hid h3
  go_enter Try.func14, Try.ntmps14
  go_wp2_with (fail)
  refine (C1.out _).mono ?_
  rintro e w1 ⟨rfl, g1⟩
  have C2 := Lib.hid (allowed_any s (by omega) p cap cuts w1 (by omega) (hp.keep g1))
  rw [h3] at C2
  clear h h2 h3
  go_wp2_with (fail)
  refine C2.out.mono ?_
  rintro e w2 ⟨rfl, rfl⟩
  have HP := Lib.hid hp
  clear C1 C2 hp
  go_wp2_with (fail)
  go_loopw [8, 9, 10] (fun v l i wr => ∃ k : Nat, k ≤ cuts.length + 1 ∧ i = .int .i64 k ∧ (k ≤ cuts.length → l = .int .i64 (lastAt cuts k)) ∧ Rw wr w.heap.size v ((pieces s n cuts).take k) ∧ Below w.heap.size w wr) (fun _ _ i _ => cuts.length + 1 - (intOf i).toNat)
  case atStart => exact ⟨0, by omega, rfl, fun _ => rfl, Rw.nil _ _, g1⟩
  case round =>
    obtain ⟨k, hk, rfl, hla, hrow, hB⟩ := hrel
    obtain ⟨i0, hi, hz0, hz1, hz2⟩ := info_parts infoPc
    by_cases hkl : k ≤ cuts.length
    case neg =>
      have hgt : (cuts.length : Int) < (k : Int) := by omega
      obtain rfl : k = cuts.length + 1 := by omega
      clear hla
      rw [pieces_take_all] at hrow
      have HR := Lib.hid hrow
      clear hrow hz0 hz1 hz2 hi
      go_wp2_with (fail)
      go_ret2
      exact cret_ok HE.out HR.out hB
    obtain rfl := hla hkl
    have hL := last_at hs.1 HC.out hkl
    have hL2 := fun h : k < cuts.length => cuts_at HC.out h
    have HM := Lib.hid (fun h => pieceAt_mid s n cuts k h)
    have HN := Lib.hid (fun h => pieceAt_end s n cuts k h)
    have HL := Lib.hid (lastAt_succ cuts k)
    generalize lastAt cuts k = L at hL hL2 HM HN
    have HR := Lib.hid hrow
    clear hla hrow
    have HI := Lib.hid hi
    have HZ := Lib.hid hz0
    have HZ1 := Lib.hid hz1
    have HZ2 := Lib.hid hz2
    clear hi hz0 hz1 hz2
    have HL2 := Lib.hid hL2
    clear hL2
    have hkl' : (k : Int) ≤ (cuts.length : Int) := by omega
    have hL3 : L ≤ (s.size : Int) := by omega
    have hL0 := hL.1
    have P0 := Lib.hid (pw_first wr ⟨(k : Int) == 0, n, 0, s.extract L.toNat s.size⟩)
    go_upto_if 39 with fail
    go_cut [11] (fun s11 wx => s11 = .pointer (some ⟨wr.heap.size, 0, none⟩) ∧ Half s n k L wr wx)
    case first =>
      by_cases hk0 : 0 < k
      · have r0 := P0.out.pc.c2
        have z2 := P0.out.fz 2
        have hi1 : IntKind.i64.wrap ((k : Int) - 1) = (k : Int) - 1 := IntWalk.i64_in _ (by omega)
        have ht : ((k : Int) - 1).tmod 4 = ((k : Int) - 1) % 4 := Int.tmod_eq_emod_of_nonneg (by omega)
        have hQ := Lib.hid (P0.out.count (((k : Int) - 1) % 4))
        obtain ⟨W1, hW1⟩ : ∃ W, wr.alloc (.cells #[.bool (⟨(k : Int) == 0, n, 0, s.extract L.toNat s.size⟩ : Pc).start, .int .i64 (⟨(k : Int) == 0, n, 0, s.extract L.toNat s.size⟩ : Pc).number, .int .i64 (⟨(k : Int) == 0, n, 0, s.extract L.toNat s.size⟩ : Pc).count, .string (⟨(k : Int) == 0, n, 0, s.extract L.toNat s.size⟩ : Pc).data] 45) = W := ⟨_, rfl⟩
        rw [hW1] at hQ r0 z2
        dsimp only at hW1
        rw [hW1]
        clear P0
        go_wp2_with (fail)
        go_meet
        refine ⟨rfl, ?_⟩
        unfold Half
        rw [cntAt_pos hk0]
        exact hQ.out
      · obtain rfl : k = 0 := by omega
        go_wp2_with (fail)
        go_meet
        exact ⟨rfl, P0.out⟩
    case rest =>
    obtain ⟨rfl, hcut⟩ := hcut
    have P1 := Lib.hid hcut
    clear hcut P0
    go_upto_if 47 with fail
    go_cut [9] (fun s9 wx => (k < cuts.length → s9 = .int .i64 (lastAt cuts (k + 1))) ∧ Done s n cuts k wr wx)
    case first =>
      by_cases hkl2 : k < cuts.length
      case neg =>
        go_wp2_with (fail)
        go_meet
        exact ⟨fun h => absurd h hkl2, by unfold Done; rw [HN.out hkl2]; exact P1.out⟩
      have hx := HL2.out hkl2
      have hm := HM.out hkl2
      have hat := HP.out.at hkl2
      generalize cuts.getD k 0 = x at hx hm hat HL
      obtain ⟨M, hM⟩ : ∃ M, sealB Crcm.marking (s.extract 0 x.toNat) = M := ⟨_, rfl⟩
      have hMs : M.size = x.toNat + 4 := by rw [← hM, sealB_size, ByteArray.size_extract]; omega
      have CM := Lib.hid (RMark_any (s.extract 0 x.toNat) (by rw [ByteArray.size_extract]; omega))
      rw [hM] at CM hm
      have HMM := Lib.hid hm
      clear hm hM HM HN HL2
      obtain ⟨b, o, rfl, hb, hc0⟩ := hat
      have hc := ((hB.trans (P1.out.bel.mono hB.size)).cell (p := ⟨b, o + k, none⟩) hb).trans hc0
      have hx0 : 0 ≤ x := by omega
      have hx1 : x ≤ (s.size : Int) := by omega
      go_wp2_with (fail)
      refine (CM.out _).mono ?_
      rintro e w3 ⟨rfl, g3⟩
      have P2 := Lib.hid (P1.out.keep g3)
      have r3 := P2.out.pc.c3
      have z3 := P2.out.fz 3
      have hLM : L ≤ (M.size : Int) := by omega
      clear P1 CM hc
      go_upto_region 17 with fail
      have P3 := Lib.hid (P2.out.text (M.extract L.toNat (x.toNat + 4)))
      clear r3 z3 P2
      generalize w3.setCell ⟨wr.heap.size, 3, none⟩ (.string (M.extract L.toNat (x.toNat + 4))) = w4 at *
      have hc := ((hB.trans (P3.out.bel.mono hB.size)).cell (p := ⟨b, o + k, none⟩) hb).trans hc0
      go_wp2_with (fail)
      go_meet
      exact ⟨fun _ => by rw [HL.out], by unfold Done; rw [HMM.out]; exact P3.out⟩
    case rest =>
    clear HM HN HL2
    obtain ⟨hl9, hD⟩ := hcut
    have HD := Lib.hid hD
    have H9 := Lib.hid hl9
    clear hl9 hD
    have HS := Lib.hid (pieces_take_succ s n cuts k (by omega))
    unfold Done at HD
    generalize pieceAt s n cuts k = q at HD HS
    have q0 := HD.out.pc.c0
    have q1 := HD.out.pc.c1
    have q2 := HD.out.pc.c2
    have q3 := HD.out.pc.c3
    have HR2 := Lib.hid (HR.out.keep HD.out.bel)
    have hle : (List.take k (pieces s n cuts)).length = k := by rw [List.length_take, pieces_length]; omega
    go_wp2_with (at_builtin; refine wpList_append_own _ rfl _ _ 35 rfl w.heap.size 45 i0 (.agg #[.bool false, .int .i64 0, .int .i64 0, .string ⟨#[]⟩]) 4 40 Try.underlying35 HI.out HZ.out HZ1.out HZ2.out rfl (by decide) _ _ _ rfl (HR2.out.alloc _) ⟨wc.heap.size, 0, none⟩ 1 1 (flat [q]) rfl rfl (four_new wc q) (flat_plain [q]) (by unfold maxLen; omega) (by omega) (by have := hB.size; have := HD.out.bel.size; simp; omega) ?_; intro v' w5 hown' hgrow hnil)
    clear hle
    have hb5 := (hB.trans (HD.out.bel.mono hB.size)).trans (HR2.out.added (by have := hB.size; have := HD.out.bel.size; omega) hgrow)
    have hr5 := HR2.out.snoc hown'
    rw [← HS.out] at hr5
    clear hown' hgrow hnil q0 q1 q2 q3 HD HR HR2 HS
    go_round
    case rel => exact ⟨k + 1, by omega, by go_num, H9.out, hr5, hb5⟩
    case measure => simp [intOf]; omega

theorem RCut_any (s : ByteArray) (hs : s.size ≤ 9000000000000000000) (n : Int) (p : Option Addr) (cap : Nat) (cuts : List Int) (w : World) (hl : cuts.length ≤ 9000000000000000000) (hp : Ints w .i64 p cuts) :
    Calls Try.prog 14 #[.string s, .int .i64 n, .slice p cuts.length cap] w (CRet s n cuts w) := by
  cases h : whole s with
  | false => exact RCut_form s hs n p cap cuts w h
  | true =>
  cases h2 : cnt n with
  | false => exact RCut_arg s hs n p cap cuts w h h2
  | true =>
  cases h3 : cutsOk s.size 0 cuts with
  | false => exact RCut_cuts s hs n p cap cuts w hl hp h h2 h3
  | true => exact RCut_ok s n p cap cuts w hp h h2 h3
end Go.Proofs.Ytppdfnghojcppaa
