/-
  The statement FrameKnown holds: the examples, limits of all fields, and malformed strings. No condition.
-/
import Derived.Test.YtccdhoboidneeaaOpen7
import Derived.Test.YtccdhoboidneeaaFrameX
namespace Go.Proofs.Ytccdhoboidneeaa
open Go.RowKit
set_option linter.unusedVariables false

/-- The frame f stands in block B from offset o on. -/
structure FrO (W : World) (B o : Nat) (f : Fr) : Prop where
  c0 : W.cell? ⟨B, o, none⟩ = some (.int .i64 f.dst)
  c1 : W.cell? ⟨B, o + 1, none⟩ = some (.int .i64 f.src)
  c2 : W.cell? ⟨B, o + 2, none⟩ = some (.bool f.tag)
  c3 : W.cell? ⟨B, o + 3, none⟩ = some (.int .i64 f.prio)
  c4 : W.cell? ⟨B, o + 4, none⟩ = some (.int .i64 f.vid)
  c5 : W.cell? ⟨B, o + 5, none⟩ = some (.bool f.hseq)
  c6 : W.cell? ⟨B, o + 6, none⟩ = some (.int .i64 f.seq)
  c7 : W.cell? ⟨B, o + 7, none⟩ = some (.int .i64 f.type)
  c8 : W.cell? ⟨B, o + 8, none⟩ = some (.string f.data)
theorem FrO.turn {W W' : World} {B o : Nat} {f : Fr} (h : FrO W B o f) (hk : ∀ j, o ≤ j → j < o + 9 → W'.cell? ⟨B, j, none⟩ = W.cell? ⟨B, j, none⟩) : FrO W' B o f :=
  ⟨(hk _ (by omega) (by omega)).trans h.c0, (hk _ (by omega) (by omega)).trans h.c1, (hk _ (by omega) (by omega)).trans h.c2, (hk _ (by omega) (by omega)).trans h.c3, (hk _ (by omega) (by omega)).trans h.c4, (hk _ (by omega) (by omega)).trans h.c5, (hk _ (by omega) (by omega)).trans h.c6, (hk _ (by omega) (by omega)).trans h.c7, (hk _ (by omega) (by omega)).trans h.c8⟩
theorem FrO.s0 {W : World} {B o : Nat} {f : Fr} (h : FrO W B o f) (v : Int) : FrO (W.setCell ⟨B, o + 0, none⟩ (.int .i64 v)) B o { f with dst := v } := by
  obtain ⟨c0, c1, c2, c3, c4, c5, c6, c7, c8⟩ := h
  refine ⟨?_, ?_, ?_, ?_, ?_, ?_, ?_, ?_, ?_⟩
  all_goals simp [go_sem, *]
theorem FrO.s1 {W : World} {B o : Nat} {f : Fr} (h : FrO W B o f) (v : Int) : FrO (W.setCell ⟨B, o + 1, none⟩ (.int .i64 v)) B o { f with src := v } := by
  obtain ⟨c0, c1, c2, c3, c4, c5, c6, c7, c8⟩ := h
  refine ⟨?_, ?_, ?_, ?_, ?_, ?_, ?_, ?_, ?_⟩
  all_goals simp [go_sem, *]
theorem FrO.s2 {W : World} {B o : Nat} {f : Fr} (h : FrO W B o f) (v : Bool) : FrO (W.setCell ⟨B, o + 2, none⟩ (.bool v)) B o { f with tag := v } := by
  obtain ⟨c0, c1, c2, c3, c4, c5, c6, c7, c8⟩ := h
  refine ⟨?_, ?_, ?_, ?_, ?_, ?_, ?_, ?_, ?_⟩
  all_goals simp [go_sem, *]
theorem FrO.s5 {W : World} {B o : Nat} {f : Fr} (h : FrO W B o f) (v : Bool) : FrO (W.setCell ⟨B, o + 5, none⟩ (.bool v)) B o { f with hseq := v } := by
  obtain ⟨c0, c1, c2, c3, c4, c5, c6, c7, c8⟩ := h
  refine ⟨?_, ?_, ?_, ?_, ?_, ?_, ?_, ?_, ?_⟩
  all_goals simp [go_sem, *]
theorem FrO.s3 {W : World} {B o : Nat} {f : Fr} (h : FrO W B o f) (v : Int) : FrO (W.setCell ⟨B, o + 3, none⟩ (.int .i64 v)) B o { f with prio := v } := by
  obtain ⟨c0, c1, c2, c3, c4, c5, c6, c7, c8⟩ := h
  refine ⟨?_, ?_, ?_, ?_, ?_, ?_, ?_, ?_, ?_⟩
  all_goals simp [go_sem, *]
theorem FrO.s4 {W : World} {B o : Nat} {f : Fr} (h : FrO W B o f) (v : Int) : FrO (W.setCell ⟨B, o + 4, none⟩ (.int .i64 v)) B o { f with vid := v } := by
  obtain ⟨c0, c1, c2, c3, c4, c5, c6, c7, c8⟩ := h
  refine ⟨?_, ?_, ?_, ?_, ?_, ?_, ?_, ?_, ?_⟩
  all_goals simp [go_sem, *]
theorem FrO.s6 {W : World} {B o : Nat} {f : Fr} (h : FrO W B o f) (v : Int) : FrO (W.setCell ⟨B, o + 6, none⟩ (.int .i64 v)) B o { f with seq := v } := by
  obtain ⟨c0, c1, c2, c3, c4, c5, c6, c7, c8⟩ := h
  refine ⟨?_, ?_, ?_, ?_, ?_, ?_, ?_, ?_, ?_⟩
  all_goals simp [go_sem, *]
theorem FrO.s7 {W : World} {B o : Nat} {f : Fr} (h : FrO W B o f) (v : Int) : FrO (W.setCell ⟨B, o + 7, none⟩ (.int .i64 v)) B o { f with type := v } := by
  obtain ⟨c0, c1, c2, c3, c4, c5, c6, c7, c8⟩ := h
  refine ⟨?_, ?_, ?_, ?_, ?_, ?_, ?_, ?_, ?_⟩
  all_goals simp [go_sem, *]
theorem FrO.s8 {W : World} {B o : Nat} {f : Fr} (h : FrO W B o f) (v : ByteArray) : FrO (W.setCell ⟨B, o + 8, none⟩ (.string v)) B o { f with data := v } := by
  obtain ⟨c0, c1, c2, c3, c4, c5, c6, c7, c8⟩ := h
  refine ⟨?_, ?_, ?_, ?_, ?_, ?_, ?_, ?_, ?_⟩
  all_goals simp [go_sem, *]
/-- The twelve frames in block B. -/
structure BadAt (W : World) (B : Nat) (fs : Nat → Fr) : Prop where
  fr : ∀ k, k < 12 → FrO W B (k * 9) (fs k)
  fz : ∀ j, W.frozen? ⟨B, j, none⟩ = false
  lt : B < W.heap.size
theorem BadAt.set {W : World} {B : Nat} {fs : Nat → Fr} (h : BadAt W B fs) (k i : Nat) (hi : i < 9) (v : Value) (g : Fr) (hg : FrO (W.setCell ⟨B, k * 9 + i, none⟩ v) B (k * 9) g) : BadAt (W.setCell ⟨B, k * 9 + i, none⟩ v) B (fun j => if j = k then g else fs j) := by
  refine ⟨fun j hj => ?_, fun j => ?_, ?_⟩
  · show FrO _ B (j * 9) (if j = k then g else fs j)
    by_cases e : j = k
    · subst e; rw [if_pos rfl]; exact hg
    · rw [if_neg e]
      refine (h.fr j hj).turn fun q h1 h2 => World.cell?_setCell_other _ _ _ _ ?_
      intro e2
      injection e2 with _ e3
      omega
  · rw [World.frozen?_setCell]; exact h.fz j
  · have := h.lt; simp [World.setCell]; omega
theorem BadAt.keep {W W' : World} {B : Nat} {fs : Nat → Fr} (h : BadAt W B fs) (hb : Below W.heap.size W W') : BadAt W' B fs :=
  ⟨fun k hk => (h.fr k hk).turn fun _ _ _ => hb.cell h.lt, fun j => (hb.frozen (p := ⟨B, j, none⟩) h.lt).trans (h.fz j), by have := hb.size; have := h.lt; omega⟩
/-- A whole frame is stored. -/
def putO (W : World) (B o : Nat) (f : Fr) : World := (((((((((W.setCell ⟨B, o, none⟩ (.int .i64 f.dst)).setCell ⟨B, o + 1, none⟩ (.int .i64 f.src)).setCell ⟨B, o + 2, none⟩ (.bool f.tag)).setCell ⟨B, o + 3, none⟩ (.int .i64 f.prio)).setCell ⟨B, o + 4, none⟩ (.int .i64 f.vid)).setCell ⟨B, o + 5, none⟩ (.bool f.hseq)).setCell ⟨B, o + 6, none⟩ (.int .i64 f.seq)).setCell ⟨B, o + 7, none⟩ (.int .i64 f.type)).setCell ⟨B, o + 8, none⟩ (.string f.data))
theorem BadAt.put {W : World} {B : Nat} {fs : Nat → Fr} (h : BadAt W B fs) (k : Nat) (hk : k < 12) (f : Fr) : BadAt (putO W B (k * 9) f) B (fun j => if j = k then f else fs j) := by
  have h0 := h.set k 0 (by omega) _ _ ((h.fr k hk).s0 f.dst)
  have e : ∀ (X : World) (gs : Nat → Fr), BadAt X B (fun j => if j = k then gs j else fs j) → FrO X B (k * 9) (gs k) := fun X gs hx => by have := hx.fr k hk; simpa using this
  have c : ∀ (X : World) (a b : Fr), BadAt X B (fun j => if j = k then a else if j = k then b else fs j) → BadAt X B (fun j => if j = k then a else fs j) := fun X a b hx => by
    have e2 : (fun j => if j = k then a else if j = k then b else fs j) = (fun j => if j = k then a else fs j) := by funext j; by_cases hj : j = k <;> simp [hj]
    rwa [e2] at hx
  have f0 := e _ (fun _ => _) h0
  have h1 := c _ _ _ (h0.set k 1 (by omega) _ _ (f0.s1 f.src))
  have f1 := e _ (fun _ => _) h1
  have h2 := c _ _ _ (h1.set k 2 (by omega) _ _ (f1.s2 f.tag))
  have f2 := e _ (fun _ => _) h2
  have h3 := c _ _ _ (h2.set k 3 (by omega) _ _ (f2.s3 f.prio))
  have f3 := e _ (fun _ => _) h3
  have h4 := c _ _ _ (h3.set k 4 (by omega) _ _ (f3.s4 f.vid))
  have f4 := e _ (fun _ => _) h4
  have h5 := c _ _ _ (h4.set k 5 (by omega) _ _ (f4.s5 f.hseq))
  have f5 := e _ (fun _ => _) h5
  have h6 := c _ _ _ (h5.set k 6 (by omega) _ _ (f5.s6 f.seq))
  have f6 := e _ (fun _ => _) h6
  have h7 := c _ _ _ (h6.set k 7 (by omega) _ _ (f6.s7 f.type))
  have f7 := e _ (fun _ => _) h7
  have h8 := c _ _ _ (h7.set k 8 (by omega) _ _ (f7.s8 f.data))
  exact h8
theorem putO_below (W : World) (B o : Nat) (f : Fr) (n : Nat) (hn : n ≤ B) : Below n W (putO W B o f) := by
  unfold putO
  exact ((((((((((Below.refl n W).setCell (p := ⟨B, o, none⟩) hn _).setCell (p := ⟨B, o + 1, none⟩) hn _).setCell (p := ⟨B, o + 2, none⟩) hn _).setCell (p := ⟨B, o + 3, none⟩) hn _).setCell (p := ⟨B, o + 4, none⟩) hn _).setCell (p := ⟨B, o + 5, none⟩) hn _).setCell (p := ⟨B, o + 6, none⟩) hn _).setCell (p := ⟨B, o + 7, none⟩) hn _).setCell (p := ⟨B, o + 8, none⟩) hn _)
theorem bad_start (W : World) : BadAt (W.alloc (.cells Try.zeroCells54 54)) W.heap.size (fun _ => Fr.none) := by
  refine ⟨fun k hk => ?_, fun j => frozen_of_row _ _ _ _ _ (heap_alloc_new W _), by simp⟩
  have h : ∀ j, (W.alloc (.cells Try.zeroCells54 54)).cell? ⟨W.heap.size, j, none⟩ = Try.zeroCells54[j]? := fun j => cell_of_row _ _ _ _ _ (0, 0) (heap_alloc_new W _)
  have hk' : k = 0 ∨ k = 1 ∨ k = 2 ∨ k = 3 ∨ k = 4 ∨ k = 5 ∨ k = 6 ∨ k = 7 ∨ k = 8 ∨ k = 9 ∨ k = 10 ∨ k = 11 := by omega
  rcases hk' with rfl | rfl | rfl | rfl | rfl | rfl | rfl | rfl | rfl | rfl | rfl | rfl <;> exact ⟨(h _).trans (by kernel_rfl), (h _).trans (by kernel_rfl), (h _).trans (by kernel_rfl), (h _).trans (by kernel_rfl), (h _).trans (by kernel_rfl), (h _).trans (by kernel_rfl), (h _).trans (by kernel_rfl), (h _).trans (by kernel_rfl), (h _).trans (by kernel_rfl)⟩

def setsB0 (W : World) (B : Nat) : World := ((((((((W.setCell ⟨B, 0, none⟩ (.int .i64 (-1))).setCell ⟨B, 9, none⟩ (.int .i64 281474976710656)).setCell ⟨B, 19, none⟩ (.int .i64 281474976710656)).setCell ⟨B, 34, none⟩ (.int .i64 65536)).setCell ⟨B, 38, none⟩ (.bool true)).setCell ⟨B, 39, none⟩ (.int .i64 8)).setCell ⟨B, 47, none⟩ (.bool true)).setCell ⟨B, 49, none⟩ (.int .i64 4095)).setCell ⟨B, 57, none⟩ (.int .i64 1)
def updB0 (fs : Nat → Fr) : Nat → Fr :=
  let f0 : Nat → Fr := fun j => if j = 0 then { fs 0 with dst := (-1) } else fs j
  let f1 : Nat → Fr := fun j => if j = 1 then { f0 1 with dst := 281474976710656 } else f0 j
  let f2 : Nat → Fr := fun j => if j = 2 then { f1 2 with src := 281474976710656 } else f1 j
  let f3 : Nat → Fr := fun j => if j = 3 then { f2 3 with type := 65536 } else f2 j
  let f4 : Nat → Fr := fun j => if j = 4 then { f3 4 with tag := true } else f3 j
  let f5 : Nat → Fr := fun j => if j = 4 then { f4 4 with prio := 8 } else f4 j
  let f6 : Nat → Fr := fun j => if j = 5 then { f5 5 with tag := true } else f5 j
  let f7 : Nat → Fr := fun j => if j = 5 then { f6 5 with vid := 4095 } else f6 j
  let f8 : Nat → Fr := fun j => if j = 6 then { f7 6 with prio := 1 } else f7 j
  f8
theorem setsB0_bad (W : World) (B : Nat) (fs : Nat → Fr) (h : BadAt W B fs) : ∃ gs, BadAt (setsB0 W B) B gs ∧ gs = updB0 fs := by
  unfold setsB0 updB0
  have h1 := h.set 0 0 (by omega) _ _ ((h.fr 0 (by omega)).s0 (-1))
  have h2 := h1.set 1 0 (by omega) _ _ ((h1.fr 1 (by omega)).s0 281474976710656)
  have h3 := h2.set 2 1 (by omega) _ _ ((h2.fr 2 (by omega)).s1 281474976710656)
  have h4 := h3.set 3 7 (by omega) _ _ ((h3.fr 3 (by omega)).s7 65536)
  have h5 := h4.set 4 2 (by omega) _ _ ((h4.fr 4 (by omega)).s2 true)
  have h6 := h5.set 4 3 (by omega) _ _ ((h5.fr 4 (by omega)).s3 8)
  have h7 := h6.set 5 2 (by omega) _ _ ((h6.fr 5 (by omega)).s2 true)
  have h8 := h7.set 5 4 (by omega) _ _ ((h7.fr 5 (by omega)).s4 4095)
  have h9 := h8.set 6 3 (by omega) _ _ ((h8.fr 6 (by omega)).s3 1)
  exact ⟨_, h9, rfl⟩
theorem setsB0_below (W : World) (B : Nat) (n : Nat) (hn : n ≤ B) : Below n W (setsB0 W B) := by
  unfold setsB0
  exact (((((((((Below.refl n W).setCell (p := ⟨B, 0, none⟩) hn _).setCell (p := ⟨B, 9, none⟩) hn _).setCell (p := ⟨B, 19, none⟩) hn _).setCell (p := ⟨B, 34, none⟩) hn _).setCell (p := ⟨B, 38, none⟩) hn _).setCell (p := ⟨B, 39, none⟩) hn _).setCell (p := ⟨B, 47, none⟩) hn _).setCell (p := ⟨B, 49, none⟩) hn _).setCell (p := ⟨B, 57, none⟩) hn _
def setsB1 (W : World) (B : Nat) (X : ByteArray) : World := ((((W.setCell ⟨B, 69, none⟩ (.int .i64 1)).setCell ⟨B, 77, none⟩ (.bool true)).setCell ⟨B, 78, none⟩ (.int .i64 65536)).setCell ⟨B, 88, none⟩ (.int .i64 61889)).setCell ⟨B, 98, none⟩ (.string X)
def updB1 (X : ByteArray) (fs : Nat → Fr) : Nat → Fr :=
  let f0 : Nat → Fr := fun j => if j = 7 then { fs 7 with seq := 1 } else fs j
  let f1 : Nat → Fr := fun j => if j = 8 then { f0 8 with hseq := true } else f0 j
  let f2 : Nat → Fr := fun j => if j = 8 then { f1 8 with seq := 65536 } else f1 j
  let f3 : Nat → Fr := fun j => if j = 9 then { f2 9 with type := 61889 } else f2 j
  let f4 : Nat → Fr := fun j => if j = 10 then { f3 10 with data := X } else f3 j
  f4
theorem setsB1_bad (W : World) (B : Nat) (X : ByteArray) (fs : Nat → Fr) (h : BadAt W B fs) : ∃ gs, BadAt (setsB1 W B X) B gs ∧ gs = updB1 X fs := by
  unfold setsB1 updB1
  have h1 := h.set 7 6 (by omega) _ _ ((h.fr 7 (by omega)).s6 1)
  have h2 := h1.set 8 5 (by omega) _ _ ((h1.fr 8 (by omega)).s5 true)
  have h3 := h2.set 8 6 (by omega) _ _ ((h2.fr 8 (by omega)).s6 65536)
  have h4 := h3.set 9 7 (by omega) _ _ ((h3.fr 9 (by omega)).s7 61889)
  have h5 := h4.set 10 8 (by omega) _ _ ((h4.fr 10 (by omega)).s8 X)
  exact ⟨_, h5, rfl⟩
theorem setsB1_below (W : World) (B : Nat) (X : ByteArray) (n : Nat) (hn : n ≤ B) : Below n W (setsB1 W B X) := by
  unfold setsB1
  exact (((((Below.refl n W).setCell (p := ⟨B, 69, none⟩) hn _).setCell (p := ⟨B, 77, none⟩) hn _).setCell (p := ⟨B, 78, none⟩) hn _).setCell (p := ⟨B, 88, none⟩) hn _).setCell (p := ⟨B, 98, none⟩) hn _
def setsB2 (W : World) (B : Nat) (Y : ByteArray) : World := (W.setCell ⟨B, 104, none⟩ (.bool true)).setCell ⟨B, 107, none⟩ (.string Y)
def updB2 (Y : ByteArray) (fs : Nat → Fr) : Nat → Fr :=
  let f0 : Nat → Fr := fun j => if j = 11 then { fs 11 with hseq := true } else fs j
  let f1 : Nat → Fr := fun j => if j = 11 then { f0 11 with data := Y } else f0 j
  f1
theorem setsB2_bad (W : World) (B : Nat) (Y : ByteArray) (fs : Nat → Fr) (h : BadAt W B fs) : ∃ gs, BadAt (setsB2 W B Y) B gs ∧ gs = updB2 Y fs := by
  unfold setsB2 updB2
  have h1 := h.set 11 5 (by omega) _ _ ((h.fr 11 (by omega)).s5 true)
  have h2 := h1.set 11 8 (by omega) _ _ ((h1.fr 11 (by omega)).s8 Y)
  exact ⟨_, h2, rfl⟩
theorem setsB2_below (W : World) (B : Nat) (Y : ByteArray) (n : Nat) (hn : n ≤ B) : Below n W (setsB2 W B Y) := by
  unfold setsB2
  exact ((Below.refl n W).setCell (p := ⟨B, 104, none⟩) hn _).setCell (p := ⟨B, 107, none⟩) hn _
/-- The frames that are not valid. -/
def badF : Nat → Fr
  | 0 => { fh with dst := -1 }
  | 1 => { fh with dst := 281474976710656 }
  | 2 => { fh with src := 281474976710656 }
  | 3 => { fh with type := 65536 }
  | 4 => { fh with tag := true, prio := 8 }
  | 5 => { fh with tag := true, vid := 4095 }
  | 6 => { fh with prio := 1 }
  | 7 => { fh with seq := 1 }
  | 8 => { fh with hseq := true, seq := 65536 }
  | 9 => { fh with type := 61889 }
  | 10 => { fh with data := S (List.replicate 1501 120) }
  | _ => { fh with hseq := true, data := S (List.replicate 1495 120) }
theorem twelve {P : Nat → Prop} (h0 : P 0) (h1 : P 1) (h2 : P 2) (h3 : P 3) (h4 : P 4) (h5 : P 5) (h6 : P 6) (h7 : P 7) (h8 : P 8) (h9 : P 9) (h10 : P 10) (h11 : P 11) (k : Nat) (hk : k < 12) : P k := by
  have hk' : k = 0 ∨ k = 1 ∨ k = 2 ∨ k = 3 ∨ k = 4 ∨ k = 5 ∨ k = 6 ∨ k = 7 ∨ k = 8 ∨ k = 9 ∨ k = 10 ∨ k = 11 := by omega
  rcases hk' with rfl | rfl | rfl | rfl | rfl | rfl | rfl | rfl | rfl | rfl | rfl | rfl <;> assumption
theorem badF_ok (k : Nat) (hk : k < 12) : (badF k).ok = false ∧ (badF k).data.size ≤ 1501 :=
  twelve (P := fun k => (badF k).ok = false ∧ (badF k).data.size ≤ 1501) (by decide +kernel) (by decide +kernel) (by decide +kernel) (by decide +kernel) (by decide +kernel) (by decide +kernel) (by decide +kernel) (by decide +kernel) (by decide +kernel) (by decide +kernel) (by decide +kernel) (by decide +kernel) k hk
theorem badF_eq (k : Nat) (hk : k < 12) : updB2 (S (List.replicate 1495 120)) (updB1 (S (List.replicate 1501 120)) (updB0 (fun j => if j < 12 then fh else Fr.none))) k = badF k :=
  twelve (P := fun k => updB2 (S (List.replicate 1495 120)) (updB1 (S (List.replicate 1501 120)) (updB0 (fun j => if j < 12 then fh else Fr.none))) k = badF k) rfl rfl rfl rfl rfl rfl rfl rfl rfl rfl rfl rfl k hk

def fFull : Fr := ⟨281474976710655, 281474976710655, true, 7, 4094, true, 65535, 65535, S (List.replicate 1494 121)⟩
theorem want_none : Fr.none.want = Fr.none := by unfold Fr.want; rfl
theorem fFull_ok : fFull.ok = true := by decide +kernel
theorem fFull_wire : fFull.wire = 1542 := by decide +kernel
theorem want_long (f : Fr) (ht : f.type ≠ 0) (h : 60 ≤ f.head + f.data.size) : f.want = f := by
  have e : f.data ++ S (List.replicate (60 - f.head - f.data.size) 0) = f.data := by
    rw [show 60 - f.head - f.data.size = 0 by omega, ← S_of f.data, S_append, List.replicate_zero, List.append_nil]
  unfold Fr.want
  rw [if_neg ht, e]
theorem fFull_want : fFull.want = fFull := want_long _ (by decide) (by
  have h1 : fFull.data.size = 1494 := by show (S (List.replicate 1494 121)).size = 1494; rw [S_size, List.length_replicate]
  omega)
theorem fNone_ok : Fr.none.ok = true := by decide +kernel
theorem fNone_wire : Fr.none.wire = 84 := by decide +kernel
theorem fNone_want : Fr.none.want = Fr.none := want_none
theorem txt_seal (l : List UInt8) : txt (sealB 0 (S l)) = l := by
  unfold txt
  rw [sealB_size, S_size, sealB_data, S_data'', Nat.add_sub_cancel]
  exact List.take_left' rfl
theorem seal_no (l : List UInt8) (h : (pFr l).ok = false) : decOk (sealB 0 (S l)) = false := by
  rcases e : decOk (sealB 0 (S l)) with _ | _
  · rfl
  · have := ((decOk_iff _).1 e).2.2.1
    rw [txt_seal, h] at this
    cases this
theorem seal_bad (l : List UInt8) (h : pBad l = true) : decOk (sealB 0 (S l)) = false := by
  rcases e : decOk (sealB 0 (S l)) with _ | _
  · rfl
  · have := ((decOk_iff _).1 e).2.1
    rw [txt_seal, h] at this
    cases this
theorem seal_enc (l : List UInt8) (h : (pFr l).body ≠ l) : decOk (sealB 0 (S l)) = false := by
  rcases e : decOk (sealB 0 (S l)) with _ | _
  · rfl
  · exfalso
    obtain ⟨_, _, h1, h2⟩ := (decOk_iff _).1 e
    rw [txt_seal] at h1 h2
    apply h
    have h3 := txt_enc _ h1
    rw [h2, txt_seal] at h3
    exact h3.symm

theorem cat60 (x z : List UInt8) : ((⟨#[0, 0, 0, 0, 0, 1, 0, 0, 0, 0, 0, 2]⟩ : ByteArray) ++ S x ++ S z).extract 0 60 = S (([0, 0, 0, 0, 0, 1, 0, 0, 0, 0, 0, 2] ++ x ++ z).take 60) := by
  rw [show (⟨#[0, 0, 0, 0, 0, 1, 0, 0, 0, 0, 0, 2]⟩ : ByteArray) = S [0, 0, 0, 0, 0, 1, 0, 0, 0, 0, 0, 2] from rfl, S_append, S_append, S_extract]; rfl
theorem index7 (Z : ByteArray) (hZ : S (List.replicate 60 0) = Z) (k : Nat) (hk : k < 7) :
    ∃ x : ByteArray, x.size ≤ 8 ∧ decOk (sealB 0 ((⟨#[0, 0, 0, 0, 0, 1, 0, 0, 0, 0, 0, 2]⟩ ++ x ++ Z).extract 0 60)) = false ∧ ∀ W, (Instr.index 55 (.agg #[.string ⟨#[5, 221]⟩, .string ⟨#[5, 255]⟩, .string ⟨#[0, 0, 1]⟩, .string ⟨#[129, 0, 15, 255, 8, 0]⟩, .string ⟨#[129, 0, 16, 0, 8, 0]⟩, .string ⟨#[241, 193, 0, 1, 0, 0, 8, 0]⟩, .string ⟨#[129, 0, 0, 1, 129, 0]⟩]) (.int .i64 (k : Int))).run Try.prog W = .ok (.string x) W := by
  subst hZ
  have : k = 0 ∨ k = 1 ∨ k = 2 ∨ k = 3 ∨ k = 4 ∨ k = 5 ∨ k = 6 := by omega
  rcases this with rfl | rfl | rfl | rfl | rfl | rfl | rfl
  · exact ⟨S [5, 221], by decide, by rw [cat60]; exact seal_no _ (by decide +kernel), fun _ => by kernel_rfl⟩
  · exact ⟨S [5, 255], by decide, by rw [cat60]; exact seal_no _ (by decide +kernel), fun _ => by kernel_rfl⟩
  · exact ⟨S [0, 0, 1], by decide, by rw [cat60]; exact seal_enc _ (by decide +kernel), fun _ => by kernel_rfl⟩
  · exact ⟨S [129, 0, 15, 255, 8, 0], by decide, by rw [cat60]; exact seal_no _ (by decide +kernel), fun _ => by kernel_rfl⟩
  · exact ⟨S [129, 0, 16, 0, 8, 0], by decide, by rw [cat60]; exact seal_no _ (by decide +kernel), fun _ => by kernel_rfl⟩
  · exact ⟨S [241, 193, 0, 1, 0, 0, 8, 0], by decide, by rw [cat60]; exact seal_enc _ (by decide +kernel), fun _ => by kernel_rfl⟩
  · exact ⟨S [129, 0, 0, 1, 129, 0], by decide, by rw [cat60]; exact seal_no _ (by decide +kernel), fun _ => by kernel_rfl⟩
theorem small (s : ByteArray) (h : s.size ≤ 2000) : s.size ≤ 9000000000000000000 := by omega
theorem seal_small (s : ByteArray) (h : s.size ≤ 2000) : (sealB 0 s).size ≤ 9000000000000000000 := by rw [sealB_size]; omega
theorem known1 : decOk ⟨#[]⟩ = false := by decide +kernel
theorem known2 (Z : ByteArray) (hZ : S (List.replicate 60 0) = Z) : decOk (sealB 0 (Z.extract 0 59)) = false := by
  subst hZ
  rcases e : decOk (sealB 0 ((S (List.replicate 60 0)).extract 0 59)) with _ | _
  · rfl
  · have := ((decOk_iff _).1 e).1.1
    rw [sealB_size, ByteArray.size_extract, S_size, List.length_replicate] at this
    omega
theorem known3 (Z : ByteArray) (hZ : S (List.replicate 60 0) = Z) : decOk (sealB 0 (⟨#[0, 0, 0, 0, 0, 1, 0, 0, 0, 0, 0, 2]⟩ ++ ⟨#[0, 0]⟩ ++ Z)) = false := by
  subst hZ
  rw [show (⟨#[0, 0, 0, 0, 0, 1, 0, 0, 0, 0, 0, 2]⟩ ++ ⟨#[0, 0]⟩ ++ S (List.replicate 60 0) : ByteArray) = S ([0, 0, 0, 0, 0, 1, 0, 0, 0, 0, 0, 2] ++ [0, 0] ++ List.replicate 60 0) from by rw [← S_append, ← S_append]; rfl]
  exact seal_enc _ (by decide +kernel)
theorem known4 (X : ByteArray) (hX : S (List.replicate 1501 120) = X) : decOk (sealB 0 (⟨#[0, 0, 0, 0, 0, 1, 0, 0, 0, 0, 0, 2]⟩ ++ ⟨#[8, 0]⟩ ++ X)) = false := by
  subst hX
  rw [show (⟨#[0, 0, 0, 0, 0, 1, 0, 0, 0, 0, 0, 2]⟩ ++ ⟨#[8, 0]⟩ ++ S (List.replicate 1501 120) : ByteArray) = S ([0, 0, 0, 0, 0, 1, 0, 0, 0, 0, 0, 2] ++ [8, 0] ++ List.replicate 1501 120) from by rw [← S_append, ← S_append]; rfl]
  exact seal_no _ (by decide +kernel)

theorem size3 (Z : ByteArray) (hZ : S (List.replicate 60 0) = Z) : (⟨#[0, 0, 0, 0, 0, 1, 0, 0, 0, 0, 0, 2]⟩ ++ ⟨#[0, 0]⟩ ++ Z : ByteArray).size ≤ 2000 := by
  have e : Z.size = 60 := by rw [← hZ, S_size, List.length_replicate]
  rw [ByteArray.size_append, ByteArray.size_append, e]
  decide
theorem pseal3 (Z : ByteArray) (hZ : S (List.replicate 60 0) = Z) (W : World) : Calls Try.prog 26 #[.string (⟨#[0, 0, 0, 0, 0, 1, 0, 0, 0, 0, 0, 2]⟩ ++ ⟨#[0, 0]⟩ ++ Z)] W fun e w' => e = .returned (.string (sealB 0 (⟨#[0, 0, 0, 0, 0, 1, 0, 0, 0, 0, 0, 2]⟩ ++ ⟨#[0, 0]⟩ ++ Z))) ∧ Below W.heap.size W w' :=
  Seal_any _ (small _ (size3 Z hZ)) W
theorem pmal3 (Z : ByteArray) (hZ : S (List.replicate 60 0) = Z) (W : World) : Calls Try.prog 18 #[.string (sealB 0 (⟨#[0, 0, 0, 0, 0, 1, 0, 0, 0, 0, 0, 2]⟩ ++ ⟨#[0, 0]⟩ ++ Z))] W fun e w' => e = .returned (.bool true) ∧ Below W.heap.size W w' :=
  malformed_true _ (seal_small _ (size3 Z hZ)) (known3 Z hZ) W
theorem size4 (X : ByteArray) (hX : S (List.replicate 1501 120) = X) : (⟨#[0, 0, 0, 0, 0, 1, 0, 0, 0, 0, 0, 2]⟩ ++ ⟨#[8, 0]⟩ ++ X : ByteArray).size ≤ 2000 := by
  have e : X.size = 1501 := by rw [← hX, S_size, List.length_replicate]
  rw [ByteArray.size_append, ByteArray.size_append, e]
  decide
theorem pseal4 (X : ByteArray) (hX : S (List.replicate 1501 120) = X) (W : World) : Calls Try.prog 26 #[.string (⟨#[0, 0, 0, 0, 0, 1, 0, 0, 0, 0, 0, 2]⟩ ++ ⟨#[8, 0]⟩ ++ X)] W fun e w' => e = .returned (.string (sealB 0 (⟨#[0, 0, 0, 0, 0, 1, 0, 0, 0, 0, 0, 2]⟩ ++ ⟨#[8, 0]⟩ ++ X))) ∧ Below W.heap.size W w' :=
  Seal_any _ (small _ (size4 X hX)) W
theorem pmal4 (X : ByteArray) (hX : S (List.replicate 1501 120) = X) (W : World) : Calls Try.prog 18 #[.string (sealB 0 (⟨#[0, 0, 0, 0, 0, 1, 0, 0, 0, 0, 0, 2]⟩ ++ ⟨#[8, 0]⟩ ++ X))] W fun e w' => e = .returned (.bool true) ∧ Below W.heap.size W w' :=
  malformed_true _ (seal_small _ (size4 X hX)) (known4 X hX) W

set_option maxRecDepth 100000 in
set_option maxHeartbeats 8000000 in
theorem frameKnown_walk (w : World) : Calls Try.prog 8 #[] w fun e w' => e = .returned (.bool true) ∧ Below w.heap.size w w' := by
  have C1 := Lib.hid (fun W => works7 W)
  have C2 := Lib.hid (fun W => hello_any W)
  have R1 := Lib.hid (fun W => repeat_any 120 1501 (by omega) W)
  have R2 := Lib.hid (fun W => repeat_any 120 1495 (by omega) W)
  have R3 := Lib.hid (fun W => repeat_any 121 1494 (by omega) W)
  have R4 := Lib.hid (fun W => repeat_any 0 60 (by omega) W)
  obtain ⟨X, hX⟩ : ∃ X, S (List.replicate 1501 120) = X := ⟨_, rfl⟩
  obtain ⟨Y, hY⟩ : ∃ X, S (List.replicate 1495 120) = X := ⟨_, rfl⟩
  obtain ⟨Z, hZ⟩ : ∃ X, S (List.replicate 60 0) = X := ⟨_, rfl⟩
  rw [hX] at R1
  rw [hZ] at R4
  have HZZ := Lib.hid hZ
  rw [hY] at R2
  have HX := Lib.hid hX
  have HY := Lib.hid hY
  clear hX hY hZ
  go_enter Try.func8, Try.ntmps8
  go_wp2_with (fail)
  refine (C2.out _).mono ?_
  rintro e v1 ⟨rfl, g1⟩
  have y1 := g1.size
  go_upto_region 3 with fail
  have b1 : Below v1.heap.size v1 ((v1.alloc (frB fh)).alloc (.cells Try.zeroCells54 54)) := ((Below.refl v1.heap.size v1).alloc (Nat.le_refl _) _).alloc (by simp) _
  have F0 : FrAt ((v1.alloc (frB fh)).alloc (.cells Try.zeroCells54 54)) v1.heap.size fh := fr_keep (fr_box v1 fh) ((Below.refl _ _).alloc (Nat.le_refl _) _) (by simp)
  have Z0 := bad_start (v1.alloc (frB fh))
  rw [show (v1.alloc (frB fh)).heap.size = v1.heap.size + 1 by simp] at Z0
  obtain ⟨w2, hw2⟩ : ∃ W, (v1.alloc (frB fh)).alloc (.cells Try.zeroCells54 54) = W := ⟨_, rfl⟩
  rw [hw2] at b1 F0 Z0
  simp only [frB, fh] at hw2
  rw [hw2]
  have g1B := g1
  clear hw2 g1
  have B1 : Below w.heap.size w w2 := g1B.trans (b1.mono y1)
  go_wp2_with (fail)
  go_loopw [3] (fun i wr => ∃ k : Nat, k ≤ 12 ∧ i = .int .i64 k ∧ FrAt wr v1.heap.size fh ∧ BadAt wr (v1.heap.size + 1) (fun j => if j < k then fh else Fr.none) ∧ Below v1.heap.size w2 wr) (fun i _ => 12 - (intOf i).toNat)
  case atStart => exact ⟨0, by omega, rfl, F0, by simpa using Z0, Below.refl _ _⟩
  case round =>
    obtain ⟨k, hk, rfl, hf, hz, hb⟩ := hrel
    by_cases hlt : k < 12
    · have hzf := hz.fr k hlt
      rw [if_neg (by omega)] at hzf
      obtain ⟨r0, r1, r2, r3, r4, r5, r6, r7, r8⟩ := hzf
      simp only [Fr.none] at r0 r1 r2 r3 r4 r5 r6 r7 r8
      have z0 := hz.fz (k * 9)
      have z1 := hz.fz (k * 9 + 1)
      have z2 := hz.fz (k * 9 + 2)
      have z3 := hz.fz (k * 9 + 3)
      have z4 := hz.fz (k * 9 + 4)
      have z5 := hz.fz (k * 9 + 5)
      have z6 := hz.fz (k * 9 + 6)
      have z7 := hz.fz (k * 9 + 7)
      have z8 := hz.fz (k * 9 + 8)
      have HZ := Lib.hid hz; clear hz
      have HF := Lib.hid hf
      obtain ⟨c0, c1, c2, c3, c4, c5, c6, c7, c8⟩ := hf
      simp only [fh] at c0 c1 c2 c3 c4 c5 c6 c7 c8
      have hlt0 : (0 : Int) ≤ (k : Int) := by omega
      have hlt1 : (k : Int) < 12 := by omega
      go_wp2_with (fail)
      go_roundw
      case rel =>
        refine ⟨k + 1, by omega, by go_num, fr_keep HF.out (putO_below wr (v1.heap.size + 1) (k * 9) fh (v1.heap.size + 1) (Nat.le_refl _)) (by omega), ?_, hb.trans (putO_below wr (v1.heap.size + 1) (k * 9) fh v1.heap.size (by omega))⟩
        have hp := HZ.out.put k hlt fh
        have e : (fun j => if j = k then fh else if j < k then fh else Fr.none) = (fun j => if j < k + 1 then fh else Fr.none) := by
          funext j
          by_cases h1 : j = k
          · rw [if_pos h1, if_pos (by omega)]
          · rw [if_neg h1]
            by_cases h2 : j < k
            · rw [if_pos h2, if_pos (by omega)]
            · rw [if_neg h2, if_neg (by omega)]
        rw [e] at hp
        exact hp
      case measure => simp [intOf]; omega
    · obtain rfl : k = 12 := by omega
      have q0 := (hz.fr 0 (by omega)).c0
      have z0 := hz.fz 0
      have q1 := (hz.fr 1 (by omega)).c0
      have z1 := hz.fz 9
      have q2 := (hz.fr 2 (by omega)).c1
      have z2 := hz.fz 19
      have q3 := (hz.fr 3 (by omega)).c7
      have z3 := hz.fz 34
      have q4 := (hz.fr 4 (by omega)).c2
      have z4 := hz.fz 38
      have q5 := (hz.fr 4 (by omega)).c3
      have z5 := hz.fz 39
      have q6 := (hz.fr 5 (by omega)).c2
      have z6 := hz.fz 47
      have q7 := (hz.fr 5 (by omega)).c4
      have z7 := hz.fz 49
      have q8 := (hz.fr 6 (by omega)).c3
      have z8 := hz.fz 57
      simp only [Nat.zero_mul, Nat.reduceMul, Nat.reduceAdd, Nat.reduceLT, if_true] at q0 q1 q2 q3 q4 q5 q6 q7 q8
      have bg := hz.lt
      have HZ := Lib.hid hz; clear hz hf
      go_wp2_with (fail)
      obtain ⟨x0, hx0⟩ : ∃ W, setsB0 wr (v1.heap.size + 1) = W := ⟨_, rfl⟩
      obtain ⟨gs0, hg0, hgs0⟩ := setsB0_bad wr (v1.heap.size + 1) _ HZ.out
      have bl0 := setsB0_below wr (v1.heap.size + 1) v1.heap.size (by omega)
      rw [hx0] at hg0 bl0
      unfold setsB0 at hx0
      rw [hx0]
      clear hx0
      have HGS0 := Lib.hid hgs0; clear hgs0
      have bb0 : Below v1.heap.size w2 x0 := hb.trans bl0
      clear bl0
      clear q0 z0 q1 z1 q2 z2 q3 z3 q4 z4 q5 z5 q6 z6 q7 z7 q8 z8 HZ hb
      refine (R1.out _).mono ?_
      rintro e v6 ⟨rfl, g6⟩
      have y6 := g6.size
      have hh0 := hg0.keep g6
      have lt0 := hh0.lt
      have bx0 : Below v1.heap.size w2 v6 := bb0.trans (g6.mono (by have := hg0.lt; omega))
      clear g6 bb0 hg0
      have q0 := (hh0.fr 7 (by omega)).c6
      have z0 := hh0.fz 69
      have q1 := (hh0.fr 8 (by omega)).c5
      have z1 := hh0.fz 77
      have q2 := (hh0.fr 8 (by omega)).c6
      have z2 := hh0.fz 78
      have q3 := (hh0.fr 9 (by omega)).c7
      have z3 := hh0.fz 88
      have q4 := (hh0.fr 10 (by omega)).c8
      have z4 := hh0.fz 98
      simp only [Nat.reduceMul, Nat.reduceAdd] at q0 q1 q2 q3 q4
      have HH0 := Lib.hid hh0; clear hh0
      go_wp2_with (fail)
      obtain ⟨x1, hx1⟩ : ∃ W, setsB1 v6 (v1.heap.size + 1) X = W := ⟨_, rfl⟩
      obtain ⟨gs1, hg1, hgs1⟩ := setsB1_bad v6 (v1.heap.size + 1) X _ HH0.out
      have bl1 := setsB1_below v6 (v1.heap.size + 1) X v1.heap.size (by omega)
      rw [hx1] at hg1 bl1
      unfold setsB1 at hx1
      rw [hx1]
      clear hx1
      have HGS1 := Lib.hid hgs1; clear hgs1
      have bb1 : Below v1.heap.size w2 x1 := bx0.trans bl1
      clear bl1
      clear q0 z0 q1 z1 q2 z2 q3 z3 q4 z4 HH0 bx0
      refine (R2.out _).mono ?_
      rintro e v7 ⟨rfl, g7⟩
      have y7 := g7.size
      have hh1 := hg1.keep g7
      have lt1 := hh1.lt
      have bx1 : Below v1.heap.size w2 v7 := bb1.trans (g7.mono (by have := hg1.lt; omega))
      clear g7 bb1 hg1
      have q0 := (hh1.fr 11 (by omega)).c5
      have z0 := hh1.fz 104
      have q1 := (hh1.fr 11 (by omega)).c8
      have z1 := hh1.fz 107
      simp only [Nat.reduceMul, Nat.reduceAdd] at q0 q1
      have HH1 := Lib.hid hh1; clear hh1
      go_upto_region 11 with fail
      obtain ⟨x2, hx2⟩ : ∃ W, setsB2 v7 (v1.heap.size + 1) Y = W := ⟨_, rfl⟩
      obtain ⟨gs2, hg2, hgs2⟩ := setsB2_bad v7 (v1.heap.size + 1) Y _ HH1.out
      have bl2 := setsB2_below v7 (v1.heap.size + 1) Y v1.heap.size (by omega)
      rw [hx2] at hg2 bl2
      unfold setsB2 at hx2
      rw [hx2]
      clear hx2
      have HGS2 := Lib.hid hgs2; clear hgs2
      have bb2 : Below v1.heap.size w2 x2 := bx1.trans bl2
      clear bl2
      clear q0 z0 q1 z1 HH1 bx1
      have hbad : BadAt x2 (v1.heap.size + 1) badF := by
        refine ⟨fun k hk => ?_, hg2.fz, hg2.lt⟩
        have h := hg2.fr k hk
        rw [HGS2.out, HGS1.out, HGS0.out, ← HX.out, ← HY.out, badF_eq k hk] at h
        exact h
      have ltx := hbad.lt
      have HBAD := Lib.hid hbad
      clear hbad hg2 HGS0 HGS1 HGS2 R2
      go_wp2_with (fail)
      go_loopw [4] (fun i wq => ∃ k : Nat, k ≤ 12 ∧ i = .int .i64 k ∧ Below x2.heap.size x2 wq) (fun i _ => 12 - (intOf i).toNat)
      case atStart => exact ⟨0, by omega, rfl, Below.refl _ _⟩
      case round =>
        obtain ⟨k, hk, rfl, hq⟩ := hrel
        have hqs := hq.size
        by_cases hlt : k < 12
        · obtain ⟨hno, hbz⟩ := badF_ok k hlt
          have hfr := ((HBAD.out.keep hq).fr k hlt)
          have HQ := Lib.hid (HBAD.out.keep hq)
          generalize badF k = x at *
          have e1 := Encode_no x hno
          have e2 : x.code = 170 := by unfold Fr.code; rw [hno]; rfl
          have e3 := Wire_no x hno
          have D1 := fun W => Encode_any x (by omega) W
          have D2 := fun W => Wire_any x (by omega) W
          have D3 := fun W => Check_any x (by omega) W
          rw [e1, e2] at D1
          rw [e3, e2] at D2
          rw [e2] at D3
          simp only [S] at D1
          have D1 := Lib.hid D1
          have D2 := Lib.hid D2
          have D3 := Lib.hid D3
          clear e1 e2 e3 hno hbz
          have hlt0 : (0 : Int) ≤ (k : Int) := by omega
          have hlt1 : (k : Int) < 12 := by omega
          have hfr' := hfr
          obtain ⟨c0, c1, c2, c3, c4, c5, c6, c7, c8⟩ := hfr'
          go_wp2_with (fail)
          refine (D1.out _).mono ?_
          rintro e u1 ⟨rfl, k1⟩
          have l1 := k1.size
          have hf1 := hfr.turn (W' := u1) fun q _ _ => k1.cell (p := ⟨v1.heap.size + 1, q, none⟩) (by show v1.heap.size + 1 < _; omega)
          clear c0 c1 c2 c3 c4 c5 c6 c7 c8 hfr
          have hf1' := hf1
          obtain ⟨c0, c1, c2, c3, c4, c5, c6, c7, c8⟩ := hf1'
          go_wp2_with (fail)
          refine (D2.out _).mono ?_
          rintro e u2 ⟨rfl, k2⟩
          have l2 := k2.size
          have hf2 := hf1.turn (W' := u2) fun q _ _ => k2.cell (p := ⟨v1.heap.size + 1, q, none⟩) (by show v1.heap.size + 1 < _; omega)
          clear c0 c1 c2 c3 c4 c5 c6 c7 c8 hf1
          obtain ⟨c0, c1, c2, c3, c4, c5, c6, c7, c8⟩ := hf2
          go_wp2_with (fail)
          refine (D3.out _).mono ?_
          rintro e u3 ⟨rfl, k3⟩
          have hbk : Below x2.heap.size x2 u3 := ((hq.trans (k1.mono hqs)).trans (k2.mono (by omega))).trans (k3.mono (by omega))
          clear c0 c1 c2 c3 c4 c5 c6 c7 c8 k1 k2 k3
          go_wp2_with (fail)
          go_roundw
          case rel => exact ⟨k + 1, by omega, by go_num, hbk⟩
          case measure => simp [intOf]; omega
        · obtain rfl : k = 12 := by omega
          have B5 : Below w.heap.size w wr := (B1.trans ((bb2.trans (hq.mono (by omega))).mono y1))
          clear hq HBAD bb2
          have hw5 := B5.size
          go_wp2_with (fail)
          refine (R3.out _).mono ?_
          rintro e u1 ⟨rfl, k1⟩
          have l1 := k1.size
          have B6 : Below w.heap.size w u1 := B5.trans (k1.mono hw5)
          clear k1 B5 R3
          go_wp2_with (fail)
          refine (R4.out _).mono ?_
          rintro e u2 ⟨rfl, k2⟩
          have l2 := k2.size
          simp at l2
          have F9 := fr_keep (fr_box u1 fFull) (((Below.refl (u1.alloc (frB fFull)).heap.size (u1.alloc (frB fFull))).alloc (Nat.le_refl _) (frB Fr.none)).trans (k2.mono (by simp))) (by simp)
          have F10 := fr_keep (fr_box (u1.alloc (frB fFull)) Fr.none) k2 (by simp)
          rw [show (u1.alloc (frB fFull)).heap.size = u1.heap.size + 1 by simp] at F10
          have B7 : Below w.heap.size w u2 := ((B6.alloc (by omega) _).alloc (by simp; omega) _).trans (k2.mono (by simp; omega))
          clear k2 B6 R4
          go_wp2_with (fail)
          have zZ : Z.size = 60 := by rw [← HZZ.out, S_size, List.length_replicate]
          have zZ1 : Z.size ≤ 60 := by omega
          have zZ2 : 60 ≤ Z.size := by omega
          have HZS := Lib.hid zZ; clear zZ
          have hb7 := B7.size
          have K2 := Lib.hid B7; clear B7
          have HIX := Lib.hid (index7 Z HZZ.out)
          go_loopw [101] (fun i wq => ∃ k : Nat, k ≤ 7 ∧ i = .int .i64 k ∧ Below u2.heap.size u2 wq) (fun i _ => 7 - (intOf i).toNat)
          case atStart => exact ⟨0, by omega, rfl, Below.refl _ _⟩
          case round =>
            obtain ⟨k, hk, rfl, hq⟩ := hrel
            have hqs := hq.size
            by_cases hlt : k < 7
            · obtain ⟨x, hx, hno, hix⟩ := HIX.out k hlt
              have n1 : ((⟨#[0, 0, 0, 0, 0, 1, 0, 0, 0, 0, 0, 2]⟩ : ByteArray) ++ x).size ≤ 20 := by rw [ByteArray.size_append]; show 12 + _ ≤ _; omega
              have n2 : 60 ≤ (((⟨#[0, 0, 0, 0, 0, 1, 0, 0, 0, 0, 0, 2]⟩ : ByteArray) ++ x ++ Z).size : Int) := by rw [ByteArray.size_append]; omega
              have n3 : (((⟨#[0, 0, 0, 0, 0, 1, 0, 0, 0, 0, 0, 2]⟩ : ByteArray) ++ x ++ Z).extract 0 60).size ≤ 60 := by rw [ByteArray.size_extract]; omega
              have D1 := Lib.hid (fun W => Seal_any (((⟨#[0, 0, 0, 0, 0, 1, 0, 0, 0, 0, 0, 2]⟩ : ByteArray) ++ x ++ Z).extract 0 60) (by omega) W)
              have D2 := Lib.hid (fun W => malformed_true (sealB 0 (((⟨#[0, 0, 0, 0, 0, 1, 0, 0, 0, 0, 0, 2]⟩ : ByteArray) ++ x ++ Z).extract 0 60)) (by rw [sealB_size]; omega) hno W)
              clear hno n3
              go_wp2_with (fail)
              refine (D1.out _).mono ?_
              rintro e p1 ⟨rfl, k1⟩
              have l1 := k1.size
              go_wp2_with (fail)
              refine (D2.out _).mono ?_
              rintro e p2 ⟨rfl, k2⟩
              have hbk : Below u2.heap.size u2 p2 := (hq.trans (k1.mono hqs)).trans (k2.mono (by omega))
              clear k1 k2
              go_wp2_with (fail)
              go_roundw
              case rel => exact ⟨k + 1, by omega, by go_num, hbk⟩
              case measure => simp [intOf]; omega
            · obtain rfl : k = 7 := by omega
              have lq1 := F9
              have G9 := fr_keep F9 hq (by omega)
              have G10 := fr_keep F10 hq (by omega)
              have n1 : ((⟨#[0, 0, 0, 0, 0, 1, 0, 0, 0, 0, 0, 2]⟩ : ByteArray) ++ ⟨#[0, 0]⟩).size ≤ 14 := by decide
              have n2 : ((⟨#[0, 0, 0, 0, 0, 1, 0, 0, 0, 0, 0, 2]⟩ : ByteArray) ++ ⟨#[8, 0]⟩).size ≤ 14 := by decide
              have hXz : X.size ≤ 1501 := by rw [← HX.out, S_size, List.length_replicate]; omega
              have n3 : ((⟨#[0, 0, 0, 0, 0, 1, 0, 0, 0, 0, 0, 2]⟩ : ByteArray) ++ ⟨#[0, 0]⟩ ++ Z).size ≤ 2000 := by rw [ByteArray.size_append]; omega
              have n4 : ((⟨#[0, 0, 0, 0, 0, 1, 0, 0, 0, 0, 0, 2]⟩ : ByteArray) ++ ⟨#[8, 0]⟩ ++ X).size ≤ 2000 := by rw [ByteArray.size_append]; omega
              have n5 : (Z.extract 0 59).size ≤ 2000 := by rw [ByteArray.size_extract]; omega
              have n6 : 59 ≤ (Z.size : Int) := by omega
              have P1 := Lib.hid (fun W => back_true fFull fFull fFull_ok fFull_want W)
              have P2 := Lib.hid (fun W => size_true fFull 1542 fFull_ok fFull_wire W)
              have P3 := Lib.hid (fun W => back_true Fr.none Fr.none fNone_ok fNone_want W)
              have P4 := Lib.hid (fun W => size_true Fr.none 84 fNone_ok fNone_wire W)
              have P5 := Lib.hid (fun W => malformed_true ⟨#[]⟩ (by decide) known1 W)
              have P6 := Lib.hid (fun W => Seal_any (Z.extract 0 59) (small _ n5) W)
              have P7 := Lib.hid (fun W => malformed_true (sealB 0 (Z.extract 0 59)) (seal_small _ n5) (known2 Z HZZ.out) W)
              have P8 := Lib.hid (fun W => pseal3 Z HZZ.out W)
              have P9 := Lib.hid (fun W => pmal3 Z HZZ.out W)
              have P10 := Lib.hid (fun W => pseal4 X HX.out W)
              have P11 := Lib.hid (fun W => pmal4 X HX.out W)
              clear lq1 n3 n4 n5
              have bo1 : u1.heap.size + 1 < u2.heap.size := by omega
              go_wp2_with (fail)
              refine (C1.out _).mono ?_
              rintro e p1 ⟨rfl, k1⟩
              have l1 := k1.size
              have E1 : Below u2.heap.size u2 p1 := hq.trans (k1.mono (by omega))
              have Q9 := fr_keep G9 k1 (by omega)
              have Q10 := fr_keep G10 k1 (by omega)
              clear G9 G10 F9 F10 k1
              have Q9' := Q9
              obtain ⟨c0, c1, c2, c3, c4, c5, c6, c7, c8⟩ := Q9'
              go_wp2_with (fail)
              refine (P1.out _).mono ?_
              rintro e p2 ⟨rfl, k2⟩
              have l2 := k2.size
              have E2 : Below u2.heap.size u2 p2 := E1.trans (k2.mono (by omega))
              have R9 := fr_keep Q9 k2 (by omega)
              have R10 := fr_keep Q10 k2 (by omega)
              clear c0 c1 c2 c3 c4 c5 c6 c7 c8 Q9 Q10 k2
              obtain ⟨c0, c1, c2, c3, c4, c5, c6, c7, c8⟩ := R9
              go_wp2_with (fail)
              refine (P2.out _).mono ?_
              rintro e p3 ⟨rfl, k3⟩
              have l3 := k3.size
              have E3 : Below u2.heap.size u2 p3 := E2.trans (k3.mono (by omega))
              have S10 := fr_keep R10 k3 (by omega)
              clear c0 c1 c2 c3 c4 c5 c6 c7 c8 R10 k3
              have S10' := S10
              obtain ⟨c0, c1, c2, c3, c4, c5, c6, c7, c8⟩ := S10'
              go_wp2_with (fail)
              refine (P3.out _).mono ?_
              rintro e p4 ⟨rfl, k4⟩
              have l4 := k4.size
              have E4 : Below u2.heap.size u2 p4 := E3.trans (k4.mono (by omega))
              have T10 := fr_keep S10 k4 (by omega)
              clear c0 c1 c2 c3 c4 c5 c6 c7 c8 S10 k4
              obtain ⟨c0, c1, c2, c3, c4, c5, c6, c7, c8⟩ := T10
              go_wp2_with (fail)
              refine (P4.out _).mono ?_
              rintro e p5 ⟨rfl, k5⟩
              have l5 := k5.size
              have E5 : Below u2.heap.size u2 p5 := E4.trans (k5.mono (by omega))
              clear c0 c1 c2 c3 c4 c5 c6 c7 c8 k5
              go_wp2_with (fail)
              refine (P5.out _).mono ?_
              rintro e p6 ⟨rfl, k6⟩
              have l6 := k6.size
              have E6 : Below u2.heap.size u2 p6 := E5.trans (k6.mono (by omega))
              clear k6
              go_wp2_with (fail)
              refine (P6.out _).mono ?_
              rintro e p7 ⟨rfl, k7⟩
              have l7 := k7.size
              have E7 : Below u2.heap.size u2 p7 := E6.trans (k7.mono (by omega))
              clear k7
              go_wp2_with (fail)
              refine (P7.out _).mono ?_
              rintro e p8 ⟨rfl, k8⟩
              have l8 := k8.size
              have E8 : Below u2.heap.size u2 p8 := E7.trans (k8.mono (by omega))
              clear k8
              go_wp2_with (fail)
              refine (P8.out _).mono ?_
              rintro e p9 ⟨rfl, k9⟩
              have l9 := k9.size
              have E9 : Below u2.heap.size u2 p9 := E8.trans (k9.mono (by omega))
              clear k9
              go_wp2_with (fail)
              refine (P9.out _).mono ?_
              rintro e p10 ⟨rfl, k10⟩
              have l10 := k10.size
              have E10 : Below u2.heap.size u2 p10 := E9.trans (k10.mono (by omega))
              clear k10
              go_wp2_with (fail)
              refine (R1.out _).mono ?_
              rintro e p11 ⟨rfl, k11⟩
              have l11 := k11.size
              have E11 : Below u2.heap.size u2 p11 := E10.trans (k11.mono (by omega))
              clear k11
              go_wp2_with (fail)
              refine (P10.out _).mono ?_
              rintro e p12 ⟨rfl, k12⟩
              have l12 := k12.size
              have E12 : Below u2.heap.size u2 p12 := E11.trans (k12.mono (by omega))
              clear k12
              go_wp2_with (fail)
              refine (P11.out _).mono ?_
              rintro e p13 ⟨rfl, k13⟩
              have l13 := k13.size
              have E13 : Below u2.heap.size u2 p13 := E12.trans (k13.mono (by omega))
              clear k13
              go_wp2_with (fail)
              go_ret
              exact ⟨rfl, K2.out.trans (E13.mono hb7)⟩
namespace frameKnown
open Go.ChangeShapes Go.WideShapes Go.ChangeAt Go.RowKit
open Go.ChangeMaps (open_string shut_string)
theorem own : ownKnob Try.prog.godebug = none := by kernel_rfl
theorem laidOut : laidOutB Try.prog = true := by kernel_rfl

set_option maxRecDepth 100000 in
theorem lifted (os : Os) (started : os.Started) (H : Type) (enc : TypeId × Value → H) :
    ReturnsInHanded {} Try.checked os 8 .any (Rows.frameKnownSpec.pre6 enc Try.prog Try.f8 Rows.frameKnownRow.domain false) (Rows.frameKnownSpec.post enc Try.prog Try.f8 false true false false) := by
  refine returnsInHanded_of_change (C := Try.checked) own started (by kernel_rfl) Try.func8
    (ChangeSpec.witness6 (enc := enc) (C := Try.checked) false ⟨#[], #[], []⟩ 8 (by kernel_rfl) (by kernel_rfl) (by kernel_rfl) (by kernel_rfl)) ?_
  intro W base args ds gs before hval0 hW hcnd _
  have hval : ∀ (j : Nat) t v, Try.f8.params[j]? = some t → args[j]? = some v → Value.okWide Try.prog W .any base t v := hval0
  have hW' := hW
  obtain ⟨p, q, hA0, hV, rfl, hfz, hnd⟩ := hW
  have hA : DataW.TrodAll enc Try.prog W 0 (fun _ => true) true Try.f8.params.toList args.toList ds p := hA0
  rw [Try.params8] at hA hval
  obtain ⟨rfl, rfl, rfl⟩ := trodAll_none hA
  obtain ⟨rfl, rfl⟩ := trodVars_none hV
  clear hA0 hval0
  refine (frameKnown_walk  W).mono fun e W' ⟨he, bel⟩ => ?_
  subst he
  exact ⟨_, rfl, _, _, _, [], [], [], hW', trodAll_mk1 (shut_bool Try.underlying4 _), trodAll_mk0, rfl, bel.frame _, fun h => by cases h⟩

theorem over : Rows.frameKnownRow.holds Try.pinned (OpenSpec.ofChange Rows.frameKnownSpec) :=
  OpenClaim.holds_of_wide 8 Try.f8 rfl rfl rfl rfl rfl rfl rfl ⟨rfl, rfl, rfl, rfl, rfl⟩ rfl rfl rfl rfl rfl (by kernel_rfl) Try.func8 (by kernel_rfl)
    (of_decide_eq_true (by kernel_rfl)) (by unfold Func.isWrapper; first | (rw [if_pos (by decide +kernel)]; kernel_rfl) | (rw [if_neg (by decide +kernel)]; exact ⟨rfl, rfl⟩))
    (fun os started H enc _ => lifted os started H enc)

theorem proved : Rows.FrameKnownSaid := over
#print axioms proved
end frameKnown
end Go.Proofs.Ytccdhoboidneeaa
