/-
  The contract of frame.Decode.
-/
import Derived.Test.YtccdhoboidneeaaFrame11
import Derived.Test.YtccdhoboidneeaaFrame10
namespace Go.Proofs.Ytccdhoboidneeaa
open Go.RowKit
set_option linter.unusedVariables false

theorem Decode_short (s : ByteArray) (hs : s.size ≤ 9000000000000000000) (h : ¬ (64 ≤ s.size ∧ s.size ≤ 1522)) (w : World) :
    Calls Try.prog 24 #[.string s] w (Ret2 (.agg #[.int .i64 0, .int .i64 0, .bool false, .int .i64 0, .int .i64 0, .bool false, .int .i64 0, .int .i64 0, .string ⟨#[]⟩]) (.int .i64 5) w) := by
  have hmf : ∀ (fn : Fn) (first cap : Array Value) (w : World), (Instr.makeFunc fn first cap).run Try.prog w = .ok (.func fn first cap) w := fun _ _ _ _ => rfl
  have hi := fun W => inside_no ((s.size : Int) + 20 - 84) 1458 (by omega) W
  have HI := Lib.hid hi; clear hi
  go_enter_defers Try.func24, Try.ntmps24
  go_wp2_with (fail)
  refine (HI.out _).mono ?_
  rintro e w1 ⟨rfl, rfl⟩
  go_wp2_with (fail)
  refine leaves_cons (f := 42) (args := #[.pointer (some ⟨w.heap.size, 0, none⟩), .pointer (some ⟨w.heap.size + 1, 0, none⟩)]) (by simp) (by simp [go_sem]) ?_
  refine (catch_idle _ _ _).mono ?_
  rintro e u' w'' ⟨rfl, rfl, rfl⟩
  simp [Leaves, settle, results, Try.results24, go_sem]
  exact ⟨rfl, (by repeat' (first | exact Below.refl _ _ | assumption | refine below_drewN ?_ _ | refine Below.drew ?_ | refine Below.alloc ?_ (by (first | exact Nat.le_refl _ | assumption | (simp; done) | omega | (simp; omega))) _ | refine Below.setCell ?_ (by (first | exact Nat.le_refl _ | assumption | (simp; done) | omega | (simp; omega))) _ | refine Below.trans ?_ (Below.mono (by assumption) (by (first | exact Nat.le_refl _ | assumption | (simp; done) | omega | (simp; omega))))))⟩
theorem txt_ext (s : ByteArray) : (s.extract 0 (s.size - 4)).data.toList = txt s := by
  unfold txt
  rw [ByteArray.data_extract, Array.toList_extract, List.extract_eq_take_drop, Nat.sub_zero, List.drop_zero]
theorem dec_first (w : World) : FrAt ((w.alloc (.cells #[.int .i64 0, .int .i64 0, .bool false, .int .i64 0, .int .i64 0, .bool false, .int .i64 0, .int .i64 0, .string ⟨#[]⟩] 27)).alloc (.cells #[.int .i64 0] 29)) w.heap.size Fr.none ∧
    (∀ j, ((w.alloc (.cells #[.int .i64 0, .int .i64 0, .bool false, .int .i64 0, .int .i64 0, .bool false, .int .i64 0, .int .i64 0, .string ⟨#[]⟩] 27)).alloc (.cells #[.int .i64 0] 29)).frozen? ⟨w.heap.size, j, none⟩ = false) ∧
    ((w.alloc (.cells #[.int .i64 0, .int .i64 0, .bool false, .int .i64 0, .int .i64 0, .bool false, .int .i64 0, .int .i64 0, .string ⟨#[]⟩] 27)).alloc (.cells #[.int .i64 0] 29)).cell? ⟨w.heap.size + 1, 0, none⟩ = some (.int .i64 0) ∧
    ((w.alloc (.cells #[.int .i64 0, .int .i64 0, .bool false, .int .i64 0, .int .i64 0, .bool false, .int .i64 0, .int .i64 0, .string ⟨#[]⟩] 27)).alloc (.cells #[.int .i64 0] 29)).frozen? ⟨w.heap.size + 1, 0, none⟩ = false :=
  ⟨⟨by simp [Fr.none], by simp [Fr.none], by simp [Fr.none], by simp [Fr.none], by simp [Fr.none], by simp [Fr.none], by simp [Fr.none], by simp [Fr.none], by simp [Fr.none, S]⟩, fun j => by simp, by simp, by simp⟩
theorem Decode_bad (s : ByteArray) (h : 64 ≤ s.size ∧ s.size ≤ 1522) (hb : pBad (txt s) = true) (w : World) :
    Calls Try.prog 24 #[.string s] w (Ret2 (.agg #[.int .i64 0, .int .i64 0, .bool false, .int .i64 0, .int .i64 0, .bool false, .int .i64 0, .int .i64 0, .string ⟨#[]⟩]) (.int .i64 5) w) := by
  have hmf : ∀ (fn : Fn) (first cap : Array Value) (w : World), (Instr.makeFunc fn first cap).run Try.prog w = .ok (.func fn first cap) w := fun _ _ _ _ => rfl
  have hi := fun W => inside_yes ((s.size : Int) + 20 - 84) 1458 (by omega) (by omega) W
  have HI := Lib.hid hi; clear hi
  have hz : (s.extract 0 (s.size - 4)).size = s.size - 4 := by rw [ByteArray.size_extract]; omega
  rw [← txt_ext] at hb
  have hp := fun W => parse_bad (s.extract 0 (s.size - 4)) (by omega) (by omega) hb W
  have HP := Lib.hid hp; clear hp hb
  go_enter_defers Try.func24, Try.ntmps24
  go_wp2_with (fail)
  refine (HI.out _).mono ?_
  rintro e w1 ⟨rfl, rfl⟩
  go_wp2_with (fail)
  refine (HP.out _).mono ?_
  rintro e w1 ⟨rfl, hb1⟩
  obtain ⟨f1, f2, f3, f4⟩ := dec_first w
  have g1 := fr_keep f1 hb1 (by simp; omega)
  have g2 := fun j => (hb1.frozen (p := ⟨w.heap.size, j, none⟩) (by simp; omega)).trans (f2 j)
  have g3 := (hb1.cell (p := ⟨w.heap.size + 1, 0, none⟩) (by simp)).trans f3
  have g4 := (hb1.frozen (p := ⟨w.heap.size + 1, 0, none⟩) (by simp)).trans f4
  have b1 : Below w.heap.size w w1 := (by repeat' (first | exact Below.refl _ _ | assumption | refine below_drewN ?_ _ | refine Below.drew ?_ | refine Below.alloc ?_ (by (first | exact Nat.le_refl _ | assumption | (simp; done) | omega | (simp; omega))) _ | refine Below.setCell ?_ (by (first | exact Nat.le_refl _ | assumption | (simp; done) | omega | (simp; omega))) _ | refine Below.trans ?_ (Below.mono (by assumption) (by (first | exact Nat.le_refl _ | assumption | (simp; done) | omega | (simp; omega))))))
  clear f1 f2 f3 f4
  go_wp2_with (fail)
  refine leaves_cons (f := 42) (args := #[.pointer (some ⟨w.heap.size, 0, none⟩), .pointer (some ⟨w.heap.size + 1, 0, none⟩)]) (by simp) (by simp [go_sem]) ?_
  refine (catch_panicking w.heap.size (w.heap.size + 1) Fr.none 0 _ _ [] _ g1 g2 g3 g4 (by omega) w.heap.size (Nat.le_refl _) (by omega)).mono ?_
  rintro e u' w2 ⟨rfl, rfl, ⟨c0, c1, c2, c3, c4, c5, c6, c7, c8⟩, he, hb2⟩
  simp [Fr.none] at c0 c1 c2 c3 c4 c5 c6 c7 c8
  simp [Leaves, settle, results, Try.results24, go_sem, c0, c1, c2, c3, c4, c5, c6, c7, c8, he]
  exact ⟨rfl, b1.trans hb2⟩

/-- The frame f is laid into block F. -/
def put9 (W : World) (F : Nat) (f : Fr) : World := (((((((((W.setCell ⟨F, 0, none⟩ (.int .i64 f.dst)).setCell ⟨F, 1, none⟩ (.int .i64 f.src)).setCell ⟨F, 2, none⟩ (.bool f.tag)).setCell ⟨F, 3, none⟩ (.int .i64 f.prio)).setCell ⟨F, 4, none⟩ (.int .i64 f.vid)).setCell ⟨F, 5, none⟩ (.bool f.hseq)).setCell ⟨F, 6, none⟩ (.int .i64 f.seq)).setCell ⟨F, 7, none⟩ (.int .i64 f.type)).setCell ⟨F, 8, none⟩ (.string f.data))
theorem put9_fr (W : World) (F : Nat) (g f : Fr) (hg : FrAt W F g) : FrAt (put9 W F f) F f := by
  obtain ⟨c0, c1, c2, c3, c4, c5, c6, c7, c8⟩ := hg
  unfold put9
  refine ⟨?_, ?_, ?_, ?_, ?_, ?_, ?_, ?_, ?_⟩
  all_goals simp [go_sem, c0, c1, c2, c3, c4, c5, c6, c7, c8]
theorem put9_frozen (W : World) (F : Nat) (f : Fr) (b j : Nat) : (put9 W F f).frozen? ⟨b, j, none⟩ = W.frozen? ⟨b, j, none⟩ := by
  unfold put9; simp only [World.frozen?_setCell]
theorem put9_cell (W : World) (F : Nat) (f : Fr) (b j : Nat) (h : b ≠ F) : (put9 W F f).cell? ⟨b, j, none⟩ = W.cell? ⟨b, j, none⟩ := by
  have hne : ∀ i : Nat, (⟨b, j, none⟩ : Addr) ≠ ⟨F, i, none⟩ := fun i e => h (by injection e)
  have e : ∀ (X : World) (i : Nat) (v : Value), (X.setCell ⟨F, i, none⟩ v).cell? ⟨b, j, none⟩ = X.cell? ⟨b, j, none⟩ := fun X i v => World.cell?_setCell_other _ _ _ _ (by intro e; injection e with e _; exact h e.symm)
  unfold put9
  simp only [e]
theorem put9_below (W : World) (F : Nat) (f : Fr) (n : Nat) (hn : n ≤ F) : Below n W (put9 W F f) := by
  unfold put9
  exact ((((((((((Below.refl n W).setCell (p := ⟨F, 0, none⟩) hn _).setCell (p := ⟨F, 1, none⟩) hn _).setCell (p := ⟨F, 2, none⟩) hn _).setCell (p := ⟨F, 3, none⟩) hn _).setCell (p := ⟨F, 4, none⟩) hn _).setCell (p := ⟨F, 5, none⟩) hn _).setCell (p := ⟨F, 6, none⟩) hn _).setCell (p := ⟨F, 7, none⟩) hn _).setCell (p := ⟨F, 8, none⟩) hn _)

theorem Decode_no (s : ByteArray) (h : 64 ≤ s.size ∧ s.size ≤ 1522) (hb : pBad (txt s) = false) (f : Fr) (hf : f = pFr (txt s)) (hn : f.ok = false) (w : World) :
    Calls Try.prog 24 #[.string s] w (Ret2 (.agg #[.int .i64 0, .int .i64 0, .bool false, .int .i64 0, .int .i64 0, .bool false, .int .i64 0, .int .i64 0, .string ⟨#[]⟩]) (.int .i64 5) w) := by
  have hmf : ∀ (fn : Fn) (first cap : Array Value) (w : World), (Instr.makeFunc fn first cap).run Try.prog w = .ok (.func fn first cap) w := fun _ _ _ _ => rfl
  have hi := fun W => inside_yes ((s.size : Int) + 20 - 84) 1458 (by omega) (by omega) W
  have HI := Lib.hid hi; clear hi
  have hz : (s.extract 0 (s.size - 4)).size = s.size - 4 := by rw [ByteArray.size_extract]; omega
  rw [← txt_ext] at hb hf
  have hp := fun W => parse_good (s.extract 0 (s.size - 4)) (by omega) (by omega) hb f hf W
  have hfs : f.data.size ≤ 9000000000000000000 := by
    rw [hf]
    have hl : (s.extract 0 (s.size - 4)).data.toList.length ≤ 1522 := by rw [← Lib.size_eq]; omega
    unfold pFr
    simp only
    split
    · rw [S_size, List.length_drop]; omega
    · rw [S_size, List.length_take, List.length_drop]; omega
  have HP := Lib.hid hp; clear hp hb hf
  have hc : f.code = if f.ok then 0 else 170 := rfl
  have hE := fun W => Encode_any f hfs W
  rw [hc, hn] at hE
  simp at hE
  clear hc hn hfs
  have HE := Lib.hid hE; clear hE
  generalize f.enc = en at *
  skip
  go_enter_defers Try.func24, Try.ntmps24
  go_wp2_with (fail)
  refine (HI.out _).mono ?_
  rintro e w1 ⟨rfl, rfl⟩
  go_wp2_with (fail)
  refine (HP.out _).mono ?_
  rintro e w1 ⟨rfl, hb1⟩
  obtain ⟨f1, f2, f3, f4⟩ := dec_first w
  have g1 := fr_keep f1 hb1 (by simp; omega)
  have g2 := fun j => (hb1.frozen (p := ⟨w.heap.size, j, none⟩) (by simp; omega)).trans (f2 j)
  have g3 := (hb1.cell (p := ⟨w.heap.size + 1, 0, none⟩) (by simp)).trans f3
  have g4 := (hb1.frozen (p := ⟨w.heap.size + 1, 0, none⟩) (by simp)).trans f4
  have b1 : Below w.heap.size w w1 := (by repeat' (first | exact Below.refl _ _ | assumption | refine below_drewN ?_ _ | refine Below.drew ?_ | refine Below.alloc ?_ (by (first | exact Nat.le_refl _ | assumption | (simp; done) | omega | (simp; omega))) _ | refine Below.setCell ?_ (by (first | exact Nat.le_refl _ | assumption | (simp; done) | omega | (simp; omega))) _ | refine Below.trans ?_ (Below.mono (by assumption) (by (first | exact Nat.le_refl _ | assumption | (simp; done) | omega | (simp; omega))))))
  have s1 := hb1.size
  simp at s1
  clear f1 f2 f3 f4 hb1
  have p1 := put9_fr w1 w.heap.size Fr.none f g1
  have p2 := fun j => (put9_frozen w1 w.heap.size f w.heap.size j).trans (g2 j)
  have p3 := (put9_cell w1 w.heap.size f (w.heap.size + 1) 0 (by omega)).trans g3
  have p4 := (put9_frozen w1 w.heap.size f (w.heap.size + 1) 0).trans g4
  have p5 := put9_below w1 w.heap.size f w.heap.size (Nat.le_refl _)
  have p6 := p5.size
  obtain ⟨c0, c1, c2, c3, c4, c5, c6, c7, c8⟩ := g1
  have z0 := g2 0
  have z1 := g2 1
  have z2 := g2 2
  have z3 := g2 3
  have z4 := g2 4
  have z5 := g2 5
  have z6 := g2 6
  have z7 := g2 7
  have z8 := g2 8
  go_wp2_with (fail)
  change Calls _ _ _ (put9 w1 w.heap.size f) _
  generalize put9 w1 w.heap.size f = wr at *
  clear c0 c1 c2 c3 c4 c5 c6 c7 c8 z0 z1 z2 z3 z4 z5 z6 z7 z8 g2 g3 g4
  refine (HE.out _).mono ?_
  rintro e w2 ⟨rfl, hb2⟩
  obtain ⟨c0, c1, c2, c3, c4, c5, c6, c7, c8⟩ := fr_keep p1 hb2 (by omega)
  have ce := (hb2.cell (p := ⟨w.heap.size + 1, 0, none⟩) (by simp; omega)).trans p3
  have ze := (hb2.frozen (p := ⟨w.heap.size + 1, 0, none⟩) (by simp; omega)).trans p4
  have q2 := fun j => (hb2.frozen (p := ⟨w.heap.size, j, none⟩) (by simp; omega)).trans (p2 j)
  have z0 := q2 0
  have z1 := q2 1
  have z2 := q2 2
  have z3 := q2 3
  have z4 := q2 4
  have z5 := q2 5
  have z6 := q2 6
  have z7 := q2 7
  have z8 := q2 8
  have b2 : Below w.heap.size w w2 := (b1.trans p5).trans (hb2.mono (by omega))
  clear p1 p2 p3 p4 p5 q2
  go_wp2_with (fail)
  refine leaves_cons (f := 42) (args := #[.pointer (some ⟨w.heap.size, 0, none⟩), .pointer (some ⟨w.heap.size + 1, 0, none⟩)]) (by simp) (by simp [go_sem]) ?_
  refine (catch_idle _ _ _).mono ?_
  rintro e u' w'' ⟨rfl, rfl, rfl⟩
  simp [Leaves, settle, results, Try.results24, go_sem, c0, c1, c2, c3, c4, c5, c6, c7, c8, ce]
  exact ⟨rfl, b2.trans ((put9_below w2 w.heap.size Fr.none w.heap.size (Nat.le_refl _)).setCell (p := ⟨w.heap.size + 1, 0, none⟩) (by simp) _)⟩
theorem Decode_ne (s : ByteArray) (h : 64 ≤ s.size ∧ s.size ≤ 1522) (hb : pBad (txt s) = false) (f : Fr) (hf : f = pFr (txt s)) (hn : f.ok = true) (hq : f.enc ≠ s) (w : World) :
    Calls Try.prog 24 #[.string s] w (Ret2 (.agg #[.int .i64 0, .int .i64 0, .bool false, .int .i64 0, .int .i64 0, .bool false, .int .i64 0, .int .i64 0, .string ⟨#[]⟩]) (.int .i64 5) w) := by
  have hmf : ∀ (fn : Fn) (first cap : Array Value) (w : World), (Instr.makeFunc fn first cap).run Try.prog w = .ok (.func fn first cap) w := fun _ _ _ _ => rfl
  have hi := fun W => inside_yes ((s.size : Int) + 20 - 84) 1458 (by omega) (by omega) W
  have HI := Lib.hid hi; clear hi
  have hz : (s.extract 0 (s.size - 4)).size = s.size - 4 := by rw [ByteArray.size_extract]; omega
  rw [← txt_ext] at hb hf
  have hp := fun W => parse_good (s.extract 0 (s.size - 4)) (by omega) (by omega) hb f hf W
  have hfs : f.data.size ≤ 9000000000000000000 := by
    rw [hf]
    have hl : (s.extract 0 (s.size - 4)).data.toList.length ≤ 1522 := by rw [← Lib.size_eq]; omega
    unfold pFr
    simp only
    split
    · rw [S_size, List.length_drop]; omega
    · rw [S_size, List.length_take, List.length_drop]; omega
  have HP := Lib.hid hp; clear hp hb hf
  have hc : f.code = if f.ok then 0 else 170 := rfl
  have hE := fun W => Encode_any f hfs W
  rw [hc, hn] at hE
  simp at hE
  clear hc hn hfs
  have HE := Lib.hid hE; clear hE
  generalize f.enc = en at *
  have hqb := ba_ne hq
  go_enter_defers Try.func24, Try.ntmps24
  go_wp2_with (fail)
  refine (HI.out _).mono ?_
  rintro e w1 ⟨rfl, rfl⟩
  go_wp2_with (fail)
  refine (HP.out _).mono ?_
  rintro e w1 ⟨rfl, hb1⟩
  obtain ⟨f1, f2, f3, f4⟩ := dec_first w
  have g1 := fr_keep f1 hb1 (by simp; omega)
  have g2 := fun j => (hb1.frozen (p := ⟨w.heap.size, j, none⟩) (by simp; omega)).trans (f2 j)
  have g3 := (hb1.cell (p := ⟨w.heap.size + 1, 0, none⟩) (by simp)).trans f3
  have g4 := (hb1.frozen (p := ⟨w.heap.size + 1, 0, none⟩) (by simp)).trans f4
  have b1 : Below w.heap.size w w1 := (by repeat' (first | exact Below.refl _ _ | assumption | refine below_drewN ?_ _ | refine Below.drew ?_ | refine Below.alloc ?_ (by (first | exact Nat.le_refl _ | assumption | (simp; done) | omega | (simp; omega))) _ | refine Below.setCell ?_ (by (first | exact Nat.le_refl _ | assumption | (simp; done) | omega | (simp; omega))) _ | refine Below.trans ?_ (Below.mono (by assumption) (by (first | exact Nat.le_refl _ | assumption | (simp; done) | omega | (simp; omega))))))
  have s1 := hb1.size
  simp at s1
  clear f1 f2 f3 f4 hb1
  have p1 := put9_fr w1 w.heap.size Fr.none f g1
  have p2 := fun j => (put9_frozen w1 w.heap.size f w.heap.size j).trans (g2 j)
  have p3 := (put9_cell w1 w.heap.size f (w.heap.size + 1) 0 (by omega)).trans g3
  have p4 := (put9_frozen w1 w.heap.size f (w.heap.size + 1) 0).trans g4
  have p5 := put9_below w1 w.heap.size f w.heap.size (Nat.le_refl _)
  have p6 := p5.size
  obtain ⟨c0, c1, c2, c3, c4, c5, c6, c7, c8⟩ := g1
  have z0 := g2 0
  have z1 := g2 1
  have z2 := g2 2
  have z3 := g2 3
  have z4 := g2 4
  have z5 := g2 5
  have z6 := g2 6
  have z7 := g2 7
  have z8 := g2 8
  go_wp2_with (fail)
  change Calls _ _ _ (put9 w1 w.heap.size f) _
  generalize put9 w1 w.heap.size f = wr at *
  clear c0 c1 c2 c3 c4 c5 c6 c7 c8 z0 z1 z2 z3 z4 z5 z6 z7 z8 g2 g3 g4
  refine (HE.out _).mono ?_
  rintro e w2 ⟨rfl, hb2⟩
  obtain ⟨c0, c1, c2, c3, c4, c5, c6, c7, c8⟩ := fr_keep p1 hb2 (by omega)
  have ce := (hb2.cell (p := ⟨w.heap.size + 1, 0, none⟩) (by simp; omega)).trans p3
  have ze := (hb2.frozen (p := ⟨w.heap.size + 1, 0, none⟩) (by simp; omega)).trans p4
  have q2 := fun j => (hb2.frozen (p := ⟨w.heap.size, j, none⟩) (by simp; omega)).trans (p2 j)
  have z0 := q2 0
  have z1 := q2 1
  have z2 := q2 2
  have z3 := q2 3
  have z4 := q2 4
  have z5 := q2 5
  have z6 := q2 6
  have z7 := q2 7
  have z8 := q2 8
  have b2 : Below w.heap.size w w2 := (b1.trans p5).trans (hb2.mono (by omega))
  clear p1 p2 p3 p4 p5 q2
  go_wp2_with (fail)
  refine leaves_cons (f := 42) (args := #[.pointer (some ⟨w.heap.size, 0, none⟩), .pointer (some ⟨w.heap.size + 1, 0, none⟩)]) (by simp) (by simp [go_sem]) ?_
  refine (catch_idle _ _ _).mono ?_
  rintro e u' w'' ⟨rfl, rfl, rfl⟩
  simp [Leaves, settle, results, Try.results24, go_sem, c0, c1, c2, c3, c4, c5, c6, c7, c8, ce]
  exact ⟨rfl, b2.trans ((put9_below w2 w.heap.size Fr.none w.heap.size (Nat.le_refl _)).setCell (p := ⟨w.heap.size + 1, 0, none⟩) (by simp) _)⟩
theorem Decode_yes (s : ByteArray) (h : 64 ≤ s.size ∧ s.size ≤ 1522) (hb : pBad (txt s) = false) (f : Fr) (hf : f = pFr (txt s)) (hn : f.ok = true) (hq : f.enc = s) (w : World) :
    Calls Try.prog 24 #[.string s] w (Ret2 (.agg #[.int .i64 f.dst, .int .i64 f.src, .bool f.tag, .int .i64 f.prio, .int .i64 f.vid, .bool f.hseq, .int .i64 f.seq, .int .i64 f.type, .string f.data]) (.int .i64 0) w) := by
  have hmf : ∀ (fn : Fn) (first cap : Array Value) (w : World), (Instr.makeFunc fn first cap).run Try.prog w = .ok (.func fn first cap) w := fun _ _ _ _ => rfl
  have hi := fun W => inside_yes ((s.size : Int) + 20 - 84) 1458 (by omega) (by omega) W
  have HI := Lib.hid hi; clear hi
  have hz : (s.extract 0 (s.size - 4)).size = s.size - 4 := by rw [ByteArray.size_extract]; omega
  rw [← txt_ext] at hb hf
  have hp := fun W => parse_good (s.extract 0 (s.size - 4)) (by omega) (by omega) hb f hf W
  have hfs : f.data.size ≤ 9000000000000000000 := by
    rw [hf]
    have hl : (s.extract 0 (s.size - 4)).data.toList.length ≤ 1522 := by rw [← Lib.size_eq]; omega
    unfold pFr
    simp only
    split
    · rw [S_size, List.length_drop]; omega
    · rw [S_size, List.length_take, List.length_drop]; omega
  have HP := Lib.hid hp; clear hp hb hf
  have hc : f.code = if f.ok then 0 else 170 := rfl
  have hE := fun W => Encode_any f hfs W
  rw [hc, hn] at hE
  simp at hE
  clear hc hn hfs
  have HE := Lib.hid hE; clear hE
  generalize f.enc = en at *
  skip
  go_enter_defers Try.func24, Try.ntmps24
  go_wp2_with (fail)
  refine (HI.out _).mono ?_
  rintro e w1 ⟨rfl, rfl⟩
  go_wp2_with (fail)
  refine (HP.out _).mono ?_
  rintro e w1 ⟨rfl, hb1⟩
  obtain ⟨f1, f2, f3, f4⟩ := dec_first w
  have g1 := fr_keep f1 hb1 (by simp; omega)
  have g2 := fun j => (hb1.frozen (p := ⟨w.heap.size, j, none⟩) (by simp; omega)).trans (f2 j)
  have g3 := (hb1.cell (p := ⟨w.heap.size + 1, 0, none⟩) (by simp)).trans f3
  have g4 := (hb1.frozen (p := ⟨w.heap.size + 1, 0, none⟩) (by simp)).trans f4
  have b1 : Below w.heap.size w w1 := (by repeat' (first | exact Below.refl _ _ | assumption | refine below_drewN ?_ _ | refine Below.drew ?_ | refine Below.alloc ?_ (by (first | exact Nat.le_refl _ | assumption | (simp; done) | omega | (simp; omega))) _ | refine Below.setCell ?_ (by (first | exact Nat.le_refl _ | assumption | (simp; done) | omega | (simp; omega))) _ | refine Below.trans ?_ (Below.mono (by assumption) (by (first | exact Nat.le_refl _ | assumption | (simp; done) | omega | (simp; omega))))))
  have s1 := hb1.size
  simp at s1
  clear f1 f2 f3 f4 hb1
  have p1 := put9_fr w1 w.heap.size Fr.none f g1
  have p2 := fun j => (put9_frozen w1 w.heap.size f w.heap.size j).trans (g2 j)
  have p3 := (put9_cell w1 w.heap.size f (w.heap.size + 1) 0 (by omega)).trans g3
  have p4 := (put9_frozen w1 w.heap.size f (w.heap.size + 1) 0).trans g4
  have p5 := put9_below w1 w.heap.size f w.heap.size (Nat.le_refl _)
  have p6 := p5.size
  obtain ⟨c0, c1, c2, c3, c4, c5, c6, c7, c8⟩ := g1
  have z0 := g2 0
  have z1 := g2 1
  have z2 := g2 2
  have z3 := g2 3
  have z4 := g2 4
  have z5 := g2 5
  have z6 := g2 6
  have z7 := g2 7
  have z8 := g2 8
  go_wp2_with (fail)
  change Calls _ _ _ (put9 w1 w.heap.size f) _
  generalize put9 w1 w.heap.size f = wr at *
  clear c0 c1 c2 c3 c4 c5 c6 c7 c8 z0 z1 z2 z3 z4 z5 z6 z7 z8 g2 g3 g4
  refine (HE.out _).mono ?_
  rintro e w2 ⟨rfl, hb2⟩
  obtain ⟨c0, c1, c2, c3, c4, c5, c6, c7, c8⟩ := fr_keep p1 hb2 (by omega)
  have ce := (hb2.cell (p := ⟨w.heap.size + 1, 0, none⟩) (by simp; omega)).trans p3
  have ze := (hb2.frozen (p := ⟨w.heap.size + 1, 0, none⟩) (by simp; omega)).trans p4
  have q2 := fun j => (hb2.frozen (p := ⟨w.heap.size, j, none⟩) (by simp; omega)).trans (p2 j)
  have z0 := q2 0
  have z1 := q2 1
  have z2 := q2 2
  have z3 := q2 3
  have z4 := q2 4
  have z5 := q2 5
  have z6 := q2 6
  have z7 := q2 7
  have z8 := q2 8
  have b2 : Below w.heap.size w w2 := (b1.trans p5).trans (hb2.mono (by omega))
  clear p1 p2 p3 p4 p5 q2
  go_wp2_with (fail)
  refine leaves_cons (f := 42) (args := #[.pointer (some ⟨w.heap.size, 0, none⟩), .pointer (some ⟨w.heap.size + 1, 0, none⟩)]) (by simp) (by simp [go_sem]) ?_
  refine (catch_idle _ _ _).mono ?_
  rintro e u' w'' ⟨rfl, rfl, rfl⟩
  simp [Leaves, settle, results, Try.results24, go_sem, c0, c1, c2, c3, c4, c5, c6, c7, c8, ce]
  exact ⟨rfl, b2.trans ((put9_below w2 w.heap.size f w.heap.size (Nat.le_refl _)).setCell (p := ⟨w.heap.size + 1, 0, none⟩) (by simp) _)⟩

theorem Decode_any (s : ByteArray) (hs : s.size ≤ 9000000000000000000) (w : World) :
    Calls Try.prog 24 #[.string s] w (Ret2 (.agg #[.int .i64 (decF s).dst, .int .i64 (decF s).src, .bool (decF s).tag, .int .i64 (decF s).prio, .int .i64 (decF s).vid, .bool (decF s).hseq, .int .i64 (decF s).seq, .int .i64 (decF s).type, .string (decF s).data]) (.int .i64 (decE s)) w) := by
  have no : decOk s = false → decF s = Fr.none ∧ decE s = 5 := fun e => by unfold decF decE; rw [e]; exact ⟨rfl, rfl⟩
  by_cases h : 64 ≤ s.size ∧ s.size ≤ 1522
  · rcases hb : pBad (txt s) with _ | _
    · rcases hn : (pFr (txt s)).ok with _ | _
      · obtain ⟨e1, e2⟩ := no (by rw [← Bool.not_eq_true, decOk_iff, hn]; simp)
        rw [e1, e2]
        exact Decode_no s h hb _ rfl hn w
      · by_cases hq : (pFr (txt s)).enc = s
        · have hd : decOk s = true := by rw [decOk_iff]; exact ⟨h, hb, hn, hq⟩
          have e1 : decF s = pFr (txt s) := by unfold decF; rw [hd]; rfl
          have e2 : decE s = 0 := by unfold decE; rw [hd]; rfl
          rw [e1, e2]
          exact Decode_yes s h hb _ rfl hn hq w
        · obtain ⟨e1, e2⟩ := no (by rw [← Bool.not_eq_true, decOk_iff]; exact fun e => hq e.2.2.2)
          rw [e1, e2]
          exact Decode_ne s h hb _ rfl hn hq w
    · obtain ⟨e1, e2⟩ := no (by rw [← Bool.not_eq_true, decOk_iff, hb]; simp)
      rw [e1, e2]
      exact Decode_bad s h hb w
  · obtain ⟨e1, e2⟩ := no (by rw [← Bool.not_eq_true, decOk_iff]; exact fun e => h e.1)
    rw [e1, e2]
    exact Decode_short s hs h w
end Go.Proofs.Ytccdhoboidneeaa
