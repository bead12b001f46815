/-
  Contracts of frame.body, Encode and Wire.
-/
import Derived.Test.YtccdhoboidneeaaFrame1
namespace Go.Proofs.Ytccdhoboidneeaa
open Go.RowKit
set_option linter.unusedVariables false

/-- The frame f stands in block B. -/
structure FrAt (W : World) (B : Nat) (f : Fr) : Prop where
  c0 : W.cell? ⟨B, 0, none⟩ = some (.int .i64 f.dst)
  c1 : W.cell? ⟨B, 1, none⟩ = some (.int .i64 f.src)
  c2 : W.cell? ⟨B, 2, none⟩ = some (.bool f.tag)
  c3 : W.cell? ⟨B, 3, none⟩ = some (.int .i64 f.prio)
  c4 : W.cell? ⟨B, 4, none⟩ = some (.int .i64 f.vid)
  c5 : W.cell? ⟨B, 5, none⟩ = some (.bool f.hseq)
  c6 : W.cell? ⟨B, 6, none⟩ = some (.int .i64 f.seq)
  c7 : W.cell? ⟨B, 7, none⟩ = some (.int .i64 f.type)
  c8 : W.cell? ⟨B, 8, none⟩ = some (.string f.data)
theorem FrAt.turn {W W' : World} {B : Nat} {f : Fr} (h : FrAt W B f) (hk : ∀ j, W'.cell? ⟨B, j, none⟩ = W.cell? ⟨B, j, none⟩) : FrAt W' B f :=
  ⟨(hk 0).trans h.c0, (hk 1).trans h.c1, (hk 2).trans h.c2, (hk 3).trans h.c3, (hk 4).trans h.c4, (hk 5).trans h.c5, (hk 6).trans h.c6, (hk 7).trans h.c7, (hk 8).trans h.c8⟩

/-- While body works: the frame in block B, the octets that have been laid in block b. -/
structure St (w W : World) (B b : Nat) (f : Fr) (s : ByteArray) : Prop where
  fr : FrAt W B f
  sc : W.cell? ⟨b, 0, none⟩ = some (.string s)
  fz : W.frozen? ⟨b, 0, none⟩ = false
  bel : Below w.heap.size w W
  o1 : w.heap.size ≤ b
  o2 : B ≠ b
  o3 : B < W.heap.size
  o4 : b < W.heap.size
theorem St.add {w W w1 : World} {B b : Nat} {f : Fr} {s t : ByteArray} (h : St w W B b f s) (hb : Below W.heap.size W w1) : St w (w1.setCell ⟨b, 0, none⟩ (.string t)) B b f t := by
  have hs := hb.size
  have h3 := h.o3
  have h4 := h.o4
  have h2 := h.o2
  have hw := h.bel.size
  refine ⟨?_, ?_, ?_, ?_, h.o1, h2, ?_, ?_⟩
  · refine h.fr.turn fun j => ?_
    rw [World.cell?_setCell_other _ _ _ _ (by intro e; injection e with e _; exact h2 e.symm), hb.cell h3]
  · exact World.cell?_setCell_same' _ _ _ (by rw [hb.cell h4, h.sc]; rfl)
  · rw [World.frozen?_setCell, hb.frozen h4]; exact h.fz
  · exact Below.setCell (h.bel.trans (hb.mono hw)) h.o1 _
  · simp [World.setCell]; omega
  · simp [World.setCell]; omega

theorem add_st (w W : World) (B b : Nat) (f : Fr) (l : List UInt8) (h : St w W B b f (S l)) (n : Int) (k : Nat) (K : Int) (hK : K = k) (h1 : 1 ≤ k) (h7 : k ≤ 7) (h0 : 0 ≤ n) (hn : n ≤ lim k) (hl : l.length ≤ 4000) :
    Calls Try.prog 47 #[.int .i64 n, .int .i64 K, .pointer (some ⟨b, 0, none⟩)] W fun e W' => e = .returned (.tuple #[]) ∧ St w W' B b f (S (l ++ Wirem.be k n)) := by
  subst hK
  have hp : putS (S l) n k = S (l ++ Wirem.be k n) := by unfold putS; rw [if_neg (by omega), if_neg (by simpa using hn)]; rw [← S_append]; rfl
  have hP := fun W => Put_any (S l) n k (by rw [S_size]; omega) W
  rw [hp] at hP
  have HP := Lib.hid hP; clear hP
  have hst := fun w1 (hb : Below W.heap.size W w1) => h.add (t := S (l ++ Wirem.be k n)) hb
  have HST := Lib.hid hst; clear hst hp
  have hc := h.sc
  have hz := h.fz
  have ho := h.o4
  generalize S (l ++ Wirem.be k n) = t at *
  clear hn h1 h7 h0
  go_enter Try.func47, Try.ntmps47
  go_wp2_with (fail)
  refine (HP.out _).mono ?_
  rintro e w1 ⟨rfl, hb1⟩
  have g := (hb1.cell (p := ⟨b, 0, none⟩) ho).trans hc
  have z := (hb1.frozen (p := ⟨b, 0, none⟩) ho).trans hz
  go_wp2_with (fail)
  go_end0
  exact ⟨rfl, HST.out _ hb1⟩
theorem repeat_zero (n : Nat) : Lib.repeatL [0] n = List.replicate n 0 := by
  induction n with
  | zero => rfl
  | succ n ih => rw [Lib.repeatL, ih]; rfl
theorem lim6 : lim 6 = 281474976710655 := by decide
theorem lim2' : lim 2 = 65535 := by decide
theorem st_first (w : World) (f : Fr) : St w ((w.alloc (.cells #[.int .i64 f.dst, .int .i64 f.src, .bool f.tag, .int .i64 f.prio, .int .i64 f.vid, .bool f.hseq, .int .i64 f.seq, .int .i64 f.type, .string f.data] 27)).alloc (.cells #[.string ⟨#[]⟩] 9)) w.heap.size (w.heap.size + 1) f (S []) :=
  ⟨⟨by simp, by simp, by simp, by simp, by simp, by simp, by simp, by simp, by simp⟩, by simp; rfl, by simp, (by repeat' (first | exact Below.refl _ _ | assumption | refine below_drewN ?_ _ | refine Below.drew ?_ | refine Below.alloc ?_ (by (first | exact Nat.le_refl _ | assumption | (simp; done) | omega | (simp; omega))) _ | refine Below.setCell ?_ (by (first | exact Nat.le_refl _ | assumption | (simp; done) | omega | (simp; omega))) _ | refine Below.trans ?_ (Below.mono (by assumption) (by (first | exact Nat.le_refl _ | assumption | (simp; done) | omega | (simp; omega)))))), by omega, by omega, by simp; omega, by simp⟩
/-- The octets that are laid ahead of Data. -/
theorem St.data {w W : World} {B b : Nat} {f : Fr} {s t : ByteArray} (h : St w W B b f s) : St w (W.setCell ⟨b, 0, none⟩ (.string t)) B b f t := h.add (Below.refl _ _)
theorem str_size (l : List UInt8) (d : ByteArray) : (S l ++ d).size = l.length + d.size := by rw [ByteArray.size_append, S_size]
theorem str_cat (l : List UInt8) (d : ByteArray) : S l ++ d = S (l ++ d.data.toList) := by rw [← S_append, S_of]
theorem repeat_ok (n : Nat) (hn : n ≤ 1000) (w : World) : Calls Try.prog 13 #[.string ⟨#[0]⟩, .int .i64 n] w fun e w' => e = .returned (.string (S (List.replicate n 0))) ∧ Below w.heap.size w w' := by
  have h := Try.strings_Repeat (S [0]) n w (by omega) (by show 1 * n ≤ _; omega)
  rw [S_data'', repeat_zero] at h
  exact h
end Go.Proofs.Ytccdhoboidneeaa
