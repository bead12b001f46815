/-
  The walk of chapter 7's examples.
-/
import Derived.Test.YtccdhoboidneeaaFrameW
import Derived.Deep.RegionHeld3
import Derived.Deep.DrawnRows
import Derived.Deep.CutRange
namespace Go.Proofs.Ytccdhoboidneeaa
open Go.RowKit
set_option linter.unusedVariables false

theorem check_bad (f : Fr) (hs : f.data.size ≤ 9000000000000000000) (h : f.ok = false) (W : World) : Calls Try.prog 14 #[.agg #[.int .i64 f.dst, .int .i64 f.src, .bool f.tag, .int .i64 f.prio, .int .i64 f.vid, .bool f.hseq, .int .i64 f.seq, .int .i64 f.type, .string f.data]] W fun e w' => e = .returned (.int .i64 170) ∧ Below W.heap.size W w' := by
  have hc : f.code = 170 := by unfold Fr.code; rw [h]; rfl
  have := Check_any f hs W
  rwa [hc] at this

/-- The block of a frame. -/
abbrev frB (f : Fr) : Obj := .cells #[.int .i64 f.dst, .int .i64 f.src, .bool f.tag, .int .i64 f.prio, .int .i64 f.vid, .bool f.hseq, .int .i64 f.seq, .int .i64 f.type, .string f.data] 27
/-- The frame f stands in a block of its own, which may be written. -/
structure Own (W0 W : World) (a : Nat) (f : Fr) : Prop where
  fr : FrAt W a f
  fz : ∀ j, W.frozen? ⟨a, j, none⟩ = false
  o1 : W0.heap.size ≤ a
  o2 : a < W.heap.size
def Four (W0 W : World) (f : Fr) (s6 s7 s8 s9 : Value) : Prop := ∃ a b c d : Nat, s6 = .pointer (some ⟨a, 0, none⟩) ∧ s7 = .pointer (some ⟨b, 0, none⟩) ∧ s8 = .pointer (some ⟨c, 0, none⟩) ∧ s9 = .pointer (some ⟨d, 0, none⟩) ∧
  Own W0 W a f ∧ Own W0 W b f ∧ Own W0 W c f ∧ Own W0 W d f ∧ a ≠ b ∧ a ≠ c ∧ a ≠ d ∧ b ≠ c ∧ b ≠ d ∧ c ≠ d ∧ Below W0.heap.size W0 W
theorem own_later (W0 W W' : World) (f : Fr) (hb : Below (W.alloc (frB f)).heap.size (W.alloc (frB f)) W') (h : W0.heap.size ≤ W.heap.size) : Own W0 W' W.heap.size f :=
  ⟨fr_keep (fr_box W f) hb (by simp), fun j => (hb.frozen (p := ⟨W.heap.size, j, none⟩) (by simp)).trans (by simp), h, by have := hb.size; simp at this; omega⟩
theorem own4 (W : World) (f : Fr) (a : Nat) (h1 : W.heap.size ≤ a) (h2 : a < W.heap.size + 4) : Own W ((((W.alloc (frB f)).alloc (frB f)).alloc (frB f)).alloc (frB f)).drew a f := by
  have e1 : (W.alloc (frB f)).heap.size = W.heap.size + 1 := by simp
  have e2 : ((W.alloc (frB f)).alloc (frB f)).heap.size = W.heap.size + 2 := by simp
  have e3 : (((W.alloc (frB f)).alloc (frB f)).alloc (frB f)).heap.size = W.heap.size + 3 := by simp
  have : a = W.heap.size ∨ a = (W.alloc (frB f)).heap.size ∨ a = ((W.alloc (frB f)).alloc (frB f)).heap.size ∨ a = (((W.alloc (frB f)).alloc (frB f)).alloc (frB f)).heap.size := by omega
  rcases this with rfl | rfl | rfl | rfl
  · exact own_later W _ _ f (((((Below.refl _ _).alloc (by omega) _).alloc (by omega) _).alloc (by omega) _).drew) (by omega)
  · exact own_later W _ _ f ((((Below.refl _ _).alloc (by omega) _).alloc (by omega) _).drew) (by omega)
  · exact own_later W _ _ f (((Below.refl _ _).alloc (by omega) _).drew) (by omega)
  · exact own_later W _ _ f ((Below.refl _ _).drew) (by omega)
theorem four_mk (W : World) (f : Fr) (a b c d : Nat) (h : W.heap.size ≤ a ∧ a < W.heap.size + 4 ∧ W.heap.size ≤ b ∧ b < W.heap.size + 4 ∧ W.heap.size ≤ c ∧ c < W.heap.size + 4 ∧ W.heap.size ≤ d ∧ d < W.heap.size + 4 ∧ a ≠ b ∧ a ≠ c ∧ a ≠ d ∧ b ≠ c ∧ b ≠ d ∧ c ≠ d) :
    Four W ((((W.alloc (frB f)).alloc (frB f)).alloc (frB f)).alloc (frB f)).drew f (.pointer (some ⟨a, 0, none⟩)) (.pointer (some ⟨b, 0, none⟩)) (.pointer (some ⟨c, 0, none⟩)) (.pointer (some ⟨d, 0, none⟩)) :=
  ⟨a, b, c, d, rfl, rfl, rfl, rfl, own4 W f a (by omega) (by omega), own4 W f b (by omega) (by omega), own4 W f c (by omega) (by omega), own4 W f d (by omega) (by omega), by omega, by omega, by omega, by omega, by omega, by omega, (by repeat' (first | exact Below.refl _ _ | assumption | refine below_drewN ?_ _ | refine Below.drew ?_ | refine Below.alloc ?_ (by (first | exact Nat.le_refl _ | assumption | (simp; done) | omega | (simp; omega))) _ | refine Below.setCell ?_ (by (first | exact Nat.le_refl _ | assumption | (simp; done) | omega | (simp; omega))) _ | refine Below.trans ?_ (Below.mono (by assumption) (by (first | exact Nat.le_refl _ | assumption | (simp; done) | omega | (simp; omega))))))⟩

theorem Own.keep {W0 W W' : World} {a : Nat} {f : Fr} (h : Own W0 W a f) (hb : Below W.heap.size W W') : Own W0 W' a f :=
  ⟨fr_keep h.fr hb h.o2, fun j => (hb.frozen (p := ⟨a, j, none⟩) h.o2).trans (h.fz j), h.o1, by have := hb.size; have := h.o2; omega⟩
def sets4 (W : World) (a b c d : Nat) (X P : ByteArray) : World :=
  ((((((((((W.setCell ⟨a, 8, none⟩ (.string X)).setCell ⟨a, 2, none⟩ (.bool true)).setCell ⟨a, 4, none⟩ (.int .i64 5)).setCell ⟨b, 8, none⟩ (.string P)).setCell ⟨c, 7, none⟩ (.int .i64 0)).setCell ⟨d, 2, none⟩ (.bool true)).setCell ⟨d, 3, none⟩ (.int .i64 5)).setCell ⟨d, 4, none⟩ (.int .i64 3)).setCell ⟨d, 5, none⟩ (.bool true)).setCell ⟨d, 6, none⟩ (.int .i64 258))
theorem sets4_fr (W : World) (a b c d : Nat) (X P : ByteArray) (ha : FrAt W a fh) (hb : FrAt W b fh) (hc : FrAt W c fh) (hd : FrAt W d fh) (h : a ≠ b ∧ a ≠ c ∧ a ≠ d ∧ b ≠ c ∧ b ≠ d ∧ c ≠ d) :
    FrAt (sets4 W a b c d X P) a ⟨1, 2, true, 0, 5, false, 0, 2048, X⟩ ∧ FrAt (sets4 W a b c d X P) b ⟨1, 2, false, 0, 0, false, 0, 2048, P⟩ ∧ FrAt (sets4 W a b c d X P) c fPlain ∧ FrAt (sets4 W a b c d X P) d fTag := by
  obtain ⟨h1, h2, h3, h4, h5, h6⟩ := h
  obtain ⟨a0, a1, a2, a3, a4, a5, a6, a7, a8⟩ := ha
  obtain ⟨b0, b1, b2, b3, b4, b5, b6, b7, b8⟩ := hb
  obtain ⟨c0, c1, c2, c3, c4, c5, c6, c7, c8⟩ := hc
  obtain ⟨d0, d1, d2, d3, d4, d5, d6, d7, d8⟩ := hd
  have h1' := Ne.symm h1
  have h2' := Ne.symm h2
  have h3' := Ne.symm h3
  have h4' := Ne.symm h4
  have h5' := Ne.symm h5
  have h6' := Ne.symm h6
  simp only [fh] at *
  unfold sets4
  refine ⟨⟨?_, ?_, ?_, ?_, ?_, ?_, ?_, ?_, ?_⟩, ⟨?_, ?_, ?_, ?_, ?_, ?_, ?_, ?_, ?_⟩, ⟨?_, ?_, ?_, ?_, ?_, ?_, ?_, ?_, ?_⟩, ⟨?_, ?_, ?_, ?_, ?_, ?_, ?_, ?_, ?_⟩⟩
  all_goals simp [go_sem, fPlain, fTag, *]
theorem sets4_below (W : World) (a b c d : Nat) (X P : ByteArray) (n : Nat) (h : n ≤ a ∧ n ≤ b ∧ n ≤ c ∧ n ≤ d) : Below n W (sets4 W a b c d X P) := by
  unfold sets4
  exact ((((((((((Below.refl n W).setCell (p := ⟨a, 8, none⟩) h.1 _).setCell (p := ⟨a, 2, none⟩) h.1 _).setCell (p := ⟨a, 4, none⟩) h.1 _).setCell (p := ⟨b, 8, none⟩) h.2.1 _).setCell (p := ⟨c, 7, none⟩) h.2.2.1 _).setCell (p := ⟨d, 2, none⟩) h.2.2.2 _).setCell (p := ⟨d, 3, none⟩) h.2.2.2 _).setCell (p := ⟨d, 4, none⟩) h.2.2.2 _).setCell (p := ⟨d, 5, none⟩) h.2.2.2 _).setCell (p := ⟨d, 6, none⟩) h.2.2.2 _
def Three (W0 W : World) (f : Fr) (s6 s7 s8 : Value) : Prop := ∃ a b c : Nat, s6 = .pointer (some ⟨a, 0, none⟩) ∧ s7 = .pointer (some ⟨b, 0, none⟩) ∧ s8 = .pointer (some ⟨c, 0, none⟩) ∧
  Own W0 W a f ∧ Own W0 W b f ∧ Own W0 W c f ∧ a ≠ b ∧ a ≠ c ∧ b ≠ c ∧ Below W0.heap.size W0 W
theorem own3 (W : World) (f : Fr) (a : Nat) (h1 : W.heap.size ≤ a) (h2 : a < W.heap.size + 3) : Own W (((W.alloc (frB f)).alloc (frB f)).alloc (frB f)).drew a f := by
  have e1 : (W.alloc (frB f)).heap.size = W.heap.size + 1 := by simp
  have e2 : ((W.alloc (frB f)).alloc (frB f)).heap.size = W.heap.size + 2 := by simp
  have : a = W.heap.size ∨ a = (W.alloc (frB f)).heap.size ∨ a = ((W.alloc (frB f)).alloc (frB f)).heap.size := by omega
  rcases this with rfl | rfl | rfl
  · exact own_later W _ _ f ((((Below.refl _ _).alloc (by omega) _).alloc (by omega) _).drew) (by omega)
  · exact own_later W _ _ f (((Below.refl _ _).alloc (by omega) _).drew) (by omega)
  · exact own_later W _ _ f ((Below.refl _ _).drew) (by omega)
theorem three_mk (W : World) (f : Fr) (a b c : Nat) (h : W.heap.size ≤ a ∧ a < W.heap.size + 3 ∧ W.heap.size ≤ b ∧ b < W.heap.size + 3 ∧ W.heap.size ≤ c ∧ c < W.heap.size + 3 ∧ a ≠ b ∧ a ≠ c ∧ b ≠ c) :
    Three W (((W.alloc (frB f)).alloc (frB f)).alloc (frB f)).drew f (.pointer (some ⟨a, 0, none⟩)) (.pointer (some ⟨b, 0, none⟩)) (.pointer (some ⟨c, 0, none⟩)) :=
  ⟨a, b, c, rfl, rfl, rfl, own3 W f a (by omega) (by omega), own3 W f b (by omega) (by omega), own3 W f c (by omega) (by omega), by omega, by omega, by omega, (by repeat' (first | exact Below.refl _ _ | assumption | refine below_drewN ?_ _ | refine Below.drew ?_ | refine Below.alloc ?_ (by (first | exact Nat.le_refl _ | assumption | (simp; done) | omega | (simp; omega))) _ | refine Below.setCell ?_ (by (first | exact Nat.le_refl _ | assumption | (simp; done) | omega | (simp; omega))) _ | refine Below.trans ?_ (Below.mono (by assumption) (by (first | exact Nat.le_refl _ | assumption | (simp; done) | omega | (simp; omega))))))⟩
def sets3 (W : World) (a b c : Nat) : World := ((W.setCell ⟨a, 4, none⟩ (.int .i64 3)).setCell ⟨b, 7, none⟩ (.int .i64 100)).setCell ⟨c, 7, none⟩ (.int .i64 33024)
theorem sets3_fr (W : World) (a b c : Nat) (ha : FrAt W a fh) (hb : FrAt W b fh) (hc : FrAt W c fh) (h : a ≠ b ∧ a ≠ c ∧ b ≠ c) :
    FrAt (sets3 W a b c) a ⟨1, 2, false, 0, 3, false, 0, 2048, ⟨#[104, 101, 108, 108, 111]⟩⟩ ∧ FrAt (sets3 W a b c) b ⟨1, 2, false, 0, 0, false, 0, 100, ⟨#[104, 101, 108, 108, 111]⟩⟩ ∧ FrAt (sets3 W a b c) c ⟨1, 2, false, 0, 0, false, 0, 33024, ⟨#[104, 101, 108, 108, 111]⟩⟩ := by
  obtain ⟨h1, h2, h4⟩ := h
  obtain ⟨a0, a1, a2, a3, a4, a5, a6, a7, a8⟩ := ha
  obtain ⟨b0, b1, b2, b3, b4, b5, b6, b7, b8⟩ := hb
  obtain ⟨c0, c1, c2, c3, c4, c5, c6, c7, c8⟩ := hc
  have h1' := Ne.symm h1
  have h2' := Ne.symm h2
  have h4' := Ne.symm h4
  simp only [fh] at *
  unfold sets3
  refine ⟨⟨?_, ?_, ?_, ?_, ?_, ?_, ?_, ?_, ?_⟩, ⟨?_, ?_, ?_, ?_, ?_, ?_, ?_, ?_, ?_⟩, ⟨?_, ?_, ?_, ?_, ?_, ?_, ?_, ?_, ?_⟩⟩
  all_goals simp [go_sem, *]
theorem sets3_below (W : World) (a b c : Nat) (n : Nat) (h : n ≤ a ∧ n ≤ b ∧ n ≤ c) : Below n W (sets3 W a b c) := by
  unfold sets3
  exact ((((Below.refl n W).setCell (p := ⟨a, 4, none⟩) h.1 _).setCell (p := ⟨b, 7, none⟩) h.2.1 _).setCell (p := ⟨c, 7, none⟩) h.2.2 _)

set_option maxHeartbeats 8000000 in
attribute [local go_sem ↓] Go.wp_at_zero Go.wp_at_succ in
theorem works7 (w : World) : Calls Try.prog 9 #[] w fun e w' => e = .returned (.bool true) ∧ Below w.heap.size w w' := by
  have C1 : Hid (∀ W : World, Calls Try.prog 27 #[] W fun e w' => e = .returned (.agg #[.int .i64 1, .int .i64 2, .bool false, .int .i64 0, .int .i64 0, .bool false, .int .i64 0, .int .i64 2048, .string ⟨#[104, 101, 108, 108, 111]⟩]) ∧ Below W.heap.size W w') := Lib.hid (fun W => hello_any W)
  have C2 : Hid (∀ W : World, Calls Try.prog 11 #[.agg #[.int .i64 1, .int .i64 2, .bool false, .int .i64 0, .int .i64 0, .bool false, .int .i64 0, .int .i64 2048, .string ⟨#[104, 101, 108, 108, 111]⟩]] W (Ret2 (.string fh.enc) (.int .i64 0) W)) := Lib.hid (fun W => enc_of fh fh_ok W)
  have C3 : Hid (∀ W : World, Calls Try.prog 13 #[.string ⟨#[0]⟩, .int .i64 41] W fun e w' => e = .returned (.string (zs 41)) ∧ Below W.heap.size W w') := Lib.hid (fun W => repeat_any 0 41 (by omega) W)
  have C4 : Hid (∀ W : World, Calls Try.prog 28 #[.agg #[.int .i64 1, .int .i64 2, .bool false, .int .i64 0, .int .i64 0, .bool false, .int .i64 0, .int .i64 2048, .string ⟨#[104, 101, 108, 108, 111]⟩], .int .i64 84] W fun e w' => e = .returned (.bool true) ∧ Below W.heap.size W w') := Lib.hid (fun W => size_true fh 84 fh_ok fh_wire W)
  have C5 : Hid (∀ W : World, Calls Try.prog 13 #[.string ⟨#[120]⟩, .int .i64 1500] W fun e w' => e = .returned (.string (S (List.replicate 1500 120))) ∧ Below W.heap.size W w') := Lib.hid (fun W => repeat_any 120 1500 (by omega) W)
  have C6 : Hid (∀ W : World, Calls Try.prog 11 #[.agg #[.int .i64 1, .int .i64 2, .bool true, .int .i64 5, .int .i64 3, .bool true, .int .i64 258, .int .i64 2048, .string ⟨#[104, 101, 108, 108, 111]⟩]] W (Ret2 (.string fTag.enc) (.int .i64 0) W)) := Lib.hid (fun W => enc_of fTag fTag_ok W)
  have C7 : Hid (∀ W : World, Calls Try.prog 28 #[.agg #[.int .i64 1, .int .i64 2, .bool true, .int .i64 0, .int .i64 5, .bool false, .int .i64 0, .int .i64 2048, .string (S (List.replicate 1500 120))], .int .i64 1542] W fun e w' => e = .returned (.bool true) ∧ Below W.heap.size W w') := Lib.hid (fun W => size_true fLong 1542 fLong_ok fLong_wire W)
  have C8 : Hid (∀ W : World, Calls Try.prog 16 #[.agg #[.int .i64 1, .int .i64 2, .bool false, .int .i64 0, .int .i64 0, .bool false, .int .i64 0, .int .i64 2048, .string ⟨#[104, 101, 108, 108, 111]⟩], .agg #[.int .i64 1, .int .i64 2, .bool false, .int .i64 0, .int .i64 0, .bool false, .int .i64 0, .int .i64 2048, .string (⟨#[104, 101, 108, 108, 111]⟩ ++ zs 41)]] W fun e w' => e = .returned (.bool true) ∧ Below W.heap.size W w') := Lib.hid (fun W => back_true fh fPad fh_ok fh_want W)
  have C9 : Hid (∀ W : World, Calls Try.prog 16 #[.agg #[.int .i64 1, .int .i64 2, .bool false, .int .i64 0, .int .i64 0, .bool false, .int .i64 0, .int .i64 0, .string ⟨#[104, 101, 108, 108, 111]⟩], .agg #[.int .i64 1, .int .i64 2, .bool false, .int .i64 0, .int .i64 0, .bool false, .int .i64 0, .int .i64 0, .string ⟨#[104, 101, 108, 108, 111]⟩]] W fun e w' => e = .returned (.bool true) ∧ Below W.heap.size W w') := Lib.hid (fun W => back_true fPlain fPlain fPlain_ok fPlain_want W)
  have D0 : Hid (∀ W : World, Calls Try.prog 14 #[.agg #[.int .i64 1, .int .i64 2, .bool false, .int .i64 0, .int .i64 3, .bool false, .int .i64 0, .int .i64 2048, .string ⟨#[104, 101, 108, 108, 111]⟩]] W fun e w' => e = .returned (.int .i64 170) ∧ Below W.heap.size W w') := Lib.hid (fun W => check_bad ⟨1, 2, false, 0, 3, false, 0, 2048, ⟨#[104, 101, 108, 108, 111]⟩⟩ (by decide) (by decide +kernel) W)
  have D1 : Hid (∀ W : World, Calls Try.prog 14 #[.agg #[.int .i64 1, .int .i64 2, .bool false, .int .i64 0, .int .i64 0, .bool false, .int .i64 0, .int .i64 100, .string ⟨#[104, 101, 108, 108, 111]⟩]] W fun e w' => e = .returned (.int .i64 170) ∧ Below W.heap.size W w') := Lib.hid (fun W => check_bad ⟨1, 2, false, 0, 0, false, 0, 100, ⟨#[104, 101, 108, 108, 111]⟩⟩ (by decide) (by decide +kernel) W)
  have D2 : Hid (∀ W : World, Calls Try.prog 14 #[.agg #[.int .i64 1, .int .i64 2, .bool false, .int .i64 0, .int .i64 0, .bool false, .int .i64 0, .int .i64 33024, .string ⟨#[104, 101, 108, 108, 111]⟩]] W fun e w' => e = .returned (.int .i64 170) ∧ Below W.heap.size W w') := Lib.hid (fun W => check_bad ⟨1, 2, false, 0, 0, false, 0, 33024, ⟨#[104, 101, 108, 108, 111]⟩⟩ (by decide) (by decide +kernel) W)
  have D3 : Hid (∀ W : World, Calls Try.prog 13 #[.string ⟨#[0]⟩, .int .i64 64] W fun e w' => e = .returned (.string (zs 64)) ∧ Below W.heap.size W w') := Lib.hid (fun W => repeat_any 0 64 (by omega) W)
  have D4 : Hid (∀ W : World, Calls Try.prog 18 #[.string (zs 64)] W fun e w' => e = .returned (.bool true) ∧ Below W.heap.size W w') := Lib.hid (fun W => malformed_true (zs 64) (by decide +kernel) zero64 W)
  have h1 := fh_size
  have h2 := fh_head
  have h3 := fTag_size
  have h4 := fTag_head
  have k1 : (zs 41).size = 41 := by unfold zs; rw [S_size, List.length_replicate]
  have k2 : (S (List.replicate 1500 120)).size = 1500 := by rw [S_size, List.length_replicate]
  generalize fh.enc = E0 at *
  generalize fTag.enc = E1 at *
  generalize zs 41 = Z at *
  generalize zs 64 = Y at *
  generalize S (List.replicate 1500 120) = X at *
  go_enter Try.func9, Try.ntmps9
  go_wp2_with (fail)
  refine (C1.out _).mono ?_
  rintro e v1 ⟨rfl, g1⟩
  have B1 : Below w.heap.size w v1 := Below.trans (by repeat' (first | exact Below.refl _ _ | refine below_drewN ?_ _ | refine Below.drew ?_ | refine Below.alloc ?_ (by first | omega | (simp; omega) | (simp; done)) _ | refine Below.setCell ?_ (by first | omega | (simp; omega) | (simp; done)) _)) (g1.mono (by first | omega | (simp; omega) | (simp; done)))
  have y1 := B1.size
  go_wp2_with (fail)
  refine (C2.out _).mono ?_
  rintro e v2 ⟨rfl, g2⟩
  have B2 : Below w.heap.size w v2 := Below.trans (by repeat' (first | exact B1 | refine below_drewN ?_ _ | refine Below.drew ?_ | refine Below.alloc ?_ (by first | omega | (simp; omega) | (simp; done)) _ | refine Below.setCell ?_ (by first | omega | (simp; omega) | (simp; done)) _)) (g2.mono (by first | omega | (simp; omega) | (simp; done)))
  have y2 := B2.size
  have F2 := fr_keep (fr_box v1 fh) g2 (by simp)
  have o2 : v1.heap.size < v2.heap.size := by have := g2.size; simp at this; omega
  simp only [fh] at F2
  go_wp2_with (fail)
  refine (C3.out _).mono ?_
  rintro e v3 ⟨rfl, g3⟩
  have B3 : Below w.heap.size w v3 := Below.trans (by repeat' (first | exact B2 | refine below_drewN ?_ _ | refine Below.drew ?_ | refine Below.alloc ?_ (by first | omega | (simp; omega) | (simp; done)) _ | refine Below.setCell ?_ (by first | omega | (simp; omega) | (simp; done)) _)) (g3.mono (by first | omega | (simp; omega) | (simp; done)))
  have y3 := B3.size
  have F3 := fr_keep F2 g3 o2
  have o3 : v1.heap.size < v3.heap.size := by have := g3.size; omega
  have F3' := F3
  obtain ⟨c0, c1, c2, c3, c4, c5, c6, c7, c8⟩ := F3'
  have n1 : (E0.toList == E0.toList) = true := by simp
  go_wp2_with (fail)
  refine (C4.out _).mono ?_
  rintro e v4 ⟨rfl, g4⟩
  have B4 : Below w.heap.size w v4 := Below.trans (by repeat' (first | exact B3 | refine below_drewN ?_ _ | refine Below.drew ?_ | refine Below.alloc ?_ (by first | omega | (simp; omega) | (simp; done)) _ | refine Below.setCell ?_ (by first | omega | (simp; omega) | (simp; done)) _)) (g4.mono (by first | omega | (simp; omega) | (simp; done)))
  have y4 := B4.size
  go_upto_region 7 with fail
  have F4 := fr_keep F3 g4 o3
  clear c0 c1 c2 c3 c4 c5 c6 c7 c8
  have o4 : v1.heap.size < v4.heap.size := by have := g4.size; omega
  go_cut [6, 7, 8, 9] from 42 to 45 (fun s6 s7 s8 s9 wx => Four v4 wx fh s6 s7 s8 s9)
  case first =>
    have hS : ∀ W' : World, Below v4.heap.size v4 W' → W'.cell? ⟨v1.heap.size, 0, none⟩ = some (.int .i64 1) ∧ W'.cell? ⟨v1.heap.size, 1, none⟩ = some (.int .i64 2) ∧ W'.cell? ⟨v1.heap.size, 2, none⟩ = some (.bool false) ∧ W'.cell? ⟨v1.heap.size, 3, none⟩ = some (.int .i64 0) ∧ W'.cell? ⟨v1.heap.size, 4, none⟩ = some (.int .i64 0) ∧ W'.cell? ⟨v1.heap.size, 5, none⟩ = some (.bool false) ∧ W'.cell? ⟨v1.heap.size, 6, none⟩ = some (.int .i64 0) ∧ W'.cell? ⟨v1.heap.size, 7, none⟩ = some (.int .i64 2048) ∧ W'.cell? ⟨v1.heap.size, 8, none⟩ = some (.string ⟨#[104, 101, 108, 108, 111]⟩) := fun W' hb => by
      obtain ⟨c0, c1, c2, c3, c4, c5, c6, c7, c8⟩ := fr_keep F4 hb o4
      exact ⟨c0, c1, c2, c3, c4, c5, c6, c7, c8⟩
    clear F2 F3 F4 C1 C2 C3 C4 C5 C6 C7 C8 C9 D0 D1 D2 D3 D4 h1 h2 h3 h4 k1 k2
    go_region_held3 (fun W' => W'.cell? ⟨v1.heap.size, 0, none⟩ = some (.int .i64 1) ∧ W'.cell? ⟨v1.heap.size, 1, none⟩ = some (.int .i64 2) ∧ W'.cell? ⟨v1.heap.size, 2, none⟩ = some (.bool false) ∧ W'.cell? ⟨v1.heap.size, 3, none⟩ = some (.int .i64 0) ∧ W'.cell? ⟨v1.heap.size, 4, none⟩ = some (.int .i64 0) ∧ W'.cell? ⟨v1.heap.size, 5, none⟩ = some (.bool false) ∧ W'.cell? ⟨v1.heap.size, 6, none⟩ = some (.int .i64 0) ∧ W'.cell? ⟨v1.heap.size, 7, none⟩ = some (.int .i64 2048) ∧ W'.cell? ⟨v1.heap.size, 8, none⟩ = some (.string ⟨#[104, 101, 108, 108, 111]⟩)) (exact hS _ (by repeat' (first | exact Below.refl _ _ | refine Below.drew ?_ | refine Below.alloc ?_ (by first | omega | (simp; omega) | (simp; done)) _ | refine Below.setCell ?_ (by first | omega | (simp; omega) | (simp; done)) _))) (fail)
    all_goals (go_wp2_with fail; go_meet; exact four_mk v4 fh _ _ _ _ (by omega))
  case rest =>
  obtain ⟨a, b, c, d, rfl, rfl, rfl, rfl, Oa, Ob, Oc, Od, n1, n2, n3, n4, n5, n6, BX⟩ := hcut
  have Bw : Below w.heap.size w wc := B4.trans (BX.mono y4)
  have yw := Bw.size
  have Ff := fr_keep F4 BX o4
  have of : v1.heap.size < wc.heap.size := by have := BX.size; omega
  have oa : v1.heap.size < a := by have := Oa.o1; omega
  have ob : v1.heap.size < b := by have := Ob.o1; omega
  have oc : v1.heap.size < c := by have := Oc.o1; omega
  have od : v1.heap.size < d := by have := Od.o1; omega
  have n1' := Ne.symm n1
  have n2' := Ne.symm n2
  have n3' := Ne.symm n3
  have n4' := Ne.symm n4
  have n5' := Ne.symm n5
  have n6' := Ne.symm n6
  clear F2 F3 F4 g1 g2 g3 g4 B1 B2 B3 BX
  go_wp2_with (fail)
  refine (C5.out _).mono ?_
  rintro e v5 ⟨rfl, g5⟩
  have B5 : Below w.heap.size w v5 := Bw.trans (g5.mono (by omega))
  have y5 := g5.size
  have Pa := Oa.keep g5
  have Pb := Ob.keep g5
  have Pc := Oc.keep g5
  have Pd := Od.keep g5
  have Pf := fr_keep Ff g5 of
  clear Oa Ob Oc Od Ff g5 Bw
  have S4 := fun Q => sets4_fr v5 a b c d X Q Pa.fr Pb.fr Pc.fr Pd.fr ⟨n1, n2, n3, n4, n5, n6⟩
  have S5 := fun Q n h => sets4_below v5 a b c d X Q n h
  have H4 := Lib.hid S4; clear S4
  have H5 := Lib.hid S5; clear S5
  have qa := Pa.o2
  have qb := Pb.o2
  have qc := Pc.o2
  have qd := Pd.o2
  have za2 := Pa.fz 2
  have za4 := Pa.fz 4
  have za8 := Pa.fz 8
  have zb8 := Pb.fz 8
  have zc7 := Pc.fz 7
  have zd2 := Pd.fz 2
  have zd3 := Pd.fz 3
  have zd4 := Pd.fz 4
  have zd5 := Pd.fz 5
  have zd6 := Pd.fz 6
  have HPf := Lib.hid Pf; clear Pf
  obtain ⟨⟨a0, a1, a2, a3, a4, a5, a6, a7, a8⟩, _, _, _⟩ := Pa
  obtain ⟨⟨b0, b1, b2, b3, b4, b5, b6, b7, b8⟩, _, _, _⟩ := Pb
  obtain ⟨⟨c0, c1, c2, c3, c4, c5, c6, c7, c8⟩, _, _, _⟩ := Pc
  obtain ⟨⟨d0, d1, d2, d3, d4, d5, d6, d7, d8⟩, _, _, _⟩ := Pd
  simp only [fh] at a0 a1 a2 a3 a4 a5 a6 a7 a8 b8 c7 d0 d1 d2 d3 d4 d5 d6 d7 d8
  clear a0 a1 a3 a5 a6 a7 b0 b1 b2 b3 b4 b5 b6 b7 c0 c1 c2 c3 c4 c5 c6 c8
  go_wp2_with (fail)
  obtain ⟨w5, hw5⟩ : ∃ W, sets4 v5 a b c d X (⟨#[104, 101, 108, 108, 111]⟩ ++ Z) = W := ⟨_, rfl⟩
  have f4 := H4.out (⟨#[104, 101, 108, 108, 111]⟩ ++ Z)
  have s5 := H5.out (⟨#[104, 101, 108, 108, 111]⟩ ++ Z) w.heap.size ⟨by omega, by omega, by omega, by omega⟩
  have s6 := H5.out (⟨#[104, 101, 108, 108, 111]⟩ ++ Z) (v1.heap.size + 1) ⟨by omega, by omega, by omega, by omega⟩
  rw [hw5] at f4 s5 s6
  unfold sets4 at hw5
  rw [hw5]
  clear hw5
  obtain ⟨fa, fb, fc, fd⟩ := f4
  have ff := fr_keep HPf.out s6 (by omega)
  have B6 : Below w.heap.size w w5 := B5.trans s5
  have z5 := s5.size
  clear H4 H5 HPf s5 s6
  refine (C6.out _).mono ?_
  rintro e v6 ⟨rfl, g6⟩
  have B7 := B6.trans (g6.mono (by omega))
  have y6 := g6.size
  have Fa := fr_keep fa g6 (by omega)
  have Fb := fr_keep fb g6 (by omega)
  have Fc := fr_keep fc g6 (by omega)
  have Ff := fr_keep ff g6 (by omega)
  clear fa fb fc fd ff g6 B6 B5 a2 a4 a8 b8 c7 d0 d1 d2 d3 d4 d5 d6 d7 d8 za2 za4 za8 zb8 zc7 zd2 zd3 zd4 zd5 zd6
  have Ka := Fa
  obtain ⟨c0, c1, c2, c3, c4, c5, c6, c7, c8⟩ := Ka
  simp only at c0 c1 c2 c3 c4 c5 c6 c7 c8
  have e1 : (E1.toList == E1.toList) = true := by simp
  go_wp2_with (fail)
  refine (C7.out _).mono ?_
  rintro e v7 ⟨rfl, g7⟩
  have y7 := g7.size
  clear c0 c1 c2 c3 c4 c5 c6 c7 c8 Fa
  have B8 := B7.trans (g7.mono (by omega))
  have Fb2 := fr_keep Fb g7 (by omega)
  have Fc2 := fr_keep Fc g7 (by omega)
  have Ff2 := fr_keep Ff g7 (by omega)
  clear Fb Fc Ff B7 g7
  have Kf := Ff2
  obtain ⟨c0, c1, c2, c3, c4, c5, c6, c7, c8⟩ := Kf
  obtain ⟨b0, b1, b2, b3, b4, b5, b6, b7, b8⟩ := Fb2
  simp only at c0 c1 c2 c3 c4 c5 c6 c7 c8 b0 b1 b2 b3 b4 b5 b6 b7 b8
  go_wp2_with (fail)
  refine (C8.out _).mono ?_
  rintro e v8 ⟨rfl, g8⟩
  have y8 := g8.size
  clear c0 c1 c2 c3 c4 c5 c6 c7 c8 b0 b1 b2 b3 b4 b5 b6 b7 b8
  have B9 := B8.trans (g8.mono (by omega))
  have Fc3 := fr_keep Fc2 g8 (by omega)
  have Ff3 := fr_keep Ff2 g8 (by omega)
  clear Fc2 Ff2 B8 g8
  obtain ⟨c0, c1, c2, c3, c4, c5, c6, c7, c8⟩ := Fc3
  simp only [fPlain] at c0 c1 c2 c3 c4 c5 c6 c7 c8
  go_wp2_with (fail)
  refine (C9.out _).mono ?_
  rintro e v9 ⟨rfl, g9⟩
  have y9 := g9.size
  clear c0 c1 c2 c3 c4 c5 c6 c7 c8
  have B10 := B9.trans (g9.mono (by omega))
  have Ff4 := fr_keep Ff3 g9 (by omega)
  clear Ff3 B9 g9
  have o9 : v1.heap.size < v9.heap.size := by omega
  go_upto_region 15 with fail
  go_cut [12, 13, 14] from 93 to 95 (fun s6 s7 s8 wx => Three v9 wx fh s6 s7 s8)
  case first =>
    have hS : ∀ W' : World, Below v9.heap.size v9 W' → W'.cell? ⟨v1.heap.size, 0, none⟩ = some (.int .i64 1) ∧ W'.cell? ⟨v1.heap.size, 1, none⟩ = some (.int .i64 2) ∧ W'.cell? ⟨v1.heap.size, 2, none⟩ = some (.bool false) ∧ W'.cell? ⟨v1.heap.size, 3, none⟩ = some (.int .i64 0) ∧ W'.cell? ⟨v1.heap.size, 4, none⟩ = some (.int .i64 0) ∧ W'.cell? ⟨v1.heap.size, 5, none⟩ = some (.bool false) ∧ W'.cell? ⟨v1.heap.size, 6, none⟩ = some (.int .i64 0) ∧ W'.cell? ⟨v1.heap.size, 7, none⟩ = some (.int .i64 2048) ∧ W'.cell? ⟨v1.heap.size, 8, none⟩ = some (.string ⟨#[104, 101, 108, 108, 111]⟩) := fun W' hb => by
      obtain ⟨c0, c1, c2, c3, c4, c5, c6, c7, c8⟩ := fr_keep Ff4 hb o9
      exact ⟨c0, c1, c2, c3, c4, c5, c6, c7, c8⟩
    clear Ff4 C1 C2 C3 C4 C5 C6 C7 C8 C9 D0 D1 D2 D3 D4 h1 h2 h3 h4 k1 k2
    go_region_held3 (fun W' => W'.cell? ⟨v1.heap.size, 0, none⟩ = some (.int .i64 1) ∧ W'.cell? ⟨v1.heap.size, 1, none⟩ = some (.int .i64 2) ∧ W'.cell? ⟨v1.heap.size, 2, none⟩ = some (.bool false) ∧ W'.cell? ⟨v1.heap.size, 3, none⟩ = some (.int .i64 0) ∧ W'.cell? ⟨v1.heap.size, 4, none⟩ = some (.int .i64 0) ∧ W'.cell? ⟨v1.heap.size, 5, none⟩ = some (.bool false) ∧ W'.cell? ⟨v1.heap.size, 6, none⟩ = some (.int .i64 0) ∧ W'.cell? ⟨v1.heap.size, 7, none⟩ = some (.int .i64 2048) ∧ W'.cell? ⟨v1.heap.size, 8, none⟩ = some (.string ⟨#[104, 101, 108, 108, 111]⟩)) (exact hS _ (by repeat' (first | exact Below.refl _ _ | refine Below.drew ?_ | refine Below.alloc ?_ (by first | omega | (simp; omega) | (simp; done)) _ | refine Below.setCell ?_ (by first | omega | (simp; omega) | (simp; done)) _))) (fail)
    all_goals (go_wp2_with fail; go_meet; exact three_mk v9 fh _ _ _ (by omega))
  case rest =>
  obtain ⟨i, j, k, rfl, rfl, rfl, Oi, Oj, Ok, m1, m2, m3, BY⟩ := hcut
  have B11 : Below w.heap.size w wc := B10.trans (BY.mono (by omega))
  have yy := BY.size
  have S4 := sets3_fr wc i j k Oi.fr Oj.fr Ok.fr ⟨m1, m2, m3⟩
  have S5 := sets3_below wc i j k v9.heap.size ⟨Oi.o1, Oj.o1, Ok.o1⟩
  have S6 := (sets3_below wc i j k 0 ⟨by omega, by omega, by omega⟩).size
  have H4 := Lib.hid S4; clear S4
  have H5 := Lib.hid S5; clear S5
  have m1' := Ne.symm m1
  have m2' := Ne.symm m2
  have m3' := Ne.symm m3
  have zi := Oi.fz 4
  have zj := Oj.fz 7
  have zk := Ok.fz 7
  have oi := Oi.o2
  have oj := Oj.o2
  have ok := Ok.o2
  obtain ⟨⟨i0, i1, i2, i3, i4, i5, i6, i7, i8⟩, _, _, _⟩ := Oi
  have j7 := Oj.fr.c7
  have k7 := Ok.fr.c7
  simp only [fh] at i0 i1 i2 i3 i4 i5 i6 i7 i8 j7 k7
  clear Oj Ok Ff4 BY B10
  go_wp2_with (fail)
  have S7 := S6
  obtain ⟨w6, hw6⟩ : ∃ W, sets3 wc i j k = W := ⟨_, rfl⟩
  have s4 := H4.out
  have s5 := H5.out
  rw [hw6] at s4 s5 S7
  unfold sets3 at hw6
  rw [hw6]
  clear hw6 H4 H5 i0 i1 i2 i3 i4 i5 i6 i7 i8 j7 k7 zi zj zk
  obtain ⟨_, Fj, Fk⟩ := s4
  have B12 : Below w.heap.size w w6 := B11.trans (s5.mono (by omega))
  have z6 := s5.size
  clear s5
  refine (D0.out _).mono ?_
  rintro e v10 ⟨rfl, g10⟩
  have y10 := g10.size
  have B13 := B12.trans (g10.mono (by omega))
  have Fj2 := fr_keep Fj g10 (by omega)
  have Fk2 := fr_keep Fk g10 (by omega)
  clear Fj Fk g10 B12 B11
  obtain ⟨c0, c1, c2, c3, c4, c5, c6, c7, c8⟩ := Fj2
  simp only at c0 c1 c2 c3 c4 c5 c6 c7 c8
  go_wp2_with (fail)
  refine (D1.out _).mono ?_
  rintro e v11 ⟨rfl, g11⟩
  have y11 := g11.size
  have B14 := B13.trans (g11.mono (by omega))
  have Fk3 := fr_keep Fk2 g11 (by omega)
  clear c0 c1 c2 c3 c4 c5 c6 c7 c8 Fk2 g11 B13
  obtain ⟨c0, c1, c2, c3, c4, c5, c6, c7, c8⟩ := Fk3
  simp only at c0 c1 c2 c3 c4 c5 c6 c7 c8
  go_wp2_with (fail)
  refine (D2.out _).mono ?_
  rintro e v12 ⟨rfl, g12⟩
  have B15 := B14.trans (g12.mono (by omega))
  have y12 := g12.size
  clear c0 c1 c2 c3 c4 c5 c6 c7 c8 g12
  go_wp2_with (fail)
  refine (D3.out _).mono ?_
  rintro e v13 ⟨rfl, g13⟩
  have B16 := B15.trans (g13.mono (by omega))
  have y13 := g13.size
  clear g13
  go_wp2_with (fail)
  refine (D4.out _).mono ?_
  rintro e v14 ⟨rfl, g14⟩
  have B17 := B16.trans (g14.mono (by omega))
  clear g14
  go_wp2_with (fail)
  go_ret
  exact ⟨rfl, B17⟩
end Go.Proofs.Ytccdhoboidneeaa
