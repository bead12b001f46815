/-
  Checks the examples of chapter 6 (the function works of the statements), and what follows for sealed strings.
-/
import Derived.Test.YtaeanmojajmcfaaFlip
namespace Go.Proofs.Ytaeanmojajmcfaa
open Go.RowKit
set_option linter.unusedVariables false

theorem sealB_data (m : Nat) (s : ByteArray) : (sealB m s).data.toList = Crcm.sealM m s.data.toList := by simp [sealB, S]
theorem sealB_size (m : Nat) (s : ByteArray) : (sealB m s).size = s.size + 4 := by rw [Lib.size_eq, sealB_data, Crcm.sealM_length, ← Lib.size_eq]
theorem goodB_sealB (m : Nat) (s : ByteArray) : goodB m (sealB m s) = true := by unfold goodB; rw [sealB_data]; exact Crcm.goodM_sealM _ _
theorem good_marked (s : ByteArray) (h : goodB 0 s = true) : goodB Crcm.marking s = false := Crcm.good_not_marked _ h
theorem marked_seal (s : ByteArray) : goodB Crcm.marking (sealB 0 s) = false := good_marked _ (goodB_sealB 0 s)
theorem good_mark (s : ByteArray) : goodB 0 (sealB Crcm.marking s) = false := by
  rcases h : goodB 0 (sealB Crcm.marking s) with _ | _
  · rfl
  · have := good_marked _ h
    rw [goodB_sealB] at this
    exact this

set_option maxRecDepth 100000 in
theorem works6 (w : World) : Calls Try.prog 20 #[] w fun e w' => e = .returned (.bool true) ∧ Below w.heap.size w w' := by
  have c1 : Hid (∀ W : World, Calls Try.prog 10 #[.string (S [49, 50, 51, 52, 53, 54, 55, 56, 57])] W fun e w' => e = .returned (.int .u32 3421780262) ∧ Below W.heap.size W w') := Lib.hid (fun W => by have c := Of_any (S [49, 50, 51, 52, 53, 54, 55, 56, 57]) (by decide) W; rw [show Crcm.crc (S [49, 50, 51, 52, 53, 54, 55, 56, 57]).data.toList = 3421780262 from by decide +kernel] at c; exact c)
  have c2 : Hid (∀ W : World, Calls Try.prog 10 #[.string (S [])] W fun e w' => e = .returned (.int .u32 0) ∧ Below W.heap.size W w') := Lib.hid (fun W => by have c := Of_any (S []) (by decide) W; rw [show Crcm.crc (S []).data.toList = 0 from by decide +kernel] at c; exact c)
  have c3 : Hid (∀ W : World, Calls Try.prog 10 #[.string (S [97])] W fun e w' => e = .returned (.int .u32 3904355907) ∧ Below W.heap.size W w') := Lib.hid (fun W => by have c := Of_any (S [97]) (by decide) W; rw [show Crcm.crc (S [97]).data.toList = 3904355907 from by decide +kernel] at c; exact c)
  have c4 : Hid (∀ W : World, Calls Try.prog 10 #[.string (S [49, 50, 51, 52])] W fun e w' => e = .returned (.int .u32 2615402659) ∧ Below W.heap.size W w') := Lib.hid (fun W => by have c := Of_any (S [49, 50, 51, 52]) (by decide) W; rw [show Crcm.crc (S [49, 50, 51, 52]).data.toList = 2615402659 from by decide +kernel] at c; exact c)
  have c5 : Hid (∀ W : World, Calls Try.prog 12 #[.int .u32 2615402659, .string (S [53, 54, 55, 56, 57])] W fun e w' => e = .returned (.int .u32 3421780262) ∧ Below W.heap.size W w') := Lib.hid (fun W => by have c := Extend_any 2615402659 (by decide) (S [53, 54, 55, 56, 57]) (by decide) W; rw [show Crcm.extend 2615402659 (S [53, 54, 55, 56, 57]).data.toList = 3421780262 from by decide +kernel] at c; exact c)
  have c6 : Hid (∀ W : World, Calls Try.prog 14 #[.int .u32 3421780262] W fun e w' => e = .returned (.string ⟨#[38, 57, 244, 203]⟩) ∧ Below W.heap.size W w') := Lib.hid (fun W => by have c := Octets_any 3421780262 (by decide) W; rw [show Crcm.oct 3421780262 = [38, 57, 244, 203] from by decide +kernel] at c; exact c)
  have c7 : Hid (∀ W : World, Calls Try.prog 16 #[.string (S [97])] W fun e w' => e = .returned (.string (sealB 0 (S [97]))) ∧ Below W.heap.size W w') := Lib.hid (fun W => by exact Seal_any (S [97]) (by decide) W)
  have c8 : Hid (∀ W : World, Calls Try.prog 22 #[.string (sealB 0 (S [97]))] W fun e w' => e = .returned (.bool true) ∧ Below W.heap.size W w') := Lib.hid (fun W => by have c := Good_any (sealB 0 (S [97])) (by rw [sealB_size]; decide) W; rw [goodB_sealB] at c; exact c)
  have c9 : Hid (∀ W : World, Calls Try.prog 22 #[.string (S [97])] W fun e w' => e = .returned (.bool false) ∧ Below W.heap.size W w') := Lib.hid (fun W => by have c := Good_any (S [97]) (by decide) W; rw [show goodB 0 (S [97]) = false from by decide +kernel] at c; exact c)
  have c10 : Hid (∀ W : World, Calls Try.prog 22 #[.string (S [0, 0, 0, 0])] W fun e w' => e = .returned (.bool true) ∧ Below W.heap.size W w') := Lib.hid (fun W => by have c := Good_any (S [0, 0, 0, 0]) (by decide) W; rw [show goodB 0 (S [0, 0, 0, 0]) = true from by decide +kernel] at c; exact c)
  have c11 : Hid (∀ W : World, Calls Try.prog 18 #[.string (S [97])] W fun e w' => e = .returned (.string (sealB Crcm.marking (S [97]))) ∧ Below W.heap.size W w') := Lib.hid (fun W => by exact Mark_any (S [97]) (by decide) W)
  have c12 : Hid (∀ W : World, Calls Try.prog 24 #[.string (sealB Crcm.marking (S [97]))] W fun e w' => e = .returned (.bool true) ∧ Below W.heap.size W w') := Lib.hid (fun W => by have c := Marked_any (sealB Crcm.marking (S [97])) (by rw [sealB_size]; decide) W; rw [goodB_sealB] at c; exact c)
  have c13 : Hid (∀ W : World, Calls Try.prog 24 #[.string (sealB 0 (S [97]))] W fun e w' => e = .returned (.bool false) ∧ Below W.heap.size W w') := Lib.hid (fun W => by have c := Marked_any (sealB 0 (S [97])) (by rw [sealB_size]; decide) W; rw [marked_seal] at c; exact c)
  go_enter Try.func20, Try.ntmps20
  go_wp2_with (fail)
  refine (c1.out _).mono ?_
  rintro e v0 ⟨rfl, g0⟩
  have B0 := g0
  have y0 := B0.size
  go_wp2_with (fail)
  refine (c2.out _).mono ?_
  rintro e v1 ⟨rfl, g1⟩
  have B1 := B0.trans (g1.mono y0)
  have y1 := B1.size
  go_wp2_with (fail)
  refine (c3.out _).mono ?_
  rintro e v2 ⟨rfl, g2⟩
  have B2 := B1.trans (g2.mono y1)
  have y2 := B2.size
  go_wp2_with (fail)
  refine (c4.out _).mono ?_
  rintro e v3 ⟨rfl, g3⟩
  have B3 := B2.trans (g3.mono y2)
  have y3 := B3.size
  go_wp2_with (fail)
  refine (c5.out _).mono ?_
  rintro e v4 ⟨rfl, g4⟩
  have B4 := B3.trans (g4.mono y3)
  have y4 := B4.size
  go_wp2_with (fail)
  refine (c6.out _).mono ?_
  rintro e v5 ⟨rfl, g5⟩
  have B5 := B4.trans (g5.mono y4)
  have y5 := B5.size
  go_wp2_with (fail)
  refine (c7.out _).mono ?_
  rintro e v6 ⟨rfl, g6⟩
  have B6 := B5.trans (g6.mono y5)
  have y6 := B6.size
  go_wp2_with (fail)
  refine (c8.out _).mono ?_
  rintro e v7 ⟨rfl, g7⟩
  have B7 := B6.trans (g7.mono y6)
  have y7 := B7.size
  go_wp2_with (fail)
  refine (c9.out _).mono ?_
  rintro e v8 ⟨rfl, g8⟩
  have B8 := B7.trans (g8.mono y7)
  have y8 := B8.size
  go_wp2_with (fail)
  refine (c10.out _).mono ?_
  rintro e v9 ⟨rfl, g9⟩
  have B9 := B8.trans (g9.mono y8)
  have y9 := B9.size
  go_wp2_with (fail)
  refine (c11.out _).mono ?_
  rintro e v10 ⟨rfl, g10⟩
  have B10 := B9.trans (g10.mono y9)
  have y10 := B10.size
  go_wp2_with (fail)
  refine (c12.out _).mono ?_
  rintro e v11 ⟨rfl, g11⟩
  have B11 := B10.trans (g11.mono y10)
  have y11 := B11.size
  go_wp2_with (fail)
  refine (c7.out _).mono ?_
  rintro e v12 ⟨rfl, g12⟩
  have B12 := B11.trans (g12.mono y11)
  have y12 := B12.size
  go_wp2_with (fail)
  refine (c13.out _).mono ?_
  rintro e v13 ⟨rfl, g13⟩
  have B13 := B12.trans (g13.mono y12)
  have y13 := B13.size
  go_wp2_with (fail)
  go_ret
  exact ⟨rfl, B13⟩
end Go.Proofs.Ytaeanmojajmcfaa
