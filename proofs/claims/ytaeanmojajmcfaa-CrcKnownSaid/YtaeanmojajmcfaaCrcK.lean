/-
  The statement CrcKnown holds: the examples, published values, and short strings of chapter 6. No condition.
-/
import Derived.Test.YtaeanmojajmcfaaOpen
import Derived.Test.YtaeanmojajmcfaaCrcKnown
namespace Go.Proofs.Ytaeanmojajmcfaa
open Go.RowKit
set_option linter.unusedVariables false
theorem S_data' (l : List UInt8) : (S l).data.toList = l := by simp [S]
theorem S_rep (k : Nat) (x : UInt8) : S (List.replicate k x) ++ S [x] = S (List.replicate (k + 1) x) := by rw [S_append, ← List.replicate_succ']

def z32 : Array Value := (List.replicate 32 (Value.int .u8 0)).toArray
theorem make32 (w : World) : (Instr.makeSlice 37 (.int .i64 32) (.int .i64 32)).run Try.prog w = .ok (.slice (some ⟨w.heap.size, 0, none⟩) 32 32) (w.alloc (.cells z32 5)) := by kernel_rfl

set_option maxRecDepth 100000 in
set_option maxHeartbeats 1000000 in
theorem crcKnown_walk (w : World) : Calls Try.prog 9 #[] w fun e w' => e = .returned (.bool true) ∧ Below w.heap.size w w' := by
  have c1 : Hid (∀ W : World, Calls Try.prog 10 #[.string (S (List.replicate 32 0))] W fun e w' => e = .returned (.int .u32 420107693) ∧ Below W.heap.size W w') := Lib.hid (fun W => by have c := Of_any (S (List.replicate 32 0)) (by rw [S_size]; decide) W; rw [show Crcm.crc (S (List.replicate 32 0)).data.toList = 420107693 from by rw [S_data']; decide +kernel] at c; exact c)
  have c2 : Hid (∀ W : World, Calls Try.prog 10 #[.string (S (List.replicate 32 255))] W fun e w' => e = .returned (.int .u32 4285311755) ∧ Below W.heap.size W w') := Lib.hid (fun W => by have c := Of_any (S (List.replicate 32 255)) (by rw [S_size]; decide) W; rw [show Crcm.crc (S (List.replicate 32 255)).data.toList = 4285311755 from by rw [S_data']; decide +kernel] at c; exact c)
  have c3 : Hid (∀ W : World, Calls Try.prog 10 #[.string (S [84, 104, 101, 32, 113, 117, 105, 99, 107, 32, 98, 114, 111, 119, 110, 32, 102, 111, 120, 32, 106, 117, 109, 112, 115, 32, 111, 118, 101, 114, 32, 116, 104, 101, 32, 108, 97, 122, 121, 32, 100, 111, 103])] W fun e w' => e = .returned (.int .u32 1095738169) ∧ Below W.heap.size W w') := Lib.hid (fun W => by have c := Of_any (S [84, 104, 101, 32, 113, 117, 105, 99, 107, 32, 98, 114, 111, 119, 110, 32, 102, 111, 120, 32, 106, 117, 109, 112, 115, 32, 111, 118, 101, 114, 32, 116, 104, 101, 32, 108, 97, 122, 121, 32, 100, 111, 103]) (by rw [S_size]; decide) W; rw [show Crcm.crc (S [84, 104, 101, 32, 113, 117, 105, 99, 107, 32, 98, 114, 111, 119, 110, 32, 102, 111, 120, 32, 106, 117, 109, 112, 115, 32, 111, 118, 101, 114, 32, 116, 104, 101, 32, 108, 97, 122, 121, 32, 100, 111, 103]).data.toList = 1095738169 from by rw [S_data']; decide +kernel] at c; exact c)
  have c4 : Hid (∀ W : World, Calls Try.prog 10 #[.string (S [97, 98, 99])] W fun e w' => e = .returned (.int .u32 891568578) ∧ Below W.heap.size W w') := Lib.hid (fun W => by have c := Of_any (S [97, 98, 99]) (by rw [S_size]; decide) W; rw [show Crcm.crc (S [97, 98, 99]).data.toList = 891568578 from by rw [S_data']; decide +kernel] at c; exact c)
  have c5 : Hid (∀ W : World, Calls Try.prog 22 #[.string (S [])] W fun e w' => e = .returned (.bool false) ∧ Below W.heap.size W w') := Lib.hid (fun W => by have c := Good_any (S []) (by decide) W; rw [show goodB 0 (S []) = false from by decide +kernel] at c; exact c)
  have c6 : Hid (∀ W : World, Calls Try.prog 22 #[.string (S [0, 0, 0])] W fun e w' => e = .returned (.bool false) ∧ Below W.heap.size W w') := Lib.hid (fun W => by have c := Good_any (S [0, 0, 0]) (by decide) W; rw [show goodB 0 (S [0, 0, 0]) = false from by decide +kernel] at c; exact c)
  have c7 : Hid (∀ W : World, Calls Try.prog 24 #[.string (S [])] W fun e w' => e = .returned (.bool false) ∧ Below W.heap.size W w') := Lib.hid (fun W => by have c := Marked_any (S []) (by decide) W; rw [show goodB Crcm.marking (S []) = false from by decide +kernel] at c; exact c)
  have c8 : Hid (∀ W : World, Calls Try.prog 24 #[.string (S [0, 0, 255, 255])] W fun e w' => e = .returned (.bool true) ∧ Below W.heap.size W w') := Lib.hid (fun W => by have c := Marked_any (S [0, 0, 255, 255]) (by decide) W; rw [show goodB Crcm.marking (S [0, 0, 255, 255]) = true from by decide +kernel] at c; exact c)
  have c9 : Hid (∀ W : World, Calls Try.prog 22 #[.string (S [0, 0, 255, 255])] W fun e w' => e = .returned (.bool false) ∧ Below W.heap.size W w') := Lib.hid (fun W => by have c := Good_any (S [0, 0, 255, 255]) (by decide) W; rw [show goodB 0 (S [0, 0, 255, 255]) = false from by decide +kernel] at c; exact c)
  have c10 := Lib.hid (fun W => works6 W)
  have c11 : Hid (∀ W : World, Calls Try.prog 16 #[.string (S [97, 98, 99])] W fun e w' => e = .returned (.string ⟨#[97, 98, 99, 194, 65, 36, 53]⟩) ∧ Below W.heap.size W w') := Lib.hid (fun W => by have c := Seal_any (S [97, 98, 99]) (by decide) W; rw [show sealB 0 (S [97, 98, 99]) = ⟨#[97, 98, 99, 194, 65, 36, 53]⟩ from by decide +kernel] at c; exact c)
  have c12 : Hid (∀ W : World, Calls Try.prog 18 #[.string (S [97, 98, 99])] W fun e w' => e = .returned (.string ⟨#[97, 98, 99, 194, 65, 219, 202]⟩) ∧ Below W.heap.size W w') := Lib.hid (fun W => by have c := Mark_any (S [97, 98, 99]) (by decide) W; rw [show sealB Crcm.marking (S [97, 98, 99]) = ⟨#[97, 98, 99, 194, 65, 219, 202]⟩ from by decide +kernel] at c; exact c)
  have c13 : Hid (∀ W : World, Calls Try.prog 12 #[.int .u32 3421780262, .string (S [])] W fun e w' => e = .returned (.int .u32 3421780262) ∧ Below W.heap.size W w') := Lib.hid (fun W => by have c := Extend_any 3421780262 (by decide) (S []) (by decide) W; rw [show Crcm.extend 3421780262 (S []).data.toList = 3421780262 from by decide +kernel] at c; exact c)
  have hmk := make32
  have hcv := conv_list (w.alloc (.cells z32 5)) w.heap.size 32 (List.replicate 32 0) (by
    intro j hj
    rw [cell_of_row _ _ _ _ _ (0, 0) (heap_alloc_new w _)]
    rw [List.length_replicate] at hj
    unfold z32
    rw [List.getElem?_toArray, List.getElem?_replicate, if_pos hj, List.getElem_replicate]
    rfl)
  rw [List.length_replicate] at hcv
  go_enter Try.func9, Try.ntmps9
  go_wp2_with (fail)
  go_loop [2, 3] (fun o i => ∃ k : Nat, k ≤ 32 ∧ i = .int .i64 k ∧ o = .string (S (List.replicate k 255))) (fun _ i => 32 - (intOf i).toNat)
  case atStart => exact ⟨0, by omega, rfl, rfl⟩
  case round =>
    obtain ⟨k, hk, rfl, rfl⟩ := hrel
    have hz : (S (List.replicate k 255)).size ≤ 32 := by rw [S_size, List.length_replicate]; exact hk
    have hr := S_rep k 255
    have HR := Lib.hid hr; clear hr
    by_cases hlt : k < 32
    · go_wp2_with (fail)
      go_round
      case rel => exact ⟨k + 1, by omega, by go_num, by rw [← HR.out]; rfl⟩
      case measure => simp [intOf]; omega
    · obtain rfl : k = 32 := by omega
      go_wp2_with (fail)
      have B : Below w.heap.size w (w.alloc (.cells z32 5)) := (Below.refl _ _).alloc (Nat.le_refl _) _
      have yB := B.size
      refine (c1.out _).mono ?_
      rintro e v0 ⟨rfl, g0⟩
      have B0 := B.trans (g0.mono yB)
      have y0 := B0.size
      go_wp2_with (fail)
      refine (c2.out _).mono ?_
      rintro e v1 ⟨rfl, g1⟩
      have B1 := B0.trans (g1.mono y0)
      have y1 := B1.size
      go_wp2_with (fail)
      refine (c3.out _).mono ?_
      rintro e v2 ⟨rfl, g2⟩
      have B2 := B1.trans (g2.mono y1)
      have y2 := B2.size
      go_wp2_with (fail)
      refine (c4.out _).mono ?_
      rintro e v3 ⟨rfl, g3⟩
      have B3 := B2.trans (g3.mono y2)
      have y3 := B3.size
      go_wp2_with (fail)
      refine (c5.out _).mono ?_
      rintro e v4 ⟨rfl, g4⟩
      have B4 := B3.trans (g4.mono y3)
      have y4 := B4.size
      go_wp2_with (fail)
      refine (c6.out _).mono ?_
      rintro e v5 ⟨rfl, g5⟩
      have B5 := B4.trans (g5.mono y4)
      have y5 := B5.size
      go_wp2_with (fail)
      refine (c7.out _).mono ?_
      rintro e v6 ⟨rfl, g6⟩
      have B6 := B5.trans (g6.mono y5)
      have y6 := B6.size
      go_wp2_with (fail)
      refine (c8.out _).mono ?_
      rintro e v7 ⟨rfl, g7⟩
      have B7 := B6.trans (g7.mono y6)
      have y7 := B7.size
      go_wp2_with (fail)
      refine (c9.out _).mono ?_
      rintro e v8 ⟨rfl, g8⟩
      have B8 := B7.trans (g8.mono y7)
      have y8 := B8.size
      go_wp2_with (fail)
      refine (c10.out _).mono ?_
      rintro e v9 ⟨rfl, g9⟩
      have B9 := B8.trans (g9.mono y8)
      have y9 := B9.size
      go_wp2_with (fail)
      refine (c11.out _).mono ?_
      rintro e v10 ⟨rfl, g10⟩
      have B10 := B9.trans (g10.mono y9)
      have y10 := B10.size
      go_wp2_with (fail)
      refine (c12.out _).mono ?_
      rintro e v11 ⟨rfl, g11⟩
      have B11 := B10.trans (g11.mono y10)
      have y11 := B11.size
      go_wp2_with (fail)
      refine (c13.out _).mono ?_
      rintro e v12 ⟨rfl, g12⟩
      have B12 := B11.trans (g12.mono y11)
      have y12 := B12.size
      go_wp2_with (fail)
      go_ret
      exact ⟨rfl, B12⟩

namespace crcKnown
open Go.ChangeShapes Go.WideShapes Go.ChangeAt Go.RowKit
open Go.ChangeMaps (open_string shut_string)
theorem own : ownKnob Try.prog.godebug = none := by kernel_rfl
theorem laidOut : laidOutB Try.prog = true := by kernel_rfl

set_option maxRecDepth 100000 in
theorem lifted (os : Os) (started : os.Started) (H : Type) (enc : TypeId × Value → H) :
    ReturnsInHanded {} Try.checked os 9 .any (Rows.crcKnownSpec.pre6 enc Try.prog Try.f9 Rows.crcKnownRow.domain false) (Rows.crcKnownSpec.post enc Try.prog Try.f9 false true false false) := by
  refine returnsInHanded_of_change (C := Try.checked) own started (by kernel_rfl) Try.func9
    (ChangeSpec.witness6 (enc := enc) (C := Try.checked) false ⟨#[], #[], []⟩ 8 (by kernel_rfl) (by kernel_rfl) (by kernel_rfl) (by kernel_rfl)) ?_
  intro W base args ds gs before hval0 hW hcnd _
  have hval : ∀ (j : Nat) t v, Try.f9.params[j]? = some t → args[j]? = some v → Value.okWide Try.prog W .any base t v := hval0
  have hW' := hW
  obtain ⟨p, q, hA0, hV, rfl, hfz, hnd⟩ := hW
  have hA : DataW.TrodAll enc Try.prog W 0 (fun _ => true) true Try.f9.params.toList args.toList ds p := hA0
  rw [Try.params9] at hA hval
  obtain ⟨rfl, rfl, rfl⟩ := trodAll_none hA
  obtain ⟨rfl, rfl⟩ := trodVars_none hV
  clear hA0 hval0
  refine (crcKnown_walk  W).mono fun e W' ⟨he, bel⟩ => ?_
  subst he
  exact ⟨_, rfl, _, _, _, [], [], [], hW', trodAll_mk1 (shut_bool Try.underlying4 _), trodAll_mk0, rfl, bel.frame _, fun h => by cases h⟩

theorem over : Rows.crcKnownRow.holds Try.pinned (OpenSpec.ofChange Rows.crcKnownSpec) :=
  OpenClaim.holds_of_wide 9 Try.f9 rfl rfl rfl rfl rfl rfl rfl ⟨rfl, rfl, rfl, rfl, rfl⟩ rfl rfl rfl rfl rfl (by kernel_rfl) Try.func9 (by kernel_rfl)
    (of_decide_eq_true (by kernel_rfl)) (by unfold Func.isWrapper; first | (rw [if_pos (by decide +kernel)]; kernel_rfl) | (rw [if_neg (by decide +kernel)]; exact ⟨rfl, rfl⟩))
    (fun os started H enc _ => lifted os started H enc)

theorem proved : Rows.CrcKnownSaid := over
#print axioms proved
end crcKnown
end Go.Proofs.Ytaeanmojajmcfaa
