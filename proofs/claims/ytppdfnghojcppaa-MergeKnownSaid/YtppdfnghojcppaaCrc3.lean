/-
  Contracts of crc.Seal, Mark, Good and Marked.
-/
import Derived.Test.YtppdfnghojcppaaCrc2
import Derived.Deep.RegionHeld3
import Derived.Deep.DrawnRows
namespace Go.Proofs.Ytppdfnghojcppaa
open Go.RowKit
set_option linter.unusedVariables false

/-- A string sealed with m. -/
def sealB (m : Nat) (s : ByteArray) : ByteArray := S (Crcm.sealM m s.data.toList)
def goodB (m : Nat) (s : ByteArray) : Bool := Crcm.goodM m s.data.toList
theorem sealB_eq (m : Nat) (s : ByteArray) : s ++ S (Crcm.oct (Crcm.crc s.data.toList ^^^ m)) = sealB m s := by
  unfold sealB Crcm.sealM
  rw [← S_append, S_of]
theorem oct_size (c : Nat) : (S (Crcm.oct c)).size = 4 := by rw [S_size]; rfl

theorem Seal_any (s : ByteArray) (hs : s.size ≤ 9000000000000000000) (w : World) :
    Calls Try.prog 28 #[.string s] w fun e w' => e = .returned (.string (sealB 0 s)) ∧ Below w.heap.size w w' := by
  have hc := Crcm.crc_lt s.data.toList
  have he := sealB_eq 0 s
  rw [Nat.xor_zero] at he
  have hz := oct_size (Crcm.crc s.data.toList)
  have HE := Lib.hid he; clear he
  go_enter Try.func28, Try.ntmps28
  go_wp2_with (fail)
  refine (Of_any s hs _).mono ?_
  rintro e w1 ⟨rfl, hb1⟩
  go_wp2_with (fail)
  refine (Octets_any _ hc _).mono ?_
  rintro e w2 ⟨rfl, hb2⟩
  go_wp2_with (fail)
  go_ret
  exact ⟨by rw [← HE.out]; rfl, hb1.trans (hb2.mono hb1.size)⟩
theorem Mark_any (s : ByteArray) (hs : s.size ≤ 9000000000000000000) (w : World) :
    Calls Try.prog 31 #[.string s] w fun e w' => e = .returned (.string (sealB Crcm.marking s)) ∧ Below w.heap.size w w' := by
  have hc := Crcm.crc_lt s.data.toList
  have hm : Crcm.marking < 4294967296 := by decide
  have hx := xor_u32 _ _ hc hm
  have hc2 : Crcm.crc s.data.toList ^^^ Crcm.marking < 4294967296 := Nat.xor_lt_two_pow (n := 32) hc hm
  have he := sealB_eq Crcm.marking s
  have hz := oct_size (Crcm.crc s.data.toList ^^^ Crcm.marking)
  have HE := Lib.hid he; clear he
  rw [show ((Crcm.marking : Nat) : Int) = 4294901760 from rfl] at hx
  clear hm
  generalize Crcm.crc s.data.toList ^^^ Crcm.marking = C at *
  go_enter Try.func31, Try.ntmps31
  go_wp2_with (fail)
  refine (Of_any s hs _).mono ?_
  rintro e w1 ⟨rfl, hb1⟩
  go_wp2_with (fail)
  refine (Octets_any C hc2 _).mono ?_
  rintro e w2 ⟨rfl, hb2⟩
  go_wp2_with (fail)
  go_ret
  exact ⟨by rw [← HE.out]; rfl, hb1.trans (hb2.mono hb1.size)⟩
attribute [local go_sem ↓] Go.wp_at_zero Go.wp_at_succ
theorem goodB_short (m : Nat) (s : ByteArray) (h : s.size < 4) : goodB m s = false := by
  unfold goodB Crcm.goodM
  rw [decide_eq_false_iff_not, ← Lib.size_eq]
  omega
theorem goodB_long (m : Nat) (s : ByteArray) (h : 4 ≤ s.size) : goodB m s = ((s.extract (s.size - 4) s.size).toList == (S (Crcm.oct (Crcm.crc (s.extract 0 (s.size - 4)).data.toList ^^^ m))).toList) := by
  unfold goodB Crcm.goodM
  rw [Bool.eq_iff_iff, decide_eq_true_eq, beq_iff_eq, S_toList, Lib.extract_toList, Lib.extract_data, ← Lib.size_eq, List.drop_zero, Nat.sub_zero, List.take_of_length_le (l := s.data.toList.drop (s.size - 4)) (by rw [List.length_drop, ← Lib.size_eq]; omega)]
  exact ⟨fun h => h.2, fun h2 => ⟨h, h2⟩⟩

theorem ends_any (s : ByteArray) (m : Nat) (hm : m < 4294967296) (hs : s.size ≤ 9000000000000000000) (w : World) :
    Calls Try.prog 59 #[.string s, .int .u32 (m : Int)] w fun e w' => e = .returned (.bool (goodB m s)) ∧ Below w.heap.size w w' := by
  by_cases h4 : s.size < 4
  · have he := goodB_short m s h4
    rw [he]
    go_enter Try.func59, Try.ntmps59
    go_wp2_with (fail)
    go_ret
    exact ⟨rfl, Below.refl _ _⟩
  · obtain ⟨b, hb⟩ : ∃ b : Nat, s.size = b + 4 := ⟨s.size - 4, by omega⟩
    have he := goodB_long m s (by omega)
    rw [show s.size - 4 = b by omega] at he
    have hc := Crcm.crc_lt (s.extract 0 b).data.toList
    have hx := xor_u32 _ _ hc hm
    have hc2 : Crcm.crc (s.extract 0 b).data.toList ^^^ m < 4294967296 := Nat.xor_lt_two_pow (n := 32) hc hm
    rw [he]
    clear he
    have hsz : (s.extract 0 b).size ≤ 9000000000000000000 := by rw [ByteArray.size_extract]; omega
    have c1 := fun W => Of_any (s.extract 0 b) hsz W
    generalize Crcm.crc (s.extract 0 b).data.toList = C at *
    generalize C ^^^ m = D at *
    have C1 := Lib.hid c1; clear c1
    have hb0 : (0 : Int) ≤ (b : Int) := by omega
    have hbu : (b : Int) ≤ (s.size : Int) := by omega
    have hbs : (s.size : Int) - 4 = (b : Int) := by omega
    clear hb
    go_enter Try.func59, Try.ntmps59
    go_wp2_with (fail)
    go_region_held3 (fun _ => True) (trivial) (first | (go_at_call 58; refine (C1.out _).mono ?_; rintro e w1 ⟨rfl, hb1⟩) | (go_at_call 57; refine (Octets_any D hc2 _).mono ?_; rintro e w2 ⟨rfl, hb2⟩))
    go_wp2
    go_ret
    have hb3 : Below w.heap.size w w1 := ((Below.refl _ w).drew).trans hb1
    exact ⟨rfl, hb3.trans (hb2.mono hb3.size)⟩
theorem Good_any (s : ByteArray) (hs : s.size ≤ 9000000000000000000) (w : World) :
    Calls Try.prog 32 #[.string s] w fun e w' => e = .returned (.bool (goodB 0 s)) ∧ Below w.heap.size w w' := by
  go_enter Try.func32, Try.ntmps32
  go_wp2_with (fail)
  refine (ends_any s 0 (by omega) hs _).mono ?_
  rintro e w1 ⟨rfl, hb1⟩
  go_wp2_with (fail)
  go_ret
  exact ⟨rfl, hb1⟩
theorem Marked_any (s : ByteArray) (hs : s.size ≤ 9000000000000000000) (w : World) :
    Calls Try.prog 46 #[.string s] w fun e w' => e = .returned (.bool (goodB Crcm.marking s)) ∧ Below w.heap.size w w' := by
  have c1 := fun W => ends_any s Crcm.marking (by decide) hs W
  rw [show ((Crcm.marking : Nat) : Int) = 4294901760 from rfl] at c1
  have C1 := Lib.hid c1; clear c1
  go_enter Try.func46, Try.ntmps46
  go_wp2_with (fail)
  refine (C1.out _).mono ?_
  rintro e w1 ⟨rfl, hb1⟩
  go_wp2_with (fail)
  go_ret
  exact ⟨rfl, hb1⟩
end Go.Proofs.Ytppdfnghojcppaa
