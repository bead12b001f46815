/-
  The contract of the reference's Flip: the string with the pattern's bits changed.
-/
import Derived.Test.YtppdfnghojcppaaCrcR
namespace Go.Proofs.Ytppdfnghojcppaa
open Go.RowKit
set_option linter.unusedVariables false

/-- Octet j when k bits of the pattern p have been looked at. -/
def flv (s : ByteArray) (a p k j : Nat) : Nat := (s.data.toList.getD j 0).toNat ^^^ Crcm.bt ((p % 2 ^ k) * 2 ^ a) j
theorem flv_lt (s : ByteArray) (a p k j : Nat) : flv s a p k j < 256 := Nat.xor_lt_two_pow (n := 8) ((s.data.toList.getD j 0).toNat_lt) (Crcm.bt_lt _ _)
theorem flv_zero (s : ByteArray) (a p j : Nat) : flv s a p 0 j = (s.data.toList.getD j 0).toNat := by
  unfold flv Crcm.bt
  simp [Nat.mod_one]
theorem flv_set (s : ByteArray) (a p k j : Nat) (h : p / 2 ^ k % 2 = 1) : flv s a p (k + 1) j = if j = (a + k) / 8 then flv s a p k j ^^^ 2 ^ ((a + k) % 8) else flv s a p k j := by
  unfold flv
  rw [Crcm.pat_set p k a h, Crcm.bt_xor, Crcm.bt_pow]
  split
  · rw [Nat.xor_assoc]
  · rw [Nat.xor_zero]
theorem flv_unset (s : ByteArray) (a p k j : Nat) (h : ¬ p / 2 ^ k % 2 = 1) : flv s a p (k + 1) j = flv s a p k j := by
  unfold flv
  rw [Crcm.pat_unset p k h]
/-- A string of which the bits of the pattern p are changed, from place a on. -/
def flipB (s : ByteArray) (a p : Nat) : ByteArray := S (Crcm.flip s.data.toList (p * 2 ^ a))
theorem flipB_size (s : ByteArray) (a p : Nat) : (flipB s a p).size = s.size := by rw [flipB, S_size, Crcm.flip_length, ← Lib.size_eq]
theorem flv_all (s : ByteArray) (a p j : Nat) (hp : p < 4294967296) (hj : j < s.data.toList.length) : ((Crcm.flip s.data.toList (p * 2 ^ a))[j]'(by rw [Crcm.flip_length]; exact hj)).toNat = flv s a p 32 j := by
  rw [Crcm.flip_at _ _ _ hj, UInt8.toNat_ofNat']
  unfold flv
  rw [show p % 2 ^ 32 = p from Nat.mod_eq_of_lt hp]
  rw [List.getD_eq_getElem?_getD, List.getElem?_eq_getElem hj]
  exact Nat.mod_eq_of_lt (Nat.xor_lt_two_pow (n := 8) (UInt8.toNat_lt _) (Crcm.bt_lt _ _))

/-- A row of octets in block B. -/
structure RowAt (W : World) (B n : Nat) (f : Nat → Nat) : Prop where
  cell : ∀ j, j < n → W.cell? ⟨B, j, none⟩ = some (.int .u8 ((f j : Nat) : Int))
  free : ∀ j, j < n → W.frozen? ⟨B, j, none⟩ = false
theorem RowAt.set {W : World} {B n : Nat} {f g : Nat → Nat} (h : RowAt W B n f) (i v : Nat) (hi : i < n) (hg : ∀ j, g j = if j = i then v else f j) : RowAt ((W.setCell ⟨B, i, none⟩ (.int .u8 (v : Int))).drew) B n g := by
  refine ⟨fun j hj => ?_, fun j hj => ?_⟩
  · show (W.setCell ⟨B, i, none⟩ (.int .u8 (v : Int))).cell? _ = _
    rw [hg]
    by_cases e : j = i
    · subst e; rw [if_pos rfl]; exact World.cell?_setCell_same' _ _ _ (by rw [h.cell j hj]; rfl)
    · rw [if_neg e, World.cell?_setCell_other _ _ _ _ (by intro e2; injection e2 with _ e2; omega)]; exact h.cell j hj
  · show (W.setCell ⟨B, i, none⟩ (.int .u8 (v : Int))).frozen? _ = _
    rw [World.frozen?_setCell]; exact h.free j hj

theorem row_bytes (w : World) (s : ByteArray) (a p cap : Nat) (h : s.size ≤ cap) : RowAt (w.alloc (.cells (bytesRow s cap) 5 ((bytesRow s cap).size, (bytesRow s cap).size + 1))) w.heap.size s.size (flv s a p 0) := by
  refine ⟨fun j hj => ?_, fun j hj => ?_⟩
  · rw [World.cell?_alloc_mark, bytesRow_at s cap j hj, flv_zero]
    rw [List.getD_eq_getElem?_getD, List.getElem?_eq_getElem (by rw [← Lib.size_eq]; exact hj)]
    rfl
  · rw [World.frozen?_alloc_mark]
    have : s.size ≤ (bytesRow s cap).size := by
      unfold bytesRow; rw [Array.size_append, Array.size_map]; show s.data.size ≤ _; omega
    rw [Bool.and_eq_false_iff, decide_eq_false_iff_not]
    left; omega

theorem u8_pow (r : Nat) (h : r < 8) : IntKind.u8.wrap (2 ^ r) = ((2 ^ r : Nat) : Int) ∧ 2 ^ r < 256 := by
  have : r = 0 ∨ r = 1 ∨ r = 2 ∨ r = 3 ∨ r = 4 ∨ r = 5 ∨ r = 6 ∨ r = 7 := by omega
  rcases this with rfl | rfl | rfl | rfl | rfl | rfl | rfl | rfl <;> decide
theorem RowAt.drew {W : World} {B n : Nat} {f : Nat → Nat} (h : RowAt W B n f) : RowAt W.drew B n f := ⟨h.cell, h.free⟩
theorem xor_u8n (a b : Nat) (ha : a < 256) (hb : b < 256) : bits .xor .u8 (a : Int) (b : Int) = ((a ^^^ b : Nat) : Int) := u8_xor_nat a b ha hb

set_option maxRecDepth 100000 in
theorem Flip_any (s : ByteArray) (hs : s.size ≤ 4000000000000000) (a : Nat) (ha : a ≤ 4000000000000000000) (p : Nat) (hp : p < 4294967296) (w : World) :
    Calls Try.prog 19 #[.string s, .int .i64 (a : Int), .int .u32 (p : Int)] w fun e w' => e = .returned (.string (flipB s a p)) ∧ Below w.heap.size w w' := by
  have hby := fun W => run_bytes_of_string (P := Try.prog) W 9 23 5 s Try.underlying9 Try.underlying23 Try.underlying5
  go_enter Try.func19, Try.ntmps19
  go_wp2_with (fail)
  generalize hcap : grownCap w s.size 0 5 = cap at *
  have hcp : s.size ≤ cap := by rw [← hcap]; exact grownCap_ge _ _ _ _
  clear hcap
  go_loopw [8] (fun i wr => ∃ k : Nat, k ≤ 32 ∧ i = .int .i64 k ∧ RowAt wr w.heap.size s.size (flv s a p k) ∧ Below w.heap.size w wr) (fun i _ => 32 - (intOf i).toNat)
  case atStart => exact ⟨0, by omega, rfl, (row_bytes w s a p cap hcp).drew, (by repeat' (first | exact Below.refl _ _ | assumption | refine below_drewN ?_ _ | refine Below.drew ?_ | refine Below.alloc ?_ (by (first | exact Nat.le_refl _ | assumption | (simp; done) | omega | (simp; omega))) _ | refine Below.setCell ?_ (by (first | exact Nat.le_refl _ | assumption | (simp; done) | omega | (simp; omega))) _ | refine Below.trans ?_ (Below.mono (by assumption) (by (first | exact Nat.le_refl _ | assumption | (simp; done) | omega | (simp; omega))))))⟩
  case round =>
    obtain ⟨k, hk, rfl, hr, hb⟩ := hrel
    by_cases hlt : k < 32
    · have hd3 : decide ((k : Int) < 32) = true := by rw [decide_eq_true_eq]; omega
      have hq : p / 2 ^ k < 4294967296 := Nat.lt_of_le_of_lt (Nat.div_le_self _ _) hp
      have hdq : (p : Int) / 2 ^ k = ((p / 2 ^ k : Nat) : Int) := by rw [Int.natCast_ediv, Int.natCast_pow]; rfl
      have han := and_one _ hq
      by_cases hodd : p / 2 ^ k % 2 = 1
      · have hst := fun j => flv_set s a p k j hodd
        rw [hodd] at han
        clear hodd
        generalize p / 2 ^ k = q at *
        by_cases hin : a + k < 8 * s.size
        · obtain ⟨i, hi⟩ : ∃ i, (a + k) / 8 = i := ⟨_, rfl⟩
          obtain ⟨r, hrr⟩ : ∃ r, (a + k) % 8 = r := ⟨_, rfl⟩
          have hi1 : i < s.size := by omega
          have hr1 : r < 8 := by omega
          rw [hi, hrr] at hst
          have q1 : ((a : Int) + (k : Int)) / 8 = (i : Int) := by omega
          have q2 : ((a : Int) + (k : Int)) % 8 = (r : Int) := by omega
          clear hi hrr
          obtain ⟨q3, ht⟩ := u8_pow r hr1
          have hx := xor_u8n (flv s a p k i) (2 ^ r) (flv_lt _ _ _ _ _) ht
          have hc := hr.cell i hi1
          have hf := hr.free i hi1
          have HR := Lib.hid hr; clear hr
          have HST := Lib.hid hst; clear hst
          generalize hV : flv s a p k i ^^^ 2 ^ r = V at *
          have HV := Lib.hid hV; clear hV
          generalize hT : 2 ^ r = T at *
          go_wp2_with (fail)
          go_region
          all_goals go_wp2
          all_goals go_roundw
          case rel => exact ⟨k + 1, by omega, by go_num, HR.out.set i V hi1 (fun j => by rw [HST.out j]; split <;> rename_i hj <;> first | (subst hj; exact HV.out) | rfl), (hb.setCell (p := ⟨w.heap.size, i, none⟩) (Nat.le_refl _) _).drew⟩
          case measure => simp [intOf]; omega
        · have hdin : decide ((a : Int) + (k : Int) < 8 * (s.size : Int)) = false := by rw [decide_eq_false_iff_not]; omega
          have hst2 : ∀ j, j < s.size → flv s a p (k + 1) j = flv s a p k j := fun j hj => by rw [hst j, if_neg (by omega)]
          have HST := Lib.hid hst2; clear hst2 hst
          have HR := Lib.hid hr; clear hr
          go_wp2_with (fail)
          go_roundw
          case rel => exact ⟨k + 1, by omega, by go_num, ⟨fun j hj => by rw [HST.out j hj]; exact HR.out.cell j hj, HR.out.free⟩, hb⟩
          case measure => simp [intOf]; omega
      · have hst2 := fun j => flv_unset s a p k j hodd
        rw [show p / 2 ^ k % 2 = 0 by omega] at han
        clear hodd
        generalize p / 2 ^ k = q at *
        have HST := Lib.hid hst2; clear hst2
        have HR := Lib.hid hr; clear hr
        go_wp2_with (fail)
        go_roundw
        case rel => exact ⟨k + 1, by omega, by go_num, ⟨fun j hj => by rw [HST.out j]; exact HR.out.cell j hj, HR.out.free⟩, hb⟩
        case measure => simp [intOf]; omega
    · obtain rfl : k = 32 := by omega
      have hcv := conv_list wr w.heap.size cap (Crcm.flip s.data.toList (p * 2 ^ a)) (by
        intro j hj
        rw [Crcm.flip_length] at hj
        rw [hr.cell j (by rw [Lib.size_eq]; exact hj), ← flv_all s a p j hp hj])
      rw [Crcm.flip_length, ← Lib.size_eq] at hcv
      clear hr
      go_wp2_with (fail)
      go_ret
      exact ⟨rfl, hb⟩

/-! make([]byte, n). -/
def zrow (n : Nat) : Array Value := madeCells #[.int .u8 0] n
theorem byte_info : (Try.prog.info? 5).map (fun i => (i.zero, i.size, i.bytes)) = some (some (.int .u8 0), 1, 1) := by kernel_rfl
theorem make_bytes (n : Nat) (hn : n ≤ 1000000) (W : World) : (Instr.makeSlice 23 (.int .i64 (n : Int)) (.int .i64 (n : Int))).run Try.prog W = .ok (.slice (some ⟨W.heap.size, 0, none⟩) n n) (W.alloc (.cells (zrow n) 5)) := by
  obtain ⟨i0, hi, hz0, hz1, hz2⟩ := info_parts byte_info
  have h := run_make (P := Try.prog) W 23 5 i0 _ Try.underlying23 hi hz0 .i64 .i64 n n (by omega) (by omega) (by rw [hz2]; omega) (by omega)
  rw [hz1] at h
  simp only [Int.toNat_natCast, Nat.mul_one] at h
  exact h
theorem zrow_row (n : Nat) (W : World) : RowAt (W.alloc (.cells (zrow n) 5)) W.heap.size n (fun _ => 0) := by
  refine ⟨fun j hj => ?_, fun j hj => frozen_of_row _ _ _ _ _ (heap_alloc_new W _)⟩
  rw [cell_of_row _ _ _ _ _ (0, 0) (heap_alloc_new W _), ← Array.getElem?_toList, zrow, toList_madeCells_one, List.getElem?_replicate, if_pos hj]
  rfl
end Go.Proofs.Ytppdfnghojcppaa
