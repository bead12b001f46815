/-
  Contracts of package crc's functions: what each of them returns.
-/
import Derived.Test.YtppdfnghojcppaaWire2
import Derived.Test.YtppdfnghojcppaaCrcMath
import Derived.RegionTactic
import Derived.BigRegion
import Derived.Laws.Tables
import Derived.Laws.BitsAllLaws
namespace Go.Proofs.Ytppdfnghojcppaa
open Go.RowKit
set_option linter.unusedVariables false

/-- The table when its first i places are filled. -/
def tabv (i j : Nat) : Nat := if j < i then Crcm.T8 j else 0
def tabc (i : Nat) : Array Value := ((List.range 256).map fun j => Value.int .u32 ((tabv i j : Nat) : Int)).toArray
theorem tabc_size (i : Nat) : (tabc i).size = 256 := by simp [tabc]
theorem tabc_at (i j : Nat) (h : j < 256) : (tabc i)[j]? = some (.int .u32 ((tabv i j : Nat) : Int)) := by simp [tabc, h]
theorem tabc_set (i : Nat) (h : i < 256) : (tabc i).setIfInBounds i (.int .u32 ((Crcm.T8 i : Nat) : Int)) = tabc (i + 1) := by
  apply Array.ext
  · simp [tabc_size]
  · intro j h1 h2
    rw [Array.size_setIfInBounds, tabc_size] at h1
    have e1 := tabc_at (i + 1) j h1
    have e0 := tabc_at i j h1
    rw [Array.getElem?_eq_getElem h2] at e1
    rw [Array.getElem?_eq_getElem (by rw [tabc_size]; exact h1)] at e0
    injection e1 with e1
    injection e0 with e0
    rw [Array.getElem_setIfInBounds (by rw [tabc_size]; exact h1), e1]
    split
    · rename_i hij; subst hij; simp [tabv]
    · rename_i hij; rw [e0]; unfold tabv; congr 2
      by_cases hj : j < i
      · rw [if_pos hj, if_pos (by omega)]
      · rw [if_neg hj, if_neg (by omega)]
theorem tabc_one (i : Nat) : (tabc i).all (·.oneCell') = true := by
  rw [Array.all_eq_true]
  intro j h
  rw [tabc_size] at h
  have e0 := tabc_at i j h
  rw [Array.getElem?_eq_getElem (by rw [tabc_size]; exact h)] at e0
  injection e0 with e0
  rw [e0]; rfl

theorem and_one (c : Nat) (h : c < 4294967296) : bits .and .u32 (c : Int) 1 = ((c % 2 : Nat) : Int) := by
  have h1 : (BitVec.ofInt 32 (c : Int)).toNat = c := by rw [BitVec.ofInt_natCast, BitVec.toNat_ofNat]; exact Nat.mod_eq_of_lt h
  show IntKind.u32.wrap ((BitVec.ofInt 32 (c : Int) &&& BitVec.ofInt 32 1).toNat : Int) = _
  rw [BitVec.toNat_and, h1, show (BitVec.ofInt 32 1).toNat = 2 ^ 1 - 1 by decide, Nat.and_two_pow_sub_one_eq_mod, IntKind.wrap_u32']
  omega
theorem xor_u32 (a b : Nat) (ha : a < 4294967296) (hb : b < 4294967296) : bits .xor .u32 (a : Int) (b : Int) = ((a ^^^ b : Nat) : Int) := by
  have hx : a ^^^ b < 2 ^ 32 := Nat.xor_lt_two_pow (by omega) (by omega)
  have h1 : (BitVec.ofInt 32 (a : Int)).toNat = a := by rw [BitVec.ofInt_natCast, BitVec.toNat_ofNat]; exact Nat.mod_eq_of_lt ha
  have h2 : (BitVec.ofInt 32 (b : Int)).toNat = b := by rw [BitVec.ofInt_natCast, BitVec.toNat_ofNat]; exact Nat.mod_eq_of_lt hb
  show IntKind.u32.wrap ((BitVec.ofInt 32 (a : Int) ^^^ BitVec.ofInt 32 (b : Int)).toNat : Int) = _
  rw [BitVec.toNat_xor, h1, h2, IntKind.wrap_u32']
  omega

theorem tab_info : (Try.prog.info? 113).map (·.size) = some 256 := by kernel_rfl

set_option maxRecDepth 100000 in
theorem table_any (w : World) : Calls Try.prog 75 #[] w fun e w' => e = .returned (.agg (tabc 256)) ∧ Below w.heap.size w w' := by
  have hz : ∀ W : World, (zeroValue 113).run Try.prog W = .ok (.agg (tabc 0)) W := fun _ => by kernel_rfl
  go_enter Try.func75, Try.ntmps75
  go_wp2_with (fail)
  go_loopw [5] (fun i wr => ∃ k : Nat, k ≤ 256 ∧ i = .int .i64 k ∧ Below w.heap.size w wr ∧ wr.heap[w.heap.size]? = some (.cells (tabc 0) 113 (0, 0)) ∧ wr.heap[w.heap.size + 1]? = some (.cells (tabc k) 113 (0, 0))) (fun i _ => 256 - (intOf i).toNat)
  case atStart => exact ⟨0, by omega, rfl, ((Below.refl _ _).alloc (Nat.le_refl _) _).alloc (by simp) _, heap_alloc2_old _ _ _, heap_alloc2_new _ _ _⟩
  case round =>
    obtain ⟨k, hk, rfl, hb, hg0, hg1⟩ := hrel
    have hz := hb.size
    by_cases hlt : k < 256
    · have hd3 : decide ((k : Int) < 256) = true := by rw [decide_eq_true_eq]; omega
      have HG0 := Lib.hid hg0; clear hg0
      have HG1 := Lib.hid hg1; clear hg1
      go_wp2_with (fail)
      go_loop [3, 4, 10] (fun c _ i => ∃ j : Nat, j ≤ 8 ∧ i = .int .i64 j ∧ c = .int .u32 ((Crcm.Ts j k : Nat) : Int)) (fun _ _ i => 8 - (intOf i).toNat)
      case atStart => exact ⟨0, by omega, rfl, by rw [Crcm.Ts_nought]⟩
      case round =>
        obtain ⟨j, hj, rfl, rfl⟩ := hrel
        have hc := Crcm.Ts_lt (n := j) (show k < 4294967296 by omega)
        have hs := Crcm.Ts_snoc j k
        have HS := Lib.hid hs; clear hs
        by_cases hlt2 : j < 8
        · have ha := and_one _ hc
          have hx := xor_u32 (Crcm.Ts j k / 2) 3988292384 (by omega) (by omega)
          simp only [Int.natCast_ediv, Int.cast_ofNat_Int] at hx
          by_cases hodd : Crcm.Ts j k % 2 = 1
          · rw [hodd] at ha
            have HO := Lib.hid hodd; clear hodd
            go_wp2_with (fail)
            go_round
            case rel => exact ⟨j + 1, by omega, by go_num, by rw [HS.out, Crcm.T, if_pos HO.out]⟩
            case measure => simp [intOf]; omega
          · rw [show Crcm.Ts j k % 2 = 0 by omega] at ha
            have HO := Lib.hid hodd; clear hodd
            clear hx
            go_wp2_with (fail)
            go_round
            case rel => exact ⟨j + 1, by omega, by go_num, by rw [HS.out, Crcm.T, if_neg HO.out]; go_num⟩
            case measure => simp [intOf]; omega
        · obtain rfl : j = 8 := by omega
          have hcell : wr.cell? ⟨w.heap.size + 1, k, none⟩ = some (.int .u32 ((tabv k k : Nat) : Int)) := by rw [cell_of_row _ _ _ _ _ _ HG1.out, tabc_at _ _ hlt]
          have hfr : wr.frozen? ⟨w.heap.size + 1, k, none⟩ = false := frozen_of_row _ _ _ _ _ HG1.out
          have e8 := Crcm.T8_eq k
          have HE8 := Lib.hid e8; clear e8
          go_wp2_with (fail)
          go_roundw
          case rel => exact ⟨k + 1, by omega, by go_num, hb.setCell (p := ⟨w.heap.size + 1, k, none⟩) (by simp) _, by rw [heap_setCell_other _ _ _ _ (by simp)]; exact HG0.out, by rw [heap_setCell_same _ _ _ _ _ _ HG1.out, ← HE8.out, tabc_set _ hlt]⟩
          case measure => simp [intOf]; omega
    · obtain rfl : k = 256 := by omega
      have HG0 := Lib.hid hg0; clear hg0
      have HG1 := Lib.hid hg1; clear hg1
      have HI := Lib.hid tab_info
      go_wp2_with (first
        | (refine wpList_load_row rfl 113 (.tmp 1) rfl (w.heap.size + 1) rfl 113 (tabc 256) (0, 0) _ HG1.out Try.underlying113 rfl (by rw [tabc_size]; exact HI.out) ?_)
        | (refine wpList_store_row rfl 113 (.tmp 0) (.tmp 25) rfl w.heap.size (tabc 256) rfl rfl 113 (tabc 0) HG0.out (by rw [tabc_size]; exact HI.out) (by rw [tabc_size, tabc_size]) (tabc_one 256) ?_))
      refine bodyPost_ret (results_cell_row rfl _ _ w.heap.size 113 (tabc 256) (0, 0) _ rfl (setRow_heap _ _ (tabc 0) _ _ _ HG0.out) Try.underlying113 rfl (by rw [tabc_size]; exact HI.out)) rfl ⟨rfl, ?_⟩
      exact hb.trans ⟨rfl, rfl, rfl, by simp, fun i hi => setRow_other _ _ _ _ (by omega)⟩

/-- What a register in block B holds: its value v, and the table. -/
structure Reg (W : World) (B v : Nat) : Prop where
  val : W.cell? ⟨B, 0, none⟩ = some (.int .u32 (v : Int))
  free : W.frozen? ⟨B, 0, none⟩ = false
  tab : ∀ k, k < 256 → W.cell? ⟨B, 1 + k, none⟩ = some (.int .u32 ((Crcm.T8 k : Nat) : Int))

theorem xor_u8b (v x : Nat) (hx : x < 256) : bits .xor .u8 ((v : Int) % 256) (x : Int) = ((v % 256 ^^^ x : Nat) : Int) := by
  rw [show ((v : Int) % 256) = ((v % 256 : Nat) : Int) by omega]
  exact u8_xor_nat _ _ (by omega) hx

theorem take_any (B v x : Nat) (hv : v < 4294967296) (hx : x < 256) (w : World) (hr : Reg w B v) :
    Calls Try.prog 76 #[.pointer (some ⟨B, 0, none⟩), .int .u8 (x : Int)] w fun e w' => e = .returned (.tuple #[]) ∧ (w.setCell ⟨B, 0, none⟩ (.int .u32 ((Crcm.T8 (v ^^^ x) : Nat) : Int))).drew = w' := by
  have hv0 := hr.val
  have hf0 := hr.free
  have hi : v % 256 ^^^ x < 256 := Nat.xor_lt_two_pow (n := 8) (by omega) (by omega)
  have ht := hr.tab _ hi
  have h8 := xor_u8b v x hx
  have hl := Crcm.Ts_lt (n := 8) (show v % 256 ^^^ x < 4294967296 by omega)
  rw [← Crcm.T8_eq] at hl
  have hx2 := xor_u32 (v / 256) _ (by omega) hl
  rw [Crcm.table_step] at hx2
  simp only [Int.natCast_ediv, Int.cast_ofNat_Int] at hx2
  generalize Crcm.T8 (v ^^^ x) = r at *
  generalize Crcm.T8 (v % 256 ^^^ x) = t at *
  generalize v % 256 ^^^ x = i at *
  go_enter Try.func76, Try.ntmps76
  go_wp2_with (fail)
  go_region
  all_goals (go_end0; exact ⟨rfl, rfl⟩)

def regc (c : Nat) : Array Value := (Value.int .u32 (c : Int) :: (tabc 256).toList).toArray
theorem regc_built (c : Nat) : Try.prog.built 116 [(0, .int .u32 (c : Int)), (1, .agg (tabc 256))] = some (regc c) := by kernel_rfl
theorem regc_reg (W : World) (B c : Nat) (h : W.heap[B]? = some (.cells (regc c) 116 (0, 0))) : Reg W B c := by
  refine ⟨?_, frozen_of_row _ _ _ _ _ h, fun k hk => ?_⟩
  · rw [cell_of_row _ _ _ _ _ _ h]; simp [regc]
  · rw [cell_of_row _ _ _ _ _ _ h]
    have e := tabc_at 256 k hk
    rw [show tabv 256 k = Crcm.T8 k by simp [tabv, hk]] at e
    rw [Nat.add_comm]
    simpa [regc] using e
theorem Reg.set {W : World} {B c : Nat} (h : Reg W B c) (v : Nat) : Reg ((W.setCell ⟨B, 0, none⟩ (.int .u32 (v : Int))).drew) B v := by
  refine ⟨?_, ?_, fun k hk => ?_⟩
  · show (W.setCell ⟨B, 0, none⟩ (.int .u32 (v : Int))).cell? _ = _
    exact World.cell?_setCell_same' _ _ _ (by rw [h.val]; rfl)
  · show (W.setCell ⟨B, 0, none⟩ (.int .u32 (v : Int))).frozen? _ = _
    rw [World.frozen?_setCell]; exact h.free
  · show (W.setCell ⟨B, 0, none⟩ (.int .u32 (v : Int))).cell? _ = _
    rw [World.cell?_setCell_other _ _ _ _ (by intro e; injection e with _ e; omega)]; exact h.tab k hk

theorem inv_eq (c : Nat) (h : c < 4294967296) : Crcm.inv c = 4294967295 - c := by
  apply Nat.eq_of_testBit_eq
  intro i
  unfold Crcm.inv Crcm.mask
  rw [Nat.testBit_xor, show (4294967295 : Nat) = 2 ^ 32 - 1 by rfl, Nat.testBit_two_pow_sub_one]
  rw [show 2 ^ 32 - 1 - c = 2 ^ 32 - (c + 1) by omega, Nat.testBit_two_pow_sub_succ h]
  by_cases hi : i < 32
  · simp [hi]
  · have : c.testBit i = false := Nat.testBit_lt_two_pow (Nat.lt_of_lt_of_le h (Nat.pow_le_pow_right (n := 2) (i := 32) (by omega) (by omega)))
    simp [hi, this]

theorem wpList_build2 {P : Program} {w : World} {ops : Array Oper} {rest : List Oper} {o : Oper} {a : Act} {Q : Exit → Act → World → Prop} (hg : o.guard = none) (t : TypeId) (i j : Nat) (x y : Operand) (ho : o.op = .build t #[(i, x), (j, y)]) (u v : Value) (hx : a.eval x = u) (hy : a.eval y = v) (cells : Array Value)
    (hf : P.built t [(i, u), (j, v)] = some cells) (h : wpList P ops Q rest (a.put o.dst (.agg cells)) w) : wpList P ops Q (o :: rest) a w := by
  have e : ((#[(i, x), (j, y)] : Array (Nat × Operand)).map fun (i, x) => (i, a.eval x)).toList = [(i, u), (j, v)] := by simp [hx, hy]
  refine wpList_build hg t _ ho (by rw [e, hf]; rfl) ?_
  rw [e, hf]
  exact h

theorem not_u32 (c : Nat) (hc : c < 4294967296) : bits .xor .u32 IntKind.u32.max (c : Int) = ((Crcm.inv c : Nat) : Int) := by
  have := xor_u32 4294967295 c (by omega) hc
  rw [Nat.xor_comm] at this
  exact this

/-- The register after k octets. -/
def regAt (c : Nat) (s : ByteArray) (k : Nat) : Nat := Crcm.reg (Crcm.inv c) (s.data.toList.take k)
theorem regAt_lt (c : Nat) (hc : c < 4294967296) (s : ByteArray) (k : Nat) : regAt c s k < 4294967296 := Crcm.reg_lt _ (Crcm.inv_lt hc)
theorem regAt_succ (c : Nat) (s : ByteArray) (k : Nat) (h : k < s.size) : regAt c s (k + 1) = Crcm.T8 (regAt c s k ^^^ s[k].toNat) := by
  unfold regAt
  rw [List.take_succ_eq_append_getElem (by rw [← Lib.size_eq]; exact h), Crcm.reg_append]
  rfl
theorem regAt_all (c : Nat) (s : ByteArray) : Crcm.extend c s.data.toList = Crcm.inv (regAt c s s.size) := by
  unfold regAt Crcm.extend
  rw [List.take_of_length_le (by rw [← Lib.size_eq]; exact Nat.le_refl _)]

set_option maxRecDepth 100000 in
theorem Extend_any (c : Nat) (hc : c < 4294967296) (s : ByteArray) (hs : s.size ≤ 9000000000000000000) (w : World) :
    Calls Try.prog 70 #[.int .u32 (c : Int), .string s] w fun e w' => e = .returned (.int .u32 ((Crcm.extend c s.data.toList : Nat) : Int)) ∧ Below w.heap.size w w' := by
  have hn := not_u32 c hc
  go_enter Try.func70, Try.ntmps70
  go_wp2_with (fail)
  refine (table_any _).mono ?_
  rintro e w1 ⟨rfl, hb1⟩
  go_wp2_with (refine wpList_build2 rfl 116 0 1 (.tmp 9) (.tmp 10) rfl _ _ rfl rfl (regc (Crcm.inv c)) (regc_built (Crcm.inv c)) ?_)
  have hz1 := hb1.size
  go_loopw [7, 17] (fun _ i wr => ∃ k : Nat, k ≤ s.size ∧ i = .int .i64 k ∧ Reg wr w1.heap.size (regAt c s k) ∧ Below w.heap.size w wr) (fun _ i _ => s.size - (intOf i).toNat)
  case atStart => exact ⟨0, by omega, rfl, regc_reg _ _ _ (heap_alloc_new _ _), (by repeat' (first | exact Below.refl _ _ | assumption | refine below_drewN ?_ _ | refine Below.drew ?_ | refine Below.alloc ?_ (by (first | exact Nat.le_refl _ | assumption | (simp; done) | omega | (simp; omega))) _ | refine Below.setCell ?_ (by (first | exact Nat.le_refl _ | assumption | (simp; done) | omega | (simp; omega))) _ | refine Below.trans ?_ (Below.mono (by assumption) (by (first | exact Nat.le_refl _ | assumption | (simp; done) | omega | (simp; omega))))))⟩
  case round =>
    obtain ⟨k, hk, rfl, hr, hb⟩ := hrel
    have hlt32 := regAt_lt c hc s k
    by_cases hlt : k < s.size
    · have hx := (s[k]).toNat_lt
      have hs := regAt_succ c s k hlt
      have HS := Lib.hid hs; clear hs
      have HR := Lib.hid hr; clear hr
      go_wp2_with (fail)
      refine (take_any w1.heap.size (regAt c s k) (s[k]).toNat hlt32 (by omega) _ HR.out).mono ?_
      rintro e w2 ⟨rfl, rfl⟩
      go_wp2_with (fail)
      go_roundw
      case rel => exact ⟨k + 1, by omega, by go_num, by rw [HS.out]; exact HR.out.set _, (hb.setCell (p := ⟨w1.heap.size, 0, none⟩) hz1 _).drew⟩
      case measure => simp [intOf]; omega
    · obtain rfl : k = s.size := by omega
      have hv := hr.val
      have hn2 := not_u32 _ hlt32
      have he := regAt_all c s
      have HE := Lib.hid he; clear he
      clear hr
      go_wp2_with (fail)
      go_ret
      exact ⟨by rw [HE.out]; rfl, hb⟩
end Go.Proofs.Ytppdfnghojcppaa
