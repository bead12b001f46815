/-
  The statement CrcLinear holds: for strings of equal length the CRC of the exclusive or of three strings is the exclusive or of their CRCs. No condition.
-/
import Derived.Test.YtaeanmojajmcfaaOpen
import Derived.Test.YtaeanmojajmcfaaCrcDmg
namespace Go.Proofs.Ytaeanmojajmcfaa
open Go.RowKit
set_option linter.unusedVariables false

/-- Octet j of the exclusive or, when i octets have been made. -/
def x3 (a b c : ByteArray) (i j : Nat) : Nat := if j < i then (a.data.toList.getD j 0).toNat ^^^ (b.data.toList.getD j 0).toNat ^^^ (c.data.toList.getD j 0).toNat else 0
def x3l (n : Nat) (a b c : ByteArray) : List UInt8 := xor3 (a.data.toList.take n) (b.data.toList.take n) (c.data.toList.take n)
theorem take_len (n : Nat) (a : ByteArray) (h : n ≤ a.size) : (a.data.toList.take n).length = n := by rw [List.length_take, ← Lib.size_eq]; omega
theorem x3l_length (n : Nat) (a b c : ByteArray) (ha : n ≤ a.size) (hb : n ≤ b.size) (hc : n ≤ c.size) : (x3l n a b c).length = n := xor3_length n _ _ _ (take_len n a ha) (take_len n b hb) (take_len n c hc)
theorem x3_at (n : Nat) (a b c : ByteArray) (ha : n ≤ a.size) (hb : n ≤ b.size) (hc : n ≤ c.size) (j : Nat) (hjn : j < n) : ((x3l n a b c)[j]'(by rw [x3l_length n a b c ha hb hc]; exact hjn)).toNat = x3 a b c n j := by
  have e : (x3l n a b c)[j]'(by rw [x3l_length n a b c ha hb hc]; exact hjn) = _ := xor3_at n _ _ _ (take_len n a ha) (take_len n b hb) (take_len n c hc) j hjn
  rw [e, UInt8.toNat_ofNat', Nat.mod_eq_of_lt (Nat.xor_lt_two_pow (n := 8) (Nat.xor_lt_two_pow (n := 8) (UInt8.toNat_lt _) (UInt8.toNat_lt _)) (UInt8.toNat_lt _))]
  unfold x3
  rw [if_pos hjn]
  rw [Lib.size_eq] at ha hb hc
  simp only [List.getElem_take, List.getD_eq_getElem?_getD, List.getElem?_eq_getElem (show j < a.data.toList.length by omega), List.getElem?_eq_getElem (show j < b.data.toList.length by omega), List.getElem?_eq_getElem (show j < c.data.toList.length by omega), Option.getD_some]
theorem x3_linear (n : Nat) (a b c : ByteArray) (ha : n ≤ a.size) (hb : n ≤ b.size) (hc : n ≤ c.size) :
    Crcm.crc (x3l n a b c) = Crcm.crc (a.extract 0 n).data.toList ^^^ Crcm.crc (b.extract 0 n).data.toList ^^^ Crcm.crc (c.extract 0 n).data.toList := by
  rw [Lib.extract_data, Lib.extract_data, Lib.extract_data, List.drop_zero, List.drop_zero, List.drop_zero, Nat.sub_zero]
  exact linear n _ _ _ (take_len n a ha) (take_len n b hb) (take_len n c hc)

attribute [local go_sem ↓] Go.wp_at_zero Go.wp_at_succ
set_option maxRecDepth 100000 in
set_option maxHeartbeats 1000000 in
theorem crcLinear_walk (a b c : ByteArray) (ha : a.size ≤ maxLen) (hb : b.size ≤ maxLen) (hc : c.size ≤ maxLen) (w : World) :
   Calls Try.prog 7 #[.string a, .string b, .string c] w fun e w' => e = .returned (.bool true) ∧ Below w.heap.size w w' := by
  unfold maxLen at ha hb hc
  go_enter Try.func7, Try.ntmps7
  go_wp2_with (fail)
  refine (works6 _).mono ?_
  rintro e w1 ⟨rfl, hw1⟩
  have y1 := hw1.size
  obtain ⟨n, hn, hn1, hn2, hn3, hn4⟩ : ∃ n : Nat, min (min (a.size : Int) 100) (min (b.size : Int) (c.size : Int)) = (n : Int) ∧ n ≤ 100 ∧ n ≤ a.size ∧ n ≤ b.size ∧ n ≤ c.size := ⟨(min (min (a.size : Int) 100) (min (b.size : Int) (c.size : Int))).toNat, by omega, by omega, by omega, by omega, by omega⟩
  have hmk := fun W => make_bytes n (by omega) W
  go_wp2_with (fail)
  have hrow := zrow_row n w1
  have BB : Below w.heap.size w (w1.alloc (.cells (zrow n) 5)) := hw1.alloc y1 _
  have HROW := Lib.hid hrow; clear hrow
  clear hmk
  go_loopw [9] (fun i wr => ∃ k : Nat, k ≤ n ∧ i = .int .i64 k ∧ RowAt wr w1.heap.size n (x3 a b c k) ∧ Below w.heap.size w wr ∧ w1.heap.size < wr.heap.size) (fun i _ => n - (intOf i).toNat)
  case atStart => exact ⟨0, by omega, rfl, ⟨fun j hj => by rw [HROW.out.cell j hj]; simp [x3], HROW.out.free⟩, BB, by simp⟩
  case round =>
    obtain ⟨k, hk, rfl, hr, hb, hBlt⟩ := hrel
    have yb := hb.size
    by_cases hlt : k < n
    · have hxa := (a[k]'(by omega)).toNat_lt
      have hxb := (b[k]'(by omega)).toNat_lt
      have hxc := (c[k]'(by omega)).toNat_lt
      have e1 := xor_u8n (a[k]'(by omega)).toNat (b[k]'(by omega)).toNat (by omega) (by omega)
      have e2 := xor_u8n ((a[k]'(by omega)).toNat ^^^ (b[k]'(by omega)).toNat) (c[k]'(by omega)).toNat (Nat.xor_lt_two_pow (n := 8) hxa hxb) (by omega)
      have e3 : x3 a b c (k + 1) k = (a[k]'(by omega)).toNat ^^^ (b[k]'(by omega)).toNat ^^^ (c[k]'(by omega)).toNat := by
        unfold x3
        rw [if_pos (by omega)]
        simp only [List.getD_eq_getElem?_getD]
        rw [List.getElem?_eq_getElem (by rw [← Lib.size_eq]; omega), List.getElem?_eq_getElem (by rw [← Lib.size_eq]; omega), List.getElem?_eq_getElem (by rw [← Lib.size_eq]; omega)]
        rfl
      have e4 : ∀ j, x3 a b c (k + 1) j = if j = k then (a[k]'(by omega)).toNat ^^^ (b[k]'(by omega)).toNat ^^^ (c[k]'(by omega)).toNat else x3 a b c k j := by
        intro j
        by_cases hj : j = k
        · subst hj; rw [if_pos rfl]; exact e3
        · rw [if_neg hj]; unfold x3
          by_cases h2 : j < k
          · rw [if_pos h2, if_pos (by omega)]
          · rw [if_neg h2, if_neg (by omega)]
      have hcl := hr.cell k hlt
      have hfr := hr.free k hlt
      have E4 := Lib.hid e4; clear e4 e3
      have HR := Lib.hid hr; clear hr
      have q1 : (0 : Int) ≤ (k : Int) := by omega
      have q2 : (k : Int) < (a.size : Int) := by omega
      have q3 : (k : Int) < (b.size : Int) := by omega
      have q4 : (k : Int) < (c.size : Int) := by omega
      have q5 : (k : Int) < (n : Int) := by omega
      go_wp2_with (fail)
      go_region
      all_goals go_wp2
      all_goals go_roundw
      case rel => exact ⟨k + 1, by omega, by go_num, HR.out.set k _ hlt E4.out, (hb.setCell (p := ⟨w1.heap.size, k, none⟩) y1 _).drew, by simpa [World.setCell] using hBlt⟩
      case measure => simp [intOf]; omega
    · obtain rfl : k = n := by omega
      have hln := x3l_length k a b c hn2 hn3 hn4
      have hcv : ∀ W, Below wr.heap.size wr W → (convert 37 9 (.slice (some ⟨w1.heap.size, 0, none⟩) k k)).run Try.prog W = .ok (.string (S (x3l k a b c))) W := by
        intro W hW
        have h := conv_list W w1.heap.size k (x3l k a b c) (by
          intro j hj
          rw [hln] at hj
          rw [hW.cell (p := ⟨w1.heap.size, j, none⟩) hBlt, hr.cell j hj, ← x3_at k a b c hn2 hn3 hn4 j hj])
        rw [hln] at h
        exact h
      have hlin := x3_linear k a b c hn2 hn3 hn4
      have c1 := fun W => Of_any (S (x3l k a b c)) (by rw [S_size, hln]; omega) W
      rw [show (S (x3l k a b c)).data.toList = x3l k a b c by simp [S], hlin] at c1
      have c2 := fun W => Of_any (a.extract 0 k) (by rw [ByteArray.size_extract]; omega) W
      have c3 := fun W => Of_any (b.extract 0 k) (by rw [ByteArray.size_extract]; omega) W
      have c4 := fun W => Of_any (c.extract 0 k) (by rw [ByteArray.size_extract]; omega) W
      have l2 := Crcm.crc_lt (a.extract 0 k).data.toList
      have l3 := Crcm.crc_lt (b.extract 0 k).data.toList
      have l4 := Crcm.crc_lt (c.extract 0 k).data.toList
      clear hlin
      generalize Crcm.crc (a.extract 0 k).data.toList = X2 at *
      generalize Crcm.crc (b.extract 0 k).data.toList = X3 at *
      generalize Crcm.crc (c.extract 0 k).data.toList = X4 at *
      generalize S (x3l k a b c) = X at *
      have g1 := xor_u32 X2 X3 l2 l3
      have g2 := xor_u32 (X2 ^^^ X3) X4 (Nat.xor_lt_two_pow (n := 32) l2 l3) l4
      generalize X2 ^^^ X3 ^^^ X4 = X1 at *
      generalize X2 ^^^ X3 = X23 at *
      have C1 := Lib.hid c1; clear c1
      have C2 := Lib.hid c2; clear c2
      have C3 := Lib.hid c3; clear c3
      have C4 := Lib.hid c4; clear c4
      have HCV := Lib.hid hcv; clear hcv
      clear hr
      have q1 : (0 : Int) ≤ (k : Int) := by omega
      have q2 : (k : Int) ≤ (a.size : Int) := by omega
      have q3 : (k : Int) ≤ (b.size : Int) := by omega
      have q4 : (k : Int) ≤ (c.size : Int) := by omega
      have BX : Below wr.heap.size wr wr.drew := (Below.refl _ _).drew
      have h0 := HCV.out _ (Below.refl _ wr)
      go_wp2_with (fail)
      go_region_held3 (fun w' => (convert 37 9 (.slice (some ⟨w1.heap.size, 0, none⟩) k k)).run Try.prog w' = .ok (.string X) w') (first | exact HCV.out _ BX | exact h0) (first | (go_at_call 10; ((with_reducible refine (C1.out _).mono ?_); rintro e v ⟨rfl, g⟩; replace BX := BX.trans (g.mono BX.size))) | (go_at_call 10; ((with_reducible refine (C2.out _).mono ?_); rintro e v ⟨rfl, g⟩; replace BX := BX.trans (g.mono BX.size))) | (go_at_call 10; ((with_reducible refine (C3.out _).mono ?_); rintro e v ⟨rfl, g⟩; replace BX := BX.trans (g.mono BX.size))) | (go_at_call 10; ((with_reducible refine (C4.out _).mono ?_); rintro e v ⟨rfl, g⟩; replace BX := BX.trans (g.mono BX.size))))
      go_wp2
      go_ret
      exact ⟨rfl, hb.trans (BX.mono yb)⟩

namespace crcLinear
open Go.ChangeShapes Go.WideShapes Go.ChangeAt Go.RowKit
open Go.ChangeMaps (open_string shut_string)
theorem own : ownKnob Try.prog.godebug = none := by kernel_rfl
theorem laidOut : laidOutB Try.prog = true := by kernel_rfl

set_option maxRecDepth 100000 in
theorem lifted (os : Os) (started : os.Started) (H : Type) (enc : TypeId × Value → H) :
    ReturnsInHanded {} Try.checked os 7 .any (Rows.crcLinearSpec.pre6 enc Try.prog Try.f7 Rows.crcLinearRow.domain false) (Rows.crcLinearSpec.post enc Try.prog Try.f7 false true false false) := by
  refine returnsInHanded_of_change (C := Try.checked) own started (by kernel_rfl) Try.func7
    (ChangeSpec.witness6 (enc := enc) (C := Try.checked) false ⟨#[], #[.string ByteArray.empty, .string ByteArray.empty, .string ByteArray.empty], []⟩ 8 (by kernel_rfl) (by kernel_rfl) (by kernel_rfl) (by kernel_rfl)) ?_
  intro W base args ds gs before hval0 hW hcnd _
  have hval : ∀ (j : Nat) t v, Try.f7.params[j]? = some t → args[j]? = some v → Value.okWide Try.prog W .any base t v := hval0
  have hW' := hW
  obtain ⟨p, q, hA0, hV, rfl, hfz, hnd⟩ := hW
  have hA : DataW.TrodAll enc Try.prog W 0 (fun _ => true) true Try.f7.params.toList args.toList ds p := hA0
  rw [Try.params7] at hA hval
  obtain ⟨v0, vs0, d0, ds0, p0, q0, hargs, rfl, rfl, h0, r0⟩ := trodAll_cons hA
  obtain ⟨v1, vs1, d1, ds1, p1, q1, rfl, rfl, rfl, h1, r1⟩ := trodAll_cons r0
  obtain ⟨v2, vs2, d2, ds2, p2, q2, rfl, rfl, rfl, h2, r2⟩ := trodAll_cons r1
  obtain ⟨rfl, rfl, rfl⟩ := trodAll_nil r2
  obtain rfl : args = #[v0, v1, v2] := by cases args; simp_all
  obtain ⟨rfl, rfl⟩ := trodVars_none hV
  have k0 := h0
  have lt0 : ∀ x ∈ p0, x.block < W.heap.size := by obtain ⟨m, hm⟩ := k0; exact DataW.trod_lt m _ _ _ hm
  have k1 := h1
  have lt1 : ∀ x ∈ p1, x.block < W.heap.size := by obtain ⟨m, hm⟩ := k1; exact DataW.trod_lt m _ _ _ hm
  have k2 := h2
  have lt2 : ∀ x ∈ p2, x.block < W.heap.size := by obtain ⟨m, hm⟩ := k2; exact DataW.trod_lt m _ _ _ hm
  obtain ⟨a0, rfl, rfl, rfl, w0⟩ := open_string Try.underlying9 (hval 0 9 v0 rfl rfl) h0
  obtain ⟨a1, rfl, rfl, rfl, w1⟩ := open_string Try.underlying9 (hval 1 9 v1 rfl rfl) h1
  obtain ⟨a2, rfl, rfl, rfl, w2⟩ := open_string Try.underlying9 (hval 2 9 v2 rfl rfl) h2
  clear hA0 hval0
  refine (crcLinear_walk a0 a1 a2 w0 w1 w2 W).mono fun e W' ⟨he, bel⟩ => ?_
  subst he
  exact ⟨_, rfl, _, _, _, [], _, [], hW', trodAll_mk1 (shut_bool Try.underlying4 _), (trodAll_cons_mk (Below.trod laidOut (by kernel_rfl) (of_decide_eq_true (by kernel_rfl)) k0 bel lt0) (trodAll_cons_mk (Below.trod laidOut (by kernel_rfl) (of_decide_eq_true (by kernel_rfl)) k1 bel lt1) (trodAll_cons_mk (Below.trod laidOut (by kernel_rfl) (of_decide_eq_true (by kernel_rfl)) k2 bel lt2) trodAll_mk0))), rfl, bel.frame _, fun h => by cases h⟩

theorem over : Rows.crcLinearRow.holds Try.pinned (OpenSpec.ofChange Rows.crcLinearSpec) :=
  OpenClaim.holds_of_wide 7 Try.f7 rfl rfl rfl rfl rfl rfl rfl ⟨rfl, rfl, rfl, rfl, rfl⟩ rfl rfl rfl rfl rfl (by kernel_rfl) Try.func7 (by kernel_rfl)
    (of_decide_eq_true (by kernel_rfl)) (by unfold Func.isWrapper; first | (rw [if_pos (by decide +kernel)]; kernel_rfl) | (rw [if_neg (by decide +kernel)]; exact ⟨rfl, rfl⟩))
    (fun os started H enc _ => lifted os started H enc)

theorem proved : Rows.CrcLinearSaid := over
#print axioms proved
end crcLinear
end Go.Proofs.Ytaeanmojajmcfaa
