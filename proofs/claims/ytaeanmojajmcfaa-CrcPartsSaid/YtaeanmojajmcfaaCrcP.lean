/-
  The statement CrcParts holds: the CRC of a string follows from the CRC of any prefix and the rest; a sealed string followed by the check octets of its own CRC is sealed again. No condition.
-/
import Derived.Test.YtaeanmojajmcfaaOpen
import Derived.Test.YtaeanmojajmcfaaCrcKnown
namespace Go.Proofs.Ytaeanmojajmcfaa
open Go.RowKit
set_option linter.unusedVariables false
theorem cut_le2 (s : ByteArray) (c : Nat) : (s.extract 0 (min (s.size : Int) c).toNat).size ≤ c := by rw [ByteArray.size_extract]; omega
theorem crc_parts (s : ByteArray) (k : Nat) (h : k ≤ s.size) : Crcm.extend (Crcm.crc (s.extract 0 k).data.toList) (s.extract k s.size).data.toList = Crcm.crc s.data.toList := by
  unfold Crcm.crc
  rw [← Crcm.extend_append, Lib.extract_data, Lib.extract_data, List.drop_zero, Nat.sub_zero, List.take_of_length_le (l := s.data.toList.drop k) (by rw [List.length_drop, ← Lib.size_eq]; omega), List.take_append_drop]
theorem crc_sealed (s : ByteArray) : Crcm.crc (sealB 0 s).data.toList = 558161692 := by
  rw [sealB_data]
  unfold Crcm.crc Crcm.extend
  rw [show Crcm.inv 0 = Crcm.mask by decide, Crcm.reg_sealM (by omega)]
  decide +kernel
theorem sealed_head (s : ByteArray) : (sealB 0 s).extract 0 s.size = s := by
  unfold sealB Crcm.sealM
  rw [S_extract, List.drop_zero, Nat.sub_zero, Lib.size_eq, List.take_left, S_of]

attribute [local go_sem ↓] Go.wp_at_zero Go.wp_at_succ
set_option maxRecDepth 100000 in
set_option maxHeartbeats 1000000 in
theorem crcParts_walk (s : ByteArray) (a : Int) (hs : s.size ≤ maxLen) (ha : (Lit.int .u8 a).wf = true) (w : World) :
   Calls Try.prog 8 #[.string s, .int .u8 a] w fun e w' => e = .returned (.bool true) ∧ Below w.heap.size w w' := by
  unfold maxLen at hs
  have ha1 : 0 ≤ a ∧ a ≤ 255 := bounds_u8 ha
  go_enter Try.func8, Try.ntmps8
  go_wp2_with (fail)
  refine (works6 _).mono ?_
  rintro e w1 ⟨rfl, hb1⟩
  have y1 := hb1.size
  go_wp2_with (fail)
  obtain ⟨K, hK, hKA⟩ : ∃ K : Nat, min a ((min (min (s.size : Int) 200).toNat s.size : Nat) : Int) = (K : Int) ∧ K ≤ (s.extract 0 (min (s.size : Int) 200).toNat).size := ⟨(min a ((min (min (s.size : Int) 200).toNat s.size : Nat) : Int)).toNat, by omega, by rw [ByteArray.size_extract]; omega⟩
  rw [hK]
  clear hK
  have hA := cut_le2 s 200
  simp only [Int.cast_ofNat_Int] at hA
  generalize s.extract 0 (min (s.size : Int) 200).toNat = A at *
  have h9 : A.size ≤ 9000000000000000000 := by omega
  have hT9 : (sealB 0 A).size ≤ 9000000000000000000 := by rw [sealB_size]; omega
  have hc := crc_parts A K hKA
  have c1 := fun W => Of_any (A.extract 0 K) (by rw [ByteArray.size_extract]; omega) W
  have c2 := fun W => Extend_any (Crcm.crc (A.extract 0 K).data.toList) (Crcm.crc_lt _) (A.extract K A.size) (by rw [ByteArray.size_extract]; omega) W
  rw [hc] at c2
  have c3 := fun W => Of_any A h9 W
  have c4 := fun W => Extend_any (Crcm.crc A.data.toList) (Crcm.crc_lt _) (S []) (by decide) W
  rw [show (S []).data.toList = [] from rfl, Crcm.extend_nil] at c4
  have c5 := fun W => Seal_any A h9 W
  have hT := sealB_size 0 A
  have hT2 := sealed_head A
  have c6 := fun W => Seal_any (sealB 0 A) hT9 W
  have c7 := fun W => Good_any (sealB 0 (sealB 0 A)) (by rw [sealB_size, sealB_size]; omega) W
  rw [goodB_sealB] at c7
  have c8 := fun W => Of_any (sealB 0 A) hT9 W
  rw [crc_sealed] at c8
  clear hc hT9
  generalize sealB 0 (sealB 0 A) = U at *
  generalize sealB 0 A = T at *
  generalize Crcm.crc A.data.toList = CA at *
  generalize Crcm.crc (A.extract 0 K).data.toList = CH at *
  have hTl : ((T.extract 0 A.size).toList == A.toList) = true := by rw [hT2]; simp
  have q1 : (0 : Int) ≤ (K : Int) := by omega
  have q2 : (K : Int) ≤ (A.size : Int) := by omega
  have q3 : (A.size : Int) ≤ (A.size : Int) + 4 := by omega
  have q5 : (0 : Int) ≤ (A.size : Int) := by omega
  have q6 : (A.size : Int) ≤ (T.size : Int) := by omega
  have q4 : IntKind.i64.wrap ((A.size : Int) + 4) = (A.size : Int) + 4 := IntWalk.i64_in _ (by omega)
  have C1 := Lib.hid c1; clear c1
  have C2 := Lib.hid c2; clear c2
  have C3 := Lib.hid c3; clear c3
  have c4' : ∀ W : World, Calls Try.prog 12 #[.int .u32 (CA : Int), .string { data := #[] }] W fun e w' => e = .returned (.int .u32 (CA : Int)) ∧ Below W.heap.size W w' := c4
  have C4 := Lib.hid c4'; clear c4 c4'
  have C5 := Lib.hid c5; clear c5
  have C6 := Lib.hid c6; clear c6
  have C7 := Lib.hid c7; clear c7
  have C8 := Lib.hid c8; clear c8
  have HT2 := Lib.hid hT2; clear hT2
  refine (C5.out _).mono ?_
  rintro e w2 ⟨rfl, hb2⟩
  have B2 := hb1.trans (hb2.mono y1)
  have y2 := B2.size
  go_wp2_with (fail)
  have BB : Below w.heap.size w w2.drew := B2.drew
  go_region_held3 (fun _ => True) (trivial) (first | (go_at_call 10; ((with_reducible refine (C1.out _).mono ?_); rintro e v ⟨rfl, g⟩; replace BB := BB.trans (g.mono BB.size))) | (go_at_call 10; ((with_reducible refine (C3.out _).mono ?_); rintro e v ⟨rfl, g⟩; replace BB := BB.trans (g.mono BB.size))) | (go_at_call 10; ((with_reducible refine (C8.out _).mono ?_); rintro e v ⟨rfl, g⟩; replace BB := BB.trans (g.mono BB.size))) | (go_at_call 12; ((with_reducible refine (C2.out _).mono ?_); rintro e v ⟨rfl, g⟩; replace BB := BB.trans (g.mono BB.size))) | (go_at_call 12; ((with_reducible refine (C4.out _).mono ?_); rintro e v ⟨rfl, g⟩; replace BB := BB.trans (g.mono BB.size))) | (go_at_call 16; ((with_reducible refine (C6.out _).mono ?_); rintro e v ⟨rfl, g⟩; replace BB := BB.trans (g.mono BB.size))) | (go_at_call 22; ((with_reducible refine (C7.out _).mono ?_); rintro e v ⟨rfl, g⟩; replace BB := BB.trans (g.mono BB.size))))
  go_wp2
  go_ret
  exact ⟨rfl, BB⟩

namespace crcParts
open Go.ChangeShapes Go.WideShapes Go.ChangeAt Go.RowKit
open Go.ChangeMaps (open_string shut_string)
theorem own : ownKnob Try.prog.godebug = none := by kernel_rfl
theorem laidOut : laidOutB Try.prog = true := by kernel_rfl

set_option maxRecDepth 100000 in
theorem lifted (os : Os) (started : os.Started) (H : Type) (enc : TypeId × Value → H) :
    ReturnsInHanded {} Try.checked os 8 .any (Rows.crcPartsSpec.pre6 enc Try.prog Try.f8 Rows.crcPartsRow.domain false) (Rows.crcPartsSpec.post enc Try.prog Try.f8 false true false false) := by
  refine returnsInHanded_of_change (C := Try.checked) own started (by kernel_rfl) Try.func8
    (ChangeSpec.witness6 (enc := enc) (C := Try.checked) false ⟨#[], #[.string ByteArray.empty, .int .u8 0], []⟩ 8 (by kernel_rfl) (by kernel_rfl) (by kernel_rfl) (by kernel_rfl)) ?_
  intro W base args ds gs before hval0 hW hcnd _
  have hval : ∀ (j : Nat) t v, Try.f8.params[j]? = some t → args[j]? = some v → Value.okWide Try.prog W .any base t v := hval0
  have hW' := hW
  obtain ⟨p, q, hA0, hV, rfl, hfz, hnd⟩ := hW
  have hA : DataW.TrodAll enc Try.prog W 0 (fun _ => true) true Try.f8.params.toList args.toList ds p := hA0
  rw [Try.params8] at hA hval
  obtain ⟨v0, vs0, d0, ds0, p0, q0, hargs, rfl, rfl, h0, r0⟩ := trodAll_cons hA
  obtain ⟨v1, vs1, d1, ds1, p1, q1, rfl, rfl, rfl, h1, r1⟩ := trodAll_cons r0
  obtain ⟨rfl, rfl, rfl⟩ := trodAll_nil r1
  obtain rfl : args = #[v0, v1] := by cases args; simp_all
  obtain ⟨rfl, rfl⟩ := trodVars_none hV
  have k0 := h0
  have lt0 : ∀ x ∈ p0, x.block < W.heap.size := by obtain ⟨m, hm⟩ := k0; exact DataW.trod_lt m _ _ _ hm
  have k1 := h1
  have lt1 : ∀ x ∈ p1, x.block < W.heap.size := by obtain ⟨m, hm⟩ := k1; exact DataW.trod_lt m _ _ _ hm
  obtain ⟨a0, rfl, rfl, rfl, w0⟩ := open_string Try.underlying9 (hval 0 9 v0 rfl rfl) h0
  obtain ⟨a1, rfl, rfl, rfl, w1⟩ := open_int Try.underlying5 (hval 1 5 v1 rfl rfl) h1
  clear hA0 hval0
  refine (crcParts_walk a0 a1 w0 w1 W).mono fun e W' ⟨he, bel⟩ => ?_
  subst he
  exact ⟨_, rfl, _, _, _, [], _, [], hW', trodAll_mk1 (shut_bool Try.underlying4 _), (trodAll_cons_mk (Below.trod laidOut (by kernel_rfl) (of_decide_eq_true (by kernel_rfl)) k0 bel lt0) (trodAll_cons_mk (Below.trod laidOut (by kernel_rfl) (of_decide_eq_true (by kernel_rfl)) k1 bel lt1) trodAll_mk0)), rfl, bel.frame _, fun h => by cases h⟩

theorem over : Rows.crcPartsRow.holds Try.pinned (OpenSpec.ofChange Rows.crcPartsSpec) :=
  OpenClaim.holds_of_wide 8 Try.f8 rfl rfl rfl rfl rfl rfl rfl ⟨rfl, rfl, rfl, rfl, rfl⟩ rfl rfl rfl rfl rfl (by kernel_rfl) Try.func8 (by kernel_rfl)
    (of_decide_eq_true (by kernel_rfl)) (by unfold Func.isWrapper; first | (rw [if_pos (by decide +kernel)]; kernel_rfl) | (rw [if_neg (by decide +kernel)]; exact ⟨rfl, rfl⟩))
    (fun os started H enc _ => lifted os started H enc)

theorem proved : Rows.CrcPartsSaid := over
#print axioms proved
end crcParts
end Go.Proofs.Ytaeanmojajmcfaa
