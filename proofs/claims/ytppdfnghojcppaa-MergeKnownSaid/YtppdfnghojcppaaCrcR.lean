/-
  Contracts of the reference of chapter 6.
-/
import Derived.Test.YtppdfnghojcppaaCrc3
import Derived.Laws.IdiomStrings
namespace Go.Proofs.Ytppdfnghojcppaa
open Go.RowKit
set_option linter.unusedVariables false

/-- The register after j bits of an octet. -/
def rb (c x j : Nat) : Nat := Crcm.Ts j (c ^^^ x) ^^^ (x / 2 ^ j)
def re (c x j : Nat) : Nat := Crcm.Ts j (c ^^^ x)
theorem rb_zero (c x : Nat) : rb c x 0 = c := by
  unfold rb
  rw [Crcm.Ts_nought, Nat.pow_zero, Nat.div_one, Nat.xor_assoc, Nat.xor_self, Nat.xor_zero]
theorem rb_eight (c x : Nat) (hx : x < 256) : rb c x 8 = Crcm.T8 (c ^^^ x) := by
  unfold rb
  rw [Crcm.T8_eq, show x / 2 ^ 8 = 0 by omega, Nat.xor_zero]
theorem rb_re (c x j : Nat) : rb c x j ^^^ (x / 2 ^ j) = re c x j := by
  unfold rb re
  rw [Nat.xor_assoc, Nat.xor_self, Nat.xor_zero]
theorem rb_half (c x j : Nat) : rb c x j / 2 = re c x j / 2 ^^^ (x / 2 ^ (j + 1)) := by
  unfold rb re
  rw [Nat.xor_div_two, Nat.div_div_eq_div_mul, Nat.pow_succ]
theorem rb_odd (c x j : Nat) (h : re c x j % 2 = 1) : rb c x (j + 1) = rb c x j / 2 ^^^ 3988292384 := by
  rw [rb_half]
  unfold rb
  rw [Crcm.Ts_snoc]
  have : Crcm.T (Crcm.Ts j (c ^^^ x)) = re c x j / 2 ^^^ 3988292384 := by unfold Crcm.T; exact if_pos h
  rw [this]
  ac_rfl
theorem rb_even (c x j : Nat) (h : ¬ re c x j % 2 = 1) : rb c x (j + 1) = rb c x j / 2 := by
  rw [rb_half]
  unfold rb
  rw [Crcm.Ts_snoc]
  have : Crcm.T (Crcm.Ts j (c ^^^ x)) = re c x j / 2 := by unfold Crcm.T; exact if_neg h
  rw [this]
theorem re_lt (c x j : Nat) (hc : c < 4294967296) (hx : x < 256) : re c x j < 4294967296 := Crcm.Ts_lt (Nat.xor_lt_two_pow (n := 32) hc (by omega))
theorem rb_lt (c x j : Nat) (hc : c < 4294967296) (hx : x < 256) : rb c x j < 4294967296 :=
  Nat.xor_lt_two_pow (n := 32) (re_lt c x j hc hx) (by have := Nat.div_le_self x (2 ^ j); omega)

set_option maxRecDepth 100000 in
theorem RExtend_any (c : Nat) (hc : c < 4294967296) (s : ByteArray) (hs : s.size ≤ 9000000000000000000) (w : World) :
    Calls Try.prog 61 #[.int .u32 (c : Int), .string s] w fun e w' => e = .returned (.int .u32 ((Crcm.extend c s.data.toList : Nat) : Int)) ∧ w = w' := by
  have hn := not_u32 c hc
  go_enter Try.func61, Try.ntmps61
  go_wp2_with (fail)
  go_loop [0, 5] (fun c' i => ∃ k : Nat, k ≤ s.size ∧ i = .int .i64 k ∧ c' = .int .u32 ((regAt c s k : Nat) : Int)) (fun _ i => s.size - (intOf i).toNat)
  case atStart => exact ⟨0, by omega, rfl, rfl⟩
  case round =>
    obtain ⟨k, hk, rfl, rfl⟩ := hrel
    have hlt32 := regAt_lt c hc s k
    by_cases hlt : k < s.size
    · have hx := (s[k]).toNat_lt
      have hsu := regAt_succ c s k hlt
      rw [← rb_eight _ _ (by omega)] at hsu
      have HS := Lib.hid hsu; clear hsu
      have hd3 : decide (k < s.size) = true := by rw [decide_eq_true_eq]; omega
      have h0 := rb_zero (regAt c s k) (s[k]).toNat
      have H0 := Lib.hid h0; clear h0
      go_wp2_with (fail)
      go_loop [0, 6, 7] (fun c' b _ => ∃ j : Nat, j ≤ 8 ∧ b = .int .i64 j ∧ c' = .int .u32 ((rb (regAt c s k) (s[k]).toNat j : Nat) : Int)) (fun _ b _ => 8 - (intOf b).toNat)
      case atStart => exact ⟨0, by omega, rfl, by rw [H0.out]⟩
      case round =>
        obtain ⟨j, hj, rfl, rfl⟩ := hrel
        by_cases hlt2 : j < 8
        · have hc1 := rb_lt (regAt c s k) (s[k]).toNat j hlt32 (by omega)
          have hc2 := re_lt (regAt c s k) (s[k]).toNat j hlt32 (by omega)
          have hq : (s[k]).toNat / 2 ^ j < 256 := Nat.lt_of_le_of_lt (Nat.div_le_self _ _) (by omega)
          have hx1 := xor_u32 _ ((s[k]).toNat / 2 ^ j) hc1 (by omega)
          rw [rb_re] at hx1
          have ha := and_one _ hc2
          have hx2 := xor_u32 (rb (regAt c s k) (s[k]).toNat j / 2) 3988292384 (by omega) (by omega)
          have hdq : (((s[k]).toNat : Nat) : Int) / 2 ^ j = (((s[k]).toNat / 2 ^ j : Nat) : Int) := by rw [Int.natCast_ediv, Int.natCast_pow]; rfl
          simp only [Int.natCast_ediv, Int.cast_ofNat_Int] at hx2
          generalize (s[k]).toNat / 2 ^ j = q at *
          by_cases hodd : re (regAt c s k) (s[k]).toNat j % 2 = 1
          · have hr := rb_odd _ _ _ hodd
            rw [hodd] at ha
            have HR := Lib.hid hr; clear hr hodd
            go_wp2_with (fail)
            go_round
            case rel => exact ⟨j + 1, by omega, by go_num, by rw [HR.out]⟩
            case measure => simp [intOf]; omega
          · have hr := rb_even _ _ _ hodd
            rw [show re (regAt c s k) (s[k]).toNat j % 2 = 0 by omega] at ha
            have HR := Lib.hid hr; clear hr hodd hx2
            go_wp2_with (fail)
            go_round
            case rel => exact ⟨j + 1, by omega, by go_num, by rw [HR.out]; go_num⟩
            case measure => simp [intOf]; omega
        · obtain rfl : j = 8 := by omega
          go_wp2_with (fail)
          go_round
          case rel => exact ⟨k + 1, by omega, by go_num, by rw [HS.out]⟩
          case measure => simp [intOf]; omega
    · obtain rfl : k = s.size := by omega
      have hn2 := not_u32 _ hlt32
      have he := regAt_all c s
      have HE := Lib.hid he; clear he
      go_wp2_with (fail)
      go_ret
      exact ⟨by rw [HE.out]; rfl, rfl⟩

theorem ROf_any (s : ByteArray) (hs : s.size ≤ 9000000000000000000) (w : World) :
    Calls Try.prog 35 #[.string s] w fun e w' => e = .returned (.int .u32 ((Crcm.crc s.data.toList : Nat) : Int)) ∧ w = w' := by
  go_enter Try.func35, Try.ntmps35
  go_wp2_with (fail)
  refine (RExtend_any 0 (by omega) s hs _).mono ?_
  rintro e _ ⟨rfl, rfl⟩
  go_wp2_with (fail)
  go_ret
  exact ⟨rfl, rfl⟩

/-- string(b) of a row of octets in memory. -/
theorem conv_list (W : World) (b cap : Nat) (l : List UInt8) (h : ∀ j (hj : j < l.length), W.cell? ⟨b, j, none⟩ = some (.int .u8 (l[j].toNat : Int))) :
    (convert 23 9 (.slice (some ⟨b, 0, none⟩) l.length cap)).run Try.prog W = .ok (.string (S l)) W := by
  refine run_convert_bytes_back (P := Try.prog) W 23 9 5 ⟨b, 0, none⟩ cap l Try.underlying23 Try.underlying5 Try.underlying9 ?_
  intro j hj
  have hadd : (⟨b, 0, none⟩ : Addr).add j = ⟨b, j, none⟩ := by unfold Addr.add; split <;> simp_all
  rw [hadd]
  exact h j hj

theorem ROctets_any (c : Nat) (hc : c < 4294967296) (w : World) :
    Calls Try.prog 34 #[.int .u32 (c : Int)] w fun e w' => e = .returned (.string (S (Crcm.oct c))) ∧ Below w.heap.size w w' := by
  have hcv := fun (X : Array Value) (hX : X = #[.int .u8 ((c : Int) % 256), .int .u8 ((c : Int) / 256 % 256), .int .u8 ((c : Int) / 65536 % 256), .int .u8 ((c : Int) / 16777216)]) =>
    conv_list (w.alloc (.cells X 5)) w.heap.size 4 (Crcm.oct c) (by
      intro j hj
      rw [cell_of_row _ _ _ _ _ (0, 0) (heap_alloc_new w _), hX]
      have hj4 : j < 4 := hj
      have : j = 0 ∨ j = 1 ∨ j = 2 ∨ j = 3 := by omega
      rcases this with rfl | rfl | rfl | rfl <;> (simp [Crcm.oct]; try omega))
  have hcv2 := hcv _ rfl
  rw [show (Crcm.oct c).length = 4 from rfl] at hcv2
  clear hcv
  go_enter Try.func34, Try.ntmps34
  go_wp2_with (fail)
  go_ret
  exact ⟨rfl, (by repeat' (first | exact Below.refl _ _ | assumption | refine below_drewN ?_ _ | refine Below.drew ?_ | refine Below.alloc ?_ (by (first | exact Nat.le_refl _ | assumption | (simp; done) | omega | (simp; omega))) _ | refine Below.setCell ?_ (by (first | exact Nat.le_refl _ | assumption | (simp; done) | omega | (simp; omega))) _ | refine Below.trans ?_ (Below.mono (by assumption) (by (first | exact Nat.le_refl _ | assumption | (simp; done) | omega | (simp; omega))))))⟩
theorem RSeal_any (s : ByteArray) (hs : s.size ≤ 9000000000000000000) (w : World) :
    Calls Try.prog 12 #[.string s] w fun e w' => e = .returned (.string (sealB 0 s)) ∧ Below w.heap.size w w' := by
  have hc := Crcm.crc_lt s.data.toList
  have he := sealB_eq 0 s
  rw [Nat.xor_zero] at he
  have hz := oct_size (Crcm.crc s.data.toList)
  have HE := Lib.hid he; clear he
  go_enter Try.func12, Try.ntmps12
  go_wp2_with (fail)
  refine (ROf_any s hs _).mono ?_
  rintro e _ ⟨rfl, rfl⟩
  go_wp2_with (fail)
  refine (ROctets_any _ hc _).mono ?_
  rintro e w2 ⟨rfl, hb2⟩
  go_wp2_with (fail)
  go_ret
  exact ⟨by rw [← HE.out]; rfl, hb2⟩
theorem RMark_any (s : ByteArray) (hs : s.size ≤ 9000000000000000000) (w : World) :
    Calls Try.prog 42 #[.string s] w fun e w' => e = .returned (.string (sealB Crcm.marking s)) ∧ Below w.heap.size w w' := by
  have hc := Crcm.crc_lt s.data.toList
  have hm : Crcm.marking < 4294967296 := by decide
  have hx := xor_u32 _ _ hc hm
  have hc2 : Crcm.crc s.data.toList ^^^ Crcm.marking < 4294967296 := Nat.xor_lt_two_pow (n := 32) hc hm
  have he := sealB_eq Crcm.marking s
  have hz := oct_size (Crcm.crc s.data.toList ^^^ Crcm.marking)
  have HE := Lib.hid he; clear he
  rw [show ((Crcm.marking : Nat) : Int) = 4294901760 from rfl] at hx
  clear hm
  generalize Crcm.crc s.data.toList ^^^ Crcm.marking = C at *
  go_enter Try.func42, Try.ntmps42
  go_wp2_with (fail)
  refine (ROf_any s hs _).mono ?_
  rintro e _ ⟨rfl, rfl⟩
  go_wp2_with (fail)
  refine (ROctets_any C hc2 _).mono ?_
  rintro e w2 ⟨rfl, hb2⟩
  go_wp2_with (fail)
  go_ret
  exact ⟨by rw [← HE.out]; rfl, hb2⟩
theorem rgood (m : Nat) (s : ByteArray) (h : 4 ≤ s.size) : ((sealB m (s.extract 0 (s.size - 4))).toList == s.toList) = goodB m s := by
  rw [goodB_long m s h]
  rw [Bool.eq_iff_iff, beq_iff_eq, beq_iff_eq]
  unfold sealB Crcm.sealM
  rw [S_toList, S_toList, Lib.extract_toList, Lib.extract_data, Lib.toList_data, List.drop_zero, Nat.sub_zero, List.take_of_length_le (l := s.data.toList.drop (s.size - 4)) (by rw [List.length_drop, ← Lib.size_eq]; omega)]
  constructor
  · intro h1
    conv => lhs; rw [← h1]
    rw [List.drop_left' (by rw [List.length_take, ← Lib.size_eq]; omega)]
  · intro h1
    rw [← h1, List.take_append_drop]
theorem RGood_any (s : ByteArray) (hs : s.size ≤ 9000000000000000000) (w : World) :
    Calls Try.prog 49 #[.string s] w fun e w' => e = .returned (.bool (goodB 0 s)) ∧ Below w.heap.size w w' := by
  by_cases h4 : s.size < 4
  · have he := goodB_short 0 s h4
    rw [he]
    have h4' : (s.size : Int) < 4 := by omega
    go_enter Try.func49, Try.ntmps49
    go_wp2_with (fail)
    go_ret
    exact ⟨rfl, Below.refl _ _⟩
  · have he := rgood 0 s (by omega)
    have h4' : 4 ≤ (s.size : Int) := by omega
    have hsz : (s.extract 0 (s.size - 4)).size ≤ 9000000000000000000 := by rw [ByteArray.size_extract]; omega
    have c1 := fun W => RSeal_any (s.extract 0 (s.size - 4)) hsz W
    have e4 : ((s.size : Int) - 4).toNat = s.size - 4 := by omega
    generalize sealB 0 (s.extract 0 (s.size - 4)) = C at *
    have C1 := Lib.hid c1; clear c1
    go_enter Try.func49, Try.ntmps49
    go_wp2_with (fail)
    refine (C1.out _).mono ?_
    rintro e w1 ⟨rfl, hb1⟩
    go_wp2_with (fail)
    go_ret
    exact ⟨rfl, hb1⟩
theorem RMarked_any (s : ByteArray) (hs : s.size ≤ 9000000000000000000) (w : World) :
    Calls Try.prog 50 #[.string s] w fun e w' => e = .returned (.bool (goodB Crcm.marking s)) ∧ Below w.heap.size w w' := by
  by_cases h4 : s.size < 4
  · have he := goodB_short Crcm.marking s h4
    rw [he]
    have h4' : (s.size : Int) < 4 := by omega
    go_enter Try.func50, Try.ntmps50
    go_wp2_with (fail)
    go_ret
    exact ⟨rfl, Below.refl _ _⟩
  · have he := rgood Crcm.marking s (by omega)
    have h4' : 4 ≤ (s.size : Int) := by omega
    have hsz : (s.extract 0 (s.size - 4)).size ≤ 9000000000000000000 := by rw [ByteArray.size_extract]; omega
    have c1 := fun W => RMark_any (s.extract 0 (s.size - 4)) hsz W
    have e4 : ((s.size : Int) - 4).toNat = s.size - 4 := by omega
    generalize sealB Crcm.marking (s.extract 0 (s.size - 4)) = C at *
    have C1 := Lib.hid c1; clear c1
    go_enter Try.func50, Try.ntmps50
    go_wp2_with (fail)
    refine (C1.out _).mono ?_
    rintro e w1 ⟨rfl, hb1⟩
    go_wp2_with (fail)
    go_ret
    exact ⟨rfl, hb1⟩
end Go.Proofs.Ytppdfnghojcppaa
