/-
  Contracts of the reference's number, value, Encode and Wire.
-/
import Derived.Test.YtccdhoboidneeaaFrame2
import Derived.Test.YtccdhoboidneeaaFrame6
import Derived.Test.YtccdhoboidneeaaFrameL
import Derived.Lib.QuietBelow
import Derived.Deep.DeepCutAuto
import Derived.Deep.LoopGhost
namespace Go.Proofs.Ytccdhoboidneeaa
open Go.RowKit Go.Sort
set_option linter.unusedVariables false

theorem ret_str {a b : ByteArray} (h : a = b) : Ending.returned (.string a) = .returned (.string b) := by rw [h]
theorem number_any (n : Int) (k : Nat) (h8 : k ≤ 8) (h1 : -9223372036854775808 ≤ n) (h2 : n ≤ 9223372036854775807) (K : Int) (hK : K = k) (w : World) :
    Calls Try.prog 39 #[.int .i64 n, .int .i64 K] w fun e w' => e = .returned (.string (S (Wirem.be k n))) ∧ Below w.heap.size w w' := by
  subst hK
  go_enter Try.func39, Try.ntmps39
  go_wp2
  go_loopw [0, 5, 6] (fun n' s i wr => ∃ j : Nat, j ≤ k ∧ i = .int .i64 j ∧ n' = .int .i64 (sh n j) ∧ s = .string (S (Wirem.be j n)) ∧ Below w.heap.size w wr) (fun _ _ i _ => k - (intOf i).toNat)
  case atStart => exact ⟨0, Nat.zero_le _, rfl, by rw [sh_zero], rfl, Below.refl _ _⟩
  case round =>
    obtain ⟨j, hj, rfl, rfl, rfl, hb⟩ := hrel
    have hsh := sh_bd n j h1 h2
    have hz := hb.size
    have hl : (S (Wirem.be j n)).size ≤ 8 := by rw [S_size, Wirem.be_length]; omega
    by_cases hlt : j < k
    · have hcv := conv_one (wr.alloc (.cells #[.int .u8 (sh n j % 256)] 5)) wr.heap.size (sh n j % 256) (by omega) (by omega) (by simp)
      have hss : (S [UInt8.ofNat (sh n j % 256).toNat]).size = 1 := rfl
      have hf := be_front n j
      have HF := Lib.hid hf; clear hf
      go_wp2
      go_roundw
      case rel => exact ⟨j + 1, by omega, by go_num, by rw [sh_succ], by rw [HF.out, S_append]; rfl, (by repeat' (first | exact Below.refl _ _ | assumption | refine below_drewN ?_ _ | refine Below.drew ?_ | refine Below.alloc ?_ (by (first | exact Nat.le_refl _ | assumption | (simp; done) | omega | (simp; omega))) _ | refine Below.setCell ?_ (by (first | exact Nat.le_refl _ | assumption | (simp; done) | omega | (simp; omega))) _ | refine Below.trans ?_ (Below.mono (by assumption) (by (first | exact Nat.le_refl _ | assumption | (simp; done) | omega | (simp; omega))))))⟩
      case measure => simp [intOf]; omega
    · obtain rfl : j = k := by omega
      go_wp2
      go_ret
      exact ⟨rfl, hb⟩

theorem val_take_succ (s : ByteArray) (k : Nat) (h : k < s.size) : Wirem.val (s.data.toList.take (k + 1)) = Wirem.val (s.data.toList.take k) * 256 + s[k].toNat := by
  rw [List.take_succ_eq_append_getElem (by rw [← Lib.size_eq]; exact h), Wirem.val_snoc]
  rfl
theorem val_take_lt (s : ByteArray) (k : Nat) (h6 : k ≤ 6) : Wirem.val (s.data.toList.take k) < 281474976710656 := by
  have h := Wirem.val_lt (s.data.toList.take k)
  have hl : (s.data.toList.take k).length ≤ 6 := by rw [List.length_take]; omega
  exact Nat.lt_of_lt_of_le h (Nat.pow_le_pow_right (by omega) hl)
theorem value_any (s : ByteArray) (h6 : s.size ≤ 6) (V : Int) (hV : ((Wirem.val s.data.toList : Nat) : Int) = V) (w : World) :
    Calls Try.prog 58 #[.string s] w fun e w' => e = .returned (.int .i64 V) ∧ w = w' := by
  go_enter Try.func58, Try.ntmps58
  have HV := Lib.hid hV; clear hV
  go_wp2
  go_loop [3, 4] (fun n i => ∃ k : Nat, k ≤ s.size ∧ i = .int .i64 k ∧ n = .int .i64 ((Wirem.val (s.data.toList.take k) : Nat) : Int)) (fun _ i => s.size - (intOf i).toNat)
  case atStart => exact ⟨0, Nat.zero_le _, rfl, rfl⟩
  case round =>
    obtain ⟨k, hk, rfl, rfl⟩ := hrel
    have hv := val_take_lt s k (by omega)
    by_cases hlt : k < s.size
    · have hx := (s[k]).toNat_lt
      have hsu := val_take_succ s k hlt
      have HS := Lib.hid hsu; clear hsu
      go_wp2
      go_round
      case rel => exact ⟨k + 1, by omega, by go_num, by rw [HS.out]; go_num⟩
      case measure => simp [intOf]; omega
    · obtain rfl : k = s.size := by omega
      have he : s.data.toList.take s.size = s.data.toList := List.take_of_length_le (by rw [← Lib.size_eq]; exact Nat.le_refl _)
      have HE := Lib.hid he; clear he
      go_wp2
      go_ret
      exact ⟨by rw [HE.out, HV.out]; rfl, rfl⟩

def Lt (f : Fr) : List UInt8 := if f.tag then [129, 0] ++ Wirem.be 2 (f.prio * 8192 + f.vid) else []
def Ls (f : Fr) : List UInt8 := if f.hseq then [241, 193, 0, 0] ++ Wirem.be 2 f.seq else []
/-- While Encode works: the frame in block B. -/
structure Ew (w : World) (f : Fr) (W : World) : Prop where
  fr : FrAt W w.heap.size f
  big : w.heap.size < W.heap.size
  bel : Below w.heap.size w W
theorem Ew.keep {w W W' : World} {f : Fr} (h : Ew w f W) (hb : Below W.heap.size W W') : Ew w f W' :=
  ⟨fr_keep h.fr hb h.big, by have := hb.size; have := h.big; omega, h.bel.trans (hb.mono (by have := h.big; omega))⟩
theorem lt_len (f : Fr) : (Lt f).length ≤ 4 := by unfold Lt; split <;> simp [Wirem.be_length]
theorem ls_len (f : Fr) : (Ls f).length ≤ 6 := by unfold Ls; split <;> simp [Wirem.be_length]
theorem big_sum {a b : Nat} (h : a ≤ 4000000000000000000) (h2 : b ≤ 4000000000000000000) : ¬ 9223372036854775807 < a + b := by omega

set_option maxHeartbeats 1000000 in
theorem REncode_any (f : Fr) (hs : f.data.size ≤ 9000000000000000000) (w : World) :
    Calls Try.prog 20 #[.agg #[.int .i64 f.dst, .int .i64 f.src, .bool f.tag, .int .i64 f.prio, .int .i64 f.vid, .bool f.hseq, .int .i64 f.seq, .int .i64 f.type, .string f.data]] w (Ret2 (.string f.enc) (.int .i64 f.code) w) := by
  have hR := fun W => Right_any f hs W
  have fb := fr_box w f
  rcases h : f.ok with _ | _
  · have e1 := Encode_no f h
    have e2 : f.code = 170 := by unfold Fr.code; rw [h]; rfl
    rw [h] at hR
    rw [e1, e2]
    have HR := Lib.hid hR; clear hR e1 e2
    go_enter Try.func20, Try.ntmps20
    go_wp2_with (fail)
    refine (HR.out _).mono ?_
    rintro e w1 ⟨rfl, hb1⟩
    have z1 := hb1.size
    simp at z1
    go_wp2_with (fail)
    go_ret2
    exact ⟨rfl, (by repeat' (first | exact Below.refl _ _ | assumption | refine below_drewN ?_ _ | refine Below.drew ?_ | refine Below.alloc ?_ (by (first | exact Nat.le_refl _ | assumption | (simp; done) | omega | (simp; omega))) _ | refine Below.setCell ?_ (by (first | exact Nat.le_refl _ | assumption | (simp; done) | omega | (simp; omega))) _ | refine Below.trans ?_ (Below.mono (by assumption) (by (first | exact Nat.le_refl _ | assumption | (simp; done) | omega | (simp; omega))))))⟩
  · have e1 := Encode_yes f h
    have e2 : f.code = 0 := by unfold Fr.code; rw [h]; rfl
    rw [h] at hR
    rw [e1, e2]
    have HR := Lib.hid hR; clear hR e1 e2
    obtain ⟨g1, g2, g3, g4, g5, g6, g7, g8, g9⟩ := f.ok_iff.1 h
    have hp3 : 0 ≤ f.prio ∧ f.prio ≤ 7 := by split at g3 <;> omega
    have hp4 : 0 ≤ f.vid ∧ f.vid ≤ 4094 := by split at g4 <;> omega
    have hp5 : 0 ≤ f.seq ∧ f.seq ≤ 65535 := by split at g5 <;> omega
    have hp9 : f.data.size ≤ 1500 := by split at g9 <;> omega
    have hp7 : 0 ≤ f.type ∧ f.type ≤ 65535 := by omega
    have hbl := f.body_le h
    have CS := Lib.hid (fun W => RSeal_any (S f.body) (by rw [S_size]; omega) W)
    have HB := Lib.hid (show f.body = f.pre ++ List.replicate (60 - f.pre.length) 0 from rfl)
    clear g3 g4 g5 g6 g7 g8 g9 hs h
    go_enter Try.func20, Try.ntmps20
    go_wp2_with (fail)
    refine (HR.out _).mono ?_
    rintro e w1 ⟨rfl, hb1⟩
    have E1 : Ew w f w1 := ⟨fr_keep fb hb1 (by simp), by have := hb1.size; simp at this; omega, (by repeat' (first | exact Below.refl _ _ | assumption | refine below_drewN ?_ _ | refine Below.drew ?_ | refine Below.alloc ?_ (by (first | exact Nat.le_refl _ | assumption | (simp; done) | omega | (simp; omega))) _ | refine Below.setCell ?_ (by (first | exact Nat.le_refl _ | assumption | (simp; done) | omega | (simp; omega))) _ | refine Below.trans ?_ (Below.mono (by assumption) (by (first | exact Nat.le_refl _ | assumption | (simp; done) | omega | (simp; omega))))))⟩
    clear hb1 fb HR
    have c0 := E1.fr.c0
    have c1 := E1.fr.c1
    have HE1 := Lib.hid E1; clear E1
    go_wp2_with (fail)
    have k0 := cell_regrown c0
    have k1 := cell_regrown c1
    have q0 : ∀ d os, Calls Try.prog 39 #[.int .i64 f.dst, .int .i64 6] (grow (redrawn w1 d) os) fun e w'' => e = .returned (.string (S (Wirem.be 6 f.dst))) ∧ ∃ p : Regrown, w'' = grow (redrawn w1 p.d) p.os := fun d os => Calls.regrown_of (number_any f.dst 6 (by omega) (by omega) (by omega) 6 rfl _)
    have q1 : ∀ d os, Calls Try.prog 39 #[.int .i64 f.src, .int .i64 6] (grow (redrawn w1 d) os) fun e w'' => e = .returned (.string (S (Wirem.be 6 f.src))) ∧ ∃ p : Regrown, w'' = grow (redrawn w1 p.d) p.os := fun d os => Calls.regrown_of (number_any f.src 6 (by omega) (by omega) (by omega) 6 rfl _)
    have n1 : ¬ 9223372036854775807 < (S (Wirem.be 6 f.dst)).size + (S (Wirem.be 6 f.src)).size := by rw [S_size, S_size, Wirem.be_length, Wirem.be_length]; omega
    refine wp_region_quiet_below (by kernel_rfl) (by kernel_rfl) ?_
    repeat (quiet_step (first | (with_reducible exact q0 _ _) | (with_reducible exact q1 _ _)))
    refine wpQuiet_nil ?_
    intro _ hw'
    obtain ⟨⟨dq, osq⟩, hw''⟩ := hw'
    subst hw''
    clear k0 k1 q0 q1 n1 c0 c1
    have hb2 := below_regrown w1 dq osq
    generalize grow (redrawn w1 dq) osq = w2 at *
    have E2 := HE1.out.keep hb2
    clear HE1 hb2
    have hL1 : S (Wirem.be 6 f.dst) ++ S (Wirem.be 6 f.src) = S (Wirem.be 6 f.dst ++ Wirem.be 6 f.src) := S_append _ _
    rw [hL1]
    have z1 : (Wirem.be 6 f.dst ++ Wirem.be 6 f.src).length = 12 := by rw [List.length_append, Wirem.be_length, Wirem.be_length]
    have hz1 : (S (Wirem.be 6 f.dst ++ Wirem.be 6 f.src)).size ≤ 12 := by rw [S_size, z1]; omega
    clear hL1 z1
    generalize hX1 : Wirem.be 6 f.dst ++ Wirem.be 6 f.src = L1 at *
    have HX1 := Lib.hid hX1; clear hX1
    have c2 := E2.fr.c2
    obtain ⟨q, hq⟩ : ∃ q, f.tag = q := ⟨_, rfl⟩
    rw [hq] at c2
    have HQ := Lib.hid hq; clear hq
    have HE2 := Lib.hid E2; clear E2
    go_upto_if 16 with fail
    go_cut [4] (fun s4 wx => s4 = .string (S (L1 ++ Lt f)) ∧ Ew w f wx)
    case first =>
      rcases q with _ | _
      · have hl : Lt f = [] := by unfold Lt; rw [HQ.out]; rfl
        have HL := Lib.hid hl; clear hl
        go_wp2_with (fail)
        go_meet
        exact ⟨by rw [HL.out, List.append_nil], HE2.out⟩
      · have hl : S (L1 ++ Lt f) = S L1 ++ ⟨#[129, 0]⟩ ++ S (Wirem.be 2 (f.prio * 8192 + f.vid)) := by
          unfold Lt; rw [HQ.out]
          simp only [if_true]
          rw [← S_append, ← S_append, ← ByteArray.append_assoc]; rfl
        have HL := Lib.hid hl; clear hl
        have c3 := HE2.out.fr.c3
        have c4 := HE2.out.fr.c4
        have n1 : (S L1 ++ ⟨#[129, 0]⟩).size ≤ 14 := by rw [ByteArray.size_append]; show (S L1).size + 2 ≤ _; omega
        have n2 : (S (Wirem.be 2 (f.prio * 8192 + f.vid))).size ≤ 2 := by rw [S_size, Wirem.be_length]; omega
        go_wp2_with (fail)
        refine (number_any (f.prio * 8192 + f.vid) 2 (by omega) (by omega) (by omega) 2 rfl _).mono ?_
        rintro e w3 ⟨rfl, hb3⟩
        go_wp2_with (fail)
        go_meet
        exact ⟨by rw [HL.out], HE2.out.keep hb3⟩
    case rest =>
    clear c2 HE2 HQ q
    obtain ⟨rfl, E2⟩ := hcut
    have ht := lt_len f
    have hz2 : (S (L1 ++ Lt f)).size ≤ 16 := by rw [S_size, List.length_append]; rw [S_size] at hz1; omega
    clear hz1 ht
    generalize hX2 : L1 ++ Lt f = L2 at *
    have HX2 := Lib.hid hX2; clear hX2
    have c5 := E2.fr.c5
    obtain ⟨q, hq⟩ : ∃ q, f.hseq = q := ⟨_, rfl⟩
    rw [hq] at c5
    have HQ := Lib.hid hq; clear hq
    have HE2 := Lib.hid E2; clear E2
    go_upto_if 28 with fail
    go_cut [4] (fun s4 wx => s4 = .string (S (L2 ++ Ls f)) ∧ Ew w f wx)
    case first =>
      rcases q with _ | _
      · have hl : Ls f = [] := by unfold Ls; rw [HQ.out]; rfl
        have HL := Lib.hid hl; clear hl
        go_wp2_with (fail)
        go_meet
        exact ⟨by rw [HL.out, List.append_nil], HE2.out⟩
      · have hl : S (L2 ++ Ls f) = S L2 ++ ⟨#[241, 193, 0, 0]⟩ ++ S (Wirem.be 2 f.seq) := by
          unfold Ls; rw [HQ.out]
          simp only [if_true]
          rw [← S_append, ← S_append, ← ByteArray.append_assoc]; rfl
        have HL := Lib.hid hl; clear hl
        have c6 := HE2.out.fr.c6
        have n1 : (S L2 ++ ⟨#[241, 193, 0, 0]⟩).size ≤ 20 := by rw [ByteArray.size_append]; show (S L2).size + 4 ≤ _; omega
        have n2 : (S (Wirem.be 2 f.seq)).size ≤ 2 := by rw [S_size, Wirem.be_length]; omega
        go_wp2_with (fail)
        refine (number_any f.seq 2 (by omega) (by omega) (by omega) 2 rfl _).mono ?_
        rintro e w3 ⟨rfl, hb3⟩
        go_wp2_with (fail)
        go_meet
        exact ⟨by rw [HL.out], HE2.out.keep hb3⟩
    case rest =>
    clear c5 HE2 HQ q
    obtain ⟨rfl, E2⟩ := hcut
    have ht := ls_len f
    have hz3 : (S (L2 ++ Ls f)).size ≤ 22 := by rw [S_size, List.length_append]; rw [S_size] at hz2; omega
    clear hz2 ht
    generalize hX3 : L2 ++ Ls f = L3 at *
    have HX3 := Lib.hid hX3; clear hX3
    have c7 := E2.fr.c7
    have c8 := E2.fr.c8
    have HE2 := Lib.hid E2; clear E2
    obtain ⟨q, hq⟩ : ∃ q, (f.type == 0) = q := ⟨_, rfl⟩
    go_upto_if 37 with fail
    go_cut [4] (fun s4 wx => s4 = .string (S (L3 ++ Wirem.be 2 f.kind)) ∧ Ew w f wx)
    case first =>
      have n2 : ∀ x : Int, (S (Wirem.be 2 x)).size ≤ 2 := fun x => by rw [S_size, Wirem.be_length]; omega
      rcases q with _ | _
      · have hk : f.kind = f.type := by unfold Fr.kind; rw [if_neg (by simpa using hq)]
        have HL := Lib.hid hk; clear hk
        have n3 := n2 f.type
        clear n2 c8
        go_wp2_with (fail)
        refine (number_any f.type 2 (by omega) (by omega) (by omega) 2 rfl _).mono ?_
        rintro e w3 ⟨rfl, hb3⟩
        go_wp2_with (fail)
        go_meet
        exact ⟨by rw [HL.out, ← S_append], HE2.out.keep hb3⟩
      · have hk : f.kind = (f.data.size : Int) := by unfold Fr.kind; rw [if_pos (by simpa using hq)]
        have HL := Lib.hid hk; clear hk
        have n3 := n2 (f.data.size : Int)
        clear n2 c7
        go_wp2_with (fail)
        refine (number_any (f.data.size : Int) 2 (by omega) (by omega) (by omega) 2 rfl _).mono ?_
        rintro e w3 ⟨rfl, hb3⟩
        go_wp2_with (fail)
        go_meet
        exact ⟨by rw [HL.out, ← S_append], HE2.out.keep hb3⟩
    case rest =>
    clear c7 c8 HE2 hq
    obtain ⟨rfl, E2⟩ := hcut
    have hz4 : (S (L3 ++ Wirem.be 2 f.kind)).size ≤ 24 := by rw [S_size, List.length_append, Wirem.be_length]; rw [S_size] at hz3; omega
    clear hz3
    generalize hX4 : L3 ++ Wirem.be 2 f.kind = L4 at *
    have hpre : f.pre = L4 ++ f.data.data.toList := by
      rw [← hX4, ← HX3.out, ← HX2.out, ← HX1.out]
      unfold Fr.pre Fr.hd Lt Ls
      simp only [List.append_assoc]
    clear hX4 HX1 HX2 HX3
    have hcat : S L4 ++ f.data = S f.pre := by rw [hpre, str_cat]
    have hz5 : (S f.pre).size ≤ 1524 := by rw [← hcat, ByteArray.size_append]; omega
    clear hpre
    generalize hP : f.pre = P at *
    have HP := Lib.hid hP
    have HC := Lib.hid hcat
    clear hP hcat
    have c8 := E2.fr.c8
    have HE2 := Lib.hid E2; clear E2
    go_wp2_with (fail)
    rw [HC.out]
    clear c8
    go_loopg [4] (60 - P.length) (fun g s4 wx => wc = wx ∧ ∃ j : Nat, s4 = .string (S (P ++ List.replicate j 0)) ∧ g + j = 60 - P.length)
    case atStart => exact ⟨rfl, 0, by simp, by omega⟩
    case round =>
      obtain ⟨rfl, j, rfl, hg⟩ := hrel
      have hx : (S (P ++ List.replicate j 0)).size = P.length + j := by rw [S_size, List.length_append, List.length_replicate]
      rw [S_size] at hz5
      have hx1 : S (P ++ List.replicate j 0) ++ ⟨#[0]⟩ = S (P ++ List.replicate (j + 1) 0) := by
        rw [List.replicate_succ', ← List.append_assoc, ← S_append (P ++ List.replicate j 0)]; rfl
      have hx2 : gk = 0 → S (P ++ List.replicate j 0) = S f.body := fun h0 => by rw [HB.out, show j = 60 - P.length by omega]
      have HX := Lib.hid hx1
      have HX2 := Lib.hid hx2
      clear hx1 hx2
      by_cases hlt : P.length + j < 60
      · have hl : ((S (P ++ List.replicate j 0)).size : Int) < 60 := by omega
        have hg' : 0 < gk := by omega
        have HG := Lib.hid hg
        have HXX := Lib.hid hx
        clear hg hx hlt
        generalize S (P ++ List.replicate j 0) = X at *
        go_wp2_with (fail)
        go_roundg (gk - 1)
        case measure => omega
        case rel => exact ⟨rfl, j + 1, by rw [HX.out], by have := HG.out; omega⟩
      · have hl : 60 ≤ ((S (P ++ List.replicate j 0)).size : Int) := by omega
        have hl2 : (S (P ++ List.replicate j 0)).size ≤ 1600 := by omega
        have e := HX2.out (by omega)
        rw [e] at hl hl2 ⊢
        clear e hx hg hlt HX HX2
        go_wp2_with (fail)
        refine (CS.out _).mono ?_
        rintro e w3 ⟨rfl, hb3⟩
        go_wp2_with (fail)
        go_ret2
        exact ⟨rfl, (HE2.out.keep hb3).bel⟩

theorem RWire_any (f : Fr) (hs : f.data.size ≤ 9000000000000000000) (w : World) :
    Calls Try.prog 21 #[.agg #[.int .i64 f.dst, .int .i64 f.src, .bool f.tag, .int .i64 f.prio, .int .i64 f.vid, .bool f.hseq, .int .i64 f.seq, .int .i64 f.type, .string f.data]] w (Ret2 (.int .i64 f.wire) (.int .i64 f.code) w) := by
  have hR := fun W => REncode_any f hs W
  rcases h : f.ok with _ | _
  · have e1 := Wire_no f h
    have e2 : f.code = 170 := by unfold Fr.code; rw [h]; rfl
    rw [e2] at hR
    rw [e1, e2]
    have HR := Lib.hid hR; clear hR e1 e2
    generalize f.enc = E at *
    go_enter Try.func21, Try.ntmps21
    go_wp2_with (fail)
    refine (HR.out _).mono ?_
    rintro e w1 ⟨rfl, hb1⟩
    have z1 := hb1.size
    simp at z1
    go_wp2_with (fail)
    go_ret2
    exact ⟨rfl, (by repeat' (first | exact Below.refl _ _ | assumption | refine below_drewN ?_ _ | refine Below.drew ?_ | refine Below.alloc ?_ (by (first | exact Nat.le_refl _ | assumption | (simp; done) | omega | (simp; omega))) _ | refine Below.setCell ?_ (by (first | exact Nat.le_refl _ | assumption | (simp; done) | omega | (simp; omega))) _ | refine Below.trans ?_ (Below.mono (by assumption) (by (first | exact Nat.le_refl _ | assumption | (simp; done) | omega | (simp; omega))))))⟩
  · have e1 : f.wire = (f.enc.size : Int) + 20 := by unfold Fr.wire; rw [if_pos h, f.enc_size h]; omega
    have e2 : f.code = 0 := by unfold Fr.code; rw [h]; rfl
    have hz := f.enc_size h
    have hb := f.body_le h
    have hz2 : f.enc.size ≤ 1522 := by omega
    rw [e2] at hR
    rw [e1, e2]
    have HR := Lib.hid hR; clear hR e1 e2 hz hb
    generalize f.enc = E at *
    go_enter Try.func21, Try.ntmps21
    go_wp2_with (fail)
    refine (HR.out _).mono ?_
    rintro e w1 ⟨rfl, hb1⟩
    have z1 := hb1.size
    simp at z1
    go_wp2_with (fail)
    go_ret2
    exact ⟨rfl, (by repeat' (first | exact Below.refl _ _ | assumption | refine below_drewN ?_ _ | refine Below.drew ?_ | refine Below.alloc ?_ (by (first | exact Nat.le_refl _ | assumption | (simp; done) | omega | (simp; omega))) _ | refine Below.setCell ?_ (by (first | exact Nat.le_refl _ | assumption | (simp; done) | omega | (simp; omega))) _ | refine Below.trans ?_ (Below.mono (by assumption) (by (first | exact Nat.le_refl _ | assumption | (simp; done) | omega | (simp; omega))))))⟩
end Go.Proofs.Ytccdhoboidneeaa
