/-
  The contract of frame.parse at every string that Decode hands it.
-/
import Derived.Test.YtccdhoboidneeaaFrame8
import Derived.Test.YtccdhoboidneeaaFrame9
import Derived.Test.YtccdhoboidneeaaFrame1
namespace Go.Proofs.Ytccdhoboidneeaa
open Go.RowKit
set_option linter.unusedVariables false

theorem rd2 (l : List UInt8) (a : Nat) : 0 ≤ rd l a 2 ∧ rd l a 2 < 65536 := by
  unfold rd
  have h := Wirem.val_lt ((l.drop a).take 2)
  have hl : ((l.drop a).take 2).length ≤ 2 := by rw [List.length_take]; omega
  have := Nat.pow_le_pow_right (n := 256) (by omega) hl
  omega
theorem ext_drop (t : ByteArray) (p : Nat) (hp : p ≤ t.size) : t.extract p (p + (t.size - p)) = S (t.data.toList.drop p) := by
  rw [← S_of (t.extract p (p + (t.size - p)))]
  congr 1
  rw [ByteArray.data_extract, Array.toList_extract, List.extract_eq_take_drop, show p + (t.size - p) - p = t.size - p by omega]
  rw [List.take_of_length_le]
  rw [List.length_drop, ← Lib.size_eq]
  omega
theorem ext_take (t : ByteArray) (p k : Nat) : t.extract p (p + k) = S ((t.data.toList.drop p).take k) := by
  rw [← S_of (t.extract p (p + k))]
  congr 1
  rw [ByteArray.data_extract, Array.toList_extract, List.extract_eq_take_drop, show p + k - p = k by omega]

theorem pTag_iff (l : List UInt8) : (pTag l = true ↔ rd l 12 2 = 33024) := by unfold pTag; simp
theorem pSeq_iff (l : List UInt8) : (pSeq l = true ↔ rd l (pA l) 2 = 61889) := by unfold pSeq; simp
theorem pBad_iff (l : List UInt8) : (pBad l = true ↔ pK l ≤ 1500 ∧ (l.length : Int) < pB l + 2 + pK l) := by unfold pBad; simp

theorem parse_good (t : ByteArray) (h60 : 60 ≤ t.size) (h : t.size ≤ 9000000000000000000) (hb : pBad t.data.toList = false) (f : Fr) (hf : f = pFr t.data.toList) (w : World) :
    Calls Try.prog 43 #[.string t] w fun e w' => e = .returned (.agg #[.int .i64 f.dst, .int .i64 f.src, .bool f.tag, .int .i64 f.prio, .int .i64 f.vid, .bool f.hseq, .int .i64 f.seq, .int .i64 f.type, .string f.data]) ∧ Below w.heap.size w w' := by
  subst hf
  have hsz : t.data.toList.length = t.size := (Lib.size_eq _).symm
  have ht := pTag_iff t.data.toList
  have hs := pSeq_iff t.data.toList
  have hA : pA t.data.toList = if pTag t.data.toList then 16 else 12 := rfl
  have hB : pB t.data.toList = if pSeq t.data.toList then pA t.data.toList + 6 else pA t.data.toList := rfl
  have hK : pK t.data.toList = rd t.data.toList (pB t.data.toList) 2 := rfl
  have hbad : ¬ (pK t.data.toList ≤ 1500 ∧ (t.data.toList.length : Int) < pB t.data.toList + 2 + pK t.data.toList) := by
    rw [← pBad_iff, hb]; exact Bool.false_ne_true
  rw [hsz] at hbad
  clear hb
  unfold pFr
  simp only
  rcases eT : pTag t.data.toList with _ | _
  · rw [eT] at ht hA
    simp at ht hA
    rw [hA] at hs hB
    rcases eS : pSeq t.data.toList with _ | _
    · rw [eS] at hs hB
      simp at hs hB
      rw [hB] at hK hbad
      rw [hK] at hbad
      rw [hA, hB, hK]
      by_cases hk : 1500 < rd t.data.toList 12 2
      · rw [if_pos hk, if_pos hk, ← ext_drop t 14 (by omega)]
        exact parse00a t h60 h _ _ 0 0 _ rfl rfl rfl (rd2 _ _).1 (rd2 _ _).2 ht hs hk w
      · rw [if_neg hk, if_neg hk, ← ext_take t 14]
        exact parse00b t h60 h _ _ 0 0 _ rfl rfl rfl (rd2 _ _).1 (rd2 _ _).2 ht hs hk (by omega) w
    · rw [eS] at hs hB
      simp at hs hB
      rw [hB] at hK hbad
      rw [hK] at hbad
      rw [hA, hB, hK]
      by_cases hk : 1500 < rd t.data.toList 18 2
      · rw [if_pos hk, if_pos hk, ← ext_drop t 20 (by omega)]
        exact parse01a t h60 h _ _ 0 _ _ rfl rfl hs rfl rfl (rd2 _ _).1 (rd2 _ _).2 hk w
      · rw [if_neg hk, if_neg hk, ← ext_take t 20]
        exact parse01b t h60 h _ _ 0 _ _ rfl rfl hs rfl rfl (rd2 _ _).1 (rd2 _ _).2 hk (by omega) w
  · rw [eT] at ht hA
    simp at ht hA
    rw [hA] at hs hB
    rcases eS : pSeq t.data.toList with _ | _
    · rw [eS] at hs hB
      simp at hs hB
      rw [hB] at hK hbad
      rw [hK] at hbad
      rw [hA, hB, hK]
      by_cases hk : 1500 < rd t.data.toList 16 2
      · rw [if_pos hk, if_pos hk, ← ext_drop t 18 (by omega)]
        exact parse10a t h60 h _ _ _ 0 _ rfl rfl ht rfl (rd2 _ _).1 (rd2 _ _).2 rfl (rd2 _ _).1 (rd2 _ _).2 hs hk w
      · rw [if_neg hk, if_neg hk, ← ext_take t 18]
        exact parse10b t h60 h _ _ _ 0 _ rfl rfl ht rfl (rd2 _ _).1 (rd2 _ _).2 rfl (rd2 _ _).1 (rd2 _ _).2 hs hk (by omega) w
    · rw [eS] at hs hB
      simp at hs hB
      rw [hB] at hK hbad
      rw [hK] at hbad
      rw [hA, hB, hK]
      by_cases hk : 1500 < rd t.data.toList 22 2
      · rw [if_pos hk, if_pos hk, ← ext_drop t 24 (by omega)]
        exact parse11a t h60 h _ _ _ _ _ rfl rfl ht rfl (rd2 _ _).1 (rd2 _ _).2 hs rfl rfl (rd2 _ _).1 (rd2 _ _).2 hk w
      · rw [if_neg hk, if_neg hk, ← ext_take t 24]
        exact parse11b t h60 h _ _ _ _ _ rfl rfl ht rfl (rd2 _ _).1 (rd2 _ _).2 hs rfl rfl (rd2 _ _).1 (rd2 _ _).2 hk (by omega) w
theorem parse_bad (t : ByteArray) (h60 : 60 ≤ t.size) (h : t.size ≤ 9000000000000000000) (hb : pBad t.data.toList = true) (w : World) :
    Calls Try.prog 43 #[.string t] w fun e w' => e = .panicked [{ v := .iface 104 (.agg #[]), recovered := false }] ∧ Below w.heap.size w w' := by
  have hsz : t.data.toList.length = t.size := (Lib.size_eq _).symm
  have ht := pTag_iff t.data.toList
  have hs := pSeq_iff t.data.toList
  have hA : pA t.data.toList = if pTag t.data.toList then 16 else 12 := rfl
  have hB : pB t.data.toList = if pSeq t.data.toList then pA t.data.toList + 6 else pA t.data.toList := rfl
  have hK : pK t.data.toList = rd t.data.toList (pB t.data.toList) 2 := rfl
  have hbad := (pBad_iff t.data.toList).1 hb
  rw [hsz] at hbad
  clear hb
  rcases eT : pTag t.data.toList with _ | _
  · rw [eT] at ht hA
    simp at ht hA
    rw [hA] at hs hB
    rcases eS : pSeq t.data.toList with _ | _
    · rw [eS] at hs hB
      simp at hs hB
      rw [hB] at hK hbad
      rw [hK] at hbad
      have hk : ¬ 1500 < rd t.data.toList 12 2 := by omega
      exact parse00c t h60 h _ _ 0 0 _ rfl rfl rfl (rd2 _ _).1 (rd2 _ _).2 ht hs hk (by omega) w
    · rw [eS] at hs hB
      simp at hs hB
      rw [hB] at hK hbad
      rw [hK] at hbad
      have hk : ¬ 1500 < rd t.data.toList 18 2 := by omega
      exact parse01c t h60 h _ _ 0 _ _ rfl rfl hs rfl rfl (rd2 _ _).1 (rd2 _ _).2 hk (by omega) w
  · rw [eT] at ht hA
    simp at ht hA
    rw [hA] at hs hB
    rcases eS : pSeq t.data.toList with _ | _
    · rw [eS] at hs hB
      simp at hs hB
      rw [hB] at hK hbad
      rw [hK] at hbad
      have hk : ¬ 1500 < rd t.data.toList 16 2 := by omega
      exact parse10c t h60 h _ _ _ 0 _ rfl rfl ht rfl (rd2 _ _).1 (rd2 _ _).2 rfl (rd2 _ _).1 (rd2 _ _).2 hs hk (by omega) w
    · rw [eS] at hs hB
      simp at hs hB
      rw [hB] at hK hbad
      rw [hK] at hbad
      have hk : ¬ 1500 < rd t.data.toList 22 2 := by omega
      exact parse11c t h60 h _ _ _ _ _ rfl rfl ht rfl (rd2 _ _).1 (rd2 _ _).2 hs rfl rfl (rd2 _ _).1 (rd2 _ _).2 hk (by omega) w
end Go.Proofs.Ytccdhoboidneeaa
