/-
  Contracts of the reference's candidate and Decode.
-/
import Derived.Test.YtccdhoboidneeaaFrameR
import Derived.Test.YtccdhoboidneeaaFrameD
import Derived.Deep.RegionHeld3
import Derived.Deep.DrawnRows
namespace Go.Proofs.Ytccdhoboidneeaa
open Go.RowKit
set_option linter.unusedVariables false

/-- While candidate works: the result's place in block n, the frame in block n + 1. -/
structure Cw (w : World) (f : Fr) (W : World) : Prop where
  rs : FrAt W w.heap.size Fr.none
  rz : ∀ j, W.frozen? ⟨w.heap.size, j, none⟩ = false
  fr : FrAt W (w.heap.size + 1) f
  fz : ∀ j, W.frozen? ⟨w.heap.size + 1, j, none⟩ = false
  bel : Below w.heap.size w W
  big : w.heap.size + 1 < W.heap.size
theorem Cw.start (w : World) (f : Fr) : Cw w f ((w.alloc (frB Fr.none)).alloc (frB f)).drew := by
  have b2 : Below (w.alloc (frB Fr.none)).heap.size (w.alloc (frB Fr.none)) ((w.alloc (frB Fr.none)).alloc (frB f)).drew := ((Below.refl _ _).alloc (by omega) _).drew
  have b3 : Below ((w.alloc (frB Fr.none)).alloc (frB f)).heap.size ((w.alloc (frB Fr.none)).alloc (frB f)) ((w.alloc (frB Fr.none)).alloc (frB f)).drew := (Below.refl _ _).drew
  have e1 : (w.alloc (frB Fr.none)).heap.size = w.heap.size + 1 := by simp
  refine ⟨fr_keep (fr_box w Fr.none) b2 (by simp), fun j => ?_, ?_, fun j => ?_, ?_, by simp⟩
  · have h0 : (w.alloc (frB Fr.none)).frozen? ⟨w.heap.size, j, none⟩ = false := World.frozen?_alloc_new _ _ _ j
    exact (b2.frozen (p := ⟨w.heap.size, j, none⟩) (by simp)).trans h0
  · have := fr_keep (fr_box (w.alloc (frB Fr.none)) f) b3 (by simp)
    rwa [e1] at this
  · have h0 : ((w.alloc (frB Fr.none)).alloc (frB f)).frozen? ⟨w.heap.size + 1, j, none⟩ = false := by rw [← e1]; exact World.frozen?_alloc_new _ _ _ j
    exact (b3.frozen (p := ⟨w.heap.size + 1, j, none⟩) (by simp)).trans h0
  · exact ((((Below.refl w.heap.size w).alloc (Nat.le_refl _) _).alloc (by simp) _).drew)
theorem Cw.set {w W : World} {f g : Fr} (h : Cw w f W) (j : Nat) (v : Value) (hg : FrAt (W.setCell ⟨w.heap.size + 1, j, none⟩ v) (w.heap.size + 1) g) : Cw w g (W.setCell ⟨w.heap.size + 1, j, none⟩ v) := by
  have hb : Below (w.heap.size + 1) W (W.setCell ⟨w.heap.size + 1, j, none⟩ v) := (Below.refl _ _).setCell (p := ⟨w.heap.size + 1, j, none⟩) (Nat.le_refl _) _
  refine ⟨fr_keep h.rs hb (by omega), fun i => ?_, hg, fun i => ?_, h.bel.trans (hb.mono (by omega)), ?_⟩
  · rw [World.frozen?_setCell]; exact h.rz i
  · rw [World.frozen?_setCell]; exact h.fz i
  · have := h.big; simp [World.setCell]; omega
theorem Cw.drew {w W : World} {f : Fr} (h : Cw w f W) : Cw w f W.drew :=
  ⟨fr_keep h.rs ((Below.refl W.heap.size W).drew) (by have := h.big; omega), h.rz, fr_keep h.fr ((Below.refl W.heap.size W).drew) h.big, h.fz, h.bel.drew, h.big⟩
theorem Cw.s2 {w W : World} {f : Fr} (h : Cw w f W) (v : Bool) : Cw w { f with tag := v } (W.setCell ⟨w.heap.size + 1, 2, none⟩ (.bool v)) := h.set 2 _ (h.fr.s2 v)
theorem Cw.s5 {w W : World} {f : Fr} (h : Cw w f W) (v : Bool) : Cw w { f with hseq := v } (W.setCell ⟨w.heap.size + 1, 5, none⟩ (.bool v)) := h.set 5 _ (h.fr.s5 v)
theorem Cw.s3 {w W : World} {f : Fr} (h : Cw w f W) (v : Int) : Cw w { f with prio := v } (W.setCell ⟨w.heap.size + 1, 3, none⟩ (.int .i64 v)) := h.set 3 _ (h.fr.s3 v)
theorem Cw.s4 {w W : World} {f : Fr} (h : Cw w f W) (v : Int) : Cw w { f with vid := v } (W.setCell ⟨w.heap.size + 1, 4, none⟩ (.int .i64 v)) := h.set 4 _ (h.fr.s4 v)
theorem Cw.s6 {w W : World} {f : Fr} (h : Cw w f W) (v : Int) : Cw w { f with seq := v } (W.setCell ⟨w.heap.size + 1, 6, none⟩ (.int .i64 v)) := h.set 6 _ (h.fr.s6 v)
theorem Cw.s7 {w W : World} {f : Fr} (h : Cw w f W) (v : Int) : Cw w { f with type := v } (W.setCell ⟨w.heap.size + 1, 7, none⟩ (.int .i64 v)) := h.set 7 _ (h.fr.s7 v)
theorem Cw.s8 {w W : World} {f : Fr} (h : Cw w f W) (v : ByteArray) : Cw w { f with data := v } (W.setCell ⟨w.heap.size + 1, 8, none⟩ (.string v)) := h.set 8 _ (h.fr.s8 v)
theorem val_ext (l : List UInt8) (a b k : Nat) (h : b - a = k) : ((Wirem.val ((S l).extract a b).data.toList : Nat) : Int) = rd l a k := by
  subst h
  rw [S_extract, S_data'']; rfl
theorem rd_drop (t : List UInt8) (m a k : Nat) : rd (t.drop m) a k = rd t (m + a) k := by
  unfold rd; rw [List.drop_drop]
theorem rd2_bd (l : List UInt8) (a : Nat) : 0 ≤ rd l a 2 ∧ rd l a 2 ≤ 65535 := by
  unfold rd
  have h := Wirem.val_lt ((l.drop a).take 2)
  have hl : ((l.drop a).take 2).length ≤ 2 := by rw [List.length_take]; omega
  have := Nat.pow_le_pow_right (n := 256) (by omega) hl
  omega

theorem rd_take (l : List UInt8) (m a k : Nat) (h : a + k ≤ m) : rd l a k = rd (l.take m) a k := by
  unfold rd
  rw [List.drop_take, List.take_take, Nat.min_eq_left (by omega)]
theorem cFr_steps (t l1 l2 l3 : List UInt8) (gt gs : Bool) (gp gv gq : Int) (V : Nat) (x y : Int) (h1 : t.drop 12 = l1) (hgt : (l1.take 2 == [129, 0]) = gt) (hl2 : (if gt = true then l1.drop 4 else l1) = l2)
    (hgp : (if gt = true then rd l1 2 2 / 8192 else 0) = gp) (hgv : (if gt = true then rd l1 2 2 % 8192 else 0) = gv) (hgs : (l2.take 4 == [241, 193, 0, 0]) = gs) (hl3 : (if gs = true then l2.drop 6 else l2) = l3)
    (hgq : (if gs = true then rd l2 4 2 else 0) = gq) (hV : rd l3 0 2 = (V : Int)) (r0 : x = rd t 0 6) (r6 : y = rd t 6 6) :
    cFr t = ⟨x, y, gt, gp, gv, gs, gq, if 1536 ≤ (V : Int) then (V : Int) else 0, if 1536 ≤ (V : Int) then S (l3.drop 2) else S ((l3.drop 2).take V)⟩ := by
  have e1 : cTag t = gt := by unfold cTag; rw [h1]; exact hgt
  have e2 : l2 = t.drop (cA t) := by
    unfold cA
    rw [e1, ← hl2, ← h1]
    cases gt
    · rfl
    · simp
  have e3 : cSeq t = gs := by unfold cSeq; rw [← e2]; exact hgs
  have e4 : l3 = t.drop (cB t) := by
    unfold cB
    rw [e3, ← hl3, e2]
    cases gs
    · rfl
    · simp
  have e5 : cK t = (V : Int) := by
    unfold cK
    rw [← hV, e4, rd_drop, Nat.add_zero]
  have e6 : rd t 14 2 = rd l1 2 2 := by rw [← h1, rd_drop]
  have e7 : rd t (cA t + 4) 2 = rd l2 4 2 := by rw [e2, rd_drop]
  have e8 : t.drop (cB t + 2) = l3.drop 2 := by rw [e4, List.drop_drop]
  unfold cFr
  rw [e1, e3, e5, e6, e7, e8, hgp, hgv, hgq, r0, r6]
  rfl

set_option maxRecDepth 100000 in
set_option maxHeartbeats 1000000 in
attribute [local go_sem ↓] Go.wp_at_zero Go.wp_at_succ in
theorem candidate_any (l : List UInt8) (n : Nat) (hn : l.length = n) (h : 64 ≤ n) (hs : n ≤ 9000000000000000000) (w : World) (f : Fr) (hf : f = cFr (l.take (n - 4))) :
    Calls Try.prog 44 #[.string (S l)] w fun e w' => e = .returned (.agg #[.int .i64 f.dst, .int .i64 f.src, .bool f.tag, .int .i64 f.prio, .int .i64 f.vid, .bool f.hseq, .int .i64 f.seq, .int .i64 f.type, .string f.data]) ∧ Below w.heap.size w w' := by
  have hsz : (S l).size = n := by rw [S_size, hn]
  have z12 : 12 ≤ ((S l).size : Int) := by omega
  have z6 : 6 ≤ ((S l).size : Int) := by omega
  have v1 := fun W => value_any ((S l).extract 0 6) (by rw [ByteArray.size_extract]; omega) _ (val_ext l 0 6 6 rfl) W
  have v2 := fun W => value_any ((S l).extract 6 12) (by rw [ByteArray.size_extract]; omega) _ (val_ext l 6 12 6 rfl) W
  have V1 := Lib.hid v1
  have V2 := Lib.hid v2
  clear v1 v2
  have HF := Lib.hid hf
  have HS := Lib.hid hsz
  have HN := Lib.hid hn
  clear hf hsz hn
  go_enter Try.func44, Try.ntmps44
  go_upto_region 1 with fail
  go_cut [3] (fun s3 wx => s3 = .pointer (some ⟨w.heap.size + 1, 0, none⟩) ∧ Cw w ⟨rd l 0 6, rd l 6 6, false, 0, 0, false, 0, 0, ⟨#[]⟩⟩ wx)
  case first =>
    go_region_held3 (fun _ => True) (trivial) (first | (go_at_call 58; with_reducible refine (V1.out _).mono ?_; rintro e w' ⟨rfl, rfl⟩) | (go_at_call 58; with_reducible refine (V2.out _).mono ?_; rintro e w' ⟨rfl, rfl⟩))
    all_goals (go_wp2_with fail; go_meet; exact ⟨rfl, Cw.start w ⟨_, _, _, _, _, _, _, _, _⟩⟩)
  case rest =>
  obtain ⟨rfl, hw⟩ := hcut
  have hz := hw.bel.size
  have HW := Lib.hid hw; clear hw V1 V2
  obtain ⟨m, hm⟩ : ∃ m : Nat, n = m + 4 := ⟨n - 4, by omega⟩
  have hbs : ((S l).size : Int) - 4 = (m : Int) := by have := HS.out; omega
  have hmu : (m : Int) ≤ ((S l).size : Int) := by have := HS.out; omega
  have hml : 12 ≤ (m : Int) := by omega
  have hmN : 60 ≤ m := by omega
  have hmb : (m : Int) ≤ 9000000000000000000 := by omega
  have he : (S l).extract 12 m = S ((l.take m).drop 12) := by rw [S_extract, List.drop_take]
  have hl1 : ((l.take m).drop 12).length + 12 = m := by rw [List.length_drop, List.length_take, HN.out]; omega
  have hf2 : f = cFr (l.take m) := by rw [HF.out, show n - 4 = m by omega]
  have HM := Lib.hid hm; clear hm z12 z6 HS HN HF
  have HE := Lib.hid he; clear he
  have HL := Lib.hid hl1; clear hl1
  have HF := Lib.hid hf2; clear hf2
  go_upto_region 3 with fail
  rw [HE.out]
  have h1 : 48 ≤ ((S ((l.take m).drop 12)).size : Int) := by rw [S_size]; have := HL.out; have := HM.out; omega
  have h2 : ((S ((l.take m).drop 12)).size : Int) ≤ 9000000000000000000 := by rw [S_size]; have := HL.out; have := HM.out; omega
  clear hbs hmu hml hmb HE HL HM
  generalize ht : (l.take m).drop 12 = l1 at *
  have HT := Lib.hid ht; clear ht
  obtain ⟨q, hq⟩ : ∃ q, (((S l1).extract 0 2).toList == [129, 0]) = q := ⟨_, rfl⟩
  have hq2 : (l1.take 2 == [129, 0]) = q := by rw [← hq, S_extract, S_toList]; rfl
  have HQ := Lib.hid hq2; clear hq2
  go_upto_if 19 with fail
  go_cut [0] (fun s0 wx => s0 = .string (S (if (l1.take 2 == [129, 0]) = true then l1.drop 4 else l1)) ∧ Cw w ⟨rd l 0 6, rd l 6 6, l1.take 2 == [129, 0], if (l1.take 2 == [129, 0]) = true then rd l1 2 2 / 8192 else 0, if (l1.take 2 == [129, 0]) = true then rd l1 2 2 % 8192 else 0, false, 0, 0, ⟨#[]⟩⟩ wx)
  case first =>
    rcases q with _ | _
    · clear hq
      go_wp2_with (fail)
      go_meet
      exact ⟨by rw [HQ.out]; rfl, by rw [HQ.out]; exact HW.out⟩
    · clear hq
      have z2 := HW.out.fz 2
      have z3 := HW.out.fz 3
      have z4 := HW.out.fz 4
      have c2 := HW.out.fr.c2
      have c3 := HW.out.fr.c3
      have c4 := HW.out.fr.c4
      have hb := HW.out.big
      have zz4 : 4 ≤ ((S l1).size : Int) := by omega
      have hv := rd2_bd l1 2
      have v1 := fun W => value_any ((S l1).extract 2 4) (by rw [ByteArray.size_extract]; omega) _ (val_ext l1 2 4 2 rfl) W
      have V1 := Lib.hid v1
      clear v1
      have he : S (l1.drop 4) = (S l1).extract 4 (S l1).size := by
        rw [S_extract, S_size, List.take_of_length_le]; rw [List.length_drop]; exact Nat.le_refl _
      have HE := Lib.hid he; clear he
      generalize rd l1 2 2 = V at *
      go_wp2_with (fail)
      go_region_held3 (fun _ => True) (trivial) ((go_at_call 58; with_reducible refine (V1.out _).mono ?_; rintro e w' ⟨rfl, rfl⟩))
      all_goals (go_wp2_with fail; go_meet; exact ⟨by rw [HQ.out, ← HE.out]; rfl, by rw [HQ.out]; exact (((HW.out.s2 true).s3 _).s4 _).drew⟩)
  case rest =>
  obtain ⟨rfl, hw⟩ := hcut
  clear hq HQ q HW
  have g1 : 44 ≤ ((S (if (l1.take 2 == [129, 0]) = true then l1.drop 4 else l1)).size : Int) := by
    rw [S_size] at h1 ⊢
    split
    · rw [List.length_drop]; omega
    · omega
  have g2 : ((S (if (l1.take 2 == [129, 0]) = true then l1.drop 4 else l1)).size : Int) ≤ 9000000000000000000 := by
    rw [S_size] at h2 ⊢
    split
    · rw [List.length_drop]; omega
    · omega
  clear h1 h2
  generalize hl2 : (if (l1.take 2 == [129, 0]) = true then l1.drop 4 else l1) = l2 at *
  have HL2 := Lib.hid hl2; clear hl2
  generalize hgp : (if (l1.take 2 == [129, 0]) = true then rd l1 2 2 / 8192 else 0) = gp at *
  generalize hgv : (if (l1.take 2 == [129, 0]) = true then rd l1 2 2 % 8192 else 0) = gv at *
  generalize hgt : (l1.take 2 == [129, 0]) = gt at *
  have HGP := Lib.hid hgp
  have HGV := Lib.hid hgv
  have HGT := Lib.hid hgt
  clear hgp hgv hgt
  have HW := Lib.hid hw; clear hw
  obtain ⟨q, hq⟩ : ∃ q, (((S l2).extract 0 4).toList == [241, 193, 0, 0]) = q := ⟨_, rfl⟩
  have hq2 : (l2.take 4 == [241, 193, 0, 0]) = q := by rw [← hq, S_extract, S_toList]; rfl
  have HQ := Lib.hid hq2; clear hq2
  have zz6 : 6 ≤ ((S l2).size : Int) := by omega
  go_upto_if 35 with fail
  go_cut [0] (fun s0 wx => s0 = .string (S (if (l2.take 4 == [241, 193, 0, 0]) = true then l2.drop 6 else l2)) ∧ Cw w ⟨rd l 0 6, rd l 6 6, gt, gp, gv, l2.take 4 == [241, 193, 0, 0], if (l2.take 4 == [241, 193, 0, 0]) = true then rd l2 4 2 else 0, 0, ⟨#[]⟩⟩ wx)
  case first =>
    rcases q with _ | _
    · clear hq
      go_wp2_with (fail)
      go_meet
      exact ⟨by rw [HQ.out]; rfl, by rw [HQ.out]; exact HW.out⟩
    · clear hq
      have z5 := HW.out.fz 5
      have z6 := HW.out.fz 6
      have c5 := HW.out.fr.c5
      have c6 := HW.out.fr.c6
      have hb := HW.out.big
      have v1 := fun W => value_any ((S l2).extract 4 6) (by rw [ByteArray.size_extract]; omega) _ (val_ext l2 4 6 2 rfl) W
      have V1 := Lib.hid v1
      clear v1
      have he : S (l2.drop 6) = (S l2).extract 6 (S l2).size := by
        rw [S_extract, S_size, List.take_of_length_le]; rw [List.length_drop]; exact Nat.le_refl _
      have HE := Lib.hid he; clear he
      go_wp2_with (fail)
      refine (V1.out _).mono ?_
      rintro e w' ⟨rfl, rfl⟩
      go_wp2_with (fail)
      go_meet
      exact ⟨by rw [HQ.out, ← HE.out]; rfl, by rw [HQ.out]; exact (HW.out.s5 true).s6 _⟩
  case rest =>
  obtain ⟨rfl, hw⟩ := hcut
  clear hq HQ q HW zz6
  have k1 : 38 ≤ ((S (if (l2.take 4 == [241, 193, 0, 0]) = true then l2.drop 6 else l2)).size : Int) := by
    rw [S_size] at g1 ⊢
    split
    · rw [List.length_drop]; omega
    · omega
  have k2 : ((S (if (l2.take 4 == [241, 193, 0, 0]) = true then l2.drop 6 else l2)).size : Int) ≤ 9000000000000000000 := by
    rw [S_size] at g2 ⊢
    split
    · rw [List.length_drop]; omega
    · omega
  clear g1 g2
  generalize hl3 : (if (l2.take 4 == [241, 193, 0, 0]) = true then l2.drop 6 else l2) = l3 at *
  generalize hgq : (if (l2.take 4 == [241, 193, 0, 0]) = true then rd l2 4 2 else 0) = gq at *
  generalize hgs : (l2.take 4 == [241, 193, 0, 0]) = gs at *
  have HL3 := Lib.hid hl3
  have HGQ := Lib.hid hgq
  have HGS := Lib.hid hgs
  clear hl3 hgq hgs
  have z8 := hw.fz 8
  have z7 := hw.fz 7
  have c8 := hw.fr.c8
  have c7 := hw.fr.c7
  have hb := hw.big
  have HW := Lib.hid hw; clear hw
  have v1 := fun W => value_any ((S l3).extract 0 2) (by rw [ByteArray.size_extract]; omega) _ (val_ext l3 0 2 2 rfl) W
  have V1 := Lib.hid v1
  clear v1
  have zz2 : 2 ≤ ((S l3).size : Int) := by omega
  have hv := rd2_bd l3 0
  have he : (S l3).extract 2 (S l3).size = S (l3.drop 2) := by
    rw [S_extract, S_size, List.take_of_length_le]; rw [List.length_drop]; exact Nat.le_refl _
  have HE := Lib.hid he; clear he
  obtain ⟨V, hV⟩ : ∃ V : Nat, rd l3 0 2 = (V : Int) := ⟨_, rfl⟩
  rw [hV] at V1 hv
  have HV := Lib.hid hV; clear hV
  go_wp2_with (fail)
  refine (V1.out _).mono ?_
  rintro e w' ⟨rfl, rfl⟩
  obtain ⟨q, hq⟩ : ∃ q, decide (1536 ≤ (V : Int)) = q := ⟨_, rfl⟩
  go_upto_if 50 with fail
  obtain ⟨w5, hw5⟩ : ∃ W, wc.setCell ⟨w.heap.size + 1, 8, none⟩ (.string ((S l3).extract 2 (S l3).size)) = W := ⟨_, rfl⟩
  have W5 := HW.out.s8 ((S l3).extract 2 (S l3).size)
  rw [hw5] at W5
  rw [hw5]
  rw [HE.out] at W5
  clear hw5 z8 z7 c8 c7 hb HW V1 HE zz2
  have z8 := W5.fz 8
  have z7 := W5.fz 7
  have c8 := W5.fr.c8
  have c7 := W5.fr.c7
  have hb := W5.big
  have HW := Lib.hid W5; clear W5
  simp only at c7 c8
  go_cut [] (fun wx => Cw w ⟨rd l 0 6, rd l 6 6, gt, gp, gv, gs, gq, if 1536 ≤ (V : Int) then (V : Int) else 0, if 1536 ≤ (V : Int) then S (l3.drop 2) else S ((l3.drop 2).take V)⟩ wx)
  case first =>
    rcases q with _ | _
    · have hV6 : (V : Int) < 1536 := by have := of_decide_eq_false hq; omega
      clear hq
      by_cases hVd : (V : Int) ≤ ((S (l3.drop 2)).size : Int)
      · have hm : min (V : Int) ((S (l3.drop 2)).size : Int) = (V : Int) := by omega
        have he : (S (l3.drop 2)).extract 0 V = S ((l3.drop 2).take V) := by rw [S_extract]; rfl
        have HE := Lib.hid he; clear he
        go_wp2_with (fail)
        go_meet
        rw [if_neg (by omega), if_neg (by omega), ← HE.out]
        exact HW.out.s8 _
      · have hVd' : ((S (l3.drop 2)).size : Int) ≤ (V : Int) := by omega
        have hm : min (V : Int) ((S (l3.drop 2)).size : Int) = ((S (l3.drop 2)).size : Int) := by omega
        have he : S (l3.drop 2) = S ((l3.drop 2).take V) := by rw [List.take_of_length_le]; rw [S_size] at hVd'; omega
        have HE := Lib.hid he; clear he hVd
        go_wp2_with (fail)
        go_meet
        rw [if_neg (by omega), if_neg (by omega), ← HE.out]
        exact HW.out.s8 _
    · have hV5 : 1536 ≤ (V : Int) := of_decide_eq_true hq
      clear hq
      go_wp2_with (fail)
      go_meet
      rw [if_pos (by omega), if_pos (by omega)]
      exact HW.out.s7 _
  case rest =>
  clear hq HW z7 z8 c7 c8 hb
  have hw := hcut
  clear hcut
  have hff : f = ⟨rd l 0 6, rd l 6 6, gt, gp, gv, gs, gq, if 1536 ≤ (V : Int) then (V : Int) else 0, if 1536 ≤ (V : Int) then S (l3.drop 2) else S ((l3.drop 2).take V)⟩ := by
    rw [HF.out]
    exact cFr_steps _ l1 l2 l3 gt gs gp gv gq V _ _ HT.out HGT.out HL2.out HGP.out HGV.out HGS.out HL3.out HGQ.out HV.out (rd_take l m 0 6 (by omega)) (rd_take l m 6 6 (by omega))
  have HFF := Lib.hid hff
  clear hff
  obtain ⟨c0, c1, c2, c3, c4, c5, c6, c7, c8⟩ := hw.fr
  obtain ⟨r0, r1, r2, r3, r4, r5, r6, r7, r8⟩ := hw.rs
  have y0 := hw.rz 0
  have y1 := hw.rz 1
  have y2 := hw.rz 2
  have y3 := hw.rz 3
  have y4 := hw.rz 4
  have y5 := hw.rz 5
  have y6 := hw.rz 6
  have y7 := hw.rz 7
  have y8 := hw.rz 8
  have hb := hw.big
  have hbl := hw.bel
  simp only [Fr.none] at r0 r1 r2 r3 r4 r5 r6 r7 r8
  simp only at c0 c1 c2 c3 c4 c5 c6 c7 c8
  clear hw
  generalize (if 1536 ≤ (V : Int) then (V : Int) else 0) = T8 at *
  generalize (if 1536 ≤ (V : Int) then S (l3.drop 2) else S ((l3.drop 2).take V)) = T9 at *
  generalize rd l 0 6 = T0 at *
  generalize rd l 6 6 = T1 at *
  go_wp2_with (fail)
  refine bodyPost_ret (v := .agg #[.int .i64 T0, .int .i64 T1, .bool gt, .int .i64 gp, .int .i64 gv, .bool gs, .int .i64 gq, .int .i64 T8, .string T9]) (by simp [results, Try.results44, go_sem, r0, r1, r2, r3, r4, r5, r6, r7, r8]) rfl ?_
  have e := HFF.out
  subst e
  exact ⟨rfl, hbl.trans (put9_below wc w.heap.size ⟨_, _, _, _, _, _, _, _, _⟩ w.heap.size (Nat.le_refl _))⟩

theorem cFr_size (t : List UInt8) : (cFr t).data.size ≤ t.length := by
  unfold cFr
  simp only
  split
  · rw [S_size, List.length_drop]; omega
  · rw [S_size, List.length_take, List.length_drop]; omega
theorem RDecode_short (s : ByteArray) (h : s.size < 64) (w : World) :
    Calls Try.prog 25 #[.string s] w (Ret2 (.agg #[.int .i64 0, .int .i64 0, .bool false, .int .i64 0, .int .i64 0, .bool false, .int .i64 0, .int .i64 0, .string ⟨#[]⟩]) (.int .i64 5) w) := by
  have h' : (s.size : Int) < 64 := by omega
  clear h
  go_enter Try.func25, Try.ntmps25
  go_wp2_with (fail)
  exact bodyPost_ret (v := .tuple #[.agg #[.int .i64 0, .int .i64 0, .bool false, .int .i64 0, .int .i64 0, .bool false, .int .i64 0, .int .i64 0, .string ⟨#[]⟩], .int .i64 5]) (by simp [results, Try.results25, go_sem]) rfl ⟨rfl, (by repeat' (first | exact Below.refl _ _ | assumption | refine below_drewN ?_ _ | refine Below.drew ?_ | refine Below.alloc ?_ (by (first | exact Nat.le_refl _ | assumption | (simp; done) | omega | (simp; omega))) _ | refine Below.setCell ?_ (by (first | exact Nat.le_refl _ | assumption | (simp; done) | omega | (simp; omega))) _ | refine Below.trans ?_ (Below.mono (by assumption) (by (first | exact Nat.le_refl _ | assumption | (simp; done) | omega | (simp; omega))))))⟩
theorem RDecode_no (s : ByteArray) (h : 64 ≤ s.size) (hs : s.size ≤ 9000000000000000000) (f : Fr) (hf : f = cFr (txt s)) (hn : f.ok = false) (w : World) :
    Calls Try.prog 25 #[.string s] w (Ret2 (.agg #[.int .i64 0, .int .i64 0, .bool false, .int .i64 0, .int .i64 0, .bool false, .int .i64 0, .int .i64 0, .string ⟨#[]⟩]) (.int .i64 5) w) := by
  have hl : s.data.toList.length = s.size := (Lib.size_eq s).symm
  have hfs : f.data.size ≤ 9000000000000000000 := by
    rw [hf]
    have h1 := cFr_size (txt s)
    have h2 : (txt s).length ≤ s.size := by unfold txt; rw [List.length_take]; omega
    omega
  have hc := fun W => candidate_any s.data.toList s.size hl h hs W f hf
  rw [S_of] at hc
  have HP := Lib.hid hc; clear hc hf hl
  have hco : f.code = if f.ok then 0 else 170 := rfl
  have hE := fun W => REncode_any f hfs W
  rw [hco, hn] at hE
  simp at hE
  clear hco hn hfs
  have HE := Lib.hid hE; clear hE
  have h' : 64 ≤ (s.size : Int) := by omega
  clear h
  generalize f.enc = en at *
  skip
  have f1 := fr_box w Fr.none
  have f2 : ∀ j, (w.alloc (frB Fr.none)).frozen? ⟨w.heap.size, j, none⟩ = false := fun j => World.frozen?_alloc_new _ _ _ j
  have HF1 := Lib.hid f1; clear f1
  have HF2 := Lib.hid f2; clear f2
  go_enter Try.func25, Try.ntmps25
  go_wp2_with (fail)
  refine (HP.out _).mono ?_
  rintro e w1 ⟨rfl, hb1⟩
  have z1 := hb1.size
  simp at z1
  have g1 := fr_keep HF1.out hb1 (by simp)
  have g2 := fun j => (hb1.frozen (p := ⟨w.heap.size, j, none⟩) (by simp)).trans (HF2.out j)
  have b1 : Below w.heap.size w w1 := (by repeat' (first | exact Below.refl _ _ | assumption | refine below_drewN ?_ _ | refine Below.drew ?_ | refine Below.alloc ?_ (by (first | exact Nat.le_refl _ | assumption | (simp; done) | omega | (simp; omega))) _ | refine Below.setCell ?_ (by (first | exact Nat.le_refl _ | assumption | (simp; done) | omega | (simp; omega))) _ | refine Below.trans ?_ (Below.mono (by assumption) (by (first | exact Nat.le_refl _ | assumption | (simp; done) | omega | (simp; omega))))))
  clear HF1 HF2 hb1
  have HG2 := Lib.hid g2; clear g2
  have g3 := fr_keep g1 ((Below.refl w1.heap.size w1).alloc (Nat.le_refl _) (frB f)) (by omega)
  have g4 := fun j => (((Below.refl w1.heap.size w1).alloc (Nat.le_refl _) (frB f)).frozen (p := ⟨w.heap.size, j, none⟩) (by simp; omega)).trans (HG2.out j)
  have g5 := fr_box w1 f
  clear g1 HG2
  have HG4 := Lib.hid g4; clear g4
  go_wp2_with (fail)
  refine (HE.out _).mono ?_
  rintro e w2 ⟨rfl, hb2⟩
  have z2 := hb2.size
  simp at z2
  have k1 := fr_keep g3 hb2 (by simp; omega)
  have k5 := fr_keep g5 hb2 (by simp)
  have k4 := fun j => (hb2.frozen (p := ⟨w.heap.size, j, none⟩) (by simp; omega)).trans (HG4.out j)
  have b2 : Below w.heap.size w w2 := (b1.alloc (by omega) _).trans (hb2.mono (by simp; omega))
  clear hb2 g3 g5 HG4 b1
  obtain ⟨c0, c1, c2, c3, c4, c5, c6, c7, c8⟩ := k5
  obtain ⟨r0, r1, r2, r3, r4, r5, r6, r7, r8⟩ := k1
  simp only [Fr.none] at r0 r1 r2 r3 r4 r5 r6 r7 r8
  have y0 := k4 0
  have y1 := k4 1
  have y2 := k4 2
  have y3 := k4 3
  have y4 := k4 4
  have y5 := k4 5
  have y6 := k4 6
  have y7 := k4 7
  have y8 := k4 8
  clear k4
  go_wp2_with (fail)
  refine bodyPost_ret (v := .tuple #[.agg #[.int .i64 0, .int .i64 0, .bool false, .int .i64 0, .int .i64 0, .bool false, .int .i64 0, .int .i64 0, .string ⟨#[]⟩], .int .i64 5]) (by simp [results, Try.results25, go_sem, r0, r1, r2, r3, r4, r5, r6, r7, r8]) rfl ⟨rfl, ?_⟩
  exact b2.trans (put9_below w2 w.heap.size Fr.none w.heap.size (Nat.le_refl _))
theorem RDecode_ne (s : ByteArray) (h : 64 ≤ s.size) (hs : s.size ≤ 9000000000000000000) (f : Fr) (hf : f = cFr (txt s)) (hn : f.ok = true) (hq : f.enc ≠ s) (w : World) :
    Calls Try.prog 25 #[.string s] w (Ret2 (.agg #[.int .i64 0, .int .i64 0, .bool false, .int .i64 0, .int .i64 0, .bool false, .int .i64 0, .int .i64 0, .string ⟨#[]⟩]) (.int .i64 5) w) := by
  have hl : s.data.toList.length = s.size := (Lib.size_eq s).symm
  have hfs : f.data.size ≤ 9000000000000000000 := by
    rw [hf]
    have h1 := cFr_size (txt s)
    have h2 : (txt s).length ≤ s.size := by unfold txt; rw [List.length_take]; omega
    omega
  have hc := fun W => candidate_any s.data.toList s.size hl h hs W f hf
  rw [S_of] at hc
  have HP := Lib.hid hc; clear hc hf hl
  have hco : f.code = if f.ok then 0 else 170 := rfl
  have hE := fun W => REncode_any f hfs W
  rw [hco, hn] at hE
  simp at hE
  clear hco hn hfs
  have HE := Lib.hid hE; clear hE
  have h' : 64 ≤ (s.size : Int) := by omega
  clear h
  generalize f.enc = en at *
  have hqb := ba_ne hq
  have f1 := fr_box w Fr.none
  have f2 : ∀ j, (w.alloc (frB Fr.none)).frozen? ⟨w.heap.size, j, none⟩ = false := fun j => World.frozen?_alloc_new _ _ _ j
  have HF1 := Lib.hid f1; clear f1
  have HF2 := Lib.hid f2; clear f2
  go_enter Try.func25, Try.ntmps25
  go_wp2_with (fail)
  refine (HP.out _).mono ?_
  rintro e w1 ⟨rfl, hb1⟩
  have z1 := hb1.size
  simp at z1
  have g1 := fr_keep HF1.out hb1 (by simp)
  have g2 := fun j => (hb1.frozen (p := ⟨w.heap.size, j, none⟩) (by simp)).trans (HF2.out j)
  have b1 : Below w.heap.size w w1 := (by repeat' (first | exact Below.refl _ _ | assumption | refine below_drewN ?_ _ | refine Below.drew ?_ | refine Below.alloc ?_ (by (first | exact Nat.le_refl _ | assumption | (simp; done) | omega | (simp; omega))) _ | refine Below.setCell ?_ (by (first | exact Nat.le_refl _ | assumption | (simp; done) | omega | (simp; omega))) _ | refine Below.trans ?_ (Below.mono (by assumption) (by (first | exact Nat.le_refl _ | assumption | (simp; done) | omega | (simp; omega))))))
  clear HF1 HF2 hb1
  have HG2 := Lib.hid g2; clear g2
  have g3 := fr_keep g1 ((Below.refl w1.heap.size w1).alloc (Nat.le_refl _) (frB f)) (by omega)
  have g4 := fun j => (((Below.refl w1.heap.size w1).alloc (Nat.le_refl _) (frB f)).frozen (p := ⟨w.heap.size, j, none⟩) (by simp; omega)).trans (HG2.out j)
  have g5 := fr_box w1 f
  clear g1 HG2
  have HG4 := Lib.hid g4; clear g4
  go_wp2_with (fail)
  refine (HE.out _).mono ?_
  rintro e w2 ⟨rfl, hb2⟩
  have z2 := hb2.size
  simp at z2
  have k1 := fr_keep g3 hb2 (by simp; omega)
  have k5 := fr_keep g5 hb2 (by simp)
  have k4 := fun j => (hb2.frozen (p := ⟨w.heap.size, j, none⟩) (by simp; omega)).trans (HG4.out j)
  have b2 : Below w.heap.size w w2 := (b1.alloc (by omega) _).trans (hb2.mono (by simp; omega))
  clear hb2 g3 g5 HG4 b1
  obtain ⟨c0, c1, c2, c3, c4, c5, c6, c7, c8⟩ := k5
  obtain ⟨r0, r1, r2, r3, r4, r5, r6, r7, r8⟩ := k1
  simp only [Fr.none] at r0 r1 r2 r3 r4 r5 r6 r7 r8
  have y0 := k4 0
  have y1 := k4 1
  have y2 := k4 2
  have y3 := k4 3
  have y4 := k4 4
  have y5 := k4 5
  have y6 := k4 6
  have y7 := k4 7
  have y8 := k4 8
  clear k4
  go_wp2_with (fail)
  refine bodyPost_ret (v := .tuple #[.agg #[.int .i64 0, .int .i64 0, .bool false, .int .i64 0, .int .i64 0, .bool false, .int .i64 0, .int .i64 0, .string ⟨#[]⟩], .int .i64 5]) (by simp [results, Try.results25, go_sem, r0, r1, r2, r3, r4, r5, r6, r7, r8]) rfl ⟨rfl, ?_⟩
  exact b2.trans (put9_below w2 w.heap.size Fr.none w.heap.size (Nat.le_refl _))
theorem RDecode_yes (s : ByteArray) (h : 64 ≤ s.size) (hs : s.size ≤ 9000000000000000000) (f : Fr) (hf : f = cFr (txt s)) (hn : f.ok = true) (hq : f.enc = s) (w : World) :
    Calls Try.prog 25 #[.string s] w (Ret2 (.agg #[.int .i64 f.dst, .int .i64 f.src, .bool f.tag, .int .i64 f.prio, .int .i64 f.vid, .bool f.hseq, .int .i64 f.seq, .int .i64 f.type, .string f.data]) (.int .i64 0) w) := by
  have hl : s.data.toList.length = s.size := (Lib.size_eq s).symm
  have hfs : f.data.size ≤ 9000000000000000000 := by
    rw [hf]
    have h1 := cFr_size (txt s)
    have h2 : (txt s).length ≤ s.size := by unfold txt; rw [List.length_take]; omega
    omega
  have hc := fun W => candidate_any s.data.toList s.size hl h hs W f hf
  rw [S_of] at hc
  have HP := Lib.hid hc; clear hc hf hl
  have hco : f.code = if f.ok then 0 else 170 := rfl
  have hE := fun W => REncode_any f hfs W
  rw [hco, hn] at hE
  simp at hE
  clear hco hn hfs
  have HE := Lib.hid hE; clear hE
  have h' : 64 ≤ (s.size : Int) := by omega
  clear h
  generalize f.enc = en at *
  skip
  have f1 := fr_box w Fr.none
  have f2 : ∀ j, (w.alloc (frB Fr.none)).frozen? ⟨w.heap.size, j, none⟩ = false := fun j => World.frozen?_alloc_new _ _ _ j
  have HF1 := Lib.hid f1; clear f1
  have HF2 := Lib.hid f2; clear f2
  go_enter Try.func25, Try.ntmps25
  go_wp2_with (fail)
  refine (HP.out _).mono ?_
  rintro e w1 ⟨rfl, hb1⟩
  have z1 := hb1.size
  simp at z1
  have g1 := fr_keep HF1.out hb1 (by simp)
  have g2 := fun j => (hb1.frozen (p := ⟨w.heap.size, j, none⟩) (by simp)).trans (HF2.out j)
  have b1 : Below w.heap.size w w1 := (by repeat' (first | exact Below.refl _ _ | assumption | refine below_drewN ?_ _ | refine Below.drew ?_ | refine Below.alloc ?_ (by (first | exact Nat.le_refl _ | assumption | (simp; done) | omega | (simp; omega))) _ | refine Below.setCell ?_ (by (first | exact Nat.le_refl _ | assumption | (simp; done) | omega | (simp; omega))) _ | refine Below.trans ?_ (Below.mono (by assumption) (by (first | exact Nat.le_refl _ | assumption | (simp; done) | omega | (simp; omega))))))
  clear HF1 HF2 hb1
  have HG2 := Lib.hid g2; clear g2
  have g3 := fr_keep g1 ((Below.refl w1.heap.size w1).alloc (Nat.le_refl _) (frB f)) (by omega)
  have g4 := fun j => (((Below.refl w1.heap.size w1).alloc (Nat.le_refl _) (frB f)).frozen (p := ⟨w.heap.size, j, none⟩) (by simp; omega)).trans (HG2.out j)
  have g5 := fr_box w1 f
  clear g1 HG2
  have HG4 := Lib.hid g4; clear g4
  go_wp2_with (fail)
  refine (HE.out _).mono ?_
  rintro e w2 ⟨rfl, hb2⟩
  have z2 := hb2.size
  simp at z2
  have k1 := fr_keep g3 hb2 (by simp; omega)
  have k5 := fr_keep g5 hb2 (by simp)
  have k4 := fun j => (hb2.frozen (p := ⟨w.heap.size, j, none⟩) (by simp; omega)).trans (HG4.out j)
  have b2 : Below w.heap.size w w2 := (b1.alloc (by omega) _).trans (hb2.mono (by simp; omega))
  clear hb2 g3 g5 HG4 b1
  obtain ⟨c0, c1, c2, c3, c4, c5, c6, c7, c8⟩ := k5
  obtain ⟨r0, r1, r2, r3, r4, r5, r6, r7, r8⟩ := k1
  simp only [Fr.none] at r0 r1 r2 r3 r4 r5 r6 r7 r8
  have y0 := k4 0
  have y1 := k4 1
  have y2 := k4 2
  have y3 := k4 3
  have y4 := k4 4
  have y5 := k4 5
  have y6 := k4 6
  have y7 := k4 7
  have y8 := k4 8
  clear k4
  go_wp2_with (fail)
  refine bodyPost_ret (v := .tuple #[.agg #[.int .i64 f.dst, .int .i64 f.src, .bool f.tag, .int .i64 f.prio, .int .i64 f.vid, .bool f.hseq, .int .i64 f.seq, .int .i64 f.type, .string f.data], .int .i64 0]) (by simp [results, Try.results25, go_sem, r0, r1, r2, r3, r4, r5, r6, r7, r8]) rfl ⟨rfl, ?_⟩
  exact b2.trans (put9_below w2 w.heap.size f w.heap.size (Nat.le_refl _))
theorem RDecode_any (s : ByteArray) (hs : s.size ≤ 9000000000000000000) (w : World) :
    Calls Try.prog 25 #[.string s] w (Ret2 (.agg #[.int .i64 (decF s).dst, .int .i64 (decF s).src, .bool (decF s).tag, .int .i64 (decF s).prio, .int .i64 (decF s).vid, .bool (decF s).hseq, .int .i64 (decF s).seq, .int .i64 (decF s).type, .string (decF s).data]) (.int .i64 (decE s)) w) := by
  have no : decOk s = false → decF s = Fr.none ∧ decE s = 5 := fun e => by unfold decF decE; rw [e]; exact ⟨rfl, rfl⟩
  have hcd := can_dec s
  by_cases h : 64 ≤ s.size
  · rcases hn : (cFr (txt s)).ok with _ | _
    · obtain ⟨e1, e2⟩ := no (by rw [← hcd, ← Bool.not_eq_true, canOk_iff, hn]; simp)
      rw [e1, e2]
      exact RDecode_no s h hs _ rfl hn w
    · by_cases hq : (cFr (txt s)).enc = s
      · have hd : decOk s = true := by rw [← hcd, canOk_iff]; exact ⟨h, hn, hq⟩
        have e1 : decF s = cFr (txt s) := by unfold decF; rw [hd, canF_dec s hd]; rfl
        have e2 : decE s = 0 := by unfold decE; rw [hd]; rfl
        rw [e1, e2]
        exact RDecode_yes s h hs _ rfl hn hq w
      · obtain ⟨e1, e2⟩ := no (by rw [← hcd, ← Bool.not_eq_true, canOk_iff]; exact fun e => hq e.2.2)
        rw [e1, e2]
        exact RDecode_ne s h hs _ rfl hn hq w
  · obtain ⟨e1, e2⟩ := no (by rw [← hcd, ← Bool.not_eq_true, canOk_iff]; exact fun e => h e.1)
    rw [e1, e2]
    exact RDecode_short s (by omega) w
end Go.Proofs.Ytccdhoboidneeaa
