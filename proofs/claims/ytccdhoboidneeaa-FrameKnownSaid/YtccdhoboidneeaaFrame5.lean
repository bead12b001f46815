/-
  The contract of frame.body. Written by gen_body.py.
-/
import Derived.Test.YtccdhoboidneeaaFrame3
import Derived.Deep.RegionWith
namespace Go.Proofs.Ytccdhoboidneeaa
open Go.RowKit
set_option linter.unusedVariables false

set_option maxHeartbeats 8000000 in
attribute [local go_sem ↓] Go.wp_at_zero Go.wp_at_succ in
theorem body100 (dst src prio vid seq : Int) (data : ByteArray) (f : Fr) (hf : f = ⟨dst, src, true, prio, vid, false, seq, 0, data⟩) (hok : f.ok = true) (w : World) :
    Calls Try.prog 29 #[.agg #[.int .i64 dst, .int .i64 src, .bool true, .int .i64 prio, .int .i64 vid, .bool false, .int .i64 seq, .int .i64 0, .string data]] w fun e w' => e = .returned (.string (S f.body)) ∧ Below w.heap.size w w' := by
  obtain ⟨h1, h2, h3, h4, h5, h6, h7, h8, h9⟩ := f.ok_iff.1 hok
  have hp : f.pre.length = f.head + f.data.size := f.pre_length
  have hbd : f.body = f.pre ++ List.replicate (60 - f.pre.length) 0 := rfl
  have hpre : f.pre = f.hd ++ f.data.data.toList := rfl
  rw [hp] at hbd
  have hhd : f.hd = [] ++ Wirem.be 6 dst ++ Wirem.be 6 src ++ Wirem.be 2 33024 ++ Wirem.be 2 (prio * 8192 + vid) ++ Wirem.be 2 (data.size : Int) := by
    subst hf
    unfold Fr.hd Fr.kind
    rw [if_pos rfl]
    simp [show Wirem.be 2 33024 = [129, 0] from by decide]
  have hhead : f.head = 18 := by subst hf; rfl
  have hdd : f.data = data := by subst hf; rfl
  rw [hhead, hdd] at hbd
  rw [hhd, hdd] at hpre
  rw [hpre] at hbd
  generalize f.body = bd at *
  clear hp hpre hhd hhead hdd hok
  subst hf
  simp at h1 h2 h3 h4 h5 h6 h7 h8 h9
  obtain ⟨h1, h1'⟩ := h1
  obtain ⟨h2, h2'⟩ := h2
  obtain ⟨h3, h3'⟩ := h3
  obtain ⟨h4, h4'⟩ := h4
  obtain ⟨h5, h5'⟩ := h5
  have l6 := lim6
  have l2 := lim2'
  have HBD := Lib.hid hbd; clear hbd
  go_enter Try.func29, Try.ntmps29
  go_wp2_with (fail)
  have st := st_first w ⟨dst, src, true, prio, vid, false, seq, 0, data⟩
  refine (add_st w _ _ _ _ _ st dst 6 6 rfl (by omega) (by omega) h1 (by omega) (by simp)).mono ?_
  clear st
  rintro e w1 ⟨rfl, st⟩
  have c0 := st.fr.c0
  have c1 := st.fr.c1
  have c2 := st.fr.c2
  have c3 := st.fr.c3
  have c4 := st.fr.c4
  have c5 := st.fr.c5
  have c6 := st.fr.c6
  have c7 := st.fr.c7
  have c8 := st.fr.c8
  go_wp2_with (fail)
  clear c0 c1 c2 c3 c4 c5 c6 c7 c8
  refine (add_st w _ _ _ _ _ st src 6 6 rfl (by omega) (by omega) h2 (by omega) (by simp [Wirem.be_length])).mono ?_
  clear st
  rintro e w2 ⟨rfl, st⟩
  have c0 := st.fr.c0
  have c1 := st.fr.c1
  have c2 := st.fr.c2
  have c3 := st.fr.c3
  have c4 := st.fr.c4
  have c5 := st.fr.c5
  have c6 := st.fr.c6
  have c7 := st.fr.c7
  have c8 := st.fr.c8
  go_wp2_with (fail)
  clear c0 c1 c2 c3 c4 c5 c6 c7 c8
  refine (add_st w _ _ _ _ _ st 33024 2 2 rfl (by omega) (by omega) (by omega) (by omega) (by simp [Wirem.be_length])).mono ?_
  clear st
  rintro e w3 ⟨rfl, st⟩
  have c0 := st.fr.c0
  have c1 := st.fr.c1
  have c2 := st.fr.c2
  have c3 := st.fr.c3
  have c4 := st.fr.c4
  have c5 := st.fr.c5
  have c6 := st.fr.c6
  have c7 := st.fr.c7
  have c8 := st.fr.c8
  go_wp2_with (fail)
  clear c0 c1 c2 c3 c4 c5 c6 c7 c8
  refine (add_st w _ _ _ _ _ st (prio * 8192 + vid) 2 2 rfl (by omega) (by omega) (by omega) (by omega) (by simp [Wirem.be_length])).mono ?_
  clear st
  rintro e w4 ⟨rfl, st⟩
  have c0 := st.fr.c0
  have c1 := st.fr.c1
  have c2 := st.fr.c2
  have c3 := st.fr.c3
  have c4 := st.fr.c4
  have c5 := st.fr.c5
  have c6 := st.fr.c6
  have c7 := st.fr.c7
  have c8 := st.fr.c8
  go_wp2_with (fail)
  clear c0 c1 c2 c3 c4 c5 c6 c7 c8
  refine (add_st w _ _ _ _ _ st (data.size : Int) 2 2 rfl (by omega) (by omega) (by omega) (by omega) (by simp [Wirem.be_length])).mono ?_
  clear st
  rintro e w5 ⟨rfl, st⟩
  have c0 := st.fr.c0
  have c1 := st.fr.c1
  have c2 := st.fr.c2
  have c3 := st.fr.c3
  have c4 := st.fr.c4
  have c5 := st.fr.c5
  have c6 := st.fr.c6
  have c7 := st.fr.c7
  have c8 := st.fr.c8
  have hll : ([] ++ Wirem.be 6 dst ++ Wirem.be 6 src ++ Wirem.be 2 33024 ++ Wirem.be 2 (prio * 8192 + vid) ++ Wirem.be 2 (data.size : Int)).length = 18 := by simp [Wirem.be_length]
  generalize [] ++ Wirem.be 6 dst ++ Wirem.be 6 src ++ Wirem.be 2 33024 ++ Wirem.be 2 (prio * 8192 + vid) ++ Wirem.be 2 (data.size : Int) = L at *
  have sc := st.sc
  have fz := st.fz
  have o4 := st.o4
  have ss := str_size L data
  have sq := str_cat L data
  rw [hll] at ss
  have sL : (S L).size = 18 := by rw [S_size, hll]
  by_cases lt : 18 + data.size < 60
  · have hc : (60 - (18 + (data.size : Int))) = ((60 - (18 + data.size) : Nat) : Int) := by omega
    have hR : ∀ W : World, Calls Try.prog 13 #[.string ⟨#[0]⟩, .int .i64 (60 - (18 + (data.size : Int)))] W fun e w' => e = .returned (.string (S (List.replicate (60 - (18 + data.size)) 0))) ∧ Below W.heap.size W w' := fun W => by rw [hc]; exact repeat_ok _ (by omega) W
    have hz : (S (List.replicate (60 - (18 + data.size)) (0 : UInt8))).size = 60 - (18 + data.size) := by rw [S_size, List.length_replicate]
    have hx : S (L ++ data.data.toList) ++ S (List.replicate (60 - (18 + data.size)) 0) = S bd := by rw [HBD.out, S_append]
    rw [← sq] at hx
    have hw : IntKind.i64.wrap (60 - (18 + (data.size : Int))) = 60 - (18 + (data.size : Int)) := IntWalk.i64_in _ (by omega)
    have HR := Lib.hid hR; clear hR hc
    clear HBD sq
    have HX := Lib.hid hx; clear hx
    generalize List.replicate (60 - (18 + data.size)) (0 : UInt8) = R at *
    go_wp2_with (fail)
    have su := st.data (t := S L ++ data)
    clear c0 c1 c2 c3 c4 c5 c6 c7 c8 st sc fz o4
    generalize S L ++ data = X at *
    generalize S R = Y at *
    generalize w5.setCell _ (Value.string X) = wr at *
    have tc := su.sc
    have tz := su.fz
    have t4 := su.o4
    have hb := su.bel
    have bz := hb.size
    clear su
    go_region_with (go_at_call 13; ((with_reducible refine (HR.out _).mono ?_); rintro e v ⟨rfl, g⟩; have tc := (g.cell (p := ⟨w.heap.size + 1, 0, none⟩) t4).trans tc; have tz := (g.frozen (p := ⟨w.heap.size + 1, 0, none⟩) t4).trans tz))
    all_goals
      go_wp2_with (fail)
      go_ret
      refine ⟨by rw [← HX.out]; rfl, ?_⟩
      first
      | exact Below.setCell (hb.drew.trans (g.mono bz)) (by simp) _
      | exact (Below.setCell (hb.drew.trans (g.mono bz)) (by simp) _).drew
      | exact (by repeat' (first | exact Below.refl _ _ | assumption | refine below_drewN ?_ _ | refine Below.drew ?_ | refine Below.alloc ?_ (by (first | exact Nat.le_refl _ | assumption | (simp; done) | omega | (simp; omega))) _ | refine Below.setCell ?_ (by (first | exact Nat.le_refl _ | assumption | (simp; done) | omega | (simp; omega))) _ | refine Below.trans ?_ (Below.mono (by assumption) (by (first | exact Nat.le_refl _ | assumption | (simp; done) | omega | (simp; omega))))))
  · have hx : S (L ++ data.data.toList) = S bd := by
      rw [HBD.out, show 60 - (18 + data.size) = 0 by omega, List.replicate_zero, List.append_nil]
    rw [← sq] at hx
    have HX := Lib.hid hx; clear hx
    clear HBD sq
    go_wp2_with (fail)
    go_ret
    exact ⟨by rw [← HX.out]; rfl, st.data.bel⟩
set_option maxHeartbeats 8000000 in
attribute [local go_sem ↓] Go.wp_at_zero Go.wp_at_succ in
theorem body101 (dst src prio vid seq type : Int) (data : ByteArray) (f : Fr) (hf : f = ⟨dst, src, true, prio, vid, false, seq, type, data⟩) (hok : f.ok = true) (ht : type ≠ 0) (w : World) :
    Calls Try.prog 29 #[.agg #[.int .i64 dst, .int .i64 src, .bool true, .int .i64 prio, .int .i64 vid, .bool false, .int .i64 seq, .int .i64 type, .string data]] w fun e w' => e = .returned (.string (S f.body)) ∧ Below w.heap.size w w' := by
  obtain ⟨h1, h2, h3, h4, h5, h6, h7, h8, h9⟩ := f.ok_iff.1 hok
  have hp : f.pre.length = f.head + f.data.size := f.pre_length
  have hbd : f.body = f.pre ++ List.replicate (60 - f.pre.length) 0 := rfl
  have hpre : f.pre = f.hd ++ f.data.data.toList := rfl
  rw [hp] at hbd
  have hhd : f.hd = [] ++ Wirem.be 6 dst ++ Wirem.be 6 src ++ Wirem.be 2 33024 ++ Wirem.be 2 (prio * 8192 + vid) ++ Wirem.be 2 type := by
    subst hf
    unfold Fr.hd Fr.kind
    rw [if_neg ht]
    simp [show Wirem.be 2 33024 = [129, 0] from by decide]
  have hhead : f.head = 18 := by subst hf; rfl
  have hdd : f.data = data := by subst hf; rfl
  rw [hhead, hdd] at hbd
  rw [hhd, hdd] at hpre
  rw [hpre] at hbd
  generalize f.body = bd at *
  clear hp hpre hhd hhead hdd hok
  subst hf
  simp at h1 h2 h3 h4 h5 h6 h7 h8 h9
  obtain ⟨h1, h1'⟩ := h1
  obtain ⟨h2, h2'⟩ := h2
  obtain ⟨h3, h3'⟩ := h3
  obtain ⟨h4, h4'⟩ := h4
  obtain ⟨h5, h5'⟩ := h5
  have l6 := lim6
  have l2 := lim2'
  have HBD := Lib.hid hbd; clear hbd
  go_enter Try.func29, Try.ntmps29
  go_wp2_with (fail)
  have st := st_first w ⟨dst, src, true, prio, vid, false, seq, type, data⟩
  refine (add_st w _ _ _ _ _ st dst 6 6 rfl (by omega) (by omega) h1 (by omega) (by simp)).mono ?_
  clear st
  rintro e w1 ⟨rfl, st⟩
  have c0 := st.fr.c0
  have c1 := st.fr.c1
  have c2 := st.fr.c2
  have c3 := st.fr.c3
  have c4 := st.fr.c4
  have c5 := st.fr.c5
  have c6 := st.fr.c6
  have c7 := st.fr.c7
  have c8 := st.fr.c8
  go_wp2_with (fail)
  clear c0 c1 c2 c3 c4 c5 c6 c7 c8
  refine (add_st w _ _ _ _ _ st src 6 6 rfl (by omega) (by omega) h2 (by omega) (by simp [Wirem.be_length])).mono ?_
  clear st
  rintro e w2 ⟨rfl, st⟩
  have c0 := st.fr.c0
  have c1 := st.fr.c1
  have c2 := st.fr.c2
  have c3 := st.fr.c3
  have c4 := st.fr.c4
  have c5 := st.fr.c5
  have c6 := st.fr.c6
  have c7 := st.fr.c7
  have c8 := st.fr.c8
  go_wp2_with (fail)
  clear c0 c1 c2 c3 c4 c5 c6 c7 c8
  refine (add_st w _ _ _ _ _ st 33024 2 2 rfl (by omega) (by omega) (by omega) (by omega) (by simp [Wirem.be_length])).mono ?_
  clear st
  rintro e w3 ⟨rfl, st⟩
  have c0 := st.fr.c0
  have c1 := st.fr.c1
  have c2 := st.fr.c2
  have c3 := st.fr.c3
  have c4 := st.fr.c4
  have c5 := st.fr.c5
  have c6 := st.fr.c6
  have c7 := st.fr.c7
  have c8 := st.fr.c8
  go_wp2_with (fail)
  clear c0 c1 c2 c3 c4 c5 c6 c7 c8
  refine (add_st w _ _ _ _ _ st (prio * 8192 + vid) 2 2 rfl (by omega) (by omega) (by omega) (by omega) (by simp [Wirem.be_length])).mono ?_
  clear st
  rintro e w4 ⟨rfl, st⟩
  have c0 := st.fr.c0
  have c1 := st.fr.c1
  have c2 := st.fr.c2
  have c3 := st.fr.c3
  have c4 := st.fr.c4
  have c5 := st.fr.c5
  have c6 := st.fr.c6
  have c7 := st.fr.c7
  have c8 := st.fr.c8
  go_wp2_with (fail)
  clear c0 c1 c2 c3 c4 c5 c6 c7 c8
  refine (add_st w _ _ _ _ _ st type 2 2 rfl (by omega) (by omega) (by omega) (by omega) (by simp [Wirem.be_length])).mono ?_
  clear st
  rintro e w5 ⟨rfl, st⟩
  have c0 := st.fr.c0
  have c1 := st.fr.c1
  have c2 := st.fr.c2
  have c3 := st.fr.c3
  have c4 := st.fr.c4
  have c5 := st.fr.c5
  have c6 := st.fr.c6
  have c7 := st.fr.c7
  have c8 := st.fr.c8
  have hll : ([] ++ Wirem.be 6 dst ++ Wirem.be 6 src ++ Wirem.be 2 33024 ++ Wirem.be 2 (prio * 8192 + vid) ++ Wirem.be 2 type).length = 18 := by simp [Wirem.be_length]
  generalize [] ++ Wirem.be 6 dst ++ Wirem.be 6 src ++ Wirem.be 2 33024 ++ Wirem.be 2 (prio * 8192 + vid) ++ Wirem.be 2 type = L at *
  have sc := st.sc
  have fz := st.fz
  have o4 := st.o4
  have ss := str_size L data
  have sq := str_cat L data
  rw [hll] at ss
  have sL : (S L).size = 18 := by rw [S_size, hll]
  by_cases lt : 18 + data.size < 60
  · have hc : (60 - (18 + (data.size : Int))) = ((60 - (18 + data.size) : Nat) : Int) := by omega
    have hR : ∀ W : World, Calls Try.prog 13 #[.string ⟨#[0]⟩, .int .i64 (60 - (18 + (data.size : Int)))] W fun e w' => e = .returned (.string (S (List.replicate (60 - (18 + data.size)) 0))) ∧ Below W.heap.size W w' := fun W => by rw [hc]; exact repeat_ok _ (by omega) W
    have hz : (S (List.replicate (60 - (18 + data.size)) (0 : UInt8))).size = 60 - (18 + data.size) := by rw [S_size, List.length_replicate]
    have hx : S (L ++ data.data.toList) ++ S (List.replicate (60 - (18 + data.size)) 0) = S bd := by rw [HBD.out, S_append]
    rw [← sq] at hx
    have hw : IntKind.i64.wrap (60 - (18 + (data.size : Int))) = 60 - (18 + (data.size : Int)) := IntWalk.i64_in _ (by omega)
    have HR := Lib.hid hR; clear hR hc
    clear HBD sq
    have HX := Lib.hid hx; clear hx
    generalize List.replicate (60 - (18 + data.size)) (0 : UInt8) = R at *
    go_wp2_with (fail)
    have su := st.data (t := S L ++ data)
    clear c0 c1 c2 c3 c4 c5 c6 c7 c8 st sc fz o4
    generalize S L ++ data = X at *
    generalize S R = Y at *
    generalize w5.setCell _ (Value.string X) = wr at *
    have tc := su.sc
    have tz := su.fz
    have t4 := su.o4
    have hb := su.bel
    have bz := hb.size
    clear su
    go_region_with (go_at_call 13; ((with_reducible refine (HR.out _).mono ?_); rintro e v ⟨rfl, g⟩; have tc := (g.cell (p := ⟨w.heap.size + 1, 0, none⟩) t4).trans tc; have tz := (g.frozen (p := ⟨w.heap.size + 1, 0, none⟩) t4).trans tz))
    all_goals
      go_wp2_with (fail)
      go_ret
      refine ⟨by rw [← HX.out]; rfl, ?_⟩
      first
      | exact Below.setCell (hb.drew.trans (g.mono bz)) (by simp) _
      | exact (Below.setCell (hb.drew.trans (g.mono bz)) (by simp) _).drew
      | exact (by repeat' (first | exact Below.refl _ _ | assumption | refine below_drewN ?_ _ | refine Below.drew ?_ | refine Below.alloc ?_ (by (first | exact Nat.le_refl _ | assumption | (simp; done) | omega | (simp; omega))) _ | refine Below.setCell ?_ (by (first | exact Nat.le_refl _ | assumption | (simp; done) | omega | (simp; omega))) _ | refine Below.trans ?_ (Below.mono (by assumption) (by (first | exact Nat.le_refl _ | assumption | (simp; done) | omega | (simp; omega))))))
  · have hx : S (L ++ data.data.toList) = S bd := by
      rw [HBD.out, show 60 - (18 + data.size) = 0 by omega, List.replicate_zero, List.append_nil]
    rw [← sq] at hx
    have HX := Lib.hid hx; clear hx
    clear HBD sq
    go_wp2_with (fail)
    go_ret
    exact ⟨by rw [← HX.out]; rfl, st.data.bel⟩
set_option maxHeartbeats 8000000 in
attribute [local go_sem ↓] Go.wp_at_zero Go.wp_at_succ in
theorem body110 (dst src prio vid seq : Int) (data : ByteArray) (f : Fr) (hf : f = ⟨dst, src, true, prio, vid, true, seq, 0, data⟩) (hok : f.ok = true) (w : World) :
    Calls Try.prog 29 #[.agg #[.int .i64 dst, .int .i64 src, .bool true, .int .i64 prio, .int .i64 vid, .bool true, .int .i64 seq, .int .i64 0, .string data]] w fun e w' => e = .returned (.string (S f.body)) ∧ Below w.heap.size w w' := by
  obtain ⟨h1, h2, h3, h4, h5, h6, h7, h8, h9⟩ := f.ok_iff.1 hok
  have hp : f.pre.length = f.head + f.data.size := f.pre_length
  have hbd : f.body = f.pre ++ List.replicate (60 - f.pre.length) 0 := rfl
  have hpre : f.pre = f.hd ++ f.data.data.toList := rfl
  rw [hp] at hbd
  have hhd : f.hd = [] ++ Wirem.be 6 dst ++ Wirem.be 6 src ++ Wirem.be 2 33024 ++ Wirem.be 2 (prio * 8192 + vid) ++ Wirem.be 2 61889 ++ Wirem.be 2 0 ++ Wirem.be 2 seq ++ Wirem.be 2 (data.size : Int) := by
    subst hf
    unfold Fr.hd Fr.kind
    rw [if_pos rfl]
    simp [show Wirem.be 2 33024 = [129, 0] from by decide, show Wirem.be 2 61889 = [241, 193] from by decide, show Wirem.be 2 0 = [0, 0] from by decide]
  have hhead : f.head = 24 := by subst hf; rfl
  have hdd : f.data = data := by subst hf; rfl
  rw [hhead, hdd] at hbd
  rw [hhd, hdd] at hpre
  rw [hpre] at hbd
  generalize f.body = bd at *
  clear hp hpre hhd hhead hdd hok
  subst hf
  simp at h1 h2 h3 h4 h5 h6 h7 h8 h9
  obtain ⟨h1, h1'⟩ := h1
  obtain ⟨h2, h2'⟩ := h2
  obtain ⟨h3, h3'⟩ := h3
  obtain ⟨h4, h4'⟩ := h4
  obtain ⟨h5, h5'⟩ := h5
  have l6 := lim6
  have l2 := lim2'
  have HBD := Lib.hid hbd; clear hbd
  go_enter Try.func29, Try.ntmps29
  go_wp2_with (fail)
  have st := st_first w ⟨dst, src, true, prio, vid, true, seq, 0, data⟩
  refine (add_st w _ _ _ _ _ st dst 6 6 rfl (by omega) (by omega) h1 (by omega) (by simp)).mono ?_
  clear st
  rintro e w1 ⟨rfl, st⟩
  have c0 := st.fr.c0
  have c1 := st.fr.c1
  have c2 := st.fr.c2
  have c3 := st.fr.c3
  have c4 := st.fr.c4
  have c5 := st.fr.c5
  have c6 := st.fr.c6
  have c7 := st.fr.c7
  have c8 := st.fr.c8
  go_wp2_with (fail)
  clear c0 c1 c2 c3 c4 c5 c6 c7 c8
  refine (add_st w _ _ _ _ _ st src 6 6 rfl (by omega) (by omega) h2 (by omega) (by simp [Wirem.be_length])).mono ?_
  clear st
  rintro e w2 ⟨rfl, st⟩
  have c0 := st.fr.c0
  have c1 := st.fr.c1
  have c2 := st.fr.c2
  have c3 := st.fr.c3
  have c4 := st.fr.c4
  have c5 := st.fr.c5
  have c6 := st.fr.c6
  have c7 := st.fr.c7
  have c8 := st.fr.c8
  go_wp2_with (fail)
  clear c0 c1 c2 c3 c4 c5 c6 c7 c8
  refine (add_st w _ _ _ _ _ st 33024 2 2 rfl (by omega) (by omega) (by omega) (by omega) (by simp [Wirem.be_length])).mono ?_
  clear st
  rintro e w3 ⟨rfl, st⟩
  have c0 := st.fr.c0
  have c1 := st.fr.c1
  have c2 := st.fr.c2
  have c3 := st.fr.c3
  have c4 := st.fr.c4
  have c5 := st.fr.c5
  have c6 := st.fr.c6
  have c7 := st.fr.c7
  have c8 := st.fr.c8
  go_wp2_with (fail)
  clear c0 c1 c2 c3 c4 c5 c6 c7 c8
  refine (add_st w _ _ _ _ _ st (prio * 8192 + vid) 2 2 rfl (by omega) (by omega) (by omega) (by omega) (by simp [Wirem.be_length])).mono ?_
  clear st
  rintro e w4 ⟨rfl, st⟩
  have c0 := st.fr.c0
  have c1 := st.fr.c1
  have c2 := st.fr.c2
  have c3 := st.fr.c3
  have c4 := st.fr.c4
  have c5 := st.fr.c5
  have c6 := st.fr.c6
  have c7 := st.fr.c7
  have c8 := st.fr.c8
  go_wp2_with (fail)
  clear c0 c1 c2 c3 c4 c5 c6 c7 c8
  refine (add_st w _ _ _ _ _ st 61889 2 2 rfl (by omega) (by omega) (by omega) (by omega) (by simp [Wirem.be_length])).mono ?_
  clear st
  rintro e w5 ⟨rfl, st⟩
  have c0 := st.fr.c0
  have c1 := st.fr.c1
  have c2 := st.fr.c2
  have c3 := st.fr.c3
  have c4 := st.fr.c4
  have c5 := st.fr.c5
  have c6 := st.fr.c6
  have c7 := st.fr.c7
  have c8 := st.fr.c8
  go_wp2_with (fail)
  clear c0 c1 c2 c3 c4 c5 c6 c7 c8
  refine (add_st w _ _ _ _ _ st 0 2 2 rfl (by omega) (by omega) (by omega) (by omega) (by simp [Wirem.be_length])).mono ?_
  clear st
  rintro e w6 ⟨rfl, st⟩
  have c0 := st.fr.c0
  have c1 := st.fr.c1
  have c2 := st.fr.c2
  have c3 := st.fr.c3
  have c4 := st.fr.c4
  have c5 := st.fr.c5
  have c6 := st.fr.c6
  have c7 := st.fr.c7
  have c8 := st.fr.c8
  go_wp2_with (fail)
  clear c0 c1 c2 c3 c4 c5 c6 c7 c8
  refine (add_st w _ _ _ _ _ st seq 2 2 rfl (by omega) (by omega) h5 (by omega) (by simp [Wirem.be_length])).mono ?_
  clear st
  rintro e w7 ⟨rfl, st⟩
  have c0 := st.fr.c0
  have c1 := st.fr.c1
  have c2 := st.fr.c2
  have c3 := st.fr.c3
  have c4 := st.fr.c4
  have c5 := st.fr.c5
  have c6 := st.fr.c6
  have c7 := st.fr.c7
  have c8 := st.fr.c8
  go_wp2_with (fail)
  clear c0 c1 c2 c3 c4 c5 c6 c7 c8
  refine (add_st w _ _ _ _ _ st (data.size : Int) 2 2 rfl (by omega) (by omega) (by omega) (by omega) (by simp [Wirem.be_length])).mono ?_
  clear st
  rintro e w8 ⟨rfl, st⟩
  have c0 := st.fr.c0
  have c1 := st.fr.c1
  have c2 := st.fr.c2
  have c3 := st.fr.c3
  have c4 := st.fr.c4
  have c5 := st.fr.c5
  have c6 := st.fr.c6
  have c7 := st.fr.c7
  have c8 := st.fr.c8
  have hll : ([] ++ Wirem.be 6 dst ++ Wirem.be 6 src ++ Wirem.be 2 33024 ++ Wirem.be 2 (prio * 8192 + vid) ++ Wirem.be 2 61889 ++ Wirem.be 2 0 ++ Wirem.be 2 seq ++ Wirem.be 2 (data.size : Int)).length = 24 := by simp [Wirem.be_length]
  generalize [] ++ Wirem.be 6 dst ++ Wirem.be 6 src ++ Wirem.be 2 33024 ++ Wirem.be 2 (prio * 8192 + vid) ++ Wirem.be 2 61889 ++ Wirem.be 2 0 ++ Wirem.be 2 seq ++ Wirem.be 2 (data.size : Int) = L at *
  have sc := st.sc
  have fz := st.fz
  have o4 := st.o4
  have ss := str_size L data
  have sq := str_cat L data
  rw [hll] at ss
  have sL : (S L).size = 24 := by rw [S_size, hll]
  by_cases lt : 24 + data.size < 60
  · have hc : (60 - (24 + (data.size : Int))) = ((60 - (24 + data.size) : Nat) : Int) := by omega
    have hR : ∀ W : World, Calls Try.prog 13 #[.string ⟨#[0]⟩, .int .i64 (60 - (24 + (data.size : Int)))] W fun e w' => e = .returned (.string (S (List.replicate (60 - (24 + data.size)) 0))) ∧ Below W.heap.size W w' := fun W => by rw [hc]; exact repeat_ok _ (by omega) W
    have hz : (S (List.replicate (60 - (24 + data.size)) (0 : UInt8))).size = 60 - (24 + data.size) := by rw [S_size, List.length_replicate]
    have hx : S (L ++ data.data.toList) ++ S (List.replicate (60 - (24 + data.size)) 0) = S bd := by rw [HBD.out, S_append]
    rw [← sq] at hx
    have hw : IntKind.i64.wrap (60 - (24 + (data.size : Int))) = 60 - (24 + (data.size : Int)) := IntWalk.i64_in _ (by omega)
    have HR := Lib.hid hR; clear hR hc
    clear HBD sq
    have HX := Lib.hid hx; clear hx
    generalize List.replicate (60 - (24 + data.size)) (0 : UInt8) = R at *
    go_wp2_with (fail)
    have su := st.data (t := S L ++ data)
    clear c0 c1 c2 c3 c4 c5 c6 c7 c8 st sc fz o4
    generalize S L ++ data = X at *
    generalize S R = Y at *
    generalize w8.setCell _ (Value.string X) = wr at *
    have tc := su.sc
    have tz := su.fz
    have t4 := su.o4
    have hb := su.bel
    have bz := hb.size
    clear su
    go_region_with (go_at_call 13; ((with_reducible refine (HR.out _).mono ?_); rintro e v ⟨rfl, g⟩; have tc := (g.cell (p := ⟨w.heap.size + 1, 0, none⟩) t4).trans tc; have tz := (g.frozen (p := ⟨w.heap.size + 1, 0, none⟩) t4).trans tz))
    all_goals
      go_wp2_with (fail)
      go_ret
      refine ⟨by rw [← HX.out]; rfl, ?_⟩
      first
      | exact Below.setCell (hb.drew.trans (g.mono bz)) (by simp) _
      | exact (Below.setCell (hb.drew.trans (g.mono bz)) (by simp) _).drew
      | exact (by repeat' (first | exact Below.refl _ _ | assumption | refine below_drewN ?_ _ | refine Below.drew ?_ | refine Below.alloc ?_ (by (first | exact Nat.le_refl _ | assumption | (simp; done) | omega | (simp; omega))) _ | refine Below.setCell ?_ (by (first | exact Nat.le_refl _ | assumption | (simp; done) | omega | (simp; omega))) _ | refine Below.trans ?_ (Below.mono (by assumption) (by (first | exact Nat.le_refl _ | assumption | (simp; done) | omega | (simp; omega))))))
  · have hx : S (L ++ data.data.toList) = S bd := by
      rw [HBD.out, show 60 - (24 + data.size) = 0 by omega, List.replicate_zero, List.append_nil]
    rw [← sq] at hx
    have HX := Lib.hid hx; clear hx
    clear HBD sq
    go_wp2_with (fail)
    go_ret
    exact ⟨by rw [← HX.out]; rfl, st.data.bel⟩
set_option maxHeartbeats 8000000 in
attribute [local go_sem ↓] Go.wp_at_zero Go.wp_at_succ in
theorem body111 (dst src prio vid seq type : Int) (data : ByteArray) (f : Fr) (hf : f = ⟨dst, src, true, prio, vid, true, seq, type, data⟩) (hok : f.ok = true) (ht : type ≠ 0) (w : World) :
    Calls Try.prog 29 #[.agg #[.int .i64 dst, .int .i64 src, .bool true, .int .i64 prio, .int .i64 vid, .bool true, .int .i64 seq, .int .i64 type, .string data]] w fun e w' => e = .returned (.string (S f.body)) ∧ Below w.heap.size w w' := by
  obtain ⟨h1, h2, h3, h4, h5, h6, h7, h8, h9⟩ := f.ok_iff.1 hok
  have hp : f.pre.length = f.head + f.data.size := f.pre_length
  have hbd : f.body = f.pre ++ List.replicate (60 - f.pre.length) 0 := rfl
  have hpre : f.pre = f.hd ++ f.data.data.toList := rfl
  rw [hp] at hbd
  have hhd : f.hd = [] ++ Wirem.be 6 dst ++ Wirem.be 6 src ++ Wirem.be 2 33024 ++ Wirem.be 2 (prio * 8192 + vid) ++ Wirem.be 2 61889 ++ Wirem.be 2 0 ++ Wirem.be 2 seq ++ Wirem.be 2 type := by
    subst hf
    unfold Fr.hd Fr.kind
    rw [if_neg ht]
    simp [show Wirem.be 2 33024 = [129, 0] from by decide, show Wirem.be 2 61889 = [241, 193] from by decide, show Wirem.be 2 0 = [0, 0] from by decide]
  have hhead : f.head = 24 := by subst hf; rfl
  have hdd : f.data = data := by subst hf; rfl
  rw [hhead, hdd] at hbd
  rw [hhd, hdd] at hpre
  rw [hpre] at hbd
  generalize f.body = bd at *
  clear hp hpre hhd hhead hdd hok
  subst hf
  simp at h1 h2 h3 h4 h5 h6 h7 h8 h9
  obtain ⟨h1, h1'⟩ := h1
  obtain ⟨h2, h2'⟩ := h2
  obtain ⟨h3, h3'⟩ := h3
  obtain ⟨h4, h4'⟩ := h4
  obtain ⟨h5, h5'⟩ := h5
  have l6 := lim6
  have l2 := lim2'
  have HBD := Lib.hid hbd; clear hbd
  go_enter Try.func29, Try.ntmps29
  go_wp2_with (fail)
  have st := st_first w ⟨dst, src, true, prio, vid, true, seq, type, data⟩
  refine (add_st w _ _ _ _ _ st dst 6 6 rfl (by omega) (by omega) h1 (by omega) (by simp)).mono ?_
  clear st
  rintro e w1 ⟨rfl, st⟩
  have c0 := st.fr.c0
  have c1 := st.fr.c1
  have c2 := st.fr.c2
  have c3 := st.fr.c3
  have c4 := st.fr.c4
  have c5 := st.fr.c5
  have c6 := st.fr.c6
  have c7 := st.fr.c7
  have c8 := st.fr.c8
  go_wp2_with (fail)
  clear c0 c1 c2 c3 c4 c5 c6 c7 c8
  refine (add_st w _ _ _ _ _ st src 6 6 rfl (by omega) (by omega) h2 (by omega) (by simp [Wirem.be_length])).mono ?_
  clear st
  rintro e w2 ⟨rfl, st⟩
  have c0 := st.fr.c0
  have c1 := st.fr.c1
  have c2 := st.fr.c2
  have c3 := st.fr.c3
  have c4 := st.fr.c4
  have c5 := st.fr.c5
  have c6 := st.fr.c6
  have c7 := st.fr.c7
  have c8 := st.fr.c8
  go_wp2_with (fail)
  clear c0 c1 c2 c3 c4 c5 c6 c7 c8
  refine (add_st w _ _ _ _ _ st 33024 2 2 rfl (by omega) (by omega) (by omega) (by omega) (by simp [Wirem.be_length])).mono ?_
  clear st
  rintro e w3 ⟨rfl, st⟩
  have c0 := st.fr.c0
  have c1 := st.fr.c1
  have c2 := st.fr.c2
  have c3 := st.fr.c3
  have c4 := st.fr.c4
  have c5 := st.fr.c5
  have c6 := st.fr.c6
  have c7 := st.fr.c7
  have c8 := st.fr.c8
  go_wp2_with (fail)
  clear c0 c1 c2 c3 c4 c5 c6 c7 c8
  refine (add_st w _ _ _ _ _ st (prio * 8192 + vid) 2 2 rfl (by omega) (by omega) (by omega) (by omega) (by simp [Wirem.be_length])).mono ?_
  clear st
  rintro e w4 ⟨rfl, st⟩
  have c0 := st.fr.c0
  have c1 := st.fr.c1
  have c2 := st.fr.c2
  have c3 := st.fr.c3
  have c4 := st.fr.c4
  have c5 := st.fr.c5
  have c6 := st.fr.c6
  have c7 := st.fr.c7
  have c8 := st.fr.c8
  go_wp2_with (fail)
  clear c0 c1 c2 c3 c4 c5 c6 c7 c8
  refine (add_st w _ _ _ _ _ st 61889 2 2 rfl (by omega) (by omega) (by omega) (by omega) (by simp [Wirem.be_length])).mono ?_
  clear st
  rintro e w5 ⟨rfl, st⟩
  have c0 := st.fr.c0
  have c1 := st.fr.c1
  have c2 := st.fr.c2
  have c3 := st.fr.c3
  have c4 := st.fr.c4
  have c5 := st.fr.c5
  have c6 := st.fr.c6
  have c7 := st.fr.c7
  have c8 := st.fr.c8
  go_wp2_with (fail)
  clear c0 c1 c2 c3 c4 c5 c6 c7 c8
  refine (add_st w _ _ _ _ _ st 0 2 2 rfl (by omega) (by omega) (by omega) (by omega) (by simp [Wirem.be_length])).mono ?_
  clear st
  rintro e w6 ⟨rfl, st⟩
  have c0 := st.fr.c0
  have c1 := st.fr.c1
  have c2 := st.fr.c2
  have c3 := st.fr.c3
  have c4 := st.fr.c4
  have c5 := st.fr.c5
  have c6 := st.fr.c6
  have c7 := st.fr.c7
  have c8 := st.fr.c8
  go_wp2_with (fail)
  clear c0 c1 c2 c3 c4 c5 c6 c7 c8
  refine (add_st w _ _ _ _ _ st seq 2 2 rfl (by omega) (by omega) h5 (by omega) (by simp [Wirem.be_length])).mono ?_
  clear st
  rintro e w7 ⟨rfl, st⟩
  have c0 := st.fr.c0
  have c1 := st.fr.c1
  have c2 := st.fr.c2
  have c3 := st.fr.c3
  have c4 := st.fr.c4
  have c5 := st.fr.c5
  have c6 := st.fr.c6
  have c7 := st.fr.c7
  have c8 := st.fr.c8
  go_wp2_with (fail)
  clear c0 c1 c2 c3 c4 c5 c6 c7 c8
  refine (add_st w _ _ _ _ _ st type 2 2 rfl (by omega) (by omega) (by omega) (by omega) (by simp [Wirem.be_length])).mono ?_
  clear st
  rintro e w8 ⟨rfl, st⟩
  have c0 := st.fr.c0
  have c1 := st.fr.c1
  have c2 := st.fr.c2
  have c3 := st.fr.c3
  have c4 := st.fr.c4
  have c5 := st.fr.c5
  have c6 := st.fr.c6
  have c7 := st.fr.c7
  have c8 := st.fr.c8
  have hll : ([] ++ Wirem.be 6 dst ++ Wirem.be 6 src ++ Wirem.be 2 33024 ++ Wirem.be 2 (prio * 8192 + vid) ++ Wirem.be 2 61889 ++ Wirem.be 2 0 ++ Wirem.be 2 seq ++ Wirem.be 2 type).length = 24 := by simp [Wirem.be_length]
  generalize [] ++ Wirem.be 6 dst ++ Wirem.be 6 src ++ Wirem.be 2 33024 ++ Wirem.be 2 (prio * 8192 + vid) ++ Wirem.be 2 61889 ++ Wirem.be 2 0 ++ Wirem.be 2 seq ++ Wirem.be 2 type = L at *
  have sc := st.sc
  have fz := st.fz
  have o4 := st.o4
  have ss := str_size L data
  have sq := str_cat L data
  rw [hll] at ss
  have sL : (S L).size = 24 := by rw [S_size, hll]
  by_cases lt : 24 + data.size < 60
  · have hc : (60 - (24 + (data.size : Int))) = ((60 - (24 + data.size) : Nat) : Int) := by omega
    have hR : ∀ W : World, Calls Try.prog 13 #[.string ⟨#[0]⟩, .int .i64 (60 - (24 + (data.size : Int)))] W fun e w' => e = .returned (.string (S (List.replicate (60 - (24 + data.size)) 0))) ∧ Below W.heap.size W w' := fun W => by rw [hc]; exact repeat_ok _ (by omega) W
    have hz : (S (List.replicate (60 - (24 + data.size)) (0 : UInt8))).size = 60 - (24 + data.size) := by rw [S_size, List.length_replicate]
    have hx : S (L ++ data.data.toList) ++ S (List.replicate (60 - (24 + data.size)) 0) = S bd := by rw [HBD.out, S_append]
    rw [← sq] at hx
    have hw : IntKind.i64.wrap (60 - (24 + (data.size : Int))) = 60 - (24 + (data.size : Int)) := IntWalk.i64_in _ (by omega)
    have HR := Lib.hid hR; clear hR hc
    clear HBD sq
    have HX := Lib.hid hx; clear hx
    generalize List.replicate (60 - (24 + data.size)) (0 : UInt8) = R at *
    go_wp2_with (fail)
    have su := st.data (t := S L ++ data)
    clear c0 c1 c2 c3 c4 c5 c6 c7 c8 st sc fz o4
    generalize S L ++ data = X at *
    generalize S R = Y at *
    generalize w8.setCell _ (Value.string X) = wr at *
    have tc := su.sc
    have tz := su.fz
    have t4 := su.o4
    have hb := su.bel
    have bz := hb.size
    clear su
    go_region_with (go_at_call 13; ((with_reducible refine (HR.out _).mono ?_); rintro e v ⟨rfl, g⟩; have tc := (g.cell (p := ⟨w.heap.size + 1, 0, none⟩) t4).trans tc; have tz := (g.frozen (p := ⟨w.heap.size + 1, 0, none⟩) t4).trans tz))
    all_goals
      go_wp2_with (fail)
      go_ret
      refine ⟨by rw [← HX.out]; rfl, ?_⟩
      first
      | exact Below.setCell (hb.drew.trans (g.mono bz)) (by simp) _
      | exact (Below.setCell (hb.drew.trans (g.mono bz)) (by simp) _).drew
      | exact (by repeat' (first | exact Below.refl _ _ | assumption | refine below_drewN ?_ _ | refine Below.drew ?_ | refine Below.alloc ?_ (by (first | exact Nat.le_refl _ | assumption | (simp; done) | omega | (simp; omega))) _ | refine Below.setCell ?_ (by (first | exact Nat.le_refl _ | assumption | (simp; done) | omega | (simp; omega))) _ | refine Below.trans ?_ (Below.mono (by assumption) (by (first | exact Nat.le_refl _ | assumption | (simp; done) | omega | (simp; omega))))))
  · have hx : S (L ++ data.data.toList) = S bd := by
      rw [HBD.out, show 60 - (24 + data.size) = 0 by omega, List.replicate_zero, List.append_nil]
    rw [← sq] at hx
    have HX := Lib.hid hx; clear hx
    clear HBD sq
    go_wp2_with (fail)
    go_ret
    exact ⟨by rw [← HX.out]; rfl, st.data.bel⟩
end Go.Proofs.Ytccdhoboidneeaa
