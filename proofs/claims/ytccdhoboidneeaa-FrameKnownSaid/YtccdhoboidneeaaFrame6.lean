/-
  Contracts of frame.body, Encode and Wire at every frame; how the reader reads.
-/
import Derived.Test.YtccdhoboidneeaaFrame4
import Derived.Test.YtccdhoboidneeaaFrame5
namespace Go.Proofs.Ytccdhoboidneeaa
open Go.RowKit
set_option linter.unusedVariables false

theorem body_any (f : Fr) (hok : f.ok = true) (w : World) :
    Calls Try.prog 29 #[.agg #[.int .i64 f.dst, .int .i64 f.src, .bool f.tag, .int .i64 f.prio, .int .i64 f.vid, .bool f.hseq, .int .i64 f.seq, .int .i64 f.type, .string f.data]] w fun e w' => e = .returned (.string (S f.body)) ∧ Below w.heap.size w w' := by
  obtain ⟨dst, src, tag, prio, vid, hseq, seq, type, data⟩ := f
  by_cases ht : type = 0
  · subst ht
    cases tag <;> cases hseq
    · exact body000 dst src prio vid seq data _ rfl hok w
    · exact body010 dst src prio vid seq data _ rfl hok w
    · exact body100 dst src prio vid seq data _ rfl hok w
    · exact body110 dst src prio vid seq data _ rfl hok w
  · cases tag <;> cases hseq
    · exact body001 dst src prio vid seq type data _ rfl hok ht w
    · exact body011 dst src prio vid seq type data _ rfl hok ht w
    · exact body101 dst src prio vid seq type data _ rfl hok ht w
    · exact body111 dst src prio vid seq type data _ rfl hok ht w

theorem fr_box (w : World) (f : Fr) : FrAt (w.alloc (.cells #[.int .i64 f.dst, .int .i64 f.src, .bool f.tag, .int .i64 f.prio, .int .i64 f.vid, .bool f.hseq, .int .i64 f.seq, .int .i64 f.type, .string f.data] 27)) w.heap.size f :=
  ⟨by simp, by simp, by simp, by simp, by simp, by simp, by simp, by simp, by simp⟩
theorem fr_keep {w w1 : World} {B n : Nat} {f : Fr} (h : FrAt w B f) (hb : Below n w w1) (hB : B < n) : FrAt w1 B f := h.turn fun _ => hb.cell hB

theorem Encode_no (f : Fr) (h : f.ok = false) : f.enc = S [] := by unfold Fr.enc; rw [h]; rfl
theorem Encode_yes (f : Fr) (h : f.ok = true) : f.enc = sealB 0 (S f.body) := f.enc_ok h
theorem Wire_no (f : Fr) (h : f.ok = false) : f.wire = 0 := by unfold Fr.wire; rw [h]; rfl
theorem Wire_yes (f : Fr) (h : f.ok = true) : f.wire = ((S f.body).size : Int) + 24 := by unfold Fr.wire; rw [h, S_size]; rfl
theorem Encode_any (f : Fr) (hs : f.data.size ≤ 9000000000000000000) (w : World) :
    Calls Try.prog 11 #[.agg #[.int .i64 f.dst, .int .i64 f.src, .bool f.tag, .int .i64 f.prio, .int .i64 f.vid, .bool f.hseq, .int .i64 f.seq, .int .i64 f.type, .string f.data]] w (Ret2 (.string f.enc) (.int .i64 f.code) w) := by
  have hC := fun W => Check_any f hs W
  have fb := fr_box w f
  rcases h : f.ok with _ | _
  · have e1 := Encode_no f h
    have e2 : f.code = 170 := by unfold Fr.code; rw [h]; rfl
    rw [e2] at hC
    rw [e1, e2]
    have HC := Lib.hid hC; clear hC e1 e2
    go_enter Try.func11, Try.ntmps11
    go_wp2_with (fail)
    refine (HC.out _).mono ?_
    rintro e w1 ⟨rfl, hb1⟩
    have z1 := hb1.size
    simp at z1
    go_wp2_with (fail)
    go_ret2
    exact ⟨rfl, (by repeat' (first | exact Below.refl _ _ | assumption | refine below_drewN ?_ _ | refine Below.drew ?_ | refine Below.alloc ?_ (by (first | exact Nat.le_refl _ | assumption | (simp; done) | omega | (simp; omega))) _ | refine Below.setCell ?_ (by (first | exact Nat.le_refl _ | assumption | (simp; done) | omega | (simp; omega))) _ | refine Below.trans ?_ (Below.mono (by assumption) (by (first | exact Nat.le_refl _ | assumption | (simp; done) | omega | (simp; omega))))))⟩
  · have e1 := Encode_yes f h
    have e2 : f.code = 0 := by unfold Fr.code; rw [h]; rfl
    rw [e2] at hC
    rw [e1, e2]
    have hB := fun W => body_any f h W
    have hl := f.body_le h
    have hS := fun W => Seal_any (S f.body) (by rw [S_size]; omega) W
    have HC := Lib.hid hC; clear hC e1 e2
    have HB := Lib.hid hB; clear hB
    have HS := Lib.hid hS; clear hS
    have hz : (S f.body).size ≤ 1518 := by rw [S_size]; omega
    generalize S f.body = b at *
    generalize sealB 0 b = s at *
    go_enter Try.func11, Try.ntmps11
    go_wp2_with (fail)
    refine (HC.out _).mono ?_
    rintro e w1 ⟨rfl, hb1⟩
    have z1 := hb1.size
    simp at z1
    obtain ⟨c0, c1, c2, c3, c4, c5, c6, c7, c8⟩ := fr_keep fb hb1 (by simp)
    go_wp2_with (fail)
    refine (HB.out _).mono ?_
    rintro e w2 ⟨rfl, hb2⟩
    have z2 := hb2.size
    go_wp2_with (fail)
    first
    | (refine (HS.out _).mono ?_; rintro e w3 ⟨rfl, hb3⟩; have z3 := hb3.size; go_wp2_with (fail))
    | skip
    go_ret2
    exact ⟨rfl, (by repeat' (first | exact Below.refl _ _ | assumption | refine below_drewN ?_ _ | refine Below.drew ?_ | refine Below.alloc ?_ (by (first | exact Nat.le_refl _ | assumption | (simp; done) | omega | (simp; omega))) _ | refine Below.setCell ?_ (by (first | exact Nat.le_refl _ | assumption | (simp; done) | omega | (simp; omega))) _ | refine Below.trans ?_ (Below.mono (by assumption) (by (first | exact Nat.le_refl _ | assumption | (simp; done) | omega | (simp; omega))))))⟩
theorem Wire_any (f : Fr) (hs : f.data.size ≤ 9000000000000000000) (w : World) :
    Calls Try.prog 12 #[.agg #[.int .i64 f.dst, .int .i64 f.src, .bool f.tag, .int .i64 f.prio, .int .i64 f.vid, .bool f.hseq, .int .i64 f.seq, .int .i64 f.type, .string f.data]] w (Ret2 (.int .i64 f.wire) (.int .i64 f.code) w) := by
  have hC := fun W => Check_any f hs W
  have fb := fr_box w f
  rcases h : f.ok with _ | _
  · have e1 := Wire_no f h
    have e2 : f.code = 170 := by unfold Fr.code; rw [h]; rfl
    rw [e2] at hC
    rw [e1, e2]
    have HC := Lib.hid hC; clear hC e1 e2
    go_enter Try.func12, Try.ntmps12
    go_wp2_with (fail)
    refine (HC.out _).mono ?_
    rintro e w1 ⟨rfl, hb1⟩
    have z1 := hb1.size
    simp at z1
    go_wp2_with (fail)
    go_ret2
    exact ⟨rfl, (by repeat' (first | exact Below.refl _ _ | assumption | refine below_drewN ?_ _ | refine Below.drew ?_ | refine Below.alloc ?_ (by (first | exact Nat.le_refl _ | assumption | (simp; done) | omega | (simp; omega))) _ | refine Below.setCell ?_ (by (first | exact Nat.le_refl _ | assumption | (simp; done) | omega | (simp; omega))) _ | refine Below.trans ?_ (Below.mono (by assumption) (by (first | exact Nat.le_refl _ | assumption | (simp; done) | omega | (simp; omega))))))⟩
  · have e1 := Wire_yes f h
    have e2 : f.code = 0 := by unfold Fr.code; rw [h]; rfl
    rw [e2] at hC
    rw [e1, e2]
    have hB := fun W => body_any f h W
    have hl := f.body_le h
    have hS := fun W => Seal_any (S f.body) (by rw [S_size]; omega) W
    have HC := Lib.hid hC; clear hC e1 e2
    have HB := Lib.hid hB; clear hB
    have HS := Lib.hid hS; clear hS
    have hz : (S f.body).size ≤ 1518 := by rw [S_size]; omega
    generalize S f.body = b at *
    generalize sealB 0 b = s at *
    go_enter Try.func12, Try.ntmps12
    go_wp2_with (fail)
    refine (HC.out _).mono ?_
    rintro e w1 ⟨rfl, hb1⟩
    have z1 := hb1.size
    simp at z1
    obtain ⟨c0, c1, c2, c3, c4, c5, c6, c7, c8⟩ := fr_keep fb hb1 (by simp)
    go_wp2_with (fail)
    refine (HB.out _).mono ?_
    rintro e w2 ⟨rfl, hb2⟩
    have z2 := hb2.size
    go_wp2_with (fail)
    first
    | (refine (HS.out _).mono ?_; rintro e w3 ⟨rfl, hb3⟩; have z3 := hb3.size; go_wp2_with (fail))
    | skip
    go_ret2
    exact ⟨rfl, (by repeat' (first | exact Below.refl _ _ | assumption | refine below_drewN ?_ _ | refine Below.drew ?_ | refine Below.alloc ?_ (by (first | exact Nat.le_refl _ | assumption | (simp; done) | omega | (simp; omega))) _ | refine Below.setCell ?_ (by (first | exact Nat.le_refl _ | assumption | (simp; done) | omega | (simp; omega))) _ | refine Below.trans ?_ (Below.mono (by assumption) (by (first | exact Nat.le_refl _ | assumption | (simp; done) | omega | (simp; omega))))))⟩
end Go.Proofs.Ytccdhoboidneeaa
