/-
  The statements' own small functions: hello, size, back, malformed.
-/
import Derived.Test.YtccdhoboidneeaaFrame12
namespace Go.Proofs.Ytccdhoboidneeaa
open Go.RowKit
set_option linter.unusedVariables false

theorem hello_any (w : World) : Calls Try.prog 27 #[] w fun e w' => e = .returned (.agg #[.int .i64 1, .int .i64 2, .bool false, .int .i64 0, .int .i64 0, .bool false, .int .i64 0, .int .i64 2048, .string ⟨#[104, 101, 108, 108, 111]⟩]) ∧ Below w.heap.size w w' := by
  go_enter Try.func27, Try.ntmps27
  go_wp2_with (fail)
  refine bodyPost_ret (v := .agg #[.int .i64 1, .int .i64 2, .bool false, .int .i64 0, .int .i64 0, .bool false, .int .i64 0, .int .i64 2048, .string ⟨#[104, 101, 108, 108, 111]⟩]) (by simp [results, Try.results27, go_sem]) rfl ⟨rfl, (by repeat' (first | exact Below.refl _ _ | assumption | refine below_drewN ?_ _ | refine Below.drew ?_ | refine Below.alloc ?_ (by (first | exact Nat.le_refl _ | assumption | (simp; done) | omega | (simp; omega))) _ | refine Below.setCell ?_ (by (first | exact Nat.le_refl _ | assumption | (simp; done) | omega | (simp; omega))) _ | refine Below.trans ?_ (Below.mono (by assumption) (by (first | exact Nat.le_refl _ | assumption | (simp; done) | omega | (simp; omega))))))⟩

theorem size_true (f : Fr) (n : Int) (h : f.ok = true) (hn : f.wire = n) (w : World) :
    Calls Try.prog 28 #[.agg #[.int .i64 f.dst, .int .i64 f.src, .bool f.tag, .int .i64 f.prio, .int .i64 f.vid, .bool f.hseq, .int .i64 f.seq, .int .i64 f.type, .string f.data], .int .i64 n] w fun e w' => e = .returned (.bool true) ∧ Below w.heap.size w w' := by
  have hs : f.data.size ≤ 9000000000000000000 := by have := (f.ok_iff.1 h).2.2.2.2.2.2.2.2; split at this <;> omega
  have hW := fun W => Wire_any f hs W
  have hc : f.code = 0 := by unfold Fr.code; rw [h]; rfl
  rw [hn, hc] at hW
  have HW := Lib.hid hW; clear hW hc hn
  go_enter Try.func28, Try.ntmps28
  go_wp2_with (fail)
  refine (HW.out _).mono ?_
  rintro e w1 ⟨rfl, hb1⟩
  have z1 := hb1.size
  simp at z1
  go_wp2_with (fail)
  go_ret
  exact ⟨rfl, (by repeat' (first | exact Below.refl _ _ | assumption | refine below_drewN ?_ _ | refine Below.drew ?_ | refine Below.alloc ?_ (by (first | exact Nat.le_refl _ | assumption | (simp; done) | omega | (simp; omega))) _ | refine Below.setCell ?_ (by (first | exact Nat.le_refl _ | assumption | (simp; done) | omega | (simp; omega))) _ | refine Below.trans ?_ (Below.mono (by assumption) (by (first | exact Nat.le_refl _ | assumption | (simp; done) | omega | (simp; omega))))))⟩

theorem malformed_true (s : ByteArray) (hs : s.size ≤ 9000000000000000000) (h : decOk s = false) (w : World) :
    Calls Try.prog 18 #[.string s] w fun e w' => e = .returned (.bool true) ∧ Below w.heap.size w w' := by
  have hD := fun W => Decode_any s hs W
  have e1 : decF s = Fr.none := by unfold decF; rw [h]; rfl
  have e2 : decE s = 5 := by unfold decE; rw [h]; rfl
  rw [e1, e2] at hD
  simp only [Fr.none, S] at hD
  have HD := Lib.hid hD; clear hD e1 e2
  go_enter Try.func18, Try.ntmps18
  go_wp2_with (fail)
  refine (HD.out _).mono ?_
  rintro e w1 ⟨rfl, hb1⟩
  have z1 := hb1.size
  go_wp2_with (fail)
  go_ret
  exact ⟨rfl, (by repeat' (first | exact Below.refl _ _ | assumption | refine below_drewN ?_ _ | refine Below.drew ?_ | refine Below.alloc ?_ (by (first | exact Nat.le_refl _ | assumption | (simp; done) | omega | (simp; omega))) _ | refine Below.setCell ?_ (by (first | exact Nat.le_refl _ | assumption | (simp; done) | omega | (simp; omega))) _ | refine Below.trans ?_ (Below.mono (by assumption) (by (first | exact Nat.le_refl _ | assumption | (simp; done) | omega | (simp; omega))))))⟩
theorem Fr.data_le (f : Fr) (h : f.ok = true) : f.data.size ≤ 1500 := by have := (f.ok_iff.1 h).2.2.2.2.2.2.2.2; split at this <;> omega
theorem fr_box2 (w : World) (f g : Fr) : FrAt ((w.alloc (.cells #[.int .i64 f.dst, .int .i64 f.src, .bool f.tag, .int .i64 f.prio, .int .i64 f.vid, .bool f.hseq, .int .i64 f.seq, .int .i64 f.type, .string f.data] 27)).alloc (.cells #[.int .i64 g.dst, .int .i64 g.src, .bool g.tag, .int .i64 g.prio, .int .i64 g.vid, .bool g.hseq, .int .i64 g.seq, .int .i64 g.type, .string g.data] 27)) (w.heap.size + 1) g :=
  ⟨by simp, by simp, by simp, by simp, by simp, by simp, by simp, by simp, by simp⟩
theorem back_true (f g : Fr) (h : f.ok = true) (hg : f.want = g) (w : World) :
    Calls Try.prog 16 #[.agg #[.int .i64 f.dst, .int .i64 f.src, .bool f.tag, .int .i64 f.prio, .int .i64 f.vid, .bool f.hseq, .int .i64 f.seq, .int .i64 f.type, .string f.data], .agg #[.int .i64 g.dst, .int .i64 g.src, .bool g.tag, .int .i64 g.prio, .int .i64 g.vid, .bool g.hseq, .int .i64 g.seq, .int .i64 g.type, .string g.data]] w fun e w' => e = .returned (.bool true) ∧ Below w.heap.size w w' := by
  have hE := fun W => Encode_any f (by have := f.data_le h; omega) W
  have hD := fun W => Decode_any f.enc (by rw [f.enc_size h]; have := f.body_le h; omega) W
  have hc : f.code = 0 := by unfold Fr.code; rw [h]; rfl
  rw [hc] at hE
  rw [decF_enc f h, decE_enc f h, hg] at hD
  have HE := Lib.hid hE; clear hE hc
  have HD := Lib.hid hD; clear hD
  generalize f.enc = en at *
  clear h hg
  have gb := fr_box2 w f g
  go_enter Try.func16, Try.ntmps16
  go_wp2_with (fail)
  refine (HE.out _).mono ?_
  rintro e w1 ⟨rfl, hb1⟩
  have z1 := hb1.size
  simp at z1
  have g1 := fr_keep gb hb1 (by simp)
  go_wp2_with (fail)
  refine (HD.out _).mono ?_
  rintro e w2 ⟨rfl, hb2⟩
  have z2 := hb2.size
  obtain ⟨c0, c1, c2, c3, c4, c5, c6, c7, c8⟩ := fr_keep g1 hb2 (by omega)
  clear g1 gb
  have z3 : w.heap.size + 1 < w2.heap.size := by omega
  go_wp2_with (fail)
  go_ret
  exact ⟨rfl, (by repeat' (first | exact Below.refl _ _ | assumption | refine below_drewN ?_ _ | refine Below.drew ?_ | refine Below.alloc ?_ (by (first | exact Nat.le_refl _ | assumption | (simp; done) | omega | (simp; omega))) _ | refine Below.setCell ?_ (by (first | exact Nat.le_refl _ | assumption | (simp; done) | omega | (simp; omega))) _ | refine Below.trans ?_ (Below.mono (by assumption) (by (first | exact Nat.le_refl _ | assumption | (simp; done) | omega | (simp; omega))))))⟩
end Go.Proofs.Ytccdhoboidneeaa
