/-
  Chapter 7's examples: the function works of the statements.
-/
import Derived.Test.YtccdhoboidneeaaFrameL
namespace Go.Proofs.Ytccdhoboidneeaa
open Go.RowKit
set_option linter.unusedVariables false

def fh : Fr := ⟨1, 2, false, 0, 0, false, 0, 2048, ⟨#[104, 101, 108, 108, 111]⟩⟩
def zs (n : Nat) : ByteArray := S (List.replicate n 0)
def fLong : Fr := ⟨1, 2, true, 0, 5, false, 0, 2048, S (List.replicate 1500 120)⟩
def fPad : Fr := ⟨1, 2, false, 0, 0, false, 0, 2048, ⟨#[104, 101, 108, 108, 111]⟩ ++ zs 41⟩
def fPlain : Fr := ⟨1, 2, false, 0, 0, false, 0, 0, ⟨#[104, 101, 108, 108, 111]⟩⟩
def fTag : Fr := ⟨1, 2, true, 5, 3, true, 258, 2048, ⟨#[104, 101, 108, 108, 111]⟩⟩
theorem fh_ok : fh.ok = true := by decide +kernel
theorem fLong_ok : fLong.ok = true := by decide +kernel
theorem fPlain_ok : fPlain.ok = true := by decide +kernel
theorem fTag_ok : fTag.ok = true := by decide +kernel
theorem fh_size : fh.enc.size = 64 := by decide +kernel
theorem fh_head : fh.enc.extract 0 60 = ⟨#[0, 0, 0, 0, 0, 1, 0, 0, 0, 0, 0, 2, 8, 0, 104, 101, 108, 108, 111]⟩ ++ zs 41 := by decide +kernel
theorem fTag_size : fTag.enc.size = 64 := by decide +kernel
theorem fTag_head : fTag.enc.extract 12 24 = ⟨#[129, 0, 160, 3, 241, 193, 0, 0, 1, 2, 8, 0]⟩ := by decide +kernel
theorem fh_wire : fh.wire = 84 := by decide +kernel
theorem fLong_wire : fLong.wire = 1542 := by decide +kernel
theorem fh_want : fh.want = fPad := by
  unfold Fr.want fPad
  rw [Fr.mk.injEq]
  exact ⟨rfl, rfl, rfl, rfl, rfl, rfl, rfl, rfl, by decide +kernel⟩
theorem fPlain_want : fPlain.want = fPlain := by
  unfold Fr.want
  rw [Fr.mk.injEq]
  exact ⟨rfl, rfl, rfl, rfl, rfl, rfl, rfl, rfl, by decide +kernel⟩
theorem zero64 : decOk (zs 64) = false := by decide +kernel
theorem repeat_any (b : UInt8) (n : Nat) (hn : n ≤ 100000) (w : World) : Calls Try.prog 13 #[.string ⟨#[b]⟩, .int .i64 n] w fun e w' => e = .returned (.string (S (List.replicate n b))) ∧ Below w.heap.size w w' := by
  have h := Try.strings_Repeat (S [b]) n w (by omega) (by show 1 * n ≤ _; omega)
  have e : ∀ n, Lib.repeatL [b] n = List.replicate n b := by
    intro n
    induction n with
    | zero => rfl
    | succ n ih => rw [Lib.repeatL, ih]; rfl
  rw [S_data'', e] at h
  exact h
theorem enc_of (f : Fr) (h : f.ok = true) (W : World) : Calls Try.prog 11 #[.agg #[.int .i64 f.dst, .int .i64 f.src, .bool f.tag, .int .i64 f.prio, .int .i64 f.vid, .bool f.hseq, .int .i64 f.seq, .int .i64 f.type, .string f.data]] W (Ret2 (.string f.enc) (.int .i64 0) W) := by
  have hc : f.code = 0 := by unfold Fr.code; rw [h]; rfl
  have := Encode_any f (by have := f.data_le h; omega) W
  rwa [hc] at this
end Go.Proofs.Ytccdhoboidneeaa
