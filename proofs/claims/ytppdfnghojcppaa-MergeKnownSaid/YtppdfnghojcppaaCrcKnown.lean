/-
  Checks the examples of chapter 6 (the function works of the statements), and what follows for sealed strings.
-/
import Derived.Test.YtppdfnghojcppaaFlip
namespace Go.Proofs.Ytppdfnghojcppaa
open Go.RowKit
set_option linter.unusedVariables false

theorem sealB_data (m : Nat) (s : ByteArray) : (sealB m s).data.toList = Crcm.sealM m s.data.toList := by simp [sealB, S]
theorem sealB_size (m : Nat) (s : ByteArray) : (sealB m s).size = s.size + 4 := by rw [Lib.size_eq, sealB_data, Crcm.sealM_length, ← Lib.size_eq]
theorem goodB_sealB (m : Nat) (s : ByteArray) : goodB m (sealB m s) = true := by unfold goodB; rw [sealB_data]; exact Crcm.goodM_sealM _ _
theorem good_marked (s : ByteArray) (h : goodB 0 s = true) : goodB Crcm.marking s = false := Crcm.good_not_marked _ h
theorem marked_seal (s : ByteArray) : goodB Crcm.marking (sealB 0 s) = false := good_marked _ (goodB_sealB 0 s)
theorem good_mark (s : ByteArray) : goodB 0 (sealB Crcm.marking s) = false := by
  rcases h : goodB 0 (sealB Crcm.marking s) with _ | _
  · rfl
  · have := good_marked _ h
    rw [goodB_sealB] at this
    exact this

end Go.Proofs.Ytppdfnghojcppaa
