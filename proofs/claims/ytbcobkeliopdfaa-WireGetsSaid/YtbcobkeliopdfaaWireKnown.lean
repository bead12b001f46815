/-
  Checks the examples of chapter 5: the functions works, puts, gets, signed, field and refused of the statements return true where their calls do as they say.
-/
import Derived.Test.YtbcobkeliopdfaaWire5
namespace Go.Proofs.Ytbcobkeliopdfaa
open Go.RowKit
set_option linter.unusedVariables false

theorem Calls.ret2 {P : Program} {f : FuncId} {args : Array Value} {w : World} {a b a' b' : Value} (h : Calls P f args w (Ret2 a b w)) (ha : a = a') (hb : b = b') : Calls P f args w (Ret2 a' b' w) := by subst ha hb; exact h
theorem Calls.ret2w {P : Program} {f : FuncId} {args : Array Value} {w : World} {a b a' b' : Value} (h : Calls P f args w (Ret2w a b w)) (ha : a = a') (hb : b = b') : Calls P f args w (Ret2w a' b' w) := by subst ha hb; exact h

theorem puts_true (s : ByteArray) (n k : Int) (t : ByteArray) (hs : s.size ≤ 9000000000000000000) (h1 : putS s n k = t) (h2 : putE n k = 0) (w : World) :
    Calls Try.prog 22 #[.string s, .int .i64 n, .int .i64 k, .string t] w fun e w' => e = .returned (.bool true) ∧ Below w.heap.size w w' := by
  have hp := fun W => Calls.ret2 (Put_any s n k hs W) (by rw [h1]) (by rw [h2])
  have HP := Lib.hid hp; clear hp h1 h2
  go_enter Try.func22, Try.ntmps22
  go_wp2_with (fail)
  refine (HP.out _).mono ?_
  rintro e w1 ⟨rfl, hb1⟩
  go_wp2_with (fail)
  go_ret
  exact ⟨rfl, hb1⟩
theorem gets_true (s : ByteArray) (a k n : Int) (hs : s.size ≤ 9000000000000000000) (h1 : getV s a k = n) (h2 : getE s a k 7 = 0) (w : World) :
    Calls Try.prog 19 #[.string s, .int .i64 a, .int .i64 k, .int .i64 n] w fun e w' => e = .returned (.bool true) ∧ w = w' := by
  have hp := fun W => Calls.ret2w (Get_any s a k hs W) (by rw [h1]) (by rw [h2])
  have HP := Lib.hid hp; clear hp h1 h2
  go_enter Try.func19, Try.ntmps19
  go_wp2_with (fail)
  refine (HP.out _).mono ?_
  rintro e w1 ⟨rfl, rfl⟩
  go_wp2_with (fail)
  go_ret
  exact ⟨rfl, rfl⟩
theorem refused_true (s : ByteArray) (a k c : Int) (hs : s.size ≤ 9000000000000000000) (h1 : getV s a k = 0) (h2 : getE s a k 7 = c) (w : World) :
    Calls Try.prog 23 #[.string s, .int .i64 a, .int .i64 k, .int .i64 c] w fun e w' => e = .returned (.bool true) ∧ w = w' := by
  have hp := fun W => Calls.ret2w (Get_any s a k hs W) (by rw [h1]) (by rw [h2])
  have HP := Lib.hid hp; clear hp h1 h2
  go_enter Try.func23, Try.ntmps23
  go_wp2_with (fail)
  refine (HP.out _).mono ?_
  rintro e w1 ⟨rfl, rfl⟩
  go_wp2_with (fail)
  go_ret
  exact ⟨rfl, rfl⟩
theorem field_true (s : ByteArray) (a k : Int) (t : ByteArray) (c : Int) (hs : s.size ≤ 9000000000000000000) (h1 : fldS s a k = t) (h2 : fldE s a k = c) (w : World) :
    Calls Try.prog 20 #[.string s, .int .i64 a, .int .i64 k, .string t, .int .i64 c] w fun e w' => e = .returned (.bool true) ∧ w = w' := by
  have hp := fun W => Calls.ret2w (Field_any s a k hs W) (by rw [h1]) (by rw [h2])
  have HP := Lib.hid hp; clear hp h1 h2
  go_enter Try.func20, Try.ntmps20
  go_wp2_with (fail)
  refine (HP.out _).mono ?_
  rintro e w1 ⟨rfl, rfl⟩
  go_wp2_with (fail)
  go_ret
  exact ⟨rfl, rfl⟩
theorem signed_true (n k : Int) (t : ByteArray) (hn1 : -9223372036854775808 ≤ n) (hn2 : n ≤ 9223372036854775807) (ht : t.size ≤ 9000000000000000000) (h1 : psS (S []) n k = t) (h2 : psE n k = 0) (h3 : gsV t 0 k = n) (h4 : getE t 0 k 8 = 0) (w : World) :
    Calls Try.prog 21 #[.int .i64 n, .int .i64 k, .string t] w fun e w' => e = .returned (.bool true) ∧ Below w.heap.size w w' := by
  have hp := fun W => Calls.ret2 (PutSigned_any (S []) n k hn1 hn2 (by rw [S_size]; simp) W) (by rw [h1]) (by rw [h2])
  have hq := fun W => Calls.ret2w (GetSigned_any t 0 k ht W) (by rw [h3]) (by rw [h4])
  have HP := Lib.hid hp; clear hp h1 h2
  have HQ := Lib.hid hq; clear hq h3 h4
  go_enter Try.func21, Try.ntmps21
  go_wp2_with (fail)
  refine (HP.out _).mono ?_
  rintro e w1 ⟨rfl, hb1⟩
  go_wp2_with (fail)
  refine (HQ.out _).mono ?_
  rintro e w1 ⟨rfl, rfl⟩
  go_wp2_with (fail)
  go_ret
  exact ⟨rfl, hb1⟩

theorem works5 (w : World) : Calls Try.prog 12 #[] w fun e w' => e = .returned (.bool true) ∧ Below w.heap.size w w' := by
  have c1 := fun W => Calls.ret2 (Put_any (S []) 256 1 (by decide) W) rfl (show Value.int .i64 (putE 256 1) = .int .i64 6 by rw [show putE 256 1 = 6 by decide +kernel])
  have c2 := fun W => Calls.ret2 (PutSigned_any (S []) 128 1 (by decide) (by decide) (by decide) W) rfl (show Value.int .i64 (psE 128 1) = .int .i64 6 by rw [show psE 128 1 = 6 by decide +kernel])
  have C1 := Lib.hid c1; clear c1
  have C2 := Lib.hid c2; clear c2
  go_enter Try.func12, Try.ntmps12
  go_wp2_with (fail)
  refine (C1.out _).mono ?_
  rintro e w1 ⟨rfl, hb1⟩
  go_wp2_with (fail)
  refine (C2.out _).mono ?_
  rintro e w2 ⟨rfl, hb2⟩
  go_wp2_with (fail)
  refine (puts_true (S [171]) 258 3 (S [171, 0, 1, 2]) (by decide) (by decide +kernel) (by decide +kernel) _).mono ?_
  rintro e w3 ⟨rfl, hb3⟩
  go_wp2_with (fail)
  refine (gets_true (S [171, 0, 1, 2]) 1 3 258 (by decide) (by decide +kernel) (by decide +kernel) _).mono ?_
  rintro e _ ⟨rfl, rfl⟩
  go_wp2_with (fail)
  refine (refused_true (S [171]) 0 2 5 (by decide) (by decide +kernel) (by decide +kernel) _).mono ?_
  rintro e _ ⟨rfl, rfl⟩
  go_wp2_with (fail)
  refine (refused_true (S [171]) (-1) 1 2 (by decide) (by decide +kernel) (by decide +kernel) _).mono ?_
  rintro e _ ⟨rfl, rfl⟩
  go_wp2_with (fail)
  refine (refused_true (S [171]) 0 8 2 (by decide) (by decide +kernel) (by decide +kernel) _).mono ?_
  rintro e _ ⟨rfl, rfl⟩
  go_wp2_with (fail)
  refine (signed_true (-2) 2 (S [255, 254]) (by decide) (by decide) (by decide) (by decide +kernel) (by decide +kernel) (by decide +kernel) (by decide +kernel) _).mono ?_
  rintro e w4 ⟨rfl, hb4⟩
  go_wp2_with (fail)
  refine (signed_true 127 1 (S [127]) (by decide) (by decide) (by decide) (by decide +kernel) (by decide +kernel) (by decide +kernel) (by decide +kernel) _).mono ?_
  rintro e w5 ⟨rfl, hb5⟩
  go_wp2_with (fail)
  refine (field_true (S [171, 205, 239]) 1 2 (S [205, 239]) 0 (by decide) (by decide +kernel) (by decide +kernel) _).mono ?_
  rintro e _ ⟨rfl, rfl⟩
  go_wp2_with (fail)
  refine (field_true (S [171]) 1 0 (S []) 0 (by decide) (by decide +kernel) (by decide +kernel) _).mono ?_
  rintro e _ ⟨rfl, rfl⟩
  go_wp2_with (fail)
  refine (field_true (S [171]) 1 1 (S []) 5 (by decide) (by decide +kernel) (by decide +kernel) _).mono ?_
  rintro e _ ⟨rfl, rfl⟩
  go_wp2_with (fail)
  go_ret
  have z1 := hb1.size
  have z2 := hb2.size
  have z3 := hb3.size
  have z4 := hb4.size
  exact ⟨rfl, ((((hb1.trans (hb2.mono z1)).trans (hb3.mono (by omega))).trans (hb4.mono (by omega))).trans (hb5.mono (by omega)))⟩
end Go.Proofs.Ytbcobkeliopdfaa
