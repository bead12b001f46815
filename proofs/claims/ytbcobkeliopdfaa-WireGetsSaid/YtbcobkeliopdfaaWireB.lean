/-
  The statement WireBack holds: Get and GetSigned return what Put and PutSigned have appended, whatever surrounds it. No condition.
-/
import Derived.Test.YtbcobkeliopdfaaRows
import Derived.Test.YtbcobkeliopdfaaWireSpec
import Derived.ProofKit
import Derived.OpenShut
import Derived.ShutString
namespace Go.Proofs.Ytbcobkeliopdfaa
open Go.RowKit
set_option linter.unusedVariables false

theorem extract_le (s : ByteArray) (c : Nat) : (s.extract 0 (min (s.size : Int) c).toNat).size ≤ c := by
  rw [ByteArray.size_extract]; omega
theorem size_S (s : ByteArray) : s.size = s.data.toList.length := Lib.size_eq s
theorem wb_pow (j : Nat) (h1 : 1 ≤ j) (h7 : j ≤ 7) : IntKind.u64.wrap (2 ^ (8 * j)) = lim j + 1 := by
  have hk : j = 1 ∨ j = 2 ∨ j = 3 ∨ j = 4 ∨ j = 5 ∨ j = 6 ∨ j = 7 := by omega
  rcases hk with rfl | rfl | rfl | rfl | rfl | rfl | rfl <;> decide +kernel
theorem wb_small (j : Nat) (h1 : 1 ≤ j) (h7 : j ≤ 7) (n : Int) (hn : -9223372036854775808 ≤ n) (hn2 : n ≤ 9223372036854775807) : -lim2 j - 1 ≤ n / 2 ^ (64 - 8 * j) ∧ n / 2 ^ (64 - 8 * j) ≤ lim2 j := by
  have hk : j = 1 ∨ j = 2 ∨ j = 3 ∨ j = 4 ∨ j = 5 ∨ j = 6 ∨ j = 7 := by omega
  rcases hk with rfl | rfl | rfl | rfl | rfl | rfl | rfl <;> (unfold lim2; simp; omega)
/-- What a string followed by digits, followed by a string, is. -/
theorem put_mid (A B : ByteArray) (k : Nat) (n : Int) : (A ++ S (Wirem.be k n)) ++ B = S (A.data.toList ++ (Wirem.be k n ++ B.data.toList)) := by
  rw [← S_of A, ← S_of B, S_append, S_append, S_data, S_data, List.append_assoc]
theorem put_size (A : ByteArray) (k : Nat) (n : Int) : (A ++ S (Wirem.be k n)).size = A.size + k := by
  rw [ByteArray.size_append, S_size, Wirem.be_length]
theorem put_field (A B : ByteArray) (k : Nat) (n : Int) : fldS ((A ++ S (Wirem.be k n)) ++ B) A.size k = (A ++ S (Wirem.be k n)).extract A.size (A.size + k) := by
  unfold fldS
  rw [if_neg (by omega), if_neg (by rw [ByteArray.size_append, put_size]; omega)]
  rw [put_mid, size_S A, ← S_of A, S_append, S_data]
  rw [show (((A.data.toList.length : Nat) : Int) + (k : Int)).toNat = A.data.toList.length + k by omega, show ((A.data.toList.length : Nat) : Int).toNat = A.data.toList.length by omega, S_extract, S_extract, List.drop_left, List.drop_left]
  rw [show A.data.toList.length + k - A.data.toList.length = k by omega]
  congr 1
  have hl := Wirem.be_length k n
  rw [List.take_of_length_le (by omega : (Wirem.be k n).length ≤ k)]
  exact List.take_left' hl
theorem put_head (A B : ByteArray) (k : Nat) (n : Int) : fldS ((A ++ S (Wirem.be k n)) ++ B) 0 A.size = A := by
  unfold fldS
  rw [if_neg (by omega), if_neg (by rw [ByteArray.size_append, put_size]; omega)]
  rw [put_mid, size_S A]
  show (S _).extract 0 ((0 : Int) + (A.data.toList.length : Nat)).toNat = _
  rw [show ((0 : Int) + (A.data.toList.length : Nat)).toNat = A.data.toList.length by omega, S_extract, List.drop_zero, Nat.sub_zero, List.take_left, S_of]
theorem fldE_ok (s : ByteArray) (a k : Nat) (h : a + k ≤ s.size) : fldE s a k = 0 := by
  unfold fldE; rw [if_neg (by omega), if_neg (by omega)]

set_option maxRecDepth 100000 in
set_option maxHeartbeats 1000000 in
theorem wireBack_walk (s : ByteArray) (n o : Int) (b : ByteArray) (hs : s.size ≤ maxLen) (hn : (Lit.int .i64 n).wf = true) (ho : (Lit.int .u8 o).wf = true) (hbs : b.size ≤ maxLen) (w : World) :
   Calls Try.prog 5 #[.string s, .int .i64 n, .int .u8 o, .string b] w fun e w' => e = .returned (.bool true) ∧ Below w.heap.size w w' := by
  unfold maxLen at hs hbs
  have hn1 : -9223372036854775808 ≤ n ∧ n ≤ 9223372036854775807 := bounds_i64 hn
  have ho1 : 0 ≤ o ∧ o ≤ 255 := bounds_u8 ho
  obtain ⟨j, hj⟩ : ∃ j : Nat, 1 + o % 7 = (j : Int) := ⟨(1 + o % 7).toNat, by omega⟩
  have hj1 : 1 ≤ j := by omega
  have hj7 : j ≤ 7 := by omega
  have hp := wb_pow j hj1 hj7
  have hl := lim_le j hj1 hj7
  have hl2 := lim2_le j hj1 (by omega)
  have ht := lim_two j hj1
  obtain ⟨N, hN, hN2, _⟩ := u64_wrap n 0 (by omega)
  have HT := Lib.hid ht; clear ht
  have hx1 : -lim2 8 - 1 ≤ n := by rw [show lim2 8 = 9223372036854775807 from rfl]; omega
  have hx2 : n ≤ lim2 8 := by rw [show lim2 8 = 9223372036854775807 from rfl]; omega
  obtain ⟨m, hm, hm0, hm1⟩ : ∃ m : Int, (N : Int) % (lim j + 1) = m ∧ 0 ≤ m ∧ m ≤ lim j := ⟨_, rfl, Int.emod_nonneg _ (by omega), by have := Int.emod_lt_of_pos (N : Int) (show 0 < lim j + 1 by omega); omega⟩
  go_enter Try.func5, Try.ntmps5
  go_wp2_with (fail)
  refine (works5 _).mono ?_
  rintro e w1 ⟨rfl, hb1⟩
  go_wp2_with (fail)
  go_quiet (fail)
  go_wp2_with (fail)
  have ha20 := extract_le s 20
  have hb20 := extract_le b 20
  simp only [Int.cast_ofNat_Int] at ha20 hb20
  generalize s.extract 0 (min (s.size : Int) 20).toNat = A at *
  generalize b.extract 0 (min (b.size : Int) 20).toNat = B at *
  obtain ⟨T, hT⟩ : ∃ T, A ++ S (Wirem.be j m) = T := ⟨_, rfl⟩
  have hTs : T.size = A.size + j := by rw [← hT, put_size]
  obtain ⟨U, hU⟩ : ∃ U, A ++ S (Wirem.be 8 n) = U := ⟨_, rfl⟩
  have hUs : U.size = A.size + 8 := by rw [← hU, put_size]
  refine (Calls.ret2 (Put_any A m j (by omega) _) (by rw [putS_ok _ _ _ hj1 hj7 hm0 hm1, hT]) (by rw [putE_ok _ _ hj1 hj7 hm0 hm1])).mono ?_
  rintro e w2 ⟨rfl, hb2⟩
  go_wp2_with (fail)
  refine (Calls.ret2 (PutSigned_any A n 8 hn1.1 hn1.2 (by omega) _) (show Value.string (psS A n (8 : Nat)) = _ by rw [psS_ok _ _ _ (by omega) (by omega) hx1 hx2, hU]) (show Value.int .i64 (psE n (8 : Nat)) = _ by rw [psE_ok _ _ (by omega) (by omega) hx1 hx2])).mono ?_
  rintro e w3 ⟨rfl, hb3⟩
  go_wp2_with (fail)
  have hq := wb_small j hj1 hj7 n hn1.1 hn1.2
  generalize n / 2 ^ (64 - 8 * j) = q at *
  obtain ⟨V, hV⟩ : ∃ V, A ++ S (Wirem.be j q) = V := ⟨_, rfl⟩
  have hVs : V.size = A.size + j := by rw [← hV, put_size]
  have hj8 : j ≤ 8 := by omega
  have hq1 : -9223372036854775808 ≤ q ∧ q ≤ 9223372036854775807 := by omega
  refine (Calls.ret2 (PutSigned_any A q j hq1.1 hq1.2 (by omega) _) (by rw [psS_ok _ _ _ hj1 hj8 hq.1 hq.2, hV]) (by rw [psE_ok _ _ hj1 hj8 hq.1 hq.2])).mono ?_
  rintro e w4 ⟨rfl, hb4⟩
  have r1 := gsV_mid A.data.toList B.data.toList n 8 (by omega) (by omega) hx1 hx2
  rw [← put_mid, hU, ← size_S] at r1
  have r2 := gsV_mid A.data.toList B.data.toList q j hj1 hj8 hq.1 hq.2
  rw [← put_mid, hV, ← size_S] at r2
  have r3 := getV_mid A.data.toList B.data.toList m j hj1 hj7 hm0 hm1
  rw [← put_mid, hT, ← size_S] at r3
  have r4 := put_field A B j m
  rw [hT] at r4
  have r5 := put_head A B j m
  rw [hT] at r5
  have zT : (T ++ B).size = A.size + j + B.size := by rw [ByteArray.size_append, hTs]
  have zU : (U ++ B).size = A.size + 8 + B.size := by rw [ByteArray.size_append, hUs]
  have zV : (V ++ B).size = A.size + j + B.size := by rw [ByteArray.size_append, hVs]
  have c1 := fun W => Calls.ret2w (GetSigned_any (U ++ B) A.size 8 (by rw [zU]; omega) W) (by rw [show (8 : Int) = ((8 : Nat) : Int) from rfl, r1]) (by rw [show (8 : Int) = ((8 : Nat) : Int) from rfl, getE_ok _ _ _ _ (by omega) (by omega) (by rw [zU]; omega)])
  have c2 := fun W => Calls.ret2w (GetSigned_any (V ++ B) A.size j (by rw [zV]; omega) W) (by rw [r2]) (by rw [getE_ok _ _ _ _ (by omega) (by omega) (by rw [zV]; omega)])
  have c3 := fun W => gets_true (T ++ B) A.size j m (by rw [zT]; omega) r3 (getE_ok _ _ _ _ hj1 (by omega) (by rw [zT]; omega)) W
  have c4 := fun W => field_true (T ++ B) A.size j (T.extract A.size (A.size + j)) 0 (by rw [zT]; omega) r4 (fldE_ok _ _ _ (by rw [zT]; omega)) W
  have c5 := fun W => field_true (T ++ B) 0 A.size A 0 (by rw [zT]; omega) r5 (fldE_ok _ 0 _ (by rw [zT]; omega)) W
  have C1 := Lib.hid c1; clear c1 r1
  have C2 := Lib.hid c2; clear c2 r2
  have C3 := Lib.hid c3; clear c3 r3
  have C4 := Lib.hid c4; clear c4 r4
  have C5 := Lib.hid c5; clear c5 r5
  clear zT zU zV hT hU hV
  go_wp2_with (fail)
  refine (C1.out _).mono ?_
  rintro e _ ⟨rfl, rfl⟩
  go_wp2_with (fail)
  refine (C2.out _).mono ?_
  rintro e _ ⟨rfl, rfl⟩
  go_wp2_with (fail)
  refine (C3.out _).mono ?_
  rintro e _ ⟨rfl, rfl⟩
  go_wp2_with (fail)
  refine (C4.out _).mono ?_
  rintro e _ ⟨rfl, rfl⟩
  go_wp2_with (fail)
  refine (C5.out _).mono ?_
  rintro e _ ⟨rfl, rfl⟩
  go_wp2_with (fail)
  go_ret
  have y1 := hb1.size
  have b2 := (below_drewN hb1 nq).trans (hb2.mono y1)
  have y2 := b2.size
  have b3 := b2.trans (hb3.mono y2)
  have y3 := b3.size
  exact ⟨rfl, b3.trans (hb4.mono y3)⟩

namespace wireBack
open Go.ChangeShapes Go.WideShapes Go.ChangeAt Go.RowKit
open Go.ChangeMaps (open_string shut_string)
theorem own : ownKnob Try.prog.godebug = none := by kernel_rfl
theorem laidOut : laidOutB Try.prog = true := by kernel_rfl

set_option maxRecDepth 100000 in
theorem lifted (os : Os) (started : os.Started) (H : Type) (enc : TypeId × Value → H) :
    ReturnsInHanded {} Try.checked os 5 .any (Rows.wireBackSpec.pre6 enc Try.prog Try.f5 Rows.wireBackRow.domain false) (Rows.wireBackSpec.post enc Try.prog Try.f5 false true false false) := by
  refine returnsInHanded_of_change (C := Try.checked) own started (by kernel_rfl) Try.func5
    (ChangeSpec.witness6 (enc := enc) (C := Try.checked) false ⟨#[], #[.string ByteArray.empty, .int .i64 0, .int .u8 0, .string ByteArray.empty], []⟩ 8 (by kernel_rfl) (by kernel_rfl) (by kernel_rfl) (by kernel_rfl)) ?_
  intro W base args ds gs before hval0 hW hcnd _
  have hval : ∀ (j : Nat) t v, Try.f5.params[j]? = some t → args[j]? = some v → Value.okWide Try.prog W .any base t v := hval0
  have hW' := hW
  obtain ⟨p, q, hA0, hV, rfl, hfz, hnd⟩ := hW
  have hA : DataW.TrodAll enc Try.prog W 0 (fun _ => true) true Try.f5.params.toList args.toList ds p := hA0
  rw [Try.params5] at hA hval
  obtain ⟨v0, vs0, d0, ds0, p0, q0, hargs, rfl, rfl, h0, r0⟩ := trodAll_cons hA
  obtain ⟨v1, vs1, d1, ds1, p1, q1, rfl, rfl, rfl, h1, r1⟩ := trodAll_cons r0
  obtain ⟨v2, vs2, d2, ds2, p2, q2, rfl, rfl, rfl, h2, r2⟩ := trodAll_cons r1
  obtain ⟨v3, vs3, d3, ds3, p3, q3, rfl, rfl, rfl, h3, r3⟩ := trodAll_cons r2
  obtain ⟨rfl, rfl, rfl⟩ := trodAll_nil r3
  obtain rfl : args = #[v0, v1, v2, v3] := by cases args; simp_all
  obtain ⟨rfl, rfl⟩ := trodVars_none hV
  have k0 := h0
  have lt0 : ∀ x ∈ p0, x.block < W.heap.size := by obtain ⟨m, hm⟩ := k0; exact DataW.trod_lt m _ _ _ hm
  have k1 := h1
  have lt1 : ∀ x ∈ p1, x.block < W.heap.size := by obtain ⟨m, hm⟩ := k1; exact DataW.trod_lt m _ _ _ hm
  have k2 := h2
  have lt2 : ∀ x ∈ p2, x.block < W.heap.size := by obtain ⟨m, hm⟩ := k2; exact DataW.trod_lt m _ _ _ hm
  have k3 := h3
  have lt3 : ∀ x ∈ p3, x.block < W.heap.size := by obtain ⟨m, hm⟩ := k3; exact DataW.trod_lt m _ _ _ hm
  obtain ⟨a0, rfl, rfl, rfl, w0⟩ := open_string Try.underlying9 (hval 0 9 v0 rfl rfl) h0
  obtain ⟨a1, rfl, rfl, rfl, w1⟩ := open_int Try.underlying3 (hval 1 3 v1 rfl rfl) h1
  obtain ⟨a2, rfl, rfl, rfl, w2⟩ := open_int Try.underlying5 (hval 2 5 v2 rfl rfl) h2
  obtain ⟨a3, rfl, rfl, rfl, w3⟩ := open_string Try.underlying9 (hval 3 9 v3 rfl rfl) h3
  clear hA0 hval0
  refine (wireBack_walk a0 a1 a2 a3 w0 w1 w2 w3 W).mono fun e W' ⟨he, bel⟩ => ?_
  subst he
  exact ⟨_, rfl, _, _, _, [], _, [], hW', trodAll_mk1 (shut_bool Try.underlying4 _), (trodAll_cons_mk (Below.trod laidOut (by kernel_rfl) (of_decide_eq_true (by kernel_rfl)) k0 bel lt0) (trodAll_cons_mk (Below.trod laidOut (by kernel_rfl) (of_decide_eq_true (by kernel_rfl)) k1 bel lt1) (trodAll_cons_mk (Below.trod laidOut (by kernel_rfl) (of_decide_eq_true (by kernel_rfl)) k2 bel lt2) (trodAll_cons_mk (Below.trod laidOut (by kernel_rfl) (of_decide_eq_true (by kernel_rfl)) k3 bel lt3) trodAll_mk0)))), rfl, bel.frame _, fun h => by cases h⟩

theorem over : Rows.wireBackRow.holds Try.pinned (OpenSpec.ofChange Rows.wireBackSpec) :=
  OpenClaim.holds_of_wide 5 Try.f5 rfl rfl rfl rfl rfl rfl rfl ⟨rfl, rfl, rfl, rfl, rfl⟩ rfl rfl rfl rfl rfl (by kernel_rfl) Try.func5 (by kernel_rfl)
    (of_decide_eq_true (by kernel_rfl)) (by unfold Func.isWrapper; first | (rw [if_pos (by decide +kernel)]; kernel_rfl) | (rw [if_neg (by decide +kernel)]; exact ⟨rfl, rfl⟩))
    (fun os started H enc _ => lifted os started H enc)

theorem proved : Rows.WireBackSaid := over
#print axioms proved
end wireBack
end Go.Proofs.Ytbcobkeliopdfaa
