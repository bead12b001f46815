/-
  The contract of frame.parse. Written by gen_parse.py.
-/
import Derived.Test.YtccdhoboidneeaaFrame7
namespace Go.Proofs.Ytccdhoboidneeaa
open Go.RowKit
set_option linter.unusedVariables false

set_option maxHeartbeats 8000000 in
attribute [local go_sem] setCell_drewN in
theorem parse10a (t : ByteArray) (h60 : 60 ≤ t.size) (h : t.size ≤ 9000000000000000000) (V0 V1 TV SV K : Int) (r0 : rd t.data.toList 0 6 = V0) (r1 : rd t.data.toList 6 6 = V1) (r2 : rd t.data.toList 12 2 = 33024) (r3 : rd t.data.toList 14 2 = TV) (b0 : 0 ≤ TV) (b1 : TV < 65536) (r6 : rd t.data.toList 16 2 = K) (k0 : 0 ≤ K) (k1 : K < 65536) (n2 : ¬ K = 61889) (k2 : 1500 < K) (w : World) :
    Calls Try.prog 43 #[.string t] w fun e w' => e = .returned (.agg #[.int .i64 V0, .int .i64 V1, .bool true, .int .i64 (TV / 8192), .int .i64 (TV % 8192), .bool false, .int .i64 0, .int .i64 K, .string (t.extract 18 (18 + (t.size - 18)))]) ∧ Below w.heap.size w w' := by
  have ha := and_8191 TV b0 b1
  go_enter Try.func43, Try.ntmps43
  go_wp2_with (fail)
  refine (number_v t 0 6 V0 (by assumption) h (by omega) (by omega) (by omega) _ 6 0 rfl rfl _ (by go_simp) (by go_simp) (by go_simp)).mono ?_
  rintro e x1 ⟨rfl, m1, rfl⟩
  go_wp2_with (fail)
  refine (number_v t 6 6 V1 (by assumption) h (by omega) (by omega) (by omega) _ 6 6 rfl rfl _ (by go_simp) (by go_simp) (by go_simp)).mono ?_
  rintro e x2 ⟨rfl, m2, rfl⟩
  go_wp2_with (fail)
  refine (number_v t 12 2 33024 (by assumption) h (by omega) (by omega) (by omega) _ 2 12 rfl rfl _ (by go_simp) (by go_simp) (by go_simp)).mono ?_
  rintro e x3 ⟨rfl, m3, rfl⟩
  go_wp2_with (fail)
  refine (number_v t 14 2 TV (by assumption) h (by omega) (by omega) (by omega) _ 2 14 rfl rfl _ (by go_simp) (by go_simp) (by go_simp)).mono ?_
  rintro e x4 ⟨rfl, m4, rfl⟩
  go_wp2_with (fail)
  refine (number_v t 16 2 K (by assumption) h (by omega) (by omega) (by omega) _ 2 16 rfl rfl _ (by go_simp) (by go_simp) (by go_simp)).mono ?_
  rintro e x5 ⟨rfl, m5, rfl⟩
  go_wp2_with (fail)
  refine (field_v t 18 (t.size - 18) h (by omega) _ ((t.size : Int) - 18) 18 (by omega) rfl _ (by go_simp) (by go_simp) (by go_simp)).mono ?_
  rintro e x6 ⟨rfl, m6, rfl⟩
  go_wp2_with (fail)
  refine bodyPost_ret (v := .agg #[.int .i64 V0, .int .i64 V1, .bool true, .int .i64 (TV / 8192), .int .i64 (TV % 8192), .bool false, .int .i64 0, .int .i64 K, .string (t.extract 18 (18 + (t.size - 18)))]) (by simp [results, Try.results43, go_sem]) rfl ⟨rfl, ?_⟩
  exact (by repeat' (first | exact Below.refl _ _ | assumption | refine below_drewN ?_ _ | refine Below.drew ?_ | refine Below.alloc ?_ (by (first | exact Nat.le_refl _ | assumption | (simp; done) | omega | (simp; omega))) _ | refine Below.setCell ?_ (by (first | exact Nat.le_refl _ | assumption | (simp; done) | omega | (simp; omega))) _ | refine Below.trans ?_ (Below.mono (by assumption) (by (first | exact Nat.le_refl _ | assumption | (simp; done) | omega | (simp; omega))))))
set_option maxHeartbeats 8000000 in
attribute [local go_sem] setCell_drewN in
theorem parse10b (t : ByteArray) (h60 : 60 ≤ t.size) (h : t.size ≤ 9000000000000000000) (V0 V1 TV SV K : Int) (r0 : rd t.data.toList 0 6 = V0) (r1 : rd t.data.toList 6 6 = V1) (r2 : rd t.data.toList 12 2 = 33024) (r3 : rd t.data.toList 14 2 = TV) (b0 : 0 ≤ TV) (b1 : TV < 65536) (r6 : rd t.data.toList 16 2 = K) (k0 : 0 ≤ K) (k1 : K < 65536) (n2 : ¬ K = 61889) (k2 : ¬ 1500 < K) (k3 : 18 + K ≤ t.size) (w : World) :
    Calls Try.prog 43 #[.string t] w fun e w' => e = .returned (.agg #[.int .i64 V0, .int .i64 V1, .bool true, .int .i64 (TV / 8192), .int .i64 (TV % 8192), .bool false, .int .i64 0, .int .i64 0, .string (t.extract 18 (18 + K.toNat))]) ∧ Below w.heap.size w w' := by
  have ha := and_8191 TV b0 b1
  go_enter Try.func43, Try.ntmps43
  go_wp2_with (fail)
  refine (number_v t 0 6 V0 (by assumption) h (by omega) (by omega) (by omega) _ 6 0 rfl rfl _ (by go_simp) (by go_simp) (by go_simp)).mono ?_
  rintro e x1 ⟨rfl, m1, rfl⟩
  go_wp2_with (fail)
  refine (number_v t 6 6 V1 (by assumption) h (by omega) (by omega) (by omega) _ 6 6 rfl rfl _ (by go_simp) (by go_simp) (by go_simp)).mono ?_
  rintro e x2 ⟨rfl, m2, rfl⟩
  go_wp2_with (fail)
  refine (number_v t 12 2 33024 (by assumption) h (by omega) (by omega) (by omega) _ 2 12 rfl rfl _ (by go_simp) (by go_simp) (by go_simp)).mono ?_
  rintro e x3 ⟨rfl, m3, rfl⟩
  go_wp2_with (fail)
  refine (number_v t 14 2 TV (by assumption) h (by omega) (by omega) (by omega) _ 2 14 rfl rfl _ (by go_simp) (by go_simp) (by go_simp)).mono ?_
  rintro e x4 ⟨rfl, m4, rfl⟩
  go_wp2_with (fail)
  refine (number_v t 16 2 K (by assumption) h (by omega) (by omega) (by omega) _ 2 16 rfl rfl _ (by go_simp) (by go_simp) (by go_simp)).mono ?_
  rintro e x5 ⟨rfl, m5, rfl⟩
  go_wp2_with (fail)
  refine (field_v t 18 K.toNat h (by omega) _ K 18 (by omega) rfl _ (by go_simp) (by go_simp) (by go_simp)).mono ?_
  rintro e x6 ⟨rfl, m6, rfl⟩
  go_wp2_with (fail)
  refine bodyPost_ret (v := .agg #[.int .i64 V0, .int .i64 V1, .bool true, .int .i64 (TV / 8192), .int .i64 (TV % 8192), .bool false, .int .i64 0, .int .i64 0, .string (t.extract 18 (18 + K.toNat))]) (by simp [results, Try.results43, go_sem]) rfl ⟨rfl, ?_⟩
  exact (by repeat' (first | exact Below.refl _ _ | assumption | refine below_drewN ?_ _ | refine Below.drew ?_ | refine Below.alloc ?_ (by (first | exact Nat.le_refl _ | assumption | (simp; done) | omega | (simp; omega))) _ | refine Below.setCell ?_ (by (first | exact Nat.le_refl _ | assumption | (simp; done) | omega | (simp; omega))) _ | refine Below.trans ?_ (Below.mono (by assumption) (by (first | exact Nat.le_refl _ | assumption | (simp; done) | omega | (simp; omega))))))
set_option maxHeartbeats 8000000 in
attribute [local go_sem] setCell_drewN in
theorem parse10c (t : ByteArray) (h60 : 60 ≤ t.size) (h : t.size ≤ 9000000000000000000) (V0 V1 TV SV K : Int) (r0 : rd t.data.toList 0 6 = V0) (r1 : rd t.data.toList 6 6 = V1) (r2 : rd t.data.toList 12 2 = 33024) (r3 : rd t.data.toList 14 2 = TV) (b0 : 0 ≤ TV) (b1 : TV < 65536) (r6 : rd t.data.toList 16 2 = K) (k0 : 0 ≤ K) (k1 : K < 65536) (n2 : ¬ K = 61889) (k2 : ¬ 1500 < K) (k3 : ¬ 18 + K ≤ t.size) (w : World) :
    Calls Try.prog 43 #[.string t] w fun e w' => e = .panicked [{ v := .iface 104 (.agg #[]), recovered := false }] ∧ Below w.heap.size w w' := by
  have ha := and_8191 TV b0 b1
  go_enter Try.func43, Try.ntmps43
  go_wp2_with (fail)
  refine (number_v t 0 6 V0 (by assumption) h (by omega) (by omega) (by omega) _ 6 0 rfl rfl _ (by go_simp) (by go_simp) (by go_simp)).mono ?_
  rintro e x1 ⟨rfl, m1, rfl⟩
  go_wp2_with (fail)
  refine (number_v t 6 6 V1 (by assumption) h (by omega) (by omega) (by omega) _ 6 6 rfl rfl _ (by go_simp) (by go_simp) (by go_simp)).mono ?_
  rintro e x2 ⟨rfl, m2, rfl⟩
  go_wp2_with (fail)
  refine (number_v t 12 2 33024 (by assumption) h (by omega) (by omega) (by omega) _ 2 12 rfl rfl _ (by go_simp) (by go_simp) (by go_simp)).mono ?_
  rintro e x3 ⟨rfl, m3, rfl⟩
  go_wp2_with (fail)
  refine (number_v t 14 2 TV (by assumption) h (by omega) (by omega) (by omega) _ 2 14 rfl rfl _ (by go_simp) (by go_simp) (by go_simp)).mono ?_
  rintro e x4 ⟨rfl, m4, rfl⟩
  go_wp2_with (fail)
  refine (number_v t 16 2 K (by assumption) h (by omega) (by omega) (by omega) _ 2 16 rfl rfl _ (by go_simp) (by go_simp) (by go_simp)).mono ?_
  rintro e x5 ⟨rfl, m5, rfl⟩
  go_wp2_with (fail)
  refine (field_no t 18 K.toNat h (by omega) _ K 18 (by omega) rfl _ (by go_simp) (by go_simp) (by go_simp)).mono ?_
  rintro e x6 ⟨rfl, m6, rfl⟩
  go_wp2_with (fail)
  exact ⟨rfl, rfl, (by repeat' (first | exact Below.refl _ _ | assumption | refine below_drewN ?_ _ | refine Below.drew ?_ | refine Below.alloc ?_ (by (first | exact Nat.le_refl _ | assumption | (simp; done) | omega | (simp; omega))) _ | refine Below.setCell ?_ (by (first | exact Nat.le_refl _ | assumption | (simp; done) | omega | (simp; omega))) _ | refine Below.trans ?_ (Below.mono (by assumption) (by (first | exact Nat.le_refl _ | assumption | (simp; done) | omega | (simp; omega))))))⟩
set_option maxHeartbeats 8000000 in
attribute [local go_sem] setCell_drewN in
theorem parse11a (t : ByteArray) (h60 : 60 ≤ t.size) (h : t.size ≤ 9000000000000000000) (V0 V1 TV SV K : Int) (r0 : rd t.data.toList 0 6 = V0) (r1 : rd t.data.toList 6 6 = V1) (r2 : rd t.data.toList 12 2 = 33024) (r3 : rd t.data.toList 14 2 = TV) (b0 : 0 ≤ TV) (b1 : TV < 65536) (r4 : rd t.data.toList 16 2 = 61889) (r5 : rd t.data.toList 20 2 = SV) (r6 : rd t.data.toList 22 2 = K) (k0 : 0 ≤ K) (k1 : K < 65536) (k2 : 1500 < K) (w : World) :
    Calls Try.prog 43 #[.string t] w fun e w' => e = .returned (.agg #[.int .i64 V0, .int .i64 V1, .bool true, .int .i64 (TV / 8192), .int .i64 (TV % 8192), .bool true, .int .i64 SV, .int .i64 K, .string (t.extract 24 (24 + (t.size - 24)))]) ∧ Below w.heap.size w w' := by
  have ha := and_8191 TV b0 b1
  go_enter Try.func43, Try.ntmps43
  go_wp2_with (fail)
  refine (number_v t 0 6 V0 (by assumption) h (by omega) (by omega) (by omega) _ 6 0 rfl rfl _ (by go_simp) (by go_simp) (by go_simp)).mono ?_
  rintro e x1 ⟨rfl, m1, rfl⟩
  go_wp2_with (fail)
  refine (number_v t 6 6 V1 (by assumption) h (by omega) (by omega) (by omega) _ 6 6 rfl rfl _ (by go_simp) (by go_simp) (by go_simp)).mono ?_
  rintro e x2 ⟨rfl, m2, rfl⟩
  go_wp2_with (fail)
  refine (number_v t 12 2 33024 (by assumption) h (by omega) (by omega) (by omega) _ 2 12 rfl rfl _ (by go_simp) (by go_simp) (by go_simp)).mono ?_
  rintro e x3 ⟨rfl, m3, rfl⟩
  go_wp2_with (fail)
  refine (number_v t 14 2 TV (by assumption) h (by omega) (by omega) (by omega) _ 2 14 rfl rfl _ (by go_simp) (by go_simp) (by go_simp)).mono ?_
  rintro e x4 ⟨rfl, m4, rfl⟩
  go_wp2_with (fail)
  refine (number_v t 16 2 61889 (by assumption) h (by omega) (by omega) (by omega) _ 2 16 rfl rfl _ (by go_simp) (by go_simp) (by go_simp)).mono ?_
  rintro e x5 ⟨rfl, m5, rfl⟩
  go_wp2_with (fail)
  refine (field_v t 18 2 h (by omega) _ 2 18 (by omega) rfl _ (by go_simp) (by go_simp) (by go_simp)).mono ?_
  rintro e x6 ⟨rfl, m6, rfl⟩
  go_wp2_with (fail)
  refine (number_v t 20 2 SV (by assumption) h (by omega) (by omega) (by omega) _ 2 20 rfl rfl _ (by go_simp) (by go_simp) (by go_simp)).mono ?_
  rintro e x7 ⟨rfl, m7, rfl⟩
  go_wp2_with (fail)
  refine (number_v t 22 2 K (by assumption) h (by omega) (by omega) (by omega) _ 2 22 rfl rfl _ (by go_simp) (by go_simp) (by go_simp)).mono ?_
  rintro e x8 ⟨rfl, m8, rfl⟩
  go_wp2_with (fail)
  refine (field_v t 24 (t.size - 24) h (by omega) _ ((t.size : Int) - 24) 24 (by omega) rfl _ (by go_simp) (by go_simp) (by go_simp)).mono ?_
  rintro e x9 ⟨rfl, m9, rfl⟩
  go_wp2_with (fail)
  refine bodyPost_ret (v := .agg #[.int .i64 V0, .int .i64 V1, .bool true, .int .i64 (TV / 8192), .int .i64 (TV % 8192), .bool true, .int .i64 SV, .int .i64 K, .string (t.extract 24 (24 + (t.size - 24)))]) (by simp [results, Try.results43, go_sem]) rfl ⟨rfl, ?_⟩
  exact (by repeat' (first | exact Below.refl _ _ | assumption | refine below_drewN ?_ _ | refine Below.drew ?_ | refine Below.alloc ?_ (by (first | exact Nat.le_refl _ | assumption | (simp; done) | omega | (simp; omega))) _ | refine Below.setCell ?_ (by (first | exact Nat.le_refl _ | assumption | (simp; done) | omega | (simp; omega))) _ | refine Below.trans ?_ (Below.mono (by assumption) (by (first | exact Nat.le_refl _ | assumption | (simp; done) | omega | (simp; omega))))))
set_option maxHeartbeats 8000000 in
attribute [local go_sem] setCell_drewN in
theorem parse11b (t : ByteArray) (h60 : 60 ≤ t.size) (h : t.size ≤ 9000000000000000000) (V0 V1 TV SV K : Int) (r0 : rd t.data.toList 0 6 = V0) (r1 : rd t.data.toList 6 6 = V1) (r2 : rd t.data.toList 12 2 = 33024) (r3 : rd t.data.toList 14 2 = TV) (b0 : 0 ≤ TV) (b1 : TV < 65536) (r4 : rd t.data.toList 16 2 = 61889) (r5 : rd t.data.toList 20 2 = SV) (r6 : rd t.data.toList 22 2 = K) (k0 : 0 ≤ K) (k1 : K < 65536) (k2 : ¬ 1500 < K) (k3 : 24 + K ≤ t.size) (w : World) :
    Calls Try.prog 43 #[.string t] w fun e w' => e = .returned (.agg #[.int .i64 V0, .int .i64 V1, .bool true, .int .i64 (TV / 8192), .int .i64 (TV % 8192), .bool true, .int .i64 SV, .int .i64 0, .string (t.extract 24 (24 + K.toNat))]) ∧ Below w.heap.size w w' := by
  have ha := and_8191 TV b0 b1
  go_enter Try.func43, Try.ntmps43
  go_wp2_with (fail)
  refine (number_v t 0 6 V0 (by assumption) h (by omega) (by omega) (by omega) _ 6 0 rfl rfl _ (by go_simp) (by go_simp) (by go_simp)).mono ?_
  rintro e x1 ⟨rfl, m1, rfl⟩
  go_wp2_with (fail)
  refine (number_v t 6 6 V1 (by assumption) h (by omega) (by omega) (by omega) _ 6 6 rfl rfl _ (by go_simp) (by go_simp) (by go_simp)).mono ?_
  rintro e x2 ⟨rfl, m2, rfl⟩
  go_wp2_with (fail)
  refine (number_v t 12 2 33024 (by assumption) h (by omega) (by omega) (by omega) _ 2 12 rfl rfl _ (by go_simp) (by go_simp) (by go_simp)).mono ?_
  rintro e x3 ⟨rfl, m3, rfl⟩
  go_wp2_with (fail)
  refine (number_v t 14 2 TV (by assumption) h (by omega) (by omega) (by omega) _ 2 14 rfl rfl _ (by go_simp) (by go_simp) (by go_simp)).mono ?_
  rintro e x4 ⟨rfl, m4, rfl⟩
  go_wp2_with (fail)
  refine (number_v t 16 2 61889 (by assumption) h (by omega) (by omega) (by omega) _ 2 16 rfl rfl _ (by go_simp) (by go_simp) (by go_simp)).mono ?_
  rintro e x5 ⟨rfl, m5, rfl⟩
  go_wp2_with (fail)
  refine (field_v t 18 2 h (by omega) _ 2 18 (by omega) rfl _ (by go_simp) (by go_simp) (by go_simp)).mono ?_
  rintro e x6 ⟨rfl, m6, rfl⟩
  go_wp2_with (fail)
  refine (number_v t 20 2 SV (by assumption) h (by omega) (by omega) (by omega) _ 2 20 rfl rfl _ (by go_simp) (by go_simp) (by go_simp)).mono ?_
  rintro e x7 ⟨rfl, m7, rfl⟩
  go_wp2_with (fail)
  refine (number_v t 22 2 K (by assumption) h (by omega) (by omega) (by omega) _ 2 22 rfl rfl _ (by go_simp) (by go_simp) (by go_simp)).mono ?_
  rintro e x8 ⟨rfl, m8, rfl⟩
  go_wp2_with (fail)
  refine (field_v t 24 K.toNat h (by omega) _ K 24 (by omega) rfl _ (by go_simp) (by go_simp) (by go_simp)).mono ?_
  rintro e x9 ⟨rfl, m9, rfl⟩
  go_wp2_with (fail)
  refine bodyPost_ret (v := .agg #[.int .i64 V0, .int .i64 V1, .bool true, .int .i64 (TV / 8192), .int .i64 (TV % 8192), .bool true, .int .i64 SV, .int .i64 0, .string (t.extract 24 (24 + K.toNat))]) (by simp [results, Try.results43, go_sem]) rfl ⟨rfl, ?_⟩
  exact (by repeat' (first | exact Below.refl _ _ | assumption | refine below_drewN ?_ _ | refine Below.drew ?_ | refine Below.alloc ?_ (by (first | exact Nat.le_refl _ | assumption | (simp; done) | omega | (simp; omega))) _ | refine Below.setCell ?_ (by (first | exact Nat.le_refl _ | assumption | (simp; done) | omega | (simp; omega))) _ | refine Below.trans ?_ (Below.mono (by assumption) (by (first | exact Nat.le_refl _ | assumption | (simp; done) | omega | (simp; omega))))))
set_option maxHeartbeats 8000000 in
attribute [local go_sem] setCell_drewN in
theorem parse11c (t : ByteArray) (h60 : 60 ≤ t.size) (h : t.size ≤ 9000000000000000000) (V0 V1 TV SV K : Int) (r0 : rd t.data.toList 0 6 = V0) (r1 : rd t.data.toList 6 6 = V1) (r2 : rd t.data.toList 12 2 = 33024) (r3 : rd t.data.toList 14 2 = TV) (b0 : 0 ≤ TV) (b1 : TV < 65536) (r4 : rd t.data.toList 16 2 = 61889) (r5 : rd t.data.toList 20 2 = SV) (r6 : rd t.data.toList 22 2 = K) (k0 : 0 ≤ K) (k1 : K < 65536) (k2 : ¬ 1500 < K) (k3 : ¬ 24 + K ≤ t.size) (w : World) :
    Calls Try.prog 43 #[.string t] w fun e w' => e = .panicked [{ v := .iface 104 (.agg #[]), recovered := false }] ∧ Below w.heap.size w w' := by
  have ha := and_8191 TV b0 b1
  go_enter Try.func43, Try.ntmps43
  go_wp2_with (fail)
  refine (number_v t 0 6 V0 (by assumption) h (by omega) (by omega) (by omega) _ 6 0 rfl rfl _ (by go_simp) (by go_simp) (by go_simp)).mono ?_
  rintro e x1 ⟨rfl, m1, rfl⟩
  go_wp2_with (fail)
  refine (number_v t 6 6 V1 (by assumption) h (by omega) (by omega) (by omega) _ 6 6 rfl rfl _ (by go_simp) (by go_simp) (by go_simp)).mono ?_
  rintro e x2 ⟨rfl, m2, rfl⟩
  go_wp2_with (fail)
  refine (number_v t 12 2 33024 (by assumption) h (by omega) (by omega) (by omega) _ 2 12 rfl rfl _ (by go_simp) (by go_simp) (by go_simp)).mono ?_
  rintro e x3 ⟨rfl, m3, rfl⟩
  go_wp2_with (fail)
  refine (number_v t 14 2 TV (by assumption) h (by omega) (by omega) (by omega) _ 2 14 rfl rfl _ (by go_simp) (by go_simp) (by go_simp)).mono ?_
  rintro e x4 ⟨rfl, m4, rfl⟩
  go_wp2_with (fail)
  refine (number_v t 16 2 61889 (by assumption) h (by omega) (by omega) (by omega) _ 2 16 rfl rfl _ (by go_simp) (by go_simp) (by go_simp)).mono ?_
  rintro e x5 ⟨rfl, m5, rfl⟩
  go_wp2_with (fail)
  refine (field_v t 18 2 h (by omega) _ 2 18 (by omega) rfl _ (by go_simp) (by go_simp) (by go_simp)).mono ?_
  rintro e x6 ⟨rfl, m6, rfl⟩
  go_wp2_with (fail)
  refine (number_v t 20 2 SV (by assumption) h (by omega) (by omega) (by omega) _ 2 20 rfl rfl _ (by go_simp) (by go_simp) (by go_simp)).mono ?_
  rintro e x7 ⟨rfl, m7, rfl⟩
  go_wp2_with (fail)
  refine (number_v t 22 2 K (by assumption) h (by omega) (by omega) (by omega) _ 2 22 rfl rfl _ (by go_simp) (by go_simp) (by go_simp)).mono ?_
  rintro e x8 ⟨rfl, m8, rfl⟩
  go_wp2_with (fail)
  refine (field_no t 24 K.toNat h (by omega) _ K 24 (by omega) rfl _ (by go_simp) (by go_simp) (by go_simp)).mono ?_
  rintro e x9 ⟨rfl, m9, rfl⟩
  go_wp2_with (fail)
  exact ⟨rfl, rfl, (by repeat' (first | exact Below.refl _ _ | assumption | refine below_drewN ?_ _ | refine Below.drew ?_ | refine Below.alloc ?_ (by (first | exact Nat.le_refl _ | assumption | (simp; done) | omega | (simp; omega))) _ | refine Below.setCell ?_ (by (first | exact Nat.le_refl _ | assumption | (simp; done) | omega | (simp; omega))) _ | refine Below.trans ?_ (Below.mono (by assumption) (by (first | exact Nat.le_refl _ | assumption | (simp; done) | omega | (simp; omega))))))⟩
end Go.Proofs.Ytccdhoboidneeaa
