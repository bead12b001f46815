/-
  The contract of frame.parse. Written by gen_parse.py.
-/
import Derived.Test.YtccdhoboidneeaaFrame7
namespace Go.Proofs.Ytccdhoboidneeaa
open Go.RowKit
set_option linter.unusedVariables false

set_option maxHeartbeats 8000000 in
attribute [local go_sem] setCell_drewN in
theorem parse00a (t : ByteArray) (h60 : 60 ≤ t.size) (h : t.size ≤ 9000000000000000000) (V0 V1 TV SV K : Int) (r0 : rd t.data.toList 0 6 = V0) (r1 : rd t.data.toList 6 6 = V1) (r6 : rd t.data.toList 12 2 = K) (k0 : 0 ≤ K) (k1 : K < 65536) (n1 : ¬ K = 33024) (n2 : ¬ K = 61889) (k2 : 1500 < K) (w : World) :
    Calls Try.prog 43 #[.string t] w fun e w' => e = .returned (.agg #[.int .i64 V0, .int .i64 V1, .bool false, .int .i64 0, .int .i64 0, .bool false, .int .i64 0, .int .i64 K, .string (t.extract 14 (14 + (t.size - 14)))]) ∧ Below w.heap.size w w' := by
  go_enter Try.func43, Try.ntmps43
  go_wp2_with (fail)
  refine (number_v t 0 6 V0 (by assumption) h (by omega) (by omega) (by omega) _ 6 0 rfl rfl _ (by go_simp) (by go_simp) (by go_simp)).mono ?_
  rintro e x1 ⟨rfl, m1, rfl⟩
  go_wp2_with (fail)
  refine (number_v t 6 6 V1 (by assumption) h (by omega) (by omega) (by omega) _ 6 6 rfl rfl _ (by go_simp) (by go_simp) (by go_simp)).mono ?_
  rintro e x2 ⟨rfl, m2, rfl⟩
  go_wp2_with (fail)
  refine (number_v t 12 2 K (by assumption) h (by omega) (by omega) (by omega) _ 2 12 rfl rfl _ (by go_simp) (by go_simp) (by go_simp)).mono ?_
  rintro e x3 ⟨rfl, m3, rfl⟩
  go_wp2_with (fail)
  refine (field_v t 14 (t.size - 14) h (by omega) _ ((t.size : Int) - 14) 14 (by omega) rfl _ (by go_simp) (by go_simp) (by go_simp)).mono ?_
  rintro e x4 ⟨rfl, m4, rfl⟩
  go_wp2_with (fail)
  refine bodyPost_ret (v := .agg #[.int .i64 V0, .int .i64 V1, .bool false, .int .i64 0, .int .i64 0, .bool false, .int .i64 0, .int .i64 K, .string (t.extract 14 (14 + (t.size - 14)))]) (by simp [results, Try.results43, go_sem]) rfl ⟨rfl, ?_⟩
  exact (by repeat' (first | exact Below.refl _ _ | assumption | refine below_drewN ?_ _ | refine Below.drew ?_ | refine Below.alloc ?_ (by (first | exact Nat.le_refl _ | assumption | (simp; done) | omega | (simp; omega))) _ | refine Below.setCell ?_ (by (first | exact Nat.le_refl _ | assumption | (simp; done) | omega | (simp; omega))) _ | refine Below.trans ?_ (Below.mono (by assumption) (by (first | exact Nat.le_refl _ | assumption | (simp; done) | omega | (simp; omega))))))
set_option maxHeartbeats 8000000 in
attribute [local go_sem] setCell_drewN in
theorem parse00b (t : ByteArray) (h60 : 60 ≤ t.size) (h : t.size ≤ 9000000000000000000) (V0 V1 TV SV K : Int) (r0 : rd t.data.toList 0 6 = V0) (r1 : rd t.data.toList 6 6 = V1) (r6 : rd t.data.toList 12 2 = K) (k0 : 0 ≤ K) (k1 : K < 65536) (n1 : ¬ K = 33024) (n2 : ¬ K = 61889) (k2 : ¬ 1500 < K) (k3 : 14 + K ≤ t.size) (w : World) :
    Calls Try.prog 43 #[.string t] w fun e w' => e = .returned (.agg #[.int .i64 V0, .int .i64 V1, .bool false, .int .i64 0, .int .i64 0, .bool false, .int .i64 0, .int .i64 0, .string (t.extract 14 (14 + K.toNat))]) ∧ Below w.heap.size w w' := by
  go_enter Try.func43, Try.ntmps43
  go_wp2_with (fail)
  refine (number_v t 0 6 V0 (by assumption) h (by omega) (by omega) (by omega) _ 6 0 rfl rfl _ (by go_simp) (by go_simp) (by go_simp)).mono ?_
  rintro e x1 ⟨rfl, m1, rfl⟩
  go_wp2_with (fail)
  refine (number_v t 6 6 V1 (by assumption) h (by omega) (by omega) (by omega) _ 6 6 rfl rfl _ (by go_simp) (by go_simp) (by go_simp)).mono ?_
  rintro e x2 ⟨rfl, m2, rfl⟩
  go_wp2_with (fail)
  refine (number_v t 12 2 K (by assumption) h (by omega) (by omega) (by omega) _ 2 12 rfl rfl _ (by go_simp) (by go_simp) (by go_simp)).mono ?_
  rintro e x3 ⟨rfl, m3, rfl⟩
  go_wp2_with (fail)
  refine (field_v t 14 K.toNat h (by omega) _ K 14 (by omega) rfl _ (by go_simp) (by go_simp) (by go_simp)).mono ?_
  rintro e x4 ⟨rfl, m4, rfl⟩
  go_wp2_with (fail)
  refine bodyPost_ret (v := .agg #[.int .i64 V0, .int .i64 V1, .bool false, .int .i64 0, .int .i64 0, .bool false, .int .i64 0, .int .i64 0, .string (t.extract 14 (14 + K.toNat))]) (by simp [results, Try.results43, go_sem]) rfl ⟨rfl, ?_⟩
  exact (by repeat' (first | exact Below.refl _ _ | assumption | refine below_drewN ?_ _ | refine Below.drew ?_ | refine Below.alloc ?_ (by (first | exact Nat.le_refl _ | assumption | (simp; done) | omega | (simp; omega))) _ | refine Below.setCell ?_ (by (first | exact Nat.le_refl _ | assumption | (simp; done) | omega | (simp; omega))) _ | refine Below.trans ?_ (Below.mono (by assumption) (by (first | exact Nat.le_refl _ | assumption | (simp; done) | omega | (simp; omega))))))
set_option maxHeartbeats 8000000 in
attribute [local go_sem] setCell_drewN in
theorem parse00c (t : ByteArray) (h60 : 60 ≤ t.size) (h : t.size ≤ 9000000000000000000) (V0 V1 TV SV K : Int) (r0 : rd t.data.toList 0 6 = V0) (r1 : rd t.data.toList 6 6 = V1) (r6 : rd t.data.toList 12 2 = K) (k0 : 0 ≤ K) (k1 : K < 65536) (n1 : ¬ K = 33024) (n2 : ¬ K = 61889) (k2 : ¬ 1500 < K) (k3 : ¬ 14 + K ≤ t.size) (w : World) :
    Calls Try.prog 43 #[.string t] w fun e w' => e = .panicked [{ v := .iface 104 (.agg #[]), recovered := false }] ∧ Below w.heap.size w w' := by
  go_enter Try.func43, Try.ntmps43
  go_wp2_with (fail)
  refine (number_v t 0 6 V0 (by assumption) h (by omega) (by omega) (by omega) _ 6 0 rfl rfl _ (by go_simp) (by go_simp) (by go_simp)).mono ?_
  rintro e x1 ⟨rfl, m1, rfl⟩
  go_wp2_with (fail)
  refine (number_v t 6 6 V1 (by assumption) h (by omega) (by omega) (by omega) _ 6 6 rfl rfl _ (by go_simp) (by go_simp) (by go_simp)).mono ?_
  rintro e x2 ⟨rfl, m2, rfl⟩
  go_wp2_with (fail)
  refine (number_v t 12 2 K (by assumption) h (by omega) (by omega) (by omega) _ 2 12 rfl rfl _ (by go_simp) (by go_simp) (by go_simp)).mono ?_
  rintro e x3 ⟨rfl, m3, rfl⟩
  go_wp2_with (fail)
  refine (field_no t 14 K.toNat h (by omega) _ K 14 (by omega) rfl _ (by go_simp) (by go_simp) (by go_simp)).mono ?_
  rintro e x4 ⟨rfl, m4, rfl⟩
  go_wp2_with (fail)
  exact ⟨rfl, rfl, (by repeat' (first | exact Below.refl _ _ | assumption | refine below_drewN ?_ _ | refine Below.drew ?_ | refine Below.alloc ?_ (by (first | exact Nat.le_refl _ | assumption | (simp; done) | omega | (simp; omega))) _ | refine Below.setCell ?_ (by (first | exact Nat.le_refl _ | assumption | (simp; done) | omega | (simp; omega))) _ | refine Below.trans ?_ (Below.mono (by assumption) (by (first | exact Nat.le_refl _ | assumption | (simp; done) | omega | (simp; omega))))))⟩
set_option maxHeartbeats 8000000 in
attribute [local go_sem] setCell_drewN in
theorem parse01a (t : ByteArray) (h60 : 60 ≤ t.size) (h : t.size ≤ 9000000000000000000) (V0 V1 TV SV K : Int) (r0 : rd t.data.toList 0 6 = V0) (r1 : rd t.data.toList 6 6 = V1) (r4 : rd t.data.toList 12 2 = 61889) (r5 : rd t.data.toList 16 2 = SV) (r6 : rd t.data.toList 18 2 = K) (k0 : 0 ≤ K) (k1 : K < 65536) (k2 : 1500 < K) (w : World) :
    Calls Try.prog 43 #[.string t] w fun e w' => e = .returned (.agg #[.int .i64 V0, .int .i64 V1, .bool false, .int .i64 0, .int .i64 0, .bool true, .int .i64 SV, .int .i64 K, .string (t.extract 20 (20 + (t.size - 20)))]) ∧ Below w.heap.size w w' := by
  go_enter Try.func43, Try.ntmps43
  go_wp2_with (fail)
  refine (number_v t 0 6 V0 (by assumption) h (by omega) (by omega) (by omega) _ 6 0 rfl rfl _ (by go_simp) (by go_simp) (by go_simp)).mono ?_
  rintro e x1 ⟨rfl, m1, rfl⟩
  go_wp2_with (fail)
  refine (number_v t 6 6 V1 (by assumption) h (by omega) (by omega) (by omega) _ 6 6 rfl rfl _ (by go_simp) (by go_simp) (by go_simp)).mono ?_
  rintro e x2 ⟨rfl, m2, rfl⟩
  go_wp2_with (fail)
  refine (number_v t 12 2 61889 (by assumption) h (by omega) (by omega) (by omega) _ 2 12 rfl rfl _ (by go_simp) (by go_simp) (by go_simp)).mono ?_
  rintro e x3 ⟨rfl, m3, rfl⟩
  go_wp2_with (fail)
  refine (field_v t 14 2 h (by omega) _ 2 14 (by omega) rfl _ (by go_simp) (by go_simp) (by go_simp)).mono ?_
  rintro e x4 ⟨rfl, m4, rfl⟩
  go_wp2_with (fail)
  refine (number_v t 16 2 SV (by assumption) h (by omega) (by omega) (by omega) _ 2 16 rfl rfl _ (by go_simp) (by go_simp) (by go_simp)).mono ?_
  rintro e x5 ⟨rfl, m5, rfl⟩
  go_wp2_with (fail)
  refine (number_v t 18 2 K (by assumption) h (by omega) (by omega) (by omega) _ 2 18 rfl rfl _ (by go_simp) (by go_simp) (by go_simp)).mono ?_
  rintro e x6 ⟨rfl, m6, rfl⟩
  go_wp2_with (fail)
  refine (field_v t 20 (t.size - 20) h (by omega) _ ((t.size : Int) - 20) 20 (by omega) rfl _ (by go_simp) (by go_simp) (by go_simp)).mono ?_
  rintro e x7 ⟨rfl, m7, rfl⟩
  go_wp2_with (fail)
  refine bodyPost_ret (v := .agg #[.int .i64 V0, .int .i64 V1, .bool false, .int .i64 0, .int .i64 0, .bool true, .int .i64 SV, .int .i64 K, .string (t.extract 20 (20 + (t.size - 20)))]) (by simp [results, Try.results43, go_sem]) rfl ⟨rfl, ?_⟩
  exact (by repeat' (first | exact Below.refl _ _ | assumption | refine below_drewN ?_ _ | refine Below.drew ?_ | refine Below.alloc ?_ (by (first | exact Nat.le_refl _ | assumption | (simp; done) | omega | (simp; omega))) _ | refine Below.setCell ?_ (by (first | exact Nat.le_refl _ | assumption | (simp; done) | omega | (simp; omega))) _ | refine Below.trans ?_ (Below.mono (by assumption) (by (first | exact Nat.le_refl _ | assumption | (simp; done) | omega | (simp; omega))))))
set_option maxHeartbeats 8000000 in
attribute [local go_sem] setCell_drewN in
theorem parse01b (t : ByteArray) (h60 : 60 ≤ t.size) (h : t.size ≤ 9000000000000000000) (V0 V1 TV SV K : Int) (r0 : rd t.data.toList 0 6 = V0) (r1 : rd t.data.toList 6 6 = V1) (r4 : rd t.data.toList 12 2 = 61889) (r5 : rd t.data.toList 16 2 = SV) (r6 : rd t.data.toList 18 2 = K) (k0 : 0 ≤ K) (k1 : K < 65536) (k2 : ¬ 1500 < K) (k3 : 20 + K ≤ t.size) (w : World) :
    Calls Try.prog 43 #[.string t] w fun e w' => e = .returned (.agg #[.int .i64 V0, .int .i64 V1, .bool false, .int .i64 0, .int .i64 0, .bool true, .int .i64 SV, .int .i64 0, .string (t.extract 20 (20 + K.toNat))]) ∧ Below w.heap.size w w' := by
  go_enter Try.func43, Try.ntmps43
  go_wp2_with (fail)
  refine (number_v t 0 6 V0 (by assumption) h (by omega) (by omega) (by omega) _ 6 0 rfl rfl _ (by go_simp) (by go_simp) (by go_simp)).mono ?_
  rintro e x1 ⟨rfl, m1, rfl⟩
  go_wp2_with (fail)
  refine (number_v t 6 6 V1 (by assumption) h (by omega) (by omega) (by omega) _ 6 6 rfl rfl _ (by go_simp) (by go_simp) (by go_simp)).mono ?_
  rintro e x2 ⟨rfl, m2, rfl⟩
  go_wp2_with (fail)
  refine (number_v t 12 2 61889 (by assumption) h (by omega) (by omega) (by omega) _ 2 12 rfl rfl _ (by go_simp) (by go_simp) (by go_simp)).mono ?_
  rintro e x3 ⟨rfl, m3, rfl⟩
  go_wp2_with (fail)
  refine (field_v t 14 2 h (by omega) _ 2 14 (by omega) rfl _ (by go_simp) (by go_simp) (by go_simp)).mono ?_
  rintro e x4 ⟨rfl, m4, rfl⟩
  go_wp2_with (fail)
  refine (number_v t 16 2 SV (by assumption) h (by omega) (by omega) (by omega) _ 2 16 rfl rfl _ (by go_simp) (by go_simp) (by go_simp)).mono ?_
  rintro e x5 ⟨rfl, m5, rfl⟩
  go_wp2_with (fail)
  refine (number_v t 18 2 K (by assumption) h (by omega) (by omega) (by omega) _ 2 18 rfl rfl _ (by go_simp) (by go_simp) (by go_simp)).mono ?_
  rintro e x6 ⟨rfl, m6, rfl⟩
  go_wp2_with (fail)
  refine (field_v t 20 K.toNat h (by omega) _ K 20 (by omega) rfl _ (by go_simp) (by go_simp) (by go_simp)).mono ?_
  rintro e x7 ⟨rfl, m7, rfl⟩
  go_wp2_with (fail)
  refine bodyPost_ret (v := .agg #[.int .i64 V0, .int .i64 V1, .bool false, .int .i64 0, .int .i64 0, .bool true, .int .i64 SV, .int .i64 0, .string (t.extract 20 (20 + K.toNat))]) (by simp [results, Try.results43, go_sem]) rfl ⟨rfl, ?_⟩
  exact (by repeat' (first | exact Below.refl _ _ | assumption | refine below_drewN ?_ _ | refine Below.drew ?_ | refine Below.alloc ?_ (by (first | exact Nat.le_refl _ | assumption | (simp; done) | omega | (simp; omega))) _ | refine Below.setCell ?_ (by (first | exact Nat.le_refl _ | assumption | (simp; done) | omega | (simp; omega))) _ | refine Below.trans ?_ (Below.mono (by assumption) (by (first | exact Nat.le_refl _ | assumption | (simp; done) | omega | (simp; omega))))))
set_option maxHeartbeats 8000000 in
attribute [local go_sem] setCell_drewN in
theorem parse01c (t : ByteArray) (h60 : 60 ≤ t.size) (h : t.size ≤ 9000000000000000000) (V0 V1 TV SV K : Int) (r0 : rd t.data.toList 0 6 = V0) (r1 : rd t.data.toList 6 6 = V1) (r4 : rd t.data.toList 12 2 = 61889) (r5 : rd t.data.toList 16 2 = SV) (r6 : rd t.data.toList 18 2 = K) (k0 : 0 ≤ K) (k1 : K < 65536) (k2 : ¬ 1500 < K) (k3 : ¬ 20 + K ≤ t.size) (w : World) :
    Calls Try.prog 43 #[.string t] w fun e w' => e = .panicked [{ v := .iface 104 (.agg #[]), recovered := false }] ∧ Below w.heap.size w w' := by
  go_enter Try.func43, Try.ntmps43
  go_wp2_with (fail)
  refine (number_v t 0 6 V0 (by assumption) h (by omega) (by omega) (by omega) _ 6 0 rfl rfl _ (by go_simp) (by go_simp) (by go_simp)).mono ?_
  rintro e x1 ⟨rfl, m1, rfl⟩
  go_wp2_with (fail)
  refine (number_v t 6 6 V1 (by assumption) h (by omega) (by omega) (by omega) _ 6 6 rfl rfl _ (by go_simp) (by go_simp) (by go_simp)).mono ?_
  rintro e x2 ⟨rfl, m2, rfl⟩
  go_wp2_with (fail)
  refine (number_v t 12 2 61889 (by assumption) h (by omega) (by omega) (by omega) _ 2 12 rfl rfl _ (by go_simp) (by go_simp) (by go_simp)).mono ?_
  rintro e x3 ⟨rfl, m3, rfl⟩
  go_wp2_with (fail)
  refine (field_v t 14 2 h (by omega) _ 2 14 (by omega) rfl _ (by go_simp) (by go_simp) (by go_simp)).mono ?_
  rintro e x4 ⟨rfl, m4, rfl⟩
  go_wp2_with (fail)
  refine (number_v t 16 2 SV (by assumption) h (by omega) (by omega) (by omega) _ 2 16 rfl rfl _ (by go_simp) (by go_simp) (by go_simp)).mono ?_
  rintro e x5 ⟨rfl, m5, rfl⟩
  go_wp2_with (fail)
  refine (number_v t 18 2 K (by assumption) h (by omega) (by omega) (by omega) _ 2 18 rfl rfl _ (by go_simp) (by go_simp) (by go_simp)).mono ?_
  rintro e x6 ⟨rfl, m6, rfl⟩
  go_wp2_with (fail)
  refine (field_no t 20 K.toNat h (by omega) _ K 20 (by omega) rfl _ (by go_simp) (by go_simp) (by go_simp)).mono ?_
  rintro e x7 ⟨rfl, m7, rfl⟩
  go_wp2_with (fail)
  exact ⟨rfl, rfl, (by repeat' (first | exact Below.refl _ _ | assumption | refine below_drewN ?_ _ | refine Below.drew ?_ | refine Below.alloc ?_ (by (first | exact Nat.le_refl _ | assumption | (simp; done) | omega | (simp; omega))) _ | refine Below.setCell ?_ (by (first | exact Nat.le_refl _ | assumption | (simp; done) | omega | (simp; omega))) _ | refine Below.trans ?_ (Below.mono (by assumption) (by (first | exact Nat.le_refl _ | assumption | (simp; done) | omega | (simp; omega))))))⟩
end Go.Proofs.Ytccdhoboidneeaa
