/-
  Contracts of package wire's functions: what each of them returns, for every argument that the statements of this seat hand to it.
-/
import Derived.Test.YtppdfnghojcppaaChecked
import Derived.Test.YtppdfnghojcppaaWireMath
import Derived.WalkKit
import Derived.WalkLawsBesides
import Derived.BigQuiet
import Derived.Deep.QuietTactic
import Derived.Lib.Hide
import Derived.Lib.SlBytesRow
namespace Go.Proofs.Ytppdfnghojcppaa
open Go.RowKit
set_option linter.unusedVariables false

/-- A string of octets as the program's value holds it. -/
def S (l : List UInt8) : ByteArray := ⟨l.toArray⟩
theorem S_toList (l : List UInt8) : (S l).toList = l := ByteArray.toList_mk l
theorem S_size (l : List UInt8) : (S l).size = l.length := by simp [S, ByteArray.size]
theorem S_append (l m : List UInt8) : S l ++ S m = S (l ++ m) := ByteArray.mk_append_mk l m
theorem S_of (s : ByteArray) : S s.data.toList = s := by cases s; rfl
theorem S_extract (l : List UInt8) (a b : Nat) : (S l).extract a b = S ((l.drop a).take (b - a)) := ByteArray.extract_mk l a b

theorem bcell {W w1 : World} (hb : Below W.heap.size W w1) : (∀ b o, b < W.heap.size → w1.cell? ⟨b, o, none⟩ = W.cell? ⟨b, o, none⟩) ∧ (∀ b o, b < W.heap.size → w1.frozen? ⟨b, o, none⟩ = W.frozen? ⟨b, o, none⟩) :=
  ⟨fun b o h => hb.cell (p := ⟨b, o, none⟩) h, fun b o h => hb.frozen (p := ⟨b, o, none⟩) h⟩

/-- The digits of n to the base 256, as octets in memory. -/
def dig8 (n : Nat) : Array Value := #[.int .u8 ((n : Int) / 256 / 256 / 256 / 256 / 256 / 256 / 256), .int .u8 ((n : Int) / 256 / 256 / 256 / 256 / 256 / 256 % 256), .int .u8 ((n : Int) / 256 / 256 / 256 / 256 / 256 % 256), .int .u8 ((n : Int) / 256 / 256 / 256 / 256 % 256),
  .int .u8 ((n : Int) / 256 / 256 / 256 % 256), .int .u8 ((n : Int) / 256 / 256 % 256), .int .u8 ((n : Int) / 256 % 256), .int .u8 ((n : Int) % 256)]

theorem digits_any (n : Nat) (hn : n < 18446744073709551616) (w : World) :
    Calls Try.prog 77 #[.int .u64 n] w fun e w' => e = .returned (.agg (dig8 n)) ∧ Below w.heap.size w w' := by
  go_enter Try.func77, Try.ntmps77
  go_wp2
  refine wp_loop_rounds 9 ?_
  rw [rounds_succ]; go_wp2
  rw [rounds_succ]; go_wp2
  rw [rounds_succ]; go_wp2
  rw [rounds_succ]; go_wp2
  rw [rounds_succ]; go_wp2
  rw [rounds_succ]; go_wp2
  rw [rounds_succ]; go_wp2
  rw [rounds_succ]; go_wp2
  rw [rounds_succ]; go_wp2
  refine bodyPost_ret (v := .agg (dig8 n)) (by simp [results, Try.results77, go_sem, dig8]) rfl ⟨rfl, ?_⟩
  exact ((Below.refl _ _).alloc (Nat.le_refl _) _).alloc (by simp) _

/-- The greatest number of k octets. -/
def lim (k : Nat) : Int := ((256 ^ k : Nat) : Int) - 1
theorem lim_le (k : Nat) (h1 : 1 ≤ k) (h7 : k ≤ 7) : 255 ≤ lim k ∧ lim k ≤ 72057594037927935 := by
  have hk : k = 1 ∨ k = 2 ∨ k = 3 ∨ k = 4 ∨ k = 5 ∨ k = 6 ∨ k = 7 := by omega
  rcases hk with rfl | rfl | rfl | rfl | rfl | rfl | rfl <;> decide
/-- The greatest number whose two's complement has k octets. -/
def lim2 (k : Nat) : Int := ((128 * 256 ^ (k - 1) : Nat) : Int) - 1
theorem lim2_le (k : Nat) (h1 : 1 ≤ k) (h8 : k ≤ 8) : 127 ≤ lim2 k ∧ lim2 k ≤ 9223372036854775807 := by
  have hk : k = 1 ∨ k = 2 ∨ k = 3 ∨ k = 4 ∨ k = 5 ∨ k = 6 ∨ k = 7 ∨ k = 8 := by omega
  rcases hk with rfl | rfl | rfl | rfl | rfl | rfl | rfl | rfl <;> decide

theorem put1_any (k : Nat) (h1 : 1 ≤ k) (h7 : k ≤ 7) (p : Addr) (w : World) (hc : w.cell? p = some (.int .i64 k)) :
    Calls Try.prog 74 #[.pointer (some p)] w fun e w' => e = .returned (.tuple #[.int .i64 0, .int .i64 (lim k)]) ∧ Below w.heap.size w w' := by
  have hk : k = 1 ∨ k = 2 ∨ k = 3 ∨ k = 4 ∨ k = 5 ∨ k = 6 ∨ k = 7 := by omega
  clear h1 h7
  rcases hk with rfl | rfl | rfl | rfl | rfl | rfl | rfl
  all_goals
    go_enter Try.func74, Try.ntmps74
    go_wp2
    go_quiet (fail)
    go_wp2
    go_ret2
    exact ⟨rfl, below_drewN (Below.refl _ _) _⟩

/-- The last k digits in memory are a string of digits. -/
theorem dig8_bytes (W : World) (b : Nat) (n : Nat) (hn : n < 18446744073709551616) (h : ∀ j, W.cell? ⟨b, j, none⟩ = (dig8 n)[j]?) : Lib.Bytes W b 0 (S (Wirem.be 8 n)) := by
  intro i hi
  rw [S_size, Wirem.be_length] at hi
  rw [h]
  have hd : ∀ x : Int, 0 ≤ x → x < 256 → (x.toNat % 2 ^ 8 : Nat) = x.toNat := by intro x h0 h1; omega
  have e : ∀ (l : List UInt8) (j : Nat) (hj : j < (S l).size), (S l)[j] = l[j]'(by rwa [S_size] at hj) := fun l j hj => rfl
  rw [e]
  match i, hi with
  | 0, _ => simp [dig8, Wirem.be]; omega
  | 1, _ => simp [dig8, Wirem.be]; omega
  | 2, _ => simp [dig8, Wirem.be]; omega
  | 3, _ => simp [dig8, Wirem.be]; omega
  | 4, _ => simp [dig8, Wirem.be]; omega
  | 5, _ => simp [dig8, Wirem.be]; omega
  | 6, _ => simp [dig8, Wirem.be]; omega
  | 7, _ => simp [dig8, Wirem.be]; omega

theorem u64_nat (n : Int) (k : Nat) (h : n ≤ 9223372036854775807) (h0 : 0 ≤ n) : ∃ m : Nat, n = (m : Int) ∧ m < 18446744073709551616 ∧ Wirem.be k m = Wirem.be k n :=
  ⟨n.toNat, by omega, by omega, by rw [Int.toNat_of_nonneg h0]⟩
theorem u64_wrap (n : Int) (k : Nat) (hk : k ≤ 8) : ∃ m : Nat, IntKind.u64.wrap n = (m : Int) ∧ m < 18446744073709551616 ∧ Wirem.be k m = Wirem.be k n := by
  refine ⟨(n % 18446744073709551616).toNat, ?_, by omega, ?_⟩
  · rw [IntKind.wrap_u64]; omega
  · rw [Int.toNat_of_nonneg (by omega)]
    apply Wirem.be_congr
    apply Int.emod_emod_of_dvd
    have : (18446744073709551616 : Int) = ((256 ^ 8 : Nat) : Int) := by decide
    rw [this]
    exact Int.natCast_dvd_natCast.2 (Nat.pow_dvd_pow 256 hk)

theorem be_drop (k : Nat) (hk : k ≤ 8) (n : Int) : (Wirem.be 8 n).drop (8 - k) = Wirem.be k n := by
  have key : ∀ m k (n : Int), k ≤ m → (Wirem.be m n).drop (m - k) = Wirem.be k n := by
    intro m
    induction m with
    | zero => intro k n h; obtain rfl : k = 0 := by omega
              rfl
    | succ m ih =>
      intro k n h
      cases k with
      | zero => rw [Nat.sub_zero, List.drop_of_length_le (by rw [Wirem.be_length]; omega)]; rfl
      | succ k =>
        rw [Wirem.be, show m + 1 - (k + 1) = m - k by omega, List.drop_append_of_le_length (by rw [Wirem.be_length]; omega), ih k _ (by omega)]
        rfl
  exact key 8 k n hk

theorem slice_dig (W : World) (b : Nat) (k : Nat) (h1 : 1 ≤ k) (h8 : k ≤ 8) :
    (Instr.sliceAt 119 (.pointer (some ⟨b, 0, none⟩)) (some (.int .i64 (8 - (k : Int)))) none none).run Try.prog W = .ok (.slice (some ⟨b, 8 - k, none⟩) k k) W := by
  have hk : k = 1 ∨ k = 2 ∨ k = 3 ∨ k = 4 ∨ k = 5 ∨ k = 6 ∨ k = 7 ∨ k = 8 := by omega
  rcases hk with rfl | rfl | rfl | rfl | rfl | rfl | rfl | rfl <;> (show _ = _; kernel_rfl)
theorem conv_dig (W : World) (b : Nat) (n : Nat) (hn : n < 18446744073709551616) (k : Nat) (h8 : k ≤ 8) (h : ∀ j, W.cell? ⟨b, j, none⟩ = (dig8 n)[j]?) :
    (convert 23 9 (.slice (some ⟨b, 8 - k, none⟩) k k)).run Try.prog W = .ok (.string (S (Wirem.be k n))) W := by
  have h1 := Lib.run_convert_window (P := Try.prog) W 23 5 9 Try.underlying23 Try.underlying5 Try.underlying9 b 0 (S (Wirem.be 8 n)) (dig8_bytes W b n hn h) (8 - k) k k (by rw [S_size, Wirem.be_length]; omega)
  rw [Nat.zero_add, S_extract, be_drop k h8, show 8 - k + k - (8 - k) = k by omega, List.take_of_length_le (by rw [Wirem.be_length]; exact Nat.le_refl _)] at h1
  exact h1
theorem put1_ok (s : ByteArray) (n : Int) (k : Nat) (h1 : 1 ≤ k) (h7 : k ≤ 7) (hn : 0 ≤ n) (hn2 : n ≤ lim k) (hs : s.size ≤ 9000000000000000000) (p : Addr) (w : World) (hc : w.cell? p = some (.int .i64 k)) :
    Calls Try.prog 73 #[.string s, .int .i64 n, .int .i64 k, .int .i64 7, .func (.func 74) #[] #[.pointer (some p)]] w fun e w' =>
      e = .returned (.tuple #[.string (s ++ S (Wirem.be k n)), .int .i64 0]) ∧ Below w.heap.size w w' := by
  have hl := lim_le k h1 h7
  go_enter Try.func73, Try.ntmps73
  go_wp2_with (fail)
  refine (put1_any k h1 h7 p _ hc).mono ?_
  rintro e w1 ⟨rfl, hb1⟩
  go_wp2_with (fail)
  obtain ⟨m, hm, hm2, hbe⟩ := u64_nat n k (by omega) hn
  have H := Lib.hid hbe; clear hbe
  first | rw [hm] | (rw [show (n : Int) = (m : Int) from hm])
  clear hm
  refine (digits_any m hm2 _).mono ?_
  rintro e w2 ⟨rfl, hb2⟩
  have z1 := hb1.size
  have z2 := hb2.size
  have hsl := fun W => slice_dig W w2.heap.size k h1 (by omega)
  have hcv := conv_dig (w2.alloc (.cells (dig8 m) 119)) w2.heap.size m hm2 k (by omega) (fun j => cell_of_row _ _ j _ _ (0, 0) (heap_alloc_new w2 _))
  have hsz : (S (Wirem.be k m)).size ≤ 8 := by rw [S_size, Wirem.be_length]; omega
  simp only [dig8] at hcv ⊢
  go_wp2_with (fail)
  go_ret2
  exact ⟨by rw [H.out]; rfl, (by repeat' (first | exact Below.refl _ _ | assumption | refine below_drewN ?_ _ | refine Below.drew ?_ | refine Below.alloc ?_ (by (first | exact Nat.le_refl _ | assumption | (simp; done) | omega | (simp; omega))) _ | refine Below.setCell ?_ (by (first | exact Nat.le_refl _ | assumption | (simp; done) | omega | (simp; omega))) _ | refine Below.trans ?_ (Below.mono (by assumption) (by (first | exact Nat.le_refl _ | assumption | (simp; done) | omega | (simp; omega))))))⟩

end Go.Proofs.Ytppdfnghojcppaa
