/-
  Contracts of chapter 8: rows of integers, whole frames, the two checks of cuts.
-/
import Derived.Test.YtppdfnghojcppaaMerge2
namespace Go.Proofs.Ytppdfnghojcppaa
open Go.RowKit
set_option linter.unusedVariables false

/-- The numbers of a slice, as they lie in memory. -/
def Ints (W : World) (k : IntKind) (p : Option Addr) (l : List Int) : Prop :=
  l = [] ∨ ∃ b o, p = some ⟨b, o, none⟩ ∧ b < W.heap.size ∧ ∀ j, j < l.length → W.cell? ⟨b, o + j, none⟩ = some (.int k (l.getD j 0))
theorem Ints.nil (W : World) (k : IntKind) (p : Option Addr) : Ints W k p [] := Or.inl rfl
theorem Ints.keep {W W' : World} {k : IntKind} {p : Option Addr} {l : List Int} (h : Ints W k p l) (hb : Below W.heap.size W W') : Ints W' k p l := by
  rcases h with h | ⟨b, o, rfl, hlt, hc⟩
  · exact Or.inl h
  · exact Or.inr ⟨b, o, rfl, Nat.lt_of_lt_of_le hlt hb.size, fun j hj => by rw [(bcell hb).1 b _ hlt]; exact hc j hj⟩
theorem Ints.at {W : World} {k : IntKind} {p : Option Addr} {l : List Int} (h : Ints W k p l) {j : Nat} (hj : j < l.length) : ∃ b o, p = some ⟨b, o, none⟩ ∧ b < W.heap.size ∧ W.cell? ⟨b, o + j, none⟩ = some (.int k (l.getD j 0)) := by
  rcases h with h | ⟨b, o, rfl, hlt, hc⟩
  · rw [h] at hj; cases hj
  · exact ⟨b, o, rfl, hlt, hc j hj⟩

theorem cutsOk_step (n : Nat) (cuts : List Int) (k : Nat) (last : Int) (h : k < cuts.length) :
    cutsOk n last (cuts.drop k) = (decide (cuts.getD k 0 ≤ (n : Int) - 64 ∧ last + 60 ≤ cuts.getD k 0) && cutsOk n (cuts.getD k 0) (cuts.drop (k + 1))) := by
  have hg : cuts.getD k 0 = cuts[k] := by simp [List.getD, h]
  rw [List.drop_eq_getElem_cons h, cutsOk, hg]

theorem Whole_any (s : ByteArray) (hs : s.size ≤ 9000000000000000000) (w : World) : Calls Try.prog 40 #[.string s] w fun e w' => e = .returned (.bool (whole s)) ∧ Below w.heap.size w w' := by
  have hr : whole s = (lng s 64 1522 && goodB 0 s) := rfl
  have hq := lng_iff s 64 1522
  have C := Lib.hid (RGood_any s hs)
  generalize lng s 64 1522 = q at hq hr
  generalize goodB 0 s = g at C hr
  have HR := Lib.hid hr; clear hr
  by_cases h0 : 64 ≤ s.size
  · by_cases h1 : s.size ≤ 1522
    · have : q = true := hq.2 (by omega)
      subst this
      clear hq
      go_enter Try.func40, Try.ntmps40
      go_wp2_with (fail)
      refine (C.out _).mono ?_
      rintro e w1 ⟨rfl, g1⟩
      go_wp2_with (fail)
      go_ret
      exact ⟨ret_b (by rw [HR.out]; rfl), g1⟩
    · have : q = false := by cases q <;> simp_all; omega
      subst this
      clear hq
      go_enter Try.func40, Try.ntmps40
      go_wp2_with (fail)
      go_ret
      exact ⟨ret_b (by rw [HR.out]; rfl), Below.refl _ _⟩
  · have : q = false := by cases q <;> simp_all; omega
    subst this
    clear hq
    go_enter Try.func40, Try.ntmps40
    go_wp2_with (fail)
    go_ret
    exact ⟨ret_b (by rw [HR.out]; rfl), Below.refl _ _⟩

def cutC (b : Bool) : Int := if b then 0 else 180
theorem checkCuts_any (s : ByteArray) (hs : s.size ≤ 9000000000000000000) (p : Option Addr) (cap : Nat) (cuts : List Int) (w : World) (hl : cuts.length ≤ 9000000000000000000) (hp : Ints w .i64 p cuts) :
    Calls Try.prog 38 #[.string s, .slice p cuts.length cap] w fun e w' => e = .returned (.int .i64 (cutC (cutsOk s.size 0 cuts))) ∧ w = w' := by
  have HP := Lib.hid hp; clear hp
  have h00 : cutsOk s.size 0 cuts = cutsOk s.size 0 (cuts.drop 0) := rfl
  have H0 := Lib.hid h00; clear h00
  go_enter Try.func38, Try.ntmps38
  go_wp2_with (fail)
  go_loop [5, 7, 10] (fun l _ i => ∃ (k : Nat) (last : Int), k ≤ cuts.length ∧ -60 ≤ last ∧ last ≤ 9000000000000000000 ∧ i = .int .i64 k ∧ l = .int .i64 (last + 60) ∧ cutsOk s.size 0 cuts = cutsOk s.size last (cuts.drop k)) (fun _ _ i => cuts.length - (intOf i).toNat)
  case atStart => exact ⟨0, 0, by omega, by omega, by omega, rfl, rfl, H0.out⟩
  case round =>
    obtain ⟨k, last, hk, hl0, hl1, rfl, rfl, hinv⟩ := hrel
    have HI := Lib.hid hinv; clear hinv
    by_cases hlt : k < cuts.length
    · have hst := cutsOk_step s.size cuts k last hlt
      have hat := HP.out.at hlt
      generalize cuts.getD k 0 = x at hst hat
      obtain ⟨b, o, rfl, hb, hc⟩ := hat
      have HS := Lib.hid hst; clear hst
      by_cases h1 : x < last + 60
      · go_wp2_with (fail)
        go_ret
        exact ⟨ret_i (by rw [HI.out, HS.out, decide_eq_false (by omega)]; rfl), rfl⟩
      by_cases h2 : (s.size : Int) - 64 < x
      · go_wp2_with (fail)
        go_ret
        exact ⟨ret_i (by rw [HI.out, HS.out, decide_eq_false (by omega)]; rfl), rfl⟩
      go_wp2_with (fail)
      go_round
      case rel => exact ⟨k + 1, x, by omega, by omega, by omega, by go_num, by go_num, by rw [HI.out, HS.out, decide_eq_true (by omega)]; rfl⟩
      case measure => simp [intOf]; omega
    · obtain rfl : k = cuts.length := by omega
      go_wp2_with (fail)
      go_ret
      exact ⟨ret_i (by rw [HI.out, List.drop_length]; rfl), rfl⟩

theorem allowed_any (s : ByteArray) (hs : s.size ≤ 9000000000000000000) (p : Option Addr) (cap : Nat) (cuts : List Int) (w : World) (hl : cuts.length ≤ 9000000000000000000) (hp : Ints w .i64 p cuts) :
    Calls Try.prog 41 #[.string s, .slice p cuts.length cap] w fun e w' => e = .returned (.bool (cutsOk s.size 0 cuts)) ∧ w = w' := by
  have HP := Lib.hid hp; clear hp
  have h00 : cutsOk s.size 0 cuts = cutsOk s.size 0 (cuts.drop 0) := rfl
  have H0 := Lib.hid h00; clear h00
  go_enter Try.func41, Try.ntmps41
  go_wp2_with (fail)
  go_loop [5, 6] (fun l i => ∃ (k : Nat) (last : Int), k ≤ cuts.length ∧ 0 ≤ last ∧ last ≤ 9000000000000000000 ∧ i = .int .i64 k ∧ l = .int .i64 last ∧ cutsOk s.size 0 cuts = cutsOk s.size last (cuts.drop k)) (fun _ i => cuts.length - (intOf i).toNat)
  case atStart => exact ⟨0, 0, by omega, by omega, by omega, rfl, rfl, H0.out⟩
  case round =>
    obtain ⟨k, last, hk, hl0, hl1, rfl, rfl, hinv⟩ := hrel
    have HI := Lib.hid hinv; clear hinv
    by_cases hlt : k < cuts.length
    · have hst := cutsOk_step s.size cuts k last hlt
      have hat := HP.out.at hlt
      generalize cuts.getD k 0 = x at hst hat
      obtain ⟨b, o, rfl, hb, hc⟩ := hat
      have HS := Lib.hid hst; clear hst
      by_cases h2 : (s.size : Int) - 64 < x
      · go_wp2_with (fail)
        go_ret
        exact ⟨ret_b (by rw [HI.out, HS.out, decide_eq_false (by omega)]; rfl), rfl⟩
      by_cases h3 : x < 0
      · go_wp2_with (fail)
        go_ret
        exact ⟨ret_b (by rw [HI.out, HS.out, decide_eq_false (by omega)]; rfl), rfl⟩
      by_cases h1 : x - last < 60
      · go_wp2_with (fail)
        go_ret
        exact ⟨ret_b (by rw [HI.out, HS.out, decide_eq_false (by omega)]; rfl), rfl⟩
      go_wp2_with (fail)
      go_round
      case rel => exact ⟨k + 1, x, by omega, by omega, by omega, by go_num, by go_num, by rw [HI.out, HS.out, decide_eq_true (by omega)]; rfl⟩
      case measure => simp [intOf]; omega
    · obtain rfl : k = cuts.length := by omega
      go_wp2_with (fail)
      go_ret
      exact ⟨ret_b (by rw [HI.out, List.drop_length]; rfl), rfl⟩
end Go.Proofs.Ytppdfnghojcppaa
