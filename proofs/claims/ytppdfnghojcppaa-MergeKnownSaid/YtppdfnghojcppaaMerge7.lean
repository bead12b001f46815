/-
  Contract of merge.pieces and of the function that it returns.
-/
import Derived.Test.YtppdfnghojcppaaMerge6
import Derived.Deep.RegionWith
import Derived.RangeFuncNested
import Derived.RangeFuncBound
import Derived.RangeFuncCalls
import Derived.RangeFuncLeaves
import Derived.Shelf.Abstract
import Derived.Shelf.RegionOpen
import Derived.WalkKit
import Derived.OwnWalkIn
import Derived.TacticsInMore
import Derived.LoopNIn
import Derived.LoopIn
namespace Go.Proofs.Ytppdfnghojcppaa
open Go.RowKit Go.Sort
set_option linter.unusedVariables false

/-- The numbers of a slice that lies below block B0. -/
def Low (B0 : Nat) (W : World) (p : Option Addr) (l : List Int) : Prop :=
  l = [] ∨ ∃ b o, p = some ⟨b, o, none⟩ ∧ b < B0 ∧ ∀ j, j < l.length → W.cell? ⟨b, o + j, none⟩ = some (.int .i64 (l.getD j 0))
theorem Low.keep {B0 : Nat} {W W' : World} {p : Option Addr} {l : List Int} (h : Low B0 W p l) (hb : Below B0 W W') : Low B0 W' p l := by
  rcases h with h | ⟨b, o, hp, hlt, hc⟩
  · exact .inl h
  · exact .inr ⟨b, o, hp, hlt, fun j hj => (hb.cell (p := ⟨b, o + j, none⟩) hlt).trans (hc j hj)⟩
theorem Low.ints {B0 : Nat} {W : World} {p : Option Addr} {l : List Int} (h : Low B0 W p l) (hB : B0 ≤ W.heap.size) : Ints W .i64 p l := by
  rcases h with h | ⟨b, o, hp, hlt, hc⟩
  · exact .inl h
  · exact .inr ⟨b, o, hp, by omega, hc⟩
theorem Ints.low {W : World} {p : Option Addr} {l : List Int} (h : Ints W .i64 p l) : Low W.heap.size W p l := h
/-- What the iterator has captured, and the cuts. -/
structure PIn (B0 : Nat) (s : ByteArray) (n : Int) (p : Option Addr) (cap : Nat) (cuts : List Int) (Bs Bn Bc : Nat) (W : World) : Prop where
  cs : W.cell? ⟨Bs, 0, none⟩ = some (.string s)
  cn : W.cell? ⟨Bn, 0, none⟩ = some (.int .i64 n)
  cc : W.cell? ⟨Bc, 0, none⟩ = some (.slice p cuts.length cap)
  ls : Bs < W.heap.size
  ln : Bn < W.heap.size
  lc : Bc < W.heap.size
  l0 : B0 ≤ W.heap.size
  it : Low B0 W p cuts
theorem PIn.ints {B0 : Nat} {s : ByteArray} {n : Int} {p : Option Addr} {cap : Nat} {cuts : List Int} {Bs Bn Bc : Nat} {W : World} (h : PIn B0 s n p cap cuts Bs Bn Bc W) : Ints W .i64 p cuts := h.it.ints h.l0
theorem PIn.keep {B0 : Nat} {s : ByteArray} {n : Int} {p : Option Addr} {cap : Nat} {cuts : List Int} {Bs Bn Bc : Nat} {W W' : World} (h : PIn B0 s n p cap cuts Bs Bn Bc W) (hb : Below W.heap.size W W') : PIn B0 s n p cap cuts Bs Bn Bc W' :=
  ⟨(hb.cell (p := ⟨Bs, 0, none⟩) h.ls).trans h.cs, (hb.cell (p := ⟨Bn, 0, none⟩) h.ln).trans h.cn, (hb.cell (p := ⟨Bc, 0, none⟩) h.lc).trans h.cc,
   Nat.lt_of_lt_of_le h.ls hb.size, Nat.lt_of_lt_of_le h.ln hb.size, Nat.lt_of_lt_of_le h.lc hb.size, Nat.le_trans h.l0 hb.size, h.it.keep (hb.mono h.l0)⟩
theorem grown_of_below {W W' : World} (hb : Below W.heap.size W W') : W.grownBy W' none := ⟨hb.os, hb.tape, hb.output, hb.size, fun k hk _ => hb.block k hk⟩

def HalfE (n : Int) (k : Nat) (W0 W : World) : Prop := Pw W0 W ⟨(k : Int) == 0, n, cntAt k, ⟨#[]⟩⟩
/-- How the iterator ends. -/
def IRet (s : ByteArray) (n : Int) (cuts : List Int) (J Jx : List Pc → World → Prop) (e : Ending) (W' : World) : Prop :=
  (∃ v, e = .returned v) ∧ ((∃ ys, ys = pieces s n cuts ∧ J ys W') ∨ (∃ pre, pre <+: pieces s n cuts ∧ Jx pre W'))
theorem iret_all {s : ByteArray} {n : Int} {cuts : List Int} {J Jx : List Pc → World → Prop} {W' : World} {v : Value} (h : J (pieces s n cuts) W') : IRet s n cuts J Jx (.returned v) W' := ⟨⟨_, rfl⟩, .inl ⟨_, rfl, h⟩⟩
theorem iret_part {s : ByteArray} {n : Int} {cuts : List Int} {J Jx : List Pc → World → Prop} {W' : World} {v : Value} {k : Nat} (h : Jx ((pieces s n cuts).take k) W') : IRet s n cuts J Jx (.returned v) W' :=
  ⟨⟨_, rfl⟩, .inr ⟨_, List.take_prefix _ _, h⟩⟩

set_option maxRecDepth 100000 in
set_option maxHeartbeats 2000000 in
theorem pieces1_in (m : Nat) (hm : 1 ≤ m) (B0 l Bs Bn Bc : Nat) (s : ByteArray) (n : Int) (p : Option Addr) (cap : Nat) (cuts : List Int) (hs : 64 ≤ s.size ∧ s.size ≤ 1522) (hC : cutsOk s.size 0 cuts = true)
    (Kp : World → World → Prop) (hKp : ∀ A B, PIn B0 s n p cap cuts Bs Bn Bc A → Kp A B → PIn B0 s n p cap cuts Bs Bn Bc B) (J Jx : List Pc → World → Prop) (W : World) (hJa : AbidesFrom W.heap.size J)
    (hY : ∀ pre x A, J pre A → pre.length < cuts.length + 1 → YieldAt Fence.wide (m - 1) Try.prog l #[.agg #[.bool x.start, .int .i64 x.number, .int .i64 x.count, .string x.data]] A fun e B =>
      (e = .returned (.bool true) ∧ J (pre ++ [x]) B ∧ Kp A B) ∨ (e = .returned (.bool false) ∧ Jx (pre ++ [x]) B))
    (hP : PIn B0 s n p cap cuts Bs Bn Bc W) (h0 : J [] W) :
    CallsIn Fence.wide m Try.prog 62 #[.func (.yield l) #[] #[], .pointer (some ⟨Bc, 0, none⟩), .pointer (some ⟨Bn, 0, none⟩), .pointer (some ⟨Bs, 0, none⟩)] W (IRet s n cuts J Jx) := by
  refine callsIn_wide.2 ?_
  have hl := cuts_few hC hs.2
  have HC := Lib.hid hC; clear hC
  have HP := Lib.hid hP
  have HK := Lib.hid hKp; clear hKp
  have HJ := Lib.hid hJa; clear hJa
  have HY := Lib.hid hY; clear hY
  have c3 := HP.out.cc
  have hi0 : IntKind.i64.wrap ((cuts.length : Int) + 1) = (cuts.length : Int) + 1 := IntWalk.i64_in _ (by omega)
  clear hP
  go_enter Try.func62, Try.ntmps62
  go_wp2_with (fail)
  go_loopw [5, 11] (fun b i wr => ∃ k : Nat, k ≤ cuts.length + 1 ∧ i = .int .i64 k ∧ (k ≤ cuts.length → b = .int .i64 (lastAt cuts k)) ∧ J ((pieces s n cuts).take k) wr ∧ PIn B0 s n p cap cuts Bs Bn Bc wr) (fun _ i _ => cuts.length + 1 - (intOf i).toNat)
  case atStart => exact ⟨0, by omega, rfl, fun _ => rfl, h0, HP.out⟩
  case round =>
    obtain ⟨k, hk, rfl, hla, hJs, hPr⟩ := hrel
    have HPr := Lib.hid hPr
    have HJs := Lib.hid hJs
    clear c3 hi0 hPr hJs h0
    by_cases hkl : k ≤ cuts.length
    case neg =>
      have hgt : ¬ ((k : Int) < (cuts.length : Int) + 1) := by omega
      obtain rfl : k = cuts.length + 1 := by omega
      clear hla
      go_wp2_with (fail)
      go_end0
      rw [pieces_take_all] at HJs
      exact iret_all HJs.out
    obtain rfl := hla hkl
    have hL := last_at hs.1 HC.out hkl
    have hL2 := fun h : k < cuts.length => cuts_at HC.out h
    have HM := Lib.hid (fun h => pieceAt_mid s n cuts k h)
    have HN := Lib.hid (fun h => pieceAt_end s n cuts k h)
    have HL := Lib.hid (lastAt_succ cuts k)
    generalize lastAt cuts k = L at hL hL2 HM HN
    clear hla
    have HL2 := Lib.hid hL2
    clear hL2
    have hkl' : (k : Int) < (cuts.length : Int) + 1 := by omega
    have hL3 : L ≤ (s.size : Int) := by omega
    have hL0 := hL.1
    have P0 := Lib.hid (pw_first wr ⟨(k : Int) == 0, n, 0, ⟨#[]⟩⟩)
    have c2 := HPr.out.cn
    go_upto_if 19 with fail
    go_cut [] (fun wx => HalfE n k wr wx)
    case first =>
      by_cases hk0 : 0 < k
      · have r0 := P0.out.pc.c2
        have z2 := P0.out.fz 2
        have hi1 : IntKind.i64.wrap ((k : Int) - 1) = (k : Int) - 1 := IntWalk.i64_in _ (by omega)
        have ht : ((k : Int) - 1).tmod 4 = ((k : Int) - 1) % 4 := Int.tmod_eq_emod_of_nonneg (by omega)
        have hQ := Lib.hid (P0.out.count (((k : Int) - 1) % 4))
        obtain ⟨W1, hW1⟩ : ∃ W, wr.alloc (.cells #[.bool (⟨(k : Int) == 0, n, 0, ⟨#[]⟩⟩ : Pc).start, .int .i64 (⟨(k : Int) == 0, n, 0, ⟨#[]⟩⟩ : Pc).number, .int .i64 (⟨(k : Int) == 0, n, 0, ⟨#[]⟩⟩ : Pc).count, .string (⟨(k : Int) == 0, n, 0, ⟨#[]⟩⟩ : Pc).data] 45) = W := ⟨_, rfl⟩
        rw [hW1] at hQ r0 z2
        dsimp only at hW1
        rw [hW1]
        clear P0
        go_wp2_with (fail)
        go_meet
        unfold HalfE
        rw [cntAt_pos hk0]
        exact hQ.out
      · obtain rfl : k = 0 := by omega
        go_wp2_with (fail)
        go_meet
        exact P0.out
    case rest =>
    have P1 := Lib.hid hcut
    clear P0 c2
    have c3 := (HPr.out.keep P1.out.bel).cc
    go_upto_if 27 with fail
    go_cut [5] (fun s5 wx => (k < cuts.length → s5 = .int .i64 (lastAt cuts (k + 1))) ∧ Done s n cuts k wr wx)
    case first =>
      have HPc := Lib.hid (HPr.out.keep P1.out.bel)
      have c1 := HPc.out.cs
      unfold HalfE at P1
      by_cases hkl2 : k < cuts.length
      case neg =>
        have r3 := P1.out.pc.c3
        have z3 := P1.out.fz 3
        have P2 := Lib.hid (P1.out.text (s.extract L.toNat s.size))
        go_wp2_with (fail)
        go_meet
        exact ⟨fun h => absurd h hkl2, by unfold Done; rw [HN.out hkl2]; exact P2.out⟩
      have hx := HL2.out hkl2
      have hmm := HM.out hkl2
      have hat := HPr.out.ints.at hkl2
      generalize cuts.getD k 0 = x at hx hmm hat HL
      obtain ⟨M, hM⟩ : ∃ M, sealB Crcm.marking (s.extract 0 x.toNat) = M := ⟨_, rfl⟩
      have hMs : M.size = x.toNat + 4 := by rw [← hM, sealB_size, ByteArray.size_extract]; omega
      have CM := Lib.hid (Mark_any (s.extract 0 x.toNat) (by rw [ByteArray.size_extract]; omega))
      rw [hM] at CM hmm
      have HMM := Lib.hid hmm
      clear hmm hM HM HN HL2
      obtain ⟨b, o, rfl, hb, hc0⟩ := hat
      have hc := (P1.out.bel.cell (p := ⟨b, o + k, none⟩) hb).trans hc0
      have hx0 : 0 ≤ x := by omega
      have hx1 : x ≤ (s.size : Int) := by omega
      have hLM : L ≤ (M.size : Int) := by omega
      go_upto_region 8 with fail
      have P1d : Hid (Pw wr wc.drew _) := Lib.hid (P1.out.keep (by repeat' (first | exact Below.refl _ _ | assumption | refine below_drewN ?_ _ | refine Below.drew ?_ | refine Below.alloc ?_ (by (first | exact Nat.le_refl _ | assumption | (simp; done) | omega | (simp; omega))) _ | refine Below.setCell ?_ (by (first | exact Nat.le_refl _ | assumption | (simp; done) | omega | (simp; omega))) _ | refine Below.trans ?_ (Below.mono (by assumption) (by (first | exact Nat.le_refl _ | assumption | (simp; done) | omega | (simp; omega)))))))
      go_region_with (go_at_call 31; refine (CM.out _).mono ?_; rintro e w3 ⟨rfl, g3⟩; have P2 := Lib.hid (P1d.out.keep g3); have r3 := P2.out.pc.c3; have z3 := P2.out.fz 3)
      all_goals
        have P3 := Lib.hid (P2.out.text (M.extract L.toNat (x.toNat + 4)))
        clear r3 z3 P2 P1d hc c3
        generalize w3.setCell ⟨wr.heap.size, 3, none⟩ (.string (M.extract L.toNat (x.toNat + 4))) = w4 at *
        have c3 := (HPr.out.keep P3.out.bel).cc
        have hc := (P3.out.bel.cell (p := ⟨b, o + k, none⟩) hb).trans hc0
        go_wp2_with (fail)
        go_meet
        exact ⟨fun _ => by rw [HL.out], by unfold Done; rw [HMM.out]; exact P3.out⟩
    case rest =>
    obtain ⟨hl9, hD⟩ := ‹_ ∧ Done s n cuts k wr wc›
    have HD := Lib.hid hD
    have H9 := Lib.hid hl9
    clear hl9 hD hcut HM HN HL2 P1 c3
    have HS := Lib.hid (pieces_take_succ s n cuts k (by omega))
    unfold Done at HD
    generalize pieceAt s n cuts k = q at HD HS
    have q0 := HD.out.pc.c0
    have q1 := HD.out.pc.c1
    have q2 := HD.out.pc.c2
    have q3 := HD.out.pc.c3
    obtain ⟨fn, tmps, assign, body, hy, hR⟩ := HY.out _ q _ (HJ.out _ _ _ none HJs.out (grown_of_below HD.out.bel) (fun r e => by cases e)) (by rw [List.length_take, pieces_length]; omega)
    go_upto_region 11 with fail
    refine (wpIn_wide (n := m)).1 ?_
    gi_wp2
    refine hR.mono ?_
    have HPw := Lib.hid (HPr.out.keep HD.out.bel)
    clear hy hR q0 q1 q2 q3 HPr HJs HD
    rw [← HS.out]
    rintro e W3 (⟨rfl, hJ3, hk3⟩ | ⟨rfl, hJx3⟩)
    · have hp3 := HK.out _ _ HPw.out hk3
      gi_wp2
      go_wp2_with (fail)
      go_round
      case rel => exact ⟨k + 1, by omega, by go_num, H9.out, hJ3, hp3⟩
      case measure => simp [intOf]; omega
    · gi_wp2
      go_wp2_with (fail)
      go_end0
      exact iret_part hJx3

/-- merge.pieces: three boxes and the iterator over them. -/
theorem pieces_any (s : ByteArray) (n : Int) (p : Option Addr) (len cap : Nat) (w : World) : Calls Try.prog 39 #[.string s, .int .i64 n, .slice p len cap] w fun e w' =>
    e = .returned (.func (.func 62) #[] #[.pointer (some ⟨w.heap.size + 1 + 1, 0, none⟩), .pointer (some ⟨w.heap.size + 1, 0, none⟩), .pointer (some ⟨w.heap.size, 0, none⟩)]) ∧
    w' = ((w.alloc (.cells #[.string s] 9)).alloc (.cells #[.int .i64 n] 3)).alloc (.cells #[.slice p len cap] 26) := by
  go_enter Try.func39, Try.ntmps39
  go_wp2_with (fail)
  go_ret
  exact ⟨rfl, rfl⟩
end Go.Proofs.Ytppdfnghojcppaa
