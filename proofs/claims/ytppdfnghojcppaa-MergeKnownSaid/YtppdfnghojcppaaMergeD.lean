/-
  Contracts of the drafts: Frame, Offsets, Pieces.
-/
import Derived.Test.YtppdfnghojcppaaMerge9
import Derived.Test.YtppdfnghojcppaaMergeJ
import Derived.Deep.RegionHeld3
namespace Go.Proofs.Ytppdfnghojcppaa
open Go.RowKit Go.Sort
set_option linter.unusedVariables false

def strL : Value → Nat
  | .string s => s.size
  | _ => 0

set_option maxHeartbeats 1000000 in
theorem Frame_any (d : Dr8) (hl : d.long < 65536) (hs : d.data.size ≤ 9223372036854775807) (v : Value) (hv : v.oneCell' = true) (w : World) :
    Calls Try.prog 11 #[.agg #[.string d.data, .int .u16 d.long, .int .u8 d.number, v]] w fun e w' => e = .returned (.string d.frame) ∧ Below w.heap.size w w' := by
  have hn := d.n_range
  have CS := Lib.hid (RSeal_any d.body (by rw [d.body_size]; omega))
  have hf : sealB 0 d.body = d.frame := rfl
  rw [hf] at CS
  have hnd : d.n = 60 + d.long % 1459 := rfl
  have hsd : d.seed = d.data.extract 0 (min d.data.size 100) ++ ⟨#[45]⟩ := rfl
  have hbd : d.body = (dblTo 11 d.n d.seed).extract 0 d.n := rfl
  have hsz := d.seed_size
  have hse : d.seed.size ≤ 101 := by rw [hsd, ByteArray.size_append, ByteArray.size_extract]; show _ + 1 ≤ _; omega
  have hroom := d.room
  have HB := Lib.hid hbd
  clear hf hbd
  generalize d.body = body at *
  generalize d.frame = frame at *
  generalize d.n = n at *
  generalize d.seed = seed at *
  go_enter Try.func11, Try.ntmps11
  go_wp2_with (fail)
  have e1 : d.data.extract 0 (min (d.data.size : Int) 100).toNat ++ ⟨#[45]⟩ = seed := by
    rw [hsd]
    congr 2
    omega
  have e2 : (60 : Int) + (d.long : Int) % 1459 = (n : Int) := by rw [hnd]; omega
  rw [e1, e2]
  clear e1 e2 hsd hnd hs hl
  go_loop [3] (fun s => ∃ (f : Nat) (t : ByteArray), s = .string t ∧ dblTo f n t = dblTo 11 n seed ∧ n ≤ 2 ^ f * t.size ∧ 1 ≤ t.size ∧ t.size ≤ 4000) (fun s => n - strL s)
  case atStart => exact ⟨11, seed, rfl, rfl, hroom, hsz, by omega⟩
  case round =>
    obtain ⟨f, t, rfl, hf, hr, ht1, ht2⟩ := hrel
    by_cases hlt : t.size < n
    · have hlt' : (t.size : Int) < (n : Int) := by omega
      have n1 : ¬ 9223372036854775807 < t.size + t.size := by omega
      have HF := Lib.hid hf
      have HR := Lib.hid hr
      clear hf hr
      go_wp2_with (fail)
      have hf := HF.out
      have hr := HR.out
      cases f with
      | zero => rw [Nat.pow_zero, Nat.one_mul] at hr; omega
      | succ f =>
        rw [dblTo, if_pos hlt] at hf
        rw [Nat.pow_succ, Nat.mul_assoc] at hr
        clear HF HR
        go_round
        case rel => exact ⟨f, t ++ t, rfl, hf, by rw [ByteArray.size_append, ← Nat.two_mul]; exact hr, by rw [ByteArray.size_append]; omega, by rw [ByteArray.size_append]; omega⟩
        case measure => simp [strL]; omega
    · have hge : (n : Int) ≤ (t.size : Int) := by omega
      rw [dblTo_stop f n t (by omega)] at hf
      have hB2 : t.extract 0 n = body := by rw [HB.out, hf]
      have n60 : (0 : Int) ≤ (n : Int) := by omega
      clear hf hr
      go_wp2_with (fail)
      refine (CS.out _).mono ?_
      rintro e w6 ⟨rfl, g6⟩
      go_wp2_with (fail)
      go_ret
      exact ⟨rfl, (by repeat' (first | exact Below.refl _ _ | assumption | refine below_drewN ?_ _ | refine Below.drew ?_ | refine Below.alloc ?_ (by (first | exact Nat.le_refl _ | assumption | (simp; done) | omega | (simp; omega))) _ | refine Below.setCell ?_ (by (first | exact Nat.le_refl _ | assumption | (simp; done) | omega | (simp; omega))) _ | refine Below.trans ?_ (Below.mono (by assumption) (by (first | exact Nat.le_refl _ | assumption | (simp; done) | omega | (simp; omega))))))⟩

/-- A slice of numbers of its own. -/
def OwnI (W : World) (B : Nat) (v : Value) (l : List Int) : Prop := W.ownsRow B 3 1 v l.length (l.map (Value.int .i64))
theorem OwnI.nil (W : World) (B : Nat) : OwnI W B (.slice none 0 0) [] := World.ownsRow_nil _ _ _ _
theorem OwnI.keep {W W' : World} {B : Nat} {v : Value} {l : List Int} (h : OwnI W B v l) (hb : Below W.heap.size W W') : OwnI W' B v l := by
  refine ⟨h.1, ?_⟩
  rcases h.2 with hn | ⟨g, cap, cur, hv, hB, hg, rest⟩
  · exact .inl hn
  · exact .inr ⟨g, cap, cur, hv, hB, (hb.block g (Array.getElem?_eq_some_iff.1 hg).1).trans hg, rest⟩
theorem OwnI.lower {W : World} {B B' : Nat} {v : Value} {l : List Int} (h : OwnI W B v l) (hb : B' ≤ B) : OwnI W B' v l := by
  refine ⟨h.1, ?_⟩
  rcases h.2 with hn | ⟨g, cap, cur, hv, hB, rest⟩
  · exact .inl hn
  · exact .inr ⟨g, cap, cur, hv, by omega, rest⟩
theorem OwnI.snoc {w1 : World} {B : Nat} {v' : Value} {l : List Int} {x : Int} (ho : w1.ownsRow B 3 1 v' (l.length + 1) (l.map (Value.int .i64) ++ [.int .i64 x])) : OwnI w1 B v' (l ++ [x]) := by
  unfold OwnI
  rw [List.map_append, List.length_append]
  exact ho
theorem OwnI.ints {W : World} {B : Nat} {v : Value} {l : List Int} (h : OwnI W B v l) : ∃ p cap, v = .slice p l.length cap ∧ Ints W .i64 p l := by
  have h' := h
  rcases h.2 with ⟨hv, hn⟩ | ⟨g, cap, cur, rfl, hB, hg, hn, hc, hs, ht⟩
  · exact ⟨none, 0, by rw [hv, hn], .inl (List.length_eq_zero_iff.1 hn)⟩
  · refine ⟨_, cap, rfl, .inr ⟨g, 0, rfl, (Array.getElem?_eq_some_iff.1 hg).1, fun j hj => ?_⟩⟩
    have := h'.cellAt j (by omega)
    rw [Nat.zero_add, this]
    simp [hj]
theorem infoInt : (Try.prog.info? 3).map (fun i => (i.zero, i.size, i.bytes)) = some (some (.int .i64 0), 1, 8) := by kernel_rfl

theorem offs_step (n : Nat) (T : List Nat) (k : Nat) (last : Int) (h : k < T.length) :
    offs n last (T.drop k) = if last + 60 + (T.getD k 0 : Nat) ≤ (n : Int) - 64 then (last + 60 + (T.getD k 0 : Nat)) :: offs n (last + 60 + (T.getD k 0 : Nat)) (T.drop (k + 1)) else offs n (last + 60 + (T.getD k 0 : Nat)) (T.drop (k + 1)) := by
  have hg : T.getD k 0 = T[k] := by simp [List.getD, h]
  rw [List.drop_eq_getElem_cons h, offs, hg]
/-- A draft's cuts as they lie in memory. -/
def Dr8.cutsI (d : Dr8) : List Int := d.cuts.map fun (x : Nat) => (x : Int)
theorem Dr8.cutsI_length (d : Dr8) : d.cutsI.length = d.cuts.length := List.length_map _
theorem Dr8.cutsI_at (d : Dr8) (k : Nat) : d.cutsI.getD k 0 = ((d.cuts.getD k 0 : Nat) : Int) := by
  unfold Dr8.cutsI
  rw [List.getD_eq_getElem?_getD, List.getD_eq_getElem?_getD, List.getElem?_map]
  cases d.cuts[k]? <;> rfl
structure Dr8.wf (d : Dr8) : Prop where
  l : d.long < 65536
  n : d.number < 256
  c : ∀ k, d.cuts.getD k 0 < 256
  s : d.data.size ≤ 9223372036854775807
  z : d.cuts.length ≤ 9223372036854775807
theorem take_getD (l : List Nat) (m k : Nat) (h : k < m) : (l.take m).getD k 0 = l.getD k 0 := by
  rw [List.getD_eq_getElem?_getD, List.getD_eq_getElem?_getD, List.getElem?_take, if_pos h]

set_option maxRecDepth 100000 in
set_option maxHeartbeats 2000000 in
theorem Offsets_any (d : Dr8) (hd : d.wf) (most : Nat) (hm : most ≤ 1000) (p : Option Addr) (cap : Nat) (w : World) (hp : Ints w .u8 p d.cutsI) :
    Calls Try.prog 10 #[.agg #[.string d.data, .int .u16 d.long, .int .u8 d.number, .slice p d.cuts.length cap], .int .i64 most] w fun e w' => ∃ v, e = .returned v ∧ OwnI w' w.heap.size v (d.offsets most) ∧ Below w.heap.size w w' := by
  have CF := Lib.hid (Frame_any d hd.l hd.s (.slice p d.cuts.length cap) rfl)
  have hfr := d.frame_range
  have hoff : d.offsets most = offs d.frame.size 0 ((d.cuts.take most).drop 0) := rfl
  have hTl : (d.cuts.take most).length = min most d.cuts.length := List.length_take
  have hTg := fun k (h : k < most) => take_getD d.cuts most k h
  have HX := Lib.hid hd.c
  have hz := hd.z
  generalize d.frame = frame at *
  generalize d.offsets most = O at *
  generalize d.cuts.take most = T at *
  have HO := Lib.hid hoff
  have HTG := Lib.hid hTg
  clear hoff hTg
  have HP := Lib.hid hp
  obtain ⟨i0, hi, hz0, hz1, hz2⟩ := info_parts infoInt
  have HI := Lib.hid hi
  have HZ := Lib.hid hz0
  have HZ1 := Lib.hid hz1
  have HZ2 := Lib.hid hz2
  clear hi hz0 hz1 hz2 hp hd
  go_enter Try.func10, Try.ntmps10
  go_wp2_with (fail)
  refine (CF.out _).mono ?_
  rintro e w1 ⟨rfl, g1⟩
  have g1' : Below w.heap.size w w1 := Below.trans ((Below.refl _ w).alloc (Nat.le_refl _) _) (g1.mono (by simp))
  have hbx : w1.cell? ⟨w.heap.size, 3, none⟩ = some (.slice p d.cuts.length cap) := (g1.cell (p := ⟨w.heap.size, 3, none⟩) (by simp)).trans (World.cell?_alloc_at _ _ _ _ rfl)
  have hbs : w.heap.size < w1.heap.size := by have := g1.size; simp at this; omega
  clear g1 CF
  go_wp2_with (fail)
  go_loopw [5, 7, 8] (fun v l i wr => ∃ (k last : Nat) (done : List Int), k ≤ T.length ∧ i = .int .i64 k ∧ l = .int .i64 last ∧ last ≤ 315 * k ∧ O = done ++ offs frame.size last (T.drop k) ∧ done.length ≤ k ∧ OwnI wr (w.heap.size + 1) v done ∧ Below w.heap.size w wr ∧ w.heap.size < wr.heap.size ∧ wr.cell? ⟨w.heap.size, 3, none⟩ = some (.slice p d.cuts.length cap)) (fun _ _ i _ => T.length - (intOf i).toNat)
  case atStart => exact ⟨0, 0, [], by omega, rfl, rfl, by omega, HO.out, by simp, OwnI.nil _ _, g1', hbs, hbx⟩
  case round =>
    obtain ⟨k, last, done, hk, rfl, rfl, hlast, hO, hdl, hrow, hB, hsz, hc3⟩ := hrel
    have HOO := Lib.hid hO
    have HR := Lib.hid hrow
    clear hO hrow HO hbx
    by_cases hkT : k < T.length
    · have hk1 : (k : Int) < (d.cuts.length : Int) := by omega
      have hk2 : (k : Int) < (most : Int) := by omega
      have hst := offs_step frame.size T k last hkT
      have hat := (HP.out.keep hB).at (j := k) (by rw [d.cutsI_length]; omega)
      rw [d.cutsI_at] at hat
      have hx := HX.out k
      rw [HTG.out k (by omega)] at hst
      generalize d.cuts.getD k 0 = x at hst hat hx
      obtain ⟨b, o, rfl, hb, hc⟩ := hat
      have HS := Lib.hid hst; clear hst
      have hlb : last ≤ 400000 := by omega
      have hwr2 : IntKind.i64.wrap ((last : Int) + 60 + (x : Int)) = (last : Int) + 60 + (x : Int) := IntWalk.i64_in _ (by omega)
      have HX0 : Hid ((last : Int) + 60 + (x : Int) = ((last + 60 + x : Nat) : Int)) := Lib.hid (by omega)
      by_cases hin : (last : Int) + 60 + (x : Int) ≤ (frame.size : Int) - 64
      · go_wp2_with (at_builtin; refine wpList_append_own _ rfl _ _ 26 rfl (w.heap.size + 1) 3 i0 (.int .i64 0) 1 8 Try.underlying26 HI.out HZ.out HZ1.out HZ2.out rfl (by decide) _ _ _ rfl (HR.out.alloc _) ⟨wr.heap.size, 0, none⟩ 1 1 [.int .i64 ((last : Int) + 60 + (x : Int))] rfl rfl (cell_one_new _ _ _) (fun u hu => by cases List.mem_singleton.1 hu; rfl) (by unfold maxLen; omega) (by omega) (by simp; omega) ?_; intro v' w5 hown' hgrow hnil)
        have hx0 := HX0.out
        have hb5 := own_added HR.out (by omega) hgrow
        have hr5 := OwnI.snoc hown'
        have hc5 := (hb5.cell (p := ⟨w.heap.size, 3, none⟩) (by show w.heap.size < w.heap.size + 1; omega)).trans hc3
        have hz5 := hb5.size
        have hO5 := HOO.out
        rw [HS.out, if_pos hin, ← List.singleton_append, ← List.append_assoc, hx0] at hO5
        rw [hx0] at hr5
        clear hown' hgrow hnil hc HS HOO HR hc3
        go_round
        case rel => exact ⟨k + 1, last + 60 + x, done ++ [((last + 60 + x : Nat) : Int)], by omega, by go_num, by rw [hx0], by omega, hO5, by simp; omega, hr5, hB.trans (hb5.mono (by omega)), by omega, hc5⟩
        case measure => simp [intOf]; omega
      · have hin' : (frame.size : Int) - 64 < (last : Int) + 60 + (x : Int) := by omega
        go_wp2_with (fail)
        have hx0 := HX0.out
        have hO5 := HOO.out
        rw [HS.out, if_neg hin, hx0] at hO5
        have hr5 := HR.out
        clear hc HS HOO HR
        go_round
        case rel => exact ⟨k + 1, last + 60 + x, done, by omega, by go_num, by rw [hx0], by omega, hO5, by omega, hr5, hB, hsz, hc3⟩
        case measure => simp [intOf]; omega
    · obtain rfl : k = T.length := by omega
      have hO5 := HOO.out
      rw [List.drop_length, offs, List.append_nil] at hO5
      subst hO5
      have hend : OwnI wr w.heap.size u5 O ∧ Below w.heap.size w wr := ⟨HR.out.lower (by omega), hB⟩
      have HE := Lib.hid hend
      clear hend HR HOO
      by_cases hk1 : (T.length : Int) < (d.cuts.length : Int)
      · have hk2 : ¬ ((T.length : Int) < (most : Int)) := by omega
        go_wp2_with (fail)
        go_ret
        exact ⟨_, rfl, HE.out⟩
      · go_wp2_with (fail)
        go_ret
        exact ⟨_, rfl, HE.out⟩

/-- A draft in a block of the call's own. -/
structure DBox (w : World) (d : Dr8) (v : Value) (W : World) : Prop where
  c0 : W.cell? ⟨w.heap.size, 0, none⟩ = some (.string d.data)
  c1 : W.cell? ⟨w.heap.size, 1, none⟩ = some (.int .u16 d.long)
  c2 : W.cell? ⟨w.heap.size, 2, none⟩ = some (.int .u8 d.number)
  c3 : W.cell? ⟨w.heap.size, 3, none⟩ = some v
  lt : w.heap.size < W.heap.size
  bel : Below w.heap.size w W
theorem DBox.keep {w W W' : World} {d : Dr8} {v : Value} (h : DBox w d v W) (hb : Below W.heap.size W W') : DBox w d v W' :=
  have k := fun j => hb.cell (p := ⟨w.heap.size, j, none⟩) h.lt
  ⟨(k 0).trans h.c0, (k 1).trans h.c1, (k 2).trans h.c2, (k 3).trans h.c3, Nat.lt_of_lt_of_le h.lt hb.size, h.bel.trans (hb.mono (Nat.le_of_lt h.lt))⟩
theorem dbox_new (w : World) (d : Dr8) (v : Value) : DBox w d v (w.alloc (.cells #[.string d.data, .int .u16 d.long, .int .u8 d.number, v] 25)) :=
  ⟨World.cell?_alloc_at _ _ _ _ rfl, World.cell?_alloc_at _ _ _ _ rfl, World.cell?_alloc_at _ _ _ _ rfl, World.cell?_alloc_at _ _ _ _ rfl, by simp, (by repeat' (first | exact Below.refl _ _ | assumption | refine below_drewN ?_ _ | refine Below.drew ?_ | refine Below.alloc ?_ (by (first | exact Nat.le_refl _ | assumption | (simp; done) | omega | (simp; omega))) _ | refine Below.setCell ?_ (by (first | exact Nat.le_refl _ | assumption | (simp; done) | omega | (simp; omega))) _ | refine Below.trans ?_ (Below.mono (by assumption) (by (first | exact Nat.le_refl _ | assumption | (simp; done) | omega | (simp; omega))))))⟩
theorem Dr8.cut_ok (d : Dr8) (most : Nat) : Cutting d.frame ((d.number : Int) % 4) (d.offsets most) := ⟨d.frame_whole, (cnt_iff _).2 (by omega), d.offsets_ok most⟩
theorem Cutting.cutE {s : ByteArray} {n : Int} {cuts : List Int} (h : Cutting s n cuts) : Ytppdfnghojcppaa.cutE s n cuts = 0 := cutE_ok h.w h.n h.c
theorem Cutting.cutL {s : ByteArray} {n : Int} {cuts : List Int} (h : Cutting s n cuts) : Ytppdfnghojcppaa.cutL s n cuts = pieces s n cuts := by unfold Ytppdfnghojcppaa.cutL; rw [if_pos h.cutE]

set_option maxRecDepth 100000 in
set_option maxHeartbeats 4000000 in
theorem Pieces_any (d : Dr8) (hd : d.wf) (most : Nat) (hm : most ≤ 1000) (p : Option Addr) (cap : Nat) (w : World) (hp : Ints w .u8 p d.cutsI) :
    Calls Try.prog 18 #[.agg #[.string d.data, .int .u16 d.long, .int .u8 d.number, .slice p d.cuts.length cap], .int .i64 most] w fun e w' => ∃ v, e = .returned v ∧ Rw w' w.heap.size v (d.pieces most) ∧ Below w.heap.size w w' := by
  have CF := Lib.hid (Frame_any d hd.l hd.s (.slice p d.cuts.length cap) rfl)
  have CO := Lib.hid (Offsets_any d hd most hm p cap)
  have hfr := d.frame_range
  have hol := d.offsets_length most
  have CC := Lib.hid (fun p' cap' W h => RCut_any d.frame (by omega) ((d.number : Int) % 4) p' cap' (d.offsets most) W (by omega) h)
  have hE : cutE d.frame ((d.number : Int) % 4) (d.offsets most) = 0 := (d.cut_ok most).cutE
  have hL : cutL d.frame ((d.number : Int) % 4) (d.offsets most) = d.pieces most := (d.cut_ok most).cutL
  unfold CRet at CC
  rw [hE, hL] at CC
  clear hE hL
  have hn := hd.n
  have HP := Lib.hid hp
  have hI := Lib.hid ((dbox_new w d (.slice p d.cuts.length cap)).keep (W' := (w.alloc (.cells #[.string d.data, .int .u16 d.long, .int .u8 d.number, .slice p d.cuts.length cap] 25)).drew) (by repeat' (first | exact Below.refl _ _ | assumption | refine below_drewN ?_ _ | refine Below.drew ?_ | refine Below.alloc ?_ (by (first | exact Nat.le_refl _ | assumption | (simp; done) | omega | (simp; omega))) _ | refine Below.setCell ?_ (by (first | exact Nat.le_refl _ | assumption | (simp; done) | omega | (simp; omega))) _ | refine Below.trans ?_ (Below.mono (by assumption) (by (first | exact Nat.le_refl _ | assumption | (simp; done) | omega | (simp; omega)))))))
  generalize d.frame = frame at *
  generalize d.offsets most = O at *
  generalize d.pieces most = L at *
  have HW : Hid (IntKind.i64.wrap ((d.number : Int).tmod 4) = (d.number : Int) % 4) := Lib.hid (by rw [Int.tmod_eq_emod_of_nonneg (by omega)]; exact IntWalk.i64_in _ (by omega))
  clear hp hd hfr hol
  go_enter Try.func18, Try.ntmps18
  go_upto_region 1 with fail
  go_region_held3 (fun w' => w'.cell? ⟨w.heap.size, 0, none⟩ = some (.string d.data) ∧ w'.cell? ⟨w.heap.size, 1, none⟩ = some (.int .u16 d.long) ∧ w'.cell? ⟨w.heap.size, 2, none⟩ = some (.int .u8 d.number) ∧ w'.cell? ⟨w.heap.size, 3, none⟩ = some (.slice p d.cuts.length cap)) (first | exact ⟨hI.out.c0, hI.out.c1, hI.out.c2, hI.out.c3⟩) (first | (go_at_call 11; refine (CF.out _).mono ?_; rintro e wn ⟨rfl, gn⟩; have hI := Lib.hid (hI.out.keep gn)) | (go_at_call 10; refine (CO.out _ (HP.out.keep hI.out.bel)).mono ?_; rintro e wn ⟨v, rfl, ho, gn⟩; obtain ⟨p', cap', rfl, hi'⟩ := ho.ints; have hN := Lib.hid hi'; clear hi' ho; have hI := Lib.hid (hI.out.keep gn)) | (go_at_call 14; rw [HW.out]; refine (CC.out _ _ _ hN.out).mono ?_; rintro e wn ⟨v, rfl, hr, gn⟩; have hR := Lib.hid (hr.lower (B' := w.heap.size) hI.out.bel.size); have hI := Lib.hid (hI.out.keep gn)))
  go_wp2_with (fail)
  go_ret
  exact ⟨_, rfl, hR.out, hI.out.bel⟩
end Go.Proofs.Ytppdfnghojcppaa
