/-
  The statement FrameBack holds: Decode inverts Encode, but for the padding of short frames with a Type. No condition.
-/
import Derived.Test.YtccdhoboidneeaaOpen7
import Derived.Deep.RegionHeld3
import Derived.Deep.DrawnRows
namespace Go.Proofs.Ytccdhoboidneeaa
open Go.RowKit
set_option linter.unusedVariables false

theorem want_data_ne (f : Fr) (ht : f.type ≠ 0) : f.want = { f with data := f.data ++ S (List.replicate (60 - f.head - f.data.size) 0) } := by
  unfold Fr.want; rw [if_neg ht]
theorem want_eq (f : Fr) (ht : f.type = 0) : f.want = f := by
  unfold Fr.want; rw [if_pos ht]
theorem wire_eq (f : Fr) (h : f.ok = true) : f.wire = (f.enc.size : Int) + 20 := by
  unfold Fr.wire; rw [if_pos h, f.enc_size h]; omega
theorem wire_of (f : Fr) (h : f.ok = true) (W : World) : Calls Try.prog 12 #[.agg #[.int .i64 f.dst, .int .i64 f.src, .bool f.tag, .int .i64 f.prio, .int .i64 f.vid, .bool f.hseq, .int .i64 f.seq, .int .i64 f.type, .string f.data]] W (Ret2 (.int .i64 ((f.enc.size : Int) + 20)) (.int .i64 0) W) := by
  have hc : f.code = 0 := by unfold Fr.code; rw [h]; rfl
  have := Wire_any f (by have := f.data_le h; omega) W
  rwa [hc, wire_eq f h] at this
theorem check_ok (f : Fr) (h : f.ok = true) (W : World) : Calls Try.prog 14 #[.agg #[.int .i64 f.dst, .int .i64 f.src, .bool f.tag, .int .i64 f.prio, .int .i64 f.vid, .bool f.hseq, .int .i64 f.seq, .int .i64 f.type, .string f.data]] W fun e w' => e = .returned (.int .i64 0) ∧ Below W.heap.size W w' := by
  have hc : f.code = 0 := by unfold Fr.code; rw [h]; rfl
  have := Check_any f (by have := f.data_le h; omega) W
  rwa [hc] at this

set_option maxRecDepth 100000 in
set_option maxHeartbeats 2000000 in
attribute [local go_sem ↓] Go.wp_at_zero Go.wp_at_succ in
theorem frameBack_walk (d : Dr) (hd : d.fit) (w : World) :
   Calls Try.prog 3 #[.agg #[.int .u16 (d.dst : Int), .int .u16 (d.src : Int), .int .u16 (d.long : Int), .int .u8 (d.tag : Int), .int .u8 (d.kind : Int), .int .u16 (d.seq : Int), .string d.data]] w fun e w' => e = .returned (.bool true) ∧ Below w.heap.size w w' := by
  have C1 := Lib.hid (fun W => works7 W)
  have C2 := Lib.hid (fun W => Draft_any d hd W)
  go_enter Try.func3, Try.ntmps3
  go_wp2_with (fail)
  refine (C1.out _).mono ?_
  rintro e v1 ⟨rfl, g1⟩
  have y1 := g1.size
  simp at y1
  have B1 : Below w.heap.size w v1 := (by repeat' (first | exact Below.refl _ _ | assumption | refine below_drewN ?_ _ | refine Below.drew ?_ | refine Below.alloc ?_ (by (first | exact Nat.le_refl _ | assumption | (simp; done) | omega | (simp; omega))) _ | refine Below.setCell ?_ (by (first | exact Nat.le_refl _ | assumption | (simp; done) | omega | (simp; omega))) _ | refine Below.trans ?_ (Below.mono (by assumption) (by (first | exact Nat.le_refl _ | assumption | (simp; done) | omega | (simp; omega))))))
  obtain ⟨D1, D2⟩ := bcell g1
  go_wp2_with (fail)
  refine (C2.out _).mono ?_
  rintro e v2 ⟨⟨f, hok, hsz, rfl⟩, g2⟩
  have y2 := g2.size
  have B2 : Below w.heap.size w v2 := B1.trans (g2.mono (by omega))
  have C3 := Lib.hid (fun W => enc_of f hok W)
  have C4 := Lib.hid (fun W => wire_of f hok W)
  have C5 := Lib.hid (fun W => check_ok f hok W)
  have hE1 := f.enc_size hok
  have hE2 := f.body_le hok
  have hg := f.enc_good hok
  have hz1 : 64 ≤ f.enc.size := by omega
  have hz2 : f.enc.size ≤ 1522 := by omega
  have C6 := Lib.hid (fun W => Good_any f.enc (by omega) W)
  rw [hg] at C6
  have C7 := Lib.hid (fun W => back_true f f.want hok rfl W)
  have C8 := Lib.hid (fun W => back_true f.want f.want (f.want_ok hok) f.want_want W)
  clear hE1 hE2 hg C1 C2 D1 D2 g1 g2
  have hn1 : 84 ≤ (f.enc.size : Int) + 20 := by omega
  have hn2 : (f.enc.size : Int) + 20 ≤ 1542 := by omega
  have hn3 : ((f.enc.size : Int) + 20 == (f.enc.size : Int) + 20) = true := by simp
  generalize f.enc = E at *
  have C4' : Hid (∃ n : Int, 84 ≤ n ∧ n ≤ 1542 ∧ (n == (E.size : Int) + 20) = true ∧ ∀ W, Calls Try.prog 12 #[.agg #[.int .i64 f.dst, .int .i64 f.src, .bool f.tag, .int .i64 f.prio, .int .i64 f.vid, .bool f.hseq, .int .i64 f.seq, .int .i64 f.type, .string f.data]] W (Ret2 (.int .i64 n) (.int .i64 0) W)) := Lib.hid ⟨_, hn1, hn2, hn3, C4.out⟩
  clear C4 hn1 hn2 hn3
  obtain ⟨n, hn1, hn2, hn3, hn4⟩ := C4'.out
  have C4 := Lib.hid hn4
  clear C4' hn4
  go_wp2_with (fail)
  refine (C3.out _).mono ?_
  rintro e v3 ⟨rfl, g3⟩
  have y3 := g3.size
  simp at y3
  have B3 : Below w.heap.size w v3 := (B2.alloc (by omega) _).trans (g3.mono (by simp; omega))
  have F3 := fr_keep (fr_box v2 f) g3 (by simp)
  clear g3
  have F3' := F3
  obtain ⟨c0, c1, c2, c3, c4, c5, c6, c7, c8⟩ := F3'
  go_wp2_with (fail)
  refine (C4.out _).mono ?_
  rintro e v4 ⟨rfl, g4⟩
  have y4 := g4.size
  have B4 : Below w.heap.size w v4 := B3.trans (g4.mono (by omega))
  have F4 := fr_keep F3 g4 (by omega)
  clear g4 F3 c0 c1 c2 c3 c4 c5 c6 c7 c8
  have F4' := F4
  obtain ⟨c0, c1, c2, c3, c4, c5, c6, c7, c8⟩ := F4'
  have o4 : v2.heap.size < v4.heap.size := by omega
  obtain ⟨q, hq⟩ : ∃ q, (f.type != 0) = q := ⟨_, rfl⟩
  go_upto_if 27 with fail
  have W8 : FrAt (v4.alloc (frB f)) v4.heap.size f := fr_box v4 f
  have W3 : FrAt (v4.alloc (frB f)) v2.heap.size f := fr_keep F4 ((Below.refl v4.heap.size v4).alloc (Nat.le_refl _) _) o4
  have Wf : ∀ j, (v4.alloc (frB f)).frozen? ⟨v4.heap.size, j, none⟩ = false := fun j => World.frozen?_alloc_new _ _ _ j
  have Ws : (v4.alloc (frB f)).heap.size = v4.heap.size + 1 := by simp
  have B5 : Below w.heap.size w (v4.alloc (frB f)) := B4.alloc (by omega) _
  obtain ⟨w5, hw5⟩ : ∃ W, v4.alloc (frB f) = W := ⟨_, rfl⟩
  rw [hw5] at W8 W3 Wf Ws B5
  unfold frB at hw5
  rw [hw5]
  clear hw5 c0 c1 c2 c3 c4 c5 c6 c7 c8 F4 B4 B3 B2 B1
  have hzs : w5.heap.size = v4.heap.size + 1 := Ws
  clear Ws
  have o5 : v4.heap.size < w5.heap.size := by omega
  have HZ := Lib.hid hzs; clear hzs
  go_cut [] (fun wx => FrAt wx v2.heap.size f ∧ FrAt wx v4.heap.size f.want ∧ v4.heap.size < wx.heap.size ∧ Below w.heap.size w wx)
  case first =>
    clear C3 C4 C5 C6 C7 C8
    by_cases ht : f.type = 0
    · rcases q with _ | _
      · go_wp2_with (fail)
        go_meet
        exact ⟨W3, by rw [want_eq f ht]; exact W8, o5, B5⟩
      · simp [ht] at hq
    · rcases q with _ | _
      · simp [ht] at hq
      · have hwd := want_data_ne f ht
        obtain ⟨N, hN⟩ : ∃ N, 60 - f.head - f.data.size = N := ⟨_, rfl⟩
        rw [hN] at hwd
        have CR := Lib.hid (fun W => repeat_any 0 N (by omega) W)
        have hRz : (S (List.replicate N 0)).size ≤ 100 := by rw [S_size, List.length_replicate]; omega
        generalize S (List.replicate N 0) = R at *
        have HWD := Lib.hid hwd
        have o25 : v2.heap.size < w5.heap.size := by omega
        have ne1 : ¬ v2.heap.size = v4.heap.size := by omega
        have ne2 : ¬ v4.heap.size = v2.heap.size := by omega
        have hsm : ¬ 9223372036854775807 < f.data.size + R.size := by omega
        have c2 := W3.c2
        have c5 := W3.c5
        have c8 := W3.c8
        have k8 := W8.c8
        have z8 := Wf 8
        rcases et : f.tag with _ | _ <;> rcases es : f.hseq with _ | _
        · rw [et] at c2
          rw [es] at c5
          have hw1 : IntKind.i64.wrap 46 = 46 := IntWalk.i64_in _ (by omega)
          have hw2 : IntKind.i64.wrap (46 - (f.data.size : Int)) = 46 - (f.data.size : Int) := IntWalk.i64_in _ (by omega)
          have hm : max 0 (46 - (f.data.size : Int)) = (N : Int) := by
            clear hw1 hw2
            have hh : f.head = 14 := by unfold Fr.head; rw [et, es]; rfl
            rw [hh] at hN
            omega
          clear hN et es hwd
          go_wp2_with (fail)
          go_region_held3 (fun W' => W'.cell? ⟨v2.heap.size, 8, none⟩ = some (.string f.data)) (first | assumption | go_keep) ((go_at_call 13; refine (CR.out _).mono ?_; rintro e w6 ⟨rfl, hb6⟩; have q8 := (hb6.cell (p := ⟨v2.heap.size, 8, none⟩) o25).trans c8; have q9 := (hb6.cell (p := ⟨v4.heap.size, 8, none⟩) o5).trans k8; have z9 := (hb6.frozen (p := ⟨v4.heap.size, 8, none⟩) o5).trans z8))
          all_goals
            clear hw1 hw2 hsm
            have hb : Below w5.heap.size w5 w6 := ((Below.refl w5.heap.size w5).drew).trans hb6
            have hbs := hb.size
            go_wp2_with (fail)
            go_meet
            refine ⟨fr_keep (fr_keep W3 hb (by omega)) ((Below.refl (v2.heap.size + 1) w6).setCell (p := ⟨v4.heap.size, 8, none⟩) (by simp; omega) _) (by omega), ?_, by simp [World.setCell]; omega, (B5.trans (hb.mono (by omega))).setCell (p := ⟨v4.heap.size, 8, none⟩) (by simp; omega) _⟩
            rw [HWD.out]
            exact (fr_keep W8 hb (by omega)).s8 _
        · rw [et] at c2
          rw [es] at c5
          have hw1 : IntKind.i64.wrap 40 = 40 := IntWalk.i64_in _ (by omega)
          have hw2 : IntKind.i64.wrap (40 - (f.data.size : Int)) = 40 - (f.data.size : Int) := IntWalk.i64_in _ (by omega)
          have hm : max 0 (40 - (f.data.size : Int)) = (N : Int) := by
            clear hw1 hw2
            have hh : f.head = 20 := by unfold Fr.head; rw [et, es]; rfl
            rw [hh] at hN
            omega
          clear hN et es hwd
          go_wp2_with (fail)
          go_region_held3 (fun W' => W'.cell? ⟨v2.heap.size, 8, none⟩ = some (.string f.data)) (first | assumption | go_keep) ((go_at_call 13; refine (CR.out _).mono ?_; rintro e w6 ⟨rfl, hb6⟩; have q8 := (hb6.cell (p := ⟨v2.heap.size, 8, none⟩) o25).trans c8; have q9 := (hb6.cell (p := ⟨v4.heap.size, 8, none⟩) o5).trans k8; have z9 := (hb6.frozen (p := ⟨v4.heap.size, 8, none⟩) o5).trans z8))
          all_goals
            clear hw1 hw2 hsm
            have hb : Below w5.heap.size w5 w6 := ((Below.refl w5.heap.size w5).drew).trans hb6
            have hbs := hb.size
            go_wp2_with (fail)
            go_meet
            refine ⟨fr_keep (fr_keep W3 hb (by omega)) ((Below.refl (v2.heap.size + 1) w6).setCell (p := ⟨v4.heap.size, 8, none⟩) (by simp; omega) _) (by omega), ?_, by simp [World.setCell]; omega, (B5.trans (hb.mono (by omega))).setCell (p := ⟨v4.heap.size, 8, none⟩) (by simp; omega) _⟩
            rw [HWD.out]
            exact (fr_keep W8 hb (by omega)).s8 _
        · rw [et] at c2
          rw [es] at c5
          have hw1 : IntKind.i64.wrap 42 = 42 := IntWalk.i64_in _ (by omega)
          have hw2 : IntKind.i64.wrap (42 - (f.data.size : Int)) = 42 - (f.data.size : Int) := IntWalk.i64_in _ (by omega)
          have hm : max 0 (42 - (f.data.size : Int)) = (N : Int) := by
            clear hw1 hw2
            have hh : f.head = 18 := by unfold Fr.head; rw [et, es]; rfl
            rw [hh] at hN
            omega
          clear hN et es hwd
          go_wp2_with (fail)
          go_region_held3 (fun W' => W'.cell? ⟨v2.heap.size, 8, none⟩ = some (.string f.data)) (first | assumption | go_keep) ((go_at_call 13; refine (CR.out _).mono ?_; rintro e w6 ⟨rfl, hb6⟩; have q8 := (hb6.cell (p := ⟨v2.heap.size, 8, none⟩) o25).trans c8; have q9 := (hb6.cell (p := ⟨v4.heap.size, 8, none⟩) o5).trans k8; have z9 := (hb6.frozen (p := ⟨v4.heap.size, 8, none⟩) o5).trans z8))
          all_goals
            clear hw1 hw2 hsm
            have hb : Below w5.heap.size w5 w6 := ((Below.refl w5.heap.size w5).drew).trans hb6
            have hbs := hb.size
            go_wp2_with (fail)
            go_meet
            refine ⟨fr_keep (fr_keep W3 hb (by omega)) ((Below.refl (v2.heap.size + 1) w6).setCell (p := ⟨v4.heap.size, 8, none⟩) (by simp; omega) _) (by omega), ?_, by simp [World.setCell]; omega, (B5.trans (hb.mono (by omega))).setCell (p := ⟨v4.heap.size, 8, none⟩) (by simp; omega) _⟩
            rw [HWD.out]
            exact (fr_keep W8 hb (by omega)).s8 _
        · rw [et] at c2
          rw [es] at c5
          have hw1 : IntKind.i64.wrap 36 = 36 := IntWalk.i64_in _ (by omega)
          have hw2 : IntKind.i64.wrap (36 - (f.data.size : Int)) = 36 - (f.data.size : Int) := IntWalk.i64_in _ (by omega)
          have hm : max 0 (36 - (f.data.size : Int)) = (N : Int) := by
            clear hw1 hw2
            have hh : f.head = 24 := by unfold Fr.head; rw [et, es]; rfl
            rw [hh] at hN
            omega
          clear hN et es hwd
          go_wp2_with (fail)
          go_region_held3 (fun W' => W'.cell? ⟨v2.heap.size, 8, none⟩ = some (.string f.data)) (first | assumption | go_keep) ((go_at_call 13; refine (CR.out _).mono ?_; rintro e w6 ⟨rfl, hb6⟩; have q8 := (hb6.cell (p := ⟨v2.heap.size, 8, none⟩) o25).trans c8; have q9 := (hb6.cell (p := ⟨v4.heap.size, 8, none⟩) o5).trans k8; have z9 := (hb6.frozen (p := ⟨v4.heap.size, 8, none⟩) o5).trans z8))
          all_goals
            clear hw1 hw2 hsm
            have hb : Below w5.heap.size w5 w6 := ((Below.refl w5.heap.size w5).drew).trans hb6
            have hbs := hb.size
            go_wp2_with (fail)
            go_meet
            refine ⟨fr_keep (fr_keep W3 hb (by omega)) ((Below.refl (v2.heap.size + 1) w6).setCell (p := ⟨v4.heap.size, 8, none⟩) (by simp; omega) _) (by omega), ?_, by simp [World.setCell]; omega, (B5.trans (hb.mono (by omega))).setCell (p := ⟨v4.heap.size, 8, none⟩) (by simp; omega) _⟩
            rw [HWD.out]
            exact (fr_keep W8 hb (by omega)).s8 _
  case rest =>
  obtain ⟨G3, G8, og, B6⟩ := hcut
  have F3 := G3
  have o3 : v2.heap.size < wc.heap.size := by omega
  obtain ⟨c0, c1, c2, c3, c4, c5, c6, c7, c8⟩ := F3
  clear W3 W8 Wf B5 hq HZ
  go_wp2_with (fail)
  refine (C5.out _).mono ?_
  rintro e v6 ⟨rfl, g6⟩
  have y6 := g6.size
  have B7 : Below w.heap.size w v6 := B6.trans (g6.mono (by omega))
  have H3 := fr_keep G3 g6 o3
  have H8 := fr_keep G8 g6 og
  clear c0 c1 c2 c3 c4 c5 c6 c7 c8 G3 G8 g6 B6
  go_wp2_with (fail)
  refine (C6.out _).mono ?_
  rintro e v7 ⟨rfl, g7⟩
  have y7 := g7.size
  have B8 : Below w.heap.size w v7 := B7.trans (g7.mono (by omega))
  have I3 := fr_keep H3 g7 (by omega)
  have I8 := fr_keep H8 g7 (by omega)
  clear H3 H8 g7 B7
  generalize f.want = g at *
  have K8 := I8
  obtain ⟨c0, c1, c2, c3, c4, c5, c6, c7, c8⟩ := I3
  obtain ⟨b0, b1, b2, b3, b4, b5, b6, b7, b8⟩ := K8
  go_wp2_with (fail)
  refine (C7.out _).mono ?_
  rintro e v8 ⟨rfl, g8⟩
  have y8 := g8.size
  have B9 : Below w.heap.size w v8 := B8.trans (g8.mono (by omega))
  clear c0 c1 c2 c3 c4 c5 c6 c7 c8 b0 b1 b2 b3 b4 b5 b6 b7 b8
  obtain ⟨c0, c1, c2, c3, c4, c5, c6, c7, c8⟩ := fr_keep I8 g8 (by omega)
  clear I8 g8 B8
  go_wp2_with (fail)
  refine (C8.out _).mono ?_
  rintro e v9 ⟨rfl, g9⟩
  have B10 : Below w.heap.size w v9 := B9.trans (g9.mono (by omega))
  clear g9 c0 c1 c2 c3 c4 c5 c6 c7 c8
  go_wp2_with (fail)
  go_ret
  exact ⟨rfl, B10⟩
namespace frameBack
open Go.ChangeShapes Go.WideShapes Go.ChangeAt Go.RowKit
open Go.ChangeMaps (open_string shut_string)
theorem own : ownKnob Try.prog.godebug = none := by kernel_rfl
theorem laidOut : laidOutB Try.prog = true := by kernel_rfl

set_option maxRecDepth 100000 in
theorem lifted (os : Os) (started : os.Started) (H : Type) (enc : TypeId × Value → H) :
    ReturnsInHanded {} Try.checked os 3 .any (Rows.frameBackSpec.pre6 enc Try.prog Try.f3 Rows.frameBackRow.domain false) (Rows.frameBackSpec.post enc Try.prog Try.f3 false true false false) := by
  refine returnsInHanded_of_change (C := Try.checked) own started (by kernel_rfl) Try.func3
    (ChangeSpec.witness6 (enc := enc) (C := Try.checked) false ⟨#[], #[.agg #[.int .u16 0, .int .u16 0, .int .u16 0, .int .u8 0, .int .u8 0, .int .u16 0, .string ByteArray.empty]], []⟩ 8 (by kernel_rfl) (by kernel_rfl) (by kernel_rfl) (by kernel_rfl)) ?_
  intro W base args ds gs before hval0 hW hcnd _
  have hval : ∀ (j : Nat) t v, Try.f3.params[j]? = some t → args[j]? = some v → Value.okWide Try.prog W .any base t v := hval0
  have hW' := hW
  obtain ⟨p, q, hA0, hV, rfl, hfz, hnd⟩ := hW
  have hA : DataW.TrodAll enc Try.prog W 0 (fun _ => true) true Try.f3.params.toList args.toList ds p := hA0
  rw [Try.params3] at hA hval
  obtain ⟨v0, vs0, d0, ds0, p0, q0, hargs, rfl, rfl, h0, r0⟩ := trodAll_cons hA
  obtain ⟨rfl, rfl, rfl⟩ := trodAll_nil r0
  obtain rfl : args = #[v0] := by cases args; simp_all
  obtain ⟨rfl, rfl⟩ := trodVars_none hV
  have k0 := h0
  have lt0 : ∀ x ∈ p0, x.block < W.heap.size := by obtain ⟨m, hm⟩ := k0; exact DataW.trod_lt m _ _ _ hm
  obtain ⟨a0, rfl, w0⟩ := open_draft (hval 0 24 v0 rfl rfl) h0
  clear hA0 hval0
  refine (frameBack_walk a0 w0 W).mono fun e W' ⟨he, bel⟩ => ?_
  subst he
  exact ⟨_, rfl, _, _, _, [], _, [], hW', trodAll_mk1 (shut_bool Try.underlying4 _), (trodAll_cons_mk (Below.trod laidOut (by kernel_rfl) (of_decide_eq_true (by kernel_rfl)) k0 bel lt0) trodAll_mk0), rfl, bel.frame _, fun h => by cases h⟩

theorem over : Rows.frameBackRow.holds Try.pinned (OpenSpec.ofChange Rows.frameBackSpec) :=
  OpenClaim.holds_of_wide 3 Try.f3 rfl rfl rfl rfl rfl rfl rfl ⟨rfl, rfl, rfl, rfl, rfl⟩ rfl rfl rfl rfl rfl (by kernel_rfl) Try.func3 (by kernel_rfl)
    (of_decide_eq_true (by kernel_rfl)) (by unfold Func.isWrapper; first | (rw [if_pos (by decide +kernel)]; kernel_rfl) | (rw [if_neg (by decide +kernel)]; exact ⟨rfl, rfl⟩))
    (fun os started H enc _ => lifted os started H enc)

theorem proved : Rows.FrameBackSaid := over
#print axioms proved
end frameBack
end Go.Proofs.Ytccdhoboidneeaa
