/-
  The statement FrameEncodes holds: Check, Encode and Wire return what the chapter specifies. No condition.
-/
import Derived.Test.YtccdhoboidneeaaOpen7
import Derived.Test.YtccdhoboidneeaaFrameR
import Derived.Test.YtccdhoboidneeaaFrameD
import Derived.BigQuiet
import Derived.Deep.CutBlock
namespace Go.Proofs.Ytccdhoboidneeaa
open Go.RowKit Go.Sort
set_option linter.unusedVariables false

set_option maxRecDepth 100000 in
theorem open_frame {H : Type} {enc : TypeId × Value → H} {w : World} {base : Nat} {spare : Nat → Bool} {held : Bool} {r : Reach} {b0 : Nat} {v : Value} {d : DataW H} {p : List MemPlace}
    (hv : Value.okWide Try.prog w r b0 27 v) (h : DataW.Trod enc Try.prog w base spare held 27 v d p) :
    ∃ f : Fr, v = .agg #[.int .i64 f.dst, .int .i64 f.src, .bool f.tag, .int .i64 f.prio, .int .i64 f.vid, .bool f.hseq, .int .i64 f.seq, .int .i64 f.type, .string f.data] ∧ f.data.size ≤ maxLen := by
  obtain ⟨cs, n, rfl, hl, hf⟩ := open_cells Try.underlying27 (by kernel_rfl) (by kernel_rfl) hv h
  obtain ⟨c0, c1, c2, c3, c4, c5, c6, c7, c8, rfl⟩ := len9 hl
  obtain ⟨a0, x0, e0, h0⟩ := hf 0 _ rfl
  obtain ⟨a1, x1, e1, h1⟩ := hf 1 _ rfl
  obtain ⟨a2, x2, e2, h2⟩ := hf 2 _ rfl
  obtain ⟨a3, x3, e3, h3⟩ := hf 3 _ rfl
  obtain ⟨a4, x4, e4, h4⟩ := hf 4 _ rfl
  obtain ⟨a5, x5, e5, h5⟩ := hf 5 _ rfl
  obtain ⟨a6, x6, e6, h6⟩ := hf 6 _ rfl
  obtain ⟨a7, x7, e7, h7⟩ := hf 7 _ rfl
  obtain ⟨a8, x8, e8, h8⟩ := hf 8 _ rfl
  obtain rfl := field_int _ e0
  obtain rfl := field_int _ e1
  obtain rfl := field_int _ e2
  obtain rfl := field_int _ e3
  obtain rfl := field_int _ e4
  obtain rfl := field_int _ e5
  obtain rfl := field_int _ e6
  obtain rfl := field_int _ e7
  obtain rfl := field_int _ e8
  obtain ⟨b0, rfl, k0⟩ := is_int Try.underlying3 h0
  obtain ⟨b1, rfl, k1⟩ := is_int Try.underlying3 h1
  obtain ⟨b2, rfl⟩ := is_bool Try.underlying4 h2
  obtain ⟨b3, rfl, k3⟩ := is_int Try.underlying3 h3
  obtain ⟨b4, rfl, k4⟩ := is_int Try.underlying3 h4
  obtain ⟨b5, rfl⟩ := is_bool Try.underlying4 h5
  obtain ⟨b6, rfl, k6⟩ := is_int Try.underlying3 h6
  obtain ⟨b7, rfl, k7⟩ := is_int Try.underlying3 h7
  obtain ⟨b8, rfl, k8⟩ := is_string Try.underlying9 h8
  exact ⟨⟨b0, b1, b2, b3, b4, b5, b6, b7, b8⟩, rfl, k8⟩

/-- A frame with Data of at most 1502 octets. -/
def Fr.cut (f : Fr) : Fr := { f with data := f.data.extract 0 (min f.data.size 1502) }
theorem cut_size (f : Fr) : f.cut.data.size ≤ 1502 := by unfold Fr.cut; rw [ByteArray.size_extract]; omega
theorem cut_any (f : Fr) (hs : f.data.size ≤ 9223372036854775807) (g : Fr) (hg : f.cut = g) (w : World) :
    Calls Try.prog 19 #[.agg #[.int .i64 f.dst, .int .i64 f.src, .bool f.tag, .int .i64 f.prio, .int .i64 f.vid, .bool f.hseq, .int .i64 f.seq, .int .i64 f.type, .string f.data]] w fun e w' => e = .returned (.agg #[.int .i64 g.dst, .int .i64 g.src, .bool g.tag, .int .i64 g.prio, .int .i64 g.vid, .bool g.hseq, .int .i64 g.seq, .int .i64 g.type, .string g.data]) ∧ Below w.heap.size w w' := by
  subst hg
  by_cases hm : f.data.size ≤ 1502
  · have hm1 : min (f.data.size : Int) 1502 = (f.data.size : Int) := by omega
    have he : f.data = f.cut.data := by unfold Fr.cut; rw [Nat.min_eq_left hm]; simp
    have HE := Lib.hid he; clear he
    go_enter Try.func19, Try.ntmps19
    go_wp2_with (fail)
    exact bodyPost_ret (v := .agg #[.int .i64 f.dst, .int .i64 f.src, .bool f.tag, .int .i64 f.prio, .int .i64 f.vid, .bool f.hseq, .int .i64 f.seq, .int .i64 f.type, .string f.data]) (by simp [results, Try.results19, go_sem]) rfl ⟨by rw [show f.data = f.cut.data from HE.out]; rfl, (by repeat' (first | exact Below.refl _ _ | assumption | refine below_drewN ?_ _ | refine Below.drew ?_ | refine Below.alloc ?_ (by (first | exact Nat.le_refl _ | assumption | (simp; done) | omega | (simp; omega))) _ | refine Below.setCell ?_ (by (first | exact Nat.le_refl _ | assumption | (simp; done) | omega | (simp; omega))) _ | refine Below.trans ?_ (Below.mono (by assumption) (by (first | exact Nat.le_refl _ | assumption | (simp; done) | omega | (simp; omega))))))⟩
  · have hm1 : min (f.data.size : Int) 1502 = 1502 := by omega
    have hm2 : 1502 ≤ (f.data.size : Int) := by omega
    have he : f.data.extract 0 1502 = f.cut.data := by unfold Fr.cut; rw [Nat.min_eq_right (by omega)]
    have HE := Lib.hid he; clear he
    go_enter Try.func19, Try.ntmps19
    go_wp2_with (fail)
    exact bodyPost_ret (v := .agg #[.int .i64 f.dst, .int .i64 f.src, .bool f.tag, .int .i64 f.prio, .int .i64 f.vid, .bool f.hseq, .int .i64 f.seq, .int .i64 f.type, .string (f.data.extract 0 1502)]) (by simp [results, Try.results19, go_sem]) rfl ⟨by rw [show (f.data.extract 0 1502) = f.cut.data from HE.out]; rfl, (by repeat' (first | exact Below.refl _ _ | assumption | refine below_drewN ?_ _ | refine Below.drew ?_ | refine Below.alloc ?_ (by (first | exact Nat.le_refl _ | assumption | (simp; done) | omega | (simp; omega))) _ | refine Below.setCell ?_ (by (first | exact Nat.le_refl _ | assumption | (simp; done) | omega | (simp; omega))) _ | refine Below.trans ?_ (Below.mono (by assumption) (by (first | exact Nat.le_refl _ | assumption | (simp; done) | omega | (simp; omega))))))⟩

theorem index3 (f g h : Fr) (B : Nat) (h0 : f.data.size ≤ B) (h1 : g.data.size ≤ B) (h2 : h.data.size ≤ B) (k : Nat) (hk : k < 3) :
    ∃ x : Fr, x.data.size ≤ B ∧ ∀ W, (Instr.index 45 (.agg #[.int .i64 f.dst, .int .i64 f.src, .bool f.tag, .int .i64 f.prio, .int .i64 f.vid, .bool f.hseq, .int .i64 f.seq, .int .i64 f.type, .string f.data, .int .i64 g.dst, .int .i64 g.src, .bool g.tag, .int .i64 g.prio, .int .i64 g.vid, .bool g.hseq, .int .i64 g.seq, .int .i64 g.type, .string g.data, .int .i64 h.dst, .int .i64 h.src, .bool h.tag, .int .i64 h.prio, .int .i64 h.vid, .bool h.hseq, .int .i64 h.seq, .int .i64 h.type, .string h.data]) (.int .i64 (k : Int))).run Try.prog W = .ok (.agg #[.int .i64 x.dst, .int .i64 x.src, .bool x.tag, .int .i64 x.prio, .int .i64 x.vid, .bool x.hseq, .int .i64 x.seq, .int .i64 x.type, .string x.data]) W := by
  have : k = 0 ∨ k = 1 ∨ k = 2 := by omega
  rcases this with rfl | rfl | rfl
  · exact ⟨f, h0, fun _ => by kernel_rfl⟩
  · exact ⟨g, h1, fun _ => by kernel_rfl⟩
  · exact ⟨h, h2, fun _ => by kernel_rfl⟩

theorem FrAt.s0 {W : World} {B : Nat} {f : Fr} (h : FrAt W B f) (v : Int) : FrAt (W.setCell ⟨B, 0, none⟩ (.int .i64 v)) B { f with dst := v } := by
  obtain ⟨c0, c1, c2, c3, c4, c5, c6, c7, c8⟩ := h
  refine ⟨?_, ?_, ?_, ?_, ?_, ?_, ?_, ?_, ?_⟩
  all_goals simp [go_sem, *]
theorem FrAt.s1 {W : World} {B : Nat} {f : Fr} (h : FrAt W B f) (v : Int) : FrAt (W.setCell ⟨B, 1, none⟩ (.int .i64 v)) B { f with src := v } := by
  obtain ⟨c0, c1, c2, c3, c4, c5, c6, c7, c8⟩ := h
  refine ⟨?_, ?_, ?_, ?_, ?_, ?_, ?_, ?_, ?_⟩
  all_goals simp [go_sem, *]
/-- The frames of the statement: the draft's in block b, the bent one in block c. -/
structure Dh (w : World) (f g h : Fr) (b c : Nat) (W : World) : Prop where
  ff : FrAt W w.heap.size f
  gg : FrAt W b g
  hh : FrAt W c h
  hz : ∀ j, W.frozen? ⟨c, j, none⟩ = false
  o1 : w.heap.size < b
  o2 : b < c
  o3 : c < W.heap.size
  bel : Below w.heap.size w W
theorem Dh.set {w W : World} {f g h h' : Fr} {b c : Nat} (H : Dh w f g h b c W) (j : Nat) (v : Value) (hg : FrAt (W.setCell ⟨c, j, none⟩ v) c h') : Dh w f g h' b c (W.setCell ⟨c, j, none⟩ v) := by
  have h1 := H.o1
  have h2 := H.o2
  have h3 := H.o3
  have hb : Below c W (W.setCell ⟨c, j, none⟩ v) := (Below.refl _ _).setCell (p := ⟨c, j, none⟩) (Nat.le_refl _) _
  refine ⟨fr_keep H.ff hb (by omega), fr_keep H.gg hb h2, hg, fun i => ?_, h1, h2, ?_, H.bel.trans (hb.mono (by omega))⟩
  · rw [World.frozen?_setCell]; exact H.hz i
  · simp [World.setCell]; omega
theorem Dh.keep {w W W' : World} {f g h : Fr} {b c : Nat} (H : Dh w f g h b c W) (hb : Below W.heap.size W W') : Dh w f g h b c W' := by
  have h1 := H.o1
  have h2 := H.o2
  have h3 := H.o3
  have hs := hb.size
  exact ⟨fr_keep H.ff hb (by omega), fr_keep H.gg hb (by omega), fr_keep H.hh hb h3, fun j => (hb.frozen (p := ⟨c, j, none⟩) h3).trans (H.hz j), h1, h2, by omega, H.bel.trans (hb.mono (by omega))⟩

set_option maxRecDepth 100000 in
set_option maxHeartbeats 2000000 in
attribute [local go_sem ↓] Go.wp_at_zero Go.wp_at_succ in
theorem frameEncodes_walk (f : Fr) (d : Dr) (n c : Int) (hs : f.data.size ≤ maxLen) (hd : d.fit) (hn : (Lit.int .i64 n).wf = true) (hc : (Lit.int .u8 c).wf = true) (w : World) :
   Calls Try.prog 5 #[.agg #[.int .i64 f.dst, .int .i64 f.src, .bool f.tag, .int .i64 f.prio, .int .i64 f.vid, .bool f.hseq, .int .i64 f.seq, .int .i64 f.type, .string f.data], .agg #[.int .u16 (d.dst : Int), .int .u16 (d.src : Int), .int .u16 (d.long : Int), .int .u8 (d.tag : Int), .int .u8 (d.kind : Int), .int .u16 (d.seq : Int), .string d.data], .int .i64 n, .int .u8 c] w fun e w' => e = .returned (.bool true) ∧ Below w.heap.size w w' := by
  unfold maxLen at hs
  obtain ⟨ch, rfl, hc2⟩ := u8_nat hc
  have hn1 : -9223372036854775808 ≤ n ∧ n ≤ 9223372036854775807 := bounds_i64 hn
  clear hc hn
  have C1 := Lib.hid (fun W => works7 W)
  have C2 := Lib.hid (fun W => Draft_any d hd W)
  have fb0 := fr_box w f
  obtain ⟨r, hr, hr9⟩ : ∃ r : Nat, (ch : Int) % 9 = (r : Int) ∧ r < 9 := ⟨ch % 9, rfl, Nat.mod_lt _ (by omega)⟩
  have HN := Lib.hid hn1; clear hn1
  go_enter Try.func5, Try.ntmps5
  go_wp2_with (fail)
  refine (C2.out _).mono ?_
  rintro e v2 ⟨⟨g, hok, hsz, rfl⟩, g2⟩
  have y2 := g2.size
  simp at y2
  have F0 := fr_keep fb0 (((Below.refl (w.alloc (frB f)).heap.size (w.alloc (frB f))).alloc (Nat.le_refl _) _).trans (g2.mono (by simp))) (by simp)
  have B2 : Below w.heap.size w v2 := (((Below.refl w.heap.size w).alloc (Nat.le_refl _) _).alloc (by simp) _).trans (g2.mono (by simp; omega))
  clear fb0 g2
  have D0 : Dh w f g g v2.heap.size (v2.heap.size + 1) ((v2.alloc (frB g)).alloc (frB g)) := by
    have e1 : (v2.alloc (frB g)).heap.size = v2.heap.size + 1 := by simp
    refine ⟨fr_keep F0 (((Below.refl v2.heap.size v2).alloc (Nat.le_refl _) _).alloc (by simp) _) (by omega), fr_keep (fr_box v2 g) ((Below.refl _ _).alloc (Nat.le_refl _) _) (by simp), ?_, fun j => ?_, by omega, by omega, by simp, (B2.alloc (by omega) _).alloc (by simp; omega) _⟩
    · have := fr_box (v2.alloc (frB g)) g; rwa [e1] at this
    · rw [← e1]; exact World.frozen?_alloc_new _ _ _ j
  clear F0 B2
  go_upto_region 3 with fail
  obtain ⟨w3, hw3⟩ : ∃ W, (v2.alloc (frB g)).alloc (frB g) = W := ⟨_, rfl⟩
  rw [hw3] at D0
  unfold frB at hw3
  rw [hw3]
  clear hw3
  have HD := Lib.hid D0; clear D0
  go_upto_block 0 with fail
  go_cut [] (fun wx => ∃ h : Fr, Dh w f g h v2.heap.size (v2.heap.size + 1) wx ∧ h.data.size ≤ 4000)
  case first =>
    have o1 := HD.out.o1
    have o3 := HD.out.o3
    have hr' : (ch : Int) % 9 = 0 ∨ (ch : Int) % 9 = 1 ∨ (ch : Int) % 9 = 2 ∨ (ch : Int) % 9 = 3 ∨ (ch : Int) % 9 = 4 ∨ (ch : Int) % 9 = 5 ∨ (ch : Int) % 9 = 6 ∨ (ch : Int) % 9 = 7 ∨ (ch : Int) % 9 = 8 := by omega
    clear hr hr9
    rcases hr' with hr | hr | hr | hr | hr | hr | hr | hr | hr
    · have z := HD.out.hz 0
      have q := HD.out.hh.c0
      go_wp2_with (fail)
      go_meet
      exact ⟨_, HD.out.set 0 _ (HD.out.hh.s0 n), by show g.data.size ≤ 4000; omega⟩
    · have z := HD.out.hz 1
      have q := HD.out.hh.c1
      go_wp2_with (fail)
      go_meet
      exact ⟨_, HD.out.set 1 _ (HD.out.hh.s1 n), by show g.data.size ≤ 4000; omega⟩
    · have z := HD.out.hz 3
      have q := HD.out.hh.c3
      go_wp2_with (fail)
      go_meet
      exact ⟨_, HD.out.set 3 _ (HD.out.hh.s3 n), by show g.data.size ≤ 4000; omega⟩
    · have z := HD.out.hz 4
      have q := HD.out.hh.c4
      go_wp2_with (fail)
      go_meet
      exact ⟨_, HD.out.set 4 _ (HD.out.hh.s4 n), by show g.data.size ≤ 4000; omega⟩
    · have z := HD.out.hz 6
      have q := HD.out.hh.c6
      go_wp2_with (fail)
      go_meet
      exact ⟨_, HD.out.set 6 _ (HD.out.hh.s6 n), by show g.data.size ≤ 4000; omega⟩
    · have z := HD.out.hz 7
      have q := HD.out.hh.c7
      go_wp2_with (fail)
      go_meet
      exact ⟨_, HD.out.set 7 _ (HD.out.hh.s7 n), by show g.data.size ≤ 4000; omega⟩
    · have z := HD.out.hz 2
      have q := HD.out.hh.c2
      have q2 := HD.out.gg.c2
      go_wp2_with (fail)
      go_meet
      exact ⟨_, HD.out.set 2 _ (HD.out.hh.s2 (!g.tag)), by show g.data.size ≤ 4000; omega⟩
    · have z := HD.out.hz 5
      have q := HD.out.hh.c5
      have q2 := HD.out.gg.c5
      go_wp2_with (fail)
      go_meet
      exact ⟨_, HD.out.set 5 _ (HD.out.hh.s5 (!g.hseq)), by show g.data.size ≤ 4000; omega⟩
    · obtain ⟨M, hM, hM2, _⟩ := u64_wrap n 8 (by omega)
      obtain ⟨Q, hQ, hQ2⟩ : ∃ Q : Nat, (M : Int) % 1502 = (Q : Int) ∧ Q < 1502 := ⟨M % 1502, rfl, Nat.mod_lt _ (by omega)⟩
      have hQ3 : (M : Int).tmod 1502 = (Q : Int) := by rw [Int.tmod_eq_emod_of_nonneg (by omega)]; exact hQ
      have hQ4 : IntKind.i64.wrap (Q : Int) = (Q : Int) := IntWalk.i64_in _ (by omega)
      have hQ5 : 0 ≤ (Q : Int) := by omega
      have z := HD.out.hz 8
      have q := HD.out.hh.c8
      have q2 := HD.out.gg.c8
      have o2 := HD.out.o2
      have o4 : v2.heap.size < w3.heap.size := by omega
      have ne1 : ¬ v2.heap.size = v2.heap.size + 1 := by omega
      have mk : (Instr.makeSlice 42 (.int .i64 (Q : Int)) (.int .i64 (Q : Int))).run Try.prog w3.drew = .ok (.slice (some ⟨w3.heap.size, 0, none⟩) Q Q) ((w3.alloc (.cells (zrow Q) 5)).drew) := make_bytes Q (by omega) w3.drew
      have cvz : (convert 42 9 (.slice (some ⟨w3.heap.size, 0, none⟩) Q Q)).run Try.prog ((w3.alloc (.cells (zrow Q) 5)).drew) = .ok (.string (S (List.replicate Q 0))) ((w3.alloc (.cells (zrow Q) 5)).drew) := by
        have h := conv_list ((w3.alloc (.cells (zrow Q) 5)).drew) w3.heap.size Q (List.replicate Q 0) (by
          intro j hj
          rw [List.length_replicate] at hj
          rw [List.getElem_replicate]
          exact (zrow_row Q w3).cell j hj)
        rwa [List.length_replicate] at h
      have zs : (S (List.replicate Q 0)).size ≤ 1502 := by rw [S_size, List.length_replicate]; omega
      have n1 : ¬ 9223372036854775807 < g.data.size + (S (List.replicate Q 0)).size := by omega
      clear hQ
      go_wp2_with (fail)
      go_region
      all_goals (go_wp2_with fail; go_meet; exact ⟨{ g with data := g.data ++ S (List.replicate Q 0) }, (HD.out.set 8 _ (HD.out.hh.s8 _)).keep (((Below.refl _ _).alloc (Nat.le_refl _) _).drew), by show ByteArray.size _ ≤ 4000; rw [ByteArray.size_append]; omega⟩)
  case rest =>
  obtain ⟨h, D1, hhz⟩ := hcut
  clear HD hr hr9
  have HD := Lib.hid D1; clear D1
  obtain ⟨c0, c1, c2, c3, c4, c5, c6, c7, c8⟩ := HD.out.ff
  obtain ⟨b0, b1, b2, b3, b4, b5, b6, b7, b8⟩ := HD.out.gg
  obtain ⟨a0, a1, a2, a3, a4, a5, a6, a7, a8⟩ := HD.out.hh
  have q1 : ∀ d os, Calls Try.prog 19 #[.agg #[.int .i64 f.dst, .int .i64 f.src, .bool f.tag, .int .i64 f.prio, .int .i64 f.vid, .bool f.hseq, .int .i64 f.seq, .int .i64 f.type, .string f.data]] (grow (redrawn wc d) os) fun e w'' => e = .returned (.agg #[.int .i64 f.cut.dst, .int .i64 f.cut.src, .bool f.cut.tag, .int .i64 f.cut.prio, .int .i64 f.cut.vid, .bool f.cut.hseq, .int .i64 f.cut.seq, .int .i64 f.cut.type, .string f.cut.data]) ∧ ∃ p : Regrown, w'' = grow (redrawn wc p.d) p.os := fun d os => Calls.regrown_of (cut_any f hs _ rfl _)
  have q2 : ∀ d os, Calls Try.prog 19 #[.agg #[.int .i64 h.dst, .int .i64 h.src, .bool h.tag, .int .i64 h.prio, .int .i64 h.vid, .bool h.hseq, .int .i64 h.seq, .int .i64 h.type, .string h.data]] (grow (redrawn wc d) os) fun e w'' => e = .returned (.agg #[.int .i64 h.cut.dst, .int .i64 h.cut.src, .bool h.cut.tag, .int .i64 h.cut.prio, .int .i64 h.cut.vid, .bool h.cut.hseq, .int .i64 h.cut.seq, .int .i64 h.cut.type, .string h.cut.data]) ∧ ∃ p : Regrown, w'' = grow (redrawn wc p.d) p.os := fun d os => Calls.regrown_of (cut_any h (by omega) _ rfl _)
  have hk1 := cut_size f
  have hk2 := cut_size h
  generalize f.cut = F at *
  generalize h.cut = H at *
  have ka0 := cell_regrown a0
  have ka1 := cell_regrown a1
  have ka2 := cell_regrown a2
  have ka3 := cell_regrown a3
  have ka4 := cell_regrown a4
  have ka5 := cell_regrown a5
  have ka6 := cell_regrown a6
  have ka7 := cell_regrown a7
  have ka8 := cell_regrown a8
  have kb0 := cell_regrown b0
  have kb1 := cell_regrown b1
  have kb2 := cell_regrown b2
  have kb3 := cell_regrown b3
  have kb4 := cell_regrown b4
  have kb5 := cell_regrown b5
  have kb6 := cell_regrown b6
  have kb7 := cell_regrown b7
  have kb8 := cell_regrown b8
  have kc0 := cell_regrown c0
  have kc1 := cell_regrown c1
  have kc2 := cell_regrown c2
  have kc3 := cell_regrown c3
  have kc4 := cell_regrown c4
  have kc5 := cell_regrown c5
  have kc6 := cell_regrown c6
  have kc7 := cell_regrown c7
  have kc8 := cell_regrown c8
  clear a0 a1 a2 a3 a4 a5 a6 a7 a8 b0 b1 b2 b3 b4 b5 b6 b7 b8 c0 c1 c2 c3 c4 c5 c6 c7 c8
  go_wp2_with (fail)
  refine wp_region_quiet_below (by kernel_rfl) (by kernel_rfl) ?_
  repeat (first | go_big_quiet_step (first | (with_reducible exact q1 _ _) | (with_reducible exact q2 _ _)) | quiet_step (first | (with_reducible exact q1 _ _) | (with_reducible exact q2 _ _)))
  refine wpQuiet_nil ?_
  intro _ hw'
  obtain ⟨⟨dq, osq⟩, hw''⟩ := hw'
  subst hw''
  clear ka0 ka1 ka2 ka3 ka4 ka5 ka6 ka7 ka8
  clear kb0 kb1 kb2 kb3 kb4 kb5 kb6 kb7 kb8
  clear kc0 kc1 kc2 kc3 kc4 kc5 kc6 kc7 kc8
  clear q1 q2
  have B7 : Below w.heap.size w (grow (redrawn wc dq) osq) := HD.out.bel.trans ((below_regrown wc dq osq).mono HD.out.bel.size)
  generalize grow (redrawn wc dq) osq = we at *
  have HIX := Lib.hid (index3 F g H 1600 (by omega) (by omega) (by omega))
  generalize (Value.agg #[.int .i64 F.dst, .int .i64 F.src, .bool F.tag, .int .i64 F.prio, .int .i64 F.vid, .bool F.hseq, .int .i64 F.seq, .int .i64 F.type, .string F.data, .int .i64 g.dst, .int .i64 g.src, .bool g.tag, .int .i64 g.prio, .int .i64 g.vid, .bool g.hseq, .int .i64 g.seq, .int .i64 g.type, .string g.data, .int .i64 H.dst, .int .i64 H.src, .bool H.tag, .int .i64 H.prio, .int .i64 H.vid, .bool H.hseq, .int .i64 H.seq, .int .i64 H.type, .string H.data]) = V9 at *
  have hb7 := B7.size
  have HB7 := Lib.hid B7; clear B7 hk1 hk2 hhz
  go_wp2_with (fail)
  go_loopw [78] (fun i wr => ∃ k : Nat, k ≤ 3 ∧ i = .int .i64 k ∧ Below w.heap.size w wr) (fun i _ => 3 - (intOf i).toNat)
  case atStart => exact ⟨0, by omega, rfl, HB7.out⟩
  case round =>
    obtain ⟨k, hk, rfl, hbr⟩ := hrel
    have hbs := hbr.size
    by_cases hlt : k < 3
    · obtain ⟨x, hx, hix⟩ := HIX.out k hlt
      have D1 := Lib.hid (fun W => Encode_any x (by omega) W)
      have D2 := Lib.hid (fun W => REncode_any x (by omega) W)
      have D3 := Lib.hid (fun W => Wire_any x (by omega) W)
      have D4 := Lib.hid (fun W => RWire_any x (by omega) W)
      have D5 := Lib.hid (fun W => Check_any x (by omega) W)
      have D6 := Lib.hid (fun W => RCheck_any x (by omega) W)
      generalize x.enc = E at *
      generalize x.code = C at *
      generalize x.wire = T at *
      go_wp2_with (fail)
      refine (D1.out _).mono ?_
      rintro e u1 ⟨rfl, k1⟩
      have l1 := k1.size
      simp at l1
      have hb1 : Below w.heap.size w u1 := (hbr.alloc (by omega) _).trans (k1.mono (by simp; omega))
      have G1 := fr_keep (fr_box wr x) k1 (by simp)
      clear k1
      have G := G1
      obtain ⟨c0, c1, c2, c3, c4, c5, c6, c7, c8⟩ := G
      go_wp2_with (fail)
      refine (D2.out _).mono ?_
      rintro e u2 ⟨rfl, k2⟩
      have l2 := k2.size
      have hb2 : Below w.heap.size w u2 := hb1.trans (k2.mono (by omega))
      have G2 := fr_keep G1 k2 (by omega)
      clear k2 G1 c0 c1 c2 c3 c4 c5 c6 c7 c8
      have G := G2
      obtain ⟨c0, c1, c2, c3, c4, c5, c6, c7, c8⟩ := G
      go_wp2_with (fail)
      refine (D3.out _).mono ?_
      rintro e u3 ⟨rfl, k3⟩
      have l3 := k3.size
      have hb3 : Below w.heap.size w u3 := hb2.trans (k3.mono (by omega))
      have G3 := fr_keep G2 k3 (by omega)
      clear k3 G2 c0 c1 c2 c3 c4 c5 c6 c7 c8
      have G := G3
      obtain ⟨c0, c1, c2, c3, c4, c5, c6, c7, c8⟩ := G
      go_wp2_with (fail)
      refine (D4.out _).mono ?_
      rintro e u4 ⟨rfl, k4⟩
      have l4 := k4.size
      have hb4 : Below w.heap.size w u4 := hb3.trans (k4.mono (by omega))
      have G4 := fr_keep G3 k4 (by omega)
      clear k4 G3 c0 c1 c2 c3 c4 c5 c6 c7 c8
      have G := G4
      obtain ⟨c0, c1, c2, c3, c4, c5, c6, c7, c8⟩ := G
      have q1 : ∀ d os, Calls Try.prog 14 #[.agg #[.int .i64 x.dst, .int .i64 x.src, .bool x.tag, .int .i64 x.prio, .int .i64 x.vid, .bool x.hseq, .int .i64 x.seq, .int .i64 x.type, .string x.data]] (grow (redrawn u4 d) os) fun e w'' => e = .returned (.int .i64 C) ∧ ∃ p : Regrown, w'' = grow (redrawn u4 p.d) p.os := fun d os => Calls.regrown_of (D5.out _)
      have q2 : ∀ d os, Calls Try.prog 22 #[.agg #[.int .i64 x.dst, .int .i64 x.src, .bool x.tag, .int .i64 x.prio, .int .i64 x.vid, .bool x.hseq, .int .i64 x.seq, .int .i64 x.type, .string x.data]] (grow (redrawn u4 d) os) fun e w'' => e = .returned (.int .i64 C) ∧ ∃ p : Regrown, w'' = grow (redrawn u4 p.d) p.os := fun d os => Calls.regrown_of (D6.out _)
      have kc0 := cell_regrown c0
      have kc1 := cell_regrown c1
      have kc2 := cell_regrown c2
      have kc3 := cell_regrown c3
      have kc4 := cell_regrown c4
      have kc5 := cell_regrown c5
      have kc6 := cell_regrown c6
      have kc7 := cell_regrown c7
      have kc8 := cell_regrown c8
      clear c0 c1 c2 c3 c4 c5 c6 c7 c8 G4
      go_wp2_with (fail)
      refine wp_region_quiet_below (by kernel_rfl) (by kernel_rfl) ?_
      repeat (first | go_big_quiet_step (first | (with_reducible exact q1 _ _) | (with_reducible exact q2 _ _)) | quiet_step (first | (with_reducible exact q1 _ _) | (with_reducible exact q2 _ _)))
      refine wpQuiet_nil ?_
      intro _ hw'
      obtain ⟨⟨dr, osr⟩, hw''⟩ := hw'
      subst hw''
      clear q1 q2 kc0 kc1 kc2 kc3 kc4 kc5 kc6 kc7 kc8
      have hb5 : Below w.heap.size w (grow (redrawn u4 dr) osr) := hb4.trans ((below_regrown u4 dr osr).mono hb4.size)
      generalize grow (redrawn u4 dr) osr = u5 at *
      go_wp2_with (fail)
      go_roundw
      case rel => exact ⟨k + 1, by omega, by go_num, hb5⟩
      case measure => simp [intOf]; omega
    · obtain rfl : k = 3 := by omega
      go_wp2_with (fail)
      refine (C1.out _).mono ?_
      rintro e u1 ⟨rfl, k1⟩
      go_wp2_with (fail)
      go_ret
      exact ⟨rfl, hbr.trans (k1.mono hbs)⟩
namespace frameEncodes
open Go.ChangeShapes Go.WideShapes Go.ChangeAt Go.RowKit
open Go.ChangeMaps (open_string shut_string)
theorem own : ownKnob Try.prog.godebug = none := by kernel_rfl
theorem laidOut : laidOutB Try.prog = true := by kernel_rfl

set_option maxRecDepth 100000 in
theorem lifted (os : Os) (started : os.Started) (H : Type) (enc : TypeId × Value → H) :
    ReturnsInHanded {} Try.checked os 5 .any (Rows.frameEncodesSpec.pre6 enc Try.prog Try.f5 Rows.frameEncodesRow.domain false) (Rows.frameEncodesSpec.post enc Try.prog Try.f5 false true false false) := by
  refine returnsInHanded_of_change (C := Try.checked) own started (by kernel_rfl) Try.func5
    (ChangeSpec.witness6 (enc := enc) (C := Try.checked) false ⟨#[], #[.agg #[.int .i64 0, .int .i64 0, .bool false, .int .i64 0, .int .i64 0, .bool false, .int .i64 0, .int .i64 0, .string ByteArray.empty], .agg #[.int .u16 0, .int .u16 0, .int .u16 0, .int .u8 0, .int .u8 0, .int .u16 0, .string ByteArray.empty], .int .i64 0, .int .u8 0], []⟩ 8 (by kernel_rfl) (by kernel_rfl) (by kernel_rfl) (by kernel_rfl)) ?_
  intro W base args ds gs before hval0 hW hcnd _
  have hval : ∀ (j : Nat) t v, Try.f5.params[j]? = some t → args[j]? = some v → Value.okWide Try.prog W .any base t v := hval0
  have hW' := hW
  obtain ⟨p, q, hA0, hV, rfl, hfz, hnd⟩ := hW
  have hA : DataW.TrodAll enc Try.prog W 0 (fun _ => true) true Try.f5.params.toList args.toList ds p := hA0
  rw [Try.params5] at hA hval
  obtain ⟨v0, vs0, d0, ds0, p0, q0, hargs, rfl, rfl, h0, r0⟩ := trodAll_cons hA
  obtain ⟨v1, vs1, d1, ds1, p1, q1, rfl, rfl, rfl, h1, r1⟩ := trodAll_cons r0
  obtain ⟨v2, vs2, d2, ds2, p2, q2, rfl, rfl, rfl, h2, r2⟩ := trodAll_cons r1
  obtain ⟨v3, vs3, d3, ds3, p3, q3, rfl, rfl, rfl, h3, r3⟩ := trodAll_cons r2
  obtain ⟨rfl, rfl, rfl⟩ := trodAll_nil r3
  obtain rfl : args = #[v0, v1, v2, v3] := by cases args; simp_all
  obtain ⟨rfl, rfl⟩ := trodVars_none hV
  have k0 := h0
  have lt0 : ∀ x ∈ p0, x.block < W.heap.size := by obtain ⟨m, hm⟩ := k0; exact DataW.trod_lt m _ _ _ hm
  have k1 := h1
  have lt1 : ∀ x ∈ p1, x.block < W.heap.size := by obtain ⟨m, hm⟩ := k1; exact DataW.trod_lt m _ _ _ hm
  have k2 := h2
  have lt2 : ∀ x ∈ p2, x.block < W.heap.size := by obtain ⟨m, hm⟩ := k2; exact DataW.trod_lt m _ _ _ hm
  have k3 := h3
  have lt3 : ∀ x ∈ p3, x.block < W.heap.size := by obtain ⟨m, hm⟩ := k3; exact DataW.trod_lt m _ _ _ hm
  obtain ⟨a0, rfl, w0⟩ := open_frame (hval 0 27 v0 rfl rfl) h0
  obtain ⟨a1, rfl, w1⟩ := open_draft (hval 1 24 v1 rfl rfl) h1
  obtain ⟨a2, rfl, rfl, rfl, w2⟩ := open_int Try.underlying3 (hval 2 3 v2 rfl rfl) h2
  obtain ⟨a3, rfl, rfl, rfl, w3⟩ := open_int Try.underlying5 (hval 3 5 v3 rfl rfl) h3
  clear hA0 hval0
  refine (frameEncodes_walk a0 a1 a2 a3 w0 w1 w2 w3 W).mono fun e W' ⟨he, bel⟩ => ?_
  subst he
  exact ⟨_, rfl, _, _, _, [], _, [], hW', trodAll_mk1 (shut_bool Try.underlying4 _), (trodAll_cons_mk (Below.trod laidOut (by kernel_rfl) (of_decide_eq_true (by kernel_rfl)) k0 bel lt0) (trodAll_cons_mk (Below.trod laidOut (by kernel_rfl) (of_decide_eq_true (by kernel_rfl)) k1 bel lt1) (trodAll_cons_mk (Below.trod laidOut (by kernel_rfl) (of_decide_eq_true (by kernel_rfl)) k2 bel lt2) (trodAll_cons_mk (Below.trod laidOut (by kernel_rfl) (of_decide_eq_true (by kernel_rfl)) k3 bel lt3) trodAll_mk0)))), rfl, bel.frame _, fun h => by cases h⟩

theorem over : Rows.frameEncodesRow.holds Try.pinned (OpenSpec.ofChange Rows.frameEncodesSpec) :=
  OpenClaim.holds_of_wide 5 Try.f5 rfl rfl rfl rfl rfl rfl rfl ⟨rfl, rfl, rfl, rfl, rfl⟩ rfl rfl rfl rfl rfl (by kernel_rfl) Try.func5 (by kernel_rfl)
    (of_decide_eq_true (by kernel_rfl)) (by unfold Func.isWrapper; first | (rw [if_pos (by decide +kernel)]; kernel_rfl) | (rw [if_neg (by decide +kernel)]; exact ⟨rfl, rfl⟩))
    (fun os started H enc _ => lifted os started H enc)

theorem proved : Rows.FrameEncodesSaid := over
#print axioms proved
end frameEncodes
end Go.Proofs.Ytccdhoboidneeaa
