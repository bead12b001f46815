/-
  The contract of the reference's Draft.Frame: it returns some valid frame.
-/
import Derived.Test.YtccdhoboidneeaaFrameX
import Derived.Deep.DeepCutAuto
import Derived.Deep.LoopGhost
namespace Go.Proofs.Ytccdhoboidneeaa
open Go.RowKit
set_option linter.unusedVariables false

theorem FrAt.s2 {W : World} {B : Nat} {f : Fr} (h : FrAt W B f) (v : Bool) : FrAt (W.setCell ⟨B, 2, none⟩ (.bool v)) B { f with tag := v } := by
  obtain ⟨c0, c1, c2, c3, c4, c5, c6, c7, c8⟩ := h
  refine ⟨?_, ?_, ?_, ?_, ?_, ?_, ?_, ?_, ?_⟩
  all_goals simp [go_sem, *]
theorem FrAt.s5 {W : World} {B : Nat} {f : Fr} (h : FrAt W B f) (v : Bool) : FrAt (W.setCell ⟨B, 5, none⟩ (.bool v)) B { f with hseq := v } := by
  obtain ⟨c0, c1, c2, c3, c4, c5, c6, c7, c8⟩ := h
  refine ⟨?_, ?_, ?_, ?_, ?_, ?_, ?_, ?_, ?_⟩
  all_goals simp [go_sem, *]
theorem FrAt.s3 {W : World} {B : Nat} {f : Fr} (h : FrAt W B f) (v : Int) : FrAt (W.setCell ⟨B, 3, none⟩ (.int .i64 v)) B { f with prio := v } := by
  obtain ⟨c0, c1, c2, c3, c4, c5, c6, c7, c8⟩ := h
  refine ⟨?_, ?_, ?_, ?_, ?_, ?_, ?_, ?_, ?_⟩
  all_goals simp [go_sem, *]
theorem FrAt.s4 {W : World} {B : Nat} {f : Fr} (h : FrAt W B f) (v : Int) : FrAt (W.setCell ⟨B, 4, none⟩ (.int .i64 v)) B { f with vid := v } := by
  obtain ⟨c0, c1, c2, c3, c4, c5, c6, c7, c8⟩ := h
  refine ⟨?_, ?_, ?_, ?_, ?_, ?_, ?_, ?_, ?_⟩
  all_goals simp [go_sem, *]
theorem FrAt.s6 {W : World} {B : Nat} {f : Fr} (h : FrAt W B f) (v : Int) : FrAt (W.setCell ⟨B, 6, none⟩ (.int .i64 v)) B { f with seq := v } := by
  obtain ⟨c0, c1, c2, c3, c4, c5, c6, c7, c8⟩ := h
  refine ⟨?_, ?_, ?_, ?_, ?_, ?_, ?_, ?_, ?_⟩
  all_goals simp [go_sem, *]
theorem FrAt.s7 {W : World} {B : Nat} {f : Fr} (h : FrAt W B f) (v : Int) : FrAt (W.setCell ⟨B, 7, none⟩ (.int .i64 v)) B { f with type := v } := by
  obtain ⟨c0, c1, c2, c3, c4, c5, c6, c7, c8⟩ := h
  refine ⟨?_, ?_, ?_, ?_, ?_, ?_, ?_, ?_, ?_⟩
  all_goals simp [go_sem, *]
theorem FrAt.s8 {W : World} {B : Nat} {f : Fr} (h : FrAt W B f) (v : ByteArray) : FrAt (W.setCell ⟨B, 8, none⟩ (.string v)) B { f with data := v } := by
  obtain ⟨c0, c1, c2, c3, c4, c5, c6, c7, c8⟩ := h
  refine ⟨?_, ?_, ?_, ?_, ?_, ?_, ?_, ?_, ?_⟩
  all_goals simp [go_sem, *]
/-- A draft. -/
structure Dr where
  dst : Nat
  src : Nat
  long : Nat
  tag : Nat
  kind : Nat
  seq : Nat
  data : ByteArray
def Dr.fit (d : Dr) : Prop := d.dst < 65536 ∧ d.src < 65536 ∧ d.long < 65536 ∧ d.tag < 256 ∧ d.kind < 256 ∧ d.seq < 65536 ∧ d.data.size ≤ 9223372036854775807
structure DrAt (W : World) (B : Nat) (d : Dr) : Prop where
  p0 : W.cell? ⟨B, 0, none⟩ = some (.int .u16 (d.dst : Int))
  p1 : W.cell? ⟨B, 1, none⟩ = some (.int .u16 (d.src : Int))
  p2 : W.cell? ⟨B, 2, none⟩ = some (.int .u16 (d.long : Int))
  p3 : W.cell? ⟨B, 3, none⟩ = some (.int .u8 (d.tag : Int))
  p4 : W.cell? ⟨B, 4, none⟩ = some (.int .u8 (d.kind : Int))
  p5 : W.cell? ⟨B, 5, none⟩ = some (.int .u16 (d.seq : Int))
  p6 : W.cell? ⟨B, 6, none⟩ = some (.string d.data)
theorem DrAt.keep {W W' : World} {B n : Nat} {d : Dr} (h : DrAt W B d) (hb : Below n W W') (hB : B < n) : DrAt W' B d :=
  ⟨(hb.cell hB).trans h.p0, (hb.cell hB).trans h.p1, (hb.cell hB).trans h.p2, (hb.cell hB).trans h.p3, (hb.cell hB).trans h.p4, (hb.cell hB).trans h.p5, (hb.cell hB).trans h.p6⟩
/-- While Frame works: the draft stands in block n, the result's place in block n + 1, the frame in block n + 2. -/
structure Dw (w : World) (d : Dr) (f : Fr) (W : World) : Prop where
  dr : DrAt W w.heap.size d
  rs : FrAt W (w.heap.size + 1) Fr.none
  rz : ∀ j, W.frozen? ⟨w.heap.size + 1, j, none⟩ = false
  fr : FrAt W (w.heap.size + 2) f
  fz : ∀ j, W.frozen? ⟨w.heap.size + 2, j, none⟩ = false
  bel : Below w.heap.size w W
  big : w.heap.size + 2 < W.heap.size
def DwOk (w : World) (d : Dr) (m : Nat) (W : World) : Prop := ∃ f, Dw w d f W ∧ f.ok = true ∧ f.data.size ≤ m
def drB (d : Dr) : Obj := .cells #[.int .u16 (d.dst : Int), .int .u16 (d.src : Int), .int .u16 (d.long : Int), .int .u8 (d.tag : Int), .int .u8 (d.kind : Int), .int .u16 (d.seq : Int), .string d.data] 24
theorem Dw.start (w : World) (d : Dr) (f : Fr) : Dw w d f (((w.alloc (drB d)).alloc (frB Fr.none)).alloc (frB f)).drew := by
  have b1 : Below (w.alloc (drB d)).heap.size (w.alloc (drB d)) (((w.alloc (drB d)).alloc (frB Fr.none)).alloc (frB f)).drew := (((Below.refl _ _).alloc (by omega) _).alloc (by simp) _).drew
  have b2 : Below ((w.alloc (drB d)).alloc (frB Fr.none)).heap.size ((w.alloc (drB d)).alloc (frB Fr.none)) (((w.alloc (drB d)).alloc (frB Fr.none)).alloc (frB f)).drew := ((Below.refl _ _).alloc (by omega) _).drew
  have b3 : Below (((w.alloc (drB d)).alloc (frB Fr.none)).alloc (frB f)).heap.size (((w.alloc (drB d)).alloc (frB Fr.none)).alloc (frB f)) (((w.alloc (drB d)).alloc (frB Fr.none)).alloc (frB f)).drew := (Below.refl _ _).drew
  have e1 : (w.alloc (drB d)).heap.size = w.heap.size + 1 := by simp
  have e2 : ((w.alloc (drB d)).alloc (frB Fr.none)).heap.size = w.heap.size + 2 := by simp
  refine ⟨DrAt.keep ⟨by simp [drB], by simp [drB], by simp [drB], by simp [drB], by simp [drB], by simp [drB], by simp [drB]⟩ b1 (by simp), ?_, ?_, ?_, ?_, ?_, by simp⟩
  · have := fr_keep (fr_box (w.alloc (drB d)) Fr.none) b2 (by simp)
    rwa [e1] at this
  · intro j
    have h0 : ((w.alloc (drB d)).alloc (frB Fr.none)).frozen? ⟨w.heap.size + 1, j, none⟩ = false := by rw [← e1]; simp
    exact (b2.frozen (p := ⟨w.heap.size + 1, j, none⟩) (by simp)).trans h0
  · have := fr_keep (fr_box ((w.alloc (drB d)).alloc (frB Fr.none)) f) b3 (by simp)
    rwa [e2] at this
  · intro j
    have h0 : (((w.alloc (drB d)).alloc (frB Fr.none)).alloc (frB f)).frozen? ⟨w.heap.size + 2, j, none⟩ = false := by rw [← e2]; exact World.frozen?_alloc_new _ _ _ j
    exact (b3.frozen (p := ⟨w.heap.size + 2, j, none⟩) (by simp)).trans h0
  · exact (((((Below.refl w.heap.size w).alloc (Nat.le_refl _) _).alloc (by simp) _).alloc (by simp; omega) _).drew)
theorem Dw.set {w W : World} {d : Dr} {f g : Fr} (h : Dw w d f W) (j : Nat) (v : Value) (hg : FrAt (W.setCell ⟨w.heap.size + 2, j, none⟩ v) (w.heap.size + 2) g) : Dw w d g (W.setCell ⟨w.heap.size + 2, j, none⟩ v) := by
  have hb : Below (w.heap.size + 2) W (W.setCell ⟨w.heap.size + 2, j, none⟩ v) := (Below.refl _ _).setCell (p := ⟨w.heap.size + 2, j, none⟩) (Nat.le_refl _) _
  refine ⟨h.dr.keep hb (by omega), fr_keep h.rs hb (by omega), fun i => ?_, hg, fun i => ?_, h.bel.trans (hb.mono (by omega)), ?_⟩
  · rw [World.frozen?_setCell]; exact h.rz i
  · rw [World.frozen?_setCell]; exact h.fz i
  · have := h.big; simp [World.setCell]; omega
theorem Dw.drew {w W : World} {d : Dr} {f : Fr} (h : Dw w d f W) : Dw w d f W.drew :=
  ⟨h.dr.keep ((Below.refl W.heap.size W).drew) (by have := h.big; omega), fr_keep h.rs ((Below.refl W.heap.size W).drew) (by have := h.big; omega), h.rz, fr_keep h.fr ((Below.refl W.heap.size W).drew) h.big, h.fz, h.bel.drew, h.big⟩
theorem Dw.s2 {w W : World} {d : Dr} {f : Fr} (h : Dw w d f W) (v : Bool) : Dw w d { f with tag := v } (W.setCell ⟨w.heap.size + 2, 2, none⟩ (.bool v)) := h.set 2 _ (h.fr.s2 v)
theorem Dw.s5 {w W : World} {d : Dr} {f : Fr} (h : Dw w d f W) (v : Bool) : Dw w d { f with hseq := v } (W.setCell ⟨w.heap.size + 2, 5, none⟩ (.bool v)) := h.set 5 _ (h.fr.s5 v)
theorem Dw.s3 {w W : World} {d : Dr} {f : Fr} (h : Dw w d f W) (v : Int) : Dw w d { f with prio := v } (W.setCell ⟨w.heap.size + 2, 3, none⟩ (.int .i64 v)) := h.set 3 _ (h.fr.s3 v)
theorem Dw.s4 {w W : World} {d : Dr} {f : Fr} (h : Dw w d f W) (v : Int) : Dw w d { f with vid := v } (W.setCell ⟨w.heap.size + 2, 4, none⟩ (.int .i64 v)) := h.set 4 _ (h.fr.s4 v)
theorem Dw.s6 {w W : World} {d : Dr} {f : Fr} (h : Dw w d f W) (v : Int) : Dw w d { f with seq := v } (W.setCell ⟨w.heap.size + 2, 6, none⟩ (.int .i64 v)) := h.set 6 _ (h.fr.s6 v)
theorem Dw.s7 {w W : World} {d : Dr} {f : Fr} (h : Dw w d f W) (v : Int) : Dw w d { f with type := v } (W.setCell ⟨w.heap.size + 2, 7, none⟩ (.int .i64 v)) := h.set 7 _ (h.fr.s7 v)
theorem Dw.s8 {w W : World} {d : Dr} {f : Fr} (h : Dw w d f W) (v : ByteArray) : Dw w d { f with data := v } (W.setCell ⟨w.heap.size + 2, 8, none⟩ (.string v)) := h.set 8 _ (h.fr.s8 v)
theorem wrap_tag (n : Nat) (h : n < 256) : (0 ≤ IntKind.i64.wrap ((n : Int).tmod 8) ∧ IntKind.i64.wrap ((n : Int).tmod 8) ≤ 7) ∧ (0 ≤ IntKind.i64.wrap (IntKind.i64.wrap (n : Int) * 16) ∧ IntKind.i64.wrap (IntKind.i64.wrap (n : Int) * 16) ≤ 4094) := by
  have e : (n : Int).tmod 8 = ((n % 8 : Nat) : Int) := rfl
  rw [e, IntWalk.i64_in (n : Int) (by omega), IntWalk.i64_in _ (by omega), IntWalk.i64_in _ (by omega)]; omega
theorem wrap_seq (n : Nat) (h : n < 65536) : 0 ≤ IntKind.i64.wrap (n : Int) ∧ IntKind.i64.wrap (n : Int) ≤ 65535 := by
  rw [IntWalk.i64_in (n : Int) (by omega)]; omega
theorem ok_tag (f : Fr) (h : f.ok = true) (p v : Int) (h1 : 0 ≤ p ∧ p ≤ 7) (h2 : 0 ≤ v ∧ v ≤ 4094) : ({ f with tag := true, prio := p, vid := v } : Fr).ok = true := by
  rw [Fr.ok_iff] at h ⊢
  obtain ⟨g1, g2, g3, g4, g5, g6, g7, g8, g9⟩ := h
  exact ⟨g1, g2, h1, h2, g5, g6, g7, g8, g9⟩
theorem ok_seq (f : Fr) (h : f.ok = true) (p : Int) (h1 : 0 ≤ p ∧ p ≤ 65535) (h2 : f.data.size ≤ 1494) : ({ f with hseq := true, seq := p } : Fr).ok = true := by
  rw [Fr.ok_iff] at h ⊢
  obtain ⟨g1, g2, g3, g4, g5, g6, g7, g8, g9⟩ := h
  exact ⟨g1, g2, g3, g4, h1, g6, g7, g8, by show (f.data.size : Int) ≤ 1494; omega⟩
theorem ok_type (f : Fr) (h : f.ok = true) (p : Int) (h1 : p = 2048 ∨ p = 8944 ∨ p = 65535 ∨ p = 1536) : ({ f with type := p } : Fr).ok = true := by
  rw [Fr.ok_iff] at h ⊢
  obtain ⟨g1, g2, g3, g4, g5, g6, g7, g8, g9⟩ := h
  exact ⟨g1, g2, g3, g4, g5, .inr (by show 1536 ≤ p ∧ p ≤ 65535; omega), by show p ≠ 33024; omega, by show p ≠ 61889; omega, g9⟩
theorem ok_data (f : Fr) (h : f.ok = true) (x : ByteArray) (h1 : x.size ≤ 1494) : ({ f with data := x } : Fr).ok = true := by
  rw [Fr.ok_iff] at h ⊢
  obtain ⟨g1, g2, g3, g4, g5, g6, g7, g8, g9⟩ := h
  exact ⟨g1, g2, g3, g4, g5, g6, g7, g8, by show (x.size : Int) ≤ _; split <;> omega⟩
theorem ok_first (a b : Int) (h1 : 0 ≤ a ∧ a ≤ 281474976710655) (h2 : 0 ≤ b ∧ b ≤ 281474976710655) (x : ByteArray) (h : x.size ≤ 100) : (⟨a, b, false, 0, 0, false, 0, 0, x⟩ : Fr).ok = true := by
  rw [Fr.ok_iff]
  exact ⟨h1, h2, by simp, by simp, by simp, by simp, by simp, by simp, by simp; omega⟩
theorem wrap_dst (n : Nat) (h : n < 65536) : 0 ≤ IntKind.i64.wrap (IntKind.i64.wrap (n : Int) * 4294967296) ∧ IntKind.i64.wrap (IntKind.i64.wrap (n : Int) * 4294967296) ≤ 281474976710655 := by
  rw [IntWalk.i64_in (n : Int) (by omega), IntWalk.i64_in _ (by omega)]; omega
theorem wrap_src (n : Nat) (h : n < 65536) : 0 ≤ IntKind.i64.wrap (n : Int) ∧ IntKind.i64.wrap (n : Int) ≤ 281474976710655 := by
  rw [IntWalk.i64_in (n : Int) (by omega)]; omega

set_option maxRecDepth 100000 in
set_option maxHeartbeats 2000000 in
attribute [local go_sem ↓] Go.wp_at_zero Go.wp_at_succ in
theorem Draft_any (d : Dr) (hd : d.fit) (w : World) : Calls Try.prog 10 #[.agg #[.int .u16 (d.dst : Int), .int .u16 (d.src : Int), .int .u16 (d.long : Int), .int .u8 (d.tag : Int), .int .u8 (d.kind : Int), .int .u16 (d.seq : Int), .string d.data]] w fun e w' => (∃ f : Fr, f.ok = true ∧ f.data.size ≤ 1494 ∧ e = .returned (.agg #[.int .i64 f.dst, .int .i64 f.src, .bool f.tag, .int .i64 f.prio, .int .i64 f.vid, .bool f.hseq, .int .i64 f.seq, .int .i64 f.type, .string f.data])) ∧ Below w.heap.size w w' := by
  obtain ⟨d0, d1, d2, d3, d4, d5, d6⟩ := hd
  obtain ⟨q1, hq1⟩ : ∃ q, (((d.kind : Nat) : Int) % 2 == 1) = q := ⟨_, rfl⟩
  obtain ⟨q2, hq2⟩ : ∃ q, (((d.kind : Nat) : Int) / 2 % 2 == 1) = q := ⟨_, rfl⟩
  obtain ⟨q3, hq3⟩ : ∃ q, (((d.kind : Nat) : Int) / 4 % 2 == 1) = q := ⟨_, rfl⟩
  go_enter Try.func10, Try.ntmps10
  go_upto_region 1 with fail
  go_cut [3] (fun s3 wx => s3 = .pointer (some ⟨w.heap.size + 2, 0, none⟩) ∧ DwOk w d 100 wx)
  case first =>
    by_cases hm : d.data.size ≤ 100
    · have hm1 : min (d.data.size : Int) 100 = (d.data.size : Int) := by omega
      have hm2 : (d.data.size : Int) ≤ 100 := by omega
      go_region_held3 (fun W' => W'.cell? ⟨w.heap.size, 0, none⟩ = some (.int .u16 (d.dst : Int)) ∧ W'.cell? ⟨w.heap.size, 1, none⟩ = some (.int .u16 (d.src : Int)) ∧ W'.cell? ⟨w.heap.size, 6, none⟩ = some (.string d.data)) (go_keep) (fail)
      all_goals (go_wp2_with fail; go_meet; exact ⟨rfl, _, Dw.start w d ⟨_, _, _, _, _, _, _, _, _⟩, ok_first _ _ (wrap_dst _ d0) (wrap_src _ d1) _ hm, hm⟩)
    · have hm1 : min (d.data.size : Int) 100 = 100 := by omega
      have hm2 : 100 ≤ (d.data.size : Int) := by omega
      have hm3 : (d.data.extract 0 100).size ≤ 100 := by rw [ByteArray.size_extract]; omega
      go_region_held3 (fun W' => W'.cell? ⟨w.heap.size, 0, none⟩ = some (.int .u16 (d.dst : Int)) ∧ W'.cell? ⟨w.heap.size, 1, none⟩ = some (.int .u16 (d.src : Int)) ∧ W'.cell? ⟨w.heap.size, 6, none⟩ = some (.string d.data)) (go_keep) (fail)
      all_goals (go_wp2_with fail; go_meet; exact ⟨rfl, _, Dw.start w d ⟨_, _, _, _, _, _, _, _, _⟩, ok_first _ _ (wrap_dst _ d0) (wrap_src _ d1) _ hm3, hm3⟩)
  case rest =>
  obtain ⟨rfl, f, hw, hok, hsz⟩ := hcut
  have p4 := hw.dr.p4
  have HW := Lib.hid hw; clear hw
  go_upto_if 22 with fail
  go_cut [] (fun wx => DwOk w d 100 wx)
  case first =>
    rcases q1 with _ | _
    · go_wp2_with (fail)
      go_meet
      exact ⟨f, HW.out, hok, hsz⟩
    · have p3 := HW.out.dr.p3
      have z2 := HW.out.fz 2
      have z3 := HW.out.fz 3
      have z4 := HW.out.fz 4
      have c2 := HW.out.fr.c2
      have c3 := HW.out.fr.c3
      have c4 := HW.out.fr.c4
      have hb := HW.out.big
      clear p4
      go_wp2_with (fail)
      go_region_held3 (fun W' => W'.cell? ⟨w.heap.size, 3, none⟩ = some (.int .u8 (d.tag : Int))) (go_keep) (fail)
      all_goals (go_wp2_with fail; go_meet; exact ⟨_, (((HW.out.s2 _).s3 _).s4 _).drew, ok_tag f hok _ _ (wrap_tag _ d3).1 (wrap_tag _ d3).2, hsz⟩)
  case rest =>
  clear hok hsz HW p4 f
  obtain ⟨f, hw, hok, hsz⟩ := hcut
  have p4 := hw.dr.p4
  have HW := Lib.hid hw; clear hw
  go_upto_if 38 with fail
  go_cut [] (fun wx => DwOk w d 100 wx)
  case first =>
    rcases q2 with _ | _
    · go_wp2_with (fail)
      go_meet
      exact ⟨f, HW.out, hok, hsz⟩
    · have p5 := HW.out.dr.p5
      have z5 := HW.out.fz 5
      have z6 := HW.out.fz 6
      have c5 := HW.out.fr.c5
      have c6 := HW.out.fr.c6
      have hb := HW.out.big
      clear p4
      go_wp2_with (fail)
      go_region_held3 (fun W' => W'.cell? ⟨w.heap.size, 5, none⟩ = some (.int .u16 (d.seq : Int))) (go_keep) (fail)
      all_goals (go_wp2_with fail; go_meet; exact ⟨_, ((HW.out.s5 _).s6 _).drew, ok_seq f hok _ (wrap_seq _ d5) (by omega), hsz⟩)
  case rest =>
  clear hok hsz HW p4 f
  obtain ⟨f, hw, hok, hsz⟩ := hcut
  have p4 := hw.dr.p4
  have HW := Lib.hid hw; clear hw
  go_upto_if 48 with fail
  go_cut [] (fun wx => DwOk w d 100 wx)
  case first =>
    rcases q3 with _ | _
    · go_wp2_with (fail)
      go_meet
      exact ⟨f, HW.out, hok, hsz⟩
    · have z7 := HW.out.fz 7
      have c7 := HW.out.fr.c7
      have hb := HW.out.big
      have hr : (d.kind : Int) / 8 % 4 = 0 ∨ (d.kind : Int) / 8 % 4 = 1 ∨ (d.kind : Int) / 8 % 4 = 2 ∨ (d.kind : Int) / 8 % 4 = 3 := by omega
      have i0 : ∀ W : World, (Instr.index 57 (.agg #[.int .i64 2048, .int .i64 8944, .int .i64 65535, .int .i64 1536]) (.int .u8 0)).run Try.prog W = .ok (.int .i64 2048) W := fun _ => by kernel_rfl
      have i1 : ∀ W : World, (Instr.index 57 (.agg #[.int .i64 2048, .int .i64 8944, .int .i64 65535, .int .i64 1536]) (.int .u8 1)).run Try.prog W = .ok (.int .i64 8944) W := fun _ => by kernel_rfl
      have i2 : ∀ W : World, (Instr.index 57 (.agg #[.int .i64 2048, .int .i64 8944, .int .i64 65535, .int .i64 1536]) (.int .u8 2)).run Try.prog W = .ok (.int .i64 65535) W := fun _ => by kernel_rfl
      have i3 : ∀ W : World, (Instr.index 57 (.agg #[.int .i64 2048, .int .i64 8944, .int .i64 65535, .int .i64 1536]) (.int .u8 3)).run Try.prog W = .ok (.int .i64 1536) W := fun _ => by kernel_rfl
      rcases hr with hr | hr | hr | hr
      all_goals
        go_wp2_with (fail)
        go_meet
        exact ⟨_, HW.out.s7 _, ok_type f hok _ (by omega), hsz⟩
  case rest =>
  clear hok hsz HW p4 f
  obtain ⟨f, hw, hok, hsz⟩ := hcut
  go_wp2_with (fail)
  go_loopg [] (1495 - f.data.size) (fun g wx => ∃ f, Dw w d f wx ∧ f.ok = true ∧ f.data.size ≤ 1494 ∧ g + f.data.size = 1495)
  case atStart => exact ⟨f, hw, hok, by omega, by omega⟩
  case round =>
    obtain ⟨f, hw, hok, hsz, hg⟩ := hrel
    have Hg := Lib.hid hg; clear hg
    have p4 := hw.dr.p4
    have p2 := hw.dr.p2
    have c8 := hw.fr.c8
    have z8 := hw.fz 8
    have hb := hw.big
    have HW := Lib.hid hw; clear hw
    by_cases h1 : 192 ≤ (d.kind : Int)
    · by_cases h2 : f.data.size = 0
      · have h2' : f.data.toList.isEmpty = true := by rw [List.isEmpty_iff_length_eq_zero, Lib.toList_data, ← Lib.size_eq]; exact h2
        clear h2
        obtain ⟨c0, c1, c2, c3, c4, c5, c6, c7, c8⟩ := HW.out.fr
        obtain ⟨r0, r1, r2, r3, r4, r5, r6, r7, r8⟩ := HW.out.rs
        have y0 := HW.out.rz 0
        have y1 := HW.out.rz 1
        have y2 := HW.out.rz 2
        have y3 := HW.out.rz 3
        have y4 := HW.out.rz 4
        have y5 := HW.out.rz 5
        have y6 := HW.out.rz 6
        have y7 := HW.out.rz 7
        have y8 := HW.out.rz 8
        simp only [Fr.none] at r0 r1 r2 r3 r4 r5 r6 r7 r8
        go_wp2_with (fail)
        refine bodyPost_ret (v := .agg #[.int .i64 f.dst, .int .i64 f.src, .bool f.tag, .int .i64 f.prio, .int .i64 f.vid, .bool f.hseq, .int .i64 f.seq, .int .i64 f.type, .string f.data]) (by simp [results, Try.results10, go_sem, r0, r1, r2, r3, r4, r5, r6, r7, r8]) rfl ⟨⟨f, hok, hsz, rfl⟩, ?_⟩
        exact HW.out.bel.trans (put9_below wr (w.heap.size + 1) f w.heap.size (by omega))
      · have h2' : f.data.toList.isEmpty = false := by rw [Bool.eq_false_iff, ne_eq, List.isEmpty_iff_length_eq_zero, Lib.toList_data, ← Lib.size_eq]; exact h2
        by_cases h3 : (f.data.size : Int) < (d.long : Int) % 1495
        · have hl : (d.long : Int) % 1495 ≤ 1494 := by omega
          have hl0 : 0 ≤ (d.long : Int) % 1495 := by omega
          have hp : 0 < f.data.size := by omega
          have hz : (f.data ++ f.data).size = f.data.size + f.data.size := ByteArray.size_append
          have HZ := Lib.hid hz
          have hz1 : 2 * (f.data.size : Int) ≤ ((f.data ++ f.data).size : Int) := by omega
          clear hz h2
          by_cases h4 : 2 * (f.data.size : Int) ≤ (d.long : Int) % 1495
          · have hm : min (2 * (f.data.size : Int)) ((d.long : Int) % 1495) = 2 * (f.data.size : Int) := by omega
            go_wp2_with (fail)
            have hx : ((f.data ++ f.data).extract 0 (2 * f.data.size)).size = 2 * f.data.size := by rw [ByteArray.size_extract, HZ.out]; omega
            go_roundg (1495 - (2 * f.data.size))
            case measure => have := Hg.out; omega
            case rel => exact ⟨_, HW.out.s8 _, ok_data f hok _ (by rw [hx]; omega), by show ByteArray.size _ ≤ _; rw [hx]; omega, by show _ + ByteArray.size _ = _; rw [hx]; omega⟩
          · have hm : min (2 * (f.data.size : Int)) ((d.long : Int) % 1495) = (d.long : Int) % 1495 := by omega
            have hz2 : (d.long : Int) % 1495 ≤ ((f.data ++ f.data).size : Int) := by omega
            go_wp2_with (fail)
            have hx : ((f.data ++ f.data).extract 0 (d.long % 1495)).size = d.long % 1495 := by rw [ByteArray.size_extract, HZ.out]; omega
            go_roundg (1495 - (d.long % 1495))
            case measure => have := Hg.out; omega
            case rel => exact ⟨_, HW.out.s8 _, ok_data f hok _ (by rw [hx]; omega), by show ByteArray.size _ ≤ _; rw [hx]; omega, by show _ + ByteArray.size _ = _; rw [hx]; omega⟩
        · have h3' : (d.long : Int) % 1495 ≤ (f.data.size : Int) := by omega
          clear h2 h3
          obtain ⟨c0, c1, c2, c3, c4, c5, c6, c7, c8⟩ := HW.out.fr
          obtain ⟨r0, r1, r2, r3, r4, r5, r6, r7, r8⟩ := HW.out.rs
          have y0 := HW.out.rz 0
          have y1 := HW.out.rz 1
          have y2 := HW.out.rz 2
          have y3 := HW.out.rz 3
          have y4 := HW.out.rz 4
          have y5 := HW.out.rz 5
          have y6 := HW.out.rz 6
          have y7 := HW.out.rz 7
          have y8 := HW.out.rz 8
          simp only [Fr.none] at r0 r1 r2 r3 r4 r5 r6 r7 r8
          go_wp2_with (fail)
          refine bodyPost_ret (v := .agg #[.int .i64 f.dst, .int .i64 f.src, .bool f.tag, .int .i64 f.prio, .int .i64 f.vid, .bool f.hseq, .int .i64 f.seq, .int .i64 f.type, .string f.data]) (by simp [results, Try.results10, go_sem, r0, r1, r2, r3, r4, r5, r6, r7, r8]) rfl ⟨⟨f, hok, hsz, rfl⟩, ?_⟩
          exact HW.out.bel.trans (put9_below wr (w.heap.size + 1) f w.heap.size (by omega))
    · have h1' : (d.kind : Int) < 192 := by omega
      clear h1
      obtain ⟨c0, c1, c2, c3, c4, c5, c6, c7, c8⟩ := HW.out.fr
      obtain ⟨r0, r1, r2, r3, r4, r5, r6, r7, r8⟩ := HW.out.rs
      have y0 := HW.out.rz 0
      have y1 := HW.out.rz 1
      have y2 := HW.out.rz 2
      have y3 := HW.out.rz 3
      have y4 := HW.out.rz 4
      have y5 := HW.out.rz 5
      have y6 := HW.out.rz 6
      have y7 := HW.out.rz 7
      have y8 := HW.out.rz 8
      simp only [Fr.none] at r0 r1 r2 r3 r4 r5 r6 r7 r8
      go_wp2_with (fail)
      refine bodyPost_ret (v := .agg #[.int .i64 f.dst, .int .i64 f.src, .bool f.tag, .int .i64 f.prio, .int .i64 f.vid, .bool f.hseq, .int .i64 f.seq, .int .i64 f.type, .string f.data]) (by simp [results, Try.results10, go_sem, r0, r1, r2, r3, r4, r5, r6, r7, r8]) rfl ⟨⟨f, hok, hsz, rfl⟩, ?_⟩
      exact HW.out.bel.trans (put9_below wr (w.heap.size + 1) f w.heap.size (by omega))
end Go.Proofs.Ytccdhoboidneeaa
