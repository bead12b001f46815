/-
  works: the chapter's examples hold.
-/
import Derived.Test.YtppdfnghojcppaaMerge9
import Derived.BigQuiet
namespace Go.Proofs.Ytppdfnghojcppaa
open Go.RowKit Go.Sort
set_option linter.unusedVariables false

/-- What a call gives back, nothing that lay turned. -/
def Gives (f : Nat) (args : Array Value) (v : Value) : Prop := ∀ W : World, Calls Try.prog f args W fun e w' => e = .returned v ∧ Below W.heap.size W w'
theorem Gives.quiet {f : Nat} {args : Array Value} {v : Value} (h : Gives f args v) (w : World) (d : Nat) (os : Array Obj) : Calls Try.prog f args (grow (redrawn w d) os) fun e w'' => e = .returned v ∧ ∃ p : Regrown, w'' = grow (redrawn w p.d) p.os := Calls.regrown_of (h _)

/-- The two pieces of the example, in memory. -/
structure Row2 (W : World) (g : Nat) (d0 d1 : ByteArray) : Prop where
  a0 : W.cell? ⟨g, 0, none⟩ = some (.bool true)
  a1 : W.cell? ⟨g, 1, none⟩ = some (.int .i64 2)
  a2 : W.cell? ⟨g, 2, none⟩ = some (.int .i64 0)
  a3 : W.cell? ⟨g, 3, none⟩ = some (.string d0)
  b0 : W.cell? ⟨g, 4, none⟩ = some (.bool false)
  b1 : W.cell? ⟨g, 5, none⟩ = some (.int .i64 2)
  b2 : W.cell? ⟨g, 6, none⟩ = some (.int .i64 0)
  b3 : W.cell? ⟨g, 7, none⟩ = some (.string d1)
  lt : g < W.heap.size
theorem Row2.keep {W W' : World} {g : Nat} {d0 d1 : ByteArray} (h : Row2 W g d0 d1) (hb : Below W.heap.size W W') : Row2 W' g d0 d1 :=
  have k := fun j => hb.cell (p := ⟨g, j, none⟩) h.lt
  ⟨(k 0).trans h.a0, (k 1).trans h.a1, (k 2).trans h.a2, (k 3).trans h.a3, (k 4).trans h.b0, (k 5).trans h.b1, (k 6).trans h.b2, (k 7).trans h.b3, Nat.lt_of_lt_of_le h.lt hb.size⟩
theorem ints_two (W : World) (a b : Int) : Ints (W.alloc (.cells #[.int .i64 a, .int .i64 b] 3)) .i64 (some ⟨W.heap.size, 0, none⟩) [a, b] :=
  .inr ⟨_, _, rfl, by simp, fun j hj => by
    rw [World.cell?_alloc_at _ _ _ _ rfl]
    match j, hj with
    | 0, _ => rfl
    | 1, _ => rfl⟩
theorem ints_one (W : World) (a : Int) : Ints (W.alloc (.cells #[.int .i64 a] 3)) .i64 (some ⟨W.heap.size, 0, none⟩) [a] :=
  .inr ⟨_, _, rfl, by simp, fun j hj => by
    rw [World.cell?_alloc_at _ _ _ _ rfl]
    match j, hj with
    | 0, _ => rfl⟩

theorem two_cells (w : World) (A B : Array Value) (x y : TypeId) (i : Nat) :
    ((w.alloc (.cells A x)).alloc (.cells B y)).cell? ⟨w.heap.size, i, none⟩ = A[i]? ∧ ((w.alloc (.cells A x)).alloc (.cells B y)).cell? ⟨w.heap.size + 1, i, none⟩ = B[i]? :=
  ⟨by rw [World.cell?_alloc_past _ _ _ (by simp), World.cell?_alloc_at _ _ _ _ rfl], by rw [World.cell?_alloc_at _ _ _ _ (by simp)]⟩

set_option maxRecDepth 100000 in
set_option maxHeartbeats 2000000 in
theorem works_core (s d0 d1 e60 zz : ByteArray) (h0 : d0.size = 64) (h1 : d1.size = 74) (hs : s.size = 134) (h60 : s.extract 0 60 = e60)
    (CH : Gives 26 #[] (.string s))
    (CC : ∀ W p, Ints W .i64 p [60] → Calls Try.prog 13 #[.string s, .int .i64 2, .slice p 1 1] W fun e w' => ∃ g cap, e = .returned (.tuple #[.slice (some ⟨g, 0, none⟩) 2 cap, .int .i64 0]) ∧ Row2 w' g d0 d1 ∧ Below W.heap.size W w')
    (R1 : ∀ W p, Ints W .i64 p [60, 70] → Calls Try.prog 29 #[.string s, .int .i64 0, .slice p 2 2, .int .i64 180] W fun e w' => e = .returned (.bool true) ∧ Below W.heap.size W w')
    (R2 : ∀ W p, Ints W .i64 p [71] → Calls Try.prog 29 #[.string s, .int .i64 0, .slice p 1 1, .int .i64 180] W fun e w' => e = .returned (.bool true) ∧ Below W.heap.size W w')
    (R3 : Gives 29 #[.string s, .int .i64 4, .slice none 0 0, .int .i64 2] (.bool true))
    (RP : Gives 27 #[.string ⟨#[0]⟩, .int .i64 134] (.string zz))
    (R4 : Gives 29 #[.string zz, .int .i64 0, .slice none 0 0, .int .i64 5] (.bool true))
    (J1 : Gives 30 #[.agg #[.bool false, .int .i64 0, .int .i64 0, .string ⟨#[]⟩], .agg #[.bool true, .int .i64 2, .int .i64 0, .string d0], .agg #[.bool true, .int .i64 2, .int .i64 0, .string e60], .string ⟨#[]⟩] (.bool true))
    (J2 : Gives 30 #[.agg #[.bool true, .int .i64 2, .int .i64 0, .string e60], .agg #[.bool false, .int .i64 2, .int .i64 0, .string d1], .agg #[.bool false, .int .i64 0, .int .i64 0, .string ⟨#[]⟩], .string s] (.bool true))
    (J3 : Gives 30 #[.agg #[.bool false, .int .i64 0, .int .i64 0, .string ⟨#[]⟩], .agg #[.bool false, .int .i64 2, .int .i64 0, .string d1], .agg #[.bool false, .int .i64 0, .int .i64 0, .string ⟨#[]⟩], .string ⟨#[]⟩] (.bool true))
    (J4 : Gives 30 #[.agg #[.bool true, .int .i64 2, .int .i64 0, .string e60], .agg #[.bool false, .int .i64 3, .int .i64 0, .string d1], .agg #[.bool false, .int .i64 0, .int .i64 0, .string ⟨#[]⟩], .string ⟨#[]⟩] (.bool true))
    (w : World) : Calls Try.prog 16 #[] w fun e w' => e = .returned (.bool true) ∧ Below w.heap.size w w' := by
  replace CH := Lib.hid CH
  replace CC := Lib.hid CC
  replace R1 := Lib.hid R1
  replace R2 := Lib.hid R2
  replace R3 := Lib.hid R3
  replace R4 := Lib.hid R4
  replace RP := Lib.hid RP
  replace J1 := Lib.hid J1
  replace J2 := Lib.hid J2
  replace J3 := Lib.hid J3
  replace J4 := Lib.hid J4
  go_enter Try.func16, Try.ntmps16
  go_wp2_with (fail)
  refine (CH.out _).mono ?_
  rintro e w1 ⟨rfl, g1⟩
  go_wp2_with (fail)
  refine (CC.out _ _ (ints_one w1 60)).mono ?_
  rintro e w2 ⟨g, cap, rfl, hrow, g2⟩
  have hB2 : Below w.heap.size w w2 := by
    have hz := g1.size
    exact g1.trans (Below.trans ((Below.refl _ w1).alloc (by omega) _) (g2.mono (by simp; omega)))
  clear g1 g2 CH CC
  have HR := Lib.hid hrow
  have a0 := hrow.a0
  have a1 := hrow.a1
  have a2 := hrow.a2
  have a3 := hrow.a3
  have b0 := hrow.b0
  have b1 := hrow.b1
  have b2 := hrow.b2
  have b3 := hrow.b3
  clear hrow
  go_wp2_with (fail)
  refine (R1.out _ _ (ints_two w2 60 70)).mono ?_
  rintro e w3 ⟨rfl, g3⟩
  have g3' : Below w2.heap.size w2 w3 := Below.trans ((Below.refl _ w2).alloc (Nat.le_refl _) _) (g3.mono (by simp))
  have HR3 := Lib.hid (HR.out.keep g3')
  have hB3 := hB2.trans (g3'.mono hB2.size)
  clear a0 a1 a2 a3 b0 b1 b2 b3 HR g3 g3' hB2 R1
  go_wp2_with (fail)
  refine (R2.out _ _ (ints_one w3 71)).mono ?_
  rintro e w4 ⟨rfl, g4⟩
  have g4' : Below w3.heap.size w3 w4 := Below.trans ((Below.refl _ w3).alloc (Nat.le_refl _) _) (g4.mono (by simp))
  have HR4 := Lib.hid (HR3.out.keep g4')
  have hB4 := hB3.trans (g4'.mono hB3.size)
  clear HR3 g4 g4' hB3 R2
  go_wp2_with (fail)
  refine (R3.out _).mono ?_
  rintro e w5 ⟨rfl, g5⟩
  have HR5 := Lib.hid (HR4.out.keep g5)
  have hB5 := hB4.trans (g5.mono hB4.size)
  clear HR4 g5 hB4 R3
  go_wp2_with (fail)
  refine (RP.out _).mono ?_
  rintro e w6 ⟨rfl, g6⟩
  have HR6 := Lib.hid (HR5.out.keep g6)
  have hB6 := hB5.trans (g6.mono hB5.size)
  clear HR5 g6 hB5 RP
  go_wp2_with (fail)
  refine (R4.out _).mono ?_
  rintro e w7 ⟨rfl, g7⟩
  have HR7 := Lib.hid (HR6.out.keep g7)
  have hB7 := hB6.trans (g7.mono hB6.size)
  clear HR6 g7 hB6 R4
  subst h60
  have a0 := HR7.out.a0
  have a1 := HR7.out.a1
  have a2 := HR7.out.a2
  have a3 := HR7.out.a3
  have b0 := HR7.out.b0
  have b1 := HR7.out.b1
  have b2 := HR7.out.b2
  have b3 := HR7.out.b3
  have hg := HR7.out.lt
  go_upto_region 9 with fail
  have bA : Below w7.heap.size w7 ((w7.alloc (.cells #[.bool true, .int .i64 2, .int .i64 0, .string (s.extract 0 60)] 43)).alloc (.cells #[.bool false, .int .i64 3, .int .i64 0, .string d1] 45)) := ((Below.refl _ w7).alloc (Nat.le_refl _) _).alloc (by simp) _
  have t := fun j => two_cells w7 #[.bool true, .int .i64 2, .int .i64 0, .string (s.extract 0 60)] #[.bool false, .int .i64 3, .int .i64 0, .string d1] 43 45 j
  have HRd := Lib.hid (HR7.out.keep bA)
  have hBd := hB7.trans (bA.mono hB7.size)
  clear a0 a1 a2 a3 b0 b1 b2 b3 HR7 hB7 bA hg
  generalize ((w7.alloc (.cells #[.bool true, .int .i64 2, .int .i64 0, .string (s.extract 0 60)] 43)).alloc (.cells #[.bool false, .int .i64 3, .int .i64 0, .string d1] 45)) = wd at *
  have a0 := cell_regrown HRd.out.a0
  have a1 := cell_regrown HRd.out.a1
  have a2 := cell_regrown HRd.out.a2
  have a3 := cell_regrown HRd.out.a3
  have b0 := cell_regrown HRd.out.b0
  have b1 := cell_regrown HRd.out.b1
  have b2 := cell_regrown HRd.out.b2
  have b3 := cell_regrown HRd.out.b3
  have m0 := cell_regrown (v := .bool true) (t 0).1
  have m1 := cell_regrown (v := .int .i64 2) (t 1).1
  have m2 := cell_regrown (v := .int .i64 0) (t 2).1
  have m3 := cell_regrown (v := .string (s.extract 0 60)) (t 3).1
  have p0 := cell_regrown (v := .bool false) (t 0).2
  have p1 := cell_regrown (v := .int .i64 3) (t 1).2
  have p2 := cell_regrown (v := .int .i64 0) (t 2).2
  have p3 := cell_regrown (v := .string d1) (t 3).2
  have j1 := J1.out.quiet wd
  have j2 := J2.out.quiet wd
  have j3 := J3.out.quiet wd
  have j4 := J4.out.quiet wd
  clear t J1 J2 J3 J4
  refine wp_region_quiet_below (by kernel_rfl) (by kernel_rfl) ?_
  repeat (first | go_big_quiet_step (first | (with_reducible exact j1 _ _) | (with_reducible exact j2 _ _) | (with_reducible exact j3 _ _) | (with_reducible exact j4 _ _)) | quiet_step (first | (with_reducible exact j1 _ _) | (with_reducible exact j2 _ _) | (with_reducible exact j3 _ _) | (with_reducible exact j4 _ _)))
  refine wpQuiet_nil ?_
  intro _ hw'
  obtain ⟨⟨dq, osq⟩, hw''⟩ := hw'
  subst hw''
  have hBe := hBd.trans ((below_regrown wd dq osq).mono hBd.size)
  clear a0 a1 a2 a3 b0 b1 b2 b3 m0 m1 m2 m3 p0 p1 p2 p3 j1 j2 j3 j4
  go_wp2_with (fail)
  go_ret
  exact ⟨rfl, hBe⟩

theorem refB_of {s : ByteArray} {n : Int} {cuts : List Int} {code : Int} (h : cutE s n cuts = code) (h0 : code ≠ 0) : refB s n cuts code = true := by
  have hl : cutL s n cuts = [] := by unfold cutL; rw [if_neg (by rw [h]; exact h0)]
  unfold refB
  rw [hl, h]
  simp
theorem joinB_of {m : Mg} {p : Pc} {r : Mg} {f : ByteArray} (h : join m p = (r, f, 0)) : joinB m p r f = true := by
  unfold joinB
  rw [h]
  simp
theorem refused_ok {s : ByteArray} (hs : s.size ≤ 9000000000000000000) {n : Int} {cuts : List Int} {code : Int} (h : cutE s n cuts = code) (h0 : code ≠ 0) (hl : cuts.length ≤ 9000000000000000000) (p : Option Addr) (cap : Nat) (W : World) (hp : Ints W .i64 p cuts) :
    Calls Try.prog 29 #[.string s, .int .i64 n, .slice p cuts.length cap, .int .i64 code] W fun e w' => e = .returned (.bool true) ∧ Below W.heap.size W w' := by
  have := refused_any s hs n p cap cuts code W hl hp
  rwa [refB_of h h0] at this
theorem joins_ok {m : Mg} {p : Pc} {r : Mg} {f : ByteArray} (h : join m p = (r, f, 0)) (hm : m.data.size ≤ 9000000000000000000) (hp : p.data.size ≤ 9000000000000000000) : Gives 30 #[.agg #[.bool m.on, .int .i64 m.number, .int .i64 m.next, .string m.data], .agg #[.bool p.start, .int .i64 p.number, .int .i64 p.count, .string p.data], .agg #[.bool r.on, .int .i64 r.number, .int .i64 r.next, .string r.data], .string f] (.bool true) := fun W => by
  have := joins_any m p r f hm hp W
  rwa [joinB_of h] at this
theorem repeat_one (b : UInt8) (n : Nat) (hn : n ≤ 100000) : Gives 27 #[.string ⟨#[b]⟩, .int .i64 n] (.string (S (List.replicate n b))) := fun w => by
  have h := Try.strings_Repeat (S [b]) n w (by omega) (by show 1 * n ≤ _; omega)
  have e : ∀ n, Lib.repeatL [b] n = List.replicate n b := by
    intro n
    induction n with
    | zero => rfl
    | succ n ih => rw [Lib.repeatL, ih]; rfl
  have e2 : (S [b]).data.toList = [b] := by simp [S]
  rw [e2, e] at h
  exact h
theorem chap_whole : whole chap = true := by
  unfold whole
  rw [Bool.and_eq_true, lng_iff, chap_size]
  exact ⟨by decide, goodB_sealB _ _⟩
theorem chap_cut : Cutting chap 2 [60] := ⟨chap_whole, by decide, by rw [chap_size]; decide⟩
theorem zeros_bad : whole (S (List.replicate 134 0)) = false := by
  have : goodB 0 (S (List.replicate 134 0)) = false := by decide +kernel
  unfold whole
  rw [this, Bool.and_false]

theorem st_one (c : ByteArray) : stA c 2 [60] 1 = ⟨true, 2, 0, c.extract 0 60⟩ := rfl
theorem pc_zero (c : ByteArray) : pieceAt c 2 [60] 0 = ⟨true, 2, 0, (pieceAt c 2 [60] 0).data⟩ := rfl
theorem pc_one (c : ByteArray) : pieceAt c 2 [60] 1 = ⟨false, 2, 0, (pieceAt c 2 [60] 1).data⟩ := rfl
structure Two (c d0 d1 : ByteArray) : Prop where
  z0 : d0.size = 64
  z1 : d1.size = 74
  m1 : join ⟨false, 0, 0, ⟨#[]⟩⟩ ⟨true, 2, 0, d0⟩ = (⟨true, 2, 0, c.extract 0 60⟩, ⟨#[]⟩, 0)
  m2 : join ⟨true, 2, 0, c.extract 0 60⟩ ⟨false, 2, 0, d1⟩ = (⟨false, 0, 0, ⟨#[]⟩⟩, c, 0)
  m3 : join ⟨false, 0, 0, ⟨#[]⟩⟩ ⟨false, 2, 0, d1⟩ = (⟨false, 0, 0, ⟨#[]⟩⟩, ⟨#[]⟩, 0)
  m4 : join ⟨true, 2, 0, c.extract 0 60⟩ ⟨false, 3, 0, d1⟩ = (⟨false, 0, 0, ⟨#[]⟩⟩, ⟨#[]⟩, 0)
  l : pieces c 2 [60] = [⟨true, 2, 0, d0⟩, ⟨false, 2, 0, d1⟩]
theorem two_of (c : ByteArray) (hz : c.size = 134) (hC : Cutting c 2 [60]) : Two c (pieceAt c 2 [60] 0).data (pieceAt c 2 [60] 1).data := by
  have z0 : (pieceAt c 2 [60] 0).data.size = 64 := by rw [hC.piece_size (by decide)]; rfl
  have z1 : (pieceAt c 2 [60] 1).data.size = 74 := by rw [hC.piece_size (by decide), hz]; rfl
  have m1 := hC.join_mid (i := 0) (by decide) (m := Mg.zero) ⟨zero_ok, .inl rfl⟩
  have a1 : Ahead c 2 [60] 1 (stA c 2 [60] 1) := hC.ahead (i := 0) (by decide)
  have m2 := hC.join_end a1
  have k1 := hC.piece_ok (i := 1) (by decide)
  have m3 : join Mg.zero (pieceAt c 2 [60] 1) = (Mg.zero, ⟨#[]⟩, 0) := join_off zero_ok k1 rfl
  rw [pc_one] at k1 m3
  have k2 : (⟨false, 3, 0, (pieceAt c 2 [60] 1).data⟩ : Pc).ok = true := by
    rw [Pc.ok_iff] at k1 ⊢
    exact ⟨⟨by show (0 : Int) ≤ 3; decide, by show (3 : Int) ≤ 3; decide⟩, k1.2⟩
  have a2 := a1.1
  rw [st_one] at a2
  have m4 : join ⟨true, 2, 0, c.extract 0 60⟩ ⟨false, 3, 0, (pieceAt c 2 [60] 1).data⟩ = (Mg.zero, ⟨#[]⟩, 0) := join_off a2 k2 rfl
  rw [show 0 + 1 = 1 from rfl, st_one, pc_zero] at m1
  rw [st_one, show ([60] : List Int).length = 1 from rfl, pc_one] at m2
  exact ⟨z0, z1, m1, m2, m3, m4, rfl⟩

theorem works_gen (c d0 d1 : ByteArray) (hz : c.size = 134) (hC : Cutting c 2 [60]) (T : Two c d0 d1) (CH : Gives 26 #[] (.string c)) (w : World) : Calls Try.prog 16 #[] w fun e w' => e = .returned (.bool true) ∧ Below w.heap.size w w' := by
  have hs : c.size ≤ 9000000000000000000 := by rw [hz]; decide
  have s60 : (c.extract 0 60).size ≤ 9000000000000000000 := by rw [ByteArray.size_extract, hz]; decide
  have hr := fun (cuts : List Int) (h3 : cutsOk 134 0 cuts = false) => cutE_cuts (s := c) (n := 0) hC.w (by decide) (by rw [hz]; exact h3)
  have h0 : cutE c 2 [60] = 0 := cutE_ok hC.w hC.n hC.c
  have hl : cutL c 2 [60] = pieces c 2 [60] := by unfold cutL; rw [if_pos h0]
  rw [T.l] at hl
  have d0s : d0.size ≤ 9000000000000000000 := by rw [T.z0]; decide
  have d1s : d1.size ≤ 9000000000000000000 := by rw [T.z1]; decide
  have n0 : (⟨#[]⟩ : ByteArray).size ≤ 9000000000000000000 := by decide
  have j1 := joins_ok T.m1 n0 d0s
  have j2 := joins_ok T.m2 s60 d1s
  have j3 := joins_ok T.m3 n0 d1s
  have j4 := joins_ok T.m4 s60 d1s
  have r1 := fun W p hp => refused_ok hs (hr [60, 70] (by decide)) (by decide) (by decide) p 2 W hp
  have r2 := fun W p hp => refused_ok hs (hr [71] (by decide)) (by decide) (by decide) p 1 W hp
  have r3 := fun W => refused_ok hs (cutE_arg (n := 4) (cuts := []) hC.w (by decide)) (by decide) (by decide) none 0 W (.inl rfl)
  have hzs : (S (List.replicate 134 0)).size ≤ 9000000000000000000 := by rw [S_size, List.length_replicate]; decide
  have r4 := fun W => refused_ok hzs (cutE_form (n := 0) (cuts := []) zeros_bad) (by decide) (by decide) none 0 W (.inl rfl)
  have rp := repeat_one 0 134 (by decide)
  generalize S (List.replicate 134 0) = zz at r4 rp
  refine works_core c d0 d1 (c.extract 0 60) zz T.z0 T.z1 hz rfl CH ?_ r1 r2 r3 rp r4 j1 j2 j3 j4 w
  · intro W p hp
    refine (MCut_any c hs 2 p 1 [60] W (by decide) hp).mono ?_
    rintro e w' ⟨v, rfl, hrow, hb⟩
    rw [hl] at hrow
    rw [h0]
    obtain ⟨g, cap, rfl, _, hlt, q0⟩ := hrow.at (j := 0) (by simp)
    obtain ⟨g', cap', he, _, _, q1⟩ := hrow.at (j := 1) (by simp)
    simp only [Value.slice.injEq, Option.some.injEq, Addr.mk.injEq] at he
    obtain ⟨⟨rfl, _⟩, _⟩ := he
    exact ⟨g, cap, rfl, ⟨q0.c0, q0.c1, q0.c2, q0.c3, q1.c0, q1.c1, q1.c2, q1.c3, hlt⟩, hb⟩

theorem works_any (w : World) : Calls Try.prog 16 #[] w fun e w' => e = .returned (.bool true) ∧ Below w.heap.size w w' := works_gen chap _ _ chap_size chap_cut (two_of chap chap_size chap_cut) (fun W => chapter_any W) w
end Go.Proofs.Ytppdfnghojcppaa
