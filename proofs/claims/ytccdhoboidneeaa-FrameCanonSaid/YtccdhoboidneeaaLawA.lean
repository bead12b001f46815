/-
  The statement FrameDamage holds: an encoding of which some of 32 consecutive bits have been changed is not decoded. No condition.
-/
import Derived.Test.YtccdhoboidneeaaOpen7
namespace Go.Proofs.Ytccdhoboidneeaa
open Go.RowKit
set_option linter.unusedVariables false

theorem malformed_false (s : ByteArray) (hs : s.size ≤ 9000000000000000000) (h : decOk s = true) (w : World) :
    Calls Try.prog 18 #[.string s] w fun e w' => e = .returned (.bool false) ∧ Below w.heap.size w w' := by
  have hD := fun W => Decode_any s hs W
  have e2 : decE s = 0 := by unfold decE; rw [h]; rfl
  rw [e2] at hD
  generalize decF s = f at *
  have HD := Lib.hid hD; clear hD e2
  go_enter Try.func18, Try.ntmps18
  go_wp2_with (fail)
  refine (HD.out _).mono ?_
  rintro e w1 ⟨rfl, hb1⟩
  have z1 := hb1.size
  go_wp2_with (fail)
  all_goals
    go_ret
    exact ⟨rfl, (by repeat' (first | exact Below.refl _ _ | assumption | refine below_drewN ?_ _ | refine Below.drew ?_ | refine Below.alloc ?_ (by (first | exact Nat.le_refl _ | assumption | (simp; done) | omega | (simp; omega))) _ | refine Below.setCell ?_ (by (first | exact Nat.le_refl _ | assumption | (simp; done) | omega | (simp; omega))) _ | refine Below.trans ?_ (Below.mono (by assumption) (by (first | exact Nat.le_refl _ | assumption | (simp; done) | omega | (simp; omega))))))⟩
theorem malformed_any (s : ByteArray) (hs : s.size ≤ 9000000000000000000) (b : Bool) (h : b = !decOk s) (w : World) :
    Calls Try.prog 18 #[.string s] w fun e w' => e = .returned (.bool b) ∧ Below w.heap.size w w' := by
  subst h
  rcases e : decOk s with _ | _
  · exact malformed_true s hs e w
  · exact malformed_false s hs e w

set_option maxRecDepth 100000 in
set_option maxHeartbeats 1000000 in
theorem frameDamage_walk (d : Dr) (a p : Int) (hd : d.fit) (ha : (Lit.int .u16 a).wf = true) (hp : (Lit.int .u32 p).wf = true) (w : World) :
   Calls Try.prog 4 #[.agg #[.int .u16 (d.dst : Int), .int .u16 (d.src : Int), .int .u16 (d.long : Int), .int .u8 (d.tag : Int), .int .u8 (d.kind : Int), .int .u16 (d.seq : Int), .string d.data], .int .u16 a, .int .u32 p] w fun e w' => e = .returned (.bool true) ∧ Below w.heap.size w w' := by
  obtain ⟨at', rfl, ha2⟩ := u16_nat ha
  obtain ⟨pt, rfl, hp2⟩ : ∃ m : Nat, p = (m : Int) ∧ m < 4294967296 := by
    have := bounds_u32 hp
    exact ⟨p.toNat, by omega, by omega⟩
  clear ha hp
  have C1 := Lib.hid (fun W => works7 W)
  have C2 := Lib.hid (fun W => Draft_any d hd W)
  go_enter Try.func4, Try.ntmps4
  go_wp2_with (fail)
  refine (C1.out _).mono ?_
  rintro e v1 ⟨rfl, g1⟩
  have y1 := g1.size
  simp at y1
  have B1 : Below w.heap.size w v1 := (by repeat' (first | exact Below.refl _ _ | assumption | refine below_drewN ?_ _ | refine Below.drew ?_ | refine Below.alloc ?_ (by (first | exact Nat.le_refl _ | assumption | (simp; done) | omega | (simp; omega))) _ | refine Below.setCell ?_ (by (first | exact Nat.le_refl _ | assumption | (simp; done) | omega | (simp; omega))) _ | refine Below.trans ?_ (Below.mono (by assumption) (by (first | exact Nat.le_refl _ | assumption | (simp; done) | omega | (simp; omega))))))
  obtain ⟨D1, D2⟩ := bcell g1
  go_wp2_with (fail)
  refine (C2.out _).mono ?_
  rintro e v2 ⟨⟨f, hok, hsz, rfl⟩, g2⟩
  have y2 := g2.size
  have B2 : Below w.heap.size w v2 := B1.trans (g2.mono (by omega))
  have C3 := Lib.hid (fun W => enc_of f hok W)
  have hE1 := f.enc_size hok
  have hE2 := f.body_le hok
  have hg := f.enc_good hok
  have hz1 : 64 ≤ f.enc.size := by omega
  have hz2 : f.enc.size ≤ 1522 := by omega
  clear hE1 hE2
  generalize f.enc = E at *
  go_wp2_with (fail)
  refine (C3.out _).mono ?_
  rintro e v3 ⟨rfl, g3⟩
  have y3 := g3.size
  have B3 : Below w.heap.size w v3 := B2.trans (g3.mono (by omega))
  obtain ⟨K, hK, hK2⟩ : ∃ K : Nat, (at' : Int) % (8 * (E.size : Int)) = (K : Int) ∧ K < 8 * E.size := ⟨at' % (8 * E.size), by rw [Int.natCast_emod, Int.natCast_mul]; rfl, Nat.mod_lt _ (by omega)⟩
  go_wp2_with (fail)
  refine (Flip_any E (by omega) K (by omega) pt hp2 _).mono ?_
  rintro e v4 ⟨rfl, g4⟩
  have y4 := g4.size
  have B4 : Below w.heap.size w v4 := B3.trans (g4.mono (by omega))
  clear g4 g3 g2
  have hTs := flipB_size E K pt
  have hTd : flipB E K pt = E ∨ decOk (flipB E K pt) = false := by
    by_cases h : flipB E K pt = E
    · exact .inl h
    · have h2 := burstB 0 (by omega) E K pt hK2 hp2 hg h
      refine .inr ?_
      rcases e : decOk (flipB E K pt) with _ | _
      · rfl
      · rw [dec_good _ e] at h2; cases h2
  have hTz : (flipB E K pt).size ≤ 9000000000000000000 := by omega
  have hcz : (E.extract 0 (K / 8)).size ≤ 9000000000000000000 := by rw [ByteArray.size_extract]; omega
  have hxz : (E ++ S [120]).size ≤ 9000000000000000000 := by rw [ByteArray.size_append, S_size]; simp; omega
  have hk8 : (K : Int) / 8 ≤ (E.size : Int) := by omega
  have CC := fun b h => Lib.hid (fun W => malformed_any (E.extract 0 (K / 8)) hcz b h W)
  have GC := Lib.hid (fun W => Good_any (E.extract 0 (K / 8)) hcz W)
  have dg1 := dec_good (E.extract 0 (K / 8))
  have CX := fun b h => Lib.hid (fun W => malformed_any (E ++ S [120]) hxz b h W)
  have GX := Lib.hid (fun W => Good_any (E ++ S [120]) hxz W)
  have dg2 := dec_good (E ++ S [120])
  clear hcz hxz hTs hg hsz hok C1 C2 C3 D1 D2 g1
  have HDD := Lib.hid hTd; clear hTd
  have CT := fun b h => Lib.hid (fun W => malformed_any (flipB E K pt) hTz b h W)
  clear hTz
  have hh : ∀ x : ByteArray, (x.toList == E.toList) = decide (x = E) := fun x => by
    by_cases h : x = E
    · subst h; simp
    · rw [ba_ne h]; simp [h]
  have HH := Lib.hid (hh (flipB E K pt)); clear hh
  generalize flipB E K pt = T at *
  simp only [S] at CX GX dg2
  have hTd := HDD.out
  clear HDD
  by_cases hT : T = E
  · have hq : (T.toList == E.toList) = true := by rw [HH.out]; simp [hT]
    clear CT hTd HH hT
    rcases e1 : decOk (E.extract 0 (K / 8)) with _ | _
    · have CC := CC _ (by rw [e1])
      clear GC
      clear dg1 e1
      rcases e2 : decOk (E ++ ⟨#[120]⟩) with _ | _
      · have CX := CX _ (by rw [e2])
        clear GX
        clear dg2 e2
        simp only [Bool.not_false] at CC CX
        go_wp2_with (fail)
        refine (CC.out _).mono ?_
        rintro e v5 ⟨rfl, g5⟩
        have y5 := g5.size
        have B5 : Below w.heap.size w v5 := B4.trans (g5.mono (by omega))
        clear g5
        go_wp2_with (fail)
        refine (CX.out _).mono ?_
        rintro e v6 ⟨rfl, g6⟩
        have y6 := g6.size
        have B6 : Below w.heap.size w v6 := B5.trans (g6.mono (by omega))
        clear g6
        go_wp2_with (fail)
        go_ret
        exact ⟨rfl, B6⟩
      · have CX := CX _ (by rw [e2])
        rw [dg2 e2] at GX
        clear dg2 e2
        simp only [Bool.not_false, Bool.not_true] at CC CX
        go_wp2_with (fail)
        refine (CC.out _).mono ?_
        rintro e v5 ⟨rfl, g5⟩
        have y5 := g5.size
        have B5 : Below w.heap.size w v5 := B4.trans (g5.mono (by omega))
        clear g5
        go_wp2_with (fail)
        refine (CX.out _).mono ?_
        rintro e v6 ⟨rfl, g6⟩
        have y6 := g6.size
        have B6 : Below w.heap.size w v6 := B5.trans (g6.mono (by omega))
        clear g6
        go_wp2_with (fail)
        refine (GX.out _).mono ?_
        rintro e v7 ⟨rfl, g7⟩
        have y7 := g7.size
        have B7 : Below w.heap.size w v7 := B6.trans (g7.mono (by omega))
        clear g7
        go_wp2_with (fail)
        go_ret
        exact ⟨rfl, B7⟩
    · have CC := CC _ (by rw [e1])
      rw [dg1 e1] at GC
      clear dg1 e1
      rcases e2 : decOk (E ++ ⟨#[120]⟩) with _ | _
      · have CX := CX _ (by rw [e2])
        clear GX
        clear dg2 e2
        simp only [Bool.not_false, Bool.not_true] at CC CX
        go_wp2_with (fail)
        refine (CC.out _).mono ?_
        rintro e v5 ⟨rfl, g5⟩
        have y5 := g5.size
        have B5 : Below w.heap.size w v5 := B4.trans (g5.mono (by omega))
        clear g5
        go_wp2_with (fail)
        refine (GC.out _).mono ?_
        rintro e v6 ⟨rfl, g6⟩
        have y6 := g6.size
        have B6 : Below w.heap.size w v6 := B5.trans (g6.mono (by omega))
        clear g6
        go_wp2_with (fail)
        refine (CX.out _).mono ?_
        rintro e v7 ⟨rfl, g7⟩
        have y7 := g7.size
        have B7 : Below w.heap.size w v7 := B6.trans (g7.mono (by omega))
        clear g7
        go_wp2_with (fail)
        go_ret
        exact ⟨rfl, B7⟩
      · have CX := CX _ (by rw [e2])
        rw [dg2 e2] at GX
        clear dg2 e2
        simp only [Bool.not_true] at CC CX
        go_wp2_with (fail)
        refine (CC.out _).mono ?_
        rintro e v5 ⟨rfl, g5⟩
        have y5 := g5.size
        have B5 : Below w.heap.size w v5 := B4.trans (g5.mono (by omega))
        clear g5
        go_wp2_with (fail)
        refine (GC.out _).mono ?_
        rintro e v6 ⟨rfl, g6⟩
        have y6 := g6.size
        have B6 : Below w.heap.size w v6 := B5.trans (g6.mono (by omega))
        clear g6
        go_wp2_with (fail)
        refine (CX.out _).mono ?_
        rintro e v7 ⟨rfl, g7⟩
        have y7 := g7.size
        have B7 : Below w.heap.size w v7 := B6.trans (g7.mono (by omega))
        clear g7
        go_wp2_with (fail)
        refine (GX.out _).mono ?_
        rintro e v8 ⟨rfl, g8⟩
        have y8 := g8.size
        have B8 : Below w.heap.size w v8 := B7.trans (g8.mono (by omega))
        clear g8
        go_wp2_with (fail)
        go_ret
        exact ⟨rfl, B8⟩
  · have hq : (T.toList == E.toList) = false := by rw [HH.out]; simp [hT]
    have CT := CT true (by rw [hTd.resolve_left hT]; rfl)
    clear hTd HH hT
    rcases e1 : decOk (E.extract 0 (K / 8)) with _ | _
    · have CC := CC _ (by rw [e1])
      clear GC
      clear dg1 e1
      rcases e2 : decOk (E ++ ⟨#[120]⟩) with _ | _
      · have CX := CX _ (by rw [e2])
        clear GX
        clear dg2 e2
        simp only [Bool.not_false] at CC CX
        go_wp2_with (fail)
        refine (CT.out _).mono ?_
        rintro e v5 ⟨rfl, g5⟩
        have y5 := g5.size
        have B5 : Below w.heap.size w v5 := B4.trans (g5.mono (by omega))
        clear g5
        go_wp2_with (fail)
        refine (CC.out _).mono ?_
        rintro e v6 ⟨rfl, g6⟩
        have y6 := g6.size
        have B6 : Below w.heap.size w v6 := B5.trans (g6.mono (by omega))
        clear g6
        go_wp2_with (fail)
        refine (CX.out _).mono ?_
        rintro e v7 ⟨rfl, g7⟩
        have y7 := g7.size
        have B7 : Below w.heap.size w v7 := B6.trans (g7.mono (by omega))
        clear g7
        go_wp2_with (fail)
        go_ret
        exact ⟨rfl, B7⟩
      · have CX := CX _ (by rw [e2])
        rw [dg2 e2] at GX
        clear dg2 e2
        simp only [Bool.not_false, Bool.not_true] at CC CX
        go_wp2_with (fail)
        refine (CT.out _).mono ?_
        rintro e v5 ⟨rfl, g5⟩
        have y5 := g5.size
        have B5 : Below w.heap.size w v5 := B4.trans (g5.mono (by omega))
        clear g5
        go_wp2_with (fail)
        refine (CC.out _).mono ?_
        rintro e v6 ⟨rfl, g6⟩
        have y6 := g6.size
        have B6 : Below w.heap.size w v6 := B5.trans (g6.mono (by omega))
        clear g6
        go_wp2_with (fail)
        refine (CX.out _).mono ?_
        rintro e v7 ⟨rfl, g7⟩
        have y7 := g7.size
        have B7 : Below w.heap.size w v7 := B6.trans (g7.mono (by omega))
        clear g7
        go_wp2_with (fail)
        refine (GX.out _).mono ?_
        rintro e v8 ⟨rfl, g8⟩
        have y8 := g8.size
        have B8 : Below w.heap.size w v8 := B7.trans (g8.mono (by omega))
        clear g8
        go_wp2_with (fail)
        go_ret
        exact ⟨rfl, B8⟩
    · have CC := CC _ (by rw [e1])
      rw [dg1 e1] at GC
      clear dg1 e1
      rcases e2 : decOk (E ++ ⟨#[120]⟩) with _ | _
      · have CX := CX _ (by rw [e2])
        clear GX
        clear dg2 e2
        simp only [Bool.not_false, Bool.not_true] at CC CX
        go_wp2_with (fail)
        refine (CT.out _).mono ?_
        rintro e v5 ⟨rfl, g5⟩
        have y5 := g5.size
        have B5 : Below w.heap.size w v5 := B4.trans (g5.mono (by omega))
        clear g5
        go_wp2_with (fail)
        refine (CC.out _).mono ?_
        rintro e v6 ⟨rfl, g6⟩
        have y6 := g6.size
        have B6 : Below w.heap.size w v6 := B5.trans (g6.mono (by omega))
        clear g6
        go_wp2_with (fail)
        refine (GC.out _).mono ?_
        rintro e v7 ⟨rfl, g7⟩
        have y7 := g7.size
        have B7 : Below w.heap.size w v7 := B6.trans (g7.mono (by omega))
        clear g7
        go_wp2_with (fail)
        refine (CX.out _).mono ?_
        rintro e v8 ⟨rfl, g8⟩
        have y8 := g8.size
        have B8 : Below w.heap.size w v8 := B7.trans (g8.mono (by omega))
        clear g8
        go_wp2_with (fail)
        go_ret
        exact ⟨rfl, B8⟩
      · have CX := CX _ (by rw [e2])
        rw [dg2 e2] at GX
        clear dg2 e2
        simp only [Bool.not_true] at CC CX
        go_wp2_with (fail)
        refine (CT.out _).mono ?_
        rintro e v5 ⟨rfl, g5⟩
        have y5 := g5.size
        have B5 : Below w.heap.size w v5 := B4.trans (g5.mono (by omega))
        clear g5
        go_wp2_with (fail)
        refine (CC.out _).mono ?_
        rintro e v6 ⟨rfl, g6⟩
        have y6 := g6.size
        have B6 : Below w.heap.size w v6 := B5.trans (g6.mono (by omega))
        clear g6
        go_wp2_with (fail)
        refine (GC.out _).mono ?_
        rintro e v7 ⟨rfl, g7⟩
        have y7 := g7.size
        have B7 : Below w.heap.size w v7 := B6.trans (g7.mono (by omega))
        clear g7
        go_wp2_with (fail)
        refine (CX.out _).mono ?_
        rintro e v8 ⟨rfl, g8⟩
        have y8 := g8.size
        have B8 : Below w.heap.size w v8 := B7.trans (g8.mono (by omega))
        clear g8
        go_wp2_with (fail)
        refine (GX.out _).mono ?_
        rintro e v9 ⟨rfl, g9⟩
        have y9 := g9.size
        have B9 : Below w.heap.size w v9 := B8.trans (g9.mono (by omega))
        clear g9
        go_wp2_with (fail)
        go_ret
        exact ⟨rfl, B9⟩
namespace frameDamage
open Go.ChangeShapes Go.WideShapes Go.ChangeAt Go.RowKit
open Go.ChangeMaps (open_string shut_string)
theorem own : ownKnob Try.prog.godebug = none := by kernel_rfl
theorem laidOut : laidOutB Try.prog = true := by kernel_rfl

set_option maxRecDepth 100000 in
theorem lifted (os : Os) (started : os.Started) (H : Type) (enc : TypeId × Value → H) :
    ReturnsInHanded {} Try.checked os 4 .any (Rows.frameDamageSpec.pre6 enc Try.prog Try.f4 Rows.frameDamageRow.domain false) (Rows.frameDamageSpec.post enc Try.prog Try.f4 false true false false) := by
  refine returnsInHanded_of_change (C := Try.checked) own started (by kernel_rfl) Try.func4
    (ChangeSpec.witness6 (enc := enc) (C := Try.checked) false ⟨#[], #[.agg #[.int .u16 0, .int .u16 0, .int .u16 0, .int .u8 0, .int .u8 0, .int .u16 0, .string ByteArray.empty], .int .u16 0, .int .u32 0], []⟩ 8 (by kernel_rfl) (by kernel_rfl) (by kernel_rfl) (by kernel_rfl)) ?_
  intro W base args ds gs before hval0 hW hcnd _
  have hval : ∀ (j : Nat) t v, Try.f4.params[j]? = some t → args[j]? = some v → Value.okWide Try.prog W .any base t v := hval0
  have hW' := hW
  obtain ⟨p, q, hA0, hV, rfl, hfz, hnd⟩ := hW
  have hA : DataW.TrodAll enc Try.prog W 0 (fun _ => true) true Try.f4.params.toList args.toList ds p := hA0
  rw [Try.params4] at hA hval
  obtain ⟨v0, vs0, d0, ds0, p0, q0, hargs, rfl, rfl, h0, r0⟩ := trodAll_cons hA
  obtain ⟨v1, vs1, d1, ds1, p1, q1, rfl, rfl, rfl, h1, r1⟩ := trodAll_cons r0
  obtain ⟨v2, vs2, d2, ds2, p2, q2, rfl, rfl, rfl, h2, r2⟩ := trodAll_cons r1
  obtain ⟨rfl, rfl, rfl⟩ := trodAll_nil r2
  obtain rfl : args = #[v0, v1, v2] := by cases args; simp_all
  obtain ⟨rfl, rfl⟩ := trodVars_none hV
  have k0 := h0
  have lt0 : ∀ x ∈ p0, x.block < W.heap.size := by obtain ⟨m, hm⟩ := k0; exact DataW.trod_lt m _ _ _ hm
  have k1 := h1
  have lt1 : ∀ x ∈ p1, x.block < W.heap.size := by obtain ⟨m, hm⟩ := k1; exact DataW.trod_lt m _ _ _ hm
  have k2 := h2
  have lt2 : ∀ x ∈ p2, x.block < W.heap.size := by obtain ⟨m, hm⟩ := k2; exact DataW.trod_lt m _ _ _ hm
  obtain ⟨a0, rfl, w0⟩ := open_draft (hval 0 24 v0 rfl rfl) h0
  obtain ⟨a1, rfl, rfl, rfl, w1⟩ := open_int Try.underlying22 (hval 1 22 v1 rfl rfl) h1
  obtain ⟨a2, rfl, rfl, rfl, w2⟩ := open_int Try.underlying39 (hval 2 39 v2 rfl rfl) h2
  clear hA0 hval0
  refine (frameDamage_walk a0 a1 a2 w0 w1 w2 W).mono fun e W' ⟨he, bel⟩ => ?_
  subst he
  exact ⟨_, rfl, _, _, _, [], _, [], hW', trodAll_mk1 (shut_bool Try.underlying4 _), (trodAll_cons_mk (Below.trod laidOut (by kernel_rfl) (of_decide_eq_true (by kernel_rfl)) k0 bel lt0) (trodAll_cons_mk (Below.trod laidOut (by kernel_rfl) (of_decide_eq_true (by kernel_rfl)) k1 bel lt1) (trodAll_cons_mk (Below.trod laidOut (by kernel_rfl) (of_decide_eq_true (by kernel_rfl)) k2 bel lt2) trodAll_mk0))), rfl, bel.frame _, fun h => by cases h⟩

theorem over : Rows.frameDamageRow.holds Try.pinned (OpenSpec.ofChange Rows.frameDamageSpec) :=
  OpenClaim.holds_of_wide 4 Try.f4 rfl rfl rfl rfl rfl rfl rfl ⟨rfl, rfl, rfl, rfl, rfl⟩ rfl rfl rfl rfl rfl (by kernel_rfl) Try.func4 (by kernel_rfl)
    (of_decide_eq_true (by kernel_rfl)) (by unfold Func.isWrapper; first | (rw [if_pos (by decide +kernel)]; kernel_rfl) | (rw [if_neg (by decide +kernel)]; exact ⟨rfl, rfl⟩))
    (fun os started H enc _ => lifted os started H enc)

theorem proved : Rows.FrameDamageSaid := over
#print axioms proved
end frameDamage
end Go.Proofs.Ytccdhoboidneeaa
