/-
  The statement FrameCanon holds: a string that is decoded is the encoding of the result, whose Data cannot be longer. No condition.
-/
import Derived.Test.YtccdhoboidneeaaLawA
import Derived.Deep.RegionWith
import Derived.Deep.CutBlock
namespace Go.Proofs.Ytccdhoboidneeaa
open Go.RowKit
set_option linter.unusedVariables false

theorem index4 (x0 x1 x2 x3 : ByteArray) (B : Nat) (h0 : x0.size ≤ B) (h1 : x1.size ≤ B) (h2 : x2.size ≤ B) (h3 : x3.size ≤ B) (k : Nat) (hk : k < 4) :
    ∃ x : ByteArray, x.size ≤ B ∧ ∀ W, (Instr.index 52 (.agg #[.string x0, .string x1, .string x2, .string x3]) (.int .i64 (k : Int))).run Try.prog W = .ok (.string x) W := by
  have : k = 0 ∨ k = 1 ∨ k = 2 ∨ k = 3 := by omega
  rcases this with rfl | rfl | rfl | rfl
  · exact ⟨x0, h0, fun _ => by kernel_rfl⟩
  · exact ⟨x1, h1, fun _ => by kernel_rfl⟩
  · exact ⟨x2, h2, fun _ => by kernel_rfl⟩
  · exact ⟨x3, h3, fun _ => by kernel_rfl⟩

theorem below_step {w W W' : World} (h : Below w.heap.size w W) (k : Below W.heap.size W W') : Below w.heap.size w W' := h.trans (k.mono h.size)
theorem below_al {w W : World} (h : Below w.heap.size w W) (o : Obj) : Below w.heap.size w (W.alloc o) := h.alloc h.size o

set_option maxRecDepth 100000 in
set_option maxHeartbeats 8000000 in
attribute [local go_sem ↓] Go.wp_at_zero Go.wp_at_succ in
theorem frameCanon_walk (s : ByteArray) (d : Dr) (a c : Int) (hs : s.size ≤ maxLen) (hd : d.fit) (ha : (Lit.int .u16 a).wf = true) (hc : (Lit.int .u8 c).wf = true) (w : World) :
   Calls Try.prog 7 #[.string s, .agg #[.int .u16 (d.dst : Int), .int .u16 (d.src : Int), .int .u16 (d.long : Int), .int .u8 (d.tag : Int), .int .u8 (d.kind : Int), .int .u16 (d.seq : Int), .string d.data], .int .u16 a, .int .u8 c] w fun e w' => e = .returned (.bool true) ∧ Below w.heap.size w w' := by
  unfold maxLen at hs
  obtain ⟨at', rfl, ha2⟩ := u16_nat ha
  obtain ⟨ch, rfl, hc2⟩ := u8_nat hc
  clear ha hc
  have C1 := Lib.hid (fun W => works7 W)
  have C2 := Lib.hid (fun W => Draft_any d hd W)
  go_enter Try.func7, Try.ntmps7
  go_wp2_with (fail)
  refine (C1.out _).mono ?_
  rintro e v1 ⟨rfl, g1⟩
  have y1 := g1.size
  simp at y1
  have B1 : Below w.heap.size w v1 := (by repeat' (first | exact Below.refl _ _ | assumption | refine below_drewN ?_ _ | refine Below.drew ?_ | refine Below.alloc ?_ (by (first | exact Nat.le_refl _ | assumption | (simp; done) | omega | (simp; omega))) _ | refine Below.setCell ?_ (by (first | exact Nat.le_refl _ | assumption | (simp; done) | omega | (simp; omega))) _ | refine Below.trans ?_ (Below.mono (by assumption) (by (first | exact Nat.le_refl _ | assumption | (simp; done) | omega | (simp; omega))))))
  obtain ⟨D1, D2⟩ := bcell g1
  go_wp2_with (fail)
  refine (C2.out _).mono ?_
  rintro e v2 ⟨⟨f, hok, hsz, rfl⟩, g2⟩
  have y2 := g2.size
  have B2 : Below w.heap.size w v2 := B1.trans (g2.mono (by omega))
  have C3 := Lib.hid (fun W => enc_of f hok W)
  have hE1 := f.enc_size hok
  have hE2 := f.body_le hok
  obtain ⟨b, hb, hb1, hb2⟩ : ∃ b : Nat, f.enc.size = b + 4 ∧ 60 ≤ b ∧ b ≤ 1518 := ⟨f.body.length, hE1, hE2.1, hE2.2⟩
  clear hE1 hE2 g2 C2 hsz D1 D2 g1 C1
  generalize f.enc = E at *
  have hbs : (E.size : Int) - 4 = (b : Int) := by omega
  have hbu : (b : Int) ≤ (E.size : Int) := by omega
  have hb0 : 0 ≤ (b : Int) := by omega
  have hbx : (b : Int) ≤ 1518 := by omega
  have HB := Lib.hid hb; clear hb
  obtain ⟨K, hK, hK2⟩ : ∃ K : Nat, (at' : Int) % (b : Int) = (K : Int) ∧ K < b := ⟨at' % b, rfl, Nat.mod_lt _ (by omega)⟩
  have hbp : 60 ≤ (b : Int) := by omega
  go_wp2_with (fail)
  refine (C3.out _).mono ?_
  rintro e v3 ⟨rfl, g3⟩
  have y3 := g3.size
  have B3 : Below w.heap.size w v3 := B2.trans (g3.mono (by omega))
  clear g3 B2 C3 hok
  go_upto_region 7 with fail
  rw [hK]
  clear hK
  have o1 : (K : Int) ≤ (E.size : Int) := by omega
  have o2 : (K : Int) + 1 ≤ (b : Int) := by omega
  have o3 : 0 ≤ (K : Int) := by omega
  have o4 : 0 ≤ (K : Int) + 1 := by omega
  have hmn : 0 ≤ min (s.size : Int) 200 := by omega
  have hmx : min (s.size : Int) 200 ≤ (s.size : Int) := by omega
  have hA : (s.extract 0 (min (s.size : Int) 200).toNat).size ≤ 200 := by rw [ByteArray.size_extract]; omega
  have x1 : (E.extract 0 K).size ≤ 1522 := by rw [ByteArray.size_extract]; omega
  have x3 : (E.extract (K + 1) b).size ≤ 1522 := by rw [ByteArray.size_extract]; omega
  have x2 : (S [UInt8.ofNat ch]).size = 1 := rfl
  have n1 : ¬ 9223372036854775807 < (E.extract 0 K).size + (S [UInt8.ofNat ch]).size := by omega
  have n2 : ¬ 9223372036854775807 < (E.extract 0 K ++ S [UInt8.ofNat ch]).size + (E.extract (K + 1) b).size := by
    rw [ByteArray.size_append]; omega
  have n3 : ¬ 9223372036854775807 < min K E.size + (S [UInt8.ofNat ch]).size := by omega
  have n4 : ¬ 9223372036854775807 < min K E.size + (S [UInt8.ofNat ch]).size + (min b E.size - (K + 1)) := by omega
  have hX : (E.extract 0 K ++ S [UInt8.ofNat ch] ++ E.extract (K + 1) b).size ≤ 4000 := by rw [ByteArray.size_append, ByteArray.size_append]; omega
  have S1 := Lib.hid (fun W => Seal_any (s.extract 0 (min (s.size : Int) 200).toNat) (by omega) W)
  have S2 := Lib.hid (fun W => Seal_any (E.extract 0 K ++ S [UInt8.ofNat ch] ++ E.extract (K + 1) b) (by omega) W)
  have HB3 := Lib.hid B3
  clear x2 x1 x3 hbx hbp B3 B1
  go_cut [65, 66] (fun s65 s66 wx => s66 = .int .i64 0 ∧ (∃ A X : ByteArray, A.size ≤ 200 ∧ X.size ≤ 4000 ∧ s65 = .agg #[.string A, .string (sealB 0 A), .string E, .string (sealB 0 X)]) ∧ Below w.heap.size w wx)
  case first =>
    have hw1 : IntKind.i64.wrap ((K : Int) + 1) = (K : Int) + 1 := IntWalk.i64_in _ (by omega)
    have hw2 : IntKind.i64.wrap (b : Int) = (b : Int) := IntWalk.i64_in _ (by omega)
    have hcv : ∀ (W : World) (B : Nat), W.cell? ⟨B, 0, none⟩ = some (.int .u8 (ch : Int)) → (convert 42 9 (.slice (some ⟨B, 0, none⟩) 1 1)).run Try.prog W = .ok (.string (S [UInt8.ofNat ch])) W := fun W B h => by
      have := conv_one W B ch (by omega) (by omega) h
      simpa using this
    go_region_with (first | (go_at_call 26; with_reducible refine (S1.out _).mono ?_; rintro e u1 ⟨rfl, k1⟩; obtain ⟨q1, q2⟩ := bcell k1; have l1 := k1.size) | (go_at_call 26; with_reducible refine (S2.out _).mono ?_; rintro e u2 ⟨rfl, k2⟩; have l2 := k2.size))
    all_goals (go_wp2_with fail; go_meet; exact ⟨rfl, ⟨_, _, hA, hX, rfl⟩, (by repeat' (first | exact HB3.out | refine Below.drew ?_ | refine below_al ?_ _ | refine below_step ?_ k2 | refine below_step ?_ k1))⟩)
  case rest =>
  obtain ⟨rfl, ⟨A, X, hA, hX, rfl⟩, B4⟩ := hcut
  clear S1 S2 n1 n2 n3 n4 o1 o2 o3 o4 hmn hmx hbs hbu hb0
  have z2 : E.size ≤ 4100 := by have := HB.out; omega
  have z1 : (sealB 0 A).size ≤ 4100 := by rw [sealB_size]; omega
  have z3 : (sealB 0 X).size ≤ 4100 := by rw [sealB_size]; omega
  have HIX := Lib.hid (index4 A (sealB 0 A) E (sealB 0 X) 4100 (by omega) z1 z2 z3)
  generalize (Value.agg #[.string A, .string (sealB 0 A), .string E, .string (sealB 0 X)]) = V9 at *
  have hb4 := B4.size
  have HB4 := Lib.hid B4
  clear B4 z1 z2 z3
  go_wp2_with (fail)
  go_loopw [66] (fun i wr => ∃ k : Nat, k ≤ 4 ∧ i = .int .i64 k ∧ Below w.heap.size w wr) (fun i _ => 4 - (intOf i).toNat)
  case atStart => exact ⟨0, by omega, rfl, HB4.out⟩
  case round =>
    obtain ⟨k, hk, rfl, hbr⟩ := hrel
    have hbs := hbr.size
    by_cases hlt : k < 4
    · obtain ⟨x, hx, hix⟩ := HIX.out k hlt
      have D1 := Lib.hid (fun W => Decode_any x (by omega) W)
      rcases hde : decOk x with _ | _
      · have M1 := Lib.hid (fun W => malformed_true x (by omega) hde W)
        have e2 : decE x = 5 := by unfold decE; rw [hde]; rfl
        rw [e2] at D1
        clear e2 hde
        generalize decF x = g at *
        go_wp2_with (fail)
        refine (D1.out _).mono ?_
        rintro e u1 ⟨rfl, k1⟩
        have l1 := k1.size
        have hb1 : Below w.heap.size w u1 := hbr.trans (k1.mono hbs)
        go_wp2_with (fail)
        refine (M1.out _).mono ?_
        rintro e u2 ⟨rfl, k2⟩
        have hb2 : Below w.heap.size w u2 := (hb1.alloc (by omega) _).trans (k2.mono (by simp; omega))
        clear k1 k2
        go_wp2_with (fail)
        go_roundw
        case rel => exact ⟨k + 1, by omega, by go_num, hb2⟩
        case measure => simp [intOf]; omega
      · obtain ⟨_, _, gok, genc⟩ := (decOk_iff x).1 hde
        have e1 : decF x = pFr (txt x) := by unfold decF; rw [hde]; rfl
        have e2 : decE x = 0 := by unfold decE; rw [hde]; rfl
        have hlong := dec_long x hde
        rw [e1, e2] at D1
        clear e1 e2 hde
        generalize pFr (txt x) = g at *
        have E1 := enc_of g gok
        rw [genc] at E1
        have HE1 := Lib.hid E1
        have gsz := g.data_le gok
        obtain ⟨l, hl⟩ : ∃ l : Fr, l = { g with data := g.data ++ ⟨#[0]⟩ } := ⟨_, rfl⟩
        have lsz : l.data.size = g.data.size + 1 := by rw [hl]; exact ByteArray.size_append
        have E2 := Lib.hid (fun W => Encode_any l (by omega) W)
        have hno : l.ok = true → l.enc ≠ x := fun h1 h2 => by have := hlong l h1 h2; omega
        have hz1 : ¬ 9223372036854775807 < g.data.size + 1 := by omega
        have hco : (l.code = 0 ∧ (l.enc.toList == x.toList) = false) ∨ l.code = 170 := by
          rcases h : l.ok with _ | _
          · right; unfold Fr.code; rw [h]; rfl
          · left; exact ⟨by unfold Fr.code; rw [h]; rfl, ba_ne (hno h)⟩
        clear E1 hlong hno gok genc lsz
        generalize l.enc = le at *
        generalize l.code = lc at *
        have gd0 : g.data.size ≤ 1500 := gsz
        subst hl
        go_wp2_with (fail)
        refine (D1.out _).mono ?_
        rintro e u1 ⟨rfl, k1⟩
        have l1 := k1.size
        have hb1 : Below w.heap.size w u1 := hbr.trans (k1.mono hbs)
        have G1 := fr_box u1 g
        go_wp2_with (fail)
        refine (HE1.out _).mono ?_
        rintro e u2 ⟨rfl, k2⟩
        have l2 := k2.size
        simp at l2
        have hb2 : Below w.heap.size w u2 := (hb1.alloc (by omega) _).trans (k2.mono (by simp; omega))
        have G2 := fr_keep G1 k2 (by simp)
        have l3 : u1.heap.size < u2.heap.size := by omega
        clear k1 k2 G1
        obtain ⟨c0, c1, c2, c3, c4, c5, c6, c7, c8⟩ := G2
        go_wp2_with (fail)
        refine (E2.out _).mono ?_
        rintro e u3 ⟨rfl, k3⟩
        have hb3 : Below w.heap.size w u3 := (hb2.alloc (by omega) _).trans (k3.mono (by simp; omega))
        clear k3 c0 c1 c2 c3 c4 c5 c6 c7 c8
        rcases hco with ⟨rfl, hq⟩ | rfl
        all_goals
          go_wp2_with (fail)
          go_roundw
          case rel => exact ⟨k + 1, by omega, by go_num, hb3⟩
          case measure => simp [intOf]; omega
    · obtain rfl : k = 4 := by omega
      go_wp2_with (fail)
      go_ret
      exact ⟨rfl, hbr⟩
namespace frameCanon
open Go.ChangeShapes Go.WideShapes Go.ChangeAt Go.RowKit
open Go.ChangeMaps (open_string shut_string)
theorem own : ownKnob Try.prog.godebug = none := by kernel_rfl
theorem laidOut : laidOutB Try.prog = true := by kernel_rfl

set_option maxRecDepth 100000 in
theorem lifted (os : Os) (started : os.Started) (H : Type) (enc : TypeId × Value → H) :
    ReturnsInHanded {} Try.checked os 7 .any (Rows.frameCanonSpec.pre6 enc Try.prog Try.f7 Rows.frameCanonRow.domain false) (Rows.frameCanonSpec.post enc Try.prog Try.f7 false true false false) := by
  refine returnsInHanded_of_change (C := Try.checked) own started (by kernel_rfl) Try.func7
    (ChangeSpec.witness6 (enc := enc) (C := Try.checked) false ⟨#[], #[.string ByteArray.empty, .agg #[.int .u16 0, .int .u16 0, .int .u16 0, .int .u8 0, .int .u8 0, .int .u16 0, .string ByteArray.empty], .int .u16 0, .int .u8 0], []⟩ 8 (by kernel_rfl) (by kernel_rfl) (by kernel_rfl) (by kernel_rfl)) ?_
  intro W base args ds gs before hval0 hW hcnd _
  have hval : ∀ (j : Nat) t v, Try.f7.params[j]? = some t → args[j]? = some v → Value.okWide Try.prog W .any base t v := hval0
  have hW' := hW
  obtain ⟨p, q, hA0, hV, rfl, hfz, hnd⟩ := hW
  have hA : DataW.TrodAll enc Try.prog W 0 (fun _ => true) true Try.f7.params.toList args.toList ds p := hA0
  rw [Try.params7] at hA hval
  obtain ⟨v0, vs0, d0, ds0, p0, q0, hargs, rfl, rfl, h0, r0⟩ := trodAll_cons hA
  obtain ⟨v1, vs1, d1, ds1, p1, q1, rfl, rfl, rfl, h1, r1⟩ := trodAll_cons r0
  obtain ⟨v2, vs2, d2, ds2, p2, q2, rfl, rfl, rfl, h2, r2⟩ := trodAll_cons r1
  obtain ⟨v3, vs3, d3, ds3, p3, q3, rfl, rfl, rfl, h3, r3⟩ := trodAll_cons r2
  obtain ⟨rfl, rfl, rfl⟩ := trodAll_nil r3
  obtain rfl : args = #[v0, v1, v2, v3] := by cases args; simp_all
  obtain ⟨rfl, rfl⟩ := trodVars_none hV
  have k0 := h0
  have lt0 : ∀ x ∈ p0, x.block < W.heap.size := by obtain ⟨m, hm⟩ := k0; exact DataW.trod_lt m _ _ _ hm
  have k1 := h1
  have lt1 : ∀ x ∈ p1, x.block < W.heap.size := by obtain ⟨m, hm⟩ := k1; exact DataW.trod_lt m _ _ _ hm
  have k2 := h2
  have lt2 : ∀ x ∈ p2, x.block < W.heap.size := by obtain ⟨m, hm⟩ := k2; exact DataW.trod_lt m _ _ _ hm
  have k3 := h3
  have lt3 : ∀ x ∈ p3, x.block < W.heap.size := by obtain ⟨m, hm⟩ := k3; exact DataW.trod_lt m _ _ _ hm
  obtain ⟨a0, rfl, rfl, rfl, w0⟩ := open_string Try.underlying9 (hval 0 9 v0 rfl rfl) h0
  obtain ⟨a1, rfl, w1⟩ := open_draft (hval 1 24 v1 rfl rfl) h1
  obtain ⟨a2, rfl, rfl, rfl, w2⟩ := open_int Try.underlying22 (hval 2 22 v2 rfl rfl) h2
  obtain ⟨a3, rfl, rfl, rfl, w3⟩ := open_int Try.underlying5 (hval 3 5 v3 rfl rfl) h3
  clear hA0 hval0
  refine (frameCanon_walk a0 a1 a2 a3 w0 w1 w2 w3 W).mono fun e W' ⟨he, bel⟩ => ?_
  subst he
  exact ⟨_, rfl, _, _, _, [], _, [], hW', trodAll_mk1 (shut_bool Try.underlying4 _), (trodAll_cons_mk (Below.trod laidOut (by kernel_rfl) (of_decide_eq_true (by kernel_rfl)) k0 bel lt0) (trodAll_cons_mk (Below.trod laidOut (by kernel_rfl) (of_decide_eq_true (by kernel_rfl)) k1 bel lt1) (trodAll_cons_mk (Below.trod laidOut (by kernel_rfl) (of_decide_eq_true (by kernel_rfl)) k2 bel lt2) (trodAll_cons_mk (Below.trod laidOut (by kernel_rfl) (of_decide_eq_true (by kernel_rfl)) k3 bel lt3) trodAll_mk0)))), rfl, bel.frame _, fun h => by cases h⟩

theorem over : Rows.frameCanonRow.holds Try.pinned (OpenSpec.ofChange Rows.frameCanonSpec) :=
  OpenClaim.holds_of_wide 7 Try.f7 rfl rfl rfl rfl rfl rfl rfl ⟨rfl, rfl, rfl, rfl, rfl⟩ rfl rfl rfl rfl rfl (by kernel_rfl) Try.func7 (by kernel_rfl)
    (of_decide_eq_true (by kernel_rfl)) (by unfold Func.isWrapper; first | (rw [if_pos (by decide +kernel)]; kernel_rfl) | (rw [if_neg (by decide +kernel)]; exact ⟨rfl, rfl⟩))
    (fun os started H enc _ => lifted os started H enc)

theorem proved : Rows.FrameCanonSaid := over
#print axioms proved
end frameCanon
end Go.Proofs.Ytccdhoboidneeaa
