/-
  The statement FrameDecodes holds: Decode returns what the chapter specifies. No condition.
-/
import Derived.Test.YtccdhoboidneeaaOpen7
import Derived.Test.YtccdhoboidneeaaFrameC
import Derived.BigQuiet
namespace Go.Proofs.Ytccdhoboidneeaa
open Go.RowKit Go.Sort
set_option linter.unusedVariables false

theorem renc_of (f : Fr) (h : f.ok = true) (W : World) : Calls Try.prog 20 #[.agg #[.int .i64 f.dst, .int .i64 f.src, .bool f.tag, .int .i64 f.prio, .int .i64 f.vid, .bool f.hseq, .int .i64 f.seq, .int .i64 f.type, .string f.data]] W (Ret2 (.string f.enc) (.int .i64 0) W) := by
  have hc : f.code = 0 := by unfold Fr.code; rw [h]; rfl
  have := REncode_any f (by have := f.data_le h; omega) W
  rwa [hc] at this
theorem zero_bytes (W : World) (n : Nat) : (convert 42 9 (.slice (some ⟨W.heap.size, 0, none⟩) n n)).run Try.prog (W.alloc (.cells (zrow n) 5)) = .ok (.string (S (List.replicate n 0))) (W.alloc (.cells (zrow n) 5)) := by
  have h := conv_list (W.alloc (.cells (zrow n) 5)) W.heap.size n (List.replicate n 0) (by
    intro j hj
    rw [List.length_replicate] at hj
    rw [(zrow_row n W).cell j hj, List.getElem_replicate]; rfl)
  rwa [List.length_replicate] at h
theorem one_byte (W W' : World) (c : Nat) (hc : c < 256) (h : W'.cell? ⟨W.heap.size, 0, none⟩ = some (.int .u8 (c : Int))) :
    (convert 42 9 (.slice (some ⟨W.heap.size, 0, none⟩) 1 1)).run Try.prog W' = .ok (.string (S [UInt8.ofNat c])) W' := by
  have := conv_one W' W.heap.size c (by omega) (by omega) h
  simpa using this

theorem index9 (x0 x1 x2 x3 x4 x5 x6 x7 x8 : ByteArray) (h0 : x0.size ≤ 4100) (h1 : x1.size ≤ 4100) (h2 : x2.size ≤ 4100) (h3 : x3.size ≤ 4100) (h4 : x4.size ≤ 4100) (h5 : x5.size ≤ 4100) (h6 : x6.size ≤ 4100) (h7 : x7.size ≤ 4000) (h8 : x8.size ≤ 4000) (k : Nat) (hk : k < 9) :
    ∃ x : ByteArray, x.size ≤ 4100 ∧ ∀ W, (Instr.index 48 (.agg #[.string x0, .string x1, .string x2, .string x3, .string x4, .string x5, .string x6, .string x7, .string x8]) (.int .i64 (k : Int))).run Try.prog W = .ok (.string x) W := by
  have : k = 0 ∨ k = 1 ∨ k = 2 ∨ k = 3 ∨ k = 4 ∨ k = 5 ∨ k = 6 ∨ k = 7 ∨ k = 8 := by omega
  rcases this with rfl | rfl | rfl | rfl | rfl | rfl | rfl | rfl | rfl
  · exact ⟨x0, h0, fun _ => by kernel_rfl⟩
  · exact ⟨x1, h1, fun _ => by kernel_rfl⟩
  · exact ⟨x2, h2, fun _ => by kernel_rfl⟩
  · exact ⟨x3, h3, fun _ => by kernel_rfl⟩
  · exact ⟨x4, h4, fun _ => by kernel_rfl⟩
  · exact ⟨x5, h5, fun _ => by kernel_rfl⟩
  · exact ⟨x6, h6, fun _ => by kernel_rfl⟩
  · exact ⟨x7, by omega, fun _ => by kernel_rfl⟩
  · exact ⟨x8, by omega, fun _ => by kernel_rfl⟩
set_option maxRecDepth 100000 in
set_option maxHeartbeats 2000000 in
attribute [local go_sem ↓] Go.wp_at_zero Go.wp_at_succ in
theorem frameDecodes_walk (s : ByteArray) (d : Dr) (a c m : Int) (hs : s.size ≤ maxLen) (hd : d.fit) (ha : (Lit.int .u16 a).wf = true) (hc : (Lit.int .u8 c).wf = true) (hm : (Lit.int .u8 m).wf = true) (w : World) :
   Calls Try.prog 6 #[.string s, .agg #[.int .u16 (d.dst : Int), .int .u16 (d.src : Int), .int .u16 (d.long : Int), .int .u8 (d.tag : Int), .int .u8 (d.kind : Int), .int .u16 (d.seq : Int), .string d.data], .int .u16 a, .int .u8 c, .int .u8 m] w fun e w' => e = .returned (.bool true) ∧ Below w.heap.size w w' := by
  unfold maxLen at hs
  obtain ⟨at', rfl, ha2⟩ := u16_nat ha
  obtain ⟨ch, rfl, hc2⟩ := u8_nat hc
  obtain ⟨mo, rfl, hm2⟩ := u8_nat hm
  clear ha hc hm
  have C1 := Lib.hid (fun W => works7 W)
  have C2 := Lib.hid (fun W => Draft_any d hd W)
  have hA : (s.extract 0 (min (s.size : Int) 200).toNat).size ≤ 200 := by rw [ByteArray.size_extract]; omega
  have HA := Lib.hid hA; clear hA
  have hmn : 0 ≤ min (s.size : Int) 200 := by omega
  have hmx : min (s.size : Int) 200 ≤ (s.size : Int) := by omega
  go_enter Try.func6, Try.ntmps6
  go_wp2_with (fail)
  have hA := HA.out
  clear HA hmn hmx hs
  generalize s.extract 0 (min (s.size : Int) 200).toNat = A at *
  refine (C2.out _).mono ?_
  rintro e v2 ⟨⟨f, hok, hsz, rfl⟩, g2⟩
  have y2 := g2.size
  simp at y2
  have B2 : Below w.heap.size w v2 := ((Below.refl w.heap.size w).alloc (Nat.le_refl _) _).trans (g2.mono (by simp))
  have C3 := Lib.hid (fun W => renc_of f hok W)
  have hE1 := f.enc_size hok
  have hE2 := f.body_le hok
  obtain ⟨b, hb, hb1, hb2⟩ : ∃ b : Nat, f.enc.size = b + 4 ∧ 60 ≤ b ∧ b ≤ 1518 := ⟨f.body.length, hE1, hE2.1, hE2.2⟩
  clear hE1 hE2 g2 C2 hsz
  generalize f.enc = E at *
  have hbs : (E.size : Int) - 4 = (b : Int) := by omega
  have hbu : (b : Int) ≤ (E.size : Int) := by omega
  have hb0 : 0 ≤ (b : Int) := by omega
  have hBd : (E.extract 0 b).size = b := by rw [ByteArray.size_extract]; omega
  have HB := Lib.hid hb; clear hb
  have HBD := Lib.hid hBd; clear hBd
  go_wp2_with (fail)
  refine (C3.out _).mono ?_
  rintro e v3 ⟨rfl, g3⟩
  have y3 := g3.size
  have B3 : Below w.heap.size w v3 := B2.trans (g3.mono (by omega))
  clear g3 B2 C3 hok
  go_upto_region 4 with fail
  obtain ⟨Bd, hBdd⟩ : ∃ x, E.extract 0 b = x := ⟨_, rfl⟩
  rw [hBdd] at HBD ⊢
  obtain ⟨K, hK, hK2⟩ : ∃ K : Nat, (at' : Int) % (Bd.size : Int) = (K : Int) ∧ K < b := ⟨at' % b, by rw [HBD.out]; rfl, Nat.mod_lt _ (by omega)⟩
  have hbz : (Bd.size : Int) = (b : Int) := by have := HBD.out; omega
  have hbz1 : 60 ≤ (Bd.size : Int) := by omega
  have hbz2 : (Bd.size : Int) ≤ 1518 := by omega
  clear hbs hbu hb0 hBdd
  have HZ := Lib.hid hbz; clear hbz
  go_upto_region 5 with fail
  rw [hK]
  clear hK
  have o1 : (K : Int) ≤ (Bd.size : Int) := by have := HZ.out; omega
  have o2 : (K : Int) + 1 ≤ (Bd.size : Int) := by have := HZ.out; omega
  have o3 : 0 ≤ (K : Int) := by omega
  have o4 : 0 ≤ (K : Int) + 1 := by omega
  have x1 : (Bd.extract 0 K).size ≤ 1518 := by rw [ByteArray.size_extract]; omega
  have x2 : (S [UInt8.ofNat ch]).size = 1 := rfl
  have x3 : ∀ a, (Bd.extract a Bd.size).size ≤ 1518 := fun a => by rw [ByteArray.size_extract]; omega
  have HX3 := Lib.hid x3; clear x3
  have n1 : ¬ 9223372036854775807 < (Bd.extract 0 K).size + (S [UInt8.ofNat ch]).size := by omega
  have n2 : ¬ 9223372036854775807 < (Bd.extract 0 K ++ S [UInt8.ofNat ch]).size + (Bd.extract (K + 1) Bd.size).size := by
    rw [ByteArray.size_append]; have := HX3.out (K + 1); omega
  have HB3 := Lib.hid B3; clear B3
  go_cut [15] (fun s15 wx => ∃ X : ByteArray, s15 = .string X ∧ X.size ≤ 4000 ∧ Below w.heap.size w wx)
  case first =>
    have hw1 : IntKind.i64.wrap ((K : Int) + 1) = (K : Int) + 1 := IntWalk.i64_in _ (by omega)
    have hcv : (convert 42 9 (.slice (some ⟨v3.heap.size, 0, none⟩) 1 1)).run Try.prog ((v3.alloc (.cells #[.int .u8 (ch : Int)] 5)).drew) = .ok (.string (S [UInt8.ofNat ch])) ((v3.alloc (.cells #[.int .u8 (ch : Int)] 5)).drew) := one_byte v3 _ ch hc2 (by simp)
    clear x2
    go_region
    all_goals (go_wp2_with fail; go_meet; exact ⟨_, rfl, by rw [ByteArray.size_append, ByteArray.size_append]; have := HX3.out (K + 1); show _ + 1 + _ ≤ _; omega, ((HB3.out.alloc (by omega) _).drew)⟩)
  case rest =>
  obtain ⟨X1, rfl, hX1, B4⟩ := hcut
  have y4 := B4.size
  clear n1 n2 o1 o2 o3 o4 x1 x2 HB3
  obtain ⟨R, hR, hR2⟩ : ∃ R : Nat, (K : Int) % 14 = (R : Int) ∧ R < 14 := ⟨K % 14, rfl, Nat.mod_lt _ (by omega)⟩
  have x1 : (Bd.extract 0 (12 + R)).size ≤ 1518 := by rw [ByteArray.size_extract]; omega
  have n1 : ¬ 9223372036854775807 < (Bd.extract 0 (12 + R)).size + (S [UInt8.ofNat ch]).size := by have : (S [UInt8.ofNat ch]).size = 1 := rfl; omega
  have n2 : ¬ 9223372036854775807 < (Bd.extract 0 (12 + R) ++ S [UInt8.ofNat ch]).size + (Bd.extract (13 + R) Bd.size).size := by
    rw [ByteArray.size_append]; have := HX3.out (13 + R); have : (S [UInt8.ofNat ch]).size = 1 := rfl; omega
  have HB4 := Lib.hid B4; clear B4
  have o1 : 12 + (R : Int) ≤ (Bd.size : Int) := by omega
  have o2 : 13 + (R : Int) ≤ (Bd.size : Int) := by omega
  have o3 : 0 ≤ 12 + (R : Int) := by omega
  have o4 : 0 ≤ 13 + (R : Int) := by omega
  go_upto_region 6 with fail
  go_cut [16] (fun s15 wx => ∃ X : ByteArray, s15 = .string X ∧ X.size ≤ 4000 ∧ Below w.heap.size w wx)
  case first =>
    have hw0 : (K : Int).tmod 14 = (R : Int) := by rw [Int.tmod_eq_emod_of_nonneg (by omega)]; exact hR
    have hw1 : IntKind.i64.wrap (12 + (R : Int)) = 12 + (R : Int) := IntWalk.i64_in _ (by omega)
    have hw2 : IntKind.i64.wrap (13 + (R : Int)) = 13 + (R : Int) := IntWalk.i64_in _ (by omega)
    have hcv : (convert 42 9 (.slice (some ⟨wc.heap.size, 0, none⟩) 1 1)).run Try.prog ((wc.alloc (.cells #[.int .u8 (ch : Int)] 5)).drew) = .ok (.string (S [UInt8.ofNat ch])) ((wc.alloc (.cells #[.int .u8 (ch : Int)] 5)).drew) := one_byte wc _ ch hc2 (by simp)
    go_region
    all_goals (go_wp2_with fail; go_meet; exact ⟨_, rfl, by rw [ByteArray.size_append, ByteArray.size_append]; have := HX3.out (13 + R); show _ + 1 + _ ≤ _; omega, ((HB4.out.alloc (by omega) _).drew)⟩)
  case rest =>
  obtain ⟨X2, rfl, hX2, B5⟩ := hcut
  have y5 := B5.size
  clear n1 n2 o1 o2 o3 o4 x1 HB4 hR hR2
  have mk := make_bytes mo (by omega) wc
  have cvz := zero_bytes wc mo
  have zs : (S (List.replicate mo 0)).size ≤ 255 := by rw [S_size, List.length_replicate]; omega
  have n1 : ¬ 9223372036854775807 < Bd.size + (S (List.replicate mo 0)).size := by omega
  have ew : ∀ X, (Bd ++ S (List.replicate mo 0)).size ≤ 4000 ∨ X := fun _ => by left; rw [ByteArray.size_append]; omega
  have HXW := Lib.hid (show (Bd ++ S (List.replicate mo 0)).size ≤ 4000 by rw [ByteArray.size_append]; omega)
  clear ew
  go_upto_region 8 with fail
  clear mk cvz n1
  have hX3 := HXW.out
  clear HXW zs
  generalize Bd ++ S (List.replicate mo 0) = X3 at *
  have B6 : Below w.heap.size w (wc.alloc (.cells (zrow mo) 5)) := B5.alloc y5 _
  generalize wc.alloc (.cells (zrow mo) 5) = wd at *
  have o1 : (K : Int) ≤ (Bd.size : Int) := by have := HZ.out; omega
  have o2 : (K : Int) ≤ (E.size : Int) := by have := HZ.out; have := HB.out; omega
  have o3 : 12 ≤ (Bd.size : Int) := by omega
  have o4 : (Bd.size : Int) ≤ (E.size : Int) := by have := HZ.out; have := HB.out; omega
  have o5 : 0 ≤ (K : Int) := by omega
  have x1 : (Bd.extract 0 K).size ≤ 1518 := by rw [ByteArray.size_extract]; omega
  have x2 : (Bd.extract 0 12).size ≤ 12 := by rw [ByteArray.size_extract]; omega
  have x3 : (Bd.extract 12 Bd.size).size ≤ 1518 := HX3.out 12
  have x4 : (E.extract Bd.size E.size).size ≤ 1522 := by rw [ByteArray.size_extract]; have := HB.out; omega
  have x5 : (Bd.extract 0 12 ++ ⟨#[129, 0, 15, 255]⟩).size ≤ 16 := by rw [ByteArray.size_append]; show _ + 4 ≤ _; omega
  have x6 : (Bd.extract 0 12 ++ ⟨#[129, 0, 15, 255]⟩ ++ Bd.extract 12 Bd.size).size ≤ 1534 := by rw [ByteArray.size_append]; omega
  have x7 : (Bd.extract 0 12 ++ ⟨#[129, 0, 15, 255]⟩ ++ Bd.extract 12 Bd.size ++ E.extract Bd.size E.size).size ≤ 4000 := by rw [ByteArray.size_append]; omega
  have x8 : (E.extract 0 K).size ≤ 4000 := by rw [ByteArray.size_extract]; have := HB.out; omega
  have q1 : ∀ d os, Calls Try.prog 23 #[.string A] (grow (redrawn wd d) os) fun e w'' => e = .returned (.string (sealB 0 A)) ∧ ∃ p : Regrown, w'' = grow (redrawn wd p.d) p.os := fun d os => Calls.regrown_of (RSeal_any A (by omega) _)
  have q2 : ∀ d os, Calls Try.prog 23 #[.string X1] (grow (redrawn wd d) os) fun e w'' => e = .returned (.string (sealB 0 X1)) ∧ ∃ p : Regrown, w'' = grow (redrawn wd p.d) p.os := fun d os => Calls.regrown_of (RSeal_any X1 (by omega) _)
  have q3 : ∀ d os, Calls Try.prog 23 #[.string X2] (grow (redrawn wd d) os) fun e w'' => e = .returned (.string (sealB 0 X2)) ∧ ∃ p : Regrown, w'' = grow (redrawn wd p.d) p.os := fun d os => Calls.regrown_of (RSeal_any X2 (by omega) _)
  have q4 : ∀ d os, Calls Try.prog 23 #[.string X3] (grow (redrawn wd d) os) fun e w'' => e = .returned (.string (sealB 0 X3)) ∧ ∃ p : Regrown, w'' = grow (redrawn wd p.d) p.os := fun d os => Calls.regrown_of (RSeal_any X3 (by omega) _)
  have q5 : ∀ d os, Calls Try.prog 23 #[.string (Bd.extract 0 K)] (grow (redrawn wd d) os) fun e w'' => e = .returned (.string (sealB 0 (Bd.extract 0 K))) ∧ ∃ p : Regrown, w'' = grow (redrawn wd p.d) p.os := fun d os => Calls.regrown_of (RSeal_any (Bd.extract 0 K) (by omega) _)
  refine wp_region_quiet_below (by kernel_rfl) (by kernel_rfl) ?_
  repeat (first | go_big_quiet_step (first | (with_reducible exact q1 _ _) | (with_reducible exact q2 _ _) | (with_reducible exact q3 _ _) | (with_reducible exact q4 _ _) | (with_reducible exact q5 _ _)) | quiet_step (first | (with_reducible exact q1 _ _) | (with_reducible exact q2 _ _) | (with_reducible exact q3 _ _) | (with_reducible exact q4 _ _) | (with_reducible exact q5 _ _)))
  refine wpQuiet_nil ?_
  intro _ hw'
  obtain ⟨⟨dq, osq⟩, hw''⟩ := hw'
  subst hw''
  have B7 : Below w.heap.size w (grow (redrawn wd dq) osq) := B6.trans ((below_regrown wd dq osq).mono B6.size)
  generalize grow (redrawn wd dq) osq = we at *
  clear q1 q2 q3 q4 q5
  have z0 : A.size ≤ 4100 := by omega
  have z1 : (sealB 0 A).size ≤ 4100 := by rw [sealB_size]; omega
  have z2 : E.size ≤ 4100 := by have := HB.out; omega
  have z3 : (sealB 0 X1).size ≤ 4100 := by rw [sealB_size]; omega
  have z4 : (sealB 0 X2).size ≤ 4100 := by rw [sealB_size]; omega
  have z5 : (sealB 0 X3).size ≤ 4100 := by rw [sealB_size]; omega
  have z6 : (sealB 0 (Bd.extract 0 K)).size ≤ 4100 := by rw [sealB_size]; omega
  have HIX := Lib.hid (index9 _ _ _ _ _ _ _ _ _ z0 z1 z2 z3 z4 z5 z6 x8 x7)
  clear z0 z1 z2 z3 z4 z5 z6
  generalize (Value.agg #[.string A, .string (sealB 0 A), .string E, .string (sealB 0 X1), .string (sealB 0 X2), .string (sealB 0 X3), .string (sealB 0 (Bd.extract 0 K)), .string (E.extract 0 K), .string (Bd.extract 0 12 ++ ⟨#[129, 0, 15, 255]⟩ ++ Bd.extract 12 Bd.size ++ E.extract Bd.size E.size)]) = V9 at *
  have hb7 := B7.size
  have HB7 := Lib.hid B7; clear B7 B6 B5
  clear x1 x2 x3 x4 x5 x6 x7 x8 o1 o2 o3 o4 o5 hX1 hX2 hX3 hA hbz1 hbz2
  go_wp2_with (fail)
  go_loopw [107] (fun i wr => ∃ k : Nat, k ≤ 9 ∧ i = .int .i64 k ∧ Below w.heap.size w wr) (fun i _ => 9 - (intOf i).toNat)
  case atStart => exact ⟨0, by omega, rfl, HB7.out⟩
  case round =>
    obtain ⟨k, hk, rfl, hbr⟩ := hrel
    have hbs := hbr.size
    by_cases hlt : k < 9
    · obtain ⟨x, hx, hix⟩ := HIX.out k hlt
      have D1 := Lib.hid (fun W => Decode_any x (by omega) W)
      have D2 := Lib.hid (fun W => RDecode_any x (by omega) W)
      generalize decE x = ec at *
      generalize decF x = fc at *
      go_wp2_with (fail)
      refine (D1.out _).mono ?_
      rintro e u1 ⟨rfl, k1⟩
      have l1 := k1.size
      have G1 := fr_box u1 fc
      have hb1 : Below w.heap.size w u1 := hbr.trans (k1.mono hbs)
      go_wp2_with (fail)
      refine (D2.out _).mono ?_
      rintro e u2 ⟨rfl, k2⟩
      have l2 := k2.size
      simp at l2
      have hb2 : Below w.heap.size w u2 := (hb1.alloc (by omega) _).trans (k2.mono (by simp; omega))
      obtain ⟨c0, c1, c2, c3, c4, c5, c6, c7, c8⟩ := fr_keep G1 k2 (by simp)
      have l3 : u1.heap.size < u2.heap.size := by omega
      clear G1 k1 k2
      go_wp2_with (fail)
      go_roundw
      case rel => exact ⟨k + 1, by omega, by go_num, hb2.alloc (by omega) _⟩
      case measure => simp [intOf]; omega
    · obtain rfl : k = 9 := by omega
      go_wp2_with (fail)
      refine (C1.out _).mono ?_
      rintro e u1 ⟨rfl, k1⟩
      go_wp2_with (fail)
      go_ret
      exact ⟨rfl, hbr.trans (k1.mono hbs)⟩
namespace frameDecodes
open Go.ChangeShapes Go.WideShapes Go.ChangeAt Go.RowKit
open Go.ChangeMaps (open_string shut_string)
theorem own : ownKnob Try.prog.godebug = none := by kernel_rfl
theorem laidOut : laidOutB Try.prog = true := by kernel_rfl

set_option maxRecDepth 100000 in
theorem lifted (os : Os) (started : os.Started) (H : Type) (enc : TypeId × Value → H) :
    ReturnsInHanded {} Try.checked os 6 .any (Rows.frameDecodesSpec.pre6 enc Try.prog Try.f6 Rows.frameDecodesRow.domain false) (Rows.frameDecodesSpec.post enc Try.prog Try.f6 false true false false) := by
  refine returnsInHanded_of_change (C := Try.checked) own started (by kernel_rfl) Try.func6
    (ChangeSpec.witness6 (enc := enc) (C := Try.checked) false ⟨#[], #[.string ByteArray.empty, .agg #[.int .u16 0, .int .u16 0, .int .u16 0, .int .u8 0, .int .u8 0, .int .u16 0, .string ByteArray.empty], .int .u16 0, .int .u8 0, .int .u8 0], []⟩ 8 (by kernel_rfl) (by kernel_rfl) (by kernel_rfl) (by kernel_rfl)) ?_
  intro W base args ds gs before hval0 hW hcnd _
  have hval : ∀ (j : Nat) t v, Try.f6.params[j]? = some t → args[j]? = some v → Value.okWide Try.prog W .any base t v := hval0
  have hW' := hW
  obtain ⟨p, q, hA0, hV, rfl, hfz, hnd⟩ := hW
  have hA : DataW.TrodAll enc Try.prog W 0 (fun _ => true) true Try.f6.params.toList args.toList ds p := hA0
  rw [Try.params6] at hA hval
  obtain ⟨v0, vs0, d0, ds0, p0, q0, hargs, rfl, rfl, h0, r0⟩ := trodAll_cons hA
  obtain ⟨v1, vs1, d1, ds1, p1, q1, rfl, rfl, rfl, h1, r1⟩ := trodAll_cons r0
  obtain ⟨v2, vs2, d2, ds2, p2, q2, rfl, rfl, rfl, h2, r2⟩ := trodAll_cons r1
  obtain ⟨v3, vs3, d3, ds3, p3, q3, rfl, rfl, rfl, h3, r3⟩ := trodAll_cons r2
  obtain ⟨v4, vs4, d4, ds4, p4, q4, rfl, rfl, rfl, h4, r4⟩ := trodAll_cons r3
  obtain ⟨rfl, rfl, rfl⟩ := trodAll_nil r4
  obtain rfl : args = #[v0, v1, v2, v3, v4] := by cases args; simp_all
  obtain ⟨rfl, rfl⟩ := trodVars_none hV
  have k0 := h0
  have lt0 : ∀ x ∈ p0, x.block < W.heap.size := by obtain ⟨m, hm⟩ := k0; exact DataW.trod_lt m _ _ _ hm
  have k1 := h1
  have lt1 : ∀ x ∈ p1, x.block < W.heap.size := by obtain ⟨m, hm⟩ := k1; exact DataW.trod_lt m _ _ _ hm
  have k2 := h2
  have lt2 : ∀ x ∈ p2, x.block < W.heap.size := by obtain ⟨m, hm⟩ := k2; exact DataW.trod_lt m _ _ _ hm
  have k3 := h3
  have lt3 : ∀ x ∈ p3, x.block < W.heap.size := by obtain ⟨m, hm⟩ := k3; exact DataW.trod_lt m _ _ _ hm
  have k4 := h4
  have lt4 : ∀ x ∈ p4, x.block < W.heap.size := by obtain ⟨m, hm⟩ := k4; exact DataW.trod_lt m _ _ _ hm
  obtain ⟨a0, rfl, rfl, rfl, w0⟩ := open_string Try.underlying9 (hval 0 9 v0 rfl rfl) h0
  obtain ⟨a1, rfl, w1⟩ := open_draft (hval 1 24 v1 rfl rfl) h1
  obtain ⟨a2, rfl, rfl, rfl, w2⟩ := open_int Try.underlying22 (hval 2 22 v2 rfl rfl) h2
  obtain ⟨a3, rfl, rfl, rfl, w3⟩ := open_int Try.underlying5 (hval 3 5 v3 rfl rfl) h3
  obtain ⟨a4, rfl, rfl, rfl, w4⟩ := open_int Try.underlying5 (hval 4 5 v4 rfl rfl) h4
  clear hA0 hval0
  refine (frameDecodes_walk a0 a1 a2 a3 a4 w0 w1 w2 w3 w4 W).mono fun e W' ⟨he, bel⟩ => ?_
  subst he
  exact ⟨_, rfl, _, _, _, [], _, [], hW', trodAll_mk1 (shut_bool Try.underlying4 _), (trodAll_cons_mk (Below.trod laidOut (by kernel_rfl) (of_decide_eq_true (by kernel_rfl)) k0 bel lt0) (trodAll_cons_mk (Below.trod laidOut (by kernel_rfl) (of_decide_eq_true (by kernel_rfl)) k1 bel lt1) (trodAll_cons_mk (Below.trod laidOut (by kernel_rfl) (of_decide_eq_true (by kernel_rfl)) k2 bel lt2) (trodAll_cons_mk (Below.trod laidOut (by kernel_rfl) (of_decide_eq_true (by kernel_rfl)) k3 bel lt3) (trodAll_cons_mk (Below.trod laidOut (by kernel_rfl) (of_decide_eq_true (by kernel_rfl)) k4 bel lt4) trodAll_mk0))))), rfl, bel.frame _, fun h => by cases h⟩

theorem over : Rows.frameDecodesRow.holds Try.pinned (OpenSpec.ofChange Rows.frameDecodesSpec) :=
  OpenClaim.holds_of_wide 6 Try.f6 rfl rfl rfl rfl rfl rfl rfl ⟨rfl, rfl, rfl, rfl, rfl⟩ rfl rfl rfl rfl rfl (by kernel_rfl) Try.func6 (by kernel_rfl)
    (of_decide_eq_true (by kernel_rfl)) (by unfold Func.isWrapper; first | (rw [if_pos (by decide +kernel)]; kernel_rfl) | (rw [if_neg (by decide +kernel)]; exact ⟨rfl, rfl⟩))
    (fun os started H enc _ => lifted os started H enc)

theorem proved : Rows.FrameDecodesSaid := over
#print axioms proved
end frameDecodes
end Go.Proofs.Ytccdhoboidneeaa
