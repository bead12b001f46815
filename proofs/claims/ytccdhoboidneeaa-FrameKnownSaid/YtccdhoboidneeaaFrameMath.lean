/-
  Frames in plain terms: what is valid, the octets of a frame, how the program and the reference read them again; that both find the frame with the longest Data.
-/
import Derived.Test.YtccdhoboidneeaaCrcDmg
import Derived.Test.YtccdhoboidneeaaWire4
namespace Go.Proofs.Ytccdhoboidneeaa
open Go.RowKit
set_option linter.unusedVariables false

structure Fr where
  dst : Int
  src : Int
  tag : Bool
  prio : Int
  vid : Int
  hseq : Bool
  seq : Int
  type : Int
  data : ByteArray

def Fr.ok (f : Fr) : Bool := decide ((0 ≤ f.dst ∧ f.dst ≤ 281474976710655) ∧ (0 ≤ f.src ∧ f.src ≤ 281474976710655) ∧ (0 ≤ f.prio ∧ f.prio ≤ if f.tag then 7 else 0) ∧ (0 ≤ f.vid ∧ f.vid ≤ if f.tag then 4094 else 0) ∧
  (0 ≤ f.seq ∧ f.seq ≤ if f.hseq then 65535 else 0) ∧ (f.type = 0 ∨ (1536 ≤ f.type ∧ f.type ≤ 65535)) ∧ f.type ≠ 33024 ∧ f.type ≠ 61889 ∧ (f.data.size : Int) ≤ if f.hseq then 1494 else 1500)
def Fr.kind (f : Fr) : Int := if f.type = 0 then (f.data.size : Int) else f.type
def Fr.hd (f : Fr) : List UInt8 := Wirem.be 6 f.dst ++ (Wirem.be 6 f.src ++ ((if f.tag then [129, 0] ++ Wirem.be 2 (f.prio * 8192 + f.vid) else []) ++ ((if f.hseq then [241, 193, 0, 0] ++ Wirem.be 2 f.seq else []) ++ Wirem.be 2 f.kind)))
def Fr.pre (f : Fr) : List UInt8 := f.hd ++ f.data.data.toList
def Fr.body (f : Fr) : List UInt8 := f.pre ++ List.replicate (60 - f.pre.length) 0
def Fr.enc (f : Fr) : ByteArray := if f.ok then sealB 0 (S f.body) else S []
def Fr.code (f : Fr) : Int := if f.ok then 0 else 170
def Fr.wire (f : Fr) : Int := if f.ok then (f.body.length : Int) + 24 else 0
def Fr.none : Fr := ⟨0, 0, false, 0, 0, false, 0, 0, S []⟩

def Fr.head (f : Fr) : Nat := 14 + (if f.tag then 4 else 0) + (if f.hseq then 6 else 0)
theorem Fr.hd_length (f : Fr) : f.hd.length = f.head := by
  unfold Fr.hd Fr.head
  have h := Wirem.be_length
  cases f.tag <;> cases f.hseq <;> simp [h]
theorem Fr.pre_length (f : Fr) : f.pre.length = f.head + f.data.size := by
  unfold Fr.pre; rw [List.length_append, Fr.hd_length, ← Lib.size_eq]
theorem Fr.body_length (f : Fr) : f.body.length = max 60 (f.head + f.data.size) := by
  unfold Fr.body; rw [List.length_append, Fr.pre_length, List.length_replicate]; omega
theorem Fr.ok_iff (f : Fr) : f.ok = true ↔ ((0 ≤ f.dst ∧ f.dst ≤ 281474976710655) ∧ (0 ≤ f.src ∧ f.src ≤ 281474976710655) ∧ (0 ≤ f.prio ∧ f.prio ≤ if f.tag then 7 else 0) ∧ (0 ≤ f.vid ∧ f.vid ≤ if f.tag then 4094 else 0) ∧
  (0 ≤ f.seq ∧ f.seq ≤ if f.hseq then 65535 else 0) ∧ (f.type = 0 ∨ (1536 ≤ f.type ∧ f.type ≤ 65535)) ∧ f.type ≠ 33024 ∧ f.type ≠ 61889 ∧ (f.data.size : Int) ≤ if f.hseq then 1494 else 1500) := by
  unfold Fr.ok; exact decide_eq_true_iff
theorem Fr.body_le (f : Fr) (h : f.ok = true) : 60 ≤ f.body.length ∧ f.body.length ≤ 1518 := by
  have hd := (f.ok_iff.1 h).2.2.2.2.2.2.2.2
  rw [Fr.body_length]
  unfold Fr.head
  revert hd
  cases f.tag <;> cases f.hseq <;> simp <;> omega
theorem Fr.enc_ok (f : Fr) (h : f.ok = true) : f.enc = sealB 0 (S f.body) := by unfold Fr.enc; rw [if_pos h]
theorem Fr.enc_size (f : Fr) (h : f.ok = true) : f.enc.size = f.body.length + 4 := by rw [f.enc_ok h, sealB_size, S_size]
theorem Fr.enc_good (f : Fr) (h : f.ok = true) : goodB 0 f.enc = true := by rw [f.enc_ok h]; exact goodB_sealB _ _

/-- The frame with the same octets and the longest Data. -/
def Fr.want (f : Fr) : Fr := { f with data := if f.type = 0 then f.data else f.data ++ S (List.replicate (60 - f.head - f.data.size) 0) }
theorem S_data'' (l : List UInt8) : (S l).data.toList = l := by simp [S]
theorem Fr.want_data (f : Fr) : f.want.data.data.toList = if f.type = 0 then f.data.data.toList else f.data.data.toList ++ List.replicate (60 - f.head - f.data.size) 0 := by
  unfold Fr.want
  split
  · rfl
  · simp [S_data'']
theorem Fr.want_size (f : Fr) : f.want.data.size = if f.type = 0 then f.data.size else f.data.size + (60 - f.head - f.data.size) := by
  rw [Lib.size_eq, Fr.want_data]
  split
  · rw [← Lib.size_eq]
  · rw [List.length_append, List.length_replicate, ← Lib.size_eq]
theorem Fr.want_ok (f : Fr) (h : f.ok = true) : f.want.ok = true := by
  rw [Fr.ok_iff] at h ⊢
  have hs := f.want_size
  obtain ⟨h1, h2, h3, h4, h5, h6, h7, h8, h9⟩ := h
  refine ⟨h1, h2, h3, h4, h5, h6, h7, h8, ?_⟩
  rw [hs]
  show _ ≤ if f.hseq = true then (1494 : Int) else 1500
  unfold Fr.head
  clear hs h3 h4 h5
  revert h9
  by_cases ht : f.type = 0
  · rw [if_pos ht]; exact id
  · rw [if_neg ht]
    cases f.hseq <;> cases f.tag <;> simp <;> omega
theorem Fr.want_hd (f : Fr) : f.want.hd = f.hd := by
  unfold Fr.hd
  have : f.want.kind = f.kind := by
    unfold Fr.kind
    rw [show f.want.type = f.type from rfl, f.want_size]
    split
    · rename_i h; simp
    · rfl
  rw [this]
  rfl
theorem Fr.want_body (f : Fr) : f.want.body = f.body := by
  unfold Fr.body
  rw [Fr.pre_length, Fr.pre_length, show f.want.head = f.head from rfl, f.want_size]
  unfold Fr.pre
  rw [f.want_hd, f.want_data]
  split
  · rfl
  · rw [List.append_assoc, List.append_assoc, List.append_assoc, List.replicate_append_replicate]
    congr 3
    omega
theorem Fr.want_enc (f : Fr) (h : f.ok = true) : f.want.enc = f.enc := by
  rw [f.enc_ok h, f.want.enc_ok (f.want_ok h), f.want_body]
theorem Fr.want_want (f : Fr) : f.want.want = f.want := by
  have hd : f.want.want.data = f.want.data := by
    have h := f.want.want_data
    rw [show f.want.type = f.type from rfl, show f.want.head = f.head from rfl, f.want_size] at h
    apply (show ∀ x y : ByteArray, x.data.toList = y.data.toList → x = y from fun x y e => by rw [← S_of x, ← S_of y, e])
    rw [h]
    split
    · rfl
    · rw [show 60 - f.head - (f.data.size + (60 - f.head - f.data.size)) = 0 by omega]; simp
  unfold Fr.want at hd ⊢
  rw [Fr.mk.injEq]
  exact ⟨rfl, rfl, rfl, rfl, rfl, rfl, rfl, rfl, hd⟩

/-! Reading. -/
def rd (t : List UInt8) (a k : Nat) : Int := (Wirem.val ((t.drop a).take k) : Nat)
def pTag (t : List UInt8) : Bool := rd t 12 2 == 33024
def pA (t : List UInt8) : Nat := if pTag t then 16 else 12
def pSeq (t : List UInt8) : Bool := rd t (pA t) 2 == 61889
def pB (t : List UInt8) : Nat := if pSeq t then pA t + 6 else pA t
def pK (t : List UInt8) : Int := rd t (pB t) 2
def pFr (t : List UInt8) : Fr := ⟨rd t 0 6, rd t 6 6, pTag t, if pTag t then rd t 14 2 / 8192 else 0, if pTag t then rd t 14 2 % 8192 else 0, pSeq t, if pSeq t then rd t (pA t + 4) 2 else 0,
  if 1500 < pK t then pK t else 0, if 1500 < pK t then S (t.drop (pB t + 2)) else S ((t.drop (pB t + 2)).take (pK t).toNat)⟩
def pBad (t : List UInt8) : Bool := decide (pK t ≤ 1500 ∧ (t.length : Int) < pB t + 2 + pK t)
def cTag (t : List UInt8) : Bool := (t.drop 12).take 2 == [129, 0]
def cA (t : List UInt8) : Nat := if cTag t then 16 else 12
def cSeq (t : List UInt8) : Bool := (t.drop (cA t)).take 4 == [241, 193, 0, 0]
def cB (t : List UInt8) : Nat := if cSeq t then cA t + 6 else cA t
def cK (t : List UInt8) : Int := rd t (cB t) 2
def cFr (t : List UInt8) : Fr := ⟨rd t 0 6, rd t 6 6, cTag t, if cTag t then rd t 14 2 / 8192 else 0, if cTag t then rd t 14 2 % 8192 else 0, cSeq t, if cSeq t then rd t (cA t + 4) 2 else 0,
  if 1536 ≤ cK t then cK t else 0, if 1536 ≤ cK t then S (t.drop (cB t + 2)) else S ((t.drop (cB t + 2)).take (cK t).toNat)⟩

theorem len2 {l : List UInt8} (h : l.length = 2) : ∃ a b, l = [a, b] := by
  match l, h with
  | [a, b], _ => exact ⟨a, b, rfl⟩
theorem len6 {l : List UInt8} (h : l.length = 6) : ∃ a b c d e f, l = [a, b, c, d, e, f] := by
  match l, h with
  | [a, b, c, d, e, f], _ => exact ⟨a, b, c, d, e, f, rfl⟩
theorem be6 (n : Int) (h0 : 0 ≤ n) (h1 : n ≤ 281474976710655) : ∃ a b c d e f, Wirem.be 6 n = [a, b, c, d, e, f] ∧ ((Wirem.val [a, b, c, d, e, f] : Nat) : Int) = n := by
  obtain ⟨a, b, c, d, e, f, h⟩ := len6 (Wirem.be_length 6 n)
  refine ⟨a, b, c, d, e, f, h, ?_⟩
  rw [← h, Wirem.be_val, Int.emod_eq_of_lt h0 (by omega)]
theorem be2 (n : Int) (h0 : 0 ≤ n) (h1 : n ≤ 65535) : ∃ a b, Wirem.be 2 n = [a, b] ∧ ((Wirem.val [a, b] : Nat) : Int) = n := by
  obtain ⟨a, b, h⟩ := len2 (Wirem.be_length 2 n)
  refine ⟨a, b, h, ?_⟩
  rw [← h, Wirem.be_val, Int.emod_eq_of_lt h0 (by omega)]
theorem val2_ne (a b x y : UInt8) (n : Int) (h : ((Wirem.val [a, b] : Nat) : Int) = n) (hn : n ≠ ((Wirem.val [x, y] : Nat) : Int)) : ¬ (a = x ∧ b = y) := by
  rintro ⟨rfl, rfl⟩; exact hn h.symm
theorem Fr.kind_le (f : Fr) (h : f.ok = true) : 0 ≤ f.kind ∧ f.kind ≤ 65535 ∧ f.kind ≠ 33024 ∧ f.kind ≠ 61889 ∧ (1500 < f.kind ↔ f.type ≠ 0) ∧ (1536 ≤ f.kind ↔ f.type ≠ 0) := by
  obtain ⟨h1, h2, h3, h4, h5, h6, h7, h8, h9⟩ := f.ok_iff.1 h
  have : (f.data.size : Int) ≤ 1500 := by split at h9 <;> omega
  unfold Fr.kind
  split <;> omega

/-- What is read of the octets of a valid frame. -/
theorem Fr.read (f : Fr) (h : f.ok = true) : pFr f.body = f.want ∧ pBad f.body = false ∧ cFr f.body = f.want := by
  obtain ⟨k0, k1, k2, k3, k4, k5⟩ := f.kind_le h
  obtain ⟨h1, h2, h3, h4, h5, h6, h7, h8, h9⟩ := f.ok_iff.1 h
  have hw := f.want_data
  have hl := f.pre_length
  obtain ⟨a0, a1, a2, a3, a4, a5, ea, va⟩ := be6 f.dst h1.1 h1.2
  obtain ⟨b0, b1, b2, b3, b4, b5, eb, vb⟩ := be6 f.src h2.1 h2.2
  obtain ⟨c0, c1, ec, vc⟩ := be2 f.kind k0 k1
  have n1 := val2_ne c0 c1 129 0 _ vc k2
  have n2 := val2_ne c0 c1 241 193 _ vc k3
  have v1 : Wirem.val [129, 0] = 33024 := by decide
  have v2 : Wirem.val [241, 193] = 61889 := by decide
  have n3 : ¬ ((Wirem.val [c0, c1] : Nat) : Int) = 33024 := by rw [vc]; exact k2
  have n4 : ¬ ((Wirem.val [c0, c1] : Nat) : Int) = 61889 := by rw [vc]; exact k3
  have hr : ∀ (x : List UInt8) (d : ByteArray), d.data.toList = x → S x = d := fun x d e => by rw [← e, S_of]
  have hz : f.type = 0 → f.kind = f.data.size := fun e => by unfold Fr.kind; rw [if_pos e]
  have hz2 : f.type ≠ 0 → f.kind = f.type := fun e => by unfold Fr.kind; rw [if_neg e]
  have hsz : f.data.data.toList.length = f.data.size := (Lib.size_eq _).symm
  have hd : ∀ R : List UInt8, (f.type = 0 → S ((f.data.data.toList ++ R).take f.data.size) = f.data) := fun R _ => hr _ _ (by rw [← hsz, List.take_left])
  have hd2 : f.type ≠ 0 → S (f.data.data.toList ++ List.replicate (60 - (f.head + f.data.size)) 0) = f.want.data := fun e => hr _ _ (by rw [hw, if_neg e, Nat.sub_sub])
  have hd3 : f.type = 0 → f.want.data = f.data := fun e => by unfold Fr.want; rw [if_pos e]
  have hbl : f.body.length = max 60 (f.head + f.data.size) := f.body_length
  have hwt : f.want = ⟨f.dst, f.src, f.tag, f.prio, f.vid, f.hseq, f.seq, f.type, f.want.data⟩ := rfl
  have hhd : f.head = 14 + (if f.tag then 4 else 0) + (if f.hseq then 6 else 0) := rfl
  rw [hwt]
  generalize f.want.data = wd at *
  have hb : f.body = Wirem.be 6 f.dst ++ (Wirem.be 6 f.src ++ ((if f.tag then [129, 0] ++ Wirem.be 2 (f.prio * 8192 + f.vid) else []) ++ ((if f.hseq then [241, 193, 0, 0] ++ Wirem.be 2 f.seq else []) ++ (Wirem.be 2 f.kind ++ (f.data.data.toList ++ List.replicate (60 - (f.head + f.data.size)) 0))))) := by
    unfold Fr.body Fr.pre
    rw [show (f.hd ++ f.data.data.toList).length = f.head + f.data.size from hl]
    unfold Fr.hd
    simp only [List.append_assoc]
  clear h hw hl hwt hr
  generalize f.body = t at *
  generalize f.data.data.toList = D at *
  generalize List.replicate (60 - (f.head + f.data.size)) (0 : UInt8) = R at *
  rw [ea, eb, ec] at hb
  obtain ⟨dst, src, tag, prio, vid, hseq, seq, type, data⟩ := f
  simp only at *
  generalize Fr.kind _ = K at *
  generalize Fr.head _ = HD at *
  have hq : hseq = false → seq = 0 := fun e => by rw [e] at h5; simp at h5; omega
  have hp : tag = false → prio = 0 ∧ vid = 0 := fun e => by rw [e] at h3 h4; simp at h3 h4; omega
  have h3' : 0 ≤ prio ∧ prio ≤ 7 := by split at h3 <;> omega
  have h4' : 0 ≤ vid ∧ vid ≤ 4094 := by split at h4 <;> omega
  have h5' : 0 ≤ seq ∧ seq ≤ 65535 := by split at h5 <;> omega
  obtain ⟨p0, p1, ep, vp⟩ := be2 (prio * 8192 + vid) (by omega) (by omega)
  obtain ⟨q0, q1, eq, vq⟩ := be2 seq h5'.1 h5'.2
  have w1 : (prio * 8192 + vid) / 8192 = prio := by omega
  have w2 : (prio * 8192 + vid) % 8192 = vid := by omega
  have g1 : ∀ X : List UInt8, ((c0 :: c1 :: X) == [129, 0]) = false := fun X => by
    rw [beq_eq_false_iff_ne]; rintro e; injection e with e e'; injection e' with e' _; exact n1 ⟨e, e'⟩
  have g2 : ∀ X : List UInt8, ((c0 :: c1 :: X) == [241, 193, 0, 0]) = false := fun X => by
    rw [beq_eq_false_iff_ne]; rintro e; injection e with e e'; injection e' with e' _; exact n2 ⟨e, e'⟩
  rw [ep, eq] at hb
  have hcase : (type = 0 ∧ ¬ 1500 < K ∧ ¬ 1536 ≤ K ∧ K.toNat = data.size ∧ S (List.take data.size (D ++ R)) = data ∧ wd = data ∧ ¬ ((D.length + R.length : Nat) : Int) < K) ∨ (type ≠ 0 ∧ 1500 < K ∧ 1536 ≤ K ∧ type = K ∧ S (D ++ R) = wd ∧ True ∧ ¬ K ≤ 1500) := by
    by_cases ht : type = 0
    · have := hz ht
      exact .inl ⟨ht, fun e => k4.1 e ht, fun e => k5.1 e ht, by omega, hd R ht, hd3 ht, by omega⟩
    · exact .inr ⟨ht, k4.2 ht, k5.2 ht, (hz2 ht).symm, hd2 ht, trivial, by have := k4.2 ht; omega⟩
  have hbad : ∀ (n : Nat) (m : Int), m = n → pK t ≤ 1500 → pK t = K → ¬ (((n + (D.length + R.length) : Nat) : Int) < m + K) := by
    intro n m e e1 e2
    rw [e2] at e1
    rcases hcase with ⟨_, _, _, _, _, _, h⟩ | ⟨_, _, _, _, _, _, h⟩
    · omega
    · exact (h e1).elim
  clear hd hd2 hd3 hz hz2 h1 h2 h3 h4 h5 h6 h7 h8 h9 k4 k5
  rcases hcase with ⟨ht, e1, e2, e3, e4, e5, e6⟩ | ⟨ht, e1, e2, e3, e4, e5, e6⟩ <;> cases tag <;> cases hseq
  all_goals
    simp at hb hp hq
    try obtain ⟨rfl, rfl⟩ := hp
    try subst hq
    subst hb
    clear hbl
    simp [pFr, pBad, cFr, pK, cK, pB, cB, pSeq, cSeq, pA, cA, pTag, cTag, rd, va, vb, vc, v1, v2, g1, g2, k2, k3, e1, e2, e3, e4, e5, ht, vp, w1, w2, vq]
    try omega

/-! What Decode returns. -/
def txt (s : ByteArray) : List UInt8 := s.data.toList.take (s.size - 4)
def decOk (s : ByteArray) : Bool := decide (64 ≤ s.size ∧ s.size ≤ 1522) && (!pBad (txt s) && ((pFr (txt s)).ok && decide ((pFr (txt s)).enc = s)))
def decF (s : ByteArray) : Fr := if decOk s then pFr (txt s) else Fr.none
def decE (s : ByteArray) : Int := if decOk s then 0 else 5
def canOk (s : ByteArray) : Bool := decide (64 ≤ s.size) && ((cFr (txt s)).ok && decide ((cFr (txt s)).enc = s))

theorem txt_enc (f : Fr) (h : f.ok = true) : txt f.enc = f.body := by
  unfold txt
  rw [f.enc_size h, f.enc_ok h, sealB_data, S_data'', Nat.add_sub_cancel]
  exact List.take_left' rfl
theorem dec_enc (f : Fr) (h : f.ok = true) : decOk f.enc = true ∧ pFr (txt f.enc) = f.want := by
  obtain ⟨r1, r2, _⟩ := f.read h
  have hl := f.body_le h
  have hs := f.enc_size h
  have e := txt_enc f h
  refine ⟨?_, by rw [e, r1]⟩
  unfold decOk
  rw [e, r1, r2, f.want_ok h, f.want_enc h]
  simp
  omega
theorem decF_enc (f : Fr) (h : f.ok = true) : decF f.enc = f.want := by
  unfold decF; rw [if_pos (dec_enc f h).1, (dec_enc f h).2]
theorem decE_enc (f : Fr) (h : f.ok = true) : decE f.enc = 0 := by
  unfold decE; rw [if_pos (dec_enc f h).1]
theorem decOk_iff (s : ByteArray) : decOk s = true ↔ (64 ≤ s.size ∧ s.size ≤ 1522) ∧ pBad (txt s) = false ∧ (pFr (txt s)).ok = true ∧ (pFr (txt s)).enc = s := by
  unfold decOk
  simp
theorem canOk_iff (s : ByteArray) : canOk s = true ↔ 64 ≤ s.size ∧ (cFr (txt s)).ok = true ∧ (cFr (txt s)).enc = s := by
  unfold canOk
  simp
/-- A string is decoded where it is the encoding of some valid frame. -/
theorem decOk_some (s : ByteArray) : decOk s = true ↔ ∃ f : Fr, f.ok = true ∧ f.enc = s := by
  constructor
  · intro h
    obtain ⟨_, _, h1, h2⟩ := (decOk_iff s).1 h
    exact ⟨_, h1, h2⟩
  · rintro ⟨f, h, rfl⟩
    exact (dec_enc f h).1
theorem canOk_some (s : ByteArray) : canOk s = true ↔ ∃ f : Fr, f.ok = true ∧ f.enc = s := by
  constructor
  · intro h
    obtain ⟨_, h1, h2⟩ := (canOk_iff s).1 h
    exact ⟨_, h1, h2⟩
  · rintro ⟨f, h, rfl⟩
    rw [canOk_iff, txt_enc f h, (f.read h).2.2, f.enc_size h]
    exact ⟨by have := (f.body_le h).1; omega, f.want_ok h, f.want_enc h⟩
theorem can_dec (s : ByteArray) : canOk s = decOk s := by
  rw [Bool.eq_iff_iff, canOk_some, decOk_some]
theorem canF_dec (s : ByteArray) (h : decOk s = true) : cFr (txt s) = pFr (txt s) := by
  obtain ⟨f, hf, rfl⟩ := (decOk_some s).1 h
  rw [txt_enc f hf, (f.read hf).2.2, (f.read hf).1]
theorem dec_good (s : ByteArray) (h : decOk s = true) : goodB 0 s = true := by
  obtain ⟨f, hf, rfl⟩ := (decOk_some s).1 h
  exact f.enc_good hf
theorem bad_dec (s : ByteArray) (h : goodB 0 s = false) : decF s = Fr.none ∧ decE s = 5 := by
  have : decOk s = false := by
    rcases e : decOk s with _ | _
    · rfl
    · rw [dec_good s e] at h; cases h
  unfold decF decE
  rw [this]
  exact ⟨rfl, rfl⟩
/-- The frame that is decoded has the longest Data. -/
theorem dec_long (s : ByteArray) (h : decOk s = true) (g : Fr) (hg : g.ok = true) (he : g.enc = s) : g.data.size ≤ (pFr (txt s)).data.size := by
  subst he
  rw [(dec_enc g hg).2, g.want_size]
  split <;> omega
end Go.Proofs.Ytccdhoboidneeaa
