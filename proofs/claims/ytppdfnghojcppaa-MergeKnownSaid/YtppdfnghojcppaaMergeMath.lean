/-
  Chapter 8 in plain Lean: states, pieces, joining, cutting, drafts.
-/
import Derived.Test.YtppdfnghojcppaaCrcDmg
import Derived.Test.YtppdfnghojcppaaCrcKnown
namespace Go.Proofs.Ytppdfnghojcppaa
open Go.RowKit
set_option linter.unusedVariables false

/-- The state of the reassembly. -/
structure Mg where
  on : Bool
  number : Int
  next : Int
  data : ByteArray
deriving DecidableEq

/-- A piece. -/
structure Pc where
  start : Bool
  number : Int
  count : Int
  data : ByteArray
deriving DecidableEq

def Mg.zero : Mg := ⟨false, 0, 0, ⟨#[]⟩⟩
def Pc.zero : Pc := ⟨false, 0, 0, ⟨#[]⟩⟩

def cnt (n : Int) : Bool := decide (0 ≤ n ∧ n ≤ 3)
def lng (s : ByteArray) (a b : Int) : Bool := decide (a ≤ (s.size : Int) ∧ (s.size : Int) ≤ b)
def Mg.ok (m : Mg) : Bool := if m.on then cnt m.number && cnt m.next && lng m.data 60 1518 else decide (m = Mg.zero)
def Pc.ok (p : Pc) : Bool := cnt p.number && cnt p.count && lng p.data 64 1522 && !(p.start && decide (p.count ≠ 0))
def takes (m : Mg) (p : Pc) : Bool := p.start || (m.on && decide (m.number = p.number) && decide (m.next = p.count))
def withD (m : Mg) (p : Pc) : ByteArray := if p.start then p.data else m.data ++ p.data
def nextD (m : Mg) (p : Pc) : Int := if p.start then 0 else (m.next + 1) % 4
def cutTail (s : ByteArray) : ByteArray := s.extract 0 (s.size - 4)

/-- What Join returns. -/
def join (m : Mg) (p : Pc) : Mg × ByteArray × Int :=
  if m.ok = false then (Mg.zero, ⟨#[]⟩, 182)
  else if p.ok = false then (Mg.zero, ⟨#[]⟩, 181)
  else if takes m p = false then (Mg.zero, ⟨#[]⟩, 0)
  else if 1522 < (withD m p).size then (Mg.zero, ⟨#[]⟩, 0)
  else if goodB 0 (withD m p) = true then (Mg.zero, withD m p, 0)
  else if goodB Crcm.marking (withD m p) = true then (⟨true, p.number, nextD m p, cutTail (withD m p)⟩, ⟨#[]⟩, 0)
  else (Mg.zero, ⟨#[]⟩, 0)

theorem cnt_iff (n : Int) : cnt n = true ↔ 0 ≤ n ∧ n ≤ 3 := by unfold cnt; exact decide_eq_true_iff
theorem lng_iff (s : ByteArray) (a b : Int) : lng s a b = true ↔ a ≤ (s.size : Int) ∧ (s.size : Int) ≤ b := by unfold lng; exact decide_eq_true_iff

theorem zero_ok : Mg.zero.ok = true := by decide +kernel
theorem Mg.ok_on {m : Mg} (h : m.ok = true) (ho : m.on = true) : 0 ≤ m.number ∧ m.number ≤ 3 ∧ 0 ≤ m.next ∧ m.next ≤ 3 ∧ 60 ≤ m.data.size ∧ m.data.size ≤ 1518 := by
  unfold Mg.ok at h
  rw [if_pos ho, Bool.and_eq_true, Bool.and_eq_true, cnt_iff, cnt_iff, lng_iff] at h
  omega
theorem Mg.ok_off {m : Mg} (h : m.ok = true) (ho : m.on = false) : m = Mg.zero := by
  unfold Mg.ok at h
  rw [if_neg (by simp [ho])] at h
  exact of_decide_eq_true h
theorem Mg.ok_size {m : Mg} (h : m.ok = true) : m.data.size ≤ 1518 := by
  cases ho : m.on with
  | true => have := m.ok_on h ho; omega
  | false => rw [m.ok_off h ho]; decide
theorem Mg.ok_next {m : Mg} (h : m.ok = true) : 0 ≤ m.next ∧ m.next ≤ 3 := by
  cases ho : m.on with
  | true => have := m.ok_on h ho; omega
  | false => rw [m.ok_off h ho]; decide
theorem Mg.mk_ok {n x : Int} {d : ByteArray} (h1 : 0 ≤ n ∧ n ≤ 3) (h2 : 0 ≤ x ∧ x ≤ 3) (h3 : 60 ≤ d.size ∧ d.size ≤ 1518) : (⟨true, n, x, d⟩ : Mg).ok = true := by
  unfold Mg.ok
  rw [if_pos rfl, Bool.and_eq_true, Bool.and_eq_true, cnt_iff, cnt_iff, lng_iff]
  exact ⟨⟨h1, h2⟩, by show (60 : Int) ≤ (d.size : Int) ∧ (d.size : Int) ≤ 1518; omega⟩
theorem Pc.ok_iff (p : Pc) : p.ok = true ↔ (0 ≤ p.number ∧ p.number ≤ 3) ∧ (0 ≤ p.count ∧ p.count ≤ 3) ∧ (64 ≤ p.data.size ∧ p.data.size ≤ 1522) ∧ (p.start = true → p.count = 0) := by
  unfold Pc.ok
  rw [Bool.and_eq_true, Bool.and_eq_true, Bool.and_eq_true, cnt_iff, cnt_iff, lng_iff]
  have : (!(p.start && decide (p.count ≠ 0))) = true ↔ (p.start = true → p.count = 0) := by
    cases p.start <;> simp
  rw [this]
  constructor
  · rintro ⟨⟨⟨a, b⟩, c⟩, d⟩; exact ⟨a, b, by omega, d⟩
  · rintro ⟨a, b, c, d⟩; exact ⟨⟨⟨a, b⟩, by omega⟩, d⟩
theorem nextD_range {m : Mg} {p : Pc} (h : m.ok = true) : 0 ≤ nextD m p ∧ nextD m p ≤ 3 := by
  unfold nextD
  split <;> omega
theorem cutTail_size (s : ByteArray) : (cutTail s).size = s.size - 4 := by unfold cutTail; rw [ByteArray.size_extract]; omega

/-- The cases of joining. -/
theorem join_bad {m : Mg} {p : Pc} (h : m.ok = false) : join m p = (Mg.zero, ⟨#[]⟩, 182) := by unfold join; rw [if_pos h]
theorem join_piece {m : Mg} {p : Pc} (h : m.ok = true) (h2 : p.ok = false) : join m p = (Mg.zero, ⟨#[]⟩, 181) := by unfold join; rw [if_neg (by simp [h]), if_pos h2]
theorem join_off {m : Mg} {p : Pc} (h : m.ok = true) (h2 : p.ok = true) (h3 : takes m p = false) : join m p = (Mg.zero, ⟨#[]⟩, 0) := by
  unfold join; rw [if_neg (by simp [h]), if_neg (by simp [h2]), if_pos h3]
theorem join_long {m : Mg} {p : Pc} (h : m.ok = true) (h2 : p.ok = true) (h3 : takes m p = true) (h4 : 1522 < (withD m p).size) : join m p = (Mg.zero, ⟨#[]⟩, 0) := by
  unfold join; rw [if_neg (by simp [h]), if_neg (by simp [h2]), if_neg (by simp [h3]), if_pos h4]
theorem join_good {m : Mg} {p : Pc} (h : m.ok = true) (h2 : p.ok = true) (h3 : takes m p = true) (h4 : (withD m p).size ≤ 1522) (h5 : goodB 0 (withD m p) = true) : join m p = (Mg.zero, withD m p, 0) := by
  unfold join; rw [if_neg (by simp [h]), if_neg (by simp [h2]), if_neg (by simp [h3]), if_neg (by omega), if_pos h5]
theorem join_marked {m : Mg} {p : Pc} (h : m.ok = true) (h2 : p.ok = true) (h3 : takes m p = true) (h4 : (withD m p).size ≤ 1522) (h5 : goodB 0 (withD m p) = false) (h6 : goodB Crcm.marking (withD m p) = true) :
    join m p = (⟨true, p.number, nextD m p, cutTail (withD m p)⟩, ⟨#[]⟩, 0) := by
  unfold join; rw [if_neg (by simp [h]), if_neg (by simp [h2]), if_neg (by simp [h3]), if_neg (by omega), if_neg (by simp [h5]), if_pos h6]
theorem join_none {m : Mg} {p : Pc} (h : m.ok = true) (h2 : p.ok = true) (h3 : takes m p = true) (h4 : (withD m p).size ≤ 1522) (h5 : goodB 0 (withD m p) = false) (h6 : goodB Crcm.marking (withD m p) = false) :
    join m p = (Mg.zero, ⟨#[]⟩, 0) := by
  unfold join; rw [if_neg (by simp [h]), if_neg (by simp [h2]), if_neg (by simp [h3]), if_neg (by omega), if_neg (by simp [h5]), if_neg (by simp [h6])]

theorem withD_size {m : Mg} {p : Pc} (h2 : p.ok = true) : 64 ≤ (withD m p).size := by
  have := (Pc.ok_iff p).1 h2
  unfold withD
  split
  · omega
  · rw [ByteArray.size_append]; omega
/-- The state behind a joining is valid. -/
theorem join_ok (m : Mg) (p : Pc) : (join m p).1.ok = true := by
  cases h : m.ok with
  | false => rw [join_bad h]; exact zero_ok
  | true =>
  cases h2 : p.ok with
  | false => rw [join_piece h h2]; exact zero_ok
  | true =>
  cases h3 : takes m p with
  | false => rw [join_off h h2 h3]; exact zero_ok
  | true =>
  by_cases h4 : (withD m p).size ≤ 1522
  · cases h5 : goodB 0 (withD m p) with
    | true => rw [join_good h h2 h3 h4 h5]; exact zero_ok
    | false =>
    cases h6 : goodB Crcm.marking (withD m p) with
    | false => rw [join_none h h2 h3 h4 h5 h6]; exact zero_ok
    | true =>
      rw [join_marked h h2 h3 h4 h5 h6]
      have hs := withD_size (m := m) h2
      have hp := (Pc.ok_iff p).1 h2
      exact Mg.mk_ok hp.1 (nextD_range h) (by rw [cutTail_size]; omega)
  · rw [join_long h h2 h3 (by omega)]; exact zero_ok

/-- Whole frames, cuts. -/
def whole (s : ByteArray) : Bool := lng s 64 1522 && goodB 0 s
def cutsOk (n : Nat) : Int → List Int → Bool
  | _, [] => true
  | last, c :: cs => decide (c ≤ (n : Int) - 64 ∧ last + 60 ≤ c) && cutsOk n c cs
def lastAt (cuts : List Int) (i : Nat) : Int := if i = 0 then 0 else cuts.getD (i - 1) 0
def pieceAt (s : ByteArray) (n : Int) (cuts : List Int) (i : Nat) : Pc :=
  ⟨decide (i = 0), n, if i = 0 then 0 else ((i : Int) - 1) % 4,
   if i < cuts.length then (sealB Crcm.marking (s.extract 0 (cuts.getD i 0).toNat)).extract (lastAt cuts i).toNat ((cuts.getD i 0).toNat + 4) else s.extract (lastAt cuts i).toNat s.size⟩
def pieces (s : ByteArray) (n : Int) (cuts : List Int) : List Pc := (List.range (cuts.length + 1)).map (pieceAt s n cuts)
def cutE (s : ByteArray) (n : Int) (cuts : List Int) : Int := if whole s = false then 5 else if cnt n = false then 2 else if cutsOk s.size 0 cuts = false then 180 else 0
def cutL (s : ByteArray) (n : Int) (cuts : List Int) : List Pc := if cutE s n cuts = 0 then pieces s n cuts else []

theorem lastAt_zero (cuts : List Int) : lastAt cuts 0 = 0 := rfl
theorem lastAt_succ (cuts : List Int) (i : Nat) : lastAt cuts (i + 1) = cuts.getD i 0 := rfl
theorem cutsOk_at {n : Nat} : ∀ {cuts : List Int} {last : Int}, cutsOk n last cuts = true → ∀ i, i < cuts.length →
    cuts.getD i 0 ≤ (n : Int) - 64 ∧ (if i = 0 then last else cuts.getD (i - 1) 0) + 60 ≤ cuts.getD i 0
  | [], _, _, i, h => by cases h
  | c :: cs, last, hok, i, h => by
    rw [cutsOk, Bool.and_eq_true, decide_eq_true_iff] at hok
    cases i with
    | zero => exact hok.1
    | succ i =>
      have ih := cutsOk_at hok.2 i (by simpa using h)
      rw [if_neg (by omega)]
      cases i with
      | zero => exact ih
      | succ i => exact ih
theorem cuts_at {n : Nat} {cuts : List Int} (h : cutsOk n 0 cuts = true) {i : Nat} (hi : i < cuts.length) : cuts.getD i 0 ≤ (n : Int) - 64 ∧ lastAt cuts i + 60 ≤ cuts.getD i 0 := cutsOk_at h i hi
theorem last_at {n : Nat} (hn : 64 ≤ n) {cuts : List Int} (h : cutsOk n 0 cuts = true) : ∀ {i : Nat}, i ≤ cuts.length → 0 ≤ lastAt cuts i ∧ lastAt cuts i ≤ (n : Int) - 64
  | 0, _ => by rw [lastAt_zero]; omega
  | i + 1, hi => by
    have := last_at hn h (i := i) (by omega)
    have := cuts_at h (i := i) (by omega)
    rw [lastAt_succ]; omega
theorem cutsOk_snoc {n : Nat} : ∀ {cuts : List Int} {last c : Int}, cutsOk n last cuts = true → c ≤ (n : Int) - 64 → cuts.getLastD last + 60 ≤ c → cutsOk n last (cuts ++ [c]) = true
  | [], _, c, _, h1, h2 => by simp [cutsOk, h1]; simpa using h2
  | x :: xs, last, c, h, h1, h2 => by
    rw [cutsOk, Bool.and_eq_true] at h
    rw [List.cons_append, cutsOk, Bool.and_eq_true]
    exact ⟨h.1, cutsOk_snoc h.2 h1 (by rwa [List.getLastD_cons] at h2)⟩
theorem pieces_length (s : ByteArray) (n : Int) (cuts : List Int) : (pieces s n cuts).length = cuts.length + 1 := by simp [pieces]
theorem pieces_at (s : ByteArray) (n : Int) (cuts : List Int) (i : Nat) (h : i < cuts.length + 1) : (pieces s n cuts)[i]? = some (pieceAt s n cuts i) := by simp [pieces, h]

/-- Drafts. -/
structure Dr8 where
  data : ByteArray
  long : Nat
  number : Nat
  cuts : List Nat

def dblTo : Nat → Nat → ByteArray → ByteArray
  | 0, _, s => s
  | f + 1, n, s => if s.size < n then dblTo f n (s ++ s) else s
def Dr8.n (d : Dr8) : Nat := 60 + d.long % 1459
def Dr8.seed (d : Dr8) : ByteArray := d.data.extract 0 (min d.data.size 100) ++ ⟨#[45]⟩
def Dr8.body (d : Dr8) : ByteArray := (dblTo 11 d.n d.seed).extract 0 d.n
def Dr8.frame (d : Dr8) : ByteArray := sealB 0 d.body

theorem dblTo_stop (f n : Nat) (s : ByteArray) (h : n ≤ s.size) : dblTo f n s = s := by
  cases f with
  | zero => rfl
  | succ f => rw [dblTo, if_neg (by omega)]
theorem dblTo_size : ∀ (f n : Nat) (s : ByteArray), n ≤ 2 ^ f * s.size → n ≤ (dblTo f n s).size
  | 0, n, s, h => by rw [dblTo]; omega
  | f + 1, n, s, h => by
    rw [dblTo]
    split
    · exact dblTo_size f n _ (by rw [ByteArray.size_append]; rw [Nat.pow_succ] at h; rw [show s.size + s.size = 2 * s.size by omega, ← Nat.mul_assoc]; exact h)
    · omega
theorem Dr8.n_range (d : Dr8) : 60 ≤ d.n ∧ d.n ≤ 1518 := by unfold Dr8.n; omega
theorem Dr8.seed_size (d : Dr8) : 1 ≤ d.seed.size := by unfold Dr8.seed; rw [ByteArray.size_append]; show 1 ≤ _ + 1; omega
theorem Dr8.room (d : Dr8) : d.n ≤ 2 ^ 11 * d.seed.size := by have := d.n_range; have := d.seed_size; omega
theorem Dr8.body_size (d : Dr8) : d.body.size = d.n := by
  unfold Dr8.body
  rw [ByteArray.size_extract]
  have := dblTo_size _ _ _ d.room
  omega
theorem Dr8.frame_size (d : Dr8) : d.frame.size = d.n + 4 := by unfold Dr8.frame; rw [sealB_size, d.body_size]
theorem Dr8.frame_range (d : Dr8) : 64 ≤ d.frame.size ∧ d.frame.size ≤ 1522 := by have := d.frame_size; have := d.n_range; omega
theorem Dr8.frame_good (d : Dr8) : goodB 0 d.frame = true := goodB_sealB 0 _
theorem Dr8.frame_whole (d : Dr8) : whole d.frame = true := by
  unfold whole
  rw [Bool.and_eq_true, lng_iff]
  exact ⟨by have := d.frame_range; omega, d.frame_good⟩

/-- The cuts of a draft: those running sums that lie inside. -/
def offs (n : Nat) : Int → List Nat → List Int
  | _, [] => []
  | last, c :: cs => if last + 60 + c ≤ (n : Int) - 64 then (last + 60 + c) :: offs n (last + 60 + c) cs else offs n (last + 60 + c) cs
def Dr8.offsets (d : Dr8) (most : Nat) : List Int := offs d.frame.size 0 (d.cuts.take most)

theorem offs_ok (n : Nat) : ∀ (cs : List Nat) (last l0 : Int), l0 ≤ last → cutsOk n l0 (offs n last cs) = true
  | [], _, _, _ => rfl
  | c :: cs, last, l0, h => by
    rw [offs]
    split
    · rename_i h1
      rw [cutsOk, Bool.and_eq_true, decide_eq_true_iff]
      exact ⟨⟨h1, by omega⟩, offs_ok n cs _ _ (Int.le_refl _)⟩
    · exact offs_ok n cs _ _ (by omega)
theorem Dr8.offsets_ok (d : Dr8) (most : Nat) : cutsOk d.frame.size 0 (d.offsets most) = true := offs_ok _ _ _ _ (Int.le_refl _)
theorem offs_length (n : Nat) : ∀ (cs : List Nat) (last : Int), (offs n last cs).length ≤ cs.length
  | [], _ => Nat.le_refl _
  | c :: cs, last => by
    rw [offs]
    have := offs_length n cs (last + 60 + c)
    split <;> simp only [List.length_cons] <;> omega
theorem Dr8.offsets_length (d : Dr8) (most : Nat) : (d.offsets most).length ≤ most := by
  have := offs_length d.frame.size (d.cuts.take most) 0
  unfold Dr8.offsets
  rw [List.length_take] at this
  omega
def Dr8.pieces (d : Dr8) (most : Nat) : List Pc := Ytppdfnghojcppaa.pieces d.frame ((d.number : Int) % 4) (d.offsets most)
end Go.Proofs.Ytppdfnghojcppaa
