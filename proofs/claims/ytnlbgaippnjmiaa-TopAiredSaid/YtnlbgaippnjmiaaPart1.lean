/- Part 1 of the proof: joined from the texts Model, Truths, Plain, Min, Words, Region, Own, Kit, RefA, Blk, CloA, CloB, Iter. -/
import Derived.Below
import Derived.Laws.OwnMore
import Derived.Deep.AppendLies
import Derived.Deep.Draws
import Derived.Deep.QuietTactic
import Derived.StillTail
import Derived.Test.YtnlbgaippnjmiaaProg
import Derived.Maps.AppendAt
import Derived.OwnWalk
import Derived.WalkKit
import Derived.WalkLawsBesides
import Derived.Outline
import Derived.BigQuiet
import Derived.Deep.RegionHeld3
import Derived.Deep.DeepMust
import Derived.Deep.DeepFit
import Derived.Deep.LoopGhost
import Derived.Deep.DeepCutAuto
import Derived.RangeFuncNested
import Derived.RangeFuncBound
import Derived.RangeFuncCalls
import Derived.RangeFuncLeaves
import Derived.Shelf.Abstract
import Derived.Shelf.RegionOpen
import Derived.OwnWalkIn
import Derived.TacticsInMore
import Derived.LoopNIn
import Derived.LoopIn
set_option linter.unusedSimpArgs false
set_option linter.unusedVariables false
/- Plain model data of chapter 04 (closets), and the functions of the reference, as plain functions: no program in sight. -/
namespace Go.Proofs.Ytnlbgaippnjmiaa

structure Horse where
  lo : Int
  hi : Int
  wet : Int
  grace : Int
deriving DecidableEq, Inhabited

structure Look where
  horse : Int
  minute : Int
  dry : Bool
deriving DecidableEq, Inhabited

structure Clo where
  closets : Int
  close : Int
  horses : List Horse
  hung : List Int
  looks : List Look
deriving DecidableEq, Inhabited

/-- n is from lo to hi -/
def inB (n lo hi : Int) : Bool := decide (lo ≤ n) && decide (n ≤ hi)

def wr64 (n : Int) : Int := (n + 9223372036854775808) % 18446744073709551616 - 9223372036854775808

/-- the first index (counted from j) at which a list holds x; -1 if there is none -/
def atFrom : List Int → Int → Int → Int
  | [], _, _ => -1
  | y :: l, x, j => if y = x then j else atFrom l x (j + 1)

def wetAt (c : Clo) (k : Int) : Int := if 0 ≤ k then (c.horses.getD k.toNat default).wet else 0

/-- the dry minute of a horse, as the reference has it -/
def minuteR (c : Clo) (p d : List Int) (h : Nat) : Int :=
  d.getD h 0 + wetAt c (atFrom p (p.getD h 0 - 1) 0) + wetAt c (atFrom p (p.getD h 0 + 1) 0)

/-- are the numbers of a list, those of pre before them, from 0 to m, and no two equal -/
def plAux (m : Int) : List Int → List Int → Bool
  | _, [] => true
  | pre, x :: l => inB x 0 m && !(pre.contains x) && plAux m (pre ++ [x]) l

def isPlaceB (c : Clo) (p : List Int) : Bool := (p.length == c.horses.length) && plAux (wr64 (c.closets - 1)) [] p

def horseOk (h : Horse) : Bool := decide (1 ≤ h.lo) && decide (h.lo ≤ h.hi) && decide (h.hi ≤ 60) && inB h.wet 0 9 && inB h.grace 0 30
def lookOk (n : Nat) (l : Look) : Bool := inB l.horse 0 (n - 1) && inB l.minute 0 99

def sizeH (h : Horse) : Int := h.hi - h.lo + 1
def many (c : Clo) : Int := c.horses.foldl (fun n h => min 3000 (n * sizeH h)) 1

def fault (c : Clo) : Int :=
  if 4 < c.closets ∨ 4 < c.horses.length ∨ 5 < c.looks.length then 3
  else if c.closets < 1 ∨ inB c.close 0 99 = false ∨ isPlaceB c c.hung = false then 1
  else if c.horses.all horseOk = false then 1
  else if c.looks.all (lookOk c.horses.length) = false then 1
  else if 2000 < many c then 3 else 0

def nth : List Horse → Int → List Int
  | [], _ => []
  | h :: hs, n => (h.lo + n % sizeH h) :: nth hs (n / sizeH h)

def areNumbers : List Horse → List Int → Bool
  | [], [] => true
  | h :: hs, x :: l => inB x h.lo h.hi && areNumbers hs l
  | _, _ => false

def graceAt (c : Clo) (k : Nat) : Int := (c.horses.getD k default).grace

def isRight (c : Clo) (p d : List Int) (h : Nat) (m : Int) : Bool := inB m (minuteR c p d h) (minuteR c p d h + graceAt c h)

def okL (c : Clo) (d : List Int) (l : Look) : Bool := decide (minuteR c c.hung d l.horse.toNat ≤ l.minute) == l.dry

def bitsOf : List Bool → Nat
  | [] => 0
  | b :: l => b.toNat + 2 * bitsOf l

def rightBits (c : Clo) (d : List Int) : Nat := bitsOf (c.looks.map (okL c d))
def full (c : Clo) : Nat := 2 ^ c.looks.length - 1
def isTruth (c : Clo) (d : List Int) : Bool := areNumbers c.horses d && (rightBits c d == full c)
def allDry (c : Clo) : List (List Int) := (List.range (many c).toNat).map fun (n : Nat) => nth c.horses n
def truths (c : Clo) : List (List Int) := (allDry c).filter fun d => rightBits c d == full c
def allBits (c : Clo) : List Nat := (allDry c).map (rightBits c)
def can (all : List Nat) (looks : Nat) : Bool := all.any fun a => a &&& looks == looks

def wider (r : Int × Int) (n : Int) : Int × Int := (min r.1 n, max r.2 n)
def boundsR (c : Clo) (l : List (List Int)) (p : List Int) (h : Nat) : Int × Int := l.foldl (fun r d => wider r (minuteR c p d h)) (1099511627776, -1)

def verdict (c : Clo) (l : List (List Int)) (p : List Int) (h : Nat) (m : Int) : Int :=
  if l.countP (fun d => isRight c p d h m) = l.length then 1 else if l.countP (fun d => isRight c p d h m) = 0 then 2 else 3

def goodStep (c : Clo) (l : List (List Int)) (p : List Int) (h : Nat) (r : Int × Int) (n : Nat) : Int × Int :=
  if verdict c l p h n = 1 then (if r.2 < r.1 then n else r.1, n) else r
def goodR (c : Clo) (l : List (List Int)) (p : List Int) (h : Nat) : Int × Int := (List.range (c.close + 1).toNat).foldl (goodStep c l p h) (1, 0)

def noGood (c : Clo) (l : List (List Int)) (p : List Int) (h : Nat) : Bool := decide ((goodR c l p h).2 < (goodR c l p h).1)
def stuckR (c : Clo) (l : List (List Int)) (p : List Int) : Int :=
  match (List.range c.horses.length).find? (noGood c l p) with
  | some i => i
  | none => -1
def doneR (c : Clo) (l : List (List Int)) (p : List Int) : Int := (List.range c.horses.length).foldl (fun n i => max n (goodR c l p i).1) 0

/-- the list of closets with a number: the last digit first -/
def placeAux (m : Int) : Nat → Int → List Int → List Int
  | 0, _, acc => acc
  | k + 1, n, acc => placeAux m k (n / m) (n % m :: acc)
def placeN (c : Clo) (n : Int) : List Int := placeAux c.closets c.horses.length n []
def places (c : Clo) : Int := c.closets ^ c.horses.length

def bestStep (c : Clo) (l : List (List Int)) (b : Option (List Int × Int)) (n : Nat) : Option (List Int × Int) :=
  if isPlaceB c (placeN c n) = false ∨ 0 ≤ stuckR c l (placeN c n) then b
  else match b with
    | none => some (placeN c n, doneR c l (placeN c n))
    | some q => if doneR c l (placeN c n) < q.2 then some (placeN c n, doneR c l (placeN c n)) else b
def bestR (c : Clo) (l : List (List Int)) : Option (List Int × Int) := (List.range (places c).toNat).foldl (bestStep c l) none

def leaves (c : Clo) (l : List (List Int)) (h : Nat) (m : Int) : Int :=
  max (l.countP (fun d => decide (minuteR c c.hung d h ≤ m)) : Int) ((l.length : Int) - (l.countP (fun d => decide (minuteR c c.hung d h ≤ m)) : Int))

def askStep (f : Nat → Nat → Int) (h : Nat) (r : Int × Int × Int) (m : Nat) : Int × Int × Int := if f h m < r.2.2 then (h, m, f h m) else r
def askAll (f : Nat → Nat → Int) (n : Nat) (r : Int × Int × Int) : Int × Int × Int :=
  (List.range n).foldl (fun r h => (List.range 100).foldl (askStep f h) r) r
def askR (c : Clo) (l : List (List Int)) : Int × Int × Int := askAll (fun h m => leaves c l h m) c.horses.length (0, 0, 1099511627776)

def bitList : Nat → Nat → Nat → List Int
  | 0, _, _ => []
  | k + 1, bits, p => if bits % 2 = 1 then (p : Int) :: bitList k (bits / 2) (p + 1) else bitList k (bits / 2) (p + 1)
def bitsR (bits : Nat) : List Int := bitList bits bits 0

def before : List Int → List Int → Bool
  | a :: l, b :: m => if a = b then before l m else decide (a < b)
  | [], _ :: _ => true
  | _, [] => false
def shorter (a b : List Int) : Bool := decide (a.length < b.length) || (a.length == b.length && before a b)

def firstR (c : Clo) (all : List Nat) : Int :=
  match (List.range c.looks.length).find? (fun n => !can all (2 ^ (n + 1) - 1)) with
  | some n => n
  | none => -1
def leaveStep (c : Clo) (all : List Nat) (best : List Int) (bits : Nat) : List Int :=
  if shorter (bitsR bits) best && can all (full c - bits) then bitsR bits else best
def leaveR (c : Clo) (all : List Nat) : List Int := (List.range (full c + 1)).foldl (leaveStep c all) (bitsR (full c))

/-! ### what is so of valid closets -/
structure OkH (c : Clo) : Prop where
  len : c.horses.length ≤ 4
  cl1 : 1 ≤ c.closets
  cl4 : c.closets ≤ 4
  horse : ∀ h ∈ c.horses, 1 ≤ h.lo ∧ h.lo ≤ h.hi ∧ h.hi ≤ 60 ∧ 0 ≤ h.wet ∧ h.wet ≤ 9 ∧ 0 ≤ h.grace ∧ h.grace ≤ 30

structure IsPl (c : Clo) (p : List Int) : Prop where
  len : p.length = c.horses.length
  mem : ∀ x ∈ p, 0 ≤ x ∧ x < c.closets
  nodup : p.Nodup

structure IsDry (c : Clo) (d : List Int) : Prop where
  len : d.length = c.horses.length
  mem : ∀ (i : Nat) (h : Horse) (x : Int), c.horses[i]? = some h → d[i]? = some x → h.lo ≤ x ∧ x ≤ h.hi

structure OkC (c : Clo) : Prop extends OkH c where
  hung : IsPl c c.hung
  looks : ∀ l ∈ c.looks, 0 ≤ l.horse ∧ l.horse < c.horses.length ∧ 0 ≤ l.minute ∧ l.minute ≤ 99
  nlooks : c.looks.length ≤ 5
  close : 0 ≤ c.close ∧ c.close ≤ 99

theorem IsPl.bound {c : Clo} {p : List Int} (h : IsPl c p) (ok : OkH c) : ∀ x ∈ p, -1000000 ≤ x ∧ x ≤ 1000000 := fun x hx => by
  have := h.mem x hx; have := ok.cl4; omega
theorem IsDry.bound {c : Clo} {d : List Int} (h : IsDry c d) (ok : OkH c) : ∀ x ∈ d, -1000000 ≤ x ∧ x ≤ 1000000 := fun x hx => by
  obtain ⟨i, hi⟩ := List.getElem?_of_mem hx
  have hl : i < c.horses.length := by have := (List.getElem?_eq_some_iff.1 hi).1; have := h.len; omega
  have h1 := h.mem i _ x (List.getElem?_eq_getElem hl) hi
  have h2 := ok.horse _ (List.getElem_mem hl)
  omega

theorem bitsOf_snoc (l : List Bool) (b : Bool) : bitsOf (l ++ [b]) = bitsOf l + 2 ^ l.length * b.toNat := by
  induction l with
  | nil => simp [bitsOf]
  | cons x l ih => simp only [List.cons_append, bitsOf, ih, List.length_cons, Nat.pow_succ]; rw [Nat.mul_add]; simp only [Nat.mul_comm, Nat.mul_left_comm, Nat.mul_assoc]; omega
theorem bitsOf_lt (l : List Bool) : bitsOf l < 2 ^ l.length := by
  induction l with
  | nil => simp [bitsOf]
  | cons x l ih => simp only [bitsOf, List.length_cons, Nat.pow_succ]; have := Bool.toNat_le x; omega
theorem or_pow (a k : Nat) (h : a < 2 ^ k) : a ||| 2 ^ k = a + 2 ^ k := by
  have := Nat.two_pow_add_eq_or_of_lt h 1
  simp only [Nat.mul_one] at this
  rw [Nat.or_comm, ← this, Nat.add_comm]

theorem atFrom_cons (y : Int) (l : List Int) (x j : Int) : atFrom (y :: l) x j = if y = x then j else atFrom l x (j + 1) := rfl
theorem atFrom_range (l : List Int) (x j : Int) : atFrom l x j = -1 ∨ (j ≤ atFrom l x j ∧ atFrom l x j < j + l.length) := by
  induction l generalizing j with
  | nil => simp [atFrom]
  | cons y l ih =>
    unfold atFrom
    split
    · right; simp only [List.length_cons]; omega
    · rcases ih (j + 1) with h | h
      · left; exact h
      · right; simp only [List.length_cons]; omega

theorem wetAt_range {c : Clo} (h : OkH c) (k : Int) (hk : k < c.horses.length) : 0 ≤ wetAt c k ∧ wetAt c k ≤ 9 := by
  unfold wetAt
  split
  · have hl : k.toNat < c.horses.length := by omega
    rw [List.getD_eq_getElem?_getD, List.getElem?_eq_getElem hl, Option.getD_some]
    have := h.horse _ (List.getElem_mem hl)
    omega
  · omega
theorem minuteR_range {c : Clo} (ok : OkH c) {p d : List Int} (hp : p.length ≤ c.horses.length) (hd : IsDry c d) (h : Nat) (hh : h < c.horses.length) : 1 ≤ minuteR c p d h ∧ minuteR c p d h ≤ 78 := by
  have r1 := atFrom_range p (p.getD h 0 - 1) 0
  have r2 := atFrom_range p (p.getD h 0 + 1) 0
  have w1 := wetAt_range ok (atFrom p (p.getD h 0 - 1) 0) (by omega)
  have w2 := wetAt_range ok (atFrom p (p.getD h 0 + 1) 0) (by omega)
  have hl : h < d.length := by have := hd.len; omega
  have e := hd.mem h _ _ (List.getElem?_eq_getElem hh) (List.getElem?_eq_getElem hl)
  have o := ok.horse _ (List.getElem_mem hh)
  unfold minuteR
  rw [List.getD_eq_getElem?_getD (l := d), List.getElem?_eq_getElem hl, Option.getD_some]
  omega
theorem areNumbers_iff : ∀ (l : List Horse) (d : List Int), areNumbers l d = true ↔ d.length = l.length ∧ ∀ (i : Nat) (h : Horse) (x : Int), l[i]? = some h → d[i]? = some x → h.lo ≤ x ∧ x ≤ h.hi
  | [], [] => by simp [areNumbers]
  | [], _ :: _ => by simp [areNumbers]
  | _ :: _, [] => by simp [areNumbers]
  | h :: l, x :: d => by
    simp only [areNumbers, Bool.and_eq_true, inB, decide_eq_true_eq, areNumbers_iff l d, List.length_cons]
    constructor
    · rintro ⟨⟨h1, h2⟩, h3, h4⟩
      refine ⟨by omega, fun i k y => ?_⟩
      cases i with
      | zero => simp only [List.getElem?_cons_zero, Option.some.injEq]; rintro rfl rfl; exact ⟨h1, h2⟩
      | succ i => simp only [List.getElem?_cons_succ]; exact h4 i k y
    · rintro ⟨h3, h4⟩
      exact ⟨h4 0 h x rfl rfl, by omega, fun i k y hk hy => h4 (i + 1) k y hk hy⟩
theorem isDry_iff (c : Clo) (d : List Int) : areNumbers c.horses d = true ↔ IsDry c d :=
  (areNumbers_iff c.horses d).trans ⟨fun ⟨a, b⟩ => ⟨a, b⟩, fun ⟨a, b⟩ => ⟨a, b⟩⟩
theorem find_range_some {P : Nat → Bool} {n j : Nat} (hj : j < n) (h : P j = true) (hno : ∀ t, t < j → P t = false) : (List.range n).find? P = some j := by
  rw [List.find?_range_eq_some]
  exact ⟨h, by simpa using hj, fun t ht => by simp [hno t ht]⟩
theorem find_range_none {P : Nat → Bool} {n : Nat} (hno : ∀ t, t < n → P t = false) : (List.range n).find? P = none := by
  rw [List.find?_eq_none]
  intro x hx
  simp [hno x (by simpa using hx)]
theorem nth_dry : ∀ (l : List Horse) (n : Int), (∀ h ∈ l, 1 ≤ h.lo ∧ h.lo ≤ h.hi ∧ h.hi ≤ 60) → areNumbers l (nth l n) = true
  | [], _, _ => rfl
  | h :: l, n, ok => by
    have o := ok h List.mem_cons_self
    have h1 := Int.emod_nonneg n (b := sizeH h) (by unfold sizeH; omega)
    have h2 := Int.emod_lt_of_pos n (b := sizeH h) (by unfold sizeH; omega)
    simp only [nth, areNumbers, nth_dry l _ (fun x hx => ok x (List.mem_cons_of_mem _ hx)), Bool.and_true, inB, Bool.and_eq_true, decide_eq_true_eq]
    unfold sizeH at *
    omega
theorem nth_isDry {c : Clo} (ok : OkH c) (n : Int) : IsDry c (nth c.horses n) :=
  (isDry_iff c _).1 (nth_dry c.horses n fun h hh => by have := ok.horse h hh; omega)
theorem allDry_isDry {c : Clo} (ok : OkH c) : ∀ d ∈ allDry c, IsDry c d := by
  intro d hd
  obtain ⟨n, _, rfl⟩ := List.mem_map.1 hd
  exact nth_isDry ok n
theorem truths_isDry {c : Clo} (ok : OkH c) : ∀ d ∈ truths c, IsDry c d := fun d hd => allDry_isDry ok d (List.mem_filter.1 hd).1
theorem countP_take {α : Type} (p : α → Bool) (l : List α) (j : Nat) (x : α) (h : l[j]? = some x) : (l.take (j + 1)).countP p = (l.take j).countP p + (if p x then 1 else 0) := by
  rw [List.take_add_one, h, Option.toList_some, List.countP_append]
  simp [List.countP_cons]
theorem countP_take_le {α : Type} (p : α → Bool) (l : List α) (j : Nat) : (l.take j).countP p ≤ j := Nat.le_trans List.countP_le_length (List.length_take_le _ _)
end Go.Proofs.Ytnlbgaippnjmiaa

/- The program's enumeration of dry numbers, as plain lists. -/
namespace Go.Proofs.Ytnlbgaippnjmiaa
/-- all numbers of a range -/
def rangeL (lo hi : Int) : List Int := (List.range (hi - lo + 1).toNat).map fun (i : Nat) => lo + i
def dryAll : List Horse → List (List Int)
  | [] => [[]]
  | h :: hs => (rangeL h.lo h.hi).flatMap fun x => (dryAll hs).map (x :: ·)
/-- all ways to go on behind a beginning -/
def ext (hs : List Horse) (pfx : List Int) : List (List Int) := (dryAll hs).map (pfx ++ ·)
theorem ext_nil (pfx : List Int) : ext [] pfx = [pfx] := by simp [ext, dryAll]
def extTo (h : Horse) (hs : List Horse) (pfx : List Int) (k : Nat) : List (List Int) := (List.range k).flatMap fun (i : Nat) => ext hs (pfx ++ [h.lo + i])
theorem extTo_succ (h : Horse) (hs : List Horse) (pfx : List Int) (k : Nat) : extTo h hs pfx (k + 1) = extTo h hs pfx k ++ ext hs (pfx ++ [h.lo + k]) := by
  simp [extTo, List.range_succ, List.flatMap_append]
theorem ext_cons (h : Horse) (hs : List Horse) (pfx : List Int) : ext (h :: hs) pfx = extTo h hs pfx (h.hi - h.lo + 1).toNat := by
  simp only [ext, dryAll, rangeL, extTo, List.map_flatMap, List.flatMap_map, List.map_map]
  congr 1
  funext i
  congr 1
  funext t
  simp
theorem extTo_prefix (h : Horse) (hs : List Horse) (pfx : List Int) {k m : Nat} (hk : k ≤ m) : extTo h hs pfx k <+: extTo h hs pfx m := by
  induction m with
  | zero => have : k = 0 := by omega
            subst this; exact List.prefix_refl _
  | succ m ih =>
    rcases Nat.lt_or_ge k (m + 1) with hlt | hge
    · exact (ih (by omega)).trans (by rw [extTo_succ]; exact List.prefix_append _ _)
    · have : k = m + 1 := by omega
      subst this; exact List.prefix_refl _
end Go.Proofs.Ytnlbgaippnjmiaa

/- Plain facts: the error of closets, as the program comes to it. -/
namespace Go.Proofs.Ytnlbgaippnjmiaa
theorem fault_lim {c : Clo} (h : 4 < c.closets ∨ 4 < c.horses.length ∨ 5 < c.looks.length) : fault c = 3 := by unfold fault; rw [if_pos h]
theorem fault_one {c : Clo} (hl : ¬ (4 < c.closets ∨ 4 < c.horses.length ∨ 5 < c.looks.length))
    (h : c.closets < 1 ∨ inB c.close 0 99 = false ∨ c.horses.all horseOk = false ∨ isPlaceB c c.hung = false ∨ c.looks.all (lookOk c.horses.length) = false) : fault c = 1 := by
  unfold fault
  rw [if_neg hl]
  by_cases h1 : c.closets < 1 ∨ inB c.close 0 99 = false ∨ isPlaceB c c.hung = false
  · rw [if_pos h1]
  · rw [if_neg h1]
    by_cases h2 : c.horses.all horseOk = false
    · rw [if_pos h2]
    · rw [if_neg h2, if_pos]
      rcases h with h | h | h | h | h
      · exact absurd (Or.inl h) h1
      · exact absurd (Or.inr (Or.inl h)) h1
      · exact absurd h h2
      · exact absurd (Or.inr (Or.inr h)) h1
      · exact h
theorem fault_many {c : Clo} (hl : ¬ (4 < c.closets ∨ 4 < c.horses.length ∨ 5 < c.looks.length)) (h1 : ¬ c.closets < 1) (h2 : inB c.close 0 99 = true) (h3 : c.horses.all horseOk = true)
    (h4 : isPlaceB c c.hung = true) (h5 : c.looks.all (lookOk c.horses.length) = true) : fault c = if 2000 < many c then 3 else 0 := by
  unfold fault
  rw [if_neg hl, if_neg (by simp [h1, h2, h4]), if_neg (by simp [h3]), if_neg (by simp [h5])]
theorem fault_zero {c : Clo} (h : fault c = 0) : ¬ (4 < c.closets ∨ 4 < c.horses.length ∨ 5 < c.looks.length) ∧ ¬ c.closets < 1 ∧ inB c.close 0 99 = true ∧ c.horses.all horseOk = true ∧
    isPlaceB c c.hung = true ∧ c.looks.all (lookOk c.horses.length) = true ∧ many c ≤ 2000 := by
  have hl : ¬ (4 < c.closets ∨ 4 < c.horses.length ∨ 5 < c.looks.length) := fun k => by rw [fault_lim k] at h; omega
  have hn : ¬ (c.closets < 1 ∨ inB c.close 0 99 = false ∨ c.horses.all horseOk = false ∨ isPlaceB c c.hung = false ∨ c.looks.all (lookOk c.horses.length) = false) := fun k => by rw [fault_one hl k] at h; omega
  simp only [not_or, Bool.not_eq_false] at hn
  refine ⟨hl, hn.1, hn.2.1, hn.2.2.1, hn.2.2.2.1, hn.2.2.2.2, ?_⟩
  rw [fault_many hl hn.1 hn.2.1 hn.2.2.1 hn.2.2.2.1 hn.2.2.2.2] at h
  split at h <;> omega
theorem fault_cases (c : Clo) : fault c = 0 ∨ fault c = 1 ∨ fault c = 3 := by
  unfold fault
  split
  · simp
  · split
    · simp
    · split
      · simp
      · split
        · simp
        · split <;> simp

theorem plAux_spec (m : Int) : ∀ (l pre : List Int), pre.Nodup → (plAux m pre l = true ↔ (∀ x ∈ l, 0 ≤ x ∧ x ≤ m) ∧ (pre ++ l).Nodup)
  | [], pre, hp => by simp [plAux, hp]
  | x :: l, pre, hp => by
    simp only [plAux, Bool.and_eq_true, Bool.not_eq_true', inB, decide_eq_true_eq]
    by_cases hx : x ∈ pre
    · constructor
      · rintro ⟨⟨_, h⟩, _⟩
        rw [List.contains_iff_mem.2 hx] at h; cases h
      · rintro ⟨_, h⟩
        exact absurd rfl ((List.nodup_append.1 h).2.2 x hx x List.mem_cons_self)
    · have hp2 : (pre ++ [x]).Nodup := by
        rw [List.nodup_append]; exact ⟨hp, by simp, fun a ha b hb => by simp at hb; subst hb; intro e; exact hx (e ▸ ha)⟩
      have hc : pre.contains x = false := by rw [← Bool.not_eq_true, List.contains_iff_mem]; exact hx
      rw [plAux_spec m l (pre ++ [x]) hp2, List.append_assoc, List.singleton_append]
      constructor
      · rintro ⟨⟨⟨h1, h2⟩, _⟩, h3, h4⟩
        refine ⟨fun y hy => ?_, h4⟩
        rcases List.mem_cons.1 hy with e | hy'
        · rw [e]; exact ⟨h1, h2⟩
        · exact h3 y hy'
      · rintro ⟨h3, h4⟩
        exact ⟨⟨h3 x List.mem_cons_self, hc⟩, fun y hy => h3 y (List.mem_cons_of_mem _ hy), h4⟩
theorem isPlaceB_iff {c : Clo} (h1 : 1 ≤ c.closets) (h4 : c.closets ≤ 4) (p : List Int) : isPlaceB c p = true ↔ IsPl c p := by
  have hw : wr64 (c.closets - 1) = c.closets - 1 := by unfold wr64; omega
  unfold isPlaceB
  rw [Bool.and_eq_true, hw, plAux_spec _ p [] (by simp), List.nil_append]
  constructor
  · rintro ⟨a, b, d⟩
    exact ⟨by simpa using a, fun x hx => by have := b x hx; omega, d⟩
  · rintro ⟨a, b, d⟩
    exact ⟨by simpa using a, fun x hx => by have := b x hx; omega, d⟩
theorem okC_of_fault {c : Clo} (h : fault c = 0) : OkC c := by
  obtain ⟨h1, h2, h3, h4, h5, h6, h7⟩ := fault_zero h
  have okh : OkH c := ⟨by omega, by omega, by omega, fun x hx => by
    have := List.all_eq_true.1 h4 x hx
    simp [horseOk, inB] at this
    omega⟩
  refine ⟨okh, (isPlaceB_iff okh.cl1 okh.cl4 _).1 h5, fun l hl => ?_, by omega, ?_⟩
  · have := List.all_eq_true.1 h6 l hl
    simp [lookOk, inB] at this
    omega
  · simp [inB] at h3; omega

def prodTo (l : List Horse) : Int := l.foldl (fun n h => n * sizeH h) 1
theorem prod_aux {l : List Horse} (ok : ∀ h ∈ l, 1 ≤ sizeH h ∧ sizeH h ≤ 60) (a b : Int) (ha : 1 ≤ a) (hb : b = min 3000 a) :
    1 ≤ l.foldl (fun n h => n * sizeH h) a ∧ l.foldl (fun n h => min 3000 (n * sizeH h)) b = min 3000 (l.foldl (fun n h => n * sizeH h) a) := by
  induction l generalizing a b with
  | nil => exact ⟨ha, hb⟩
  | cons h l ih =>
    have o := ok h List.mem_cons_self
    have h1 : 1 * 1 ≤ a * sizeH h := Int.mul_le_mul (by omega) (by omega) (by omega) (by omega)
    refine ih (fun x hx => ok x (List.mem_cons_of_mem _ hx)) (a * sizeH h) (min 3000 (b * sizeH h)) (by omega) ?_
    subst hb
    rcases Int.le_total a 3000 with hle | hge
    · rw [Int.min_eq_right hle]
    · rw [Int.min_eq_left hge]
      have h2 : 3000 * 1 ≤ 3000 * sizeH h := Int.mul_le_mul (by omega) (by omega) (by omega) (by omega)
      have h3 : 3000 * 1 ≤ a * sizeH h := Int.mul_le_mul (by omega) (by omega) (by omega) (by omega)
      omega
theorem many_prod {c : Clo} (ok : ∀ h ∈ c.horses, 1 ≤ h.lo ∧ h.lo ≤ h.hi ∧ h.hi ≤ 60) : many c = min 3000 (prodTo c.horses) :=
  (prod_aux (l := c.horses) (fun h hh => by have := ok h hh; unfold sizeH; omega) 1 1 (by omega) (by omega)).2
theorem prodTo_range {l : List Horse} (ok : ∀ h ∈ l, 1 ≤ h.lo ∧ h.lo ≤ h.hi ∧ h.hi ≤ 60) : ∀ (n : Nat), l.length ≤ n → 1 ≤ prodTo l ∧ prodTo l ≤ 60 ^ n := by
  intro n hn
  have key : ∀ (l : List Horse) (a : Int) (k : Nat), (∀ h ∈ l, 1 ≤ sizeH h ∧ sizeH h ≤ 60) → 1 ≤ a → a ≤ 60 ^ k → 1 ≤ l.foldl (fun n h => n * sizeH h) a ∧ l.foldl (fun n h => n * sizeH h) a ≤ 60 ^ (k + l.length) := by
    intro l
    induction l with
    | nil => intro a k _ h1 h2; exact ⟨h1, h2⟩
    | cons h l ih =>
      intro a k ok h1 h2
      have o := ok h List.mem_cons_self
      have e1 : 1 * 1 ≤ a * sizeH h := Int.mul_le_mul (by omega) (by omega) (by omega) (by omega)
      have e2 : a * sizeH h ≤ 60 ^ k * 60 := Int.mul_le_mul h2 (by omega) (by omega) (Int.le_of_lt (Int.pow_pos (by omega)))
      have := ih (a * sizeH h) (k + 1) (fun x hx => ok x (List.mem_cons_of_mem _ hx)) (by omega) (by rw [Int.pow_succ]; exact e2)
      rw [List.length_cons, show k + (l.length + 1) = k + 1 + l.length by omega]
      exact this
  have := key l 1 0 (fun h hh => by have := ok h hh; unfold sizeH; omega) (by omega) (by simp)
  rw [Nat.zero_add] at this
  refine ⟨this.1, Int.le_trans this.2 ?_⟩
  have := Nat.pow_le_pow_right (n := 60) (by omega) hn
  have h2 : ((60 ^ l.length : Nat) : Int) ≤ ((60 ^ n : Nat) : Int) := Int.ofNat_le.2 this
  simpa using h2
end Go.Proofs.Ytnlbgaippnjmiaa

/- Plain facts: the dry minutes, as the program adds them. -/
namespace Go.Proofs.Ytnlbgaippnjmiaa
def wetK (c : Clo) (k : Nat) : Int := (c.horses.getD k default).wet
/-- are two horses of a placement in next closets -/
def hit (p : List Int) (i k : Nat) : Bool := decide (p.getD i 0 - p.getD k 0 = 1) || decide (p.getD i 0 - p.getD k 0 = -1)
def sumTo (c : Clo) (p : List Int) (i : Nat) : Nat → Int
  | 0 => 0
  | k + 1 => sumTo c p i k + if hit p i k then wetK c k else 0
/-- what the program's array holds after all before horse i, and k of those beside it -/
def mstAt (c : Clo) (p d : List Int) (i k h : Nat) : Int := d.getD h 0 + if h < i then sumTo c p h p.length else if h = i then sumTo c p i k else 0
def mst (c : Clo) (p d : List Int) (i k : Nat) : List Int := [mstAt c p d i k 0, mstAt c p d i k 1, mstAt c p d i k 2, mstAt c p d i k 3]
def minutesP (c : Clo) (p d : List Int) : List Int := mst c p d p.length 0

theorem mstAt_next (c : Clo) (p d : List Int) (i h : Nat) : mstAt c p d i p.length h = mstAt c p d (i + 1) 0 h := by
  unfold mstAt
  by_cases h1 : h < i
  · rw [if_pos h1, if_pos (by omega)]
  · by_cases h2 : h = i
    · subst h2; rw [if_neg (by omega), if_pos rfl, if_pos (by omega)]
    · rw [if_neg h1, if_neg h2, if_neg (by omega)]
      by_cases h3 : h = i + 1
      · rw [if_pos h3]; rfl
      · rw [if_neg h3]
theorem mst_next (c : Clo) (p d : List Int) (i : Nat) : mst c p d i p.length = mst c p d (i + 1) 0 := by
  simp only [mst, mstAt_next]
theorem mst_zero (c : Clo) (p : List Int) (d0 d1 d2 d3 : Int) : mst c p [d0, d1, d2, d3] 0 0 = [d0, d1, d2, d3] := by
  simp [mst, mstAt, sumTo]
theorem mst_get (c : Clo) (p d : List Int) (i k h : Nat) (hh : h < 4) : (mst c p d i k)[h]? = some (mstAt c p d i k h) := by
  have : h = 0 ∨ h = 1 ∨ h = 2 ∨ h = 3 := by omega
  rcases this with rfl | rfl | rfl | rfl <;> rfl
theorem mstAt_miss (c : Clo) (p d : List Int) (i k h : Nat) (hm : hit p i k = false) : mstAt c p d i (k + 1) h = mstAt c p d i k h := by
  simp [mstAt, sumTo, hm]
theorem mst_miss (c : Clo) (p d : List Int) (i k : Nat) (hm : hit p i k = false) : mst c p d i (k + 1) = mst c p d i k := by
  simp only [mst, mstAt_miss c p d i k _ hm]
theorem mstAt_other (c : Clo) (p d : List Int) (i k k' h : Nat) (hh : h ≠ i) : mstAt c p d i k h = mstAt c p d i k' h := by
  simp [mstAt, hh]
theorem mstAt_hit (c : Clo) (p d : List Int) (i k : Nat) (hm : hit p i k = true) : mstAt c p d i (k + 1) i = mstAt c p d i k i + wetK c k := by
  simp [mstAt, sumTo, hm]; omega
theorem mst_hit (c : Clo) (p d : List Int) (i k : Nat) (hi : i < 4) (hm : hit p i k = true) : mst c p d i (k + 1) = (mst c p d i k).set i (mstAt c p d i k i + wetK c k) := by
  have e := mstAt_hit c p d i k hm
  have o := fun h (hh : h ≠ i) => mstAt_other c p d i (k + 1) k h hh
  have : i = 0 ∨ i = 1 ∨ i = 2 ∨ i = 3 := by omega
  rcases this with rfl | rfl | rfl | rfl <;> simp only [mst, List.set_cons_zero, List.set_cons_succ, ← e] <;> simp [o]
theorem wetK_range {c : Clo} (ok : OkH c) {k : Nat} (hk : k < c.horses.length) : 0 ≤ wetK c k ∧ wetK c k ≤ 9 := by
  unfold wetK
  rw [List.getD_eq_getElem?_getD, List.getElem?_eq_getElem hk, Option.getD_some]
  have := ok.horse _ (List.getElem_mem hk)
  omega
theorem sumTo_range {c : Clo} (ok : OkH c) (p : List Int) (i k : Nat) (hk : k ≤ c.horses.length) : 0 ≤ sumTo c p i k ∧ sumTo c p i k ≤ 9 * k := by
  induction k with
  | zero => simp [sumTo]
  | succ k ih =>
    have := ih (by omega)
    have := wetK_range ok (k := k) (by omega)
    simp only [sumTo]
    split <;> omega
theorem mstAt_range {c : Clo} (ok : OkH c) (p d : List Int) (i k h : Nat) (hp : p.length ≤ c.horses.length) (hk : k ≤ c.horses.length) (hd : ∀ x ∈ d, 0 ≤ x ∧ x ≤ 1000) : 0 ≤ mstAt c p d i k h ∧ mstAt c p d i k h ≤ 2000 := by
  have h4 := ok.len
  have s1 := sumTo_range ok p h p.length hp
  have s2 := sumTo_range ok p i k hk
  have hdh : 0 ≤ d.getD h 0 ∧ d.getD h 0 ≤ 1000 := by
    rw [List.getD_eq_getElem?_getD]
    rcases Nat.lt_or_ge h d.length with hl | hl
    · rw [List.getElem?_eq_getElem hl]; exact hd _ (List.getElem_mem hl)
    · rw [List.getElem?_eq_none hl]; simp
  unfold mstAt
  split
  · omega
  · split <;> omega

/-! ### it is the reference's -/
theorem atFrom_none {l : List Int} {x : Int} (h : x ∉ l) (j : Int) : atFrom l x j = -1 := by
  induction l generalizing j with
  | nil => rfl
  | cons y l ih =>
    simp only [List.mem_cons, not_or] at h
    rw [atFrom_cons, if_neg (fun e => h.1 e.symm), ih h.2]
theorem atFrom_some {l : List Int} {x : Int} {k : Nat} (hn : l.Nodup) (h : l[k]? = some x) (j : Int) : atFrom l x j = j + k := by
  induction l generalizing j k with
  | nil => simp at h
  | cons y l ih =>
    rw [atFrom_cons]
    rw [List.nodup_cons] at hn
    cases k with
    | zero => simp at h; rw [if_pos h]; simp
    | succ k =>
      simp only [List.getElem?_cons_succ] at h
      have hne : y ≠ x := fun e => hn.1 (e ▸ List.mem_of_getElem? h)
      rw [if_neg hne, ih hn.2 h]
      omega
/-- the wet of the horse with a number, if it is among the first k -/
def wetIf (c : Clo) (p : List Int) (x : Int) : Nat → Int
  | 0 => 0
  | k + 1 => wetIf c p x k + if p.getD k 0 = x then wetK c k else 0
theorem wetIf_none (c : Clo) (p : List Int) (x : Int) (k : Nat) (h : ∀ j, j < k → p.getD j 0 ≠ x) : wetIf c p x k = 0 := by
  induction k with
  | zero => rfl
  | succ k ih => rw [wetIf, ih (fun j hj => h j (by omega)), if_neg (h k (by omega))]; rfl
theorem wetIf_some (c : Clo) (p : List Int) (x : Int) (k m : Nat) (hm : m < k) (hx : p.getD m 0 = x) (h : ∀ j, j < k → j ≠ m → p.getD j 0 ≠ x) : wetIf c p x k = wetK c m := by
  induction k with
  | zero => omega
  | succ k ih =>
    rw [wetIf]
    by_cases e : m = k
    · subst e
      rw [wetIf_none c p x m (fun j hj => h j (by omega) (by omega)), if_pos hx]; omega
    · rw [ih (by omega) (fun j hj => h j (by omega)), if_neg (h k (by omega) (fun e2 => e e2.symm))]; omega
theorem wetIf_at {c : Clo} {p : List Int} (hn : p.Nodup) (x : Int) : wetIf c p x p.length = wetAt c (atFrom p x 0) := by
  by_cases hx : x ∈ p
  · obtain ⟨m, hm⟩ := List.getElem?_of_mem hx
    have hl := (List.getElem?_eq_some_iff.1 hm).1
    rw [atFrom_some hn hm]
    have e : wetAt c (0 + (m : Int)) = wetK c m := by
      unfold wetAt wetK; rw [if_pos (by omega)]; congr 3; omega
    rw [e]
    refine wetIf_some c p x p.length m hl (by rw [List.getD_eq_getElem?_getD, hm]; rfl) fun j hj hne => ?_
    rw [List.getD_eq_getElem?_getD, List.getElem?_eq_getElem hj, Option.getD_some]
    intro e2
    exact hne ((List.getElem_inj (h₀ := hj) (h₁ := hl) hn).1 (e2.trans ((List.getElem?_eq_some_iff.1 hm).2).symm))
  · rw [atFrom_none hx]
    have : wetAt c (-1) = 0 := rfl
    rw [this]
    refine wetIf_none c p x _ fun j hj e => hx ?_
    rw [List.getD_eq_getElem?_getD, List.getElem?_eq_getElem hj, Option.getD_some] at e
    rw [← e]; exact List.getElem_mem hj
theorem sumTo_wetIf (c : Clo) (p : List Int) (i k : Nat) : sumTo c p i k = wetIf c p (p.getD i 0 - 1) k + wetIf c p (p.getD i 0 + 1) k := by
  induction k with
  | zero => rfl
  | succ k ih =>
    have key : (if hit p i k = true then wetK c k else 0) = (if p.getD k 0 = p.getD i 0 - 1 then wetK c k else 0) + (if p.getD k 0 = p.getD i 0 + 1 then wetK c k else 0) := by
      by_cases h1 : p.getD k 0 = p.getD i 0 - 1
      · have hh : hit p i k = true := by simp only [hit, Bool.or_eq_true, decide_eq_true_eq]; omega
        rw [if_pos hh, if_pos h1, if_neg (by omega)]; omega
      · by_cases h2 : p.getD k 0 = p.getD i 0 + 1
        · have hh : hit p i k = true := by simp only [hit, Bool.or_eq_true, decide_eq_true_eq]; omega
          rw [if_pos hh, if_neg h1, if_pos h2]; omega
        · have hh : hit p i k = false := by simp only [hit, Bool.or_eq_false_iff, decide_eq_false_iff_not]; omega
          rw [hh, if_neg h1, if_neg h2]; simp
    simp only [sumTo, wetIf, ih, key]
    omega
theorem minutesP_get {c : Clo} {p d : List Int} (hp : IsPl c p) {h : Nat} (hh : h < c.horses.length) (h4 : h < 4) : (minutesP c p d)[h]? = some (minuteR c p d h) := by
  unfold minutesP
  rw [mst_get _ _ _ _ _ _ h4]
  unfold mstAt minuteR
  rw [if_pos (by rw [hp.len]; exact hh), sumTo_wetIf, wetIf_at hp.nodup, wetIf_at hp.nodup]
  congr 1
  omega
/-! ### looks, as the program checks them -/
def lookP (m : List Int) (l : Look) : Bool := l.dry == decide (m.getD l.horse.toNat 0 ≤ l.minute)
def lookF (c : Clo) (m out : List Int) (j : Nat) : Bool := out.contains (j : Int) || lookP m (c.looks.getD j default)
def rightP (c : Clo) (d out : List Int) : Bool := (List.range c.looks.length).all (lookF c (minutesP c c.hung d) out)
theorem range_all_succ (f : Nat → Bool) (j : Nat) : (List.range (j + 1)).all f = ((List.range j).all f && f j) := by
  rw [List.range_succ, List.all_append]; simp
theorem range_all_false {f : Nat → Bool} {j n : Nat} (hj : j < n) (h : f j = false) : (List.range n).all f = false := by
  rw [← Bool.not_eq_true, List.all_eq_true]
  intro k
  rw [k j (by simpa using hj)] at h; cases h
end Go.Proofs.Ytnlbgaippnjmiaa

/- Words for memory: what a slice reads as, what lies in a range. -/
namespace Go.Proofs.Ytnlbgaippnjmiaa
open Go.RowKit

theorem hide {p : Prop} (h : p) : Hid p := h
theorem block_of_add (a : Addr) (n : Nat) : (a.add n).block = a.block := by unfold Addr.add; split <;> rfl
theorem add_of_add (a : Addr) (i j : Nat) : (a.add i).add j = a.add (i + j) := by
  unfold Addr.add
  by_cases hi : i = 0 <;> by_cases hj : j = 0 <;> simp [hi, hj, Nat.add_assoc]

/-- the slice value '.slice A n c' holds the cells xs ('size' cells an element), below block B -/
def Reads (w : World) (B size : Nat) (A : Option Addr) (n : Nat) (xs : List Value) : Prop :=
  xs.length = n * size ∧ (0 < n → ∃ ad, A = some ad ∧ ad.block < B ∧ ∀ j u, xs[j]? = some u → w.cell? (ad.add j) = some u)

section
variable {w w' : World} {B B' size n : Nat} {A : Option Addr} {xs : List Value}
theorem Reads.none_ : Reads w B size A 0 [] := ⟨by simp, fun h => absurd h (by omega)⟩
theorem Reads.keep (h : Reads w B size A n xs) (hk : ∀ p : Addr, p.block < B → w'.cell? p = w.cell? p) : Reads w' B size A n xs :=
  ⟨h.1, fun hn => by
    obtain ⟨ad, e, hb, hc⟩ := h.2 hn
    exact ⟨ad, e, hb, fun j u hu => (hk _ (by rw [block_of_add]; exact hb)).trans (hc j u hu)⟩⟩
theorem Reads.more (h : Reads w B size A n xs) (hB : B ≤ B') : Reads w B' size A n xs :=
  ⟨h.1, fun hn => by
    obtain ⟨ad, e, hb, hc⟩ := h.2 hn
    exact ⟨ad, e, by omega, hc⟩⟩
theorem Reads.below (h : Reads w B size A n xs) (hb : Below B w w') : Reads w' B size A n xs := h.keep fun _ hp => hb.cell hp
theorem Reads.drew (h : Reads w B size A n xs) : Reads w.drew B size A n xs := h
theorem Reads.drewN (h : Reads w B size A n xs) (k : Nat) : Reads (w.drewN k) B size A n xs := h
theorem Reads.alloc (h : Reads w B size A n xs) (hB : B ≤ w.heap.size) (o : Obj) : Reads (w.alloc o) B size A n xs := h.keep fun p hp => World.cell?_alloc_lt w o p (by omega)
theorem Reads.setCell (h : Reads w B size A n xs) {p : Addr} (hB : B ≤ p.block) (u : Value) : Reads (w.setCell p u) B size A n xs :=
  h.keep fun q hq => World.cell?_setCell_other w p q u (fun e => by subst e; omega)
theorem Reads.grown (h : Reads w B size A n xs) {row : Option Nat} (hg : w.grownBy w' row) (hB : B ≤ w.heap.size) (hr : ∀ g, row = some g → B ≤ g) : Reads w' B size A n xs :=
  h.keep fun p hp => World.cell?_of_block (hg.block p.block (by omega) (fun e => by have := hr _ e.symm; omega))
theorem Reads.of_own {base : Nat} {e : TypeId} {c : Nat} (h : w.ownsRow base e size (.slice A n c) n xs) : Reads w w.heap.size size A n xs := by
  refine ⟨h.1, fun hn => ?_⟩
  obtain ⟨g, cap, hv, _, hlt⟩ := h.form hn
  have hA : A = some ⟨g, 0, none⟩ := by injection hv
  subst hA
  exact ⟨_, rfl, hlt, h.cells (g := g) rfl⟩
theorem Reads.at_ {k : Nat} (h : Reads w B 1 A n xs) (hk : k < n) : ∃ ad u, A = some ad ∧ ad.block < B ∧ xs[k]? = some u ∧ w.cell? (ad.add k) = some u := by
  obtain ⟨ad, e, hb, hc⟩ := h.2 (by omega)
  have hl : k < xs.length := by have := h.1; omega
  exact ⟨ad, xs[k], e, hb, List.getElem?_eq_getElem hl, hc k _ (List.getElem?_eq_getElem hl)⟩
end

/-! ### lists of numbers, of horses, of looks, as cells -/
def i64 (n : Int) : Prop := -9223372036854775808 ≤ n ∧ n ≤ 9223372036854775807
def ints (l : List Int) : List Value := l.map (Value.int .i64)
def Horse.cells (h : Horse) : List Value := [.int .i64 h.lo, .int .i64 h.hi, .int .i64 h.wet, .int .i64 h.grace]
def horsesV (l : List Horse) : List Value := l.flatMap Horse.cells
def Look.cells (h : Look) : List Value := [.int .i64 h.horse, .int .i64 h.minute, .bool h.dry]
def looksV (l : List Look) : List Value := l.flatMap Look.cells

theorem ints_length (l : List Int) : (ints l).length = l.length := by simp [ints]
theorem horsesV_length (l : List Horse) : (horsesV l).length = l.length * 4 := by
  induction l with
  | nil => rfl
  | cons h l ih => simp only [horsesV, List.flatMap_cons, List.length_append] at ih ⊢; rw [ih]; simp [Horse.cells]; omega
theorem looksV_length (l : List Look) : (looksV l).length = l.length * 3 := by
  induction l with
  | nil => rfl
  | cons h l ih => simp only [looksV, List.flatMap_cons, List.length_append] at ih ⊢; rw [ih]; simp [Look.cells]; omega
theorem horsesV_get (l : List Horse) (k j : Nat) (x : Horse) (h : l[k]? = some x) (hj : j < 4) : (horsesV l)[k * 4 + j]? = x.cells[j]? := by
  induction l generalizing k with
  | nil => simp at h
  | cons y l ih =>
    cases k with
    | zero =>
      simp at h; subst h
      simp only [horsesV, List.flatMap_cons]
      rw [List.getElem?_append_left (by simp [Horse.cells]; omega)]; simp
    | succ k =>
      simp only [horsesV, List.flatMap_cons] at ih ⊢
      rw [List.getElem?_append_right (by simp [Horse.cells]; omega)]
      have : (k + 1) * 4 + j - y.cells.length = k * 4 + j := by simp [Horse.cells]; omega
      rw [this]
      exact ih k (by simpa using h)
theorem looksV_get (l : List Look) (k j : Nat) (x : Look) (h : l[k]? = some x) (hj : j < 3) : (looksV l)[k * 3 + j]? = x.cells[j]? := by
  induction l generalizing k with
  | nil => simp at h
  | cons y l ih =>
    cases k with
    | zero =>
      simp at h; subst h
      simp only [looksV, List.flatMap_cons]
      rw [List.getElem?_append_left (by simp [Look.cells]; omega)]; simp
    | succ k =>
      simp only [looksV, List.flatMap_cons] at ih ⊢
      rw [List.getElem?_append_right (by simp [Look.cells]; omega)]
      have : (k + 1) * 3 + j - y.cells.length = k * 3 + j := by simp [Look.cells]; omega
      rw [this]
      exact ih k (by simpa using h)

section
variable {w w' : World} {B B' size n : Nat} {A : Option Addr}
theorem Reads.nI {l : List Int} (h : Reads w B 1 A n (ints l)) : n = l.length := by have := h.1; rw [ints_length] at this; omega
theorem Reads.nH {l : List Horse} (h : Reads w B 4 A n (horsesV l)) : n = l.length := by have := h.1; rw [horsesV_length] at this; omega
theorem Reads.nL {l : List Look} (h : Reads w B 3 A n (looksV l)) : n = l.length := by have := h.1; rw [looksV_length] at this; omega
theorem Reads.int {l : List Int} (h : Reads w B 1 A n (ints l)) {k : Nat} (hk : k < n) :
    ∃ ad x, A = some ad ∧ ad.block < B ∧ l[k]? = some x ∧ w.cell? (ad.add k) = some (.int .i64 x) := by
  obtain ⟨ad, e, hb, hc⟩ := h.2 (by omega)
  have hl : k < l.length := by have := h.nI; omega
  exact ⟨ad, l[k], e, hb, List.getElem?_eq_getElem hl, hc k _ (by simp [ints, List.getElem?_eq_getElem hl])⟩
theorem Reads.horse {l : List Horse} (h : Reads w B 4 A n (horsesV l)) {k : Nat} (hk : k < n) :
    ∃ ad x, A = some ad ∧ ad.block < B ∧ l[k]? = some x ∧ w.cell? (ad.add (k * 4)) = some (.int .i64 x.lo) ∧ w.cell? (ad.add (k * 4 + 1)) = some (.int .i64 x.hi) ∧
      w.cell? (ad.add (k * 4 + 2)) = some (.int .i64 x.wet) ∧ w.cell? (ad.add (k * 4 + 3)) = some (.int .i64 x.grace) := by
  obtain ⟨ad, e, hb, hc⟩ := h.2 (by omega)
  have hl : k < l.length := by have := h.nH; omega
  have hx := List.getElem?_eq_getElem hl
  exact ⟨ad, l[k], e, hb, hx, hc (k * 4) _ (horsesV_get l k 0 _ hx (by omega)), hc _ _ (horsesV_get l k 1 _ hx (by omega)), hc _ _ (horsesV_get l k 2 _ hx (by omega)), hc _ _ (horsesV_get l k 3 _ hx (by omega))⟩
theorem Reads.look {l : List Look} (h : Reads w B 3 A n (looksV l)) {k : Nat} (hk : k < n) :
    ∃ ad x, A = some ad ∧ ad.block < B ∧ l[k]? = some x ∧ w.cell? (ad.add (k * 3)) = some (.int .i64 x.horse) ∧ w.cell? (ad.add (k * 3 + 1)) = some (.int .i64 x.minute) ∧
      w.cell? (ad.add (k * 3 + 2)) = some (.bool x.dry) := by
  obtain ⟨ad, e, hb, hc⟩ := h.2 (by omega)
  have hl : k < l.length := by have := h.nL; omega
  have hx := List.getElem?_eq_getElem hl
  exact ⟨ad, l[k], e, hb, hx, hc (k * 3) _ (looksV_get l k 0 _ hx (by omega)), hc _ _ (looksV_get l k 1 _ hx (by omega)), hc _ _ (looksV_get l k 2 _ hx (by omega))⟩
end
/-! ### later worlds: all that lay when the base world stood lies as it lay -/
def Later (w W : World) : Prop := Below w.heap.size w W
theorem later_refl (w : World) : Later w w := Below.refl _ _
theorem later_alloc {w W : World} (h : Later w W) (o : Obj) : Later w (W.alloc o) := Below.alloc h h.size o
theorem later_drew {w W : World} (h : Later w W) : Later w W.drew := Below.drew h
theorem later_drewN {w W : World} (h : Later w W) (n : Nat) : Later w (W.drewN n) := ⟨h.os, h.tape, h.output, h.size, h.block⟩
theorem later_set {w W : World} (h : Later w W) (a : Addr) (hp : w.heap.size ≤ a.block) (u : Value) : Later w (W.setCell a u) := Below.setCell h hp u
theorem Later.trans {a b c : World} (h : Later a b) (k : Later b c) : Later a c := Below.trans h (Below.mono k h.size)
theorem Later.grown {a b c : World} {row : Option Nat} (h : Later a b) (k : b.grownBy c row) (hr : ∀ g, row = some g → a.heap.size ≤ g) : Later a c := Below.grown h k h.size hr
theorem later_of_alloc {w W : World} {o : Obj} (h : Later (w.alloc o) W) : Later w W := Later.trans (later_alloc (later_refl w) o) h
theorem later_size {w W : World} (h : Later w W) : w.heap.size ≤ W.heap.size := h.size
theorem later_size_alloc {w W : World} {o : Obj} (h : Later (w.alloc o) W) : w.heap.size + 1 ≤ W.heap.size := by have := h.size; simpa using this
attribute [go_sem] later_refl later_alloc later_drew later_drewN later_set
attribute [simp] later_refl later_alloc later_drew later_drewN later_set

theorem box_cells (w : World) (cs : Array Value) (t : TypeId) (W : World) (h : Later (w.alloc (.cells cs t)) W) (i : Nat) : W.cell? ⟨w.heap.size, i, none⟩ = cs[i]? := by
  have := Below.cell h (p := ⟨w.heap.size, i, none⟩) (by simp)
  rw [this]
  exact cell_of_row _ _ i cs t (0, 0) (heap_alloc_new w _)

def RI (w : World) (A : Option Addr) (n : Nat) (l : List Int) : Prop := Reads w w.heap.size 1 A n (ints l)
def RH (w : World) (A : Option Addr) (n : Nat) (l : List Horse) : Prop := Reads w w.heap.size 4 A n (horsesV l)
def RL (w : World) (A : Option Addr) (n : Nat) (l : List Look) : Prop := Reads w w.heap.size 3 A n (looksV l)
section
variable {w W : World} {n : Nat} {A : Option Addr}
theorem Reads.later {size : Nat} {xs : List Value} (h : Reads w w.heap.size size A n xs) (k : Later w W) : Reads W W.heap.size size A n xs := (h.below k).more k.size
theorem RI.later {l : List Int} (h : RI w A n l) (k : Later w W) : RI W A n l := Reads.later h k
theorem RH.later {l : List Horse} (h : RH w A n l) (k : Later w W) : RH W A n l := Reads.later h k
theorem RL.later {l : List Look} (h : RL w A n l) (k : Later w W) : RL W A n l := Reads.later h k
theorem RI.nil : RI w A 0 [] := ⟨by simp [ints], fun h => absurd h (by omega)⟩
theorem RI.len {l : List Int} (h : RI w A n l) : n = l.length := Reads.nI h
theorem RH.len {l : List Horse} (h : RH w A n l) : n = l.length := Reads.nH h
theorem RL.len {l : List Look} (h : RL w A n l) : n = l.length := Reads.nL h
theorem cell_later {a : Addr} {v : Value} (h : w.cell? a = some v) (k : Later w W) (hb : a.block < w.heap.size) : W.cell? a = some v := (Below.cell k hb).trans h
theorem add_lit (b o j : Nat) : (⟨b, o, none⟩ : Addr).add j = ⟨b, o + j, none⟩ := by
  unfold Addr.add; split
  · subst_vars; rfl
  · rfl
theorem spot_none {ad : Addr} {j : Nat} {u : Value} (h : w.cell? ad = some u) : ad = ⟨ad.block, ad.off, none⟩ := by
  obtain ⟨b, o, s⟩ := ad
  cases s with
  | none => rfl
  | some x =>
    exfalso
    unfold World.cell? at h
    simp at h
    split at h <;> simp_all
theorem add_zero_ (ad : Addr) : ad.add 0 = ad := by unfold Addr.add; simp
theorem Reads.lit {B size : Nat} {xs : List Value} (h : Reads w B size A n xs) (hs : 0 < size) (hn : 0 < n) : ∃ b o, A = some ⟨b, o, none⟩ ∧ b < B ∧ ∀ j u, xs[j]? = some u → w.cell? ⟨b, o + j, none⟩ = some u := by
  obtain ⟨ad, e, hb, hc⟩ := h.2 hn
  have hl : 0 < xs.length := by rw [h.1]; exact Nat.mul_pos hn hs
  have h0 := hc 0 _ (List.getElem?_eq_getElem hl)
  rw [add_zero_] at h0
  have e2 := spot_none (j := 0) h0
  refine ⟨ad.block, ad.off, by rw [e, ← e2], hb, fun j u hu => ?_⟩
  have := hc j u hu
  rw [e2, add_lit] at this
  exact this
theorem RI.get {l : List Int} (h : RI w A n l) {k : Nat} (hk : k < n) :
    ∃ b o x, A = some ⟨b, o, none⟩ ∧ b < w.heap.size ∧ l[k]? = some x ∧ ∀ W, Later w W → W.cell? ⟨b, o + k, none⟩ = some (.int .i64 x) := by
  obtain ⟨b, o, e, hb, hc⟩ := Reads.lit h (by omega) (by omega)
  have hl : k < l.length := by have := h.len; omega
  exact ⟨b, o, l[k], e, hb, List.getElem?_eq_getElem hl, fun W k => cell_later (hc _ _ (by simp [ints, List.getElem?_eq_getElem hl])) k hb⟩
theorem RH.get {l : List Horse} (h : RH w A n l) {k : Nat} (hk : k < n) :
    ∃ b o x, A = some ⟨b, o, none⟩ ∧ b < w.heap.size ∧ l[k]? = some x ∧ (∀ W, Later w W → W.cell? ⟨b, o + k * 4, none⟩ = some (.int .i64 x.lo)) ∧ (∀ W, Later w W → W.cell? ⟨b, o + k * 4 + 1, none⟩ = some (.int .i64 x.hi)) ∧
      (∀ W, Later w W → W.cell? ⟨b, o + k * 4 + 2, none⟩ = some (.int .i64 x.wet)) ∧ ∀ W, Later w W → W.cell? ⟨b, o + k * 4 + 3, none⟩ = some (.int .i64 x.grace) := by
  obtain ⟨b, o, e, hb, hc⟩ := Reads.lit h (by omega) (by omega)
  have hl : k < l.length := by have := h.len; omega
  have hx := List.getElem?_eq_getElem hl
  exact ⟨b, o, l[k], e, hb, hx, fun W k' => cell_later (hc _ _ (horsesV_get l k 0 _ hx (by omega))) k' hb, fun W k' => cell_later (hc _ _ (horsesV_get l k 1 _ hx (by omega))) k' hb,
    fun W k' => cell_later (hc _ _ (horsesV_get l k 2 _ hx (by omega))) k' hb, fun W k' => cell_later (hc _ _ (horsesV_get l k 3 _ hx (by omega))) k' hb⟩
theorem RL.get {l : List Look} (h : RL w A n l) {k : Nat} (hk : k < n) :
    ∃ b o x, A = some ⟨b, o, none⟩ ∧ b < w.heap.size ∧ l[k]? = some x ∧ (∀ W, Later w W → W.cell? ⟨b, o + k * 3, none⟩ = some (.int .i64 x.horse)) ∧ (∀ W, Later w W → W.cell? ⟨b, o + k * 3 + 1, none⟩ = some (.int .i64 x.minute)) ∧
      ∀ W, Later w W → W.cell? ⟨b, o + k * 3 + 2, none⟩ = some (.bool x.dry) := by
  obtain ⟨b, o, e, hb, hc⟩ := Reads.lit h (by omega) (by omega)
  have hl : k < l.length := by have := h.len; omega
  have hx := List.getElem?_eq_getElem hl
  exact ⟨b, o, l[k], e, hb, hx, fun W k' => cell_later (hc _ _ (looksV_get l k 0 _ hx (by omega))) k' hb, fun W k' => cell_later (hc _ _ (looksV_get l k 1 _ hx (by omega))) k' hb,
    fun W k' => cell_later (hc _ _ (looksV_get l k 2 _ hx (by omega))) k' hb⟩
theorem some_lit {b o b' o' : Nat} (h : (some (⟨b, o, none⟩ : Addr)) = some ⟨b', o', none⟩) : b = b' ∧ o = o' := by
  injection h with h; injection h with h1 h2; exact ⟨h1, h2⟩
theorem RI.at_ {b o : Nat} {l : List Int} (h : RI w (some ⟨b, o, none⟩) n l) {k : Nat} (hk : k < n) :
    ∃ x, l[k]? = some x ∧ ∀ W, Later w W → W.cell? ⟨b, o + k, none⟩ = some (.int .i64 x) := by
  obtain ⟨b', o', x, e, _, hx⟩ := h.get hk
  obtain ⟨rfl, rfl⟩ := some_lit e
  exact ⟨x, hx⟩
theorem RH.at_ {b o : Nat} {l : List Horse} (h : RH w (some ⟨b, o, none⟩) n l) {k : Nat} (hk : k < n) :
    ∃ x, l[k]? = some x ∧ (∀ W, Later w W → W.cell? ⟨b, o + k * 4, none⟩ = some (.int .i64 x.lo)) ∧ (∀ W, Later w W → W.cell? ⟨b, o + k * 4 + 1, none⟩ = some (.int .i64 x.hi)) ∧
      (∀ W, Later w W → W.cell? ⟨b, o + k * 4 + 2, none⟩ = some (.int .i64 x.wet)) ∧ ∀ W, Later w W → W.cell? ⟨b, o + k * 4 + 3, none⟩ = some (.int .i64 x.grace) := by
  obtain ⟨b', o', x, e, _, hx⟩ := h.get hk
  obtain ⟨rfl, rfl⟩ := some_lit e
  exact ⟨x, hx⟩
theorem RL.at_ {b o : Nat} {l : List Look} (h : RL w (some ⟨b, o, none⟩) n l) {k : Nat} (hk : k < n) :
    ∃ x, l[k]? = some x ∧ (∀ W, Later w W → W.cell? ⟨b, o + k * 3, none⟩ = some (.int .i64 x.horse)) ∧ (∀ W, Later w W → W.cell? ⟨b, o + k * 3 + 1, none⟩ = some (.int .i64 x.minute)) ∧
      ∀ W, Later w W → W.cell? ⟨b, o + k * 3 + 2, none⟩ = some (.bool x.dry) := by
  obtain ⟨b', o', x, e, _, hx⟩ := h.get hk
  obtain ⟨rfl, rfl⟩ := some_lit e
  exact ⟨x, hx⟩
end

/-- a slice of slices of numbers -/
def RRI (w : World) (A : Option Addr) (n : Nat) (ll : List (List Int)) : Prop :=
  ∃ vs : List Value, Reads w w.heap.size 1 A n vs ∧ vs.length = ll.length ∧ ∀ (i : Nat) (l : List Int), ll[i]? = some l → ∃ A' n' k', vs[i]? = some (Value.slice A' n' k') ∧ RI w A' n' l
theorem RRI.later {w W : World} {A : Option Addr} {n : Nat} {ll : List (List Int)} (h : RRI w A n ll) (k : Later w W) : RRI W A n ll := by
  obtain ⟨vs, h1, h2, h3⟩ := h
  exact ⟨vs, Reads.later h1 k, h2, fun i l hi => let ⟨A', n', k', e, hr⟩ := h3 i l hi; ⟨A', n', k', e, hr.later k⟩⟩
theorem RRI.len {w : World} {A : Option Addr} {n : Nat} {ll : List (List Int)} (h : RRI w A n ll) : n = ll.length := by
  obtain ⟨vs, h1, h2, h3⟩ := h
  have := h1.1; omega
theorem RRI.get {w : World} {A : Option Addr} {n : Nat} {ll : List (List Int)} (h : RRI w A n ll) {k : Nat} (hk : k < n) :
    ∃ b o l A' n' k', A = some ⟨b, o, none⟩ ∧ ll[k]? = some l ∧ RI w A' n' l ∧ ∀ W, Later w W → W.cell? ⟨b, o + k, none⟩ = some (.slice A' n' k') := by
  have hl := h.len
  obtain ⟨vs, h1, h2, h3⟩ := h
  obtain ⟨b, o, e, hb, hc⟩ := Reads.lit h1 (by omega) (by omega)
  have hkl : k < ll.length := by omega
  obtain ⟨A', n', k', hv, hr⟩ := h3 k _ (List.getElem?_eq_getElem hkl)
  exact ⟨b, o, ll[k], A', n', k', e, List.getElem?_eq_getElem hkl, hr, fun W hW => cell_later (hc _ _ hv) hW hb⟩
theorem RRI.at_ {w : World} {b o : Nat} {n : Nat} {ll : List (List Int)} (h : RRI w (some ⟨b, o, none⟩) n ll) {k : Nat} (hk : k < n) :
    ∃ l A' n' k', ll[k]? = some l ∧ RI w A' n' l ∧ ∀ W, Later w W → W.cell? ⟨b, o + k, none⟩ = some (.slice A' n' k') := by
  obtain ⟨b', o', l, A', n', k', e, hx⟩ := h.get hk
  obtain ⟨rfl, rfl⟩ := some_lit e
  exact ⟨l, A', n', k', hx⟩

/-- a Closet value's three slices read as the model's lists -/
structure CV (w : World) (c : Clo) (A1 : Option Addr) (n1 : Nat) (A2 : Option Addr) (n2 : Nat) (A3 : Option Addr) (n3 : Nat) : Prop where
  hs : RH w A1 n1 c.horses
  hu : RI w A2 n2 c.hung
  lk : RL w A3 n3 c.looks
theorem CV.later {w W : World} {n1 n2 n3 : Nat} {A1 A2 A3 : Option Addr} {c : Clo} (h : CV w c A1 n1 A2 n2 A3 n3) (k : Later w W) : CV W c A1 n1 A2 n2 A3 n3 :=
  ⟨h.hs.later k, h.hu.later k, h.lk.later k⟩
theorem wr64_eq (n : Int) : wr64 n = wrap64 n := by unfold wr64 wrap64; rfl
theorem ret_int {k : IntKind} {a b : Int} (h : a = b) : Ending.returned (.int k a) = .returned (.int k b) := by rw [h]
theorem ret_bool {a b : Bool} (h : a = b) : Ending.returned (.bool a) = .returned (.bool b) := by rw [h]
end Go.Proofs.Ytnlbgaippnjmiaa

/- Regions that draw their order: reads and calls that only make memory, walked once, in the text's order; with a tail that waits for all of it. -/
namespace Go.Proofs.Ytnlbgaippnjmiaa
open Go Go.RowKit

/-- a world later than w0 -/
structure Ext (w0 : World) where
  W : World
  h : Later w0 W
instance (w0 : World) : Inhabited (Ext w0) := ⟨⟨w0, later_refl _⟩⟩
theorem Ext.later {w0 : World} (e : Ext w0) : Later w0 e.W := e.h
attribute [go_sem] Ext.later
attribute [simp] Ext.later

theorem calls_ext {P : Program} {f : FuncId} {args : Array Value} {w0 W : World} {v : Value} (hW : Later w0 W)
    (h : Calls P f args W fun e w' => e = .returned v ∧ Later W w') : Calls P f args W fun e w'' => e = .returned v ∧ ∃ x : Ext w0, w'' = x.W :=
  h.mono fun _ w' ⟨he, hl⟩ => ⟨he, ⟨w', Later.trans hW hl⟩, rfl⟩
theorem calls_ext_same {P : Program} {f : FuncId} {args : Array Value} {w0 W : World} {v : Value} (hW : Later w0 W)
    (h : Calls P f args W fun e w' => e = .returned v ∧ W = w') : Calls P f args W fun e w'' => e = .returned v ∧ ∃ x : Ext w0, w'' = x.W :=
  h.mono fun _ w' ⟨he, hl⟩ => ⟨he, ⟨w', hl ▸ hW⟩, rfl⟩

section
variable {P : Program} {ops : Array Oper} {md : Region.Mode} {C : World → Prop}
/-- the head's operations in whatever order; then L -/
def wpAnyLQ (P : Program) (md : Region.Mode) (ops : Array Oper) (C : World → Prop) (n : Nat) (L : Array Bool → Act → Prop) : Nat → Array Bool → Act → Prop
  | 0, listed, a => L listed a
  | f + 1, listed, a =>
    Region.ready md ops listed ≠ [] ∧ ∀ i ∈ Region.ready md ops listed, i < n ∧ qOp P ops C i (wpAnyLQ P md ops C n L f (listed.setIfInBounds i true)) a

theorem wpAny_of_headQ {n g : Nat} {L : Array Bool → Act → Prop} {Q' : Exit → Act → World → Prop} (hL : ∀ listed a w, C w → L listed a → wpAny P md ops Q' g listed a w) :
    ∀ (f : Nat) (listed : Array Bool) (a : Act) (w : World), C w → wpAnyLQ P md ops C n L f listed a → wpAny P md ops Q' (f + g) listed a w
  | 0, listed, a, w, hw, h => by rw [Nat.zero_add]; exact hL _ _ _ hw h
  | f + 1, listed, a, w, hw, h => by
    rw [show f + 1 + g = (f + g) + 1 by omega]
    exact ⟨fun h0 => absurd h0 h.1, fun i hi => wpOp_of_qOp hw (fun a' w' hw' h' => wpAny_of_headQ hL f _ a' w' hw' h') (h.2 i hi).2⟩

theorem wpAnyLQ_first {n i : Nat} {oi : Oper} {v : Value} {L : Array Bool → Act → Prop} (hi : ops[i]? = some oi) (hsel : ∀ (j : Nat) (o : Oper) cs b, ops[j]? = some o → o.op ≠ .select cs b)
    (hs : Region.sinkB md ops n = true) (hc : Region.chainB md ops n = true) (hn : n < ops.size) (hin : i < n)
    (hdone : ∀ listed a, L listed a → ∀ j ∈ Region.ready md ops listed, n ≤ j) :
    ∀ (f : Nat) (listed : Array Bool) (a : Act), HeadInv md ops n listed →
      (∀ j oj, ops[j]? = some oj → j ≠ i → listed.getD j true = false → (∀ e ∈ oj.after, Region.binds md e = true → e.on ≠ i) → oi.apart ops oj = true) →
      i ∈ Region.ready md ops listed → YieldsIn P ops C oi v a →
      wpAnyLQ P md ops C n L f (listed.setIfInBounds i true) (a.put oi.dst v) → wpAnyLQ P md ops C n L (f + 1) listed a := by
  intro f
  induction f with
  | zero =>
    intro listed a inv _ hr hy H
    have hun := (mem_ready.1 hr).1
    refine ⟨fun h => (by rw [h] at hr; cases hr), fun j hj => ?_⟩
    have hjn : j < n := by
      rcases Nat.lt_or_ge j n with h | h
      · exact h
      · exact absurd hj (tail_waits hs hc hn inv _ i rfl hin hun j h)
    refine ⟨hjn, ?_⟩
    by_cases hji : j = i
    · subst hji; exact hy.qOp hi H
    · have := hdone _ _ H j (ready_mono hj hji)
      omega
  | succ f ih =>
    intro listed a inv hfree hr hy H
    have hun := (mem_ready.1 hr).1
    refine ⟨fun h => (by rw [h] at hr; cases hr), fun j hj => ?_⟩
    have hjn : j < n := by
      rcases Nat.lt_or_ge j n with h | h
      · exact h
      · exact absurd hj (tail_waits hs hc hn inv _ i rfl hin hun j h)
    refine ⟨hjn, ?_⟩
    by_cases hji : j = i
    · subst hji; exact hy.qOp hi H
    · have h1 := (H.2 j (ready_mono hj hji)).2
      obtain ⟨hjun, oj, hoj, hall⟩ := mem_ready.1 hj
      have hnot : ∀ e ∈ oj.after, Region.binds md e = true → e.on ≠ i := fun e he hb heq => by
        have h1 := hall e he hb
        rw [heq, getD_both hun] at h1
        cases h1
      have h2 := qOp_put hoj (hfree j oj hoj hji hjun hnot) (fun cs b => hsel i oi cs b hi) (fun cs b => hsel j oj cs b hoj) hy h1
      have hfree' : ∀ k ok, ops[k]? = some ok → k ≠ i → (listed.setIfInBounds j true).getD k true = false →
          (∀ e ∈ ok.after, Region.binds md e = true → e.on ≠ i) → oi.apart ops ok = true := fun k ok hk hki hun hno => by
        refine hfree k ok hk hki ?_ hno
        by_cases hjk : j = k
        · subst hjk; exact hjun
        · rw [getD_set_ne true hjk] at hun; exact hun
      refine qOp_mono (fun a' h3 => ih (listed.setIfInBounds j true) a' (inv.set hj hjn) hfree' (ready_mono hr (Ne.symm hji)) h3.1 ?_) h2
      rw [Array.setIfInBounds_comm _ _ hji]
      exact h3.2

theorem wpAnyLQ_lex {n g : Nat} {Lq : Act → Prop} (hsel : Region.noSelect ops = true) (hs : Region.sinkB md ops n = true) (hc : Region.chainB md ops n = true) (hn : n < ops.size) :
    ∀ (l : List Oper) (k : Nat) (listed : Array Bool) (a : Act), (∀ j, j < l.length → l[j]? = ops[k + j]?) → k + l.length = n → HeadInv md ops n listed →
    Region.lexHead md ops g l.length k listed = true → wpQuiet P ops C Lq l a →
    wpAnyLQ P md ops C n (fun listed' a' => Region.seqB md ops g n listed' = true ∧ Lq a') l.length listed a
  | [], k, listed, a, _, hk, _, hB, h => by
    have : k = n := by simpa using hk
    subst this
    exact ⟨by simpa [Region.lexHead] using hB, h⟩
  | o :: l, k, listed, a, hl, hk, inv, hB, h => by
    have h0 : ops[k]? = some o := by simpa using (hl 0 (by simp)).symm
    simp only [List.length_cons, Region.lexHead, Bool.and_eq_true] at hB
    obtain ⟨⟨hr, hf⟩, hB'⟩ := hB
    have hkn : k < n := by simp only [List.length_cons] at hk; omega
    have hr' : k ∈ Region.ready md ops listed := by simpa using hr
    have hst : qOp P ops C k (wpQuiet P ops C Lq l) a := by unfold qOp; simp only [h0]; exact h
    obtain ⟨v, hy, hK⟩ := yieldsIn_of_qOp h0 hst
    exact wpAnyLQ_first h0 (Region.noSelect_spec hsel) hs hc hn hkn (fun listed' a' hL => seqB_ready hL.1) l.length listed a inv (Region.free_spec h0 hf) hr' hy
      (wpAnyLQ_lex hsel hs hc hn l (k + 1) _ _ (fun j hj => by have := hl (j + 1) (by simp; omega); simpa [Nat.add_assoc, Nat.add_comm 1 j] using this) (by simp only [List.length_cons] at hk; omega) (inv.set hr' hkn) hB' hK)

/-- the first n operations read, or call what only makes memory; each that follows waits for the one before it, and the first of these for all of the head -/
theorem wp_region_quiet_tail {id : Nat} {Q : Exit → Act → World → Prop} {a : Act} {w : World} {l : List Oper} (n : Nat) (hm : P.follows .mixedOrders = true) (hB : Region.lexTailB .any l.toArray n = true)
    (hC : C w.drew)
    (h : wpQuiet P l.toArray C (fun a' => ∀ w', C w' → wpList P l.toArray Q (l.drop n) a' w') (l.take n) a) : (Code.region id l.toArray true).wp P Q a w := by
  simp only [Region.lexTailB, Bool.and_eq_true, decide_eq_true_eq] at hB
  obtain ⟨⟨⟨⟨hsel, hn⟩, hs⟩, hc⟩, hlex⟩ := hB
  have hn' : n < l.length := by simpa using hn
  have htl : (l.take n).length = n := by simp; omega
  have hdl : (l.drop n).length = l.toArray.size - n := by simp
  have inv0 : HeadInv .any l.toArray n (Array.replicate l.toArray.size false) :=
    ⟨by simp, fun j oj _ hl => (by rw [getD_replicate_false] at hl; cases hl), fun t _ ht => getD_in (by simpa using ht) (getD_replicate_false _ _)⟩
  have H := wpAnyLQ_lex (md := .any) (g := l.toArray.size - n) hsel hs hc hn (l.take n) 0 _ a (fun j hj => by
    have hj' : j < n := by rw [htl] at hj; exact hj
    simp [hj']) (by simpa using htl) inv0 (by rw [htl]; exact hlex) h
  refine wp_region_any hm ?_
  have := wpAny_of_headQ (Q' := Q) (g := l.toArray.size - n) (fun listed a' w' hw' hL => by
    have := wpAny_of_seq (md := .any) (Q' := Q) (l.drop n) n listed a' w' (fun j => by simp [List.getElem?_drop]) (by rw [hdl]; exact hL.1) (hL.2 w' hw')
    rwa [hdl] at this) _ _ _ _ hC H
  rw [htl, show n + (l.toArray.size - n) = l.toArray.size by omega] at this
  exact this
end

theorem wp_region_ext {P : Program} {id : Nat} {Q : Exit → Act → World → Prop} {a : Act} {w w0 : World} {l : List Oper} (hm : P.follows .mixedOrders = true) (hB : Region.lexB .any l.toArray = true) (hL : Later w0 w)
    (h : wpQuiet P l.toArray (fun W => ∃ e : Ext w0, W = e.W) (fun a' => ∀ W, (∃ e : Ext w0, W = e.W) → Q .normal a' W) l a) : (Code.region id l.toArray true).wp P Q a w :=
  wp_region_quiet (C := fun W => ∃ e : Ext w0, W = e.W) hm hB ⟨⟨w.drew, later_drew hL⟩, rfl⟩ (by simpa using h)
theorem wp_region_ext_tail {P : Program} {id : Nat} {Q : Exit → Act → World → Prop} {a : Act} {w w0 : World} {l : List Oper} (n : Nat) (hm : P.follows .mixedOrders = true) (hB : Region.lexTailB .any l.toArray n = true) (hL : Later w0 w)
    (h : wpQuiet P l.toArray (fun W => ∃ e : Ext w0, W = e.W) (fun a' => ∀ W, (∃ e : Ext w0, W = e.W) → wpList P l.toArray Q (l.drop n) a' W) (l.take n) a) : (Code.region id l.toArray true).wp P Q a w :=
  wp_region_quiet_tail (C := fun W => ∃ e : Ext w0, W = e.W) n hm hB ⟨⟨w.drew, later_drew hL⟩, rfl⟩ h
end Go.Proofs.Ytnlbgaippnjmiaa

/- append of one element onto a row of the call's own. -/
namespace Go.Proofs.Ytnlbgaippnjmiaa
open Go Go.RowKit

/-- what an append of one element leaves -/
structure Appended (w0 W w' : World) (e : TypeId) (size : Nat) (v v' : Value) (n : Nat) (xs news : List Value) : Prop where
  own : w'.ownsRow w0.heap.size e size v' (n + 1) (xs ++ news)
  later : Later w0 w'
  keep : ∀ b, b < W.heap.size → v.ownBlock ≠ some b → w'.heap[b]? = W.heap[b]?
  size : W.heap.size < w'.heap.size
  at_ : v'.ownBlock = v.ownBlock ∨ ∃ g, v'.ownBlock = some g ∧ W.heap.size < g

theorem own_append_wp {P : Program} {o : Oper} {a : Act} {K : Act → World → Prop} {Q : Exit → Act → World → Prop} {w0 W : World} {te : TypeId} (s x : Operand) (t : TypeId)
    (ho : o.op = .call { callee := .builtin .append, args := #[s, x], argTypes := #[t, t] }) (e : TypeId) (z : Value) (size bytes : Nat)
    (ht : P.underlying t = some (.slice e)) (hinfo : (P.info? e).map (fun i => (i.zero, i.size, i.bytes)) = some (some z, size, bytes)) (hzs : z.cells.size = size) (hsz : 0 < size)
    (v : Value) (n : Nat) (xs : List Value) (hs : a.eval s = v) (hL : Later w0 W) (hown : W.ownsRow w0.heap.size e size v n xs)
    (news : List Value) (hx : a.eval x = .slice (some ⟨W.heap.size, 0, none⟩) 1 1) (hl : news.length = size) (h1 : ∀ u ∈ news, u.oneCell' = true)
    (hn : n ≤ 1000000) (hby : bytes ≤ 1000)
    (h : ∀ v' w', Appended w0 W w' e size v v' n xs news → K (a.put o.dst v') w') :
    o.wp P a (W.alloc (.cells news.toArray te)) K Q := by
  obtain ⟨i, hi, hz, h2, h3⟩ := info_parts hinfo
  obtain ⟨v', w', hr, k2, k3, k4, k5⟩ := run_append_own_at (P := P) (W.alloc (.cells news.toArray te)) w0.heap.size t o.type e i z size bytes ht hi hz h2 h3 hzs hsz v n xs (hown.alloc _) ⟨W.heap.size, 0, none⟩ 1 1 news (by omega)
    (by
      intro j u hj
      rw [add_lit]
      rw [cell_of_row _ _ _ _ te (0, 0) (heap_alloc_new W _)]
      simpa using hj) h1 (by unfold maxLen; omega)
    (by
      have : (n + 1) * bytes ≤ 1000001 * 1000 := Nat.mul_le_mul (by omega) hby
      omega)
    (by have := hL.size; simp; omega)
  unfold Oper.wp execOp
  simp only [ho, resolve, invoke, builtin, Sem.run_bind, Sem.run_pure, Result.andThen_ok, List.map_toArray, List.map_cons, List.map_nil, hs, hx, hr]
  refine h v' w' ⟨k2, Later.grown (later_alloc hL _) k3 fun g hg' => ((hown.alloc (.cells news.toArray te)).lt g hg').1, fun b hb hne => ?_, by have := k3.size; simp at this; omega, ?_⟩
  · rw [k3.block b (by simp; omega) (fun e => hne e.symm)]
    exact Below.heap_alloc W _ b hb
  · rcases k5 with k5 | k5
    · exact .inl k5
    · exact .inr ⟨_, k5, by simp⟩

theorem own_append {P : Program} {ops : Array Oper} {rest : List Oper} {o : Oper} {a : Act} {Q : Exit → Act → World → Prop} {w0 W : World} {te : TypeId} (hgd : o.guard = none) (s x : Operand) (t : TypeId)
    (ho : o.op = .call { callee := .builtin .append, args := #[s, x], argTypes := #[t, t] }) (e : TypeId) (z : Value) (size bytes : Nat)
    (ht : P.underlying t = some (.slice e)) (hinfo : (P.info? e).map (fun i => (i.zero, i.size, i.bytes)) = some (some z, size, bytes)) (hzs : z.cells.size = size) (hsz : 0 < size)
    (v : Value) (n : Nat) (xs : List Value) (hs : a.eval s = v) (hL : Later w0 W) (hown : W.ownsRow w0.heap.size e size v n xs)
    (news : List Value) (hx : a.eval x = .slice (some ⟨W.heap.size, 0, none⟩) 1 1) (hl : news.length = size) (h1 : ∀ u ∈ news, u.oneCell' = true)
    (hn : n ≤ 1000000) (hby : bytes ≤ 1000)
    (h : ∀ v' w', Appended w0 W w' e size v v' n xs news → wpList P ops Q rest (a.put o.dst v') w') :
    wpList P ops Q (o :: rest) a (W.alloc (.cells news.toArray te)) :=
  wpList_plain hgd fun _ hK => own_append_wp s x t ho e z size bytes ht hinfo hzs hsz v n xs hs hL hown news hx hl h1 hn hby fun v' w' q => hK _ _ (h v' w' q)

theorem own_append_step {P : Program} {ops : Array Oper} {o : Oper} {a : Act} {K : Act → World → Prop} {Q : Exit → Act → World → Prop} {E : Prop} {w0 W : World} {te : TypeId} (hgd : o.guard = none) (s x : Operand) (t : TypeId)
    (ho : o.op = .call { callee := .builtin .append, args := #[s, x], argTypes := #[t, t] }) (e : TypeId) (z : Value) (size bytes : Nat)
    (ht : P.underlying t = some (.slice e)) (hinfo : (P.info? e).map (fun i => (i.zero, i.size, i.bytes)) = some (some z, size, bytes)) (hzs : z.cells.size = size) (hsz : 0 < size)
    (v : Value) (n : Nat) (xs : List Value) (hs : a.eval s = v) (hL : Later w0 W) (hown : W.ownsRow w0.heap.size e size v n xs)
    (news : List Value) (hx : a.eval x = .slice (some ⟨W.heap.size, 0, none⟩) 1 1) (hl : news.length = size) (h1 : ∀ u ∈ news, u.oneCell' = true)
    (hn : n ≤ 1000000) (hby : bytes ≤ 1000)
    (h : ∀ v' w', Appended w0 W w' e size v v' n xs news → K (a.put o.dst v') w') :
    if Region.wanted o (yielded ops a.tmps) = true then Oper.wp P o a (W.alloc (.cells news.toArray te)) K Q else E := by
  rw [if_pos (by simp [Region.wanted, hgd])]
  exact own_append_wp s x t ho e z size bytes ht hinfo hzs hsz v n xs hs hL hown news hx hl h1 hn hby h

theorem Appended.cell {w0 W w' : World} {e : TypeId} {size n : Nat} {v v' : Value} {xs news : List Value} (h : Appended w0 W w' e size v v' n xs news) {b : Nat} (hb : b < W.heap.size) (hne : v.ownBlock ≠ some b) (i : Nat) :
    w'.cell? ⟨b, i, none⟩ = W.cell? ⟨b, i, none⟩ := World.cell?_of_block (h.keep b hb hne)
theorem Appended.ri {w0 W w' : World} {e : TypeId} {size n : Nat} {v v' : Value} {xs news : List Value} (h : Appended w0 W w' e size v v' n xs news) {A : Option Addr} {m : Nat} {l : List Int}
    (hr : RI W A m l) (hne : ∀ b o, A = some ⟨b, o, none⟩ → v.ownBlock ≠ some b) : RI w' A m l := by
  refine ⟨hr.1, fun hm => ?_⟩
  obtain ⟨b, o, rfl, hb, hc⟩ := Reads.lit hr (by omega) hm
  refine ⟨_, rfl, Nat.lt_trans hb h.size, fun j u hu => ?_⟩
  rw [add_lit, h.cell hb (hne b o rfl)]
  exact hc j u hu

theorem own_later {w0 W W' : World} {e : TypeId} {size : Nat} {v : Value} {n : Nat} {xs : List Value} (h : W.ownsRow w0.heap.size e size v n xs) (hL : Later W W') : W'.ownsRow w0.heap.size e size v n xs := by
  refine ⟨h.1, ?_⟩
  rcases h.2 with hn | ⟨g, cap, cur, rfl, hb, hgg, rest⟩
  · exact .inl hn
  · refine .inr ⟨g, cap, cur, rfl, hb, ?_, rest⟩
    rw [hL.block g (Array.getElem?_eq_some_iff.1 hgg).1]
    exact hgg
theorem own_slice {w0 W : World} {e : TypeId} {size : Nat} {v : Value} {n : Nat} {xs : List Value} (h : W.ownsRow w0.heap.size e size v n xs) :
    ∃ A c, v = .slice A n c ∧ Reads W W.heap.size size A n xs := by
  rcases h.2 with ⟨rfl, rfl⟩ | ⟨g, cap, cur, rfl, hb, hgg, rest⟩
  · exact ⟨none, 0, rfl, by rw [show xs = [] from List.eq_nil_of_length_eq_zero (by simpa using h.1)]; exact Reads.none_⟩
  · exact ⟨_, cap, rfl, Reads.of_own (c := cap) h⟩
/-- a slice in memory of W that did not lie at w -/
def Fresh (w W : World) (A : Option Addr) : Prop := ∀ b o, A = some ⟨b, o, none⟩ → w.heap.size ≤ b ∧ b < W.heap.size
theorem own_fresh {w0 W : World} {e : TypeId} {size n : Nat} {xs : List Value} {A : Option Addr} {c : Nat} (h : W.ownsRow w0.heap.size e size (.slice A n c) n xs) : Fresh w0 W A := fun b o hA => by
  subst hA
  exact h.lt b rfl
theorem Fresh.le {w w0 W : World} {A : Option Addr} (h : Fresh w0 W A) (hs : w.heap.size ≤ w0.heap.size) : Fresh w W A := fun b o hA => ⟨Nat.le_trans hs (h b o hA).1, (h b o hA).2⟩
theorem Fresh.later {w W W' : World} {A : Option Addr} (h : Fresh w W A) (hs : Later W W') : Fresh w W' A := fun b o hA => ⟨(h b o hA).1, Nat.lt_of_lt_of_le (h b o hA).2 hs.size⟩
theorem own_slice2 {w0 W : World} {e : TypeId} {size : Nat} {v : Value} {n : Nat} {xs : List Value} (h : W.ownsRow w0.heap.size e size v n xs) :
    ∃ A c, v = .slice A n c ∧ Reads W W.heap.size size A n xs ∧ Fresh w0 W A := by
  obtain ⟨A, c, rfl, hr⟩ := own_slice h
  exact ⟨A, c, rfl, hr, own_fresh h⟩
/-- a fresh slice lies apart from a row that was owned before -/
theorem Fresh.apart {w0 w W : World} {e : TypeId} {size n : Nat} {v : Value} {xs : List Value} {A : Option Addr} (h : Fresh w W A) (ho : w.ownsRow w0.heap.size e size v n xs) : ∀ b o, A = some ⟨b, o, none⟩ → b < W.heap.size ∧ v.ownBlock ≠ some b :=
  fun b o hA => ⟨(h b o hA).2, fun e2 => by have := (ho.lt b e2).2; have := (h b o hA).1; omega⟩
theorem int_info : (Try.prog.info? 3).map (fun i => (i.zero, i.size, i.bytes)) = some (some (.int .i64 0), 1, 8) := by kernel_rfl
end Go.Proofs.Ytnlbgaippnjmiaa

/- What the walks import. -/

/- The reference's small functions: walks. -/
namespace Go.Proofs.Ytnlbgaippnjmiaa
open Go Go.RowKit

theorem In_calls (n lo hi : Int) (w : World) :
    Calls Try.prog 14 #[.int .i64 n, .int .i64 lo, .int .i64 hi] w fun e w' => e = .returned (.bool (inB n lo hi)) ∧ w = w' := by
  go_enter Try.func14, Try.ntmps14
  by_cases h1 : lo ≤ n <;> by_cases h2 : n ≤ hi <;> go_wp2 <;> go_ret <;> exact ⟨by simp [inB, *], rfl⟩

end Go.Proofs.Ytnlbgaippnjmiaa

/- A block that is known whole. -/
namespace Go.Proofs.Ytnlbgaippnjmiaa
open Go Go.RowKit
def Blk (w : World) (g : Nat) (t : TypeId) (cs : Array Value) : Prop := w.heap[g]? = some (.cells cs t (0, 0))
section
variable {w w' : World} {g : Nat} {t : TypeId} {cs : Array Value}
theorem Blk.lt (h : Blk w g t cs) : g < w.heap.size := by
  rcases Nat.lt_or_ge g w.heap.size with hlt | hge
  · exact hlt
  · unfold Blk at h; rw [Array.getElem?_eq_none hge] at h; cases h
theorem Blk.cell (h : Blk w g t cs) (i : Nat) : w.cell? ⟨g, i, none⟩ = cs[i]? := cell_of_row w g i cs t (0, 0) h
theorem Blk.frozen (h : Blk w g t cs) (i : Nat) : w.frozen? ⟨g, i, none⟩ = false := by
  unfold Blk at h
  simp [World.frozen?, h]
theorem Blk.new (w : World) (t : TypeId) (cs : Array Value) : Blk (w.alloc (.cells cs t)) w.heap.size t cs := heap_alloc_new w _
theorem Blk.drew (h : Blk w g t cs) : Blk w.drew g t cs := h
theorem Blk.alloc (h : Blk w g t cs) (o : Obj) : Blk (w.alloc o) g t cs := (Below.heap_alloc w o g h.lt).trans h
theorem Blk.set_ (h : Blk w g t cs) (i : Nat) (u : Value) : Blk (w.setCell ⟨g, i, none⟩ u) g t (cs.setIfInBounds i u) := by
  unfold Blk at h ⊢
  simp [World.setCell, Array.getElem?_modify, h]
theorem Blk.far (h : Blk w g t cs) {p : Addr} (hp : g ≠ p.block) (u : Value) : Blk (w.setCell p u) g t cs := (Below.heap_setCell w p u g hp).trans h
theorem Blk.later (h : Blk w g t cs) (hb : Later w w') : Blk w' g t cs := (hb.block g h.lt).trans h
theorem Blk.cells_later (h : Blk w g t cs) : ∀ W, Later w W → ∀ i, W.cell? ⟨g, i, none⟩ = cs[i]? := fun W hW i => (h.later hW).cell i
theorem Blk.frozen_later (h : Blk w g t cs) : ∀ W, Later w W → ∀ i, W.frozen? ⟨g, i, none⟩ = false := fun W hW i => (h.later hW).frozen i
theorem later_drop {B : World} {W : World} {a : Addr} {u : Value} (h : Later B W) (hb : B.heap.size ≤ a.block) : Later B (W.setCell a u) := later_set h a hb u
end
end Go.Proofs.Ytnlbgaippnjmiaa

/- The program's small functions: walks. -/
namespace Go.Proofs.Ytnlbgaippnjmiaa
open Go Go.RowKit

theorem within_calls (n lo hi : Int) (w : World) :
    Calls Try.prog 44 #[.int .i64 n, .int .i64 lo, .int .i64 hi] w fun e w' => e = .returned (.bool (inB n lo hi)) ∧ w = w' := by
  go_enter Try.func44, Try.ntmps44
  by_cases h1 : lo ≤ n <;> by_cases h2 : n ≤ hi <;> go_wp2 <;> go_ret <;> exact ⟨by simp [inB, *], rfl⟩
theorem within_eq {n lo hi : Int} {b : Bool} (h : inB n lo hi = b) (w : World) :
    Calls Try.prog 44 #[.int .i64 n, .int .i64 lo, .int .i64 hi] w fun e w' => e = .returned (.bool b) ∧ w = w' := by
  have := within_calls n lo hi w; rw [h] at this; exact this
theorem minute_calls (n : Int) (w : World) : Calls Try.prog 54 #[.int .i64 n] w fun e w' => e = .returned (.bool (inB n 0 99)) ∧ w = w' := by
  go_enter Try.func54, Try.ntmps54
  go_wp2_with (go_at_call 44; refine (within_calls _ _ _ _).mono ?_; rintro e w' ⟨rfl, rfl⟩)
  go_ret
  exact ⟨rfl, rfl⟩
theorem minute_eq {n : Int} {b : Bool} (h : inB n 0 99 = b) (w : World) : Calls Try.prog 54 #[.int .i64 n] w fun e w' => e = .returned (.bool b) ∧ w = w' := by
  have := minute_calls n w; rw [h] at this; exact this
theorem none_eq {lo hi : Int} {b : Bool} (h : decide (hi < lo) = b) (w : World) : Calls Try.prog 29 #[.agg #[.int .i64 lo, .int .i64 hi]] w fun e w' => e = .returned (.bool b) ∧ Later w w' := by
  subst h
  go_enter Try.func29, Try.ntmps29
  go_wp2_with fail
  go_ret
  exact ⟨rfl, by simp⟩
theorem size_calls {h : Horse} (w : World) (b1 : -1000000 ≤ h.lo ∧ h.lo ≤ 1000000) (b2 : -1000000 ≤ h.hi ∧ h.hi ≤ 1000000) :
    Calls Try.prog 58 #[.agg #[.int .i64 h.lo, .int .i64 h.hi]] w fun e w' => e = .returned (.int .i64 (sizeH h)) ∧ Later w w' := by
  go_enter Try.func58, Try.ntmps58
  go_wp2_with fail
  go_ret
  exact ⟨rfl, by simp⟩
theorem horse_calls {A1 A2 A3 : Option Addr} {n1 k1 n2 k2 n3 k3 : Nat} {c : Clo} {n : Int} (w : World) (hn : n1 ≤ 1000000) : Calls Try.prog 27 #[(.agg #[.int .i64 c.closets, .int .i64 c.close, .slice A1 n1 k1, .slice A2 n2 k2, .slice A3 n3 k3]), .int .i64 n] w fun e w' => e = .returned (.bool (inB n 0 ((n1 : Int) - 1))) ∧ Later w w' := by
  have hw1 : IntKind.i64.wrap ((n1 : Int) - 1) = (n1 : Int) - 1 := IntWalk.i64_in _ (by omega)
  go_enter Try.func27, Try.ntmps27
  go_wp2_with (go_at_call 44; refine (within_calls _ _ _ _).mono ?_; rintro e w' ⟨rfl, rfl⟩)
  go_ret
  exact ⟨rfl, by simp⟩
theorem closet_calls {A1 A2 A3 : Option Addr} {n1 k1 n2 k2 n3 k3 : Nat} {c : Clo} {n : Int} (w : World) : Calls Try.prog 42 #[(.agg #[.int .i64 c.closets, .int .i64 c.close, .slice A1 n1 k1, .slice A2 n2 k2, .slice A3 n3 k3]), .int .i64 n] w fun e w' => e = .returned (.bool (inB n 0 (wrap64 (c.closets - 1)))) ∧ Later w w' := by
  go_enter Try.func42, Try.ntmps42
  go_wp2_with (go_at_call 44; refine (within_calls _ _ _ _).mono ?_; rintro e w' ⟨rfl, rfl⟩)
  go_ret
  exact ⟨rfl, by simp⟩
theorem look_calls {A1 A2 A3 : Option Addr} {n1 k1 n2 k2 n3 k3 : Nat} {c : Clo} (x : Look) (w : World) (hn : n1 ≤ 1000000) : Calls Try.prog 53 #[(.agg #[.int .i64 c.closets, .int .i64 c.close, .slice A1 n1 k1, .slice A2 n2 k2, .slice A3 n3 k3]), .agg #[.int .i64 x.horse, .int .i64 x.minute, .bool x.dry]] w fun e w' =>
    e = .returned (.bool (lookOk n1 x)) ∧ Later w w' := by
  cases h1 : inB x.horse 0 ((n1 : Int) - 1) with
  | true =>
    have Hf : Hid (lookOk n1 x = inB x.minute 0 99) := by show lookOk n1 x = _; unfold lookOk; rw [h1, Bool.true_and]
    go_enter Try.func53, Try.ntmps53
    go_wp2_with fail
    have hc := horse_calls (A1 := A1) (A2 := A2) (A3 := A3) (k1 := k1) (n2 := n2) (k2 := k2) (n3 := n3) (k3 := k3) (c := c) (n := x.horse) ((w.alloc (.cells #[.int .i64 c.closets, .int .i64 c.close, .slice A1 n1 k1, .slice A2 n2 k2, .slice A3 n3 k3] 45)).alloc (.cells #[.int .i64 x.horse, .int .i64 x.minute, .bool x.dry] 79)) hn
    rw [h1] at hc
    have hb := box_cells (w.alloc (.cells #[.int .i64 c.closets, .int .i64 c.close, .slice A1 n1 k1, .slice A2 n2 k2, .slice A3 n3 k3] 45)) #[.int .i64 x.horse, .int .i64 x.minute, .bool x.dry] 79
    simp only [World.size_alloc] at hb
    refine hc.mono ?_
    clear hc
    rintro e w1 ⟨rfl, hL1⟩
    have hb1 := hb w1 hL1 1
    simp only [List.getElem?_toArray, List.getElem?_cons_zero, List.getElem?_cons_succ] at hb1
    clear hb
    go_wp2_with (go_at_call 54; refine (minute_calls _ _).mono ?_; rintro e w' ⟨rfl, rfl⟩)
    go_ret
    exact ⟨by rw [Hf.out]; rfl, Later.trans (by simp) hL1⟩
  | false =>
    have Hf : Hid (lookOk n1 x = false) := by show lookOk n1 x = _; unfold lookOk; rw [h1, Bool.false_and]
    go_enter Try.func53, Try.ntmps53
    go_wp2_with fail
    have hc := horse_calls (A1 := A1) (A2 := A2) (A3 := A3) (k1 := k1) (n2 := n2) (k2 := k2) (n3 := n3) (k3 := k3) (c := c) (n := x.horse) ((w.alloc (.cells #[.int .i64 c.closets, .int .i64 c.close, .slice A1 n1 k1, .slice A2 n2 k2, .slice A3 n3 k3] 45)).alloc (.cells #[.int .i64 x.horse, .int .i64 x.minute, .bool x.dry] 79)) hn
    rw [h1] at hc
    refine hc.mono ?_
    clear hc
    rintro e w1 ⟨rfl, hL1⟩
    go_wp2_with fail
    go_ret
    exact ⟨by rw [Hf.out]; rfl, Later.trans (by simp) hL1⟩

theorem valid_calls (x : Horse) (w : World) : Calls Try.prog 56 #[.agg #[.int .i64 x.lo, .int .i64 x.hi, .int .i64 x.wet, .int .i64 x.grace]] w fun e w' =>
    e = .returned (.bool (horseOk x)) ∧ Later w w' := by
  obtain ⟨w0, hw0⟩ : ∃ W, W = w.alloc (.cells #[.int .i64 x.lo, .int .i64 x.hi, .int .i64 x.wet, .int .i64 x.grace] 66) := ⟨_, rfl⟩
  have hbox : ∀ W, Later w0 W → ∀ i, W.cell? ⟨w.heap.size, i, none⟩ = #[.int .i64 x.lo, .int .i64 x.hi, .int .i64 x.wet, .int .i64 x.grace][i]? := (by rw [hw0]; exact box_cells w _ _)
  have hL0 : Later w w0 := by rw [hw0]; simp
  have Hw0 := hide hw0
  clear hw0
  by_cases o1 : 1 ≤ x.lo
  · by_cases o2 : x.hi < x.lo
    · have Hf : Hid (horseOk x = false) := by show horseOk x = _; simp [horseOk]; omega
      have hd : decide (x.hi < x.lo) = true := by simpa using o2
      go_enter Try.func56, Try.ntmps56
      go_wp2_with fail
      rw [← Hw0.out]
      refine (none_eq hd _).mono ?_
      rintro e w1 ⟨rfl, hL1⟩
      go_wp2_with fail
      go_ret
      exact ⟨by rw [Hf.out]; rfl, Later.trans hL0 hL1⟩
    · have hd : decide (x.hi < x.lo) = false := by simpa using o2
      have o2' : x.lo ≤ x.hi := by omega
      clear o2
      by_cases o3 : x.hi ≤ 60
      · cases o4 : inB x.wet 0 9 with
        | true =>
          have Hf : Hid (horseOk x = inB x.grace 0 30) := by
            show horseOk x = _
            simp only [horseOk, o1, o2', o3, o4, decide_true, Bool.true_and]
          go_enter Try.func56, Try.ntmps56
          go_wp2_with fail
          rw [← Hw0.out]
          refine (none_eq hd _).mono ?_
          rintro e w1 ⟨rfl, hL1⟩
          go_wp2_with fail
          refine (within_eq o4 _).mono ?_
          rintro e w' ⟨rfl, rfl⟩
          go_wp2_with fail
          refine (within_calls _ _ _ _).mono ?_
          rintro e w' ⟨rfl, rfl⟩
          go_wp2_with fail
          go_ret
          exact ⟨by rw [Hf.out]; rfl, Later.trans hL0 hL1⟩
        | false =>
          have Hf : Hid (horseOk x = false) := by show horseOk x = _; simp [horseOk, o4]
          go_enter Try.func56, Try.ntmps56
          go_wp2_with fail
          rw [← Hw0.out]
          refine (none_eq hd _).mono ?_
          rintro e w1 ⟨rfl, hL1⟩
          go_wp2_with fail
          refine (within_eq o4 _).mono ?_
          rintro e w' ⟨rfl, rfl⟩
          go_wp2_with fail
          go_ret
          exact ⟨by rw [Hf.out]; rfl, Later.trans hL0 hL1⟩
      · have Hf : Hid (horseOk x = false) := by show horseOk x = _; simp [horseOk]; omega
        go_enter Try.func56, Try.ntmps56
        go_wp2_with fail
        rw [← Hw0.out]
        refine (none_eq hd _).mono ?_
        rintro e w1 ⟨rfl, hL1⟩
        go_wp2_with fail
        go_ret
        exact ⟨by rw [Hf.out]; rfl, Later.trans hL0 hL1⟩
  · have Hf : Hid (horseOk x = false) := by show horseOk x = _; simp [horseOk]; omega
    go_enter Try.func56, Try.ntmps56
    go_wp2_with fail
    rw [← Hw0.out]
    go_ret
    exact ⟨by rw [Hf.out]; rfl, hL0⟩
end Go.Proofs.Ytnlbgaippnjmiaa

/- The program's isPlace, minimum, wider, all: walks. -/
namespace Go.Proofs.Ytnlbgaippnjmiaa
open Go Go.RowKit

set_option maxRecDepth 100000 in
theorem Index_calls {A : Option Addr} {n k : Nat} {p : List Int} (x : Int) (w : World) (h : RI w A n p) (hn : n ≤ 1000000) :
    Calls Try.prog 66 #[.slice A n k, .int .i64 x] w fun e w' => e = .returned (.int .i64 (atFrom p x 0)) ∧ w = w' := by
  have Hl := hide h.len
  go_enter Try.func66, Try.ntmps66
  go_wp2_with fail
  go_loop [8] (fun i => ∃ j : Nat, j ≤ n ∧ i = .int .i64 j ∧ atFrom (p.drop j) x j = atFrom p x 0) (fun i => n - (intOf i).toNat)
  case atStart => exact ⟨0, Nat.zero_le _, rfl, rfl⟩
  case round =>
    obtain ⟨j, hj, rfl, hno⟩ := hrel
    by_cases hlt : j < n
    · obtain ⟨b, o, y, rfl, _, hx, hc⟩ := h.get hlt
      replace hc := hc w (later_refl w)
      obtain ⟨hp, rfl⟩ := List.getElem?_eq_some_iff.1 hx
      rw [List.drop_eq_getElem_cons hp, atFrom_cons] at hno
      by_cases he : p[j] = x
      · rw [if_pos he] at hno
        have Hno := hide hno
        have Hx := hide hx
        have heb : (x == p[j]) = true := by simp [he]
        have He := hide he
        clear hno hx he
        go_wp2_with fail
        go_ret
        exact ⟨ret_int Hno.out, rfl⟩
      · rw [if_neg he] at hno
        have Hno := hide hno
        have Hx := hide hx
        have heb : (x == p[j]) = false := by simp; exact fun h => he h.symm
        clear hno hx he
        go_wp2_with fail
        go_round
        case rel => exact ⟨j + 1, by omega, by go_num, by rw [← Hno.out]; rfl⟩
        case measure => simp [intOf]; omega
    · rw [List.drop_of_length_le (by have := Hl.out; omega)] at hno
      have Hno := hide hno
      clear hno
      go_wp2_with fail
      go_ret
      exact ⟨ret_int Hno.out, rfl⟩

theorem atFrom_contains (p : List Int) (x j : Int) (hj : 0 ≤ j) : decide (0 ≤ atFrom p x j) = p.contains x := by
  induction p generalizing j with
  | nil => simp [atFrom]
  | cons y l ih =>
    rw [atFrom_cons, List.contains_cons]
    by_cases h : y = x
    · rw [if_pos h, h]; simp [hj]
    · rw [if_neg h, ih (j + 1) (by omega)]
      rw [show (x == y) = false by simp; exact fun e => h e.symm, Bool.false_or]

theorem Contains_eq {A : Option Addr} {n k : Nat} {p : List Int} {x : Int} {b : Bool} (hb : p.contains x = b) (w : World) (h : RI w A n p) (hn : n ≤ 1000000) :
    Calls Try.prog 43 #[.slice A n k, .int .i64 x] w fun e w' => e = .returned (.bool b) ∧ w = w' := by
  rw [← atFrom_contains p x 0 (by omega)] at hb
  go_enter Try.func43, Try.ntmps43
  go_wp2_with fail
  refine (Index_calls x _ h hn).mono ?_
  rintro e w' ⟨rfl, rfl⟩
  generalize atFrom p x 0 = q at *
  have Hb := hide hb
  clear hb
  go_wp2_with fail
  go_ret
  exact ⟨by rw [← Hb.out]; rfl, rfl⟩

theorem RI.take {w : World} {A : Option Addr} {n : Nat} {l : List Int} (h : RI w A n l) (i : Nat) (hi : i ≤ n) : RI w A i (l.take i) := by
  have hn := h.len
  refine ⟨by rw [ints_length, List.length_take]; omega, fun h0 => ?_⟩
  obtain ⟨ad, e, hb, hc⟩ := h.2 (by omega)
  refine ⟨ad, e, hb, fun j u hu => hc j u ?_⟩
  simp only [ints, List.map_take, List.getElem?_take] at hu
  split at hu
  · exact hu
  · cases hu

theorem isPlace_calls {A1 A2 A3 : Option Addr} {n1 k1 n2 k2 n3 k3 : Nat} {c : Clo} {Ap : Option Addr} {np kp : Nat} {p : List Int} (w : World) (hc : CV w c A1 n1 A2 n2 A3 n3) (hp : RI w Ap np p) (hcap : np ≤ kp)
    (hmp : np ≤ 1000000) (hmh : n1 ≤ 1000000) :
    Calls Try.prog 26 #[(.agg #[.int .i64 c.closets, .int .i64 c.close, .slice A1 n1 k1, .slice A2 n2 k2, .slice A3 n3 k3]), .slice Ap np kp] w fun e w' => e = .returned (.bool (isPlaceB c p)) ∧ Later w w' := by
  have hnp := hp.len
  have hn1 := hc.hs.len
  by_cases hne : np = n1
  · have hfin : isPlaceB c p = plAux (wrap64 (c.closets - 1)) [] p := by
      unfold isPlaceB; rw [show (p.length == c.horses.length) = true from by simp; omega, Bool.true_and, wr64_eq]
    have Hfin := hide hfin
    have hneb : ((np : Int) != (n1 : Int)) = false := by rw [bne_eq_false_iff_eq]; omega
    have Hn := hide hne
    have Hnp := hide hnp
    have Hn1 := hide hn1
    clear hne hnp hn1 hfin
    obtain ⟨w0, hw0⟩ : ∃ W, W = (w.alloc (.cells #[.int .i64 c.closets, .int .i64 c.close, .slice A1 n1 k1, .slice A2 n2 k2, .slice A3 n3 k3] 45)) := ⟨_, rfl⟩; have hbox : ∀ W, Later w0 W → ∀ i, W.cell? ⟨w.heap.size, i, none⟩ = #[.int .i64 c.closets, .int .i64 c.close, .slice A1 n1 k1, .slice A2 n2 k2, .slice A3 n3 k3][i]? := (by rw [hw0]; exact box_cells w #[.int .i64 c.closets, .int .i64 c.close, .slice A1 n1 k1, .slice A2 n2 k2, .slice A3 n3 k3] 45); have hL0 : Later w w0 := (by rw [hw0]; simp); have hc0 := hc.later hL0; have Hw0 := hide hw0; clear hw0
    have hp0 := hp.later hL0
    go_enter Try.func26, Try.ntmps26
    go_wp2_with fail
    rw [← Hw0.out]; clear Hw0
    go_loopw [15] (fun i wr => ∃ j : Nat, j ≤ np ∧ i = .int .i64 j ∧ plAux (wrap64 (c.closets - 1)) [] p = plAux (wrap64 (c.closets - 1)) (p.take j) (p.drop j) ∧ Later w0 wr) (fun i _ => np - (intOf i).toNat)
    case atStart => exact ⟨0, Nat.zero_le _, rfl, rfl, later_refl _⟩
    case round =>
      obtain ⟨j, hj, rfl, hrec, hL⟩ := hrel
      by_cases hlt : j < np
      · obtain ⟨b, o, x, rfl, _, hx, hcx⟩ := hp0.get hlt
        obtain ⟨hpj, rfl⟩ := List.getElem?_eq_some_iff.1 hx
        rw [List.drop_eq_getElem_cons hpj] at hrec
        have hrec2 : plAux (wrap64 (c.closets - 1)) [] p = (inB p[j] 0 (wrap64 (c.closets - 1)) && !((p.take j).contains p[j]) && plAux (wrap64 (c.closets - 1)) (p.take j ++ [p[j]]) (p.drop (j + 1))) := hrec
        have Hrec := hide hrec2
        have Hx := hide hx
        have htk := hp0.take j hj
        have hcap2 : j ≤ kp := by omega
        clear hrec hx hrec2
        have hidx : (0 : Int) ≤ (j : Int) := by omega
        have hidx2 : (j : Int) < (np : Int) := by omega
        cases hin : inB p[j] 0 (wrap64 (c.closets - 1)) with
        | true =>
          go_wp2_with fail
          have hcc := closet_calls (A1 := A1) (A2 := A2) (A3 := A3) (n1 := n1) (k1 := k1) (n2 := n2) (k2 := k2) (n3 := n3) (k3 := k3) (c := c) (n := p[j]) wr
          rw [hin] at hcc
          refine hcc.mono ?_
          clear hcc
          rintro e w1 ⟨rfl, hL1⟩
          have hL2 := Later.trans hL hL1
          go_wp2_with fail
          cases hct : (p.take j).contains p[j] with
          | true =>
            have hf : plAux (wrap64 (c.closets - 1)) [] p = false := by rw [Hrec.out, hct]; simp
            have Hf := hide hf
            clear hf
            refine (Contains_eq hct _ (htk.later hL2) (by omega)).mono ?_
            rintro e w' ⟨rfl, rfl⟩
            go_wp2_with fail
            go_ret
            exact ⟨by rw [Hfin.out, Hf.out]; rfl, Later.trans hL0 hL2⟩
          | false =>
            rw [hin, hct, Bool.true_and, Bool.not_false, Bool.true_and] at Hrec
            refine (Contains_eq hct _ (htk.later hL2) (by omega)).mono ?_
            rintro e w' ⟨rfl, rfl⟩
            clear hct
            go_wp2_with fail
            go_roundw
            case rel => exact ⟨j + 1, by omega, by go_num, by rw [Hrec.out, List.take_succ_eq_append_getElem hpj], hL2⟩
            case measure => simp [intOf]; omega
        | false =>
          have hf : plAux (wrap64 (c.closets - 1)) [] p = false := by rw [Hrec.out, hin]; simp
          have Hf := hide hf
          clear hf
          go_wp2_with fail
          have hcc := closet_calls (A1 := A1) (A2 := A2) (A3 := A3) (n1 := n1) (k1 := k1) (n2 := n2) (k2 := k2) (n3 := n3) (k3 := k3) (c := c) (n := p[j]) wr
          rw [hin] at hcc
          refine hcc.mono ?_
          clear hcc
          rintro e w1 ⟨rfl, hL1⟩
          go_wp2_with fail
          go_ret
          exact ⟨by rw [Hfin.out, Hf.out]; rfl, Later.trans hL0 (Later.trans hL hL1)⟩
      · have hd : p.drop j = [] := List.drop_eq_nil_of_le (by have := Hnp.out; omega)
        rw [hd] at hrec
        have Hrec := hide hrec
        clear hrec hd
        go_wp2_with fail
        go_ret
        exact ⟨by rw [Hfin.out, Hrec.out]; rfl, Later.trans hL0 hL⟩
  · have hfin : isPlaceB c p = false := by
      unfold isPlaceB; rw [show (p.length == c.horses.length) = false from by simp; omega]; rfl
    have Hfin := hide hfin
    have hneb : ((np : Int) != (n1 : Int)) = true := by rw [bne_iff_ne]; omega
    clear hne hnp hn1 hfin
    go_enter Try.func26, Try.ntmps26
    go_wp2_with fail
    go_ret
    exact ⟨by rw [Hfin.out]; rfl, by simp⟩

/-! ### all -/
def idxB {α : Type} (g : α → Bool) : List α → Int → Int
  | [], _ => -1
  | x :: l, j => if g x then j else idxB g l (j + 1)
theorem idxB_any {α : Type} (g : α → Bool) (l : List α) (j : Int) (hj : 0 ≤ j) : decide (0 ≤ idxB g l j) = l.any g := by
  induction l generalizing j with
  | nil => simp [idxB]
  | cons y l ih =>
    rw [idxB, List.any_cons]
    by_cases h : g y = true
    · rw [if_pos h, h]; simp [hj]
    · rw [if_neg h, ih (j + 1) (by omega)]
      simp [h]
theorem not_any_not {α : Type} (g : α → Bool) (l : List α) : (!l.any fun x => !g x) = l.all g := by
  induction l with
  | nil => rfl
  | cons x l ih => simp [List.any_cons, List.all_cons, ← ih]

theorem allH1_calls {bp : Nat} (x : Horse) (w : World) (h : w.cell? ⟨bp, 0, none⟩ = some (.func (.func 56) #[] #[])) :
    Calls Try.prog 70 #[.agg #[.int .i64 x.lo, .int .i64 x.hi, .int .i64 x.wet, .int .i64 x.grace], .pointer (some ⟨bp, 0, none⟩)] w fun e w' =>
      e = .returned (.bool (!horseOk x)) ∧ Later w w' := by
  have hb : bp < w.heap.size := World.block_lt_of_cell? w ⟨bp, 0, none⟩ h
  have h2 := fun W k => cell_later (W := W) h k hb
  go_enter Try.func70, Try.ntmps70
  go_wp2_with fail
  refine (valid_calls x _).mono ?_
  rintro e w1 ⟨rfl, hL1⟩
  go_wp2_with fail
  go_ret
  exact ⟨rfl, Later.trans (by simp) hL1⟩

theorem IndexFuncH_calls {A : Option Addr} {n k bp : Nat} {l : List Horse} (w : World) (h : RH w A n l) (hn : n ≤ 1000000) (hb : w.cell? ⟨bp, 0, none⟩ = some (.func (.func 56) #[] #[])) :
    Calls Try.prog 75 #[.slice A n k, .func (.func 70) #[] #[.pointer (some ⟨bp, 0, none⟩)]] w fun e w' =>
      e = .returned (.int .i64 (idxB (fun x => !horseOk x) l 0)) ∧ Later w w' := by
  have hl := h.len
  have hbl : bp < w.heap.size := World.block_lt_of_cell? w ⟨bp, 0, none⟩ hb
  have hb2 := fun W k => cell_later (W := W) hb k hbl
  have Hl := hide hl
  clear hl
  go_enter Try.func75, Try.ntmps75
  go_wp2_with fail
  go_loopw [8] (fun i wr => ∃ j : Nat, j ≤ n ∧ i = .int .i64 j ∧ idxB (fun x => !horseOk x) (l.drop j) j = idxB (fun x => !horseOk x) l 0 ∧ Later w wr) (fun i _ => n - (intOf i).toNat)
  case atStart => exact ⟨0, Nat.zero_le _, rfl, rfl, later_refl _⟩
  case round =>
    obtain ⟨j, hj, rfl, hno, hL⟩ := hrel
    by_cases hlt : j < n
    · obtain ⟨b, o, y, rfl, _, hx, hc0, hc1, hc2, hc3⟩ := h.get hlt
      obtain ⟨hp, e1⟩ := List.getElem?_eq_some_iff.1 hx
      rw [List.drop_eq_getElem_cons hp, e1] at hno
      simp only [idxB] at hno
      have hi1 : (j : Int) < n := by omega
      have hcc := allH1_calls y wr (hb2 _ hL)
      cases hok : horseOk y with
      | true =>
        rw [hok] at hcc
        simp only [hok, Bool.not_true, Bool.false_eq_true, if_false] at hno
        have Hno := hide hno
        have Hcc := hide hcc
        clear hno hx hcc e1 hok
        go_wp2_with fail
        refine Hcc.out.mono ?_
        rintro e w1 ⟨rfl, hL1⟩
        have hL2 := Later.trans hL hL1
        go_wp2_with fail
        go_roundw
        case rel => exact ⟨j + 1, by omega, by go_num, by rw [← Hno.out]; rfl, hL2⟩
        case measure => simp [intOf]; omega
      | false =>
        rw [hok] at hcc
        simp only [hok, Bool.not_false, if_true] at hno
        have Hno := hide hno
        have Hcc := hide hcc
        clear hno hx hcc e1 hok
        go_wp2_with fail
        refine Hcc.out.mono ?_
        rintro e w1 ⟨rfl, hL1⟩
        go_wp2_with fail
        go_ret
        exact ⟨ret_int Hno.out, Later.trans hL hL1⟩
    · rw [List.drop_of_length_le (by have := Hl.out; omega)] at hno
      have Hno := hide hno
      clear hno
      go_wp2_with fail
      go_ret
      exact ⟨ret_int Hno.out, hL⟩

theorem allH_calls {A : Option Addr} {n k : Nat} {l : List Horse} (w : World) (h : RH w A n l) (hn : n ≤ 1000000) :
    Calls Try.prog 55 #[.slice A n k, .func (.func 56) #[] #[]] w fun e w' => e = .returned (.bool (l.all horseOk)) ∧ Later w w' := by
  have hw : Later w (w.alloc (.cells #[.func (.func 56) #[] #[]] 132)) := later_alloc (later_refl _) _
  have hb := box_cells w #[.func (.func 56) #[] #[]] 132 _ (later_refl _) 0
  have hf := idxB_any (fun x => !horseOk x) l 0 (by omega)
  have hf2 := not_any_not horseOk l
  rw [← hf] at hf2
  have Hf := hide hf2
  clear hf hf2
  go_enter Try.func55, Try.ntmps55
  go_wp2_with fail
  go_enter Try.func69, Try.ntmps69
  go_wp2_with fail
  refine (IndexFuncH_calls _ (h.later hw) hn hb).mono ?_
  rintro e w1 ⟨rfl, hL1⟩
  generalize idxB (fun x => !horseOk x) l 0 = q at *
  go_wp2_with fail
  go_ret
  exact ⟨by rw [← Hf.out]; rfl, Later.trans hw hL1⟩
end Go.Proofs.Ytnlbgaippnjmiaa

/- A range over a function whose iterator keeps cells of its own: the law for the caller. -/
namespace Go.Proofs.Ytnlbgaippnjmiaa
open Go Go.RowKit Go.Shelf

/-- J stands new blocks, and stores into block bd -/
def Stands {β : Type} (bd : Nat) (J : β → World → Prop) : Prop :=
  (∀ s A o, J s A → J s (A.alloc o)) ∧ ∀ s A i u, J s A → J s (A.setCell ⟨bd, i, none⟩ u)

/-- THE ITERATOR's CONTRACT: it yields xs in order; its own cells lie from the heap's size on, of which the block next to the first is written between rounds; a round that goes on keeps Kp. -/
def IterOK {α : Type} (F : Fence) (n : Nat) (P : Program) (gf : Nat) (lb : Array Value) (encs : α → Array Value) (Kp : World → World → Prop) (xs : List α) (W : World) : Prop :=
  ∀ (l : Nat) (J Jx : List α → World → Prop), Stands (W.heap.size + 1) J →
    (∀ pre x A, J pre A → pre ++ [x] <+: xs → YieldAt F (n - 1) P l (encs x) A fun e A' =>
      (e = .returned (.bool true) ∧ J (pre ++ [x]) A' ∧ Kp A A') ∨ (e = .returned (.bool false) ∧ Jx (pre ++ [x]) A')) →
    (∀ A, Later W A → W.heap.size + 3 ≤ A.heap.size → J [] A) →
    CallsIn F n P gf (#[.func (.yield l) #[] #[]] ++ lb) W fun e W' => (∃ v, e = .returned v) ∧ (J xs W' ∨ ∃ pre, pre <+: xs ∧ Jx pre W')

/-- how a round's body may be left -/
def iterPost {α : Type} (Kp : World → World → Prop) (I : List α → World → Prop) (Ix : Code → List α → World → Prop) (xs : List α) (W : World) : Exit → Act → World → Prop
  | .normal, _, W' => KeepsOthers W W' ∧ Kp W W' ∧ I xs W'
  | .ret, _, W' => KeepsOthers W W' ∧ Ix .ret xs W'
  | .exit id, _, W' => KeepsOthers W W' ∧ Ix (.exit id) xs W'
  | .goto t, _, W' => KeepsOthers W W' ∧ Ix (.goto t) xs W'
  | .panic _, _, _ => False
  | .outgrown, _, _ => False

variable {F : Fence} {n : Nat} {P : Program}
theorem wpIn_iter {α : Type} {g : Operand} {ps : Array Tmp} {assign body : Code} {Q : Exit → Act → World → Prop} {a : Act} {w : World}
    (hro : F.round = none) (h1 : 1 ≤ n) {gf : Nat} {lb : Array Value} (hg : a.eval g = .func (.func gf) #[] lb) (hFg : F.fn gf) (eg : ∀ args w, (callFunc gf args).run P w = .ok (.enter gf args) w)
    {encs : α → Array Value} {Kp : World → World → Prop} {xs : List α}
    (hseq : ∀ W, Later w W → W.heap.size = w.heap.size + 2 → IterOK F (n - 1) P gf lb encs Kp xs W)
    (hKt : ∀ {A B C : World}, Kp A B → Kp B C → Kp A C) (hKb : ∀ (W : World) (o : Obj), Kp W (W.putObj (w.heap.size + 1) o)) (hps : ∀ x, (encs x).size = ps.size)
    (I : List α → World → Prop) (Ix : Code → List α → World → Prop)
    (hIs : Stands (w.heap.size + 3) I) (hIp : ∀ s A o, I s A → w.heap.size + 1 < A.heap.size → I s (A.putObj (w.heap.size + 1) o)) (hIxp : ∀ c s A o, Ix c s A → w.heap.size + 1 < A.heap.size → Ix c s (A.putObj (w.heap.size + 1) o))
    (h0 : ∀ A, Later w A → w.heap.size + 5 ≤ A.heap.size → I [] A) (I2 : List α → α → Act → World → Prop)
    (hassign : ∀ (l : Nat) (pre : List α) (x : α) (W : World) (K : Act → World → Prop), I pre W → pre ++ [x] <+: xs → (∀ a' W', KeepsOthers W W' → Kp W W' → I2 pre x a' W' → K a' W') →
      assign.wpIn (F.inRound l) (n - 1 - 1) P (Exit.then K (fun _ _ _ => False)) { tmps := (ps.zip (encs x)).foldl (fun t (p, v) => t.setIfInBounds p v) a.tmps, defers := [] } W)
    (hI2p : ∀ pre x a' A o, I2 pre x a' A → w.heap.size + 1 < A.heap.size → I2 pre x a' (A.putObj (w.heap.size + 1) o))
    (hbody : ∀ (l : Nat) (pre : List α) (x : α) (a' : Act) (W : World), I2 pre x a' W → pre ++ [x] <+: xs → w.heap.size + 1 < W.heap.size → body.wpIn (F.inRound l) (n - 1 - 1) P (iterPost Kp I Ix (pre ++ [x]) W) a' W)
    (hdone : ∀ (W : World), I xs W → W.heap[w.heap.size]? = some (.deferred (some [])) → Q .normal { a with defers := { target := .collected w.heap.size, args := #[] } :: a.defers } W)
    (hstop : ∀ (c : Code) (pre : List α) (W : World), pre <+: xs → Ix c pre W → W.heap[w.heap.size]? = some (.deferred (some [])) → c.wpIn F n P Q { a with defers := { target := .collected w.heap.size, args := #[] } :: a.defers } W) :
    (Code.rangeFunc g ps assign body).wpIn F n P Q a w := by
  refine wpIn_rangeFunc ?_
  intro fn hfn
  rw [hro]
  obtain ⟨rec, hrec⟩ : ∃ rec : LoopState → Option Code → Loop, rec = fun st pe => { state := st, pending := pe, fn, tmps := a.tmps, params := ps, assign, body, defers := w.heap.size } := ⟨_, rfl⟩
  obtain ⟨W1, hW1⟩ : ∃ W1, (w.alloc (.deferred (some []))).alloc (.loop (rec .ready none)) = W1 := ⟨_, rfl⟩
  have hs1 : W1.heap.size = w.heap.size + 2 := by rw [← hW1]; simp
  have hL1 : W1.heap[w.heap.size + 1]? = some (.loop (rec .ready none)) := by
    rw [← hW1]; have := World.alloc_heap_new (w.alloc (.deferred (some []))) (.loop (rec .ready none)); rwa [World.size_alloc] at this
  have hK1 : W1.heap[w.heap.size]? = some (.deferred (some [])) := by
    rw [← hW1]; exact (Below.heap_alloc _ _ _ (by simp)).trans (World.alloc_heap_new w _)
  have hb1 : Later w W1 := by rw [← hW1]; simp
  refine ⟨w.heap.size + 1, [{ target := .collected w.heap.size, args := #[] }], W1, { target := .fn (.func gf) lb, args := #[.func (.yield (w.heap.size + 1)) #[] #[]] }, W1, gf,
    #[.func (.yield (w.heap.size + 1)) #[] #[]] ++ lb, W1, ?_, ?_, ?_, ?_, fun _ => h1, ?_⟩
  · rw [← hW1, hrec]; exact run_enterLoop_outer _ _ _ _ _
  · simp only [resolve, hg]
    simp [go_sem]
  · intro f' hf'; simp [Target.leads] at hf'; subst hf'; exact hFg
  · simp [invoke, go_sem, eg]
  · refine (hseq W1 hb1 hs1 (w.heap.size + 1)
      (fun pre W => I pre W ∧ W.heap[w.heap.size + 1]? = some (.loop (rec .ready none)) ∧ W.heap[w.heap.size]? = some (.deferred (some [])))
      (fun pre W => ∃ c, Ix c pre W ∧ W.heap[w.heap.size + 1]? = some (.loop (rec .done (some c))) ∧ W.heap[w.heap.size]? = some (.deferred (some [])))
      ⟨fun s A o hs => ⟨hIs.1 _ _ _ hs.1, (Below.heap_alloc A o _ (Array.getElem?_eq_some_iff.1 hs.2.1).1).trans hs.2.1, (Below.heap_alloc A o _ (Array.getElem?_eq_some_iff.1 hs.2.2).1).trans hs.2.2⟩,
       fun s A i u hs => by
        rw [hs1]
        exact ⟨hIs.2 _ _ _ _ hs.1, (Below.heap_setCell A _ u _ (by show w.heap.size + 1 ≠ w.heap.size + 2 + 1; omega)).trans hs.2.1, (Below.heap_setCell A _ u _ (by show w.heap.size ≠ w.heap.size + 2 + 1; omega)).trans hs.2.2⟩⟩
      ?_ (fun A hA hsz => ⟨h0 A (Later.trans hb1 hA) (by omega), (hA.block _ (by omega)).trans hL1, (hA.block _ (by omega)).trans hK1⟩)).mono ?_
    · rintro pre x W0 ⟨hi0, hl0, hk0⟩ hpx
      have hlt0 : w.heap.size + 1 < W0.heap.size := (Array.getElem?_eq_some_iff.1 hl0).1
      have hy := run_yield (P := P) (args := encs x) hl0 (by rw [hrec]; exact hps x)
      rw [hrec] at hy
      refine ⟨fn, _, assign, body, hy, roundIn_of_wpIn hfn (hassign _ pre x W0 _ hi0 hpx fun a' W hko hkp hi => ?_)⟩
      have hl := hko.same _ _ hl0 rfl
      have hk := hko.same _ _ hk0 rfl
      have hlt : w.heap.size + 1 < W.heap.size := (Array.getElem?_eq_some_iff.1 hl).1
      refine ⟨_, run_beginRound hl (by rw [hrec]), ?_⟩
      have hl2 : (W.putObj (w.heap.size + 1) (.loop { rec .ready none with state := .busy })).heap[w.heap.size + 1]? = some (.loop { rec .ready none with state := .busy }) := World.putObj_heap_same hlt
      have hk2 : (W.putObj (w.heap.size + 1) (.loop { rec .ready none with state := .busy })).heap[w.heap.size]? = some (.deferred (some [])) := (World.putObj_heap_other (by omega)).trans hk
      have hw2 : Kp W0 (W.putObj (w.heap.size + 1) (.loop { rec .ready none with state := .busy })) := hKt hkp (hKb _ _)
      refine wpIn_mono (hbody _ pre x a' _ (hI2p _ _ _ _ _ hi hlt) hpx (by simpa using hlt)) ?_
      have fin : ∀ (jump : Option Code) (W3 : World), KeepsOthers (W.putObj (w.heap.size + 1) (.loop { rec .ready none with state := .busy })) W3 →
          (Instr.endRound (w.heap.size + 1) jump).run P W3 = .ok (.bool jump.isNone) (W3.putObj (w.heap.size + 1) (.loop (rec (if jump.isNone then .ready else .done) jump))) ∧
          w.heap.size + 1 < W3.heap.size ∧
          (W3.putObj (w.heap.size + 1) (.loop (rec (if jump.isNone then .ready else .done) jump))).heap[w.heap.size + 1]? = some (.loop (rec (if jump.isNone then .ready else .done) jump)) ∧
          (W3.putObj (w.heap.size + 1) (.loop (rec (if jump.isNone then .ready else .done) jump))).heap[w.heap.size]? = some (.deferred (some [])) := fun jump W3 hk3 => by
        have hl3 := hk3.same _ _ hl2 rfl
        have := run_endRound (P := P) jump hl3
        rw [hrec] at this ⊢
        exact ⟨this, (Array.getElem?_eq_some_iff.1 hl3).1, World.putObj_heap_same (Array.getElem?_eq_some_iff.1 hl3).1, (World.putObj_heap_other (by omega)).trans (hk3.same _ _ hk2 rfl)⟩
      rintro e a3 W3 hp
      cases e with
      | normal =>
        obtain ⟨hk3, hkp3, hi3⟩ := hp
        obtain ⟨hr, hl3, hl4, hk4⟩ := fin none W3 hk3
        exact ⟨_, _, hr, .inl ⟨rfl, ⟨hIp _ _ _ hi3 hl3, hl4, hk4⟩, hKt (hKt hw2 hkp3) (hKb _ _)⟩⟩
      | ret =>
        obtain ⟨hk3, hi3⟩ := hp
        obtain ⟨hr, hl3, hl4, hk4⟩ := fin (some .ret) W3 hk3
        exact ⟨_, _, hr, .inr ⟨rfl, .ret, hIxp _ _ _ _ hi3 hl3, hl4, hk4⟩⟩
      | exit id =>
        obtain ⟨hk3, hi3⟩ := hp
        obtain ⟨hr, hl3, hl4, hk4⟩ := fin (some (.exit id)) W3 hk3
        exact ⟨_, _, hr, .inr ⟨rfl, .exit id, hIxp _ _ _ _ hi3 hl3, hl4, hk4⟩⟩
      | goto t =>
        obtain ⟨hk3, hi3⟩ := hp
        obtain ⟨hr, hl3, hl4, hk4⟩ := fin (some (.goto t)) W3 hk3
        exact ⟨_, _, hr, .inr ⟨rfl, .goto t, hIxp _ _ _ _ hi3 hl3, hl4, hk4⟩⟩
      | panic ch => exact hp.elim
      | outgrown => exact hp.elim
    · rintro e W2 ⟨⟨v, rfl⟩, (⟨hi, hl, hk⟩ | ⟨pre, hSp, c, hi, hl, hk⟩)⟩
      · exact ⟨none, _, by have := run_endLoop (P := P) hl (by rw [hrec]; simp); rw [hrec] at this; exact this, hdone _ (hIp _ _ _ hi (Array.getElem?_eq_some_iff.1 hl).1) ((World.putObj_heap_other (by omega)).trans hk)⟩
      · exact ⟨some c, _, by have := run_endLoop (P := P) hl (by rw [hrec]; simp); rw [hrec] at this; exact this, hstop c pre _ hSp (hIxp _ _ _ _ hi (Array.getElem?_eq_some_iff.1 hl).1) ((World.putObj_heap_other (by omega)).trans hk)⟩

/-- what the body of a range keeps: the blocks of S -/
def KeepS (S : Nat → Prop) (A B : World) : Prop := ∀ b, S b → B.heap[b]? = A.heap[b]?
theorem KeepS.refl {S : Nat → Prop} (A : World) : KeepS S A A := fun _ _ => rfl
theorem KeepS.trans {S : Nat → Prop} {A B C : World} (h : KeepS S A B) (k : KeepS S B C) : KeepS S A C := fun b hb => (k b hb).trans (h b hb)
theorem KeepS.alloc {S : Nat → Prop} {A B : World} (h : KeepS S A B) (o : Obj) (hs : ∀ b, S b → b < B.heap.size) : KeepS S A (B.alloc o) := fun b hb => (Below.heap_alloc B o b (hs b hb)).trans (h b hb)
theorem KeepS.set_ {S : Nat → Prop} {A B : World} (h : KeepS S A B) (p : Addr) (hp : ¬ S p.block) (u : Value) : KeepS S A (B.setCell p u) := fun b hb => (Below.heap_setCell B p u b (fun e => hp (e ▸ hb))).trans (h b hb)
theorem KeepS.later {S : Nat → Prop} {A B C : World} (h : KeepS S A B) (k : Later B C) (hs : ∀ b, S b → b < B.heap.size) : KeepS S A C := fun b hb => (k.block b (hs b hb)).trans (h b hb)
theorem KeepS.cell {S : Nat → Prop} {A B : World} (h : KeepS S A B) {b : Nat} (hb : S b) (i : Nat) : B.cell? ⟨b, i, none⟩ = A.cell? ⟨b, i, none⟩ := World.cell?_of_block (h b hb)

theorem roundIn_wide {n m : Nat} {P : Program} {l : Nat} {f : FuncId} {tmps : Array Value} {assign body : Code} {w : World} {R : Ending → World → Prop}
    (h : RoundIn Fence.wide n P l f tmps assign body w R) : RoundIn Fence.wide m P l f tmps assign body w R := ⟨h.1, fun c cs _ => h.2 c cs (room_wide _)⟩
theorem yieldAt_wide {n m : Nat} {P : Program} {l : Nat} {args : Array Value} {w : World} {R : Ending → World → Prop} (h : YieldAt Fence.wide n P l args w R) : YieldAt Fence.wide m P l args w R := by
  obtain ⟨fn, tmps, assign, body, hy, hR⟩ := h
  exact ⟨fn, tmps, assign, body, hy, roundIn_wide hR⟩
end Go.Proofs.Ytnlbgaippnjmiaa
