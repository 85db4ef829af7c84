/- Part 1 of the proof: joined from the texts Model, Truths, Pl, Perm, Words, Region, Own, Kit, Blk, TcA, TcB, TcC. -/
import Derived.Below
import Derived.Laws.OwnMore
import Derived.Deep.AppendLies
import Derived.Deep.Draws
import Derived.Deep.QuietTactic
import Derived.StillTail
import Derived.Test.YtbkfnajpbhfneaaProg
import Derived.Maps.AppendAt
import Derived.OwnWalk
import Derived.WalkKit
import Derived.WalkLawsBesides
import Derived.Outline
import Derived.BigQuiet
import Derived.Deep.RegionHeld3
import Derived.Deep.DeepMust
import Derived.Deep.DeepFit
import Derived.Deep.LoopGhost
import Derived.Deep.DeepCutAuto
set_option linter.unusedSimpArgs false
set_option linter.unusedVariables false
/- Plain model data of chapter 01 (tickets), and the functions of the reference, as plain functions: no program in sight. -/
namespace Go.Proofs.Ytbkfnajpbhfneaa

structure Cp where
  ticket : Int
  clock : Int
  minute : Int
deriving DecidableEq, Inhabited

/-- a house; a clock is its range, a ticket its tub and its hours -/
structure Hou where
  hour : Int
  grace : Int
  clocks : List (Int × Int)
  tickets : List (Int × Int)
  clips : List Cp
deriving DecidableEq, Inhabited

/-- n is from lo to hi -/
def inB (n lo hi : Int) : Bool := decide (lo ≤ n) && decide (n ≤ hi)

def wr64 (n : Int) : Int := (n + 9223372036854775808) % 18446744073709551616 - 9223372036854775808

/-- the first index (counted from j) at which a list holds x; -1 if there is none -/
def atFrom : List Int → Int → Int → Int
  | [], _, _ => -1
  | y :: l, x, j => if y = x then j else atFrom l x (j + 1)

def clipAt (c : Hou) (k : Nat) : Cp := c.clips.getD k default
def tickAt (c : Hou) (k : Nat) : Int × Int := c.tickets.getD k default
def clockAt (c : Hou) (k : Nat) : Int × Int := c.clocks.getD k default

/-- the numbers of the clips of a ticket -/
def ofR (c : Hou) (t : Int) : List Nat := (List.range c.clips.length).filter fun i => decide ((clipAt c i).ticket = t)
def nats (l : List Nat) : List Int := l.map fun (i : Nat) => (i : Int)

def clockOk (r : Int × Int) : Bool := decide (-30 ≤ r.1) && decide (r.1 ≤ r.2) && decide (r.2 ≤ 30)
def tickOk (t : Int × Int) : Bool := inB t.1 0 8 && inB t.2 0 9
def clipOk (n m : Nat) (x : Cp) : Bool := inB x.ticket 0 (m - 1) && inB x.clock 0 (n - 1) && inB x.minute 0 1439
def ofOk (c : Hou) (i : Nat) : Bool := decide ((ofR c i).length ≤ 2)

def sizeR (r : Int × Int) : Int := r.2 - r.1 + 1
def many (c : Hou) : Int := c.clocks.foldl (fun n r => min 3000 (n * sizeR r)) 1

def fault (c : Hou) : Int :=
  if 4 < c.clocks.length ∨ 6 < c.tickets.length ∨ 10 < c.clips.length then 3
  else if inB c.hour 1 120 = false ∨ inB c.grace 0 60 = false then 1
  else if c.clocks.all clockOk = false then 1
  else if c.clips.all (clipOk c.clocks.length c.tickets.length) = false then 1
  else if (List.range c.tickets.length).all (fun i => tickOk (tickAt c i) && ofOk c i) = false then 1
  else if 2000 < many c then 3 else 0

def nth : List (Int × Int) → Int → List Int
  | [], _ => []
  | r :: l, n => (r.1 + n % sizeR r) :: nth l (n / sizeR r)

def areErrors : List (Int × Int) → List Int → Bool
  | [], [] => true
  | r :: l, x :: d => inB x r.1 r.2 && areErrors l d
  | _, _ => false

/-- the true minute of a clip -/
def minuteC (d : List Int) (x : Cp) : Int := x.minute - d.getD x.clock.toNat 0
def trueM (c : Hou) (d : List Int) (i : Nat) : Int := minuteC d (clipAt c i)

/-- the reference's Rising: of some clips (by bits) -/
def risingR (c : Hou) (d : List Int) (bits : Nat) : Bool :=
  (List.range c.clips.length).all fun i => (List.range i).all fun k => !(bits.testBit i && bits.testBit k && decide (trueM c d i < trueM c d k))

def full (c : Hou) : Nat := 2 ^ c.clips.length - 1
def isTruth (c : Hou) (d : List Int) : Bool := areErrors c.clocks d && risingR c d (full c)
def allErr (c : Hou) : List (List Int) := (List.range (many c).toNat).map fun (n : Nat) => nth c.clocks n
def truths (c : Hou) : List (List Int) := (allErr c).filter fun d => risingR c d (full c)

/-- the hours of a stay: the smallest number whose hours reach it -/
def hoursOf (hour stay : Int) : Int := if stay ≤ 0 then 0 else (stay + hour - 1) / hour
def hoursR (c : Hou) (d : List Int) (t : Int) : Int :=
  match ofR c t with
  | a :: b :: _ => hoursOf c.hour (trueM c d b - trueM c d a - c.grace)
  | _ => 0
def isLong (c : Hou) (d : List Int) (t : Nat) : Bool := decide ((tickAt c t).2 < hoursR c d t)
def cameB (c : Hou) (d : List Int) (t o : Int) : Bool :=
  match ofR c o with
  | _ :: b :: _ => match ofR c t with
    | a :: _ => decide (trueM c d a < trueM c d b)
    | [] => true
  | _ => true
def clashB (c : Hou) (d : List Int) (a b : Nat) : Bool :=
  decide ((tickAt c a).1 = (tickAt c b).1) && !(ofR c a).isEmpty && !(ofR c b).isEmpty && cameB c d a b && cameB c d b a
def isPaid (c : Hou) (d : List Int) : Bool :=
  (List.range c.tickets.length).all fun a => !isLong c d a && (List.range a).all fun b => !clashB c d a b
def isOpen (c : Hou) (tub : Int) : Bool :=
  (List.range c.tickets.length).any fun i => decide ((tickAt c i).1 = tub) && decide ((ofR c i).length = 1)
def fromStep (c : Hou) (d : List Int) (tub : Int) (n : Int) (i : Nat) : Int :=
  if (tickAt c i).1 = tub then (match ofR c i with
    | [_, b] => max n (trueM c d b)
    | _ => n) else n
def fromR (c : Hou) (d : List Int) (tub : Int) : Int := (List.range c.tickets.length).foldl (fromStep c d tub) 0

def wider (r : Int × Int) (n : Int) : Int × Int := (min r.1 n, max r.2 n)
/-- bounds of an answer in some truths, as the reference has them -/
def bR (f : List Int → Int) (l : List (List Int)) : Int × Int := l.foldl (fun r d => wider r (f d)) (1099511627776, -1099511627776)
def verdictN (yes many : Nat) : Int := if yes = many then 1 else if yes = 0 then 2 else 3
def vR (p : List Int → Bool) (l : List (List Int)) : Int := verdictN (l.countP p) l.length

def leavesStep (l : List (List Int)) (k : Nat) (most : Int) (d : List Int) : Int := max most (l.countP (fun x => decide (x.getD k 0 = d.getD k 0)) : Int)
def leaves (l : List (List Int)) (k : Nat) : Int := l.foldl (leavesStep l k) 0
def lookStep (l : List (List Int)) (r : Nat × Int) (i : Nat) : Nat × Int := if leaves l i < r.2 then (i, leaves l i) else r
/-- clocks 1 .. n-1 against the best of those before -/
def lookR (c : Hou) (l : List (List Int)) : Nat × Int := ((List.range (c.clocks.length - 1)).map (· + 1)).foldl (lookStep l) (0, leaves l 0)

def bitList : Nat → Nat → Nat → List Int
  | 0, _, _ => []
  | k + 1, bits, p => if bits % 2 = 1 then (p : Int) :: bitList k (bits / 2) (p + 1) else bitList k (bits / 2) (p + 1)
def bitsR (bits : Nat) : List Int := bitList bits bits 0

def before : List Int → List Int → Bool
  | a :: l, b :: m => if a = b then before l m else decide (a < b)
  | [], _ :: _ => true
  | _, [] => false
def shorter (a b : List Int) : Bool := decide (a.length < b.length) || (a.length == b.length && before a b)

def can (c : Hou) (bits : Nat) : Bool := (allErr c).any fun d => risingR c d bits
def firstR (c : Hou) : Int :=
  match (List.range c.clips.length).find? (fun n => !can c (2 ^ (n + 1) - 1)) with
  | some n => n
  | none => -1
def leaveStep (c : Hou) (best : List Int) (bits : Nat) : List Int :=
  if shorter (bitsR bits) best && can c (full c - bits) then bitsR bits else best
def leaveR (c : Hou) : List Int := (List.range (full c + 1)).foldl (leaveStep c) (bitsR (full c))

/-! ### what is so of valid houses -/
structure OkH (c : Hou) : Prop where
  n1 : c.clocks.length ≤ 4
  n2 : c.tickets.length ≤ 6
  n3 : c.clips.length ≤ 10
  hour : 1 ≤ c.hour ∧ c.hour ≤ 120
  grace : 0 ≤ c.grace ∧ c.grace ≤ 60
  clock : ∀ r ∈ c.clocks, -30 ≤ r.1 ∧ r.1 ≤ r.2 ∧ r.2 ≤ 30
  tick : ∀ t ∈ c.tickets, 0 ≤ t.1 ∧ t.1 ≤ 8 ∧ 0 ≤ t.2 ∧ t.2 ≤ 9
  clip : ∀ x ∈ c.clips, 0 ≤ x.ticket ∧ x.ticket < c.tickets.length ∧ 0 ≤ x.clock ∧ x.clock < c.clocks.length ∧ 0 ≤ x.minute ∧ x.minute ≤ 1439
  two : ∀ i, i < c.tickets.length → (ofR c i).length ≤ 2

structure IsErr (c : Hou) (d : List Int) : Prop where
  len : d.length = c.clocks.length
  mem : ∀ (i : Nat) (r : Int × Int) (x : Int), c.clocks[i]? = some r → d[i]? = some x → r.1 ≤ x ∧ x ≤ r.2

theorem areErrors_iff : ∀ (l : List (Int × Int)) (d : List Int), areErrors l d = true ↔ d.length = l.length ∧ ∀ (i : Nat) (r : Int × Int) (x : Int), l[i]? = some r → d[i]? = some x → r.1 ≤ x ∧ x ≤ r.2
  | [], [] => by simp [areErrors]
  | [], _ :: _ => by simp [areErrors]
  | _ :: _, [] => by simp [areErrors]
  | h :: l, x :: d => by
    simp only [areErrors, Bool.and_eq_true, inB, decide_eq_true_eq, areErrors_iff l d, List.length_cons]
    constructor
    · rintro ⟨⟨h1, h2⟩, h3, h4⟩
      refine ⟨by omega, fun i k y => ?_⟩
      cases i with
      | zero => simp only [List.getElem?_cons_zero, Option.some.injEq]; rintro rfl rfl; exact ⟨h1, h2⟩
      | succ i => simp only [List.getElem?_cons_succ]; exact h4 i k y
    · rintro ⟨h3, h4⟩
      exact ⟨h4 0 h x rfl rfl, by omega, fun i k y hk hy => h4 (i + 1) k y hk hy⟩
theorem isErr_iff (c : Hou) (d : List Int) : areErrors c.clocks d = true ↔ IsErr c d :=
  (areErrors_iff c.clocks d).trans ⟨fun ⟨a, b⟩ => ⟨a, b⟩, fun ⟨a, b⟩ => ⟨a, b⟩⟩
theorem nth_err : ∀ (l : List (Int × Int)) (n : Int), (∀ h ∈ l, h.1 ≤ h.2) → areErrors l (nth l n) = true
  | [], _, _ => rfl
  | h :: l, n, ok => by
    have o := ok h List.mem_cons_self
    have h1 := Int.emod_nonneg n (b := sizeR h) (by unfold sizeR; omega)
    have h2 := Int.emod_lt_of_pos n (b := sizeR h) (by unfold sizeR; omega)
    simp only [nth, areErrors, nth_err l _ (fun x hx => ok x (List.mem_cons_of_mem _ hx)), Bool.and_true, inB, Bool.and_eq_true, decide_eq_true_eq]
    unfold sizeR at *
    omega
theorem nth_isErr {c : Hou} (ok : OkH c) (n : Int) : IsErr c (nth c.clocks n) :=
  (isErr_iff c _).1 (nth_err c.clocks n fun h hh => by have := ok.clock h hh; omega)
theorem allErr_isErr {c : Hou} (ok : OkH c) : ∀ d ∈ allErr c, IsErr c d := by
  intro d hd
  obtain ⟨n, _, rfl⟩ := List.mem_map.1 hd
  exact nth_isErr ok n
theorem truths_isErr {c : Hou} (ok : OkH c) : ∀ d ∈ truths c, IsErr c d := fun d hd => allErr_isErr ok d (List.mem_filter.1 hd).1
theorem IsErr.range {c : Hou} (ok : OkH c) {d : List Int} (h : IsErr c d) (i : Nat) : -30 ≤ d.getD i 0 ∧ d.getD i 0 ≤ 30 := by
  rw [List.getD_eq_getElem?_getD]
  rcases Nat.lt_or_ge i d.length with hl | hl
  · rw [List.getElem?_eq_getElem hl, Option.getD_some]
    have hi : i < c.clocks.length := by have := h.len; omega
    have h1 := h.mem i _ _ (List.getElem?_eq_getElem hi) (List.getElem?_eq_getElem hl)
    have h2 := ok.clock _ (List.getElem_mem hi)
    omega
  · rw [List.getElem?_eq_none hl]; simp
theorem atFrom_cons (y : Int) (l : List Int) (x j : Int) : atFrom (y :: l) x j = if y = x then j else atFrom l x (j + 1) := rfl
theorem find_range_some {P : Nat → Bool} {n j : Nat} (hj : j < n) (h : P j = true) (hno : ∀ t, t < j → P t = false) : (List.range n).find? P = some j := by
  rw [List.find?_range_eq_some]
  exact ⟨h, by simpa using hj, fun t ht => by simp [hno t ht]⟩
theorem find_range_none {P : Nat → Bool} {n : Nat} (hno : ∀ t, t < n → P t = false) : (List.range n).find? P = none := by
  rw [List.find?_eq_none]
  intro x hx
  simp [hno x (by simpa using hx)]
theorem countP_take {α : Type} (p : α → Bool) (l : List α) (j : Nat) (x : α) (h : l[j]? = some x) : (l.take (j + 1)).countP p = (l.take j).countP p + (if p x then 1 else 0) := by
  rw [List.take_add_one, h, Option.toList_some, List.countP_append]
  simp [List.countP_cons]
theorem countP_take_le {α : Type} (p : α → Bool) (l : List α) (j : Nat) : (l.take j).countP p ≤ j := Nat.le_trans List.countP_le_length (List.length_take_le _ _)
theorem range_all_succ (f : Nat → Bool) (j : Nat) : (List.range (j + 1)).all f = ((List.range j).all f && f j) := by
  rw [List.range_succ, List.all_append]; simp
theorem range_any_succ (f : Nat → Bool) (j : Nat) : (List.range (j + 1)).any f = ((List.range j).any f || f j) := by
  rw [List.range_succ, List.any_append]; simp
theorem range_all_false {f : Nat → Bool} {j n : Nat} (hj : j < n) (h : f j = false) : (List.range n).all f = false := by
  rw [← Bool.not_eq_true, List.all_eq_true]
  intro k
  rw [k j (by simpa using hj)] at h; cases h
theorem range_any_true {f : Nat → Bool} {j n : Nat} (hj : j < n) (h : f j = true) : (List.range n).any f = true := by
  rw [List.any_eq_true]
  exact ⟨j, by simpa using hj, h⟩
theorem pow_le_of {a b : Nat} (h : a ≤ b) : 2 ^ a ≤ 2 ^ b := Nat.pow_le_pow_right (by omega) h

theorem ofR_lt {c : Hou} {t : Int} {i : Nat} (h : i ∈ ofR c t) : i < c.clips.length := by
  have := (List.mem_filter.1 h).1
  simpa using this
theorem clipAt_mem {c : Hou} {i : Nat} (h : i < c.clips.length) : clipAt c i ∈ c.clips := by
  unfold clipAt; rw [List.getD_eq_getElem?_getD, List.getElem?_eq_getElem h]; exact List.getElem_mem h
theorem tickAt_mem {c : Hou} {i : Nat} (h : i < c.tickets.length) : tickAt c i ∈ c.tickets := by
  unfold tickAt; rw [List.getD_eq_getElem?_getD, List.getElem?_eq_getElem h]; exact List.getElem_mem h
theorem clipAt_of {c : Hou} {i : Nat} {x : Cp} (h : c.clips[i]? = some x) : clipAt c i = x := by unfold clipAt; rw [List.getD_eq_getElem?_getD, h]; rfl
theorem tickAt_of {c : Hou} {i : Nat} {x : Int × Int} (h : c.tickets[i]? = some x) : tickAt c i = x := by unfold tickAt; rw [List.getD_eq_getElem?_getD, h]; rfl
theorem clockAt_of {c : Hou} {i : Nat} {x : Int × Int} (h : c.clocks[i]? = some x) : clockAt c i = x := by unfold clockAt; rw [List.getD_eq_getElem?_getD, h]; rfl
theorem minuteC_range {c : Hou} (ok : OkH c) {d : List Int} (h : IsErr c d) {x : Cp} (hx : x ∈ c.clips) : -30 ≤ minuteC d x ∧ minuteC d x ≤ 1469 := by
  have := ok.clip x hx
  have := h.range ok x.clock.toNat
  unfold minuteC; omega
theorem trueM_range {c : Hou} (ok : OkH c) {d : List Int} (h : IsErr c d) {i : Nat} (hi : i < c.clips.length) : -30 ≤ trueM c d i ∧ trueM c d i ≤ 1469 := minuteC_range ok h (clipAt_mem hi)
end Go.Proofs.Ytbkfnajpbhfneaa

/- The program's enumeration of errors of the clocks, as plain lists. -/
namespace Go.Proofs.Ytbkfnajpbhfneaa
/-- all numbers of a range -/
def rangeL (lo hi : Int) : List Int := (List.range (hi - lo + 1).toNat).map fun (i : Nat) => lo + i
def errAll : List (Int × Int) → List (List Int)
  | [] => [[]]
  | h :: hs => (rangeL h.1 h.2).flatMap fun x => (errAll hs).map (x :: ·)
/-- all ways to go on behind a beginning -/
def ext (hs : List (Int × Int)) (pfx : List Int) : List (List Int) := (errAll hs).map (pfx ++ ·)
theorem ext_nil (pfx : List Int) : ext [] pfx = [pfx] := by simp [ext, errAll]
def extTo (h : (Int × Int)) (hs : List (Int × Int)) (pfx : List Int) (k : Nat) : List (List Int) := (List.range k).flatMap fun (i : Nat) => ext hs (pfx ++ [h.1 + i])
theorem extTo_succ (h : (Int × Int)) (hs : List (Int × Int)) (pfx : List Int) (k : Nat) : extTo h hs pfx (k + 1) = extTo h hs pfx k ++ ext hs (pfx ++ [h.1 + k]) := by
  simp [extTo, List.range_succ, List.flatMap_append]
theorem ext_cons (h : (Int × Int)) (hs : List (Int × Int)) (pfx : List Int) : ext (h :: hs) pfx = extTo h hs pfx (h.2 - h.1 + 1).toNat := by
  simp only [ext, errAll, rangeL, extTo, List.map_flatMap, List.flatMap_map, List.map_map]
  congr 1
  funext i
  congr 1
  funext t
  simp
theorem extTo_prefix (h : (Int × Int)) (hs : List (Int × Int)) (pfx : List Int) {k m : Nat} (hk : k ≤ m) : extTo h hs pfx k <+: extTo h hs pfx m := by
  induction m with
  | zero => have : k = 0 := by omega
            subst this; exact List.prefix_refl _
  | succ m ih =>
    rcases Nat.lt_or_ge k (m + 1) with hlt | hge
    · exact (ih (by omega)).trans (by rw [extTo_succ]; exact List.prefix_append _ _)
    · have : k = m + 1 := by omega
      subst this; exact List.prefix_refl _
end Go.Proofs.Ytbkfnajpbhfneaa

/- Plain facts: the error of a house, as the program comes to it; sizes multiplied. -/
namespace Go.Proofs.Ytbkfnajpbhfneaa
def LimB (c : Hou) : Prop := 4 < c.clocks.length ∨ 6 < c.tickets.length ∨ 10 < c.clips.length
def BadB (c : Hou) : Prop := inB c.hour 1 120 = false ∨ inB c.grace 0 60 = false ∨ c.clocks.all clockOk = false ∨ c.tickets.all tickOk = false ∨ c.clips.all (clipOk c.clocks.length c.tickets.length) = false ∨
  (List.range c.tickets.length).all (ofOk c) = false
theorem range_getD_all {α : Type} (p : α → Bool) (d : α) : ∀ (l : List α), (List.range l.length).all (fun i => p (l.getD i d)) = l.all p := fun l => by
  rw [Bool.eq_iff_iff, List.all_eq_true, List.all_eq_true]
  constructor
  · intro h x hx
    obtain ⟨i, hi⟩ := List.getElem?_of_mem hx
    have := h i (by simpa using (List.getElem?_eq_some_iff.1 hi).1)
    rw [List.getD_eq_getElem?_getD, hi] at this
    exact this
  · intro h i hi
    have hlt : i < l.length := by simpa using hi
    rw [List.getD_eq_getElem?_getD, List.getElem?_eq_getElem hlt]
    exact h _ (List.getElem_mem hlt)
theorem all_and {α : Type} (p q : α → Bool) : ∀ (l : List α), l.all (fun x => p x && q x) = (l.all p && l.all q)
  | [] => rfl
  | x :: l => by simp only [List.all_cons, all_and p q l]; cases p x <;> cases q x <;> simp
theorem ticks_all (c : Hou) : (List.range c.tickets.length).all (fun i => tickOk (tickAt c i) && ofOk c i) = (c.tickets.all tickOk && (List.range c.tickets.length).all (ofOk c)) := by
  rw [all_and]
  congr 1
  exact range_getD_all tickOk default c.tickets
theorem fault_lim {c : Hou} (h : LimB c) : fault c = 3 := by unfold LimB at h; unfold fault; rw [if_pos h]
theorem fault_one {c : Hou} (hl : ¬ LimB c) (h : BadB c) : fault c = 1 := by
  unfold LimB at hl
  unfold fault
  rw [if_neg hl, ticks_all]
  by_cases h1 : inB c.hour 1 120 = false ∨ inB c.grace 0 60 = false
  · rw [if_pos h1]
  · rw [if_neg h1]
    by_cases h2 : c.clocks.all clockOk = false
    · rw [if_pos h2]
    · rw [if_neg h2]
      by_cases h3 : c.clips.all (clipOk c.clocks.length c.tickets.length) = false
      · rw [if_pos h3]
      · rw [if_neg h3, if_pos]
        rw [Bool.and_eq_false_iff]
        rcases h with h | h | h | h | h | h
        · exact absurd (Or.inl h) h1
        · exact absurd (Or.inr h) h1
        · exact absurd h h2
        · exact .inl h
        · exact absurd h h3
        · exact .inr h
theorem fault_many {c : Hou} (hl : ¬ LimB c) (h1 : inB c.hour 1 120 = true) (h2 : inB c.grace 0 60 = true) (h3 : c.clocks.all clockOk = true) (h4 : c.tickets.all tickOk = true)
    (h5 : c.clips.all (clipOk c.clocks.length c.tickets.length) = true) (h6 : (List.range c.tickets.length).all (ofOk c) = true) : fault c = if 2000 < many c then 3 else 0 := by
  unfold LimB at hl
  unfold fault
  rw [if_neg hl, ticks_all, if_neg (by simp [h1, h2]), if_neg (by simp [h3]), if_neg (by simp [h5]), if_neg (by rw [h4, h6]; simp)]
theorem fault_zero {c : Hou} (h : fault c = 0) : ¬ LimB c ∧ ¬ BadB c ∧ many c ≤ 2000 := by
  have hl : ¬ LimB c := fun k => by rw [fault_lim k] at h; omega
  have hn : ¬ BadB c := fun k => by rw [fault_one hl k] at h; omega
  refine ⟨hl, hn, ?_⟩
  unfold BadB at hn
  simp only [not_or, Bool.not_eq_false] at hn
  rw [fault_many hl hn.1 hn.2.1 hn.2.2.1 hn.2.2.2.1 hn.2.2.2.2.1 hn.2.2.2.2.2] at h
  split at h <;> omega
theorem fault_cases (c : Hou) : fault c = 0 ∨ fault c = 1 ∨ fault c = 3 := by
  by_cases hl : LimB c
  · exact .inr (.inr (fault_lim hl))
  · by_cases hb : BadB c
    · exact .inr (.inl (fault_one hl hb))
    · unfold BadB at hb
      simp only [not_or, Bool.not_eq_false] at hb
      rw [fault_many hl hb.1 hb.2.1 hb.2.2.1 hb.2.2.2.1 hb.2.2.2.2.1 hb.2.2.2.2.2]
      split <;> simp
theorem clockOk_range {r : Int × Int} (h : clockOk r = true) : -30 ≤ r.1 ∧ r.1 ≤ r.2 ∧ r.2 ≤ 30 := by
  simp [clockOk] at h; omega
theorem okH_of_fault {c : Hou} (h : fault c = 0) : OkH c := by
  obtain ⟨hl, hb, _⟩ := fault_zero h
  unfold LimB at hl
  unfold BadB at hb
  simp only [not_or, Bool.not_eq_false] at hb
  obtain ⟨h1, h2, h3, h4, h5, h6⟩ := hb
  simp [inB] at h1 h2
  refine ⟨by omega, by omega, by omega, h1, h2, fun r hr => clockOk_range (List.all_eq_true.1 h3 r hr), fun t ht => ?_, fun x hx => ?_, fun i hi => ?_⟩
  · have := List.all_eq_true.1 h4 t ht
    simp [tickOk, inB] at this; omega
  · have := List.all_eq_true.1 h5 x hx
    simp [clipOk, inB] at this; omega
  · have := List.all_eq_true.1 h6 i (by simpa using hi)
    simpa [ofOk] using this
theorem many_le {c : Hou} (h : fault c = 0) : many c ≤ 2000 := (fault_zero h).2.2

def prodTo (l : List (Int × Int)) : Int := l.foldl (fun n r => n * sizeR r) 1
theorem prod_aux {l : List (Int × Int)} (ok : ∀ h ∈ l, 1 ≤ sizeR h ∧ sizeR h ≤ 61) (a b : Int) (ha : 1 ≤ a) (hb : b = min 3000 a) :
    1 ≤ l.foldl (fun n h => n * sizeR h) a ∧ l.foldl (fun n h => min 3000 (n * sizeR h)) b = min 3000 (l.foldl (fun n h => n * sizeR h) a) := by
  induction l generalizing a b with
  | nil => exact ⟨ha, hb⟩
  | cons h l ih =>
    have o := ok h List.mem_cons_self
    have h1 : 1 * 1 ≤ a * sizeR h := Int.mul_le_mul (by omega) (by omega) (by omega) (by omega)
    refine ih (fun x hx => ok x (List.mem_cons_of_mem _ hx)) (a * sizeR h) (min 3000 (b * sizeR h)) (by omega) ?_
    subst hb
    rcases Int.le_total a 3000 with hle | hge
    · rw [Int.min_eq_right hle]
    · rw [Int.min_eq_left hge]
      have h2 : 3000 * 1 ≤ 3000 * sizeR h := Int.mul_le_mul (by omega) (by omega) (by omega) (by omega)
      have h3 : 3000 * 1 ≤ a * sizeR h := Int.mul_le_mul (by omega) (by omega) (by omega) (by omega)
      omega
theorem size_ok {l : List (Int × Int)} (ok : ∀ h ∈ l, -30 ≤ h.1 ∧ h.1 ≤ h.2 ∧ h.2 ≤ 30) : ∀ h ∈ l, 1 ≤ sizeR h ∧ sizeR h ≤ 61 := fun h hh => by have := ok h hh; unfold sizeR; omega
theorem many_prod {c : Hou} (ok : ∀ h ∈ c.clocks, -30 ≤ h.1 ∧ h.1 ≤ h.2 ∧ h.2 ≤ 30) : many c = min 3000 (prodTo c.clocks) :=
  (prod_aux (l := c.clocks) (size_ok ok) 1 1 (by omega) (by omega)).2
theorem prodTo_take {l : List (Int × Int)} {j : Nat} {x : Int × Int} (hx : l[j]? = some x) : prodTo (l.take (j + 1)) = prodTo (l.take j) * sizeR x := by
  unfold prodTo
  rw [List.take_add_one, hx, Option.toList_some, List.foldl_append]; rfl
/-- the program's product: cut at 2001 -/
def cutTo (l : List (Int × Int)) : Int := l.foldl (fun n r => min (n * sizeR r) 2001) 1
theorem cutTo_take {l : List (Int × Int)} {j : Nat} {x : Int × Int} (hx : l[j]? = some x) : cutTo (l.take (j + 1)) = min (cutTo (l.take j) * sizeR x) 2001 := by
  unfold cutTo
  rw [List.take_add_one, hx, Option.toList_some, List.foldl_append]; rfl
theorem cut_aux {l : List (Int × Int)} (ok : ∀ h ∈ l, 1 ≤ sizeR h ∧ sizeR h ≤ 61) (a b : Int) (ha : 1 ≤ a) (hb : b = min a 2001) :
    l.foldl (fun n h => min (n * sizeR h) 2001) b = min (l.foldl (fun n h => n * sizeR h) a) 2001 := by
  induction l generalizing a b with
  | nil => exact hb
  | cons h l ih =>
    have o := ok h List.mem_cons_self
    have h1 : 1 * 1 ≤ a * sizeR h := Int.mul_le_mul (by omega) (by omega) (by omega) (by omega)
    refine ih (fun x hx => ok x (List.mem_cons_of_mem _ hx)) (a * sizeR h) (min (b * sizeR h) 2001) (by omega) ?_
    subst hb
    rcases Int.le_total a 2001 with hle | hge
    · rw [Int.min_eq_left hle]
    · rw [Int.min_eq_right hge]
      have h2 : 2001 * 1 ≤ 2001 * sizeR h := Int.mul_le_mul (by omega) (by omega) (by omega) (by omega)
      have h3 : 2001 * 1 ≤ a * sizeR h := Int.mul_le_mul (by omega) (by omega) (by omega) (by omega)
      omega
theorem cutTo_range {l : List (Int × Int)} (ok : ∀ h ∈ l, -30 ≤ h.1 ∧ h.1 ≤ h.2 ∧ h.2 ≤ 30) : 1 ≤ cutTo l ∧ cutTo l ≤ 2001 := by
  have h1 := (prod_aux (size_ok ok) 1 1 (by omega) (by omega)).1
  have h2 := cut_aux (size_ok ok) 1 1 (by omega) (by omega)
  unfold cutTo; omega
theorem cut_many {c : Hou} (ok : ∀ h ∈ c.clocks, -30 ≤ h.1 ∧ h.1 ≤ h.2 ∧ h.2 ≤ 30) : 2000 < cutTo c.clocks ↔ 2000 < many c := by
  have h1 := many_prod ok
  have h2 := cut_aux (size_ok ok) 1 1 (by omega) (by omega)
  unfold cutTo; unfold prodTo at h1; omega
end Go.Proofs.Ytbkfnajpbhfneaa

/- The two enumerations of errors of the clocks are permutations of each other; the program's truths are those of the reference, in another order. -/
namespace Go.Proofs.Ytbkfnajpbhfneaa

def pad4 (d : List Int) : List Int := [d.getD 0 0, d.getD 1 0, d.getD 2 0, d.getD 3 0]
/-! ### rising, as the program steps through the clips -/
def risP (d out : List Int) : Nat → List Cp → Option Int → Bool
  | _, [], _ => true
  | i, x :: l, last => if out.contains (i : Int) then risP d out (i + 1) l last else
    (match last with
      | none => true
      | some m => decide (m ≤ minuteC d x)) && risP d out (i + 1) l (some (minuteC d x))
def rightP (c : Hou) (d out : List Int) : Bool := risP d out 0 c.clips none
theorem risP_iff (d out : List Int) : ∀ (l : List Cp) (i : Nat) (last : Option Int), risP d out i l last = true ↔
    (∀ (j : Nat) (x : Cp), l[j]? = some x → ¬ (((i + j : Nat) : Int) ∈ out) → ∀ m, last = some m → m ≤ minuteC d x) ∧
    (∀ (j k : Nat) (x y : Cp), j < k → l[j]? = some x → l[k]? = some y → ¬ (((i + j : Nat) : Int) ∈ out) → ¬ (((i + k : Nat) : Int) ∈ out) → minuteC d x ≤ minuteC d y)
  | [], i, last => by simp [risP]
  | x :: l, i, last => by
    have ih := fun last => risP_iff d out l (i + 1) last
    have key : ∀ {P : Nat → Cp → Prop}, (∀ (j : Nat) (y : Cp), (x :: l)[j]? = some y → P j y) ↔ P 0 x ∧ ∀ (j : Nat) (y : Cp), l[j]? = some y → P (j + 1) y := fun {P} => by
      constructor
      · intro h; exact ⟨h 0 x rfl, fun j y hy => h (j + 1) y (by simpa using hy)⟩
      · rintro ⟨h0, h1⟩ j y hy
        cases j with
        | zero => simp at hy; subst hy; exact h0
        | succ j => exact h1 j y (by simpa using hy)
    have e1 : ∀ j, i + (j + 1) = i + 1 + j := fun j => by omega
    unfold risP
    by_cases hm : ((i : Nat) : Int) ∈ out
    · rw [if_pos (List.contains_iff_mem.2 hm), ih]
      constructor
      · rintro ⟨h1, h2⟩
        refine ⟨key.2 ⟨fun hn => absurd hm (by simpa using hn), fun j y hy hn => h1 j y hy (by rw [← e1]; exact hn)⟩, ?_⟩
        intro j k y z hjk hy hz hnj hnk
        cases j with
        | zero => exact absurd hm (by simpa using hnj)
        | succ j =>
          cases k with
          | zero => omega
          | succ k => exact h2 j k y z (by omega) (by simpa using hy) (by simpa using hz) (by rw [← e1]; exact hnj) (by rw [← e1]; exact hnk)
      · rintro ⟨h1, h2⟩
        refine ⟨fun j y hy hn => h1 (j + 1) y (by simpa using hy) (by rw [e1]; exact hn), fun j k y z hjk hy hz hnj hnk => h2 (j + 1) (k + 1) y z (by omega) (by simpa using hy) (by simpa using hz) (by rw [e1]; exact hnj) (by rw [e1]; exact hnk)⟩
    · rw [if_neg (by rw [List.contains_iff_mem]; exact hm), Bool.and_eq_true, ih]
      constructor
      · rintro ⟨h0, h1, h2⟩
        have h0' : ∀ m, last = some m → m ≤ minuteC d x := fun m e => by subst e; simpa using h0
        refine ⟨key.2 ⟨fun _ => h0', fun j y hy hn m e => Int.le_trans (h0' m e) (h1 j y hy (by rw [← e1]; exact hn) _ rfl)⟩, ?_⟩
        intro j k y z hjk hy hz hnj hnk
        cases k with
        | zero => omega
        | succ k =>
          cases j with
          | zero => simp at hy; subst hy; exact h1 k z (by simpa using hz) (by rw [← e1]; exact hnk) _ rfl
          | succ j => exact h2 j k y z (by omega) (by simpa using hy) (by simpa using hz) (by rw [← e1]; exact hnj) (by rw [← e1]; exact hnk)
      · rintro ⟨h1, h2⟩
        refine ⟨?_, fun j y hy hn m e => ?_, fun j k y z hjk hy hz hnj hnk => h2 (j + 1) (k + 1) y z (by omega) (by simpa using hy) (by simpa using hz) (by rw [e1]; exact hnj) (by rw [e1]; exact hnk)⟩
        · cases last with
          | none => rfl
          | some m => simpa using h1 0 x rfl (by simpa using hm) m rfl
        · injection e with e; subst e
          exact h2 0 (j + 1) x y (by omega) rfl (by simpa using hy) (by simpa using hm) (by rw [e1]; exact hn)
theorem getD_pad4 (d : List Int) {i : Nat} (h : i < 4) : (pad4 d).getD i 0 = d.getD i 0 := by
  have : i = 0 ∨ i = 1 ∨ i = 2 ∨ i = 3 := by omega
  rcases this with rfl | rfl | rfl | rfl <;> rfl
theorem minuteC_pad4 {c : Hou} (ok : OkH c) (d : List Int) {x : Cp} (hx : x ∈ c.clips) : minuteC (pad4 d) x = minuteC d x := by
  have := ok.clip x hx
  have := ok.n1
  unfold minuteC
  rw [getD_pad4 d (by omega)]
theorem rightP_iff {c : Hou} (ok : OkH c) {d : List Int} (out : List Int) : rightP c (pad4 d) out = true ↔
    ∀ j k, j < k → k < c.clips.length → ¬ (j : Int) ∈ out → ¬ (k : Int) ∈ out → trueM c d j ≤ trueM c d k := by
  unfold rightP
  rw [risP_iff]
  simp only [Nat.zero_add]
  constructor
  · rintro ⟨_, h⟩ j k hjk hk hj hk2
    have hx := List.getElem?_eq_getElem (l := c.clips) (i := j) (by omega)
    have hy := List.getElem?_eq_getElem (l := c.clips) (i := k) hk
    have := h j k _ _ hjk hx hy hj hk2
    rw [minuteC_pad4 ok d (List.getElem_mem _), minuteC_pad4 ok d (List.getElem_mem _)] at this
    unfold trueM
    rw [clipAt_of hx, clipAt_of hy]; exact this
  · intro h
    refine ⟨fun j x _ _ m e => (by cases e), fun j k x y hjk hx hy hj hk2 => ?_⟩
    have hk := (List.getElem?_eq_some_iff.1 hy).1
    have := h j k hjk hk hj hk2
    unfold trueM at this
    rw [clipAt_of hx, clipAt_of hy] at this
    rw [minuteC_pad4 ok d (List.mem_of_getElem? hx), minuteC_pad4 ok d (List.mem_of_getElem? hy)]
    exact this
theorem risingR_iff (c : Hou) (d : List Int) (bits : Nat) : risingR c d bits = true ↔ ∀ j k, j < k → k < c.clips.length → bits.testBit j = true → bits.testBit k = true → trueM c d j ≤ trueM c d k := by
  unfold risingR
  simp only [List.all_eq_true, List.mem_range, Bool.not_eq_true', Bool.and_eq_false_iff, decide_eq_false_iff_not]
  constructor
  · intro h j k hjk hk hj hk2
    rcases h k hk j hjk with (h1 | h1) | h1
    · rw [h1] at hk2; cases hk2
    · rw [h1] at hj; cases hj
    · omega
  · intro h k hk j hjk
    cases hb : bits.testBit k with
    | false => exact .inl (.inl rfl)
    | true =>
      cases ha : bits.testBit j with
      | false => exact .inl (.inr rfl)
      | true => have := h j k hjk hk ha hb; exact .inr (by omega)
theorem rising_mask {c : Hou} (ok : OkH c) {d : List Int} {bits : Nat} {out : List Int} (h : ∀ j, j < c.clips.length → (bits.testBit j = true ↔ ¬ (j : Int) ∈ out)) : risingR c d bits = rightP c (pad4 d) out := by
  rw [Bool.eq_iff_iff, risingR_iff, rightP_iff ok]
  constructor
  · intro h1 j k hjk hk hj hk2
    exact h1 j k hjk hk ((h j (by omega)).2 hj) ((h k hk).2 hk2)
  · intro h1 j k hjk hk hj hk2
    exact h1 j k hjk hk ((h j (by omega)).1 hj) ((h k hk).1 hk2)
theorem full_testBit (c : Hou) (i : Nat) : (full c).testBit i = decide (i < c.clips.length) := by
  unfold full; rw [Nat.testBit_two_pow_sub_one]
theorem rightP_full {c : Hou} (ok : OkH c) (d : List Int) : rightP c (pad4 d) [] = risingR c d (full c) := by
  refine (rising_mask ok fun j hj => ?_).symm
  rw [full_testBit]; simp [hj]

theorem perm_flatMap_cons {α β : Type} (l : List α) (g : α → β) (h : α → List β) : List.Perm (l.flatMap fun x => g x :: h x) (l.map g ++ l.flatMap h) := by
  induction l with
  | nil => exact List.Perm.refl _
  | cons a l ih =>
    simp only [List.flatMap_cons, List.map_cons, List.cons_append]
    refine List.Perm.cons _ ?_
    refine (List.Perm.append_left (h a) ih).trans ?_
    rw [← List.append_assoc, ← List.append_assoc]
    exact List.Perm.append_right _ List.perm_append_comm
theorem perm_swap {α β γ : Type} (f : α → β → γ) (l : List α) (m : List β) : List.Perm (l.flatMap fun x => m.map (f x)) (m.flatMap fun y => l.map fun x => f x y) := by
  induction l with
  | nil => simp
  | cons a l ih =>
    simp only [List.flatMap_cons, List.map_cons]
    exact (List.Perm.append_left _ ih).trans (perm_flatMap_cons m (f a) _).symm
theorem range_mul_ (s m : Nat) : List.range (s * m) = (List.range m).flatMap fun j => (List.range s).map fun i => i + s * j := by
  induction m with
  | zero => simp
  | succ m ih =>
    rw [Nat.mul_succ, List.range_add, ih, List.range_succ, List.flatMap_append]
    congr 1
    simp only [List.flatMap_cons, List.flatMap_nil, List.append_nil]
    apply List.map_congr_left
    intro i _
    omega

def sizeN (h : (Int × Int)) : Nat := (h.2 - h.1 + 1).toNat
def prodN : List (Int × Int) → Nat
  | [] => 1
  | h :: hs => sizeN h * prodN hs
theorem err_perm : ∀ (hs : List (Int × Int)), (∀ h ∈ hs, h.1 ≤ h.2) → List.Perm (errAll hs) ((List.range (prodN hs)).map fun (n : Nat) => nth hs n)
  | [], _ => by simp [errAll, prodN, nth]
  | h :: hs, ok => by
    have e : (List.range (prodN (h :: hs))).map (fun (n : Nat) => nth (h :: hs) n) = (List.range (prodN hs)).flatMap fun (j : Nat) => (List.range (sizeN h)).map fun (i : Nat) => (h.1 + (i : Int)) :: nth hs (j : Int) := by
      rw [prodN, range_mul_, List.map_flatMap]
      congr 1
      funext j
      rw [List.map_map]
      apply List.map_congr_left
      intro i hi
      have hi' : i < sizeN h := by simpa using hi
      have hs1 : sizeR h = (sizeN h : Int) := by unfold sizeR sizeN; have := ok h List.mem_cons_self; omega
      have e1 : ((i + sizeN h * j : Nat) : Int) % (sizeN h : Int) = i := by
        rw [← Int.natCast_emod, Nat.add_mul_mod_self_left, Nat.mod_eq_of_lt hi']
      have e2 : ((i + sizeN h * j : Nat) : Int) / (sizeN h : Int) = j := by
        rw [← Int.natCast_ediv, Nat.add_mul_div_left _ _ (by omega), Nat.div_eq_of_lt hi', Nat.zero_add]
      simp only [Function.comp, nth, hs1, e1, e2]
    rw [e]
    have e3 : errAll (h :: hs) = (List.range (sizeN h)).flatMap fun (i : Nat) => (errAll hs).map ((h.1 + (i : Int)) :: ·) := by
      simp only [errAll, rangeL, sizeN, List.flatMap_map]
    rw [e3]
    refine (perm_swap (fun (i : Nat) d => (h.1 + (i : Int)) :: d) _ _).trans ?_
    have ih := List.Perm.flatMap_right (fun d => (List.range (sizeN h)).map fun (i : Nat) => (h.1 + (i : Int)) :: d) (err_perm hs fun x hx => ok x (List.mem_cons_of_mem _ hx))
    rw [List.flatMap_map] at ih
    exact ih
theorem prodN_foldl : ∀ (l : List (Int × Int)) (a : Int), (∀ h ∈ l, h.1 ≤ h.2) → l.foldl (fun n h => n * sizeR h) a = a * (prodN l : Int)
  | [], a, _ => by simp [prodN]
  | h :: l, a, ok => by
    have hs1 : sizeR h = (sizeN h : Int) := by unfold sizeR sizeN; have := ok h List.mem_cons_self; omega
    rw [List.foldl_cons, prodN_foldl l _ fun x hx => ok x (List.mem_cons_of_mem _ hx), prodN, hs1, Int.natCast_mul, Int.mul_assoc]
theorem many_prodN {c : Hou} (hf : fault c = 0) : (many c).toNat = prodN c.clocks := by
  have ok := okH_of_fault hf
  have hz := many_le hf
  have h1 := many_prod (c := c) fun h hh => by have := ok.clock h hh; omega
  have h2 : prodTo c.clocks = (prodN c.clocks : Int) := by
    unfold prodTo
    rw [prodN_foldl _ _ fun h hh => by have := ok.clock h hh; omega]
    omega
  omega
theorem allErr_perm {c : Hou} (hf : fault c = 0) : List.Perm (errAll c.clocks) (allErr c) := by
  have ok := okH_of_fault hf
  unfold allErr
  rw [many_prodN hf]
  exact err_perm _ fun h hh => by have := ok.clock h hh; omega

theorem rangeL_nodup (lo hi : Int) : (rangeL lo hi).Pairwise (· ≠ ·) := by
  unfold rangeL
  rw [List.pairwise_map]
  exact List.pairwise_lt_range.imp fun {a b} h => by omega
theorem errAll_nodup : ∀ (hs : List (Int × Int)), (errAll hs).Pairwise (· ≠ ·)
  | [] => by simp [errAll]
  | h :: hs => by
    rw [errAll, List.pairwise_flatMap]
    refine ⟨fun x _ => ?_, ?_⟩
    · rw [List.pairwise_map]
      exact (errAll_nodup hs).imp fun {a b} hab e => hab (List.cons.inj e).2
    · refine (rangeL_nodup h.1 h.2).imp fun {a b} hab x hx y hy e => ?_
      obtain ⟨x', _, rfl⟩ := List.mem_map.1 hx
      obtain ⟨y', _, rfl⟩ := List.mem_map.1 hy
      exact hab (List.cons.inj e).1
theorem errAll_err : ∀ (hs : List (Int × Int)), ∀ d ∈ errAll hs, areErrors hs d = true
  | [], d, h => by simp [errAll] at h; subst h; rfl
  | h :: hs, d, hd => by
    simp only [errAll, List.mem_flatMap, List.mem_map, rangeL, List.mem_range] at hd
    obtain ⟨x, ⟨i, hi, rfl⟩, d', hd', rfl⟩ := hd
    simp only [areErrors, errAll_err hs d' hd', Bool.and_true, inB, Bool.and_eq_true, decide_eq_true_eq]
    omega
theorem errAll_isErr (c : Hou) : ∀ d ∈ errAll c.clocks, IsErr c d := fun d hd => (isErr_iff c d).1 (errAll_err _ d hd)

/-! ### the program's truths -/
def keepStep (c : Hou) (acc : List (List Int)) (d : List Int) : List (List Int) :=
  if rightP c (pad4 d) [] = true ∧ (acc = [] ∨ pad4 (acc.getLastD []) ≠ pad4 d) then acc ++ [d] else acc
def truthsP (c : Hou) : List (List Int) := (errAll c.clocks).foldl (keepStep c) []

theorem pad4_inj {a b : List Int} (h : a.length = b.length) (h4 : a.length ≤ 4) (e : pad4 a = pad4 b) : a = b := by
  apply List.ext_getElem h
  intro i h1 h2
  simp only [pad4, List.cons.injEq] at e
  have : i = 0 ∨ i = 1 ∨ i = 2 ∨ i = 3 := by omega
  have key : a.getD i 0 = b.getD i 0 := by
    rcases this with rfl | rfl | rfl | rfl
    · exact e.1
    · exact e.2.1
    · exact e.2.2.1
    · exact e.2.2.2.1
  rw [List.getD_eq_getElem?_getD, List.getD_eq_getElem?_getD, List.getElem?_eq_getElem h1, List.getElem?_eq_getElem h2] at key
  simpa using key
theorem keep_filter (c : Hou) (hl : c.clocks.length ≤ 4) : ∀ (l acc : List (List Int)), (∀ d ∈ l, d.length = c.clocks.length) → (∀ d ∈ acc, d.length = c.clocks.length) → l.Pairwise (· ≠ ·) → (∀ d ∈ l, ∀ a ∈ acc, a ≠ d) →
    l.foldl (keepStep c) acc = acc ++ l.filter fun d => rightP c (pad4 d) []
  | [], acc, _, _, _, _ => by simp
  | d :: l, acc, h1, h2, h3, h4 => by
    have hd := h1 d List.mem_cons_self
    have hp := List.pairwise_cons.1 h3
    have hne : acc = [] ∨ pad4 (acc.getLastD []) ≠ pad4 d := by
      rcases List.eq_nil_or_concat acc with h | ⟨a, x, h⟩
      · exact .inl h
      · right
        intro e
        have hx : x ∈ acc := by rw [h]; simp
        have hlx := h2 x hx
        have e2 : acc.getLastD [] = x := by rw [h]; simp
        rw [e2] at e
        exact h4 d List.mem_cons_self x hx (pad4_inj (by omega) (by omega) e)
    rw [List.foldl_cons]
    cases hr : rightP c (pad4 d) [] with
    | true =>
      have e : keepStep c acc d = acc ++ [d] := by unfold keepStep; rw [if_pos ⟨hr, hne⟩]
      rw [e, keep_filter c hl l _ (fun x hx => h1 x (List.mem_cons_of_mem _ hx)) (fun x hx => by
        rcases List.mem_append.1 hx with h | h
        · exact h2 x h
        · simp at h; subst h; exact hd) hp.2 (fun x hx a ha => by
        rcases List.mem_append.1 ha with h | h
        · exact h4 x (List.mem_cons_of_mem _ hx) a h
        · simp at h; subst h; exact hp.1 x hx), List.filter_cons_of_pos (by simpa using hr)]
      simp
    | false =>
      have e : keepStep c acc d = acc := by unfold keepStep; rw [if_neg (by simp [hr])]
      rw [e, keep_filter c hl l _ (fun x hx => h1 x (List.mem_cons_of_mem _ hx)) h2 hp.2 (fun x hx a ha => h4 x (List.mem_cons_of_mem _ hx) a ha), List.filter_cons_of_neg (by simp [hr])]
theorem truthsP_filter {c : Hou} (ok : OkH c) : truthsP c = (errAll c.clocks).filter fun d => rightP c (pad4 d) [] := by
  have := keep_filter c ok.n1 (errAll c.clocks) [] (fun d hd => (errAll_isErr c d hd).len) (by simp) (errAll_nodup _) (by simp)
  simpa [truthsP] using this

theorem truthsP_perm {c : Hou} (hf : fault c = 0) : List.Perm (truthsP c) (truths c) := by
  have ok := okH_of_fault hf
  rw [truthsP_filter ok]
  unfold truths
  have e : (fun d => rightP c (pad4 d) []) = fun d => risingR c d (full c) := funext fun d => rightP_full ok d
  rw [e]
  exact (allErr_perm hf).filter _
theorem truthsP_isErr {c : Hou} (ok : OkH c) : ∀ d ∈ truthsP c, IsErr c d := fun d hd => by
  rw [truthsP_filter ok] at hd
  exact errAll_isErr c d (List.mem_filter.1 hd).1
end Go.Proofs.Ytbkfnajpbhfneaa

/- Words for memory: what a slice reads as, what lies in a range. -/
namespace Go.Proofs.Ytbkfnajpbhfneaa
open Go.RowKit

theorem hide {p : Prop} (h : p) : Hid p := h
theorem block_of_add (a : Addr) (n : Nat) : (a.add n).block = a.block := by unfold Addr.add; split <;> rfl
theorem add_of_add (a : Addr) (i j : Nat) : (a.add i).add j = a.add (i + j) := by
  unfold Addr.add
  by_cases hi : i = 0 <;> by_cases hj : j = 0 <;> simp [hi, hj, Nat.add_assoc]

/-- the slice value '.slice A n c' holds the cells xs ('size' cells an element), below block B -/
def Reads (w : World) (B size : Nat) (A : Option Addr) (n : Nat) (xs : List Value) : Prop :=
  xs.length = n * size ∧ (0 < n → ∃ ad, A = some ad ∧ ad.block < B ∧ ∀ j u, xs[j]? = some u → w.cell? (ad.add j) = some u)

section
variable {w w' : World} {B B' size n : Nat} {A : Option Addr} {xs : List Value}
theorem Reads.none_ : Reads w B size A 0 [] := ⟨by simp, fun h => absurd h (by omega)⟩
theorem Reads.keep (h : Reads w B size A n xs) (hk : ∀ p : Addr, p.block < B → w'.cell? p = w.cell? p) : Reads w' B size A n xs :=
  ⟨h.1, fun hn => by
    obtain ⟨ad, e, hb, hc⟩ := h.2 hn
    exact ⟨ad, e, hb, fun j u hu => (hk _ (by rw [block_of_add]; exact hb)).trans (hc j u hu)⟩⟩
theorem Reads.more (h : Reads w B size A n xs) (hB : B ≤ B') : Reads w B' size A n xs :=
  ⟨h.1, fun hn => by
    obtain ⟨ad, e, hb, hc⟩ := h.2 hn
    exact ⟨ad, e, by omega, hc⟩⟩
theorem Reads.below (h : Reads w B size A n xs) (hb : Below B w w') : Reads w' B size A n xs := h.keep fun _ hp => hb.cell hp
theorem Reads.drew (h : Reads w B size A n xs) : Reads w.drew B size A n xs := h
theorem Reads.drewN (h : Reads w B size A n xs) (k : Nat) : Reads (w.drewN k) B size A n xs := h
theorem Reads.alloc (h : Reads w B size A n xs) (hB : B ≤ w.heap.size) (o : Obj) : Reads (w.alloc o) B size A n xs := h.keep fun p hp => World.cell?_alloc_lt w o p (by omega)
theorem Reads.setCell (h : Reads w B size A n xs) {p : Addr} (hB : B ≤ p.block) (u : Value) : Reads (w.setCell p u) B size A n xs :=
  h.keep fun q hq => World.cell?_setCell_other w p q u (fun e => by subst e; omega)
theorem Reads.grown (h : Reads w B size A n xs) {row : Option Nat} (hg : w.grownBy w' row) (hB : B ≤ w.heap.size) (hr : ∀ g, row = some g → B ≤ g) : Reads w' B size A n xs :=
  h.keep fun p hp => World.cell?_of_block (hg.block p.block (by omega) (fun e => by have := hr _ e.symm; omega))
theorem Reads.of_own {base : Nat} {e : TypeId} {c : Nat} (h : w.ownsRow base e size (.slice A n c) n xs) : Reads w w.heap.size size A n xs := by
  refine ⟨h.1, fun hn => ?_⟩
  obtain ⟨g, cap, hv, _, hlt⟩ := h.form hn
  have hA : A = some ⟨g, 0, none⟩ := by injection hv
  subst hA
  exact ⟨_, rfl, hlt, h.cells (g := g) rfl⟩
theorem Reads.at_ {k : Nat} (h : Reads w B 1 A n xs) (hk : k < n) : ∃ ad u, A = some ad ∧ ad.block < B ∧ xs[k]? = some u ∧ w.cell? (ad.add k) = some u := by
  obtain ⟨ad, e, hb, hc⟩ := h.2 (by omega)
  have hl : k < xs.length := by have := h.1; omega
  exact ⟨ad, xs[k], e, hb, List.getElem?_eq_getElem hl, hc k _ (List.getElem?_eq_getElem hl)⟩
end

/-! ### lists of numbers, of pairs, of clips, as cells -/
def i64 (n : Int) : Prop := -9223372036854775808 ≤ n ∧ n ≤ 9223372036854775807
def ints (l : List Int) : List Value := l.map (Value.int .i64)
def pairC (h : Int × Int) : List Value := [.int .i64 h.1, .int .i64 h.2]
def pairsV (l : List (Int × Int)) : List Value := l.flatMap pairC
def Cp.cells (h : Cp) : List Value := [.int .i64 h.ticket, .int .i64 h.clock, .int .i64 h.minute]
def clipsV (l : List Cp) : List Value := l.flatMap Cp.cells

theorem ints_length (l : List Int) : (ints l).length = l.length := by simp [ints]
theorem flat_length {α : Type} (f : α → List Value) (size : Nat) (hf : ∀ x, (f x).length = size) (l : List α) : (l.flatMap f).length = l.length * size := by
  induction l with
  | nil => simp
  | cons h l ih => simp only [List.flatMap_cons, List.length_append] at ih ⊢; rw [ih, hf, List.length_cons, Nat.succ_mul, Nat.add_comm]
theorem flat_get {α : Type} (f : α → List Value) (size : Nat) (hf : ∀ x, (f x).length = size) (l : List α) (k j : Nat) (x : α) (h : l[k]? = some x) (hj : j < size) : (l.flatMap f)[k * size + j]? = (f x)[j]? := by
  induction l generalizing k with
  | nil => simp at h
  | cons y l ih =>
    cases k with
    | zero =>
      simp at h; subst h
      simp only [List.flatMap_cons]
      rw [List.getElem?_append_left (by rw [hf]; omega)]; simp
    | succ k =>
      simp only [List.flatMap_cons]
      have h2 : (k + 1) * size = k * size + size := Nat.succ_mul k size
      rw [List.getElem?_append_right (by rw [hf]; omega), hf]
      have : (k + 1) * size + j - size = k * size + j := by omega
      rw [this]
      exact ih k (by simpa using h)
theorem pairsV_length (l : List (Int × Int)) : (pairsV l).length = l.length * 2 := flat_length _ 2 (fun _ => rfl) l
theorem clipsV_length (l : List Cp) : (clipsV l).length = l.length * 3 := flat_length _ 3 (fun _ => rfl) l
theorem pairsV_get (l : List (Int × Int)) (k j : Nat) (x : Int × Int) (h : l[k]? = some x) (hj : j < 2) : (pairsV l)[k * 2 + j]? = (pairC x)[j]? := flat_get _ 2 (fun _ => rfl) l k j x h hj
theorem clipsV_get (l : List Cp) (k j : Nat) (x : Cp) (h : l[k]? = some x) (hj : j < 3) : (clipsV l)[k * 3 + j]? = x.cells[j]? := flat_get _ 3 (fun _ => rfl) l k j x h hj
theorem pairsV_snoc (l : List (Int × Int)) (x : Int × Int) : pairsV (l ++ [x]) = pairsV l ++ pairC x := by simp [pairsV]
theorem clipsV_snoc (l : List Cp) (x : Cp) : clipsV (l ++ [x]) = clipsV l ++ x.cells := by simp [clipsV]

section
variable {w w' : World} {B B' size n : Nat} {A : Option Addr}
theorem Reads.nI {l : List Int} (h : Reads w B 1 A n (ints l)) : n = l.length := by have := h.1; rw [ints_length] at this; omega
theorem Reads.nP {l : List (Int × Int)} (h : Reads w B 2 A n (pairsV l)) : n = l.length := by have := h.1; rw [pairsV_length] at this; omega
theorem Reads.nC {l : List Cp} (h : Reads w B 3 A n (clipsV l)) : n = l.length := by have := h.1; rw [clipsV_length] at this; omega
end
/-! ### later worlds: all that lay when the base world stood lies as it lay -/
def Later (w W : World) : Prop := Below w.heap.size w W
theorem later_refl (w : World) : Later w w := Below.refl _ _
theorem later_alloc {w W : World} (h : Later w W) (o : Obj) : Later w (W.alloc o) := Below.alloc h h.size o
theorem later_drew {w W : World} (h : Later w W) : Later w W.drew := Below.drew h
theorem later_drewN {w W : World} (h : Later w W) (n : Nat) : Later w (W.drewN n) := ⟨h.os, h.tape, h.output, h.size, h.block⟩
theorem later_set {w W : World} (h : Later w W) (a : Addr) (hp : w.heap.size ≤ a.block) (u : Value) : Later w (W.setCell a u) := Below.setCell h hp u
theorem Later.trans {a b c : World} (h : Later a b) (k : Later b c) : Later a c := Below.trans h (Below.mono k h.size)
theorem Later.grown {a b c : World} {row : Option Nat} (h : Later a b) (k : b.grownBy c row) (hr : ∀ g, row = some g → a.heap.size ≤ g) : Later a c := Below.grown h k h.size hr
theorem later_of_alloc {w W : World} {o : Obj} (h : Later (w.alloc o) W) : Later w W := Later.trans (later_alloc (later_refl w) o) h
theorem later_size {w W : World} (h : Later w W) : w.heap.size ≤ W.heap.size := h.size
theorem later_size_alloc {w W : World} {o : Obj} (h : Later (w.alloc o) W) : w.heap.size + 1 ≤ W.heap.size := by have := h.size; simpa using this
attribute [go_sem] later_refl later_alloc later_drew later_drewN later_set
attribute [simp] later_refl later_alloc later_drew later_drewN later_set

theorem box_cells (w : World) (cs : Array Value) (t : TypeId) (W : World) (h : Later (w.alloc (.cells cs t)) W) (i : Nat) : W.cell? ⟨w.heap.size, i, none⟩ = cs[i]? := by
  have := Below.cell h (p := ⟨w.heap.size, i, none⟩) (by simp)
  rw [this]
  exact cell_of_row _ _ i cs t (0, 0) (heap_alloc_new w _)

def RI (w : World) (A : Option Addr) (n : Nat) (l : List Int) : Prop := Reads w w.heap.size 1 A n (ints l)
def RP (w : World) (A : Option Addr) (n : Nat) (l : List (Int × Int)) : Prop := Reads w w.heap.size 2 A n (pairsV l)
def RC (w : World) (A : Option Addr) (n : Nat) (l : List Cp) : Prop := Reads w w.heap.size 3 A n (clipsV l)
section
variable {w W : World} {n : Nat} {A : Option Addr}
theorem Reads.later {size : Nat} {xs : List Value} (h : Reads w w.heap.size size A n xs) (k : Later w W) : Reads W W.heap.size size A n xs := (h.below k).more k.size
theorem RI.later {l : List Int} (h : RI w A n l) (k : Later w W) : RI W A n l := Reads.later h k
theorem RP.later {l : List (Int × Int)} (h : RP w A n l) (k : Later w W) : RP W A n l := Reads.later h k
theorem RC.later {l : List Cp} (h : RC w A n l) (k : Later w W) : RC W A n l := Reads.later h k
theorem RI.nil : RI w A 0 [] := ⟨by simp [ints], fun h => absurd h (by omega)⟩
theorem RI.len {l : List Int} (h : RI w A n l) : n = l.length := Reads.nI h
theorem RP.len {l : List (Int × Int)} (h : RP w A n l) : n = l.length := Reads.nP h
theorem RC.len {l : List Cp} (h : RC w A n l) : n = l.length := Reads.nC h
theorem RP.nil : RP w A 0 [] := ⟨by simp [pairsV], fun h => absurd h (by omega)⟩
theorem RC.nil : RC w A 0 [] := ⟨by simp [clipsV], fun h => absurd h (by omega)⟩
theorem cell_later {a : Addr} {v : Value} (h : w.cell? a = some v) (k : Later w W) (hb : a.block < w.heap.size) : W.cell? a = some v := (Below.cell k hb).trans h
theorem add_lit (b o j : Nat) : (⟨b, o, none⟩ : Addr).add j = ⟨b, o + j, none⟩ := by
  unfold Addr.add; split
  · subst_vars; rfl
  · rfl
theorem spot_none {ad : Addr} {j : Nat} {u : Value} (h : w.cell? ad = some u) : ad = ⟨ad.block, ad.off, none⟩ := by
  obtain ⟨b, o, s⟩ := ad
  cases s with
  | none => rfl
  | some x =>
    exfalso
    unfold World.cell? at h
    simp at h
    split at h <;> simp_all
theorem add_zero_ (ad : Addr) : ad.add 0 = ad := by unfold Addr.add; simp
theorem Reads.lit {B size : Nat} {xs : List Value} (h : Reads w B size A n xs) (hs : 0 < size) (hn : 0 < n) : ∃ b o, A = some ⟨b, o, none⟩ ∧ b < B ∧ ∀ j u, xs[j]? = some u → w.cell? ⟨b, o + j, none⟩ = some u := by
  obtain ⟨ad, e, hb, hc⟩ := h.2 hn
  have hl : 0 < xs.length := by rw [h.1]; exact Nat.mul_pos hn hs
  have h0 := hc 0 _ (List.getElem?_eq_getElem hl)
  rw [add_zero_] at h0
  have e2 := spot_none (j := 0) h0
  refine ⟨ad.block, ad.off, by rw [e, ← e2], hb, fun j u hu => ?_⟩
  have := hc j u hu
  rw [e2, add_lit] at this
  exact this
theorem RI.get {l : List Int} (h : RI w A n l) {k : Nat} (hk : k < n) :
    ∃ b o x, A = some ⟨b, o, none⟩ ∧ b < w.heap.size ∧ l[k]? = some x ∧ ∀ W, Later w W → W.cell? ⟨b, o + k, none⟩ = some (.int .i64 x) := by
  obtain ⟨b, o, e, hb, hc⟩ := Reads.lit h (by omega) (by omega)
  have hl : k < l.length := by have := h.len; omega
  exact ⟨b, o, l[k], e, hb, List.getElem?_eq_getElem hl, fun W k => cell_later (hc _ _ (by simp [ints, List.getElem?_eq_getElem hl])) k hb⟩
theorem RP.get {l : List (Int × Int)} (h : RP w A n l) {k : Nat} (hk : k < n) :
    ∃ b o x, A = some ⟨b, o, none⟩ ∧ b < w.heap.size ∧ l[k]? = some x ∧ (∀ W, Later w W → W.cell? ⟨b, o + k * 2, none⟩ = some (.int .i64 x.1)) ∧ (∀ W, Later w W → W.cell? ⟨b, o + k * 2 + 1, none⟩ = some (.int .i64 x.2)) := by
  obtain ⟨b, o, e, hb, hc⟩ := Reads.lit h (by omega) (by omega)
  have hl : k < l.length := by have := h.len; omega
  have hx := List.getElem?_eq_getElem hl
  exact ⟨b, o, l[k], e, hb, hx, fun W k' => cell_later (hc _ _ (pairsV_get l k 0 _ hx (by omega))) k' hb, fun W k' => cell_later (hc _ _ (pairsV_get l k 1 _ hx (by omega))) k' hb⟩
theorem RC.get {l : List Cp} (h : RC w A n l) {k : Nat} (hk : k < n) :
    ∃ b o x, A = some ⟨b, o, none⟩ ∧ b < w.heap.size ∧ l[k]? = some x ∧ (∀ W, Later w W → W.cell? ⟨b, o + k * 3, none⟩ = some (.int .i64 x.ticket)) ∧ (∀ W, Later w W → W.cell? ⟨b, o + k * 3 + 1, none⟩ = some (.int .i64 x.clock)) ∧
      ∀ W, Later w W → W.cell? ⟨b, o + k * 3 + 2, none⟩ = some (.int .i64 x.minute) := by
  obtain ⟨b, o, e, hb, hc⟩ := Reads.lit h (by omega) (by omega)
  have hl : k < l.length := by have := h.len; omega
  have hx := List.getElem?_eq_getElem hl
  exact ⟨b, o, l[k], e, hb, hx, fun W k' => cell_later (hc _ _ (clipsV_get l k 0 _ hx (by omega))) k' hb, fun W k' => cell_later (hc _ _ (clipsV_get l k 1 _ hx (by omega))) k' hb,
    fun W k' => cell_later (hc _ _ (clipsV_get l k 2 _ hx (by omega))) k' hb⟩
theorem some_lit {b o b' o' : Nat} (h : (some (⟨b, o, none⟩ : Addr)) = some ⟨b', o', none⟩) : b = b' ∧ o = o' := by
  injection h with h; injection h with h1 h2; exact ⟨h1, h2⟩
theorem RI.at_ {b o : Nat} {l : List Int} (h : RI w (some ⟨b, o, none⟩) n l) {k : Nat} (hk : k < n) :
    ∃ x, l[k]? = some x ∧ ∀ W, Later w W → W.cell? ⟨b, o + k, none⟩ = some (.int .i64 x) := by
  obtain ⟨b', o', x, e, _, hx⟩ := h.get hk
  obtain ⟨rfl, rfl⟩ := some_lit e
  exact ⟨x, hx⟩
theorem RP.at_ {b o : Nat} {l : List (Int × Int)} (h : RP w (some ⟨b, o, none⟩) n l) {k : Nat} (hk : k < n) :
    ∃ x, l[k]? = some x ∧ (∀ W, Later w W → W.cell? ⟨b, o + k * 2, none⟩ = some (.int .i64 x.1)) ∧ (∀ W, Later w W → W.cell? ⟨b, o + k * 2 + 1, none⟩ = some (.int .i64 x.2)) := by
  obtain ⟨b', o', x, e, _, hx⟩ := h.get hk
  obtain ⟨rfl, rfl⟩ := some_lit e
  exact ⟨x, hx⟩
theorem RC.at_ {b o : Nat} {l : List Cp} (h : RC w (some ⟨b, o, none⟩) n l) {k : Nat} (hk : k < n) :
    ∃ x, l[k]? = some x ∧ (∀ W, Later w W → W.cell? ⟨b, o + k * 3, none⟩ = some (.int .i64 x.ticket)) ∧ (∀ W, Later w W → W.cell? ⟨b, o + k * 3 + 1, none⟩ = some (.int .i64 x.clock)) ∧
      ∀ W, Later w W → W.cell? ⟨b, o + k * 3 + 2, none⟩ = some (.int .i64 x.minute) := by
  obtain ⟨b', o', x, e, _, hx⟩ := h.get hk
  obtain ⟨rfl, rfl⟩ := some_lit e
  exact ⟨x, hx⟩
end

/-- a slice of slices of numbers -/
def RRI (w : World) (A : Option Addr) (n : Nat) (ll : List (List Int)) : Prop :=
  ∃ vs : List Value, Reads w w.heap.size 1 A n vs ∧ vs.length = ll.length ∧ ∀ (i : Nat) (l : List Int), ll[i]? = some l → ∃ A' n' k', vs[i]? = some (Value.slice A' n' k') ∧ RI w A' n' l
theorem RRI.later {w W : World} {A : Option Addr} {n : Nat} {ll : List (List Int)} (h : RRI w A n ll) (k : Later w W) : RRI W A n ll := by
  obtain ⟨vs, h1, h2, h3⟩ := h
  exact ⟨vs, Reads.later h1 k, h2, fun i l hi => let ⟨A', n', k', e, hr⟩ := h3 i l hi; ⟨A', n', k', e, hr.later k⟩⟩
theorem RRI.len {w : World} {A : Option Addr} {n : Nat} {ll : List (List Int)} (h : RRI w A n ll) : n = ll.length := by
  obtain ⟨vs, h1, h2, h3⟩ := h
  have := h1.1; omega
theorem RRI.get {w : World} {A : Option Addr} {n : Nat} {ll : List (List Int)} (h : RRI w A n ll) {k : Nat} (hk : k < n) :
    ∃ b o l A' n' k', A = some ⟨b, o, none⟩ ∧ ll[k]? = some l ∧ RI w A' n' l ∧ ∀ W, Later w W → W.cell? ⟨b, o + k, none⟩ = some (.slice A' n' k') := by
  have hl := h.len
  obtain ⟨vs, h1, h2, h3⟩ := h
  obtain ⟨b, o, e, hb, hc⟩ := Reads.lit h1 (by omega) (by omega)
  have hkl : k < ll.length := by omega
  obtain ⟨A', n', k', hv, hr⟩ := h3 k _ (List.getElem?_eq_getElem hkl)
  exact ⟨b, o, ll[k], A', n', k', e, List.getElem?_eq_getElem hkl, hr, fun W hW => cell_later (hc _ _ hv) hW hb⟩
theorem RRI.at_ {w : World} {b o : Nat} {n : Nat} {ll : List (List Int)} (h : RRI w (some ⟨b, o, none⟩) n ll) {k : Nat} (hk : k < n) :
    ∃ l A' n' k', ll[k]? = some l ∧ RI w A' n' l ∧ ∀ W, Later w W → W.cell? ⟨b, o + k, none⟩ = some (.slice A' n' k') := by
  obtain ⟨b', o', l, A', n', k', e, hx⟩ := h.get hk
  obtain ⟨rfl, rfl⟩ := some_lit e
  exact ⟨l, A', n', k', hx⟩

/-- a House value's three slices read as the model's lists -/
structure CV (w : World) (c : Hou) (A1 : Option Addr) (n1 : Nat) (A2 : Option Addr) (n2 : Nat) (A3 : Option Addr) (n3 : Nat) : Prop where
  ck : RP w A1 n1 c.clocks
  tk : RP w A2 n2 c.tickets
  cp : RC w A3 n3 c.clips
theorem CV.later {w W : World} {n1 n2 n3 : Nat} {A1 A2 A3 : Option Addr} {c : Hou} (h : CV w c A1 n1 A2 n2 A3 n3) (k : Later w W) : CV W c A1 n1 A2 n2 A3 n3 :=
  ⟨h.ck.later k, h.tk.later k, h.cp.later k⟩
theorem wr64_eq (n : Int) : wr64 n = wrap64 n := by unfold wr64 wrap64; rfl
theorem ret_int {k : IntKind} {a b : Int} (h : a = b) : Ending.returned (.int k a) = .returned (.int k b) := by rw [h]
theorem ret_bool {a b : Bool} (h : a = b) : Ending.returned (.bool a) = .returned (.bool b) := by rw [h]
end Go.Proofs.Ytbkfnajpbhfneaa

/- Regions that draw their order: reads and calls that only make memory, walked once, in the text's order; with a tail that waits for all of it. -/
namespace Go.Proofs.Ytbkfnajpbhfneaa
open Go Go.RowKit

/-- a world later than w0 -/
structure Ext (w0 : World) where
  W : World
  h : Later w0 W
instance (w0 : World) : Inhabited (Ext w0) := ⟨⟨w0, later_refl _⟩⟩
theorem Ext.later {w0 : World} (e : Ext w0) : Later w0 e.W := e.h
attribute [go_sem] Ext.later
attribute [simp] Ext.later

theorem calls_ext {P : Program} {f : FuncId} {args : Array Value} {w0 W : World} {v : Value} (hW : Later w0 W)
    (h : Calls P f args W fun e w' => e = .returned v ∧ Later W w') : Calls P f args W fun e w'' => e = .returned v ∧ ∃ x : Ext w0, w'' = x.W :=
  h.mono fun _ w' ⟨he, hl⟩ => ⟨he, ⟨w', Later.trans hW hl⟩, rfl⟩
theorem calls_ext_same {P : Program} {f : FuncId} {args : Array Value} {w0 W : World} {v : Value} (hW : Later w0 W)
    (h : Calls P f args W fun e w' => e = .returned v ∧ W = w') : Calls P f args W fun e w'' => e = .returned v ∧ ∃ x : Ext w0, w'' = x.W :=
  h.mono fun _ w' ⟨he, hl⟩ => ⟨he, ⟨w', hl ▸ hW⟩, rfl⟩

section
variable {P : Program} {ops : Array Oper} {md : Region.Mode} {C : World → Prop}
/-- the head's operations in whatever order; then L -/
def wpAnyLQ (P : Program) (md : Region.Mode) (ops : Array Oper) (C : World → Prop) (n : Nat) (L : Array Bool → Act → Prop) : Nat → Array Bool → Act → Prop
  | 0, listed, a => L listed a
  | f + 1, listed, a =>
    Region.ready md ops listed ≠ [] ∧ ∀ i ∈ Region.ready md ops listed, i < n ∧ qOp P ops C i (wpAnyLQ P md ops C n L f (listed.setIfInBounds i true)) a

theorem wpAny_of_headQ {n g : Nat} {L : Array Bool → Act → Prop} {Q' : Exit → Act → World → Prop} (hL : ∀ listed a w, C w → L listed a → wpAny P md ops Q' g listed a w) :
    ∀ (f : Nat) (listed : Array Bool) (a : Act) (w : World), C w → wpAnyLQ P md ops C n L f listed a → wpAny P md ops Q' (f + g) listed a w
  | 0, listed, a, w, hw, h => by rw [Nat.zero_add]; exact hL _ _ _ hw h
  | f + 1, listed, a, w, hw, h => by
    rw [show f + 1 + g = (f + g) + 1 by omega]
    exact ⟨fun h0 => absurd h0 h.1, fun i hi => wpOp_of_qOp hw (fun a' w' hw' h' => wpAny_of_headQ hL f _ a' w' hw' h') (h.2 i hi).2⟩

theorem wpAnyLQ_first {n i : Nat} {oi : Oper} {v : Value} {L : Array Bool → Act → Prop} (hi : ops[i]? = some oi) (hsel : ∀ (j : Nat) (o : Oper) cs b, ops[j]? = some o → o.op ≠ .select cs b)
    (hs : Region.sinkB md ops n = true) (hc : Region.chainB md ops n = true) (hn : n < ops.size) (hin : i < n)
    (hdone : ∀ listed a, L listed a → ∀ j ∈ Region.ready md ops listed, n ≤ j) :
    ∀ (f : Nat) (listed : Array Bool) (a : Act), HeadInv md ops n listed →
      (∀ j oj, ops[j]? = some oj → j ≠ i → listed.getD j true = false → (∀ e ∈ oj.after, Region.binds md e = true → e.on ≠ i) → oi.apart ops oj = true) →
      i ∈ Region.ready md ops listed → YieldsIn P ops C oi v a →
      wpAnyLQ P md ops C n L f (listed.setIfInBounds i true) (a.put oi.dst v) → wpAnyLQ P md ops C n L (f + 1) listed a := by
  intro f
  induction f with
  | zero =>
    intro listed a inv _ hr hy H
    have hun := (mem_ready.1 hr).1
    refine ⟨fun h => (by rw [h] at hr; cases hr), fun j hj => ?_⟩
    have hjn : j < n := by
      rcases Nat.lt_or_ge j n with h | h
      · exact h
      · exact absurd hj (tail_waits hs hc hn inv _ i rfl hin hun j h)
    refine ⟨hjn, ?_⟩
    by_cases hji : j = i
    · subst hji; exact hy.qOp hi H
    · have := hdone _ _ H j (ready_mono hj hji)
      omega
  | succ f ih =>
    intro listed a inv hfree hr hy H
    have hun := (mem_ready.1 hr).1
    refine ⟨fun h => (by rw [h] at hr; cases hr), fun j hj => ?_⟩
    have hjn : j < n := by
      rcases Nat.lt_or_ge j n with h | h
      · exact h
      · exact absurd hj (tail_waits hs hc hn inv _ i rfl hin hun j h)
    refine ⟨hjn, ?_⟩
    by_cases hji : j = i
    · subst hji; exact hy.qOp hi H
    · have h1 := (H.2 j (ready_mono hj hji)).2
      obtain ⟨hjun, oj, hoj, hall⟩ := mem_ready.1 hj
      have hnot : ∀ e ∈ oj.after, Region.binds md e = true → e.on ≠ i := fun e he hb heq => by
        have h1 := hall e he hb
        rw [heq, getD_both hun] at h1
        cases h1
      have h2 := qOp_put hoj (hfree j oj hoj hji hjun hnot) (fun cs b => hsel i oi cs b hi) (fun cs b => hsel j oj cs b hoj) hy h1
      have hfree' : ∀ k ok, ops[k]? = some ok → k ≠ i → (listed.setIfInBounds j true).getD k true = false →
          (∀ e ∈ ok.after, Region.binds md e = true → e.on ≠ i) → oi.apart ops ok = true := fun k ok hk hki hun hno => by
        refine hfree k ok hk hki ?_ hno
        by_cases hjk : j = k
        · subst hjk; exact hjun
        · rw [getD_set_ne true hjk] at hun; exact hun
      refine qOp_mono (fun a' h3 => ih (listed.setIfInBounds j true) a' (inv.set hj hjn) hfree' (ready_mono hr (Ne.symm hji)) h3.1 ?_) h2
      rw [Array.setIfInBounds_comm _ _ hji]
      exact h3.2

theorem wpAnyLQ_lex {n g : Nat} {Lq : Act → Prop} (hsel : Region.noSelect ops = true) (hs : Region.sinkB md ops n = true) (hc : Region.chainB md ops n = true) (hn : n < ops.size) :
    ∀ (l : List Oper) (k : Nat) (listed : Array Bool) (a : Act), (∀ j, j < l.length → l[j]? = ops[k + j]?) → k + l.length = n → HeadInv md ops n listed →
    Region.lexHead md ops g l.length k listed = true → wpQuiet P ops C Lq l a →
    wpAnyLQ P md ops C n (fun listed' a' => Region.seqB md ops g n listed' = true ∧ Lq a') l.length listed a
  | [], k, listed, a, _, hk, _, hB, h => by
    have : k = n := by simpa using hk
    subst this
    exact ⟨by simpa [Region.lexHead] using hB, h⟩
  | o :: l, k, listed, a, hl, hk, inv, hB, h => by
    have h0 : ops[k]? = some o := by simpa using (hl 0 (by simp)).symm
    simp only [List.length_cons, Region.lexHead, Bool.and_eq_true] at hB
    obtain ⟨⟨hr, hf⟩, hB'⟩ := hB
    have hkn : k < n := by simp only [List.length_cons] at hk; omega
    have hr' : k ∈ Region.ready md ops listed := by simpa using hr
    have hst : qOp P ops C k (wpQuiet P ops C Lq l) a := by unfold qOp; simp only [h0]; exact h
    obtain ⟨v, hy, hK⟩ := yieldsIn_of_qOp h0 hst
    exact wpAnyLQ_first h0 (Region.noSelect_spec hsel) hs hc hn hkn (fun listed' a' hL => seqB_ready hL.1) l.length listed a inv (Region.free_spec h0 hf) hr' hy
      (wpAnyLQ_lex hsel hs hc hn l (k + 1) _ _ (fun j hj => by have := hl (j + 1) (by simp; omega); simpa [Nat.add_assoc, Nat.add_comm 1 j] using this) (by simp only [List.length_cons] at hk; omega) (inv.set hr' hkn) hB' hK)

/-- the first n operations read, or call what only makes memory; each that follows waits for the one before it, and the first of these for all of the head -/
theorem wp_region_quiet_tail {id : Nat} {Q : Exit → Act → World → Prop} {a : Act} {w : World} {l : List Oper} (n : Nat) (hm : P.follows .mixedOrders = true) (hB : Region.lexTailB .any l.toArray n = true)
    (hC : C w.drew)
    (h : wpQuiet P l.toArray C (fun a' => ∀ w', C w' → wpList P l.toArray Q (l.drop n) a' w') (l.take n) a) : (Code.region id l.toArray true).wp P Q a w := by
  simp only [Region.lexTailB, Bool.and_eq_true, decide_eq_true_eq] at hB
  obtain ⟨⟨⟨⟨hsel, hn⟩, hs⟩, hc⟩, hlex⟩ := hB
  have hn' : n < l.length := by simpa using hn
  have htl : (l.take n).length = n := by simp; omega
  have hdl : (l.drop n).length = l.toArray.size - n := by simp
  have inv0 : HeadInv .any l.toArray n (Array.replicate l.toArray.size false) :=
    ⟨by simp, fun j oj _ hl => (by rw [getD_replicate_false] at hl; cases hl), fun t _ ht => getD_in (by simpa using ht) (getD_replicate_false _ _)⟩
  have H := wpAnyLQ_lex (md := .any) (g := l.toArray.size - n) hsel hs hc hn (l.take n) 0 _ a (fun j hj => by
    have hj' : j < n := by rw [htl] at hj; exact hj
    simp [hj']) (by simpa using htl) inv0 (by rw [htl]; exact hlex) h
  refine wp_region_any hm ?_
  have := wpAny_of_headQ (Q' := Q) (g := l.toArray.size - n) (fun listed a' w' hw' hL => by
    have := wpAny_of_seq (md := .any) (Q' := Q) (l.drop n) n listed a' w' (fun j => by simp [List.getElem?_drop]) (by rw [hdl]; exact hL.1) (hL.2 w' hw')
    rwa [hdl] at this) _ _ _ _ hC H
  rw [htl, show n + (l.toArray.size - n) = l.toArray.size by omega] at this
  exact this
end

theorem wp_region_ext {P : Program} {id : Nat} {Q : Exit → Act → World → Prop} {a : Act} {w w0 : World} {l : List Oper} (hm : P.follows .mixedOrders = true) (hB : Region.lexB .any l.toArray = true) (hL : Later w0 w)
    (h : wpQuiet P l.toArray (fun W => ∃ e : Ext w0, W = e.W) (fun a' => ∀ W, (∃ e : Ext w0, W = e.W) → Q .normal a' W) l a) : (Code.region id l.toArray true).wp P Q a w :=
  wp_region_quiet (C := fun W => ∃ e : Ext w0, W = e.W) hm hB ⟨⟨w.drew, later_drew hL⟩, rfl⟩ (by simpa using h)
theorem wp_region_ext_tail {P : Program} {id : Nat} {Q : Exit → Act → World → Prop} {a : Act} {w w0 : World} {l : List Oper} (n : Nat) (hm : P.follows .mixedOrders = true) (hB : Region.lexTailB .any l.toArray n = true) (hL : Later w0 w)
    (h : wpQuiet P l.toArray (fun W => ∃ e : Ext w0, W = e.W) (fun a' => ∀ W, (∃ e : Ext w0, W = e.W) → wpList P l.toArray Q (l.drop n) a' W) (l.take n) a) : (Code.region id l.toArray true).wp P Q a w :=
  wp_region_quiet_tail (C := fun W => ∃ e : Ext w0, W = e.W) n hm hB ⟨⟨w.drew, later_drew hL⟩, rfl⟩ h
end Go.Proofs.Ytbkfnajpbhfneaa

/- append of one element onto a row of the call's own. -/
namespace Go.Proofs.Ytbkfnajpbhfneaa
open Go Go.RowKit

/-- what an append of one element leaves -/
structure Appended (w0 W w' : World) (e : TypeId) (size : Nat) (v v' : Value) (n : Nat) (xs news : List Value) : Prop where
  own : w'.ownsRow w0.heap.size e size v' (n + 1) (xs ++ news)
  later : Later w0 w'
  keep : ∀ b, b < W.heap.size → v.ownBlock ≠ some b → w'.heap[b]? = W.heap[b]?
  size : W.heap.size < w'.heap.size
  at_ : v'.ownBlock = v.ownBlock ∨ ∃ g, v'.ownBlock = some g ∧ W.heap.size < g

theorem own_append_wp {P : Program} {o : Oper} {a : Act} {K : Act → World → Prop} {Q : Exit → Act → World → Prop} {w0 W : World} {te : TypeId} (s x : Operand) (t : TypeId)
    (ho : o.op = .call { callee := .builtin .append, args := #[s, x], argTypes := #[t, t] }) (e : TypeId) (z : Value) (size bytes : Nat)
    (ht : P.underlying t = some (.slice e)) (hinfo : (P.info? e).map (fun i => (i.zero, i.size, i.bytes)) = some (some z, size, bytes)) (hzs : z.cells.size = size) (hsz : 0 < size)
    (v : Value) (n : Nat) (xs : List Value) (hs : a.eval s = v) (hL : Later w0 W) (hown : W.ownsRow w0.heap.size e size v n xs)
    (news : List Value) (hx : a.eval x = .slice (some ⟨W.heap.size, 0, none⟩) 1 1) (hl : news.length = size) (h1 : ∀ u ∈ news, u.oneCell' = true)
    (hn : n ≤ 1000000) (hby : bytes ≤ 1000)
    (h : ∀ v' w', Appended w0 W w' e size v v' n xs news → K (a.put o.dst v') w') :
    o.wp P a (W.alloc (.cells news.toArray te)) K Q := by
  obtain ⟨i, hi, hz, h2, h3⟩ := info_parts hinfo
  obtain ⟨v', w', hr, k2, k3, k4, k5⟩ := run_append_own_at (P := P) (W.alloc (.cells news.toArray te)) w0.heap.size t o.type e i z size bytes ht hi hz h2 h3 hzs hsz v n xs (hown.alloc _) ⟨W.heap.size, 0, none⟩ 1 1 news (by omega)
    (by
      intro j u hj
      rw [add_lit]
      rw [cell_of_row _ _ _ _ te (0, 0) (heap_alloc_new W _)]
      simpa using hj) h1 (by unfold maxLen; omega)
    (by
      have : (n + 1) * bytes ≤ 1000001 * 1000 := Nat.mul_le_mul (by omega) hby
      omega)
    (by have := hL.size; simp; omega)
  unfold Oper.wp execOp
  simp only [ho, resolve, invoke, builtin, Sem.run_bind, Sem.run_pure, Result.andThen_ok, List.map_toArray, List.map_cons, List.map_nil, hs, hx, hr]
  refine h v' w' ⟨k2, Later.grown (later_alloc hL _) k3 fun g hg' => ((hown.alloc (.cells news.toArray te)).lt g hg').1, fun b hb hne => ?_, by have := k3.size; simp at this; omega, ?_⟩
  · rw [k3.block b (by simp; omega) (fun e => hne e.symm)]
    exact Below.heap_alloc W _ b hb
  · rcases k5 with k5 | k5
    · exact .inl k5
    · exact .inr ⟨_, k5, by simp⟩

theorem own_append {P : Program} {ops : Array Oper} {rest : List Oper} {o : Oper} {a : Act} {Q : Exit → Act → World → Prop} {w0 W : World} {te : TypeId} (hgd : o.guard = none) (s x : Operand) (t : TypeId)
    (ho : o.op = .call { callee := .builtin .append, args := #[s, x], argTypes := #[t, t] }) (e : TypeId) (z : Value) (size bytes : Nat)
    (ht : P.underlying t = some (.slice e)) (hinfo : (P.info? e).map (fun i => (i.zero, i.size, i.bytes)) = some (some z, size, bytes)) (hzs : z.cells.size = size) (hsz : 0 < size)
    (v : Value) (n : Nat) (xs : List Value) (hs : a.eval s = v) (hL : Later w0 W) (hown : W.ownsRow w0.heap.size e size v n xs)
    (news : List Value) (hx : a.eval x = .slice (some ⟨W.heap.size, 0, none⟩) 1 1) (hl : news.length = size) (h1 : ∀ u ∈ news, u.oneCell' = true)
    (hn : n ≤ 1000000) (hby : bytes ≤ 1000)
    (h : ∀ v' w', Appended w0 W w' e size v v' n xs news → wpList P ops Q rest (a.put o.dst v') w') :
    wpList P ops Q (o :: rest) a (W.alloc (.cells news.toArray te)) :=
  wpList_plain hgd fun _ hK => own_append_wp s x t ho e z size bytes ht hinfo hzs hsz v n xs hs hL hown news hx hl h1 hn hby fun v' w' q => hK _ _ (h v' w' q)

theorem own_append_step {P : Program} {ops : Array Oper} {o : Oper} {a : Act} {K : Act → World → Prop} {Q : Exit → Act → World → Prop} {E : Prop} {w0 W : World} {te : TypeId} (hgd : o.guard = none) (s x : Operand) (t : TypeId)
    (ho : o.op = .call { callee := .builtin .append, args := #[s, x], argTypes := #[t, t] }) (e : TypeId) (z : Value) (size bytes : Nat)
    (ht : P.underlying t = some (.slice e)) (hinfo : (P.info? e).map (fun i => (i.zero, i.size, i.bytes)) = some (some z, size, bytes)) (hzs : z.cells.size = size) (hsz : 0 < size)
    (v : Value) (n : Nat) (xs : List Value) (hs : a.eval s = v) (hL : Later w0 W) (hown : W.ownsRow w0.heap.size e size v n xs)
    (news : List Value) (hx : a.eval x = .slice (some ⟨W.heap.size, 0, none⟩) 1 1) (hl : news.length = size) (h1 : ∀ u ∈ news, u.oneCell' = true)
    (hn : n ≤ 1000000) (hby : bytes ≤ 1000)
    (h : ∀ v' w', Appended w0 W w' e size v v' n xs news → K (a.put o.dst v') w') :
    if Region.wanted o (yielded ops a.tmps) = true then Oper.wp P o a (W.alloc (.cells news.toArray te)) K Q else E := by
  rw [if_pos (by simp [Region.wanted, hgd])]
  exact own_append_wp s x t ho e z size bytes ht hinfo hzs hsz v n xs hs hL hown news hx hl h1 hn hby h

theorem Appended.cell {w0 W w' : World} {e : TypeId} {size n : Nat} {v v' : Value} {xs news : List Value} (h : Appended w0 W w' e size v v' n xs news) {b : Nat} (hb : b < W.heap.size) (hne : v.ownBlock ≠ some b) (i : Nat) :
    w'.cell? ⟨b, i, none⟩ = W.cell? ⟨b, i, none⟩ := World.cell?_of_block (h.keep b hb hne)
theorem Appended.ri {w0 W w' : World} {e : TypeId} {size n : Nat} {v v' : Value} {xs news : List Value} (h : Appended w0 W w' e size v v' n xs news) {A : Option Addr} {m : Nat} {l : List Int}
    (hr : RI W A m l) (hne : ∀ b o, A = some ⟨b, o, none⟩ → v.ownBlock ≠ some b) : RI w' A m l := by
  refine ⟨hr.1, fun hm => ?_⟩
  obtain ⟨b, o, rfl, hb, hc⟩ := Reads.lit hr (by omega) hm
  refine ⟨_, rfl, Nat.lt_trans hb h.size, fun j u hu => ?_⟩
  rw [add_lit, h.cell hb (hne b o rfl)]
  exact hc j u hu

theorem own_later {w0 W W' : World} {e : TypeId} {size : Nat} {v : Value} {n : Nat} {xs : List Value} (h : W.ownsRow w0.heap.size e size v n xs) (hL : Later W W') : W'.ownsRow w0.heap.size e size v n xs := by
  refine ⟨h.1, ?_⟩
  rcases h.2 with hn | ⟨g, cap, cur, rfl, hb, hgg, rest⟩
  · exact .inl hn
  · refine .inr ⟨g, cap, cur, rfl, hb, ?_, rest⟩
    rw [hL.block g (Array.getElem?_eq_some_iff.1 hgg).1]
    exact hgg
theorem own_slice {w0 W : World} {e : TypeId} {size : Nat} {v : Value} {n : Nat} {xs : List Value} (h : W.ownsRow w0.heap.size e size v n xs) :
    ∃ A c, v = .slice A n c ∧ Reads W W.heap.size size A n xs := by
  rcases h.2 with ⟨rfl, rfl⟩ | ⟨g, cap, cur, rfl, hb, hgg, rest⟩
  · exact ⟨none, 0, rfl, by rw [show xs = [] from List.eq_nil_of_length_eq_zero (by simpa using h.1)]; exact Reads.none_⟩
  · exact ⟨_, cap, rfl, Reads.of_own (c := cap) h⟩
/-- a slice in memory of W that did not lie at w -/
def Fresh (w W : World) (A : Option Addr) : Prop := ∀ b o, A = some ⟨b, o, none⟩ → w.heap.size ≤ b ∧ b < W.heap.size
theorem own_fresh {w0 W : World} {e : TypeId} {size n : Nat} {xs : List Value} {A : Option Addr} {c : Nat} (h : W.ownsRow w0.heap.size e size (.slice A n c) n xs) : Fresh w0 W A := fun b o hA => by
  subst hA
  exact h.lt b rfl
theorem Fresh.le {w w0 W : World} {A : Option Addr} (h : Fresh w0 W A) (hs : w.heap.size ≤ w0.heap.size) : Fresh w W A := fun b o hA => ⟨Nat.le_trans hs (h b o hA).1, (h b o hA).2⟩
theorem Fresh.later {w W W' : World} {A : Option Addr} (h : Fresh w W A) (hs : Later W W') : Fresh w W' A := fun b o hA => ⟨(h b o hA).1, Nat.lt_of_lt_of_le (h b o hA).2 hs.size⟩
theorem own_slice2 {w0 W : World} {e : TypeId} {size : Nat} {v : Value} {n : Nat} {xs : List Value} (h : W.ownsRow w0.heap.size e size v n xs) :
    ∃ A c, v = .slice A n c ∧ Reads W W.heap.size size A n xs ∧ Fresh w0 W A := by
  obtain ⟨A, c, rfl, hr⟩ := own_slice h
  exact ⟨A, c, rfl, hr, own_fresh h⟩
/-- a fresh slice lies apart from a row that was owned before -/
theorem Fresh.apart {w0 w W : World} {e : TypeId} {size n : Nat} {v : Value} {xs : List Value} {A : Option Addr} (h : Fresh w W A) (ho : w.ownsRow w0.heap.size e size v n xs) : ∀ b o, A = some ⟨b, o, none⟩ → b < W.heap.size ∧ v.ownBlock ≠ some b :=
  fun b o hA => ⟨(h b o hA).2, fun e2 => by have := (ho.lt b e2).2; have := (h b o hA).1; omega⟩
theorem int_info : (Try.prog.info? 3).map (fun i => (i.zero, i.size, i.bytes)) = some (some (.int .i64 0), 1, 8) := by kernel_rfl
end Go.Proofs.Ytbkfnajpbhfneaa

/- What the walks import. -/

/- A block that is known whole. -/
namespace Go.Proofs.Ytbkfnajpbhfneaa
open Go Go.RowKit
def Blk (w : World) (g : Nat) (t : TypeId) (cs : Array Value) : Prop := w.heap[g]? = some (.cells cs t (0, 0))
section
variable {w w' : World} {g : Nat} {t : TypeId} {cs : Array Value}
theorem Blk.lt (h : Blk w g t cs) : g < w.heap.size := by
  rcases Nat.lt_or_ge g w.heap.size with hlt | hge
  · exact hlt
  · unfold Blk at h; rw [Array.getElem?_eq_none hge] at h; cases h
theorem Blk.cell (h : Blk w g t cs) (i : Nat) : w.cell? ⟨g, i, none⟩ = cs[i]? := cell_of_row w g i cs t (0, 0) h
theorem Blk.frozen (h : Blk w g t cs) (i : Nat) : w.frozen? ⟨g, i, none⟩ = false := by
  unfold Blk at h
  simp [World.frozen?, h]
theorem Blk.new (w : World) (t : TypeId) (cs : Array Value) : Blk (w.alloc (.cells cs t)) w.heap.size t cs := heap_alloc_new w _
theorem Blk.drew (h : Blk w g t cs) : Blk w.drew g t cs := h
theorem Blk.alloc (h : Blk w g t cs) (o : Obj) : Blk (w.alloc o) g t cs := (Below.heap_alloc w o g h.lt).trans h
theorem Blk.set_ (h : Blk w g t cs) (i : Nat) (u : Value) : Blk (w.setCell ⟨g, i, none⟩ u) g t (cs.setIfInBounds i u) := by
  unfold Blk at h ⊢
  simp [World.setCell, Array.getElem?_modify, h]
theorem Blk.far (h : Blk w g t cs) {p : Addr} (hp : g ≠ p.block) (u : Value) : Blk (w.setCell p u) g t cs := (Below.heap_setCell w p u g hp).trans h
theorem Blk.later (h : Blk w g t cs) (hb : Later w w') : Blk w' g t cs := (hb.block g h.lt).trans h
theorem Blk.cells_later (h : Blk w g t cs) : ∀ W, Later w W → ∀ i, W.cell? ⟨g, i, none⟩ = cs[i]? := fun W hW i => (h.later hW).cell i
theorem Blk.frozen_later (h : Blk w g t cs) : ∀ W, Later w W → ∀ i, W.frozen? ⟨g, i, none⟩ = false := fun W hW i => (h.later hW).frozen i
theorem later_drop {B : World} {W : World} {a : Addr} {u : Value} (h : Later B W) (hb : B.heap.size ≤ a.block) : Later B (W.setCell a u) := later_set h a hb u
end
end Go.Proofs.Ytbkfnajpbhfneaa

/- The program's small functions: walks. -/
namespace Go.Proofs.Ytbkfnajpbhfneaa
open Go Go.RowKit

/-- a call's contract at a later world, told from the base world -/
theorem from_base {P : Program} {f : FuncId} {args : Array Value} {w0 W : World} {v : Value} (hW : Later w0 W)
    (h : Calls P f args W fun e w' => e = .returned v ∧ Later W w') : Calls P f args W fun e w' => e = .returned v ∧ Later w0 w' :=
  h.mono fun _ _ ⟨he, hl⟩ => ⟨he, Later.trans hW hl⟩
theorem from_base_same {P : Program} {f : FuncId} {args : Array Value} {w0 W : World} {v : Value} (hW : Later w0 W)
    (h : Calls P f args W fun e w' => e = .returned v ∧ W = w') : Calls P f args W fun e w' => e = .returned v ∧ Later w0 w' :=
  h.mono fun _ _ ⟨he, hl⟩ => ⟨he, hl ▸ hW⟩
theorem within_calls (n lo hi : Int) (w : World) :
    Calls Try.prog 110 #[.int .i64 n, .int .i64 lo, .int .i64 hi] w fun e w' => e = .returned (.bool (inB n lo hi)) ∧ w = w' := by
  go_enter Try.func110, Try.ntmps110
  by_cases h1 : lo ≤ n <;> by_cases h2 : n ≤ hi <;> go_wp2 <;> go_ret <;> exact ⟨by simp [inB, *], rfl⟩
theorem within_eq {n lo hi : Int} {b : Bool} (h : inB n lo hi = b) (w : World) :
    Calls Try.prog 110 #[.int .i64 n, .int .i64 lo, .int .i64 hi] w fun e w' => e = .returned (.bool b) ∧ w = w' := by
  have := within_calls n lo hi w; rw [h] at this; exact this
theorem tub_eq {n : Int} {b : Bool} (h : inB n 0 8 = b) (w : World) : Calls Try.prog 92 #[.int .i64 n] w fun e w' => e = .returned (.bool b) ∧ w = w' := by
  subst h
  go_enter Try.func92, Try.ntmps92
  go_wp2_with (go_at_call 110; refine (within_calls _ _ _ _).mono ?_; rintro e w' ⟨rfl, rfl⟩)
  go_ret
  exact ⟨rfl, rfl⟩
theorem off_calls (x : Int × Int) (w : World) : Calls Try.prog 112 #[.agg #[.int .i64 x.1, .int .i64 x.2]] w fun e w' => e = .returned (.bool (clockOk x)) ∧ Later w w' := by
  by_cases h1 : -30 ≤ x.1
  · by_cases h2 : x.1 ≤ x.2
    · by_cases h3 : x.2 ≤ 30
      · have Hf : Hid (clockOk x = true) := by show clockOk x = _; simp [clockOk, *]
        go_enter Try.func112, Try.ntmps112
        go_wp2_with fail
        go_ret
        exact ⟨by rw [Hf.out]; rfl, by simp⟩
      · have Hf : Hid (clockOk x = false) := by show clockOk x = _; simp [clockOk, *]
        go_enter Try.func112, Try.ntmps112
        go_wp2_with fail
        go_ret
        exact ⟨by rw [Hf.out]; rfl, by simp⟩
    · have Hf : Hid (clockOk x = false) := by show clockOk x = _; simp [clockOk, *]
      go_enter Try.func112, Try.ntmps112
      go_wp2_with fail
      go_ret
      exact ⟨by rw [Hf.out]; rfl, by simp⟩
  · have Hf : Hid (clockOk x = false) := by show clockOk x = _; simp [clockOk, *]
    go_enter Try.func112, Try.ntmps112
    go_wp2_with fail
    go_ret
    exact ⟨by rw [Hf.out]; rfl, by simp⟩
theorem has_eq {lo hi n : Int} {b : Bool} (hb : inB n lo hi = b) (w : World) : Calls Try.prog 122 #[.agg #[.int .i64 lo, .int .i64 hi], .int .i64 n] w fun e w' => e = .returned (.bool b) ∧ Later w w' := by
  go_enter Try.func122, Try.ntmps122
  go_wp2_with (go_at_call 110; refine (within_eq hb _).mono ?_; rintro e w' ⟨rfl, rfl⟩)
  go_ret
  exact ⟨rfl, by simp⟩
theorem size_calls {h : Int × Int} (w : World) (b1 : -1000000 ≤ h.1 ∧ h.1 ≤ 1000000) (b2 : -1000000 ≤ h.2 ∧ h.2 ≤ 1000000) :
    Calls Try.prog 97 #[.agg #[.int .i64 h.1, .int .i64 h.2]] w fun e w' => e = .returned (.int .i64 (sizeR h)) ∧ Later w w' := by
  go_enter Try.func97, Try.ntmps97
  go_wp2_with fail
  go_ret
  exact ⟨rfl, by simp⟩
theorem ticket_eq {A1 A2 A3 : Option Addr} {n1 k1 n2 k2 n3 k3 : Nat} {c : Hou} {n : Int} {b : Bool} (hb : inB n 0 ((n2 : Int) - 1) = b) (w : World) (hn : n2 ≤ 1000000) : Calls Try.prog 89 #[(.agg #[.int .i64 c.hour, .int .i64 c.grace, .slice A1 n1 k1, .slice A2 n2 k2, .slice A3 n3 k3]), .int .i64 n] w fun e w' => e = .returned (.bool b) ∧ Later w w' := by
  have hw1 : IntKind.i64.wrap ((n2 : Int) - 1) = (n2 : Int) - 1 := IntWalk.i64_in _ (by omega)
  go_enter Try.func89, Try.ntmps89
  go_wp2_with (go_at_call 110; refine (within_eq hb _).mono ?_; rintro e w' ⟨rfl, rfl⟩)
  go_ret
  exact ⟨rfl, by simp⟩
theorem valid_calls (x : Int × Int) (w : World) : Calls Try.prog 114 #[.agg #[.int .i64 x.1, .int .i64 x.2]] w fun e w' => e = .returned (.bool (tickOk x)) ∧ Later w w' := by
  obtain ⟨w0, hw0⟩ : ∃ W, W = w.alloc (.cells #[.int .i64 x.1, .int .i64 x.2] 103) := ⟨_, rfl⟩
  have hbox : ∀ W, Later w0 W → ∀ i, W.cell? ⟨w.heap.size, i, none⟩ = #[.int .i64 x.1, .int .i64 x.2][i]? := (by rw [hw0]; exact box_cells w _ _)
  have hb1 := hbox w0 (later_refl _) 1
  simp only [List.getElem?_toArray, List.getElem?_cons_zero, List.getElem?_cons_succ] at hb1
  have hL0 : Later w w0 := by rw [hw0]; simp
  have Hw0 := hide hw0
  clear hw0
  cases h1 : inB x.1 0 8 with
  | false =>
    have Hf : Hid (tickOk x = false) := by show tickOk x = _; simp [tickOk, h1]
    go_enter Try.func114, Try.ntmps114
    go_wp2_with fail
    rw [← Hw0.out]
    refine (tub_eq h1 _).mono ?_
    rintro e w' ⟨rfl, rfl⟩
    go_wp2_with fail
    go_ret
    exact ⟨by rw [Hf.out]; rfl, hL0⟩
  | true =>
    have Hf : Hid (tickOk x = inB x.2 0 9) := by show tickOk x = _; simp [tickOk, h1]
    go_enter Try.func114, Try.ntmps114
    go_wp2_with fail
    rw [← Hw0.out]
    refine (tub_eq h1 _).mono ?_
    rintro e w' ⟨rfl, rfl⟩
    go_wp2_with fail
    refine (within_calls _ _ _ _).mono ?_
    rintro e w' ⟨rfl, rfl⟩
    go_wp2_with fail
    go_ret
    exact ⟨by rw [Hf.out]; rfl, hL0⟩
theorem clip_calls {A1 A2 A3 : Option Addr} {n1 k1 n2 k2 n3 k3 : Nat} {c : Hou} (x : Cp) (w : World) (hn1 : n1 ≤ 1000000) (hn2 : n2 ≤ 1000000) : Calls Try.prog 109 #[(.agg #[.int .i64 c.hour, .int .i64 c.grace, .slice A1 n1 k1, .slice A2 n2 k2, .slice A3 n3 k3]), .agg #[.int .i64 x.ticket, .int .i64 x.clock, .int .i64 x.minute]] w fun e w' =>
    e = .returned (.bool (clipOk n1 n2 x)) ∧ Later w w' := by
  obtain ⟨w0, hw0⟩ : ∃ W, W = ((w.alloc (.cells #[.int .i64 c.hour, .int .i64 c.grace, .slice A1 n1 k1, .slice A2 n2 k2, .slice A3 n3 k3] 36))).alloc (.cells #[.int .i64 x.ticket, .int .i64 x.clock, .int .i64 x.minute] 101) := ⟨_, rfl⟩
  have hL0 : Later w w0 := by rw [hw0]; exact later_alloc (later_alloc (later_refl _) _) _
  have b1 : Blk w0 w.heap.size 36 #[.int .i64 c.hour, .int .i64 c.grace, .slice A1 n1 k1, .slice A2 n2 k2, .slice A3 n3 k3] := by rw [hw0]; exact (Blk.new _ _ _).alloc _
  have b2 : Blk w0 (w.heap.size + 1) 101 #[.int .i64 x.ticket, .int .i64 x.clock, .int .i64 x.minute] := by
    have := Blk.new (w.alloc (.cells #[.int .i64 c.hour, .int .i64 c.grace, .slice A1 n1 k1, .slice A2 n2 k2, .slice A3 n3 k3] 36)) 101 #[.int .i64 x.ticket, .int .i64 x.clock, .int .i64 x.minute]
    rw [World.size_alloc] at this
    rw [hw0]; exact this
  have c2 := fun W (hW : Later w0 W) => (b1.later hW).cell 2
  have d1 := fun W (hW : Later w0 W) => (b2.later hW).cell 1
  have d2 := fun W (hW : Later w0 W) => (b2.later hW).cell 2
  simp only [List.getElem?_toArray, List.getElem?_cons_zero, List.getElem?_cons_succ] at c2 d1 d2
  have hw1 : IntKind.i64.wrap ((n1 : Int) - 1) = (n1 : Int) - 1 := IntWalk.i64_in _ (by omega)
  have Hw0 := hide hw0
  clear hw0
  cases h1 : inB x.ticket 0 ((n2 : Int) - 1) with
  | false =>
    have Hf : Hid (clipOk n1 n2 x = false) := by show clipOk n1 n2 x = _; unfold clipOk; rw [h1]; rfl
    go_enter Try.func109, Try.ntmps109
    go_wp2_with fail
    rw [← Hw0.out]
    refine (ticket_eq (c := c) h1 _ hn2).mono ?_
    rintro e w1 ⟨rfl, hL1⟩
    go_wp2_with fail
    go_ret
    exact ⟨by rw [Hf.out]; rfl, Later.trans hL0 hL1⟩
  | true =>
    cases h2 : inB x.clock 0 ((n1 : Int) - 1) with
    | false =>
      have Hf : Hid (clipOk n1 n2 x = false) := by show clipOk n1 n2 x = _; unfold clipOk; rw [h1, h2]; rfl
      go_enter Try.func109, Try.ntmps109
      go_wp2_with fail
      rw [← Hw0.out]
      refine (ticket_eq (c := c) h1 _ hn2).mono ?_
      rintro e w1 ⟨rfl, hL1⟩
      go_wp2_with (go_at_call 110; refine (within_eq h2 _).mono ?_; rintro e w' ⟨rfl, rfl⟩)
      go_ret
      exact ⟨by rw [Hf.out]; rfl, Later.trans hL0 hL1⟩
    | true =>
      have Hf : Hid (clipOk n1 n2 x = inB x.minute 0 1439) := by show clipOk n1 n2 x = _; unfold clipOk; rw [h1, h2]; rfl
      go_enter Try.func109, Try.ntmps109
      go_wp2_with fail
      rw [← Hw0.out]
      refine (ticket_eq (c := c) h1 _ hn2).mono ?_
      rintro e w1 ⟨rfl, hL1⟩
      go_wp2_with fail
      refine (within_eq h2 _).mono ?_
      rintro e w' ⟨rfl, rfl⟩
      go_wp2_with fail
      refine (within_calls _ _ _ _).mono ?_
      rintro e w' ⟨rfl, rfl⟩
      go_wp2_with fail
      go_ret
      exact ⟨by rw [Hf.out]; rfl, Later.trans hL0 hL1⟩
end Go.Proofs.Ytbkfnajpbhfneaa

/- The program's Index, Contains; all (of ranges, of tickets, of clips): walks. -/
namespace Go.Proofs.Ytbkfnajpbhfneaa
open Go Go.RowKit

set_option maxRecDepth 100000 in
theorem Index_calls {A : Option Addr} {n k : Nat} {p : List Int} (x : Int) (w : World) (h : RI w A n p) (hn : n ≤ 1000000) :
    Calls Try.prog 133 #[.slice A n k, .int .i64 x] w fun e w' => e = .returned (.int .i64 (atFrom p x 0)) ∧ w = w' := by
  have Hl := hide h.len
  go_enter Try.func133, Try.ntmps133
  go_wp2_with fail
  go_loop [8] (fun i => ∃ j : Nat, j ≤ n ∧ i = .int .i64 j ∧ atFrom (p.drop j) x j = atFrom p x 0) (fun i => n - (intOf i).toNat)
  case atStart => exact ⟨0, Nat.zero_le _, rfl, rfl⟩
  case round =>
    obtain ⟨j, hj, rfl, hno⟩ := hrel
    by_cases hlt : j < n
    · obtain ⟨b, o, y, rfl, _, hx, hc⟩ := h.get hlt
      replace hc := hc w (later_refl w)
      obtain ⟨hp, rfl⟩ := List.getElem?_eq_some_iff.1 hx
      rw [List.drop_eq_getElem_cons hp, atFrom_cons] at hno
      by_cases he : p[j] = x
      · rw [if_pos he] at hno
        have Hno := hide hno
        have Hx := hide hx
        have heb : (x == p[j]) = true := by simp [he]
        have He := hide he
        clear hno hx he
        go_wp2_with fail
        go_ret
        exact ⟨ret_int Hno.out, rfl⟩
      · rw [if_neg he] at hno
        have Hno := hide hno
        have Hx := hide hx
        have heb : (x == p[j]) = false := by simp; exact fun h => he h.symm
        clear hno hx he
        go_wp2_with fail
        go_round
        case rel => exact ⟨j + 1, by omega, by go_num, by rw [← Hno.out]; rfl⟩
        case measure => simp [intOf]; omega
    · rw [List.drop_of_length_le (by have := Hl.out; omega)] at hno
      have Hno := hide hno
      clear hno
      go_wp2_with fail
      go_ret
      exact ⟨ret_int Hno.out, rfl⟩

theorem atFrom_contains (p : List Int) (x j : Int) (hj : 0 ≤ j) : decide (0 ≤ atFrom p x j) = p.contains x := by
  induction p generalizing j with
  | nil => simp [atFrom]
  | cons y l ih =>
    rw [atFrom_cons, List.contains_cons]
    by_cases h : y = x
    · rw [if_pos h, h]; simp [hj]
    · rw [if_neg h, ih (j + 1) (by omega)]
      rw [show (x == y) = false by simp; exact fun e => h e.symm, Bool.false_or]

theorem Contains_eq {A : Option Addr} {n k : Nat} {p : List Int} {x : Int} {b : Bool} (hb : p.contains x = b) (w : World) (h : RI w A n p) (hn : n ≤ 1000000) :
    Calls Try.prog 123 #[.slice A n k, .int .i64 x] w fun e w' => e = .returned (.bool b) ∧ w = w' := by
  rw [← atFrom_contains p x 0 (by omega)] at hb
  go_enter Try.func123, Try.ntmps123
  go_wp2_with fail
  refine (Index_calls x _ h hn).mono ?_
  rintro e w' ⟨rfl, rfl⟩
  generalize atFrom p x 0 = q at *
  have Hb := hide hb
  clear hb
  go_wp2_with fail
  go_ret
  exact ⟨by rw [← Hb.out]; rfl, rfl⟩

theorem RI.take {w : World} {A : Option Addr} {n : Nat} {l : List Int} (h : RI w A n l) (i : Nat) (hi : i ≤ n) : RI w A i (l.take i) := by
  have hn := h.len
  refine ⟨by rw [ints_length, List.length_take]; omega, fun h0 => ?_⟩
  obtain ⟨ad, e, hb, hc⟩ := h.2 (by omega)
  refine ⟨ad, e, hb, fun j u hu => hc j u ?_⟩
  simp only [ints, List.map_take, List.getElem?_take] at hu
  split at hu
  · exact hu
  · cases hu

/-! ### all -/
def idxB {α : Type} (g : α → Bool) : List α → Int → Int
  | [], _ => -1
  | x :: l, j => if g x then j else idxB g l (j + 1)
theorem idxB_any {α : Type} (g : α → Bool) (l : List α) (j : Int) (hj : 0 ≤ j) : decide (0 ≤ idxB g l j) = l.any g := by
  induction l generalizing j with
  | nil => simp [idxB]
  | cons y l ih =>
    rw [idxB, List.any_cons]
    by_cases h : g y = true
    · rw [if_pos h, h]; simp [hj]
    · rw [if_neg h, ih (j + 1) (by omega)]
      simp [h]
theorem not_any_not {α : Type} (g : α → Bool) (l : List α) : (!l.any fun x => !g x) = l.all g := by
  induction l with
  | nil => rfl
  | cons x l ih => simp [List.any_cons, List.all_cons, ← ih]


theorem allR1_calls {bp : Nat} (x : Int × Int) (w : World) (h : w.cell? ⟨bp, 0, none⟩ = some (.func (.func 112) #[] #[])) :
    Calls Try.prog 125 #[(.agg #[.int .i64 x.1, .int .i64 x.2]), .pointer (some ⟨bp, 0, none⟩)] w fun e w' =>
      e = .returned (.bool (!clockOk x)) ∧ Later w w' := by
  have hb : bp < w.heap.size := World.block_lt_of_cell? w ⟨bp, 0, none⟩ h
  have h2 := fun W k => cell_later (W := W) h k hb
  go_enter Try.func125, Try.ntmps125
  go_wp2_with fail
  refine (off_calls x _).mono ?_
  rintro e w1 ⟨rfl, hL1⟩
  go_wp2_with fail
  go_ret
  exact ⟨rfl, Later.trans (by simp) hL1⟩

theorem IndexFuncR_calls {A : Option Addr} {n k bp : Nat} {l : List (Int × Int)} (w : World) (h : RP w A n l) (hn : n ≤ 1000000) (hb : w.cell? ⟨bp, 0, none⟩ = some (.func (.func 112) #[] #[])) :
    Calls Try.prog 134 #[.slice A n k, .func (.func 125) #[] #[.pointer (some ⟨bp, 0, none⟩)]] w fun e w' =>
      e = .returned (.int .i64 (idxB (fun x => !clockOk x) l 0)) ∧ Later w w' := by
  have hl := h.len
  have hbl : bp < w.heap.size := World.block_lt_of_cell? w ⟨bp, 0, none⟩ hb
  have hb2 := fun W k => cell_later (W := W) hb k hbl
  have Hl := hide hl
  clear hl
  go_enter Try.func134, Try.ntmps134
  go_wp2_with fail
  go_loopw [8] (fun i wr => ∃ j : Nat, j ≤ n ∧ i = .int .i64 j ∧ idxB (fun x => !clockOk x) (l.drop j) j = idxB (fun x => !clockOk x) l 0 ∧ Later w wr) (fun i _ => n - (intOf i).toNat)
  case atStart => exact ⟨0, Nat.zero_le _, rfl, rfl, later_refl _⟩
  case round =>
    obtain ⟨j, hj, rfl, hno, hL⟩ := hrel
    by_cases hlt : j < n
    · obtain ⟨b, o, y, rfl, _, hx, hc0, hc1⟩ := h.get hlt
      obtain ⟨hp, e1⟩ := List.getElem?_eq_some_iff.1 hx
      rw [List.drop_eq_getElem_cons hp, e1] at hno
      simp only [idxB] at hno
      have hi1 : (j : Int) < n := by omega
      have hcc := allR1_calls y wr (hb2 _ hL)
      cases hok : clockOk y with
      | true =>
        rw [hok] at hcc
        simp only [hok, Bool.not_true, Bool.false_eq_true, if_false] at hno
        have Hno := hide hno
        have Hcc := hide hcc
        clear hno hx hcc e1 hok
        go_wp2_with fail
        refine Hcc.out.mono ?_
        rintro e w1 ⟨rfl, hL1⟩
        have hL2 := Later.trans hL hL1
        go_wp2_with fail
        go_roundw
        case rel => exact ⟨j + 1, by omega, by go_num, by rw [← Hno.out]; rfl, hL2⟩
        case measure => simp [intOf]; omega
      | false =>
        rw [hok] at hcc
        simp only [hok, Bool.not_false, if_true] at hno
        have Hno := hide hno
        have Hcc := hide hcc
        clear hno hx hcc e1 hok
        go_wp2_with fail
        refine Hcc.out.mono ?_
        rintro e w1 ⟨rfl, hL1⟩
        go_wp2_with fail
        go_ret
        exact ⟨ret_int Hno.out, Later.trans hL hL1⟩
    · rw [List.drop_of_length_le (by have := Hl.out; omega)] at hno
      have Hno := hide hno
      clear hno
      go_wp2_with fail
      go_ret
      exact ⟨ret_int Hno.out, hL⟩

theorem allR_eq {A : Option Addr} {n k : Nat} {l : List (Int × Int)} {b : Bool} (hb : l.all clockOk = b) (w : World) (h : RP w A n l) (hn : n ≤ 1000000) :
    Calls Try.prog 111 #[.slice A n k, (.func (.func 112) #[] #[])] w fun e w' => e = .returned (.bool b) ∧ Later w w' := by
  subst hb
  have hw : Later w (w.alloc (.cells #[(.func (.func 112) #[] #[])] 139)) := later_alloc (later_refl _) _
  have hb := box_cells w #[(.func (.func 112) #[] #[])] 139 _ (later_refl _) 0
  have hf := idxB_any (fun x => !clockOk x) l 0 (by omega)
  have hf2 := not_any_not clockOk l
  rw [← hf] at hf2
  have Hf := hide hf2
  clear hf hf2
  go_enter Try.func111, Try.ntmps111
  go_wp2_with fail
  go_enter Try.func124, Try.ntmps124
  go_wp2_with fail
  refine (IndexFuncR_calls _ (h.later hw) hn hb).mono ?_
  rintro e w1 ⟨rfl, hL1⟩
  generalize idxB (fun x => !clockOk x) l 0 = q at *
  go_wp2_with fail
  go_ret
  exact ⟨by rw [← Hf.out]; rfl, Later.trans hw hL1⟩

theorem allT1_calls {bp : Nat} (x : Int × Int) (w : World) (h : w.cell? ⟨bp, 0, none⟩ = some (.func (.func 114) #[] #[])) :
    Calls Try.prog 127 #[(.agg #[.int .i64 x.1, .int .i64 x.2]), .pointer (some ⟨bp, 0, none⟩)] w fun e w' =>
      e = .returned (.bool (!tickOk x)) ∧ Later w w' := by
  have hb : bp < w.heap.size := World.block_lt_of_cell? w ⟨bp, 0, none⟩ h
  have h2 := fun W k => cell_later (W := W) h k hb
  go_enter Try.func127, Try.ntmps127
  go_wp2_with fail
  refine (valid_calls x _).mono ?_
  rintro e w1 ⟨rfl, hL1⟩
  go_wp2_with fail
  go_ret
  exact ⟨rfl, Later.trans (by simp) hL1⟩

theorem IndexFuncT_calls {A : Option Addr} {n k bp : Nat} {l : List (Int × Int)} (w : World) (h : RP w A n l) (hn : n ≤ 1000000) (hb : w.cell? ⟨bp, 0, none⟩ = some (.func (.func 114) #[] #[])) :
    Calls Try.prog 135 #[.slice A n k, .func (.func 127) #[] #[.pointer (some ⟨bp, 0, none⟩)]] w fun e w' =>
      e = .returned (.int .i64 (idxB (fun x => !tickOk x) l 0)) ∧ Later w w' := by
  have hl := h.len
  have hbl : bp < w.heap.size := World.block_lt_of_cell? w ⟨bp, 0, none⟩ hb
  have hb2 := fun W k => cell_later (W := W) hb k hbl
  have Hl := hide hl
  clear hl
  go_enter Try.func135, Try.ntmps135
  go_wp2_with fail
  go_loopw [8] (fun i wr => ∃ j : Nat, j ≤ n ∧ i = .int .i64 j ∧ idxB (fun x => !tickOk x) (l.drop j) j = idxB (fun x => !tickOk x) l 0 ∧ Later w wr) (fun i _ => n - (intOf i).toNat)
  case atStart => exact ⟨0, Nat.zero_le _, rfl, rfl, later_refl _⟩
  case round =>
    obtain ⟨j, hj, rfl, hno, hL⟩ := hrel
    by_cases hlt : j < n
    · obtain ⟨b, o, y, rfl, _, hx, hc0, hc1⟩ := h.get hlt
      obtain ⟨hp, e1⟩ := List.getElem?_eq_some_iff.1 hx
      rw [List.drop_eq_getElem_cons hp, e1] at hno
      simp only [idxB] at hno
      have hi1 : (j : Int) < n := by omega
      have hcc := allT1_calls y wr (hb2 _ hL)
      cases hok : tickOk y with
      | true =>
        rw [hok] at hcc
        simp only [hok, Bool.not_true, Bool.false_eq_true, if_false] at hno
        have Hno := hide hno
        have Hcc := hide hcc
        clear hno hx hcc e1 hok
        go_wp2_with fail
        refine Hcc.out.mono ?_
        rintro e w1 ⟨rfl, hL1⟩
        have hL2 := Later.trans hL hL1
        go_wp2_with fail
        go_roundw
        case rel => exact ⟨j + 1, by omega, by go_num, by rw [← Hno.out]; rfl, hL2⟩
        case measure => simp [intOf]; omega
      | false =>
        rw [hok] at hcc
        simp only [hok, Bool.not_false, if_true] at hno
        have Hno := hide hno
        have Hcc := hide hcc
        clear hno hx hcc e1 hok
        go_wp2_with fail
        refine Hcc.out.mono ?_
        rintro e w1 ⟨rfl, hL1⟩
        go_wp2_with fail
        go_ret
        exact ⟨ret_int Hno.out, Later.trans hL hL1⟩
    · rw [List.drop_of_length_le (by have := Hl.out; omega)] at hno
      have Hno := hide hno
      clear hno
      go_wp2_with fail
      go_ret
      exact ⟨ret_int Hno.out, hL⟩

theorem allT_eq {A : Option Addr} {n k : Nat} {l : List (Int × Int)} {b : Bool} (hb : l.all tickOk = b) (w : World) (h : RP w A n l) (hn : n ≤ 1000000) :
    Calls Try.prog 113 #[.slice A n k, (.func (.func 114) #[] #[])] w fun e w' => e = .returned (.bool b) ∧ Later w w' := by
  subst hb
  have hw : Later w (w.alloc (.cells #[(.func (.func 114) #[] #[])] 141)) := later_alloc (later_refl _) _
  have hb := box_cells w #[(.func (.func 114) #[] #[])] 141 _ (later_refl _) 0
  have hf := idxB_any (fun x => !tickOk x) l 0 (by omega)
  have hf2 := not_any_not tickOk l
  rw [← hf] at hf2
  have Hf := hide hf2
  clear hf hf2
  go_enter Try.func113, Try.ntmps113
  go_wp2_with fail
  go_enter Try.func126, Try.ntmps126
  go_wp2_with fail
  refine (IndexFuncT_calls _ (h.later hw) hn hb).mono ?_
  rintro e w1 ⟨rfl, hL1⟩
  generalize idxB (fun x => !tickOk x) l 0 = q at *
  go_wp2_with fail
  go_ret
  exact ⟨by rw [← Hf.out]; rfl, Later.trans hw hL1⟩

theorem allC1_calls {A1 A2 A3 : Option Addr} {n1 k1 n2 k2 n3 k3 : Nat} {c : Hou} {bp : Nat} (x : Cp) (w : World) (hn1 : n1 ≤ 1000000) (hn2 : n2 ≤ 1000000) (h : w.cell? ⟨bp, 0, none⟩ = some (.func (.func 109) #[(.agg #[.int .i64 c.hour, .int .i64 c.grace, .slice A1 n1 k1, .slice A2 n2 k2, .slice A3 n3 k3])] #[])) :
    Calls Try.prog 129 #[(.agg #[.int .i64 x.ticket, .int .i64 x.clock, .int .i64 x.minute]), .pointer (some ⟨bp, 0, none⟩)] w fun e w' =>
      e = .returned (.bool (!(clipOk n1 n2) x)) ∧ Later w w' := by
  have hb : bp < w.heap.size := World.block_lt_of_cell? w ⟨bp, 0, none⟩ h
  have h2 := fun W k => cell_later (W := W) h k hb
  go_enter Try.func129, Try.ntmps129
  go_wp2_with fail
  refine (clip_calls (c := c) x _ hn1 hn2).mono ?_
  rintro e w1 ⟨rfl, hL1⟩
  go_wp2_with fail
  go_ret
  exact ⟨rfl, Later.trans (by simp) hL1⟩

theorem IndexFuncC_calls {A1 A2 A3 : Option Addr} {n1 k1 n2 k2 n3 k3 : Nat} {c : Hou} {A : Option Addr} {n k bp : Nat} {l : List (Cp)} (w : World) (h : RC w A n l) (hn : n ≤ 1000000) (hn1 : n1 ≤ 1000000) (hn2 : n2 ≤ 1000000) (hb : w.cell? ⟨bp, 0, none⟩ = some (.func (.func 109) #[(.agg #[.int .i64 c.hour, .int .i64 c.grace, .slice A1 n1 k1, .slice A2 n2 k2, .slice A3 n3 k3])] #[])) :
    Calls Try.prog 136 #[.slice A n k, .func (.func 129) #[] #[.pointer (some ⟨bp, 0, none⟩)]] w fun e w' =>
      e = .returned (.int .i64 (idxB (fun x => !(clipOk n1 n2) x) l 0)) ∧ Later w w' := by
  have hl := h.len
  have hbl : bp < w.heap.size := World.block_lt_of_cell? w ⟨bp, 0, none⟩ hb
  have hb2 := fun W k => cell_later (W := W) hb k hbl
  have Hl := hide hl
  clear hl
  go_enter Try.func136, Try.ntmps136
  go_wp2_with fail
  go_loopw [8] (fun i wr => ∃ j : Nat, j ≤ n ∧ i = .int .i64 j ∧ idxB (fun x => !(clipOk n1 n2) x) (l.drop j) j = idxB (fun x => !(clipOk n1 n2) x) l 0 ∧ Later w wr) (fun i _ => n - (intOf i).toNat)
  case atStart => exact ⟨0, Nat.zero_le _, rfl, rfl, later_refl _⟩
  case round =>
    obtain ⟨j, hj, rfl, hno, hL⟩ := hrel
    by_cases hlt : j < n
    · obtain ⟨b, o, y, rfl, _, hx, hc0, hc1, hc2⟩ := h.get hlt
      obtain ⟨hp, e1⟩ := List.getElem?_eq_some_iff.1 hx
      rw [List.drop_eq_getElem_cons hp, e1] at hno
      simp only [idxB] at hno
      have hi1 : (j : Int) < n := by omega
      have hcc := allC1_calls (c := c) y wr hn1 hn2 (hb2 _ hL)
      cases hok : (clipOk n1 n2) y with
      | true =>
        rw [hok] at hcc
        simp only [hok, Bool.not_true, Bool.false_eq_true, if_false] at hno
        have Hno := hide hno
        have Hcc := hide hcc
        clear hno hx hcc e1 hok
        go_wp2_with fail
        refine Hcc.out.mono ?_
        rintro e w1 ⟨rfl, hL1⟩
        have hL2 := Later.trans hL hL1
        go_wp2_with fail
        go_roundw
        case rel => exact ⟨j + 1, by omega, by go_num, by rw [← Hno.out]; rfl, hL2⟩
        case measure => simp [intOf]; omega
      | false =>
        rw [hok] at hcc
        simp only [hok, Bool.not_false, if_true] at hno
        have Hno := hide hno
        have Hcc := hide hcc
        clear hno hx hcc e1 hok
        go_wp2_with fail
        refine Hcc.out.mono ?_
        rintro e w1 ⟨rfl, hL1⟩
        go_wp2_with fail
        go_ret
        exact ⟨ret_int Hno.out, Later.trans hL hL1⟩
    · rw [List.drop_of_length_le (by have := Hl.out; omega)] at hno
      have Hno := hide hno
      clear hno
      go_wp2_with fail
      go_ret
      exact ⟨ret_int Hno.out, hL⟩

theorem allC_eq {A1 A2 A3 : Option Addr} {n1 k1 n2 k2 n3 k3 : Nat} {c : Hou} {A : Option Addr} {n k : Nat} {l : List (Cp)} {b : Bool} (hb : l.all (clipOk n1 n2) = b) (w : World) (h : RC w A n l) (hn : n ≤ 1000000) (hn1 : n1 ≤ 1000000) (hn2 : n2 ≤ 1000000) :
    Calls Try.prog 115 #[.slice A n k, (.func (.func 109) #[(.agg #[.int .i64 c.hour, .int .i64 c.grace, .slice A1 n1 k1, .slice A2 n2 k2, .slice A3 n3 k3])] #[])] w fun e w' => e = .returned (.bool b) ∧ Later w w' := by
  subst hb
  have hw : Later w (w.alloc (.cells #[(.func (.func 109) #[(.agg #[.int .i64 c.hour, .int .i64 c.grace, .slice A1 n1 k1, .slice A2 n2 k2, .slice A3 n3 k3])] #[])] 137)) := later_alloc (later_refl _) _
  have hb := box_cells w #[(.func (.func 109) #[(.agg #[.int .i64 c.hour, .int .i64 c.grace, .slice A1 n1 k1, .slice A2 n2 k2, .slice A3 n3 k3])] #[])] 137 _ (later_refl _) 0
  have hf := idxB_any (fun x => !(clipOk n1 n2) x) l 0 (by omega)
  have hf2 := not_any_not (clipOk n1 n2) l
  rw [← hf] at hf2
  have Hf := hide hf2
  clear hf hf2
  go_enter Try.func115, Try.ntmps115
  go_wp2_with fail
  go_enter Try.func128, Try.ntmps128
  go_wp2_with fail
  refine (IndexFuncC_calls (c := c) _ (h.later hw) hn hn1 hn2 hb).mono ?_
  rintro e w1 ⟨rfl, hL1⟩
  generalize idxB (fun x => !(clipOk n1 n2) x) l 0 = q at *
  go_wp2_with fail
  go_ret
  exact ⟨by rw [← Hf.out]; rfl, Later.trans hw hL1⟩
end Go.Proofs.Ytbkfnajpbhfneaa

/- The program's minimum, wider: walks. -/
namespace Go.Proofs.Ytbkfnajpbhfneaa
open Go Go.RowKit

theorem Min2_calls (a b : Int) (k : Nat) (w : World) (g : Nat) (h0 : w.cell? ⟨g, 0, none⟩ = some (.int .i64 a)) (h1 : w.cell? ⟨g, 1, none⟩ = some (.int .i64 b)) :
    Calls Try.prog 130 #[.slice (some ⟨g, 0, none⟩) 2 k] w fun e w' => e = .returned (.int .i64 (min a b)) ∧ w = w' := by
  go_enter Try.func130, Try.ntmps130
  go_wp2_with fail
  go_loopw [4, 3] (fun i m wr => ((i = .int .i64 1 ∧ m = .int .i64 a) ∨ (i = .int .i64 2 ∧ m = .int .i64 (min a b))) ∧ w = wr) (fun i _ _ => 2 - (intOf i).toNat)
  case atStart => exact ⟨.inl ⟨rfl, rfl⟩, rfl⟩
  case round =>
    obtain ⟨⟨rfl, rfl⟩ | ⟨rfl, rfl⟩, rfl⟩ := hrel
    · go_wp2_with fail
      go_roundw
      case rel => exact ⟨.inr ⟨by go_num, by congr 1; rw [Int.min_def]; split <;> split <;> omega⟩, by first | trivial | rfl⟩
      case measure => simp [intOf, wrap64]
    · go_wp2_with fail
      go_ret
      exact ⟨rfl, rfl⟩
theorem min2_calls (a b : Int) (w : World) (g : Nat) (h0 : w.cell? ⟨g, 0, none⟩ = some (.int .i64 a)) (h1 : w.cell? ⟨g, 1, none⟩ = some (.int .i64 b)) :
    Calls Try.prog 117 #[.slice (some ⟨g, 0, none⟩) 2 2] w fun e w' => e = .returned (.int .i64 (min a b)) ∧ w = w' := by
  go_enter Try.func117, Try.ntmps117
  go_wp2_with fail
  refine (Min2_calls a b 2 _ _ h0 h1).mono ?_
  rintro e w1 ⟨rfl, rfl⟩
  go_wp2_with fail
  go_ret
  exact ⟨rfl, rfl⟩
set_option maxRecDepth 100000 in
theorem wider_calls (lo hi n : Int) (w : World) : Calls Try.prog 121 #[.agg #[.int .i64 lo, .int .i64 hi], .int .i64 n] w fun e w' =>
    e = .returned (.agg #[.int .i64 (min lo n), .int .i64 (max hi n)]) ∧ Later w w' := by
  obtain ⟨w0, hw0⟩ : ∃ W, W = (w.alloc (.cells #[.int .i64 lo, .int .i64 hi] 42)).alloc (.cells #[.int .i64 0, .int .i64 0] 42) := ⟨_, rfl⟩
  have hL0 : Later w w0 := by rw [hw0]; exact later_alloc (later_alloc (later_refl _) _) _
  have b1 : Blk w0 w.heap.size 42 #[.int .i64 lo, .int .i64 hi] := by rw [hw0]; exact (Blk.new _ _ _).alloc _
  have b2 : Blk w0 (w.heap.size + 1) 42 #[.int .i64 0, .int .i64 0] := by
    have := Blk.new (w.alloc (.cells #[.int .i64 lo, .int .i64 hi] 42)) 42 #[.int .i64 0, .int .i64 0]
    rw [World.size_alloc] at this
    rw [hw0]; exact this
  have c0 := b1.cells_later
  have c00 := fun W hW => c0 W hW 0
  have c01 := fun W hW => c0 W hW 1
  simp only [List.getElem?_toArray, List.getElem?_cons_zero, List.getElem?_cons_succ] at c00 c01
  have d0 := b2.cells_later
  have d00 := fun W hW => d0 W hW 0
  have d01 := fun W hW => d0 W hW 1
  have f0 := b2.frozen_later
  simp only [List.getElem?_toArray, List.getElem?_cons_zero, List.getElem?_cons_succ] at d00 d01
  have Hw0 := hide hw0
  clear hw0 c0 d0
  have hs : w0.heap.size = w.heap.size + 1 + 1 := by rw [Hw0.out]; simp
  have hs1 : w.heap.size < w0.heap.size := by omega
  have hs2 : w.heap.size + 1 < w0.heap.size := by omega
  have e00 := c00 _ (later_drew (later_refl _))
  have e01 := c01 _ (later_drew (later_refl _))
  have hL1 := later_drew hL0
  clear hs
  by_cases h2 : n ≤ hi
  · have hm : max hi n = hi := by omega
    rw [hm]
    go_enter Try.func121, Try.ntmps121
    go_wp2_with fail
    rw [← Hw0.out]
    clear Hw0
    go_region_held3 (fun W => Later w W ∧ W.cell? ⟨w.heap.size, 0, none⟩ = some (.int .i64 lo) ∧ W.cell? ⟨w.heap.size, 1, none⟩ = some (.int .i64 hi)) ((refine ⟨?_, ?_, ?_⟩ <;> first | (((repeat (first | exact hL0 | refine later_drew ?_ | refine later_alloc ?_ _ | refine later_set ?_ _ (Nat.le_add_right _ _) _ | refine later_set ?_ _ (Nat.le_refl _) _)); done)) | (go_keep; done)))
      (first | (go_at_call 117; refine (min2_calls lo n _ _ (box_cells w0 #[.int .i64 lo, .int .i64 n] 3 _ (later_drew (later_refl _)) 0) (box_cells w0 #[.int .i64 lo, .int .i64 n] 3 _ (later_drew (later_refl _)) 1)).mono ?_; rintro e w1 ⟨rfl, rfl⟩))
    all_goals
      go_wp2_with fail
      refine bodyPost_ret (v := .agg #[.int .i64 (min lo n), .int .i64 hi]) ?_ rfl ⟨rfl, ?_⟩
      · simp [results, Try.results121, go_sem, *]
      · (((repeat (first | exact hL0 | refine later_drew ?_ | refine later_alloc ?_ _ | refine later_set ?_ _ (Nat.le_add_right _ _) _ | refine later_set ?_ _ (Nat.le_refl _) _)); done))
  · have hm : max hi n = n := by omega
    rw [hm]
    go_enter Try.func121, Try.ntmps121
    go_wp2_with fail
    rw [← Hw0.out]
    clear Hw0
    go_region_held3 (fun W => Later w W ∧ W.cell? ⟨w.heap.size, 0, none⟩ = some (.int .i64 lo) ∧ W.cell? ⟨w.heap.size, 1, none⟩ = some (.int .i64 hi)) ((refine ⟨?_, ?_, ?_⟩ <;> first | (((repeat (first | exact hL0 | refine later_drew ?_ | refine later_alloc ?_ _ | refine later_set ?_ _ (Nat.le_add_right _ _) _ | refine later_set ?_ _ (Nat.le_refl _) _)); done)) | (go_keep; done)))
      (first | (go_at_call 117; refine (min2_calls lo n _ _ (box_cells w0 #[.int .i64 lo, .int .i64 n] 3 _ (later_drew (later_refl _)) 0) (box_cells w0 #[.int .i64 lo, .int .i64 n] 3 _ (later_drew (later_refl _)) 1)).mono ?_; rintro e w1 ⟨rfl, rfl⟩))
    all_goals
      go_wp2_with fail
      refine bodyPost_ret (v := .agg #[.int .i64 (min lo n), .int .i64 n]) ?_ rfl ⟨rfl, ?_⟩
      · simp [results, Try.results121, go_sem, *]
      · (((repeat (first | exact hL0 | refine later_drew ?_ | refine later_alloc ?_ _ | refine later_set ?_ _ (Nat.le_add_right _ _) _ | refine later_set ?_ _ (Nat.le_refl _) _)); done))
end Go.Proofs.Ytbkfnajpbhfneaa
