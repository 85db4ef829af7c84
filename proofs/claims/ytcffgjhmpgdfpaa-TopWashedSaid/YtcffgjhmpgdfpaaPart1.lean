/- Part 1 of the proof: joined from the texts Row, Seat, Model, Words, Open, Open2, Region, Own, Kit, Blk, TcA, TcB, Truths, Pl. -/
import Derived.Test.YtcffgjhmpgdfpaaProg
import Derived.Test.YtcffgjhmpgdfpaaChecked
import Derived.ProofKit
import Derived.Below
import Derived.Test.YtcffgjhmpgdfpaaRows
import Derived.Laws.OwnMore
import Derived.Deep.AppendLies
import Derived.Deep.Draws
import Derived.Deep.Slices
import Derived.Deep.Fields
import Derived.ChangeSame
import Derived.Lib.SmallJoins
import Derived.ChangeSlices
import Derived.IntWalk
import Derived.Deep.QuietTactic
import Derived.StillTail
import Derived.Maps.AppendAt
import Derived.OwnWalk
import Derived.WalkKit
import Derived.WalkLawsBesides
import Derived.Outline
import Derived.BigQuiet
import Derived.Deep.RegionHeld3
import Derived.Deep.DeepMust
import Derived.Deep.DeepFit
import Derived.Deep.LoopGhost
import Derived.Deep.DeepCutAuto
set_option linter.unusedSimpArgs false
set_option linter.unusedVariables false
/- A law's row, in general: if each call answers true and leaves the memory that was there, the row holds. -/
namespace Go.Proofs.Ytcffgjhmpgdfpaa
open Go Go.ChangeShapes Go.WideShapes Go.ChangeAt Go.RowKit

theorem seat_own : ownKnob Try.prog.godebug = none := by kernel_rfl
theorem seat_laid : laidOutB Try.prog = true := by kernel_rfl
section
variable {H : Type} {enc : TypeId × Value → H} {P : Program}
theorem below_trodAll (hl : laidOutB P = true) {W W' : World} (hb : Below W.heap.size W W') : ∀ {ts : List TypeId} {vs : List Value} {ds : List (DataW H)} {ps : List MemPlace},
    (∀ t ∈ ts, P.readableRec t = true ∧ t < P.types.size) → (∀ x ∈ ps, x.block < W.heap.size) → DataW.TrodAll enc P W 0 (fun _ => true) true ts vs ds ps → DataW.TrodAll enc P W' 0 (fun b => decide (b < W.heap.size)) true ts vs ds ps
  | [], vs, ds, ps, _, _, h => by
    obtain ⟨rfl, rfl, rfl⟩ := trodAll_nil h
    exact trodAll_mk0
  | t :: ts, vs, ds, ps, hr, hlt, h => by
    obtain ⟨v, vs', d, ds', p, q, rfl, rfl, rfl, h1, h2⟩ := trodAll_cons h
    have ht := hr t List.mem_cons_self
    exact ⟨p, q, Below.trod hl ht.1 ht.2 h1 hb (fun x hx => hlt x (List.mem_append.2 (.inl hx))),
      below_trodAll hl hb (fun t ht => hr t (List.mem_cons_of_mem _ ht)) (fun x hx => hlt x (List.mem_append.2 (.inr hx))) h2, rfl⟩
theorem trodAll_len {W : World} {base : Nat} {spare : Nat → Bool} {held : Bool} : ∀ {ts : List TypeId} {vs : List Value} {ds : List (DataW H)} {ps : List MemPlace},
    DataW.TrodAll enc P W base spare held ts vs ds ps → ds.length = ts.length
  | [], vs, ds, ps, h => by obtain ⟨rfl, rfl, rfl⟩ := trodAll_nil h; rfl
  | t :: ts, vs, ds, ps, h => by
    obtain ⟨v, vs', d, ds', p, q, rfl, rfl, rfl, h1, h2⟩ := trodAll_cons h
    simp [trodAll_len h2]
end
/-- what a law's call does -/
def Answers (k : Nat) (args : Array Value) (W : World) : Prop := Calls Try.prog k args W fun e W' => e = .returned (.bool true) ∧ Below W.heap.size W W'
set_option maxRecDepth 100000 in
theorem law_lifted {f : Func} {k : Nat} {s : ChangeSpec} (hf : Try.prog.funcs[k]? = some f) (hinit : Try.prog.inits.idxOf? k = none) (hvars : s.vars = [])
    (hres : f.resultTypes = #[4]) (hn : ∀ (H : Type) (ds : List (DataW H)), ds.length = f.params.toList.length → s.fn H ds = { results := [.lit (.bool true)], args := ds })
    (hr : ∀ t ∈ f.params.toList, Try.prog.readableRec t = true ∧ t < Try.prog.types.size)
    (contract : ∀ (H : Type) (enc : TypeId × Value → H) (W : World) (args : Array Value) (ds : List (DataW H)) (p : List MemPlace),
      (∀ (j : Nat) t v, f.params[j]? = some t → args[j]? = some v → ∃ base, Value.okWide Try.prog W .any base t v) →
      DataW.TrodAll enc Try.prog W 0 (fun _ => true) true f.params.toList args.toList ds p → Answers k args W)
    (os : Os) (started : os.Started) (H : Type) (enc : TypeId × Value → H)
    (witness : ∃ (w : World) (tape : Tape) (i : Input), w.os = os ∧ (w.forCall tape i).Shaped Try.prog ∧ i.vars = [] ∧ Input.okWide Try.prog (w.forCall tape i) .any w.heap.size k i ∧
      s.pre6 enc Try.prog f [] false (w.forCall tape i).memory i.args ∧ ({} : Assume).holds Try.prog (lone (Frame.enter Try.prog k i.args .normal) [] (w.forCall tape i))) :
    ReturnsInHanded {} Try.checked os k .any (s.pre6 enc Try.prog f [] false) (s.post enc Try.prog f false true false false) := by
  refine returnsInHanded_of_change (C := Try.checked) seat_own started hinit hf witness ?_
  intro W base args ds gs before hval hW _ _
  have hW' := hW
  rw [hvars] at hW'
  obtain ⟨p, q, hA, hV, rfl, hfz, hnd⟩ := hW'
  have hV2 := trodVars_none hV
  obtain ⟨rfl, rfl⟩ := hV2
  refine (contract H enc W args ds p (fun j t v h1 h2 => ⟨base, hval j t v h1 h2⟩) hA).mono fun e W' ⟨he, hb⟩ => ?_
  subst he
  have hlt : ∀ x ∈ p, x.block < W.heap.size := fun x hx => hW.lt x (by simp [hx])
  have hfn := hn H ds (trodAll_len hA)
  refine ⟨_, rfl, ds, [], _, [], p, [], hW, ?_, ?_, ?_, hb.frame _, fun h => by cases h⟩
  · rw [List.append_nil, hfn, hres]; exact trodAll_mk1 (shut_bool Try.underlying4 true)
  · rw [List.append_nil, hfn]; exact below_trodAll seat_laid hb hr hlt hA
  · rw [List.append_nil, hfn, hvars]; rfl
end Go.Proofs.Ytcffgjhmpgdfpaa

/- Closed facts of the seat's program, and how a row's facts are put together. -/
namespace Go.Proofs.Ytcffgjhmpgdfpaa
open Go Go.ChangeShapes Go.WideShapes Go.ChangeAt Go.RowKit

theorem seat_1 : (laidOutB Try.prog) = true := by kernel_rfl
theorem seat_2 : (mapsRowed Try.prog) = true := by kernel_rfl
theorem seat_6 : ((Try.prog.stops == [])) = true := by kernel_rfl
theorem seat_8 : ((Try.prog.stopKnobs == [])) = true := by kernel_rfl
theorem seat_22 : ((false == Try.prog.plainKeys)) = true := by kernel_rfl
theorem seat_24 : (Try.prog.stopsHeard) = true := by kernel_rfl
theorem seat_25 : (Try.prog.mayEnter) = true := by kernel_rfl
theorem seat_26 : (Rows.topWashedRow.lifted == Try.prog.liftsFinal) = true := by kernel_rfl
theorem seat_27 : (Try.prog.make == some Rows.topWashedRow.make) = true := by kernel_rfl
theorem joined_of {P : Program} {f : FuncId} {fn : Func} {s : ChangeSpec} {c : OpenClaim}
    (h0 : (c.wf (OpenSpec.ofChange s)) = true)
    (h1 : (laidOutB P) = true)
    (h2 : (mapsRowed P) = true)
    (h3 : (fn.params.all (P.readableRec ·)) = true)
    (h4 : (namedTie P c.named s.vars) = true)
    (h5 : ((c.stops == [])) = true)
    (h6 : ((P.stops == [])) = true)
    (h7 : ((c.knobs == [])) = true)
    (h8 : ((P.stopKnobs == [])) = true)
    (h9 : ((c.inPlace == P.inPlace f)) = true)
    (h10 : ((c.unfollowed == P.unfollowed f)) = true)
    (h11 : ((c.recurses == P.recurses f)) = true)
    (h12 : ((c.named == P.varsNamed f)) = true)
    (h13 : ((c.maps == (fn.params.toList ++ s.plain.varTypes P).any (P.mapsRec ·))) = true)
    (h14 : ((c.ifaces == (fn.params.toList ++ s.plain.varTypes P).any (P.ifacesRec ·))) = true)
    (h15 : ((c.mapsOut == P.mapsAmong fn.resultTypes.toList)) = true)
    (h16 : ((c.loops == (fn.params.toList ++ s.plain.varTypes P).any (P.loopsFrom ·))) = true)
    (h17 : ((c.wideKeys == (fn.params.toList ++ s.plain.varTypes P ++ fn.resultTypes.toList).any (P.wideKeysFrom ·))) = true)
    (h18 : (s.vars.all (P.varReadable ·)) = true)
    (h19 : (fn.resultTypes.all (fun t => P.readableRec t && decide (t < P.types.size))) = true)
    (h20 : ((c.ifacesOut == fn.resultTypes.toList.any (P.ifacesRec ·))) = true)
    (h21 : ((c.loopsOut == fn.resultTypes.toList.any (P.loopsFrom ·))) = true)
    (h22 : ((c.plainKeys == P.plainKeys)) = true)
    (h23 : (c.shortTexts.isNone) = true)
    (h24 : (P.stopsHeard) = true)
    (h25 : (P.mayEnter) = true)
    (h26 : ((c.lifted == P.liftsFinal)) = true)
    (h27 : ((P.make == some c.make)) = true)
    (h28 : ((c.kinds == (if c.domain.isEmpty then [] else fn.params.toList.map fun t => match P.underlying t with | some (.int k) => some k | _ => none))) = true)
    (h29 : ((c.pinned == c.pinnedBy)) = true)
    (h30 : ((c.veiled == (fn.params.toList ++ s.plain.varTypes P ++ fn.resultTypes.toList).any (P.veiledRec ·))) = true)
    (h31 : (c.veiledFits P fn.params.toList (fn.params.toList ++ s.plain.varTypes P ++ fn.resultTypes.toList)) = true)
    : joinedFacts P f fn s c = true := by
  unfold joinedFacts
  simp only [Bool.and_eq_true]
  exact ⟨⟨⟨⟨⟨⟨⟨⟨⟨⟨⟨⟨⟨⟨⟨⟨⟨⟨⟨⟨⟨⟨⟨⟨⟨⟨⟨⟨⟨⟨⟨h0, h1⟩, h2⟩, h3⟩, h4⟩, h5⟩, h6⟩, h7⟩, h8⟩, h9⟩, h10⟩, h11⟩, h12⟩, h13⟩, h14⟩, h15⟩, h16⟩, h17⟩, h18⟩, h19⟩, h20⟩, h21⟩, h22⟩, h23⟩, h24⟩, h25⟩, h26⟩, h27⟩, h28⟩, h29⟩, h30⟩, h31⟩
end Go.Proofs.Ytcffgjhmpgdfpaa

/- Plain model data of chapter 01 (tickets), and the functions of the reference, as plain functions: no program in sight. -/
namespace Go.Proofs.Ytcffgjhmpgdfpaa

structure Cp where
  ticket : Int
  clock : Int
  minute : Int
deriving DecidableEq, Inhabited

/-- a house; a clock is its range, a ticket its tub and its hours -/
structure Hou where
  hour : Int
  grace : Int
  clocks : List (Int × Int)
  tickets : List (Int × Int)
  clips : List Cp
deriving DecidableEq, Inhabited

/-- n is from lo to hi -/
def inB (n lo hi : Int) : Bool := decide (lo ≤ n) && decide (n ≤ hi)

def wr64 (n : Int) : Int := (n + 9223372036854775808) % 18446744073709551616 - 9223372036854775808

/-- the first index (counted from j) at which a list holds x; -1 if there is none -/
def atFrom : List Int → Int → Int → Int
  | [], _, _ => -1
  | y :: l, x, j => if y = x then j else atFrom l x (j + 1)

def clipAt (c : Hou) (k : Nat) : Cp := c.clips.getD k default
def tickAt (c : Hou) (k : Nat) : Int × Int := c.tickets.getD k default
def clockAt (c : Hou) (k : Nat) : Int × Int := c.clocks.getD k default

/-- the numbers of the clips of a ticket -/
def ofR (c : Hou) (t : Int) : List Nat := (List.range c.clips.length).filter fun i => decide ((clipAt c i).ticket = t)
def nats (l : List Nat) : List Int := l.map fun (i : Nat) => (i : Int)

def clockOk (r : Int × Int) : Bool := decide (-30 ≤ r.1) && decide (r.1 ≤ r.2) && decide (r.2 ≤ 30)
def tickOk (t : Int × Int) : Bool := inB t.1 0 8 && inB t.2 0 9
def clipOk (n m : Nat) (x : Cp) : Bool := inB x.ticket 0 (m - 1) && inB x.clock 0 (n - 1) && inB x.minute 0 1439
def ofOk (c : Hou) (i : Nat) : Bool := decide ((ofR c i).length ≤ 2)

def sizeR (r : Int × Int) : Int := r.2 - r.1 + 1
def many (c : Hou) : Int := c.clocks.foldl (fun n r => min 3000 (n * sizeR r)) 1

def fault (c : Hou) : Int :=
  if 4 < c.clocks.length ∨ 6 < c.tickets.length ∨ 10 < c.clips.length then 3
  else if inB c.hour 1 120 = false ∨ inB c.grace 0 60 = false then 1
  else if c.clocks.all clockOk = false then 1
  else if c.clips.all (clipOk c.clocks.length c.tickets.length) = false then 1
  else if (List.range c.tickets.length).all (fun i => tickOk (tickAt c i) && ofOk c i) = false then 1
  else if 2000 < many c then 3 else 0

def nth : List (Int × Int) → Int → List Int
  | [], _ => []
  | r :: l, n => (r.1 + n % sizeR r) :: nth l (n / sizeR r)

def areErrors : List (Int × Int) → List Int → Bool
  | [], [] => true
  | r :: l, x :: d => inB x r.1 r.2 && areErrors l d
  | _, _ => false

/-- the true minute of a clip -/
def minuteC (d : List Int) (x : Cp) : Int := x.minute - d.getD x.clock.toNat 0
def trueM (c : Hou) (d : List Int) (i : Nat) : Int := minuteC d (clipAt c i)

/-- the reference's Rising: of some clips (by bits) -/
def risingR (c : Hou) (d : List Int) (bits : Nat) : Bool :=
  (List.range c.clips.length).all fun i => (List.range i).all fun k => !(bits.testBit i && bits.testBit k && decide (trueM c d i < trueM c d k))

def full (c : Hou) : Nat := 2 ^ c.clips.length - 1
def isTruth (c : Hou) (d : List Int) : Bool := areErrors c.clocks d && risingR c d (full c)
def allErr (c : Hou) : List (List Int) := (List.range (many c).toNat).map fun (n : Nat) => nth c.clocks n
def truths (c : Hou) : List (List Int) := (allErr c).filter fun d => risingR c d (full c)

/-- the hours of a stay: the smallest number whose hours reach it -/
def hoursOf (hour stay : Int) : Int := if stay ≤ 0 then 0 else (stay + hour - 1) / hour
def hoursR (c : Hou) (d : List Int) (t : Int) : Int :=
  match ofR c t with
  | a :: b :: _ => hoursOf c.hour (trueM c d b - trueM c d a - c.grace)
  | _ => 0
def isLong (c : Hou) (d : List Int) (t : Nat) : Bool := decide ((tickAt c t).2 < hoursR c d t)
def cameB (c : Hou) (d : List Int) (t o : Int) : Bool :=
  match ofR c o with
  | _ :: b :: _ => match ofR c t with
    | a :: _ => decide (trueM c d a < trueM c d b)
    | [] => true
  | _ => true
def clashB (c : Hou) (d : List Int) (a b : Nat) : Bool :=
  decide ((tickAt c a).1 = (tickAt c b).1) && !(ofR c a).isEmpty && !(ofR c b).isEmpty && cameB c d a b && cameB c d b a
def isPaid (c : Hou) (d : List Int) : Bool :=
  (List.range c.tickets.length).all fun a => !isLong c d a && (List.range a).all fun b => !clashB c d a b
def isOpen (c : Hou) (tub : Int) : Bool :=
  (List.range c.tickets.length).any fun i => decide ((tickAt c i).1 = tub) && decide ((ofR c i).length = 1)
def fromStep (c : Hou) (d : List Int) (tub : Int) (n : Int) (i : Nat) : Int :=
  if (tickAt c i).1 = tub then (match ofR c i with
    | [_, b] => max n (trueM c d b)
    | _ => n) else n
def fromR (c : Hou) (d : List Int) (tub : Int) : Int := (List.range c.tickets.length).foldl (fromStep c d tub) 0

def wider (r : Int × Int) (n : Int) : Int × Int := (min r.1 n, max r.2 n)
/-- bounds of an answer in some truths, as the reference has them -/
def bR (f : List Int → Int) (l : List (List Int)) : Int × Int := l.foldl (fun r d => wider r (f d)) (1099511627776, -1099511627776)
def verdictN (yes many : Nat) : Int := if yes = many then 1 else if yes = 0 then 2 else 3
def vR (p : List Int → Bool) (l : List (List Int)) : Int := verdictN (l.countP p) l.length

def leavesStep (l : List (List Int)) (k : Nat) (most : Int) (d : List Int) : Int := max most (l.countP (fun x => decide (x.getD k 0 = d.getD k 0)) : Int)
def leaves (l : List (List Int)) (k : Nat) : Int := l.foldl (leavesStep l k) 0
def lookStep (l : List (List Int)) (r : Nat × Int) (i : Nat) : Nat × Int := if leaves l i < r.2 then (i, leaves l i) else r
/-- clocks 1 .. n-1 against the best of those before -/
def lookR (c : Hou) (l : List (List Int)) : Nat × Int := ((List.range (c.clocks.length - 1)).map (· + 1)).foldl (lookStep l) (0, leaves l 0)

def bitList : Nat → Nat → Nat → List Int
  | 0, _, _ => []
  | k + 1, bits, p => if bits % 2 = 1 then (p : Int) :: bitList k (bits / 2) (p + 1) else bitList k (bits / 2) (p + 1)
def bitsR (bits : Nat) : List Int := bitList bits bits 0

def before : List Int → List Int → Bool
  | a :: l, b :: m => if a = b then before l m else decide (a < b)
  | [], _ :: _ => true
  | _, [] => false
def shorter (a b : List Int) : Bool := decide (a.length < b.length) || (a.length == b.length && before a b)

def can (c : Hou) (bits : Nat) : Bool := (allErr c).any fun d => risingR c d bits
def firstR (c : Hou) : Int :=
  match (List.range c.clips.length).find? (fun n => !can c (2 ^ (n + 1) - 1)) with
  | some n => n
  | none => -1
def leaveStep (c : Hou) (best : List Int) (bits : Nat) : List Int :=
  if shorter (bitsR bits) best && can c (full c - bits) then bitsR bits else best
def leaveR (c : Hou) : List Int := (List.range (full c + 1)).foldl (leaveStep c) (bitsR (full c))

/-! ### what is so of valid houses -/
structure OkH (c : Hou) : Prop where
  n1 : c.clocks.length ≤ 4
  n2 : c.tickets.length ≤ 6
  n3 : c.clips.length ≤ 10
  hour : 1 ≤ c.hour ∧ c.hour ≤ 120
  grace : 0 ≤ c.grace ∧ c.grace ≤ 60
  clock : ∀ r ∈ c.clocks, -30 ≤ r.1 ∧ r.1 ≤ r.2 ∧ r.2 ≤ 30
  tick : ∀ t ∈ c.tickets, 0 ≤ t.1 ∧ t.1 ≤ 8 ∧ 0 ≤ t.2 ∧ t.2 ≤ 9
  clip : ∀ x ∈ c.clips, 0 ≤ x.ticket ∧ x.ticket < c.tickets.length ∧ 0 ≤ x.clock ∧ x.clock < c.clocks.length ∧ 0 ≤ x.minute ∧ x.minute ≤ 1439
  two : ∀ i, i < c.tickets.length → (ofR c i).length ≤ 2

structure IsErr (c : Hou) (d : List Int) : Prop where
  len : d.length = c.clocks.length
  mem : ∀ (i : Nat) (r : Int × Int) (x : Int), c.clocks[i]? = some r → d[i]? = some x → r.1 ≤ x ∧ x ≤ r.2

theorem areErrors_iff : ∀ (l : List (Int × Int)) (d : List Int), areErrors l d = true ↔ d.length = l.length ∧ ∀ (i : Nat) (r : Int × Int) (x : Int), l[i]? = some r → d[i]? = some x → r.1 ≤ x ∧ x ≤ r.2
  | [], [] => by simp [areErrors]
  | [], _ :: _ => by simp [areErrors]
  | _ :: _, [] => by simp [areErrors]
  | h :: l, x :: d => by
    simp only [areErrors, Bool.and_eq_true, inB, decide_eq_true_eq, areErrors_iff l d, List.length_cons]
    constructor
    · rintro ⟨⟨h1, h2⟩, h3, h4⟩
      refine ⟨by omega, fun i k y => ?_⟩
      cases i with
      | zero => simp only [List.getElem?_cons_zero, Option.some.injEq]; rintro rfl rfl; exact ⟨h1, h2⟩
      | succ i => simp only [List.getElem?_cons_succ]; exact h4 i k y
    · rintro ⟨h3, h4⟩
      exact ⟨h4 0 h x rfl rfl, by omega, fun i k y hk hy => h4 (i + 1) k y hk hy⟩
theorem isErr_iff (c : Hou) (d : List Int) : areErrors c.clocks d = true ↔ IsErr c d :=
  (areErrors_iff c.clocks d).trans ⟨fun ⟨a, b⟩ => ⟨a, b⟩, fun ⟨a, b⟩ => ⟨a, b⟩⟩
theorem nth_err : ∀ (l : List (Int × Int)) (n : Int), (∀ h ∈ l, h.1 ≤ h.2) → areErrors l (nth l n) = true
  | [], _, _ => rfl
  | h :: l, n, ok => by
    have o := ok h List.mem_cons_self
    have h1 := Int.emod_nonneg n (b := sizeR h) (by unfold sizeR; omega)
    have h2 := Int.emod_lt_of_pos n (b := sizeR h) (by unfold sizeR; omega)
    simp only [nth, areErrors, nth_err l _ (fun x hx => ok x (List.mem_cons_of_mem _ hx)), Bool.and_true, inB, Bool.and_eq_true, decide_eq_true_eq]
    unfold sizeR at *
    omega
theorem nth_isErr {c : Hou} (ok : OkH c) (n : Int) : IsErr c (nth c.clocks n) :=
  (isErr_iff c _).1 (nth_err c.clocks n fun h hh => by have := ok.clock h hh; omega)
theorem allErr_isErr {c : Hou} (ok : OkH c) : ∀ d ∈ allErr c, IsErr c d := by
  intro d hd
  obtain ⟨n, _, rfl⟩ := List.mem_map.1 hd
  exact nth_isErr ok n
theorem truths_isErr {c : Hou} (ok : OkH c) : ∀ d ∈ truths c, IsErr c d := fun d hd => allErr_isErr ok d (List.mem_filter.1 hd).1
theorem IsErr.range {c : Hou} (ok : OkH c) {d : List Int} (h : IsErr c d) (i : Nat) : -30 ≤ d.getD i 0 ∧ d.getD i 0 ≤ 30 := by
  rw [List.getD_eq_getElem?_getD]
  rcases Nat.lt_or_ge i d.length with hl | hl
  · rw [List.getElem?_eq_getElem hl, Option.getD_some]
    have hi : i < c.clocks.length := by have := h.len; omega
    have h1 := h.mem i _ _ (List.getElem?_eq_getElem hi) (List.getElem?_eq_getElem hl)
    have h2 := ok.clock _ (List.getElem_mem hi)
    omega
  · rw [List.getElem?_eq_none hl]; simp
theorem atFrom_cons (y : Int) (l : List Int) (x j : Int) : atFrom (y :: l) x j = if y = x then j else atFrom l x (j + 1) := rfl
theorem find_range_some {P : Nat → Bool} {n j : Nat} (hj : j < n) (h : P j = true) (hno : ∀ t, t < j → P t = false) : (List.range n).find? P = some j := by
  rw [List.find?_range_eq_some]
  exact ⟨h, by simpa using hj, fun t ht => by simp [hno t ht]⟩
theorem find_range_none {P : Nat → Bool} {n : Nat} (hno : ∀ t, t < n → P t = false) : (List.range n).find? P = none := by
  rw [List.find?_eq_none]
  intro x hx
  simp [hno x (by simpa using hx)]
theorem countP_take {α : Type} (p : α → Bool) (l : List α) (j : Nat) (x : α) (h : l[j]? = some x) : (l.take (j + 1)).countP p = (l.take j).countP p + (if p x then 1 else 0) := by
  rw [List.take_add_one, h, Option.toList_some, List.countP_append]
  simp [List.countP_cons]
theorem countP_take_le {α : Type} (p : α → Bool) (l : List α) (j : Nat) : (l.take j).countP p ≤ j := Nat.le_trans List.countP_le_length (List.length_take_le _ _)
theorem range_all_succ (f : Nat → Bool) (j : Nat) : (List.range (j + 1)).all f = ((List.range j).all f && f j) := by
  rw [List.range_succ, List.all_append]; simp
theorem range_any_succ (f : Nat → Bool) (j : Nat) : (List.range (j + 1)).any f = ((List.range j).any f || f j) := by
  rw [List.range_succ, List.any_append]; simp
theorem range_all_false {f : Nat → Bool} {j n : Nat} (hj : j < n) (h : f j = false) : (List.range n).all f = false := by
  rw [← Bool.not_eq_true, List.all_eq_true]
  intro k
  rw [k j (by simpa using hj)] at h; cases h
theorem range_any_true {f : Nat → Bool} {j n : Nat} (hj : j < n) (h : f j = true) : (List.range n).any f = true := by
  rw [List.any_eq_true]
  exact ⟨j, by simpa using hj, h⟩
theorem pow_le_of {a b : Nat} (h : a ≤ b) : 2 ^ a ≤ 2 ^ b := Nat.pow_le_pow_right (by omega) h

theorem ofR_lt {c : Hou} {t : Int} {i : Nat} (h : i ∈ ofR c t) : i < c.clips.length := by
  have := (List.mem_filter.1 h).1
  simpa using this
theorem clipAt_mem {c : Hou} {i : Nat} (h : i < c.clips.length) : clipAt c i ∈ c.clips := by
  unfold clipAt; rw [List.getD_eq_getElem?_getD, List.getElem?_eq_getElem h]; exact List.getElem_mem h
theorem tickAt_mem {c : Hou} {i : Nat} (h : i < c.tickets.length) : tickAt c i ∈ c.tickets := by
  unfold tickAt; rw [List.getD_eq_getElem?_getD, List.getElem?_eq_getElem h]; exact List.getElem_mem h
theorem clipAt_of {c : Hou} {i : Nat} {x : Cp} (h : c.clips[i]? = some x) : clipAt c i = x := by unfold clipAt; rw [List.getD_eq_getElem?_getD, h]; rfl
theorem tickAt_of {c : Hou} {i : Nat} {x : Int × Int} (h : c.tickets[i]? = some x) : tickAt c i = x := by unfold tickAt; rw [List.getD_eq_getElem?_getD, h]; rfl
theorem clockAt_of {c : Hou} {i : Nat} {x : Int × Int} (h : c.clocks[i]? = some x) : clockAt c i = x := by unfold clockAt; rw [List.getD_eq_getElem?_getD, h]; rfl
theorem minuteC_range {c : Hou} (ok : OkH c) {d : List Int} (h : IsErr c d) {x : Cp} (hx : x ∈ c.clips) : -30 ≤ minuteC d x ∧ minuteC d x ≤ 1469 := by
  have := ok.clip x hx
  have := h.range ok x.clock.toNat
  unfold minuteC; omega
theorem trueM_range {c : Hou} (ok : OkH c) {d : List Int} (h : IsErr c d) {i : Nat} (hi : i < c.clips.length) : -30 ≤ trueM c d i ∧ trueM c d i ≤ 1469 := minuteC_range ok h (clipAt_mem hi)
end Go.Proofs.Ytcffgjhmpgdfpaa

/- Words for memory: what a slice reads as, what lies in a range. -/
namespace Go.Proofs.Ytcffgjhmpgdfpaa
open Go.RowKit

theorem hide {p : Prop} (h : p) : Hid p := h
theorem block_of_add (a : Addr) (n : Nat) : (a.add n).block = a.block := by unfold Addr.add; split <;> rfl
theorem add_of_add (a : Addr) (i j : Nat) : (a.add i).add j = a.add (i + j) := by
  unfold Addr.add
  by_cases hi : i = 0 <;> by_cases hj : j = 0 <;> simp [hi, hj, Nat.add_assoc]

/-- the slice value '.slice A n c' holds the cells xs ('size' cells an element), below block B -/
def Reads (w : World) (B size : Nat) (A : Option Addr) (n : Nat) (xs : List Value) : Prop :=
  xs.length = n * size ∧ (0 < n → ∃ ad, A = some ad ∧ ad.block < B ∧ ∀ j u, xs[j]? = some u → w.cell? (ad.add j) = some u)

section
variable {w w' : World} {B B' size n : Nat} {A : Option Addr} {xs : List Value}
theorem Reads.none_ : Reads w B size A 0 [] := ⟨by simp, fun h => absurd h (by omega)⟩
theorem Reads.keep (h : Reads w B size A n xs) (hk : ∀ p : Addr, p.block < B → w'.cell? p = w.cell? p) : Reads w' B size A n xs :=
  ⟨h.1, fun hn => by
    obtain ⟨ad, e, hb, hc⟩ := h.2 hn
    exact ⟨ad, e, hb, fun j u hu => (hk _ (by rw [block_of_add]; exact hb)).trans (hc j u hu)⟩⟩
theorem Reads.more (h : Reads w B size A n xs) (hB : B ≤ B') : Reads w B' size A n xs :=
  ⟨h.1, fun hn => by
    obtain ⟨ad, e, hb, hc⟩ := h.2 hn
    exact ⟨ad, e, by omega, hc⟩⟩
theorem Reads.below (h : Reads w B size A n xs) (hb : Below B w w') : Reads w' B size A n xs := h.keep fun _ hp => hb.cell hp
theorem Reads.drew (h : Reads w B size A n xs) : Reads w.drew B size A n xs := h
theorem Reads.drewN (h : Reads w B size A n xs) (k : Nat) : Reads (w.drewN k) B size A n xs := h
theorem Reads.alloc (h : Reads w B size A n xs) (hB : B ≤ w.heap.size) (o : Obj) : Reads (w.alloc o) B size A n xs := h.keep fun p hp => World.cell?_alloc_lt w o p (by omega)
theorem Reads.setCell (h : Reads w B size A n xs) {p : Addr} (hB : B ≤ p.block) (u : Value) : Reads (w.setCell p u) B size A n xs :=
  h.keep fun q hq => World.cell?_setCell_other w p q u (fun e => by subst e; omega)
theorem Reads.grown (h : Reads w B size A n xs) {row : Option Nat} (hg : w.grownBy w' row) (hB : B ≤ w.heap.size) (hr : ∀ g, row = some g → B ≤ g) : Reads w' B size A n xs :=
  h.keep fun p hp => World.cell?_of_block (hg.block p.block (by omega) (fun e => by have := hr _ e.symm; omega))
theorem Reads.of_own {base : Nat} {e : TypeId} {c : Nat} (h : w.ownsRow base e size (.slice A n c) n xs) : Reads w w.heap.size size A n xs := by
  refine ⟨h.1, fun hn => ?_⟩
  obtain ⟨g, cap, hv, _, hlt⟩ := h.form hn
  have hA : A = some ⟨g, 0, none⟩ := by injection hv
  subst hA
  exact ⟨_, rfl, hlt, h.cells (g := g) rfl⟩
theorem Reads.at_ {k : Nat} (h : Reads w B 1 A n xs) (hk : k < n) : ∃ ad u, A = some ad ∧ ad.block < B ∧ xs[k]? = some u ∧ w.cell? (ad.add k) = some u := by
  obtain ⟨ad, e, hb, hc⟩ := h.2 (by omega)
  have hl : k < xs.length := by have := h.1; omega
  exact ⟨ad, xs[k], e, hb, List.getElem?_eq_getElem hl, hc k _ (List.getElem?_eq_getElem hl)⟩
end

/-! ### lists of numbers, of pairs, of clips, as cells -/
def i64 (n : Int) : Prop := -9223372036854775808 ≤ n ∧ n ≤ 9223372036854775807
def ints (l : List Int) : List Value := l.map (Value.int .i64)
def pairC (h : Int × Int) : List Value := [.int .i64 h.1, .int .i64 h.2]
def pairsV (l : List (Int × Int)) : List Value := l.flatMap pairC
def Cp.cells (h : Cp) : List Value := [.int .i64 h.ticket, .int .i64 h.clock, .int .i64 h.minute]
def clipsV (l : List Cp) : List Value := l.flatMap Cp.cells

theorem ints_length (l : List Int) : (ints l).length = l.length := by simp [ints]
theorem flat_length {α : Type} (f : α → List Value) (size : Nat) (hf : ∀ x, (f x).length = size) (l : List α) : (l.flatMap f).length = l.length * size := by
  induction l with
  | nil => simp
  | cons h l ih => simp only [List.flatMap_cons, List.length_append] at ih ⊢; rw [ih, hf, List.length_cons, Nat.succ_mul, Nat.add_comm]
theorem flat_get {α : Type} (f : α → List Value) (size : Nat) (hf : ∀ x, (f x).length = size) (l : List α) (k j : Nat) (x : α) (h : l[k]? = some x) (hj : j < size) : (l.flatMap f)[k * size + j]? = (f x)[j]? := by
  induction l generalizing k with
  | nil => simp at h
  | cons y l ih =>
    cases k with
    | zero =>
      simp at h; subst h
      simp only [List.flatMap_cons]
      rw [List.getElem?_append_left (by rw [hf]; omega)]; simp
    | succ k =>
      simp only [List.flatMap_cons]
      have h2 : (k + 1) * size = k * size + size := Nat.succ_mul k size
      rw [List.getElem?_append_right (by rw [hf]; omega), hf]
      have : (k + 1) * size + j - size = k * size + j := by omega
      rw [this]
      exact ih k (by simpa using h)
theorem pairsV_length (l : List (Int × Int)) : (pairsV l).length = l.length * 2 := flat_length _ 2 (fun _ => rfl) l
theorem clipsV_length (l : List Cp) : (clipsV l).length = l.length * 3 := flat_length _ 3 (fun _ => rfl) l
theorem pairsV_get (l : List (Int × Int)) (k j : Nat) (x : Int × Int) (h : l[k]? = some x) (hj : j < 2) : (pairsV l)[k * 2 + j]? = (pairC x)[j]? := flat_get _ 2 (fun _ => rfl) l k j x h hj
theorem clipsV_get (l : List Cp) (k j : Nat) (x : Cp) (h : l[k]? = some x) (hj : j < 3) : (clipsV l)[k * 3 + j]? = x.cells[j]? := flat_get _ 3 (fun _ => rfl) l k j x h hj
theorem pairsV_snoc (l : List (Int × Int)) (x : Int × Int) : pairsV (l ++ [x]) = pairsV l ++ pairC x := by simp [pairsV]
theorem clipsV_snoc (l : List Cp) (x : Cp) : clipsV (l ++ [x]) = clipsV l ++ x.cells := by simp [clipsV]

section
variable {w w' : World} {B B' size n : Nat} {A : Option Addr}
theorem Reads.nI {l : List Int} (h : Reads w B 1 A n (ints l)) : n = l.length := by have := h.1; rw [ints_length] at this; omega
theorem Reads.nP {l : List (Int × Int)} (h : Reads w B 2 A n (pairsV l)) : n = l.length := by have := h.1; rw [pairsV_length] at this; omega
theorem Reads.nC {l : List Cp} (h : Reads w B 3 A n (clipsV l)) : n = l.length := by have := h.1; rw [clipsV_length] at this; omega
end
/-! ### later worlds: all that lay when the base world stood lies as it lay -/
def Later (w W : World) : Prop := Below w.heap.size w W
theorem later_refl (w : World) : Later w w := Below.refl _ _
theorem later_alloc {w W : World} (h : Later w W) (o : Obj) : Later w (W.alloc o) := Below.alloc h h.size o
theorem later_drew {w W : World} (h : Later w W) : Later w W.drew := Below.drew h
theorem later_drewN {w W : World} (h : Later w W) (n : Nat) : Later w (W.drewN n) := ⟨h.os, h.tape, h.output, h.size, h.block⟩
theorem later_set {w W : World} (h : Later w W) (a : Addr) (hp : w.heap.size ≤ a.block) (u : Value) : Later w (W.setCell a u) := Below.setCell h hp u
theorem Later.trans {a b c : World} (h : Later a b) (k : Later b c) : Later a c := Below.trans h (Below.mono k h.size)
theorem Later.grown {a b c : World} {row : Option Nat} (h : Later a b) (k : b.grownBy c row) (hr : ∀ g, row = some g → a.heap.size ≤ g) : Later a c := Below.grown h k h.size hr
theorem later_of_alloc {w W : World} {o : Obj} (h : Later (w.alloc o) W) : Later w W := Later.trans (later_alloc (later_refl w) o) h
theorem later_size {w W : World} (h : Later w W) : w.heap.size ≤ W.heap.size := h.size
theorem later_size_alloc {w W : World} {o : Obj} (h : Later (w.alloc o) W) : w.heap.size + 1 ≤ W.heap.size := by have := h.size; simpa using this
attribute [go_sem] later_refl later_alloc later_drew later_drewN later_set
attribute [simp] later_refl later_alloc later_drew later_drewN later_set

theorem box_cells (w : World) (cs : Array Value) (t : TypeId) (W : World) (h : Later (w.alloc (.cells cs t)) W) (i : Nat) : W.cell? ⟨w.heap.size, i, none⟩ = cs[i]? := by
  have := Below.cell h (p := ⟨w.heap.size, i, none⟩) (by simp)
  rw [this]
  exact cell_of_row _ _ i cs t (0, 0) (heap_alloc_new w _)

def RI (w : World) (A : Option Addr) (n : Nat) (l : List Int) : Prop := Reads w w.heap.size 1 A n (ints l)
def RP (w : World) (A : Option Addr) (n : Nat) (l : List (Int × Int)) : Prop := Reads w w.heap.size 2 A n (pairsV l)
def RC (w : World) (A : Option Addr) (n : Nat) (l : List Cp) : Prop := Reads w w.heap.size 3 A n (clipsV l)
section
variable {w W : World} {n : Nat} {A : Option Addr}
theorem Reads.later {size : Nat} {xs : List Value} (h : Reads w w.heap.size size A n xs) (k : Later w W) : Reads W W.heap.size size A n xs := (h.below k).more k.size
theorem RI.later {l : List Int} (h : RI w A n l) (k : Later w W) : RI W A n l := Reads.later h k
theorem RP.later {l : List (Int × Int)} (h : RP w A n l) (k : Later w W) : RP W A n l := Reads.later h k
theorem RC.later {l : List Cp} (h : RC w A n l) (k : Later w W) : RC W A n l := Reads.later h k
theorem RI.nil : RI w A 0 [] := ⟨by simp [ints], fun h => absurd h (by omega)⟩
theorem RI.len {l : List Int} (h : RI w A n l) : n = l.length := Reads.nI h
theorem RP.len {l : List (Int × Int)} (h : RP w A n l) : n = l.length := Reads.nP h
theorem RC.len {l : List Cp} (h : RC w A n l) : n = l.length := Reads.nC h
theorem RP.nil : RP w A 0 [] := ⟨by simp [pairsV], fun h => absurd h (by omega)⟩
theorem RC.nil : RC w A 0 [] := ⟨by simp [clipsV], fun h => absurd h (by omega)⟩
theorem cell_later {a : Addr} {v : Value} (h : w.cell? a = some v) (k : Later w W) (hb : a.block < w.heap.size) : W.cell? a = some v := (Below.cell k hb).trans h
theorem add_lit (b o j : Nat) : (⟨b, o, none⟩ : Addr).add j = ⟨b, o + j, none⟩ := by
  unfold Addr.add; split
  · subst_vars; rfl
  · rfl
theorem spot_none {ad : Addr} {j : Nat} {u : Value} (h : w.cell? ad = some u) : ad = ⟨ad.block, ad.off, none⟩ := by
  obtain ⟨b, o, s⟩ := ad
  cases s with
  | none => rfl
  | some x =>
    exfalso
    unfold World.cell? at h
    simp at h
    split at h <;> simp_all
theorem add_zero_ (ad : Addr) : ad.add 0 = ad := by unfold Addr.add; simp
theorem Reads.lit {B size : Nat} {xs : List Value} (h : Reads w B size A n xs) (hs : 0 < size) (hn : 0 < n) : ∃ b o, A = some ⟨b, o, none⟩ ∧ b < B ∧ ∀ j u, xs[j]? = some u → w.cell? ⟨b, o + j, none⟩ = some u := by
  obtain ⟨ad, e, hb, hc⟩ := h.2 hn
  have hl : 0 < xs.length := by rw [h.1]; exact Nat.mul_pos hn hs
  have h0 := hc 0 _ (List.getElem?_eq_getElem hl)
  rw [add_zero_] at h0
  have e2 := spot_none (j := 0) h0
  refine ⟨ad.block, ad.off, by rw [e, ← e2], hb, fun j u hu => ?_⟩
  have := hc j u hu
  rw [e2, add_lit] at this
  exact this
theorem RI.get {l : List Int} (h : RI w A n l) {k : Nat} (hk : k < n) :
    ∃ b o x, A = some ⟨b, o, none⟩ ∧ b < w.heap.size ∧ l[k]? = some x ∧ ∀ W, Later w W → W.cell? ⟨b, o + k, none⟩ = some (.int .i64 x) := by
  obtain ⟨b, o, e, hb, hc⟩ := Reads.lit h (by omega) (by omega)
  have hl : k < l.length := by have := h.len; omega
  exact ⟨b, o, l[k], e, hb, List.getElem?_eq_getElem hl, fun W k => cell_later (hc _ _ (by simp [ints, List.getElem?_eq_getElem hl])) k hb⟩
theorem RP.get {l : List (Int × Int)} (h : RP w A n l) {k : Nat} (hk : k < n) :
    ∃ b o x, A = some ⟨b, o, none⟩ ∧ b < w.heap.size ∧ l[k]? = some x ∧ (∀ W, Later w W → W.cell? ⟨b, o + k * 2, none⟩ = some (.int .i64 x.1)) ∧ (∀ W, Later w W → W.cell? ⟨b, o + k * 2 + 1, none⟩ = some (.int .i64 x.2)) := by
  obtain ⟨b, o, e, hb, hc⟩ := Reads.lit h (by omega) (by omega)
  have hl : k < l.length := by have := h.len; omega
  have hx := List.getElem?_eq_getElem hl
  exact ⟨b, o, l[k], e, hb, hx, fun W k' => cell_later (hc _ _ (pairsV_get l k 0 _ hx (by omega))) k' hb, fun W k' => cell_later (hc _ _ (pairsV_get l k 1 _ hx (by omega))) k' hb⟩
theorem RC.get {l : List Cp} (h : RC w A n l) {k : Nat} (hk : k < n) :
    ∃ b o x, A = some ⟨b, o, none⟩ ∧ b < w.heap.size ∧ l[k]? = some x ∧ (∀ W, Later w W → W.cell? ⟨b, o + k * 3, none⟩ = some (.int .i64 x.ticket)) ∧ (∀ W, Later w W → W.cell? ⟨b, o + k * 3 + 1, none⟩ = some (.int .i64 x.clock)) ∧
      ∀ W, Later w W → W.cell? ⟨b, o + k * 3 + 2, none⟩ = some (.int .i64 x.minute) := by
  obtain ⟨b, o, e, hb, hc⟩ := Reads.lit h (by omega) (by omega)
  have hl : k < l.length := by have := h.len; omega
  have hx := List.getElem?_eq_getElem hl
  exact ⟨b, o, l[k], e, hb, hx, fun W k' => cell_later (hc _ _ (clipsV_get l k 0 _ hx (by omega))) k' hb, fun W k' => cell_later (hc _ _ (clipsV_get l k 1 _ hx (by omega))) k' hb,
    fun W k' => cell_later (hc _ _ (clipsV_get l k 2 _ hx (by omega))) k' hb⟩
theorem some_lit {b o b' o' : Nat} (h : (some (⟨b, o, none⟩ : Addr)) = some ⟨b', o', none⟩) : b = b' ∧ o = o' := by
  injection h with h; injection h with h1 h2; exact ⟨h1, h2⟩
theorem RI.at_ {b o : Nat} {l : List Int} (h : RI w (some ⟨b, o, none⟩) n l) {k : Nat} (hk : k < n) :
    ∃ x, l[k]? = some x ∧ ∀ W, Later w W → W.cell? ⟨b, o + k, none⟩ = some (.int .i64 x) := by
  obtain ⟨b', o', x, e, _, hx⟩ := h.get hk
  obtain ⟨rfl, rfl⟩ := some_lit e
  exact ⟨x, hx⟩
theorem RP.at_ {b o : Nat} {l : List (Int × Int)} (h : RP w (some ⟨b, o, none⟩) n l) {k : Nat} (hk : k < n) :
    ∃ x, l[k]? = some x ∧ (∀ W, Later w W → W.cell? ⟨b, o + k * 2, none⟩ = some (.int .i64 x.1)) ∧ (∀ W, Later w W → W.cell? ⟨b, o + k * 2 + 1, none⟩ = some (.int .i64 x.2)) := by
  obtain ⟨b', o', x, e, _, hx⟩ := h.get hk
  obtain ⟨rfl, rfl⟩ := some_lit e
  exact ⟨x, hx⟩
theorem RC.at_ {b o : Nat} {l : List Cp} (h : RC w (some ⟨b, o, none⟩) n l) {k : Nat} (hk : k < n) :
    ∃ x, l[k]? = some x ∧ (∀ W, Later w W → W.cell? ⟨b, o + k * 3, none⟩ = some (.int .i64 x.ticket)) ∧ (∀ W, Later w W → W.cell? ⟨b, o + k * 3 + 1, none⟩ = some (.int .i64 x.clock)) ∧
      ∀ W, Later w W → W.cell? ⟨b, o + k * 3 + 2, none⟩ = some (.int .i64 x.minute) := by
  obtain ⟨b', o', x, e, _, hx⟩ := h.get hk
  obtain ⟨rfl, rfl⟩ := some_lit e
  exact ⟨x, hx⟩
end

/-- a slice of slices of numbers -/
def RRI (w : World) (A : Option Addr) (n : Nat) (ll : List (List Int)) : Prop :=
  ∃ vs : List Value, Reads w w.heap.size 1 A n vs ∧ vs.length = ll.length ∧ ∀ (i : Nat) (l : List Int), ll[i]? = some l → ∃ A' n' k', vs[i]? = some (Value.slice A' n' k') ∧ RI w A' n' l
theorem RRI.later {w W : World} {A : Option Addr} {n : Nat} {ll : List (List Int)} (h : RRI w A n ll) (k : Later w W) : RRI W A n ll := by
  obtain ⟨vs, h1, h2, h3⟩ := h
  exact ⟨vs, Reads.later h1 k, h2, fun i l hi => let ⟨A', n', k', e, hr⟩ := h3 i l hi; ⟨A', n', k', e, hr.later k⟩⟩
theorem RRI.len {w : World} {A : Option Addr} {n : Nat} {ll : List (List Int)} (h : RRI w A n ll) : n = ll.length := by
  obtain ⟨vs, h1, h2, h3⟩ := h
  have := h1.1; omega
theorem RRI.get {w : World} {A : Option Addr} {n : Nat} {ll : List (List Int)} (h : RRI w A n ll) {k : Nat} (hk : k < n) :
    ∃ b o l A' n' k', A = some ⟨b, o, none⟩ ∧ ll[k]? = some l ∧ RI w A' n' l ∧ ∀ W, Later w W → W.cell? ⟨b, o + k, none⟩ = some (.slice A' n' k') := by
  have hl := h.len
  obtain ⟨vs, h1, h2, h3⟩ := h
  obtain ⟨b, o, e, hb, hc⟩ := Reads.lit h1 (by omega) (by omega)
  have hkl : k < ll.length := by omega
  obtain ⟨A', n', k', hv, hr⟩ := h3 k _ (List.getElem?_eq_getElem hkl)
  exact ⟨b, o, ll[k], A', n', k', e, List.getElem?_eq_getElem hkl, hr, fun W hW => cell_later (hc _ _ hv) hW hb⟩
theorem RRI.at_ {w : World} {b o : Nat} {n : Nat} {ll : List (List Int)} (h : RRI w (some ⟨b, o, none⟩) n ll) {k : Nat} (hk : k < n) :
    ∃ l A' n' k', ll[k]? = some l ∧ RI w A' n' l ∧ ∀ W, Later w W → W.cell? ⟨b, o + k, none⟩ = some (.slice A' n' k') := by
  obtain ⟨b', o', l, A', n', k', e, hx⟩ := h.get hk
  obtain ⟨rfl, rfl⟩ := some_lit e
  exact ⟨l, A', n', k', hx⟩

/-- a House value's three slices read as the model's lists -/
structure CV (w : World) (c : Hou) (A1 : Option Addr) (n1 : Nat) (A2 : Option Addr) (n2 : Nat) (A3 : Option Addr) (n3 : Nat) : Prop where
  ck : RP w A1 n1 c.clocks
  tk : RP w A2 n2 c.tickets
  cp : RC w A3 n3 c.clips
theorem CV.later {w W : World} {n1 n2 n3 : Nat} {A1 A2 A3 : Option Addr} {c : Hou} (h : CV w c A1 n1 A2 n2 A3 n3) (k : Later w W) : CV W c A1 n1 A2 n2 A3 n3 :=
  ⟨h.ck.later k, h.tk.later k, h.cp.later k⟩
theorem wr64_eq (n : Int) : wr64 n = wrap64 n := by unfold wr64 wrap64; rfl
theorem ret_int {k : IntKind} {a b : Int} (h : a = b) : Ending.returned (.int k a) = .returned (.int k b) := by rw [h]
theorem ret_bool {a b : Bool} (h : a = b) : Ending.returned (.bool a) = .returned (.bool b) := by rw [h]
end Go.Proofs.Ytcffgjhmpgdfpaa

/- The arguments of the laws of chapter 01, opened. -/
namespace Go.Proofs.Ytcffgjhmpgdfpaa
open Go Go.RowKit Go.ChangeShapes Go.WideShapes Go.Deep Go.Joins

theorem list_of {α : Type} {P : Nat → α → Prop} : ∀ (n : Nat), (∀ i, i < n → ∃ x, P i x) → ∃ l : List α, l.length = n ∧ ∀ i x, l[i]? = some x → P i x
  | 0, _ => ⟨[], rfl, fun i x h => by simp at h⟩
  | n + 1, h => by
    obtain ⟨l, hl, hP⟩ := list_of n (fun i hi => h i (by omega))
    obtain ⟨x, hx⟩ := h n (by omega)
    refine ⟨l ++ [x], by simp [hl], fun i y hy => ?_⟩
    rcases Nat.lt_or_ge i n with hi | hi
    · rw [List.getElem?_append_left (by omega)] at hy; exact hP i y hy
    · have hin : i = n := by have := (List.getElem?_eq_some_iff.1 hy).1; simp at this; omega
      subst hin
      rw [← hl, List.getElem?_concat_length] at hy
      injection hy with hy; subst hy; exact hx
theorem reads_of {α : Type} {w : World} {a : Addr} {n size : Nat} (f : List α → List Value) (cells : α → List Value) (hs : 0 < size) (hf : ∀ l : List α, (f l).length = l.length * size) (hc : ∀ x, (cells x).length = size)
    (hg : ∀ (l : List α) (k j : Nat) (x : α), l[k]? = some x → j < size → (f l)[k * size + j]? = (cells x)[j]?)
    {l : List α} (hl : l.length = n) (h : ∀ i x, l[i]? = some x → ∀ j, j < size → w.cell? (a.add (i * size + j)) = (cells x)[j]?) : Reads w w.heap.size size (some a) n (f l) := by
  have hall : ∀ (j : Nat) (u : Value), (f l)[j]? = some u → w.cell? (a.add j) = some u := fun j u hu => by
    have hj := (List.getElem?_eq_some_iff.1 hu).1
    rw [hf] at hj
    have hdv : j / size < l.length := (Nat.div_lt_iff_lt_mul hs).2 hj
    have hm : j % size < size := Nat.mod_lt _ hs
    have he : j / size * size + j % size = j := by rw [Nat.mul_comm]; exact Nat.div_add_mod j size
    have h1 := hg l (j / size) (j % size) _ (List.getElem?_eq_getElem hdv) hm
    have h2 := h (j / size) _ (List.getElem?_eq_getElem hdv) (j % size) hm
    rw [he] at h1 h2
    rw [h2, ← h1, hu]
  refine ⟨by rw [hf, hl], fun hn => ⟨a, rfl, ?_, hall⟩⟩
  have hl0 : 0 < (f l).length := by rw [hf, hl]; exact Nat.mul_pos hn hs
  have h0 := hall 0 _ (List.getElem?_eq_getElem hl0)
  have := World.block_lt_of_cell? _ _ h0
  simpa [Addr.add] using this
section
variable {H : Type} {enc : TypeId × Value → H} {w : World}

theorem open_ints_ {v : Value} {fuel : Nat} {x : DataW H × List MemPlace} (h : DataW.trod enc Try.prog w 0 (fun _ => true) true fuel 35 [v] = some x) :
    ∃ A n k l, v = .slice A n k ∧ RI w A n l ∧ n ≤ maxLen := by
  rcases open_ints Try.underlying35 Try.underlying3 (by kernel_rfl) h with ⟨hc, _⟩ | ⟨a, len, cap, zs, hc, _, hl, hm, hz, _, hcell, _⟩
  · injection hc with hc
    exact ⟨none, 0, 0, [], hc, RI.nil, by simp [maxLen]⟩
  · injection hc with hc
    simp only [if_true] at hz
    refine ⟨some a, len, cap, zs.take len, hc, ⟨by simp [ints]; omega, fun hn => ⟨a, rfl, ?_, fun j u hu => ?_⟩⟩, Nat.le_trans hl hm⟩
    · have := World.block_lt_of_cell? _ _ (hcell 0 (by omega))
      simpa [Addr.add] using this
    · have hj := (List.getElem?_eq_some_iff.1 hu).1
      simp [ints] at hj
      rw [hcell j (by omega)]
      simp only [ints, List.getElem?_map, List.getElem?_take] at hu
      rw [if_pos (by omega), List.getElem?_eq_getElem (by omega)] at hu
      simp only [Option.map_some] at hu
      rw [← hu, List.getD_eq_getElem?_getD, List.getElem?_eq_getElem (by omega)]
      rfl
theorem cells_range : (Try.prog).cellsOf 54 = 2 := by kernel_rfl
theorem cells_ticket : (Try.prog).cellsOf 58 = 2 := by kernel_rfl
theorem cells_clip : (Try.prog).cellsOf 60 = 3 := by kernel_rfl
theorem cells_int : (Try.prog).cellsOf 3 = 1 := by kernel_rfl
set_option maxRecDepth 100000 in
theorem range_cells {cs : List Value} {n : Nat} {x : DataW H × List MemPlace} (h : DataW.trod enc Try.prog w 0 (fun _ => true) true n 54 cs = some x) : ∃ r : Int × Int, cs = pairC r := by
  obtain ⟨xs, m, _, _, hlen, hxl, hf⟩ := DataW.trod_struct Try.underlying54 h
  rw [cells_range] at hlen
  match cs, hlen with
  | [c0, c1], _ =>
    match xs, hxl with
    | [y0, y1], _ =>
      have f0 := hf 0 _ rfl
      have f1 := hf 1 _ rfl
      simp [cells_int] at f0 f1
      obtain ⟨a, ha, _⟩ := DataW.trod_int Try.underlying3 f0
      obtain ⟨b, hb, _⟩ := DataW.trod_int Try.underlying3 f1
      injection ha with ha; injection hb with hb
      exact ⟨⟨a, b⟩, by simp [pairC, ha, hb]⟩
set_option maxRecDepth 100000 in
theorem ticket_cells {cs : List Value} {n : Nat} {x : DataW H × List MemPlace} (h : DataW.trod enc Try.prog w 0 (fun _ => true) true n 58 cs = some x) : ∃ r : Int × Int, cs = pairC r := by
  obtain ⟨xs, m, _, _, hlen, hxl, hf⟩ := DataW.trod_struct Try.underlying58 h
  rw [cells_ticket] at hlen
  match cs, hlen with
  | [c0, c1], _ =>
    match xs, hxl with
    | [y0, y1], _ =>
      have f0 := hf 0 _ rfl
      have f1 := hf 1 _ rfl
      simp [cells_int] at f0 f1
      obtain ⟨a, ha, _⟩ := DataW.trod_int Try.underlying3 f0
      obtain ⟨b, hb, _⟩ := DataW.trod_int Try.underlying3 f1
      injection ha with ha; injection hb with hb
      exact ⟨⟨a, b⟩, by simp [pairC, ha, hb]⟩
set_option maxRecDepth 100000 in
theorem clip_cells {cs : List Value} {n : Nat} {x : DataW H × List MemPlace} (h : DataW.trod enc Try.prog w 0 (fun _ => true) true n 60 cs = some x) : ∃ r : Cp, cs = r.cells := by
  obtain ⟨xs, m, _, _, hlen, hxl, hf⟩ := DataW.trod_struct Try.underlying60 h
  rw [cells_clip] at hlen
  match cs, hlen with
  | [c0, c1, c2], _ =>
    match xs, hxl with
    | [y0, y1, y2], _ =>
      have f0 := hf 0 _ rfl
      have f1 := hf 1 _ rfl
      have f2 := hf 2 _ rfl
      simp [cells_int] at f0 f1 f2
      obtain ⟨a, ha, _⟩ := DataW.trod_int Try.underlying3 f0
      obtain ⟨b, hb, _⟩ := DataW.trod_int Try.underlying3 f1
      obtain ⟨d, hd, _⟩ := DataW.trod_int Try.underlying3 f2
      injection ha with ha; injection hb with hb; injection hd with hd
      exact ⟨⟨a, b, d⟩, by simp [Cp.cells, ha, hb, hd]⟩
set_option maxRecDepth 100000 in
theorem open_ranges_ {v : Value} {fuel : Nat} {x : DataW H × List MemPlace} (h : DataW.trod enc Try.prog w 0 (fun _ => true) true fuel 22 [v] = some x) :
    ∃ A n k l, v = .slice A n k ∧ RP w A n l ∧ n ≤ maxLen := by
  rcases open_slice Try.underlying22 h with ⟨hc, _⟩ | ⟨a, len, cap, m, n, D, Pl, hc, _, hl, hm, hmm, _, hi⟩
  · injection hc with hc
    exact ⟨none, 0, 0, [], hc, ⟨rfl, fun h => absurd h (by omega)⟩, by simp [maxLen]⟩
  · injection hc with hc
    simp only [if_true] at hmm
    rw [cells_range] at hi
    obtain ⟨l, hl1, hl2⟩ := list_of (P := fun i (r : Int × Int) => ∀ j, j < 2 → w.cell? (a.add (i * 2 + j)) = (pairC r)[j]?) len (fun i hi' => by
      obtain ⟨cs', hcs, ht⟩ := hi i (by omega)
      obtain ⟨r, rfl⟩ := range_cells ht
      obtain ⟨_, _, hat⟩ := World.cells?_some hcs
      exact ⟨r, fun j hj => by rw [← Go.Deep.add_add]; exact hat j hj⟩)
    exact ⟨some a, len, cap, l, hc, reads_of pairsV pairC (by omega) pairsV_length (fun x => rfl) (fun l k j x h hj => pairsV_get l k j x h hj) hl1 hl2, Nat.le_trans hl hm⟩
set_option maxRecDepth 100000 in
theorem open_tickets_ {v : Value} {fuel : Nat} {x : DataW H × List MemPlace} (h : DataW.trod enc Try.prog w 0 (fun _ => true) true fuel 23 [v] = some x) :
    ∃ A n k l, v = .slice A n k ∧ RP w A n l ∧ n ≤ maxLen := by
  rcases open_slice Try.underlying23 h with ⟨hc, _⟩ | ⟨a, len, cap, m, n, D, Pl, hc, _, hl, hm, hmm, _, hi⟩
  · injection hc with hc
    exact ⟨none, 0, 0, [], hc, ⟨rfl, fun h => absurd h (by omega)⟩, by simp [maxLen]⟩
  · injection hc with hc
    simp only [if_true] at hmm
    rw [cells_ticket] at hi
    obtain ⟨l, hl1, hl2⟩ := list_of (P := fun i (r : Int × Int) => ∀ j, j < 2 → w.cell? (a.add (i * 2 + j)) = (pairC r)[j]?) len (fun i hi' => by
      obtain ⟨cs', hcs, ht⟩ := hi i (by omega)
      obtain ⟨r, rfl⟩ := ticket_cells ht
      obtain ⟨_, _, hat⟩ := World.cells?_some hcs
      exact ⟨r, fun j hj => by rw [← Go.Deep.add_add]; exact hat j hj⟩)
    exact ⟨some a, len, cap, l, hc, reads_of pairsV pairC (by omega) pairsV_length (fun x => rfl) (fun l k j x h hj => pairsV_get l k j x h hj) hl1 hl2, Nat.le_trans hl hm⟩
set_option maxRecDepth 100000 in
theorem open_clips_ {v : Value} {fuel : Nat} {x : DataW H × List MemPlace} (h : DataW.trod enc Try.prog w 0 (fun _ => true) true fuel 24 [v] = some x) :
    ∃ A n k l, v = .slice A n k ∧ RC w A n l ∧ n ≤ maxLen := by
  rcases open_slice Try.underlying24 h with ⟨hc, _⟩ | ⟨a, len, cap, m, n, D, Pl, hc, _, hl, hm, hmm, _, hi⟩
  · injection hc with hc
    exact ⟨none, 0, 0, [], hc, ⟨rfl, fun h => absurd h (by omega)⟩, by simp [maxLen]⟩
  · injection hc with hc
    simp only [if_true] at hmm
    rw [cells_clip] at hi
    obtain ⟨l, hl1, hl2⟩ := list_of (P := fun i (r : Cp) => ∀ j, j < 3 → w.cell? (a.add (i * 3 + j)) = (Cp.cells r)[j]?) len (fun i hi' => by
      obtain ⟨cs', hcs, ht⟩ := hi i (by omega)
      obtain ⟨r, rfl⟩ := clip_cells ht
      obtain ⟨_, _, hat⟩ := World.cells?_some hcs
      exact ⟨r, fun j hj => by rw [← Go.Deep.add_add]; exact hat j hj⟩)
    exact ⟨some a, len, cap, l, hc, reads_of clipsV Cp.cells (by omega) clipsV_length (fun x => rfl) (fun l k j x h hj => clipsV_get l k j x h hj) hl1 hl2, Nat.le_trans hl hm⟩
theorem cells_house : (Try.prog).cellsOf 26 = 5 := by kernel_rfl
theorem cells_ranges : (Try.prog).cellsOf 22 = 1 := by kernel_rfl
theorem cells_tickets : (Try.prog).cellsOf 23 = 1 := by kernel_rfl
theorem cells_clips : (Try.prog).cellsOf 24 = 1 := by kernel_rfl
set_option maxRecDepth 100000 in
theorem open_house_ {r : Reach} {b0 : Nat} {v : Value} {d : DataW H} {p : List MemPlace} (hv : Value.okWide Try.prog w r b0 26 v) (h : DataW.Trod enc Try.prog w 0 (fun _ => true) true 26 v d p) :
    ∃ (c : Hou) (A1 : Option Addr) (n1 k1 : Nat) (A2 : Option Addr) (n2 k2 : Nat) (A3 : Option Addr) (n3 k3 : Nat), v = (.agg #[.int .i64 c.hour, .int .i64 c.grace, .slice A1 n1 k1, .slice A2 n2 k2, .slice A3 n3 k3]) ∧ CV w c A1 n1 A2 n2 A3 n3 ∧ n1 ≤ maxLen ∧ n2 ≤ maxLen ∧ n3 ≤ maxLen := by
  obtain ⟨cs, rfl, hsz⟩ := okWide_struct Try.underlying26 hv
  rw [cells_house] at hsz
  obtain ⟨fuel, hf0⟩ := h
  obtain ⟨cs⟩ := cs
  match cs, hsz with
  | [c0, c1, c2, c3, c4], _ =>
    obtain ⟨xs, m, _, _, _, hxl, hf⟩ := DataW.trod_struct Try.underlying26 hf0
    match xs, hxl with
    | [y0, y1, y2, y3, y4], _ =>
      have f0 := hf 0 _ rfl
      have f1 := hf 1 _ rfl
      have f2 := hf 2 _ rfl
      have f3 := hf 3 _ rfl
      have f4 := hf 4 _ rfl
      simp [Value.cells, cells_int, cells_ranges, cells_tickets, cells_clips] at f0 f1 f2 f3 f4
      obtain ⟨a, ha, _, wa⟩ := DataW.trod_int Try.underlying3 f0
      obtain ⟨b, hb, _, _⟩ := DataW.trod_int Try.underlying3 f1
      obtain ⟨A1, n1, k1, l1, rfl, h1, m1⟩ := open_ranges_ f2
      obtain ⟨A2, n2, k2, l2, rfl, h2, m2⟩ := open_tickets_ f3
      obtain ⟨A3, n3, k3, l3, rfl, h3, m3⟩ := open_clips_ f4
      injection ha with ha; injection hb with hb
      subst ha hb
      exact ⟨⟨a, b, l1, l2, l3⟩, A1, n1, k1, A2, n2, k2, A3, n3, k3, rfl, ⟨h1, h2, h3⟩, m1, m2, m3⟩
end
end Go.Proofs.Ytcffgjhmpgdfpaa

/- More arguments, opened: lists, numbers, words. -/
namespace Go.Proofs.Ytcffgjhmpgdfpaa
open Go Go.RowKit Go.ChangeShapes Go.WideShapes Go.Deep Go.Joins

set_option maxRecDepth 100000
section
variable {H : Type} {enc : TypeId × Value → H} {w : World}
theorem open_list_ {r : Reach} {b0 : Nat} {v : Value} {d : DataW H} {p : List MemPlace} (hv : Value.okWide Try.prog w r b0 35 v) (h : DataW.Trod enc Try.prog w 0 (fun _ => true) true 35 v d p) :
    ∃ A n k l, v = .slice A n k ∧ RI w A n l ∧ n ≤ maxLen := by
  obtain ⟨A, n, k, rfl⟩ := okWide_slice Try.underlying35 hv
  obtain ⟨f, hf⟩ := h
  exact open_ints_ hf
theorem wf_lo {k : IntKind} {n : Int} (h : (Lit.int k n).wf = true) : k.min ≤ n ∧ n ≤ k.max := by
  simp [Lit.wf] at h; omega
theorem open_int_ {r : Reach} {b0 : Nat} {v : Value} {d : DataW H} {p : List MemPlace} (hv : Value.okWide Try.prog w r b0 3 v) (h : DataW.Trod enc Try.prog w 0 (fun _ => true) true 3 v d p) :
    ∃ n, v = .int .i64 n ∧ i64 n := by
  obtain ⟨n, rfl⟩ := okWide_int Try.underlying3 hv
  obtain ⟨f, hf⟩ := h
  obtain ⟨m, hm, _, hw⟩ := DataW.trod_int Try.underlying3 hf
  simp [Value.cells] at hm
  subst hm
  exact ⟨n, rfl, bounds_i64 hw⟩
theorem open_u16_ {r : Reach} {b0 : Nat} {v : Value} {d : DataW H} {p : List MemPlace} (hv : Value.okWide Try.prog w r b0 29 v) (h : DataW.Trod enc Try.prog w 0 (fun _ => true) true 29 v d p) :
    ∃ n : Nat, v = .int .u16 (n : Int) ∧ n < 65536 := by
  obtain ⟨n, rfl⟩ := okWide_int Try.underlying29 hv
  obtain ⟨f, hf⟩ := h
  obtain ⟨m, hm, _, hw⟩ := DataW.trod_int Try.underlying29 hf
  simp [Value.cells] at hm
  subst hm
  have hw2 := wf_lo hw
  simp [IntKind.min, IntKind.max, IntKind.bits, IntKind.signed] at hw2
  exact ⟨n.toNat, by rw [Int.toNat_of_nonneg hw2.1], by omega⟩
theorem open_u8_ {r : Reach} {b0 : Nat} {v : Value} {d : DataW H} {p : List MemPlace} (hv : Value.okWide Try.prog w r b0 5 v) (h : DataW.Trod enc Try.prog w 0 (fun _ => true) true 5 v d p) :
    ∃ n : Nat, v = .int .u8 (n : Int) ∧ n < 256 := by
  obtain ⟨n, rfl⟩ := okWide_int Try.underlying5 hv
  obtain ⟨f, hf⟩ := h
  obtain ⟨m, hm, _, hw⟩ := DataW.trod_int Try.underlying5 hf
  simp [Value.cells] at hm
  subst hm
  have hw2 := wf_lo hw
  simp [IntKind.min, IntKind.max, IntKind.bits, IntKind.signed] at hw2
  exact ⟨n.toNat, by rw [Int.toNat_of_nonneg hw2.1], by omega⟩
set_option maxRecDepth 100000 in
theorem open_clip_ {r : Reach} {b0 : Nat} {v : Value} {d : DataW H} {p : List MemPlace} (hv : Value.okWide Try.prog w r b0 60 v) (h : DataW.Trod enc Try.prog w 0 (fun _ => true) true 60 v d p) :
    ∃ x : Cp, v = .agg #[.int .i64 x.ticket, .int .i64 x.clock, .int .i64 x.minute] := by
  obtain ⟨cs, rfl, hsz⟩ := okWide_struct Try.underlying60 hv
  obtain ⟨f, hf⟩ := h
  obtain ⟨x, hx⟩ := clip_cells (cs := (Value.agg cs).cells.toList) hf
  refine ⟨x, ?_⟩
  obtain ⟨cs⟩ := cs
  simp [Value.cells, Cp.cells] at hx
  rw [hx]
end
end Go.Proofs.Ytcffgjhmpgdfpaa

/- Regions that draw their order: reads and calls that only make memory, walked once, in the text's order; with a tail that waits for all of it. -/
namespace Go.Proofs.Ytcffgjhmpgdfpaa
open Go Go.RowKit

/-- a world later than w0 -/
structure Ext (w0 : World) where
  W : World
  h : Later w0 W
instance (w0 : World) : Inhabited (Ext w0) := ⟨⟨w0, later_refl _⟩⟩
theorem Ext.later {w0 : World} (e : Ext w0) : Later w0 e.W := e.h
attribute [go_sem] Ext.later
attribute [simp] Ext.later

theorem calls_ext {P : Program} {f : FuncId} {args : Array Value} {w0 W : World} {v : Value} (hW : Later w0 W)
    (h : Calls P f args W fun e w' => e = .returned v ∧ Later W w') : Calls P f args W fun e w'' => e = .returned v ∧ ∃ x : Ext w0, w'' = x.W :=
  h.mono fun _ w' ⟨he, hl⟩ => ⟨he, ⟨w', Later.trans hW hl⟩, rfl⟩
theorem calls_ext_same {P : Program} {f : FuncId} {args : Array Value} {w0 W : World} {v : Value} (hW : Later w0 W)
    (h : Calls P f args W fun e w' => e = .returned v ∧ W = w') : Calls P f args W fun e w'' => e = .returned v ∧ ∃ x : Ext w0, w'' = x.W :=
  h.mono fun _ w' ⟨he, hl⟩ => ⟨he, ⟨w', hl ▸ hW⟩, rfl⟩

section
variable {P : Program} {ops : Array Oper} {md : Region.Mode} {C : World → Prop}
/-- the head's operations in whatever order; then L -/
def wpAnyLQ (P : Program) (md : Region.Mode) (ops : Array Oper) (C : World → Prop) (n : Nat) (L : Array Bool → Act → Prop) : Nat → Array Bool → Act → Prop
  | 0, listed, a => L listed a
  | f + 1, listed, a =>
    Region.ready md ops listed ≠ [] ∧ ∀ i ∈ Region.ready md ops listed, i < n ∧ qOp P ops C i (wpAnyLQ P md ops C n L f (listed.setIfInBounds i true)) a

theorem wpAny_of_headQ {n g : Nat} {L : Array Bool → Act → Prop} {Q' : Exit → Act → World → Prop} (hL : ∀ listed a w, C w → L listed a → wpAny P md ops Q' g listed a w) :
    ∀ (f : Nat) (listed : Array Bool) (a : Act) (w : World), C w → wpAnyLQ P md ops C n L f listed a → wpAny P md ops Q' (f + g) listed a w
  | 0, listed, a, w, hw, h => by rw [Nat.zero_add]; exact hL _ _ _ hw h
  | f + 1, listed, a, w, hw, h => by
    rw [show f + 1 + g = (f + g) + 1 by omega]
    exact ⟨fun h0 => absurd h0 h.1, fun i hi => wpOp_of_qOp hw (fun a' w' hw' h' => wpAny_of_headQ hL f _ a' w' hw' h') (h.2 i hi).2⟩

theorem wpAnyLQ_first {n i : Nat} {oi : Oper} {v : Value} {L : Array Bool → Act → Prop} (hi : ops[i]? = some oi) (hsel : ∀ (j : Nat) (o : Oper) cs b, ops[j]? = some o → o.op ≠ .select cs b)
    (hs : Region.sinkB md ops n = true) (hc : Region.chainB md ops n = true) (hn : n < ops.size) (hin : i < n)
    (hdone : ∀ listed a, L listed a → ∀ j ∈ Region.ready md ops listed, n ≤ j) :
    ∀ (f : Nat) (listed : Array Bool) (a : Act), HeadInv md ops n listed →
      (∀ j oj, ops[j]? = some oj → j ≠ i → listed.getD j true = false → (∀ e ∈ oj.after, Region.binds md e = true → e.on ≠ i) → oi.apart ops oj = true) →
      i ∈ Region.ready md ops listed → YieldsIn P ops C oi v a →
      wpAnyLQ P md ops C n L f (listed.setIfInBounds i true) (a.put oi.dst v) → wpAnyLQ P md ops C n L (f + 1) listed a := by
  intro f
  induction f with
  | zero =>
    intro listed a inv _ hr hy H
    have hun := (mem_ready.1 hr).1
    refine ⟨fun h => (by rw [h] at hr; cases hr), fun j hj => ?_⟩
    have hjn : j < n := by
      rcases Nat.lt_or_ge j n with h | h
      · exact h
      · exact absurd hj (tail_waits hs hc hn inv _ i rfl hin hun j h)
    refine ⟨hjn, ?_⟩
    by_cases hji : j = i
    · subst hji; exact hy.qOp hi H
    · have := hdone _ _ H j (ready_mono hj hji)
      omega
  | succ f ih =>
    intro listed a inv hfree hr hy H
    have hun := (mem_ready.1 hr).1
    refine ⟨fun h => (by rw [h] at hr; cases hr), fun j hj => ?_⟩
    have hjn : j < n := by
      rcases Nat.lt_or_ge j n with h | h
      · exact h
      · exact absurd hj (tail_waits hs hc hn inv _ i rfl hin hun j h)
    refine ⟨hjn, ?_⟩
    by_cases hji : j = i
    · subst hji; exact hy.qOp hi H
    · have h1 := (H.2 j (ready_mono hj hji)).2
      obtain ⟨hjun, oj, hoj, hall⟩ := mem_ready.1 hj
      have hnot : ∀ e ∈ oj.after, Region.binds md e = true → e.on ≠ i := fun e he hb heq => by
        have h1 := hall e he hb
        rw [heq, getD_both hun] at h1
        cases h1
      have h2 := qOp_put hoj (hfree j oj hoj hji hjun hnot) (fun cs b => hsel i oi cs b hi) (fun cs b => hsel j oj cs b hoj) hy h1
      have hfree' : ∀ k ok, ops[k]? = some ok → k ≠ i → (listed.setIfInBounds j true).getD k true = false →
          (∀ e ∈ ok.after, Region.binds md e = true → e.on ≠ i) → oi.apart ops ok = true := fun k ok hk hki hun hno => by
        refine hfree k ok hk hki ?_ hno
        by_cases hjk : j = k
        · subst hjk; exact hjun
        · rw [getD_set_ne true hjk] at hun; exact hun
      refine qOp_mono (fun a' h3 => ih (listed.setIfInBounds j true) a' (inv.set hj hjn) hfree' (ready_mono hr (Ne.symm hji)) h3.1 ?_) h2
      rw [Array.setIfInBounds_comm _ _ hji]
      exact h3.2

theorem wpAnyLQ_lex {n g : Nat} {Lq : Act → Prop} (hsel : Region.noSelect ops = true) (hs : Region.sinkB md ops n = true) (hc : Region.chainB md ops n = true) (hn : n < ops.size) :
    ∀ (l : List Oper) (k : Nat) (listed : Array Bool) (a : Act), (∀ j, j < l.length → l[j]? = ops[k + j]?) → k + l.length = n → HeadInv md ops n listed →
    Region.lexHead md ops g l.length k listed = true → wpQuiet P ops C Lq l a →
    wpAnyLQ P md ops C n (fun listed' a' => Region.seqB md ops g n listed' = true ∧ Lq a') l.length listed a
  | [], k, listed, a, _, hk, _, hB, h => by
    have : k = n := by simpa using hk
    subst this
    exact ⟨by simpa [Region.lexHead] using hB, h⟩
  | o :: l, k, listed, a, hl, hk, inv, hB, h => by
    have h0 : ops[k]? = some o := by simpa using (hl 0 (by simp)).symm
    simp only [List.length_cons, Region.lexHead, Bool.and_eq_true] at hB
    obtain ⟨⟨hr, hf⟩, hB'⟩ := hB
    have hkn : k < n := by simp only [List.length_cons] at hk; omega
    have hr' : k ∈ Region.ready md ops listed := by simpa using hr
    have hst : qOp P ops C k (wpQuiet P ops C Lq l) a := by unfold qOp; simp only [h0]; exact h
    obtain ⟨v, hy, hK⟩ := yieldsIn_of_qOp h0 hst
    exact wpAnyLQ_first h0 (Region.noSelect_spec hsel) hs hc hn hkn (fun listed' a' hL => seqB_ready hL.1) l.length listed a inv (Region.free_spec h0 hf) hr' hy
      (wpAnyLQ_lex hsel hs hc hn l (k + 1) _ _ (fun j hj => by have := hl (j + 1) (by simp; omega); simpa [Nat.add_assoc, Nat.add_comm 1 j] using this) (by simp only [List.length_cons] at hk; omega) (inv.set hr' hkn) hB' hK)

/-- the first n operations read, or call what only makes memory; each that follows waits for the one before it, and the first of these for all of the head -/
theorem wp_region_quiet_tail {id : Nat} {Q : Exit → Act → World → Prop} {a : Act} {w : World} {l : List Oper} (n : Nat) (hm : P.follows .mixedOrders = true) (hB : Region.lexTailB .any l.toArray n = true)
    (hC : C w.drew)
    (h : wpQuiet P l.toArray C (fun a' => ∀ w', C w' → wpList P l.toArray Q (l.drop n) a' w') (l.take n) a) : (Code.region id l.toArray true).wp P Q a w := by
  simp only [Region.lexTailB, Bool.and_eq_true, decide_eq_true_eq] at hB
  obtain ⟨⟨⟨⟨hsel, hn⟩, hs⟩, hc⟩, hlex⟩ := hB
  have hn' : n < l.length := by simpa using hn
  have htl : (l.take n).length = n := by simp; omega
  have hdl : (l.drop n).length = l.toArray.size - n := by simp
  have inv0 : HeadInv .any l.toArray n (Array.replicate l.toArray.size false) :=
    ⟨by simp, fun j oj _ hl => (by rw [getD_replicate_false] at hl; cases hl), fun t _ ht => getD_in (by simpa using ht) (getD_replicate_false _ _)⟩
  have H := wpAnyLQ_lex (md := .any) (g := l.toArray.size - n) hsel hs hc hn (l.take n) 0 _ a (fun j hj => by
    have hj' : j < n := by rw [htl] at hj; exact hj
    simp [hj']) (by simpa using htl) inv0 (by rw [htl]; exact hlex) h
  refine wp_region_any hm ?_
  have := wpAny_of_headQ (Q' := Q) (g := l.toArray.size - n) (fun listed a' w' hw' hL => by
    have := wpAny_of_seq (md := .any) (Q' := Q) (l.drop n) n listed a' w' (fun j => by simp [List.getElem?_drop]) (by rw [hdl]; exact hL.1) (hL.2 w' hw')
    rwa [hdl] at this) _ _ _ _ hC H
  rw [htl, show n + (l.toArray.size - n) = l.toArray.size by omega] at this
  exact this
end

theorem wp_region_ext {P : Program} {id : Nat} {Q : Exit → Act → World → Prop} {a : Act} {w w0 : World} {l : List Oper} (hm : P.follows .mixedOrders = true) (hB : Region.lexB .any l.toArray = true) (hL : Later w0 w)
    (h : wpQuiet P l.toArray (fun W => ∃ e : Ext w0, W = e.W) (fun a' => ∀ W, (∃ e : Ext w0, W = e.W) → Q .normal a' W) l a) : (Code.region id l.toArray true).wp P Q a w :=
  wp_region_quiet (C := fun W => ∃ e : Ext w0, W = e.W) hm hB ⟨⟨w.drew, later_drew hL⟩, rfl⟩ (by simpa using h)
theorem wp_region_ext_tail {P : Program} {id : Nat} {Q : Exit → Act → World → Prop} {a : Act} {w w0 : World} {l : List Oper} (n : Nat) (hm : P.follows .mixedOrders = true) (hB : Region.lexTailB .any l.toArray n = true) (hL : Later w0 w)
    (h : wpQuiet P l.toArray (fun W => ∃ e : Ext w0, W = e.W) (fun a' => ∀ W, (∃ e : Ext w0, W = e.W) → wpList P l.toArray Q (l.drop n) a' W) (l.take n) a) : (Code.region id l.toArray true).wp P Q a w :=
  wp_region_quiet_tail (C := fun W => ∃ e : Ext w0, W = e.W) n hm hB ⟨⟨w.drew, later_drew hL⟩, rfl⟩ h
end Go.Proofs.Ytcffgjhmpgdfpaa

/- append of one element onto a row of the call's own. -/
namespace Go.Proofs.Ytcffgjhmpgdfpaa
open Go Go.RowKit

/-- what an append of one element leaves -/
structure Appended (w0 W w' : World) (e : TypeId) (size : Nat) (v v' : Value) (n : Nat) (xs news : List Value) : Prop where
  own : w'.ownsRow w0.heap.size e size v' (n + 1) (xs ++ news)
  later : Later w0 w'
  keep : ∀ b, b < W.heap.size → v.ownBlock ≠ some b → w'.heap[b]? = W.heap[b]?
  size : W.heap.size < w'.heap.size
  at_ : v'.ownBlock = v.ownBlock ∨ ∃ g, v'.ownBlock = some g ∧ W.heap.size < g

theorem own_append_wp {P : Program} {o : Oper} {a : Act} {K : Act → World → Prop} {Q : Exit → Act → World → Prop} {w0 W : World} {te : TypeId} (s x : Operand) (t : TypeId)
    (ho : o.op = .call { callee := .builtin .append, args := #[s, x], argTypes := #[t, t] }) (e : TypeId) (z : Value) (size bytes : Nat)
    (ht : P.underlying t = some (.slice e)) (hinfo : (P.info? e).map (fun i => (i.zero, i.size, i.bytes)) = some (some z, size, bytes)) (hzs : z.cells.size = size) (hsz : 0 < size)
    (v : Value) (n : Nat) (xs : List Value) (hs : a.eval s = v) (hL : Later w0 W) (hown : W.ownsRow w0.heap.size e size v n xs)
    (news : List Value) (hx : a.eval x = .slice (some ⟨W.heap.size, 0, none⟩) 1 1) (hl : news.length = size) (h1 : ∀ u ∈ news, u.oneCell' = true)
    (hn : n ≤ 1000000) (hby : bytes ≤ 1000)
    (h : ∀ v' w', Appended w0 W w' e size v v' n xs news → K (a.put o.dst v') w') :
    o.wp P a (W.alloc (.cells news.toArray te)) K Q := by
  obtain ⟨i, hi, hz, h2, h3⟩ := info_parts hinfo
  obtain ⟨v', w', hr, k2, k3, k4, k5⟩ := run_append_own_at (P := P) (W.alloc (.cells news.toArray te)) w0.heap.size t o.type e i z size bytes ht hi hz h2 h3 hzs hsz v n xs (hown.alloc _) ⟨W.heap.size, 0, none⟩ 1 1 news (by omega)
    (by
      intro j u hj
      rw [add_lit]
      rw [cell_of_row _ _ _ _ te (0, 0) (heap_alloc_new W _)]
      simpa using hj) h1 (by unfold maxLen; omega)
    (by
      have : (n + 1) * bytes ≤ 1000001 * 1000 := Nat.mul_le_mul (by omega) hby
      omega)
    (by have := hL.size; simp; omega)
  unfold Oper.wp execOp
  simp only [ho, resolve, invoke, builtin, Sem.run_bind, Sem.run_pure, Result.andThen_ok, List.map_toArray, List.map_cons, List.map_nil, hs, hx, hr]
  refine h v' w' ⟨k2, Later.grown (later_alloc hL _) k3 fun g hg' => ((hown.alloc (.cells news.toArray te)).lt g hg').1, fun b hb hne => ?_, by have := k3.size; simp at this; omega, ?_⟩
  · rw [k3.block b (by simp; omega) (fun e => hne e.symm)]
    exact Below.heap_alloc W _ b hb
  · rcases k5 with k5 | k5
    · exact .inl k5
    · exact .inr ⟨_, k5, by simp⟩

theorem own_append {P : Program} {ops : Array Oper} {rest : List Oper} {o : Oper} {a : Act} {Q : Exit → Act → World → Prop} {w0 W : World} {te : TypeId} (hgd : o.guard = none) (s x : Operand) (t : TypeId)
    (ho : o.op = .call { callee := .builtin .append, args := #[s, x], argTypes := #[t, t] }) (e : TypeId) (z : Value) (size bytes : Nat)
    (ht : P.underlying t = some (.slice e)) (hinfo : (P.info? e).map (fun i => (i.zero, i.size, i.bytes)) = some (some z, size, bytes)) (hzs : z.cells.size = size) (hsz : 0 < size)
    (v : Value) (n : Nat) (xs : List Value) (hs : a.eval s = v) (hL : Later w0 W) (hown : W.ownsRow w0.heap.size e size v n xs)
    (news : List Value) (hx : a.eval x = .slice (some ⟨W.heap.size, 0, none⟩) 1 1) (hl : news.length = size) (h1 : ∀ u ∈ news, u.oneCell' = true)
    (hn : n ≤ 1000000) (hby : bytes ≤ 1000)
    (h : ∀ v' w', Appended w0 W w' e size v v' n xs news → wpList P ops Q rest (a.put o.dst v') w') :
    wpList P ops Q (o :: rest) a (W.alloc (.cells news.toArray te)) :=
  wpList_plain hgd fun _ hK => own_append_wp s x t ho e z size bytes ht hinfo hzs hsz v n xs hs hL hown news hx hl h1 hn hby fun v' w' q => hK _ _ (h v' w' q)

theorem own_append_step {P : Program} {ops : Array Oper} {o : Oper} {a : Act} {K : Act → World → Prop} {Q : Exit → Act → World → Prop} {E : Prop} {w0 W : World} {te : TypeId} (hgd : o.guard = none) (s x : Operand) (t : TypeId)
    (ho : o.op = .call { callee := .builtin .append, args := #[s, x], argTypes := #[t, t] }) (e : TypeId) (z : Value) (size bytes : Nat)
    (ht : P.underlying t = some (.slice e)) (hinfo : (P.info? e).map (fun i => (i.zero, i.size, i.bytes)) = some (some z, size, bytes)) (hzs : z.cells.size = size) (hsz : 0 < size)
    (v : Value) (n : Nat) (xs : List Value) (hs : a.eval s = v) (hL : Later w0 W) (hown : W.ownsRow w0.heap.size e size v n xs)
    (news : List Value) (hx : a.eval x = .slice (some ⟨W.heap.size, 0, none⟩) 1 1) (hl : news.length = size) (h1 : ∀ u ∈ news, u.oneCell' = true)
    (hn : n ≤ 1000000) (hby : bytes ≤ 1000)
    (h : ∀ v' w', Appended w0 W w' e size v v' n xs news → K (a.put o.dst v') w') :
    if Region.wanted o (yielded ops a.tmps) = true then Oper.wp P o a (W.alloc (.cells news.toArray te)) K Q else E := by
  rw [if_pos (by simp [Region.wanted, hgd])]
  exact own_append_wp s x t ho e z size bytes ht hinfo hzs hsz v n xs hs hL hown news hx hl h1 hn hby h

theorem Appended.cell {w0 W w' : World} {e : TypeId} {size n : Nat} {v v' : Value} {xs news : List Value} (h : Appended w0 W w' e size v v' n xs news) {b : Nat} (hb : b < W.heap.size) (hne : v.ownBlock ≠ some b) (i : Nat) :
    w'.cell? ⟨b, i, none⟩ = W.cell? ⟨b, i, none⟩ := World.cell?_of_block (h.keep b hb hne)
theorem Appended.ri {w0 W w' : World} {e : TypeId} {size n : Nat} {v v' : Value} {xs news : List Value} (h : Appended w0 W w' e size v v' n xs news) {A : Option Addr} {m : Nat} {l : List Int}
    (hr : RI W A m l) (hne : ∀ b o, A = some ⟨b, o, none⟩ → v.ownBlock ≠ some b) : RI w' A m l := by
  refine ⟨hr.1, fun hm => ?_⟩
  obtain ⟨b, o, rfl, hb, hc⟩ := Reads.lit hr (by omega) hm
  refine ⟨_, rfl, Nat.lt_trans hb h.size, fun j u hu => ?_⟩
  rw [add_lit, h.cell hb (hne b o rfl)]
  exact hc j u hu

theorem own_later {w0 W W' : World} {e : TypeId} {size : Nat} {v : Value} {n : Nat} {xs : List Value} (h : W.ownsRow w0.heap.size e size v n xs) (hL : Later W W') : W'.ownsRow w0.heap.size e size v n xs := by
  refine ⟨h.1, ?_⟩
  rcases h.2 with hn | ⟨g, cap, cur, rfl, hb, hgg, rest⟩
  · exact .inl hn
  · refine .inr ⟨g, cap, cur, rfl, hb, ?_, rest⟩
    rw [hL.block g (Array.getElem?_eq_some_iff.1 hgg).1]
    exact hgg
theorem own_slice {w0 W : World} {e : TypeId} {size : Nat} {v : Value} {n : Nat} {xs : List Value} (h : W.ownsRow w0.heap.size e size v n xs) :
    ∃ A c, v = .slice A n c ∧ Reads W W.heap.size size A n xs := by
  rcases h.2 with ⟨rfl, rfl⟩ | ⟨g, cap, cur, rfl, hb, hgg, rest⟩
  · exact ⟨none, 0, rfl, by rw [show xs = [] from List.eq_nil_of_length_eq_zero (by simpa using h.1)]; exact Reads.none_⟩
  · exact ⟨_, cap, rfl, Reads.of_own (c := cap) h⟩
/-- a slice in memory of W that did not lie at w -/
def Fresh (w W : World) (A : Option Addr) : Prop := ∀ b o, A = some ⟨b, o, none⟩ → w.heap.size ≤ b ∧ b < W.heap.size
theorem own_fresh {w0 W : World} {e : TypeId} {size n : Nat} {xs : List Value} {A : Option Addr} {c : Nat} (h : W.ownsRow w0.heap.size e size (.slice A n c) n xs) : Fresh w0 W A := fun b o hA => by
  subst hA
  exact h.lt b rfl
theorem Fresh.le {w w0 W : World} {A : Option Addr} (h : Fresh w0 W A) (hs : w.heap.size ≤ w0.heap.size) : Fresh w W A := fun b o hA => ⟨Nat.le_trans hs (h b o hA).1, (h b o hA).2⟩
theorem Fresh.later {w W W' : World} {A : Option Addr} (h : Fresh w W A) (hs : Later W W') : Fresh w W' A := fun b o hA => ⟨(h b o hA).1, Nat.lt_of_lt_of_le (h b o hA).2 hs.size⟩
theorem own_slice2 {w0 W : World} {e : TypeId} {size : Nat} {v : Value} {n : Nat} {xs : List Value} (h : W.ownsRow w0.heap.size e size v n xs) :
    ∃ A c, v = .slice A n c ∧ Reads W W.heap.size size A n xs ∧ Fresh w0 W A := by
  obtain ⟨A, c, rfl, hr⟩ := own_slice h
  exact ⟨A, c, rfl, hr, own_fresh h⟩
/-- a fresh slice lies apart from a row that was owned before -/
theorem Fresh.apart {w0 w W : World} {e : TypeId} {size n : Nat} {v : Value} {xs : List Value} {A : Option Addr} (h : Fresh w W A) (ho : w.ownsRow w0.heap.size e size v n xs) : ∀ b o, A = some ⟨b, o, none⟩ → b < W.heap.size ∧ v.ownBlock ≠ some b :=
  fun b o hA => ⟨(h b o hA).2, fun e2 => by have := (ho.lt b e2).2; have := (h b o hA).1; omega⟩
theorem int_info : (Try.prog.info? 3).map (fun i => (i.zero, i.size, i.bytes)) = some (some (.int .i64 0), 1, 8) := by kernel_rfl
end Go.Proofs.Ytcffgjhmpgdfpaa

/- What the walks import. -/

/- A block that is known whole. -/
namespace Go.Proofs.Ytcffgjhmpgdfpaa
open Go Go.RowKit
def Blk (w : World) (g : Nat) (t : TypeId) (cs : Array Value) : Prop := w.heap[g]? = some (.cells cs t (0, 0))
section
variable {w w' : World} {g : Nat} {t : TypeId} {cs : Array Value}
theorem Blk.lt (h : Blk w g t cs) : g < w.heap.size := by
  rcases Nat.lt_or_ge g w.heap.size with hlt | hge
  · exact hlt
  · unfold Blk at h; rw [Array.getElem?_eq_none hge] at h; cases h
theorem Blk.cell (h : Blk w g t cs) (i : Nat) : w.cell? ⟨g, i, none⟩ = cs[i]? := cell_of_row w g i cs t (0, 0) h
theorem Blk.frozen (h : Blk w g t cs) (i : Nat) : w.frozen? ⟨g, i, none⟩ = false := by
  unfold Blk at h
  simp [World.frozen?, h]
theorem Blk.new (w : World) (t : TypeId) (cs : Array Value) : Blk (w.alloc (.cells cs t)) w.heap.size t cs := heap_alloc_new w _
theorem Blk.drew (h : Blk w g t cs) : Blk w.drew g t cs := h
theorem Blk.alloc (h : Blk w g t cs) (o : Obj) : Blk (w.alloc o) g t cs := (Below.heap_alloc w o g h.lt).trans h
theorem Blk.set_ (h : Blk w g t cs) (i : Nat) (u : Value) : Blk (w.setCell ⟨g, i, none⟩ u) g t (cs.setIfInBounds i u) := by
  unfold Blk at h ⊢
  simp [World.setCell, Array.getElem?_modify, h]
theorem Blk.far (h : Blk w g t cs) {p : Addr} (hp : g ≠ p.block) (u : Value) : Blk (w.setCell p u) g t cs := (Below.heap_setCell w p u g hp).trans h
theorem Blk.later (h : Blk w g t cs) (hb : Later w w') : Blk w' g t cs := (hb.block g h.lt).trans h
theorem Blk.cells_later (h : Blk w g t cs) : ∀ W, Later w W → ∀ i, W.cell? ⟨g, i, none⟩ = cs[i]? := fun W hW i => (h.later hW).cell i
theorem Blk.frozen_later (h : Blk w g t cs) : ∀ W, Later w W → ∀ i, W.frozen? ⟨g, i, none⟩ = false := fun W hW i => (h.later hW).frozen i
theorem later_drop {B : World} {W : World} {a : Addr} {u : Value} (h : Later B W) (hb : B.heap.size ≤ a.block) : Later B (W.setCell a u) := later_set h a hb u
end
end Go.Proofs.Ytcffgjhmpgdfpaa

/- The program's small functions: walks. -/
namespace Go.Proofs.Ytcffgjhmpgdfpaa
open Go Go.RowKit

/-- a call's contract at a later world, told from the base world -/
theorem from_base {P : Program} {f : FuncId} {args : Array Value} {w0 W : World} {v : Value} (hW : Later w0 W)
    (h : Calls P f args W fun e w' => e = .returned v ∧ Later W w') : Calls P f args W fun e w' => e = .returned v ∧ Later w0 w' :=
  h.mono fun _ _ ⟨he, hl⟩ => ⟨he, Later.trans hW hl⟩
theorem from_base_same {P : Program} {f : FuncId} {args : Array Value} {w0 W : World} {v : Value} (hW : Later w0 W)
    (h : Calls P f args W fun e w' => e = .returned v ∧ W = w') : Calls P f args W fun e w' => e = .returned v ∧ Later w0 w' :=
  h.mono fun _ _ ⟨he, hl⟩ => ⟨he, hl ▸ hW⟩
theorem within_calls (n lo hi : Int) (w : World) :
    Calls Try.prog 55 #[.int .i64 n, .int .i64 lo, .int .i64 hi] w fun e w' => e = .returned (.bool (inB n lo hi)) ∧ w = w' := by
  go_enter Try.func55, Try.ntmps55
  by_cases h1 : lo ≤ n <;> by_cases h2 : n ≤ hi <;> go_wp2 <;> go_ret <;> exact ⟨by simp [inB, *], rfl⟩
theorem within_eq {n lo hi : Int} {b : Bool} (h : inB n lo hi = b) (w : World) :
    Calls Try.prog 55 #[.int .i64 n, .int .i64 lo, .int .i64 hi] w fun e w' => e = .returned (.bool b) ∧ w = w' := by
  have := within_calls n lo hi w; rw [h] at this; exact this
theorem tub_eq {n : Int} {b : Bool} (h : inB n 0 8 = b) (w : World) : Calls Try.prog 36 #[.int .i64 n] w fun e w' => e = .returned (.bool b) ∧ w = w' := by
  subst h
  go_enter Try.func36, Try.ntmps36
  go_wp2_with (go_at_call 55; refine (within_calls _ _ _ _).mono ?_; rintro e w' ⟨rfl, rfl⟩)
  go_ret
  exact ⟨rfl, rfl⟩
theorem off_calls (x : Int × Int) (w : World) : Calls Try.prog 63 #[.agg #[.int .i64 x.1, .int .i64 x.2]] w fun e w' => e = .returned (.bool (clockOk x)) ∧ Later w w' := by
  by_cases h1 : -30 ≤ x.1
  · by_cases h2 : x.1 ≤ x.2
    · by_cases h3 : x.2 ≤ 30
      · have Hf : Hid (clockOk x = true) := by show clockOk x = _; simp [clockOk, *]
        go_enter Try.func63, Try.ntmps63
        go_wp2_with fail
        go_ret
        exact ⟨by rw [Hf.out]; rfl, by simp⟩
      · have Hf : Hid (clockOk x = false) := by show clockOk x = _; simp [clockOk, *]
        go_enter Try.func63, Try.ntmps63
        go_wp2_with fail
        go_ret
        exact ⟨by rw [Hf.out]; rfl, by simp⟩
    · have Hf : Hid (clockOk x = false) := by show clockOk x = _; simp [clockOk, *]
      go_enter Try.func63, Try.ntmps63
      go_wp2_with fail
      go_ret
      exact ⟨by rw [Hf.out]; rfl, by simp⟩
  · have Hf : Hid (clockOk x = false) := by show clockOk x = _; simp [clockOk, *]
    go_enter Try.func63, Try.ntmps63
    go_wp2_with fail
    go_ret
    exact ⟨by rw [Hf.out]; rfl, by simp⟩
theorem size_calls {h : Int × Int} (w : World) (b1 : -1000000 ≤ h.1 ∧ h.1 ≤ 1000000) (b2 : -1000000 ≤ h.2 ∧ h.2 ≤ 1000000) :
    Calls Try.prog 68 #[.agg #[.int .i64 h.1, .int .i64 h.2]] w fun e w' => e = .returned (.int .i64 (sizeR h)) ∧ Later w w' := by
  go_enter Try.func68, Try.ntmps68
  go_wp2_with fail
  go_ret
  exact ⟨rfl, by simp⟩
theorem ticket_eq {A1 A2 A3 : Option Addr} {n1 k1 n2 k2 n3 k3 : Nat} {c : Hou} {n : Int} {b : Bool} (hb : inB n 0 ((n2 : Int) - 1) = b) (w : World) (hn : n2 ≤ 1000000) : Calls Try.prog 39 #[(.agg #[.int .i64 c.hour, .int .i64 c.grace, .slice A1 n1 k1, .slice A2 n2 k2, .slice A3 n3 k3]), .int .i64 n] w fun e w' => e = .returned (.bool b) ∧ Later w w' := by
  have hw1 : IntKind.i64.wrap ((n2 : Int) - 1) = (n2 : Int) - 1 := IntWalk.i64_in _ (by omega)
  go_enter Try.func39, Try.ntmps39
  go_wp2_with (go_at_call 55; refine (within_eq hb _).mono ?_; rintro e w' ⟨rfl, rfl⟩)
  go_ret
  exact ⟨rfl, by simp⟩
theorem valid_calls (x : Int × Int) (w : World) : Calls Try.prog 65 #[.agg #[.int .i64 x.1, .int .i64 x.2]] w fun e w' => e = .returned (.bool (tickOk x)) ∧ Later w w' := by
  obtain ⟨w0, hw0⟩ : ∃ W, W = w.alloc (.cells #[.int .i64 x.1, .int .i64 x.2] 73) := ⟨_, rfl⟩
  have hbox : ∀ W, Later w0 W → ∀ i, W.cell? ⟨w.heap.size, i, none⟩ = #[.int .i64 x.1, .int .i64 x.2][i]? := (by rw [hw0]; exact box_cells w _ _)
  have hb1 := hbox w0 (later_refl _) 1
  simp only [List.getElem?_toArray, List.getElem?_cons_zero, List.getElem?_cons_succ] at hb1
  have hL0 : Later w w0 := by rw [hw0]; simp
  have Hw0 := hide hw0
  clear hw0
  cases h1 : inB x.1 0 8 with
  | false =>
    have Hf : Hid (tickOk x = false) := by show tickOk x = _; simp [tickOk, h1]
    go_enter Try.func65, Try.ntmps65
    go_wp2_with fail
    rw [← Hw0.out]
    refine (tub_eq h1 _).mono ?_
    rintro e w' ⟨rfl, rfl⟩
    go_wp2_with fail
    go_ret
    exact ⟨by rw [Hf.out]; rfl, hL0⟩
  | true =>
    have Hf : Hid (tickOk x = inB x.2 0 9) := by show tickOk x = _; simp [tickOk, h1]
    go_enter Try.func65, Try.ntmps65
    go_wp2_with fail
    rw [← Hw0.out]
    refine (tub_eq h1 _).mono ?_
    rintro e w' ⟨rfl, rfl⟩
    go_wp2_with fail
    refine (within_calls _ _ _ _).mono ?_
    rintro e w' ⟨rfl, rfl⟩
    go_wp2_with fail
    go_ret
    exact ⟨by rw [Hf.out]; rfl, hL0⟩
theorem clip_calls {A1 A2 A3 : Option Addr} {n1 k1 n2 k2 n3 k3 : Nat} {c : Hou} (x : Cp) (w : World) (hn1 : n1 ≤ 1000000) (hn2 : n2 ≤ 1000000) : Calls Try.prog 61 #[(.agg #[.int .i64 c.hour, .int .i64 c.grace, .slice A1 n1 k1, .slice A2 n2 k2, .slice A3 n3 k3]), .agg #[.int .i64 x.ticket, .int .i64 x.clock, .int .i64 x.minute]] w fun e w' =>
    e = .returned (.bool (clipOk n1 n2 x)) ∧ Later w w' := by
  obtain ⟨w0, hw0⟩ : ∃ W, W = ((w.alloc (.cells #[.int .i64 c.hour, .int .i64 c.grace, .slice A1 n1 k1, .slice A2 n2 k2, .slice A3 n3 k3] 46))).alloc (.cells #[.int .i64 x.ticket, .int .i64 x.clock, .int .i64 x.minute] 74) := ⟨_, rfl⟩
  have hL0 : Later w w0 := by rw [hw0]; exact later_alloc (later_alloc (later_refl _) _) _
  have b1 : Blk w0 w.heap.size 46 #[.int .i64 c.hour, .int .i64 c.grace, .slice A1 n1 k1, .slice A2 n2 k2, .slice A3 n3 k3] := by rw [hw0]; exact (Blk.new _ _ _).alloc _
  have b2 : Blk w0 (w.heap.size + 1) 74 #[.int .i64 x.ticket, .int .i64 x.clock, .int .i64 x.minute] := by
    have := Blk.new (w.alloc (.cells #[.int .i64 c.hour, .int .i64 c.grace, .slice A1 n1 k1, .slice A2 n2 k2, .slice A3 n3 k3] 46)) 74 #[.int .i64 x.ticket, .int .i64 x.clock, .int .i64 x.minute]
    rw [World.size_alloc] at this
    rw [hw0]; exact this
  have c2 := fun W (hW : Later w0 W) => (b1.later hW).cell 2
  have d1 := fun W (hW : Later w0 W) => (b2.later hW).cell 1
  have d2 := fun W (hW : Later w0 W) => (b2.later hW).cell 2
  simp only [List.getElem?_toArray, List.getElem?_cons_zero, List.getElem?_cons_succ] at c2 d1 d2
  have hw1 : IntKind.i64.wrap ((n1 : Int) - 1) = (n1 : Int) - 1 := IntWalk.i64_in _ (by omega)
  have Hw0 := hide hw0
  clear hw0
  cases h1 : inB x.ticket 0 ((n2 : Int) - 1) with
  | false =>
    have Hf : Hid (clipOk n1 n2 x = false) := by show clipOk n1 n2 x = _; unfold clipOk; rw [h1]; rfl
    go_enter Try.func61, Try.ntmps61
    go_wp2_with fail
    rw [← Hw0.out]
    refine (ticket_eq (c := c) h1 _ hn2).mono ?_
    rintro e w1 ⟨rfl, hL1⟩
    go_wp2_with fail
    go_ret
    exact ⟨by rw [Hf.out]; rfl, Later.trans hL0 hL1⟩
  | true =>
    cases h2 : inB x.clock 0 ((n1 : Int) - 1) with
    | false =>
      have Hf : Hid (clipOk n1 n2 x = false) := by show clipOk n1 n2 x = _; unfold clipOk; rw [h1, h2]; rfl
      go_enter Try.func61, Try.ntmps61
      go_wp2_with fail
      rw [← Hw0.out]
      refine (ticket_eq (c := c) h1 _ hn2).mono ?_
      rintro e w1 ⟨rfl, hL1⟩
      go_wp2_with (go_at_call 55; refine (within_eq h2 _).mono ?_; rintro e w' ⟨rfl, rfl⟩)
      go_ret
      exact ⟨by rw [Hf.out]; rfl, Later.trans hL0 hL1⟩
    | true =>
      have Hf : Hid (clipOk n1 n2 x = inB x.minute 0 1439) := by show clipOk n1 n2 x = _; unfold clipOk; rw [h1, h2]; rfl
      go_enter Try.func61, Try.ntmps61
      go_wp2_with fail
      rw [← Hw0.out]
      refine (ticket_eq (c := c) h1 _ hn2).mono ?_
      rintro e w1 ⟨rfl, hL1⟩
      go_wp2_with fail
      refine (within_eq h2 _).mono ?_
      rintro e w' ⟨rfl, rfl⟩
      go_wp2_with fail
      refine (within_calls _ _ _ _).mono ?_
      rintro e w' ⟨rfl, rfl⟩
      go_wp2_with fail
      go_ret
      exact ⟨by rw [Hf.out]; rfl, Later.trans hL0 hL1⟩
end Go.Proofs.Ytcffgjhmpgdfpaa

/- The program's Index, Contains; all (of ranges, of tickets, of clips): walks. -/
namespace Go.Proofs.Ytcffgjhmpgdfpaa
open Go Go.RowKit

set_option maxRecDepth 100000 in
theorem Index_calls {A : Option Addr} {n k : Nat} {p : List Int} (x : Int) (w : World) (h : RI w A n p) (hn : n ≤ 1000000) :
    Calls Try.prog 59 #[.slice A n k, .int .i64 x] w fun e w' => e = .returned (.int .i64 (atFrom p x 0)) ∧ w = w' := by
  have Hl := hide h.len
  go_enter Try.func59, Try.ntmps59
  go_wp2_with fail
  go_loop [8] (fun i => ∃ j : Nat, j ≤ n ∧ i = .int .i64 j ∧ atFrom (p.drop j) x j = atFrom p x 0) (fun i => n - (intOf i).toNat)
  case atStart => exact ⟨0, Nat.zero_le _, rfl, rfl⟩
  case round =>
    obtain ⟨j, hj, rfl, hno⟩ := hrel
    by_cases hlt : j < n
    · obtain ⟨b, o, y, rfl, _, hx, hc⟩ := h.get hlt
      replace hc := hc w (later_refl w)
      obtain ⟨hp, rfl⟩ := List.getElem?_eq_some_iff.1 hx
      rw [List.drop_eq_getElem_cons hp, atFrom_cons] at hno
      by_cases he : p[j] = x
      · rw [if_pos he] at hno
        have Hno := hide hno
        have Hx := hide hx
        have heb : (x == p[j]) = true := by simp [he]
        have He := hide he
        clear hno hx he
        go_wp2_with fail
        go_ret
        exact ⟨ret_int Hno.out, rfl⟩
      · rw [if_neg he] at hno
        have Hno := hide hno
        have Hx := hide hx
        have heb : (x == p[j]) = false := by simp; exact fun h => he h.symm
        clear hno hx he
        go_wp2_with fail
        go_round
        case rel => exact ⟨j + 1, by omega, by go_num, by rw [← Hno.out]; rfl⟩
        case measure => simp [intOf]; omega
    · rw [List.drop_of_length_le (by have := Hl.out; omega)] at hno
      have Hno := hide hno
      clear hno
      go_wp2_with fail
      go_ret
      exact ⟨ret_int Hno.out, rfl⟩

theorem atFrom_contains (p : List Int) (x j : Int) (hj : 0 ≤ j) : decide (0 ≤ atFrom p x j) = p.contains x := by
  induction p generalizing j with
  | nil => simp [atFrom]
  | cons y l ih =>
    rw [atFrom_cons, List.contains_cons]
    by_cases h : y = x
    · rw [if_pos h, h]; simp [hj]
    · rw [if_neg h, ih (j + 1) (by omega)]
      rw [show (x == y) = false by simp; exact fun e => h e.symm, Bool.false_or]

theorem Contains_eq {A : Option Addr} {n k : Nat} {p : List Int} {x : Int} {b : Bool} (hb : p.contains x = b) (w : World) (h : RI w A n p) (hn : n ≤ 1000000) :
    Calls Try.prog 47 #[.slice A n k, .int .i64 x] w fun e w' => e = .returned (.bool b) ∧ w = w' := by
  rw [← atFrom_contains p x 0 (by omega)] at hb
  go_enter Try.func47, Try.ntmps47
  go_wp2_with fail
  refine (Index_calls x _ h hn).mono ?_
  rintro e w' ⟨rfl, rfl⟩
  generalize atFrom p x 0 = q at *
  have Hb := hide hb
  clear hb
  go_wp2_with fail
  go_ret
  exact ⟨by rw [← Hb.out]; rfl, rfl⟩

theorem RI.take {w : World} {A : Option Addr} {n : Nat} {l : List Int} (h : RI w A n l) (i : Nat) (hi : i ≤ n) : RI w A i (l.take i) := by
  have hn := h.len
  refine ⟨by rw [ints_length, List.length_take]; omega, fun h0 => ?_⟩
  obtain ⟨ad, e, hb, hc⟩ := h.2 (by omega)
  refine ⟨ad, e, hb, fun j u hu => hc j u ?_⟩
  simp only [ints, List.map_take, List.getElem?_take] at hu
  split at hu
  · exact hu
  · cases hu

/-! ### all -/
def idxB {α : Type} (g : α → Bool) : List α → Int → Int
  | [], _ => -1
  | x :: l, j => if g x then j else idxB g l (j + 1)
theorem idxB_any {α : Type} (g : α → Bool) (l : List α) (j : Int) (hj : 0 ≤ j) : decide (0 ≤ idxB g l j) = l.any g := by
  induction l generalizing j with
  | nil => simp [idxB]
  | cons y l ih =>
    rw [idxB, List.any_cons]
    by_cases h : g y = true
    · rw [if_pos h, h]; simp [hj]
    · rw [if_neg h, ih (j + 1) (by omega)]
      simp [h]
theorem not_any_not {α : Type} (g : α → Bool) (l : List α) : (!l.any fun x => !g x) = l.all g := by
  induction l with
  | nil => rfl
  | cons x l ih => simp [List.any_cons, List.all_cons, ← ih]


theorem allR1_calls {bp : Nat} (x : Int × Int) (w : World) (h : w.cell? ⟨bp, 0, none⟩ = some (.func (.func 63) #[] #[])) :
    Calls Try.prog 76 #[(.agg #[.int .i64 x.1, .int .i64 x.2]), .pointer (some ⟨bp, 0, none⟩)] w fun e w' =>
      e = .returned (.bool (!clockOk x)) ∧ Later w w' := by
  have hb : bp < w.heap.size := World.block_lt_of_cell? w ⟨bp, 0, none⟩ h
  have h2 := fun W k => cell_later (W := W) h k hb
  go_enter Try.func76, Try.ntmps76
  go_wp2_with fail
  refine (off_calls x _).mono ?_
  rintro e w1 ⟨rfl, hL1⟩
  go_wp2_with fail
  go_ret
  exact ⟨rfl, Later.trans (by simp) hL1⟩

theorem IndexFuncR_calls {A : Option Addr} {n k bp : Nat} {l : List (Int × Int)} (w : World) (h : RP w A n l) (hn : n ≤ 1000000) (hb : w.cell? ⟨bp, 0, none⟩ = some (.func (.func 63) #[] #[])) :
    Calls Try.prog 82 #[.slice A n k, .func (.func 76) #[] #[.pointer (some ⟨bp, 0, none⟩)]] w fun e w' =>
      e = .returned (.int .i64 (idxB (fun x => !clockOk x) l 0)) ∧ Later w w' := by
  have hl := h.len
  have hbl : bp < w.heap.size := World.block_lt_of_cell? w ⟨bp, 0, none⟩ hb
  have hb2 := fun W k => cell_later (W := W) hb k hbl
  have Hl := hide hl
  clear hl
  go_enter Try.func82, Try.ntmps82
  go_wp2_with fail
  go_loopw [8] (fun i wr => ∃ j : Nat, j ≤ n ∧ i = .int .i64 j ∧ idxB (fun x => !clockOk x) (l.drop j) j = idxB (fun x => !clockOk x) l 0 ∧ Later w wr) (fun i _ => n - (intOf i).toNat)
  case atStart => exact ⟨0, Nat.zero_le _, rfl, rfl, later_refl _⟩
  case round =>
    obtain ⟨j, hj, rfl, hno, hL⟩ := hrel
    by_cases hlt : j < n
    · obtain ⟨b, o, y, rfl, _, hx, hc0, hc1⟩ := h.get hlt
      obtain ⟨hp, e1⟩ := List.getElem?_eq_some_iff.1 hx
      rw [List.drop_eq_getElem_cons hp, e1] at hno
      simp only [idxB] at hno
      have hi1 : (j : Int) < n := by omega
      have hcc := allR1_calls y wr (hb2 _ hL)
      cases hok : clockOk y with
      | true =>
        rw [hok] at hcc
        simp only [hok, Bool.not_true, Bool.false_eq_true, if_false] at hno
        have Hno := hide hno
        have Hcc := hide hcc
        clear hno hx hcc e1 hok
        go_wp2_with fail
        refine Hcc.out.mono ?_
        rintro e w1 ⟨rfl, hL1⟩
        have hL2 := Later.trans hL hL1
        go_wp2_with fail
        go_roundw
        case rel => exact ⟨j + 1, by omega, by go_num, by rw [← Hno.out]; rfl, hL2⟩
        case measure => simp [intOf]; omega
      | false =>
        rw [hok] at hcc
        simp only [hok, Bool.not_false, if_true] at hno
        have Hno := hide hno
        have Hcc := hide hcc
        clear hno hx hcc e1 hok
        go_wp2_with fail
        refine Hcc.out.mono ?_
        rintro e w1 ⟨rfl, hL1⟩
        go_wp2_with fail
        go_ret
        exact ⟨ret_int Hno.out, Later.trans hL hL1⟩
    · rw [List.drop_of_length_le (by have := Hl.out; omega)] at hno
      have Hno := hide hno
      clear hno
      go_wp2_with fail
      go_ret
      exact ⟨ret_int Hno.out, hL⟩

theorem allR_eq {A : Option Addr} {n k : Nat} {l : List (Int × Int)} {b : Bool} (hb : l.all clockOk = b) (w : World) (h : RP w A n l) (hn : n ≤ 1000000) :
    Calls Try.prog 62 #[.slice A n k, (.func (.func 63) #[] #[])] w fun e w' => e = .returned (.bool b) ∧ Later w w' := by
  subst hb
  have hw : Later w (w.alloc (.cells #[(.func (.func 63) #[] #[])] 132)) := later_alloc (later_refl _) _
  have hb := box_cells w #[(.func (.func 63) #[] #[])] 132 _ (later_refl _) 0
  have hf := idxB_any (fun x => !clockOk x) l 0 (by omega)
  have hf2 := not_any_not clockOk l
  rw [← hf] at hf2
  have Hf := hide hf2
  clear hf hf2
  go_enter Try.func62, Try.ntmps62
  go_wp2_with fail
  go_enter Try.func75, Try.ntmps75
  go_wp2_with fail
  refine (IndexFuncR_calls _ (h.later hw) hn hb).mono ?_
  rintro e w1 ⟨rfl, hL1⟩
  generalize idxB (fun x => !clockOk x) l 0 = q at *
  go_wp2_with fail
  go_ret
  exact ⟨by rw [← Hf.out]; rfl, Later.trans hw hL1⟩

theorem allT1_calls {bp : Nat} (x : Int × Int) (w : World) (h : w.cell? ⟨bp, 0, none⟩ = some (.func (.func 65) #[] #[])) :
    Calls Try.prog 78 #[(.agg #[.int .i64 x.1, .int .i64 x.2]), .pointer (some ⟨bp, 0, none⟩)] w fun e w' =>
      e = .returned (.bool (!tickOk x)) ∧ Later w w' := by
  have hb : bp < w.heap.size := World.block_lt_of_cell? w ⟨bp, 0, none⟩ h
  have h2 := fun W k => cell_later (W := W) h k hb
  go_enter Try.func78, Try.ntmps78
  go_wp2_with fail
  refine (valid_calls x _).mono ?_
  rintro e w1 ⟨rfl, hL1⟩
  go_wp2_with fail
  go_ret
  exact ⟨rfl, Later.trans (by simp) hL1⟩

theorem IndexFuncT_calls {A : Option Addr} {n k bp : Nat} {l : List (Int × Int)} (w : World) (h : RP w A n l) (hn : n ≤ 1000000) (hb : w.cell? ⟨bp, 0, none⟩ = some (.func (.func 65) #[] #[])) :
    Calls Try.prog 83 #[.slice A n k, .func (.func 78) #[] #[.pointer (some ⟨bp, 0, none⟩)]] w fun e w' =>
      e = .returned (.int .i64 (idxB (fun x => !tickOk x) l 0)) ∧ Later w w' := by
  have hl := h.len
  have hbl : bp < w.heap.size := World.block_lt_of_cell? w ⟨bp, 0, none⟩ hb
  have hb2 := fun W k => cell_later (W := W) hb k hbl
  have Hl := hide hl
  clear hl
  go_enter Try.func83, Try.ntmps83
  go_wp2_with fail
  go_loopw [8] (fun i wr => ∃ j : Nat, j ≤ n ∧ i = .int .i64 j ∧ idxB (fun x => !tickOk x) (l.drop j) j = idxB (fun x => !tickOk x) l 0 ∧ Later w wr) (fun i _ => n - (intOf i).toNat)
  case atStart => exact ⟨0, Nat.zero_le _, rfl, rfl, later_refl _⟩
  case round =>
    obtain ⟨j, hj, rfl, hno, hL⟩ := hrel
    by_cases hlt : j < n
    · obtain ⟨b, o, y, rfl, _, hx, hc0, hc1⟩ := h.get hlt
      obtain ⟨hp, e1⟩ := List.getElem?_eq_some_iff.1 hx
      rw [List.drop_eq_getElem_cons hp, e1] at hno
      simp only [idxB] at hno
      have hi1 : (j : Int) < n := by omega
      have hcc := allT1_calls y wr (hb2 _ hL)
      cases hok : tickOk y with
      | true =>
        rw [hok] at hcc
        simp only [hok, Bool.not_true, Bool.false_eq_true, if_false] at hno
        have Hno := hide hno
        have Hcc := hide hcc
        clear hno hx hcc e1 hok
        go_wp2_with fail
        refine Hcc.out.mono ?_
        rintro e w1 ⟨rfl, hL1⟩
        have hL2 := Later.trans hL hL1
        go_wp2_with fail
        go_roundw
        case rel => exact ⟨j + 1, by omega, by go_num, by rw [← Hno.out]; rfl, hL2⟩
        case measure => simp [intOf]; omega
      | false =>
        rw [hok] at hcc
        simp only [hok, Bool.not_false, if_true] at hno
        have Hno := hide hno
        have Hcc := hide hcc
        clear hno hx hcc e1 hok
        go_wp2_with fail
        refine Hcc.out.mono ?_
        rintro e w1 ⟨rfl, hL1⟩
        go_wp2_with fail
        go_ret
        exact ⟨ret_int Hno.out, Later.trans hL hL1⟩
    · rw [List.drop_of_length_le (by have := Hl.out; omega)] at hno
      have Hno := hide hno
      clear hno
      go_wp2_with fail
      go_ret
      exact ⟨ret_int Hno.out, hL⟩

theorem allT_eq {A : Option Addr} {n k : Nat} {l : List (Int × Int)} {b : Bool} (hb : l.all tickOk = b) (w : World) (h : RP w A n l) (hn : n ≤ 1000000) :
    Calls Try.prog 64 #[.slice A n k, (.func (.func 65) #[] #[])] w fun e w' => e = .returned (.bool b) ∧ Later w w' := by
  subst hb
  have hw : Later w (w.alloc (.cells #[(.func (.func 65) #[] #[])] 134)) := later_alloc (later_refl _) _
  have hb := box_cells w #[(.func (.func 65) #[] #[])] 134 _ (later_refl _) 0
  have hf := idxB_any (fun x => !tickOk x) l 0 (by omega)
  have hf2 := not_any_not tickOk l
  rw [← hf] at hf2
  have Hf := hide hf2
  clear hf hf2
  go_enter Try.func64, Try.ntmps64
  go_wp2_with fail
  go_enter Try.func77, Try.ntmps77
  go_wp2_with fail
  refine (IndexFuncT_calls _ (h.later hw) hn hb).mono ?_
  rintro e w1 ⟨rfl, hL1⟩
  generalize idxB (fun x => !tickOk x) l 0 = q at *
  go_wp2_with fail
  go_ret
  exact ⟨by rw [← Hf.out]; rfl, Later.trans hw hL1⟩

theorem allC1_calls {A1 A2 A3 : Option Addr} {n1 k1 n2 k2 n3 k3 : Nat} {c : Hou} {bp : Nat} (x : Cp) (w : World) (hn1 : n1 ≤ 1000000) (hn2 : n2 ≤ 1000000) (h : w.cell? ⟨bp, 0, none⟩ = some (.func (.func 61) #[(.agg #[.int .i64 c.hour, .int .i64 c.grace, .slice A1 n1 k1, .slice A2 n2 k2, .slice A3 n3 k3])] #[])) :
    Calls Try.prog 80 #[(.agg #[.int .i64 x.ticket, .int .i64 x.clock, .int .i64 x.minute]), .pointer (some ⟨bp, 0, none⟩)] w fun e w' =>
      e = .returned (.bool (!(clipOk n1 n2) x)) ∧ Later w w' := by
  have hb : bp < w.heap.size := World.block_lt_of_cell? w ⟨bp, 0, none⟩ h
  have h2 := fun W k => cell_later (W := W) h k hb
  go_enter Try.func80, Try.ntmps80
  go_wp2_with fail
  refine (clip_calls (c := c) x _ hn1 hn2).mono ?_
  rintro e w1 ⟨rfl, hL1⟩
  go_wp2_with fail
  go_ret
  exact ⟨rfl, Later.trans (by simp) hL1⟩

theorem IndexFuncC_calls {A1 A2 A3 : Option Addr} {n1 k1 n2 k2 n3 k3 : Nat} {c : Hou} {A : Option Addr} {n k bp : Nat} {l : List (Cp)} (w : World) (h : RC w A n l) (hn : n ≤ 1000000) (hn1 : n1 ≤ 1000000) (hn2 : n2 ≤ 1000000) (hb : w.cell? ⟨bp, 0, none⟩ = some (.func (.func 61) #[(.agg #[.int .i64 c.hour, .int .i64 c.grace, .slice A1 n1 k1, .slice A2 n2 k2, .slice A3 n3 k3])] #[])) :
    Calls Try.prog 84 #[.slice A n k, .func (.func 80) #[] #[.pointer (some ⟨bp, 0, none⟩)]] w fun e w' =>
      e = .returned (.int .i64 (idxB (fun x => !(clipOk n1 n2) x) l 0)) ∧ Later w w' := by
  have hl := h.len
  have hbl : bp < w.heap.size := World.block_lt_of_cell? w ⟨bp, 0, none⟩ hb
  have hb2 := fun W k => cell_later (W := W) hb k hbl
  have Hl := hide hl
  clear hl
  go_enter Try.func84, Try.ntmps84
  go_wp2_with fail
  go_loopw [8] (fun i wr => ∃ j : Nat, j ≤ n ∧ i = .int .i64 j ∧ idxB (fun x => !(clipOk n1 n2) x) (l.drop j) j = idxB (fun x => !(clipOk n1 n2) x) l 0 ∧ Later w wr) (fun i _ => n - (intOf i).toNat)
  case atStart => exact ⟨0, Nat.zero_le _, rfl, rfl, later_refl _⟩
  case round =>
    obtain ⟨j, hj, rfl, hno, hL⟩ := hrel
    by_cases hlt : j < n
    · obtain ⟨b, o, y, rfl, _, hx, hc0, hc1, hc2⟩ := h.get hlt
      obtain ⟨hp, e1⟩ := List.getElem?_eq_some_iff.1 hx
      rw [List.drop_eq_getElem_cons hp, e1] at hno
      simp only [idxB] at hno
      have hi1 : (j : Int) < n := by omega
      have hcc := allC1_calls (c := c) y wr hn1 hn2 (hb2 _ hL)
      cases hok : (clipOk n1 n2) y with
      | true =>
        rw [hok] at hcc
        simp only [hok, Bool.not_true, Bool.false_eq_true, if_false] at hno
        have Hno := hide hno
        have Hcc := hide hcc
        clear hno hx hcc e1 hok
        go_wp2_with fail
        refine Hcc.out.mono ?_
        rintro e w1 ⟨rfl, hL1⟩
        have hL2 := Later.trans hL hL1
        go_wp2_with fail
        go_roundw
        case rel => exact ⟨j + 1, by omega, by go_num, by rw [← Hno.out]; rfl, hL2⟩
        case measure => simp [intOf]; omega
      | false =>
        rw [hok] at hcc
        simp only [hok, Bool.not_false, if_true] at hno
        have Hno := hide hno
        have Hcc := hide hcc
        clear hno hx hcc e1 hok
        go_wp2_with fail
        refine Hcc.out.mono ?_
        rintro e w1 ⟨rfl, hL1⟩
        go_wp2_with fail
        go_ret
        exact ⟨ret_int Hno.out, Later.trans hL hL1⟩
    · rw [List.drop_of_length_le (by have := Hl.out; omega)] at hno
      have Hno := hide hno
      clear hno
      go_wp2_with fail
      go_ret
      exact ⟨ret_int Hno.out, hL⟩

theorem allC_eq {A1 A2 A3 : Option Addr} {n1 k1 n2 k2 n3 k3 : Nat} {c : Hou} {A : Option Addr} {n k : Nat} {l : List (Cp)} {b : Bool} (hb : l.all (clipOk n1 n2) = b) (w : World) (h : RC w A n l) (hn : n ≤ 1000000) (hn1 : n1 ≤ 1000000) (hn2 : n2 ≤ 1000000) :
    Calls Try.prog 66 #[.slice A n k, (.func (.func 61) #[(.agg #[.int .i64 c.hour, .int .i64 c.grace, .slice A1 n1 k1, .slice A2 n2 k2, .slice A3 n3 k3])] #[])] w fun e w' => e = .returned (.bool b) ∧ Later w w' := by
  subst hb
  have hw : Later w (w.alloc (.cells #[(.func (.func 61) #[(.agg #[.int .i64 c.hour, .int .i64 c.grace, .slice A1 n1 k1, .slice A2 n2 k2, .slice A3 n3 k3])] #[])] 130)) := later_alloc (later_refl _) _
  have hb := box_cells w #[(.func (.func 61) #[(.agg #[.int .i64 c.hour, .int .i64 c.grace, .slice A1 n1 k1, .slice A2 n2 k2, .slice A3 n3 k3])] #[])] 130 _ (later_refl _) 0
  have hf := idxB_any (fun x => !(clipOk n1 n2) x) l 0 (by omega)
  have hf2 := not_any_not (clipOk n1 n2) l
  rw [← hf] at hf2
  have Hf := hide hf2
  clear hf hf2
  go_enter Try.func66, Try.ntmps66
  go_wp2_with fail
  go_enter Try.func79, Try.ntmps79
  go_wp2_with fail
  refine (IndexFuncC_calls (c := c) _ (h.later hw) hn hn1 hn2 hb).mono ?_
  rintro e w1 ⟨rfl, hL1⟩
  generalize idxB (fun x => !(clipOk n1 n2) x) l 0 = q at *
  go_wp2_with fail
  go_ret
  exact ⟨by rw [← Hf.out]; rfl, Later.trans hw hL1⟩
end Go.Proofs.Ytcffgjhmpgdfpaa

/- The program's enumeration of errors of the clocks, as plain lists. -/
namespace Go.Proofs.Ytcffgjhmpgdfpaa
/-- all numbers of a range -/
def rangeL (lo hi : Int) : List Int := (List.range (hi - lo + 1).toNat).map fun (i : Nat) => lo + i
def errAll : List (Int × Int) → List (List Int)
  | [] => [[]]
  | h :: hs => (rangeL h.1 h.2).flatMap fun x => (errAll hs).map (x :: ·)
/-- all ways to go on behind a beginning -/
def ext (hs : List (Int × Int)) (pfx : List Int) : List (List Int) := (errAll hs).map (pfx ++ ·)
theorem ext_nil (pfx : List Int) : ext [] pfx = [pfx] := by simp [ext, errAll]
def extTo (h : (Int × Int)) (hs : List (Int × Int)) (pfx : List Int) (k : Nat) : List (List Int) := (List.range k).flatMap fun (i : Nat) => ext hs (pfx ++ [h.1 + i])
theorem extTo_succ (h : (Int × Int)) (hs : List (Int × Int)) (pfx : List Int) (k : Nat) : extTo h hs pfx (k + 1) = extTo h hs pfx k ++ ext hs (pfx ++ [h.1 + k]) := by
  simp [extTo, List.range_succ, List.flatMap_append]
theorem ext_cons (h : (Int × Int)) (hs : List (Int × Int)) (pfx : List Int) : ext (h :: hs) pfx = extTo h hs pfx (h.2 - h.1 + 1).toNat := by
  simp only [ext, errAll, rangeL, extTo, List.map_flatMap, List.flatMap_map, List.map_map]
  congr 1
  funext i
  congr 1
  funext t
  simp
theorem extTo_prefix (h : (Int × Int)) (hs : List (Int × Int)) (pfx : List Int) {k m : Nat} (hk : k ≤ m) : extTo h hs pfx k <+: extTo h hs pfx m := by
  induction m with
  | zero => have : k = 0 := by omega
            subst this; exact List.prefix_refl _
  | succ m ih =>
    rcases Nat.lt_or_ge k (m + 1) with hlt | hge
    · exact (ih (by omega)).trans (by rw [extTo_succ]; exact List.prefix_append _ _)
    · have : k = m + 1 := by omega
      subst this; exact List.prefix_refl _
end Go.Proofs.Ytcffgjhmpgdfpaa

/- Plain facts: the error of a house, as the program comes to it; sizes multiplied. -/
namespace Go.Proofs.Ytcffgjhmpgdfpaa
def LimB (c : Hou) : Prop := 4 < c.clocks.length ∨ 6 < c.tickets.length ∨ 10 < c.clips.length
def BadB (c : Hou) : Prop := inB c.hour 1 120 = false ∨ inB c.grace 0 60 = false ∨ c.clocks.all clockOk = false ∨ c.tickets.all tickOk = false ∨ c.clips.all (clipOk c.clocks.length c.tickets.length) = false ∨
  (List.range c.tickets.length).all (ofOk c) = false
theorem range_getD_all {α : Type} (p : α → Bool) (d : α) : ∀ (l : List α), (List.range l.length).all (fun i => p (l.getD i d)) = l.all p := fun l => by
  rw [Bool.eq_iff_iff, List.all_eq_true, List.all_eq_true]
  constructor
  · intro h x hx
    obtain ⟨i, hi⟩ := List.getElem?_of_mem hx
    have := h i (by simpa using (List.getElem?_eq_some_iff.1 hi).1)
    rw [List.getD_eq_getElem?_getD, hi] at this
    exact this
  · intro h i hi
    have hlt : i < l.length := by simpa using hi
    rw [List.getD_eq_getElem?_getD, List.getElem?_eq_getElem hlt]
    exact h _ (List.getElem_mem hlt)
theorem all_and {α : Type} (p q : α → Bool) : ∀ (l : List α), l.all (fun x => p x && q x) = (l.all p && l.all q)
  | [] => rfl
  | x :: l => by simp only [List.all_cons, all_and p q l]; cases p x <;> cases q x <;> simp
theorem ticks_all (c : Hou) : (List.range c.tickets.length).all (fun i => tickOk (tickAt c i) && ofOk c i) = (c.tickets.all tickOk && (List.range c.tickets.length).all (ofOk c)) := by
  rw [all_and]
  congr 1
  exact range_getD_all tickOk default c.tickets
theorem fault_lim {c : Hou} (h : LimB c) : fault c = 3 := by unfold LimB at h; unfold fault; rw [if_pos h]
theorem fault_one {c : Hou} (hl : ¬ LimB c) (h : BadB c) : fault c = 1 := by
  unfold LimB at hl
  unfold fault
  rw [if_neg hl, ticks_all]
  by_cases h1 : inB c.hour 1 120 = false ∨ inB c.grace 0 60 = false
  · rw [if_pos h1]
  · rw [if_neg h1]
    by_cases h2 : c.clocks.all clockOk = false
    · rw [if_pos h2]
    · rw [if_neg h2]
      by_cases h3 : c.clips.all (clipOk c.clocks.length c.tickets.length) = false
      · rw [if_pos h3]
      · rw [if_neg h3, if_pos]
        rw [Bool.and_eq_false_iff]
        rcases h with h | h | h | h | h | h
        · exact absurd (Or.inl h) h1
        · exact absurd (Or.inr h) h1
        · exact absurd h h2
        · exact .inl h
        · exact absurd h h3
        · exact .inr h
theorem fault_many {c : Hou} (hl : ¬ LimB c) (h1 : inB c.hour 1 120 = true) (h2 : inB c.grace 0 60 = true) (h3 : c.clocks.all clockOk = true) (h4 : c.tickets.all tickOk = true)
    (h5 : c.clips.all (clipOk c.clocks.length c.tickets.length) = true) (h6 : (List.range c.tickets.length).all (ofOk c) = true) : fault c = if 2000 < many c then 3 else 0 := by
  unfold LimB at hl
  unfold fault
  rw [if_neg hl, ticks_all, if_neg (by simp [h1, h2]), if_neg (by simp [h3]), if_neg (by simp [h5]), if_neg (by rw [h4, h6]; simp)]
theorem fault_zero {c : Hou} (h : fault c = 0) : ¬ LimB c ∧ ¬ BadB c ∧ many c ≤ 2000 := by
  have hl : ¬ LimB c := fun k => by rw [fault_lim k] at h; omega
  have hn : ¬ BadB c := fun k => by rw [fault_one hl k] at h; omega
  refine ⟨hl, hn, ?_⟩
  unfold BadB at hn
  simp only [not_or, Bool.not_eq_false] at hn
  rw [fault_many hl hn.1 hn.2.1 hn.2.2.1 hn.2.2.2.1 hn.2.2.2.2.1 hn.2.2.2.2.2] at h
  split at h <;> omega
theorem fault_cases (c : Hou) : fault c = 0 ∨ fault c = 1 ∨ fault c = 3 := by
  by_cases hl : LimB c
  · exact .inr (.inr (fault_lim hl))
  · by_cases hb : BadB c
    · exact .inr (.inl (fault_one hl hb))
    · unfold BadB at hb
      simp only [not_or, Bool.not_eq_false] at hb
      rw [fault_many hl hb.1 hb.2.1 hb.2.2.1 hb.2.2.2.1 hb.2.2.2.2.1 hb.2.2.2.2.2]
      split <;> simp
theorem clockOk_range {r : Int × Int} (h : clockOk r = true) : -30 ≤ r.1 ∧ r.1 ≤ r.2 ∧ r.2 ≤ 30 := by
  simp [clockOk] at h; omega
theorem okH_of_fault {c : Hou} (h : fault c = 0) : OkH c := by
  obtain ⟨hl, hb, _⟩ := fault_zero h
  unfold LimB at hl
  unfold BadB at hb
  simp only [not_or, Bool.not_eq_false] at hb
  obtain ⟨h1, h2, h3, h4, h5, h6⟩ := hb
  simp [inB] at h1 h2
  refine ⟨by omega, by omega, by omega, h1, h2, fun r hr => clockOk_range (List.all_eq_true.1 h3 r hr), fun t ht => ?_, fun x hx => ?_, fun i hi => ?_⟩
  · have := List.all_eq_true.1 h4 t ht
    simp [tickOk, inB] at this; omega
  · have := List.all_eq_true.1 h5 x hx
    simp [clipOk, inB] at this; omega
  · have := List.all_eq_true.1 h6 i (by simpa using hi)
    simpa [ofOk] using this
theorem many_le {c : Hou} (h : fault c = 0) : many c ≤ 2000 := (fault_zero h).2.2

def prodTo (l : List (Int × Int)) : Int := l.foldl (fun n r => n * sizeR r) 1
theorem prod_aux {l : List (Int × Int)} (ok : ∀ h ∈ l, 1 ≤ sizeR h ∧ sizeR h ≤ 61) (a b : Int) (ha : 1 ≤ a) (hb : b = min 3000 a) :
    1 ≤ l.foldl (fun n h => n * sizeR h) a ∧ l.foldl (fun n h => min 3000 (n * sizeR h)) b = min 3000 (l.foldl (fun n h => n * sizeR h) a) := by
  induction l generalizing a b with
  | nil => exact ⟨ha, hb⟩
  | cons h l ih =>
    have o := ok h List.mem_cons_self
    have h1 : 1 * 1 ≤ a * sizeR h := Int.mul_le_mul (by omega) (by omega) (by omega) (by omega)
    refine ih (fun x hx => ok x (List.mem_cons_of_mem _ hx)) (a * sizeR h) (min 3000 (b * sizeR h)) (by omega) ?_
    subst hb
    rcases Int.le_total a 3000 with hle | hge
    · rw [Int.min_eq_right hle]
    · rw [Int.min_eq_left hge]
      have h2 : 3000 * 1 ≤ 3000 * sizeR h := Int.mul_le_mul (by omega) (by omega) (by omega) (by omega)
      have h3 : 3000 * 1 ≤ a * sizeR h := Int.mul_le_mul (by omega) (by omega) (by omega) (by omega)
      omega
theorem size_ok {l : List (Int × Int)} (ok : ∀ h ∈ l, -30 ≤ h.1 ∧ h.1 ≤ h.2 ∧ h.2 ≤ 30) : ∀ h ∈ l, 1 ≤ sizeR h ∧ sizeR h ≤ 61 := fun h hh => by have := ok h hh; unfold sizeR; omega
theorem many_prod {c : Hou} (ok : ∀ h ∈ c.clocks, -30 ≤ h.1 ∧ h.1 ≤ h.2 ∧ h.2 ≤ 30) : many c = min 3000 (prodTo c.clocks) :=
  (prod_aux (l := c.clocks) (size_ok ok) 1 1 (by omega) (by omega)).2
theorem prodTo_take {l : List (Int × Int)} {j : Nat} {x : Int × Int} (hx : l[j]? = some x) : prodTo (l.take (j + 1)) = prodTo (l.take j) * sizeR x := by
  unfold prodTo
  rw [List.take_add_one, hx, Option.toList_some, List.foldl_append]; rfl
/-- the program's product: cut at 2001 -/
def cutTo (l : List (Int × Int)) : Int := l.foldl (fun n r => min (n * sizeR r) 2001) 1
theorem cutTo_take {l : List (Int × Int)} {j : Nat} {x : Int × Int} (hx : l[j]? = some x) : cutTo (l.take (j + 1)) = min (cutTo (l.take j) * sizeR x) 2001 := by
  unfold cutTo
  rw [List.take_add_one, hx, Option.toList_some, List.foldl_append]; rfl
theorem cut_aux {l : List (Int × Int)} (ok : ∀ h ∈ l, 1 ≤ sizeR h ∧ sizeR h ≤ 61) (a b : Int) (ha : 1 ≤ a) (hb : b = min a 2001) :
    l.foldl (fun n h => min (n * sizeR h) 2001) b = min (l.foldl (fun n h => n * sizeR h) a) 2001 := by
  induction l generalizing a b with
  | nil => exact hb
  | cons h l ih =>
    have o := ok h List.mem_cons_self
    have h1 : 1 * 1 ≤ a * sizeR h := Int.mul_le_mul (by omega) (by omega) (by omega) (by omega)
    refine ih (fun x hx => ok x (List.mem_cons_of_mem _ hx)) (a * sizeR h) (min (b * sizeR h) 2001) (by omega) ?_
    subst hb
    rcases Int.le_total a 2001 with hle | hge
    · rw [Int.min_eq_left hle]
    · rw [Int.min_eq_right hge]
      have h2 : 2001 * 1 ≤ 2001 * sizeR h := Int.mul_le_mul (by omega) (by omega) (by omega) (by omega)
      have h3 : 2001 * 1 ≤ a * sizeR h := Int.mul_le_mul (by omega) (by omega) (by omega) (by omega)
      omega
theorem cutTo_range {l : List (Int × Int)} (ok : ∀ h ∈ l, -30 ≤ h.1 ∧ h.1 ≤ h.2 ∧ h.2 ≤ 30) : 1 ≤ cutTo l ∧ cutTo l ≤ 2001 := by
  have h1 := (prod_aux (size_ok ok) 1 1 (by omega) (by omega)).1
  have h2 := cut_aux (size_ok ok) 1 1 (by omega) (by omega)
  unfold cutTo; omega
theorem cut_many {c : Hou} (ok : ∀ h ∈ c.clocks, -30 ≤ h.1 ∧ h.1 ≤ h.2 ∧ h.2 ≤ 30) : 2000 < cutTo c.clocks ↔ 2000 < many c := by
  have h1 := many_prod ok
  have h2 := cut_aux (size_ok ok) 1 1 (by omega) (by omega)
  unfold cutTo; unfold prodTo at h1; omega
end Go.Proofs.Ytcffgjhmpgdfpaa
