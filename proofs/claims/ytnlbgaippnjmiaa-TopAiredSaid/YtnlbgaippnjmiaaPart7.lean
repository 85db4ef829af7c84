/- Part 7 of the proof: joined from the texts Facts, VnL, VnF. -/
import Derived.Test.YtnlbgaippnjmiaaPart1
import Derived.Test.YtnlbgaippnjmiaaPart6
import Derived.Deep.RegionHeld
import Derived.Laws.OwnMore
set_option linter.unusedSimpArgs false
set_option linter.unusedVariables false
/- Regions that draw their order, operation by operation: each operation is shown once, from any later world, with the facts that the operations it waits for have left; behind the region all facts hold. -/
namespace Go.Proofs.Ytnlbgaippnjmiaa
open Go Go.RowKit

/-- what an operation leaves in its temporary: one value; or a value of which something holds (and goes on holding), perhaps in a block of its own -/
inductive Slot where
  | det (v : Value)
  | pure (v : Value)
  | any (G : Value → World → Prop) (fresh : Bool)
def Slot.val : Slot → Value → Value
  | .det v, _ => v
  | .pure v, _ => v
  | .any _ _, x => x
def Slot.fact : Slot → Value → World → Prop
  | .det _, _, _ => True
  | .pure _, _, _ => True
  | .any G _, x, W => G x W
def Slot.isFresh : Slot → Bool
  | .det _ => false
  | .pure _ => false
  | .any _ f => f
def Slot.isPure : Slot → Bool
  | .pure _ => true
  | _ => false
def blkOf : Value → Option Nat
  | .slice (some a) _ _ => some a.block
  | .pointer (some a) => some a.block
  | _ => none
def NewIn (W W' : World) (v : Value) : Prop := ∃ b, blkOf v = some b ∧ W.heap.size ≤ b ∧ b < W'.heap.size
/-- what may become of a world meanwhile -/
structure Rely (R : World → World → Prop) : Prop where
  refl : ∀ W, R W W
  trans : ∀ {A B C : World}, R A B → R B C → R A C
  size : ∀ {A B : World}, R A B → A.heap.size ≤ B.heap.size
theorem rely_later : Rely Later := ⟨later_refl, fun h k => Later.trans h k, fun h => h.size⟩
def factAt (S : List Slot) (j : Nat) (x : Value) (W : World) : Prop := match S[j]? with
  | some s => s.fact x W
  | none => True
def freshAt (S : List Slot) (j : Nat) : Bool := match S[j]? with
  | some s => s.isFresh
  | none => false
def valAt (S : List Slot) (xs : Nat → Value) (j : Nat) : Value := match S[j]? with
  | some s => s.val (xs j)
  | none => undef
/-- number i waits for number j -/
def reachB (ops : Array Oper) : Nat → Nat → Nat → Bool
  | 0, _, _ => false
  | f + 1, i, j => match ops[i]? with
    | some o => o.after.any fun e => Region.binds .any e && (e.on == j || reachB ops f e.on j)
    | none => false
def slotOf (o : Oper) (a : Act) : Value := match o.dst with
  | some d => a.tmps.getD d undef
  | none => undef
def noQ : Exit → Act → World → Prop := fun _ _ _ => False

def StepOK (P : Program) (ops : Array Oper) (R : World → World → Prop) (w0 : World) (o : Oper) (k : Nat) (S : List Slot) (F : (Nat → Value) → Act) : Slot → Prop
  | .det v => ∀ xs W, R w0 W → (∀ j f, reachB ops f k j = true → factAt S j (xs j) W) → if Region.wanted o (yielded ops (F xs).tmps) = true then o.quietAt P (F xs) (R W) W v else v = undef
  | .pure v => ∀ xs W, R w0 W → (∀ j f, reachB ops f k j = true → factAt S j (xs j) W) → if Region.wanted o (yielded ops (F xs).tmps) = true then (∀ w', (execOp (F xs).eval o).run P w' = .ok (.value v) w') else v = undef
  | .any G fr => (∀ v W W', R W W' → G v W → G v W') ∧ ∀ xs W, R w0 W → (∀ j f, reachB ops f k j = true → factAt S j (xs j) W) →
      ∀ K : Act → World → Prop, Shut (∀ a W', a.defers = (F xs).defers → R W W' → G (slotOf o a) W' → (fr = true → NewIn W W' (slotOf o a)) → K a W') →
        if Region.wanted o (yielded ops (F xs).tmps) = true then Oper.wp P o (F xs) W K noQ else K ((F xs).put o.dst undef) W

def Lin (P : Program) (ops : Array Oper) (Q : Exit → Act → World → Prop) (R : World → World → Prop) (w0 : World) (es : List Nat) (tail : List Oper) : List Oper → Nat → List Slot → ((Nat → Value) → Act) → Prop
  | [], _, S, F => ∀ xs W, R w0 W → (∀ j, factAt S j (xs j) W) → (∀ i j, i < j → freshAt S i = true → freshAt S j = true → blkOf (xs i) ≠ blkOf (xs j)) →
      (∀ i, freshAt S i = true → ∃ b, blkOf (xs i) = some b ∧ w0.heap.size ≤ b ∧ b < W.heap.size) → wpList P ops Q tail (F xs) W
  | o :: l, k, S, F => ∃ s, (es.contains k = true → s.isPure = true) ∧ StepOK P ops R w0 o k S F s ∧ Lin P ops Q R w0 es tail l (k + 1) (S ++ [s]) (fun xs => (F xs).put o.dst (s.val (xs k)))

def dstAt (ops : Array Oper) (j : Nat) : Option Tmp := (ops[j]?).bind (·.dst)
/-- the first m operations: each one waits for lower numbers alone, reads no temporary but those of what it waits for; no two have the same temporary, each temporary is there -/
def linB (ops : Array Oper) (m size : Nat) : Bool :=
  (List.range m).all fun i => match ops[i]? with
    | some o => (o.after.all fun e => !Region.binds .any e || decide (e.on < i)) &&
      ((o.looksAt ops).all fun t => (List.range m).all fun j => dstAt ops j != some t || (decide (j < i) && reachB ops 3 i j)) &&
      (match o.dst with
        | some d => decide (d < size) && (List.range m).all fun j => i == j || dstAt ops j != some d
        | none => true)
    | none => false
/-- whatever is not in es leads up to number m -/
def sinkE (ops : Array Oper) (m : Nat) (es : List Nat) : Bool :=
  (List.range m).all fun i => es.contains i || (List.range (m + 1)).any fun j => decide (i < j) && (!es.contains j && Region.waitsFor .any ops j i)
theorem sinkE_listed {ops : Array Oper} {m : Nat} {es : List Nat} {listed : Array Bool} (hs : sinkE ops m es = true)
    (hc : ∀ j oj, ops[j]? = some oj → listed.getD j false = true → ∀ e ∈ oj.after, Region.binds .any e = true → listed.getD e.on false = true)
    (hm : ∀ o, ops[m]? = some o → ∀ e ∈ o.after, Region.binds .any e = true → listed.getD e.on false = true) :
    ∀ (d i : Nat), m - i = d → i < m → es.contains i = false → listed.getD i false = true := by
  intro d
  induction d using Nat.strongRecOn with
  | _ d ih =>
    intro i hd hi he
    have h1 := List.all_eq_true.1 hs i (List.mem_range.2 hi)
    rw [he, Bool.false_or] at h1
    obtain ⟨j, hj, hj2⟩ := List.any_eq_true.1 h1
    simp only [Bool.and_eq_true, decide_eq_true_eq, Bool.not_eq_true'] at hj2
    obtain ⟨hij, hje, hw⟩ := hj2
    have hjm := List.mem_range.1 hj
    obtain ⟨oj, hoj, e, hee, hb, hon⟩ := Region.waitsFor_spec hw
    rw [← hon]
    by_cases hjm2 : j = m
    · subst hjm2; exact hm oj hoj e hee hb
    · exact hc j oj hoj (ih (m - j) (by omega) j rfl (by omega) hje) e hee hb
def tailB (ops : Array Oper) (m : Nat) (es : List Nat) : Bool :=
  (decide (m = ops.size) || (decide (m < ops.size) && sinkE ops m es && Region.chainB .any ops m)) &&
  (es.all fun i => (List.range ops.size).all fun j => match ops[i]?, ops[j]? with
    | some oi, some oj => i == j || Region.waitsFor .any ops j i || reachB ops 3 i j || oi.apart ops oj
    | _, _ => false) &&
  Region.seqB .any ops (ops.size - m) m (Array.replicate m true ++ Array.replicate (ops.size - m) false)

def pfx (ops : Array Oper) (a0 : Act) (val : Nat → Value) : Nat → Act
  | 0 => a0
  | k + 1 => (pfx ops a0 val k).put (dstAt ops k) (val k)

theorem pfx_congr {ops : Array Oper} {a0 : Act} {v u : Nat → Value} : ∀ {k : Nat}, (∀ j, j < k → v j = u j) → pfx ops a0 v k = pfx ops a0 u k
  | 0, _ => rfl
  | k + 1, h => by simp only [pfx, pfx_congr fun j hj => h j (Nat.lt_succ_of_lt hj), h k (Nat.lt_succ_self k)]

section
variable {P : Program} {ops : Array Oper} {Q : Exit → Act → World → Prop} {R : World → World → Prop} {w0 : World} {a0 : Act} {m : Nat} {es : List Nat}

structure LinOK (ops : Array Oper) (m size : Nat) : Prop where
  le : m ≤ ops.size
  low : ∀ i o, i < m → ops[i]? = some o → ∀ e ∈ o.after, Region.binds .any e = true → e.on < i
  look : ∀ i o, i < m → ops[i]? = some o → ∀ t ∈ o.looksAt ops, ∀ j, j < m → dstAt ops j = some t → j < i ∧ reachB ops 3 i j = true
  rng : ∀ i d, i < m → dstAt ops i = some d → d < size
  one : ∀ i j d, i < m → j < m → i ≠ j → dstAt ops i = some d → dstAt ops j ≠ some d
theorem linB_ok {size : Nat} (h : linB ops m size = true) : LinOK ops m size := by
  have key : ∀ i, i < m → ∃ o, ops[i]? = some o ∧ (∀ e ∈ o.after, Region.binds .any e = true → e.on < i) ∧ (∀ t ∈ o.looksAt ops, ∀ j, j < m → dstAt ops j = some t → j < i ∧ reachB ops 3 i j = true) ∧
      (∀ d, o.dst = some d → d < size ∧ ∀ j, j < m → i ≠ j → dstAt ops j ≠ some d) := by
    intro i hi
    have h1 := List.all_eq_true.1 h i (List.mem_range.2 hi)
    cases ho : ops[i]? with
    | none => simp only [ho] at h1; cases h1
    | some o =>
      simp only [ho, Bool.and_eq_true] at h1
      obtain ⟨⟨h1, h2⟩, h3⟩ := h1
      refine ⟨o, rfl, fun e he hb => ?_, fun t ht j hj hd => ?_, fun d hd => ?_⟩
      · have := (Array.all_eq_true_iff_forall_mem.1 h1) e he
        simpa [hb] using this
      · have := List.all_eq_true.1 (List.all_eq_true.1 h2 t ht) j (List.mem_range.2 hj)
        simpa [hd] using this
      · simp only [hd, Bool.and_eq_true, decide_eq_true_eq] at h3
        refine ⟨h3.1, fun j hj hne => ?_⟩
        have := List.all_eq_true.1 h3.2 j (List.mem_range.2 hj)
        simpa [hne] using this
  have hle : m ≤ ops.size := by
    rcases Nat.lt_or_ge ops.size m with hlt | hge
    · obtain ⟨o, ho, _⟩ := key ops.size hlt
      simp at ho
    · exact hge
  refine ⟨hle, fun i o hi ho => ?_, fun i o hi ho => ?_, fun i d hi hd => ?_, fun i j d hi hj hne hd => ?_⟩
  · obtain ⟨o', ho', h1, _⟩ := key i hi
    rw [ho] at ho'; injection ho' with ho'; subst ho'; exact h1
  · obtain ⟨o', ho', _, h1, _⟩ := key i hi
    rw [ho] at ho'; injection ho' with ho'; subst ho'; exact h1
  · obtain ⟨o', ho', _, _, h1⟩ := key i hi
    exact (h1 d (by simpa [dstAt, ho'] using hd)).1
  · obtain ⟨o', ho', _, _, h1⟩ := key i hi
    exact (h1 d (by simpa [dstAt, ho'] using hd)).2 j hj hne

structure Agree (ops : Array Oper) (m : Nat) (a0 : Act) (L : Nat → Bool) (val : Nat → Value) (a : Act) : Prop where
  defers : a.defers = a0.defers
  size : a.tmps.size = a0.tmps.size
  on : ∀ j d, j < m → L j = true → dstAt ops j = some d → a.tmps[d]? = some (val j)
  off : ∀ t, (∀ j, j < m → L j = true → dstAt ops j ≠ some t) → a.tmps[t]? = a0.tmps[t]?
theorem Agree.start {val : Nat → Value} : Agree ops m a0 (fun _ => false) val a0 := ⟨rfl, rfl, (fun _ _ _ h => by cases h), fun _ _ => rfl⟩
theorem Agree.mono {L L' : Nat → Bool} {val val' : Nat → Value} {a : Act} (h : Agree ops m a0 L val a) (hL : ∀ j, j < m → L' j = L j) (hv : ∀ j, j < m → L j = true → val' j = val j) : Agree ops m a0 L' val' a :=
  ⟨h.defers, h.size, fun j d hj hl hd => by rw [hL j hj] at hl; rw [hv j hj hl]; exact h.on j d hj hl hd, fun t ht => h.off t fun j hj hl => ht j hj (by rw [hL j hj]; exact hl)⟩
theorem Agree.put {L : Nat → Bool} {val : Nat → Value} {a : Act} (ok : LinOK ops m a0.tmps.size) (h : Agree ops m a0 L val a) {i : Nat} (hi : i < m) (hL : L i = false) (v : Value) :
    Agree ops m a0 (fun j => L j || j == i) (fun j => if j = i then v else val j) (a.put (dstAt ops i) v) := by
  cases hd : dstAt ops i with
  | none =>
    refine ⟨h.defers, h.size, fun j d hj hl hdj => ?_, fun t ht => h.off t fun j hj hl => ht j hj (by simp [hl])⟩
    have hne : j ≠ i := fun e => by rw [e, hd] at hdj; cases hdj
    simp only [Bool.or_eq_true, beq_iff_eq, hne, or_false] at hl
    show a.tmps[d]? = some (if j = i then v else val j)
    rw [if_neg hne]; exact h.on j d hj hl hdj
  | some d0 =>
    have hr := ok.rng i d0 hi hd
    refine ⟨h.defers, by simp [Act.put, h.size], fun j d hj hl hdj => ?_, fun t ht => ?_⟩
    · by_cases hne : j = i
      · subst hne
        rw [hd] at hdj; injection hdj with hdj; subst hdj
        simp only [Act.put, if_true]
        rw [Array.getElem?_setIfInBounds_self_of_lt (by rw [h.size]; exact hr)]
      · simp only [Bool.or_eq_true, beq_iff_eq, hne, or_false] at hl
        have hdd : d0 ≠ d := fun e => ok.one i j d0 hi hj (Ne.symm hne) hd (e ▸ hdj)
        show (a.tmps.setIfInBounds d0 v)[d]? = some (if j = i then v else val j)
        rw [Array.getElem?_setIfInBounds_ne hdd, if_neg hne]
        exact h.on j d hj hl hdj
    · have hdd : d0 ≠ t := fun e => ht i hi (by simp) (e ▸ hd)
      show (a.tmps.setIfInBounds d0 v)[t]? = _
      rw [Array.getElem?_setIfInBounds_ne hdd]
      exact h.off t fun j hj hl => ht j hj (by simp [hl])
theorem Agree.eq {L : Nat → Bool} {val : Nat → Value} {a b : Act} (h : Agree ops m a0 L val a) (k : Agree ops m a0 L val b) : a = b := by
  obtain ⟨ta, da⟩ := a
  obtain ⟨tb, db⟩ := b
  have e1 : da = db := h.defers.trans k.defers.symm
  have e2 : ta = tb := by
    refine Array.ext_getElem? fun t => ?_
    by_cases hx : ∃ j, j < m ∧ L j = true ∧ dstAt ops j = some t
    · obtain ⟨j, hj, hl, hd⟩ := hx
      exact (h.on j t hj hl hd).trans (k.on j t hj hl hd).symm
    · have hn : ∀ j, j < m → L j = true → dstAt ops j ≠ some t := fun j hj hl hd => hx ⟨j, hj, hl, hd⟩
      exact (h.off t hn).trans (k.off t hn).symm
  subst e1; subst e2; rfl
theorem pfx_agree (ok : LinOK ops m a0.tmps.size) (val : Nat → Value) : ∀ k, k ≤ m → Agree ops m a0 (fun j => decide (j < k)) val (pfx ops a0 val k)
  | 0, _ => (Agree.start (val := fun _ => undef)).mono (fun j _ => by simp) (fun _ _ h => by cases h)
  | k + 1, hk => by
    have := (pfx_agree ok val k (by omega)).put ok (i := k) (by omega) (by simp) (val k)
    refine this.mono (fun j _ => ?_) (fun j _ _ => ?_)
    · rw [Bool.eq_iff_iff]; simp only [decide_eq_true_eq, Bool.or_eq_true, beq_iff_eq]; omega
    · split
      · rename_i e; rw [e]
      · rfl
/-- two states that agree on what an operation looks at -/
theorem look_same {L M : Nat → Bool} {val : Nat → Value} {a b : Act} (h : Agree ops m a0 L val a) (k : Agree ops m a0 M val b) {o : Oper} (hl : ∀ t ∈ o.looksAt ops, ∀ j, j < m → dstAt ops j = some t → L j = true ∧ M j = true) :
    ∀ t ∈ o.looksAt ops, a.tmps[t]? = b.tmps[t]? := fun t ht => by
  by_cases hx : ∃ j, j < m ∧ dstAt ops j = some t
  · obtain ⟨j, hj, hd⟩ := hx
    obtain ⟨h1, h2⟩ := hl t ht j hj hd
    exact (h.on j t hj h1 hd).trans (k.on j t hj h2 hd).symm
  · have hn : ∀ j, j < m → dstAt ops j ≠ some t := fun j hj hd => hx ⟨j, hj, hd⟩
    exact (h.off t fun j hj _ => hn j hj).trans (k.off t fun j hj _ => hn j hj).symm
theorem execOp_look {a b : Act} {o : Oper} (hs : ∀ cs d, o.op ≠ .select cs d) (h : ∀ t ∈ o.looksAt ops, a.tmps[t]? = b.tmps[t]?) : execOp a.eval o = execOp b.eval o :=
  execOp_congr o hs fun x hx => by
    cases x with
    | tmp t =>
      have := h t (List.mem_append_left _ (List.mem_filterMap.2 ⟨.tmp t, by simpa using hx, rfl⟩))
      simp only [Act.eval, Array.getD_eq_getD_getElem?, this]
    | _ => rfl
theorem wanted_look {a b : Act} {o : Oper} (h : ∀ t ∈ o.looksAt ops, a.tmps[t]? = b.tmps[t]?) : Region.wanted o (yielded ops a.tmps) = Region.wanted o (yielded ops b.tmps) := by
  unfold Region.wanted
  cases hg : o.guard with
  | none => rfl
  | some gw =>
    obtain ⟨g, want⟩ := gw
    have hy : yielded ops a.tmps g = yielded ops b.tmps g := by
      unfold yielded
      cases ht : (ops[g]?).bind (·.dst) with
      | none => rfl
      | some t =>
        have := h t (by simp [Oper.looksAt, hg, ht])
        simp only [Option.bind_some, this]
    simp only [hy]

theorem reach_listed {listed : Array Bool} (hc : ∀ j oj, ops[j]? = some oj → listed.getD j false = true → ∀ e ∈ oj.after, Region.binds .any e = true → listed.getD e.on false = true) :
    ∀ (f i j : Nat), (∀ o, ops[i]? = some o → ∀ e ∈ o.after, Region.binds .any e = true → listed.getD e.on false = true) → reachB ops f i j = true → listed.getD j false = true
  | 0, _, _, _, h => by cases h
  | f + 1, i, j, hi, h => by
    simp only [reachB] at h
    cases ho : ops[i]? with
    | none => simp only [ho] at h; cases h
    | some o =>
      simp only [ho] at h
      obtain ⟨e, he, hb⟩ := Array.any_eq_true'.1 h
      simp only [Bool.and_eq_true, Bool.or_eq_true, beq_iff_eq] at hb
      obtain ⟨hb, hj | hj⟩ := hb
      · rw [← hj]; exact hi o ho e he hb
      · exact reach_listed hc f e.on j (fun o' ho' => hc e.on o' ho' (hi o ho e he hb)) hj

theorem countP_one {p q : Nat → Bool} {i : Nat} (hp : p i = true) (hq : q i = false) (h : ∀ j, j ≠ i → p j = q j) : ∀ (l : List Nat), l.Nodup → i ∈ l → l.countP q + 1 = l.countP p
  | [], _, hi => by cases hi
  | x :: l, hn, hi => by
    rw [List.nodup_cons] at hn
    by_cases hx : x = i
    · subst hx
      have : l.countP q = l.countP p := List.countP_congr fun y hy => by rw [h y fun e => hn.1 (e ▸ hy)]
      simp [List.countP_cons, hp, hq, this]
    · have := countP_one hp hq h l hn.2 ((List.mem_cons.1 hi).resolve_left (Ne.symm hx))
      simp only [List.countP_cons, h x hx]
      omega

/-- all that the walk of the first m operations has shown -/
structure Done (P : Program) (ops : Array Oper) (R : World → World → Prop) (w0 : World) (a0 : Act) (m : Nat) (es : List Nat) (T : List Slot) : Prop where
  len : T.length = m
  step : ∀ i o, i < m → ops[i]? = some o → ∃ s, T[i]? = some s ∧ (es.contains i = true → s.isPure = true) ∧ StepOK P ops R w0 o i (T.take i) (fun xs => pfx ops a0 (valAt T xs) i) s

theorem lin_done {tail : List Oper} {head : List Oper} (hh : ∀ j, j < head.length → ops[j]? = head[j]?) : ∀ (l : List Oper) (k : Nat) (S : List Slot) (F : (Nat → Value) → Act),
    Lin P ops Q R w0 es tail l k S F → S.length = k → k + l.length = head.length → (∀ j, j < l.length → l[j]? = head[k + j]?) → (∀ xs, F xs = pfx ops a0 (valAt S xs) k) →
    ∃ T, T.length = head.length ∧ T.take k = S ∧ (∀ i o, k ≤ i → i < head.length → ops[i]? = some o → ∃ s, T[i]? = some s ∧ (es.contains i = true → s.isPure = true) ∧ StepOK P ops R w0 o i (T.take i) (fun xs => pfx ops a0 (valAt T xs) i) s) ∧
      Lin P ops Q R w0 es tail [] head.length T (fun xs => pfx ops a0 (valAt T xs) head.length)
  | [], k, S, F, h, hS, hl, _, hF => by
    have hk : k = head.length := by simpa using hl
    have eF : F = fun xs => pfx ops a0 (valAt S xs) head.length := by rw [← hk]; exact funext hF
    rw [eF] at h
    exact ⟨S, by rw [hS, hk], by rw [List.take_of_length_le (by omega)], fun i o h1 h2 => absurd h1 (by omega), h⟩
  | o :: l, k, S, F, h, hS, hl, hlh, hF => by
    obtain ⟨s, hpu, hs, hr⟩ := h
    simp only [List.length_cons] at hl
    have hko : ops[k]? = some o := by
      rw [hh k (by omega)]; have := hlh 0 (by simp); simpa using this.symm
    have hval : ∀ xs j, j < k → valAt (S ++ [s]) xs j = valAt S xs j := fun xs j hj => by
      unfold valAt; rw [List.getElem?_append_left (by omega)]
    have hvalk : ∀ xs, valAt (S ++ [s]) xs k = s.val (xs k) := fun xs => by
      unfold valAt; rw [List.getElem?_append_right (by omega), hS]; simp
    obtain ⟨T, h1, h2, h3, h4⟩ := lin_done hh l (k + 1) (S ++ [s]) _ hr (by simp [hS]) (by omega) (fun j hj => by
      have := hlh (j + 1) (by simp; omega)
      simpa [Nat.add_assoc, Nat.add_comm 1 j] using this) (fun xs => by
        rw [hF xs]
        show Act.put _ _ _ = Act.put (pfx ops a0 (valAt (S ++ [s]) xs) k) (dstAt ops k) (valAt (S ++ [s]) xs k)
        rw [pfx_congr (fun j hj => hval xs j hj), hvalk]
        simp [dstAt, hko])
    have hTk : T.take k = S := by
      have := congrArg (List.take k) h2
      rwa [List.take_take, Nat.min_eq_left (by omega), List.take_left' hS] at this
    have hTs : T[k]? = some s := by
      have : (T.take (k + 1))[k]? = some s := by rw [h2, List.getElem?_append_right (by omega), hS]; simp
      rwa [List.getElem?_take_of_lt (by omega)] at this
    refine ⟨T, h1, hTk, fun i o' hi1 hi2 ho' => ?_, h4⟩
    by_cases hik : i = k
    · subst hik
      rw [hko] at ho'; injection ho' with ho'; subst ho'
      refine ⟨s, hTs, hpu, ?_⟩
      have eF : F = fun xs => pfx ops a0 (valAt T xs) i := funext fun xs => by
        rw [hF xs]
        refine pfx_congr fun j hj => ?_
        have : T[j]? = S[j]? := by rw [← hTk, List.getElem?_take_of_lt hj]
        unfold valAt; rw [this]
      rw [← eF, hTk]; exact hs
    · exact h3 i o' (by omega) hi2 ho'

structure Inv (ops : Array Oper) (R : World → World → Prop) (w0 : World) (a0 : Act) (m : Nat) (T : List Slot) (listed : Array Bool) (a : Act) (w : World) : Prop where
  head : HeadInv .any ops m listed
  rel : R w0 w
  ex : ∃ xs : Nat → Value, Agree ops m a0 (fun j => listed.getD j false) (valAt T xs) a ∧ (∀ j, listed.getD j false = true → factAt T j (xs j) w) ∧
    (∀ j, listed.getD j false = true → freshAt T j = true → ∃ b, blkOf (xs j) = some b ∧ w0.heap.size ≤ b ∧ b < w.heap.size) ∧
    (∀ i j, i ≠ j → listed.getD i false = true → listed.getD j false = true → freshAt T i = true → freshAt T j = true → blkOf (xs i) ≠ blkOf (xs j))

theorem factAt_mono (hR : Rely R) {T : List Slot} (d : Done P ops R w0 a0 m es T) (hm : m ≤ ops.size) {j : Nat} {x : Value} {W W' : World} (h : R W W') (hf : factAt T j x W) : factAt T j x W' := by
  by_cases hj : j < m
  · obtain ⟨s, hs, _, hk⟩ := d.step j ops[j] hj (Array.getElem?_eq_getElem (by omega))
    unfold factAt at hf ⊢
    rw [hs] at hf ⊢
    cases s with
    | det v => trivial
    | pure v => trivial
    | any G fr => exact hk.1 x W W' h hf
  · unfold factAt
    rw [List.getElem?_eq_none (by rw [d.len]; omega)]
    trivial

theorem getD_set_self {listed : Array Bool} {i : Nat} (h : i < listed.size) (b : Bool) : (listed.setIfInBounds i true).getD i b = true := by simp [h]

theorem put_defers_ (a : Act) (d : Option Tmp) (v : Value) : (a.put d v).defers = a.defers := by cases d <;> rfl
/-- one operation of the first m, from a state that the invariant describes -/
theorem inv_step (hR : Rely R) (hsel : Region.noSelect ops = true) (ok : LinOK ops m a0.tmps.size) {T : List Slot} (d : Done P ops R w0 a0 m es T) {listed : Array Bool} {a : Act} {w : World}
    (inv : Inv ops R w0 a0 m T listed a w) {i : Nat} (hi : i < m) (hr : i ∈ Region.ready .any ops listed) {K : Act → World → Prop}
    (hK : ∀ a' w', Inv ops R w0 a0 m T (listed.setIfInBounds i true) a' w' → K a' w') : wpOp P ops Q i K a w := by
  obtain ⟨hun, o, ho, hall⟩ := mem_ready.1 hr
  have his : i < listed.size := by rw [inv.head.size]; have := ok.le; omega
  have hun' := getD_both hun
  obtain ⟨s, hs, _, hst⟩ := d.step i o hi ho
  obtain ⟨xs, hag, hfa, hfr, hdj⟩ := inv.ex
  have hdo : dstAt ops i = o.dst := by simp [dstAt, ho]
  have hF := pfx_agree ok (valAt T xs) i (by omega)
  have hlisted : ∀ f j, reachB ops f i j = true → listed.getD j false = true := fun f j h =>
    reach_listed inv.head.closed f i j (fun o' ho' => by rw [ho] at ho'; injection ho' with ho'; subst ho'; exact hall) h
  have hlook : ∀ t ∈ o.looksAt ops, a.tmps[t]? = (pfx ops a0 (valAt T xs) i).tmps[t]? := look_same hag hF fun t ht j hj hd => by
    obtain ⟨h1, h2⟩ := ok.look i o hi ho t ht j hj hd
    exact ⟨hlisted 3 j h2, by simp [h1]⟩
  have hex := execOp_look (fun cs b => Region.noSelect_spec hsel i o cs b ho) hlook
  have hwa := wanted_look hlook
  have hdep : ∀ j f, reachB ops f i j = true → factAt (T.take i) j (xs j) w := fun j f h => by
    unfold factAt
    by_cases hji : j < i
    · rw [List.getElem?_take_of_lt hji]; exact hfa j (hlisted f j h)
    · rw [List.getElem?_eq_none (by rw [List.length_take]; omega)]; trivial
  -- the step's end
  have fin : ∀ (v : Value) (x : Value) (w' : World), R w w' → s.val x = v → s.fact x w' → (s.isFresh = true → NewIn w w' x) → K (a.put o.dst v) w' := fun v x w' hw' hv hf hn => by
    refine hK _ _ ⟨inv.head.set hr hi, hR.trans inv.rel hw', fun j => if j = i then x else xs j, ?_, ?_, ?_, ?_⟩
    · rw [← hdo]
      refine (hag.put ok hi hun' v).mono (fun j hj => ?_) (fun j hj hl => ?_)
      · by_cases hji : j = i
        · subst hji; simp [his]
        · rw [getD_set_ne false (Ne.symm hji)]; simp [hji]
      · by_cases hji : j = i
        · subst hji; simp only [if_true]; unfold valAt; rw [hs]; simpa using hv
        · rw [if_neg hji]; unfold valAt; simp only [if_neg hji]
    · intro j hl
      by_cases hji : j = i
      · subst hji; simp only [if_true]; unfold factAt; rw [hs]; exact hf
      · rw [getD_set_ne false (Ne.symm hji)] at hl
        simp only [if_neg hji]
        exact factAt_mono hR d ok.le hw' (hfa j hl)
    · intro j hl hfj
      by_cases hji : j = i
      · subst hji; simp only [if_true]
        obtain ⟨b, h1, h2, h3⟩ := hn (by unfold freshAt at hfj; rw [hs] at hfj; exact hfj)
        exact ⟨b, h1, Nat.le_trans (hR.size inv.rel) h2, h3⟩
      · rw [getD_set_ne false (Ne.symm hji)] at hl
        simp only [if_neg hji]
        obtain ⟨b, h1, h2, h3⟩ := hfr j hl hfj
        exact ⟨b, h1, h2, Nat.lt_of_lt_of_le h3 (hR.size hw')⟩
    · have key : ∀ j, j ≠ i → (listed.setIfInBounds i true).getD j false = true → freshAt T i = true → freshAt T j = true → blkOf x ≠ blkOf (xs j) := fun j hji hl hfi hfj e => by
        rw [getD_set_ne false (Ne.symm hji)] at hl
        obtain ⟨b, h1, h2, _⟩ := hn (by unfold freshAt at hfi; rw [hs] at hfi; exact hfi)
        obtain ⟨b', h1', _, h3'⟩ := hfr j hl hfj
        rw [h1, h1'] at e
        injection e with e
        omega
      intro j k hjk hlj hlk hfj hfk
      by_cases hji : j = i
      · subst hji
        simp only [if_true, if_neg (Ne.symm hjk)]
        exact key k (Ne.symm hjk) hlk hfj hfk
      · by_cases hki : k = i
        · subst hki
          simp only [if_true, if_neg hji]
          exact Ne.symm (key j hji hlj hfk hfj)
        · simp only [if_neg hji, if_neg hki]
          rw [getD_set_ne false (Ne.symm hji)] at hlj
          rw [getD_set_ne false (Ne.symm hki)] at hlk
          exact hdj j k hjk hlj hlk hfj hfk
  unfold Go.wpOp
  simp only [ho]
  rw [hwa]
  cases s with
  | det v =>
    have h1 := hst xs w inv.rel hdep
    split
    · rename_i hw
      rw [if_pos hw] at h1
      refine .inl ?_
      unfold Oper.quietAt at h1
      unfold Oper.wp
      rw [hex]
      dsimp only at h1
      generalize (execOp (pfx ops a0 (valAt T xs) i).eval o).run P w = r at *
      cases r with
      | ok n w' =>
        cases n <;> simp only [Oper.quietUpon, Oper.upon] at h1 ⊢
        case value u => obtain ⟨rfl, rfl⟩ := h1; exact fin _ undef _ (hR.refl _) rfl trivial (fun h => by cases h)
        case skip => obtain ⟨rfl, rfl⟩ := h1; exact fin _ undef _ (hR.refl _) rfl trivial (fun h => by cases h)
        case enter f args =>
          obtain ⟨rfl, h1⟩ := h1
          refine Calls.mono h1 fun e w'' ⟨he, hw⟩ => ?_
          subst he
          exact fin _ undef _ hw rfl trivial (fun h => by cases h)
      | halt x w' => simp only [Oper.quietUpon] at h1
    · rename_i hw
      rw [if_neg hw] at h1
      rw [← h1]
      exact fin _ undef _ (hR.refl _) rfl trivial (fun h => by cases h)
  | pure v =>
    have h1 := hst xs w inv.rel hdep
    split
    · rename_i hw
      rw [if_pos hw] at h1
      refine .inl ?_
      unfold Oper.wp
      rw [hex]
      dsimp only at h1
      rw [h1 w]
      exact fin _ undef _ (hR.refl _) rfl trivial (fun h => by cases h)
    · rename_i hw
      rw [if_neg hw] at h1
      rw [← h1]
      exact fin _ undef _ (hR.refl _) rfl trivial (fun h => by cases h)
  | any G fr =>
    have h1 := hst.2 xs w inv.rel hdep (fun a' W' => a'.defers = (pfx ops a0 (valAt T xs) i).defers ∧ R w W' ∧ G (slotOf o a') W' ∧ (fr = true → NewIn w W' (slotOf o a'))) (fun a' W' x0 x1 x2 x3 => ⟨x0, x1, x2, x3⟩)
    have hput : ∀ u, a.put o.dst u = a.put o.dst (slotOf o ((pfx ops a0 (valAt T xs) i).put o.dst u)) := fun u => by
      cases hd : o.dst with
      | none => rfl
      | some t =>
        have hlt : t < (pfx ops a0 (valAt T xs) i).tmps.size := by rw [hF.size]; exact ok.rng i t hi (hdo.trans hd)
        have : slotOf o ((pfx ops a0 (valAt T xs) i).put (some t) u) = u := by simp [slotOf, hd, Act.put, hlt]
        rw [this]
    have fin2 : ∀ u w', (R w w' ∧ G (slotOf o ((pfx ops a0 (valAt T xs) i).put o.dst u)) w' ∧ (fr = true → NewIn w w' (slotOf o ((pfx ops a0 (valAt T xs) i).put o.dst u)))) → K (a.put o.dst u) w' := fun u w' h => by
      rw [hput u]
      exact fin _ _ w' h.1 rfl h.2.1 h.2.2
    split
    · rename_i hw
      rw [if_pos hw] at h1
      refine .inl ?_
      unfold Oper.wp at h1 ⊢
      rw [hex]
      dsimp only at h1
      generalize (execOp (pfx ops a0 (valAt T xs) i).eval o).run P w = r at *
      cases r with
      | ok n w' =>
        cases n <;> simp only [Oper.upon] at h1 ⊢
        case value u => exact fin2 u w' h1.2
        case skip => exact fin2 undef w' h1.2
        case defer df =>
          exfalso
          have h2 := h1.1
          rw [put_defers_] at h2
          exact absurd (congrArg List.length h2) (by simp)
        case enter f args =>
          refine Calls.mono h1 fun e w'' he => ?_
          cases e with
          | returned u => exact fin2 u w'' he.2
          | panicked c => exact he.elim
          | outgrown => obtain ⟨_, _, h⟩ := he; exact h.elim
        case row row args => exact Rows.mono h1 fun u w'' he => fin2 u w'' he.2
      | halt x w' =>
        cases x <;> simp only [Oper.upon] at h1 ⊢
        case panic u => exact h1.elim
    · rename_i hw
      rw [if_neg hw] at h1
      exact fin2 undef w h1.2

def unl (m : Nat) (listed : Array Bool) : Nat := (List.range m).countP fun j => !listed.getD j false
theorem lin_all {Q' : Exit → Act → World → Prop} (hR : Rely R) (hsel : Region.noSelect ops = true) (ok : LinOK ops m a0.tmps.size) (htl : tailB ops m es = true) (hQ : es = [] ∨ ∀ c a (d : Nat) v w, Q' (.panic c) (a.put (some d) v) w → Q' (.panic c) a w) {T : List Slot} (d : Done P ops R w0 a0 m es T) {tail : List Oper} (ht : ∀ j, tail[j]? = ops[m + j]?)
    (hfin : Lin P ops Q' R w0 es tail [] m T (fun xs => pfx ops a0 (valAt T xs) m)) :
    ∀ (f : Nat) (listed : Array Bool) (a : Act) (w : World), Inv ops R w0 a0 m T listed a w → unl m listed = f → wpAny P .any ops Q' (f + tail.length) listed a w := by
  have hlen : tail.length = ops.size - m := by
    have h1 := ht tail.length
    rw [List.getElem?_eq_none (Nat.le_refl _)] at h1
    have h2 : ops.size ≤ m + tail.length := by simpa using h1.symm
    rcases Nat.lt_or_ge (ops.size - m) tail.length with h | h
    · have h3 := ht (ops.size - m)
      rw [List.getElem?_eq_getElem h, show m + (ops.size - m) = ops.size by have := ok.le; omega] at h3
      simp at h3
    · omega
  unfold tailB at htl
  simp only [Bool.and_eq_true, Bool.or_eq_true, decide_eq_true_eq] at htl
  obtain ⟨⟨htl, hes⟩, hseq⟩ := htl
  intro f
  induction f with
  | zero =>
    intro listed a w inv hf
    have hall : ∀ j, j < m → listed.getD j false = true := fun j hj => by
      unfold unl at hf
      have := List.countP_eq_zero.1 hf j (List.mem_range.2 hj)
      simpa using this
    have hL : listed = Array.replicate m true ++ Array.replicate (ops.size - m) false := by
      have hsz := inv.head.size
      refine Array.ext (by simp [hsz]; have := ok.le; omega) fun j h1 h2 => ?_
      by_cases hj : j < m
      · have := hall j hj
        simp [h1] at this
        rw [this, Array.getElem_append_left (by simpa using hj)]; simp
      · have := inv.head.tail j (by omega) (by omega)
        simp [h1] at this
        rw [this, Array.getElem_append_right (by simp; omega)]; simp
    obtain ⟨xs, hag, hfa, hfr, hdj⟩ := inv.ex
    have hF := (pfx_agree ok (valAt T xs) m (Nat.le_refl _)).mono (L' := fun j => listed.getD j false) (fun j hj => by rw [hall j hj]; simp [hj]) (fun _ _ _ => rfl)
    have ea := hag.eq hF
    have hTn : ∀ j, ¬ j < m → T[j]? = none := fun j hj => List.getElem?_eq_none (by rw [d.len]; omega)
    rw [Nat.zero_add]
    refine wpAny_of_seq tail m listed a w ht (by rw [hL, hlen]; exact hseq) ?_
    rw [ea]
    refine hfin xs w inv.rel (fun j => ?_) (fun i j hij hi hj => ?_) (fun i hi => ?_)
    · by_cases hj : j < m
      · exact hfa j (hall j hj)
      · unfold factAt; rw [hTn j hj]; trivial
    · have him : i < m := Decidable.byContradiction fun h => by unfold freshAt at hi; rw [hTn i h] at hi; cases hi
      have hjm : j < m := Decidable.byContradiction fun h => by unfold freshAt at hj; rw [hTn j h] at hj; cases hj
      exact hdj i j (Nat.ne_of_lt hij) (hall i him) (hall j hjm) hi hj
    · have him : i < m := Decidable.byContradiction fun h => by unfold freshAt at hi; rw [hTn i h] at hi; cases hi
      exact hfr i (hall i him) hi
  | succ f ih =>
    intro listed a w inv hf
    have hex : ∃ i, i < m ∧ listed.getD i false = false ∧ ∀ j, j < i → listed.getD j false = true := by
      have h1 : ∃ i, i < m ∧ listed.getD i false = false := by
        have : 0 < unl m listed := by omega
        obtain ⟨i, hi, hp⟩ := List.countP_pos_iff.1 this
        exact ⟨i, List.mem_range.1 hi, by simpa using hp⟩
      obtain ⟨i, hi, hun⟩ := h1
      induction i using Nat.strongRecOn with
      | _ i ih2 =>
        by_cases hx : ∃ j, j < i ∧ listed.getD j false = false
        · obtain ⟨j, hj, hjn⟩ := hx
          exact ih2 j hj (by omega) hjn
        · exact ⟨i, hi, hun, fun j hj => by
            cases h : listed.getD j false with
            | true => rfl
            | false => exact absurd ⟨j, hj, h⟩ hx⟩
    obtain ⟨i, hi, hun, hbelow⟩ := hex
    have his : i < listed.size := by rw [inv.head.size]; have := ok.le; omega
    have hunT := getD_in his hun
    have hio : ops[i]? = some ops[i] := Array.getElem?_eq_getElem (by have := ok.le; omega)
    have hir : i ∈ Region.ready .any ops listed := mem_ready.2 ⟨hunT, _, hio, fun e he hb => hbelow e.on (ok.low i _ hi hio e he hb)⟩
    rw [show f + 1 + tail.length = (f + tail.length) + 1 by omega]
    have hcount : ∀ j, j < m → j ∈ Region.ready .any ops listed → unl m (listed.setIfInBounds j true) = f := fun j hjm hj => by
      have hjun := (mem_ready.1 hj).1
      have hjs : j < listed.size := by rw [inv.head.size]; have := ok.le; omega
      have := countP_one (p := fun k => !listed.getD k false) (q := fun k => !(listed.setIfInBounds j true).getD k false) (i := j) (by simp only [getD_both hjun]; rfl) (by simp only [getD_set_self hjs]; rfl)
        (fun k hk => by simp only [getD_set_ne false (Ne.symm hk)]) (List.range m) List.nodup_range (List.mem_range.2 hjm)
      unfold unl at hf ⊢
      omega
    by_cases hcase : ∃ k, k < m ∧ listed.getD k false = false ∧ es.contains k = false
    · obtain ⟨k, hk, hkun, hke⟩ := hcase
      refine ⟨(fun h0 => by rw [h0] at hir; cases hir), fun j hj => ?_⟩
      have hjm : j < m := by
        rcases Nat.lt_or_ge j m with h | h
        · exact h
        · obtain ⟨_, oj, hoj, hall⟩ := mem_ready.1 hj
          have hjlt := (Array.getElem?_eq_some_iff.1 hoj).1
          rcases htl with he | ⟨⟨hlt, hs⟩, hc⟩
          · omega
          · exfalso
            by_cases hjm : j = m
            · subst hjm
              have h2 := sinkE_listed hs inv.head.closed (fun o' ho' => by rw [hoj] at ho'; injection ho' with ho'; subst ho'; exact hall) _ k rfl hk hke
              rw [hkun] at h2; cases h2
            · have h1 := List.all_eq_true.1 hc j (List.mem_range.2 hjlt)
              simp only [Bool.or_eq_true, decide_eq_true_eq] at h1
              rcases h1 with h1 | h1
              · omega
              · obtain ⟨o', ho', e, he, hb, hon⟩ := Region.waitsFor_spec h1
                rw [hoj] at ho'; injection ho' with ho'; subst ho'
                have h2 := hall e he hb
                rw [hon, getD_both (inv.head.tail (j - 1) (by omega) (by omega))] at h2
                cases h2
      exact inv_step hR hsel ok d inv hjm hj fun a' w' inv' => ih _ a' w' inv' (hcount j hjm hj)
    · have hie : es.contains i = true := by
        cases h : es.contains i with
        | true => rfl
        | false => exact absurd ⟨i, hi, hun, h⟩ hcase
      have hnil : es ≠ [] := fun e => by rw [e] at hie; cases hie
      have hQ := hQ.resolve_left hnil
      obtain ⟨s, hs, hpu, hst⟩ := d.step i _ hi hio
      have hpu := hpu hie
      cases s with
      | det v => cases hpu
      | any G fr => cases hpu
      | pure v =>
        have hlisted : ∀ f j, reachB ops f i j = true → listed.getD j false = true := fun f j h =>
          reach_listed inv.head.closed f i j (fun o' ho' => by rw [hio] at ho'; injection ho' with ho'; subst ho'; exact fun e he hb => hbelow e.on (ok.low i _ hi hio e he hb)) h
        have hfree : ∀ j oj, ops[j]? = some oj → j ≠ i → listed.getD j true = false → (∀ e ∈ oj.after, Region.binds .any e = true → e.on ≠ i) → ops[i].apart ops oj = true := fun j oj hoj hji hjun hno => by
          have h1 := List.all_eq_true.1 (List.all_eq_true.1 hes i (by simpa using hie)) j (List.mem_range.2 (Array.getElem?_eq_some_iff.1 hoj).1)
          simp only [hio, hoj, Bool.or_eq_true, beq_iff_eq] at h1
          rcases h1 with ((h1 | h1) | h1) | h1
          · exact absurd h1.symm hji
          · obtain ⟨o', ho', e, he, hb, hon⟩ := Region.waitsFor_spec h1
            rw [hoj] at ho'; injection ho' with ho'; subst ho'
            exact absurd hon (hno e he hb)
          · have h2 := hlisted 3 j h1
            rw [getD_both hjun] at h2; cases h2
          · exact h1
        obtain ⟨xs, hag, hfa, hfr, hdj⟩ := inv.ex
        have hF := pfx_agree ok (valAt T xs) i (by omega)
        have hlook : ∀ t ∈ ops[i].looksAt ops, a.tmps[t]? = (pfx ops a0 (valAt T xs) i).tmps[t]? := look_same hag hF fun t ht j hj hd => by
          obtain ⟨h1, h2⟩ := ok.look i _ hi hio t ht j hj hd
          exact ⟨hlisted 3 j h2, by simp [h1]⟩
        have hex := execOp_look (fun cs b => Region.noSelect_spec hsel i _ cs b hio) hlook
        have hwa := wanted_look hlook
        have hdep : ∀ j f, reachB ops f i j = true → factAt (T.take i) j (xs j) w := fun j f h => by
          unfold factAt
          by_cases hji : j < i
          · rw [List.getElem?_take_of_lt hji]; exact hfa j (hlisted f j h)
          · rw [List.getElem?_eq_none (by rw [List.length_take]; omega)]; trivial
        have h1 := hst xs w inv.rel hdep
        have hy : Yields P ops ops[i] v a := by
          unfold Yields
          rw [hwa, hex]
          dsimp only at h1
          split at h1
          · rename_i hw; exact .inl ⟨hw, h1⟩
          · rename_i hw; exact .inr ⟨by simpa using hw, h1⟩
        have hdo : dstAt ops i = ops[i].dst := by simp [dstAt, hio]
        refine wpAny_first hio (Region.noSelect_spec hsel) (fun c a' w' h => by cases hd : ops[i].dst with
          | none => rw [hd] at h; exact h
          | some d => rw [hd] at h; exact hQ c _ d _ w' h) _ listed a w hfree hir hy (ih _ _ w ⟨inv.head.set hir hi, inv.rel, xs, ?_, ?_, ?_, ?_⟩ (hcount i hi hir))
        · rw [← hdo]
          refine (hag.put ok hi hun v).mono (fun j hj => ?_) (fun j hj hl => ?_)
          · by_cases hji : j = i
            · subst hji; simp [his]
            · rw [getD_set_ne false (Ne.symm hji)]; simp [hji]
          · by_cases hji : j = i
            · subst hji; simp only [if_true]; unfold valAt; rw [hs]; rfl
            · rw [if_neg hji]
        · intro j hl
          by_cases hji : j = i
          · subst hji; unfold factAt; rw [hs]; trivial
          · rw [getD_set_ne false (Ne.symm hji)] at hl; exact hfa j hl
        · intro j hl hfj
          by_cases hji : j = i
          · subst hji; unfold freshAt at hfj; rw [hs] at hfj; cases hfj
          · rw [getD_set_ne false (Ne.symm hji)] at hl; exact hfr j hl hfj
        · intro j k hjk hlj hlk hfj hfk
          by_cases hji : j = i
          · subst hji; unfold freshAt at hfj; rw [hs] at hfj; cases hfj
          · by_cases hki : k = i
            · subst hki; unfold freshAt at hfk; rw [hs] at hfk; cases hfk
            · rw [getD_set_ne false (Ne.symm hji)] at hlj
              rw [getD_set_ne false (Ne.symm hki)] at hlk
              exact hdj j k hjk hlj hlk hfj hfk
end

/-- the first m operations are walked one by one; the others follow, each behind the one before it -/
theorem wp_region_lin {P : Program} {id : Nat} {Q : Exit → Act → World → Prop} {R : World → World → Prop} {a : Act} {w w0 : World} {l : List Oper} (m : Nat) (es : List Nat) (hR : Rely R) (hm : P.follows .mixedOrders = true) (hsel : Region.noSelect l.toArray = true)
    (hl : linB l.toArray m a.tmps.size = true) (ht : tailB l.toArray m es = true) (hw : R w0 w.drew) (hQ : es = [] ∨ ∀ c a (d : Nat) v w, Q (.panic c) (a.put (some d) v) w → Q (.panic c) a w)
    (h : Lin P l.toArray Q R w0 es (l.drop m) (l.take m) 0 [] (fun _ => a)) : (Code.region id l.toArray true).wp P Q a w := by
  have ok := linB_ok hl
  have hle : m ≤ l.length := by simpa using ok.le
  have htl : (l.take m).length = m := by simp; omega
  have hh : ∀ j, j < (l.take m).length → l.toArray[j]? = (l.take m)[j]? := fun j hj => by rw [htl] at hj; simp [hj]
  obtain ⟨T, h1, _, h3, h4⟩ := lin_done (a0 := a) hh (l.take m) 0 [] (fun _ => a) h rfl (by simp) (fun j _ => by simp) (fun xs => rfl)
  rw [htl] at h1 h4
  have d : Done P l.toArray R w0 a m es T := ⟨h1, fun i o hi ho => h3 i o (Nat.zero_le _) (by rw [htl]; exact hi) ho⟩
  have inv0 : HeadInv .any l.toArray m (Array.replicate l.toArray.size false) :=
    ⟨by simp, fun j oj _ hl => (by rw [getD_replicate_false] at hl; cases hl), fun t _ ht => getD_in (by simpa using ht) (getD_replicate_false _ _)⟩
  have hu : unl m (Array.replicate l.toArray.size false) = m := by
    unfold unl
    rw [List.countP_eq_length.2 fun j _ => by simp only [getD_replicate_false]; rfl, List.length_range]
  refine wp_region_any hm ?_
  have := lin_all (Q' := Q) hR hsel ok ht hQ d (tail := l.drop m) (fun j => by simp [List.getElem?_drop]) h4 m (Array.replicate l.toArray.size false) a w.drew
    ⟨inv0, hw, fun _ => undef, (Agree.start (val := fun _ => undef)).mono (fun j _ => getD_replicate_false _ _) (fun _ _ h => by cases h), fun j hl => (by rw [getD_replicate_false] at hl; cases hl), fun j hl => (by rw [getD_replicate_false] at hl; cases hl), fun i j _ hl => (by rw [getD_replicate_false] at hl; cases hl)⟩ hu
  rw [show m + (l.drop m).length = l.toArray.size from by simp; omega] at this
  exact this
section
variable {P : Program} {ops : Array Oper} {Q : Exit → Act → World → Prop} {R : World → World → Prop} {w0 : World} {es : List Nat} {tail l : List Oper} {o : Oper} {k : Nat} {S : List Slot} {F F' : (Nat → Value) → Act}
/-- an operation that is carried out, and leaves v whatever the world -/
theorem lin_det {v : Value} (he : es.contains k = false) (hw : ∀ xs, Region.wanted o (yielded ops (F xs).tmps) = true) (h : ∀ xs W, R w0 W → (∀ j f, reachB ops f k j = true → factAt S j (xs j) W) → o.quietAt P (F xs) (R W) W v)
    (hF : ∀ xs, (F xs).put o.dst v = F' xs) (hs : Lin P ops Q R w0 es tail l (k + 1) (S ++ [.det v]) F') : Lin P ops Q R w0 es tail (o :: l) k S F :=
  ⟨.det v, (fun h => by rw [he] at h; cases h), fun xs W hW hd => by rw [if_pos (hw xs)]; exact h xs W hW hd, by
    have : (fun xs => (F xs).put o.dst (Slot.val (.det v) (xs k))) = F' := funext hF
    rw [this]; exact hs⟩
theorem lin_skip (he : es.contains k = false) (hw : ∀ xs, Region.wanted o (yielded ops (F xs).tmps) = false)
    (hF : ∀ xs, (F xs).put o.dst undef = F' xs) (hs : Lin P ops Q R w0 es tail l (k + 1) (S ++ [.det undef]) F') : Lin P ops Q R w0 es tail (o :: l) k S F :=
  ⟨.det undef, (fun h => by rw [he] at h; cases h), fun xs W hW hd => by rw [if_neg (by rw [hw xs]; decide)], by
    have : (fun xs => (F xs).put o.dst (Slot.val (.det undef) (xs k))) = F' := funext hF
    rw [this]; exact hs⟩
/-- an operation that yields v in every world, and leaves the world alone -/
theorem lin_pure {v : Value} (hw : ∀ xs, Region.wanted o (yielded ops (F xs).tmps) = true) (h : ∀ xs W, R w0 W → (∀ j f, reachB ops f k j = true → factAt S j (xs j) W) → ∀ w', (execOp (F xs).eval o).run P w' = .ok (.value v) w')
    (hF : ∀ xs, (F xs).put o.dst v = F' xs) (hs : Lin P ops Q R w0 es tail l (k + 1) (S ++ [.pure v]) F') : Lin P ops Q R w0 es tail (o :: l) k S F :=
  ⟨.pure v, (fun _ => rfl), fun xs W hW hd => by rw [if_pos (hw xs)]; exact h xs W hW hd, by
    have : (fun xs => (F xs).put o.dst (Slot.val (.pure v) (xs k))) = F' := funext hF
    rw [this]; exact hs⟩
/-- an operation that leaves something of which G holds from then on -/
theorem lin_any (G : Value → World → Prop) (fr : Bool) (hG : ∀ v W W', R W W' → G v W → G v W') (he : es.contains k = false) (hw : ∀ xs, Region.wanted o (yielded ops (F xs).tmps) = true)
    (h : ∀ xs W, R w0 W → (∀ j f, reachB ops f k j = true → factAt S j (xs j) W) → ∀ K : Act → World → Prop,
      Shut (∀ a W', a.defers = (F xs).defers → R W W' → G (slotOf o a) W' → (fr = true → NewIn W W' (slotOf o a)) → K a W') → Oper.wp P o (F xs) W K noQ)
    (hF : ∀ xs, (F xs).put o.dst (xs k) = F' xs) (hs : Lin P ops Q R w0 es tail l (k + 1) (S ++ [.any G fr]) F') : Lin P ops Q R w0 es tail (o :: l) k S F :=
  ⟨.any G fr, (fun h => by rw [he] at h; cases h), ⟨hG, fun xs W hW hd K hK => by rw [if_pos (hw xs)]; exact h xs W hW hd K hK⟩, by
    have : (fun xs => (F xs).put o.dst (Slot.val (.any G fr) (xs k))) = F' := funext hF
    rw [this]; exact hs⟩
end
end Go.Proofs.Ytnlbgaippnjmiaa

/- Orders of a drawn region, where what is held of the world is held up to one operation d (a store): behind it something weaker is. -/
namespace Go.Proofs.Ytnlbgaippnjmiaa
open Go Go.RowKit
section
variable {P : Program} {ops : Array Oper} {Q : Exit → Act → World → Prop} {md : Region.Mode} {d : Nat} {S : Bool → World → Prop}
/-- any order from here on; behind each operation S holds, of whether d has come up -/
def OrdL (P : Program) (md : Region.Mode) (ops : Array Oper) (Q : Exit → Act → World → Prop) (d : Nat) (S : Bool → World → Prop) : Nat → Array Bool → Act → World → Prop
  | 0, l, a, w => Region.ready md ops l = [] ∧ Q .normal a w
  | n + 1, l, a, w => (Region.ready md ops l = [] → Q .normal a w) ∧
      ∀ i ∈ Region.ready md ops l, wpOp P ops Q i (fun a' w' => S ((l.setIfInBounds i true).getD d true) w' ∧ OrdL P md ops Q d S n (l.setIfInBounds i true) a' w') a w
theorem OrdL.any : ∀ (n : Nat) (l : Array Bool) (a : Act) (w : World), OrdL P md ops Q d S n l a w → wpAny P md ops Q n l a w
  | 0, _, _, _, h => h
  | n + 1, _, _, _, h => ⟨h.1, fun i hi => wpOp_mono (fun a' w' h' => OrdL.any n _ a' w' h'.2) (h.2 i hi)⟩
theorem OrdL.first {i : Nat} {oi : Oper} {v : Value} (hi : ops[i]? = some oi) (hid : i ≠ d) (hw : ∃ od, ops[d]? = some od ∧ ∃ e ∈ od.after, Region.binds md e = true ∧ e.on = i)
    (hsel : ∀ (j : Nat) (o : Oper) cs b, ops[j]? = some o → o.op ≠ .select cs b) (hQ : ∀ c a w, Q (.panic c) (a.put oi.dst v) w → Q (.panic c) a w) :
    ∀ (n : Nat) (l : Array Bool) (a : Act) (w : World),
      (∀ j oj, ops[j]? = some oj → j ≠ i → l.getD j true = false → (∀ e ∈ oj.after, Region.binds md e = true → e.on ≠ i) → oi.apart ops oj = true) →
      i ∈ Region.ready md ops l → l.getD d true = false → YieldsIf P ops (S false) oi v a → S false w →
      OrdL P md ops Q d S n (l.setIfInBounds i true) (a.put oi.dst v) w → OrdL P md ops Q d S (n + 1) l a w := by
  intro n
  have keepd : ∀ (l : Array Bool) (k : Nat), k ≠ d → l.getD d true = false → (l.setIfInBounds k true).getD d true = false := fun l k hk h => by rw [getD_set_ne true hk]; exact h
  induction n with
  | zero =>
    intro l a w _ hr hd hy hS H
    refine ⟨fun h => (by rw [h] at hr; cases hr), fun j hj => ?_⟩
    by_cases hji : j = i
    · subst hji; exact hy.wpOp hi hS ⟨by rw [keepd l j hid hd]; exact hS, H⟩
    · have := ready_mono hj hji
      rw [H.1] at this
      cases this
  | succ n ih =>
    intro l a w hfree hr hd hy hS H
    refine ⟨fun h => (by rw [h] at hr; cases hr), fun j hj => ?_⟩
    by_cases hji : j = i
    · subst hji; exact hy.wpOp hi hS ⟨by rw [keepd l j hid hd]; exact hS, H⟩
    · have h1 := H.2 j (ready_mono hj hji)
      obtain ⟨hjun, oj, hoj, hall⟩ := mem_ready.1 hj
      have hnot : ∀ e ∈ oj.after, Region.binds md e = true → e.on ≠ i := fun e he hb heq => by
        have h1 := hall e he hb
        have h0 := (mem_ready.1 hr).1
        rw [heq] at h1
        rcases Nat.lt_or_ge i l.size with h' | h'
        · simp [h'] at h0 h1; rw [h0] at h1; cases h1
        · simp [Array.getElem?_eq_none h'] at h1
      have hjd : j ≠ d := fun e => by
        subst e
        obtain ⟨od, hod, x, hx, hb, ho⟩ := hw
        rw [hoj] at hod
        injection hod with hod
        subst hod
        exact hnot x hx hb ho
      have h2 := wpOp_putIf hoj (hfree j oj hoj hji hjun hnot) (fun cs b => hsel i oi cs b hi) (fun cs b => hsel j oj cs b hoj) hQ hy h1
      have hfree' : ∀ k ok, ops[k]? = some ok → k ≠ i → (l.setIfInBounds j true).getD k true = false →
          (∀ e ∈ ok.after, Region.binds md e = true → e.on ≠ i) → oi.apart ops ok = true := fun k ok hk hki hun hno => by
        refine hfree k ok hk hki ?_ hno
        by_cases hjk : j = k
        · subst hjk; exact hjun
        · rw [getD_set_ne true hjk] at hun; exact hun
      have hd2 := keepd l j hjd hd
      refine wpOp_mono (fun a' w' h3 => ?_) h2
      have hS2 : S false w' := by have := h3.2.1; rwa [keepd _ j hjd (keepd l i hid hd)] at this
      refine ⟨by rw [hd2]; exact hS2, ih (l.setIfInBounds j true) a' w' hfree' (ready_mono hr (Ne.symm hji)) hd2 h3.1 hS2 ?_⟩
      rw [Array.setIfInBounds_comm _ _ hji]
      exact h3.2.2
theorem OrdL.take {i : Nat} {oi : Oper} {v : Value} {n : Nat} {l : Array Bool} {a : Act} {w : World} (hi : ops[i]? = some oi) (hid : (i == d) = false) (hw : Region.waitsFor md ops d i = true)
    (hs : Region.noSelect ops = true) (hf : Region.free md ops l i = true) (hr : (Region.ready md ops l).contains i = true) (hd : l.getD d true = false)
    (hQ : ∀ c a w, Q (.panic c) (a.put oi.dst v) w → Q (.panic c) a w) (hy : YieldsIf P ops (S false) oi v a) (hS : S false w)
    (h : OrdL P md ops Q d S n (l.setIfInBounds i true) (a.put oi.dst v) w) : OrdL P md ops Q d S (n + 1) l a w := by
  obtain ⟨oj, hoj, e, hee, hb, hon⟩ := Region.waitsFor_spec hw
  exact OrdL.first hi (by simpa using hid) ⟨oj, hoj, e, hee, hb, hon⟩ (Region.noSelect_spec hs) hQ n l a w (Region.free_spec hi hf) (by simpa using hr) hd hy hS h
/-- the same for what yields whatever the world -/
theorem OrdL.firstP {i : Nat} {oi : Oper} {v : Value} (hi : ops[i]? = some oi) (hid : i ≠ d)
    (hsel : ∀ (j : Nat) (o : Oper) cs b, ops[j]? = some o → o.op ≠ .select cs b) (hQ : ∀ c a w, Q (.panic c) (a.put oi.dst v) w → Q (.panic c) a w) :
    ∀ (n : Nat) (l : Array Bool) (a : Act) (w : World),
      (∀ j oj, ops[j]? = some oj → j ≠ i → l.getD j true = false → (∀ e ∈ oj.after, Region.binds md e = true → e.on ≠ i) → oi.apart ops oj = true) →
      i ∈ Region.ready md ops l → YieldsIf P ops (fun _ => True) oi v a → S (l.getD d true) w →
      OrdL P md ops Q d S n (l.setIfInBounds i true) (a.put oi.dst v) w → OrdL P md ops Q d S (n + 1) l a w := by
  intro n
  have keepd : ∀ (l : Array Bool), (l.setIfInBounds i true).getD d true = l.getD d true := fun l => getD_set_ne true hid
  induction n with
  | zero =>
    intro l a w _ hr hy hS H
    refine ⟨fun h => (by rw [h] at hr; cases hr), fun j hj => ?_⟩
    by_cases hji : j = i
    · subst hji; exact hy.wpOp hi trivial ⟨by rw [keepd l]; exact hS, H⟩
    · have := ready_mono hj hji
      rw [H.1] at this
      cases this
  | succ n ih =>
    intro l a w hfree hr hy hS H
    refine ⟨fun h => (by rw [h] at hr; cases hr), fun j hj => ?_⟩
    by_cases hji : j = i
    · subst hji; exact hy.wpOp hi trivial ⟨by rw [keepd l]; exact hS, H⟩
    · have h1 := H.2 j (ready_mono hj hji)
      obtain ⟨hjun, oj, hoj, hall⟩ := mem_ready.1 hj
      have hnot : ∀ e ∈ oj.after, Region.binds md e = true → e.on ≠ i := fun e he hb heq => by
        have h1 := hall e he hb
        have h0 := (mem_ready.1 hr).1
        rw [heq] at h1
        rcases Nat.lt_or_ge i l.size with h' | h'
        · simp [h'] at h0 h1; rw [h0] at h1; cases h1
        · simp [Array.getElem?_eq_none h'] at h1
      have h2 := wpOp_putIf hoj (hfree j oj hoj hji hjun hnot) (fun cs b => hsel i oi cs b hi) (fun cs b => hsel j oj cs b hoj) hQ hy h1
      have hfree' : ∀ k ok, ops[k]? = some ok → k ≠ i → (l.setIfInBounds j true).getD k true = false →
          (∀ e ∈ ok.after, Region.binds md e = true → e.on ≠ i) → oi.apart ops ok = true := fun k ok hk hki hun hno => by
        refine hfree k ok hk hki ?_ hno
        by_cases hjk : j = k
        · subst hjk; exact hjun
        · rw [getD_set_ne true hjk] at hun; exact hun
      refine wpOp_mono (fun a' w' h3 => ?_) h2
      have hS2 : S ((l.setIfInBounds j true).getD d true) w' := by
        have := h3.2.1
        rw [← Array.setIfInBounds_comm _ _ hji] at this
        rwa [keepd (l.setIfInBounds j true)] at this
      refine ⟨hS2, ih (l.setIfInBounds j true) a' w' hfree' (ready_mono hr (Ne.symm hji)) h3.1 hS2 ?_⟩
      rw [Array.setIfInBounds_comm _ _ hji]
      exact h3.2.2
theorem OrdL.takeP {i : Nat} {oi : Oper} {v : Value} {n : Nat} {l : Array Bool} {a : Act} {w : World} {b : Bool} (hi : ops[i]? = some oi) (hid : (i == d) = false)
    (hs : Region.noSelect ops = true) (hf : Region.free md ops l i = true) (hr : (Region.ready md ops l).contains i = true) (hd : l.getD d true = b)
    (hQ : ∀ c a w, Q (.panic c) (a.put oi.dst v) w → Q (.panic c) a w) (hy : YieldsIf P ops (fun _ => True) oi v a) (hS : S b w)
    (h : OrdL P md ops Q d S n (l.setIfInBounds i true) (a.put oi.dst v) w) : OrdL P md ops Q d S (n + 1) l a w :=
  OrdL.firstP hi (by simpa using hid) (Region.noSelect_spec hs) hQ n l a w (Region.free_spec hi hf) (by simpa using hr) hy (by rw [hd]; exact hS) h
theorem OrdL.done {l : Array Bool} {a : Act} {w : World} (hr : Region.ready md ops l = []) (h : Q .normal a w) : ∀ n, OrdL P md ops Q d S n l a w
  | 0 => ⟨hr, h⟩
  | _ + 1 => ⟨fun _ => h, by rw [hr]; simp⟩
/-- each of rs comes up next -/
def NextL (P : Program) (md : Region.Mode) (ops : Array Oper) (Q : Exit → Act → World → Prop) (d : Nat) (S : Bool → World → Prop) (n : Nat) (l : Array Bool) (a : Act) (w : World) (rs : List Nat) : Prop :=
  ∀ i ∈ rs, wpOp P ops Q i (fun a' w' => S ((l.setIfInBounds i true).getD d true) w' ∧ OrdL P md ops Q d S n (l.setIfInBounds i true) a' w') a w
theorem NextL.nil {n : Nat} {l : Array Bool} {a : Act} {w : World} : NextL P md ops Q d S n l a w [] := fun _ h => by cases h
theorem NextL.cons {n : Nat} {l : Array Bool} {a : Act} {w : World} {i : Nat} {o : Oper} {rs : List Nat} {b : Bool} (ho : ops[i]? = some o) (hb : (l.setIfInBounds i true).getD d true = b)
    (h : ∀ K' : Act → World → Prop, Shut (∀ a w, S b w → (S b w → OrdL P md ops Q d S n (l.setIfInBounds i true) a w) → K' a w) → if Region.wanted o (yielded ops a.tmps) = true then Oper.wp P o a w K' Q else K' (a.put o.dst undef) w)
    (hs : NextL P md ops Q d S n l a w rs) : NextL P md ops Q d S n l a w (i :: rs) := fun j hj => by
  rcases List.mem_cons.1 hj with rfl | hj
  · exact wpOp_step ho (fun K' hK => h K' (fun a w hS hW => hK a w ⟨by rw [hb]; exact hS, hW hS⟩))
  · exact hs j hj
theorem OrdL.next {rs : List Nat} {n : Nat} {l : Array Bool} {a : Act} {w : World} (hr : Region.ready md ops l = rs) (hne : rs ≠ []) (h : NextL P md ops Q d S n l a w rs) : OrdL P md ops Q d S (n + 1) l a w :=
  ⟨fun h0 => absurd (hr ▸ h0) hne, hr ▸ h⟩
end
/-- the beginning -/
theorem wp_region_ordL {P : Program} {Q : Exit → Act → World → Prop} {ops : Array Oper} (d : Nat) (S : Bool → World → Prop) {id : Nat} {a : Act} {w : World} (hm : P.follows .mixedOrders = true) (hS : S false w.drew)
    (h : S false w.drew → OrdL P .any ops Q d S ops.size (Array.replicate ops.size false) a w.drew) : (Code.region id ops true).wp P Q a w :=
  wp_region_any hm (OrdL.any _ _ _ _ (h hS))
end Go.Proofs.Ytnlbgaippnjmiaa

/- A round of the Monday: walk. -/
namespace Go.Proofs.Ytnlbgaippnjmiaa
open Go Go.RowKit
theorem own_form {W : World} {base : Nat} {e : TypeId} {size : Nat} {v : Value} {n : Nat} {xs : List Value} (h : W.ownsRow base e size v n xs) (hn : 0 < n) : ∃ g k, v = .slice (some ⟨g, 0, none⟩) n k := by
  rcases h.2 with ⟨_, h0⟩ | ⟨g, cap, cur, e, _⟩
  · omega
  · exact ⟨g, cap, e⟩
theorem blk_one {W : World} {g : Nat} {t : TypeId} {cs : List Value} (h : Blk W g t cs.toArray) : ∀ j u, cs[j]? = some u → W.cell? ((⟨g, 0, none⟩ : Addr).add j) = some u := fun j u hj => by
  rw [add_lit, Nat.zero_add, h.cell, List.getElem?_toArray]; exact hj
theorem own_blk_ne {W : World} {b1 : Nat} {e t : TypeId} {s n g : Nat} {v : Value} {xs : List Value} {cs : Array Value} (h1 : W.ownsRow b1 e s v n xs) (h2 : Blk W g t cs) (he : e ≠ t) : v.ownBlock ≠ some g := by
  intro hg1
  rcases h1.2 with ⟨rfl, _⟩ | ⟨g1, c1, cur1, rfl, _, k1, _⟩
  · cases hg1
  · injection hg1 with hg1
    have e1' : g1 = g := hg1
    subst e1'
    unfold Blk at h2
    rw [k1] at h2
    injection h2 with h2
    injection h2 with _ h2
    exact he h2
theorem blk_ne_t {W : World} {b g : Nat} {t t' : TypeId} {cs cs' : Array Value} (h : Blk W b t cs) (k : Blk W g t' cs') (ht : t ≠ t') : b ≠ g := by
  rintro rfl
  have := h.symm.trans k
  injection this with this
  injection this with _ this
  exact ht this
theorem RI_same {B : Nat} {W X : World} {A : Option Addr} {n : Nat} {l : List Int} (h : RI W A n l) (ht : TypedI B W A n) (hs : W.heap.size ≤ X.heap.size) (hk : ∀ b cs, Blk W b 3 cs → X.heap[b]? = W.heap[b]?) : RI X A n l ∧ TypedI B X A n := by
  refine ⟨⟨h.1, fun hn => ?_⟩, fun hn b o e => ?_⟩
  · obtain ⟨b, o, rfl, hb, hc⟩ := Reads.lit h Nat.one_pos hn
    obtain ⟨_, cs, hbk⟩ := ht hn b o rfl
    refine ⟨_, rfl, Nat.lt_of_lt_of_le hb hs, fun j u hu => ?_⟩
    rw [add_lit]
    exact (World.cell?_of_block (a := ⟨b, o + j, none⟩) (hk b cs hbk)).trans (hc j u hu)
  · obtain ⟨hlB, cs, hbk⟩ := ht hn b o e
    exact ⟨hlB, cs, Blk.of_eq (hk b cs hbk) hbk⟩
theorem RI_setc {W : World} {A : Option Addr} {B n g i : Nat} {l : List Int} {cs : Array Value} {t : TypeId} (h : RI W A n l) (ht : TypedI B W A n) (hb : Blk W g t cs) (he : 3 ≠ t) (v : Value) : RI (W.setCell ⟨g, i, none⟩ v) A n l ∧ TypedI B (W.setCell ⟨g, i, none⟩ v) A n :=
  RI_same h ht (by simp) fun b cs' hbk => Below.heap_setCell W _ _ b (blk_ne_t hbk hb he)
theorem RI_setr {W : World} {A : Option Addr} {B n g : Nat} {l : List Int} {cs : Array Value} {t : TypeId} (h : RI W A n l) (ht : TypedI B W A n) (hb : Blk W g t cs) (he : 3 ≠ t) (q : Array Value) : RI (W.setRow g q) A n l ∧ TypedI B (W.setRow g q) A n :=
  RI_same h ht (by simp) fun b cs' hbk => setRow_other W g b q (blk_ne_t hbk hb he)
theorem RI_app {W W' : World} {A : Option Addr} {B n base size N M : Nat} {l : List Int} {e : TypeId} {z z' : Value} {xs ys : List Value} (h : RI W A n l) (ht : TypedI B W A n) (ho : W.ownsRow base e size z N xs) (he : e ≠ 3) (ap : AppG base W W' e size z z' N M xs ys) : RI W' A n l ∧ TypedI B W' A n :=
  RI_same h ht ap.grown.size fun b cs' hbk => ap.grown.block b hbk.lt fun e' => own_blk_ne ho hbk he e'.symm
theorem RndSt.app3 {w0 W W' : World} {base gc gr n m base2 size N M : Nat} {k cl : Int} {cv cu v u z z' : Value} {hc : Array Value} {l : List Horse} {l2 : List Int} {e : TypeId} {xs ys : List Value} (h : RndSt w0 W base gc gr k cl cv cu hc v n l u m l2) (G : RndG w0 base gc gr) (hb : base ≤ base2) (ho : W.ownsRow base2 e size z N xs)
    (he1 : e ≠ 66) (he2 : e ≠ 3) (hec : e ≠ 45) (her : e ≠ 85) (ap : AppG base2 W W' e size z z' N M xs ys) : RndSt w0 W' base gc gr k cl cv cu hc v n l u m l2 :=
  ⟨Later.grown h.later ap.grown (fun g hg => by have := (ho.lt g hg).1; have := G.c1; have := G.c2; omega), Nat.le_trans h.size ap.grown.size,
    Blk.of_eq (ap.grown.block gc h.blc.lt (fun e => own_blk_ne ho h.blc hec e.symm)) h.blc, Blk.of_eq (ap.grown.block gr h.blr.lt (fun e => own_blk_ne ho h.blr her e.symm)) h.blr,
    own_block h.own1 fun g hg => ap.grown.block g (h.own1.lt g hg).2 (fun e => own_own_ne ho h.own1 he1 g hg e.symm), own_block h.own2 fun g hg => ap.grown.block g (h.own2.lt g hg).2 (fun e => own_own_ne ho h.own2 he2 g hg e.symm)⟩
theorem mrange_info : (Try.prog.info? 60).map (fun i => (i.zero, i.size, i.bytes)) = some (some (.agg #[.int .i64 0, .int .i64 0]), 2, 16) := by kernel_rfl
def rngV (l : List (Int × Int)) : List Value := l.flatMap fun r => [.int .i64 r.1, .int .i64 r.2]
def RR (w : World) (A : Option Addr) (n : Nat) (l : List (Int × Int)) : Prop := Reads w w.heap.size 2 A n (rngV l)
theorem rngV_snoc (l : List (Int × Int)) (x : Int × Int) : rngV (l ++ [x]) = rngV l ++ [.int .i64 x.1, .int .i64 x.2] := by simp [rngV]
def natI (l : List Nat) : List Int := l.map fun (i : Nat) => (i : Int)
def pickH (hs : List Horse) (l : List Nat) : List Horse := l.map fun i => hs.getD i default
def minsL (X : Clo) (p : List Int) (after : Int) (n : Nat) : List (Int × Int) := (List.range n).map fun (i : Nat) => ((goodOut X p i).1 + after, (goodOut X p i).2.1 + after)
theorem minsL_succ (X : Clo) (p : List Int) (after : Int) (n : Nat) : minsL X p after (n + 1) = minsL X p after n ++ [((goodOut X p n).1 + after, (goodOut X p n).2.1 + after)] := by unfold minsL; rw [List.range_succ, List.map_append]; rfl
theorem idL_succ (n : Nat) : idL (n + 1) = idL n ++ [(n : Int)] := by unfold idL; rw [List.range_succ, List.map_append]; rfl
/-- as TypedI, of another type -/
def TypedX (B : Nat) (t : TypeId) (W : World) (A : Option Addr) (n : Nat) : Prop := 0 < n → ∀ b o, A = some ⟨b, o, none⟩ → B ≤ b ∧ ∃ cs, Blk W b t cs
theorem TypedX.of_own {B : Nat} {t : TypeId} {W : World} {base size : Nat} {A : Option Addr} {n k m : Nat} {xs : List Value} (hB : B ≤ base) (h : W.ownsRow base t size (.slice A n k) m xs) : TypedX B t W A n := fun _ b o he => by
  subst he
  rcases h.2 with ⟨h', _⟩ | ⟨g, cap, cur, h', hl, hg, _⟩
  · cases h'
  · injection h' with h1
    injection h1 with h1
    injection h1 with h1 h2
    subst h1
    exact ⟨Nat.le_trans hB hl, cur, hg⟩
def RoundPost (X : Clo) (after : Int) (nl : Nat) (w : World) (e : Ending) (w' : World) : Prop :=
  ((bestOut X).2.2 ≠ 0 ∧ e = .returned (.tuple #[.agg #[.int .i64 0, .int .i64 0, .slice none 0 0, .slice none 0 0], .bool false]) ∧ Later w w') ∨
  ((bestOut X).2.2 = 0 ∧ ∃ Ap np kp Am km, e = .returned (.tuple #[.agg #[.int .i64 after, .int .i64 (after + (bestOut X).2.1), .slice Ap np kp, .slice Am nl km], .bool true]) ∧ Later w w' ∧ RI w' Ap np (bestOut X).1 ∧ RR w' Am nl (minsL X (bestOut X).1 after nl) ∧ TypedI w.heap.size w' Ap np ∧ TypedX w.heap.size 60 w' Am nl)
theorem build_clo1 (a : Int) (W : World) : (Instr.build 45 #[(0, .int .i64 a)]).run Try.prog W = .ok (.agg #[.int .i64 a, .int .i64 0, .slice none 0 0, .slice none 0 0, .slice none 0 0]) W :=
  run_build W _ _ _ (by kernel_rfl)
attribute [local go_sem] later_alloc2 later_alloc3 later_alloc4 build_clo1
set_option maxRecDepth 100000 in
set_option maxHeartbeats 4000000 in
theorem round_calls {k close after : Int} {Aw Al : Option Addr} {nw kw nl kl : Nat} {hs : List Horse} {li : List Nat} (w : World) (hm : RM w Aw nw hs) (hl : RI w Al nl (natI li)) (hi : ∀ i ∈ li, i < nw)
    (hk : 1 ≤ k ∧ k ≤ 4) (hn : (li.length : Int) ≤ k) (ha : 0 ≤ after ∧ after ≤ 200) (hc : after ≤ close ∧ close ≤ 99) (hf : fault (rndC k (close - after) (pickH hs li)) = 0) :
    Calls Try.prog 41 #[(.agg #[.int .i64 k, .int .i64 close, .slice Aw nw kw]), .slice Al nl kl, .int .i64 after] w (RoundPost (rndC k (close - after) (pickH hs li)) after nl w) := by
  have hlen : nl = li.length := by have := hl.len; unfold natI at this; rw [List.length_map] at this; exact this
  have hn4 : nl ≤ 4 := by omega
  obtain ⟨w0, hw0⟩ : ∃ X, X = w.alloc (.cells #[.int .i64 k, .int .i64 close, .slice Aw nw kw] 51) := ⟨_, rfl⟩
  have hs0 : w0.heap.size = w.heap.size + 1 := by rw [hw0]; simp
  have k0 : Blk w0 w.heap.size 51 #[.int .i64 k, .int .i64 close, .slice Aw nw kw] := by rw [hw0]; exact Blk.new _ _ _
  have hL0 : Later w w0 := by rw [hw0]; exact later_alloc (later_refl _) _
  have b0 := fun X (hX : Later w0 X) => ((k0.later hX).cell 0).trans (show _ = some (Value.int .i64 k) from rfl)
  have b1 := fun X (hX : Later w0 X) => ((k0.later hX).cell 1).trans (show _ = some (Value.int .i64 close) from rfl)
  have b2 := fun X (hX : Later w0 X) => ((k0.later hX).cell 2).trans (show _ = some (Value.slice Aw nw kw) from rfl)
  obtain ⟨w1, hw1⟩ : ∃ X, X = w0.alloc (.cells #[.int .i64 0, .int .i64 0, .slice none 0 0, .slice none 0 0] 85) := ⟨_, rfl⟩
  obtain ⟨gr, hgr⟩ : ∃ g, g = w.heap.size + 1 := ⟨_, rfl⟩
  have r1 : Blk w1 gr 85 #[.int .i64 0, .int .i64 0, .slice none 0 0, .slice none 0 0] := by rw [hgr, ← hs0, hw1]; exact Blk.new _ _ _
  have hL1 : Later w0 w1 := by rw [hw1]; exact later_alloc (later_refl _) _
  have hs1 : w1.heap.size = w.heap.size + 2 := by rw [hw1]; simp [hs0]
  obtain ⟨w2, hw2⟩ : ∃ X, X = w1.alloc (.cells #[.int .i64 k, .int .i64 0, .slice none 0 0, .slice none 0 0, .slice none 0 0] 45) := ⟨_, rfl⟩
  obtain ⟨gc, hgc⟩ : ∃ g, g = w1.heap.size := ⟨_, rfl⟩
  have c2 : Blk w2 gc 45 #[.int .i64 k, .int .i64 0, .slice none 0 0, .slice none 0 0, .slice none 0 0] := by rw [hgc, hw2]; exact Blk.new _ _ _
  have hL2 : Later w1 w2 := by rw [hw2]; exact later_alloc (later_refl _) _
  have hs2 : w2.heap.size = w.heap.size + 3 := by rw [hw2]; simp [hs1]
  have G : RndG w0 w2.heap.size gc gr := ⟨by omega, by omega, by omega, by omega, by omega⟩
  have hst0 : RndSt w0 w2 w2.heap.size gc gr k 0 (.slice none 0 0) (.slice none 0 0) #[.int .i64 0, .int .i64 0, .slice none 0 0, .slice none 0 0] (.slice none 0 0) 0 [] (.slice none 0 0) 0 [] :=
    ⟨Later.trans hL1 hL2, Nat.le_refl _, c2, r1.later hL2, World.ownsRow_nil _ _ _ _, World.ownsRow_nil _ _ _ _⟩
  have hst := hst0.setr G 0 (.int .i64 after)
  obtain ⟨w3, hw3⟩ : ∃ X, X = w2.setCell ⟨gr, 0, none⟩ (.int .i64 after) := ⟨_, rfl⟩
  rw [← hw3] at hst
  have rc0 := (hst0.blr.cell 0).trans (show _ = some (Value.int .i64 0) from rfl)
  have rf0 := hst0.blr.frozen 0
  have hm0 := hm.later hL0
  have hl0' := hl.later hL0
  have hl0 := later_refl w0
  have b0w := b0 w1 hL1
  have Hw0 := hide hw0
  have Hw1 := hide hw1
  have Hw2 := hide hw2
  have Hw3 := hide hw3
  have Hgr := hide hgr
  have Hgc := hide hgc
  have Hlen := hide hlen
  have Hst : Hid (RndSt w0 w3 w2.heap.size gc gr k 0 (.slice none 0 0) (.slice none 0 0) #[.int .i64 after, .int .i64 0, .slice none 0 0, .slice none 0 0] (.slice none 0 0) 0 [] (.slice none 0 0) 0 []) := hst
  clear hw0 hw1 hw2 hw3 hgr hgc hs0 hs1 hs2 k0 r1 c2 hst hst0 hm hl hlen
  go_enter Try.func41, Try.ntmps41
  go_upto_region 1 with fail
  rw [← Hw0.out, ← Hw1.out, ← Hgr.out]
  go_upto_region 2 with fail
  rw [← Hw2.out, ← Hgc.out]
  go_upto_region 3 with fail
  rw [← Hw3.out]
  clear rc0 rf0 b0w
  go_wp2_with fail
  obtain ⟨base, hbase⟩ : ∃ b, w2.heap.size = b := ⟨_, rfl⟩
  rw [hbase] at G Hst
  clear hbase Hw0 Hw1 Hw2 Hw3 Hgr Hgc
  go_loopw [25] (fun v wr => ∃ (j : Nat) (Ah : Option Addr) (kh : Nat) (Ag : Option Addr) (kg : Nat), j ≤ nl ∧ v = .int .i64 j ∧ Hid (RndSt w0 wr base gc gr k 0 (.slice Ah j kh) (.slice Ag j kg) #[.int .i64 after, .int .i64 0, .slice none 0 0, .slice none 0 0] (.slice Ah j kh) j ((pickH hs li).take j) (.slice Ag j kg) j (idL j))) (fun v _ => nl - (intOf v).toNat)
  case atStart => exact ⟨0, none, 0, none, 0, Nat.zero_le _, rfl, Hst⟩
  case round =>
    clear Hst
    obtain ⟨j, Ah, kh, Ag, kg, hj, rfl, Hst⟩ := hrel
    have hL := Hst.out.later
    by_cases hlt : j < nl
    · have hi1 : (j : Int) < nl := by omega
      have hjl : j < li.length := by have := Hlen.out; omega
      obtain ⟨bl, ol, z, rfl, _, hz, hz0⟩ := hl0'.get hlt
      obtain ⟨x, hx⟩ : ∃ x, li[j]? = some x := ⟨_, List.getElem?_eq_getElem hjl⟩
      have hzx : (x : Int) = z := by unfold natI at hz; rw [List.getElem?_map, hx] at hz; injection hz
      subst hzx
      have hxn : x < nw := hi x (List.mem_of_getElem? hx)
      have hxi : (x : Int) < nw := by omega
      obtain ⟨bw, ow, y, rfl, _, hy, h0, h1, h2, h3, h4, h5⟩ := hm0.get hxn
      have htk : (pickH hs li).take (j + 1) = (pickH hs li).take j ++ [y] := by
        rw [List.take_add_one]
        unfold pickH
        rw [List.getElem?_map, hx, Option.map_some, show hs.getD x default = y by rw [List.getD_eq_getElem?_getD, hy]; rfl]
        rfl
      have Htk := hide htk
      have z0 := hz0 wr hL
      have g2 := b2 wr hL
      have y0 := h0 wr hL
      have y1 := h1 wr hL
      have y2 := h2 wr hL
      have y3 := h3 wr hL
      have y4 := h4 wr hL
      have y5 := h5 wr hL
      obtain ⟨w4, hw4⟩ : ∃ X, X = wr.alloc (.cells (womC y).toArray 70) := ⟨_, rfl⟩
      obtain ⟨gw, hgw⟩ : ∃ g, g = wr.heap.size := ⟨_, rfl⟩
      have kw4 : Blk w4 gw 70 (womC y).toArray := by rw [hw4, hgw]; exact Blk.new _ _ _
      have hL4 : Later wr w4 := by rw [hw4]; exact later_alloc (later_refl _) _
      have hst4 := Hst.out.lat hL4
      have d0 := (hst4.blr.cell 0).trans (show _ = some (Value.int .i64 after) from rfl)
      have f0 := hst4.blr.frozen 0
      have m1 := (kw4.cell 1).trans (show _ = some (Value.int .i64 0) from rfl)
      have hgne : gw ≠ gr := by have := Hst.out.size; have := G.r2; omega
      obtain ⟨w5, hw5⟩ : ∃ X, X = w4.setCell ⟨gr, 0, none⟩ (.int .i64 after) := ⟨_, rfl⟩
      have kw5 : Blk w5 gw 70 (womC y).toArray := by rw [hw5]; exact kw4.far hgne _
      have hst5 := hst4.setr G 0 (.int .i64 after)
      rw [← hw5] at hst5
      have hna : ¬ after < 0 := by omega
      have Hw4 := hide hw4
      have Hgw := hide hgw
      have Hw5 := hide hw5
      have Kw5 := hide kw5
      have Hst5 : Hid (RndSt w0 w5 base gc gr k 0 (.slice Ah j kh) (.slice Ag j kg) #[.int .i64 after, .int .i64 0, .slice none 0 0, .slice none 0 0] (.slice Ah j kh) j ((pickH hs li).take j) (.slice Ag j kg) j (idL j)) := hst5
      clear hz hz0 hx hy h0 h1 h2 h3 h4 h5 htk hw4 hgw hw5 kw4 kw5 hst4 hst5
      go_upto_region 7 with fail
      rw [show wr.alloc (.cells #[.int .i64 0, .int .i64 0, .int .i64 y.lo, .int .i64 y.hi, .int .i64 y.wet, .int .i64 y.grace] 70) = w4 from Hw4.out.symm, ← Hgw.out]
      go_upto_region 8 with fail
      rw [← Hw5.out]
      have hSl : ∀ X, Blk X gc 45 #[.int .i64 k, .int .i64 0, .slice Ah j kh, .slice Ag j kg, .slice none 0 0] → Blk X gw 70 (womC y).toArray → (X.cell? ⟨gc, 2, none⟩ = some (.slice Ah j kh) ∧ X.cell? ⟨gc, 3, none⟩ = some (.slice Ag j kg) ∧ X.cell? ⟨gw, 2, none⟩ = some (.int .i64 y.lo) ∧ X.cell? ⟨gw, 3, none⟩ = some (.int .i64 y.hi) ∧ X.cell? ⟨gw, 4, none⟩ = some (.int .i64 y.wet) ∧ X.cell? ⟨gw, 5, none⟩ = some (.int .i64 y.grace)) := fun X h1 h2 =>
        ⟨(h1.cell 2).trans rfl, (h1.cell 3).trans rfl, (h2.cell 2).trans rfl, (h2.cell 3).trans rfl, (h2.cell 4).trans rfl, (h2.cell 5).trans rfl⟩
      have hS0 := hSl w5.drew Hst5.out.blc.drew Kw5.out.drew
      have HSl := hide hSl
      clear hSl d0 f0 m1 y0 y1 y2 y3 y4 y5 g2 z0 hna Hw4 Hgw Hw5
      refine wp_region_ordL 12 (fun b X => match b with | true => True | false => (X.cell? ⟨gc, 2, none⟩ = some (.slice Ah j kh) ∧ X.cell? ⟨gc, 3, none⟩ = some (.slice Ag j kg) ∧ X.cell? ⟨gw, 2, none⟩ = some (.int .i64 y.lo) ∧ X.cell? ⟨gw, 3, none⟩ = some (.int .i64 y.hi) ∧ X.cell? ⟨gw, 4, none⟩ = some (.int .i64 y.wet) ∧ X.cell? ⟨gw, 5, none⟩ = some (.int .i64 y.grace))) (by kernel_rfl) hS0 (fun hS => ?_)
      have hS := hS0
      refine OrdL.take (i := 0) (v := ?_) rfl rfl (by kernel_rfl) (by kernel_rfl) (by kernel_rfl) (by kernel_rfl) (by kernel_rfl) (by intro _ _ _ h; first | exact h | exact absurd h.1 (by simp)) (Or.inl ⟨by rfl, ?_⟩) hS ?_; rotate_left; (focus (intro X hSX; (try dsimp only at hSX); go_simp; (try with_reducible rfl))); (try simp only [List.getElem_toArray, List.getElem_cons_zero, List.getElem_cons_succ, Act.put, List.setIfInBounds_toArray, List.set_cons_zero, List.set_cons_succ])
      refine OrdL.take (i := 1) (v := ?_) rfl rfl (by kernel_rfl) (by kernel_rfl) (by kernel_rfl) (by kernel_rfl) (by kernel_rfl) (by intro _ _ _ h; first | exact h | exact absurd h.1 (by simp)) (Or.inl ⟨by rfl, ?_⟩) hS ?_; rotate_left; (focus (intro X hSX; (try dsimp only at hSX); go_simp; (try with_reducible rfl))); (try simp only [List.getElem_toArray, List.getElem_cons_zero, List.getElem_cons_succ, Act.put, List.setIfInBounds_toArray, List.set_cons_zero, List.set_cons_succ])
      refine OrdL.take (i := 2) (v := ?_) rfl rfl (by kernel_rfl) (by kernel_rfl) (by kernel_rfl) (by kernel_rfl) (by kernel_rfl) (by intro _ _ _ h; first | exact h | exact absurd h.1 (by simp)) (Or.inl ⟨by rfl, ?_⟩) hS ?_; rotate_left; (focus (intro X hSX; (try dsimp only at hSX); go_simp; (try with_reducible rfl))); (try simp only [List.getElem_toArray, List.getElem_cons_zero, List.getElem_cons_succ, Act.put, List.setIfInBounds_toArray, List.set_cons_zero, List.set_cons_succ])
      refine OrdL.take (i := 3) (v := ?_) rfl rfl (by kernel_rfl) (by kernel_rfl) (by kernel_rfl) (by kernel_rfl) (by kernel_rfl) (by intro _ _ _ h; first | exact h | exact absurd h.1 (by simp)) (Or.inl ⟨by rfl, ?_⟩) hS ?_; rotate_left; (focus (intro X hSX; (try dsimp only at hSX); go_simp; (try with_reducible rfl))); (try simp only [List.getElem_toArray, List.getElem_cons_zero, List.getElem_cons_succ, Act.put, List.setIfInBounds_toArray, List.set_cons_zero, List.set_cons_succ])
      refine OrdL.take (i := 6) (v := ?_) rfl rfl (by kernel_rfl) (by kernel_rfl) (by kernel_rfl) (by kernel_rfl) (by kernel_rfl) (by intro _ _ _ h; first | exact h | exact absurd h.1 (by simp)) (Or.inl ⟨by rfl, ?_⟩) hS ?_; rotate_left; (focus (intro X hSX; (try dsimp only at hSX); go_simp; (try with_reducible rfl))); (try simp only [List.getElem_toArray, List.getElem_cons_zero, List.getElem_cons_succ, Act.put, List.setIfInBounds_toArray, List.set_cons_zero, List.set_cons_succ])
      refine OrdL.take (i := 7) (v := ?_) rfl rfl (by kernel_rfl) (by kernel_rfl) (by kernel_rfl) (by kernel_rfl) (by kernel_rfl) (by intro _ _ _ h; first | exact h | exact absurd h.1 (by simp)) (Or.inl ⟨by rfl, ?_⟩) hS ?_; rotate_left; (focus (intro X hSX; (try dsimp only at hSX); go_simp; (try with_reducible rfl))); (try simp only [List.getElem_toArray, List.getElem_cons_zero, List.getElem_cons_succ, Act.put, List.setIfInBounds_toArray, List.set_cons_zero, List.set_cons_succ])
      refine OrdL.takeP (i := 8) (b := false) (v := ?_) rfl rfl (by kernel_rfl) (by kernel_rfl) (by kernel_rfl) (by kernel_rfl) (by intro _ _ _ h; first | exact h | exact absurd h.1 (by simp)) (Or.inl ⟨by rfl, ?_⟩) hS ?_; rotate_left; (focus (intro X hSX; clear hSX; go_simp; (try with_reducible rfl))); (try simp only [List.getElem_toArray, List.getElem_cons_zero, List.getElem_cons_succ, Act.put, List.setIfInBounds_toArray, List.set_cons_zero, List.set_cons_succ])
      refine OrdL.next (rs := [4, 9]) (by kernel_rfl) (by simp) ?_
      refine NextL.cons (b := false) rfl (by kernel_rfl) (fun K hK => ?_) (NextL.cons (b := false) rfl (by kernel_rfl) (fun K hK => ?_) NextL.nil)
      · go_simp
        have L1 : Later w5 (w5.alloc (.cells y.cells.toArray 66)).drew := later_drew (later_alloc (later_refl _) _)
        refine hK.out _ _ (HSl.out _ (Hst5.out.blc.later L1) (Kw5.out.later L1)) (fun hS1 => ?_)
        clear hK K; (try simp only [Act.put, List.setIfInBounds_toArray, List.set_cons_zero, List.set_cons_succ])
        obtain ⟨x1, hx1⟩ : ∃ X, X = (w5.alloc (.cells y.cells.toArray 66)).drew := ⟨_, rfl⟩
        obtain ⟨gh, hgh⟩ : ∃ g, g = w5.heap.size := ⟨_, rfl⟩
        have bh1 : Blk x1 gh 66 y.cells.toArray := by rw [hx1, hgh]; exact (Blk.new _ _ _).drew
        rw [← hx1] at L1
        rw [show (w5.alloc (.cells #[.int .i64 y.lo, .int .i64 y.hi, .int .i64 y.wet, .int .i64 y.grace] 66)).drew = x1 from hx1.symm, ← hgh]
        have st1 := Hst5.out.lat L1
        have kw1 := Kw5.out.later L1
        clear hx1 hgh hS1
        refine OrdL.next (rs := [5, 9]) (by kernel_rfl) (by simp) ?_
        refine NextL.cons (b := false) rfl (by kernel_rfl) (fun K hK => ?_) (NextL.cons (b := false) rfl (by kernel_rfl) (fun K hK => ?_) NextL.nil)
        · skip
          refine appG_wp base (.tmp 43) (.tmp 46) 42 rfl 66 (.agg #[.int .i64 0, .int .i64 0, .int .i64 0, .int .i64 0]) 4 32 Try.underlying42 horse_info rfl (by omega) (.slice Ah j kh) j (horsesV ((pickH hs li).take j)) rfl st1.size st1.own1 ⟨gh, 0, none⟩ 1 1 y.cells rfl rfl (blk_one bh1) (by simp [Horse.cells, Value.oneCell']) (by omega) (by omega) (by omega) ?_
          intro v2 x2 hap
          have hbeside := fun (g : Nat) (t : TypeId) (cs : Array Value) (hb : Blk x1 g t cs) (ht : 66 ≠ t) => Blk.of_eq (hap.grown.block g hb.lt (fun e => own_blk_ne st1.own1 hb ht e.symm)) hb
          have st2 := st1.app1 G hap
          have kw2 := hbeside _ _ _ kw1 (by decide)
          obtain ⟨g2, k2, rfl⟩ := own_form st2.own1 (by omega)
          refine hK.out _ _ (HSl.out _ st2.blc kw2) (fun hSb => ?_)
          clear hK K; (try simp only [Act.put, List.setIfInBounds_toArray, List.set_cons_zero, List.set_cons_succ])
          refine OrdL.takeP (i := 11) (b := false) (v := ?_) rfl rfl (by kernel_rfl) (by kernel_rfl) (by kernel_rfl) (by kernel_rfl) (by intro _ _ _ h; first | exact h | exact absurd h.1 (by simp)) (Or.inl ⟨by rfl, ?_⟩) hSb ?_; rotate_left; (focus (intro X hSX; clear hSX; go_simp; (try with_reducible rfl))); (try simp only [List.getElem_toArray, List.getElem_cons_zero, List.getElem_cons_succ, Act.put, List.setIfInBounds_toArray, List.set_cons_zero, List.set_cons_succ])
          refine OrdL.next (rs := [9]) (by kernel_rfl) (by simp) ?_; refine NextL.cons (b := false) rfl (by kernel_rfl) (fun K hK => ?_) NextL.nil
          go_simp
          have L3 : Later x2 (x2.alloc (.cells #[.int .i64 (j : Int)] 3)) := later_alloc (later_refl _) _
          refine hK.out _ _ (HSl.out _ (st2.blc.later L3) (kw2.later L3)) (fun _ => ?_)
          clear hK K; (try simp only [Act.put, List.setIfInBounds_toArray, List.set_cons_zero, List.set_cons_succ])
          have bi3 : Blk (x2.alloc (.cells #[.int .i64 (j : Int)] 3)) x2.heap.size 3 [Value.int .i64 (j : Int)].toArray := Blk.new _ _ _
          have st3 := st2.lat L3
          have kw3 := kw2.later L3
          obtain ⟨gi, hgi⟩ : ∃ g, g = x2.heap.size := ⟨_, rfl⟩
          obtain ⟨x3, hx3⟩ : ∃ X, X = x2.alloc (.cells #[.int .i64 (j : Int)] 3) := ⟨_, rfl⟩
          rw [← hx3, ← hgi] at bi3
          rw [← hx3] at st3 kw3
          rw [← hx3, ← hgi]
          clear hx3 hgi hap hbeside L3 st1 st2 kw1 kw2 bh1 L1
          -- at the world x3
          refine OrdL.next (rs := [10]) (by kernel_rfl) (by simp) ?_; refine NextL.cons (b := false) rfl (by kernel_rfl) (fun K hK => ?_) NextL.nil
          refine appG_wp base (.tmp 49) (.tmp 51) 23 rfl 3 (.int .i64 0) 1 8 Try.underlying23 int_info rfl (by omega) (.slice Ag j kg) j (ints (idL j)) rfl st3.size st3.own2 ⟨gi, 0, none⟩ 1 1 [.int .i64 (j : Int)] rfl rfl (blk_one bi3) (by simp [Value.oneCell']) (by omega) (by omega) (by omega) ?_
          intro u4 x4 hap
          have st4 := st3.app2 G hap
          have kw4 := Blk.of_eq (hap.grown.block gw kw3.lt (fun e => own_blk_ne st3.own2 kw3 (by decide) e.symm)) kw3
          obtain ⟨g4, k4, rfl⟩ := own_form st4.own2 (by omega)
          refine hK.out _ _ (HSl.out _ st4.blc kw4) (fun _ => ?_)
          clear hK K; (try simp only [Act.put, List.setIfInBounds_toArray, List.set_cons_zero, List.set_cons_succ])
          have c2 := (st4.blc.cell 2).trans (show _ = some (Value.slice Ah j kh) from rfl)
          have f2 := st4.blc.frozen 2
          refine OrdL.next (rs := [12]) (by kernel_rfl) (by simp) ?_; refine NextL.cons (b := true) rfl (by kernel_rfl) (fun K hK => ?_) NextL.nil
          go_simp
          refine hK.out _ _ trivial (fun _ => ?_)
          clear hK K; (try simp only [Act.put, List.setIfInBounds_toArray, List.set_cons_zero, List.set_cons_succ])
          have st5 := (st4.setc G (.slice (some ⟨g2, 0, none⟩) (j + 1) k2)).1
          obtain ⟨x5, hx5⟩ : ∃ X, X = x4.setCell ⟨gc, 2, none⟩ (.slice (some ⟨g2, 0, none⟩) (j + 1) k2) := ⟨_, rfl⟩
          rw [← hx5] at st5 ⊢
          clear hx5 c2 f2
          refine OrdL.takeP (i := 13) (b := true) (v := ?_) rfl rfl (by kernel_rfl) (by kernel_rfl) (by kernel_rfl) (by kernel_rfl) (by intro _ _ _ h; first | exact h | exact absurd h.1 (by simp)) (Or.inl ⟨by rfl, ?_⟩) trivial ?_; rotate_left; (focus (intro X hSX; clear hSX; go_simp; (try with_reducible rfl))); (try simp only [List.getElem_toArray, List.getElem_cons_zero, List.getElem_cons_succ, Act.put, List.setIfInBounds_toArray, List.set_cons_zero, List.set_cons_succ])
          have c3 := (st5.blc.cell 3).trans (show _ = some (Value.slice Ag j kg) from rfl)
          have f3 := st5.blc.frozen 3
          refine OrdL.next (rs := [14]) (by kernel_rfl) (by simp) ?_; refine NextL.cons (b := true) rfl (by kernel_rfl) (fun K hK => ?_) NextL.nil
          go_simp
          refine hK.out _ _ trivial (fun _ => ?_)
          clear hK K; (try simp only [Act.put, List.setIfInBounds_toArray, List.set_cons_zero, List.set_cons_succ])
          have st6 := (st5.setc G (.slice (some ⟨g4, 0, none⟩) (j + 1) k4)).2
          have Hst6 := hide st6
          refine OrdL.done (by kernel_rfl) ?_ _
          clear st6 st5 st4 kw4 hap c3 f3
          go_wp2_with fail
          go_roundw
          case rel => exact ⟨j + 1, _, _, _, _, by omega, by go_num, by rw [Htk.out, idL_succ]; exact Hst6⟩
          case measure => simp [intOf]; omega
        · go_simp
          have L2 : Later x1 (x1.alloc (.cells #[.int .i64 (j : Int)] 3)) := later_alloc (later_refl _) _
          refine hK.out _ _ (HSl.out _ (st1.blc.later L2) (kw1.later L2)) (fun _ => ?_)
          clear hK K; (try simp only [Act.put, List.setIfInBounds_toArray, List.set_cons_zero, List.set_cons_succ])
          have bi2 : Blk (x1.alloc (.cells #[.int .i64 (j : Int)] 3)) x1.heap.size 3 [Value.int .i64 (j : Int)].toArray := Blk.new _ _ _
          have st2 := st1.lat L2
          have kw2 := kw1.later L2
          have bh2 := bh1.later L2
          obtain ⟨gi, hgi⟩ : ∃ g, g = x1.heap.size := ⟨_, rfl⟩
          obtain ⟨x2, hx2⟩ : ∃ X, X = x1.alloc (.cells #[.int .i64 (j : Int)] 3) := ⟨_, rfl⟩
          rw [← hx2, ← hgi] at bi2
          rw [← hx2] at st2 kw2 bh2
          rw [← hx2, ← hgi]
          clear hx2 hgi
          refine OrdL.next (rs := [5]) (by kernel_rfl) (by simp) ?_; refine NextL.cons (b := false) rfl (by kernel_rfl) (fun K hK => ?_) NextL.nil
          refine appG_wp base (.tmp 43) (.tmp 46) 42 rfl 66 (.agg #[.int .i64 0, .int .i64 0, .int .i64 0, .int .i64 0]) 4 32 Try.underlying42 horse_info rfl (by omega) (.slice Ah j kh) j (horsesV ((pickH hs li).take j)) rfl st2.size st2.own1 ⟨gh, 0, none⟩ 1 1 y.cells rfl rfl (blk_one bh2) (by simp [Horse.cells, Value.oneCell']) (by omega) (by omega) (by omega) ?_
          intro v2 x3 hap
          have hbeside := fun (g : Nat) (t : TypeId) (cs : Array Value) (hb : Blk x2 g t cs) (ht : 66 ≠ t) => Blk.of_eq (hap.grown.block g hb.lt (fun e => own_blk_ne st2.own1 hb ht e.symm)) hb
          have st3 := st2.app1 G hap
          have kw3 := hbeside _ _ _ kw2 (by decide)
          obtain ⟨g2, k2, rfl⟩ := own_form st3.own1 (by omega)
          refine hK.out _ _ (HSl.out _ st3.blc kw3) (fun hSb => ?_)
          clear hK K; (try simp only [Act.put, List.setIfInBounds_toArray, List.set_cons_zero, List.set_cons_succ])
          have bi3 := hbeside _ _ _ bi2 (by decide)
          refine OrdL.takeP (i := 11) (b := false) (v := ?_) rfl rfl (by kernel_rfl) (by kernel_rfl) (by kernel_rfl) (by kernel_rfl) (by intro _ _ _ h; first | exact h | exact absurd h.1 (by simp)) (Or.inl ⟨by rfl, ?_⟩) hSb ?_; rotate_left; (focus (intro X hSX; clear hSX; go_simp; (try with_reducible rfl))); (try simp only [List.getElem_toArray, List.getElem_cons_zero, List.getElem_cons_succ, Act.put, List.setIfInBounds_toArray, List.set_cons_zero, List.set_cons_succ])
          clear hap hbeside L2 st1 st2 kw1 kw2 bh1 bh2 L1 bi2
          -- at the world x3
          refine OrdL.next (rs := [10]) (by kernel_rfl) (by simp) ?_; refine NextL.cons (b := false) rfl (by kernel_rfl) (fun K hK => ?_) NextL.nil
          refine appG_wp base (.tmp 49) (.tmp 51) 23 rfl 3 (.int .i64 0) 1 8 Try.underlying23 int_info rfl (by omega) (.slice Ag j kg) j (ints (idL j)) rfl st3.size st3.own2 ⟨gi, 0, none⟩ 1 1 [.int .i64 (j : Int)] rfl rfl (blk_one bi3) (by simp [Value.oneCell']) (by omega) (by omega) (by omega) ?_
          intro u4 x4 hap
          have st4 := st3.app2 G hap
          have kw4 := Blk.of_eq (hap.grown.block gw kw3.lt (fun e => own_blk_ne st3.own2 kw3 (by decide) e.symm)) kw3
          obtain ⟨g4, k4, rfl⟩ := own_form st4.own2 (by omega)
          refine hK.out _ _ (HSl.out _ st4.blc kw4) (fun _ => ?_)
          clear hK K; (try simp only [Act.put, List.setIfInBounds_toArray, List.set_cons_zero, List.set_cons_succ])
          have c2 := (st4.blc.cell 2).trans (show _ = some (Value.slice Ah j kh) from rfl)
          have f2 := st4.blc.frozen 2
          refine OrdL.next (rs := [12]) (by kernel_rfl) (by simp) ?_; refine NextL.cons (b := true) rfl (by kernel_rfl) (fun K hK => ?_) NextL.nil
          go_simp
          refine hK.out _ _ trivial (fun _ => ?_)
          clear hK K; (try simp only [Act.put, List.setIfInBounds_toArray, List.set_cons_zero, List.set_cons_succ])
          have st5 := (st4.setc G (.slice (some ⟨g2, 0, none⟩) (j + 1) k2)).1
          obtain ⟨x5, hx5⟩ : ∃ X, X = x4.setCell ⟨gc, 2, none⟩ (.slice (some ⟨g2, 0, none⟩) (j + 1) k2) := ⟨_, rfl⟩
          rw [← hx5] at st5 ⊢
          clear hx5 c2 f2
          refine OrdL.takeP (i := 13) (b := true) (v := ?_) rfl rfl (by kernel_rfl) (by kernel_rfl) (by kernel_rfl) (by kernel_rfl) (by intro _ _ _ h; first | exact h | exact absurd h.1 (by simp)) (Or.inl ⟨by rfl, ?_⟩) trivial ?_; rotate_left; (focus (intro X hSX; clear hSX; go_simp; (try with_reducible rfl))); (try simp only [List.getElem_toArray, List.getElem_cons_zero, List.getElem_cons_succ, Act.put, List.setIfInBounds_toArray, List.set_cons_zero, List.set_cons_succ])
          have c3 := (st5.blc.cell 3).trans (show _ = some (Value.slice Ag j kg) from rfl)
          have f3 := st5.blc.frozen 3
          refine OrdL.next (rs := [14]) (by kernel_rfl) (by simp) ?_; refine NextL.cons (b := true) rfl (by kernel_rfl) (fun K hK => ?_) NextL.nil
          go_simp
          refine hK.out _ _ trivial (fun _ => ?_)
          clear hK K; (try simp only [Act.put, List.setIfInBounds_toArray, List.set_cons_zero, List.set_cons_succ])
          have st6 := (st5.setc G (.slice (some ⟨g4, 0, none⟩) (j + 1) k4)).2
          have Hst6 := hide st6
          refine OrdL.done (by kernel_rfl) ?_ _
          clear st6 st5 st4 kw4 hap c3 f3
          go_wp2_with fail
          go_roundw
          case rel => exact ⟨j + 1, _, _, _, _, by omega, by go_num, by rw [Htk.out, idL_succ]; exact Hst6⟩
          case measure => simp [intOf]; omega
      · go_simp
        have L1 : Later w5 (w5.alloc (.cells #[.int .i64 (j : Int)] 3)).drew := later_drew (later_alloc (later_refl _) _)
        refine hK.out _ _ (HSl.out _ (Hst5.out.blc.later L1) (Kw5.out.later L1)) (fun hS1 => ?_)
        clear hK K; (try simp only [Act.put, List.setIfInBounds_toArray, List.set_cons_zero, List.set_cons_succ])
        obtain ⟨x1, hx1⟩ : ∃ X, X = (w5.alloc (.cells #[.int .i64 (j : Int)] 3)).drew := ⟨_, rfl⟩
        obtain ⟨gi, hgi⟩ : ∃ g, g = w5.heap.size := ⟨_, rfl⟩
        have bi1 : Blk x1 gi 3 [Value.int .i64 (j : Int)].toArray := by rw [hx1, hgi]; exact (Blk.new _ _ _).drew
        rw [← hx1] at L1
        rw [← hx1, ← hgi]
        have st1 := Hst5.out.lat L1
        have kw1 := Kw5.out.later L1
        clear hx1 hgi hS1
        refine OrdL.next (rs := [4]) (by kernel_rfl) (by simp) ?_; refine NextL.cons (b := false) rfl (by kernel_rfl) (fun K hK => ?_) NextL.nil
        go_simp
        have L2 : Later x1 (x1.alloc (.cells y.cells.toArray 66)) := later_alloc (later_refl _) _
        refine hK.out _ _ (HSl.out _ (st1.blc.later L2) (kw1.later L2)) (fun _ => ?_)
        clear hK K; (try simp only [Act.put, List.setIfInBounds_toArray, List.set_cons_zero, List.set_cons_succ])
        have bh2 : Blk (x1.alloc (.cells y.cells.toArray 66)) x1.heap.size 66 y.cells.toArray := Blk.new _ _ _
        have st2 := st1.lat L2
        have kw2 := kw1.later L2
        have bi2 := bi1.later L2
        obtain ⟨gh, hgh⟩ : ∃ g, g = x1.heap.size := ⟨_, rfl⟩
        obtain ⟨x2, hx2⟩ : ∃ X, X = x1.alloc (.cells y.cells.toArray 66) := ⟨_, rfl⟩
        rw [← hx2, ← hgh] at bh2
        rw [← hx2] at st2 kw2 bi2
        rw [show x1.alloc (.cells #[.int .i64 y.lo, .int .i64 y.hi, .int .i64 y.wet, .int .i64 y.grace] 66) = x2 from hx2.symm, ← hgh]
        clear hx2 hgh
        refine OrdL.next (rs := [5]) (by kernel_rfl) (by simp) ?_; refine NextL.cons (b := false) rfl (by kernel_rfl) (fun K hK => ?_) NextL.nil
        refine appG_wp base (.tmp 43) (.tmp 46) 42 rfl 66 (.agg #[.int .i64 0, .int .i64 0, .int .i64 0, .int .i64 0]) 4 32 Try.underlying42 horse_info rfl (by omega) (.slice Ah j kh) j (horsesV ((pickH hs li).take j)) rfl st2.size st2.own1 ⟨gh, 0, none⟩ 1 1 y.cells rfl rfl (blk_one bh2) (by simp [Horse.cells, Value.oneCell']) (by omega) (by omega) (by omega) ?_
        intro v2 x3 hap
        have hbeside := fun (g : Nat) (t : TypeId) (cs : Array Value) (hb : Blk x2 g t cs) (ht : 66 ≠ t) => Blk.of_eq (hap.grown.block g hb.lt (fun e => own_blk_ne st2.own1 hb ht e.symm)) hb
        have st3 := st2.app1 G hap
        have kw3 := hbeside _ _ _ kw2 (by decide)
        obtain ⟨g2, k2, rfl⟩ := own_form st3.own1 (by omega)
        refine hK.out _ _ (HSl.out _ st3.blc kw3) (fun hSb => ?_)
        clear hK K; (try simp only [Act.put, List.setIfInBounds_toArray, List.set_cons_zero, List.set_cons_succ])
        have bi3 := hbeside _ _ _ bi2 (by decide)
        refine OrdL.takeP (i := 11) (b := false) (v := ?_) rfl rfl (by kernel_rfl) (by kernel_rfl) (by kernel_rfl) (by kernel_rfl) (by intro _ _ _ h; first | exact h | exact absurd h.1 (by simp)) (Or.inl ⟨by rfl, ?_⟩) hSb ?_; rotate_left; (focus (intro X hSX; clear hSX; go_simp; (try with_reducible rfl))); (try simp only [List.getElem_toArray, List.getElem_cons_zero, List.getElem_cons_succ, Act.put, List.setIfInBounds_toArray, List.set_cons_zero, List.set_cons_succ])
        clear hap hbeside L2 st1 st2 kw1 kw2 bi1 bi2 bh2 L1
        -- at the world x3
        refine OrdL.next (rs := [10]) (by kernel_rfl) (by simp) ?_; refine NextL.cons (b := false) rfl (by kernel_rfl) (fun K hK => ?_) NextL.nil
        refine appG_wp base (.tmp 49) (.tmp 51) 23 rfl 3 (.int .i64 0) 1 8 Try.underlying23 int_info rfl (by omega) (.slice Ag j kg) j (ints (idL j)) rfl st3.size st3.own2 ⟨gi, 0, none⟩ 1 1 [.int .i64 (j : Int)] rfl rfl (blk_one bi3) (by simp [Value.oneCell']) (by omega) (by omega) (by omega) ?_
        intro u4 x4 hap
        have st4 := st3.app2 G hap
        have kw4 := Blk.of_eq (hap.grown.block gw kw3.lt (fun e => own_blk_ne st3.own2 kw3 (by decide) e.symm)) kw3
        obtain ⟨g4, k4, rfl⟩ := own_form st4.own2 (by omega)
        refine hK.out _ _ (HSl.out _ st4.blc kw4) (fun _ => ?_)
        clear hK K; (try simp only [Act.put, List.setIfInBounds_toArray, List.set_cons_zero, List.set_cons_succ])
        have c2 := (st4.blc.cell 2).trans (show _ = some (Value.slice Ah j kh) from rfl)
        have f2 := st4.blc.frozen 2
        refine OrdL.next (rs := [12]) (by kernel_rfl) (by simp) ?_; refine NextL.cons (b := true) rfl (by kernel_rfl) (fun K hK => ?_) NextL.nil
        go_simp
        refine hK.out _ _ trivial (fun _ => ?_)
        clear hK K; (try simp only [Act.put, List.setIfInBounds_toArray, List.set_cons_zero, List.set_cons_succ])
        have st5 := (st4.setc G (.slice (some ⟨g2, 0, none⟩) (j + 1) k2)).1
        obtain ⟨x5, hx5⟩ : ∃ X, X = x4.setCell ⟨gc, 2, none⟩ (.slice (some ⟨g2, 0, none⟩) (j + 1) k2) := ⟨_, rfl⟩
        rw [← hx5] at st5 ⊢
        clear hx5 c2 f2
        refine OrdL.takeP (i := 13) (b := true) (v := ?_) rfl rfl (by kernel_rfl) (by kernel_rfl) (by kernel_rfl) (by kernel_rfl) (by intro _ _ _ h; first | exact h | exact absurd h.1 (by simp)) (Or.inl ⟨by rfl, ?_⟩) trivial ?_; rotate_left; (focus (intro X hSX; clear hSX; go_simp; (try with_reducible rfl))); (try simp only [List.getElem_toArray, List.getElem_cons_zero, List.getElem_cons_succ, Act.put, List.setIfInBounds_toArray, List.set_cons_zero, List.set_cons_succ])
        have c3 := (st5.blc.cell 3).trans (show _ = some (Value.slice Ag j kg) from rfl)
        have f3 := st5.blc.frozen 3
        refine OrdL.next (rs := [14]) (by kernel_rfl) (by simp) ?_; refine NextL.cons (b := true) rfl (by kernel_rfl) (fun K hK => ?_) NextL.nil
        go_simp
        refine hK.out _ _ trivial (fun _ => ?_)
        clear hK K; (try simp only [Act.put, List.setIfInBounds_toArray, List.set_cons_zero, List.set_cons_succ])
        have st6 := (st5.setc G (.slice (some ⟨g4, 0, none⟩) (j + 1) k4)).2
        have Hst6 := hide st6
        refine OrdL.done (by kernel_rfl) ?_ _
        clear st6 st5 st4 kw4 hap c3 f3
        go_wp2_with fail
        go_roundw
        case rel => exact ⟨j + 1, _, _, _, _, by omega, by go_num, by rw [Htk.out, idL_succ]; exact Hst6⟩
        case measure => simp [intOf]; omega
    · have hjn : nl = j := by omega
      subst hjn
      have hst := Hst.out
      have p0 := (hst.blr.cell 0).trans (show _ = some (Value.int .i64 after) from rfl)
      have q1 := (hst.blc.cell 1).trans (show _ = some (Value.int .i64 0) from rfl)
      have qf := hst.blc.frozen 1
      have g1 := b1 wr hL
      have hst6 := hst.setcl G (close - after)
      obtain ⟨w6, hw6⟩ : ∃ X, X = wr.setCell ⟨gc, 1, none⟩ (.int .i64 (close - after)) := ⟨_, rfl⟩
      rw [← hw6] at hst6
      have hpl : (pickH hs li).length = nl := by unfold pickH; rw [List.length_map]; exact Hlen.out.symm
      rw [List.take_of_length_le (by omega)] at hst6
      have Hst6 := hide hst6
      have Hw6 := hide hw6
      have Hpl := hide hpl
      clear hst hst6 hw6 hpl Hst
      go_upto_region 11 with fail
      rw [← Hw6.out]
      have hL6 := Hst6.out.later
      have q2 := (Hst6.out.blc.cell 1).trans (show _ = some (Value.int .i64 (close - after)) from rfl)
      have g0 := b0 w6 hL6
      have hnk : ¬ k < (nl : Int) := by have := Hlen.out; omega
      have hca : ¬ close - after < 0 := by omega
      clear p0 q1 qf g1 Hw6
      go_upto_region 13 with fail
      obtain ⟨X, hX⟩ : ∃ X, X = rndC k (close - after) (pickH hs li) := ⟨_, rfl⟩
      rw [← hX]
      have hlk : X.looks = [] := by rw [hX]; rfl
      have hfX : fault X = 0 := by rw [hX]; exact hf
      have hbest : Calls Try.prog 7 #[.agg #[.int .i64 k, .int .i64 (close - after), .slice Ah nl kh, .slice Ag nl kg, .slice none 0 0]] w6 (BestPost X w6) := by
        rw [hX]
        exact BestP_calls (c := rndC k (close - after) (pickH hs li)) w6 ⟨Reads.of_own Hst6.out.own1, by show Reads w6 w6.heap.size 1 Ag nl (ints (idL (pickH hs li).length)); rw [Hpl.out]; exact Reads.of_own Hst6.out.own2, Reads.none_⟩ (by show i64 k; unfold i64; omega) (by omega) (by omega) (by omega) (own_cap Hst6.out.own2)
      have y0 := (Hst6.out.blc.cell 0).trans (show _ = some (Value.int .i64 k) from rfl)
      have y2 := (Hst6.out.blc.cell 2).trans (show _ = some (Value.slice Ah nl kh) from rfl)
      have y3 := (Hst6.out.blc.cell 3).trans (show _ = some (Value.slice Ag nl kg) from rfl)
      have y4 := (Hst6.out.blc.cell 4).trans (show _ = some (Value.slice none 0 0) from rfl)
      have HX := hide hX
      have Hbest := hide hbest
      have HfX := hide hfX
      have Hlk := hide hlk
      clear hX hbest hfX hlk hnk hca g0
      go_wp2_with fail
      refine Hbest.out.mono ?_
      rintro e w7 ⟨Ap, np, kp, rfl, hL7, hri, hcap, hty⟩
      have hst7 := Hst6.out.lat hL7
      rcases best_full HfX.out Hlk.out with hbo | ⟨p, n, hbo, hpl, hn0, hn99, hgo⟩
      · have hrow := hst7.blr.row #[.int .i64 0, .int .i64 0, .slice none 0 0, .slice none 0 0]
        have z0 := (hrow.cell 0).trans (show _ = some (Value.int .i64 0) from rfl)
        have z1 := (hrow.cell 1).trans (show _ = some (Value.int .i64 0) from rfl)
        have z2 := (hrow.cell 2).trans (show _ = some (Value.slice none 0 0) from rfl)
        have z3 := (hrow.cell 3).trans (show _ = some (Value.slice none 0 0) from rfl)
        have Hbo := hide hbo
        have Hst7 := hide hst7
        rw [hbo]
        clear hri hst7 hty hcap y0 y2 y3 y4 q2 hbo hrow
        go_wp2_with (refine wpList_store_row rfl _ _ _ rfl gr _ rfl rfl _ _ Hst7.out.blr (by kernel_rfl) rfl (by simp [Value.oneCell']) ?_)
        refine bodyPost_ret (v := .tuple #[.agg #[.int .i64 0, .int .i64 0, .slice none 0 0, .slice none 0 0], .bool false]) (by simp [results, Try.results41, go_sem, z0, z1, z2, z3]) rfl (.inl ⟨by rw [← HX.out, Hbo.out]; decide, rfl, ?_⟩)
        exact later_setRow (Later.trans hL0 Hst7.out.later) (Nat.le_trans hL0.size G.r1) _
      · have f0 := (hst7.blr.cell 0).trans (show _ = some (Value.int .i64 after) from rfl)
        have f1 := (hst7.blr.cell 1).trans (show _ = some (Value.int .i64 0) from rfl)
        have f2 := (hst7.blr.cell 2).trans (show _ = some (Value.slice none 0 0) from rfl)
        have e1 := hst7.blr.frozen 1
        have e2 := hst7.blr.frozen 2
        have hst8 := (hst7.setr G 1 (.int .i64 (after + n))).setr G 2 (.slice Ap np kp)
        obtain ⟨w8, hw8⟩ : ∃ X, X = (w7.setCell ⟨gr, 1, none⟩ (.int .i64 (after + n))).setCell ⟨gr, 2, none⟩ (.slice Ap np kp) := ⟨_, rfl⟩
        rw [← hw8] at hst8
        have Hst8 : Hid (RndSt w0 w8 base gc gr k (close - after) (.slice Ah nl kh) (.slice Ag nl kg) #[.int .i64 after, .int .i64 (after + n), .slice Ap np kp, .slice none 0 0] (.slice Ah nl kh) nl (pickH hs li) (.slice Ag nl kg) nl (idL nl)) := hst8
        have Hst7 := hide hst7
        have Hbo := hide hbo
        have Hri := hide hri
        have Hpl2 := hide hpl
        have Hgo := hide hgo
        have Hw8 := hide hw8
        have Hty := hide hty
        rw [hbo]
        clear hri hst7 hst8 hty y0 y2 y3 y4 q2 hbo hpl hgo hw8
        go_upto_region 17 with fail
        rw [← Hw8.out]
        clear f0 f1 f2 e1 e2
        go_wp2_with fail
        obtain ⟨base2, hb2⟩ : ∃ b, w8.heap.size = b := ⟨_, rfl⟩
        have hbb : base ≤ base2 := by rw [← hb2]; exact Hst8.out.size
        have hri8 : RI w8 Ap np p ∧ TypedI w6.heap.size w8 Ap np := by
          have h1 := RI_setc (i := 1) Hri.out Hty.out Hst7.out.blr (by decide) (.int .i64 (after + n))
          have h2 := RI_setc (i := 2) h1.1 h1.2 (Hst7.out.setr G 1 (.int .i64 (after + n))).blr (by decide) (.slice Ap np kp)
          rw [← Hw8.out] at h2
          have h3 := h2.1
          rw [Hbo.out] at h3
          exact ⟨h3, h2.2⟩
        have Hri8 := hide hri8
        have Hb2 := hide hb2
        clear hri8 hb2 Hw8 Hri Hty Hst7
        go_loopw [91] (fun v wr => ∃ (i : Nat) (Am : Option Addr) (km : Nat), i ≤ nl ∧ v = .int .i64 i ∧ Hid (base2 ≤ wr.heap.size) ∧ Hid (RndSt w0 wr base gc gr k (close - after) (.slice Ah nl kh) (.slice Ag nl kg) #[.int .i64 after, .int .i64 (after + n), .slice Ap np kp, .slice Am i km] (.slice Ah nl kh) nl (pickH hs li) (.slice Ag nl kg) nl (idL nl)) ∧ Hid (RI wr Ap np p ∧ TypedI w6.heap.size wr Ap np) ∧ Hid (wr.ownsRow base2 60 2 (.slice Am i km) i (rngV (minsL X p after i)))) (fun v _ => nl - (intOf v).toNat)
        case atStart => exact ⟨0, none, 0, Nat.zero_le _, rfl, Nat.le_of_eq Hb2.out.symm, Hst8, Hri8, ⟨by simp [rngV, minsL], .inl ⟨rfl, rfl⟩⟩⟩
        case round =>
          clear Hst8 Hri8 Hb2
          obtain ⟨i, Am, km, hil, rfl, Hsz, HS, HR, HO⟩ := hrel
          by_cases hlt : i < nl
          · have hi1 : (i : Int) < nl := by omega
            have hst := HS.out
            have hrw := HR.out
            obtain ⟨lo, hh, hg, e1, e2, e3⟩ := Hgo.out i (by rw [HX.out]; show i < (pickH hs li).length; rw [Hpl.out]; exact hlt)
            have hnp : np = nl := by
              have h1 := hrw.1.len
              have h2 := Hpl2.out.len
              rw [HX.out] at h2
              have h3 : p.length = (pickH hs li).length := h2
              rw [Hpl.out] at h3
              omega
            have hgood : Calls Try.prog 12 #[.agg #[.int .i64 k, .int .i64 (close - after), .slice Ah nl kh, .slice Ag nl kg, .slice none 0 0], .slice Ap np kp, .int .i64 (i : Int)] wr (fun e w' => e = .returned (.tuple #[.agg #[.int .i64 lo, .int .i64 hh], .int .i64 0]) ∧ Later wr w') := by
              have := GoodP_calls (c := rndC k (close - after) (pickH hs li)) (h := (i : Int)) (k1 := kh) (k2 := kg) (k3 := 0) (A3 := none) wr ⟨Reads.of_own hst.own1, by show Reads wr wr.heap.size 1 Ag nl (ints (idL (pickH hs li).length)); rw [Hpl.out]; exact Reads.of_own hst.own2, Reads.none_⟩ (by show i64 k; unfold i64; omega) (by omega) (by omega) (by omega) (own_cap hst.own2) hrw.1 hcap (by omega)
              rw [← HX.out, hg] at this
              rw [HX.out] at this
              exact this
            have y0 := (hst.blc.cell 0).trans (show _ = some (Value.int .i64 k) from rfl)
            have y1 := (hst.blc.cell 1).trans (show _ = some (Value.int .i64 (close - after)) from rfl)
            have y2 := (hst.blc.cell 2).trans (show _ = some (Value.slice Ah nl kh) from rfl)
            have y3 := (hst.blc.cell 3).trans (show _ = some (Value.slice Ag nl kg) from rfl)
            have y4 := (hst.blc.cell 4).trans (show _ = some (Value.slice none 0 0) from rfl)
            have Hgood := hide hgood
            have Hg := hide hg
            have Hnp := hide hnp
            clear hst hrw hgood hg hnp
            go_wp2_with fail
            refine Hgood.out.mono ?_
            rintro e w9 ⟨rfl, hL9⟩
            obtain ⟨w10, hw10⟩ : ∃ X, X = w9.alloc (.cells #[.int .i64 lo, .int .i64 hh] 57) := ⟨_, rfl⟩
            obtain ⟨gq, hgq⟩ : ∃ g, g = w9.heap.size := ⟨_, rfl⟩
            have kq : Blk w10 gq 57 #[.int .i64 lo, .int .i64 hh] := by rw [hw10, hgq]; exact Blk.new _ _ _
            have hL10 : Later wr w10 := by rw [hw10]; exact later_alloc hL9 _
            have hst10 := HS.out.lat hL10
            have q0 := (kq.cell 0).trans (show _ = some (Value.int .i64 lo) from rfl)
            have q1' := (kq.cell 1).trans (show _ = some (Value.int .i64 hh) from rfl)
            have d0 := (hst10.blr.cell 0).trans (show _ = some (Value.int .i64 after) from rfl)
            have d3 := (hst10.blr.cell 3).trans (show _ = some (Value.slice Am i km) from rfl)
            have hsz10 : base2 ≤ w10.heap.size := Nat.le_trans Hsz.out hL10.size
            have hown11 : (w10.alloc (.cells #[.int .i64 (lo + after), .int .i64 (hh + after)] 60)).ownsRow base2 60 2 (.slice Am i km) i (rngV (minsL X p after i)) := own_laterb HO.out (later_alloc hL10 _)
            have hsz11 : base2 ≤ (w10.alloc (.cells #[.int .i64 (lo + after), .int .i64 (hh + after)] 60)).heap.size := by simp; omega
            have hbn : Blk (w10.alloc (.cells #[.int .i64 (lo + after), .int .i64 (hh + after)] 60)) w10.heap.size 60 [Value.int .i64 (lo + after), Value.int .i64 (hh + after)].toArray := Blk.new _ _ _
            have Hw10 := hide hw10
            have Hgq := hide hgq
            have Hst10 := hide hst10
            have Kq := hide kq
            clear hw10 hgq hst10 kq y0 y1 y2 y3 y4
            go_upto_region 21 with fail
            rw [← Hw10.out, ← Hgq.out]
            clear Hw10 Hgq
            go_wp2_with (at_builtin; refine appG rfl base2 _ _ 54 rfl 60 (.agg #[.int .i64 0, .int .i64 0]) 2 16 Try.underlying54 mrange_info rfl (by omega) (.slice Am i km) i (rngV (minsL X p after i)) rfl hsz11 hown11 ⟨w10.heap.size, 0, none⟩ 1 1 [.int .i64 (lo + after), .int .i64 (hh + after)] rfl rfl (blk_one hbn) (by simp [Value.oneCell']) (by omega) (by omega) (by omega) ?_)
            intro v' w12 hap
            obtain ⟨g2, k2, rfl⟩ := own_form hap.own (by omega)
            have hst11 := Hst10.out.lat (later_alloc (later_refl w10) (.cells #[.int .i64 (lo + after), .int .i64 (hh + after)] 60))
            have hst12 := hst11.app3 G hbb hown11 (by decide) (by decide) (by decide) (by decide) hap
            have hri12 := RI_app (HR.out.1.later (later_alloc hL10 _)) (HR.out.2.later (later_alloc hL10 _)) hown11 (by decide) hap
            have c3 := (hst12.blr.cell 3).trans (show _ = some (Value.slice Am i km) from rfl)
            have f3 := hst12.blr.frozen 3
            have hsz12 : base2 ≤ w12.heap.size := Nat.le_trans hsz11 hap.grown.size
            have Hst12 := hide hst12
            have Hri12 := hide hri12
            have Hap := hide hap
            clear hst11 hst12 hri12 hap hown11 hsz11 hbn
            go_wp2_with fail
            go_roundw
            case rel =>
              refine ⟨i + 1, some ⟨g2, 0, none⟩, k2, hlt, by go_num, by show base2 ≤ _; simpa using hsz12, Hst12.out.setr G 3 _, RI_setc Hri12.out.1 Hri12.out.2 Hst12.out.blr (by decide) _, ?_⟩
              show World.ownsRow _ _ _ _ _ _ (rngV (minsL X p after (i + 1)))
              rw [minsL_succ, rngV_snoc, Hg.out]
              exact own_far Hap.out.own (Nat.lt_of_lt_of_le G.r2 hbb) _
            case measure => simp [intOf]; omega
          · have hin : nl = i := by omega
            subst hin
            have hblr := HS.out.blr
            have hrow := hblr.row #[.int .i64 after, .int .i64 (after + n), .slice Ap np kp, .slice Am nl km]
            have z0 := (hrow.cell 0).trans (show _ = some (Value.int .i64 after) from rfl)
            have z1 := (hrow.cell 1).trans (show _ = some (Value.int .i64 (after + n)) from rfl)
            have z2 := (hrow.cell 2).trans (show _ = some (Value.slice Ap np kp) from rfl)
            have z3 := (hrow.cell 3).trans (show _ = some (Value.slice Am nl km) from rfl)
            have Hblr := hide hblr
            clear hblr hrow
            go_wp2_with (first | (refine wpList_load_row rfl _ _ rfl gr rfl _ _ _ _ Hblr.out Try.underlying85 rfl (by kernel_rfl) ?_) | (refine wpList_store_row rfl _ _ _ rfl gr _ rfl rfl _ _ Hblr.out (by kernel_rfl) rfl (by simp [Value.oneCell']) ?_))
            refine bodyPost_ret (v := .tuple #[.agg #[.int .i64 after, .int .i64 (after + n), .slice Ap np kp, .slice Am nl km], .bool true]) (by simp [results, Try.results41, go_sem, z0, z1, z2, z3]) rfl (.inr ?_)
            rw [← HX.out, Hbo.out]
            have h8 := RI_setr HR.out.1 HR.out.2 Hblr.out (by decide) #[.int .i64 after, .int .i64 (after + n), .slice Ap np kp, .slice Am nl km]
            refine ⟨rfl, Ap, np, kp, Am, km, rfl, later_setRow (Later.trans hL0 HS.out.later) (Nat.le_trans hL0.size G.r1) _, h8.1, ?_, h8.2.le (Later.trans hL0 hL6).size, ?_⟩
            all_goals
              have h9 := own_block (W' := wr.setRow gr #[.int .i64 after, .int .i64 (after + n), .slice Ap np kp, .slice Am nl km]) HO.out fun g hg => setRow_other wr gr g _ (by have := (HO.out.lt g hg).1; have := G.r2; omega)
              first | exact Reads.of_own h9 | exact TypedX.of_own (Nat.le_trans hL0.size (Nat.le_trans G.r1 (Nat.le_trans (Nat.le_of_lt G.r2) hbb))) h9
end Go.Proofs.Ytnlbgaippnjmiaa
