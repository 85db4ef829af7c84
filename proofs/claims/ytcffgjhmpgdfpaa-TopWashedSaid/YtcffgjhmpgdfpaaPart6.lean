/- Part 6 of the proof: joined from the texts Facts, Fx, TrO, UnK, TcS, TcT. -/
import Derived.Test.YtcffgjhmpgdfpaaPart1
import Derived.Test.YtcffgjhmpgdfpaaPart5
import Derived.Test.YtcffgjhmpgdfpaaPart4
import Derived.Deep.RegionHeld
set_option linter.unusedSimpArgs false
set_option linter.unusedVariables false
/- Regions that draw their order, operation by operation: each operation is shown once, from any later world, with the facts that the operations it waits for have left; behind the region all facts hold. -/
namespace Go.Proofs.Ytcffgjhmpgdfpaa
open Go Go.RowKit

/-- what an operation leaves in its temporary: one value; or a value of which something holds (and goes on holding), perhaps in a block of its own -/
inductive Slot where
  | det (v : Value)
  | pure (v : Value)
  | any (G : Value → World → Prop) (fresh : Bool)
def Slot.val : Slot → Value → Value
  | .det v, _ => v
  | .pure v, _ => v
  | .any _ _, x => x
def Slot.fact : Slot → Value → World → Prop
  | .det _, _, _ => True
  | .pure _, _, _ => True
  | .any G _, x, W => G x W
def Slot.isFresh : Slot → Bool
  | .det _ => false
  | .pure _ => false
  | .any _ f => f
def Slot.isPure : Slot → Bool
  | .pure _ => true
  | _ => false
def blkOf : Value → Option Nat
  | .slice (some a) _ _ => some a.block
  | .pointer (some a) => some a.block
  | _ => none
def NewIn (W W' : World) (v : Value) : Prop := ∃ b, blkOf v = some b ∧ W.heap.size ≤ b ∧ b < W'.heap.size
/-- what may become of a world meanwhile -/
structure Rely (R : World → World → Prop) : Prop where
  refl : ∀ W, R W W
  trans : ∀ {A B C : World}, R A B → R B C → R A C
  size : ∀ {A B : World}, R A B → A.heap.size ≤ B.heap.size
theorem rely_later : Rely Later := ⟨later_refl, fun h k => Later.trans h k, fun h => h.size⟩
def factAt (S : List Slot) (j : Nat) (x : Value) (W : World) : Prop := match S[j]? with
  | some s => s.fact x W
  | none => True
def freshAt (S : List Slot) (j : Nat) : Bool := match S[j]? with
  | some s => s.isFresh
  | none => false
def valAt (S : List Slot) (xs : Nat → Value) (j : Nat) : Value := match S[j]? with
  | some s => s.val (xs j)
  | none => undef
/-- number i waits for number j -/
def reachB (ops : Array Oper) : Nat → Nat → Nat → Bool
  | 0, _, _ => false
  | f + 1, i, j => match ops[i]? with
    | some o => o.after.any fun e => Region.binds .any e && (e.on == j || reachB ops f e.on j)
    | none => false
def slotOf (o : Oper) (a : Act) : Value := match o.dst with
  | some d => a.tmps.getD d undef
  | none => undef
def noQ : Exit → Act → World → Prop := fun _ _ _ => False

def StepOK (P : Program) (ops : Array Oper) (R : World → World → Prop) (w0 : World) (o : Oper) (k : Nat) (S : List Slot) (F : (Nat → Value) → Act) : Slot → Prop
  | .det v => ∀ xs W, R w0 W → (∀ j f, reachB ops f k j = true → factAt S j (xs j) W) → if Region.wanted o (yielded ops (F xs).tmps) = true then o.quietAt P (F xs) (R W) W v else v = undef
  | .pure v => ∀ xs W, R w0 W → (∀ j f, reachB ops f k j = true → factAt S j (xs j) W) → if Region.wanted o (yielded ops (F xs).tmps) = true then (∀ w', (execOp (F xs).eval o).run P w' = .ok (.value v) w') else v = undef
  | .any G fr => (∀ v W W', R W W' → G v W → G v W') ∧ ∀ xs W, R w0 W → (∀ j f, reachB ops f k j = true → factAt S j (xs j) W) →
      ∀ K : Act → World → Prop, Shut (∀ a W', a.defers = (F xs).defers → R W W' → G (slotOf o a) W' → (fr = true → NewIn W W' (slotOf o a)) → K a W') →
        if Region.wanted o (yielded ops (F xs).tmps) = true then Oper.wp P o (F xs) W K noQ else K ((F xs).put o.dst undef) W

def Lin (P : Program) (ops : Array Oper) (Q : Exit → Act → World → Prop) (R : World → World → Prop) (w0 : World) (es : List Nat) (tail : List Oper) : List Oper → Nat → List Slot → ((Nat → Value) → Act) → Prop
  | [], _, S, F => ∀ xs W, R w0 W → (∀ j, factAt S j (xs j) W) → (∀ i j, i < j → freshAt S i = true → freshAt S j = true → blkOf (xs i) ≠ blkOf (xs j)) →
      (∀ i, freshAt S i = true → ∃ b, blkOf (xs i) = some b ∧ w0.heap.size ≤ b ∧ b < W.heap.size) → wpList P ops Q tail (F xs) W
  | o :: l, k, S, F => ∃ s, (es.contains k = true → s.isPure = true) ∧ StepOK P ops R w0 o k S F s ∧ Lin P ops Q R w0 es tail l (k + 1) (S ++ [s]) (fun xs => (F xs).put o.dst (s.val (xs k)))

def dstAt (ops : Array Oper) (j : Nat) : Option Tmp := (ops[j]?).bind (·.dst)
/-- the first m operations: each one waits for lower numbers alone, reads no temporary but those of what it waits for; no two have the same temporary, each temporary is there -/
def linB (ops : Array Oper) (m size : Nat) : Bool :=
  (List.range m).all fun i => match ops[i]? with
    | some o => (o.after.all fun e => !Region.binds .any e || decide (e.on < i)) &&
      ((o.looksAt ops).all fun t => (List.range m).all fun j => dstAt ops j != some t || (decide (j < i) && reachB ops 3 i j)) &&
      (match o.dst with
        | some d => decide (d < size) && (List.range m).all fun j => i == j || dstAt ops j != some d
        | none => true)
    | none => false
/-- whatever is not in es leads up to number m -/
def sinkE (ops : Array Oper) (m : Nat) (es : List Nat) : Bool :=
  (List.range m).all fun i => es.contains i || (List.range (m + 1)).any fun j => decide (i < j) && (!es.contains j && Region.waitsFor .any ops j i)
theorem sinkE_listed {ops : Array Oper} {m : Nat} {es : List Nat} {listed : Array Bool} (hs : sinkE ops m es = true)
    (hc : ∀ j oj, ops[j]? = some oj → listed.getD j false = true → ∀ e ∈ oj.after, Region.binds .any e = true → listed.getD e.on false = true)
    (hm : ∀ o, ops[m]? = some o → ∀ e ∈ o.after, Region.binds .any e = true → listed.getD e.on false = true) :
    ∀ (d i : Nat), m - i = d → i < m → es.contains i = false → listed.getD i false = true := by
  intro d
  induction d using Nat.strongRecOn with
  | _ d ih =>
    intro i hd hi he
    have h1 := List.all_eq_true.1 hs i (List.mem_range.2 hi)
    rw [he, Bool.false_or] at h1
    obtain ⟨j, hj, hj2⟩ := List.any_eq_true.1 h1
    simp only [Bool.and_eq_true, decide_eq_true_eq, Bool.not_eq_true'] at hj2
    obtain ⟨hij, hje, hw⟩ := hj2
    have hjm := List.mem_range.1 hj
    obtain ⟨oj, hoj, e, hee, hb, hon⟩ := Region.waitsFor_spec hw
    rw [← hon]
    by_cases hjm2 : j = m
    · subst hjm2; exact hm oj hoj e hee hb
    · exact hc j oj hoj (ih (m - j) (by omega) j rfl (by omega) hje) e hee hb
def tailB (ops : Array Oper) (m : Nat) (es : List Nat) : Bool :=
  (decide (m = ops.size) || (decide (m < ops.size) && sinkE ops m es && Region.chainB .any ops m)) &&
  (es.all fun i => (List.range ops.size).all fun j => match ops[i]?, ops[j]? with
    | some oi, some oj => i == j || Region.waitsFor .any ops j i || reachB ops 3 i j || oi.apart ops oj
    | _, _ => false) &&
  Region.seqB .any ops (ops.size - m) m (Array.replicate m true ++ Array.replicate (ops.size - m) false)

def pfx (ops : Array Oper) (a0 : Act) (val : Nat → Value) : Nat → Act
  | 0 => a0
  | k + 1 => (pfx ops a0 val k).put (dstAt ops k) (val k)

theorem pfx_congr {ops : Array Oper} {a0 : Act} {v u : Nat → Value} : ∀ {k : Nat}, (∀ j, j < k → v j = u j) → pfx ops a0 v k = pfx ops a0 u k
  | 0, _ => rfl
  | k + 1, h => by simp only [pfx, pfx_congr fun j hj => h j (Nat.lt_succ_of_lt hj), h k (Nat.lt_succ_self k)]

section
variable {P : Program} {ops : Array Oper} {Q : Exit → Act → World → Prop} {R : World → World → Prop} {w0 : World} {a0 : Act} {m : Nat} {es : List Nat}

structure LinOK (ops : Array Oper) (m size : Nat) : Prop where
  le : m ≤ ops.size
  low : ∀ i o, i < m → ops[i]? = some o → ∀ e ∈ o.after, Region.binds .any e = true → e.on < i
  look : ∀ i o, i < m → ops[i]? = some o → ∀ t ∈ o.looksAt ops, ∀ j, j < m → dstAt ops j = some t → j < i ∧ reachB ops 3 i j = true
  rng : ∀ i d, i < m → dstAt ops i = some d → d < size
  one : ∀ i j d, i < m → j < m → i ≠ j → dstAt ops i = some d → dstAt ops j ≠ some d
theorem linB_ok {size : Nat} (h : linB ops m size = true) : LinOK ops m size := by
  have key : ∀ i, i < m → ∃ o, ops[i]? = some o ∧ (∀ e ∈ o.after, Region.binds .any e = true → e.on < i) ∧ (∀ t ∈ o.looksAt ops, ∀ j, j < m → dstAt ops j = some t → j < i ∧ reachB ops 3 i j = true) ∧
      (∀ d, o.dst = some d → d < size ∧ ∀ j, j < m → i ≠ j → dstAt ops j ≠ some d) := by
    intro i hi
    have h1 := List.all_eq_true.1 h i (List.mem_range.2 hi)
    cases ho : ops[i]? with
    | none => simp only [ho] at h1; cases h1
    | some o =>
      simp only [ho, Bool.and_eq_true] at h1
      obtain ⟨⟨h1, h2⟩, h3⟩ := h1
      refine ⟨o, rfl, fun e he hb => ?_, fun t ht j hj hd => ?_, fun d hd => ?_⟩
      · have := (Array.all_eq_true_iff_forall_mem.1 h1) e he
        simpa [hb] using this
      · have := List.all_eq_true.1 (List.all_eq_true.1 h2 t ht) j (List.mem_range.2 hj)
        simpa [hd] using this
      · simp only [hd, Bool.and_eq_true, decide_eq_true_eq] at h3
        refine ⟨h3.1, fun j hj hne => ?_⟩
        have := List.all_eq_true.1 h3.2 j (List.mem_range.2 hj)
        simpa [hne] using this
  have hle : m ≤ ops.size := by
    rcases Nat.lt_or_ge ops.size m with hlt | hge
    · obtain ⟨o, ho, _⟩ := key ops.size hlt
      simp at ho
    · exact hge
  refine ⟨hle, fun i o hi ho => ?_, fun i o hi ho => ?_, fun i d hi hd => ?_, fun i j d hi hj hne hd => ?_⟩
  · obtain ⟨o', ho', h1, _⟩ := key i hi
    rw [ho] at ho'; injection ho' with ho'; subst ho'; exact h1
  · obtain ⟨o', ho', _, h1, _⟩ := key i hi
    rw [ho] at ho'; injection ho' with ho'; subst ho'; exact h1
  · obtain ⟨o', ho', _, _, h1⟩ := key i hi
    exact (h1 d (by simpa [dstAt, ho'] using hd)).1
  · obtain ⟨o', ho', _, _, h1⟩ := key i hi
    exact (h1 d (by simpa [dstAt, ho'] using hd)).2 j hj hne

structure Agree (ops : Array Oper) (m : Nat) (a0 : Act) (L : Nat → Bool) (val : Nat → Value) (a : Act) : Prop where
  defers : a.defers = a0.defers
  size : a.tmps.size = a0.tmps.size
  on : ∀ j d, j < m → L j = true → dstAt ops j = some d → a.tmps[d]? = some (val j)
  off : ∀ t, (∀ j, j < m → L j = true → dstAt ops j ≠ some t) → a.tmps[t]? = a0.tmps[t]?
theorem Agree.start {val : Nat → Value} : Agree ops m a0 (fun _ => false) val a0 := ⟨rfl, rfl, (fun _ _ _ h => by cases h), fun _ _ => rfl⟩
theorem Agree.mono {L L' : Nat → Bool} {val val' : Nat → Value} {a : Act} (h : Agree ops m a0 L val a) (hL : ∀ j, j < m → L' j = L j) (hv : ∀ j, j < m → L j = true → val' j = val j) : Agree ops m a0 L' val' a :=
  ⟨h.defers, h.size, fun j d hj hl hd => by rw [hL j hj] at hl; rw [hv j hj hl]; exact h.on j d hj hl hd, fun t ht => h.off t fun j hj hl => ht j hj (by rw [hL j hj]; exact hl)⟩
theorem Agree.put {L : Nat → Bool} {val : Nat → Value} {a : Act} (ok : LinOK ops m a0.tmps.size) (h : Agree ops m a0 L val a) {i : Nat} (hi : i < m) (hL : L i = false) (v : Value) :
    Agree ops m a0 (fun j => L j || j == i) (fun j => if j = i then v else val j) (a.put (dstAt ops i) v) := by
  cases hd : dstAt ops i with
  | none =>
    refine ⟨h.defers, h.size, fun j d hj hl hdj => ?_, fun t ht => h.off t fun j hj hl => ht j hj (by simp [hl])⟩
    have hne : j ≠ i := fun e => by rw [e, hd] at hdj; cases hdj
    simp only [Bool.or_eq_true, beq_iff_eq, hne, or_false] at hl
    show a.tmps[d]? = some (if j = i then v else val j)
    rw [if_neg hne]; exact h.on j d hj hl hdj
  | some d0 =>
    have hr := ok.rng i d0 hi hd
    refine ⟨h.defers, by simp [Act.put, h.size], fun j d hj hl hdj => ?_, fun t ht => ?_⟩
    · by_cases hne : j = i
      · subst hne
        rw [hd] at hdj; injection hdj with hdj; subst hdj
        simp only [Act.put, if_true]
        rw [Array.getElem?_setIfInBounds_self_of_lt (by rw [h.size]; exact hr)]
      · simp only [Bool.or_eq_true, beq_iff_eq, hne, or_false] at hl
        have hdd : d0 ≠ d := fun e => ok.one i j d0 hi hj (Ne.symm hne) hd (e ▸ hdj)
        show (a.tmps.setIfInBounds d0 v)[d]? = some (if j = i then v else val j)
        rw [Array.getElem?_setIfInBounds_ne hdd, if_neg hne]
        exact h.on j d hj hl hdj
    · have hdd : d0 ≠ t := fun e => ht i hi (by simp) (e ▸ hd)
      show (a.tmps.setIfInBounds d0 v)[t]? = _
      rw [Array.getElem?_setIfInBounds_ne hdd]
      exact h.off t fun j hj hl => ht j hj (by simp [hl])
theorem Agree.eq {L : Nat → Bool} {val : Nat → Value} {a b : Act} (h : Agree ops m a0 L val a) (k : Agree ops m a0 L val b) : a = b := by
  obtain ⟨ta, da⟩ := a
  obtain ⟨tb, db⟩ := b
  have e1 : da = db := h.defers.trans k.defers.symm
  have e2 : ta = tb := by
    refine Array.ext_getElem? fun t => ?_
    by_cases hx : ∃ j, j < m ∧ L j = true ∧ dstAt ops j = some t
    · obtain ⟨j, hj, hl, hd⟩ := hx
      exact (h.on j t hj hl hd).trans (k.on j t hj hl hd).symm
    · have hn : ∀ j, j < m → L j = true → dstAt ops j ≠ some t := fun j hj hl hd => hx ⟨j, hj, hl, hd⟩
      exact (h.off t hn).trans (k.off t hn).symm
  subst e1; subst e2; rfl
theorem pfx_agree (ok : LinOK ops m a0.tmps.size) (val : Nat → Value) : ∀ k, k ≤ m → Agree ops m a0 (fun j => decide (j < k)) val (pfx ops a0 val k)
  | 0, _ => (Agree.start (val := fun _ => undef)).mono (fun j _ => by simp) (fun _ _ h => by cases h)
  | k + 1, hk => by
    have := (pfx_agree ok val k (by omega)).put ok (i := k) (by omega) (by simp) (val k)
    refine this.mono (fun j _ => ?_) (fun j _ _ => ?_)
    · rw [Bool.eq_iff_iff]; simp only [decide_eq_true_eq, Bool.or_eq_true, beq_iff_eq]; omega
    · split
      · rename_i e; rw [e]
      · rfl
/-- two states that agree on what an operation looks at -/
theorem look_same {L M : Nat → Bool} {val : Nat → Value} {a b : Act} (h : Agree ops m a0 L val a) (k : Agree ops m a0 M val b) {o : Oper} (hl : ∀ t ∈ o.looksAt ops, ∀ j, j < m → dstAt ops j = some t → L j = true ∧ M j = true) :
    ∀ t ∈ o.looksAt ops, a.tmps[t]? = b.tmps[t]? := fun t ht => by
  by_cases hx : ∃ j, j < m ∧ dstAt ops j = some t
  · obtain ⟨j, hj, hd⟩ := hx
    obtain ⟨h1, h2⟩ := hl t ht j hj hd
    exact (h.on j t hj h1 hd).trans (k.on j t hj h2 hd).symm
  · have hn : ∀ j, j < m → dstAt ops j ≠ some t := fun j hj hd => hx ⟨j, hj, hd⟩
    exact (h.off t fun j hj _ => hn j hj).trans (k.off t fun j hj _ => hn j hj).symm
theorem execOp_look {a b : Act} {o : Oper} (hs : ∀ cs d, o.op ≠ .select cs d) (h : ∀ t ∈ o.looksAt ops, a.tmps[t]? = b.tmps[t]?) : execOp a.eval o = execOp b.eval o :=
  execOp_congr o hs fun x hx => by
    cases x with
    | tmp t =>
      have := h t (List.mem_append_left _ (List.mem_filterMap.2 ⟨.tmp t, by simpa using hx, rfl⟩))
      simp only [Act.eval, Array.getD_eq_getD_getElem?, this]
    | _ => rfl
theorem wanted_look {a b : Act} {o : Oper} (h : ∀ t ∈ o.looksAt ops, a.tmps[t]? = b.tmps[t]?) : Region.wanted o (yielded ops a.tmps) = Region.wanted o (yielded ops b.tmps) := by
  unfold Region.wanted
  cases hg : o.guard with
  | none => rfl
  | some gw =>
    obtain ⟨g, want⟩ := gw
    have hy : yielded ops a.tmps g = yielded ops b.tmps g := by
      unfold yielded
      cases ht : (ops[g]?).bind (·.dst) with
      | none => rfl
      | some t =>
        have := h t (by simp [Oper.looksAt, hg, ht])
        simp only [Option.bind_some, this]
    simp only [hy]

theorem reach_listed {listed : Array Bool} (hc : ∀ j oj, ops[j]? = some oj → listed.getD j false = true → ∀ e ∈ oj.after, Region.binds .any e = true → listed.getD e.on false = true) :
    ∀ (f i j : Nat), (∀ o, ops[i]? = some o → ∀ e ∈ o.after, Region.binds .any e = true → listed.getD e.on false = true) → reachB ops f i j = true → listed.getD j false = true
  | 0, _, _, _, h => by cases h
  | f + 1, i, j, hi, h => by
    simp only [reachB] at h
    cases ho : ops[i]? with
    | none => simp only [ho] at h; cases h
    | some o =>
      simp only [ho] at h
      obtain ⟨e, he, hb⟩ := Array.any_eq_true'.1 h
      simp only [Bool.and_eq_true, Bool.or_eq_true, beq_iff_eq] at hb
      obtain ⟨hb, hj | hj⟩ := hb
      · rw [← hj]; exact hi o ho e he hb
      · exact reach_listed hc f e.on j (fun o' ho' => hc e.on o' ho' (hi o ho e he hb)) hj

theorem countP_one {p q : Nat → Bool} {i : Nat} (hp : p i = true) (hq : q i = false) (h : ∀ j, j ≠ i → p j = q j) : ∀ (l : List Nat), l.Nodup → i ∈ l → l.countP q + 1 = l.countP p
  | [], _, hi => by cases hi
  | x :: l, hn, hi => by
    rw [List.nodup_cons] at hn
    by_cases hx : x = i
    · subst hx
      have : l.countP q = l.countP p := List.countP_congr fun y hy => by rw [h y fun e => hn.1 (e ▸ hy)]
      simp [List.countP_cons, hp, hq, this]
    · have := countP_one hp hq h l hn.2 ((List.mem_cons.1 hi).resolve_left (Ne.symm hx))
      simp only [List.countP_cons, h x hx]
      omega

/-- all that the walk of the first m operations has shown -/
structure Done (P : Program) (ops : Array Oper) (R : World → World → Prop) (w0 : World) (a0 : Act) (m : Nat) (es : List Nat) (T : List Slot) : Prop where
  len : T.length = m
  step : ∀ i o, i < m → ops[i]? = some o → ∃ s, T[i]? = some s ∧ (es.contains i = true → s.isPure = true) ∧ StepOK P ops R w0 o i (T.take i) (fun xs => pfx ops a0 (valAt T xs) i) s

theorem lin_done {tail : List Oper} {head : List Oper} (hh : ∀ j, j < head.length → ops[j]? = head[j]?) : ∀ (l : List Oper) (k : Nat) (S : List Slot) (F : (Nat → Value) → Act),
    Lin P ops Q R w0 es tail l k S F → S.length = k → k + l.length = head.length → (∀ j, j < l.length → l[j]? = head[k + j]?) → (∀ xs, F xs = pfx ops a0 (valAt S xs) k) →
    ∃ T, T.length = head.length ∧ T.take k = S ∧ (∀ i o, k ≤ i → i < head.length → ops[i]? = some o → ∃ s, T[i]? = some s ∧ (es.contains i = true → s.isPure = true) ∧ StepOK P ops R w0 o i (T.take i) (fun xs => pfx ops a0 (valAt T xs) i) s) ∧
      Lin P ops Q R w0 es tail [] head.length T (fun xs => pfx ops a0 (valAt T xs) head.length)
  | [], k, S, F, h, hS, hl, _, hF => by
    have hk : k = head.length := by simpa using hl
    have eF : F = fun xs => pfx ops a0 (valAt S xs) head.length := by rw [← hk]; exact funext hF
    rw [eF] at h
    exact ⟨S, by rw [hS, hk], by rw [List.take_of_length_le (by omega)], fun i o h1 h2 => absurd h1 (by omega), h⟩
  | o :: l, k, S, F, h, hS, hl, hlh, hF => by
    obtain ⟨s, hpu, hs, hr⟩ := h
    simp only [List.length_cons] at hl
    have hko : ops[k]? = some o := by
      rw [hh k (by omega)]; have := hlh 0 (by simp); simpa using this.symm
    have hval : ∀ xs j, j < k → valAt (S ++ [s]) xs j = valAt S xs j := fun xs j hj => by
      unfold valAt; rw [List.getElem?_append_left (by omega)]
    have hvalk : ∀ xs, valAt (S ++ [s]) xs k = s.val (xs k) := fun xs => by
      unfold valAt; rw [List.getElem?_append_right (by omega), hS]; simp
    obtain ⟨T, h1, h2, h3, h4⟩ := lin_done hh l (k + 1) (S ++ [s]) _ hr (by simp [hS]) (by omega) (fun j hj => by
      have := hlh (j + 1) (by simp; omega)
      simpa [Nat.add_assoc, Nat.add_comm 1 j] using this) (fun xs => by
        rw [hF xs]
        show Act.put _ _ _ = Act.put (pfx ops a0 (valAt (S ++ [s]) xs) k) (dstAt ops k) (valAt (S ++ [s]) xs k)
        rw [pfx_congr (fun j hj => hval xs j hj), hvalk]
        simp [dstAt, hko])
    have hTk : T.take k = S := by
      have := congrArg (List.take k) h2
      rwa [List.take_take, Nat.min_eq_left (by omega), List.take_left' hS] at this
    have hTs : T[k]? = some s := by
      have : (T.take (k + 1))[k]? = some s := by rw [h2, List.getElem?_append_right (by omega), hS]; simp
      rwa [List.getElem?_take_of_lt (by omega)] at this
    refine ⟨T, h1, hTk, fun i o' hi1 hi2 ho' => ?_, h4⟩
    by_cases hik : i = k
    · subst hik
      rw [hko] at ho'; injection ho' with ho'; subst ho'
      refine ⟨s, hTs, hpu, ?_⟩
      have eF : F = fun xs => pfx ops a0 (valAt T xs) i := funext fun xs => by
        rw [hF xs]
        refine pfx_congr fun j hj => ?_
        have : T[j]? = S[j]? := by rw [← hTk, List.getElem?_take_of_lt hj]
        unfold valAt; rw [this]
      rw [← eF, hTk]; exact hs
    · exact h3 i o' (by omega) hi2 ho'

structure Inv (ops : Array Oper) (R : World → World → Prop) (w0 : World) (a0 : Act) (m : Nat) (T : List Slot) (listed : Array Bool) (a : Act) (w : World) : Prop where
  head : HeadInv .any ops m listed
  rel : R w0 w
  ex : ∃ xs : Nat → Value, Agree ops m a0 (fun j => listed.getD j false) (valAt T xs) a ∧ (∀ j, listed.getD j false = true → factAt T j (xs j) w) ∧
    (∀ j, listed.getD j false = true → freshAt T j = true → ∃ b, blkOf (xs j) = some b ∧ w0.heap.size ≤ b ∧ b < w.heap.size) ∧
    (∀ i j, i ≠ j → listed.getD i false = true → listed.getD j false = true → freshAt T i = true → freshAt T j = true → blkOf (xs i) ≠ blkOf (xs j))

theorem factAt_mono (hR : Rely R) {T : List Slot} (d : Done P ops R w0 a0 m es T) (hm : m ≤ ops.size) {j : Nat} {x : Value} {W W' : World} (h : R W W') (hf : factAt T j x W) : factAt T j x W' := by
  by_cases hj : j < m
  · obtain ⟨s, hs, _, hk⟩ := d.step j ops[j] hj (Array.getElem?_eq_getElem (by omega))
    unfold factAt at hf ⊢
    rw [hs] at hf ⊢
    cases s with
    | det v => trivial
    | pure v => trivial
    | any G fr => exact hk.1 x W W' h hf
  · unfold factAt
    rw [List.getElem?_eq_none (by rw [d.len]; omega)]
    trivial

theorem getD_set_self {listed : Array Bool} {i : Nat} (h : i < listed.size) (b : Bool) : (listed.setIfInBounds i true).getD i b = true := by simp [h]

theorem put_defers_ (a : Act) (d : Option Tmp) (v : Value) : (a.put d v).defers = a.defers := by cases d <;> rfl
/-- one operation of the first m, from a state that the invariant describes -/
theorem inv_step (hR : Rely R) (hsel : Region.noSelect ops = true) (ok : LinOK ops m a0.tmps.size) {T : List Slot} (d : Done P ops R w0 a0 m es T) {listed : Array Bool} {a : Act} {w : World}
    (inv : Inv ops R w0 a0 m T listed a w) {i : Nat} (hi : i < m) (hr : i ∈ Region.ready .any ops listed) {K : Act → World → Prop}
    (hK : ∀ a' w', Inv ops R w0 a0 m T (listed.setIfInBounds i true) a' w' → K a' w') : wpOp P ops Q i K a w := by
  obtain ⟨hun, o, ho, hall⟩ := mem_ready.1 hr
  have his : i < listed.size := by rw [inv.head.size]; have := ok.le; omega
  have hun' := getD_both hun
  obtain ⟨s, hs, _, hst⟩ := d.step i o hi ho
  obtain ⟨xs, hag, hfa, hfr, hdj⟩ := inv.ex
  have hdo : dstAt ops i = o.dst := by simp [dstAt, ho]
  have hF := pfx_agree ok (valAt T xs) i (by omega)
  have hlisted : ∀ f j, reachB ops f i j = true → listed.getD j false = true := fun f j h =>
    reach_listed inv.head.closed f i j (fun o' ho' => by rw [ho] at ho'; injection ho' with ho'; subst ho'; exact hall) h
  have hlook : ∀ t ∈ o.looksAt ops, a.tmps[t]? = (pfx ops a0 (valAt T xs) i).tmps[t]? := look_same hag hF fun t ht j hj hd => by
    obtain ⟨h1, h2⟩ := ok.look i o hi ho t ht j hj hd
    exact ⟨hlisted 3 j h2, by simp [h1]⟩
  have hex := execOp_look (fun cs b => Region.noSelect_spec hsel i o cs b ho) hlook
  have hwa := wanted_look hlook
  have hdep : ∀ j f, reachB ops f i j = true → factAt (T.take i) j (xs j) w := fun j f h => by
    unfold factAt
    by_cases hji : j < i
    · rw [List.getElem?_take_of_lt hji]; exact hfa j (hlisted f j h)
    · rw [List.getElem?_eq_none (by rw [List.length_take]; omega)]; trivial
  -- the step's end
  have fin : ∀ (v : Value) (x : Value) (w' : World), R w w' → s.val x = v → s.fact x w' → (s.isFresh = true → NewIn w w' x) → K (a.put o.dst v) w' := fun v x w' hw' hv hf hn => by
    refine hK _ _ ⟨inv.head.set hr hi, hR.trans inv.rel hw', fun j => if j = i then x else xs j, ?_, ?_, ?_, ?_⟩
    · rw [← hdo]
      refine (hag.put ok hi hun' v).mono (fun j hj => ?_) (fun j hj hl => ?_)
      · by_cases hji : j = i
        · subst hji; simp [his]
        · rw [getD_set_ne false (Ne.symm hji)]; simp [hji]
      · by_cases hji : j = i
        · subst hji; simp only [if_true]; unfold valAt; rw [hs]; simpa using hv
        · rw [if_neg hji]; unfold valAt; simp only [if_neg hji]
    · intro j hl
      by_cases hji : j = i
      · subst hji; simp only [if_true]; unfold factAt; rw [hs]; exact hf
      · rw [getD_set_ne false (Ne.symm hji)] at hl
        simp only [if_neg hji]
        exact factAt_mono hR d ok.le hw' (hfa j hl)
    · intro j hl hfj
      by_cases hji : j = i
      · subst hji; simp only [if_true]
        obtain ⟨b, h1, h2, h3⟩ := hn (by unfold freshAt at hfj; rw [hs] at hfj; exact hfj)
        exact ⟨b, h1, Nat.le_trans (hR.size inv.rel) h2, h3⟩
      · rw [getD_set_ne false (Ne.symm hji)] at hl
        simp only [if_neg hji]
        obtain ⟨b, h1, h2, h3⟩ := hfr j hl hfj
        exact ⟨b, h1, h2, Nat.lt_of_lt_of_le h3 (hR.size hw')⟩
    · have key : ∀ j, j ≠ i → (listed.setIfInBounds i true).getD j false = true → freshAt T i = true → freshAt T j = true → blkOf x ≠ blkOf (xs j) := fun j hji hl hfi hfj e => by
        rw [getD_set_ne false (Ne.symm hji)] at hl
        obtain ⟨b, h1, h2, _⟩ := hn (by unfold freshAt at hfi; rw [hs] at hfi; exact hfi)
        obtain ⟨b', h1', _, h3'⟩ := hfr j hl hfj
        rw [h1, h1'] at e
        injection e with e
        omega
      intro j k hjk hlj hlk hfj hfk
      by_cases hji : j = i
      · subst hji
        simp only [if_true, if_neg (Ne.symm hjk)]
        exact key k (Ne.symm hjk) hlk hfj hfk
      · by_cases hki : k = i
        · subst hki
          simp only [if_true, if_neg hji]
          exact Ne.symm (key j hji hlj hfk hfj)
        · simp only [if_neg hji, if_neg hki]
          rw [getD_set_ne false (Ne.symm hji)] at hlj
          rw [getD_set_ne false (Ne.symm hki)] at hlk
          exact hdj j k hjk hlj hlk hfj hfk
  unfold Go.wpOp
  simp only [ho]
  rw [hwa]
  cases s with
  | det v =>
    have h1 := hst xs w inv.rel hdep
    split
    · rename_i hw
      rw [if_pos hw] at h1
      refine .inl ?_
      unfold Oper.quietAt at h1
      unfold Oper.wp
      rw [hex]
      dsimp only at h1
      generalize (execOp (pfx ops a0 (valAt T xs) i).eval o).run P w = r at *
      cases r with
      | ok n w' =>
        cases n <;> simp only [Oper.quietUpon, Oper.upon] at h1 ⊢
        case value u => obtain ⟨rfl, rfl⟩ := h1; exact fin _ undef _ (hR.refl _) rfl trivial (fun h => by cases h)
        case skip => obtain ⟨rfl, rfl⟩ := h1; exact fin _ undef _ (hR.refl _) rfl trivial (fun h => by cases h)
        case enter f args =>
          obtain ⟨rfl, h1⟩ := h1
          refine Calls.mono h1 fun e w'' ⟨he, hw⟩ => ?_
          subst he
          exact fin _ undef _ hw rfl trivial (fun h => by cases h)
      | halt x w' => simp only [Oper.quietUpon] at h1
    · rename_i hw
      rw [if_neg hw] at h1
      rw [← h1]
      exact fin _ undef _ (hR.refl _) rfl trivial (fun h => by cases h)
  | pure v =>
    have h1 := hst xs w inv.rel hdep
    split
    · rename_i hw
      rw [if_pos hw] at h1
      refine .inl ?_
      unfold Oper.wp
      rw [hex]
      dsimp only at h1
      rw [h1 w]
      exact fin _ undef _ (hR.refl _) rfl trivial (fun h => by cases h)
    · rename_i hw
      rw [if_neg hw] at h1
      rw [← h1]
      exact fin _ undef _ (hR.refl _) rfl trivial (fun h => by cases h)
  | any G fr =>
    have h1 := hst.2 xs w inv.rel hdep (fun a' W' => a'.defers = (pfx ops a0 (valAt T xs) i).defers ∧ R w W' ∧ G (slotOf o a') W' ∧ (fr = true → NewIn w W' (slotOf o a'))) (fun a' W' x0 x1 x2 x3 => ⟨x0, x1, x2, x3⟩)
    have hput : ∀ u, a.put o.dst u = a.put o.dst (slotOf o ((pfx ops a0 (valAt T xs) i).put o.dst u)) := fun u => by
      cases hd : o.dst with
      | none => rfl
      | some t =>
        have hlt : t < (pfx ops a0 (valAt T xs) i).tmps.size := by rw [hF.size]; exact ok.rng i t hi (hdo.trans hd)
        have : slotOf o ((pfx ops a0 (valAt T xs) i).put (some t) u) = u := by simp [slotOf, hd, Act.put, hlt]
        rw [this]
    have fin2 : ∀ u w', (R w w' ∧ G (slotOf o ((pfx ops a0 (valAt T xs) i).put o.dst u)) w' ∧ (fr = true → NewIn w w' (slotOf o ((pfx ops a0 (valAt T xs) i).put o.dst u)))) → K (a.put o.dst u) w' := fun u w' h => by
      rw [hput u]
      exact fin _ _ w' h.1 rfl h.2.1 h.2.2
    split
    · rename_i hw
      rw [if_pos hw] at h1
      refine .inl ?_
      unfold Oper.wp at h1 ⊢
      rw [hex]
      dsimp only at h1
      generalize (execOp (pfx ops a0 (valAt T xs) i).eval o).run P w = r at *
      cases r with
      | ok n w' =>
        cases n <;> simp only [Oper.upon] at h1 ⊢
        case value u => exact fin2 u w' h1.2
        case skip => exact fin2 undef w' h1.2
        case defer df =>
          exfalso
          have h2 := h1.1
          rw [put_defers_] at h2
          exact absurd (congrArg List.length h2) (by simp)
        case enter f args =>
          refine Calls.mono h1 fun e w'' he => ?_
          cases e with
          | returned u => exact fin2 u w'' he.2
          | panicked c => exact he.elim
          | outgrown => obtain ⟨_, _, h⟩ := he; exact h.elim
        case row row args => exact Rows.mono h1 fun u w'' he => fin2 u w'' he.2
      | halt x w' =>
        cases x <;> simp only [Oper.upon] at h1 ⊢
        case panic u => exact h1.elim
    · rename_i hw
      rw [if_neg hw] at h1
      exact fin2 undef w h1.2

def unl (m : Nat) (listed : Array Bool) : Nat := (List.range m).countP fun j => !listed.getD j false
theorem lin_all {Q' : Exit → Act → World → Prop} (hR : Rely R) (hsel : Region.noSelect ops = true) (ok : LinOK ops m a0.tmps.size) (htl : tailB ops m es = true) (hQ : es = [] ∨ ∀ c a (d : Nat) v w, Q' (.panic c) (a.put (some d) v) w → Q' (.panic c) a w) {T : List Slot} (d : Done P ops R w0 a0 m es T) {tail : List Oper} (ht : ∀ j, tail[j]? = ops[m + j]?)
    (hfin : Lin P ops Q' R w0 es tail [] m T (fun xs => pfx ops a0 (valAt T xs) m)) :
    ∀ (f : Nat) (listed : Array Bool) (a : Act) (w : World), Inv ops R w0 a0 m T listed a w → unl m listed = f → wpAny P .any ops Q' (f + tail.length) listed a w := by
  have hlen : tail.length = ops.size - m := by
    have h1 := ht tail.length
    rw [List.getElem?_eq_none (Nat.le_refl _)] at h1
    have h2 : ops.size ≤ m + tail.length := by simpa using h1.symm
    rcases Nat.lt_or_ge (ops.size - m) tail.length with h | h
    · have h3 := ht (ops.size - m)
      rw [List.getElem?_eq_getElem h, show m + (ops.size - m) = ops.size by have := ok.le; omega] at h3
      simp at h3
    · omega
  unfold tailB at htl
  simp only [Bool.and_eq_true, Bool.or_eq_true, decide_eq_true_eq] at htl
  obtain ⟨⟨htl, hes⟩, hseq⟩ := htl
  intro f
  induction f with
  | zero =>
    intro listed a w inv hf
    have hall : ∀ j, j < m → listed.getD j false = true := fun j hj => by
      unfold unl at hf
      have := List.countP_eq_zero.1 hf j (List.mem_range.2 hj)
      simpa using this
    have hL : listed = Array.replicate m true ++ Array.replicate (ops.size - m) false := by
      have hsz := inv.head.size
      refine Array.ext (by simp [hsz]; have := ok.le; omega) fun j h1 h2 => ?_
      by_cases hj : j < m
      · have := hall j hj
        simp [h1] at this
        rw [this, Array.getElem_append_left (by simpa using hj)]; simp
      · have := inv.head.tail j (by omega) (by omega)
        simp [h1] at this
        rw [this, Array.getElem_append_right (by simp; omega)]; simp
    obtain ⟨xs, hag, hfa, hfr, hdj⟩ := inv.ex
    have hF := (pfx_agree ok (valAt T xs) m (Nat.le_refl _)).mono (L' := fun j => listed.getD j false) (fun j hj => by rw [hall j hj]; simp [hj]) (fun _ _ _ => rfl)
    have ea := hag.eq hF
    have hTn : ∀ j, ¬ j < m → T[j]? = none := fun j hj => List.getElem?_eq_none (by rw [d.len]; omega)
    rw [Nat.zero_add]
    refine wpAny_of_seq tail m listed a w ht (by rw [hL, hlen]; exact hseq) ?_
    rw [ea]
    refine hfin xs w inv.rel (fun j => ?_) (fun i j hij hi hj => ?_) (fun i hi => ?_)
    · by_cases hj : j < m
      · exact hfa j (hall j hj)
      · unfold factAt; rw [hTn j hj]; trivial
    · have him : i < m := Decidable.byContradiction fun h => by unfold freshAt at hi; rw [hTn i h] at hi; cases hi
      have hjm : j < m := Decidable.byContradiction fun h => by unfold freshAt at hj; rw [hTn j h] at hj; cases hj
      exact hdj i j (Nat.ne_of_lt hij) (hall i him) (hall j hjm) hi hj
    · have him : i < m := Decidable.byContradiction fun h => by unfold freshAt at hi; rw [hTn i h] at hi; cases hi
      exact hfr i (hall i him) hi
  | succ f ih =>
    intro listed a w inv hf
    have hex : ∃ i, i < m ∧ listed.getD i false = false ∧ ∀ j, j < i → listed.getD j false = true := by
      have h1 : ∃ i, i < m ∧ listed.getD i false = false := by
        have : 0 < unl m listed := by omega
        obtain ⟨i, hi, hp⟩ := List.countP_pos_iff.1 this
        exact ⟨i, List.mem_range.1 hi, by simpa using hp⟩
      obtain ⟨i, hi, hun⟩ := h1
      induction i using Nat.strongRecOn with
      | _ i ih2 =>
        by_cases hx : ∃ j, j < i ∧ listed.getD j false = false
        · obtain ⟨j, hj, hjn⟩ := hx
          exact ih2 j hj (by omega) hjn
        · exact ⟨i, hi, hun, fun j hj => by
            cases h : listed.getD j false with
            | true => rfl
            | false => exact absurd ⟨j, hj, h⟩ hx⟩
    obtain ⟨i, hi, hun, hbelow⟩ := hex
    have his : i < listed.size := by rw [inv.head.size]; have := ok.le; omega
    have hunT := getD_in his hun
    have hio : ops[i]? = some ops[i] := Array.getElem?_eq_getElem (by have := ok.le; omega)
    have hir : i ∈ Region.ready .any ops listed := mem_ready.2 ⟨hunT, _, hio, fun e he hb => hbelow e.on (ok.low i _ hi hio e he hb)⟩
    rw [show f + 1 + tail.length = (f + tail.length) + 1 by omega]
    have hcount : ∀ j, j < m → j ∈ Region.ready .any ops listed → unl m (listed.setIfInBounds j true) = f := fun j hjm hj => by
      have hjun := (mem_ready.1 hj).1
      have hjs : j < listed.size := by rw [inv.head.size]; have := ok.le; omega
      have := countP_one (p := fun k => !listed.getD k false) (q := fun k => !(listed.setIfInBounds j true).getD k false) (i := j) (by simp only [getD_both hjun]; rfl) (by simp only [getD_set_self hjs]; rfl)
        (fun k hk => by simp only [getD_set_ne false (Ne.symm hk)]) (List.range m) List.nodup_range (List.mem_range.2 hjm)
      unfold unl at hf ⊢
      omega
    by_cases hcase : ∃ k, k < m ∧ listed.getD k false = false ∧ es.contains k = false
    · obtain ⟨k, hk, hkun, hke⟩ := hcase
      refine ⟨(fun h0 => by rw [h0] at hir; cases hir), fun j hj => ?_⟩
      have hjm : j < m := by
        rcases Nat.lt_or_ge j m with h | h
        · exact h
        · obtain ⟨_, oj, hoj, hall⟩ := mem_ready.1 hj
          have hjlt := (Array.getElem?_eq_some_iff.1 hoj).1
          rcases htl with he | ⟨⟨hlt, hs⟩, hc⟩
          · omega
          · exfalso
            by_cases hjm : j = m
            · subst hjm
              have h2 := sinkE_listed hs inv.head.closed (fun o' ho' => by rw [hoj] at ho'; injection ho' with ho'; subst ho'; exact hall) _ k rfl hk hke
              rw [hkun] at h2; cases h2
            · have h1 := List.all_eq_true.1 hc j (List.mem_range.2 hjlt)
              simp only [Bool.or_eq_true, decide_eq_true_eq] at h1
              rcases h1 with h1 | h1
              · omega
              · obtain ⟨o', ho', e, he, hb, hon⟩ := Region.waitsFor_spec h1
                rw [hoj] at ho'; injection ho' with ho'; subst ho'
                have h2 := hall e he hb
                rw [hon, getD_both (inv.head.tail (j - 1) (by omega) (by omega))] at h2
                cases h2
      exact inv_step hR hsel ok d inv hjm hj fun a' w' inv' => ih _ a' w' inv' (hcount j hjm hj)
    · have hie : es.contains i = true := by
        cases h : es.contains i with
        | true => rfl
        | false => exact absurd ⟨i, hi, hun, h⟩ hcase
      have hnil : es ≠ [] := fun e => by rw [e] at hie; cases hie
      have hQ := hQ.resolve_left hnil
      obtain ⟨s, hs, hpu, hst⟩ := d.step i _ hi hio
      have hpu := hpu hie
      cases s with
      | det v => cases hpu
      | any G fr => cases hpu
      | pure v =>
        have hlisted : ∀ f j, reachB ops f i j = true → listed.getD j false = true := fun f j h =>
          reach_listed inv.head.closed f i j (fun o' ho' => by rw [hio] at ho'; injection ho' with ho'; subst ho'; exact fun e he hb => hbelow e.on (ok.low i _ hi hio e he hb)) h
        have hfree : ∀ j oj, ops[j]? = some oj → j ≠ i → listed.getD j true = false → (∀ e ∈ oj.after, Region.binds .any e = true → e.on ≠ i) → ops[i].apart ops oj = true := fun j oj hoj hji hjun hno => by
          have h1 := List.all_eq_true.1 (List.all_eq_true.1 hes i (by simpa using hie)) j (List.mem_range.2 (Array.getElem?_eq_some_iff.1 hoj).1)
          simp only [hio, hoj, Bool.or_eq_true, beq_iff_eq] at h1
          rcases h1 with ((h1 | h1) | h1) | h1
          · exact absurd h1.symm hji
          · obtain ⟨o', ho', e, he, hb, hon⟩ := Region.waitsFor_spec h1
            rw [hoj] at ho'; injection ho' with ho'; subst ho'
            exact absurd hon (hno e he hb)
          · have h2 := hlisted 3 j h1
            rw [getD_both hjun] at h2; cases h2
          · exact h1
        obtain ⟨xs, hag, hfa, hfr, hdj⟩ := inv.ex
        have hF := pfx_agree ok (valAt T xs) i (by omega)
        have hlook : ∀ t ∈ ops[i].looksAt ops, a.tmps[t]? = (pfx ops a0 (valAt T xs) i).tmps[t]? := look_same hag hF fun t ht j hj hd => by
          obtain ⟨h1, h2⟩ := ok.look i _ hi hio t ht j hj hd
          exact ⟨hlisted 3 j h2, by simp [h1]⟩
        have hex := execOp_look (fun cs b => Region.noSelect_spec hsel i _ cs b hio) hlook
        have hwa := wanted_look hlook
        have hdep : ∀ j f, reachB ops f i j = true → factAt (T.take i) j (xs j) w := fun j f h => by
          unfold factAt
          by_cases hji : j < i
          · rw [List.getElem?_take_of_lt hji]; exact hfa j (hlisted f j h)
          · rw [List.getElem?_eq_none (by rw [List.length_take]; omega)]; trivial
        have h1 := hst xs w inv.rel hdep
        have hy : Yields P ops ops[i] v a := by
          unfold Yields
          rw [hwa, hex]
          dsimp only at h1
          split at h1
          · rename_i hw; exact .inl ⟨hw, h1⟩
          · rename_i hw; exact .inr ⟨by simpa using hw, h1⟩
        have hdo : dstAt ops i = ops[i].dst := by simp [dstAt, hio]
        refine wpAny_first hio (Region.noSelect_spec hsel) (fun c a' w' h => by cases hd : ops[i].dst with
          | none => rw [hd] at h; exact h
          | some d => rw [hd] at h; exact hQ c _ d _ w' h) _ listed a w hfree hir hy (ih _ _ w ⟨inv.head.set hir hi, inv.rel, xs, ?_, ?_, ?_, ?_⟩ (hcount i hi hir))
        · rw [← hdo]
          refine (hag.put ok hi hun v).mono (fun j hj => ?_) (fun j hj hl => ?_)
          · by_cases hji : j = i
            · subst hji; simp [his]
            · rw [getD_set_ne false (Ne.symm hji)]; simp [hji]
          · by_cases hji : j = i
            · subst hji; simp only [if_true]; unfold valAt; rw [hs]; rfl
            · rw [if_neg hji]
        · intro j hl
          by_cases hji : j = i
          · subst hji; unfold factAt; rw [hs]; trivial
          · rw [getD_set_ne false (Ne.symm hji)] at hl; exact hfa j hl
        · intro j hl hfj
          by_cases hji : j = i
          · subst hji; unfold freshAt at hfj; rw [hs] at hfj; cases hfj
          · rw [getD_set_ne false (Ne.symm hji)] at hl; exact hfr j hl hfj
        · intro j k hjk hlj hlk hfj hfk
          by_cases hji : j = i
          · subst hji; unfold freshAt at hfj; rw [hs] at hfj; cases hfj
          · by_cases hki : k = i
            · subst hki; unfold freshAt at hfk; rw [hs] at hfk; cases hfk
            · rw [getD_set_ne false (Ne.symm hji)] at hlj
              rw [getD_set_ne false (Ne.symm hki)] at hlk
              exact hdj j k hjk hlj hlk hfj hfk
end

/-- the first m operations are walked one by one; the others follow, each behind the one before it -/
theorem wp_region_lin {P : Program} {id : Nat} {Q : Exit → Act → World → Prop} {R : World → World → Prop} {a : Act} {w w0 : World} {l : List Oper} (m : Nat) (es : List Nat) (hR : Rely R) (hm : P.follows .mixedOrders = true) (hsel : Region.noSelect l.toArray = true)
    (hl : linB l.toArray m a.tmps.size = true) (ht : tailB l.toArray m es = true) (hw : R w0 w.drew) (hQ : es = [] ∨ ∀ c a (d : Nat) v w, Q (.panic c) (a.put (some d) v) w → Q (.panic c) a w)
    (h : Lin P l.toArray Q R w0 es (l.drop m) (l.take m) 0 [] (fun _ => a)) : (Code.region id l.toArray true).wp P Q a w := by
  have ok := linB_ok hl
  have hle : m ≤ l.length := by simpa using ok.le
  have htl : (l.take m).length = m := by simp; omega
  have hh : ∀ j, j < (l.take m).length → l.toArray[j]? = (l.take m)[j]? := fun j hj => by rw [htl] at hj; simp [hj]
  obtain ⟨T, h1, _, h3, h4⟩ := lin_done (a0 := a) hh (l.take m) 0 [] (fun _ => a) h rfl (by simp) (fun j _ => by simp) (fun xs => rfl)
  rw [htl] at h1 h4
  have d : Done P l.toArray R w0 a m es T := ⟨h1, fun i o hi ho => h3 i o (Nat.zero_le _) (by rw [htl]; exact hi) ho⟩
  have inv0 : HeadInv .any l.toArray m (Array.replicate l.toArray.size false) :=
    ⟨by simp, fun j oj _ hl => (by rw [getD_replicate_false] at hl; cases hl), fun t _ ht => getD_in (by simpa using ht) (getD_replicate_false _ _)⟩
  have hu : unl m (Array.replicate l.toArray.size false) = m := by
    unfold unl
    rw [List.countP_eq_length.2 fun j _ => by simp only [getD_replicate_false]; rfl, List.length_range]
  refine wp_region_any hm ?_
  have := lin_all (Q' := Q) hR hsel ok ht hQ d (tail := l.drop m) (fun j => by simp [List.getElem?_drop]) h4 m (Array.replicate l.toArray.size false) a w.drew
    ⟨inv0, hw, fun _ => undef, (Agree.start (val := fun _ => undef)).mono (fun j _ => getD_replicate_false _ _) (fun _ _ h => by cases h), fun j hl => (by rw [getD_replicate_false] at hl; cases hl), fun j hl => (by rw [getD_replicate_false] at hl; cases hl), fun i j _ hl => (by rw [getD_replicate_false] at hl; cases hl)⟩ hu
  rw [show m + (l.drop m).length = l.toArray.size from by simp; omega] at this
  exact this
section
variable {P : Program} {ops : Array Oper} {Q : Exit → Act → World → Prop} {R : World → World → Prop} {w0 : World} {es : List Nat} {tail l : List Oper} {o : Oper} {k : Nat} {S : List Slot} {F F' : (Nat → Value) → Act}
/-- an operation that is carried out, and leaves v whatever the world -/
theorem lin_det {v : Value} (he : es.contains k = false) (hw : ∀ xs, Region.wanted o (yielded ops (F xs).tmps) = true) (h : ∀ xs W, R w0 W → (∀ j f, reachB ops f k j = true → factAt S j (xs j) W) → o.quietAt P (F xs) (R W) W v)
    (hF : ∀ xs, (F xs).put o.dst v = F' xs) (hs : Lin P ops Q R w0 es tail l (k + 1) (S ++ [.det v]) F') : Lin P ops Q R w0 es tail (o :: l) k S F :=
  ⟨.det v, (fun h => by rw [he] at h; cases h), fun xs W hW hd => by rw [if_pos (hw xs)]; exact h xs W hW hd, by
    have : (fun xs => (F xs).put o.dst (Slot.val (.det v) (xs k))) = F' := funext hF
    rw [this]; exact hs⟩
theorem lin_skip (he : es.contains k = false) (hw : ∀ xs, Region.wanted o (yielded ops (F xs).tmps) = false)
    (hF : ∀ xs, (F xs).put o.dst undef = F' xs) (hs : Lin P ops Q R w0 es tail l (k + 1) (S ++ [.det undef]) F') : Lin P ops Q R w0 es tail (o :: l) k S F :=
  ⟨.det undef, (fun h => by rw [he] at h; cases h), fun xs W hW hd => by rw [if_neg (by rw [hw xs]; decide)], by
    have : (fun xs => (F xs).put o.dst (Slot.val (.det undef) (xs k))) = F' := funext hF
    rw [this]; exact hs⟩
/-- an operation that yields v in every world, and leaves the world alone -/
theorem lin_pure {v : Value} (hw : ∀ xs, Region.wanted o (yielded ops (F xs).tmps) = true) (h : ∀ xs W, R w0 W → (∀ j f, reachB ops f k j = true → factAt S j (xs j) W) → ∀ w', (execOp (F xs).eval o).run P w' = .ok (.value v) w')
    (hF : ∀ xs, (F xs).put o.dst v = F' xs) (hs : Lin P ops Q R w0 es tail l (k + 1) (S ++ [.pure v]) F') : Lin P ops Q R w0 es tail (o :: l) k S F :=
  ⟨.pure v, (fun _ => rfl), fun xs W hW hd => by rw [if_pos (hw xs)]; exact h xs W hW hd, by
    have : (fun xs => (F xs).put o.dst (Slot.val (.pure v) (xs k))) = F' := funext hF
    rw [this]; exact hs⟩
/-- an operation that leaves something of which G holds from then on -/
theorem lin_any (G : Value → World → Prop) (fr : Bool) (hG : ∀ v W W', R W W' → G v W → G v W') (he : es.contains k = false) (hw : ∀ xs, Region.wanted o (yielded ops (F xs).tmps) = true)
    (h : ∀ xs W, R w0 W → (∀ j f, reachB ops f k j = true → factAt S j (xs j) W) → ∀ K : Act → World → Prop,
      Shut (∀ a W', a.defers = (F xs).defers → R W W' → G (slotOf o a) W' → (fr = true → NewIn W W' (slotOf o a)) → K a W') → Oper.wp P o (F xs) W K noQ)
    (hF : ∀ xs, (F xs).put o.dst (xs k) = F' xs) (hs : Lin P ops Q R w0 es tail l (k + 1) (S ++ [.any G fr]) F') : Lin P ops Q R w0 es tail (o :: l) k S F :=
  ⟨.any G fr, (fun h => by rw [he] at h; cases h), ⟨hG, fun xs W hW hd K hK => by rw [if_pos (hw xs)]; exact h xs W hW hd K hK⟩, by
    have : (fun xs => (F xs).put o.dst (Slot.val (.any G fr) (xs k))) = F' := funext hF
    rw [this]; exact hs⟩
end
end Go.Proofs.Ytcffgjhmpgdfpaa

/- Facts that a drawn region's operations leave, as words: houses, lists, answers. -/
namespace Go.Proofs.Ytcffgjhmpgdfpaa
open Go Go.RowKit

/-- v is a House of the program that reads as c -/
def IsHou (c : Hou) (n1 n2 n3 : Nat) (v : Value) (W : World) : Prop :=
  ∃ B1 j1 B2 j2 B3 j3, v = .agg #[.int .i64 c.hour, .int .i64 c.grace, .slice B1 n1 j1, .slice B2 n2 j2, .slice B3 n3 j3] ∧ CV W c B1 n1 B2 n2 B3 n3 ∧ n1 ≤ j1 ∧ n2 ≤ j2 ∧ n3 ≤ j3
theorem IsHou.later {c : Hou} {n1 n2 n3 : Nat} {v : Value} {W W' : World} (h : IsHou c n1 n2 n3 v W) (k : Later W W') : IsHou c n1 n2 n3 v W' := by
  obtain ⟨B1, j1, B2, j2, B3, j3, e, hc, h1, h2, h3⟩ := h
  exact ⟨B1, j1, B2, j2, B3, j3, e, hc.later k, h1, h2, h3⟩
/-- v is a list of n numbers -/
def IsL (n : Nat) (l : List Int) (v : Value) (W : World) : Prop := ∃ A k, v = .slice A n k ∧ RI W A n l ∧ n ≤ k
theorem IsL.later {n : Nat} {l : List Int} {v : Value} {W W' : World} (h : IsL n l v W) (k : Later W W') : IsL n l v W' := by
  obtain ⟨A, j, e, hr, hk⟩ := h
  exact ⟨A, j, e, hr.later k, hk⟩
/-- v reads as a list -/
def IsR (n : Nat) (l : List Int) (v : Value) (W : World) : Prop := ∃ A k, v = .slice A n k ∧ RI W A n l
theorem IsR.later {n : Nat} {l : List Int} {v : Value} {W W' : World} (h : IsR n l v W) (k : Later W W') : IsR n l v W' := by
  obtain ⟨A, j, e, hr⟩ := h
  exact ⟨A, j, e, hr.later k⟩
/-- v is an answer: a list of n numbers, and an error -/
def IsLE (n : Nat) (l : List Int) (q : Int) (v : Value) (W : World) : Prop := ∃ A k, v = .tuple #[.slice A n k, .int .i64 q] ∧ RI W A n l ∧ n ≤ k
theorem IsLE.later {n : Nat} {l : List Int} {q : Int} {v : Value} {W W' : World} (h : IsLE n l q v W) (k : Later W W') : IsLE n l q v W' := by
  obtain ⟨A, j, e, hr, hk⟩ := h
  exact ⟨A, j, e, hr.later k, hk⟩
/-- v is a new slice of one element -/
def IsNew (t : TypeId) (cs : List Value) (v : Value) (W : World) : Prop := ∃ g, v = .slice (some ⟨g, 0, none⟩) 1 1 ∧ Blk W g t cs.toArray
theorem IsNew.later {t : TypeId} {cs : List Value} {v : Value} {W W' : World} (h : IsNew t cs v W) (k : Later W W') : IsNew t cs v W' := by
  obtain ⟨g, e, hb⟩ := h
  exact ⟨g, e, hb.later k⟩
/-- v points to a new block -/
def IsBox (t : TypeId) (cs : List Value) (v : Value) (W : World) : Prop := ∃ g, v = .pointer (some ⟨g, 0, none⟩) ∧ Blk W g t cs.toArray
theorem IsBox.later {t : TypeId} {cs : List Value} {v : Value} {W W' : World} (h : IsBox t cs v W) (k : Later W W') : IsBox t cs v W' := by
  obtain ⟨g, e, hb⟩ := h
  exact ⟨g, e, hb.later k⟩
/-- v is a row of the caller's own -/
def IsOwn (base : Nat) (t : TypeId) (size n : Nat) (xs : List Value) (v : Value) (W : World) : Prop := W.ownsRow base t size v n xs
theorem IsOwn.later {w0 : World} {t : TypeId} {size n : Nat} {xs : List Value} {v : Value} {W W' : World} (h : IsOwn w0.heap.size t size n xs v W) (k : Later W W') : IsOwn w0.heap.size t size n xs v W' := own_later h k
theorem Blk.one {W : World} {g : Nat} {t : TypeId} {cs : List Value} (h : Blk W g t cs.toArray) : ∀ j u, cs[j]? = some u → W.cell? ((⟨g, 0, none⟩ : Addr).add j) = some u := fun j u hj => by
  rw [add_lit, Nat.zero_add, h.cell, List.getElem?_toArray]; exact hj
end Go.Proofs.Ytcffgjhmpgdfpaa

/- The reference's Truths: walk. -/
namespace Go.Proofs.Ytcffgjhmpgdfpaa
open Go Go.RowKit

/-- cells that hold slices, which read as lists of numbers -/
def Rows2 (w : World) (vs : List Value) (ls : List (List Int)) : Prop :=
  vs.length = ls.length ∧ ∀ (i : Nat) (l : List Int), ls[i]? = some l → ∃ A n k, vs[i]? = some (Value.slice A n k) ∧ RI w A n l
theorem Rows2.nil (w : World) : Rows2 w [] [] := ⟨rfl, fun i l h => by simp at h⟩
theorem Rows2.later {w W : World} {vs : List Value} {ls : List (List Int)} (h : Rows2 w vs ls) (k : Later w W) : Rows2 W vs ls :=
  ⟨h.1, fun i l hi => let ⟨A, n, k', e, hr⟩ := h.2 i l hi; ⟨A, n, k', e, hr.later k⟩⟩
theorem Rows2.snoc {w : World} {vs : List Value} {ls : List (List Int)} (h : Rows2 w vs ls) {A : Option Addr} {n k : Nat} {l : List Int} (hr : RI w A n l) : Rows2 w (vs ++ [.slice A n k]) (ls ++ [l]) := by
  refine ⟨by simp [h.1], fun i m hi => ?_⟩
  rcases Nat.lt_or_ge i ls.length with hlt | hge
  · rw [List.getElem?_append_left hlt] at hi
    obtain ⟨A', n', k', e, hr'⟩ := h.2 i m hi
    exact ⟨A', n', k', by rw [List.getElem?_append_left (by rw [h.1]; exact hlt)]; exact e, hr'⟩
  · rw [List.getElem?_append_right hge] at hi
    have : i - ls.length = 0 := by
      rcases Nat.eq_zero_or_pos (i - ls.length) with h | h
      · exact h
      · rw [List.getElem?_eq_none (by simp; omega)] at hi; cases hi
    rw [this] at hi
    simp at hi; subst hi
    exact ⟨A, n, k, by rw [List.getElem?_append_right (by rw [h.1]; exact hge), h.1, this]; rfl, hr⟩
/-- .. none of them in the block of v -/
def Rows3 (w : World) (v : Value) (vs : List Value) (ls : List (List Int)) : Prop :=
  vs.length = ls.length ∧ ∀ (i : Nat) (l : List Int), ls[i]? = some l → ∃ A n k, vs[i]? = some (Value.slice A n k) ∧ RI w A n l ∧ ∀ b o, A = some ⟨b, o, none⟩ → b < w.heap.size ∧ v.ownBlock ≠ some b
theorem Rows3.later {w W : World} {v : Value} {vs : List Value} {ls : List (List Int)} (h : Rows3 w v vs ls) (k : Later w W) : Rows3 W v vs ls :=
  ⟨h.1, fun i l hi => let ⟨A, n, k', e, hr, hb⟩ := h.2 i l hi; ⟨A, n, k', e, hr.later k, fun b o hA => ⟨Nat.lt_of_lt_of_le (hb b o hA).1 k.size, (hb b o hA).2⟩⟩⟩
theorem RRI.of_rows {w : World} {A : Option Addr} {n : Nat} {vs : List Value} {ls : List (List Int)} (h1 : Reads w w.heap.size 1 A n vs) (h2 : Rows2 w vs ls) : RRI w A n ls := ⟨vs, h1, h2.1, h2.2⟩

theorem row_info : (Try.prog.info? 35).map (fun i => (i.zero, i.size, i.bytes)) = some (some (.slice none 0 0), 1, 24) := by kernel_rfl

def allTo (c : Hou) (j : Nat) : List (List Int) := (List.range j).map fun (n : Nat) => nth c.clocks n
theorem allTo_succ (c : Hou) (j : Nat) : allTo c (j + 1) = allTo c j ++ [nth c.clocks j] := by simp [allTo, List.range_succ]

theorem Appended.rows {w0 W w' : World} {e : TypeId} {size n : Nat} {v v' : Value} {xs news : List Value} (h : Appended w0 W w' e size v v' n xs news) {vs : List Value} {ls : List (List Int)}
    (hr : Rows3 W v vs ls) : Rows3 w' v' vs ls :=
  ⟨hr.1, fun i l hi => by
    obtain ⟨A, m, k', e1, hri, hne⟩ := hr.2 i l hi
    refine ⟨A, m, k', e1, h.ri hri fun b o hA => (hne b o hA).2, fun b o hA => ?_⟩
    obtain ⟨h1, h2⟩ := hne b o hA
    refine ⟨Nat.lt_trans h1 h.size, ?_⟩
    rcases h.at_ with e2 | ⟨g, e2, hg⟩
    · rw [e2]; exact h2
    · rw [e2]; intro e3; injection e3 with e3; omega⟩
theorem Rows3.snoc {w : World} {v : Value} {vs : List Value} {ls : List (List Int)} (h : Rows3 w v vs ls) {A : Option Addr} {n k : Nat} {l : List Int} (hr : RI w A n l)
    (hf : ∀ b o, A = some ⟨b, o, none⟩ → b < w.heap.size ∧ v.ownBlock ≠ some b) : Rows3 w v (vs ++ [.slice A n k]) (ls ++ [l]) := by
  refine ⟨by simp [h.1], fun i m hi => ?_⟩
  rcases Nat.lt_or_ge i ls.length with hlt | hge
  · rw [List.getElem?_append_left hlt] at hi
    obtain ⟨A', n', k', e, hr'⟩ := h.2 i m hi
    exact ⟨A', n', k', by rw [List.getElem?_append_left (by rw [h.1]; exact hlt)]; exact e, hr'⟩
  · rw [List.getElem?_append_right hge] at hi
    have : i - ls.length = 0 := by
      rcases Nat.eq_zero_or_pos (i - ls.length) with h | h
      · exact h
      · rw [List.getElem?_eq_none (by simp; omega)] at hi; cases hi
    rw [this] at hi
    simp at hi; subst hi
    exact ⟨A, n, k, by rw [List.getElem?_append_right (by rw [h.1]; exact hge), h.1, this]; rfl, hr, hf⟩
theorem Rows3.rows {w : World} {v : Value} {vs : List Value} {ls : List (List Int)} (h : Rows3 w v vs ls) : Rows2 w vs ls :=
  ⟨h.1, fun i l hi => let ⟨A, n, k, e, hr, _⟩ := h.2 i l hi; ⟨A, n, k, e, hr⟩⟩

def trTo (c : Hou) (j : Nat) : List (List Int) := (allTo c j).filter fun d => risingR c d (full c)
theorem trTo_succ (c : Hou) (j : Nat) : trTo c (j + 1) = trTo c j ++ (if risingR c (nth c.clocks j) (full c) then [nth c.clocks j] else []) := by
  unfold trTo
  rw [allTo_succ, List.filter_append]
  congr 1
  cases h : risingR c (nth c.clocks j) (full c) <;> simp [h]
theorem trTo_len (c : Hou) (j : Nat) : (trTo c j).length ≤ j := by
  have := List.length_filter_le (fun d => risingR c d (full c)) (allTo c j)
  have h2 : (allTo c j).length = j := by simp [allTo]
  unfold trTo; omega
theorem Rising_eq {A1 A2 A3 : Option Addr} {n1 k1 n2 k2 n3 k3 : Nat} {c : Hou} {Ad : Option Addr} {nd kd : Nat} {d : List Int} {bits : Nat} {b : Bool} (hb : risingR c d bits = b) (w : World) (hc : CV w c A1 n1 A2 n2 A3 n3) (hd : RI w Ad nd d) (ok : OkH c) (he : IsErr c d) (hbb : bits ≤ 1048576) :
    Calls Try.prog 22 #[(.agg #[.int .i64 c.hour, .int .i64 c.grace, .slice A1 n1 k1, .slice A2 n2 k2, .slice A3 n3 k3]), .slice Ad nd kd, .int .i64 (bits : Int)] w fun e w' => e = .returned (.bool b) ∧ Later w w' := by
  rw [← hb]; exact Rising_calls w hc hd ok he hbb
theorem full_le {c : Hou} (ok : OkH c) : full c ≤ 1048576 := by have := pow_le20 (j := c.clips.length) (by have := ok.n3; omega); unfold full; omega
set_option maxRecDepth 100000 in
set_option maxHeartbeats 1000000 in
theorem Truths_calls {A1 A2 A3 : Option Addr} {n1 k1 n2 k2 n3 k3 : Nat} {c : Hou} (w : World) (hc : CV w c A1 n1 A2 n2 A3 n3) (ok : OkH c) (hm : many c ≤ 3000) :
    Calls Try.prog 7 #[(.agg #[.int .i64 c.hour, .int .i64 c.grace, .slice A1 n1 k1, .slice A2 n2 k2, .slice A3 n3 k3])] w fun e w' => ∃ A m k, e = .returned (.slice A m k) ∧ Later w w' ∧ RRI w' A m (truths c) := by
  have okh := ok.clock
  have hl1 : n1 ≤ 1000 := by have := ok.n1; have := hc.ck.len; omega
  have hl3 : n3 ≤ 20 := by have := ok.n3; have := hc.cp.len; omega
  have hmr := many_range okh
  have hfl := full_le ok
  obtain ⟨w0, hw0⟩ : ∃ W, W = (w.alloc (.cells #[.int .i64 c.hour, .int .i64 c.grace, .slice A1 n1 k1, .slice A2 n2 k2, .slice A3 n3 k3] 26)) := ⟨_, rfl⟩; have hbox : ∀ W, Later w0 W → ∀ i, W.cell? ⟨w.heap.size, i, none⟩ = #[.int .i64 c.hour, .int .i64 c.grace, .slice A1 n1 k1, .slice A2 n2 k2, .slice A3 n3 k3][i]? := (by rw [hw0]; exact box_cells w #[.int .i64 c.hour, .int .i64 c.grace, .slice A1 n1 k1, .slice A2 n2 k2, .slice A3 n3 k3] 26); have hL0 : Later w w0 := (by rw [hw0]; simp); have hc0 := hc.later hL0; have Hw0 := hide hw0; clear hw0
  go_enter Try.func7, Try.ntmps7
  go_wp2_with fail
  rw [← Hw0.out]; clear Hw0
  go_loopw [3, 4, 5] (fun v i _ wr => ∃ (j : Nat) (vs : List Value), (j : Int) ≤ many c ∧ i = .int .i64 j ∧ wr.ownsRow w0.heap.size 35 1 v (trTo c j).length vs ∧
    Rows3 wr v vs (trTo c j) ∧ Later w0 wr) (fun _ i _ _ => (many c - intOf i).toNat)
  case atStart => exact ⟨0, [], by omega, rfl, World.ownsRow_nil _ _ _ _, ⟨rfl, fun i l h => by simp [trTo, allTo] at h⟩, later_refl _⟩
  case round =>
    obtain ⟨j, vs, hj, rfl, hown, hrows, hL⟩ := hrel
    go_wp2_with fail
    refine (Many_calls _ (hc0.later hL) okh (by omega)).mono ?_
    rintro e w1 ⟨rfl, hL1⟩
    have hL2 := Later.trans hL hL1
    have hown1 := own_later hown hL1
    have hrows1 : Rows3 w1 _ vs _ := hrows.later hL1
    by_cases hlt : (j : Int) < many c
    · have hj2 : j ≤ 3000 := by omega
      go_wp2_with fail
      refine (Nth_calls _ (hc0.later hL2) okh hl1 (by omega) (by omega)).mono ?_
      rintro e w2 ⟨A, m, k, rfl, hL3, hri, hfr⟩
      have hL4 := Later.trans hL2 hL3
      have hown2 := own_later hown1 hL3
      have hrows2 := hrows1.later hL3
      have hdry := nth_isErr ok (j : Int)
      have hcnt : (trTo c j).length ≤ 1000000 := by have := trTo_len c j; omega
      have hsu := trTo_succ c j
      have hne := hfr.apart hown1
      have hbox2 := fun W (hh : Later w2 W) => hbox W (Later.trans hL4 hh)
      generalize nth c.clocks (j : Int) = d at *
      clear hown hown1 hrows hrows1
      cases hb : risingR c d (full c) with
      | true =>
        rw [hb, if_pos rfl] at hsu
        generalize trTo c j = ls at *
        have Hsu := hide hsu
        have Hb := hide hb
        clear hsu hb
        go_wp2_with fail
        refine wp_region_ext (w0 := w2) (by kernel_rfl) (by kernel_rfl) (later_refl _) ?_; (repeat (first | go_big_quiet_step ((first | (go_at_call 22; exact calls_ext (by simp) (Rising_eq Hb.out _ (hc0.later (Later.trans hL4 (by simp))) (hri.later (by simp)) ok hdry hfl)) | (go_at_call 23; exact calls_ext (by simp) (Full_calls _ (hc0.later (Later.trans hL4 (by simp))) hl3)))) | quiet_step ((first | (go_at_call 22; exact calls_ext (by simp) (Rising_eq Hb.out _ (hc0.later (Later.trans hL4 (by simp))) (hri.later (by simp)) ok hdry hfl)) | (go_at_call 23; exact calls_ext (by simp) (Full_calls _ (hc0.later (Later.trans hL4 (by simp))) hl3)))))); refine wpQuiet_nil ?_; rintro w3 ⟨⟨_, hL5⟩, rfl⟩; (try dsimp only)
        have hL6 := Later.trans hL4 hL5
        have hown3 := own_later hown2 hL5
        go_wp2_with (at_builtin; go_must (refine own_append (w0 := w0) (W := w3) (te := 35) rfl _ _ 33 rfl 35 (.slice none 0 0) 1 24 Try.underlying33 row_info rfl (by omega) u3 ls.length vs rfl hL6 hown3 [.slice A m k] rfl rfl ?_ hcnt (by omega) ?_; (simp [Value.oneCell']); intro v' w4 hap; have hown4 := hap.own; have hL7 := hap.later))
        have hrows4 := ((hrows2.later hL5).snoc (k := k) (hri.later hL5) (fun b o hA => ⟨Nat.lt_of_lt_of_le (hne b o hA).1 hL5.size, (hne b o hA).2⟩))
        have hrows5 := hap.rows hrows4
        clear hap hrows4 hrows2 hown2 hown3
        go_roundw
        case rel =>
          refine ⟨j + 1, vs ++ [.slice A m k], by omega, by go_num, ?_, ?_, hL7⟩
          · rw [Hsu.out, List.length_append]; exact hown4
          · rw [Hsu.out]; exact hrows5
        case measure => simp [intOf]; omega
      | false =>
        rw [hb, if_neg (by simp), List.append_nil] at hsu
        generalize trTo c j = ls at *
        have Hsu := hide hsu
        have Hb := hide hb
        clear hsu hb
        go_wp2_with fail
        refine wp_region_ext (w0 := w2) (by kernel_rfl) (by kernel_rfl) (later_refl _) ?_; (repeat (first | go_big_quiet_step ((first | (go_at_call 22; exact calls_ext (by simp) (Rising_eq Hb.out _ (hc0.later (Later.trans hL4 (by simp))) (hri.later (by simp)) ok hdry hfl)) | (go_at_call 23; exact calls_ext (by simp) (Full_calls _ (hc0.later (Later.trans hL4 (by simp))) hl3)))) | quiet_step ((first | (go_at_call 22; exact calls_ext (by simp) (Rising_eq Hb.out _ (hc0.later (Later.trans hL4 (by simp))) (hri.later (by simp)) ok hdry hfl)) | (go_at_call 23; exact calls_ext (by simp) (Full_calls _ (hc0.later (Later.trans hL4 (by simp))) hl3)))))); refine wpQuiet_nil ?_; rintro w3 ⟨⟨_, hL5⟩, rfl⟩; (try dsimp only)
        go_wp2_with fail
        go_roundw
        case rel =>
          refine ⟨j + 1, vs, by omega, by go_num, ?_, ?_, Later.trans hL4 hL5⟩
          · rw [Hsu.out]; exact own_later hown2 hL5
          · rw [Hsu.out]; exact hrows2.later hL5
        case measure => simp [intOf]; omega
    · have hjm : (j : Int) = many c := by omega
      have hf : trTo c j = truths c := by
        unfold truths allErr trTo allTo; rw [← hjm, Int.toNat_natCast]
      rw [hf] at hown1 hrows1
      obtain ⟨A, k, rfl, hrd⟩ := own_slice hown1
      have Hf := hide hf
      clear hf hown hown1 hrows
      have Hjm := hide hjm
      clear hjm
      go_wp2_with fail
      go_ret
      exact ⟨A, _, k, rfl, Later.trans hL0 hL2, RRI.of_rows hrd hrows1.rows⟩
end Go.Proofs.Ytcffgjhmpgdfpaa

/- The reference's Fault of a floor: walk. -/
namespace Go.Proofs.Ytcffgjhmpgdfpaa
open Go Go.RowKit
set_option maxRecDepth 100000 in
set_option maxHeartbeats 4000000 in
theorem SFault_calls {A1 A2 A3 Aq : Option Addr} {n1 k1 n2 k2 n3 k3 nq kq : Nat} {f : Flo} {q : Int} (w : World) (hc : FV w f A1 n1 A2 n2 A3 n3 Aq nq) (hq : faultF f = q) (hn1 : n1 ≤ 1000) (hn2 : n2 ≤ 1000) (hn3 : n3 ≤ 1000) (hnq : nq ≤ 1000) :
    Calls Try.prog 5 #[(.agg #[.int .i64 f.house.hour, .int .i64 f.house.grace, .slice A1 n1 k1, .slice A2 n2 k2, .slice A3 n3 k3, .int .i64 f.tubs, .int .i64 f.opn, .int .i64 f.closing, .slice Aq nq kq])] w fun e w' => e = .returned (.int .i64 q) ∧ Later w w' := by
  unfold faultF at hq
  have hlq : f.queue.length = nq := hc.q.len.symm
  rw [hlq] at hq
  obtain ⟨w0, hw0⟩ : ∃ W, W = w.alloc (.cells #[.int .i64 f.house.hour, .int .i64 f.house.grace, .slice A1 n1 k1, .slice A2 n2 k2, .slice A3 n3 k3, .int .i64 f.tubs, .int .i64 f.opn, .int .i64 f.closing, .slice Aq nq kq] 28) := ⟨_, rfl⟩
  have hbox : ∀ W, Later w0 W → ∀ i, W.cell? ⟨w.heap.size, i, none⟩ = #[.int .i64 f.house.hour, .int .i64 f.house.grace, .slice A1 n1 k1, .slice A2 n2 k2, .slice A3 n3 k3, .int .i64 f.tubs, .int .i64 f.opn, .int .i64 f.closing, .slice Aq nq kq][i]? := (by rw [hw0]; exact box_cells w #[.int .i64 f.house.hour, .int .i64 f.house.grace, .slice A1 n1 k1, .slice A2 n2 k2, .slice A3 n3 k3, .int .i64 f.tubs, .int .i64 f.opn, .int .i64 f.closing, .slice Aq nq kq] 28)
  have hL0 : Later w w0 := (by rw [hw0]; simp)
  have hc0 := hc.later hL0
  have Hw0 := hide hw0
  clear hw0
  have b0 := fun W (h : Later w0 W) => hbox W h 0
  have b1 := fun W (h : Later w0 W) => hbox W h 1
  have b2 := fun W (h : Later w0 W) => hbox W h 2
  have b3 := fun W (h : Later w0 W) => hbox W h 3
  have b4 := fun W (h : Later w0 W) => hbox W h 4
  have b5 := fun W (h : Later w0 W) => hbox W h 5
  have b6 := fun W (h : Later w0 W) => hbox W h 6
  have b7 := fun W (h : Later w0 W) => hbox W h 7
  have b8 := fun W (h : Later w0 W) => hbox W h 8
  simp only [List.getElem?_toArray, List.getElem?_cons_zero, List.getElem?_cons_succ] at b0 b1 b2 b3 b4 b5 b6 b7 b8
  clear hbox
  obtain ⟨p, hp⟩ : ∃ p, fault f.house = p := ⟨_, rfl⟩
  rw [hp] at hq
  have Hp := hide hp
  clear hp
  by_cases he : p = 0
  · subst he
    rw [if_neg (show ¬ (0 : Int) ≠ 0 by omega)] at hq
    have Hok := hide (okH_of_fault Hp.out)
    have Hmany := hide (many_le Hp.out)
    by_cases ht : truths f.house = []
    · rw [if_pos ht] at hq
      subst hq
      have Ht := hide ht
      clear ht
      go_enter Try.func5, Try.ntmps5
      go_upto_region 1 with fail
      rw [← Hw0.out]
      clear Hw0
      have hLs := later_refl w0
      go_wp2_with fail
      refine (Fault_calls (c := f.house) (k1 := k1) (k2 := k2) (k3 := k3) _ hc0.cv hn1 hn2 hn3).mono ?_
      rintro e w1 ⟨rfl, hL1⟩
      rw [Hp.out]
      go_wp2_with fail
      refine (Truths_calls (c := f.house) (k1 := k1) (k2 := k2) (k3 := k3) _ (hc0.cv.later hL1) Hok.out (by have := Hmany.out; omega)).mono ?_
      rintro e w2 ⟨At, m, kt, rfl, hL12, hrr⟩
      have Hm := hide (hrr.len)
      have hL2 := Later.trans hL1 hL12
      clear hrr hL1 hL12
      have hm : m = 0 := by have := Hm.out; rw [Ht.out] at this; simpa using this
      subst hm
      go_wp2_with fail
      go_ret
      exact ⟨rfl, Later.trans hL0 hL2⟩
    · rw [if_neg ht] at hq
      have Ht := hide ht
      have Hq := hide hq
      clear ht hq
      go_enter Try.func5, Try.ntmps5
      go_upto_region 1 with fail
      rw [← Hw0.out]
      clear Hw0
      have hLs := later_refl w0
      go_wp2_with fail
      refine (Fault_calls (c := f.house) (k1 := k1) (k2 := k2) (k3 := k3) _ hc0.cv hn1 hn2 hn3).mono ?_
      rintro e w1 ⟨rfl, hL1⟩
      rw [Hp.out]
      go_wp2_with fail
      refine (Truths_calls (c := f.house) (k1 := k1) (k2 := k2) (k3 := k3) _ (hc0.cv.later hL1) Hok.out (by have := Hmany.out; omega)).mono ?_
      rintro e w2 ⟨At, m, kt, rfl, hL12, hrr⟩
      have Hm := hide (hrr.len)
      have hL2 := Later.trans hL1 hL12
      clear hrr hL1 hL12
      have hm : m ≠ 0 := fun h => Ht.out (List.length_eq_zero_iff.1 (by have := Hm.out; omega))
      have hmb : ((m : Int) == 0) = false := by rw [beq_eq_false_iff_ne]; omega
      clear Hm
      by_cases hA : 4 < f.tubs
      · have hq := Hq.out
        rw [if_pos (.inl hA)] at hq
        subst hq
        go_wp2_with fail
        go_ret
        exact ⟨rfl, Later.trans hL0 hL2⟩
      by_cases hB : 5 < nq
      · have hq := Hq.out
        rw [if_pos (.inr hB)] at hq
        subst hq
        have hB' : (5 : Int) < nq := by omega
        go_wp2_with fail
        go_ret
        exact ⟨rfl, Later.trans hL0 hL2⟩
      have hB' : ¬ (5 : Int) < nq := by omega
      by_cases hC : f.tubs < 1
      · have hq := Hq.out
        rw [if_neg (show ¬ (4 < f.tubs ∨ 5 < nq) by omega), if_pos (.inl hC)] at hq
        subst hq
        go_wp2_with fail
        go_ret
        exact ⟨rfl, Later.trans hL0 hL2⟩
      by_cases hD : f.opn < 0
      · have hq := Hq.out
        rw [if_neg (show ¬ (4 < f.tubs ∨ 5 < nq) by omega), if_pos (.inr (.inl hD))] at hq
        subst hq
        go_wp2_with fail
        go_ret
        exact ⟨rfl, Later.trans hL0 hL2⟩
      by_cases hE : f.closing < f.opn
      · have hq := Hq.out
        rw [if_neg (show ¬ (4 < f.tubs ∨ 5 < nq) by omega), if_pos (.inr (.inr (.inl hE)))] at hq
        subst hq
        go_wp2_with fail
        go_ret
        exact ⟨rfl, Later.trans hL0 hL2⟩
      by_cases hF : 1439 < f.closing
      · have hq := Hq.out
        rw [if_neg (show ¬ (4 < f.tubs ∨ 5 < nq) by omega), if_pos (.inr (.inr (.inr hF)))] at hq
        subst hq
        go_wp2_with fail
        go_ret
        exact ⟨rfl, Later.trans hL0 hL2⟩
      have hq : (if f.queue.all washOk = false then (1 : Int) else 0) = q := by
        have := Hq.out
        rwa [if_neg (show ¬ (4 < f.tubs ∨ 5 < nq) by omega), if_neg (show ¬ (f.tubs < 1 ∨ f.opn < 0 ∨ f.closing < f.opn ∨ 1439 < f.closing) by omega)] at this
      have Hq2 := hide hq
      have Hlq := hide hlq
      clear hq hlq Hq
      go_wp2_with fail
      go_loopw [4] (fun v wr => ∃ j : Nat, j ≤ nq ∧ v = .int .i64 j ∧ Later w0 wr ∧ Hid ((List.range j).all (fun i => washOk (f.queue.getD i (0, 0))) = true)) (fun v _ => nq - (intOf v).toNat)
      case atStart => exact ⟨0, Nat.zero_le _, rfl, hL2, rfl⟩
      case round =>
        obtain ⟨j, hj, rfl, hL, Hall⟩ := hrel
        by_cases hlt : j < nq
        · obtain ⟨b, o, y, rfl, _, hy, hy0, hy1⟩ := hc0.q.get hlt
          have hi1 : (j : Int) < nq := by omega
          have e0 := hy0 _ hL
          have e1 := hy1 _ hL
          have hmem : y ∈ f.queue := List.mem_of_getElem? hy
          have hbad : washOk y = false → q = 1 := fun hw => by
            have := Hq2.out
            rw [if_pos] at this
            · exact this.symm
            · rw [← Bool.not_eq_true, List.all_eq_true]
              intro hall
              rw [hall y hmem] at hw
              cases hw
          have hstep : washOk y = true → (List.range (j + 1)).all (fun i => washOk (f.queue.getD i (0, 0))) = true := fun hw => by
            rw [range_all_succ, Hall.out, Bool.true_and, List.getD_eq_getElem?_getD, hy]
            exact hw
          have hiff := washOk_iff y
          by_cases g1 : y.1 < 0
          · have Hb : Hid (q = 1) := hbad (by rw [← Bool.not_eq_true]; rw [hiff]; omega)
            clear hy hmem hbad hstep hiff hy0 hy1
            go_wp2_with fail
            go_ret
            exact ⟨by rw [Hb.out]; rfl, Later.trans hL0 (Later.trans hL (by simp))⟩
          by_cases g2 : y.2 < y.1
          · have Hb : Hid (q = 1) := hbad (by rw [← Bool.not_eq_true]; rw [hiff]; omega)
            clear hy hmem hbad hstep hiff hy0 hy1
            go_wp2_with fail
            go_ret
            exact ⟨by rw [Hb.out]; rfl, Later.trans hL0 (Later.trans hL (by simp))⟩
          by_cases g3 : 240 < y.2
          · have Hb : Hid (q = 1) := hbad (by rw [← Bool.not_eq_true]; rw [hiff]; omega)
            clear hy hmem hbad hstep hiff hy0 hy1
            go_wp2_with fail
            go_ret
            exact ⟨by rw [Hb.out]; rfl, Later.trans hL0 (Later.trans hL (by simp))⟩
          have Hs := hide (hstep (hiff.2 (by omega)))
          clear hy hmem hbad hstep hiff hy0 hy1 Hall
          go_wp2_with fail
          go_roundw
          case rel => exact ⟨j + 1, by omega, by go_num, Later.trans hL (by simp), Hs⟩
          case measure => simp [intOf]; omega
        · have hfin : q = 0 := by
            have h1 := Hq2.out
            rw [if_neg] at h1
            · exact h1.symm
            · rw [Bool.not_eq_false, List.all_eq_true]
              intro y hy
              obtain ⟨i, hi, rfl⟩ := List.mem_iff_getElem.1 hy
              have := List.all_eq_true.1 Hall.out i (by rw [List.mem_range]; have := Hlq.out; omega)
              rwa [List.getD_eq_getElem?_getD, List.getElem?_eq_getElem hi] at this
          have Hfin := hide hfin
          have hi1 : ¬ (j : Int) < nq := by omega
          clear hfin Hall
          go_wp2_with fail
          go_ret
          exact ⟨by rw [Hfin.out]; rfl, Later.trans hL0 hL⟩
  · rw [if_pos he] at hq
    subst hq
    have hpb : (p != 0) = true := by simpa using he
    go_enter Try.func5, Try.ntmps5
    go_upto_region 1 with fail
    rw [← Hw0.out]
    clear Hw0
    have hLs := later_refl w0
    go_wp2_with fail
    refine (Fault_calls (c := f.house) (k1 := k1) (k2 := k2) (k3 := k3) _ hc0.cv hn1 hn2 hn3).mono ?_
    rintro e w1 ⟨rfl, hL1⟩
    rw [Hp.out]
    go_wp2_with fail
    go_ret
    exact ⟨rfl, Later.trans hL0 hL1⟩
end Go.Proofs.Ytcffgjhmpgdfpaa

/- The program's long, clash: walks. -/
namespace Go.Proofs.Ytcffgjhmpgdfpaa
open Go Go.RowKit

def cameP (d : List Int) (la lb : List Cp) : Bool :=
  match lb with
  | _ :: b :: _ => match la with
    | a :: _ => decide (minuteC d a < minuteC d b)
    | [] => true
  | _ => true
def clashL (d : List Int) (la lb : List Cp) : Bool := !la.isEmpty && (!lb.isEmpty && (cameP d la lb && cameP d lb la))
theorem cameB_ofP (c : Hou) (d : List Int) (t o : Int) : cameB c d t o = cameP d (ofP c t) (ofP c o) := by
  unfold cameB cameP
  rw [← ofP_map, ← ofP_map]
  match ofR c o, ofR c t with
  | [], _ => rfl
  | [_], _ => rfl
  | _ :: _ :: _, [] => rfl
  | _ :: _ :: _, _ :: _ => rfl
theorem clashB_ofP (c : Hou) (d : List Int) (i o : Nat) : clashB c d i o = (decide ((tickAt c i).1 = (tickAt c o).1) && clashL d (ofP c i) (ofP c o)) := by
  have h : ∀ t : Int, (ofR c t).isEmpty = (ofP c t).isEmpty := fun t => by rw [← ofP_map]; cases ofR c t <;> rfl
  unfold clashB clashL
  rw [cameB_ofP, cameB_ofP, h, h]
  simp only [Bool.and_assoc]
section
variable {A1 A2 A3 At : Option Addr} {n1 k1 n2 k2 n3 k3 nt kt bw bm : Nat} {c : Hou} {tr : List (List Int)}
set_option maxRecDepth 100000 in
set_option maxHeartbeats 2000000 in
theorem clash_calls {d : List Int} {e0 e1 e2 e3 : Int} {i o : Nat} (w : World) (hw : WK w bw c A1 n1 k1 A2 n2 k2 A3 n3 k3 At nt kt tr bm) (ok : OkH c) (hd : IsErr c d) (hp : pad4 d = [e0, e1, e2, e3]) (hi : i < n2) (ho : o < n2) :
    Calls Try.prog 42 #[.pointer (some ⟨bw, 0, none⟩), .agg #[.int .i64 e0, .int .i64 e1, .int .i64 e2, .int .i64 e3], .int .i64 (i : Int), .int .i64 (o : Int)] w fun e w' => e = .returned (.bool (clashB c d i o)) ∧ Later w w' := by
  have hm3 : n3 ≤ 1000 := by have := hw.cv.cp.len; have := ok.n3; omega
  obtain ⟨w0, hw0⟩ : ∃ X, X = w.alloc (.cells #[.int .i64 e0, .int .i64 e1, .int .i64 e2, .int .i64 e3] 103) := ⟨_, rfl⟩
  have hb := box_cells w #[.int .i64 e0, .int .i64 e1, .int .i64 e2, .int .i64 e3] 103
  rw [← hw0] at hb
  have hL0 : Later w w0 := by rw [hw0]; exact later_alloc (later_refl _) _
  have hwk := hw.later hL0
  have hcw := fun W (hW : Later w0 W) i => (hwk.later hW).cells i
  have c0 := fun W hW => hcw W hW 0
  have c1 := fun W hW => hcw W hW 1
  have c2 := fun W hW => hcw W hW 2
  have c3 := fun W hW => hcw W hW 3
  have c4 := fun W hW => hcw W hW 4
  simp only [List.getElem?_toArray, List.getElem?_cons_zero, List.getElem?_cons_succ] at c0 c1 c2 c3 c4
  have hS0 : Later w0 w0.drew := later_drew (later_refl _)
  have hc0 := hwk.cv
  have Hw0 := hide hw0
  have Hb := hide hb
  have Hcl := hide (clashB_ofP c d i o)
  obtain ⟨bt, ot, x, rfl, _, hx, hx0, hx1⟩ := hc0.tk.get hi
  obtain ⟨y, hy, hy0, hy1⟩ := hc0.tk.at_ ho
  rw [tickAt_of hx, tickAt_of hy] at Hcl
  have hi1 : (i : Int) < n2 := by omega
  have ho1 : (o : Int) < n2 := by omega
  have hmi : ∀ z ∈ ofP c (i : Int), z ∈ c.clips := fun z hz => ofP_mem hz
  have hmo : ∀ z ∈ ofP c (o : Int), z ∈ c.clips := fun z hz => ofP_mem hz
  have hr4 := pad4_range ok hd
  rw [hp] at hr4
  have Hmc := hide (fun (W : World) (z : Cp) (hz : z ∈ c.clips) => minute_eq (v := minuteC d z) (by rw [← hp]; exact minuteC_pad4 ok d hz) W (clip_in ok hz).1 (clip_in ok hz).2.1 (clip_in ok hz).2.2 hr4)
  clear hw0 hb hcw hx hy hx1 hy1 hr4
  go_enter Try.func42, Try.ntmps42
  go_upto_region 1 with fail
  rw [← Hw0.out]; clear Hw0
  go_region_held3 (fun W => Later w0 W) ((((repeat (first | assumption | refine later_drew ?_ | refine later_alloc ?_ _ | refine later_set ?_ _ (Nat.le_add_right _ _) _ | refine later_set ?_ _ (Nat.le_refl _) _)); done)))
    (first
      | (go_at_call 52; go_must (refine (of_calls (k1 := k1) (k2 := k2) (k3 := k3) _ (hc0.later (by assumption)) hm3).mono ?_; rintro e w2 ⟨A, k, rfl, hL2, hrc⟩; have hLw2 : Later w0 w2 := Later.trans (by assumption) hL2)))
  rename_i wa Aa ka hLa hca hLwa hS1
  have hca := hca.later hL2
  have hL00 := Later.trans hL0 hLw2
  have hx0 := fun W (hW : Later w2 W) => hx0 W (Later.trans hLw2 hW)
  have hy0 := fun W (hW : Later w2 W) => hy0 W (Later.trans hLw2 hW)
  have hcw3 := fun W (hW : Later w2 W) => c3 W (Later.trans hLw2 hW)
  have hbw := fun W (hW : Later w2 W) => Hb.out W (Later.trans hLw2 hW)
  have f0 := fun W hW => hbw W hW 0
  have f1 := fun W hW => hbw W hW 1
  have f2 := fun W hW => hbw W hW 2
  have f3 := fun W hW => hbw W hW 3
  simp only [List.getElem?_toArray, List.getElem?_cons_zero, List.getElem?_cons_succ] at f0 f1 f2 f3
  clear hbw c0 c1 c2 c3 c4 hLa hLwa hS0 Hb hS1
  generalize ofP c (i : Int) = la at *
  generalize ofP c (o : Int) = lb at *
  by_cases hxy : x.1 = y.1
  · have hnb : (x.1 != y.1) = false := by simpa using hxy
    rw [decide_eq_true hxy, Bool.true_and] at Hcl
    clear hxy
    match la, lb with
    | [], lb =>
      have Hf : Hid (clashB c d i o = false) := Hcl.out
      have hz : (((([] : List Cp).length : Nat) : Int) == 0) = true := rfl
      generalize ([] : List Cp).length = na at *
      clear Hcl hca hrc hmi hmo
      go_upto_region 2 with fail
      refine wp_region_ext (w0 := w2) (by kernel_rfl) (by kernel_rfl) (later_refl _) ?_; (repeat (first | go_big_quiet_step (((fail))) | quiet_step (((fail))))); refine wpQuiet_nil ?_; rintro w3 ⟨⟨_, hL3⟩, rfl⟩; (try dsimp only)
      go_wp2_with fail
      go_ret
      exact ⟨by rw [Hf.out]; rfl, Later.trans hL00 hL3⟩
    | a :: la, [] =>
      have Hf : Hid (clashB c d i o = false) := Hcl.out
      have hz0 : ((((a :: la).length : Nat) : Int) == 0) = false := by simp only [List.length_cons, beq_eq_false_iff_ne]; omega
      have hz : (((([] : List Cp).length : Nat) : Int) == 0) = true := rfl
      generalize ([] : List Cp).length = nb at *
      generalize (a :: la).length = na at *
      clear Hcl hca hrc hmi hmo
      go_upto_region 2 with fail
      refine wp_region_ext (w0 := w2) (by kernel_rfl) (by kernel_rfl) (later_refl _) ?_; (repeat (first | go_big_quiet_step (((fail))) | quiet_step (((fail))))); refine wpQuiet_nil ?_; rintro w3 ⟨⟨_, hL3⟩, rfl⟩; (try dsimp only)
      go_wp2_with fail
      go_ret
      exact ⟨by rw [Hf.out]; rfl, Later.trans hL00 hL3⟩
    | [a], [b] =>
      have hz0 : (((([a]).length : Nat) : Int) == 0) = false := by simp only [List.length_cons, beq_eq_false_iff_ne]; omega
      have hz : (((([b]).length : Nat) : Int) == 0) = false := by simp only [List.length_cons, beq_eq_false_iff_ne]; omega
      have hla : ((([a]).length : Nat) : Int) < 2 := by simp only [List.length_cons, List.length_nil]; omega
      have hlb : ((([b]).length : Nat) : Int) < 2 := by simp only [List.length_cons, List.length_nil]; omega
      generalize hna : ([a] : List Cp).length = na at *
      generalize hnb2 : ([b] : List Cp).length = nb at *
      have hla2 := decide_eq_true hla
      have hlb2 := decide_eq_true hlb
      have Hf : Hid (clashB c d i o = (true)) := by
        show _ = _; rw [Hcl.out]; simp [clashL, cameP]
      clear Hcl hca hrc hna hnb2 hmi hmo
      go_upto_region 2 with fail
      refine wp_region_ext (w0 := w2) (by kernel_rfl) (by kernel_rfl) (later_refl _) ?_; (repeat (first | go_big_quiet_step (((fail))) | quiet_step (((fail))))); refine wpQuiet_nil ?_; rintro w3 ⟨⟨_, hL3⟩, rfl⟩; (try dsimp only)
      have f0 := fun W (hW : Later w3 W) => f0 W (Later.trans hL3 hW)
      have f1 := fun W (hW : Later w3 W) => f1 W (Later.trans hL3 hW)
      have f2 := fun W (hW : Later w3 W) => f2 W (Later.trans hL3 hW)
      have f3 := fun W (hW : Later w3 W) => f3 W (Later.trans hL3 hW)
      clear hz hz0 hx0 hy0 hcw3
      go_upto_region 4 with fail
      refine wp_region_ext (w0 := w3) (by kernel_rfl) (by kernel_rfl) (later_refl _) ?_; (repeat (first | go_big_quiet_step (((fail))) | quiet_step (((fail))))); refine wpQuiet_nil ?_; rintro w4 ⟨⟨_, hL4⟩, rfl⟩; (try dsimp only)
      go_wp2_with fail
      go_ret
      exact ⟨ret_bool (by rw [Hf.out] <;> simp [*]), Later.trans hL00 (Later.trans hL3 hL4)⟩
    | a :: a1 :: la, [b] =>
      have hz0 : ((((a :: a1 :: la).length : Nat) : Int) == 0) = false := by simp only [List.length_cons, beq_eq_false_iff_ne]; omega
      have hz : (((([b]).length : Nat) : Int) == 0) = false := by simp only [List.length_cons, beq_eq_false_iff_ne]; omega
      have hla : (2 : Int) ≤ (((a :: a1 :: la).length : Nat) : Int) := by simp only [List.length_cons]; omega
      have hlb : ((([b]).length : Nat) : Int) < 2 := by simp only [List.length_cons, List.length_nil]; omega
      obtain ⟨ba, oa, za1, rfl, _, ya1, ac10, ac11, ac12⟩ := hca.get (k := 1) (by simp)
      simp only [List.getElem?_cons_zero, List.getElem?_cons_succ, Option.some.injEq] at ya1
      subst ya1
      simp only [Nat.zero_mul, Nat.add_zero, Nat.one_mul] at ac10 ac11 ac12
      have hma1 : a1 ∈ c.clips := hmi _ (by simp)
      obtain ⟨bb, ob, zb0, rfl, _, yb0, bc00, bc01, bc02⟩ := hrc.get (k := 0) (by simp)
      simp only [List.getElem?_cons_zero, List.getElem?_cons_succ, Option.some.injEq] at yb0
      subst yb0
      simp only [Nat.zero_mul, Nat.add_zero, Nat.one_mul] at bc00 bc01 bc02
      have hmb0 : b ∈ c.clips := hmo _ (by simp)
      have hia1 : (1 : Int) < ((a :: a1 :: la : List Cp).length : Nat) := by simp only [List.length_cons, List.length_nil]; omega
      have hib0 : (0 : Int) < (([b] : List Cp).length : Nat) := by simp only [List.length_cons, List.length_nil]; omega
      generalize hna : (a :: a1 :: la : List Cp).length = na at *
      generalize hnb2 : ([b] : List Cp).length = nb at *
      have hla' : ¬ (na : Int) < 2 := by omega
      have hla2 := decide_eq_false hla'
      have hlb2 := decide_eq_true hlb
      have Hf : Hid (clashB c d i o = (decide (minuteC d b < minuteC d a1))) := by
        show _ = _; rw [Hcl.out]; simp [clashL, cameP]
      clear Hcl hca hrc hna hnb2 hmi hmo
      by_cases cb : minuteC d b < minuteC d a1
      · have cb2 := decide_eq_true cb
        go_upto_region 2 with fail
        refine wp_region_ext (w0 := w2) (by kernel_rfl) (by kernel_rfl) (later_refl _) ?_; (repeat (first | go_big_quiet_step (((fail))) | quiet_step (((fail))))); refine wpQuiet_nil ?_; rintro w3 ⟨⟨_, hL3⟩, rfl⟩; (try dsimp only)
        have f0 := fun W (hW : Later w3 W) => f0 W (Later.trans hL3 hW)
        have f1 := fun W (hW : Later w3 W) => f1 W (Later.trans hL3 hW)
        have f2 := fun W (hW : Later w3 W) => f2 W (Later.trans hL3 hW)
        have f3 := fun W (hW : Later w3 W) => f3 W (Later.trans hL3 hW)
        have ac10 := fun W (hW : Later w3 W) => ac10 W (Later.trans hL3 hW)
        have ac11 := fun W (hW : Later w3 W) => ac11 W (Later.trans hL3 hW)
        have ac12 := fun W (hW : Later w3 W) => ac12 W (Later.trans hL3 hW)
        have bc00 := fun W (hW : Later w3 W) => bc00 W (Later.trans hL3 hW)
        have bc01 := fun W (hW : Later w3 W) => bc01 W (Later.trans hL3 hW)
        have bc02 := fun W (hW : Later w3 W) => bc02 W (Later.trans hL3 hW)
        clear hz hz0 hx0 hy0 hcw3
        go_upto_region 4 with fail
        refine wp_region_ext (w0 := w3) (by kernel_rfl) (by kernel_rfl) (later_refl _) ?_; (repeat (first | go_big_quiet_step (((go_at_call 53; exact calls_ext (by simp) (Hmc.out _ _ (by assumption))))) | quiet_step (((go_at_call 53; exact calls_ext (by simp) (Hmc.out _ _ (by assumption))))))); refine wpQuiet_nil ?_; rintro w4 ⟨⟨_, hL4⟩, rfl⟩; (try dsimp only)
        go_wp2_with fail
        go_ret
        exact ⟨ret_bool (by rw [Hf.out] <;> simp [*]), Later.trans hL00 (Later.trans hL3 hL4)⟩
      · have cb2 := decide_eq_false cb
        go_upto_region 2 with fail
        refine wp_region_ext (w0 := w2) (by kernel_rfl) (by kernel_rfl) (later_refl _) ?_; (repeat (first | go_big_quiet_step (((fail))) | quiet_step (((fail))))); refine wpQuiet_nil ?_; rintro w3 ⟨⟨_, hL3⟩, rfl⟩; (try dsimp only)
        have f0 := fun W (hW : Later w3 W) => f0 W (Later.trans hL3 hW)
        have f1 := fun W (hW : Later w3 W) => f1 W (Later.trans hL3 hW)
        have f2 := fun W (hW : Later w3 W) => f2 W (Later.trans hL3 hW)
        have f3 := fun W (hW : Later w3 W) => f3 W (Later.trans hL3 hW)
        have ac10 := fun W (hW : Later w3 W) => ac10 W (Later.trans hL3 hW)
        have ac11 := fun W (hW : Later w3 W) => ac11 W (Later.trans hL3 hW)
        have ac12 := fun W (hW : Later w3 W) => ac12 W (Later.trans hL3 hW)
        have bc00 := fun W (hW : Later w3 W) => bc00 W (Later.trans hL3 hW)
        have bc01 := fun W (hW : Later w3 W) => bc01 W (Later.trans hL3 hW)
        have bc02 := fun W (hW : Later w3 W) => bc02 W (Later.trans hL3 hW)
        clear hz hz0 hx0 hy0 hcw3
        go_upto_region 4 with fail
        refine wp_region_ext (w0 := w3) (by kernel_rfl) (by kernel_rfl) (later_refl _) ?_; (repeat (first | go_big_quiet_step (((go_at_call 53; exact calls_ext (by simp) (Hmc.out _ _ (by assumption))))) | quiet_step (((go_at_call 53; exact calls_ext (by simp) (Hmc.out _ _ (by assumption))))))); refine wpQuiet_nil ?_; rintro w4 ⟨⟨_, hL4⟩, rfl⟩; (try dsimp only)
        go_wp2_with fail
        go_ret
        exact ⟨ret_bool (by rw [Hf.out] <;> simp [*]), Later.trans hL00 (Later.trans hL3 hL4)⟩
    | [a], b :: b1 :: lb =>
      have hz0 : (((([a]).length : Nat) : Int) == 0) = false := by simp only [List.length_cons, beq_eq_false_iff_ne]; omega
      have hz : ((((b :: b1 :: lb).length : Nat) : Int) == 0) = false := by simp only [List.length_cons, beq_eq_false_iff_ne]; omega
      have hla : ((([a]).length : Nat) : Int) < 2 := by simp only [List.length_cons, List.length_nil]; omega
      have hlb : (2 : Int) ≤ (((b :: b1 :: lb).length : Nat) : Int) := by simp only [List.length_cons]; omega
      obtain ⟨ba, oa, za0, rfl, _, ya0, ac00, ac01, ac02⟩ := hca.get (k := 0) (by simp)
      simp only [List.getElem?_cons_zero, List.getElem?_cons_succ, Option.some.injEq] at ya0
      subst ya0
      simp only [Nat.zero_mul, Nat.add_zero, Nat.one_mul] at ac00 ac01 ac02
      have hma0 : a ∈ c.clips := hmi _ (by simp)
      obtain ⟨bb, ob, zb1, rfl, _, yb1, bc10, bc11, bc12⟩ := hrc.get (k := 1) (by simp)
      simp only [List.getElem?_cons_zero, List.getElem?_cons_succ, Option.some.injEq] at yb1
      subst yb1
      simp only [Nat.zero_mul, Nat.add_zero, Nat.one_mul] at bc10 bc11 bc12
      have hmb1 : b1 ∈ c.clips := hmo _ (by simp)
      have hia0 : (0 : Int) < (([a] : List Cp).length : Nat) := by simp only [List.length_cons, List.length_nil]; omega
      have hib1 : (1 : Int) < ((b :: b1 :: lb : List Cp).length : Nat) := by simp only [List.length_cons, List.length_nil]; omega
      generalize hna : ([a] : List Cp).length = na at *
      generalize hnb2 : (b :: b1 :: lb : List Cp).length = nb at *
      have hla2 := decide_eq_true hla
      have hlb' : ¬ (nb : Int) < 2 := by omega
      have hlb2 := decide_eq_false hlb'
      have Hf : Hid (clashB c d i o = (decide (minuteC d a < minuteC d b1))) := by
        show _ = _; rw [Hcl.out]; simp [clashL, cameP]
      clear Hcl hca hrc hna hnb2 hmi hmo
      by_cases ca : minuteC d a < minuteC d b1
      · have ca2 := decide_eq_true ca
        go_upto_region 2 with fail
        refine wp_region_ext (w0 := w2) (by kernel_rfl) (by kernel_rfl) (later_refl _) ?_; (repeat (first | go_big_quiet_step (((fail))) | quiet_step (((fail))))); refine wpQuiet_nil ?_; rintro w3 ⟨⟨_, hL3⟩, rfl⟩; (try dsimp only)
        have f0 := fun W (hW : Later w3 W) => f0 W (Later.trans hL3 hW)
        have f1 := fun W (hW : Later w3 W) => f1 W (Later.trans hL3 hW)
        have f2 := fun W (hW : Later w3 W) => f2 W (Later.trans hL3 hW)
        have f3 := fun W (hW : Later w3 W) => f3 W (Later.trans hL3 hW)
        have ac00 := fun W (hW : Later w3 W) => ac00 W (Later.trans hL3 hW)
        have ac01 := fun W (hW : Later w3 W) => ac01 W (Later.trans hL3 hW)
        have ac02 := fun W (hW : Later w3 W) => ac02 W (Later.trans hL3 hW)
        have bc10 := fun W (hW : Later w3 W) => bc10 W (Later.trans hL3 hW)
        have bc11 := fun W (hW : Later w3 W) => bc11 W (Later.trans hL3 hW)
        have bc12 := fun W (hW : Later w3 W) => bc12 W (Later.trans hL3 hW)
        clear hz hz0 hx0 hy0 hcw3
        go_upto_region 4 with fail
        refine wp_region_ext (w0 := w3) (by kernel_rfl) (by kernel_rfl) (later_refl _) ?_; (repeat (first | go_big_quiet_step (((go_at_call 53; exact calls_ext (by simp) (Hmc.out _ _ (by assumption))))) | quiet_step (((go_at_call 53; exact calls_ext (by simp) (Hmc.out _ _ (by assumption))))))); refine wpQuiet_nil ?_; rintro w4 ⟨⟨_, hL4⟩, rfl⟩; (try dsimp only)
        go_wp2_with fail
        go_ret
        exact ⟨ret_bool (by rw [Hf.out] <;> simp [*]), Later.trans hL00 (Later.trans hL3 hL4)⟩
      · have ca2 := decide_eq_false ca
        go_upto_region 2 with fail
        refine wp_region_ext (w0 := w2) (by kernel_rfl) (by kernel_rfl) (later_refl _) ?_; (repeat (first | go_big_quiet_step (((fail))) | quiet_step (((fail))))); refine wpQuiet_nil ?_; rintro w3 ⟨⟨_, hL3⟩, rfl⟩; (try dsimp only)
        have f0 := fun W (hW : Later w3 W) => f0 W (Later.trans hL3 hW)
        have f1 := fun W (hW : Later w3 W) => f1 W (Later.trans hL3 hW)
        have f2 := fun W (hW : Later w3 W) => f2 W (Later.trans hL3 hW)
        have f3 := fun W (hW : Later w3 W) => f3 W (Later.trans hL3 hW)
        have ac00 := fun W (hW : Later w3 W) => ac00 W (Later.trans hL3 hW)
        have ac01 := fun W (hW : Later w3 W) => ac01 W (Later.trans hL3 hW)
        have ac02 := fun W (hW : Later w3 W) => ac02 W (Later.trans hL3 hW)
        have bc10 := fun W (hW : Later w3 W) => bc10 W (Later.trans hL3 hW)
        have bc11 := fun W (hW : Later w3 W) => bc11 W (Later.trans hL3 hW)
        have bc12 := fun W (hW : Later w3 W) => bc12 W (Later.trans hL3 hW)
        clear hz hz0 hx0 hy0 hcw3
        go_upto_region 4 with fail
        refine wp_region_ext (w0 := w3) (by kernel_rfl) (by kernel_rfl) (later_refl _) ?_; (repeat (first | go_big_quiet_step (((go_at_call 53; exact calls_ext (by simp) (Hmc.out _ _ (by assumption))))) | quiet_step (((go_at_call 53; exact calls_ext (by simp) (Hmc.out _ _ (by assumption))))))); refine wpQuiet_nil ?_; rintro w4 ⟨⟨_, hL4⟩, rfl⟩; (try dsimp only)
        go_wp2_with fail
        go_ret
        exact ⟨ret_bool (by rw [Hf.out] <;> simp [*]), Later.trans hL00 (Later.trans hL3 hL4)⟩
    | a :: a1 :: la, b :: b1 :: lb =>
      have hz0 : ((((a :: a1 :: la).length : Nat) : Int) == 0) = false := by simp only [List.length_cons, beq_eq_false_iff_ne]; omega
      have hz : ((((b :: b1 :: lb).length : Nat) : Int) == 0) = false := by simp only [List.length_cons, beq_eq_false_iff_ne]; omega
      have hla : (2 : Int) ≤ (((a :: a1 :: la).length : Nat) : Int) := by simp only [List.length_cons]; omega
      have hlb : (2 : Int) ≤ (((b :: b1 :: lb).length : Nat) : Int) := by simp only [List.length_cons]; omega
      obtain ⟨ba, oa, za0, rfl, _, ya0, ac00, ac01, ac02⟩ := hca.get (k := 0) (by simp)
      simp only [List.getElem?_cons_zero, List.getElem?_cons_succ, Option.some.injEq] at ya0
      subst ya0
      simp only [Nat.zero_mul, Nat.add_zero, Nat.one_mul] at ac00 ac01 ac02
      have hma0 : a ∈ c.clips := hmi _ (by simp)
      obtain ⟨za1, ya1, ac10, ac11, ac12⟩ := hca.at_ (k := 1) (by simp)
      simp only [List.getElem?_cons_zero, List.getElem?_cons_succ, Option.some.injEq] at ya1
      subst ya1
      simp only [Nat.zero_mul, Nat.add_zero, Nat.one_mul] at ac10 ac11 ac12
      have hma1 : a1 ∈ c.clips := hmi _ (by simp)
      obtain ⟨bb, ob, zb0, rfl, _, yb0, bc00, bc01, bc02⟩ := hrc.get (k := 0) (by simp)
      simp only [List.getElem?_cons_zero, List.getElem?_cons_succ, Option.some.injEq] at yb0
      subst yb0
      simp only [Nat.zero_mul, Nat.add_zero, Nat.one_mul] at bc00 bc01 bc02
      have hmb0 : b ∈ c.clips := hmo _ (by simp)
      obtain ⟨zb1, yb1, bc10, bc11, bc12⟩ := hrc.at_ (k := 1) (by simp)
      simp only [List.getElem?_cons_zero, List.getElem?_cons_succ, Option.some.injEq] at yb1
      subst yb1
      simp only [Nat.zero_mul, Nat.add_zero, Nat.one_mul] at bc10 bc11 bc12
      have hmb1 : b1 ∈ c.clips := hmo _ (by simp)
      have hia0 : (0 : Int) < ((a :: a1 :: la : List Cp).length : Nat) := by simp only [List.length_cons, List.length_nil]; omega
      have hia1 : (1 : Int) < ((a :: a1 :: la : List Cp).length : Nat) := by simp only [List.length_cons, List.length_nil]; omega
      have hib1 : (1 : Int) < ((b :: b1 :: lb : List Cp).length : Nat) := by simp only [List.length_cons, List.length_nil]; omega
      have hib0 : (0 : Int) < ((b :: b1 :: lb : List Cp).length : Nat) := by simp only [List.length_cons, List.length_nil]; omega
      generalize hna : (a :: a1 :: la : List Cp).length = na at *
      generalize hnb2 : (b :: b1 :: lb : List Cp).length = nb at *
      have hla' : ¬ (na : Int) < 2 := by omega
      have hla2 := decide_eq_false hla'
      have hlb' : ¬ (nb : Int) < 2 := by omega
      have hlb2 := decide_eq_false hlb'
      have Hf : Hid (clashB c d i o = (decide (minuteC d a < minuteC d b1) && decide (minuteC d b < minuteC d a1))) := by
        show _ = _; rw [Hcl.out]; simp [clashL, cameP]
      clear Hcl hca hrc hna hnb2 hmi hmo
      by_cases ca : minuteC d a < minuteC d b1
      · have ca2 := decide_eq_true ca
        by_cases cb : minuteC d b < minuteC d a1
        · have cb2 := decide_eq_true cb
          go_upto_region 2 with fail
          refine wp_region_ext (w0 := w2) (by kernel_rfl) (by kernel_rfl) (later_refl _) ?_; (repeat (first | go_big_quiet_step (((fail))) | quiet_step (((fail))))); refine wpQuiet_nil ?_; rintro w3 ⟨⟨_, hL3⟩, rfl⟩; (try dsimp only)
          have f0 := fun W (hW : Later w3 W) => f0 W (Later.trans hL3 hW)
          have f1 := fun W (hW : Later w3 W) => f1 W (Later.trans hL3 hW)
          have f2 := fun W (hW : Later w3 W) => f2 W (Later.trans hL3 hW)
          have f3 := fun W (hW : Later w3 W) => f3 W (Later.trans hL3 hW)
          have ac00 := fun W (hW : Later w3 W) => ac00 W (Later.trans hL3 hW)
          have ac01 := fun W (hW : Later w3 W) => ac01 W (Later.trans hL3 hW)
          have ac02 := fun W (hW : Later w3 W) => ac02 W (Later.trans hL3 hW)
          have ac10 := fun W (hW : Later w3 W) => ac10 W (Later.trans hL3 hW)
          have ac11 := fun W (hW : Later w3 W) => ac11 W (Later.trans hL3 hW)
          have ac12 := fun W (hW : Later w3 W) => ac12 W (Later.trans hL3 hW)
          have bc00 := fun W (hW : Later w3 W) => bc00 W (Later.trans hL3 hW)
          have bc01 := fun W (hW : Later w3 W) => bc01 W (Later.trans hL3 hW)
          have bc02 := fun W (hW : Later w3 W) => bc02 W (Later.trans hL3 hW)
          have bc10 := fun W (hW : Later w3 W) => bc10 W (Later.trans hL3 hW)
          have bc11 := fun W (hW : Later w3 W) => bc11 W (Later.trans hL3 hW)
          have bc12 := fun W (hW : Later w3 W) => bc12 W (Later.trans hL3 hW)
          clear hz hz0 hx0 hy0 hcw3
          go_upto_region 4 with fail
          refine wp_region_ext (w0 := w3) (by kernel_rfl) (by kernel_rfl) (later_refl _) ?_; (repeat (first | go_big_quiet_step (((go_at_call 53; exact calls_ext (by simp) (Hmc.out _ _ (by assumption))))) | quiet_step (((go_at_call 53; exact calls_ext (by simp) (Hmc.out _ _ (by assumption))))))); refine wpQuiet_nil ?_; rintro w4 ⟨⟨_, hL4⟩, rfl⟩; (try dsimp only)
          go_wp2_with fail
          go_ret
          exact ⟨ret_bool (by rw [Hf.out] <;> simp [*]), Later.trans hL00 (Later.trans hL3 hL4)⟩
        · have cb2 := decide_eq_false cb
          go_upto_region 2 with fail
          refine wp_region_ext (w0 := w2) (by kernel_rfl) (by kernel_rfl) (later_refl _) ?_; (repeat (first | go_big_quiet_step (((fail))) | quiet_step (((fail))))); refine wpQuiet_nil ?_; rintro w3 ⟨⟨_, hL3⟩, rfl⟩; (try dsimp only)
          have f0 := fun W (hW : Later w3 W) => f0 W (Later.trans hL3 hW)
          have f1 := fun W (hW : Later w3 W) => f1 W (Later.trans hL3 hW)
          have f2 := fun W (hW : Later w3 W) => f2 W (Later.trans hL3 hW)
          have f3 := fun W (hW : Later w3 W) => f3 W (Later.trans hL3 hW)
          have ac00 := fun W (hW : Later w3 W) => ac00 W (Later.trans hL3 hW)
          have ac01 := fun W (hW : Later w3 W) => ac01 W (Later.trans hL3 hW)
          have ac02 := fun W (hW : Later w3 W) => ac02 W (Later.trans hL3 hW)
          have ac10 := fun W (hW : Later w3 W) => ac10 W (Later.trans hL3 hW)
          have ac11 := fun W (hW : Later w3 W) => ac11 W (Later.trans hL3 hW)
          have ac12 := fun W (hW : Later w3 W) => ac12 W (Later.trans hL3 hW)
          have bc00 := fun W (hW : Later w3 W) => bc00 W (Later.trans hL3 hW)
          have bc01 := fun W (hW : Later w3 W) => bc01 W (Later.trans hL3 hW)
          have bc02 := fun W (hW : Later w3 W) => bc02 W (Later.trans hL3 hW)
          have bc10 := fun W (hW : Later w3 W) => bc10 W (Later.trans hL3 hW)
          have bc11 := fun W (hW : Later w3 W) => bc11 W (Later.trans hL3 hW)
          have bc12 := fun W (hW : Later w3 W) => bc12 W (Later.trans hL3 hW)
          clear hz hz0 hx0 hy0 hcw3
          go_upto_region 4 with fail
          refine wp_region_ext (w0 := w3) (by kernel_rfl) (by kernel_rfl) (later_refl _) ?_; (repeat (first | go_big_quiet_step (((go_at_call 53; exact calls_ext (by simp) (Hmc.out _ _ (by assumption))))) | quiet_step (((go_at_call 53; exact calls_ext (by simp) (Hmc.out _ _ (by assumption))))))); refine wpQuiet_nil ?_; rintro w4 ⟨⟨_, hL4⟩, rfl⟩; (try dsimp only)
          go_wp2_with fail
          go_ret
          exact ⟨ret_bool (by rw [Hf.out] <;> simp [*]), Later.trans hL00 (Later.trans hL3 hL4)⟩
      · have ca2 := decide_eq_false ca
        go_upto_region 2 with fail
        refine wp_region_ext (w0 := w2) (by kernel_rfl) (by kernel_rfl) (later_refl _) ?_; (repeat (first | go_big_quiet_step (((fail))) | quiet_step (((fail))))); refine wpQuiet_nil ?_; rintro w3 ⟨⟨_, hL3⟩, rfl⟩; (try dsimp only)
        have f0 := fun W (hW : Later w3 W) => f0 W (Later.trans hL3 hW)
        have f1 := fun W (hW : Later w3 W) => f1 W (Later.trans hL3 hW)
        have f2 := fun W (hW : Later w3 W) => f2 W (Later.trans hL3 hW)
        have f3 := fun W (hW : Later w3 W) => f3 W (Later.trans hL3 hW)
        have ac00 := fun W (hW : Later w3 W) => ac00 W (Later.trans hL3 hW)
        have ac01 := fun W (hW : Later w3 W) => ac01 W (Later.trans hL3 hW)
        have ac02 := fun W (hW : Later w3 W) => ac02 W (Later.trans hL3 hW)
        have ac10 := fun W (hW : Later w3 W) => ac10 W (Later.trans hL3 hW)
        have ac11 := fun W (hW : Later w3 W) => ac11 W (Later.trans hL3 hW)
        have ac12 := fun W (hW : Later w3 W) => ac12 W (Later.trans hL3 hW)
        have bc00 := fun W (hW : Later w3 W) => bc00 W (Later.trans hL3 hW)
        have bc01 := fun W (hW : Later w3 W) => bc01 W (Later.trans hL3 hW)
        have bc02 := fun W (hW : Later w3 W) => bc02 W (Later.trans hL3 hW)
        have bc10 := fun W (hW : Later w3 W) => bc10 W (Later.trans hL3 hW)
        have bc11 := fun W (hW : Later w3 W) => bc11 W (Later.trans hL3 hW)
        have bc12 := fun W (hW : Later w3 W) => bc12 W (Later.trans hL3 hW)
        clear hz hz0 hx0 hy0 hcw3
        go_upto_region 4 with fail
        refine wp_region_ext (w0 := w3) (by kernel_rfl) (by kernel_rfl) (later_refl _) ?_; (repeat (first | go_big_quiet_step (((go_at_call 53; exact calls_ext (by simp) (Hmc.out _ _ (by assumption))))) | quiet_step (((go_at_call 53; exact calls_ext (by simp) (Hmc.out _ _ (by assumption))))))); refine wpQuiet_nil ?_; rintro w4 ⟨⟨_, hL4⟩, rfl⟩; (try dsimp only)
        go_wp2_with fail
        go_ret
        exact ⟨ret_bool (by rw [Hf.out] <;> simp [*]), Later.trans hL00 (Later.trans hL3 hL4)⟩
  · have hnb : (x.1 != y.1) = true := by simpa using hxy
    have Hf : Hid (clashB c d i o = false) := by show _ = _; rw [Hcl.out, decide_eq_false hxy]; rfl
    clear hxy Hcl
    generalize la.length = na at *
    generalize lb.length = nb at *
    go_upto_region 2 with fail
    refine wp_region_ext (w0 := w2) (by kernel_rfl) (by kernel_rfl) (later_refl _) ?_; (repeat (first | go_big_quiet_step (((fail))) | quiet_step (((fail))))); refine wpQuiet_nil ?_; rintro w3 ⟨⟨_, hL3⟩, rfl⟩; (try dsimp only)
    go_wp2_with fail
    go_ret
    exact ⟨by rw [Hf.out]; rfl, Later.trans hL00 hL3⟩
end
end Go.Proofs.Ytcffgjhmpgdfpaa

/- The program's paid, open: walks. -/
namespace Go.Proofs.Ytcffgjhmpgdfpaa
open Go Go.RowKit

def payRow (c : Hou) (d : List Int) (a : Nat) : Bool := !isLong c d a && (List.range a).all fun b => !clashB c d a b
theorem isPaid_pay (c : Hou) (d : List Int) : isPaid c d = (List.range c.tickets.length).all (payRow c d) := rfl
section
variable {A1 A2 A3 At : Option Addr} {n1 k1 n2 k2 n3 k3 nt kt bw bm : Nat} {c : Hou} {tr : List (List Int)}
theorem clash_eq {d : List Int} {e0 e1 e2 e3 : Int} {i o : Nat} {q : Bool} (hq : clashB c d i o = q) (w : World) (hw : WK w bw c A1 n1 k1 A2 n2 k2 A3 n3 k3 At nt kt tr bm) (ok : OkH c) (hd : IsErr c d) (hp : pad4 d = [e0, e1, e2, e3]) (hi : i < n2) (ho : o < n2) :
    Calls Try.prog 42 #[.pointer (some ⟨bw, 0, none⟩), .agg #[.int .i64 e0, .int .i64 e1, .int .i64 e2, .int .i64 e3], .int .i64 (i : Int), .int .i64 (o : Int)] w fun e w' => e = .returned (.bool q) ∧ Later w w' := by
  rw [← hq]; exact clash_calls w hw ok hd hp hi ho
end

def openP (c : Hou) (tub : Int) (i : Nat) : Bool := decide ((tickAt c i).1 = tub) && decide ((ofP c (i : Int)).length = 1)
theorem isOpen_openP (c : Hou) (tub : Int) : isOpen c tub = (List.range c.tickets.length).any (openP c tub) := by
  unfold isOpen openP; simp only [ofP_len]
set_option maxRecDepth 100000 in
theorem open_calls {A1 A2 A3 : Option Addr} {n1 k1 n2 k2 n3 k3 : Nat} {c : Hou} {tub : Int} (w : World) (hc : CV w c A1 n1 A2 n2 A3 n3) (hm3 : n3 ≤ 1000) (hm2 : n2 ≤ 1000) :
    Calls Try.prog 37 #[(.agg #[.int .i64 c.hour, .int .i64 c.grace, .slice A1 n1 k1, .slice A2 n2 k2, .slice A3 n3 k3]), .int .i64 tub] w fun e w' => e = .returned (.bool (isOpen c tub)) ∧ Later w w' := by
  have hl2 := hc.tk.len
  have hrr : isOpen c tub = (List.range n2).any (openP c tub) := by rw [hl2]; exact isOpen_openP c tub
  have Hrr := hide hrr
  clear hl2 hrr
  obtain ⟨w0, hw0⟩ : ∃ W, W = (w.alloc (.cells #[.int .i64 c.hour, .int .i64 c.grace, .slice A1 n1 k1, .slice A2 n2 k2, .slice A3 n3 k3] 46)) := ⟨_, rfl⟩; have hbox : ∀ W, Later w0 W → ∀ i, W.cell? ⟨w.heap.size, i, none⟩ = #[.int .i64 c.hour, .int .i64 c.grace, .slice A1 n1 k1, .slice A2 n2 k2, .slice A3 n3 k3][i]? := (by rw [hw0]; exact box_cells w #[.int .i64 c.hour, .int .i64 c.grace, .slice A1 n1 k1, .slice A2 n2 k2, .slice A3 n3 k3] 46); have hL0 : Later w w0 := (by rw [hw0]; simp); have hc0 := hc.later hL0; have Hw0 := hide hw0; clear hw0
  go_enter Try.func37, Try.ntmps37
  go_wp2_with fail
  rw [← Hw0.out]; clear Hw0
  go_loopw [5, 6, 10] (fun _ _ u wr => ∃ i : Nat, i ≤ n2 ∧ u = .int .i64 i ∧ Later w0 wr ∧ Hid ((List.range i).any (openP c tub) = false)) (fun _ _ u _ => n2 - (intOf u).toNat)
  case atStart => exact ⟨0, Nat.zero_le _, rfl, later_refl _, rfl⟩
  case round =>
    obtain ⟨i, hi, rfl, hL, Hall⟩ := hrel
    by_cases hlt : i < n2
    · have hi1 : (i : Int) < n2 := by omega
      obtain ⟨b, o, x, rfl, _, hx, hx0, hx1⟩ := hc0.tk.get hlt
      have hia := range_any_succ (openP c tub) i
      rw [Hall.out, Bool.false_or] at hia
      have hrow : openP c tub i = (decide (x.1 = tub) && decide ((ofP c (i : Int)).length = 1)) := by unfold openP; rw [tickAt_of hx]
      rw [hrow] at hia
      have hbad : openP c tub i = true → isOpen c tub = true := fun h => by rw [Hrr.out]; exact range_any_true hlt h
      rw [hrow] at hbad
      have Hia := hide hia
      have Hbad := hide hbad
      have hx0 := hx0 _ hL
      have hx1 := hx1 _ hL
      obtain ⟨w2, hw2⟩ : ∃ X, X = wr.alloc (.cells #[.int .i64 x.1, .int .i64 x.2] 73) := ⟨_, rfl⟩
      have hb2 := Blk.new wr 73 #[.int .i64 x.1, .int .i64 x.2]
      rw [← hw2] at hb2
      have hLr2 : Later wr w2 := by rw [hw2]; exact later_alloc (later_refl _) _
      have hL2 := Later.trans hL hLr2
      have hbc := hb2.cell 0
      simp only [List.getElem?_toArray, List.getElem?_cons_zero, List.getElem?_cons_succ] at hbc
      have Hw2 := hide hw2
      clear hia Hall hrow hbad hx hw2
      by_cases h1 : x.1 = tub
      · have hb1 : (x.1 == tub) = true := by simpa using h1
        rw [decide_eq_true h1, Bool.true_and] at Hia Hbad
        have Hlen := hide (show (ofP c (i : Int)).length = 1 ∨ (ofP c (i : Int)).length ≠ 1 by omega)
        clear h1
        go_upto_region 4 with fail
        rw [← Hw2.out]
        clear hx0 hx1
        go_wp2_with fail
        refine (of_calls (k1 := k1) (k2 := k2) (k3 := k3) _ (hc0.later hL2) hm3).mono ?_
        rintro e w1 ⟨A, k, rfl, hL1, hri⟩
        rcases Hlen.out with h2 | h2
        · have hb2 : ((((ofP c (i : Int)).length : Nat) : Int) == 1) = true := by simp [h2]
          have Hf : Hid (isOpen c tub = true) := Hbad.out (decide_eq_true h2)
          clear h2 Hia Hbad
          go_wp2_with fail
          go_ret
          exact ⟨by rw [Hf.out]; rfl, Later.trans hL0 (Later.trans hL2 hL1)⟩
        · have hb2 : ((((ofP c (i : Int)).length : Nat) : Int) == 1) = false := by simp; omega
          rw [decide_eq_false h2] at Hia
          clear h2 Hbad
          go_wp2_with fail
          go_roundw
          case rel => exact ⟨i + 1, hlt, by go_num, Later.trans hL2 hL1, Hia.out⟩
          case measure => simp [intOf]; omega
      · have hb1 : (x.1 == tub) = false := by simpa using h1
        rw [decide_eq_false h1, Bool.false_and] at Hia
        clear h1 Hbad
        go_upto_region 4 with fail
        rw [← Hw2.out]
        clear hx0 hx1
        go_wp2_with fail
        go_roundw
        case rel => exact ⟨i + 1, hlt, by go_num, hL2, Hia.out⟩
        case measure => simp [intOf]; omega
    · have hin : i = n2 := by omega
      subst hin
      have Hf : Hid (isOpen c tub = false) := by show _ = _; rw [Hrr.out]; exact Hall.out
      clear Hall
      go_wp2_with fail
      go_ret
      exact ⟨by rw [Hf.out]; rfl, Later.trans hL0 hL⟩
end Go.Proofs.Ytcffgjhmpgdfpaa
