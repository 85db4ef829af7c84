/- Part 14 of the proof: joined from the texts Bst. -/
import Derived.Test.YtjilckjhdlabaaaPart13
set_option linter.unusedSimpArgs false
set_option linter.unusedVariables false
/- The best placement, in plain words: what it is, and when it is done no later. -/
namespace Go.Proofs.Ytjilckjhdlabaaa
open Go Go.RowKit

theorem lexAll_has (m : Nat) : ∀ (k : Nat) (l : List Int), l.length = k → (∀ x ∈ l, 0 ≤ x ∧ x < (m : Int)) → l ∈ lexAll m k
  | 0, l, h, _ => by rw [List.eq_nil_of_length_eq_zero h]; simp [lexAll]
  | k + 1, [], h, _ => by simp at h
  | k + 1, x :: l, h, hx => by
    have h0 := hx x List.mem_cons_self
    simp only [lexAll, List.mem_flatMap, List.mem_range, List.mem_map]
    exact ⟨x.toNat, by omega, l, lexAll_has m k l (by simpa using h) fun y hy => hx y (List.mem_cons_of_mem _ hy), by rw [Int.toNat_of_nonneg h0.1]⟩
theorem hangL_has {c : Clo} (ok : OkH c) {p : List Int} (h : IsPl c p) : p ∈ hangL c.closets.toNat c.horses.length [] := by
  have hc1 := ok.cl1
  rw [hangL_lex _ _ _ List.nodup_nil, List.mem_filter]
  refine ⟨List.mem_map.2 ⟨p, lexAll_has _ _ _ h.len fun x hx => by have := h.mem x hx; omega, by simp⟩, by simpa using h.nodup⟩
/-- a placement with good minutes for all horses, and when it is done -/
def goodPl (c : Clo) (p : List Int) : Prop := (doneP c (truthsP c) p).2 = c.horses.length
def doneAt (c : Clo) (p : List Int) : Int := (doneP c (truthsP c) p).1
theorem goodPl_iff (c : Clo) (p : List Int) : goodPl c p ↔ ∀ i, i < c.horses.length → (goodP c (truthsP c) p i).1 ≤ (goodP c (truthsP c) p i).2 := by
  unfold goodPl doneP
  rcases doneG_spec (goodP c (truthsP c) p) c.horses.length 0 0 with ⟨j, _, h2, h3, _, h5⟩ | ⟨h1, h2⟩
  · rw [h5]
    constructor
    · intro h; simp only at h; omega
    · intro h; have := h j (by omega); omega
  · rw [h2]
    constructor
    · intro _ i hi; have := h1 i (Nat.zero_le _) (by omega); omega
    · intro _; simp
theorem foldmax_le (f : Nat → Int) : ∀ (l : List Nat) (a b : Int), a ≤ b → (∀ i ∈ l, f i ≤ b) → l.foldl (fun n t => max n (f t)) a ≤ b
  | [], a, b, h, _ => h
  | x :: l, a, b, h, hf => by
    rw [List.foldl_cons]
    exact foldmax_le f l _ b (by have := hf x List.mem_cons_self; omega) fun i hi => hf i (List.mem_cons_of_mem _ hi)
theorem le_foldmax (f : Nat → Int) : ∀ (l : List Nat) (a : Int), a ≤ l.foldl (fun n t => max n (f t)) a ∧ ∀ i ∈ l, f i ≤ l.foldl (fun n t => max n (f t)) a
  | [], a => ⟨Int.le_refl _, fun i hi => by cases hi⟩
  | x :: l, a => by
    rw [List.foldl_cons]
    obtain ⟨h1, h2⟩ := le_foldmax f l (max a (f x))
    refine ⟨by omega, fun i hi => ?_⟩
    rcases List.mem_cons.1 hi with rfl | hi
    · omega
    · exact h2 i hi
theorem doneAt_good {c : Clo} {p : List Int} (h : goodPl c p) : (∀ i, i < c.horses.length → (goodP c (truthsP c) p i).1 ≤ doneAt c p) ∧ ∀ b : Int, 0 ≤ b → (∀ i, i < c.horses.length → (goodP c (truthsP c) p i).1 ≤ b) → doneAt c p ≤ b := by
  have hg := (goodPl_iff c p).1 h
  unfold doneAt doneP
  rcases doneG_spec (goodP c (truthsP c) p) c.horses.length 0 0 with ⟨j, _, h2, h3, _, _⟩ | ⟨_, h2⟩
  · have := hg j (by omega); omega
  · rw [h2]
    refine ⟨fun i hi => (le_foldmax (fun t => (goodP c (truthsP c) p t).1) _ 0).2 i (by rw [List.mem_range'_1]; omega), fun b hb hh => ?_⟩
    exact foldmax_le (fun t => (goodP c (truthsP c) p t).1) _ 0 b hb fun i hi => hh i (by rw [List.mem_range'_1] at hi; omega)
theorem doneAt_nonneg {c : Clo} {p : List Int} (h : goodPl c p) : 0 ≤ doneAt c p := by
  have hg := (goodPl_iff c p).1 h
  unfold doneAt doneP
  rcases doneG_spec (goodP c (truthsP c) p) c.horses.length 0 0 with ⟨j, _, h2, h3, _, _⟩ | ⟨_, h2⟩
  · have := hg j (by omega); omega
  · rw [h2]; exact (le_foldmax (fun t => (goodP c (truthsP c) p t).1) _ 0).1
/-- what the fold over placements keeps: the first of those that are done soonest -/
def BInv (c : Clo) (pre : List (List Int)) : Option (List Int × Int) → Prop
  | none => ∀ p ∈ pre, ¬ goodPl c p
  | some q => goodPl c q.1 ∧ q.2 = doneAt c q.1 ∧ (∃ l1 l2, pre = l1 ++ q.1 :: l2 ∧ (∀ p ∈ l1, goodPl c p → q.2 < doneAt c p) ∧ ∀ p ∈ l2, goodPl c p → q.2 ≤ doneAt c p)
theorem best_step {c : Clo} {x : List Int} {pre : List (List Int)} {b : Option (List Int × Int)} (h : BInv c pre b) : BInv c (pre ++ [x]) (bestStepP c (truthsP c) b x) := by
  by_cases hg : goodPl c x
  · cases b with
    | none =>
      have hs : bestStepP c (truthsP c) none x = some (x, doneAt c x) := if_pos hg
      rw [hs]
      exact ⟨hg, rfl, pre, [], rfl, fun p hp hpg => absurd hpg (h p hp), fun p hp => by cases hp⟩
    | some q =>
      have hs : bestStepP c (truthsP c) (some q) x = if doneAt c x < q.2 then some (x, doneAt c x) else some q := if_pos hg
      rw [hs]
      obtain ⟨h1, h2, l1, l2, h3, h4, h5⟩ := h
      by_cases hlt : doneAt c x < q.2
      · rw [if_pos hlt]
        refine ⟨hg, rfl, pre, [], rfl, fun p hp hpg => ?_, fun p hp => by cases hp⟩
        rw [h3] at hp
        rcases List.mem_append.1 hp with hp | hp
        · have := h4 p hp hpg; show doneAt c x < _; omega
        · rcases List.mem_cons.1 hp with rfl | hp
          · show doneAt c x < _; omega
          · have := h5 p hp hpg; show doneAt c x < _; omega
      · rw [if_neg hlt]
        refine ⟨h1, h2, l1, l2 ++ [x], by rw [h3]; simp, h4, fun p hp hpg => ?_⟩
        rcases List.mem_append.1 hp with hp | hp
        · exact h5 p hp hpg
        · simp at hp; subst hp; omega
  · have hs : bestStepP c (truthsP c) b x = b := if_neg hg
    rw [hs]
    cases b with
    | none =>
      intro p hp
      rcases List.mem_append.1 hp with hp | hp
      · exact h p hp
      · simp at hp; subst hp; exact hg
    | some q =>
      obtain ⟨h1, h2, l1, l2, h3, h4, h5⟩ := h
      refine ⟨h1, h2, l1, l2 ++ [x], by rw [h3]; simp, h4, fun p hp hpg => ?_⟩
      rcases List.mem_append.1 hp with hp | hp
      · exact h5 p hp hpg
      · simp at hp; subst hp; exact absurd hpg hg
theorem best_fold (c : Clo) : ∀ (l pre : List (List Int)) (b : Option (List Int × Int)), BInv c pre b → BInv c (pre ++ l) (l.foldl (bestStepP c (truthsP c)) b)
  | [], pre, b, h => by simpa using h
  | x :: l, pre, b, h => by
    rw [List.foldl_cons, show pre ++ x :: l = (pre ++ [x]) ++ l by simp]
    exact best_fold c l (pre ++ [x]) _ (best_step h)
theorem bestP_spec {c : Clo} (ok : OkH c) :
    (bestP c (truthsP c) = none ∧ ∀ p, IsPl c p → ¬ goodPl c p) ∨
    (∃ q, bestP c (truthsP c) = some (q, doneAt c q) ∧ IsPl c q ∧ goodPl c q ∧ (∀ p, IsPl c p → goodPl c p → doneAt c q ≤ doneAt c p) ∧
      ∃ l1 l2, hangL c.closets.toNat c.horses.length [] = l1 ++ q :: l2 ∧ ∀ p ∈ l1, goodPl c p → doneAt c q < doneAt c p) := by
  have h := best_fold c (hangL c.closets.toNat c.horses.length []) [] none (fun p hp => by cases hp)
  rw [List.nil_append] at h
  unfold bestP
  revert h
  cases (hangL c.closets.toNat c.horses.length []).foldl (bestStepP c (truthsP c)) none with
  | none => exact fun h => .inl ⟨rfl, fun p hp => h p (hangL_has ok hp)⟩
  | some q =>
    rintro ⟨h1, h2, l1, l2, h3, h4, h5⟩
    obtain ⟨q1, q2⟩ := q
    dsimp only at h1 h2 h3 h4 h5
    subst h2
    refine .inr ⟨q1, rfl, hangL_isPl ok q1 (by rw [h3]; simp), h1, fun p hp hg => ?_, l1, l2, h3, h4⟩
    have hm := hangL_has ok hp
    rw [h3] at hm
    rcases List.mem_append.1 hm with hm | hm
    · have := h4 p hm hg; omega
    · rcases List.mem_cons.1 hm with rfl | hm
      · omega
      · exact h5 p hm hg
/-- each good placement of c has one of x that is done no later: so has the best one -/
theorem sooner_of {c x : Clo} (hc : askedErr c true = 0) (hx : askedErr x true = 0) (h : ∀ p, IsPl c p → goodPl c p → ∃ p', IsPl x p' ∧ goodPl x p' ∧ doneAt x p' ≤ doneAt c p) : SoonerP c x := by
  have okc := (okC_of_fault (askedErr_zero hc).1).toOkH
  have okx := (okC_of_fault (askedErr_zero hx).1).toOkH
  have e1 : bestOut c = bestRes (bestP c (truthsP c)) := by unfold bestOut; rw [if_neg (by simp [hc])]
  have e2 : bestOut x = bestRes (bestP x (truthsP x)) := by unfold bestOut; rw [if_neg (by simp [hx])]
  unfold SoonerP
  rw [e1, e2]
  rcases bestP_spec okc with ⟨hb, _⟩ | ⟨q, hb, hq1, hq2, _, _⟩
  · left
    rw [hb]
    refine ⟨rfl, ?_⟩
    rcases bestP_spec okx with ⟨hb2, _⟩ | ⟨q2, hb2, _⟩
    · rw [hb2]; exact .inr rfl
    · rw [hb2]; exact .inl rfl
  · right
    obtain ⟨p', hp1, hp2, hp3⟩ := h q hq1 hq2
    rcases bestP_spec okx with ⟨_, hno⟩ | ⟨q2, hb2, _, _, hmin, _⟩
    · exact absurd hp2 (hno p' hp1)
    · rw [hb, hb2]
      refine ⟨rfl, rfl, ?_⟩
      have := hmin p' hp1 hp2
      show doneAt x q2 ≤ doneAt c q
      omega
end Go.Proofs.Ytjilckjhdlabaaa
