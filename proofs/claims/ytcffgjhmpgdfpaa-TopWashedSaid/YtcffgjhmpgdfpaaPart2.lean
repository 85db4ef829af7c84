/- Part 2 of the proof: joined from the texts Perm, Bv, Lv, Out, UmA, UnA, TcC, TcD, TcE. -/
import Derived.Test.YtcffgjhmpgdfpaaPart1
set_option linter.unusedSimpArgs false
set_option linter.unusedVariables false
/- The two enumerations of errors of the clocks are permutations of each other; the program's truths are those of the reference, in another order. -/
namespace Go.Proofs.Ytcffgjhmpgdfpaa

def pad4 (d : List Int) : List Int := [d.getD 0 0, d.getD 1 0, d.getD 2 0, d.getD 3 0]
/-! ### rising, as the program steps through the clips -/
def risP (d out : List Int) : Nat → List Cp → Option Int → Bool
  | _, [], _ => true
  | i, x :: l, last => if out.contains (i : Int) then risP d out (i + 1) l last else
    (match last with
      | none => true
      | some m => decide (m ≤ minuteC d x)) && risP d out (i + 1) l (some (minuteC d x))
def rightP (c : Hou) (d out : List Int) : Bool := risP d out 0 c.clips none
theorem risP_iff (d out : List Int) : ∀ (l : List Cp) (i : Nat) (last : Option Int), risP d out i l last = true ↔
    (∀ (j : Nat) (x : Cp), l[j]? = some x → ¬ (((i + j : Nat) : Int) ∈ out) → ∀ m, last = some m → m ≤ minuteC d x) ∧
    (∀ (j k : Nat) (x y : Cp), j < k → l[j]? = some x → l[k]? = some y → ¬ (((i + j : Nat) : Int) ∈ out) → ¬ (((i + k : Nat) : Int) ∈ out) → minuteC d x ≤ minuteC d y)
  | [], i, last => by simp [risP]
  | x :: l, i, last => by
    have ih := fun last => risP_iff d out l (i + 1) last
    have key : ∀ {P : Nat → Cp → Prop}, (∀ (j : Nat) (y : Cp), (x :: l)[j]? = some y → P j y) ↔ P 0 x ∧ ∀ (j : Nat) (y : Cp), l[j]? = some y → P (j + 1) y := fun {P} => by
      constructor
      · intro h; exact ⟨h 0 x rfl, fun j y hy => h (j + 1) y (by simpa using hy)⟩
      · rintro ⟨h0, h1⟩ j y hy
        cases j with
        | zero => simp at hy; subst hy; exact h0
        | succ j => exact h1 j y (by simpa using hy)
    have e1 : ∀ j, i + (j + 1) = i + 1 + j := fun j => by omega
    unfold risP
    by_cases hm : ((i : Nat) : Int) ∈ out
    · rw [if_pos (List.contains_iff_mem.2 hm), ih]
      constructor
      · rintro ⟨h1, h2⟩
        refine ⟨key.2 ⟨fun hn => absurd hm (by simpa using hn), fun j y hy hn => h1 j y hy (by rw [← e1]; exact hn)⟩, ?_⟩
        intro j k y z hjk hy hz hnj hnk
        cases j with
        | zero => exact absurd hm (by simpa using hnj)
        | succ j =>
          cases k with
          | zero => omega
          | succ k => exact h2 j k y z (by omega) (by simpa using hy) (by simpa using hz) (by rw [← e1]; exact hnj) (by rw [← e1]; exact hnk)
      · rintro ⟨h1, h2⟩
        refine ⟨fun j y hy hn => h1 (j + 1) y (by simpa using hy) (by rw [e1]; exact hn), fun j k y z hjk hy hz hnj hnk => h2 (j + 1) (k + 1) y z (by omega) (by simpa using hy) (by simpa using hz) (by rw [e1]; exact hnj) (by rw [e1]; exact hnk)⟩
    · rw [if_neg (by rw [List.contains_iff_mem]; exact hm), Bool.and_eq_true, ih]
      constructor
      · rintro ⟨h0, h1, h2⟩
        have h0' : ∀ m, last = some m → m ≤ minuteC d x := fun m e => by subst e; simpa using h0
        refine ⟨key.2 ⟨fun _ => h0', fun j y hy hn m e => Int.le_trans (h0' m e) (h1 j y hy (by rw [← e1]; exact hn) _ rfl)⟩, ?_⟩
        intro j k y z hjk hy hz hnj hnk
        cases k with
        | zero => omega
        | succ k =>
          cases j with
          | zero => simp at hy; subst hy; exact h1 k z (by simpa using hz) (by rw [← e1]; exact hnk) _ rfl
          | succ j => exact h2 j k y z (by omega) (by simpa using hy) (by simpa using hz) (by rw [← e1]; exact hnj) (by rw [← e1]; exact hnk)
      · rintro ⟨h1, h2⟩
        refine ⟨?_, fun j y hy hn m e => ?_, fun j k y z hjk hy hz hnj hnk => h2 (j + 1) (k + 1) y z (by omega) (by simpa using hy) (by simpa using hz) (by rw [e1]; exact hnj) (by rw [e1]; exact hnk)⟩
        · cases last with
          | none => rfl
          | some m => simpa using h1 0 x rfl (by simpa using hm) m rfl
        · injection e with e; subst e
          exact h2 0 (j + 1) x y (by omega) rfl (by simpa using hy) (by simpa using hm) (by rw [e1]; exact hn)
theorem getD_pad4 (d : List Int) {i : Nat} (h : i < 4) : (pad4 d).getD i 0 = d.getD i 0 := by
  have : i = 0 ∨ i = 1 ∨ i = 2 ∨ i = 3 := by omega
  rcases this with rfl | rfl | rfl | rfl <;> rfl
theorem minuteC_pad4 {c : Hou} (ok : OkH c) (d : List Int) {x : Cp} (hx : x ∈ c.clips) : minuteC (pad4 d) x = minuteC d x := by
  have := ok.clip x hx
  have := ok.n1
  unfold minuteC
  rw [getD_pad4 d (by omega)]
theorem rightP_iff {c : Hou} (ok : OkH c) {d : List Int} (out : List Int) : rightP c (pad4 d) out = true ↔
    ∀ j k, j < k → k < c.clips.length → ¬ (j : Int) ∈ out → ¬ (k : Int) ∈ out → trueM c d j ≤ trueM c d k := by
  unfold rightP
  rw [risP_iff]
  simp only [Nat.zero_add]
  constructor
  · rintro ⟨_, h⟩ j k hjk hk hj hk2
    have hx := List.getElem?_eq_getElem (l := c.clips) (i := j) (by omega)
    have hy := List.getElem?_eq_getElem (l := c.clips) (i := k) hk
    have := h j k _ _ hjk hx hy hj hk2
    rw [minuteC_pad4 ok d (List.getElem_mem _), minuteC_pad4 ok d (List.getElem_mem _)] at this
    unfold trueM
    rw [clipAt_of hx, clipAt_of hy]; exact this
  · intro h
    refine ⟨fun j x _ _ m e => (by cases e), fun j k x y hjk hx hy hj hk2 => ?_⟩
    have hk := (List.getElem?_eq_some_iff.1 hy).1
    have := h j k hjk hk hj hk2
    unfold trueM at this
    rw [clipAt_of hx, clipAt_of hy] at this
    rw [minuteC_pad4 ok d (List.mem_of_getElem? hx), minuteC_pad4 ok d (List.mem_of_getElem? hy)]
    exact this
theorem risingR_iff (c : Hou) (d : List Int) (bits : Nat) : risingR c d bits = true ↔ ∀ j k, j < k → k < c.clips.length → bits.testBit j = true → bits.testBit k = true → trueM c d j ≤ trueM c d k := by
  unfold risingR
  simp only [List.all_eq_true, List.mem_range, Bool.not_eq_true', Bool.and_eq_false_iff, decide_eq_false_iff_not]
  constructor
  · intro h j k hjk hk hj hk2
    rcases h k hk j hjk with (h1 | h1) | h1
    · rw [h1] at hk2; cases hk2
    · rw [h1] at hj; cases hj
    · omega
  · intro h k hk j hjk
    cases hb : bits.testBit k with
    | false => exact .inl (.inl rfl)
    | true =>
      cases ha : bits.testBit j with
      | false => exact .inl (.inr rfl)
      | true => have := h j k hjk hk ha hb; exact .inr (by omega)
theorem rising_mask {c : Hou} (ok : OkH c) {d : List Int} {bits : Nat} {out : List Int} (h : ∀ j, j < c.clips.length → (bits.testBit j = true ↔ ¬ (j : Int) ∈ out)) : risingR c d bits = rightP c (pad4 d) out := by
  rw [Bool.eq_iff_iff, risingR_iff, rightP_iff ok]
  constructor
  · intro h1 j k hjk hk hj hk2
    exact h1 j k hjk hk ((h j (by omega)).2 hj) ((h k hk).2 hk2)
  · intro h1 j k hjk hk hj hk2
    exact h1 j k hjk hk ((h j (by omega)).1 hj) ((h k hk).1 hk2)
theorem full_testBit (c : Hou) (i : Nat) : (full c).testBit i = decide (i < c.clips.length) := by
  unfold full; rw [Nat.testBit_two_pow_sub_one]
theorem rightP_full {c : Hou} (ok : OkH c) (d : List Int) : rightP c (pad4 d) [] = risingR c d (full c) := by
  refine (rising_mask ok fun j hj => ?_).symm
  rw [full_testBit]; simp [hj]

theorem perm_flatMap_cons {α β : Type} (l : List α) (g : α → β) (h : α → List β) : List.Perm (l.flatMap fun x => g x :: h x) (l.map g ++ l.flatMap h) := by
  induction l with
  | nil => exact List.Perm.refl _
  | cons a l ih =>
    simp only [List.flatMap_cons, List.map_cons, List.cons_append]
    refine List.Perm.cons _ ?_
    refine (List.Perm.append_left (h a) ih).trans ?_
    rw [← List.append_assoc, ← List.append_assoc]
    exact List.Perm.append_right _ List.perm_append_comm
theorem perm_swap {α β γ : Type} (f : α → β → γ) (l : List α) (m : List β) : List.Perm (l.flatMap fun x => m.map (f x)) (m.flatMap fun y => l.map fun x => f x y) := by
  induction l with
  | nil => simp
  | cons a l ih =>
    simp only [List.flatMap_cons, List.map_cons]
    exact (List.Perm.append_left _ ih).trans (perm_flatMap_cons m (f a) _).symm
theorem range_mul_ (s m : Nat) : List.range (s * m) = (List.range m).flatMap fun j => (List.range s).map fun i => i + s * j := by
  induction m with
  | zero => simp
  | succ m ih =>
    rw [Nat.mul_succ, List.range_add, ih, List.range_succ, List.flatMap_append]
    congr 1
    simp only [List.flatMap_cons, List.flatMap_nil, List.append_nil]
    apply List.map_congr_left
    intro i _
    omega

def sizeN (h : (Int × Int)) : Nat := (h.2 - h.1 + 1).toNat
def prodN : List (Int × Int) → Nat
  | [] => 1
  | h :: hs => sizeN h * prodN hs
theorem err_perm : ∀ (hs : List (Int × Int)), (∀ h ∈ hs, h.1 ≤ h.2) → List.Perm (errAll hs) ((List.range (prodN hs)).map fun (n : Nat) => nth hs n)
  | [], _ => by simp [errAll, prodN, nth]
  | h :: hs, ok => by
    have e : (List.range (prodN (h :: hs))).map (fun (n : Nat) => nth (h :: hs) n) = (List.range (prodN hs)).flatMap fun (j : Nat) => (List.range (sizeN h)).map fun (i : Nat) => (h.1 + (i : Int)) :: nth hs (j : Int) := by
      rw [prodN, range_mul_, List.map_flatMap]
      congr 1
      funext j
      rw [List.map_map]
      apply List.map_congr_left
      intro i hi
      have hi' : i < sizeN h := by simpa using hi
      have hs1 : sizeR h = (sizeN h : Int) := by unfold sizeR sizeN; have := ok h List.mem_cons_self; omega
      have e1 : ((i + sizeN h * j : Nat) : Int) % (sizeN h : Int) = i := by
        rw [← Int.natCast_emod, Nat.add_mul_mod_self_left, Nat.mod_eq_of_lt hi']
      have e2 : ((i + sizeN h * j : Nat) : Int) / (sizeN h : Int) = j := by
        rw [← Int.natCast_ediv, Nat.add_mul_div_left _ _ (by omega), Nat.div_eq_of_lt hi', Nat.zero_add]
      simp only [Function.comp, nth, hs1, e1, e2]
    rw [e]
    have e3 : errAll (h :: hs) = (List.range (sizeN h)).flatMap fun (i : Nat) => (errAll hs).map ((h.1 + (i : Int)) :: ·) := by
      simp only [errAll, rangeL, sizeN, List.flatMap_map]
    rw [e3]
    refine (perm_swap (fun (i : Nat) d => (h.1 + (i : Int)) :: d) _ _).trans ?_
    have ih := List.Perm.flatMap_right (fun d => (List.range (sizeN h)).map fun (i : Nat) => (h.1 + (i : Int)) :: d) (err_perm hs fun x hx => ok x (List.mem_cons_of_mem _ hx))
    rw [List.flatMap_map] at ih
    exact ih
theorem prodN_foldl : ∀ (l : List (Int × Int)) (a : Int), (∀ h ∈ l, h.1 ≤ h.2) → l.foldl (fun n h => n * sizeR h) a = a * (prodN l : Int)
  | [], a, _ => by simp [prodN]
  | h :: l, a, ok => by
    have hs1 : sizeR h = (sizeN h : Int) := by unfold sizeR sizeN; have := ok h List.mem_cons_self; omega
    rw [List.foldl_cons, prodN_foldl l _ fun x hx => ok x (List.mem_cons_of_mem _ hx), prodN, hs1, Int.natCast_mul, Int.mul_assoc]
theorem many_prodN {c : Hou} (hf : fault c = 0) : (many c).toNat = prodN c.clocks := by
  have ok := okH_of_fault hf
  have hz := many_le hf
  have h1 := many_prod (c := c) fun h hh => by have := ok.clock h hh; omega
  have h2 : prodTo c.clocks = (prodN c.clocks : Int) := by
    unfold prodTo
    rw [prodN_foldl _ _ fun h hh => by have := ok.clock h hh; omega]
    omega
  omega
theorem allErr_perm {c : Hou} (hf : fault c = 0) : List.Perm (errAll c.clocks) (allErr c) := by
  have ok := okH_of_fault hf
  unfold allErr
  rw [many_prodN hf]
  exact err_perm _ fun h hh => by have := ok.clock h hh; omega

theorem rangeL_nodup (lo hi : Int) : (rangeL lo hi).Pairwise (· ≠ ·) := by
  unfold rangeL
  rw [List.pairwise_map]
  exact List.pairwise_lt_range.imp fun {a b} h => by omega
theorem errAll_nodup : ∀ (hs : List (Int × Int)), (errAll hs).Pairwise (· ≠ ·)
  | [] => by simp [errAll]
  | h :: hs => by
    rw [errAll, List.pairwise_flatMap]
    refine ⟨fun x _ => ?_, ?_⟩
    · rw [List.pairwise_map]
      exact (errAll_nodup hs).imp fun {a b} hab e => hab (List.cons.inj e).2
    · refine (rangeL_nodup h.1 h.2).imp fun {a b} hab x hx y hy e => ?_
      obtain ⟨x', _, rfl⟩ := List.mem_map.1 hx
      obtain ⟨y', _, rfl⟩ := List.mem_map.1 hy
      exact hab (List.cons.inj e).1
theorem errAll_err : ∀ (hs : List (Int × Int)), ∀ d ∈ errAll hs, areErrors hs d = true
  | [], d, h => by simp [errAll] at h; subst h; rfl
  | h :: hs, d, hd => by
    simp only [errAll, List.mem_flatMap, List.mem_map, rangeL, List.mem_range] at hd
    obtain ⟨x, ⟨i, hi, rfl⟩, d', hd', rfl⟩ := hd
    simp only [areErrors, errAll_err hs d' hd', Bool.and_true, inB, Bool.and_eq_true, decide_eq_true_eq]
    omega
theorem errAll_isErr (c : Hou) : ∀ d ∈ errAll c.clocks, IsErr c d := fun d hd => (isErr_iff c d).1 (errAll_err _ d hd)

/-! ### the program's truths -/
def keepStep (c : Hou) (acc : List (List Int)) (d : List Int) : List (List Int) :=
  if rightP c (pad4 d) [] = true ∧ (acc = [] ∨ pad4 (acc.getLastD []) ≠ pad4 d) then acc ++ [d] else acc
def truthsP (c : Hou) : List (List Int) := (errAll c.clocks).foldl (keepStep c) []

theorem pad4_inj {a b : List Int} (h : a.length = b.length) (h4 : a.length ≤ 4) (e : pad4 a = pad4 b) : a = b := by
  apply List.ext_getElem h
  intro i h1 h2
  simp only [pad4, List.cons.injEq] at e
  have : i = 0 ∨ i = 1 ∨ i = 2 ∨ i = 3 := by omega
  have key : a.getD i 0 = b.getD i 0 := by
    rcases this with rfl | rfl | rfl | rfl
    · exact e.1
    · exact e.2.1
    · exact e.2.2.1
    · exact e.2.2.2.1
  rw [List.getD_eq_getElem?_getD, List.getD_eq_getElem?_getD, List.getElem?_eq_getElem h1, List.getElem?_eq_getElem h2] at key
  simpa using key
theorem keep_filter (c : Hou) (hl : c.clocks.length ≤ 4) : ∀ (l acc : List (List Int)), (∀ d ∈ l, d.length = c.clocks.length) → (∀ d ∈ acc, d.length = c.clocks.length) → l.Pairwise (· ≠ ·) → (∀ d ∈ l, ∀ a ∈ acc, a ≠ d) →
    l.foldl (keepStep c) acc = acc ++ l.filter fun d => rightP c (pad4 d) []
  | [], acc, _, _, _, _ => by simp
  | d :: l, acc, h1, h2, h3, h4 => by
    have hd := h1 d List.mem_cons_self
    have hp := List.pairwise_cons.1 h3
    have hne : acc = [] ∨ pad4 (acc.getLastD []) ≠ pad4 d := by
      rcases List.eq_nil_or_concat acc with h | ⟨a, x, h⟩
      · exact .inl h
      · right
        intro e
        have hx : x ∈ acc := by rw [h]; simp
        have hlx := h2 x hx
        have e2 : acc.getLastD [] = x := by rw [h]; simp
        rw [e2] at e
        exact h4 d List.mem_cons_self x hx (pad4_inj (by omega) (by omega) e)
    rw [List.foldl_cons]
    cases hr : rightP c (pad4 d) [] with
    | true =>
      have e : keepStep c acc d = acc ++ [d] := by unfold keepStep; rw [if_pos ⟨hr, hne⟩]
      rw [e, keep_filter c hl l _ (fun x hx => h1 x (List.mem_cons_of_mem _ hx)) (fun x hx => by
        rcases List.mem_append.1 hx with h | h
        · exact h2 x h
        · simp at h; subst h; exact hd) hp.2 (fun x hx a ha => by
        rcases List.mem_append.1 ha with h | h
        · exact h4 x (List.mem_cons_of_mem _ hx) a h
        · simp at h; subst h; exact hp.1 x hx), List.filter_cons_of_pos (by simpa using hr)]
      simp
    | false =>
      have e : keepStep c acc d = acc := by unfold keepStep; rw [if_neg (by simp [hr])]
      rw [e, keep_filter c hl l _ (fun x hx => h1 x (List.mem_cons_of_mem _ hx)) h2 hp.2 (fun x hx a ha => h4 x (List.mem_cons_of_mem _ hx) a ha), List.filter_cons_of_neg (by simp [hr])]
theorem truthsP_filter {c : Hou} (ok : OkH c) : truthsP c = (errAll c.clocks).filter fun d => rightP c (pad4 d) [] := by
  have := keep_filter c ok.n1 (errAll c.clocks) [] (fun d hd => (errAll_isErr c d hd).len) (by simp) (errAll_nodup _) (by simp)
  simpa [truthsP] using this

theorem truthsP_perm {c : Hou} (hf : fault c = 0) : List.Perm (truthsP c) (truths c) := by
  have ok := okH_of_fault hf
  rw [truthsP_filter ok]
  unfold truths
  have e : (fun d => rightP c (pad4 d) []) = fun d => risingR c d (full c) := funext fun d => rightP_full ok d
  rw [e]
  exact (allErr_perm hf).filter _
theorem truthsP_isErr {c : Hou} (ok : OkH c) : ∀ d ∈ truthsP c, IsErr c d := fun d hd => by
  rw [truthsP_filter ok] at hd
  exact errAll_isErr c d (List.mem_filter.1 hd).1
end Go.Proofs.Ytcffgjhmpgdfpaa

/- Plain facts: bounds and verdicts in some truths, in whatever order. -/
namespace Go.Proofs.Ytcffgjhmpgdfpaa

/-- r is the range of an answer in some truths -/
structure IsB (f : List Int → Int) (l : List (List Int)) (r : Int × Int) : Prop where
  lo : ∀ d ∈ l, r.1 ≤ f d
  hi : ∀ d ∈ l, f d ≤ r.2
  loAt : ∃ d ∈ l, f d = r.1
  hiAt : ∃ d ∈ l, f d = r.2
theorem IsB.unique {f : List Int → Int} {l : List (List Int)} {r r' : Int × Int} (h : IsB f l r) (k : IsB f l r') : r = r' := by
  obtain ⟨d1, m1, e1⟩ := h.loAt
  obtain ⟨d2, m2, e2⟩ := h.hiAt
  obtain ⟨d3, m3, e3⟩ := k.loAt
  obtain ⟨d4, m4, e4⟩ := k.hiAt
  have a1 := k.lo d1 m1
  have a2 := k.hi d2 m2
  have a3 := h.lo d3 m3
  have a4 := h.hi d4 m4
  exact Prod.ext (by omega) (by omega)
theorem IsB.perm {f : List Int → Int} {l l' : List (List Int)} {r : Int × Int} (h : IsB f l r) (p : List.Perm l l') : IsB f l' r := by
  obtain ⟨d1, m1, e1⟩ := h.loAt
  obtain ⟨d2, m2, e2⟩ := h.hiAt
  exact ⟨fun d hd => h.lo d (p.mem_iff.2 hd), fun d hd => h.hi d (p.mem_iff.2 hd), ⟨d1, p.mem_iff.1 m1, e1⟩, ⟨d2, p.mem_iff.1 m2, e2⟩⟩
theorem IsB.congr {f g : List Int → Int} {l : List (List Int)} {r : Int × Int} (h : IsB f l r) (e : ∀ d ∈ l, f d = g d) : IsB g l r := by
  obtain ⟨d1, m1, e1⟩ := h.loAt
  obtain ⟨d2, m2, e2⟩ := h.hiAt
  exact ⟨fun d hd => by rw [← e d hd]; exact h.lo d hd, fun d hd => by rw [← e d hd]; exact h.hi d hd, ⟨d1, m1, by rw [← e d1 m1]; exact e1⟩, ⟨d2, m2, by rw [← e d2 m2]; exact e2⟩⟩
theorem wider_fold (f : List Int → Int) : ∀ (l : List (List Int)) (r : Int × Int),
    (l.foldl (fun r d => wider r (f d)) r).1 ≤ r.1 ∧ r.2 ≤ (l.foldl (fun r d => wider r (f d)) r).2 ∧
    (∀ d ∈ l, (l.foldl (fun r d => wider r (f d)) r).1 ≤ f d ∧ f d ≤ (l.foldl (fun r d => wider r (f d)) r).2) ∧
    ((l.foldl (fun r d => wider r (f d)) r).1 = r.1 ∨ ∃ d ∈ l, f d = (l.foldl (fun r d => wider r (f d)) r).1) ∧
    ((l.foldl (fun r d => wider r (f d)) r).2 = r.2 ∨ ∃ d ∈ l, f d = (l.foldl (fun r d => wider r (f d)) r).2)
  | [], r => ⟨Int.le_refl _, Int.le_refl _, fun d hd => (by cases hd), .inl rfl, .inl rfl⟩
  | x :: l, r => by
    rw [List.foldl_cons]
    obtain ⟨h1, h2, h3, h4, h5⟩ := wider_fold f l (wider r (f x))
    generalize l.foldl (fun r d => wider r (f d)) (wider r (f x)) = q at *
    simp only [wider] at h1 h2 h4 h5
    refine ⟨by clear h3 h4 h5; omega, by clear h3 h4 h5; omega, fun d hd => ?_, ?_, ?_⟩
    · rcases List.mem_cons.1 hd with rfl | hd
      · clear h3 h4 h5; omega
      · exact h3 d hd
    · clear h5
      rcases h4 with h4 | ⟨d, hd, h4⟩
      · rcases Int.le_total r.1 (f x) with hle | hle
        · left; omega
        · right; exact ⟨x, List.mem_cons_self, by omega⟩
      · right; exact ⟨d, List.mem_cons_of_mem _ hd, h4⟩
    · clear h4
      rcases h5 with h5 | ⟨d, hd, h5⟩
      · rcases Int.le_total r.2 (f x) with hle | hle
        · right; exact ⟨x, List.mem_cons_self, by omega⟩
        · left; omega
      · right; exact ⟨d, List.mem_cons_of_mem _ hd, h5⟩
/-- the bounds of what is asked of all truths, as the program has them -/
def bP (f : List Int → Int) : List (List Int) → Int × Int
  | [] => (0, 0)
  | d :: l => (d :: l).foldl (fun r d => wider r (f d)) (f d, f d)
theorem bP_is (f : List Int → Int) {l : List (List Int)} (h : l ≠ []) : IsB f l (bP f l) := by
  cases l with
  | nil => exact absurd rfl h
  | cons x l =>
    obtain ⟨h1, h2, h3, h4, h5⟩ := wider_fold f (x :: l) (f x, f x)
    refine ⟨fun d hd => (h3 d hd).1, fun d hd => (h3 d hd).2, ?_, ?_⟩
    · rcases h4 with h4 | h4
      · exact ⟨x, List.mem_cons_self, h4.symm⟩
      · exact h4
    · rcases h5 with h5 | h5
      · exact ⟨x, List.mem_cons_self, h5.symm⟩
      · exact h5
theorem bR_is (f : List Int → Int) {l : List (List Int)} (h : l ≠ []) (hb : ∀ d ∈ l, -1099511627776 ≤ f d ∧ f d ≤ 1099511627776) : IsB f l (bR f l) := by
  obtain ⟨h1, h2, h3, h4, h5⟩ := wider_fold f l (1099511627776, -1099511627776)
  obtain ⟨x, hx⟩ := List.exists_mem_of_ne_nil l h
  refine ⟨fun d hd => (h3 d hd).1, fun d hd => (h3 d hd).2, ?_, ?_⟩
  · rcases h4 with h4 | h4
    · have := h3 x hx
      have := hb x hx
      have e : (l.foldl (fun r d => wider r (f d)) (1099511627776, -1099511627776)).1 = 1099511627776 := h4
      exact ⟨x, hx, by show f x = (l.foldl (fun r d => wider r (f d)) (1099511627776, -1099511627776)).1; omega⟩
    · exact h4
  · rcases h5 with h5 | h5
    · have := h3 x hx
      have := hb x hx
      have e : (l.foldl (fun r d => wider r (f d)) (1099511627776, -1099511627776)).2 = -1099511627776 := h5
      exact ⟨x, hx, by show f x = (l.foldl (fun r d => wider r (f d)) (1099511627776, -1099511627776)).2; omega⟩
    · exact h5
theorem bP_bR {f : List Int → Int} {l l' : List (List Int)} (p : List.Perm l l') (h : l ≠ []) (hb : ∀ d ∈ l, -1099511627776 ≤ f d ∧ f d ≤ 1099511627776) : bP f l = bR f l' := by
  have h' : l' ≠ [] := fun e => by subst e; exact h p.eq_nil
  exact ((bP_is f h).perm p).unique (bR_is f h' fun d hd => hb d (p.mem_iff.2 hd))

/-- the verdict on all truths, as the program has it -/
def vP (p : List Int → Bool) (l : List (List Int)) : Int := if l.any (fun d => !p d) = false then 1 else if l.any p = false then 2 else 3
theorem countP_all (p : List Int → Bool) (l : List (List Int)) : l.countP p = l.length ↔ l.any (fun d => !p d) = false := by
  rw [List.countP_eq_length, ← Bool.not_eq_true, List.any_eq_true]
  constructor
  · rintro h ⟨d, hd, hn⟩; rw [h d hd] at hn; cases hn
  · intro h d hd
    cases hp : p d with
    | true => rfl
    | false => exact absurd ⟨d, hd, by rw [hp]; rfl⟩ h
theorem countP_none (p : List Int → Bool) (l : List (List Int)) : l.countP p = 0 ↔ l.any p = false := by
  rw [List.countP_eq_zero, ← Bool.not_eq_true, List.any_eq_true]
  constructor
  · rintro h ⟨d, hd, hn⟩; exact h d hd hn
  · intro h d hd hp; exact h ⟨d, hd, hp⟩
theorem vP_eq (p : List Int → Bool) (l : List (List Int)) : vP p l = vR p l := by
  unfold vP vR verdictN
  simp only [countP_all, countP_none]
theorem vR_perm (p : List Int → Bool) {l l' : List (List Int)} (h : List.Perm l l') : vR p l = vR p l' := by
  unfold vR; rw [h.countP_eq, h.length_eq]
theorem vP_vR (p : List Int → Bool) {l l' : List (List Int)} (h : List.Perm l l') : vP p l = vR p l' := by rw [vP_eq, vR_perm p h]
theorem vP_congr {p q : List Int → Bool} {l : List (List Int)} (h : ∀ d ∈ l, p d = q d) : vP p l = vP q l := by
  rw [vP_eq, vP_eq]; unfold vR; rw [List.countP_congr fun d hd => by rw [h d hd]]
theorem vP_cases (p : List Int → Bool) (l : List (List Int)) : vP p l = 1 ∨ vP p l = 2 ∨ vP p l = 3 := by
  unfold vP; split
  · simp
  · split <;> simp
theorem vP_one {p : List Int → Bool} {l : List (List Int)} : vP p l = 1 ↔ ∀ d ∈ l, p d = true := by
  unfold vP
  constructor
  · intro h
    split at h
    · rename_i h2
      intro d hd
      have := (List.any_eq_false.1 h2) d hd
      simpa using this
    · split at h <;> omega
  · intro h
    rw [if_pos]
    rw [List.any_eq_false]
    intro d hd
    simp [h d hd]
theorem vP_two {p : List Int → Bool} {l : List (List Int)} (hne : l ≠ []) : vP p l = 2 ↔ ∀ d ∈ l, p d = false := by
  obtain ⟨x, hx⟩ := List.exists_mem_of_ne_nil l hne
  constructor
  · intro h
    unfold vP at h
    split at h
    · omega
    · split at h
      · rename_i h2
        intro d hd
        have := (List.any_eq_false.1 h2) d hd
        simpa using this
      · omega
  · intro h
    unfold vP
    rw [if_neg, if_pos]
    · rw [List.any_eq_false]; intro d hd; simp [h d hd]
    · rw [Bool.not_eq_false, List.any_eq_true]; exact ⟨x, hx, by simp [h x hx]⟩

/-! ### what a comparison leaves -/
def cnt (l : List (List Int)) (k : Nat) (v : Int) : Nat := l.countP fun x => decide (x.getD k 0 = v)
theorem cnt_perm {l l' : List (List Int)} (h : List.Perm l l') (k : Nat) (v : Int) : cnt l k v = cnt l' k v := h.countP_eq _
theorem leaves_fold (l : List (List Int)) (k : Nat) : ∀ (m : List (List Int)) (a : Int), a ≤ m.foldl (leavesStep l k) a ∧ (∀ d ∈ m, (cnt l k (d.getD k 0) : Int) ≤ m.foldl (leavesStep l k) a) ∧
    (m.foldl (leavesStep l k) a = a ∨ ∃ d ∈ m, m.foldl (leavesStep l k) a = cnt l k (d.getD k 0))
  | [], a => ⟨Int.le_refl _, fun d hd => (by cases hd), .inl rfl⟩
  | x :: m, a => by
    rw [List.foldl_cons]
    obtain ⟨h1, h2, h3⟩ := leaves_fold l k m (leavesStep l k a x)
    have e : leavesStep l k a x = max a (cnt l k (x.getD k 0) : Int) := rfl
    generalize m.foldl (leavesStep l k) (leavesStep l k a x) = q at *
    refine ⟨by clear h3; omega, fun d hd => ?_, ?_⟩
    · rcases List.mem_cons.1 hd with rfl | hd
      · clear h3; omega
      · exact h2 d hd
    · rcases h3 with h3 | ⟨d, hd, h3⟩
      · rcases Int.le_total (cnt l k (x.getD k 0) : Int) a with hle | hle
        · left; omega
        · right; exact ⟨x, List.mem_cons_self, by omega⟩
      · right; exact ⟨d, List.mem_cons_of_mem _ hd, h3⟩
/-- v is the greatest number of truths that have an error of a clock -/
def IsMost (l : List (List Int)) (k : Nat) (v : Int) : Prop := (∀ x : Int, (cnt l k x : Int) ≤ v) ∧ ∃ x : Int, (cnt l k x : Int) = v
theorem IsMost.unique {l : List (List Int)} {k : Nat} {v u : Int} (h : IsMost l k v) (g : IsMost l k u) : v = u := by
  obtain ⟨x, hx⟩ := h.2
  obtain ⟨y, hy⟩ := g.2
  have := h.1 y
  have := g.1 x
  omega
theorem IsMost.perm {l l' : List (List Int)} {k : Nat} {v : Int} (h : IsMost l k v) (p : List.Perm l l') : IsMost l' k v :=
  ⟨fun x => by rw [← cnt_perm p]; exact h.1 x, let ⟨x, hx⟩ := h.2; ⟨x, by rw [← cnt_perm p]; exact hx⟩⟩
theorem cnt_zero {l : List (List Int)} {k : Nat} {x : Int} (h : ∀ d ∈ l, d.getD k 0 ≠ x) : cnt l k x = 0 := by
  unfold cnt
  rw [List.countP_eq_zero]
  intro d hd
  simpa using h d hd
theorem leaves_is (l : List (List Int)) (k : Nat) : IsMost l k (leaves l k) := by
  obtain ⟨h1, h2, h3⟩ := leaves_fold l k l 0
  have hx : ∀ x : Int, (cnt l k x : Int) ≤ leaves l k := fun x => by
    by_cases hd : ∃ d ∈ l, d.getD k 0 = x
    · obtain ⟨d, hd, rfl⟩ := hd; exact h2 d hd
    · have : cnt l k x = 0 := cnt_zero fun d hm e => hd ⟨d, hm, e⟩
      unfold leaves; omega
  refine ⟨hx, ?_⟩
  rcases h3 with h3 | ⟨d, _, h3⟩
  · exact ⟨0, by have := hx 0; have e : leaves l k = 0 := h3; omega⟩
  · exact ⟨d.getD k 0, h3.symm⟩
theorem leaves_perm {l l' : List (List Int)} (p : List.Perm l l') (k : Nat) : leaves l k = leaves l' k := ((leaves_is l k).perm p).unique (leaves_is l' k)
theorem leaves_le (l : List (List Int)) (k : Nat) : 0 ≤ leaves l k ∧ leaves l k ≤ l.length := by
  obtain ⟨h1, x, hx⟩ := leaves_is l k
  have : cnt l k x ≤ l.length := List.countP_le_length
  omega
/-- the program's most: all numbers of the clock's range -/
def mostP (l : List (List Int)) (k : Nat) (lo : Int) : Nat → Int
  | 0 => 0
  | n + 1 => max (mostP l k lo n) (cnt l k (lo + n) : Int)
theorem mostP_le (l : List (List Int)) (k : Nat) (lo : Int) : ∀ n, 0 ≤ mostP l k lo n ∧ mostP l k lo n ≤ l.length
  | 0 => by simp [mostP]
  | n + 1 => by
    have := mostP_le l k lo n
    have : cnt l k (lo + n) ≤ l.length := List.countP_le_length
    simp only [mostP]; omega
theorem mostP_is (l : List (List Int)) (k : Nat) (lo : Int) : ∀ n, (∀ j : Nat, j < n → (cnt l k (lo + j) : Int) ≤ mostP l k lo n) ∧ (mostP l k lo n = 0 ∨ ∃ j : Nat, j < n ∧ mostP l k lo n = cnt l k (lo + j))
  | 0 => ⟨fun j h => (by omega), .inl rfl⟩
  | n + 1 => by
    obtain ⟨h1, h2⟩ := mostP_is l k lo n
    simp only [mostP]
    refine ⟨fun j hj => ?_, ?_⟩
    · rcases Nat.lt_or_ge j n with h | h
      · have := h1 j h; omega
      · have : j = n := by omega
        subst this; omega
    · rcases Int.le_total (cnt l k (lo + n) : Int) (mostP l k lo n) with hle | hle
      · rcases h2 with h2 | ⟨j, hj, h2⟩
        · left; omega
        · right; exact ⟨j, by omega, by omega⟩
      · right; exact ⟨n, by omega, by omega⟩
theorem mostP_leaves {l : List (List Int)} {k n : Nat} {lo : Int} (h : ∀ d ∈ l, lo ≤ d.getD k 0 ∧ d.getD k 0 < lo + n) : mostP l k lo n = leaves l k := by
  obtain ⟨h1, h2⟩ := mostP_is l k lo n
  have h0 := (mostP_le l k lo n).1
  refine IsMost.unique (l := l) (k := k) ⟨fun x => ?_, ?_⟩ (leaves_is l k)
  · by_cases hd : ∃ d ∈ l, d.getD k 0 = x
    · obtain ⟨d, hd, rfl⟩ := hd
      have hr := h d hd
      have := h1 (d.getD k 0 - lo).toNat (by omega)
      rw [show lo + ((d.getD k 0 - lo).toNat : Int) = d.getD k 0 by omega] at this
      exact this
    · have : cnt l k x = 0 := cnt_zero fun d hm e => hd ⟨d, hm, e⟩
      omega
  · rcases h2 with h2 | ⟨j, _, h2⟩
    · refine ⟨lo - 1, ?_⟩
      have : cnt l k (lo - 1) = 0 := cnt_zero fun d hm e => by have := h d hm; omega
      omega
    · exact ⟨lo + j, h2.symm⟩
/-- the program's search of the clock to compare -/
def lookTo (f : Nat → Int) (m : Int) : Nat → Nat × Int
  | 0 => (0, m)
  | i + 1 => if f i < (lookTo f m i).2 then (i, f i) else lookTo f m i
theorem lookTo_lookR (l : List (List Int)) (m : Int) (hm : leaves l 0 < m) : ∀ n, lookTo (leaves l) m (n + 1) = ((List.range n).map (· + 1)).foldl (lookStep l) (0, leaves l 0)
  | 0 => by simp [lookTo, hm]
  | n + 1 => by
    rw [List.range_succ, List.map_append, List.foldl_append, ← lookTo_lookR l m hm n]
    conv => lhs; rw [lookTo]
    rfl
theorem lookTo_congr {f g : Nat → Int} {m : Int} : ∀ n, (∀ i, i < n → f i = g i) → lookTo f m n = lookTo g m n
  | 0, _ => rfl
  | n + 1, h => by simp only [lookTo, lookTo_congr n fun i hi => h i (by omega), h n (by omega)]
end Go.Proofs.Ytcffgjhmpgdfpaa

/- The plain laws of First and Leave: what the program finds is what the reference has. -/
namespace Go.Proofs.Ytcffgjhmpgdfpaa

/-- have all clips but some a truth -/
def possibleP (c : Hou) (out : List Int) : Bool := (errAll c.clocks).any fun d => rightP c (pad4 d) out
def withClips (c : Hou) (l : List Cp) : Hou := { c with clips := l }
/-- the first wrong clip, as the program finds it -/
def firstBad (c : Hou) (i : Nat) : Bool := !possibleP (withClips c (c.clips.take (i + 1))) []
def firstOut (c : Hou) : Int × Int :=
  if fault c ≠ 0 then (0, fault c) else match (List.range c.clips.length).find? (firstBad c) with
    | some i => ((i : Nat), 0)
    | none => (0, 7)
/-- the first list that can be left out, as the program finds it: many more from one on -/
def leaveGo (c : Hou) (n : Nat) : Nat → Nat → List Int → Option (List Int)
  | 0, _, out => if possibleP c out then some out else none
  | m + 1, f, out => (List.range' f (n - m - f)).findSome? fun i => leaveGo c n m (i + 1) (out ++ [(i : Int)])
theorem findSome_range_some {α : Type} (g : Nat → Option α) : ∀ (k f i : Nat) (x : α), f ≤ i → i < f + k → g i = some x → (∀ t, f ≤ t → t < i → g t = none) → (List.range' f k).findSome? g = some x
  | 0, f, i, x, h1, h2, _, _ => by omega
  | k + 1, f, i, x, h1, h2, h, hno => by
    rw [List.range'_succ, List.findSome?_cons]
    rcases Nat.eq_or_lt_of_le h1 with rfl | hlt
    · rw [h]
    · rw [hno f (Nat.le_refl _) hlt]
      exact findSome_range_some g k (f + 1) i x hlt (by omega) h fun t h3 h4 => hno t (by omega) h4
theorem findSome_range_none {α : Type} (g : Nat → Option α) (k f : Nat) (hno : ∀ t, f ≤ t → t < f + k → g t = none) : (List.range' f k).findSome? g = none := by
  rw [List.findSome?_eq_none_iff]
  intro t ht
  have := List.mem_range'_1.1 ht
  exact hno t this.1 this.2

theorem errAll_ne : ∀ (hs : List (Int × Int)), (∀ h ∈ hs, h.1 ≤ h.2) → ∃ d, d ∈ errAll hs
  | [], _ => ⟨[], by simp [errAll]⟩
  | h :: hs, ok => by
    obtain ⟨d, hd⟩ := errAll_ne hs fun x hx => ok x (List.mem_cons_of_mem _ hx)
    have := ok h List.mem_cons_self
    refine ⟨h.1 :: d, ?_⟩
    simp only [errAll, List.mem_flatMap, List.mem_map, rangeL, List.mem_range]
    exact ⟨h.1, ⟨0, by omega, by simp⟩, d, hd, rfl⟩
theorem leaveGo_full (c : Hou) (n : Nat) : ∀ (m f : Nat) (out : List Int), f + m = n → leaveGo c n m f out = if possibleP c (out ++ (List.range' f m).map fun (i : Nat) => (i : Int)) then some (out ++ (List.range' f m).map fun (i : Nat) => (i : Int)) else none
  | 0, f, out, _ => by simp [leaveGo]
  | m + 1, f, out, h => by
    unfold leaveGo
    rw [show n - m - f = 1 by omega, List.range'_one, List.findSome?_cons, List.findSome?_nil, leaveGo_full c n m (f + 1) _ (by omega), List.range'_succ]
    simp only [List.map_cons, List.append_assoc, List.cons_append, List.nil_append]
    generalize (if possibleP c (out ++ (f : Int) :: (List.range' (f + 1) m).map fun (i : Nat) => (i : Int)) = true then some (out ++ (f : Int) :: (List.range' (f + 1) m).map fun (i : Nat) => (i : Int)) else none) = r
    cases r <;> rfl
/-- the smallest set, as the program finds it -/
def leaveP (c : Hou) : Option (List Int) := (List.range' 0 (c.clips.length + 1)).findSome? fun m => leaveGo c c.clips.length m 0 []
theorem leaveGo_last {c : Hou} (ok : OkH c) : leaveGo c c.clips.length c.clips.length 0 [] ≠ none := by
  rw [leaveGo_full _ _ _ _ _ (by omega)]
  have : possibleP c ([] ++ (List.range' 0 c.clips.length).map fun (i : Nat) => (i : Int)) = true := by
    unfold possibleP
    rw [List.any_eq_true]
    obtain ⟨d, hd⟩ := errAll_ne c.clocks fun h hh => by have := ok.clock h hh; omega
    refine ⟨d, hd, (rightP_iff ok _).2 fun j k hjk hk hn _ => absurd ?_ hn⟩
    simp only [List.nil_append, List.mem_map, List.mem_range'_1]
    exact ⟨j, ⟨Nat.zero_le _, by omega⟩, rfl⟩
  rw [if_pos this]
  simp
def leaveOut (c : Hou) : List Int := if fault c = 0 then (leaveP c).getD [] else []

theorem ofR_take_le (c : Hou) (t : Int) (k : Nat) : (ofR (withClips c (c.clips.take k)) t).length ≤ (ofR c t).length := by
  unfold ofR
  have e : (List.range (withClips c (c.clips.take k)).clips.length).filter (fun i => decide ((clipAt (withClips c (c.clips.take k)) i).ticket = t)) = (List.range (withClips c (c.clips.take k)).clips.length).filter (fun i => decide ((clipAt c i).ticket = t)) := by
    apply List.filter_congr
    intro i hi
    have hlt : i < k ∧ i < c.clips.length := by
      have : i < (c.clips.take k).length := List.mem_range.1 hi
      rw [List.length_take] at this; omega
    have : clipAt (withClips c (c.clips.take k)) i = clipAt c i := by
      unfold clipAt withClips
      rw [List.getD_eq_getElem?_getD, List.getD_eq_getElem?_getD, List.getElem?_take_of_lt hlt.1]
    rw [this]
  rw [e]
  refine List.Sublist.length_le (List.Sublist.filter _ ?_)
  refine List.range_sublist.2 ?_
  show (c.clips.take k).length ≤ c.clips.length
  rw [List.length_take]; omega
theorem okH_take {c : Hou} (ok : OkH c) (k : Nat) : OkH (withClips c (c.clips.take k)) :=
  ⟨ok.n1, ok.n2, by show (c.clips.take k).length ≤ 10; have := ok.n3; rw [List.length_take]; omega, ok.hour, ok.grace, ok.clock, ok.tick, fun x hx => ok.clip x (List.mem_of_mem_take hx), fun i hi => Nat.le_trans (ofR_take_le c i k) (ok.two i hi)⟩
theorem possible_iff {c : Hou} (ok : OkH c) (out : List Int) : possibleP c out = true ↔ ∃ d ∈ errAll c.clocks, ∀ j k, j < k → k < c.clips.length → ¬ (j : Int) ∈ out → ¬ (k : Int) ∈ out → trueM c d j ≤ trueM c d k := by
  unfold possibleP
  rw [List.any_eq_true]
  constructor
  · rintro ⟨d, hd, h⟩; exact ⟨d, hd, (rightP_iff ok out).1 h⟩
  · rintro ⟨d, hd, h⟩; exact ⟨d, hd, (rightP_iff ok out).2 h⟩
theorem can_iff {c : Hou} (hf : fault c = 0) (bits : Nat) : can c bits = true ↔ ∃ d ∈ errAll c.clocks, risingR c d bits = true := by
  unfold can
  rw [List.any_eq_true]
  constructor
  · rintro ⟨d, hd, h⟩; exact ⟨d, ((allErr_perm hf).mem_iff).2 hd, h⟩
  · rintro ⟨d, hd, h⟩; exact ⟨d, ((allErr_perm hf).mem_iff).1 hd, h⟩
theorem mask_bits {c : Hou} (hf : fault c = 0) {bits : Nat} {out : List Int} (h : ∀ j, j < c.clips.length → (bits.testBit j = true ↔ ¬ (j : Int) ∈ out)) : can c bits = possibleP c out := by
  rw [Bool.eq_iff_iff, can_iff hf]
  unfold possibleP
  rw [List.any_eq_true]
  constructor
  · rintro ⟨d, hd, hl⟩; exact ⟨d, hd, by rw [← rising_mask (okH_of_fault hf) h]; exact hl⟩
  · rintro ⟨d, hd, hl⟩; exact ⟨d, hd, by rw [rising_mask (okH_of_fault hf) h]; exact hl⟩

/-! ### First -/
theorem trueM_take {c : Hou} {d : List Int} {k j : Nat} (h : j < k) : trueM (withClips c (c.clips.take k)) d j = trueM c d j := by
  unfold trueM clipAt withClips
  rw [List.getD_eq_getElem?_getD, List.getD_eq_getElem?_getD, List.getElem?_take_of_lt h]
theorem first_bit {c : Hou} (hf : fault c = 0) {i : Nat} (hi : i < c.clips.length) : firstBad c i = !can c (2 ^ (i + 1) - 1) := by
  unfold firstBad
  congr 1
  have hlen : (withClips c (c.clips.take (i + 1))).clips.length = i + 1 := by show (c.clips.take (i + 1)).length = _; rw [List.length_take]; omega
  rw [Bool.eq_iff_iff, can_iff hf, possible_iff (okH_take (okH_of_fault hf) _), hlen]
  constructor
  · rintro ⟨d, hd, h⟩
    refine ⟨d, hd, (risingR_iff _ _ _).2 fun j k hjk hk hj hk2 => ?_⟩
    rw [Nat.testBit_two_pow_sub_one, decide_eq_true_eq] at hj hk2
    have := h j k hjk hk2 (by simp) (by simp)
    rwa [trueM_take hj, trueM_take hk2] at this
  · rintro ⟨d, hd, h⟩
    refine ⟨d, hd, fun j k hjk hk _ _ => ?_⟩
    rw [trueM_take (by omega), trueM_take hk]
    exact (risingR_iff _ _ _).1 h j k hjk (by omega) (by rw [Nat.testBit_two_pow_sub_one, decide_eq_true_eq]; omega) (by rw [Nat.testBit_two_pow_sub_one, decide_eq_true_eq]; omega)
theorem find_congr {P Q : Nat → Bool} {n : Nat} (h : ∀ i, i < n → P i = Q i) : (List.range n).find? P = (List.range n).find? Q := by
  have : ∀ (l : List Nat), (∀ i ∈ l, P i = Q i) → l.find? P = l.find? Q := fun l => by
    induction l with
    | nil => intro _; rfl
    | cons x l ih => intro hl; rw [List.find?_cons, List.find?_cons, hl x List.mem_cons_self, ih fun i hi => hl i (List.mem_cons_of_mem _ hi)]
  exact this _ fun i hi => h i (by simpa using hi)
theorem first_law (c : Hou) : (fault c ≠ 0 ∧ firstOut c = (0, fault c)) ∨
    (fault c = 0 ∧ ((∃ j : Nat, j < c.clips.length ∧ firstR c = j ∧ firstOut c = ((j : Int), 0)) ∨ (firstR c = -1 ∧ firstOut c = (0, 7)))) := by
  by_cases hf : fault c = 0
  · right
    refine ⟨hf, ?_⟩
    have hc := find_congr (n := c.clips.length) fun i hi => first_bit hf hi
    unfold firstOut firstR
    rw [if_neg (by simp [hf]), hc]
    cases hq : (List.range c.clips.length).find? (fun n => !can c (2 ^ (n + 1) - 1)) with
    | none => exact .inr ⟨rfl, rfl⟩
    | some j =>
      have := List.mem_of_find?_eq_some hq
      exact .inl ⟨j, by simpa using this, rfl, rfl⟩
  · exact .inl ⟨hf, by unfold firstOut; rw [if_pos hf]⟩

/-! ### Leave -/
theorem bitList_mem : ∀ (k bits p j : Nat), bits < 2 ^ k → ((j : Int) ∈ bitList k bits p ↔ p ≤ j ∧ bits.testBit (j - p) = true)
  | 0, bits, p, j, h => by
    have : bits = 0 := by simpa using h
    subst this
    simp [bitList]
  | k + 1, bits, p, j, h => by
    have hk : bits / 2 < 2 ^ k := by rw [Nat.pow_succ] at h; omega
    have ih := bitList_mem k (bits / 2) (p + 1) j hk
    have hrest : p + 1 ≤ j → bits.testBit (j - p) = (bits / 2).testBit (j - (p + 1)) := fun hj => by
      rw [show j - p = (j - (p + 1)) + 1 by omega, Nat.testBit_succ]
    have hzero : bits.testBit 0 = decide (bits % 2 = 1) := Nat.testBit_zero bits
    unfold bitList
    split
    · rename_i hb
      simp only [List.mem_cons]
      rw [ih]
      constructor
      · rintro (h1 | ⟨h1, h2⟩)
        · have : j = p := by omega
          subst this
          exact ⟨Nat.le_refl _, by rw [Nat.sub_self, hzero]; simp [hb]⟩
        · exact ⟨by omega, by rw [hrest h1]; exact h2⟩
      · rintro ⟨h1, h2⟩
        rcases Nat.eq_or_lt_of_le h1 with rfl | hlt
        · exact .inl rfl
        · exact .inr ⟨hlt, by rw [← hrest hlt]; exact h2⟩
    · rename_i hb
      rw [ih]
      constructor
      · rintro ⟨h1, h2⟩
        exact ⟨by omega, by rw [hrest h1]; exact h2⟩
      · rintro ⟨h1, h2⟩
        rcases Nat.eq_or_lt_of_le h1 with rfl | hlt
        · rw [Nat.sub_self, hzero] at h2
          simp [hb] at h2
        · exact ⟨hlt, by rw [← hrest hlt]; exact h2⟩
theorem bitsR_mem (bits j : Nat) : (j : Int) ∈ bitsR bits ↔ bits.testBit j = true := by
  unfold bitsR
  rw [bitList_mem bits bits 0 j Nat.lt_two_pow_self]
  simp
theorem can_bits {c : Hou} (hf : fault c = 0) {bits : Nat} (hb : bits < 2 ^ c.clips.length) : can c (full c - bits) = possibleP c (bitsR bits) := by
  have ht : ∀ j, (full c - bits).testBit j = (decide (j < c.clips.length) && !bits.testBit j) := fun j => by
    unfold full
    rw [show 2 ^ c.clips.length - 1 - bits = 2 ^ c.clips.length - (bits + 1) by omega]
    exact Nat.testBit_two_pow_sub_succ hb j
  refine mask_bits hf fun j hj => ?_
  rw [ht, bitsR_mem]; simp [hj]
theorem before_trans : ∀ (a b c : List Int), before a b = true → before b c = true → before a c = true
  | [], [], _, h, _ => by simp [before] at h
  | [], _ :: _, [], _, h => by simp [before] at h
  | [], _ :: _, _ :: _, _, _ => rfl
  | _ :: _, [], _, h, _ => by simp [before] at h
  | _ :: _, _ :: _, [], _, h => by simp [before] at h
  | x :: a, y :: b, z :: c, h1, h2 => by
    simp only [before] at h1 h2 ⊢
    by_cases e1 : x = y
    · subst e1
      rw [if_pos rfl] at h1
      by_cases e2 : x = z
      · subst e2
        rw [if_pos rfl] at h2 ⊢
        exact before_trans a b c h1 h2
      · rw [if_neg e2] at h2 ⊢; exact h2
    · rw [if_neg e1, decide_eq_true_eq] at h1
      by_cases e2 : y = z
      · subst e2
        rw [if_neg e1]; simpa using h1
      · rw [if_neg e2, decide_eq_true_eq] at h2
        rw [if_neg (by omega)]; simp; omega
theorem before_irrefl : ∀ (a : List Int), before a a = false
  | [] => rfl
  | x :: a => by simp [before, before_irrefl a]
theorem shorter_trans {a b c : List Int} (h1 : shorter a b = true) (h2 : shorter b c = true) : shorter a c = true := by
  unfold shorter at *
  simp only [Bool.or_eq_true, Bool.and_eq_true, decide_eq_true_eq, beq_iff_eq] at *
  rcases h1 with h1 | ⟨h1, h3⟩ <;> rcases h2 with h2 | ⟨h2, h4⟩
  · left; omega
  · left; omega
  · left; omega
  · right; exact ⟨by omega, before_trans a b c h3 h4⟩
theorem shorter_irrefl (a : List Int) : shorter a a = false := by unfold shorter; simp [before_irrefl]
/-- a fold that keeps the shortest of those with a property -/
theorem leaveFold (P : List Int → Bool) (f : Nat → List Int) (Q : Nat → Bool) (hQ : ∀ b, Q b = P (f b)) : ∀ (L : List Nat) (b0 : List Int), P b0 = true →
    (P (L.foldl (fun best b => if shorter (f b) best && Q b then f b else best) b0) = true ∧
     ((L.foldl (fun best b => if shorter (f b) best && Q b then f b else best) b0) = b0 ∨ (∃ b ∈ L, (L.foldl (fun best b => if shorter (f b) best && Q b then f b else best) b0) = f b)) ∧
     (∀ y, P y = true → shorter y b0 = false → shorter y (L.foldl (fun best b => if shorter (f b) best && Q b then f b else best) b0) = false) ∧
     (∀ b ∈ L, P (f b) = true → shorter (f b) (L.foldl (fun best b => if shorter (f b) best && Q b then f b else best) b0) = false))
  | [], b0, h => ⟨h, .inl rfl, fun _ _ h => h, fun b hb => by cases hb⟩
  | b :: L, b0, h => by
    rw [List.foldl_cons]
    by_cases hs : (shorter (f b) b0 && Q b) = true
    · rw [if_pos hs]
      rw [Bool.and_eq_true, hQ] at hs
      obtain ⟨h1, h2, h3, h4⟩ := leaveFold P f Q hQ L (f b) hs.2
      have hb := h3 (f b) hs.2 (shorter_irrefl _)
      refine ⟨h1, ?_, fun y hy hn => h3 y hy ?_, fun x hx hp => ?_⟩
      · rcases h2 with h2 | ⟨x, hx, h2⟩
        · exact .inr ⟨b, List.mem_cons_self, h2⟩
        · exact .inr ⟨x, List.mem_cons_of_mem _ hx, h2⟩
      · cases hc : shorter y (f b) with
        | false => rfl
        | true => rw [shorter_trans hc hs.1] at hn; cases hn
      · rcases List.mem_cons.1 hx with rfl | hx
        · exact hb
        · exact h4 x hx hp
    · rw [if_neg hs]
      obtain ⟨h1, h2, h3, h4⟩ := leaveFold P f Q hQ L b0 h
      refine ⟨h1, ?_, h3, fun x hx hp => ?_⟩
      · rcases h2 with h2 | ⟨x, hx, h2⟩
        · exact .inl h2
        · exact .inr ⟨x, List.mem_cons_of_mem _ hx, h2⟩
      · rcases List.mem_cons.1 hx with rfl | hx
        · refine h3 _ hp ?_
          rw [hQ, hp, Bool.and_true] at hs
          simpa using hs
        · exact h4 x hx hp
/-- the sets of m more numbers from f on, below n -/
def comb (n : Nat) : Nat → Nat → List Int → List (List Int)
  | 0, _, out => [out]
  | m + 1, f, out => (List.range' f (n - m - f)).flatMap fun i => comb n m (i + 1) (out ++ [(i : Int)])
theorem leaveGo_find (c : Hou) (n : Nat) : ∀ (m f : Nat) (out : List Int), leaveGo c n m f out = (comb n m f out).find? (possibleP c)
  | 0, f, out => by
    unfold leaveGo comb
    rw [List.find?_cons, List.find?_nil]
    cases possibleP c out <;> rfl
  | m + 1, f, out => by
    unfold leaveGo comb
    rw [List.find?_flatMap]
    congr 1
    funext i
    exact leaveGo_find c n m (i + 1) _
def combs (n : Nat) : List (List Int) := (List.range' 0 (n + 1)).flatMap fun m => comb n m 0 []
theorem leaveP_find (c : Hou) : leaveP c = (combs c.clips.length).find? (possibleP c) := by
  unfold leaveP combs
  rw [List.find?_flatMap]
  congr 1
  funext m
  exact leaveGo_find c _ m 0 []
theorem bitList_nil : ∀ (k p : Nat), bitList k 0 p = []
  | 0, _ => rfl
  | k + 1, p => by simp [bitList, bitList_nil k (p + 1)]
theorem bitList_fuel : ∀ (k j bits p : Nat), bits < 2 ^ k → k ≤ j → bitList j bits p = bitList k bits p
  | 0, j, bits, p, h, _ => by
    have : bits = 0 := by simpa using h
    subst this
    rw [bitList_nil, bitList_nil]
  | k + 1, 0, bits, p, _, hj => by omega
  | k + 1, j + 1, bits, p, h, hj => by
    have hk : bits / 2 < 2 ^ k := by rw [Nat.pow_succ] at h; omega
    simp only [bitList, bitList_fuel k j (bits / 2) (p + 1) hk (by omega)]
theorem bitsR_fuel {n b : Nat} (h : b < 2 ^ n) : bitsR b = bitList n b 0 := by
  unfold bitsR
  rcases Nat.le_total n b with hle | hle
  · exact bitList_fuel n b b 0 h hle
  · exact (bitList_fuel b n b 0 Nat.lt_two_pow_self hle).symm
def toB (l : List Int) : Nat := l.foldl (fun b i => b + 2 ^ i.toNat) 0
def chainB : List (List Int) → Bool
  | a :: b :: l => shorter a b && chainB (b :: l)
  | _ => true
theorem chainB_pairwise : ∀ (l : List (List Int)), chainB l = true → l.Pairwise (fun a b => shorter a b = true)
  | [], _ => List.Pairwise.nil
  | [a], _ => List.pairwise_singleton _ _
  | a :: b :: l, h => by
    simp only [chainB, Bool.and_eq_true] at h
    have ih := chainB_pairwise (b :: l) h.2
    refine List.Pairwise.cons (fun x hx => ?_) ih
    rcases List.mem_cons.1 hx with rfl | hx
    · exact h.1
    · exact shorter_trans h.1 ((List.pairwise_cons.1 ih).1 x hx)
theorem combs_facts : ∀ n, n < 11 → chainB (combs n) = true ∧ ((combs n).all fun l => bitList n (toB l) 0 == l && decide (toB l < 2 ^ n)) = true ∧
    ((List.range (2 ^ n)).all fun b => (comb n (bitList n b 0).length 0 []).contains (bitList n b 0) && decide ((bitList n b 0).length ≤ n)) = true := by
  decide +kernel
theorem combs_sorted {n : Nat} (h : n < 11) : (combs n).Pairwise (fun a b => shorter a b = true) := chainB_pairwise _ (combs_facts n h).1
theorem combs_bits {n : Nat} (h : n < 11) {l : List Int} (hl : l ∈ combs n) : ∃ b, b < 2 ^ n ∧ bitsR b = l := by
  have := List.all_eq_true.1 (combs_facts n h).2.1 l hl
  rw [Bool.and_eq_true, beq_iff_eq, decide_eq_true_eq] at this
  exact ⟨toB l, this.2, by rw [bitsR_fuel this.2]; exact this.1⟩
theorem combs_has {n : Nat} (h : n < 11) {b : Nat} (hb : b < 2 ^ n) : bitsR b ∈ combs n := by
  have := List.all_eq_true.1 (combs_facts n h).2.2 b (by simpa using hb)
  rw [Bool.and_eq_true, decide_eq_true_eq] at this
  rw [bitsR_fuel hb]
  unfold combs
  rw [List.mem_flatMap]
  exact ⟨(bitList n b 0).length, by rw [List.mem_range'_1]; omega, List.contains_iff_mem.1 this.1⟩
theorem find_sorted {P : List Int → Bool} : ∀ {l : List (List Int)} {x : List Int}, l.Pairwise (fun a b => shorter a b = true) → l.find? P = some x → x ∈ l ∧ P x = true ∧ ∀ y ∈ l, P y = true → y = x ∨ shorter x y = true
  | [], x, _, h => by cases h
  | a :: l, x, hp, h => by
    have hp2 := List.pairwise_cons.1 hp
    rw [List.find?_cons] at h
    split at h
    · rename_i ha
      injection h with h
      subst h
      refine ⟨List.mem_cons_self, ha, fun y hy _ => ?_⟩
      rcases List.mem_cons.1 hy with rfl | hy
      · exact .inl rfl
      · exact .inr (hp2.1 y hy)
    · rename_i ha
      obtain ⟨h1, h2, h3⟩ := find_sorted hp2.2 h
      refine ⟨List.mem_cons_of_mem _ h1, h2, fun y hy hP => ?_⟩
      rcases List.mem_cons.1 hy with rfl | hy
      · rw [hP] at ha; cases ha
      · exact h3 y hy hP
theorem full_lt (c : Hou) : full c < 2 ^ c.clips.length := by unfold full; have := Nat.two_pow_pos c.clips.length; omega
theorem leaveP_some {c : Hou} (hf : fault c = 0) : ∃ l, leaveP c = some l ∧ l ∈ combs c.clips.length ∧ possibleP c l = true ∧ ∀ y ∈ combs c.clips.length, possibleP c y = true → y = l ∨ shorter l y = true := by
  have ok := okH_of_fault hf
  have h6 : c.clips.length < 11 := by have := ok.n3; omega
  have hfull : possibleP c (bitsR (full c)) = true := by
    rw [← can_bits hf (full_lt c), Nat.sub_self, can_iff hf]
    obtain ⟨d, hd⟩ := errAll_ne c.clocks fun h hh => by have := ok.clock h hh; omega
    exact ⟨d, hd, (risingR_iff _ _ _).2 fun j k _ _ hj => by simp at hj⟩
  cases h : leaveP c with
  | none =>
    rw [leaveP_find, List.find?_eq_none] at h
    exact absurd hfull (h _ (combs_has h6 (full_lt c)))
  | some l =>
    have h2 := h
    rw [leaveP_find] at h2
    exact ⟨l, rfl, find_sorted (combs_sorted h6) h2⟩
theorem leave_law {c : Hou} (hf : fault c = 0) : leaveOut c = leaveR c := by
  have ok := okH_of_fault hf
  have h6 : c.clips.length < 11 := by have := ok.n3; omega
  obtain ⟨l, hl, hmem, hP, hmin⟩ := leaveP_some hf
  have hQ : ∀ b, (fun b => can c (full c - b)) b = (fun b => can c (full c - b)) b := fun _ => rfl
  have hcan : ∀ b, b < 2 ^ c.clips.length → can c (full c - b) = possibleP c (bitsR b) := fun b hb => can_bits hf hb
  have hstep : leaveR c = (List.range (full c + 1)).foldl (fun best b => if shorter (bitsR b) best && possibleP c (bitsR b) then bitsR b else best) (bitsR (full c)) := by
    unfold leaveR
    have : ∀ (L : List Nat) (b0 : List Int), (∀ b ∈ L, b < 2 ^ c.clips.length) → L.foldl (leaveStep c) b0 = L.foldl (fun best b => if shorter (bitsR b) best && possibleP c (bitsR b) then bitsR b else best) b0 := fun L => by
      induction L with
      | nil => intro _ _; rfl
      | cons b L ih =>
        intro b0 h
        rw [List.foldl_cons, List.foldl_cons, ih _ fun x hx => h x (List.mem_cons_of_mem _ hx)]
        unfold leaveStep
        rw [hcan b (h b List.mem_cons_self)]
    exact this _ _ fun b hb => by have := full_lt c; simp at hb; omega
  have hfp : possibleP c (bitsR (full c)) = true := by
    rw [← can_bits hf (full_lt c), Nat.sub_self, can_iff hf]
    obtain ⟨d, hd⟩ := errAll_ne c.clocks fun h hh => by have := ok.clock h hh; omega
    exact ⟨d, hd, (risingR_iff _ _ _).2 fun j k _ _ hj => by simp at hj⟩
  obtain ⟨h1, h2, h3, h4⟩ := leaveFold (possibleP c) bitsR (fun b => possibleP c (bitsR b)) (fun _ => rfl) (List.range (full c + 1)) (bitsR (full c)) hfp
  rw [← hstep] at h1 h2 h3 h4
  unfold leaveOut
  rw [if_pos hf, hl, Option.getD_some]
  have hin : leaveR c ∈ combs c.clips.length := by
    rcases h2 with h2 | ⟨b, hb, h2⟩
    · rw [h2]; exact combs_has h6 (full_lt c)
    · rw [h2]; exact combs_has h6 (by have := full_lt c; simp at hb; omega)
  rcases hmin _ hin h1 with h5 | h5
  · exact h5.symm
  · obtain ⟨b, hb, hbl⟩ := combs_bits h6 hmem
    have h6 := h4 b (by unfold full; simp; omega) (by rw [hbl]; exact hP)
    rw [hbl, h5] at h6
    cases h6
end Go.Proofs.Ytcffgjhmpgdfpaa

/- What the program's functions return, as plain functions; and what these are by the reference. -/
namespace Go.Proofs.Ytcffgjhmpgdfpaa

def isTick (c : Hou) (n : Int) : Bool := inB n 0 ((c.tickets.length : Int) - 1)
def askedErr (c : Hou) (due : Int) : Int := if fault c ≠ 0 then fault c else if due ≠ 0 then due else if truthsP c = [] then 11 else 0
def offF (i : Nat) (d : List Int) : Int := d.getD i 0
def clocksOut (c : Hou) : List (Int × Int) := if askedErr c 0 = 0 then (List.range c.clocks.length).map fun i => bP (offF i) (truthsP c) else []
def hoursF (c : Hou) (i : Nat) (d : List Int) : Int := hoursR c d i
def hoursOut (c : Hou) : List (Int × Int) := if askedErr c 0 = 0 then (List.range c.tickets.length).map fun i => bP (hoursF c i) (truthsP c) else []
def longF (c : Hou) (i : Nat) (d : List Int) : Bool := isLong c d i
def longOut (c : Hou) : List Int := if askedErr c 0 = 0 then (List.range c.tickets.length).map fun i => vP (longF c i) (truthsP c) else []
def clashDue (c : Hou) (a b : Int) : Int := if isTick c a = false ∨ isTick c b = false then 2 else if a = b then 6 else 0
def clashOut (c : Hou) (a b : Int) : Int := if askedErr c (clashDue c a b) = 0 then vP (fun d => clashB c d a.toNat b.toNat) (truthsP c) else 0
def paidOut (c : Hou) : Int := if askedErr c 0 = 0 then vP (isPaid c) (truthsP c) else 0
def freeDue (c : Hou) (n : Int) : Int := if inB n 0 8 = false then 2 else if isOpen c n then 8 else 0
def freeF (c : Hou) (n : Int) (d : List Int) : Int := fromR c d n
def freeOut (c : Hou) (n : Int) : Int × Int := if askedErr c (freeDue c n) = 0 then bP (freeF c n) (truthsP c) else (0, 0)
def mostC (c : Hou) (i : Nat) : Int := mostP (truthsP c) i (clockAt c i).1 (sizeR (clockAt c i)).toNat
def lookErr (c : Hou) : Int := if askedErr c 0 ≠ 0 then askedErr c 0 else if c.clocks.length = 0 then 7 else 0
def lookOut (c : Hou) : Nat × Int := if lookErr c = 0 then lookTo (mostC c) ((truthsP c).length + 1) c.clocks.length else (0, 0)

theorem askedErr_bad {c : Hou} {due : Int} (h : fault c ≠ 0) : askedErr c due = fault c := by unfold askedErr; rw [if_pos h]
theorem askedErr_due {c : Hou} {due : Int} (h : fault c = 0) (hd : due ≠ 0) : askedErr c due = due := by unfold askedErr; rw [if_neg (by simp [h]), if_pos hd]
theorem askedErr_none {c : Hou} (h : fault c = 0) (ht : truthsP c = []) : askedErr c 0 = 11 := by unfold askedErr; rw [if_neg (by simp [h]), if_neg (by simp), if_pos ht]
theorem askedErr_ok {c : Hou} (h : fault c = 0) (ht : truthsP c ≠ []) : askedErr c 0 = 0 := by unfold askedErr; rw [if_neg (by simp [h]), if_neg (by simp), if_neg ht]
theorem askedErr_zero {c : Hou} {due : Int} (h : askedErr c due = 0) : fault c = 0 ∧ due = 0 ∧ truthsP c ≠ [] := by
  unfold askedErr at h
  split at h
  · rename_i h1; exact absurd h h1
  · rename_i h1
    split at h
    · rename_i h2; exact absurd h h2
    · rename_i h2
      split at h
      · omega
      · rename_i h3; exact ⟨by simpa using h1, by simpa using h2, h3⟩
theorem askedErr_range (c : Hou) {due : Int} (hd : 0 ≤ due ∧ due ≤ 20) : 0 ≤ askedErr c due ∧ askedErr c due ≤ 20 := by
  unfold askedErr
  have := fault_cases c
  split
  · omega
  · split
    · omega
    · split <;> omega
theorem truths_nil {c : Hou} (hf : fault c = 0) : truthsP c = [] ↔ truths c = [] := by
  have p := truthsP_perm hf
  constructor
  · intro e; rw [e] at p; exact p.nil_eq.symm
  · intro e; rw [e] at p; exact p.eq_nil
theorem truths_ne {c : Hou} (hf : fault c = 0) : truthsP c ≠ [] ↔ truths c ≠ [] := not_congr (truths_nil hf)

/-! ### ranges -/
theorem hoursOf_range {hour stay : Int} (h1 : 1 ≤ hour) (h2 : stay ≤ 1000000) : 0 ≤ hoursOf hour stay ∧ hoursOf hour stay ≤ 1000000 := by
  unfold hoursOf
  split
  · omega
  · refine ⟨Int.ediv_nonneg (by omega) (by omega), ?_⟩
    refine Int.le_trans (Int.ediv_le_of_le_mul (c := hour) (b := stay) (by omega) ?_) h2
    have : 1 * hour ≤ stay * hour := Int.mul_le_mul_of_nonneg_right (by omega) (by omega)
    have h3 : stay * 1 ≤ stay * hour := Int.mul_le_mul_of_nonneg_left h1 (by omega)
    have h4 : (stay - 1) * (hour - 1) ≥ 0 := Int.mul_nonneg (by omega) (by omega)
    have h5 : (stay - 1) * (hour - 1) = stay * hour - stay - hour + 1 := by
      rw [Int.sub_mul, Int.mul_sub, Int.mul_one, Int.one_mul]; omega
    omega
theorem hoursR_range {c : Hou} (ok : OkH c) {d : List Int} (hd : IsErr c d) (t : Int) : 0 ≤ hoursR c d t ∧ hoursR c d t ≤ 1000000 := by
  unfold hoursR
  split
  · rename_i a b l h
    have ha : a < c.clips.length := ofR_lt (t := t) (by rw [h]; simp)
    have hb : b < c.clips.length := ofR_lt (t := t) (by rw [h]; simp)
    have := trueM_range ok hd ha
    have := trueM_range ok hd hb
    have := ok.hour
    have := ok.grace
    exact hoursOf_range (by omega) (by omega)
  · omega
theorem fromStep_range {c : Hou} (ok : OkH c) {d : List Int} (hd : IsErr c d) (tub : Int) {n : Int} (hn : 0 ≤ n ∧ n ≤ 1469) (i : Nat) : 0 ≤ fromStep c d tub n i ∧ fromStep c d tub n i ≤ 1469 := by
  unfold fromStep
  split
  · split
    · rename_i a b h
      have hb : b < c.clips.length := ofR_lt (t := i) (by rw [h]; simp)
      have := trueM_range ok hd hb
      omega
    · exact hn
  · exact hn
theorem from_fold {c : Hou} (ok : OkH c) {d : List Int} (hd : IsErr c d) (tub : Int) : ∀ (l : List Nat) (n : Int), 0 ≤ n ∧ n ≤ 1469 → 0 ≤ l.foldl (fromStep c d tub) n ∧ l.foldl (fromStep c d tub) n ≤ 1469
  | [], n, h => h
  | i :: l, n, h => by rw [List.foldl_cons]; exact from_fold ok hd tub l _ (fromStep_range ok hd tub h i)
theorem fromR_range {c : Hou} (ok : OkH c) {d : List Int} (hd : IsErr c d) (tub : Int) : 0 ≤ fromR c d tub ∧ fromR c d tub ≤ 1469 := from_fold ok hd tub _ 0 (by omega)
/-! ### by the reference -/
theorem clock_bR {c : Hou} (hf : fault c = 0) (hne : truthsP c ≠ []) (i : Nat) : bP (offF i) (truthsP c) = bR (offF i) (truths c) :=
  bP_bR (truthsP_perm hf) hne fun d hd => by have := (truthsP_isErr (okH_of_fault hf) d hd).range (okH_of_fault hf) i; unfold offF; omega
theorem hours_bR {c : Hou} (hf : fault c = 0) (hne : truthsP c ≠ []) (i : Nat) : bP (hoursF c i) (truthsP c) = bR (hoursF c i) (truths c) :=
  bP_bR (truthsP_perm hf) hne fun d hd => by have := hoursR_range (okH_of_fault hf) (truthsP_isErr (okH_of_fault hf) d hd) i; unfold hoursF; omega
theorem free_bR {c : Hou} (hf : fault c = 0) (hne : truthsP c ≠ []) (n : Int) : bP (freeF c n) (truthsP c) = bR (freeF c n) (truths c) :=
  bP_bR (truthsP_perm hf) hne fun d hd => by have := fromR_range (okH_of_fault hf) (truthsP_isErr (okH_of_fault hf) d hd) n; unfold freeF; omega
theorem mostC_leaves {c : Hou} (hf : fault c = 0) {i : Nat} (hi : i < c.clocks.length) : mostC c i = leaves (truths c) i := by
  have ok := okH_of_fault hf
  have hx := List.getElem?_eq_getElem hi
  have hc := ok.clock _ (List.getElem_mem hi)
  unfold mostC
  rw [clockAt_of hx, ← leaves_perm (truthsP_perm hf)]
  refine mostP_leaves fun d hd => ?_
  have he := truthsP_isErr ok d hd
  have hl : i < d.length := by have := he.len; omega
  have := he.mem i _ _ hx (List.getElem?_eq_getElem hl)
  rw [List.getD_eq_getElem?_getD, List.getElem?_eq_getElem hl, Option.getD_some]
  unfold sizeR
  omega
theorem look_law {c : Hou} (hf : fault c = 0) (hne : truthsP c ≠ []) (h0 : 0 < c.clocks.length) : lookTo (mostC c) ((truthsP c).length + 1) c.clocks.length = lookR c (truths c) := by
  have hlen := (truthsP_perm hf).length_eq
  have := leaves_le (truths c) 0
  obtain ⟨n, hn⟩ : ∃ n, c.clocks.length = n + 1 := ⟨c.clocks.length - 1, by omega⟩
  rw [lookTo_congr (g := leaves (truths c)) c.clocks.length fun i hi => mostC_leaves hf hi]
  unfold lookR
  rw [hn, Nat.add_sub_cancel]
  exact lookTo_lookR _ _ (by omega) n
end Go.Proofs.Ytcffgjhmpgdfpaa

/- Plain model data of chapter 07 (tubs), and the functions of the reference, as plain functions: no program in sight. -/
namespace Go.Proofs.Ytcffgjhmpgdfpaa

structure Flo where
  house : Hou
  tubs : Int
  opn : Int
  closing : Int
  queue : List (Int × Int)

def washOk (r : Int × Int) : Bool := decide (0 ≤ r.1) && decide (r.1 ≤ r.2) && decide (r.2 ≤ 240)
def faultF (f : Flo) : Int :=
  if fault f.house ≠ 0 then fault f.house else if truths f.house = [] then 11
  else if 4 < f.tubs ∨ 5 < f.queue.length then 3
  else if f.tubs < 1 ∨ f.opn < 0 ∨ f.closing < f.opn ∨ 1439 < f.closing then 1
  else if f.queue.all washOk = false then 1 else 0
structure OkF (f : Flo) : Prop where
  house : fault f.house = 0
  ne : truths f.house ≠ []
  tubs : 1 ≤ f.tubs ∧ f.tubs ≤ 4
  queue : f.queue.length ≤ 5
  opn : 0 ≤ f.opn ∧ f.opn ≤ f.closing ∧ f.closing ≤ 1439
  wash : ∀ r ∈ f.queue, 0 ≤ r.1 ∧ r.1 ≤ r.2 ∧ r.2 ≤ 240
theorem washOk_iff (r : Int × Int) : washOk r = true ↔ 0 ≤ r.1 ∧ r.1 ≤ r.2 ∧ r.2 ≤ 240 := by unfold washOk; simp [and_assoc]
theorem faultF_zero {f : Flo} : faultF f = 0 ↔ OkF f := by
  unfold faultF
  constructor
  · intro h
    by_cases h1 : fault f.house ≠ 0
    · rw [if_pos h1] at h; exact absurd h h1
    · rw [if_neg h1] at h
      by_cases h2 : truths f.house = []
      · rw [if_pos h2] at h; omega
      · rw [if_neg h2] at h
        by_cases h3 : 4 < f.tubs ∨ 5 < f.queue.length
        · rw [if_pos h3] at h; omega
        · rw [if_neg h3] at h
          by_cases h4 : f.tubs < 1 ∨ f.opn < 0 ∨ f.closing < f.opn ∨ 1439 < f.closing
          · rw [if_pos h4] at h; omega
          · rw [if_neg h4] at h
            by_cases h5 : f.queue.all washOk = false
            · rw [if_pos h5] at h; omega
            · rw [Bool.not_eq_false, List.all_eq_true] at h5
              exact ⟨by simpa using h1, h2, by omega, by omega, by omega, fun r hr => (washOk_iff r).1 (h5 r hr)⟩
  · intro k
    have h5 : f.queue.all washOk = true := List.all_eq_true.2 fun r hr => (washOk_iff r).2 (k.wash r hr)
    have := k.tubs
    have := k.queue
    have := k.opn
    rw [if_neg (by simp [k.house]), if_neg k.ne, if_neg (by omega), if_neg (by omega), if_neg (by simp [h5])]
theorem faultF_range (f : Flo) : faultF f = 0 ∨ faultF f = 1 ∨ faultF f = 3 ∨ faultF f = 11 := by
  unfold faultF
  have := fault_cases f.house
  split
  · omega
  · split
    · omega
    · split
      · omega
      · split
        · omega
        · split <;> omega

/-! ### the tubs that are given out -/
def givenT (f : Flo) : List Nat := (List.range f.tubs.toNat).filter fun n => !isOpen f.house n
def fromOf (f : Flo) (n : Nat) : Int × Int := (max f.opn (bR (freeF f.house n) (truths f.house)).1, max f.opn (bR (freeF f.house n) (truths f.house)).2)
def givenR (f : Flo) : List (Int × Int) := (givenT f).map (fromOf f)
/-- the error of a floor at work -/
def askF (f : Flo) : Int := if faultF f ≠ 0 then faultF f else if givenT f = [] then 8 else 0
theorem givenT_lt {f : Flo} {n : Nat} (h : n ∈ givenT f) : (n : Int) < f.tubs ∧ isOpen f.house n = false := by
  unfold givenT at h
  rw [List.mem_filter, List.mem_range] at h
  exact ⟨by omega, by simpa using h.2⟩
theorem givenT_len {f : Flo} (ok : OkF f) : (givenT f).length ≤ 4 := by
  unfold givenT
  refine Nat.le_trans (List.length_filter_le _ _) ?_
  have := ok.tubs
  simp; omega
theorem bR_range {f : List Int → Int} {l : List (List Int)} (h : l ≠ []) {a b : Int} (hb : ∀ d ∈ l, a ≤ f d ∧ f d ≤ b) (ha : -1099511627776 ≤ a) (hb2 : b ≤ 1099511627776) :
    a ≤ (bR f l).1 ∧ (bR f l).1 ≤ (bR f l).2 ∧ (bR f l).2 ≤ b := by
  have k := bR_is f h fun d hd => by have := hb d hd; omega
  obtain ⟨d, hd, e⟩ := k.loAt
  obtain ⟨d2, hd2, e2⟩ := k.hiAt
  have h1 := hb d hd
  have h2 := hb d2 hd2
  have h3 := k.lo d2 hd2
  omega
theorem fromOf_range {f : Flo} (ok : OkF f) (n : Nat) : f.opn ≤ (fromOf f n).1 ∧ (fromOf f n).1 ≤ (fromOf f n).2 ∧ (fromOf f n).2 ≤ 1469 := by
  have h := bR_range (f := freeF f.house n) ok.ne (a := 0) (b := 1469) (fun d hd => fromR_range (okH_of_fault ok.house) (truths_isErr (okH_of_fault ok.house) d hd) n) (by omega) (by omega)
  have := ok.opn
  unfold fromOf
  dsimp only
  omega
theorem givenR_range {f : Flo} (ok : OkF f) : ∀ r ∈ givenR f, 0 ≤ r.1 ∧ r.1 ≤ r.2 ∧ r.2 ≤ 1469 := fun r hr => by
  obtain ⟨n, _, rfl⟩ := List.mem_map.1 hr
  have := fromOf_range ok n
  have := ok.opn
  omega

/-! ### who is done when -/
def minL : List Int → Int
  | [] => 0
  | x :: l => l.foldl min x
/-- the first index of the least number -/
def argMin (l : List Int) : Nat := l.idxOf (minL l)
structure DSt where
  free : List Int
  tubs : List Nat
  done : List Int
def doneStep (minutes : List Int) (s : DSt) (w : Nat) : DSt :=
  { free := s.free.set (argMin s.free) (s.free.getD (argMin s.free) 0 + minutes.getD w 0), tubs := s.tubs ++ [argMin s.free], done := s.done ++ [s.free.getD (argMin s.free) 0 + minutes.getD w 0] }
def doneG (frm minutes : List Int) (order : List Nat) : DSt := order.foldl (doneStep minutes) ⟨frm, [], []⟩
def endsR (l : List (Int × Int)) (g : Bool) : List Int := l.map fun r => if g then r.2 else r.1
def lows (l : List (Int × Int)) : List Int := l.map (·.1)
def highs (l : List (Int × Int)) : List Int := l.map (·.2)
def boundsF (f : Flo) (frm : List (Int × Int)) (order : List Nat) : List (Int × Int) :=
  ((doneG (lows frm) (lows f.queue) order).done).zip (doneG (highs frm) (highs f.queue) order).done
def slowD (f : Flo) (frm : List (Int × Int)) (order : List Nat) : List Int := (doneG (highs frm) (highs f.queue) order).done
def maxL (a : Int) (l : List Int) : Int := l.foldl max a
def endingF (f : Flo) (frm : List (Int × Int)) (order : List Nat) : Int := maxL f.opn (slowD f frm order)

/-! ### orders -/
/-- a list of numbers is an order of so many women -/
def isOrdTo (n : Nat) (l : List Int) (j : Nat) : Bool := (List.range j).all fun i => inB (l.getD i 0) 0 ((n : Int) - 1) && !((l.take i).contains (l.getD i 0))
def isOrd (n : Nat) (l : List Int) : Bool := isOrdTo n l l.length
/-- all orders that begin with one, in lexicographic order -/
def ordersFrom (n : Nat) : Nat → List Nat → List (List Nat)
  | 0, o => [o]
  | k + 1, o => o :: (List.range n).flatMap fun w => if o.contains w then [] else ordersFrom n k (o ++ [w])
def bestStepR (f : Flo) (frm : List (Int × Int)) (s : List Nat × Int) (o : List Nat) : List Nat × Int :=
  if o.length < f.queue.length then s else if endingF f frm o < s.2 then (o, endingF f frm o) else s
def bestR (f : Flo) (frm : List (Int × Int)) : List Nat × Int := (ordersFrom f.queue.length f.queue.length []).foldl (bestStepR f frm) ([], 1099511627776)
def mostStepR (f : Flo) (frm : List (Int × Int)) (s : List Nat) (o : List Nat) : List Nat := if s.length < o.length ∧ endingF f frm o ≤ f.closing then o else s
def mostR (f : Flo) (frm : List (Int × Int)) : List Nat := (ordersFrom f.queue.length f.queue.length []).foldl (mostStepR f frm) []
def admitStepR (f : Flo) (frm : List (Int × Int)) (n : Nat) (k : Nat) : Nat := if endingF f frm (List.range (k + 1)) ≤ f.closing then k + 1 else n
def admitR (f : Flo) (frm : List (Int × Int)) : Nat := (List.range f.queue.length).foldl (admitStepR f frm) 0
def moreR (f : Flo) (frm : List (Int × Int)) : Int := (bestR f frm).2 - (bestR f (frm ++ [(f.opn, f.opn)])).2
end Go.Proofs.Ytcffgjhmpgdfpaa

/- The tubs' small functions; all of ranges: walks. -/
namespace Go.Proofs.Ytcffgjhmpgdfpaa
open Go Go.RowKit
theorem uwithin_calls (n lo hi : Int) (w : World) :
    Calls Try.prog 46 #[.int .i64 n, .int .i64 lo, .int .i64 hi] w fun e w' => e = .returned (.bool (inB n lo hi)) ∧ w = w' := by
  go_enter Try.func46, Try.ntmps46
  by_cases h1 : lo ≤ n <;> by_cases h2 : n ≤ hi <;> go_wp2 <;> go_ret <;> exact ⟨by simp [inB, *], rfl⟩
theorem uwithin_eq {n lo hi : Int} {b : Bool} (h : inB n lo hi = b) (w : World) :
    Calls Try.prog 46 #[.int .i64 n, .int .i64 lo, .int .i64 hi] w fun e w' => e = .returned (.bool b) ∧ w = w' := by
  have := uwithin_calls n lo hi w; rw [h] at this; exact this
theorem uhas_eq {lo hi n : Int} {b : Bool} (hb : inB n lo hi = b) (w : World) : Calls Try.prog 45 #[.agg #[.int .i64 lo, .int .i64 hi], .int .i64 n] w fun e w' => e = .returned (.bool b) ∧ Later w w' := by
  go_enter Try.func45, Try.ntmps45
  go_wp2_with (go_at_call 46; refine (uwithin_eq hb _).mono ?_; rintro e w' ⟨rfl, rfl⟩)
  go_ret
  exact ⟨rfl, by simp⟩
theorem washes_calls (x : Int × Int) (w : World) : Calls Try.prog 57 #[.int .i64 240, .agg #[.int .i64 x.1, .int .i64 x.2]] w fun e w' => e = .returned (.bool (washOk x)) ∧ Later w w' := by
  by_cases h1 : 0 ≤ x.1
  · by_cases h2 : x.1 ≤ x.2
    · by_cases h3 : x.2 ≤ 240
      · have Hf : Hid (washOk x = true) := by show washOk x = _; simp [washOk, *]
        go_enter Try.func57, Try.ntmps57
        go_wp2_with fail
        go_ret
        exact ⟨by rw [Hf.out]; rfl, by simp⟩
      · have Hf : Hid (washOk x = false) := by show washOk x = _; simp [washOk, *]
        go_enter Try.func57, Try.ntmps57
        go_wp2_with fail
        go_ret
        exact ⟨by rw [Hf.out]; rfl, by simp⟩
    · have Hf : Hid (washOk x = false) := by show washOk x = _; simp [washOk, *]
      go_enter Try.func57, Try.ntmps57
      go_wp2_with fail
      go_ret
      exact ⟨by rw [Hf.out]; rfl, by simp⟩
  · have Hf : Hid (washOk x = false) := by show washOk x = _; simp [washOk, *]
    go_enter Try.func57, Try.ntmps57
    go_wp2_with fail
    go_ret
    exact ⟨by rw [Hf.out]; rfl, by simp⟩

theorem allW1_calls {bp : Nat} (x : Int × Int) (w : World) (h : w.cell? ⟨bp, 0, none⟩ = some (.func (.func 57) #[.int .i64 240] #[])) :
    Calls Try.prog 73 #[(.agg #[.int .i64 x.1, .int .i64 x.2]), .pointer (some ⟨bp, 0, none⟩)] w fun e w' =>
      e = .returned (.bool (!washOk x)) ∧ Later w w' := by
  have hb : bp < w.heap.size := World.block_lt_of_cell? w ⟨bp, 0, none⟩ h
  have h2 := fun W k => cell_later (W := W) h k hb
  go_enter Try.func73, Try.ntmps73
  go_wp2_with fail
  refine (washes_calls x _).mono ?_
  rintro e w1 ⟨rfl, hL1⟩
  go_wp2_with fail
  go_ret
  exact ⟨rfl, Later.trans (by simp) hL1⟩

theorem IndexFuncW_calls {A : Option Addr} {n k bp : Nat} {l : List (Int × Int)} (w : World) (h : RP w A n l) (hn : n ≤ 1000000) (hb : w.cell? ⟨bp, 0, none⟩ = some (.func (.func 57) #[.int .i64 240] #[])) :
    Calls Try.prog 81 #[.slice A n k, .func (.func 73) #[] #[.pointer (some ⟨bp, 0, none⟩)]] w fun e w' =>
      e = .returned (.int .i64 (idxB (fun x => !washOk x) l 0)) ∧ Later w w' := by
  have hl := h.len
  have hbl : bp < w.heap.size := World.block_lt_of_cell? w ⟨bp, 0, none⟩ hb
  have hb2 := fun W k => cell_later (W := W) hb k hbl
  have Hl := hide hl
  clear hl
  go_enter Try.func81, Try.ntmps81
  go_wp2_with fail
  go_loopw [8] (fun i wr => ∃ j : Nat, j ≤ n ∧ i = .int .i64 j ∧ idxB (fun x => !washOk x) (l.drop j) j = idxB (fun x => !washOk x) l 0 ∧ Later w wr) (fun i _ => n - (intOf i).toNat)
  case atStart => exact ⟨0, Nat.zero_le _, rfl, rfl, later_refl _⟩
  case round =>
    obtain ⟨j, hj, rfl, hno, hL⟩ := hrel
    by_cases hlt : j < n
    · obtain ⟨b, o, y, rfl, _, hx, hc0, hc1⟩ := h.get hlt
      obtain ⟨hp, e1⟩ := List.getElem?_eq_some_iff.1 hx
      rw [List.drop_eq_getElem_cons hp, e1] at hno
      simp only [idxB] at hno
      have hi1 : (j : Int) < n := by omega
      have hcc := allW1_calls y wr (hb2 _ hL)
      cases hok : washOk y with
      | true =>
        rw [hok] at hcc
        simp only [hok, Bool.not_true, Bool.false_eq_true, if_false] at hno
        have Hno := hide hno
        have Hcc := hide hcc
        clear hno hx hcc e1 hok
        go_wp2_with fail
        refine Hcc.out.mono ?_
        rintro e w1 ⟨rfl, hL1⟩
        have hL2 := Later.trans hL hL1
        go_wp2_with fail
        go_roundw
        case rel => exact ⟨j + 1, by omega, by go_num, by rw [← Hno.out]; rfl, hL2⟩
        case measure => simp [intOf]; omega
      | false =>
        rw [hok] at hcc
        simp only [hok, Bool.not_false, if_true] at hno
        have Hno := hide hno
        have Hcc := hide hcc
        clear hno hx hcc e1 hok
        go_wp2_with fail
        refine Hcc.out.mono ?_
        rintro e w1 ⟨rfl, hL1⟩
        go_wp2_with fail
        go_ret
        exact ⟨ret_int Hno.out, Later.trans hL hL1⟩
    · rw [List.drop_of_length_le (by have := Hl.out; omega)] at hno
      have Hno := hide hno
      clear hno
      go_wp2_with fail
      go_ret
      exact ⟨ret_int Hno.out, hL⟩

theorem allW_eq {A : Option Addr} {n k : Nat} {l : List (Int × Int)} {b : Bool} (hb : l.all washOk = b) (w : World) (h : RP w A n l) (hn : n ≤ 1000000) :
    Calls Try.prog 58 #[.slice A n k, (.func (.func 57) #[.int .i64 240] #[])] w fun e w' => e = .returned (.bool b) ∧ Later w w' := by
  subst hb
  have hw : Later w (w.alloc (.cells #[(.func (.func 57) #[.int .i64 240] #[])] 125)) := later_alloc (later_refl _) _
  have hb := box_cells w #[(.func (.func 57) #[.int .i64 240] #[])] 125 _ (later_refl _) 0
  have hf := idxB_any (fun x => !washOk x) l 0 (by omega)
  have hf2 := not_any_not washOk l
  rw [← hf] at hf2
  have Hf := hide hf2
  clear hf hf2
  go_enter Try.func58, Try.ntmps58
  go_wp2_with fail
  go_enter Try.func72, Try.ntmps72
  go_wp2_with fail
  refine (IndexFuncW_calls _ (h.later hw) hn hb).mono ?_
  rintro e w1 ⟨rfl, hL1⟩
  generalize idxB (fun x => !washOk x) l 0 = q at *
  go_wp2_with fail
  go_ret
  exact ⟨by rw [← Hf.out]; rfl, Later.trans hw hL1⟩
end Go.Proofs.Ytcffgjhmpgdfpaa

/- The program's minimum, wider: walks. -/
namespace Go.Proofs.Ytcffgjhmpgdfpaa
open Go Go.RowKit

theorem Min2_calls (a b : Int) (k : Nat) (w : World) (g : Nat) (h0 : w.cell? ⟨g, 0, none⟩ = some (.int .i64 a)) (h1 : w.cell? ⟨g, 1, none⟩ = some (.int .i64 b)) :
    Calls Try.prog 74 #[.slice (some ⟨g, 0, none⟩) 2 k] w fun e w' => e = .returned (.int .i64 (min a b)) ∧ w = w' := by
  go_enter Try.func74, Try.ntmps74
  go_wp2_with fail
  go_loopw [4, 3] (fun i m wr => ((i = .int .i64 1 ∧ m = .int .i64 a) ∨ (i = .int .i64 2 ∧ m = .int .i64 (min a b))) ∧ w = wr) (fun i _ _ => 2 - (intOf i).toNat)
  case atStart => exact ⟨.inl ⟨rfl, rfl⟩, rfl⟩
  case round =>
    obtain ⟨⟨rfl, rfl⟩ | ⟨rfl, rfl⟩, rfl⟩ := hrel
    · go_wp2_with fail
      go_roundw
      case rel => exact ⟨.inr ⟨by go_num, by congr 1; rw [Int.min_def]; split <;> split <;> omega⟩, by first | trivial | rfl⟩
      case measure => simp [intOf, wrap64]
    · go_wp2_with fail
      go_ret
      exact ⟨rfl, rfl⟩
theorem min2_calls (a b : Int) (w : World) (g : Nat) (h0 : w.cell? ⟨g, 0, none⟩ = some (.int .i64 a)) (h1 : w.cell? ⟨g, 1, none⟩ = some (.int .i64 b)) :
    Calls Try.prog 67 #[.slice (some ⟨g, 0, none⟩) 2 2] w fun e w' => e = .returned (.int .i64 (min a b)) ∧ w = w' := by
  go_enter Try.func67, Try.ntmps67
  go_wp2_with fail
  refine (Min2_calls a b 2 _ _ h0 h1).mono ?_
  rintro e w1 ⟨rfl, rfl⟩
  go_wp2_with fail
  go_ret
  exact ⟨rfl, rfl⟩
set_option maxRecDepth 100000 in
theorem wider_calls (lo hi n : Int) (w : World) : Calls Try.prog 54 #[.agg #[.int .i64 lo, .int .i64 hi], .int .i64 n] w fun e w' =>
    e = .returned (.agg #[.int .i64 (min lo n), .int .i64 (max hi n)]) ∧ Later w w' := by
  obtain ⟨w0, hw0⟩ : ∃ W, W = (w.alloc (.cells #[.int .i64 lo, .int .i64 hi] 65)).alloc (.cells #[.int .i64 0, .int .i64 0] 65) := ⟨_, rfl⟩
  have hL0 : Later w w0 := by rw [hw0]; exact later_alloc (later_alloc (later_refl _) _) _
  have b1 : Blk w0 w.heap.size 65 #[.int .i64 lo, .int .i64 hi] := by rw [hw0]; exact (Blk.new _ _ _).alloc _
  have b2 : Blk w0 (w.heap.size + 1) 65 #[.int .i64 0, .int .i64 0] := by
    have := Blk.new (w.alloc (.cells #[.int .i64 lo, .int .i64 hi] 65)) 65 #[.int .i64 0, .int .i64 0]
    rw [World.size_alloc] at this
    rw [hw0]; exact this
  have c0 := b1.cells_later
  have c00 := fun W hW => c0 W hW 0
  have c01 := fun W hW => c0 W hW 1
  simp only [List.getElem?_toArray, List.getElem?_cons_zero, List.getElem?_cons_succ] at c00 c01
  have d0 := b2.cells_later
  have d00 := fun W hW => d0 W hW 0
  have d01 := fun W hW => d0 W hW 1
  have f0 := b2.frozen_later
  simp only [List.getElem?_toArray, List.getElem?_cons_zero, List.getElem?_cons_succ] at d00 d01
  have Hw0 := hide hw0
  clear hw0 c0 d0
  have hs : w0.heap.size = w.heap.size + 1 + 1 := by rw [Hw0.out]; simp
  have hs1 : w.heap.size < w0.heap.size := by omega
  have hs2 : w.heap.size + 1 < w0.heap.size := by omega
  have e00 := c00 _ (later_drew (later_refl _))
  have e01 := c01 _ (later_drew (later_refl _))
  have hL1 := later_drew hL0
  clear hs
  by_cases h2 : n ≤ hi
  · have hm : max hi n = hi := by omega
    rw [hm]
    go_enter Try.func54, Try.ntmps54
    go_wp2_with fail
    rw [← Hw0.out]
    clear Hw0
    go_region_held3 (fun W => Later w W ∧ W.cell? ⟨w.heap.size, 0, none⟩ = some (.int .i64 lo) ∧ W.cell? ⟨w.heap.size, 1, none⟩ = some (.int .i64 hi)) ((refine ⟨?_, ?_, ?_⟩ <;> first | (((repeat (first | exact hL0 | refine later_drew ?_ | refine later_alloc ?_ _ | refine later_set ?_ _ (Nat.le_add_right _ _) _ | refine later_set ?_ _ (Nat.le_refl _) _)); done)) | (go_keep; done)))
      (first | (go_at_call 67; refine (min2_calls lo n _ _ (box_cells w0 #[.int .i64 lo, .int .i64 n] 3 _ (later_drew (later_refl _)) 0) (box_cells w0 #[.int .i64 lo, .int .i64 n] 3 _ (later_drew (later_refl _)) 1)).mono ?_; rintro e w1 ⟨rfl, rfl⟩))
    all_goals
      go_wp2_with fail
      refine bodyPost_ret (v := .agg #[.int .i64 (min lo n), .int .i64 hi]) ?_ rfl ⟨rfl, ?_⟩
      · simp [results, Try.results54, go_sem, *]
      · (((repeat (first | exact hL0 | refine later_drew ?_ | refine later_alloc ?_ _ | refine later_set ?_ _ (Nat.le_add_right _ _) _ | refine later_set ?_ _ (Nat.le_refl _) _)); done))
  · have hm : max hi n = n := by omega
    rw [hm]
    go_enter Try.func54, Try.ntmps54
    go_wp2_with fail
    rw [← Hw0.out]
    clear Hw0
    go_region_held3 (fun W => Later w W ∧ W.cell? ⟨w.heap.size, 0, none⟩ = some (.int .i64 lo) ∧ W.cell? ⟨w.heap.size, 1, none⟩ = some (.int .i64 hi)) ((refine ⟨?_, ?_, ?_⟩ <;> first | (((repeat (first | exact hL0 | refine later_drew ?_ | refine later_alloc ?_ _ | refine later_set ?_ _ (Nat.le_add_right _ _) _ | refine later_set ?_ _ (Nat.le_refl _) _)); done)) | (go_keep; done)))
      (first | (go_at_call 67; refine (min2_calls lo n _ _ (box_cells w0 #[.int .i64 lo, .int .i64 n] 3 _ (later_drew (later_refl _)) 0) (box_cells w0 #[.int .i64 lo, .int .i64 n] 3 _ (later_drew (later_refl _)) 1)).mono ?_; rintro e w1 ⟨rfl, rfl⟩))
    all_goals
      go_wp2_with fail
      refine bodyPost_ret (v := .agg #[.int .i64 (min lo n), .int .i64 n]) ?_ rfl ⟨rfl, ?_⟩
      · simp [results, Try.results54, go_sem, *]
      · (((repeat (first | exact hL0 | refine later_drew ?_ | refine later_alloc ?_ _ | refine later_set ?_ _ (Nat.le_add_right _ _) _ | refine later_set ?_ _ (Nat.le_refl _) _)); done))
end Go.Proofs.Ytcffgjhmpgdfpaa

/- The program's clips of a ticket: walk. -/
namespace Go.Proofs.Ytcffgjhmpgdfpaa
open Go Go.RowKit

/-- the clips of a ticket -/
def ofP (c : Hou) (t : Int) : List Cp := c.clips.filter fun x => decide (x.ticket = t)
theorem ofP_map (c : Hou) (t : Int) : (ofR c t).map (clipAt c) = ofP c t := by
  have key : ∀ (l : List Cp), ((List.range l.length).filter fun i => decide ((l.getD i default).ticket = t)).map (fun i => l.getD i default) = l.filter fun x => decide (x.ticket = t) := by
    intro l
    induction l with
    | nil => rfl
    | cons x l ih =>
      rw [List.length_cons, List.range_succ_eq_map, List.filter_cons, List.filter_cons, List.filter_map]
      have e1 : ((fun i => decide (((x :: l).getD i default).ticket = t)) ∘ Nat.succ) = fun i => decide ((l.getD i default).ticket = t) := by funext i; simp
      have e2 : ((fun i => (x :: l).getD i default) ∘ Nat.succ) = fun i => l.getD i default := by funext i; simp
      have e0 : ((x :: l).getD 0 default) = x := rfl
      rw [e1, e0]
      split
      · rw [List.map_cons, List.map_map, e2, ih]; rfl
      · rw [List.map_map, e2, ih]
  exact key c.clips
theorem ofP_len (c : Hou) (t : Int) : (ofP c t).length = (ofR c t).length := by rw [← ofP_map, List.length_map]
theorem ofP_take {c : Hou} {t : Int} {j : Nat} {x : Cp} (hx : c.clips[j]? = some x) : (c.clips.take (j + 1)).filter (fun x => decide (x.ticket = t)) = (c.clips.take j).filter (fun x => decide (x.ticket = t)) ++ (if x.ticket = t then [x] else []) := by
  rw [List.take_add_one, hx, Option.toList_some, List.filter_append]
  congr 1
  by_cases h : x.ticket = t <;> simp [h]
theorem clip_info : (Try.prog.info? 74).map (fun i => (i.zero, i.size, i.bytes)) = some (some (.agg #[.int .i64 0, .int .i64 0, .int .i64 0]), 3, 24) := by kernel_rfl
/-- what of returns -/
def OfPost (c : Hou) (t : Int) (w : World) (e : Ending) (w' : World) : Prop := ∃ A k, e = .returned (.slice A (ofP c t).length k) ∧ Later w w' ∧ RC w' A (ofP c t).length (ofP c t)
set_option maxRecDepth 100000 in
set_option maxHeartbeats 1000000 in
theorem of_calls {A1 A2 A3 : Option Addr} {n1 k1 n2 k2 n3 k3 : Nat} {c : Hou} {t : Int} (w : World) (hc : CV w c A1 n1 A2 n2 A3 n3) (hn : n3 ≤ 1000) : Calls Try.prog 52 #[(.agg #[.int .i64 c.hour, .int .i64 c.grace, .slice A1 n1 k1, .slice A2 n2 k2, .slice A3 n3 k3]), .int .i64 t] w (OfPost c t w) := by
  have hl3 := hc.cp.len
  have Hl3 := hide hl3
  clear hl3
  obtain ⟨w0, hw0⟩ : ∃ W, W = (w.alloc (.cells #[.int .i64 c.hour, .int .i64 c.grace, .slice A1 n1 k1, .slice A2 n2 k2, .slice A3 n3 k3] 46)) := ⟨_, rfl⟩; have hbox : ∀ W, Later w0 W → ∀ i, W.cell? ⟨w.heap.size, i, none⟩ = #[.int .i64 c.hour, .int .i64 c.grace, .slice A1 n1 k1, .slice A2 n2 k2, .slice A3 n3 k3][i]? := (by rw [hw0]; exact box_cells w #[.int .i64 c.hour, .int .i64 c.grace, .slice A1 n1 k1, .slice A2 n2 k2, .slice A3 n3 k3] 46); have hL0 : Later w w0 := (by rw [hw0]; simp); have hc0 := hc.later hL0; have Hw0 := hide hw0; clear hw0
  go_enter Try.func52, Try.ntmps52
  go_wp2_with fail
  rw [← Hw0.out]; clear Hw0
  go_loopw [4, 10] (fun v i wr => ∃ j : Nat, j ≤ n3 ∧ i = .int .i64 j ∧ wr.ownsRow w0.heap.size 74 3 v ((c.clips.take j).filter fun x => decide (x.ticket = t)).length (clipsV ((c.clips.take j).filter fun x => decide (x.ticket = t))) ∧ Later w0 wr) (fun _ i _ => n3 - (intOf i).toNat)
  case atStart => exact ⟨0, Nat.zero_le _, rfl, World.ownsRow_nil _ _ _ _, later_refl _⟩
  case round =>
    obtain ⟨j, hj, rfl, hown, hL⟩ := hrel
    by_cases hlt : j < n3
    · obtain ⟨b, o, x, rfl, _, hx, hx0, hx1, hx2⟩ := hc0.cp.get hlt
      have hi1 : (j : Int) < n3 := by omega
      have ht := ofP_take (t := t) hx
      have hfl : ((c.clips.take j).filter fun x => decide (x.ticket = t)).length ≤ 1000000 := by
        have := List.length_filter_le (fun x : Cp => decide (x.ticket = t)) (c.clips.take j)
        have := List.length_take_le j c.clips
        omega
      have hx0 := hx0 _ hL
      have hx1 := hx1 _ hL
      have hx2 := hx2 _ hL
      obtain ⟨w2, hw2⟩ : ∃ W, W = wr.alloc (.cells #[.int .i64 x.ticket, .int .i64 x.clock, .int .i64 x.minute] 74) := ⟨_, rfl⟩
      have hb2 := Blk.new wr 74 #[.int .i64 x.ticket, .int .i64 x.clock, .int .i64 x.minute]
      rw [← hw2] at hb2
      have hL2 : Later w0 w2 := by rw [hw2]; exact later_alloc hL _
      have hown2 := own_later hown (show Later wr w2 by rw [hw2]; exact later_alloc (later_refl _) _)
      have c0 := hb2.cell 0
      have c1 := hb2.cell 1
      have c2 := hb2.cell 2
      simp only [List.getElem?_toArray, List.getElem?_cons_zero, List.getElem?_cons_succ] at c0 c1 c2
      have Hw2 := hide hw2
      generalize (c.clips.take j).filter (fun x => decide (x.ticket = t)) = fl at *
      clear hx hw2 hown
      by_cases he : x.ticket = t
      · have heb : (x.ticket == t) = true := by simp [he]
        rw [if_pos he] at ht
        have Ht := hide ht
        clear ht he
        go_upto_region 4 with fail
        rw [← Hw2.out]
        go_wp2_with (at_builtin; go_must (refine own_append (w0 := w0) (W := w2) (te := 74) rfl _ _ 44 rfl 74 (.agg #[.int .i64 0, .int .i64 0, .int .i64 0]) 3 24 Try.underlying44 clip_info rfl (by omega) u4 fl.length (clipsV fl) rfl hL2 hown2 [.int .i64 x.ticket, .int .i64 x.clock, .int .i64 x.minute] rfl rfl ?_ hfl (by omega) ?_; (simp [Value.oneCell']); intro v' w4 hap; have hown4 := hap.own; have hL4 := hap.later; clear hap))
        go_roundw
        case rel =>
          refine ⟨j + 1, hlt, by go_num, ?_, hL4⟩
          rw [Ht.out, List.length_append, clipsV_snoc]; exact hown4
        case measure => simp [intOf]; omega
      · have heb : (x.ticket == t) = false := by simp [he]
        rw [if_neg he, List.append_nil] at ht
        have Ht := hide ht
        clear ht he
        go_upto_region 4 with fail
        rw [← Hw2.out]
        go_wp2_with fail
        go_roundw
        case rel => exact ⟨j + 1, hlt, by go_num, by rw [Ht.out]; exact hown2, hL2⟩
        case measure => simp [intOf]; omega
    · have hfin : (c.clips.take j).filter (fun x => decide (x.ticket = t)) = ofP c t := by
        rw [List.take_of_length_le (by have := Hl3.out; omega)]; rfl
      rw [hfin] at hown
      obtain ⟨A, k, rfl, hrd⟩ := own_slice hown
      generalize hq : ofP c t = q at *
      have Hq := hide hq
      clear hfin hq hown
      go_wp2_with fail
      go_ret
      exact ⟨A, k, by rw [Hq.out]; rfl, Later.trans hL0 hL, by rw [Hq.out]; exact hrd⟩
end Go.Proofs.Ytcffgjhmpgdfpaa

/- The program's CheckHouse: walk. -/
namespace Go.Proofs.Ytcffgjhmpgdfpaa
open Go Go.RowKit

theorem take_all_ {α : Type} {p : α → Bool} {l : List α} {n : Nat} (hn : n = l.length) (h : (l.take n).all p = true) : l.all p = true := by
  rw [List.take_of_length_le (by omega)] at h; exact h
set_option maxRecDepth 100000 in
set_option maxHeartbeats 2000000 in
theorem CheckHouse_calls {A1 A2 A3 : Option Addr} {n1 k1 n2 k2 n3 k3 : Nat} {c : Hou} (w : World) (hc : CV w c A1 n1 A2 n2 A3 n3) (hn1 : n1 ≤ 1000) (hn2 : n2 ≤ 1000) (hn3 : n3 ≤ 1000) :
    Calls Try.prog 49 #[(.agg #[.int .i64 c.hour, .int .i64 c.grace, .slice A1 n1 k1, .slice A2 n2 k2, .slice A3 n3 k3])] w fun e w' => e = .returned (.int .i64 (fault c)) ∧ Later w w' := by
  have hl1 := hc.ck.len
  have hl2 := hc.tk.len
  have hl3 := hc.cp.len
  by_cases hA : 4 < n1
  · have Hf : Hid (fault c = 3) := fault_lim (by unfold LimB; omega)
    have hA' : (4 : Int) < n1 := by omega
    clear hl1 hl2 hl3
    go_enter Try.func49, Try.ntmps49
    go_wp2_with fail
    go_ret
    exact ⟨ret_int Hf.out.symm, by simp⟩
  by_cases hB : 6 < n2
  · have Hf : Hid (fault c = 3) := fault_lim (by unfold LimB; omega)
    have hA' : ¬ (4 : Int) < n1 := by omega
    have hB' : (6 : Int) < n2 := by omega
    clear hl1 hl2 hl3
    go_enter Try.func49, Try.ntmps49
    go_wp2_with fail
    go_ret
    exact ⟨ret_int Hf.out.symm, by simp⟩
  by_cases hC : 10 < n3
  · have Hf : Hid (fault c = 3) := fault_lim (by unfold LimB; omega)
    have hA' : ¬ (4 : Int) < n1 := by omega
    have hB' : ¬ (6 : Int) < n2 := by omega
    have hC' : (10 : Int) < n3 := by omega
    clear hl1 hl2 hl3
    go_enter Try.func49, Try.ntmps49
    go_wp2_with fail
    go_ret
    exact ⟨ret_int Hf.out.symm, by simp⟩
  have hA' : ¬ (4 : Int) < n1 := by omega
  have hB' : ¬ (6 : Int) < n2 := by omega
  have hC' : ¬ (10 : Int) < n3 := by omega
  have Hlim : Hid (¬ LimB c) := by show ¬ LimB c; unfold LimB; omega
  have Hl1 := hide hl1
  have Hl2 := hide hl2
  have Hl3 := hide hl3
  clear hl1 hl2 hl3
  obtain ⟨w0, hw0⟩ : ∃ W, W = (w.alloc (.cells #[.int .i64 c.hour, .int .i64 c.grace, .slice A1 n1 k1, .slice A2 n2 k2, .slice A3 n3 k3] 46)) := ⟨_, rfl⟩; have hbox : ∀ W, Later w0 W → ∀ i, W.cell? ⟨w.heap.size, i, none⟩ = #[.int .i64 c.hour, .int .i64 c.grace, .slice A1 n1 k1, .slice A2 n2 k2, .slice A3 n3 k3][i]? := (by rw [hw0]; exact box_cells w #[.int .i64 c.hour, .int .i64 c.grace, .slice A1 n1 k1, .slice A2 n2 k2, .slice A3 n3 k3] 46); have hL0 : Later w w0 := (by rw [hw0]; simp); have hc0 := hc.later hL0; have Hw0 := hide hw0; clear hw0
  have hLs : Later w0 w0 := later_refl _
  cases hD : inB c.hour 1 120 with
  | false =>
    have Hf : Hid (fault c = 1) := fault_one Hlim.out (Or.inl hD)
    go_enter Try.func49, Try.ntmps49
    go_wp2_with (go_at_call 55; refine (within_calls _ _ _ _).mono ?_; rintro e w' ⟨rfl, rfl⟩)
    rw [← Hw0.out]; clear Hw0
    go_ret
    exact ⟨ret_int Hf.out.symm, hL0⟩
  | true =>
  cases hE : inB c.grace 0 60 with
  | false =>
    have Hf : Hid (fault c = 1) := fault_one Hlim.out (Or.inr (Or.inl hE))
    go_enter Try.func49, Try.ntmps49
    go_wp2_with (go_at_call 55; refine (within_calls _ _ _ _).mono ?_; rintro e w' ⟨rfl, rfl⟩)
    rw [← Hw0.out]; clear Hw0
    go_ret
    exact ⟨ret_int Hf.out.symm, hL0⟩
  | true =>
  cases hF : c.clocks.all clockOk with
  | false =>
    have Hf : Hid (fault c = 1) := fault_one Hlim.out (Or.inr (Or.inr (Or.inl hF)))
    have HF := hide hF
    clear hF
    go_enter Try.func49, Try.ntmps49
    go_wp2_with (go_at_call 55; refine (within_calls _ _ _ _).mono ?_; rintro e w' ⟨rfl, rfl⟩)
    rw [← Hw0.out]; clear Hw0
    refine (allR_eq HF.out _ hc0.ck (by omega)).mono ?_
    rintro e w1 ⟨rfl, hL1⟩
    go_wp2_with fail
    go_ret
    exact ⟨ret_int Hf.out.symm, Later.trans hL0 hL1⟩
  | true =>
  cases hG : c.tickets.all tickOk with
  | false =>
    have Hf : Hid (fault c = 1) := fault_one Hlim.out (Or.inr (Or.inr (Or.inr (Or.inl hG))))
    have HF := hide hF
    have HG := hide hG
    clear hF hG
    go_enter Try.func49, Try.ntmps49
    go_wp2_with (go_at_call 55; refine (within_calls _ _ _ _).mono ?_; rintro e w' ⟨rfl, rfl⟩)
    rw [← Hw0.out]; clear Hw0
    refine (allR_eq HF.out _ hc0.ck (by omega)).mono ?_
    rintro e w1 ⟨rfl, hL1⟩
    go_wp2_with fail
    refine (allT_eq HG.out _ (hc0.later hL1).tk (by omega)).mono ?_
    rintro e w2 ⟨rfl, hL2⟩
    go_wp2_with fail
    go_ret
    exact ⟨ret_int Hf.out.symm, Later.trans hL0 (Later.trans hL1 hL2)⟩
  | true =>
  cases hH : c.clips.all (clipOk n1 n2) with
  | false =>
    have Hf : Hid (fault c = 1) := fault_one Hlim.out (Or.inr (Or.inr (Or.inr (Or.inr (Or.inl (by rw [← Hl1.out, ← Hl2.out]; exact hH))))))
    have HF := hide hF
    have HG := hide hG
    have HH := hide hH
    clear hF hG hH
    go_enter Try.func49, Try.ntmps49
    go_wp2_with (go_at_call 55; refine (within_calls _ _ _ _).mono ?_; rintro e w' ⟨rfl, rfl⟩)
    rw [← Hw0.out]; clear Hw0
    refine (allR_eq HF.out _ hc0.ck (by omega)).mono ?_
    rintro e w1 ⟨rfl, hL1⟩
    go_wp2_with fail
    refine (allT_eq HG.out _ (hc0.later hL1).tk (by omega)).mono ?_
    rintro e w2 ⟨rfl, hL2⟩
    have hL2' := Later.trans hL1 hL2
    go_wp2_with fail
    refine (allC_eq (c := c) HH.out _ (hc0.later hL2').cp (by omega) (by omega) (by omega)).mono ?_
    rintro e w3 ⟨rfl, hL3⟩
    go_wp2_with fail
    go_ret
    exact ⟨ret_int Hf.out.symm, Later.trans hL0 (Later.trans hL2' hL3)⟩
  | true =>
  have okh : ∀ h ∈ c.clocks, -30 ≤ h.1 ∧ h.1 ≤ h.2 ∧ h.2 ≤ 30 := fun h hh => clockOk_range (List.all_eq_true.1 hF h hh)
  have HF := hide hF
  have HG := hide hG
  have HH := hide hH
  have Hone : Hid ((List.range c.tickets.length).all (ofOk c) = false → fault c = 1) := fun h => fault_one Hlim.out (Or.inr (Or.inr (Or.inr (Or.inr (Or.inr h)))))
  have Hmany : Hid ((List.range c.tickets.length).all (ofOk c) = true → fault c = if 2000 < many c then 3 else 0) := fun h => fault_many Hlim.out hD hE HF.out HG.out (by rw [← Hl1.out, ← Hl2.out]; exact HH.out) h
  clear hF hG hH
  go_enter Try.func49, Try.ntmps49
  go_wp2_with (go_at_call 55; refine (within_calls _ _ _ _).mono ?_; rintro e w' ⟨rfl, rfl⟩)
  rw [← Hw0.out]; clear Hw0
  refine (allR_eq HF.out _ hc0.ck (by omega)).mono ?_
  rintro e w1 ⟨rfl, hL1⟩
  go_wp2_with fail
  refine (allT_eq HG.out _ (hc0.later hL1).tk (by omega)).mono ?_
  rintro e w2 ⟨rfl, hL2⟩
  have hL2' := Later.trans hL1 hL2
  go_wp2_with fail
  refine (allC_eq (c := c) HH.out _ (hc0.later hL2').cp (by omega) (by omega) (by omega)).mono ?_
  rintro e w3 ⟨rfl, hL3⟩
  have hL3' := Later.trans hL2' hL3
  clear hL1 hL2 hL2' hL3
  go_wp2_with fail
  go_loopw [60, 4] (fun i _ wr => ∃ j : Nat, j ≤ n2 ∧ i = .int .i64 j ∧ Later w0 wr ∧ Hid ((List.range j).all (ofOk c) = true)) (fun i _ _ => n2 - (intOf i).toNat)
  case atStart => exact ⟨0, Nat.zero_le _, rfl, hL3', rfl⟩
  case round =>
    obtain ⟨j, hj, rfl, hL, Hall⟩ := hrel
    by_cases hlt : j < n2
    · have hi1 : (j : Int) < n2 := by omega
      have hia := range_all_succ (ofOk c) j
      rw [Hall.out, Bool.true_and] at hia
      have hrow : ofOk c j = decide ((ofP c j).length ≤ 2) := by rw [ofP_len]; rfl
      rw [hrow] at hia
      have hbad : decide ((ofP c j).length ≤ 2) = false → fault c = 1 := fun h => Hone.out (range_all_false (j := j) (by have := Hl2.out; omega) (by rw [hrow]; exact h))
      have Hia := hide hia
      have Hbad := hide hbad
      clear hia hbad hrow Hall
      go_wp2_with fail
      refine (of_calls (k1 := k1) (k2 := k2) (k3 := k3) _ (hc0.later hL) hn3).mono ?_
      rintro e w5 ⟨A, k, rfl, hL5, hri⟩
      clear hri
      generalize (ofP c j).length = m at *
      by_cases p3 : m ≤ 2
      · rw [decide_eq_true p3] at Hia
        have p4 : ¬ (2 : Int) < m := by omega
        go_wp2_with fail
        go_roundw
        case rel => exact ⟨j + 1, by omega, by go_num, Later.trans hL hL5, Hia.out⟩
        case measure => simp [intOf]; omega
      · have Hf : Hid (fault c = 1) := Hbad.out (decide_eq_false p3)
        have p4 : (2 : Int) < m := by omega
        clear Hia Hbad
        go_wp2_with fail
        go_ret
        exact ⟨ret_int Hf.out.symm, Later.trans hL0 (Later.trans hL hL5)⟩
    · have Hf : Hid (fault c = if 2000 < many c then 3 else 0) := by
        have := Hall.out
        rw [show j = c.tickets.length by have := Hl2.out; omega] at this
        exact Hmany.out this
      have Hcm := hide (cut_many okh)
      have hpr : ∀ j : Nat, 1 ≤ cutTo (c.clocks.take j) ∧ cutTo (c.clocks.take j) ≤ 2001 := fun j => cutTo_range fun h hh => okh h (List.mem_of_mem_take hh)
      clear Hall Hone Hmany
      go_wp2_with fail
      obtain ⟨wo, hwo⟩ : ∃ W, W = wr := ⟨_, rfl⟩
      rw [← hwo] at hL
      rw [← hwo]
      clear hwo
      go_loopw [72, 5] (fun i m wr => ∃ j : Nat, j ≤ n1 ∧ i = .int .i64 j ∧ m = .int .i64 (cutTo (c.clocks.take j)) ∧ Later w0 wr) (fun i _ _ => n1 - (intOf i).toNat)
      case atStart => exact ⟨0, Nat.zero_le _, rfl, rfl, hL⟩
      case round =>
        obtain ⟨q, hq, rfl, rfl, hLq⟩ := hrel
        by_cases hltq : q < n1
        · obtain ⟨b, o, x, rfl, _, hx, hx0, hx1⟩ := hc0.ck.get hltq
          have hi1 : (q : Int) < n1 := by omega
          have Hp := hide (cutTo_take hx)
          have hp1 := hpr q
          have okx := okh x (List.mem_of_getElem? hx)
          have hsz : 1 ≤ sizeR x ∧ sizeR x ≤ 61 := by unfold sizeR; omega
          have hx0 := hx0 _ hLq
          have hx1 := hx1 _ hLq
          generalize cutTo (c.clocks.take q) = pj at *
          have hm0 : 0 ≤ pj * sizeR x := Int.mul_nonneg (by omega) (by omega)
          have hm1 : pj * sizeR x ≤ 2001 * 61 := Int.mul_le_mul (by omega) (by omega) (by omega) (by omega)
          have hwm : IntKind.i64.wrap (pj * sizeR x) = pj * sizeR x := IntWalk.i64_in _ (by omega)
          clear hx
          go_wp2_with fail
          refine (size_calls (h := x) _ (by omega) (by omega)).mono ?_
          rintro e w5 ⟨rfl, hL5⟩
          have hL5' : Later w0 w5 := Later.trans (later_alloc hLq _) hL5
          go_wp2_with fail
          refine (min2_calls _ _ _ _ (box_cells w5 #[.int .i64 (pj * sizeR x), .int .i64 2001] 3 _ (later_refl _) 0) (box_cells w5 #[.int .i64 (pj * sizeR x), .int .i64 2001] 3 _ (later_refl _) 1)).mono ?_
          rintro e w6 ⟨rfl, rfl⟩
          go_wp2_with fail
          go_roundw
          case rel => exact ⟨q + 1, by omega, by go_num, by rw [Hp.out], later_alloc hL5' _⟩
          case measure => simp [intOf]; omega
        · have hfull : c.clocks.take q = c.clocks := List.take_of_length_le (by have := Hl1.out; omega)
          rw [hfull]
          have hpf := hpr q
          rw [hfull] at hpf
          by_cases hbig : 2000 < cutTo c.clocks
          · have Hf2 : Hid (fault c = 3) := by show fault c = 3; rw [Hf.out, if_pos (Hcm.out.1 hbig)]
            clear hfull
            generalize cutTo c.clocks = q2 at *
            go_wp2_with fail
            go_ret
            exact ⟨ret_int Hf2.out.symm, Later.trans hL0 hLq⟩
          · have Hf2 : Hid (fault c = 0) := by show fault c = 0; rw [Hf.out, if_neg (fun h => hbig (Hcm.out.2 h))]
            clear hfull
            generalize cutTo c.clocks = q2 at *
            go_wp2_with fail
            go_ret
            exact ⟨ret_int Hf2.out.symm, Later.trans hL0 hLq⟩
theorem CheckHouse_eq {A1 A2 A3 : Option Addr} {n1 k1 n2 k2 n3 k3 : Nat} {c : Hou} {b : Int} (w : World) (hc : CV w c A1 n1 A2 n2 A3 n3) (hb : fault c = b) (hn1 : n1 ≤ 1000) (hn2 : n2 ≤ 1000) (hn3 : n3 ≤ 1000) :
    Calls Try.prog 49 #[(.agg #[.int .i64 c.hour, .int .i64 c.grace, .slice A1 n1 k1, .slice A2 n2 k2, .slice A3 n3 k3])] w fun e w' => e = .returned (.int .i64 b) ∧ Later w w' := by
  have := CheckHouse_calls (k1 := k1) (k2 := k2) (k3 := k3) w hc hn1 hn2 hn3; rw [hb] at this; exact this
end Go.Proofs.Ytcffgjhmpgdfpaa
