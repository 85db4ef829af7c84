/- Part 6 of the proof: joined from the texts RefN, LawS, LvP, Lks, Bst, VmA, VnA, VnB, VnC, VnD, VnE. -/
import Derived.Test.YtnlbgaippnjmiaaPart5
import Derived.Test.YtnlbgaippnjmiaaPart4
set_option linter.unusedSimpArgs false
set_option linter.unusedVariables false
/- The reference's Bits: walk. -/
namespace Go.Proofs.Ytnlbgaippnjmiaa
open Go Go.RowKit

def bitsPost (bits : Nat) (w : World) (e : Ending) (w' : World) : Prop := ∃ A n k, e = .returned (.slice A n k) ∧ Later w w' ∧ RI w' A n (bitsR bits) ∧ n ≤ k ∧ Fresh w w' A
theorem bitList_len : ∀ (k bits p : Nat), (bitList k bits p).length ≤ k
  | 0, _, _ => Nat.le_refl _
  | k + 1, bits, p => by
    unfold bitList
    have := bitList_len k (bits / 2) (p + 1)
    split <;> simp <;> omega
theorem shr_nat (a p : Nat) : (a : Int) >>> p = ((a / 2 ^ p : Nat) : Int) := by
  rw [Int.shiftRight_eq_div_pow]; norm_cast
theorem own_cap2 {W : World} {base : Nat} {e : TypeId} {size : Nat} {A : Option Addr} {k n : Nat} {xs : List Value} (h : W.ownsRow base e size (.slice A n k) n xs) : n ≤ k := by
  rcases h.2 with ⟨e, h0⟩ | ⟨g, cap, cur, e, _, _, h1, _⟩
  · injection e with _ e _; omega
  · injection e with _ _ e; omega
end Go.Proofs.Ytnlbgaippnjmiaa

/- The law's some: closets with some of their looks: walk. -/
namespace Go.Proofs.Ytnlbgaippnjmiaa
open Go Go.RowKit
attribute [local go_sem] later_alloc2 later_alloc3 later_alloc4

theorem rlook_info : (Try.prog.info? 64).map (fun i => (i.zero, i.size, i.bytes)) = some (some (.agg #[.int .i64 0, .int .i64 0, .bool false]), 3, 24) := by kernel_rfl
/-- the looks whose bits are set -/
def someTo (c : Clo) (bits : Nat) (j : Nat) : List Look := ((List.range j).filter fun i => bits.testBit i).filterMap fun i => c.looks[i]?
theorem someTo_hit {c : Clo} {bits s : Nat} {x : Look} (hx : c.looks[s]? = some x) (h : bits / 2 ^ s % 2 = 1) : someTo c bits (s + 1) = someTo c bits s ++ [x] := by
  have hb : bits.testBit s = true := by rw [Nat.testBit_eq_decide_div_mod_eq]; simpa using h
  unfold someTo
  rw [List.range_succ, List.filter_append, List.filterMap_append]
  simp [hb, hx]
theorem someTo_miss {c : Clo} {bits s : Nat} (h : ¬ bits / 2 ^ s % 2 = 1) : someTo c bits (s + 1) = someTo c bits s := by
  have hb : bits.testBit s = false := by rw [Nat.testBit_eq_decide_div_mod_eq]; simpa using h
  unfold someTo
  rw [List.range_succ, List.filter_append, List.filterMap_append]
  simp [hb]
theorem someTo_len (c : Clo) (bits j : Nat) : (someTo c bits j).length ≤ j := by
  unfold someTo
  refine Nat.le_trans (List.length_filterMap_le _ _) (Nat.le_trans (List.length_filter_le _ _) ?_)
  simp
def someC (c : Clo) (bits : Nat) : Clo := withLooks c (someTo c bits c.looks.length)
theorem someTo_mem {c : Clo} {bits j : Nat} {x : Look} (h : x ∈ someTo c bits j) : ∃ i, i < j ∧ bits.testBit i = true ∧ c.looks[i]? = some x := by
  unfold someTo at h
  obtain ⟨i, hi, e⟩ := List.mem_filterMap.1 h
  rw [List.mem_filter] at hi
  exact ⟨i, by simpa using hi.1, hi.2, e⟩
theorem mem_someTo {c : Clo} {bits j i : Nat} {x : Look} (hi : i < j) (hb : bits.testBit i = true) (hx : c.looks[i]? = some x) : x ∈ someTo c bits j :=
  List.mem_filterMap.2 ⟨i, List.mem_filter.2 ⟨by simpa using hi, hb⟩, hx⟩
def SomePost (c : Clo) (bits : Nat) (A1 : Option Addr) (n1 k1 : Nat) (A2 : Option Addr) (n2 k2 : Nat) (w : World) (e : Ending) (w' : World) : Prop :=
  ∃ A m k, e = .returned (.agg #[.int .i64 c.closets, .int .i64 c.close, .slice A1 n1 k1, .slice A2 n2 k2, .slice A m k]) ∧ Later w w' ∧ RL w' A m (someC c bits).looks
end Go.Proofs.Ytnlbgaippnjmiaa

/- The plain laws of First and Leave: what the program finds is what the reference has. -/
namespace Go.Proofs.Ytnlbgaippnjmiaa
open Go Go.RowKit

theorem possible_iff {c : Clo} (ok : OkC c) (out : List Int) : possibleP c out = true ↔ ∃ d ∈ dryAll c.horses, ∀ (j : Nat) (l : Look), c.looks[j]? = some l → (j : Int) ∈ out ∨ okL c d l = true := by
  unfold possibleP
  rw [List.any_eq_true]
  constructor
  · rintro ⟨d, hd, h⟩; exact ⟨d, hd, (rightP_iff ok out).1 h⟩
  · rintro ⟨d, hd, h⟩; exact ⟨d, hd, (rightP_iff ok out).2 h⟩
theorem and_beq_iff (a b : Nat) : (a &&& b == b) = true ↔ ∀ j, b.testBit j = true → a.testBit j = true := by
  rw [beq_iff_eq]
  constructor
  · intro h j hj
    rw [← h, Nat.testBit_and, Bool.and_eq_true] at hj
    exact hj.1
  · intro h
    apply Nat.eq_of_testBit_eq
    intro j
    rw [Nat.testBit_and]
    cases hb : b.testBit j with
    | true => simp [h j hb]
    | false => simp
theorem can_iff {c : Clo} (hf : fault c = 0) (looks : Nat) : can (allBits c) looks = true ↔ ∃ d ∈ dryAll c.horses, ∀ j, looks.testBit j = true → (rightBits c d).testBit j = true := by
  unfold can allBits
  rw [List.any_eq_true]
  constructor
  · rintro ⟨x, hx, h⟩
    obtain ⟨d, hd, rfl⟩ := List.mem_map.1 hx
    exact ⟨d, ((allDry_perm hf).mem_iff).2 hd, (and_beq_iff _ _).1 h⟩
  · rintro ⟨d, hd, h⟩
    exact ⟨_, List.mem_map.2 ⟨d, ((allDry_perm hf).mem_iff).1 hd, rfl⟩, (and_beq_iff _ _).2 h⟩
theorem rightBits_bit {c : Clo} {d : List Int} {j : Nat} {l : Look} (h : c.looks[j]? = some l) : (rightBits c d).testBit j = okL c d l := by
  rw [rightBits_testBit, List.getD_eq_getElem?_getD, List.getElem?_map, h]; rfl
theorem mask_bits {c : Clo} (hf : fault c = 0) {looks : Nat} {out : List Int} (h : ∀ j, j < c.looks.length → (looks.testBit j = true ↔ ¬ (j : Int) ∈ out)) (hn : ∀ j, c.looks.length ≤ j → looks.testBit j = false) :
    can (allBits c) looks = possibleP c out := by
  rw [Bool.eq_iff_iff, can_iff hf, possible_iff (okC_of_fault hf)]
  constructor
  · rintro ⟨d, hd, hl⟩
    refine ⟨d, hd, fun j l hj => ?_⟩
    have hlt := (List.getElem?_eq_some_iff.1 hj).1
    by_cases hm : (j : Int) ∈ out
    · exact .inl hm
    · right; rw [← rightBits_bit hj]; exact hl j ((h j hlt).2 hm)
  · rintro ⟨d, hd, hl⟩
    refine ⟨d, hd, fun j hj => ?_⟩
    rcases Nat.lt_or_ge j c.looks.length with hlt | hge
    · have he := List.getElem?_eq_getElem hlt
      rw [rightBits_bit he]
      rcases hl j _ he with h1 | h1
      · exact absurd h1 ((h j hlt).1 hj)
      · exact h1
    · rw [hn j hge] at hj; cases hj

/-! ### First -/
theorem first_bit {c : Clo} (hf : fault c = 0) {i : Nat} (hi : i < c.looks.length) : firstBad c i = !can (allBits c) (2 ^ (i + 1) - 1) := by
  unfold firstBad
  congr 1
  rw [Bool.eq_iff_iff, can_iff hf, possible_iff (okC_take (okC_of_fault hf) _)]
  constructor
  · rintro ⟨d, hd, h⟩
    refine ⟨d, hd, fun j hj => ?_⟩
    rw [Nat.testBit_two_pow_sub_one, decide_eq_true_eq] at hj
    have he := List.getElem?_eq_getElem (l := c.looks) (i := j) (by omega)
    rw [rightBits_bit he]
    have := h j _ (show (withLooks c (c.looks.take (i + 1))).looks[j]? = _ by show (c.looks.take (i + 1))[j]? = _; rw [List.getElem?_take_of_lt hj]; exact he)
    rcases this with h1 | h1
    · cases h1
    · exact h1
  · rintro ⟨d, hd, h⟩
    refine ⟨d, hd, fun j l hj => .inr ?_⟩
    have hj2 : (c.looks.take (i + 1))[j]? = some l := hj
    rw [List.getElem?_take] at hj2
    split at hj2
    · rename_i hlt
      have := h j (by rw [Nat.testBit_two_pow_sub_one, decide_eq_true_eq]; exact hlt)
      rw [rightBits_bit hj2] at this
      exact this
    · cases hj2
theorem find_congr {P Q : Nat → Bool} {n : Nat} (h : ∀ i, i < n → P i = Q i) : (List.range n).find? P = (List.range n).find? Q := by
  have : ∀ (l : List Nat), (∀ i ∈ l, P i = Q i) → l.find? P = l.find? Q := fun l => by
    induction l with
    | nil => intro _; rfl
    | cons x l ih => intro hl; rw [List.find?_cons, List.find?_cons, hl x List.mem_cons_self, ih fun i hi => hl i (List.mem_cons_of_mem _ hi)]
  exact this _ fun i hi => h i (by simpa using hi)
theorem first_law (c : Clo) : (fault c ≠ 0 ∧ firstOut c = (0, fault c)) ∨
    (fault c = 0 ∧ ((∃ j : Nat, j < c.looks.length ∧ firstR c (allBits c) = j ∧ firstOut c = ((j : Int), 0)) ∨ (firstR c (allBits c) = -1 ∧ firstOut c = (0, 7)))) := by
  by_cases hf : fault c = 0
  · right
    refine ⟨hf, ?_⟩
    have hc := find_congr (n := c.looks.length) fun i hi => first_bit hf hi
    unfold firstOut firstR
    rw [if_neg (by simp [hf]), hc]
    cases hq : (List.range c.looks.length).find? (fun n => !can (allBits c) (2 ^ (n + 1) - 1)) with
    | none => exact .inr ⟨rfl, rfl⟩
    | some j =>
      have := List.mem_of_find?_eq_some hq
      exact .inl ⟨j, by simpa using this, rfl, rfl⟩
  · exact .inl ⟨hf, by unfold firstOut; rw [if_pos hf]⟩

/-! ### Leave -/
theorem bitList_mem : ∀ (k bits p j : Nat), bits < 2 ^ k → ((j : Int) ∈ bitList k bits p ↔ p ≤ j ∧ bits.testBit (j - p) = true)
  | 0, bits, p, j, h => by
    have : bits = 0 := by simpa using h
    subst this
    simp [bitList]
  | k + 1, bits, p, j, h => by
    have hk : bits / 2 < 2 ^ k := by rw [Nat.pow_succ] at h; omega
    have ih := bitList_mem k (bits / 2) (p + 1) j hk
    have hrest : p + 1 ≤ j → bits.testBit (j - p) = (bits / 2).testBit (j - (p + 1)) := fun hj => by
      rw [show j - p = (j - (p + 1)) + 1 by omega, Nat.testBit_succ]
    have hzero : bits.testBit 0 = decide (bits % 2 = 1) := Nat.testBit_zero bits
    unfold bitList
    split
    · rename_i hb
      simp only [List.mem_cons]
      rw [ih]
      constructor
      · rintro (h1 | ⟨h1, h2⟩)
        · have : j = p := by omega
          subst this
          exact ⟨Nat.le_refl _, by rw [Nat.sub_self, hzero]; simp [hb]⟩
        · exact ⟨by omega, by rw [hrest h1]; exact h2⟩
      · rintro ⟨h1, h2⟩
        rcases Nat.eq_or_lt_of_le h1 with rfl | hlt
        · exact .inl rfl
        · exact .inr ⟨hlt, by rw [← hrest hlt]; exact h2⟩
    · rename_i hb
      rw [ih]
      constructor
      · rintro ⟨h1, h2⟩
        exact ⟨by omega, by rw [hrest h1]; exact h2⟩
      · rintro ⟨h1, h2⟩
        rcases Nat.eq_or_lt_of_le h1 with rfl | hlt
        · rw [Nat.sub_self, hzero] at h2
          simp [hb] at h2
        · exact ⟨hlt, by rw [← hrest hlt]; exact h2⟩
theorem bitsR_mem (bits j : Nat) : (j : Int) ∈ bitsR bits ↔ bits.testBit j = true := by
  unfold bitsR
  rw [bitList_mem bits bits 0 j Nat.lt_two_pow_self]
  simp
theorem can_bits {c : Clo} (hf : fault c = 0) {bits : Nat} (hb : bits < 2 ^ c.looks.length) : can (allBits c) (full c - bits) = possibleP c (bitsR bits) := by
  have ht : ∀ j, (full c - bits).testBit j = (decide (j < c.looks.length) && !bits.testBit j) := fun j => by
    unfold full
    rw [show 2 ^ c.looks.length - 1 - bits = 2 ^ c.looks.length - (bits + 1) by omega]
    exact Nat.testBit_two_pow_sub_succ hb j
  refine mask_bits hf (fun j hj => ?_) fun j hj => ?_
  · rw [ht, bitsR_mem]; simp [hj]
  · rw [ht]; simp; omega
theorem before_trans : ∀ (a b c : List Int), before a b = true → before b c = true → before a c = true
  | [], [], _, h, _ => by simp [before] at h
  | [], _ :: _, [], _, h => by simp [before] at h
  | [], _ :: _, _ :: _, _, _ => rfl
  | _ :: _, [], _, h, _ => by simp [before] at h
  | _ :: _, _ :: _, [], _, h => by simp [before] at h
  | x :: a, y :: b, z :: c, h1, h2 => by
    simp only [before] at h1 h2 ⊢
    by_cases e1 : x = y
    · subst e1
      rw [if_pos rfl] at h1
      by_cases e2 : x = z
      · subst e2
        rw [if_pos rfl] at h2 ⊢
        exact before_trans a b c h1 h2
      · rw [if_neg e2] at h2 ⊢; exact h2
    · rw [if_neg e1, decide_eq_true_eq] at h1
      by_cases e2 : y = z
      · subst e2
        rw [if_neg e1]; simpa using h1
      · rw [if_neg e2, decide_eq_true_eq] at h2
        rw [if_neg (by omega)]; simp; omega
theorem before_irrefl : ∀ (a : List Int), before a a = false
  | [] => rfl
  | x :: a => by simp [before, before_irrefl a]
theorem shorter_trans {a b c : List Int} (h1 : shorter a b = true) (h2 : shorter b c = true) : shorter a c = true := by
  unfold shorter at *
  simp only [Bool.or_eq_true, Bool.and_eq_true, decide_eq_true_eq, beq_iff_eq] at *
  rcases h1 with h1 | ⟨h1, h3⟩ <;> rcases h2 with h2 | ⟨h2, h4⟩
  · left; omega
  · left; omega
  · left; omega
  · right; exact ⟨by omega, before_trans a b c h3 h4⟩
theorem shorter_irrefl (a : List Int) : shorter a a = false := by unfold shorter; simp [before_irrefl]
/-- a fold that keeps the shortest of those with a property -/
theorem leaveFold (P : List Int → Bool) (f : Nat → List Int) (Q : Nat → Bool) (hQ : ∀ b, Q b = P (f b)) : ∀ (L : List Nat) (b0 : List Int), P b0 = true →
    (P (L.foldl (fun best b => if shorter (f b) best && Q b then f b else best) b0) = true ∧
     ((L.foldl (fun best b => if shorter (f b) best && Q b then f b else best) b0) = b0 ∨ (∃ b ∈ L, (L.foldl (fun best b => if shorter (f b) best && Q b then f b else best) b0) = f b)) ∧
     (∀ y, P y = true → shorter y b0 = false → shorter y (L.foldl (fun best b => if shorter (f b) best && Q b then f b else best) b0) = false) ∧
     (∀ b ∈ L, P (f b) = true → shorter (f b) (L.foldl (fun best b => if shorter (f b) best && Q b then f b else best) b0) = false))
  | [], b0, h => ⟨h, .inl rfl, fun _ _ h => h, fun b hb => by cases hb⟩
  | b :: L, b0, h => by
    rw [List.foldl_cons]
    by_cases hs : (shorter (f b) b0 && Q b) = true
    · rw [if_pos hs]
      rw [Bool.and_eq_true, hQ] at hs
      obtain ⟨h1, h2, h3, h4⟩ := leaveFold P f Q hQ L (f b) hs.2
      have hb := h3 (f b) hs.2 (shorter_irrefl _)
      refine ⟨h1, ?_, fun y hy hn => h3 y hy ?_, fun x hx hp => ?_⟩
      · rcases h2 with h2 | ⟨x, hx, h2⟩
        · exact .inr ⟨b, List.mem_cons_self, h2⟩
        · exact .inr ⟨x, List.mem_cons_of_mem _ hx, h2⟩
      · cases hc : shorter y (f b) with
        | false => rfl
        | true => rw [shorter_trans hc hs.1] at hn; cases hn
      · rcases List.mem_cons.1 hx with rfl | hx
        · exact hb
        · exact h4 x hx hp
    · rw [if_neg hs]
      obtain ⟨h1, h2, h3, h4⟩ := leaveFold P f Q hQ L b0 h
      refine ⟨h1, ?_, h3, fun x hx hp => ?_⟩
      · rcases h2 with h2 | ⟨x, hx, h2⟩
        · exact .inl h2
        · exact .inr ⟨x, List.mem_cons_of_mem _ hx, h2⟩
      · rcases List.mem_cons.1 hx with rfl | hx
        · refine h3 _ hp ?_
          rw [hQ, hp, Bool.and_true] at hs
          simpa using hs
        · exact h4 x hx hp
/-- the sets of m more numbers from f on, below n -/
def comb (n : Nat) : Nat → Nat → List Int → List (List Int)
  | 0, _, out => [out]
  | m + 1, f, out => (List.range' f (n - m - f)).flatMap fun i => comb n m (i + 1) (out ++ [(i : Int)])
theorem leaveGo_find (c : Clo) (n : Nat) : ∀ (m f : Nat) (out : List Int), leaveGo c n m f out = (comb n m f out).find? (possibleP c)
  | 0, f, out => by
    unfold leaveGo comb
    rw [List.find?_cons, List.find?_nil]
    cases possibleP c out <;> rfl
  | m + 1, f, out => by
    unfold leaveGo comb
    rw [List.find?_flatMap]
    congr 1
    funext i
    exact leaveGo_find c n m (i + 1) _
def combs (n : Nat) : List (List Int) := (List.range' 0 (n + 1)).flatMap fun m => comb n m 0 []
theorem leaveP_find (c : Clo) : leaveP c = (combs c.looks.length).find? (possibleP c) := by
  unfold leaveP combs
  rw [List.find?_flatMap]
  congr 1
  funext m
  exact leaveGo_find c _ m 0 []
def sortedB : List (List Int) → Bool
  | [] => true
  | a :: l => l.all (shorter a) && sortedB l
theorem sortedB_pairwise : ∀ (l : List (List Int)), sortedB l = true → l.Pairwise (fun a b => shorter a b = true)
  | [], _ => List.Pairwise.nil
  | a :: l, h => by
    simp only [sortedB, Bool.and_eq_true, List.all_eq_true] at h
    exact List.Pairwise.cons h.1 (sortedB_pairwise l h.2)
theorem combs_facts : ∀ n, n < 6 → sortedB (combs n) = true ∧ ((combs n).all fun l => (List.range (2 ^ n)).any fun b => bitsR b == l) = true ∧ ((List.range (2 ^ n)).all fun b => (combs n).contains (bitsR b)) = true := by
  decide +kernel
theorem combs_sorted {n : Nat} (h : n < 6) : (combs n).Pairwise (fun a b => shorter a b = true) := sortedB_pairwise _ (combs_facts n h).1
theorem combs_bits {n : Nat} (h : n < 6) {l : List Int} (hl : l ∈ combs n) : ∃ b, b < 2 ^ n ∧ bitsR b = l := by
  have := List.all_eq_true.1 (combs_facts n h).2.1 l hl
  rw [List.any_eq_true] at this
  obtain ⟨b, hb, e⟩ := this
  exact ⟨b, by simpa using hb, by simpa using e⟩
theorem combs_has {n : Nat} (h : n < 6) {b : Nat} (hb : b < 2 ^ n) : bitsR b ∈ combs n := by
  have := List.all_eq_true.1 (combs_facts n h).2.2 b (by simpa using hb)
  exact List.contains_iff_mem.1 this
theorem find_sorted {P : List Int → Bool} : ∀ {l : List (List Int)} {x : List Int}, l.Pairwise (fun a b => shorter a b = true) → l.find? P = some x → x ∈ l ∧ P x = true ∧ ∀ y ∈ l, P y = true → y = x ∨ shorter x y = true
  | [], x, _, h => by cases h
  | a :: l, x, hp, h => by
    have hp2 := List.pairwise_cons.1 hp
    rw [List.find?_cons] at h
    split at h
    · rename_i ha
      injection h with h
      subst h
      refine ⟨List.mem_cons_self, ha, fun y hy _ => ?_⟩
      rcases List.mem_cons.1 hy with rfl | hy
      · exact .inl rfl
      · exact .inr (hp2.1 y hy)
    · rename_i ha
      obtain ⟨h1, h2, h3⟩ := find_sorted hp2.2 h
      refine ⟨List.mem_cons_of_mem _ h1, h2, fun y hy hP => ?_⟩
      rcases List.mem_cons.1 hy with rfl | hy
      · rw [hP] at ha; cases ha
      · exact h3 y hy hP
theorem full_lt (c : Clo) : full c < 2 ^ c.looks.length := by unfold full; have := Nat.two_pow_pos c.looks.length; omega
theorem leaveP_some {c : Clo} (hf : fault c = 0) : ∃ l, leaveP c = some l ∧ l ∈ combs c.looks.length ∧ possibleP c l = true ∧ ∀ y ∈ combs c.looks.length, possibleP c y = true → y = l ∨ shorter l y = true := by
  have ok := okC_of_fault hf
  have h6 : c.looks.length < 6 := by have := ok.nlooks; omega
  have hfull : possibleP c (bitsR (full c)) = true := by
    rw [← can_bits hf (full_lt c), Nat.sub_self, can_iff hf]
    obtain ⟨d, hd⟩ := dryAll_ne c.horses fun h hh => by have := ok.horse h hh; omega
    exact ⟨d, hd, fun j hj => by simp at hj⟩
  cases h : leaveP c with
  | none =>
    rw [leaveP_find, List.find?_eq_none] at h
    exact absurd hfull (h _ (combs_has h6 (full_lt c)))
  | some l =>
    have h2 := h
    rw [leaveP_find] at h2
    exact ⟨l, rfl, find_sorted (combs_sorted h6) h2⟩
theorem leave_law {c : Clo} (hf : fault c = 0) : leaveOut c = leaveR c (allBits c) := by
  have ok := okC_of_fault hf
  have h6 : c.looks.length < 6 := by have := ok.nlooks; omega
  obtain ⟨l, hl, hmem, hP, hmin⟩ := leaveP_some hf
  have hQ : ∀ b, (fun b => can (allBits c) (full c - b)) b = (fun b => can (allBits c) (full c - b)) b := fun _ => rfl
  have hcan : ∀ b, b < 2 ^ c.looks.length → can (allBits c) (full c - b) = possibleP c (bitsR b) := fun b hb => can_bits hf hb
  have hstep : leaveR c (allBits c) = (List.range (full c + 1)).foldl (fun best b => if shorter (bitsR b) best && possibleP c (bitsR b) then bitsR b else best) (bitsR (full c)) := by
    unfold leaveR
    have : ∀ (L : List Nat) (b0 : List Int), (∀ b ∈ L, b < 2 ^ c.looks.length) → L.foldl (leaveStep c (allBits c)) b0 = L.foldl (fun best b => if shorter (bitsR b) best && possibleP c (bitsR b) then bitsR b else best) b0 := fun L => by
      induction L with
      | nil => intro _ _; rfl
      | cons b L ih =>
        intro b0 h
        rw [List.foldl_cons, List.foldl_cons, ih _ fun x hx => h x (List.mem_cons_of_mem _ hx)]
        unfold leaveStep
        rw [hcan b (h b List.mem_cons_self)]
    exact this _ _ fun b hb => by have := full_lt c; simp at hb; omega
  have hfp : possibleP c (bitsR (full c)) = true := by
    rw [← can_bits hf (full_lt c), Nat.sub_self, can_iff hf]
    obtain ⟨d, hd⟩ := dryAll_ne c.horses fun h hh => by have := ok.horse h hh; omega
    exact ⟨d, hd, fun j hj => by simp at hj⟩
  obtain ⟨h1, h2, h3, h4⟩ := leaveFold (possibleP c) bitsR (fun b => possibleP c (bitsR b)) (fun _ => rfl) (List.range (full c + 1)) (bitsR (full c)) hfp
  rw [← hstep] at h1 h2 h3 h4
  unfold leaveOut
  rw [if_pos hf, hl, Option.getD_some]
  have hin : leaveR c (allBits c) ∈ combs c.looks.length := by
    rcases h2 with h2 | ⟨b, hb, h2⟩
    · rw [h2]; exact combs_has h6 (full_lt c)
    · rw [h2]; exact combs_has h6 (by have := full_lt c; simp at hb; omega)
  rcases hmin _ hin h1 with h5 | h5
  · exact h5.symm
  · obtain ⟨b, hb, hbl⟩ := combs_bits h6 hmem
    have h6 := h4 b (by unfold full; simp; omega) (by rw [hbl]; exact hP)
    rw [hbl, h5] at h6
    cases h6
end Go.Proofs.Ytnlbgaippnjmiaa

/- Closets with other looks: plain. -/
namespace Go.Proofs.Ytnlbgaippnjmiaa
open Go Go.RowKit

theorem fault_looks {c : Clo} (hf : fault c = 0) {l : List Look} (hl : l.all (lookOk c.horses.length) = true) (hn : l.length ≤ 5) : fault (withLooks c l) = 0 := by
  obtain ⟨h1, h2, h3, h4, h5, h6, h7⟩ := fault_zero hf
  have e1 : isPlaceB (withLooks c l) (withLooks c l).hung = isPlaceB c c.hung := rfl
  unfold fault
  rw [if_neg, if_neg, if_neg, if_neg, if_neg]
  · show ¬ 2000 < many c
    omega
  · show ¬ (l.all (lookOk c.horses.length) = false)
    rw [hl]; simp
  · show ¬ (c.horses.all horseOk = false)
    simp_all
  · show ¬ (c.closets < 1 ∨ inB c.close 0 99 = false ∨ isPlaceB c c.hung = false)
    simp_all
  · show ¬ (4 < c.closets ∨ 4 < c.horses.length ∨ 5 < l.length)
    omega
theorem looks_all {c : Clo} (hf : fault c = 0) {l : List Look} (hl : ∀ x ∈ l, x ∈ c.looks) : l.all (lookOk c.horses.length) = true := by
  have h := (fault_zero hf).2.2.2.2.2.1
  rw [List.all_eq_true]
  intro x hx
  have h2 : c.looks.all (lookOk c.horses.length) = true := by first | exact h | exact (fault_zero hf).2.2.2.2.1
  exact List.all_eq_true.1 h2 x (hl x hx)
theorem poss_mem {c : Clo} (ok : OkC c) : possibleP c [] = true ↔ ∃ d ∈ dryAll c.horses, ∀ l ∈ c.looks, okL c d l = true := by
  rw [possible_iff ok]
  constructor
  · rintro ⟨d, hd, h⟩
    refine ⟨d, hd, fun l hl => ?_⟩
    obtain ⟨j, hj⟩ := List.getElem?_of_mem hl
    rcases h j l hj with h1 | h1
    · cases h1
    · exact h1
  · rintro ⟨d, hd, h⟩
    exact ⟨d, hd, fun j l hj => .inr (h l (List.mem_of_getElem? hj))⟩
theorem truthsP_ne {c : Clo} (ok : OkC c) : truthsP c ≠ [] ↔ possibleP c [] = true := by
  rw [truthsP_filter ok.toOkH]
  unfold possibleP
  rw [List.any_eq_true, ne_eq, List.filter_eq_nil_iff]
  constructor
  · intro h
    apply Classical.byContradiction
    intro h2
    exact h fun d hd h3 => h2 ⟨d, hd, h3⟩
  · rintro ⟨d, hd, h⟩ h2
    exact h2 d hd h
theorem askedErr_poss {c : Clo} (hf : fault c = 0) {b : Bool} (hb : b = true) : askedErr c b = if possibleP c [] = true then 0 else 11 := by
  have ok := okC_of_fault hf
  subst hb
  unfold askedErr
  rw [if_neg (by simp [hf]), if_neg (by simp)]
  by_cases h : possibleP c [] = true
  · rw [if_pos h, if_neg ((truthsP_ne ok).2 h)]
  · rw [if_neg h, if_pos]
    apply Classical.byContradiction
    intro h2
    exact h ((truthsP_ne ok).1 h2)
theorem someC_fault {c : Clo} (hf : fault c = 0) (bits : Nat) : fault (someC c bits) = 0 := by
  refine fault_looks hf (looks_all hf fun x hx => ?_) ?_
  · obtain ⟨i, _, _, e⟩ := someTo_mem hx
    exact List.mem_of_getElem? e
  · have := someTo_len c bits c.looks.length
    have := (okC_of_fault hf).nlooks
    omega
theorem hung_place {c : Clo} (hf : fault c = 0) : isPlaceB c c.hung = true := by
  have ok := okC_of_fault hf
  exact (isPlaceB_iff ok.cl1 ok.cl4 c.hung).2 ok.hung
theorem someC_err {c : Clo} (hf : fault c = 0) (bits : Nat) : askedErr (someC c bits) (isPlaceB (someC c bits) c.hung) = if possibleP (someC c bits) [] = true then 0 else 11 :=
  askedErr_poss (someC_fault hf bits) (show isPlaceB c c.hung = true from hung_place hf)
theorem poss_none {c : Clo} (ok : OkC c) (h : ∀ l ∈ c.looks, False) : possibleP c [] = true := by
  rw [poss_mem ok]
  obtain ⟨d, hd⟩ := dryAll_ne c.horses fun h hh => by have := ok.horse h hh; omega
  exact ⟨d, hd, fun l hl => (h l hl).elim⟩
/-- some of the looks by their bits, or a part of the list from its head on: the same looks -/
theorem poss_some_take {c : Clo} (hf : fault c = 0) (j : Nat) : possibleP (someC c (2 ^ j - 1)) [] = possibleP (withLooks c (c.looks.take j)) [] := by
  have ok1 := okC_of_fault (someC_fault hf (2 ^ j - 1))
  have ok2 := okC_take (okC_of_fault hf) j
  rw [Bool.eq_iff_iff, poss_mem ok1, poss_mem ok2]
  have hm : ∀ x, x ∈ (someC c (2 ^ j - 1)).looks ↔ x ∈ (withLooks c (c.looks.take j)).looks := fun x => by
    show x ∈ someTo c (2 ^ j - 1) c.looks.length ↔ x ∈ c.looks.take j
    constructor
    · intro h
      obtain ⟨i, hi, hb, e⟩ := someTo_mem h
      rw [Nat.testBit_two_pow_sub_one, decide_eq_true_eq] at hb
      exact List.mem_of_getElem? (i := i) (by rw [List.getElem?_take_of_lt hb]; exact e)
    · intro h
      obtain ⟨i, hi⟩ := List.getElem?_of_mem h
      rw [List.getElem?_take] at hi
      split at hi
      · rename_i hlt
        exact mem_someTo (i := i) (List.getElem?_eq_some_iff.1 hi).1 (by rw [Nat.testBit_two_pow_sub_one, decide_eq_true_eq]; exact hlt) hi
      · cases hi
  constructor
  · rintro ⟨d, hd, h⟩; exact ⟨d, hd, fun l hl => h l ((hm l).2 hl)⟩
  · rintro ⟨d, hd, h⟩; exact ⟨d, hd, fun l hl => h l ((hm l).1 hl)⟩
theorem poss_take {c : Clo} (hf : fault c = 0) {j : Nat} (hj : ∀ i, i < j → firstBad c i = false) : possibleP (withLooks c (c.looks.take j)) [] = true := by
  cases j with
  | zero => exact poss_none (okC_take (okC_of_fault hf) 0) (fun l hl => by simp [withLooks] at hl)
  | succ j =>
    have := hj j (Nat.lt_succ_self _)
    unfold firstBad at this
    simpa using this
theorem firstLaw {c : Clo} (hf : fault c = 0) :
    (firstOut c = (0, 7) ∧ askedErr c (isPlaceB c c.hung) = 0) ∨
    (∃ j : Nat, j < c.looks.length ∧ firstOut c = ((j : Int), 0) ∧ askedErr (someC c (2 ^ j - 1)) (isPlaceB (someC c (2 ^ j - 1)) c.hung) = 0 ∧ askedErr (someC c (2 ^ (j + 1) - 1)) (isPlaceB (someC c (2 ^ (j + 1) - 1)) c.hung) = 11) := by
  unfold firstOut
  rw [if_neg (by simp [hf])]
  cases hq : (List.range c.looks.length).find? (firstBad c) with
  | none =>
    left
    refine ⟨rfl, ?_⟩
    rw [List.find?_eq_none] at hq
    rw [askedErr_poss hf (hung_place hf), if_pos]
    have := poss_take hf (j := c.looks.length) fun i hi => by simpa using hq i (by simpa using hi)
    rw [List.take_length] at this
    exact this
  | some j =>
    right
    rw [List.find?_range_eq_some] at hq
    obtain ⟨h1, h2, h3⟩ := hq
    refine ⟨j, by simpa using h2, rfl, ?_, ?_⟩
    · rw [someC_err hf, if_pos]
      rw [poss_some_take hf]
      exact poss_take hf fun i hi => by simpa using h3 i hi
    · rw [someC_err hf, if_neg]
      rw [poss_some_take hf]
      unfold firstBad at h1
      simpa using h1
end Go.Proofs.Ytnlbgaippnjmiaa

/- The best placement, in plain words: what it is, and when it is done no later. -/
namespace Go.Proofs.Ytnlbgaippnjmiaa
open Go Go.RowKit

theorem lexAll_has (m : Nat) : ∀ (k : Nat) (l : List Int), l.length = k → (∀ x ∈ l, 0 ≤ x ∧ x < (m : Int)) → l ∈ lexAll m k
  | 0, l, h, _ => by rw [List.eq_nil_of_length_eq_zero h]; simp [lexAll]
  | k + 1, [], h, _ => by simp at h
  | k + 1, x :: l, h, hx => by
    have h0 := hx x List.mem_cons_self
    simp only [lexAll, List.mem_flatMap, List.mem_range, List.mem_map]
    exact ⟨x.toNat, by omega, l, lexAll_has m k l (by simpa using h) fun y hy => hx y (List.mem_cons_of_mem _ hy), by rw [Int.toNat_of_nonneg h0.1]⟩
theorem hangL_has {c : Clo} (ok : OkH c) {p : List Int} (h : IsPl c p) : p ∈ hangL c.closets.toNat c.horses.length [] := by
  have hc1 := ok.cl1
  rw [hangL_lex _ _ _ List.nodup_nil, List.mem_filter]
  refine ⟨List.mem_map.2 ⟨p, lexAll_has _ _ _ h.len fun x hx => by have := h.mem x hx; omega, by simp⟩, by simpa using h.nodup⟩
/-- a placement with good minutes for all horses, and when it is done -/
def goodPl (c : Clo) (p : List Int) : Prop := (doneP c (truthsP c) p).2 = c.horses.length
def doneAt (c : Clo) (p : List Int) : Int := (doneP c (truthsP c) p).1
theorem goodPl_iff (c : Clo) (p : List Int) : goodPl c p ↔ ∀ i, i < c.horses.length → (goodP c (truthsP c) p i).1 ≤ (goodP c (truthsP c) p i).2 := by
  unfold goodPl doneP
  rcases doneG_spec (goodP c (truthsP c) p) c.horses.length 0 0 with ⟨j, _, h2, h3, _, h5⟩ | ⟨h1, h2⟩
  · rw [h5]
    constructor
    · intro h; simp only at h; omega
    · intro h; have := h j (by omega); omega
  · rw [h2]
    constructor
    · intro _ i hi; have := h1 i (Nat.zero_le _) (by omega); omega
    · intro _; simp
theorem foldmax_le (f : Nat → Int) : ∀ (l : List Nat) (a b : Int), a ≤ b → (∀ i ∈ l, f i ≤ b) → l.foldl (fun n t => max n (f t)) a ≤ b
  | [], a, b, h, _ => h
  | x :: l, a, b, h, hf => by
    rw [List.foldl_cons]
    exact foldmax_le f l _ b (by have := hf x List.mem_cons_self; omega) fun i hi => hf i (List.mem_cons_of_mem _ hi)
theorem le_foldmax (f : Nat → Int) : ∀ (l : List Nat) (a : Int), a ≤ l.foldl (fun n t => max n (f t)) a ∧ ∀ i ∈ l, f i ≤ l.foldl (fun n t => max n (f t)) a
  | [], a => ⟨Int.le_refl _, fun i hi => by cases hi⟩
  | x :: l, a => by
    rw [List.foldl_cons]
    obtain ⟨h1, h2⟩ := le_foldmax f l (max a (f x))
    refine ⟨by omega, fun i hi => ?_⟩
    rcases List.mem_cons.1 hi with rfl | hi
    · omega
    · exact h2 i hi
theorem doneAt_good {c : Clo} {p : List Int} (h : goodPl c p) : (∀ i, i < c.horses.length → (goodP c (truthsP c) p i).1 ≤ doneAt c p) ∧ ∀ b : Int, 0 ≤ b → (∀ i, i < c.horses.length → (goodP c (truthsP c) p i).1 ≤ b) → doneAt c p ≤ b := by
  have hg := (goodPl_iff c p).1 h
  unfold doneAt doneP
  rcases doneG_spec (goodP c (truthsP c) p) c.horses.length 0 0 with ⟨j, _, h2, h3, _, _⟩ | ⟨_, h2⟩
  · have := hg j (by omega); omega
  · rw [h2]
    refine ⟨fun i hi => (le_foldmax (fun t => (goodP c (truthsP c) p t).1) _ 0).2 i (by rw [List.mem_range'_1]; omega), fun b hb hh => ?_⟩
    exact foldmax_le (fun t => (goodP c (truthsP c) p t).1) _ 0 b hb fun i hi => hh i (by rw [List.mem_range'_1] at hi; omega)
theorem doneAt_nonneg {c : Clo} {p : List Int} (h : goodPl c p) : 0 ≤ doneAt c p := by
  have hg := (goodPl_iff c p).1 h
  unfold doneAt doneP
  rcases doneG_spec (goodP c (truthsP c) p) c.horses.length 0 0 with ⟨j, _, h2, h3, _, _⟩ | ⟨_, h2⟩
  · have := hg j (by omega); omega
  · rw [h2]; exact (le_foldmax (fun t => (goodP c (truthsP c) p t).1) _ 0).1
/-- what the fold over placements keeps: the first of those that are done soonest -/
def BInv (c : Clo) (pre : List (List Int)) : Option (List Int × Int) → Prop
  | none => ∀ p ∈ pre, ¬ goodPl c p
  | some q => goodPl c q.1 ∧ q.2 = doneAt c q.1 ∧ (∃ l1 l2, pre = l1 ++ q.1 :: l2 ∧ (∀ p ∈ l1, goodPl c p → q.2 < doneAt c p) ∧ ∀ p ∈ l2, goodPl c p → q.2 ≤ doneAt c p)
theorem best_step {c : Clo} {x : List Int} {pre : List (List Int)} {b : Option (List Int × Int)} (h : BInv c pre b) : BInv c (pre ++ [x]) (bestStepP c (truthsP c) b x) := by
  by_cases hg : goodPl c x
  · cases b with
    | none =>
      have hs : bestStepP c (truthsP c) none x = some (x, doneAt c x) := if_pos hg
      rw [hs]
      exact ⟨hg, rfl, pre, [], rfl, fun p hp hpg => absurd hpg (h p hp), fun p hp => by cases hp⟩
    | some q =>
      have hs : bestStepP c (truthsP c) (some q) x = if doneAt c x < q.2 then some (x, doneAt c x) else some q := if_pos hg
      rw [hs]
      obtain ⟨h1, h2, l1, l2, h3, h4, h5⟩ := h
      by_cases hlt : doneAt c x < q.2
      · rw [if_pos hlt]
        refine ⟨hg, rfl, pre, [], rfl, fun p hp hpg => ?_, fun p hp => by cases hp⟩
        rw [h3] at hp
        rcases List.mem_append.1 hp with hp | hp
        · have := h4 p hp hpg; show doneAt c x < _; omega
        · rcases List.mem_cons.1 hp with rfl | hp
          · show doneAt c x < _; omega
          · have := h5 p hp hpg; show doneAt c x < _; omega
      · rw [if_neg hlt]
        refine ⟨h1, h2, l1, l2 ++ [x], by rw [h3]; simp, h4, fun p hp hpg => ?_⟩
        rcases List.mem_append.1 hp with hp | hp
        · exact h5 p hp hpg
        · simp at hp; subst hp; omega
  · have hs : bestStepP c (truthsP c) b x = b := if_neg hg
    rw [hs]
    cases b with
    | none =>
      intro p hp
      rcases List.mem_append.1 hp with hp | hp
      · exact h p hp
      · simp at hp; subst hp; exact hg
    | some q =>
      obtain ⟨h1, h2, l1, l2, h3, h4, h5⟩ := h
      refine ⟨h1, h2, l1, l2 ++ [x], by rw [h3]; simp, h4, fun p hp hpg => ?_⟩
      rcases List.mem_append.1 hp with hp | hp
      · exact h5 p hp hpg
      · simp at hp; subst hp; exact absurd hpg hg
theorem best_fold (c : Clo) : ∀ (l pre : List (List Int)) (b : Option (List Int × Int)), BInv c pre b → BInv c (pre ++ l) (l.foldl (bestStepP c (truthsP c)) b)
  | [], pre, b, h => by simpa using h
  | x :: l, pre, b, h => by
    rw [List.foldl_cons, show pre ++ x :: l = (pre ++ [x]) ++ l by simp]
    exact best_fold c l (pre ++ [x]) _ (best_step h)
theorem bestP_spec {c : Clo} (ok : OkH c) :
    (bestP c (truthsP c) = none ∧ ∀ p, IsPl c p → ¬ goodPl c p) ∨
    (∃ q, bestP c (truthsP c) = some (q, doneAt c q) ∧ IsPl c q ∧ goodPl c q ∧ (∀ p, IsPl c p → goodPl c p → doneAt c q ≤ doneAt c p) ∧
      ∃ l1 l2, hangL c.closets.toNat c.horses.length [] = l1 ++ q :: l2 ∧ ∀ p ∈ l1, goodPl c p → doneAt c q < doneAt c p) := by
  have h := best_fold c (hangL c.closets.toNat c.horses.length []) [] none (fun p hp => by cases hp)
  rw [List.nil_append] at h
  unfold bestP
  revert h
  cases (hangL c.closets.toNat c.horses.length []).foldl (bestStepP c (truthsP c)) none with
  | none => exact fun h => .inl ⟨rfl, fun p hp => h p (hangL_has ok hp)⟩
  | some q =>
    rintro ⟨h1, h2, l1, l2, h3, h4, h5⟩
    obtain ⟨q1, q2⟩ := q
    dsimp only at h1 h2 h3 h4 h5
    subst h2
    refine .inr ⟨q1, rfl, hangL_isPl ok q1 (by rw [h3]; simp), h1, fun p hp hg => ?_, l1, l2, h3, h4⟩
    have hm := hangL_has ok hp
    rw [h3] at hm
    rcases List.mem_append.1 hm with hm | hm
    · have := h4 p hm hg; omega
    · rcases List.mem_cons.1 hm with rfl | hm
      · omega
      · exact h5 p hm hg
/-- each good placement of c has one of x that is done no later: so has the best one -/
theorem sooner_of {c x : Clo} (hc : askedErr c true = 0) (hx : askedErr x true = 0) (h : ∀ p, IsPl c p → goodPl c p → ∃ p', IsPl x p' ∧ goodPl x p' ∧ doneAt x p' ≤ doneAt c p) : SoonerP c x := by
  have okc := (okC_of_fault (askedErr_zero hc).1).toOkH
  have okx := (okC_of_fault (askedErr_zero hx).1).toOkH
  have e1 : bestOut c = bestRes (bestP c (truthsP c)) := by unfold bestOut; rw [if_neg (by simp [hc])]
  have e2 : bestOut x = bestRes (bestP x (truthsP x)) := by unfold bestOut; rw [if_neg (by simp [hx])]
  unfold SoonerP
  rw [e1, e2]
  rcases bestP_spec okc with ⟨hb, _⟩ | ⟨q, hb, hq1, hq2, _, _⟩
  · left
    rw [hb]
    refine ⟨rfl, ?_⟩
    rcases bestP_spec okx with ⟨hb2, _⟩ | ⟨q2, hb2, _⟩
    · rw [hb2]; exact .inr rfl
    · rw [hb2]; exact .inl rfl
  · right
    obtain ⟨p', hp1, hp2, hp3⟩ := h q hq1 hq2
    rcases bestP_spec okx with ⟨_, hno⟩ | ⟨q2, hb2, _, _, hmin, _⟩
    · exact absurd hp2 (hno p' hp1)
    · rw [hb, hb2]
      refine ⟨rfl, rfl, ?_⟩
      have := hmin p' hp1 hp2
      show doneAt x q2 ≤ doneAt c q
      omega
end Go.Proofs.Ytnlbgaippnjmiaa

/- Plain: closets without looks; one round of horses. -/
namespace Go.Proofs.Ytnlbgaippnjmiaa
/-- the numbers 0, 1, 2 and so on -/
def idL (n : Nat) : List Int := (List.range n).map fun (i : Nat) => (i : Int)
def rndC (k close : Int) (hs : List Horse) : Clo := ⟨k, close, hs, idL hs.length, []⟩
/-- closets without their looks -/
def bareC (c : Clo) : Clo := { c with looks := [] }
theorem idL_len (n : Nat) : (idL n).length = n := by simp [idL]
theorem idL_pl {k close : Int} {hs : List Horse} (h : (hs.length : Int) ≤ k) : IsPl (rndC k close hs) (idL hs.length) := by
  refine ⟨idL_len _, fun x hx => ?_, ?_⟩
  · obtain ⟨i, hi, rfl⟩ := List.mem_map.1 hx
    have := List.mem_range.1 hi
    show 0 ≤ (i : Int) ∧ (i : Int) < k
    omega
  · unfold idL
    rw [List.nodup_iff_pairwise_ne, List.pairwise_map]
    exact List.Pairwise.imp (fun h => by omega) List.pairwise_lt_range
theorem rnd_fault {k close : Int} {hs : List Horse} (h1 : 1 ≤ k) (h4 : k ≤ 4) (hn : (hs.length : Int) ≤ k) (hc : 0 ≤ close ∧ close ≤ 99) (hh : hs.all horseOk = true) (hm : hs.foldl (fun n h => min 3000 (n * sizeH h)) 1 ≤ 2000) : fault (rndC k close hs) = 0 := by
  have hp : isPlaceB (rndC k close hs) (idL hs.length) = true := (isPlaceB_iff (c := rndC k close hs) h1 h4 _).2 (idL_pl hn)
  unfold fault
  have e1 : (rndC k close hs).closets = k := rfl
  have e2 : (rndC k close hs).horses = hs := rfl
  have e3 : (rndC k close hs).close = close := rfl
  have e4 : (rndC k close hs).hung = idL hs.length := rfl
  have e5 : (rndC k close hs).looks = [] := rfl
  have e6 : many (rndC k close hs) ≤ 2000 := hm
  rw [e1, e2, e3, e4, e5, hp, hh]
  rw [if_neg (by simp; omega), if_neg (by unfold inB; simp; omega), if_neg (by simp), if_neg (by simp), if_neg (by omega)]
theorem bare_fault {c : Clo} (h : fault (bareC c) = 0) : fault (rndC c.closets c.close c.horses) = 0 ∧ (c.horses.length : Int) ≤ c.closets := by
  obtain ⟨h1, h2, h3, h4, h5, _, h7⟩ := fault_zero h
  have ok := okC_of_fault h
  have hk1 : 1 ≤ c.closets := ok.cl1
  have hk4 : c.closets ≤ 4 := ok.cl4
  have hl : (c.horses.length : Int) ≤ c.closets := by
    have := pigeon_le c.closets.toNat (bareC c).hung ok.hung.nodup (fun x hx => by have := ok.hung.mem x hx; have e : (bareC c).closets = c.closets := rfl; omega)
    have := ok.hung.len
    have e : (bareC c).horses.length = c.horses.length := rfl
    omega
  exact ⟨rnd_fault hk1 hk4 hl ok.close h4 h7, hl⟩
theorem rightP_bare {c : Clo} (h : c.looks = []) (d o : List Int) : rightP c d o = true := by unfold rightP; rw [h]; rfl
theorem truthsP_bare {c : Clo} (ok : OkH c) (h : c.looks = []) : truthsP c = dryAll c.horses := by
  rw [truthsP_filter ok, List.filter_eq_self]
  intro d _
  exact rightP_bare h _ _
theorem bare_ne {c : Clo} (ok : OkH c) (h : c.looks = []) : truthsP c ≠ [] := by
  rw [truthsP_bare ok h]
  obtain ⟨d, hd⟩ := dryAll_ne c.horses fun x hx => (ok.horse x hx).2.1
  exact List.ne_nil_of_mem hd
theorem bare_asked {c : Clo} (hf : fault c = 0) (h : c.looks = []) : askedErr c true = 0 := by
  unfold askedErr
  rw [if_neg (by simp [hf]), if_neg (by simp), if_neg (bare_ne (okC_of_fault hf).toOkH h)]
theorem rnd_best {c : Clo} (h : fault (bareC c) = 0) : bestOut (rndC c.closets c.close c.horses) = bestOut (bareC c) := by
  have h2 := (bare_fault h).1
  unfold bestOut
  rw [bare_asked h rfl, bare_asked h2 rfl, truthsP_bare (okC_of_fault h).toOkH rfl, truthsP_bare (okC_of_fault h2).toOkH rfl]
  rfl
theorem isHorse_rnd (c : Clo) (i : Int) : isHorse (rndC c.closets c.close c.horses) i = isHorse (bareC c) i := rfl
theorem rnd_good {c : Clo} (h : fault (bareC c) = 0) (p : List Int) (i : Int) : goodOut (rndC c.closets c.close c.horses) p i = goodOut (bareC c) p i := by
  have h2 := (bare_fault h).1
  have e1 : isPlaceB (rndC c.closets c.close c.horses) p = isPlaceB (bareC c) p := rfl
  have e2 : ∀ b, askedErr (rndC c.closets c.close c.horses) b = askedErr (bareC c) b := fun b => by
    cases b with
    | true => rw [bare_asked h rfl, bare_asked h2 rfl]
    | false => unfold askedErr; simp [h, h2]
  unfold goodOut
  rw [e1, isHorse_rnd, e2, truthsP_bare (okC_of_fault h).toOkH rfl, truthsP_bare (okC_of_fault h2).toOkH rfl]
  rfl
/-- the best placement, if there is one: each horse has good minutes -/
theorem best_cases {c : Clo} (hf : fault c = 0) (h : c.looks = []) : bestOut c = ([], 0, 10) ∨
    ∃ p n, bestOut c = (p, n, 0) ∧ IsPl c p ∧ p.length = c.horses.length ∧ (∀ i : Nat, i < c.horses.length → (goodOut c p i).2.2 = 0) := by
  have ok := okC_of_fault hf
  have ha := bare_asked hf h
  unfold bestOut
  rw [if_neg (by simp [ha])]
  rcases bestP_spec ok.toOkH with ⟨e, _⟩ | ⟨q, e, hp, hg, _⟩
  · left; rw [e]; rfl
  · right
    refine ⟨q, doneAt c q, by rw [e]; rfl, hp, hp.len, fun i hi => ?_⟩
    have hg2 := (goodPl_iff c q).1 hg i hi
    have hb : isPlaceB c q = true := (isPlaceB_iff ok.cl1 ok.cl4 q).2 hp
    have hh : isHorse c i = true := by unfold isHorse inB; simp; omega
    unfold goodOut
    rw [hb, hh, Bool.and_self, if_neg (by simp [ha]), Int.toNat_natCast, if_neg (by omega)]
theorem best_full {c : Clo} (hf : fault c = 0) (h : c.looks = []) : bestOut c = ([], 0, 10) ∨
    ∃ p n, bestOut c = (p, n, 0) ∧ IsPl c p ∧ 0 ≤ n ∧ n ≤ 99 ∧ (∀ i : Nat, i < c.horses.length → ∃ lo hi, goodOut c p i = (lo, hi, 0) ∧ 1 ≤ lo ∧ lo ≤ hi ∧ hi ≤ 99) := by
  have ok := okC_of_fault hf
  have ha := bare_asked hf h
  have hne := bare_ne ok.toOkH h
  have hcl := ok.close
  unfold bestOut
  rw [if_neg (by simp [ha])]
  rcases bestP_spec ok.toOkH with ⟨e, _⟩ | ⟨q, e, hp, hg, _⟩
  · left; rw [e]; rfl
  · right
    have hb : isPlaceB c q = true := (isPlaceB_iff ok.cl1 ok.cl4 q).2 hp
    have hg1 : ∀ i, i < c.horses.length → 1 ≤ (goodP c (truthsP c) q i).1 ∧ (goodP c (truthsP c) q i).1 ≤ (goodP c (truthsP c) q i).2 ∧ (goodP c (truthsP c) q i).2 ≤ 99 := fun i hi => by
      have h1 := (goodPl_iff c q).1 hg i hi
      have h2 : 1 ≤ (goodP c (truthsP c) q i).1 := bP_nonneg ok.toOkH (truthsP_isDry ok.toOkH) hne hp hi
      have h3 : (goodP c (truthsP c) q i).2 ≤ c.close := by unfold goodP; dsimp only; omega
      omega
    refine ⟨q, doneAt c q, by rw [e]; rfl, hp, doneAt_nonneg hg, (doneAt_good hg).2 99 (by omega) (fun i hi => by have := hg1 i hi; omega), fun i hi => ?_⟩
    have hg2 := hg1 i hi
    have hh : isHorse c i = true := by unfold isHorse inB; simp; omega
    refine ⟨_, _, ?_, hg2⟩
    unfold goodOut
    rw [hb, hh, Bool.and_self, if_neg (by simp [ha]), Int.toNat_natCast, if_neg (by omega)]
end Go.Proofs.Ytnlbgaippnjmiaa

/- The Mondays' small functions; a woman; all women: walks. -/
namespace Go.Proofs.Ytnlbgaippnjmiaa
open Go Go.RowKit
/-- women who come in the minute 0, with their horses, as cells -/
def womC (h : Horse) : List Value := [.int .i64 0, .int .i64 0, .int .i64 h.lo, .int .i64 h.hi, .int .i64 h.wet, .int .i64 h.grace]
def womV (l : List Horse) : List Value := l.flatMap womC
def RM (w : World) (A : Option Addr) (n : Nat) (l : List Horse) : Prop := Reads w w.heap.size 6 A n (womV l)
theorem womV_length (l : List Horse) : (womV l).length = l.length * 6 := by
  induction l with
  | nil => rfl
  | cons x l ih => show (womC x ++ womV l).length = _; rw [List.length_append, ih]; simp [womC]; omega
theorem womV_get : ∀ (l : List Horse) (k j : Nat) (x : Horse), l[k]? = some x → j < 6 → (womV l)[k * 6 + j]? = (womC x)[j]?
  | y :: l, 0, j, x, h, hj => by
    simp only [List.getElem?_cons_zero, Option.some.injEq] at h
    subst h
    show (womC y ++ womV l)[0 * 6 + j]? = _
    rw [List.getElem?_append_left (by simp [womC]; omega)]
    congr 1; omega
  | y :: l, k + 1, j, x, h, hj => by
    have ih := womV_get l k j x (by simpa using h) hj
    show (womC y ++ womV l)[(k + 1) * 6 + j]? = _
    rw [List.getElem?_append_right (by simp [womC]; omega)]
    rw [← ih]
    congr 1
    simp [womC]; omega
theorem RM.later {w W : World} {A : Option Addr} {n : Nat} {l : List Horse} (h : RM w A n l) (k : Later w W) : RM W A n l := Reads.later h k
theorem RM.len {w : World} {A : Option Addr} {n : Nat} {l : List Horse} (h : RM w A n l) : n = l.length := by have := h.1; rw [womV_length] at this; omega
theorem RM.get {w : World} {A : Option Addr} {n : Nat} {l : List Horse} (h : RM w A n l) {k : Nat} (hk : k < n) :
    ∃ b o x, A = some ⟨b, o, none⟩ ∧ b < w.heap.size ∧ l[k]? = some x ∧ (∀ W, Later w W → W.cell? ⟨b, o + k * 6, none⟩ = some (.int .i64 0)) ∧ (∀ W, Later w W → W.cell? ⟨b, o + k * 6 + 1, none⟩ = some (.int .i64 0)) ∧
      (∀ W, Later w W → W.cell? ⟨b, o + k * 6 + 2, none⟩ = some (.int .i64 x.lo)) ∧ (∀ W, Later w W → W.cell? ⟨b, o + k * 6 + 3, none⟩ = some (.int .i64 x.hi)) ∧
      (∀ W, Later w W → W.cell? ⟨b, o + k * 6 + 4, none⟩ = some (.int .i64 x.wet)) ∧ (∀ W, Later w W → W.cell? ⟨b, o + k * 6 + 5, none⟩ = some (.int .i64 x.grace)) := by
  have hl := h.len
  obtain ⟨b, o, e, hb, hc⟩ := Reads.lit h (by omega) (by omega)
  have hkl : k < l.length := by omega
  have key : ∀ (j : Nat) (u : Value), j < 6 → (womC l[k])[j]? = some u → ∀ W, Later w W → W.cell? ⟨b, o + k * 6 + j, none⟩ = some u := fun j u hj hu W hW => by
    rw [Nat.add_assoc]
    exact cell_later (hc _ _ ((womV_get l k j _ (List.getElem?_eq_getElem hkl) hj).trans hu)) hW hb
  exact ⟨b, o, l[k], e, hb, List.getElem?_eq_getElem hkl, key 0 _ (by omega) rfl, key 1 _ (by omega) rfl, key 2 _ (by omega) rfl, key 3 _ (by omega) rfl, key 4 _ (by omega) rfl, key 5 _ (by omega) rfl⟩
theorem mwithin_calls (n lo hi : Int) (w : World) :
    Calls Try.prog 63 #[.int .i64 n, .int .i64 lo, .int .i64 hi] w fun e w' => e = .returned (.bool (inB n lo hi)) ∧ w = w' := by
  go_enter Try.func63, Try.ntmps63
  by_cases h1 : lo ≤ n <;> by_cases h2 : n ≤ hi <;> go_wp2 <;> go_ret <;> exact ⟨by simp [inB, *], rfl⟩
theorem mwithin_eq {n lo hi : Int} {b : Bool} (h : inB n lo hi = b) (w : World) :
    Calls Try.prog 63 #[.int .i64 n, .int .i64 lo, .int .i64 hi] w fun e w' => e = .returned (.bool b) ∧ w = w' := by
  have := mwithin_calls n lo hi w; rw [h] at this; exact this
theorem one_fault {close : Int} {h : Horse} (hh : horseOk h = true) (hc : 0 ≤ close ∧ close ≤ 99) : fault (rndC 1 close [h]) = 0 := by
  have h2 : 1 ≤ h.lo ∧ h.lo ≤ h.hi ∧ h.hi ≤ 60 := by simp [horseOk, inB] at hh; omega
  refine rnd_fault (by omega) (by omega) (by simp) hc (by simp [hh]) ?_
  simp only [List.foldl_cons, List.foldl_nil]
  unfold sizeH
  omega
theorem build_one (a : Int) (A1 A2 : Option Addr) (n1 k1 n2 k2 : Nat) (W : World) : (Instr.build 45 #[(0, .int .i64 1), (1, .int .i64 a), (2, .slice A1 n1 k1), (3, .slice A2 n2 k2)]).run Try.prog W = .ok (.agg #[.int .i64 1, .int .i64 a, .slice A1 n1 k1, .slice A2 n2 k2, .slice none 0 0]) W :=
  run_build W _ _ _ (by kernel_rfl)
theorem blk_reads {w : World} {g : Nat} {t : TypeId} {cs : Array Value} (h : Blk w g t cs) {size n : Nat} {xs : List Value} (hl : xs.length = n * size) (hx : ∀ (j : Nat) (u : Value), xs[j]? = some u → cs[j]? = some u) : Reads w w.heap.size size (some ⟨g, 0, none⟩) n xs :=
  ⟨hl, fun _ => ⟨_, rfl, h.lt, fun j u hu => by rw [add_lit, Nat.zero_add, h.cell]; exact hx j u hu⟩⟩
attribute [local go_sem] later_alloc2 later_alloc3 later_alloc4 build_one
set_option maxRecDepth 100000 in
set_option maxHeartbeats 1000000 in
theorem woman_calls {k close : Int} {Aw : Option Addr} {nw kw : Nat} {h : Horse} (w : World) (hh : horseOk h = true) (hc : 0 ≤ close ∧ close ≤ 99) :
    Calls Try.prog 62 #[(.agg #[.int .i64 k, .int .i64 close, .slice Aw nw kw]), (.agg #[.int .i64 0, .int .i64 0, .int .i64 h.lo, .int .i64 h.hi, .int .i64 h.wet, .int .i64 h.grace])] w fun e w' => e = .returned (.bool true) ∧ Later w w' := by
  obtain ⟨w0, hw0⟩ : ∃ X, X = w.alloc (.cells #[.int .i64 k, .int .i64 close, .slice Aw nw kw] 51) := ⟨_, rfl⟩
  have hs0 : w0.heap.size = w.heap.size + 1 := by rw [hw0]; simp
  have k0 : Blk w0 w.heap.size 51 #[.int .i64 k, .int .i64 close, .slice Aw nw kw] := by rw [hw0]; exact Blk.new _ _ _
  obtain ⟨w1, hw1⟩ : ∃ X, X = w0.alloc (.cells (womC h).toArray 70) := ⟨_, rfl⟩
  have k1 : Blk w1 (w.heap.size + 1) 70 (womC h).toArray := by rw [← hs0, hw1]; exact Blk.new _ _ _
  have hL0 : Later w w0 := by rw [hw0]; exact later_alloc (later_refl _) _
  have hL1 : Later w0 w1 := by rw [hw1]; exact later_alloc (later_refl _) _
  have m1 := fun X (hX : Later w1 X) => ((k0.later (Later.trans hL1 hX)).cell 1).trans (show _ = some (Value.int .i64 close) from rfl)
  have c0 := fun X (hX : Later w1 X) => ((k1.later hX).cell 0).trans (show _ = some (Value.int .i64 0) from rfl)
  have c1 := fun X (hX : Later w1 X) => ((k1.later hX).cell 1).trans (show _ = some (Value.int .i64 0) from rfl)
  have c2 := fun X (hX : Later w1 X) => ((k1.later hX).cell 2).trans (show _ = some (Value.int .i64 h.lo) from rfl)
  have c3 := fun X (hX : Later w1 X) => ((k1.later hX).cell 3).trans (show _ = some (Value.int .i64 h.hi) from rfl)
  have c4 := fun X (hX : Later w1 X) => ((k1.later hX).cell 4).trans (show _ = some (Value.int .i64 h.wet) from rfl)
  have c5 := fun X (hX : Later w1 X) => ((k1.later hX).cell 5).trans (show _ = some (Value.int .i64 h.grace) from rfl)
  have hl1 := later_refl w1
  have Hw0 := hide hw0
  have Hw1 := hide hw1
  have Hf := hide (one_fault hh hc)
  obtain ⟨W2, hW2⟩ : ∃ X, X = w1.alloc (.cells h.cells.toArray 66) := ⟨_, rfl⟩
  have hz2 : W2.heap.size = w1.heap.size + 1 := by rw [hW2]; simp
  have j2 : Blk W2 w1.heap.size 66 h.cells.toArray := by rw [hW2]; exact Blk.new _ _ _
  obtain ⟨W3, hW3⟩ : ∃ X, X = W2.alloc (.cells #[.int .i64 0] 3) := ⟨_, rfl⟩
  have hz3 : W3.heap.size = w1.heap.size + 1 + 1 := by rw [hW3]; simp [hz2]
  have j3 : Blk W3 (w1.heap.size + 1) 3 #[.int .i64 0] := by rw [← hz2, hW3]; exact Blk.new _ _ _
  have hL2 : Later w1 W2 := by rw [hW2]; exact later_alloc (later_refl _) _
  have hL3 : Later W2 W3 := by rw [hW3]; exact later_alloc (later_refl _) _
  have hcv : CV W3 (rndC 1 close [h]) (some ⟨w1.heap.size, 0, none⟩) 1 (some ⟨w1.heap.size + 1, 0, none⟩) 1 none 0 :=
    ⟨blk_reads (j2.later hL3) (xs := horsesV [h]) rfl fun j u hu => by simpa [horsesV] using hu, blk_reads j3 (xs := ints [0]) rfl fun j u hu => by simpa [ints] using hu, ⟨rfl, fun h => absurd h (by omega)⟩⟩
  have Hcv := hide hcv
  have HW2 := hide hW2
  have HW3 := hide hW3
  have hLw3 := Later.trans hL0 (Later.trans hL1 (Later.trans hL2 hL3))
  clear hw0 hw1 hs0 k0 k1 hW2 hW3 j2 j3 hcv hz2 hz3 hh hc hL2 hL3
  go_enter Try.func62, Try.ntmps62
  go_upto_region 1 with fail
  rw [← Hw0.out, show w0.alloc (.cells #[.int .i64 0, .int .i64 0, .int .i64 h.lo, .int .i64 h.hi, .int .i64 h.wet, .int .i64 h.grace] 70) = w1 from Hw1.out.symm]
  go_wp2_with fail
  have hLx : ∀ o, Later W3 (((w1.alloc (.cells #[.int .i64 h.lo, .int .i64 h.hi, .int .i64 h.wet, .int .i64 h.grace] 66)).alloc (.cells #[.int .i64 0] 3)).alloc o) := fun o => by rw [HW3.out, HW2.out]; exact later_alloc (later_refl _) _
  refine (CheckCloset_eq (c := rndC 1 close [h]) (k1 := 1) (k2 := 1) (k3 := 0) _ (Hcv.out.later (hLx _)) Hf.out (by unfold i64; show -9223372036854775808 ≤ (1 : Int) ∧ (1 : Int) ≤ _; omega) (by omega) (by omega) (by omega) (by omega)).mono ?_
  rintro e w5 ⟨rfl, hL5⟩
  have hL35 := Later.trans hLw3 (Later.trans (hLx _) hL5)
  go_wp2_with fail
  go_ret
  exact ⟨rfl, hL35⟩
/-! ### all women -/
section
variable {k close : Int} {Aw : Option Addr} {nw kw : Nat}
theorem allM1_calls {bp : Nat} {h : Horse} (w : World) (hh : horseOk h = true) (hc : 0 ≤ close ∧ close ≤ 99) (hb : w.cell? ⟨bp, 0, none⟩ = some (.func (.func 62) #[(.agg #[.int .i64 k, .int .i64 close, .slice Aw nw kw])] #[])) :
    Calls Try.prog 74 #[(.agg #[.int .i64 0, .int .i64 0, .int .i64 h.lo, .int .i64 h.hi, .int .i64 h.wet, .int .i64 h.grace]), .pointer (some ⟨bp, 0, none⟩)] w fun e w' => e = .returned (.bool false) ∧ Later w w' := by
  have hbl : bp < w.heap.size := World.block_lt_of_cell? w ⟨bp, 0, none⟩ hb
  have h2 := fun W k => cell_later (W := W) hb k hbl
  go_enter Try.func74, Try.ntmps74
  go_wp2_with fail
  refine (woman_calls (k := k) (Aw := Aw) (nw := nw) (kw := kw) _ hh hc).mono ?_
  rintro e w1 ⟨rfl, hL1⟩
  go_wp2_with fail
  go_ret
  exact ⟨rfl, Later.trans (by simp) hL1⟩
theorem IndexFuncM_calls {A : Option Addr} {n q bp : Nat} {l : List Horse} (w : World) (h : RM w A n l) (hn : n ≤ 1000000) (hh : l.all horseOk = true) (hc : 0 ≤ close ∧ close ≤ 99) (hb : w.cell? ⟨bp, 0, none⟩ = some (.func (.func 62) #[(.agg #[.int .i64 k, .int .i64 close, .slice Aw nw kw])] #[])) :
    Calls Try.prog 77 #[.slice A n q, .func (.func 74) #[] #[.pointer (some ⟨bp, 0, none⟩)]] w fun e w' =>
      e = .returned (.int .i64 (-1)) ∧ Later w w' := by
  have hbl : bp < w.heap.size := World.block_lt_of_cell? w ⟨bp, 0, none⟩ hb
  have hb2 := fun W k => cell_later (W := W) hb k hbl
  go_enter Try.func77, Try.ntmps77
  go_wp2_with fail
  go_loopw [8] (fun i wr => ∃ j : Nat, j ≤ n ∧ i = .int .i64 j ∧ Later w wr) (fun i _ => n - (intOf i).toNat)
  case atStart => exact ⟨0, Nat.zero_le _, rfl, later_refl _⟩
  case round =>
    obtain ⟨j, hj, rfl, hL⟩ := hrel
    by_cases hlt : j < n
    · obtain ⟨b, o, y, rfl, _, hx, h0, h1, h2, h3, h4, h5⟩ := h.get hlt
      have hok : horseOk y = true := List.all_eq_true.1 hh y (List.mem_of_getElem? hx)
      have hi1 : (j : Int) < n := by omega
      have c0 := h0 wr hL
      have c1 := h1 wr hL
      have c2 := h2 wr hL
      have c3 := h3 wr hL
      have c4 := h4 wr hL
      have c5 := h5 wr hL
      have Hcc := hide (allM1_calls (k := k) (Aw := Aw) (nw := nw) (kw := kw) wr hok hc (hb2 _ hL))
      clear hx h0 h1 h2 h3 h4 h5
      go_wp2_with fail
      refine Hcc.out.mono ?_
      rintro e w1 ⟨rfl, hL1⟩
      have hL2 := Later.trans hL hL1
      go_wp2_with fail
      go_roundw
      case rel => exact ⟨j + 1, by omega, by go_num, hL2⟩
      case measure => simp [intOf]; omega
    · have hi1 : ¬ (j : Int) < n := by omega
      go_wp2_with fail
      go_ret
      exact ⟨rfl, hL⟩
theorem allM_calls {A : Option Addr} {n q : Nat} {l : List Horse} (w : World) (h : RM w A n l) (hn : n ≤ 1000000) (hh : l.all horseOk = true) (hc : 0 ≤ close ∧ close ≤ 99) :
    Calls Try.prog 64 #[.slice A n q, (.func (.func 62) #[(.agg #[.int .i64 k, .int .i64 close, .slice Aw nw kw])] #[])] w fun e w' => e = .returned (.bool true) ∧ Later w w' := by
  have hw : Later w (w.alloc (.cells #[(.func (.func 62) #[(.agg #[.int .i64 k, .int .i64 close, .slice Aw nw kw])] #[])] 136)) := later_alloc (later_refl _) _
  have hb := box_cells w #[(.func (.func 62) #[(.agg #[.int .i64 k, .int .i64 close, .slice Aw nw kw])] #[])] 136 _ (later_refl _) 0
  have Hb := hide hb
  clear hb
  go_enter Try.func64, Try.ntmps64
  go_wp2_with fail
  go_enter Try.func73, Try.ntmps73
  go_wp2_with fail
  refine (IndexFuncM_calls (k := k) (Aw := Aw) (nw := nw) (kw := kw) _ (h.later hw) hn hh hc Hb.out).mono ?_
  rintro e w1 ⟨rfl, hL1⟩
  go_wp2_with fail
  go_ret
  exact ⟨rfl, Later.trans hw hL1⟩
end
end Go.Proofs.Ytnlbgaippnjmiaa

/- CheckMonday of a Monday that is all right: walk. -/
namespace Go.Proofs.Ytnlbgaippnjmiaa
open Go Go.RowKit
/-- a Monday whose women come in the minute 0, all right -/
structure OkM (k close : Int) (hs : List Horse) : Prop where
  k1 : 1 ≤ k
  k4 : k ≤ 4
  close : 0 ≤ close ∧ close ≤ 99
  len : hs.length ≤ 4
  horse : hs.all horseOk = true
  many : hs.foldl (fun n h => min 3000 (n * sizeH h)) 1 ≤ 2000
theorem size_ok {h : Horse} (hh : horseOk h = true) : 1 ≤ h.lo ∧ h.lo ≤ h.hi ∧ h.hi ≤ 60 ∧ 1 ≤ sizeH h ∧ sizeH h ≤ 60 := by
  have h2 : 1 ≤ h.lo ∧ h.lo ≤ h.hi ∧ h.hi ≤ 60 := by simp [horseOk, inB] at hh; omega
  unfold sizeH
  omega
theorem many_ge : ∀ (l : List Horse) (n : Int), l.all horseOk = true → 1 ≤ n → n ≤ 3000 → n ≤ l.foldl (fun n h => min 3000 (n * sizeH h)) n
  | [], n, _, _, _ => Int.le_refl _
  | h :: l, n, hh, h1, h3 => by
    simp only [List.all_cons, Bool.and_eq_true] at hh
    have hs := size_ok hh.1
    have hm : n * 1 ≤ n * sizeH h := Int.mul_le_mul_of_nonneg_left hs.2.2.2.1 (by omega)
    rw [Int.mul_one] at hm
    have := many_ge l (min 3000 (n * sizeH h)) hh.2 (by omega) (by omega)
    rw [List.foldl_cons]
    omega
attribute [local go_sem] later_alloc2 later_alloc3 later_alloc4
theorem mmin2_calls (a b : Int) (k : Nat) (w : World) (g : Nat) (h0 : w.cell? ⟨g, 0, none⟩ = some (.int .i64 a)) (h1 : w.cell? ⟨g, 1, none⟩ = some (.int .i64 b)) :
    Calls Try.prog 49 #[.slice (some ⟨g, 0, none⟩) 2 k] w fun e w' => e = .returned (.int .i64 (min a b)) ∧ w = w' := by
  go_enter Try.func49, Try.ntmps49
  go_wp2_with fail
  refine (Min2_calls a b k _ g h0 h1).mono ?_
  rintro e w1 ⟨rfl, rfl⟩
  go_wp2_with fail
  go_ret
  exact ⟨rfl, rfl⟩
set_option maxRecDepth 100000 in
set_option maxHeartbeats 2000000 in
theorem CheckMonday_calls {k close : Int} {Aw : Option Addr} {nw kw : Nat} {hs : List Horse} (w : World) (hm : RM w Aw nw hs) (ok : OkM k close hs) :
    Calls Try.prog 38 #[(.agg #[.int .i64 k, .int .i64 close, .slice Aw nw kw])] w fun e w' => e = .returned (.int .i64 0) ∧ Later w w' := by
  have hnl := hm.len
  have hn4 : nw ≤ 4 := by have := ok.len; omega
  have hk1 := ok.k1
  have hk4 := ok.k4
  have hcl := ok.close
  obtain ⟨w0, hw0⟩ : ∃ X, X = w.alloc (.cells #[.int .i64 k, .int .i64 close, .slice Aw nw kw] 51) := ⟨_, rfl⟩
  have k0 : Blk w0 w.heap.size 51 #[.int .i64 k, .int .i64 close, .slice Aw nw kw] := by rw [hw0]; exact Blk.new _ _ _
  have hL0 : Later w w0 := by rw [hw0]; exact later_alloc (later_refl _) _
  have b0 := fun X (hX : Later w0 X) => ((k0.later hX).cell 0).trans (show _ = some (Value.int .i64 k) from rfl)
  have b1 := fun X (hX : Later w0 X) => ((k0.later hX).cell 1).trans (show _ = some (Value.int .i64 close) from rfl)
  have b2 := fun X (hX : Later w0 X) => ((k0.later hX).cell 2).trans (show _ = some (Value.slice Aw nw kw) from rfl)
  have hm0 := hm.later hL0
  have hl0 := later_refl w0
  have hin : inB close 0 99 = true := by unfold inB; simp; omega
  have hn6 : ¬ (6 : Int) < nw := by omega
  have Hin := hide hin
  have Hw0 := hide hw0
  have Hnl := hide hnl
  clear hw0 k0 hnl hm hin
  go_enter Try.func38, Try.ntmps38
  go_upto_region 1 with fail
  rw [← Hw0.out]
  go_wp2_with (go_at_call 63; refine (mwithin_eq Hin.out _).mono ?_; rintro e w' ⟨rfl, rfl⟩)
  refine (allM_calls (k := k) (Aw := Aw) (nw := nw) (kw := kw) _ hm0 (by omega) ok.horse hcl).mono ?_
  rintro e w1 ⟨rfl, hL1⟩
  have g2 := b2 w1 hL1
  go_wp2_with fail
  go_loopw [4, 39] (fun v i wr => ∃ (j : Nat) (cur : Int), j ≤ nw ∧ i = .int .i64 j ∧ v = .int .i64 cur ∧ 1 ≤ cur ∧ cur ≤ 2000 ∧ Later w0 wr ∧ Hid ((hs.drop j).foldl (fun n h => min 3000 (n * sizeH h)) cur ≤ 2000)) (fun _ i _ => nw - (intOf i).toNat)
  case atStart => exact ⟨0, 1, Nat.zero_le _, rfl, rfl, by omega, by omega, hL1, ok.many⟩
  case round =>
    obtain ⟨j, cur, hj, rfl, rfl, hc1, hc2, hL, Hf⟩ := hrel
    by_cases hlt : j < nw
    · obtain ⟨b, o, y, rfl, _, hx, h0, h1, h2, h3, h4, h5⟩ := hm0.get hlt
      have hi1 : (j : Int) < nw := by omega
      obtain ⟨hp, e1⟩ := List.getElem?_eq_some_iff.1 hx
      have hok : horseOk y = true := List.all_eq_true.1 ok.horse y (List.mem_of_getElem? hx)
      have hsz := size_ok hok
      have hf := Hf.out
      rw [List.drop_eq_getElem_cons hp, e1, List.foldl_cons] at hf
      have hmul : cur * 1 ≤ cur * sizeH y := Int.mul_le_mul_of_nonneg_left hsz.2.2.2.1 (by omega)
      have hmul2 : cur * sizeH y ≤ cur * 60 := Int.mul_le_mul_of_nonneg_left hsz.2.2.2.2 (by omega)
      have hge := many_ge (hs.drop (j + 1)) (min 3000 (cur * sizeH y)) (by
        rw [List.all_eq_true]; intro x hx; exact List.all_eq_true.1 ok.horse x (List.mem_of_mem_drop hx)) (by omega) (by omega)
      obtain ⟨pr, hpr⟩ : ∃ q, cur * sizeH y = q := ⟨_, rfl⟩
      rw [hpr] at hf hge hmul hmul2
      have hpr2 : pr ≤ 2000 := by omega
      have hpr1 : 1 ≤ pr := by omega
      have hmin : min 3000 pr = pr := by omega
      have hmin2 : min pr 2001 = pr := by omega
      rw [hmin] at hf
      have hse : y.hi - y.lo + 1 = sizeH y := rfl
      have w1' : IntKind.i64.wrap (y.hi - y.lo) = y.hi - y.lo := IntWalk.i64_in _ (by omega)
      have w2' : IntKind.i64.wrap (y.hi - y.lo + 1) = sizeH y := by rw [hse]; exact IntWalk.i64_in _ (by omega)
      have w3' : IntKind.i64.wrap (cur * sizeH y) = pr := by rw [hpr]; exact IntWalk.i64_in _ (by omega)
      have c0 := h0 wr hL
      have c1 := h1 wr hL
      have c2 := h2 wr hL
      have c3 := h3 wr hL
      have c4 := h4 wr hL
      have c5 := h5 wr hL
      have Hf2 := hide hf
      have Hmin2 := hide hmin2
      obtain ⟨sz, hsze⟩ : ∃ q, sizeH y = q := ⟨_, rfl⟩
      rw [hsze] at w2' w3'
      clear hx h0 h1 h2 h3 h4 h5 e1 hp hse hf hmin hmin2 hmul hmul2 hge hpr hsz hsze Hf
      go_wp2_with fail
      rw [show ∀ X : World, X.heap.size + 1 = X.heap.size + 1 from fun _ => rfl]
      refine (mmin2_calls pr 2001 2 _ _ (by simp [go_sem]) (by simp [go_sem])).mono ?_
      rintro e w5 ⟨rfl, rfl⟩
      rw [Hmin2.out]
      go_wp2_with fail
      go_roundw
      case rel => exact ⟨j + 1, pr, by omega, by go_num, rfl, by omega, by omega, later_alloc (later_alloc hL _) _, Hf2⟩
      case measure => simp [intOf]; omega
    · have hi1 : ¬ (j : Int) < nw := by omega
      go_wp2_with fail
      go_ret
      exact ⟨rfl, Later.trans hL0 hL⟩
end Go.Proofs.Ytnlbgaippnjmiaa

/- The Mondays' everyone, isPlan (of one round with all women): walks. -/
namespace Go.Proofs.Ytnlbgaippnjmiaa
open Go Go.RowKit
attribute [local go_sem] later_alloc2 later_alloc3 later_alloc4
def someA (n : Nat) : Array Value := (List.replicate n (Value.bool true) ++ List.replicate (6 - n) (Value.bool false)).toArray
theorem someA_get {j : Nat} (h : j < 6) : (someA j)[j]? = some (.bool false) := by
  rcases (by omega : j = 0 ∨ j = 1 ∨ j = 2 ∨ j = 3 ∨ j = 4 ∨ j = 5) with rfl | rfl | rfl | rfl | rfl | rfl <;> rfl
theorem someA_set {j : Nat} (h : j < 6) : (someA j).setIfInBounds j (.bool true) = someA (j + 1) := by
  rcases (by omega : j = 0 ∨ j = 1 ∨ j = 2 ∨ j = 3 ∨ j = 4 ∨ j = 5) with rfl | rfl | rfl | rfl | rfl | rfl <;> rfl
theorem someA_size {j : Nat} (h : j ≤ 6) : (someA j).size = 6 := by unfold someA; simp; omega
theorem someA_one {j : Nat} (_h : j < 6) : (someA j).all (·.oneCell') = true := by
  unfold someA
  simp [Value.oneCell', List.mem_replicate]
set_option maxRecDepth 100000 in
set_option maxHeartbeats 1000000 in
theorem everyone_calls {k close : Int} {Aw : Option Addr} {nw kw : Nat} (w : World) (hn : nw ≤ 4) :
    Calls Try.prog 65 #[(.agg #[.int .i64 k, .int .i64 close, .slice Aw nw kw])] w fun e w' => e = .returned (.agg (someA nw)) ∧ Later w w' := by
  obtain ⟨w0, hw0⟩ : ∃ X, X = w.alloc (.cells #[.int .i64 k, .int .i64 close, .slice Aw nw kw] 51) := ⟨_, rfl⟩
  have hs0 : w0.heap.size = w.heap.size + 1 := by rw [hw0]; simp
  have k0 : Blk w0 w.heap.size 51 #[.int .i64 k, .int .i64 close, .slice Aw nw kw] := by rw [hw0]; exact Blk.new _ _ _
  obtain ⟨w1, hw1⟩ : ∃ X, X = w0.alloc (.cells #[.bool false, .bool false, .bool false, .bool false, .bool false, .bool false] 139) := ⟨_, rfl⟩
  obtain ⟨g, hg⟩ : ∃ g, g = w.heap.size + 1 := ⟨_, rfl⟩
  have k1 : Blk w1 g 139 (someA 0) := by rw [hg, ← hs0, hw1]; exact Blk.new _ _ _
  have hL0 : Later w w0 := by rw [hw0]; exact later_alloc (later_refl _) _
  have hL1 : Later w0 w1 := by rw [hw1]; exact later_alloc (later_refl _) _
  have hL01 := Later.trans hL0 hL1
  have b2 := ((k0.later hL1).cell 2).trans (show _ = some (Value.slice Aw nw kw) from rfl)
  have hlo : w.heap.size ≤ g := by omega
  have Hw0 := hide hw0
  have Hw1 := hide hw1
  have Hg := hide hg
  have K1 := hide k1
  clear hw0 hw1 hg hs0 k0 k1
  go_enter Try.func65, Try.ntmps65
  go_upto_region 1 with fail
  rw [← Hw0.out, ← Hw1.out, ← Hg.out]
  go_wp2_with fail
  go_loopw [7] (fun v wr => ∃ j : Nat, j ≤ nw ∧ v = .int .i64 j ∧ Later w wr ∧ Hid (Blk wr g 139 (someA j))) (fun v _ => nw - (intOf v).toNat)
  case atStart => exact ⟨0, by omega, rfl, hL01, K1⟩
  case round =>
    obtain ⟨j, hj, rfl, hL, Hb⟩ := hrel
    by_cases hlt : j < nw
    · have hi1 : (j : Int) < nw := by omega
      have hi6 : (j : Int) < 6 := by omega
      have cb := (Hb.out.cell j).trans (someA_get (by omega))
      have cf := Hb.out.frozen j
      have Hb2 := hide (show Blk _ g 139 (someA (j + 1)) by have := Hb.out.set_ j (.bool true); rwa [someA_set (by omega)] at this)
      go_wp2_with fail
      go_roundw
      case rel => exact ⟨j + 1, by omega, by go_num, later_set hL (⟨g, j, none⟩ : Addr) hlo _, Hb2⟩
      case measure => simp [intOf]; omega
    · have hi1 : ¬ (j : Int) < nw := by omega
      have hjn : nw = j := by omega
      subst hjn
      obtain ⟨cs, hcs⟩ : ∃ cs, someA nw = cs := ⟨_, rfl⟩
      have hsz : (Try.prog.info? 139).map (·.size) = some cs.size := by rw [← hcs, someA_size (by omega)]; kernel_rfl
      have hone : cs.all (·.oneCell') = true := by rw [← hcs]; exact someA_one (by omega)
      have hb := Hb.out
      rw [hcs] at hb
      have Hb2 := hide hb
      have Hke := hide (hb.row cs)
      have Hcs := hide hcs
      clear hb Hb hcs
      go_wp2_with (first | (refine wpList_load_row rfl _ _ rfl g rfl _ _ _ _ Hb2.out Try.underlying139 rfl hsz ?_) | (refine wpList_store_row rfl _ _ _ rfl g _ rfl rfl _ _ Hb2.out hsz rfl hone ?_))
      refine bodyPost_ret (results_cell_row (P := Try.prog) (fn := Try.f65) (p := 2) (ty := 139) (by kernel_rfl) _ _ g _ _ _ _ rfl Hke.out Try.underlying139 (by kernel_rfl) hsz) rfl ⟨by rw [Hcs.out], later_setRow hL hlo _⟩
end Go.Proofs.Ytnlbgaippnjmiaa

/- The Mondays' isPlan of one round with all women; checked: walks. -/
namespace Go.Proofs.Ytnlbgaippnjmiaa
open Go Go.RowKit
attribute [local go_sem] later_alloc2 later_alloc3 later_alloc4
theorem idL_get {n i : Nat} (h : i < n) : (idL n)[i]? = some (i : Int) := by unfold idL; rw [List.getElem?_map, List.getElem?_range h]; rfl
theorem eqSome {n : Nat} (hn : n ≤ 4) (X : World) : (binOp .eql 139 (.agg (someA n)) (.agg (someA n))).run Try.prog X = .ok (.bool true) X := by
  rcases (by omega : n = 0 ∨ n = 1 ∨ n = 2 ∨ n = 3 ∨ n = 4) with rfl | rfl | rfl | rfl | rfl <;> kernel_rfl
set_option maxRecDepth 100000 in
set_option maxHeartbeats 2000000 in
theorem isPlan_calls {k close : Int} {Aw Ap : Option Addr} {nw kw kp : Nat} (w : World) (hp : RRI w Ap 1 [idL nw]) (h1 : 1 ≤ nw) (hn : nw ≤ 4) :
    Calls Try.prog 39 #[(.agg #[.int .i64 k, .int .i64 close, .slice Aw nw kw]), .slice Ap 1 kp] w fun e w' => e = .returned (.bool true) ∧ Later w w' := by
  obtain ⟨w0, hw0⟩ : ∃ X, X = w.alloc (.cells #[.int .i64 k, .int .i64 close, .slice Aw nw kw] 51) := ⟨_, rfl⟩
  have hs0 : w0.heap.size = w.heap.size + 1 := by rw [hw0]; simp
  have k0 : Blk w0 w.heap.size 51 #[.int .i64 k, .int .i64 close, .slice Aw nw kw] := by rw [hw0]; exact Blk.new _ _ _
  obtain ⟨w1, hw1⟩ : ∃ X, X = w0.alloc (.cells #[.bool false, .bool false, .bool false, .bool false, .bool false, .bool false] 139) := ⟨_, rfl⟩
  obtain ⟨g, hg⟩ : ∃ g, g = w.heap.size + 1 := ⟨_, rfl⟩
  have k1 : Blk w1 g 139 (someA 0) := by rw [hg, ← hs0, hw1]; exact Blk.new _ _ _
  have hL0 : Later w w0 := by rw [hw0]; exact later_alloc (later_refl _) _
  have hL1 : Later w0 w1 := by rw [hw1]; exact later_alloc (later_refl _) _
  have hL01 := Later.trans hL0 hL1
  have b0 := fun X (hX : Later w0 X) => ((k0.later hX).cell 0).trans (show _ = some (Value.int .i64 k) from rfl)
  have b1 := fun X (hX : Later w0 X) => ((k0.later hX).cell 1).trans (show _ = some (Value.int .i64 close) from rfl)
  have b2 := fun X (hX : Later w0 X) => ((k0.later hX).cell 2).trans (show _ = some (Value.slice Aw nw kw) from rfl)
  have hlo : w0.heap.size ≤ g := by omega
  obtain ⟨bp, op, l, Al, nl, kl, rfl, hl, hri, hp0⟩ := (hp.later hL0).get (k := 0) (by omega)
  simp only [List.getElem?_cons_zero, Option.some.injEq] at hl
  subst hl
  simp only [Nat.add_zero] at hp0
  obtain rfl : nl = nw := by have := hri.len; rw [idL_len] at this; exact this
  have Hw0 := hide hw0
  have Hw1 := hide hw1
  have Hg := hide hg
  have K1 := hide k1
  clear hw0 hw1 hg hs0 k0 k1
  go_enter Try.func39, Try.ntmps39
  go_upto_region 2 with fail
  rw [← Hw0.out, ← Hw1.out, ← Hg.out]
  go_wp2_with fail
  go_loopw [13] (fun v wr => (v = .int .i64 0 ∧ w1 = wr) ∨ (v = .int .i64 1 ∧ Later w0 wr ∧ Hid (Blk wr g 139 (someA nl)))) (fun v _ => 1 - (intOf v).toNat)
  case atStart => exact .inl ⟨rfl, rfl⟩
  case round =>
    rcases hrel with ⟨rfl, rfl⟩ | ⟨rfl, hL, Hb⟩
    · have p0 := hp0 w1 hL1
      go_wp2_with fail
      go_loopw [8, 19] (fun u v wr => ∃ j : Nat, j ≤ nl ∧ v = .int .i64 j ∧ u = .int .i64 ((j : Int) - 1) ∧ Later w0 wr ∧ Hid (Blk wr g 139 (someA j))) (fun _ v _ => nl - (intOf v).toNat)
      case atStart => exact ⟨0, by omega, rfl, rfl, hL1, K1⟩
      case round =>
        obtain ⟨j, hj, rfl, rfl, hL, Hb⟩ := hrel
        by_cases hlt : j < nl
        · have hi1 : (j : Int) < nl := by omega
          have hi6 : (j : Int) < 6 := by omega
          obtain ⟨bl, ol, x, rfl, _, hx, hx0⟩ := hri.get hlt
          rw [idL_get hlt] at hx
          obtain rfl : (j : Int) = x := by injection hx
          have c0 := hx0 wr hL
          have g2 := b2 wr hL
          have cb := (Hb.out.cell j).trans (someA_get (by omega))
          have cf := Hb.out.frozen j
          have Hb2 := hide (show Blk _ g 139 (someA (j + 1)) by have := Hb.out.set_ j (.bool true); rwa [someA_set (by omega)] at this)
          have hw1' : IntKind.i64.wrap ((j : Int) - 1 + 1) = (j : Int) := by rw [show (j : Int) - 1 + 1 = j by omega]; exact IntWalk.i64_in _ (by omega)
          have hw2' : IntKind.i64.wrap ((nl : Int) - 1) = (nl : Int) - 1 := IntWalk.i64_in _ (by omega)
          have hw3' : IntKind.i64.wrap (j : Int) = (j : Int) := IntWalk.i64_in _ (by omega)
          have hin : inB (j : Int) (j : Int) ((nl : Int) - 1) = true := by unfold inB; simp; omega
          have Hin := hide hin
          clear hx hx0 hin
          go_wp2_with (go_at_call 63; refine (mwithin_eq Hin.out _).mono ?_; rintro e w' ⟨rfl, rfl⟩)
          go_roundw
          case rel => exact ⟨j + 1, by omega, by go_num, by congr 1; omega, later_set hL (⟨g, j, none⟩ : Addr) hlo _, Hb2⟩
          case measure => simp [intOf]; omega
        · have hi1 : ¬ (j : Int) < nl := by omega
          have hjn : nl = j := by omega
          subst hjn
          have hn0 : ((nl : Int) == 0) = false := by simp; omega
          go_wp2_with fail
          go_roundw
          case rel => exact .inr ⟨rfl, hL, Hb⟩
          case measure => simp [intOf]
    · have hd : ∀ X, Later wr X → Blk X g 139 (someA nl) := fun X hX => Hb.out.later hX
      have g0 := fun X (h : Later wr X) => b0 X (Later.trans hL h)
      have g1 := fun X (h : Later wr X) => b1 X (Later.trans hL h)
      have g2 := fun X (h : Later wr X) => b2 X (Later.trans hL h)
      clear b0 b1 b2 hri hp0 Hb hp
      go_wp2_with fail
      rcases (by omega : nl = 1 ∨ nl = 2 ∨ nl = 3 ∨ nl = 4) with rfl | rfl | rfl | rfl
      · skip
        have s0 := fun X (h : Later wr X) => ((hd X h).cell 0).trans (show _ = (#[.bool true, .bool false, .bool false, .bool false, .bool false, .bool false] : Array Value)[0]? from rfl)
        have s1 := fun X (h : Later wr X) => ((hd X h).cell 1).trans (show _ = (#[.bool true, .bool false, .bool false, .bool false, .bool false, .bool false] : Array Value)[1]? from rfl)
        have s2 := fun X (h : Later wr X) => ((hd X h).cell 2).trans (show _ = (#[.bool true, .bool false, .bool false, .bool false, .bool false, .bool false] : Array Value)[2]? from rfl)
        have s3 := fun X (h : Later wr X) => ((hd X h).cell 3).trans (show _ = (#[.bool true, .bool false, .bool false, .bool false, .bool false, .bool false] : Array Value)[3]? from rfl)
        have s4 := fun X (h : Later wr X) => ((hd X h).cell 4).trans (show _ = (#[.bool true, .bool false, .bool false, .bool false, .bool false, .bool false] : Array Value)[4]? from rfl)
        have s5 := fun X (h : Later wr X) => ((hd X h).cell 5).trans (show _ = (#[.bool true, .bool false, .bool false, .bool false, .bool false, .bool false] : Array Value)[5]? from rfl)
        simp only [List.getElem?_toArray, List.getElem?_cons_zero, List.getElem?_cons_succ] at s0 s1 s2 s3 s4 s5
        have he : ∀ X, Calls Try.prog 65 #[.agg #[.int .i64 k, .int .i64 close, .slice Aw 1 kw]] X fun e w' => e = .returned (.agg #[.bool true, .bool false, .bool false, .bool false, .bool false, .bool false]) ∧ Later X w' := fun X => everyone_calls (k := k) (close := close) (Aw := Aw) (nw := 1) (kw := kw) X (by omega)
        have heq : ∀ X, (binOp .eql 139 (.agg #[.bool true, .bool false, .bool false, .bool false, .bool false, .bool false]) (.agg #[.bool true, .bool false, .bool false, .bool false, .bool false, .bool false])).run Try.prog X = .ok (.bool true) X := fun X => eqSome (n := 1) (by omega) X
        have He := hide he
        clear hd he
        refine wp_region_ext (w0 := wr) (by kernel_rfl) (by kernel_rfl) (later_refl _) ?_; (repeat (first | go_big_quiet_step (((go_at_call 65; exact calls_ext (by simp) (He.out _)))) | quiet_step (((go_at_call 65; exact calls_ext (by simp) (He.out _)))))); refine wpQuiet_nil ?_; rintro w9 ⟨⟨_, hL9⟩, rfl⟩; (try dsimp only)
        go_wp2_with fail
        go_ret
        exact ⟨rfl, Later.trans hL0 (Later.trans hL hL9)⟩
      · skip
        have s0 := fun X (h : Later wr X) => ((hd X h).cell 0).trans (show _ = (#[.bool true, .bool true, .bool false, .bool false, .bool false, .bool false] : Array Value)[0]? from rfl)
        have s1 := fun X (h : Later wr X) => ((hd X h).cell 1).trans (show _ = (#[.bool true, .bool true, .bool false, .bool false, .bool false, .bool false] : Array Value)[1]? from rfl)
        have s2 := fun X (h : Later wr X) => ((hd X h).cell 2).trans (show _ = (#[.bool true, .bool true, .bool false, .bool false, .bool false, .bool false] : Array Value)[2]? from rfl)
        have s3 := fun X (h : Later wr X) => ((hd X h).cell 3).trans (show _ = (#[.bool true, .bool true, .bool false, .bool false, .bool false, .bool false] : Array Value)[3]? from rfl)
        have s4 := fun X (h : Later wr X) => ((hd X h).cell 4).trans (show _ = (#[.bool true, .bool true, .bool false, .bool false, .bool false, .bool false] : Array Value)[4]? from rfl)
        have s5 := fun X (h : Later wr X) => ((hd X h).cell 5).trans (show _ = (#[.bool true, .bool true, .bool false, .bool false, .bool false, .bool false] : Array Value)[5]? from rfl)
        simp only [List.getElem?_toArray, List.getElem?_cons_zero, List.getElem?_cons_succ] at s0 s1 s2 s3 s4 s5
        have he : ∀ X, Calls Try.prog 65 #[.agg #[.int .i64 k, .int .i64 close, .slice Aw 2 kw]] X fun e w' => e = .returned (.agg #[.bool true, .bool true, .bool false, .bool false, .bool false, .bool false]) ∧ Later X w' := fun X => everyone_calls (k := k) (close := close) (Aw := Aw) (nw := 2) (kw := kw) X (by omega)
        have heq : ∀ X, (binOp .eql 139 (.agg #[.bool true, .bool true, .bool false, .bool false, .bool false, .bool false]) (.agg #[.bool true, .bool true, .bool false, .bool false, .bool false, .bool false])).run Try.prog X = .ok (.bool true) X := fun X => eqSome (n := 2) (by omega) X
        have He := hide he
        clear hd he
        refine wp_region_ext (w0 := wr) (by kernel_rfl) (by kernel_rfl) (later_refl _) ?_; (repeat (first | go_big_quiet_step (((go_at_call 65; exact calls_ext (by simp) (He.out _)))) | quiet_step (((go_at_call 65; exact calls_ext (by simp) (He.out _)))))); refine wpQuiet_nil ?_; rintro w9 ⟨⟨_, hL9⟩, rfl⟩; (try dsimp only)
        go_wp2_with fail
        go_ret
        exact ⟨rfl, Later.trans hL0 (Later.trans hL hL9)⟩
      · skip
        have s0 := fun X (h : Later wr X) => ((hd X h).cell 0).trans (show _ = (#[.bool true, .bool true, .bool true, .bool false, .bool false, .bool false] : Array Value)[0]? from rfl)
        have s1 := fun X (h : Later wr X) => ((hd X h).cell 1).trans (show _ = (#[.bool true, .bool true, .bool true, .bool false, .bool false, .bool false] : Array Value)[1]? from rfl)
        have s2 := fun X (h : Later wr X) => ((hd X h).cell 2).trans (show _ = (#[.bool true, .bool true, .bool true, .bool false, .bool false, .bool false] : Array Value)[2]? from rfl)
        have s3 := fun X (h : Later wr X) => ((hd X h).cell 3).trans (show _ = (#[.bool true, .bool true, .bool true, .bool false, .bool false, .bool false] : Array Value)[3]? from rfl)
        have s4 := fun X (h : Later wr X) => ((hd X h).cell 4).trans (show _ = (#[.bool true, .bool true, .bool true, .bool false, .bool false, .bool false] : Array Value)[4]? from rfl)
        have s5 := fun X (h : Later wr X) => ((hd X h).cell 5).trans (show _ = (#[.bool true, .bool true, .bool true, .bool false, .bool false, .bool false] : Array Value)[5]? from rfl)
        simp only [List.getElem?_toArray, List.getElem?_cons_zero, List.getElem?_cons_succ] at s0 s1 s2 s3 s4 s5
        have he : ∀ X, Calls Try.prog 65 #[.agg #[.int .i64 k, .int .i64 close, .slice Aw 3 kw]] X fun e w' => e = .returned (.agg #[.bool true, .bool true, .bool true, .bool false, .bool false, .bool false]) ∧ Later X w' := fun X => everyone_calls (k := k) (close := close) (Aw := Aw) (nw := 3) (kw := kw) X (by omega)
        have heq : ∀ X, (binOp .eql 139 (.agg #[.bool true, .bool true, .bool true, .bool false, .bool false, .bool false]) (.agg #[.bool true, .bool true, .bool true, .bool false, .bool false, .bool false])).run Try.prog X = .ok (.bool true) X := fun X => eqSome (n := 3) (by omega) X
        have He := hide he
        clear hd he
        refine wp_region_ext (w0 := wr) (by kernel_rfl) (by kernel_rfl) (later_refl _) ?_; (repeat (first | go_big_quiet_step (((go_at_call 65; exact calls_ext (by simp) (He.out _)))) | quiet_step (((go_at_call 65; exact calls_ext (by simp) (He.out _)))))); refine wpQuiet_nil ?_; rintro w9 ⟨⟨_, hL9⟩, rfl⟩; (try dsimp only)
        go_wp2_with fail
        go_ret
        exact ⟨rfl, Later.trans hL0 (Later.trans hL hL9)⟩
      · skip
        have s0 := fun X (h : Later wr X) => ((hd X h).cell 0).trans (show _ = (#[.bool true, .bool true, .bool true, .bool true, .bool false, .bool false] : Array Value)[0]? from rfl)
        have s1 := fun X (h : Later wr X) => ((hd X h).cell 1).trans (show _ = (#[.bool true, .bool true, .bool true, .bool true, .bool false, .bool false] : Array Value)[1]? from rfl)
        have s2 := fun X (h : Later wr X) => ((hd X h).cell 2).trans (show _ = (#[.bool true, .bool true, .bool true, .bool true, .bool false, .bool false] : Array Value)[2]? from rfl)
        have s3 := fun X (h : Later wr X) => ((hd X h).cell 3).trans (show _ = (#[.bool true, .bool true, .bool true, .bool true, .bool false, .bool false] : Array Value)[3]? from rfl)
        have s4 := fun X (h : Later wr X) => ((hd X h).cell 4).trans (show _ = (#[.bool true, .bool true, .bool true, .bool true, .bool false, .bool false] : Array Value)[4]? from rfl)
        have s5 := fun X (h : Later wr X) => ((hd X h).cell 5).trans (show _ = (#[.bool true, .bool true, .bool true, .bool true, .bool false, .bool false] : Array Value)[5]? from rfl)
        simp only [List.getElem?_toArray, List.getElem?_cons_zero, List.getElem?_cons_succ] at s0 s1 s2 s3 s4 s5
        have he : ∀ X, Calls Try.prog 65 #[.agg #[.int .i64 k, .int .i64 close, .slice Aw 4 kw]] X fun e w' => e = .returned (.agg #[.bool true, .bool true, .bool true, .bool true, .bool false, .bool false]) ∧ Later X w' := fun X => everyone_calls (k := k) (close := close) (Aw := Aw) (nw := 4) (kw := kw) X (by omega)
        have heq : ∀ X, (binOp .eql 139 (.agg #[.bool true, .bool true, .bool true, .bool true, .bool false, .bool false]) (.agg #[.bool true, .bool true, .bool true, .bool true, .bool false, .bool false])).run Try.prog X = .ok (.bool true) X := fun X => eqSome (n := 4) (by omega) X
        have He := hide he
        clear hd he
        refine wp_region_ext (w0 := wr) (by kernel_rfl) (by kernel_rfl) (later_refl _) ?_; (repeat (first | go_big_quiet_step (((go_at_call 65; exact calls_ext (by simp) (He.out _)))) | quiet_step (((go_at_call 65; exact calls_ext (by simp) (He.out _)))))); refine wpQuiet_nil ?_; rintro w9 ⟨⟨_, hL9⟩, rfl⟩; (try dsimp only)
        go_wp2_with fail
        go_ret
        exact ⟨rfl, Later.trans hL0 (Later.trans hL hL9)⟩
theorem checked_calls {k close : Int} {Aw Ap : Option Addr} {nw kw kp : Nat} {hs : List Horse} (w : World) (hm : RM w Aw nw hs) (ok : OkM k close hs) (hp : RRI w Ap 1 [idL nw]) (h1 : 1 ≤ nw) :
    Calls Try.prog 23 #[(.agg #[.int .i64 k, .int .i64 close, .slice Aw nw kw]), .slice Ap 1 kp] w fun e w' => e = .returned (.int .i64 0) ∧ Later w w' := by
  have hn : nw ≤ 4 := by have := hm.len; have := ok.len; omega
  obtain ⟨w0, hw0⟩ : ∃ X, X = w.alloc (.cells #[.int .i64 k, .int .i64 close, .slice Aw nw kw] 51) := ⟨_, rfl⟩
  have k0 : Blk w0 w.heap.size 51 #[.int .i64 k, .int .i64 close, .slice Aw nw kw] := by rw [hw0]; exact Blk.new _ _ _
  have hL0 : Later w w0 := by rw [hw0]; exact later_alloc (later_refl _) _
  have b0 := fun X (hX : Later w0 X) => ((k0.later hX).cell 0).trans (show _ = some (Value.int .i64 k) from rfl)
  have b1 := fun X (hX : Later w0 X) => ((k0.later hX).cell 1).trans (show _ = some (Value.int .i64 close) from rfl)
  have b2 := fun X (hX : Later w0 X) => ((k0.later hX).cell 2).trans (show _ = some (Value.slice Aw nw kw) from rfl)
  have hl0 := later_refl w0
  have Hw0 := hide hw0
  clear hw0 k0
  go_enter Try.func23, Try.ntmps23
  go_upto_region 1 with fail
  rw [← Hw0.out]
  go_wp2_with fail
  refine (CheckMonday_calls (kw := kw) _ (hm.later hL0) ok).mono ?_
  rintro e w1 ⟨rfl, hL1⟩
  go_wp2_with fail
  refine (isPlan_calls (k := k) (close := close) (Aw := Aw) (kw := kw) (kp := kp) _ (hp.later (Later.trans hL0 hL1)) h1 hn).mono ?_
  rintro e w2 ⟨rfl, hL2⟩
  go_wp2_with fail
  go_ret
  exact ⟨rfl, Later.trans hL0 (Later.trans hL1 hL2)⟩
end Go.Proofs.Ytnlbgaippnjmiaa

/- A round of the Monday: what lies in memory. -/
namespace Go.Proofs.Ytnlbgaippnjmiaa
open Go Go.RowKit
theorem own_own_ne {W : World} {b1 b2 : Nat} {e1 e2 : TypeId} {s1 s2 : Nat} {v1 v2 : Value} {n1 n2 : Nat} {xs1 xs2 : List Value} (h1 : W.ownsRow b1 e1 s1 v1 n1 xs1) (h2 : W.ownsRow b2 e2 s2 v2 n2 xs2) (he : e1 ≠ e2) (g : Nat) (hg : v2.ownBlock = some g) : v1.ownBlock ≠ some g := by
  intro hg1
  rcases h1.2 with ⟨rfl, _⟩ | ⟨g1, c1, cur1, rfl, _, k1, _⟩
  · cases hg1
  · rcases h2.2 with ⟨rfl, _⟩ | ⟨g2, c2, cur2, rfl, _, k2, _⟩
    · cases hg
    · injection hg with hg
      injection hg1 with hg1
      have e1' : g1 = g := hg1
      have e2' : g2 = g := hg
      subst e1' e2'
      rw [k1] at k2
      injection k2 with k2
      injection k2 with _ k2
      exact he k2
theorem own_laterb {base : Nat} {W W' : World} {e : TypeId} {size : Nat} {v : Value} {n : Nat} {xs : List Value} (h : W.ownsRow base e size v n xs) (hL : Later W W') : W'.ownsRow base e size v n xs := by
  refine ⟨h.1, ?_⟩
  rcases h.2 with hn | ⟨g, cap, cur, rfl, hb, hgg, rest⟩
  · exact .inl hn
  · refine .inr ⟨g, cap, cur, rfl, hb, ?_, rest⟩
    rw [hL.block g (Array.getElem?_eq_some_iff.1 hgg).1]
    exact hgg
theorem horsesV_snoc (l : List Horse) (x : Horse) : horsesV (l ++ [x]) = horsesV l ++ x.cells := by simp [horsesV]
/-- the places of a round's two blocks -/
structure RndG (w0 : World) (base gc gr : Nat) : Prop where
  c1 : w0.heap.size ≤ gc
  c2 : gc < base
  r1 : w0.heap.size ≤ gr
  r2 : gr < base
  ne : gc ≠ gr
/-- a round under way: the closets, the answer, two rows -/
structure RndSt (w0 W : World) (base gc gr : Nat) (k cl : Int) (cv cu : Value) (hc : Array Value) (v : Value) (n : Nat) (l : List Horse) (u : Value) (m : Nat) (l2 : List Int) : Prop where
  later : Later w0 W
  size : base ≤ W.heap.size
  blc : Blk W gc 45 #[.int .i64 k, .int .i64 cl, cv, cu, .slice none 0 0]
  blr : Blk W gr 85 hc
  own1 : W.ownsRow base 66 4 v n (horsesV l)
  own2 : W.ownsRow base 3 1 u m (ints l2)
section
variable {w0 W W' : World} {base gc gr n m : Nat} {k cl : Int} {cv cu v u v' u' : Value} {hc : Array Value} {l : List Horse} {l2 : List Int}
theorem RndSt.lat (h : RndSt w0 W base gc gr k cl cv cu hc v n l u m l2) (q : Later W W') : RndSt w0 W' base gc gr k cl cv cu hc v n l u m l2 :=
  ⟨Later.trans h.later q, Nat.le_trans h.size q.size, h.blc.later q, h.blr.later q, own_laterb h.own1 q, own_laterb h.own2 q⟩
theorem RndSt.app1 (h : RndSt w0 W base gc gr k cl cv cu hc v n l u m l2) (G : RndG w0 base gc gr) {x : Horse} (ap : AppG base W W' 66 4 v v' n 1 (horsesV l) x.cells) : RndSt w0 W' base gc gr k cl cv cu hc v' (n + 1) (l ++ [x]) u m l2 := by
  have hlt : ∀ g, v.ownBlock = some g → base ≤ g := fun g hg => (h.own1.lt g hg).1
  refine ⟨Later.grown h.later ap.grown (fun g hg => by have := hlt g hg; have := G.c1; have := G.c2; omega), Nat.le_trans h.size ap.grown.size, ?_, ?_, ?_, ?_⟩
  · exact Blk.of_eq (ap.grown.block gc h.blc.lt (fun e => by have := hlt gc e.symm; have := G.c2; omega)) h.blc
  · exact Blk.of_eq (ap.grown.block gr h.blr.lt (fun e => by have := hlt gr e.symm; have := G.r2; omega)) h.blr
  · rw [horsesV_snoc]; exact ap.own
  · exact own_block h.own2 fun g hg => ap.grown.block g (h.own2.lt g hg).2 (fun e => own_own_ne h.own1 h.own2 (by decide) g hg e.symm)
theorem RndSt.app2 (h : RndSt w0 W base gc gr k cl cv cu hc v n l u m l2) (G : RndG w0 base gc gr) {x : Int} (ap : AppG base W W' 3 1 u u' m 1 (ints l2) [.int .i64 x]) : RndSt w0 W' base gc gr k cl cv cu hc v n l u' (m + 1) (l2 ++ [x]) := by
  have hlt : ∀ g, u.ownBlock = some g → base ≤ g := fun g hg => (h.own2.lt g hg).1
  refine ⟨Later.grown h.later ap.grown (fun g hg => by have := hlt g hg; have := G.c1; have := G.c2; omega), Nat.le_trans h.size ap.grown.size, ?_, ?_, ?_, ?_⟩
  · exact Blk.of_eq (ap.grown.block gc h.blc.lt (fun e => by have := hlt gc e.symm; have := G.c2; omega)) h.blc
  · exact Blk.of_eq (ap.grown.block gr h.blr.lt (fun e => by have := hlt gr e.symm; have := G.r2; omega)) h.blr
  · exact own_block h.own1 fun g hg => ap.grown.block g (h.own1.lt g hg).2 (fun e => own_own_ne h.own2 h.own1 (by decide) g hg e.symm)
  · rw [ints_snoc]; exact ap.own
theorem own_far {base gx i e : Nat} {size : Nat} {z : Value} {xs : List Value} {N : Nat} (h : W.ownsRow base e size z N xs) (hg : gx < base) (q : Value) : (W.setCell ⟨gx, i, none⟩ q).ownsRow base e size z N xs :=
  own_block h fun g hg2 => Below.heap_setCell W _ _ g (by have := (h.lt g hg2).1; show g ≠ gx; omega)
theorem RndSt.setc (h : RndSt w0 W base gc gr k cl cv cu hc v n l u m l2) (G : RndG w0 base gc gr) (q : Value) :
    RndSt w0 (W.setCell ⟨gc, 2, none⟩ q) base gc gr k cl q cu hc v n l u m l2 ∧ RndSt w0 (W.setCell ⟨gc, 3, none⟩ q) base gc gr k cl cv q hc v n l u m l2 :=
  ⟨⟨later_set h.later _ G.c1 _, by simpa using h.size, h.blc.set_ 2 q, h.blr.far (fun e => G.ne e.symm) _, own_far h.own1 G.c2 _, own_far h.own2 G.c2 _⟩,
    ⟨later_set h.later _ G.c1 _, by simpa using h.size, h.blc.set_ 3 q, h.blr.far (fun e => G.ne e.symm) _, own_far h.own1 G.c2 _, own_far h.own2 G.c2 _⟩⟩
theorem RndSt.setcl (h : RndSt w0 W base gc gr k cl cv cu hc v n l u m l2) (G : RndG w0 base gc gr) (q : Int) : RndSt w0 (W.setCell ⟨gc, 1, none⟩ (.int .i64 q)) base gc gr k q cv cu hc v n l u m l2 :=
  ⟨later_set h.later _ G.c1 _, by simpa using h.size, h.blc.set_ 1 _, h.blr.far (fun e => G.ne e.symm) _, own_far h.own1 G.c2 _, own_far h.own2 G.c2 _⟩
theorem RndSt.setr (h : RndSt w0 W base gc gr k cl cv cu hc v n l u m l2) (G : RndG w0 base gc gr) (i : Nat) (q : Value) : RndSt w0 (W.setCell ⟨gr, i, none⟩ q) base gc gr k cl cv cu (hc.setIfInBounds i q) v n l u m l2 :=
  ⟨later_set h.later _ G.r1 _, by simpa using h.size, h.blc.far G.ne _, h.blr.set_ i q, own_far h.own1 G.r2 _, own_far h.own2 G.r2 _⟩
end
end Go.Proofs.Ytnlbgaippnjmiaa
