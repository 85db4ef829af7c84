/- ClosetLeft: the plain law. -/
import Derived.Test.YtjilckjhdlabaaaPart13
set_option linter.unusedSimpArgs false
set_option linter.unusedVariables false
namespace Go.Proofs.Ytjilckjhdlabaaa
open Go Go.RowKit

def orTo (l : List Int) (j : Nat) : Nat := (l.take j).foldl (fun a x => a ||| 2 ^ x.toNat) 0
theorem orTo_succ {l : List Int} {j : Nat} {x : Int} (h : l[j]? = some x) : orTo l (j + 1) = orTo l j ||| 2 ^ x.toNat := by
  unfold orTo; rw [List.take_add_one, h, Option.toList_some, List.foldl_append]; rfl
def chkB (n : Nat) (l : List Int) : Bool := (List.range l.length).all fun i => decide (0 ≤ l.getD i 0) && (decide (l.getD i 0 < n) && (decide (i = 0) || decide (l.getD (i - 1) 0 < l.getD i 0)))
theorem bitsR_facts : ∀ n : Nat, n < 6 → ∀ b : Nat, b < 2 ^ n → chkB n (bitsR b) = true ∧ orTo (bitsR b) (bitsR b).length = b := by decide +kernel
theorem chkB_get {n : Nat} {l : List Int} (h : chkB n l = true) {i : Nat} (hi : i < l.length) : ∃ x : Nat, l[i]? = some (x : Int) ∧ x < n ∧ (0 < i → ∃ y : Nat, l[i - 1]? = some (y : Int) ∧ y < x) := by
  unfold chkB at h
  have h0 := fun k (hk : k < l.length) => List.all_eq_true.1 h k (by simpa using hk)
  have hg : ∀ k (hk : k < l.length), l.getD k 0 = l[k] := fun k hk => by rw [List.getD_eq_getElem?_getD, List.getElem?_eq_getElem hk]; rfl
  have h1 := h0 i hi
  simp only [Bool.and_eq_true, Bool.or_eq_true, decide_eq_true_eq] at h1
  rw [hg i hi] at h1
  refine ⟨l[i].toNat, by rw [List.getElem?_eq_getElem hi, Int.toNat_of_nonneg h1.1], by omega, fun hp => ?_⟩
  have hi2 : i - 1 < l.length := by omega
  have h2 := h0 (i - 1) hi2
  simp only [Bool.and_eq_true, Bool.or_eq_true, decide_eq_true_eq] at h2
  have h3 := h1.2.2.resolve_left (by omega)
  rw [hg (i - 1) hi2] at h2 h3
  exact ⟨l[i - 1].toNat, by rw [List.getElem?_eq_getElem hi2, Int.toNat_of_nonneg h2.1], by omega⟩
theorem poss_some_out {c : Clo} (hf : fault c = 0) {b : Nat} (hb : b < 2 ^ c.looks.length) : possibleP (someC c (full c - b)) [] = possibleP c (bitsR b) := by
  have ok1 := okC_of_fault (someC_fault hf (full c - b))
  rw [Bool.eq_iff_iff, poss_mem ok1, possible_iff (okC_of_fault hf)]
  have ht : ∀ j, (full c - b).testBit j = (decide (j < c.looks.length) && !b.testBit j) := fun j => by
    unfold full
    rw [show 2 ^ c.looks.length - 1 - b = 2 ^ c.looks.length - (b + 1) by omega]
    exact Nat.testBit_two_pow_sub_succ hb j
  constructor
  · rintro ⟨d, hd, h⟩
    refine ⟨d, hd, fun j l hj => ?_⟩
    have hlt := (List.getElem?_eq_some_iff.1 hj).1
    cases hbj : b.testBit j with
    | true => exact .inl ((bitsR_mem b j).2 hbj)
    | false => exact .inr (h l (mem_someTo (i := j) hlt (by rw [ht]; simp [hlt, hbj]) hj))
  · rintro ⟨d, hd, h⟩
    refine ⟨d, hd, fun l hl => ?_⟩
    obtain ⟨i, hi, hbit, e⟩ := someTo_mem hl
    rw [ht] at hbit
    simp only [Bool.and_eq_true, Bool.not_eq_true'] at hbit
    rcases h i l e with h1 | h1
    · rw [bitsR_mem, hbit.2] at h1; cases h1
    · exact h1
/-- the smallest set, by its bits, and why no other is shorter -/
theorem leftLaw {c : Clo} (hf : fault c = 0) : ∃ B : Nat, B ≤ full c ∧ leaveOut c = bitsR B ∧ chkB c.looks.length (bitsR B) = true ∧ orTo (bitsR B) (bitsR B).length = B ∧
    askedErr (someC c (full c - B)) (isPlaceB (someC c (full c - B)) c.hung) = 0 ∧
    ∀ m : Nat, m ≤ full c → askedErr (someC c (full c - m)) (isPlaceB (someC c (full c - m)) c.hung) = 11 ∨
      (askedErr (someC c (full c - m)) (isPlaceB (someC c (full c - m)) c.hung) = 0 ∧ shorter (bitsR m) (bitsR B) = false) := by
  have ok := okC_of_fault hf
  have h6 : c.looks.length < 6 := by have := ok.nlooks; omega
  obtain ⟨l, hl, hmem, hP, hmin⟩ := leaveP_some hf
  obtain ⟨B, hB, hBl⟩ := combs_bits h6 hmem
  have hlo : leaveOut c = bitsR B := by unfold leaveOut; rw [if_pos hf, hl, Option.getD_some, hBl]
  have hfl := full_lt c
  have hfu : full c = 2 ^ c.looks.length - 1 := rfl
  obtain ⟨hck, hor⟩ := bitsR_facts _ h6 B hB
  refine ⟨B, by omega, hlo, hck, hor, ?_, fun m hm => ?_⟩
  · rw [someC_err hf, if_pos]
    rw [poss_some_out hf hB, hBl]; exact hP
  · have hm2 : m < 2 ^ c.looks.length := by omega
    rw [someC_err hf, poss_some_out hf hm2]
    by_cases hp : possibleP c (bitsR m) = true
    · right
      rw [if_pos hp]
      refine ⟨rfl, ?_⟩
      rcases hmin _ (combs_has h6 hm2) hp with e | hs
      · rw [e, hBl]; exact shorter_irrefl _
      · cases hc : shorter (bitsR m) (bitsR B) with
        | false => rfl
        | true =>
          rw [hBl] at hc
          have := shorter_trans hc hs
          rw [shorter_irrefl] at this
          cases this
    · left; rw [if_neg hp]
end Go.Proofs.Ytjilckjhdlabaaa
