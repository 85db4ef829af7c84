/- ClosetRights: the plain law. -/
import Derived.Test.YtjilckjhdlabaaaPart13
set_option linter.unusedSimpArgs false
set_option linter.unusedVariables false
namespace Go.Proofs.Ytjilckjhdlabaaa
open Go Go.RowKit

theorem verdict_perm {c : Clo} {l tr : List (List Int)} (h : List.Perm tr l) (p : List Int) (i : Nat) (m : Int) : verdict c l p i m = verdict c tr p i m := by
  unfold verdict
  rw [h.countP_eq, h.length_eq]
theorem fold_first (f : List Int → Int) (a : Int) (h1 : 1 ≤ a) (h2 : a ≤ 78) : wider (1099511627776, -1) a = (a, a) := by
  unfold wider
  simp only [Prod.mk.injEq]
  omega
theorem boundsR_eq {c : Clo} (ok : OkC c) {l tr : List (List Int)} (h : ∀ d, d ∈ l ↔ d ∈ tr) (hne : tr ≠ []) (hdry : ∀ d ∈ tr, IsDry c d) {p : List Int} (hp : IsPl c p) {i : Nat} (hi : i < c.horses.length) :
    boundsR c l p i = bP (fun d => minuteR c p d i) tr := by
  cases l with
  | nil =>
    cases tr with
    | nil => exact absurd rfl hne
    | cons d tr => exact absurd ((h d).2 List.mem_cons_self) (by simp)
  | cons d l =>
    have hd := hdry d ((h d).1 List.mem_cons_self)
    have hr := minuteR_range ok.toOkH (p := p) (Nat.le_of_eq hp.len) hd i hi
    have e : boundsR c (d :: l) p i = bP (fun d => minuteR c p d i) (d :: l) := by
      unfold boundsR
      rw [List.foldl_cons, fold_first (fun d => minuteR c p d i) _ hr.1 hr.2]
      rfl
    rw [e]
    exact bP_congr _ (by simp) h
/-- what all three calls answer -/
theorem rights_law (c : Clo) (p : List Int) (h m : Int) (e1 e2 e3 : Int) (h1 : askedErr c (isPlaceB c p) = e1) (h2 : askedErr c ((isPlaceB c p && isHorse c h) && inB m 0 99) = e2) (h3 : askedErr c (isPlaceB c p && isHorse c h) = e3) :
    (e1 ≠ 0 ∧ e2 ≠ 0 ∧ e3 ≠ 0 ∧ rightOut c p h m = (0, e2) ∧ goodOut c p h = (0, 0, e3) ∧ boundsOut c p = []) ∨
    (e1 = 0 ∧ fault c = 0 ∧ isPlaceB c p = true ∧ askedErr c true = 0 ∧ (boundsOut c p).length = c.horses.length ∧ (∀ i, i < c.horses.length → (boundsOut c p)[i]? = some (boundsR c (truths c) p i)) ∧
      ((isHorse c h = false ∧ e2 ≠ 0 ∧ e3 ≠ 0 ∧ rightOut c p h m = (0, e2) ∧ goodOut c p h = (0, 0, e3)) ∨
       (∃ k : Nat, h = k ∧ k < c.horses.length ∧ isHorse c h = true ∧ e3 = 0 ∧
         ((inB m 0 99 = false ∧ e2 ≠ 0 ∧ rightOut c p h m = (0, e2)) ∨ (inB m 0 99 = true ∧ e2 = 0 ∧ rightOut c p h m = (verdict c (truths c) p k m, 0))) ∧
         ((goodR c (truths c) p k = (1, 0) ∧ goodOut c p h = (0, 0, 10)) ∨ (∃ lo hi, lo ≤ hi ∧ goodR c (truths c) p k = (lo, hi) ∧ goodOut c p h = (lo, hi, 0)))))) := by
  have hr2 : e2 ≠ 0 → rightOut c p h m = (0, e2) := fun hh => by unfold rightOut; rw [h2, if_pos hh]
  have hg3 : e3 ≠ 0 → goodOut c p h = (0, 0, e3) := fun hh => by unfold goodOut; rw [h3, if_pos hh]
  by_cases hz : e1 = 0
  · right
    rw [hz] at h1
    obtain ⟨hf, hb, hne⟩ := askedErr_zero h1
    have ok := okC_of_fault hf
    have hpl := isPlaceB_isPl hf hb
    have ht : askedErr c true = 0 := by rw [hb] at h1; exact h1
    have hmem : ∀ d, d ∈ truths c ↔ d ∈ truthsP c := fun d => ((truthsP_perm hf).mem_iff).symm
    have hdry := truthsP_isDry ok.toOkH
    have hbo : boundsOut c p = boundsTo2 c p c.horses.length := by unfold boundsOut; rw [if_neg (by simp [h1])]
    refine ⟨hz, hf, hb, ht, by rw [hbo]; simp [boundsTo2], fun i hi => ?_, ?_⟩
    · rw [hbo, boundsR_eq ok hmem hne hdry hpl hi]
      unfold boundsTo2
      rw [List.getElem?_map, List.getElem?_range hi]; rfl
    · cases hh : isHorse c h with
      | false =>
        left
        rw [hh] at h2 h3
        simp only [Bool.and_false, Bool.false_and] at h2 h3
        have e2n : e2 ≠ 0 := fun e => by rw [e] at h2; have := (askedErr_zero h2).2.1; cases this
        have e3n : e3 ≠ 0 := fun e => by rw [e] at h3; have := (askedErr_zero h3).2.1; cases this
        exact ⟨rfl, e2n, e3n, hr2 e2n, hg3 e3n⟩
      | true =>
        right
        obtain ⟨k, rfl, hk⟩ := isHorse_nat hh
        rw [hh, hb] at h2 h3
        simp only [Bool.and_true, Bool.true_and] at h2 h3
        rw [ht] at h3
        refine ⟨k, rfl, hk, rfl, h3.symm, ?_, ?_⟩
        · cases hm : inB m 0 99 with
          | false =>
            rw [hm] at h2
            have e2n : e2 ≠ 0 := fun e => by rw [e] at h2; have := (askedErr_zero h2).2.1; cases this
            exact .inl ⟨rfl, e2n, hr2 e2n⟩
          | true =>
            rw [hm, ht] at h2
            refine .inr ⟨rfl, h2.symm, ?_⟩
            unfold rightOut
            rw [hh, hb, hm]
            simp only [Bool.and_true]
            rw [if_neg (by simp [ht]), Int.toNat_natCast, verdict_perm (truthsP_perm hf)]
        · have hge := goodR_eq ok hmem hne hdry hpl hk
          have hgo : goodOut c p k = if (goodP c (truthsP c) p k).2 < (goodP c (truthsP c) p k).1 then (0, 0, 10) else ((goodP c (truthsP c) p k).1, (goodP c (truthsP c) p k).2, 0) := by
            unfold goodOut
            rw [hh, hb]
            simp only [Bool.and_true]
            rw [if_neg (by simp [ht]), Int.toNat_natCast]
          by_cases hlt : (goodP c (truthsP c) p k).2 < (goodP c (truthsP c) p k).1
          · left; rw [hge, hgo, if_pos hlt, if_pos hlt]; exact ⟨rfl, rfl⟩
          · right; rw [hge, hgo, if_neg hlt, if_neg hlt]
            exact ⟨(goodP c (truthsP c) p k).1, (goodP c (truthsP c) p k).2, by omega, rfl, rfl⟩
  · left
    have key : ∀ b : Bool, (b = true → isPlaceB c p = true) → askedErr c b ≠ 0 := fun b hb e => by
      have h4 := (askedErr_zero e).2.1
      apply hz
      rw [← h1, hb h4, ← h4]; exact e
    have e2n : e2 ≠ 0 := by rw [← h2]; exact key _ fun hh => by simp only [Bool.and_eq_true] at hh; exact hh.1.1
    have e3n : e3 ≠ 0 := by rw [← h3]; exact key _ fun hh => by simp only [Bool.and_eq_true] at hh; exact hh.1
    exact ⟨hz, e2n, e3n, hr2 e2n, hg3 e3n, by unfold boundsOut; rw [if_pos (by rw [h1]; exact hz)]⟩
end Go.Proofs.Ytjilckjhdlabaaa
