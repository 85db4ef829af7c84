/- ClosetNoSooner: the plain law. -/
import Derived.Test.YtjilckjhdlabaaaPart14
set_option linter.unusedSimpArgs false
set_option linter.unusedVariables false
namespace Go.Proofs.Ytjilckjhdlabaaa
open Go Go.RowKit

theorem before_cons (i j : Int) (a b : List Int) : before (i :: a) (j :: b) = if i = j then before a b else decide (i < j) := rfl
theorem lexAll_sorted (m : Nat) : ∀ k, (lexAll m k).Pairwise fun a b => before a b = true
  | 0 => by simp [lexAll]
  | k + 1 => by
    have ih := lexAll_sorted m k
    have key : ∀ (s n : Nat), ((List.range' s n).flatMap fun (i : Nat) => (lexAll m k).map ((i : Int) :: ·)).Pairwise fun a b => before a b = true := by
      intro s n
      induction n generalizing s with
      | zero => simp
      | succ n ihn =>
        rw [List.range'_succ, List.flatMap_cons, List.pairwise_append]
        refine ⟨?_, ihn (s + 1), fun a ha b hb => ?_⟩
        · rw [List.pairwise_map]
          exact ih.imp fun {a b} hab => by rw [before_cons, if_pos rfl]; exact hab
        · obtain ⟨a', _, rfl⟩ := List.mem_map.1 ha
          obtain ⟨i, hi, hb2⟩ := List.mem_flatMap.1 hb
          obtain ⟨b', _, rfl⟩ := List.mem_map.1 hb2
          have := (List.mem_range'_1.1 hi).1
          rw [before_cons, if_neg (by omega)]
          simp; omega
    have e : lexAll m (k + 1) = (List.range' 0 m).flatMap fun (i : Nat) => (lexAll m k).map ((i : Int) :: ·) := by rw [← List.range_eq_range']; rfl
    rw [e]
    exact key 0 m
theorem hangL_sorted (m k : Nat) : (hangL m k []).Pairwise fun a b => before a b = true := by
  rw [hangL_lex _ _ _ List.nodup_nil]
  refine List.Pairwise.filter _ ?_
  simp only [List.nil_append, List.map_id']
  exact lexAll_sorted m k
theorem before_asymm {a b : List Int} (h : before a b = true) : before b a = false := by
  cases h2 : before b a with
  | false => rfl
  | true => have := before_trans a b a h h2; rw [before_irrefl] at this; cases this
theorem placeOut_iff {c : Clo} (h : askedErr c true = 0) {p : List Int} (hp : IsPl c p) (n : Int) : placeOut c p n = true ↔ goodPl c p ∧ doneAt c p ≤ n := by
  have ok := okC_of_fault (askedErr_zero h).1
  have hb : isPlaceB c p = true := (isPlaceB_iff ok.cl1 ok.cl4 p).2 hp
  unfold placeOut goodPl doneAt
  rw [hb, decide_eq_true h, Bool.true_and, Bool.and_eq_true, decide_eq_true_eq, decide_eq_true_eq]
theorem doneAt_le {c : Clo} (h : askedErr c true = 0) {p : List Int} (hp : IsPl c p) (hg : goodPl c p) : doneAt c p ≤ 99 := by
  have hh := (goodPl_iff c p).1 hg
  refine (doneAt_good hg).2 99 (by omega) fun i hi => ?_
  have h1 := hh i hi
  have h2 := goodP_range h hp hi
  have h3 := (okC_of_fault (askedErr_zero h).1).close
  omega
theorem noSooner_law {c : Clo} (hf : fault c = 0) {p : List Int} (hp : IsPl c p) :
    (∃ e : Int, (e = 10 ∨ e = 11) ∧ bestOut c = ([], 0, e) ∧ ∀ n, placeOut c p n = false) ∨
    (∃ x m, bestOut c = (x, m, 0) ∧ IsPl c x ∧ 0 ≤ m ∧ m ≤ 99 ∧ placeOut c x m = true ∧ placeOut c x (m - 1) = false ∧ placeOut c p (m - 1) = false ∧ (∀ n, placeOut c p n = true → m ≤ n) ∧ (placeOut c p m = true → before p x = false)) := by
  rcases askedErr_ii hf with h | ⟨h, _⟩
  · have ok := okC_of_fault hf
    have e1 : bestOut c = bestRes (bestP c (truthsP c)) := by unfold bestOut; rw [if_neg (by simp [h])]
    rcases bestP_spec ok.toOkH with ⟨hb, hno⟩ | ⟨q, hb, hq1, hq2, hmin, l1, l2, hl, hl1⟩
    · left
      refine ⟨10, .inl rfl, by rw [e1, hb]; rfl, fun n => ?_⟩
      cases hh : placeOut c p n with
      | false => rfl
      | true => exact absurd ((placeOut_iff h hp n).1 hh).1 (hno p hp)
    · right
      have hfalse : ∀ {y : List Int} {n : Int}, IsPl c y → n < doneAt c q → placeOut c y n = false := fun {y n} hy hn => by
        cases hh : placeOut c y n with
        | false => rfl
        | true =>
          obtain ⟨h1, h2⟩ := (placeOut_iff h hy n).1 hh
          have := hmin y hy h1
          omega
      refine ⟨q, doneAt c q, by rw [e1, hb]; rfl, hq1, doneAt_nonneg hq2, doneAt_le h hq1 hq2, (placeOut_iff h hq1 _).2 ⟨hq2, Int.le_refl _⟩, hfalse hq1 (by omega), hfalse hp (by omega), fun n hn => ?_, fun hn => ?_⟩
      · obtain ⟨h1, h2⟩ := (placeOut_iff h hp n).1 hn
        have := hmin p hp h1
        omega
      · obtain ⟨h1, h2⟩ := (placeOut_iff h hp _).1 hn
        have hm := hangL_has ok.toOkH hp
        have hs := hangL_sorted c.closets.toNat c.horses.length
        rw [hl] at hm hs
        rcases List.mem_append.1 hm with hm | hm
        · have := hl1 p hm h1; omega
        · rcases List.mem_cons.1 hm with rfl | hm
          · exact before_irrefl _
          · rw [List.pairwise_append] at hs
            exact before_asymm ((List.pairwise_cons.1 hs.2.1).1 p hm)
  · left
    refine ⟨11, .inr rfl, by unfold bestOut; rw [if_pos (by rw [h]; decide), h], fun n => ?_⟩
    have ok := okC_of_fault hf
    have hb : isPlaceB c p = true := (isPlaceB_iff ok.cl1 ok.cl4 p).2 hp
    unfold placeOut
    rw [hb, h]
    rfl
end Go.Proofs.Ytjilckjhdlabaaa
