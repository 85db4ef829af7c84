/- Part 16 of the proof: joined from the texts Chg, ChgW. -/
import Derived.Test.YtjilckjhdlabaaaPart14
import Derived.Test.YtjilckjhdlabaaaPart12
import Derived.Test.YtjilckjhdlabaaaPart13
set_option linter.unusedSimpArgs false
set_option linter.unusedVariables false
/- Closets that differ in what the truths do not hang on; greater Grace, greater Close: plain. -/
namespace Go.Proofs.Ytjilckjhdlabaaa

theorem dryAll_congr : ∀ {l m : List Horse}, l.map (fun h => (h.lo, h.hi)) = m.map (fun h => (h.lo, h.hi)) → dryAll l = dryAll m
  | [], [], _ => rfl
  | [], _ :: _, h => by simp at h
  | _ :: _, [], h => by simp at h
  | a :: l, b :: m, h => by
    simp only [List.map_cons, List.cons.injEq, Prod.mk.injEq] at h
    obtain ⟨⟨h1, h2⟩, h3⟩ := h
    simp only [dryAll, h1, h2, dryAll_congr h3]
theorem many_congr {c x : Clo} (h : c.horses.map (fun h => (h.lo, h.hi)) = x.horses.map (fun h => (h.lo, h.hi))) : many c = many x := by
  have key : ∀ (l m : List Horse) (a : Int), l.map (fun h => (h.lo, h.hi)) = m.map (fun h => (h.lo, h.hi)) → l.foldl (fun n h => min 3000 (n * sizeH h)) a = m.foldl (fun n h => min 3000 (n * sizeH h)) a := by
    intro l
    induction l with
    | nil => intro m a e; cases m with
      | nil => rfl
      | cons y m => simp at e
    | cons y l ih => intro m a e; cases m with
      | nil => simp at e
      | cons z m =>
        simp only [List.map_cons, List.cons.injEq, Prod.mk.injEq] at e
        obtain ⟨⟨h1, h2⟩, h3⟩ := e
        simp only [List.foldl_cons, sizeH, h1, h2]
        exact ih m _ h3
  exact key _ _ 1 h
/-- the wets are the same -/
def SameWet (c x : Clo) : Prop := ∀ k : Nat, wetK c k = wetK x k
theorem SameWet.at_ {c x : Clo} (h : SameWet c x) (k : Int) : wetAt c k = wetAt x k := by
  unfold wetAt; split
  · exact h _
  · rfl
theorem SameWet.minuteR {c x : Clo} (h : SameWet c x) (p d : List Int) (i : Nat) : minuteR c p d i = minuteR x p d i := by
  unfold Go.Proofs.Ytjilckjhdlabaaa.minuteR; rw [h.at_, h.at_]
theorem SameWet.sumTo {c x : Clo} (h : SameWet c x) (p : List Int) (i : Nat) : ∀ k, sumTo c p i k = sumTo x p i k
  | 0 => rfl
  | k + 1 => by simp only [Go.Proofs.Ytjilckjhdlabaaa.sumTo, h.sumTo p i k, h k]
theorem SameWet.minutesP {c x : Clo} (h : SameWet c x) (p d : List Int) : minutesP c p d = minutesP x p d := by
  unfold Go.Proofs.Ytjilckjhdlabaaa.minutesP mst mstAt
  simp only [h.sumTo]
theorem SameWet.rightP {c x : Clo} (h : SameWet c x) (hh : x.hung = c.hung) (hl : x.looks = c.looks) (d out : List Int) : rightP c d out = rightP x d out := by
  unfold Go.Proofs.Ytjilckjhdlabaaa.rightP lookF
  rw [h.minutesP, hh, hl]
theorem truthsP_congr {c x : Clo} (hc : OkH c) (hx : OkH x) (hw : SameWet c x) (hd : c.horses.map (fun h => (h.lo, h.hi)) = x.horses.map (fun h => (h.lo, h.hi))) (hh : x.hung = c.hung) (hl : x.looks = c.looks) : truthsP c = truthsP x := by
  rw [truthsP_filter hc, truthsP_filter hx, dryAll_congr hd]
  refine List.filter_congr fun d _ => ?_
  rw [hw.rightP hh hl]
theorem IsPl_congr {c x : Clo} (h1 : x.closets = c.closets) (h2 : x.horses.length = c.horses.length) {p : List Int} (h : IsPl c p) : IsPl x p := ⟨by rw [h2]; exact h.len, by rw [h1]; exact h.mem, h.nodup⟩
/-- what a change keeps -/
structure Chg (c x : Clo) : Prop where
  closets : x.closets = c.closets
  hung : x.hung = c.hung
  looks : x.looks = c.looks
  dry : c.horses.map (fun h => (h.lo, h.hi)) = x.horses.map (fun h => (h.lo, h.hi))
  close : inB x.close 0 99 = true
  all : x.horses.all horseOk = true
theorem Chg.len {c x : Clo} (h : Chg c x) : x.horses.length = c.horses.length := by have := congrArg List.length h.dry; simpa using this.symm
theorem Chg.fault {c x : Clo} (h : Chg c x) (hf : fault c = 0) : fault x = 0 := by
  obtain ⟨h1, h2, h3, h4, h5, h6, h7⟩ := fault_zero hf
  have hl := h.len
  have hcl := h.closets
  have hll : x.looks.length = c.looks.length := by rw [h.looks]
  rw [fault_many (by omega) (by omega) h.close h.all ?_ ?_, if_neg (by rw [← many_congr h.dry]; omega)]
  · unfold isPlaceB at h5 ⊢; rw [h.hung, hl, hcl]; exact h5
  · rw [h.looks, hl]; exact h6
theorem Chg.pl {c x : Clo} (h : Chg c x) {p : List Int} (hp : IsPl c p) : IsPl x p := IsPl_congr h.closets h.len hp

theorem bP_mono1 {f g : List Int → Int} {l : List (List Int)} (hl : l ≠ []) (h : ∀ d ∈ l, f d ≤ g d) : (bP f l).1 ≤ (bP g l).1 := by
  obtain ⟨a1, _, _⟩ := bP_spec f hl
  obtain ⟨_, ⟨d, hd, b2⟩, _⟩ := bP_spec g hl
  have := a1 d hd; have := h d hd; omega
theorem bP_mono2 {f g : List Int → Int} {l : List (List Int)} (hl : l ≠ []) (h : ∀ d ∈ l, f d ≤ g d) : (bP f l).2 ≤ (bP g l).2 := by
  obtain ⟨_, _, ⟨d, hd, a2⟩⟩ := bP_spec f hl
  obtain ⟨b1, _, _⟩ := bP_spec g hl
  have := (b1 d hd).2; have := h d hd; omega
/-- good minutes of x hold those of c -/
def Wid (c x : Clo) : Prop := ∀ p, IsPl c p → ∀ i, i < c.horses.length → (goodP x (truthsP x) p i).1 ≤ (goodP c (truthsP c) p i).1 ∧ (goodP c (truthsP c) p i).2 ≤ (goodP x (truthsP x) p i).2
theorem Wid.kept {c x : Clo} (h : Wid c x) {p : List Int} (hp : IsPl c p) : KeptP c x p := by
  intro i hi hg
  obtain ⟨a, b⟩ := h p hp i hi
  unfold goodL at hg ⊢
  split at hg
  · exact absurd hg (by decide)
  · rename_i hn
    rw [if_neg hn, if_neg (by omega)]
    exact ⟨a, b⟩
theorem Wid.sooner {c x : Clo} (h : Wid c x) (hlen : x.horses.length = c.horses.length) (hpl : ∀ p, IsPl c p → IsPl x p) (hc : askedErr c true = 0) (hx : askedErr x true = 0) : SoonerP c x := by
  refine sooner_of hc hx fun p hp hg => ⟨p, hpl p hp, ?_, ?_⟩
  · rw [goodPl_iff] at hg ⊢
    intro i hi
    rw [hlen] at hi
    have := hg i hi
    have := h p hp i hi
    omega
  · have hgx : goodPl x p := by
      rw [goodPl_iff] at hg ⊢
      intro i hi
      rw [hlen] at hi
      have := hg i hi
      have := h p hp i hi
      omega
    refine (doneAt_good hgx).2 _ (doneAt_nonneg hg) fun i hi => ?_
    rw [hlen] at hi
    have := (doneAt_good hg).1 i hi
    have := h p hp i hi
    omega
theorem graceAt_def (c : Clo) (i : Nat) : graceAt c i = (c.horses.getD i default).grace := rfl
/-- more Grace, or more Close -/
theorem wid_grace {c x : Clo} (hf : fault c = 0) (h : Chg c x) (hw : SameWet c x) (hne : truthsP c ≠ []) (hg : ∀ i, graceAt c i ≤ graceAt x i) (hcl : c.close ≤ x.close) : askedErr x true = 0 ∧ Wid c x := by
  have okc := okC_of_fault hf
  have okx := okC_of_fault (h.fault hf)
  have ht := truthsP_congr okc.toOkH okx.toOkH hw h.dry h.hung h.looks
  refine ⟨by unfold askedErr; rw [if_neg (by simp [h.fault hf]), if_neg (by simp), if_neg (by rw [← ht]; exact hne)], fun p hp i hi => ?_⟩
  unfold goodP
  rw [← ht]
  have e : (fun d => Go.Proofs.Ytjilckjhdlabaaa.minuteR x p d i) = fun d => Go.Proofs.Ytjilckjhdlabaaa.minuteR c p d i := funext fun d => (hw.minuteR p d i).symm
  have e2 : (fun d => Go.Proofs.Ytjilckjhdlabaaa.minuteR x p d i + graceAt x i) = fun d => Go.Proofs.Ytjilckjhdlabaaa.minuteR c p d i + graceAt x i := funext fun d => by rw [hw.minuteR p d i]
  rw [e, e2]
  have := bP_mono1 (f := fun d => Go.Proofs.Ytjilckjhdlabaaa.minuteR c p d i + graceAt c i) (g := fun d => Go.Proofs.Ytjilckjhdlabaaa.minuteR c p d i + graceAt x i) hne (fun d _ => by have := hg i; omega)
  exact ⟨Int.le_refl _, by dsimp only; omega⟩
/-- the horses with one of them changed -/
def setH (c : Clo) (k : Nat) (h : Horse) : Clo := { c with horses := c.horses.set k h }
theorem getD_set {l : List Horse} {k : Nat} {h : Horse} (hk : k < l.length) (i : Nat) : (l.set k h).getD i default = if i = k then h else l.getD i default := by
  simp only [List.getD_eq_getElem?_getD]
  split
  · rename_i e; subst e; simp [hk]
  · rename_i e; rw [List.getElem?_set_ne (Ne.symm e)]
theorem map_set_same {α : Type} (f : Horse → α) {l : List Horse} {k : Nat} {h y : Horse} (hy : l[k]? = some y) (e : f h = f y) : l.map f = (l.set k h).map f := by
  refine List.ext_getElem? fun i => ?_
  rw [List.getElem?_map, List.getElem?_map]
  by_cases hi : k = i
  · subst hi
    rw [List.getElem?_set_self (by exact (List.getElem?_eq_some_iff.1 hy).1), hy]; simp [e]
  · rw [List.getElem?_set_ne hi]
theorem all_set {l : List Horse} {k : Nat} {h : Horse} (hl : l.all horseOk = true) (hh : horseOk h = true) : (l.set k h).all horseOk = true := by
  rw [List.all_eq_true] at hl ⊢
  intro x hx
  rcases List.mem_or_eq_of_mem_set hx with h1 | h1
  · exact hl x h1
  · rw [h1]; exact hh
theorem grace_law {c : Clo} (hf : fault c = 0) (hne : truthsP c ≠ []) {k : Nat} {y : Horse} (hy : c.horses[k]? = some y) {g : Int} (hg : 0 ≤ g) : 
    let x := setH c k { y with grace := min 30 (y.grace + g) }; askedErr x true = 0 ∧ Wid c x ∧ (∀ p, IsPl c p → IsPl x p) ∧ x.horses.length = c.horses.length := by
  intro x
  obtain ⟨h1, h2, h3, h4, h5, h6, h7⟩ := fault_zero hf
  have hk : k < c.horses.length := (List.getElem?_eq_some_iff.1 hy).1
  have hok := List.all_eq_true.1 h4 y (List.mem_of_getElem? hy)
  simp only [horseOk, inB, Bool.and_eq_true, decide_eq_true_eq] at hok
  have hch : Chg c x := ⟨rfl, rfl, rfl, map_set_same _ hy rfl, h3, all_set h4 (by simp only [horseOk, inB, Bool.and_eq_true, decide_eq_true_eq]; omega)⟩
  have hgy : c.horses.getD k default = y := by rw [List.getD_eq_getElem?_getD, hy]; rfl
  have hw : SameWet c x := fun i => by
    show (c.horses.getD i default).wet = ((c.horses.set k _).getD i default).wet
    rw [getD_set hk]; split
    · rename_i e; subst e; rw [hgy]
    · rfl
  have := wid_grace hf hch hw hne (fun i => by
    show (c.horses.getD i default).grace ≤ ((c.horses.set k _).getD i default).grace
    rw [getD_set hk]; split
    · rename_i e; subst e; rw [hgy]; dsimp only; omega
    · exact Int.le_refl _) (Int.le_refl _)
  exact ⟨this.1, this.2, fun p hp => hch.pl hp, hch.len⟩
theorem close_law {c : Clo} (hf : fault c = 0) (hne : truthsP c ≠ []) {g : Int} (hg : 0 ≤ g) :
    let x : Clo := { c with close := min 99 (c.close + g) }; askedErr x true = 0 ∧ Wid c x ∧ (∀ p, IsPl c p → IsPl x p) ∧ x.horses.length = c.horses.length := by
  intro x
  obtain ⟨h1, h2, h3, h4, h5, h6, h7⟩ := fault_zero hf
  simp only [inB, Bool.and_eq_true, decide_eq_true_eq] at h3
  have hch : Chg c x := ⟨rfl, rfl, rfl, rfl, by simp only [inB, Bool.and_eq_true, decide_eq_true_eq]; show 0 ≤ min 99 (c.close + g) ∧ min 99 (c.close + g) ≤ 99; omega, h4⟩
  have := wid_grace hf hch (fun i => rfl) hne (fun i => Int.le_refl _) (show c.close ≤ min 99 (c.close + g) by omega)
  exact ⟨this.1, this.2, fun p hp => hch.pl hp, hch.len⟩
end Go.Proofs.Ytjilckjhdlabaaa

/- A copy of closets whose horses are copied: the row of horses. -/
namespace Go.Proofs.Ytjilckjhdlabaaa
open Go Go.RowKit
theorem rhorse_info : (Try.prog.info? 68).map (fun i => (i.zero, i.size, i.bytes)) = some (some (.agg #[.int .i64 0, .int .i64 0, .int .i64 0, .int .i64 0]), 4, 32) := by kernel_rfl
theorem slice_eq {A : Option Addr} {ad : Addr} {n k : Nat} {v : Value} (h : A = some ad) (hv : v = .slice A n k) : v = .slice (some ad) n k := by rw [hv, h]
theorem rh_cells {w : World} {A : Option Addr} {ad : Addr} {n : Nat} {l : List Horse} (hA : A = some ad) (h : RH w A n l) : ∀ j u, (horsesV l)[j]? = some u → w.cell? (ad.add j) = some u := fun j u hj => by
  have hl : j < l.length * 4 := by rw [← horsesV_length]; exact (List.getElem?_eq_some_iff.1 hj).1
  subst hA
  obtain ⟨ad', e, _, hc⟩ := h.2 (by have := h.len; omega)
  injection e with e
  subst e
  exact hc j u hj
theorem rh_one (l : List Horse) : ∀ u ∈ horsesV l, u.oneCell' = true := by
  intro u hu
  simp only [horsesV, List.mem_flatMap] at hu
  obtain ⟨x, _, hx⟩ := hu
  simp only [Horse.cells, List.mem_cons, List.not_mem_nil, or_false] at hx
  rcases hx with rfl | rfl | rfl | rfl <;> rfl
theorem own_form {W : World} {base : Nat} {e : TypeId} {size : Nat} {v : Value} {n : Nat} {xs : List Value} (h : W.ownsRow base e size v n xs) (hn : 0 < n) : ∃ g k, v = .slice (some ⟨g, 0, none⟩) n k := by
  rcases h.2 with ⟨_, h0⟩ | ⟨g, cap, cur, e, _⟩
  · omega
  · exact ⟨g, cap, e⟩
/-- one cell of a horse is stored into -/
theorem horsesV_set (l : List Horse) (k : Nat) (x : Horse) : horsesV (l.set k x) = ((((horsesV l).set (k * 4) (.int .i64 x.lo)).set (k * 4 + 1) (.int .i64 x.hi)).set (k * 4 + 2) (.int .i64 x.wet)).set (k * 4 + 3) (.int .i64 x.grace) := by
  induction l generalizing k with
  | nil => simp [horsesV]
  | cons y l ih =>
    cases k with
    | zero => simp [horsesV, Horse.cells]
    | succ k =>
      have e := ih k
      simp only [horsesV, List.set_cons_succ, List.flatMap_cons, Horse.cells, List.cons_append, List.nil_append] at e ⊢
      rw [e]
      rw [show (k + 1) * 4 = k * 4 + 4 by omega]
      simp only [List.set_cons_succ, show k * 4 + 4 + 1 = (k * 4 + 1) + 4 by omega, show k * 4 + 4 + 2 = (k * 4 + 2) + 4 by omega, show k * 4 + 4 + 3 = (k * 4 + 3) + 4 by omega]
theorem set_same {α : Type} {l : List α} {i : Nat} {x : α} (h : l[i]? = some x) : l.set i x = l := by
  refine List.ext_getElem? fun j => ?_
  by_cases hj : i = j
  · subst hj; rw [List.getElem?_set_self (List.getElem?_eq_some_iff.1 h).1, h]
  · rw [List.getElem?_set_ne hj]
theorem horsesV_at {l : List Horse} {k : Nat} {y : Horse} (h : l[k]? = some y) : (horsesV l)[k * 4]? = some (.int .i64 y.lo) ∧ (horsesV l)[k * 4 + 1]? = some (.int .i64 y.hi) ∧ (horsesV l)[k * 4 + 2]? = some (.int .i64 y.wet) ∧ (horsesV l)[k * 4 + 3]? = some (.int .i64 y.grace) :=
  ⟨by have := horsesV_get l k 0 y h (by omega); simpa [Horse.cells] using this, by have := horsesV_get l k 1 y h (by omega); simpa [Horse.cells] using this, by have := horsesV_get l k 2 y h (by omega); simpa [Horse.cells] using this, by have := horsesV_get l k 3 y h (by omega); simpa [Horse.cells] using this⟩
theorem horsesV_grace {l : List Horse} {k : Nat} {y : Horse} (h : l[k]? = some y) (g : Int) : horsesV (l.set k { y with grace := g }) = (horsesV l).set (k * 4 + 3) (.int .i64 g) := by
  obtain ⟨a, b, c, d⟩ := horsesV_at h
  rw [horsesV_set]
  dsimp only
  rw [set_same a, set_same b, set_same c]
theorem horsesV_wet {l : List Horse} {k : Nat} {y : Horse} (h : l[k]? = some y) (g : Int) : horsesV (l.set k { y with wet := g }) = (horsesV l).set (k * 4 + 2) (.int .i64 g) := by
  obtain ⟨a, b, c, d⟩ := horsesV_at h
  rw [horsesV_set]
  dsimp only
  rw [set_same a, set_same b, set_same]
  rw [List.getElem?_set_ne (by omega)]; exact d
end Go.Proofs.Ytjilckjhdlabaaa
