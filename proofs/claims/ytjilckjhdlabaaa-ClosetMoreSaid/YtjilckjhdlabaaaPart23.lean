/- Part 23 of the proof: joined from the texts Ns, Nar, Wid. -/
import Derived.Test.YtjilckjhdlabaaaPart14
import Derived.Test.YtjilckjhdlabaaaPart16
import Derived.Test.YtjilckjhdlabaaaPart13
import Derived.Test.YtjilckjhdlabaaaPart21
import Derived.Test.YtjilckjhdlabaaaPart19
set_option linter.unusedSimpArgs false
set_option linter.unusedVariables false
/- ClosetNoSooner: the plain law. -/
namespace Go.Proofs.Ytjilckjhdlabaaa
open Go Go.RowKit

theorem before_cons (i j : Int) (a b : List Int) : before (i :: a) (j :: b) = if i = j then before a b else decide (i < j) := rfl
theorem lexAll_sorted (m : Nat) : ∀ k, (lexAll m k).Pairwise fun a b => before a b = true
  | 0 => by simp [lexAll]
  | k + 1 => by
    have ih := lexAll_sorted m k
    have key : ∀ (s n : Nat), ((List.range' s n).flatMap fun (i : Nat) => (lexAll m k).map ((i : Int) :: ·)).Pairwise fun a b => before a b = true := by
      intro s n
      induction n generalizing s with
      | zero => simp
      | succ n ihn =>
        rw [List.range'_succ, List.flatMap_cons, List.pairwise_append]
        refine ⟨?_, ihn (s + 1), fun a ha b hb => ?_⟩
        · rw [List.pairwise_map]
          exact ih.imp fun {a b} hab => by rw [before_cons, if_pos rfl]; exact hab
        · obtain ⟨a', _, rfl⟩ := List.mem_map.1 ha
          obtain ⟨i, hi, hb2⟩ := List.mem_flatMap.1 hb
          obtain ⟨b', _, rfl⟩ := List.mem_map.1 hb2
          have := (List.mem_range'_1.1 hi).1
          rw [before_cons, if_neg (by omega)]
          simp; omega
    have e : lexAll m (k + 1) = (List.range' 0 m).flatMap fun (i : Nat) => (lexAll m k).map ((i : Int) :: ·) := by rw [← List.range_eq_range']; rfl
    rw [e]
    exact key 0 m
theorem hangL_sorted (m k : Nat) : (hangL m k []).Pairwise fun a b => before a b = true := by
  rw [hangL_lex _ _ _ List.nodup_nil]
  refine List.Pairwise.filter _ ?_
  simp only [List.nil_append, List.map_id']
  exact lexAll_sorted m k
theorem before_asymm {a b : List Int} (h : before a b = true) : before b a = false := by
  cases h2 : before b a with
  | false => rfl
  | true => have := before_trans a b a h h2; rw [before_irrefl] at this; cases this
theorem placeOut_iff {c : Clo} (h : askedErr c true = 0) {p : List Int} (hp : IsPl c p) (n : Int) : placeOut c p n = true ↔ goodPl c p ∧ doneAt c p ≤ n := by
  have ok := okC_of_fault (askedErr_zero h).1
  have hb : isPlaceB c p = true := (isPlaceB_iff ok.cl1 ok.cl4 p).2 hp
  unfold placeOut goodPl doneAt
  rw [hb, decide_eq_true h, Bool.true_and, Bool.and_eq_true, decide_eq_true_eq, decide_eq_true_eq]
theorem doneAt_le {c : Clo} (h : askedErr c true = 0) {p : List Int} (hp : IsPl c p) (hg : goodPl c p) : doneAt c p ≤ 99 := by
  have hh := (goodPl_iff c p).1 hg
  refine (doneAt_good hg).2 99 (by omega) fun i hi => ?_
  have h1 := hh i hi
  have h2 := goodP_range h hp hi
  have h3 := (okC_of_fault (askedErr_zero h).1).close
  omega
theorem noSooner_law {c : Clo} (hf : fault c = 0) {p : List Int} (hp : IsPl c p) :
    (∃ e : Int, (e = 10 ∨ e = 11) ∧ bestOut c = ([], 0, e) ∧ ∀ n, placeOut c p n = false) ∨
    (∃ x m, bestOut c = (x, m, 0) ∧ IsPl c x ∧ 0 ≤ m ∧ m ≤ 99 ∧ placeOut c x m = true ∧ placeOut c x (m - 1) = false ∧ placeOut c p (m - 1) = false ∧ (∀ n, placeOut c p n = true → m ≤ n) ∧ (placeOut c p m = true → before p x = false)) := by
  rcases askedErr_ii hf with h | ⟨h, _⟩
  · have ok := okC_of_fault hf
    have e1 : bestOut c = bestRes (bestP c (truthsP c)) := by unfold bestOut; rw [if_neg (by simp [h])]
    rcases bestP_spec ok.toOkH with ⟨hb, hno⟩ | ⟨q, hb, hq1, hq2, hmin, l1, l2, hl, hl1⟩
    · left
      refine ⟨10, .inl rfl, by rw [e1, hb]; rfl, fun n => ?_⟩
      cases hh : placeOut c p n with
      | false => rfl
      | true => exact absurd ((placeOut_iff h hp n).1 hh).1 (hno p hp)
    · right
      have hfalse : ∀ {y : List Int} {n : Int}, IsPl c y → n < doneAt c q → placeOut c y n = false := fun {y n} hy hn => by
        cases hh : placeOut c y n with
        | false => rfl
        | true =>
          obtain ⟨h1, h2⟩ := (placeOut_iff h hy n).1 hh
          have := hmin y hy h1
          omega
      refine ⟨q, doneAt c q, by rw [e1, hb]; rfl, hq1, doneAt_nonneg hq2, doneAt_le h hq1 hq2, (placeOut_iff h hq1 _).2 ⟨hq2, Int.le_refl _⟩, hfalse hq1 (by omega), hfalse hp (by omega), fun n hn => ?_, fun hn => ?_⟩
      · obtain ⟨h1, h2⟩ := (placeOut_iff h hp n).1 hn
        have := hmin p hp h1
        omega
      · obtain ⟨h1, h2⟩ := (placeOut_iff h hp _).1 hn
        have hm := hangL_has ok.toOkH hp
        have hs := hangL_sorted c.closets.toNat c.horses.length
        rw [hl] at hm hs
        rcases List.mem_append.1 hm with hm | hm
        · have := hl1 p hm h1; omega
        · rcases List.mem_cons.1 hm with rfl | hm
          · exact before_irrefl _
          · rw [List.pairwise_append] at hs
            exact before_asymm ((List.pairwise_cons.1 hs.2.1).1 p hm)
  · left
    refine ⟨11, .inr rfl, by unfold bestOut; rw [if_pos (by rw [h]; decide), h], fun n => ?_⟩
    have ok := okC_of_fault hf
    have hb : isPlaceB c p = true := (isPlaceB_iff ok.cl1 ok.cl4 p).2 hp
    unfold placeOut
    rw [hb, h]
    rfl
end Go.Proofs.Ytjilckjhdlabaaa

/- Closets that differ in their truths alone: fewer truths; plain. -/
namespace Go.Proofs.Ytjilckjhdlabaaa
open Go

/-- x has fewer truths than c, and some; all else is the same -/
structure Narrow (c x : Clo) : Prop where
  fc : fault c = 0
  fx : fault x = 0
  closets : x.closets = c.closets
  close : x.close = c.close
  len : x.horses.length = c.horses.length
  wet : SameWet c x
  grace : ∀ i, graceAt x i = graceAt c i
  sub : ∀ d ∈ truthsP x, d ∈ truthsP c
  ne : truthsP x ≠ []
theorem Narrow.nec {c x : Clo} (h : Narrow c x) : truthsP c ≠ [] := fun e => by
  cases hx : truthsP x with
  | nil => exact h.ne hx
  | cons d l => have := h.sub d (by rw [hx]; exact List.mem_cons_self); rw [e] at this; cases this
theorem Narrow.ec {c x : Clo} (h : Narrow c x) : askedErr c true = 0 := by unfold askedErr; rw [if_neg (by simp [h.fc]), if_neg (by simp), if_neg h.nec]
theorem Narrow.ex {c x : Clo} (h : Narrow c x) : askedErr x true = 0 := by unfold askedErr; rw [if_neg (by simp [h.fx]), if_neg (by simp), if_neg h.ne]
theorem Narrow.pl {c x : Clo} (h : Narrow c x) {p : List Int} (hp : IsPl c p) : IsPl x p := IsPl_congr h.closets h.len hp
theorem bP_sub (f : List Int → Int) {l m : List (List Int)} (hs : ∀ d ∈ l, d ∈ m) (hl : l ≠ []) : (bP f m).1 ≤ (bP f l).1 ∧ (bP f l).2 ≤ (bP f m).2 := by
  have hm : m ≠ [] := fun e => by
    cases hx : l with
    | nil => exact hl hx
    | cons d t => have := hs d (by rw [hx]; exact List.mem_cons_self); rw [e] at this; cases this
  obtain ⟨_, ⟨a, ha, e1⟩, ⟨b, hb, e2⟩⟩ := bP_spec f hl
  obtain ⟨s1, _, _⟩ := bP_spec f hm
  have t1 := (s1 a (hs a ha)).1
  have t2 := (s1 b (hs b hb)).2
  omega
theorem Narrow.wid {c x : Clo} (h : Narrow c x) : Wid c x := fun p hp i hi => by
  unfold goodP
  have e1 : (fun d => minuteR x p d i) = fun d => minuteR c p d i := funext fun d => (h.wet.minuteR p d i).symm
  have e2 : (fun d => minuteR x p d i + graceAt x i) = fun d => minuteR c p d i + graceAt c i := funext fun d => by rw [h.wet.minuteR p d i, h.grace]
  rw [e1, e2, h.close]
  have t1 := (bP_sub (fun d => minuteR c p d i) h.sub h.ne).2
  have t2 := (bP_sub (fun d => minuteR c p d i + graceAt c i) h.sub h.ne).1
  exact ⟨t1, by dsimp only; omega⟩
theorem Narrow.kept {c x : Clo} (h : Narrow c x) {p : List Int} (hp : IsPl c p) : KeptP c x p := h.wid.kept hp
theorem Narrow.sooner {c x : Clo} (h : Narrow c x) : SoonerP c x := h.wid.sooner h.len (fun p hp => h.pl hp) h.ec h.ex
theorem Narrow.ep {c x : Clo} (h : Narrow c x) {p : List Int} (hp : IsPl c p) : isPlaceB c p = true ∧ isPlaceB x p = true := by
  have okc := okC_of_fault h.fc
  have okx := okC_of_fault h.fx
  exact ⟨(isPlaceB_iff okc.cl1 okc.cl4 p).2 hp, (isPlaceB_iff okx.cl1 okx.cl4 p).2 (h.pl hp)⟩
/-- no bounds are wider -/
theorem Narrow.bounds {c x : Clo} (h : Narrow c x) {p : List Int} (hp : IsPl c p) :
    askedErr c (isPlaceB c p) = 0 ∧ askedErr x (isPlaceB x p) = 0 ∧ (boundsOut c p).length = c.horses.length ∧ (boundsOut x p).length = c.horses.length ∧
    ∀ (i : Nat) (a b : Int × Int), (boundsOut c p)[i]? = some a → (boundsOut x p)[i]? = some b → a.1 ≤ b.1 ∧ b.2 ≤ a.2 := by
  obtain ⟨e1, e2⟩ := h.ep hp
  rw [e1, e2]
  have hb : boundsOut c p = boundsTo2 c p c.horses.length := by unfold boundsOut; rw [e1, if_neg (by simp [h.ec])]
  have hx : boundsOut x p = boundsTo2 x p x.horses.length := by unfold boundsOut; rw [e2, if_neg (by simp [h.ex])]
  rw [hb, hx]
  refine ⟨h.ec, h.ex, by simp [boundsTo2], by simp [boundsTo2, h.len], fun i a b ha hb => ?_⟩
  unfold boundsTo2 at ha hb
  have hi : i < c.horses.length := by have := (List.getElem?_eq_some_iff.1 ha).1; simpa using this
  rw [List.getElem?_map, List.getElem?_range hi] at ha
  rw [List.getElem?_map, List.getElem?_range (by rw [h.len]; exact hi)] at hb
  simp only [Option.map_some, Option.some.injEq] at ha hb
  subst ha hb
  unfold boundP
  have e1 : (fun d => minuteR x p d i) = fun d => minuteR c p d i := funext fun d => (h.wet.minuteR p d i).symm
  rw [e1]
  exact bP_sub (fun d => minuteR c p d i) h.sub h.ne
/-- a verdict other than Perhaps stays -/
theorem Narrow.right {c x : Clo} (h : Narrow c x) {p : List Int} (hp : IsPl c p) {k : Nat} (hk : k < c.horses.length) {m : Int} (h0 : 0 ≤ m) (h9 : m ≤ 99) :
    (rightOut c p k m).2 = 0 ∧ (rightOut x p k m).2 = 0 ∧ ((rightOut c p k m).1 = 3 ∨ (rightOut c p k m).1 = (rightOut x p k m).1) := by
  obtain ⟨e1, e2⟩ := h.ep hp
  have h1 : isHorse c k = true := by unfold isHorse inB; simp; omega
  have h2 : isHorse x k = true := by unfold isHorse inB; have := h.len; simp; omega
  have h3 : inB m 0 99 = true := by unfold inB; simp; omega
  have a1 : rightOut c p k m = (verdict c (truthsP c) p k m, 0) := by unfold rightOut; rw [e1, h1, h3]; simp only [Bool.and_self]; rw [if_neg (by simp [h.ec])]; rfl
  have a2 : rightOut x p k m = (verdict x (truthsP x) p k m, 0) := by unfold rightOut; rw [e2, h2, h3]; simp only [Bool.and_self]; rw [if_neg (by simp [h.ex])]; rfl
  rw [a1, a2]
  refine ⟨rfl, rfl, ?_⟩
  have e3 : ∀ d, isRight x p d k m = isRight c p d k m := fun d => by unfold isRight; rw [h.wet.minuteR p d k, h.grace]
  have e4 : (truthsP x).countP (fun d => isRight x p d k m) = (truthsP x).countP fun d => isRight c p d k m := List.countP_congr fun d _ => by rw [e3]
  have hnx : 0 < (truthsP x).length := List.length_pos_iff.2 h.ne
  show verdict c (truthsP c) p k m = 3 ∨ verdict c (truthsP c) p k m = verdict x (truthsP x) p k m
  unfold verdict
  rw [e4]
  by_cases h1 : (truthsP c).countP (fun d => isRight c p d k m) = (truthsP c).length
  · right
    rw [if_pos h1, if_pos]
    rw [List.countP_eq_length] at h1 ⊢
    exact fun d hd => h1 d (h.sub d hd)
  · rw [if_neg h1]
    by_cases h2 : (truthsP c).countP (fun d => isRight c p d k m) = 0
    · right
      have h3 : (truthsP x).countP (fun d => isRight c p d k m) = 0 := by
        rw [List.countP_eq_zero] at h2 ⊢
        exact fun d hd => h2 d (h.sub d hd)
      rw [if_pos h2, h3, if_neg (by omega), if_pos rfl]
    · left; rw [if_neg h2]
/-- a placement that is good stays good, and is done no later -/
theorem Narrow.place {c x : Clo} (h : Narrow c x) {p : List Int} (hp : IsPl c p) {n : Int} (hg : placeOut c p n = true) : placeOut x p n = true := by
  rw [placeOut_iff h.ec hp] at hg
  rw [placeOut_iff h.ex (h.pl hp)]
  obtain ⟨h1, h2⟩ := hg
  have hw := h.wid p hp
  have hgx : goodPl x p := by
    rw [goodPl_iff] at h1 ⊢
    intro i hi
    rw [h.len] at hi
    have := h1 i hi; have := hw i hi; omega
  refine ⟨hgx, ?_⟩
  have : doneAt x p ≤ doneAt c p := (doneAt_good hgx).2 _ (doneAt_nonneg h1) fun i hi => by
    rw [h.len] at hi
    have := (doneAt_good h1).1 i hi; have := hw i hi; omega
  omega
/-- the smallest set, by its bits -/
theorem leave_min {c : Clo} (hf : fault c = 0) : ∃ B : Nat, B < 2 ^ c.looks.length ∧ leaveOut c = bitsR B ∧ possibleP c (bitsR B) = true ∧ ∀ b : Nat, b < 2 ^ c.looks.length → possibleP c (bitsR b) = true → (bitsR B).length ≤ (bitsR b).length := by
  have ok := okC_of_fault hf
  have h6 : c.looks.length < 6 := by have := ok.nlooks; omega
  obtain ⟨l, hl, hmem, hP, hmin⟩ := leaveP_some hf
  obtain ⟨B, hB, hBl⟩ := combs_bits h6 hmem
  refine ⟨B, hB, by unfold leaveOut; rw [if_pos hf, hl, Option.getD_some, hBl], by rw [hBl]; exact hP, fun b hb hp => ?_⟩
  rcases hmin _ (combs_has h6 hb) hp with e | hs
  · rw [e, hBl]; exact Nat.le_refl _
  · rw [hBl]
    unfold shorter at hs
    simp only [Bool.or_eq_true, decide_eq_true_eq, Bool.and_eq_true, beq_iff_eq] at hs
    omega
theorem leave_nil {c : Clo} (hf : fault c = 0) (h : leaveOut c = []) : truthsP c ≠ [] := by
  obtain ⟨B, _, hB, hP, _⟩ := leave_min hf
  rw [← hB, h] at hP
  exact (truthsP_ne (okC_of_fault hf)).2 hP
end Go.Proofs.Ytjilckjhdlabaaa

/- ClosetWider, ClosetMore: the plain laws; inside: walk. -/
namespace Go.Proofs.Ytjilckjhdlabaaa
open Go Go.RowKit

theorem dryAll_has : ∀ (hs : List Horse) (d : List Int), areNumbers hs d = true → d ∈ dryAll hs
  | [], [], _ => by simp [dryAll]
  | [], _ :: _, h => by simp [areNumbers] at h
  | _ :: _, [], h => by simp [areNumbers] at h
  | h :: hs, x :: d, hd => by
    simp only [areNumbers, Bool.and_eq_true, inB, decide_eq_true_eq] at hd
    unfold dryAll
    refine List.mem_flatMap.2 ⟨x, ?_, List.mem_map.2 ⟨d, dryAll_has hs d hd.2, rfl⟩⟩
    unfold rangeL
    exact List.mem_map.2 ⟨(x - h.lo).toNat, List.mem_range.2 (by omega), by omega⟩
/-- one horse's Dry is wider -/
def widerC (c : Clo) (k : Nat) (y : Horse) (s t : Int) : Clo := setH c k { y with lo := y.lo - s, hi := y.hi + t }
theorem wider_law {c : Clo} {k : Nat} {y : Horse} (hy : c.horses[k]? = some y) {s t : Int} (hs : 0 ≤ s) (ht : 0 ≤ t) (hf : fault c = 0) (hx : fault (widerC c k y s t) = 0) :
    (leaveOut (widerC c k y s t)).length ≤ (leaveOut c).length ∧ (leaveOut c = [] → Narrow (widerC c k y s t) c) := by
  have hk : k < c.horses.length := (List.getElem?_eq_some_iff.1 hy).1
  have hgy : c.horses.getD k default = y := by rw [List.getD_eq_getElem?_getD, hy]; rfl
  have ok := okC_of_fault hf
  have okx := okC_of_fault hx
  have hw : SameWet (widerC c k y s t) c := fun i => by
    show ((c.horses.set k _).getD i default).wet = (c.horses.getD i default).wet
    rw [getD_set hk]; split
    · rename_i e; subst e; rw [hgy]
    · rfl
  have hg : ∀ i, graceAt c i = graceAt (widerC c k y s t) i := fun i => by
    show (c.horses.getD i default).grace = ((c.horses.set k _).getD i default).grace
    rw [getD_set hk]; split
    · rename_i e; subst e; rw [hgy]
    · rfl
  have hlen : (widerC c k y s t).horses.length = c.horses.length := by show (c.horses.set k _).length = _; simp
  have hsub : ∀ d ∈ dryAll c.horses, d ∈ dryAll (widerC c k y s t).horses := fun d hd => by
    have h1 := dryAll_isDry c d hd
    refine dryAll_has _ d ((isDry_iff _ d).2 ⟨by rw [h1.len, hlen], fun i h x hi hxi => ?_⟩)
    have hi' : (c.horses.set k { y with lo := y.lo - s, hi := y.hi + t })[i]? = some h := hi
    by_cases hik : k = i
    · subst hik
      rw [List.getElem?_set_self hk] at hi'
      injection hi' with hi'
      subst hi'
      have := h1.mem k y x hy hxi
      dsimp only
      omega
    · rw [List.getElem?_set_ne hik] at hi'
      exact h1.mem i h x hi' hxi
  have hok : ∀ d l, okL (widerC c k y s t) d l = okL c d l := fun d l => by
    unfold okL
    rw [hw.minuteR]; rfl
  refine ⟨?_, fun hnil => ⟨hx, hf, rfl, rfl, hlen.symm, hw, hg, fun d hd => ?_, leave_nil hf hnil⟩⟩
  · obtain ⟨B, hB, e1, hP, _⟩ := leave_min hf
    obtain ⟨B', hB', e2, _, hmin⟩ := leave_min hx
    rw [e1, e2]
    refine hmin B hB ?_
    rw [possible_iff okx]
    rw [possible_iff ok] at hP
    obtain ⟨d, hd, h⟩ := hP
    exact ⟨d, hsub d hd, fun j l hj => by rw [hok]; exact h j l hj⟩
  · rw [truthsP_filter ok.toOkH] at hd
    rw [truthsP_filter okx.toOkH]
    obtain ⟨h1, h2⟩ := List.mem_filter.1 hd
    exact List.mem_filter.2 ⟨hsub d h1, by rw [hw.rightP (by rfl) (by rfl)]; exact h2⟩
theorem bits_more : ∀ n : Nat, n < 5 → ∀ b : Nat, b < 2 ^ n → (bitsR (b + 2 ^ n)).length = (bitsR b).length + 1 ∧ ∀ m : Nat, m < 2 ^ (n + 1) → (bitsR (m % 2 ^ n)).length ≤ (bitsR m).length := by decide +kernel
/-- one look more -/
theorem more_law {c : Clo} {l : Look} (hf : fault c = 0) (hx : fault (moreC c l) = 0) :
    (leaveOut c).length ≤ (leaveOut (moreC c l)).length ∧ (leaveOut (moreC c l)).length ≤ (leaveOut c).length + 1 ∧ (leaveOut (moreC c l) = [] → Narrow c (moreC c l)) := by
  have ok := okC_of_fault hf
  have okx := okC_of_fault hx
  have hn5 : c.looks.length < 5 := by have := okx.nlooks; unfold moreC withLooks at this; simp at this; omega
  have hlx : (moreC c l).looks.length = c.looks.length + 1 := by unfold moreC withLooks; simp
  obtain ⟨B, hB, e1, hP, hmin⟩ := leave_min hf
  obtain ⟨B', hB', e2, hP', hmin'⟩ := leave_min hx
  rw [hlx] at hB' hmin'
  have hpow : 2 ^ (c.looks.length + 1) = 2 ^ c.looks.length + 2 ^ c.looks.length := by rw [Nat.pow_succ]; omega
  have hbm := bits_more _ hn5 B hB
  have hgl : ∀ (j : Nat) (x : Look), (moreC c l).looks[j]? = some x ↔ (c.looks ++ [l])[j]? = some x := fun j x => Iff.rfl
  refine ⟨?_, ?_, fun hnil => ⟨hf, hx, rfl, rfl, rfl, fun k => rfl, fun i => rfl, fun d hd => ?_, leave_nil hx hnil⟩⟩
  · rw [e1, e2]
    refine Nat.le_trans (hmin (B' % 2 ^ c.looks.length) (Nat.mod_lt _ (Nat.two_pow_pos _)) ?_) (hbm.2 B' hB')
    rw [possible_iff okx] at hP'
    rw [possible_iff ok]
    obtain ⟨d, hd, h⟩ := hP'
    refine ⟨d, hd, fun j x hj => ?_⟩
    have hlt := (List.getElem?_eq_some_iff.1 hj).1
    rcases h j x ((hgl j x).2 (by rw [List.getElem?_append_left hlt]; exact hj)) with h1 | h1
    · left
      rw [bitsR_mem] at h1 ⊢
      rw [Nat.testBit_mod_two_pow]; simp [hlt, h1]
    · exact .inr h1
  · rw [e1, e2, ← hbm.1]
    refine hmin' (B + 2 ^ c.looks.length) (by omega) ?_
    rw [possible_iff ok] at hP
    rw [possible_iff okx]
    obtain ⟨d, hd, h⟩ := hP
    have hbit : ∀ j, (B + 2 ^ c.looks.length).testBit j = (decide (j = c.looks.length) || B.testBit j) := fun j => by
      have e := or_pow B c.looks.length hB
      rw [← e, Nat.testBit_or, Nat.testBit_two_pow, Bool.or_comm]
      by_cases hj : c.looks.length = j
      · simp [hj]
      · simp [hj, Ne.symm hj]
    refine ⟨d, hd, fun j x hj => ?_⟩
    have hj' := (hgl j x).1 hj
    rcases Nat.lt_or_ge j c.looks.length with hlt | hge
    · rw [List.getElem?_append_left hlt] at hj'
      rcases h j x hj' with h1 | h1
      · left
        rw [bitsR_mem] at h1 ⊢
        rw [hbit, h1]; simp
      · exact .inr h1
    · have : j = c.looks.length := by have := (List.getElem?_eq_some_iff.1 hj').1; simp at this; omega
      left
      rw [bitsR_mem, hbit, this]; simp
  · rw [truthsP_filter okx.toOkH] at hd
    rw [truthsP_filter ok.toOkH]
    obtain ⟨h1, h2⟩ := List.mem_filter.1 hd
    refine List.mem_filter.2 ⟨h1, ?_⟩
    rw [rightP_full okx, right_more, Bool.and_eq_true] at h2
    rw [rightP_full ok]
    exact h2.1

set_option maxRecDepth 100000 in
theorem inside_calls {A B : Option Addr} {n k j : Nat} {a b : List (Int × Int)} (w : World) (ha : RG w A n a) (hb : RG w B n b) (hn : n ≤ 1000)
    (law : ∀ (i : Nat) (x y : Int × Int), a[i]? = some x → b[i]? = some y → y.1 ≤ x.1 ∧ x.2 ≤ y.2) :
    Calls Try.prog 71 #[.slice A n k, .slice B n j] w fun e w' => e = .returned (.bool true) ∧ Later w w' := by
  have Law := hide law
  have hnn : ((n : Int) != (n : Int)) = false := by simp
  clear law
  go_enter Try.func71, Try.ntmps71
  go_wp2_with fail
  go_loopw [5] (fun v wr => ∃ i : Nat, i ≤ n ∧ v = .int .i64 i ∧ Later w wr) (fun v _ => n - (intOf v).toNat)
  case atStart => exact ⟨0, Nat.zero_le _, rfl, later_refl _⟩
  case round =>
    obtain ⟨i, hi, rfl, hL⟩ := hrel
    by_cases hlt : i < n
    · have hi1 : (i : Int) < n := by omega
      obtain ⟨b1, o1, ⟨x1, x2⟩, rfl, _, hx, hx1, hx2⟩ := ha.get hlt
      obtain ⟨b2, o2, ⟨y1, y2⟩, rfl, _, hy, hy1, hy2⟩ := hb.get hlt
      obtain ⟨h1, h2⟩ := Law.out i _ _ hx hy
      dsimp only at h1 h2 hx1 hx2 hy1 hy2
      have hd1 : decide (x1 < y1) = false := decide_eq_false (by omega)
      have hd2 : decide (y2 < x2) = false := decide_eq_false (by omega)
      have c1 := fun W (hW : Later wr W) => hx1 W (Later.trans hL hW)
      have c2 := fun W (hW : Later wr W) => hx2 W (Later.trans hL hW)
      have c3 := fun W (hW : Later wr W) => hy1 W (Later.trans hL hW)
      have c4 := fun W (hW : Later wr W) => hy2 W (Later.trans hL hW)
      clear hx hy hx1 hx2 hy1 hy2 h1 h2
      go_wp2_with fail
      refine wp_region_ext (w0 := wr) (by kernel_rfl) (by kernel_rfl) (later_refl _) ?_; (repeat (first | go_big_quiet_step ((fail)) | quiet_step ((fail)))); refine wpQuiet_nil ?_; rintro w1 ⟨⟨_, hM1⟩, rfl⟩; (try dsimp only)
      go_wp2_with fail
      go_roundw
      case rel => exact ⟨i + 1, hlt, by go_num, Later.trans hL hM1⟩
      case measure => simp [intOf]; omega
    · have hi1 : ¬ (i : Int) < n := by omega
      clear hlt
      go_wp2_with fail
      go_ret
      exact ⟨rfl, hL⟩
end Go.Proofs.Ytjilckjhdlabaaa
