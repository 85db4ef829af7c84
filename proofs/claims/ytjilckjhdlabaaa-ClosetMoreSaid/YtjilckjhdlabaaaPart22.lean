/- Part 22 of the proof: joined from the texts Rm, OpenK. -/
import Derived.Test.YtjilckjhdlabaaaPart16
import Derived.Test.YtjilckjhdlabaaaPart13
import Derived.Test.YtjilckjhdlabaaaPart9
set_option linter.unusedSimpArgs false
set_option linter.unusedVariables false
/- ClosetRoom: the plain law. -/
namespace Go.Proofs.Ytjilckjhdlabaaa
open Go

theorem mem_rangeL {lo hi x : Int} (h1 : lo ≤ x) (h2 : x ≤ hi) : x ∈ rangeL lo hi := by
  unfold rangeL
  refine List.mem_map.2 ⟨(x - lo).toNat, List.mem_range.2 (by omega), by omega⟩
theorem dryAll_pick : ∀ (hs : List Horse), (∀ h ∈ hs, h.lo ≤ h.hi) → ∀ (i : Nat) (h : Horse) (x : Int), hs[i]? = some h → h.lo ≤ x → x ≤ h.hi → ∃ d ∈ dryAll hs, d.getD i 0 = x
  | [], _, i, h, x, hi, _, _ => by simp at hi
  | y :: hs, ok, 0, h, x, hi, h1, h2 => by
    simp only [List.getElem?_cons_zero, Option.some.injEq] at hi
    subst hi
    obtain ⟨d, hd⟩ := dryAll_ne hs fun h hh => ok h (List.mem_cons_of_mem _ hh)
    refine ⟨x :: d, ?_, by simp⟩
    unfold dryAll
    exact List.mem_flatMap.2 ⟨x, mem_rangeL h1 h2, List.mem_map.2 ⟨d, hd, rfl⟩⟩
  | y :: hs, ok, i + 1, h, x, hi, h1, h2 => by
    simp only [List.getElem?_cons_succ] at hi
    obtain ⟨d, hd, he⟩ := dryAll_pick hs (fun h hh => ok h (List.mem_cons_of_mem _ hh)) i h x hi h1 h2
    refine ⟨y.lo :: d, ?_, by simpa using he⟩
    unfold dryAll
    exact List.mem_flatMap.2 ⟨y.lo, mem_rangeL (Int.le_refl _) (ok y List.mem_cons_self), List.mem_map.2 ⟨d, hd, rfl⟩⟩
/-- what the two neighbours add -/
def addK (c : Clo) (p : List Int) (i : Nat) : Int := wetAt c (atFrom p (p.getD i 0 - 1) 0) + wetAt c (atFrom p (p.getD i 0 + 1) 0)
theorem minuteR_addK (c : Clo) (p d : List Int) (i : Nat) : minuteR c p d i = d.getD i 0 + addK c p i := by unfold minuteR addK; omega
theorem bP_dry {c : Clo} (ok : OkH c) {i : Nat} {h : Horse} (hi : c.horses[i]? = some h) (K : Int) : bP (fun d => d.getD i 0 + K) (dryAll c.horses) = (h.lo + K, h.hi + K) := by
  have okl : ∀ h ∈ c.horses, h.lo ≤ h.hi := fun h hh => by have := ok.horse h hh; omega
  obtain ⟨d0, hd0⟩ := dryAll_ne c.horses okl
  have hne : dryAll c.horses ≠ [] := fun e => by rw [e] at hd0; cases hd0
  obtain ⟨s1, ⟨a, ha, s2⟩, ⟨b, hb, s3⟩⟩ := bP_spec (fun d => d.getD i 0 + K) hne
  have hrg : ∀ d ∈ dryAll c.horses, h.lo ≤ d.getD i 0 ∧ d.getD i 0 ≤ h.hi := fun d hd => by
    have hdr := dryAll_isDry c d hd
    have hlt : i < d.length := by rw [hdr.len]; exact (List.getElem?_eq_some_iff.1 hi).1
    rw [List.getD_eq_getElem?_getD, List.getElem?_eq_getElem hlt]
    exact hdr.mem i h _ hi (List.getElem?_eq_getElem hlt)
  have hy := okl h (List.mem_of_getElem? hi)
  obtain ⟨u, hu, e1⟩ := dryAll_pick c.horses okl i h h.lo hi (Int.le_refl _) hy
  obtain ⟨v, hv, e2⟩ := dryAll_pick c.horses okl i h h.hi hi hy (Int.le_refl _)
  have t1 := (s1 u hu).1
  have t2 := (s1 v hv).2
  have t3 := (hrg a ha).1
  have t4 := (hrg b hb).2
  (try dsimp only at s2 s3 t1 t2)
  rw [e1] at t1
  rw [e2] at t2
  ext
  · show (bP _ _).1 = h.lo + K; omega
  · show (bP _ _).2 = h.hi + K; omega
theorem truthsP_bare {c : Clo} (hf : fault c = 0) (hl : c.looks = []) : truthsP c = dryAll c.horses := by
  have ok := okC_of_fault hf
  rw [truthsP_filter ok.toOkH]
  refine List.filter_eq_self.2 fun d _ => ?_
  rw [rightP_full ok, rightBits_full]
  intro j l hj
  rw [hl] at hj; simp at hj
theorem goodP_bare {c : Clo} (hf : fault c = 0) (hl : c.looks = []) (p : List Int) {i : Nat} {h : Horse} (hi : c.horses[i]? = some h) :
    goodP c (truthsP c) p i = (h.hi + addK c p i, min c.close (h.lo + (addK c p i + h.grace))) := by
  have ok := okC_of_fault hf
  rw [truthsP_bare hf hl]
  have hg : graceAt c i = h.grace := by unfold graceAt; rw [List.getD_eq_getElem?_getD, hi]; rfl
  unfold goodP
  have e1 : (fun d => minuteR c p d i) = fun d => d.getD i 0 + addK c p i := funext fun d => minuteR_addK c p d i
  have e2 : (fun d => minuteR c p d i + graceAt c i) = fun d => d.getD i 0 + (addK c p i + h.grace) := funext fun d => by rw [minuteR_addK, hg]; omega
  rw [e1, e2, bP_dry ok.toOkH hi, bP_dry ok.toOkH hi]
theorem askedErr_bare {c : Clo} (hf : fault c = 0) (hl : c.looks = []) : askedErr c true = 0 := by
  have ok := okC_of_fault hf
  obtain ⟨d0, hd0⟩ := dryAll_ne c.horses fun h hh => by have := ok.horse h hh; omega
  unfold askedErr
  rw [if_neg (by simp [hf]), if_neg (by simp), if_neg]
  rw [truthsP_bare hf hl]
  intro e; rw [e] at hd0; cases hd0
/-- one closet more -/
def roomC (c : Clo) : Clo := { c with closets := min 4 (c.closets + 1) }
theorem roomC_pl {c : Clo} (hf : fault c = 0) {p : List Int} (h : IsPl c p) : IsPl (roomC c) p := by
  have ok := okC_of_fault hf
  refine ⟨h.len, fun x hx => ?_, h.nodup⟩
  have := h.mem x hx
  have := ok.cl4
  show 0 ≤ x ∧ x < min 4 (c.closets + 1)
  omega
theorem roomC_fault {c : Clo} (hf : fault c = 0) : fault (roomC c) = 0 := by
  obtain ⟨h1, h2, h3, h4, h5, h6, h7⟩ := fault_zero hf
  have ok := okC_of_fault hf
  have hcl : 1 ≤ (roomC c).closets ∧ (roomC c).closets ≤ 4 := by show 1 ≤ min 4 (c.closets + 1) ∧ min 4 (c.closets + 1) ≤ 4; have := ok.cl1; omega
  rw [fault_many (c := roomC c) (by show ¬ (4 < (roomC c).closets ∨ 4 < c.horses.length ∨ 5 < c.looks.length); omega) (by omega) h3 h4 ((isPlaceB_iff hcl.1 hcl.2 _).2 (roomC_pl hf ok.hung)) h6]
  exact if_neg (show ¬ 2000 < many c by omega)
theorem room_law {c : Clo} (hf : fault c = 0) (hne : truthsP c ≠ []) : SoonerP c (roomC c) := by
  have hfx := roomC_fault hf
  have okc := okC_of_fault hf
  have okx := okC_of_fault hfx
  have ht : truthsP c = truthsP (roomC c) := truthsP_congr okc.toOkH okx.toOkH (fun k => rfl) rfl rfl rfl
  have ec : askedErr c true = 0 := by unfold askedErr; rw [if_neg (by simp [hf]), if_neg (by simp), if_neg hne]
  have ex : askedErr (roomC c) true = 0 := by unfold askedErr; rw [if_neg (by simp [hfx]), if_neg (by simp), if_neg (by rw [← ht]; exact hne)]
  have hw : Wid c (roomC c) := fun p hp i hi => by
    rw [← ht]
    exact ⟨Int.le_refl _, Int.le_refl _⟩
  exact hw.sooner rfl (fun p hp => roomC_pl hf hp) ec ex
/-- without looks; without the last horse, too -/
def bareC (c : Clo) : Clo := withLooks c []
def lessC (c : Clo) (n : Nat) : Clo := { c with horses := c.horses.take n, hung := c.hung.take n, looks := [] }
theorem bareC_fault {c : Clo} (hf : fault c = 0) : fault (bareC c) = 0 := fault_looks hf (by simp) (by simp)
theorem isPl_take {c : Clo} {n : Nat} (hn : n ≤ c.horses.length) {p : List Int} (h : IsPl c p) : IsPl (lessC c n) (p.take n) := by
  refine ⟨?_, fun x hx => h.mem x (List.mem_of_mem_take hx), List.Sublist.nodup (List.take_sublist _ _) h.nodup⟩
  show (p.take n).length = (c.horses.take n).length
  rw [List.length_take, List.length_take, h.len]
theorem many_take {c : Clo} (ok : OkH c) (n : Nat) : many (lessC c n) ≤ many c := by
  have okh : ∀ h ∈ c.horses, 1 ≤ h.lo ∧ h.lo ≤ h.hi ∧ h.hi ≤ 60 := fun h hh => by have := ok.horse h hh; omega
  have key : ∀ (l : List Horse) (a : Int), (∀ h ∈ l, 1 ≤ sizeH h) → 0 ≤ a → a ≤ 3000 → a ≤ l.foldl (fun n h => min 3000 (n * sizeH h)) a := by
    intro l
    induction l with
    | nil => intro a _ _ _; exact Int.le_refl _
    | cons h l ih =>
      intro a hs h0 h3
      have o := hs h List.mem_cons_self
      have e1 : a * 1 ≤ a * sizeH h := Int.mul_le_mul_of_nonneg_left o h0
      have := ih (min 3000 (a * sizeH h)) (fun x hx => hs x (List.mem_cons_of_mem _ hx)) (by omega) (by omega)
      rw [List.foldl_cons]
      omega
  have h1 := many_range (c := lessC c n) fun h hh => okh h (List.mem_of_mem_take hh)
  have e : many c = (c.horses.drop n).foldl (fun n h => min 3000 (n * sizeH h)) (many (lessC c n)) := by
    show c.horses.foldl _ 1 = (c.horses.drop n).foldl _ ((c.horses.take n).foldl _ 1)
    rw [← List.foldl_append, List.take_append_drop]
  rw [e]
  exact key _ _ (fun h hh => by have := okh h (List.mem_of_mem_drop hh); unfold sizeH; omega) (by omega) h1.2
theorem lessC_fault {c : Clo} (hf : fault c = 0) {n : Nat} (hn : n ≤ c.horses.length) : fault (lessC c n) = 0 := by
  obtain ⟨h1, h2, h3, h4, h5, h6, h7⟩ := fault_zero hf
  have ok := okC_of_fault hf
  have hl : (c.horses.take n).length ≤ c.horses.length := by rw [List.length_take]; omega
  have hh : (lessC c n).hung = c.hung.take n := rfl
  rw [fault_many (c := lessC c n) (by show ¬ (4 < c.closets ∨ 4 < (c.horses.take n).length ∨ 5 < ([] : List Look).length); simp only [List.length_nil]; omega) h2 h3 ?_ ?_ (by rfl)]
  · exact if_neg (by have := many_take ok.toOkH n; omega)
  · show (c.horses.take n).all horseOk = true
    rw [List.all_eq_true] at h4 ⊢
    exact fun x hx => h4 x (List.mem_of_mem_take hx)
  · exact (isPlaceB_iff (c := lessC c n) ok.cl1 ok.cl4 _).2 (isPl_take hn ok.hung)
theorem wetAt_less {c : Clo} (ok : OkH c) (n : Nat) {p : List Int} (hl : p.length = c.horses.length) (x : Int) : wetAt (lessC c n) (atFrom (p.take n) x 0) ≤ wetAt c (atFrom p x 0) := by
  have h0 : 0 ≤ wetAt c (atFrom p x 0) := by
    rcases atFrom_range p x 0 with e | e
    · rw [e]; unfold wetAt; rw [if_neg (by omega)]; exact Int.le_refl _
    · exact (wetAt_range ok _ (by omega)).1
  by_cases hx : x ∈ p.take n
  · have e : ∀ (q : List Int) (m : Nat) (j : Int), x ∈ q.take m → atFrom (q.take m) x j = atFrom q x j := by
      intro q
      induction q with
      | nil => intro m j h; simp at h
      | cons y q ih =>
        intro m j h
        cases m with
        | zero => simp at h
        | succ m =>
          rw [List.take_succ_cons] at h ⊢
          rw [atFrom_cons, atFrom_cons]
          by_cases hy : y = x
          · rw [if_pos hy, if_pos hy]
          · rw [if_neg hy, if_neg hy]
            exact ih m (j + 1) ((List.mem_cons.1 h).resolve_left (Ne.symm hy))
    rw [e p n 0 hx]
    have hr := atFrom_range (p.take n) x 0
    rw [e p n 0 hx, List.length_take] at hr
    unfold wetAt
    split
    · show ((c.horses.take n).getD _ default).wet ≤ _
      have hlt : (atFrom p x 0).toNat < n := by omega
      rw [List.getD_eq_getElem?_getD, List.getD_eq_getElem?_getD, List.getElem?_take_of_lt hlt]
      exact Int.le_refl _
    · exact Int.le_refl _
  · rw [atFrom_none hx]
    have : wetAt (lessC c n) (-1) = 0 := by unfold wetAt; rw [if_neg (by omega)]
    omega
theorem less_law {c : Clo} (hf : fault c = 0) {n : Nat} (hn : n ≤ c.horses.length) : SoonerP (bareC c) (lessC c n) := by
  have hfy := bareC_fault hf
  have hfz := lessC_fault hf hn
  have ok := okC_of_fault hf
  have ey := askedErr_bare hfy rfl
  have ez := askedErr_bare hfz rfl
  have hzn : (lessC c n).horses.length = n := by show (c.horses.take n).length = n; rw [List.length_take]; omega
  refine sooner_of ey ez fun p hp hg => ?_
  have hp' : IsPl c p := ⟨hp.len, hp.mem, hp.nodup⟩
  have hpz := isPl_take hn hp'
  -- what is so of each horse that stays
  have key : ∀ i, i < n → (goodP (lessC c n) (truthsP (lessC c n)) (p.take n) i).1 ≤ (goodP (bareC c) (truthsP (bareC c)) p i).1 ∧ (goodP (lessC c n) (truthsP (lessC c n)) (p.take n) i).1 ≤ (goodP (lessC c n) (truthsP (lessC c n)) (p.take n) i).2 := by
    intro i hi
    have hic : i < c.horses.length := by omega
    have h1 : c.horses[i]? = some c.horses[i] := List.getElem?_eq_getElem hic
    have h2 : (lessC c n).horses[i]? = some c.horses[i] := by show (c.horses.take n)[i]? = _; rw [List.getElem?_take_of_lt hi]; exact h1
    have hgi := (goodPl_iff _ p).1 hg i hic
    have hgy := goodP_bare hfy rfl p (h := c.horses[i]) h1
    rw [hgy] at hgi
    rw [hgy, goodP_bare hfz rfl (p.take n) h2]
    have hpi : (p.take n).getD i 0 = p.getD i 0 := by rw [List.getD_eq_getElem?_getD, List.getD_eq_getElem?_getD, List.getElem?_take_of_lt hi]
    have hk : addK (lessC c n) (p.take n) i ≤ addK (bareC c) p i := by
      unfold addK
      rw [hpi]
      have a1 := wetAt_less ok.toOkH n hp.len (p.getD i 0 - 1)
      have a2 := wetAt_less ok.toOkH n hp.len (p.getD i 0 + 1)
      have b1 : ∀ k, wetAt (bareC c) k = wetAt c k := fun k => rfl
      rw [b1, b1]
      omega
    have hcl : (lessC c n).close = (bareC c).close := rfl
    dsimp only at hgi ⊢
    rw [hcl]
    omega
  refine ⟨p.take n, hpz, ?_, ?_⟩
  · rw [goodPl_iff]
    intro i hi
    rw [hzn] at hi
    exact (key i hi).2
  · have hgz : goodPl (lessC c n) (p.take n) := by rw [goodPl_iff]; intro i hi; rw [hzn] at hi; exact (key i hi).2
    refine (doneAt_good hgz).2 _ (doneAt_nonneg hg) fun i hi => ?_
    rw [hzn] at hi
    have := (doneAt_good hg).1 i (by show i < c.horses.length; omega)
    have := (key i hi).1
    omega
end Go.Proofs.Ytjilckjhdlabaaa

/- The capacities of a Closet that came in. -/
namespace Go.Proofs.Ytjilckjhdlabaaa
open Go Go.RowKit Go.ChangeShapes Go.WideShapes Go.Deep Go.Joins
section
variable {H : Type} {enc : TypeId × Value → H} {w : World}
theorem cap_ints {fuel : Nat} {A : Option Addr} {n k : Nat} {x : DataW H × List MemPlace} (h : DataW.trod enc Try.prog w 0 (fun _ => true) true fuel 23 [.slice A n k] = some x) : n ≤ k := by
  rcases open_ints Try.underlying23 Try.underlying3 (by kernel_rfl) h with ⟨hc, _⟩ | ⟨a, len, cap, zs, hc, _, hl, _⟩
  · injection hc with hc; injection hc with _ e1 e2; omega
  · injection hc with hc; injection hc with _ e1 e2; omega
theorem cap_horses {fuel : Nat} {A : Option Addr} {n k : Nat} {x : DataW H × List MemPlace} (h : DataW.trod enc Try.prog w 0 (fun _ => true) true fuel 22 [.slice A n k] = some x) : n ≤ k := by
  rcases open_slice Try.underlying22 h with ⟨hc, _⟩ | ⟨a, len, cap, m, n, D, Pl, hc, _, hl, _⟩
  · injection hc with hc; injection hc with _ e1 e2; omega
  · injection hc with hc; injection hc with _ e1 e2; omega
theorem cap_looks {fuel : Nat} {A : Option Addr} {n k : Nat} {x : DataW H × List MemPlace} (h : DataW.trod enc Try.prog w 0 (fun _ => true) true fuel 24 [.slice A n k] = some x) : n ≤ k := by
  rcases open_slice Try.underlying24 h with ⟨hc, _⟩ | ⟨a, len, cap, m, n, D, Pl, hc, _, hl, _⟩
  · injection hc with hc; injection hc with _ e1 e2; omega
  · injection hc with hc; injection hc with _ e1 e2; omega
set_option maxRecDepth 100000 in
theorem closet_caps {A1 A2 A3 : Option Addr} {n1 k1 n2 k2 n3 k3 : Nat} {c : Clo} {d : DataW H} {p : List MemPlace} (h : DataW.Trod enc Try.prog w 0 (fun _ => true) true 26 (.agg #[.int .i64 c.closets, .int .i64 c.close, .slice A1 n1 k1, .slice A2 n2 k2, .slice A3 n3 k3]) d p) : n1 ≤ k1 ∧ n2 ≤ k2 ∧ n3 ≤ k3 := by
  obtain ⟨fuel, hf0⟩ := h
  obtain ⟨xs, m, _, _, _, hxl, hf⟩ := DataW.trod_struct Try.underlying26 hf0
  match xs, hxl with
  | [y0, y1, y2, y3, y4], _ =>
    have f2 := hf 2 _ rfl
    have f3 := hf 3 _ rfl
    have f4 := hf 4 _ rfl
    simp [Value.cells, cells_int, cells_horses, cells_ints, cells_looks] at f2 f3 f4
    exact ⟨cap_horses f2, cap_ints f3, cap_looks f4⟩
end
end Go.Proofs.Ytjilckjhdlabaaa
