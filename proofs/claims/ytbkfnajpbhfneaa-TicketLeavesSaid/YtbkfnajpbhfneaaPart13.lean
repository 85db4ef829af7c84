/- Part 13 of the proof: joined from the texts LvO, TrM, TrN, TrP, LvQ, LvS, AppH, LvL, RowS. -/
import Derived.Test.YtbkfnajpbhfneaaPart3
import Derived.Test.YtbkfnajpbhfneaaPart7
import Derived.Test.YtbkfnajpbhfneaaPart6
import Derived.Test.YtbkfnajpbhfneaaPart1
import Derived.Test.YtbkfnajpbhfneaaPart10
import Derived.Deep.RegionLawGrows
import Derived.Deep.Onto
import Derived.SizedLaws
set_option linter.unusedSimpArgs false
set_option linter.unusedVariables false
/- Plain laws: houses with other clips; the smallest set; the first wrong clip; answers in a truth. -/
namespace Go.Proofs.Ytbkfnajpbhfneaa

/-! ### valid, by its parts -/
theorem fault_of {c : Hou} (ok : OkH c) (hm : many c ≤ 2000) : fault c = 0 := by
  have h1 := ok.n1
  have h2 := ok.n2
  have h3 := ok.n3
  have h4 := ok.hour
  have h5 := ok.grace
  have a1 : c.clocks.all clockOk = true := List.all_eq_true.2 fun r hr => by have := ok.clock r hr; unfold clockOk; simp; omega
  have a2 : c.clips.all (clipOk c.clocks.length c.tickets.length) = true := List.all_eq_true.2 fun x hx => by have := ok.clip x hx; unfold clipOk inB; simp; omega
  have a3 : (List.range c.tickets.length).all (fun i => tickOk (tickAt c i) && ofOk c i) = true := List.all_eq_true.2 fun i hi => by
    have hi2 := List.mem_range.1 hi
    have t1 := ok.tick _ (tickAt_mem hi2)
    have t2 := ok.two i hi2
    unfold tickOk inB ofOk; simp; omega
  unfold fault
  rw [a1, a2, a3, if_neg (by omega), if_neg (by unfold inB; simp; omega), if_neg (by simp), if_neg (by simp), if_neg (by simp), if_neg (by omega)]

theorem asked_cases {c : Hou} (hf : fault c = 0) : (askedErr c 0 = 0 ∧ truthsP c ≠ [] ∧ truths c ≠ []) ∨ (askedErr c 0 = 11 ∧ truthsP c = [] ∧ truths c = []) := by
  by_cases h : truthsP c = []
  · exact .inr ⟨askedErr_none hf h, h, (truths_nil hf).1 h⟩
  · exact .inl ⟨askedErr_ok hf h, h, (truths_ne hf).1 h⟩
theorem truthsP_ne {c : Hou} (ok : OkH c) : truthsP c ≠ [] ↔ possibleP c [] = true := by
  rw [truthsP_filter ok]
  unfold possibleP
  rw [List.any_eq_true, ne_eq, List.filter_eq_nil_iff]
  constructor
  · intro h
    apply Classical.byContradiction
    intro h2
    exact h fun d hd h3 => h2 ⟨d, hd, h3⟩
  · rintro ⟨d, hd, h⟩ h2
    exact h2 d hd h
theorem askedErr_poss {c : Hou} (hf : fault c = 0) : askedErr c 0 = if possibleP c [] = true then 0 else 11 := by
  have ok := okH_of_fault hf
  by_cases h : possibleP c [] = true
  · rw [if_pos h, askedErr_ok hf ((truthsP_ne ok).2 h)]
  · rw [if_neg h, askedErr_none hf]
    apply Classical.byContradiction
    intro h2
    exact h ((truthsP_ne ok).1 h2)

/-! ### some of the clips -/
def someTo (c : Hou) (bits j : Nat) : List Cp := ((List.range j).filter fun i => bits.testBit i).map (clipAt c)
theorem someTo_hit {c : Hou} {bits s : Nat} {x : Cp} (hx : c.clips[s]? = some x) (h : bits / 2 ^ s % 2 = 1) : someTo c bits (s + 1) = someTo c bits s ++ [x] := by
  have hb : bits.testBit s = true := by rw [Nat.testBit_eq_decide_div_mod_eq]; simpa using h
  unfold someTo
  rw [List.range_succ, List.filter_append, List.map_append]
  simp [hb, clipAt_of hx]
theorem someTo_miss {c : Hou} {bits s : Nat} (h : ¬ bits / 2 ^ s % 2 = 1) : someTo c bits (s + 1) = someTo c bits s := by
  have hb : bits.testBit s = false := by rw [Nat.testBit_eq_decide_div_mod_eq]; simpa using h
  unfold someTo
  rw [List.range_succ, List.filter_append, List.map_append]
  simp [hb]
theorem someTo_len (c : Hou) (bits j : Nat) : (someTo c bits j).length ≤ j := by
  unfold someTo
  rw [List.length_map]
  refine Nat.le_trans (List.length_filter_le _ _) ?_
  simp
def someH (c : Hou) (bits : Nat) : Hou := withClips c (someTo c bits c.clips.length)
theorem clips_map (c : Hou) : (List.range c.clips.length).map (clipAt c) = c.clips := by
  apply List.ext_getElem?
  intro i
  rw [List.getElem?_map]
  by_cases hi : i < c.clips.length
  · rw [List.getElem?_range hi, Option.map_some, List.getElem?_eq_getElem hi, clipAt_of (List.getElem?_eq_getElem hi)]
  · rw [List.getElem?_eq_none (by simpa using hi), List.getElem?_eq_none (by omega)]; rfl
theorem some_sub (c : Hou) (bits : Nat) : List.Sublist (someTo c bits c.clips.length) c.clips := by
  have h : List.Sublist (someTo c bits c.clips.length) ((List.range c.clips.length).map (clipAt c)) := List.Sublist.map _ List.filter_sublist
  rwa [clips_map] at h
theorem ofR_count (c : Hou) (t : Int) : (ofR c t).length = c.clips.countP fun x => decide (x.ticket = t) := by
  have h : c.clips.countP (fun x => decide (x.ticket = t)) = ((List.range c.clips.length).map (clipAt c)).countP fun x => decide (x.ticket = t) := by rw [clips_map]
  rw [h, List.countP_map, List.countP_eq_length_filter]; rfl
theorem ok_sub {c : Hou} (ok : OkH c) {l : List Cp} (h : List.Sublist l c.clips) : OkH (withClips c l) :=
  ⟨ok.n1, ok.n2, Nat.le_trans h.length_le ok.n3, ok.hour, ok.grace, ok.clock, ok.tick, fun x hx => ok.clip x (h.subset hx), fun i hi => by
    have h1 := ok.two i hi
    rw [ofR_count] at h1 ⊢
    exact Nat.le_trans (h.countP_le) h1⟩
theorem fault_sub {c : Hou} (hf : fault c = 0) {l : List Cp} (h : List.Sublist l c.clips) : fault (withClips c l) = 0 :=
  fault_of (ok_sub (okH_of_fault hf) h) (show many c ≤ 2000 from many_le hf)
theorem some_fault {c : Hou} (hf : fault c = 0) (bits : Nat) : fault (someH c bits) = 0 := fault_sub hf (some_sub c bits)
/-- possible, by the clips in their order -/
theorem poss_pw {c : Hou} (ok : OkH c) : possibleP c [] = true ↔ ∃ d ∈ errAll c.clocks, c.clips.Pairwise fun x y => minuteC d x ≤ minuteC d y := by
  rw [possible_iff ok]
  refine exists_congr fun d => and_congr_right fun _ => ?_
  rw [List.pairwise_iff_getElem]
  constructor
  · intro h i j hi hj hij
    have := h i j hij hj (by simp) (by simp)
    unfold trueM at this
    rwa [clipAt_of (List.getElem?_eq_getElem hi), clipAt_of (List.getElem?_eq_getElem hj)] at this
  · intro h j k hjk hk _ _
    have := h j k (by omega) hk hjk
    unfold trueM
    rwa [clipAt_of (List.getElem?_eq_getElem (by omega)), clipAt_of (List.getElem?_eq_getElem hk)]
theorem some_pw (c : Hou) (bits n : Nat) (R : Cp → Cp → Prop) : (someTo c bits n).Pairwise R ↔ ∀ j k, j < k → k < n → bits.testBit j = true → bits.testBit k = true → R (clipAt c j) (clipAt c k) := by
  unfold someTo
  rw [List.pairwise_map, List.pairwise_filter, List.pairwise_iff_getElem]
  constructor
  · intro h j k hjk hk h1 h2
    have := h j k (by simp; omega) (by simp; omega) hjk
    simp only [List.getElem_range] at this
    exact this h1 h2
  · intro h i j hi hj hij h1 h2
    simp only [List.getElem_range] at h1 h2 ⊢
    simp only [List.length_range] at hj
    exact h i j hij hj h1 h2
theorem poss_some {c : Hou} (hf : fault c = 0) (bits : Nat) : possibleP (someH c bits) [] = true ↔ ∃ d ∈ errAll c.clocks, ∀ j k, j < k → k < c.clips.length → bits.testBit j = true → bits.testBit k = true → trueM c d j ≤ trueM c d k := by
  rw [poss_pw (okH_of_fault (some_fault hf bits))]
  refine exists_congr fun d => and_congr_right fun _ => ?_
  exact some_pw c bits c.clips.length fun x y => minuteC d x ≤ minuteC d y
theorem some_err {c : Hou} (hf : fault c = 0) (bits : Nat) : askedErr (someH c bits) 0 = if possibleP (someH c bits) [] = true then 0 else 11 := askedErr_poss (some_fault hf bits)
theorem poss_some_take {c : Hou} (hf : fault c = 0) (j : Nat) : possibleP (someH c (2 ^ j - 1)) [] = possibleP (withClips c (c.clips.take j)) [] := by
  rw [Bool.eq_iff_iff, poss_some hf, possible_iff (okH_take (okH_of_fault hf) j)]
  refine exists_congr fun d => and_congr_right fun _ => ?_
  have hl : (withClips c (c.clips.take j)).clips.length = min j c.clips.length := by show (c.clips.take j).length = _; rw [List.length_take]
  constructor
  · intro h a b hab hb _ _
    rw [hl] at hb
    rw [trueM_take (by omega), trueM_take (by omega)]
    exact h a b hab (by omega) (by rw [Nat.testBit_two_pow_sub_one]; simp; omega) (by rw [Nat.testBit_two_pow_sub_one]; simp; omega)
  · intro h a b hab hb h1 h2
    rw [Nat.testBit_two_pow_sub_one, decide_eq_true_eq] at h1 h2
    have := h a b hab (by rw [hl]; omega) (by simp) (by simp)
    rwa [trueM_take h1, trueM_take h2] at this
theorem poss_take {c : Hou} (hf : fault c = 0) {j : Nat} (hj : ∀ i, i < j → firstBad c i = false) : possibleP (withClips c (c.clips.take j)) [] = true := by
  cases j with
  | zero =>
    have ok := okH_of_fault hf
    rw [poss_pw (okH_take ok 0)]
    obtain ⟨d, hd⟩ := errAll_ne c.clocks fun h hh => (ok.clock h hh).2.1
    exact ⟨d, hd, by show (List.take 0 c.clips).Pairwise _; simp⟩
  | succ j =>
    have := hj j (Nat.lt_succ_self _)
    unfold firstBad at this
    simpa using this
theorem firstLaw {c : Hou} (hf : fault c = 0) :
    (firstOut c = (0, 7) ∧ askedErr c 0 = 0) ∨
    (∃ j : Nat, j < c.clips.length ∧ firstOut c = ((j : Int), 0) ∧ askedErr (someH c (2 ^ j - 1)) 0 = 0 ∧ askedErr (someH c (2 ^ (j + 1) - 1)) 0 = 11) := by
  unfold firstOut
  rw [if_neg (by simp [hf])]
  cases hq : (List.range c.clips.length).find? (firstBad c) with
  | none =>
    left
    refine ⟨rfl, ?_⟩
    rw [List.find?_eq_none] at hq
    rw [askedErr_poss hf, if_pos]
    have := poss_take hf (j := c.clips.length) fun i hi => by simpa using hq i (by simpa using hi)
    rw [List.take_length] at this
    exact this
  | some j =>
    right
    rw [List.find?_range_eq_some] at hq
    obtain ⟨h1, h2, h3⟩ := hq
    refine ⟨j, by simpa using h2, rfl, ?_, ?_⟩
    · rw [some_err hf, if_pos]
      rw [poss_some_take hf]
      exact poss_take hf fun i hi => by simpa using h3 i hi
    · rw [some_err hf, if_neg]
      rw [poss_some_take hf]
      unfold firstBad at h1
      simpa using h1

/-! ### the smallest set -/
def orTo (l : List Int) (j : Nat) : Nat := (l.take j).foldl (fun a x => a ||| 2 ^ x.toNat) 0
theorem orTo_succ {l : List Int} {j : Nat} {x : Int} (h : l[j]? = some x) : orTo l (j + 1) = orTo l j ||| 2 ^ x.toNat := by
  unfold orTo; rw [List.take_add_one, h, Option.toList_some, List.foldl_append]; rfl
def chkB (n : Nat) (l : List Int) : Bool := (List.range l.length).all fun i => decide (0 ≤ l.getD i 0) && (decide (l.getD i 0 < n) && (decide (i = 0) || decide (l.getD (i - 1) 0 < l.getD i 0)))
theorem bits_facts : ((List.range 11).all fun n => (List.range (2 ^ n)).all fun b => chkB n (bitList n b 0) && (orTo (bitList n b 0) (bitList n b 0).length == b)) = true := by decide +kernel
theorem bitsR_facts {n : Nat} (hn : n < 11) {b : Nat} (hb : b < 2 ^ n) : chkB n (bitsR b) = true ∧ orTo (bitsR b) (bitsR b).length = b := by
  have h := List.all_eq_true.1 (List.all_eq_true.1 bits_facts n (List.mem_range.2 hn)) b (List.mem_range.2 hb)
  rw [Bool.and_eq_true, beq_iff_eq] at h
  rw [bitsR_fuel hb]
  exact h
theorem chkB_get {n : Nat} {l : List Int} (h : chkB n l = true) {i : Nat} (hi : i < l.length) : ∃ x : Nat, l[i]? = some (x : Int) ∧ x < n ∧ (0 < i → ∃ y : Nat, l[i - 1]? = some (y : Int) ∧ y < x) := by
  unfold chkB at h
  have h0 := fun k (hk : k < l.length) => List.all_eq_true.1 h k (by simpa using hk)
  have hg : ∀ k (hk : k < l.length), l.getD k 0 = l[k] := fun k hk => by rw [List.getD_eq_getElem?_getD, List.getElem?_eq_getElem hk]; rfl
  have h1 := h0 i hi
  simp only [Bool.and_eq_true, Bool.or_eq_true, decide_eq_true_eq] at h1
  rw [hg i hi] at h1
  refine ⟨l[i].toNat, by rw [List.getElem?_eq_getElem hi, Int.toNat_of_nonneg h1.1], by omega, fun hp => ?_⟩
  have hi2 : i - 1 < l.length := by omega
  have h2 := h0 (i - 1) hi2
  simp only [Bool.and_eq_true, Bool.or_eq_true, decide_eq_true_eq] at h2
  have h3 := h1.2.2.resolve_left (by omega)
  rw [hg (i - 1) hi2] at h2 h3
  exact ⟨l[i - 1].toNat, by rw [List.getElem?_eq_getElem hi2, Int.toNat_of_nonneg h2.1], by omega⟩
theorem orTo_lt {l : List Int} {n : Nat} (h : ∀ x ∈ l, x.toNat < n) (j : Nat) : orTo l j < 2 ^ n := by
  unfold orTo
  have key : ∀ (m : List Int) (a : Nat), (∀ x ∈ m, x.toNat < n) → a < 2 ^ n → m.foldl (fun a x => a ||| 2 ^ x.toNat) a < 2 ^ n := by
    intro m
    induction m with
    | nil => intro a _ h; exact h
    | cons y m ih =>
      intro a hm ha
      rw [List.foldl_cons]
      refine ih _ (fun x hx => hm x (List.mem_cons_of_mem _ hx)) ?_
      exact Nat.or_lt_two_pow ha (Nat.pow_lt_pow_right (by omega) (hm y List.mem_cons_self))
  exact key _ _ (fun x hx => h x (List.mem_of_mem_take hx)) (Nat.two_pow_pos _)
theorem full_sub {c : Hou} {b : Nat} (hb : b < 2 ^ c.clips.length) (j : Nat) : (full c - b).testBit j = (decide (j < c.clips.length) && !b.testBit j) := by
  unfold full
  rw [show 2 ^ c.clips.length - 1 - b = 2 ^ c.clips.length - (b + 1) by omega]
  exact Nat.testBit_two_pow_sub_succ hb j
theorem poss_some_out {c : Hou} (hf : fault c = 0) {b : Nat} (hb : b < 2 ^ c.clips.length) : possibleP (someH c (full c - b)) [] = possibleP c (bitsR b) := by
  rw [Bool.eq_iff_iff, poss_some hf, possible_iff (okH_of_fault hf)]
  refine exists_congr fun d => and_congr_right fun _ => ?_
  constructor
  · intro h j k hjk hk h1 h2
    rw [bitsR_mem] at h1 h2
    exact h j k hjk hk (by rw [full_sub hb]; simp at h1 ⊢; exact ⟨by omega, h1⟩) (by rw [full_sub hb]; simp at h2 ⊢; exact ⟨hk, h2⟩)
  · intro h j k hjk hk h1 h2
    rw [full_sub hb] at h1 h2
    simp only [Bool.and_eq_true, Bool.not_eq_true'] at h1 h2
    exact h j k hjk hk (by rw [bitsR_mem, h1.2]; simp) (by rw [bitsR_mem, h2.2]; simp)
/-- the smallest set, by its bits, and why no other is shorter -/
theorem leftLaw {c : Hou} (hf : fault c = 0) : ∃ B : Nat, B ≤ full c ∧ leaveOut c = bitsR B ∧ chkB c.clips.length (bitsR B) = true ∧ orTo (bitsR B) (bitsR B).length = B ∧
    askedErr (someH c (full c - B)) 0 = 0 ∧
    ∀ m : Nat, m ≤ full c → askedErr (someH c (full c - m)) 0 = 11 ∨ (askedErr (someH c (full c - m)) 0 = 0 ∧ shorter (bitsR m) (bitsR B) = false) := by
  have ok := okH_of_fault hf
  have h6 : c.clips.length < 11 := by have := ok.n3; omega
  obtain ⟨l, hl, hmem, hP, hmin⟩ := leaveP_some hf
  obtain ⟨B, hB, hBl⟩ := combs_bits h6 hmem
  have hlo : leaveOut c = bitsR B := by unfold leaveOut; rw [if_pos hf, hl, Option.getD_some, hBl]
  have hfl := full_lt c
  have hfu : full c = 2 ^ c.clips.length - 1 := rfl
  obtain ⟨hck, hor⟩ := bitsR_facts h6 hB
  refine ⟨B, by omega, hlo, hck, hor, ?_, fun m hm => ?_⟩
  · rw [some_err hf, if_pos]
    rw [poss_some_out hf hB, hBl]; exact hP
  · have hm2 : m < 2 ^ c.clips.length := by omega
    rw [some_err hf, poss_some_out hf hm2]
    by_cases hp : possibleP c (bitsR m) = true
    · right
      rw [if_pos hp]
      refine ⟨rfl, ?_⟩
      rcases hmin _ (combs_has h6 hm2) hp with e | hs
      · rw [e, hBl]; exact shorter_irrefl _
      · cases hc : shorter (bitsR m) (bitsR B) with
        | false => rfl
        | true =>
          rw [hBl] at hc
          have := shorter_trans hc hs
          rw [shorter_irrefl] at this
          cases this
    · left; rw [if_neg hp]
theorem leave_min {c : Hou} (hf : fault c = 0) : ∃ B : Nat, B < 2 ^ c.clips.length ∧ leaveOut c = bitsR B ∧ possibleP c (bitsR B) = true ∧ ∀ b : Nat, b < 2 ^ c.clips.length → possibleP c (bitsR b) = true → (bitsR B).length ≤ (bitsR b).length := by
  have ok := okH_of_fault hf
  have h6 : c.clips.length < 11 := by have := ok.n3; omega
  obtain ⟨l, hl, hmem, hP, hmin⟩ := leaveP_some hf
  obtain ⟨B, hB, hBl⟩ := combs_bits h6 hmem
  refine ⟨B, hB, by unfold leaveOut; rw [if_pos hf, hl, Option.getD_some, hBl], by rw [hBl]; exact hP, fun b hb hp => ?_⟩
  rcases hmin _ (combs_has h6 hb) hp with e | hs
  · rw [e, hBl]; exact Nat.le_refl _
  · rw [hBl]
    unfold shorter at hs
    simp only [Bool.or_eq_true, decide_eq_true_eq, Bool.and_eq_true, beq_iff_eq] at hs
    omega
theorem leave_nil {c : Hou} (hf : fault c = 0) (h : leaveOut c = []) : truthsP c ≠ [] := by
  obtain ⟨B, _, hB, hP, _⟩ := leave_min hf
  rw [← hB, h] at hP
  exact (truthsP_ne (okH_of_fault hf)).2 hP
theorem bitsR_zero : bitsR 0 = [] := rfl
theorem leave_none {c : Hou} (hf : fault c = 0) (h : truthsP c ≠ []) : leaveOut c = [] := by
  obtain ⟨B, _, hB, _, hmin⟩ := leave_min hf
  have := hmin 0 (Nat.two_pow_pos _) (by rw [bitsR_zero]; exact (truthsP_ne (okH_of_fault hf)).1 h)
  rw [bitsR_zero] at this
  rw [hB]
  exact List.eq_nil_of_length_eq_zero (by simpa using this)

/-! ### what is so in a truth -/
theorem first_none {c : Hou} (hf : fault c = 0) (h : truthsP c ≠ []) : firstOut c = (0, 7) := by
  rcases firstLaw hf with ⟨h1, _⟩ | ⟨j, hj, _, _, h2⟩
  · exact h1
  · exfalso
    have hp := (truthsP_ne (okH_of_fault hf)).1 h
    rw [some_err hf, if_pos] at h2
    · omega
    · rw [poss_some hf]
      rw [possible_iff (okH_of_fault hf)] at hp
      obtain ⟨d, hd, h3⟩ := hp
      exact ⟨d, hd, fun j k hjk hk _ _ => h3 j k hjk hk (by simp) (by simp)⟩
theorem clocks_in {c : Hou} (he : askedErr c 0 = 0) {d : List Int} (hd : d ∈ truths c) : (clocksOut c).length = c.clocks.length ∧ ∀ (i : Nat) (r : Int × Int), (clocksOut c)[i]? = some r → inB (d.getD i 0) r.1 r.2 = true := by
  obtain ⟨hf, _, hne⟩ := askedErr_zero he
  have hdp : d ∈ truthsP c := (truthsP_perm hf).mem_iff.2 hd
  unfold clocksOut
  rw [if_pos he]
  refine ⟨by simp, fun i r hr => ?_⟩
  have hi : i < c.clocks.length := by have := (List.getElem?_eq_some_iff.1 hr).1; simpa using this
  rw [List.getElem?_map, List.getElem?_range hi] at hr
  simp only [Option.map_some, Option.some.injEq] at hr
  have hb := bP_is (offF i) hne
  rw [hr] at hb
  have h1 := hb.lo d hdp
  have h2 := hb.hi d hdp
  unfold offF at h1 h2
  unfold inB
  simp only [Bool.and_eq_true, decide_eq_true_eq]
  exact ⟨h1, h2⟩
theorem hours_in {c : Hou} (he : askedErr c 0 = 0) {d : List Int} (hd : d ∈ truths c) : (hoursOut c).length = c.tickets.length ∧ ∀ (i : Nat) (r : Int × Int), (hoursOut c)[i]? = some r → inB (hoursR c d i) r.1 r.2 = true := by
  obtain ⟨hf, _, hne⟩ := askedErr_zero he
  have hdp : d ∈ truthsP c := (truthsP_perm hf).mem_iff.2 hd
  unfold hoursOut
  rw [if_pos he]
  refine ⟨by simp, fun i r hr => ?_⟩
  have hi : i < c.tickets.length := by have := (List.getElem?_eq_some_iff.1 hr).1; simpa using this
  rw [List.getElem?_map, List.getElem?_range hi] at hr
  simp only [Option.map_some, Option.some.injEq] at hr
  have hb := bP_is (hoursF c i) hne
  rw [hr] at hb
  have h1 := hb.lo d hdp
  have h2 := hb.hi d hdp
  unfold hoursF at h1 h2
  unfold inB
  simp only [Bool.and_eq_true, decide_eq_true_eq]
  exact ⟨h1, h2⟩
/-- a verdict on all truths fits what is so in one of them -/
theorem vP_fits {p : List Int → Bool} {l : List (List Int)} {d : List Int} (hd : d ∈ l) : (vP p l = 1 ∧ p d = true) ∨ (vP p l = 2 ∧ p d = false) ∨ vP p l = 3 := by
  have hne : l ≠ [] := fun e => by rw [e] at hd; cases hd
  rcases vP_cases p l with h | h | h
  · exact .inl ⟨h, vP_one.1 h d hd⟩
  · exact .inr (.inl ⟨h, (vP_two hne).1 h d hd⟩)
  · exact .inr (.inr h)
theorem long_in {c : Hou} (he : askedErr c 0 = 0) {d : List Int} (hd : d ∈ truths c) : (longOut c).length = c.tickets.length ∧ ∀ (i : Nat) (v : Int), (longOut c)[i]? = some v → (v = 1 ∧ isLong c d i = true) ∨ (v = 2 ∧ isLong c d i = false) ∨ v = 3 := by
  obtain ⟨hf, _, hne⟩ := askedErr_zero he
  have hdp : d ∈ truthsP c := (truthsP_perm hf).mem_iff.2 hd
  unfold longOut
  rw [if_pos he]
  refine ⟨by simp, fun i r hr => ?_⟩
  have hi : i < c.tickets.length := by have := (List.getElem?_eq_some_iff.1 hr).1; simpa using this
  rw [List.getElem?_map, List.getElem?_range hi] at hr
  simp only [Option.map_some, Option.some.injEq] at hr
  rw [← hr]
  exact vP_fits (p := longF c i) hdp
theorem paid_in {c : Hou} (he : askedErr c 0 = 0) {d : List Int} (hd : d ∈ truths c) : (paidOut c = 1 ∧ isPaid c d = true) ∨ (paidOut c = 2 ∧ isPaid c d = false) ∨ paidOut c = 3 := by
  obtain ⟨hf, _, hne⟩ := askedErr_zero he
  have hdp : d ∈ truthsP c := (truthsP_perm hf).mem_iff.2 hd
  unfold paidOut
  rw [if_pos he]
  exact vP_fits hdp
theorem truth_out {c : Hou} (hf : fault c = 0) {d : List Int} (hd : d ∈ truths c) : truthOut c d = true := by
  have ok := okH_of_fault hf
  have he := (isErr_iff c d).2 (truths_isErr ok d hd)
  unfold truthOut isTruth
  rw [he, (List.mem_filter.1 hd).2]
  simp [hf]

/-! ### both ends are reached -/
theorem ends_reached {c : Hou} (he : askedErr c 0 = 0) {k n : Nat} {r s : Int × Int} (hr : (clocksOut c)[k]? = some r) (hs : (hoursOut c)[n]? = some s) :
    (truths c).any (fun d => decide (d.getD k 0 = r.1)) = true ∧ (truths c).any (fun d => decide (d.getD k 0 = r.2)) = true ∧
    (truths c).any (fun d => decide (hoursR c d n = s.1)) = true ∧ (truths c).any (fun d => decide (hoursR c d n = s.2)) = true := by
  obtain ⟨hf, _, hne⟩ := askedErr_zero he
  have hm : ∀ d, d ∈ truthsP c → d ∈ truths c := fun d hd => (truthsP_perm hf).mem_iff.1 hd
  unfold clocksOut at hr
  rw [if_pos he] at hr
  have hi : k < c.clocks.length := by have := (List.getElem?_eq_some_iff.1 hr).1; simpa using this
  rw [List.getElem?_map, List.getElem?_range hi] at hr
  simp only [Option.map_some, Option.some.injEq] at hr
  unfold hoursOut at hs
  rw [if_pos he] at hs
  have hi2 : n < c.tickets.length := by have := (List.getElem?_eq_some_iff.1 hs).1; simpa using this
  rw [List.getElem?_map, List.getElem?_range hi2] at hs
  simp only [Option.map_some, Option.some.injEq] at hs
  have b1 := bP_is (offF k) hne
  have b2 := bP_is (hoursF c n) hne
  rw [hr] at b1
  rw [hs] at b2
  obtain ⟨a1, m1, e1⟩ := b1.loAt
  obtain ⟨a2, m2, e2⟩ := b1.hiAt
  obtain ⟨a3, m3, e3⟩ := b2.loAt
  obtain ⟨a4, m4, e4⟩ := b2.hiAt
  exact ⟨List.any_eq_true.2 ⟨a1, hm _ m1, decide_eq_true e1⟩, List.any_eq_true.2 ⟨a2, hm _ m2, decide_eq_true e2⟩, List.any_eq_true.2 ⟨a3, hm _ m3, decide_eq_true e3⟩, List.any_eq_true.2 ⟨a4, hm _ m4, decide_eq_true e4⟩⟩
end Go.Proofs.Ytbkfnajpbhfneaa

/- The reference's Bits, Before, Shorter: walks. -/
namespace Go.Proofs.Ytbkfnajpbhfneaa
open Go Go.RowKit

theorem before_take : ∀ (t : Nat) (a b : List Int), t ≤ a.length → t ≤ b.length → a.take t = b.take t → before a b = before (a.drop t) (b.drop t)
  | 0, a, b, _, _, _ => by simp
  | t + 1, [], b, h, _, _ => by simp at h
  | t + 1, x :: a, [], _, h, _ => by simp at h
  | t + 1, x :: a, y :: b, h1, h2, h => by
    simp only [List.take_succ_cons, List.cons.injEq] at h
    obtain ⟨rfl, h⟩ := h
    simp only [List.length_cons] at h1 h2
    show (if x = x then before a b else decide (x < x)) = _
    rw [if_pos rfl, List.drop_succ_cons, List.drop_succ_cons]
    exact before_take t a b (by omega) (by omega) h

set_option maxRecDepth 100000 in
theorem Before_calls {A B : Option Addr} {n k m j : Nat} {a b : List Int} (w : World) (ha : RI w A n a) (hb : RI w B m b) (hn : n ≤ 1000000) (hm : m ≤ 1000000) :
    Calls Try.prog 107 #[.slice A n k, .slice B m j] w fun e w' => e = .returned (.bool (before a b)) ∧ Later w w' := by
  have hna := ha.len
  have hmb := hb.len
  have Hna := hide hna
  have Hmb := hide hmb
  clear hna hmb
  go_enter Try.func107, Try.ntmps107
  go_wp2_with fail
  go_loopw [5] (fun i wr => ∃ t : Nat, t ≤ n ∧ t ≤ m ∧ i = .int .i64 t ∧ Later w wr ∧ Hid (a.take t = b.take t)) (fun i _ => n - (intOf i).toNat)
  case atStart => exact ⟨0, Nat.zero_le _, Nat.zero_le _, rfl, later_refl _, rfl⟩
  case round =>
    obtain ⟨t, ht, ht2, rfl, hL, Heq⟩ := hrel
    have Hbt : Hid (before a b = before (a.drop t) (b.drop t)) := before_take t a b (by have := Hna.out; omega) (by have := Hmb.out; omega) Heq.out
    by_cases hlt : t < n
    · have hi1 : (t : Int) < n := by omega
      by_cases hlt2 : t < m
      · have hi2 : (t : Int) < m := by omega
        obtain ⟨b1, o1, x, rfl, _, hx, hx0⟩ := ha.get hlt
        obtain ⟨b2, o2, y, rfl, _, hy, hy0⟩ := hb.get hlt2
        have hx0' := fun W (hW : Later wr W) => hx0 W (Later.trans hL hW)
        have hy0' := fun W (hW : Later wr W) => hy0 W (Later.trans hL hW)
        have Hd : Hid (before a b = if x = y then before (a.drop (t + 1)) (b.drop (t + 1)) else decide (x < y)) := by
          show _ = _
          obtain ⟨p1, e1⟩ := List.getElem?_eq_some_iff.1 hx
          obtain ⟨p2, e2⟩ := List.getElem?_eq_some_iff.1 hy
          rw [Hbt.out, List.drop_eq_getElem_cons p1, List.drop_eq_getElem_cons p2, e1, e2]
          rfl
        have Hx := hide hx
        have Hy := hide hy
        clear hx hy hx0 hy0 Hbt
        by_cases hxy : x = y
        · have hb2 : (x != y) = false := by simpa using hxy
          have Hxy := hide hxy
          clear hxy
          go_wp2_with fail
          refine wp_region_ext (w0 := wr) (by kernel_rfl) (by kernel_rfl) (later_refl _) ?_; (repeat (first | go_big_quiet_step (((fail))) | quiet_step (((fail))))); refine wpQuiet_nil ?_; rintro w3 ⟨⟨_, hL3⟩, rfl⟩; (try dsimp only)
          go_wp2_with fail
          go_roundw
          case rel =>
            refine ⟨t + 1, hlt, hlt2, by go_num, Later.trans hL hL3, ?_⟩
            show a.take (t + 1) = b.take (t + 1)
            rw [List.take_add_one, List.take_add_one, Heq.out, Hx.out, Hy.out, Hxy.out]
          case measure => simp [intOf]; omega
        · have hb2 : (x != y) = true := by simpa using hxy
          have Hd2 : Hid (before a b = decide (x < y)) := by show _ = _; rw [Hd.out, if_neg hxy]
          clear hxy Hd
          have hd3 := fun W (hW : Later wr W) => hx0' W hW
          go_wp2_with fail
          refine wp_region_ext (w0 := wr) (by kernel_rfl) (by kernel_rfl) (later_refl _) ?_; (repeat (first | go_big_quiet_step (((fail))) | quiet_step (((fail))))); refine wpQuiet_nil ?_; rintro w3 ⟨⟨_, hL3⟩, rfl⟩; (try dsimp only)
          have hx1' := fun W (hW : Later w3 W) => hx0' W (Later.trans hL3 hW)
          have hy1' := fun W (hW : Later w3 W) => hy0' W (Later.trans hL3 hW)
          clear hx0' hy0' hd3
          go_wp2_with fail
          refine wp_region_ext (w0 := w3) (by kernel_rfl) (by kernel_rfl) (later_refl _) ?_; (repeat (first | go_big_quiet_step (((fail))) | quiet_step (((fail))))); refine wpQuiet_nil ?_; rintro w4 ⟨⟨_, hL4⟩, rfl⟩; (try dsimp only)
          go_wp2_with fail
          go_ret
          exact ⟨by rw [Hd2.out]; rfl, Later.trans hL (Later.trans hL3 hL4)⟩
      · have hi2 : decide ((t : Int) < (m : Int)) = false := by simp; omega
        have hmt : ¬ (n : Int) < (m : Int) := by omega
        have Hd : Hid (before a b = false) := by
          show _ = _
          rw [Hbt.out, List.drop_of_length_le (l := b) (by have := Hmb.out; omega)]
          cases a.drop t <;> rfl
        clear Hbt
        go_wp2_with fail
        go_ret
        exact ⟨by rw [Hd.out]; rfl, hL⟩
    · have hi1 : ¬ (t : Int) < n := by omega
      have hd1 : a.drop t = [] := List.drop_of_length_le (by have := Hna.out; omega)
      have Hd : Hid (before a b = decide (n < m)) := by
        show _ = _
        rw [Hbt.out, hd1]
        by_cases hlt2 : t < m
        · have : t < b.length := by have := Hmb.out; omega
          rw [List.drop_eq_getElem_cons this, decide_eq_true (show n < m by omega)]; rfl
        · rw [List.drop_of_length_le (l := b) (by have := Hmb.out; omega), decide_eq_false (show ¬ n < m by omega)]; rfl
      clear hd1 Hbt
      go_wp2_with fail
      go_ret
      exact ⟨ret_bool (by rw [Hd.out]), hL⟩

set_option maxRecDepth 100000 in
theorem Shorter_calls {A B : Option Addr} {n k m j : Nat} {a b : List Int} (w : World) (ha : RI w A n a) (hb : RI w B m b) (hn : n ≤ 1000000) (hm : m ≤ 1000000) :
    Calls Try.prog 64 #[.slice A n k, .slice B m j] w fun e w' => e = .returned (.bool (shorter a b)) ∧ Later w w' := by
  have hna := ha.len
  have hmb := hb.len
  have hbc := Before_calls (k := k) (j := j) w ha hb hn hm
  by_cases hlt : n < m
  · have hi : (n : Int) < m := by omega
    have Hs : Hid (shorter a b = true) := by show _ = _; unfold shorter; rw [decide_eq_true (by omega)]; rfl
    clear hna hmb hbc
    go_enter Try.func64, Try.ntmps64
    go_wp2_with fail
    go_ret
    exact ⟨by rw [Hs.out]; rfl, later_refl _⟩
  · have hi : ¬ (n : Int) < m := by omega
    by_cases he : n = m
    · have hb1 : ((n : Int) == (m : Int)) = true := by simp [he]
      have Hs : Hid (shorter a b = before a b) := by show _ = _; unfold shorter; rw [decide_eq_false (by omega), show (a.length == b.length) = true by simp; omega]; rfl
      have Hbc := hide hbc
      obtain ⟨q, hq⟩ : ∃ q, before a b = q := ⟨_, rfl⟩
      rw [hq] at Hs Hbc
      clear hna hmb hbc he hq hlt
      go_enter Try.func64, Try.ntmps64
      go_wp2_with fail
      refine Hbc.out.mono ?_
      rintro e w1 ⟨rfl, hL1⟩
      go_wp2_with fail
      go_ret
      exact ⟨ret_bool (by rw [Hs.out]; try simp), hL1⟩
    · have hb1 : ((n : Int) == (m : Int)) = false := by simp; omega
      have Hs : Hid (shorter a b = false) := by show _ = _; unfold shorter; rw [decide_eq_false (by omega), show (a.length == b.length) = false by simp; omega]; rfl
      clear hna hmb hbc he hlt
      go_enter Try.func64, Try.ntmps64
      go_wp2_with fail
      go_ret
      exact ⟨by rw [Hs.out]; rfl, later_refl _⟩

theorem bitList_last : ∀ (j bits p : Nat), bitList (j + 1) bits p = bitList j bits p ++ (if bits / 2 ^ j % 2 = 1 then [((p + j : Nat) : Int)] else [])
  | 0, bits, p => by
    simp only [bitList, Nat.pow_zero, Nat.div_one, Nat.add_zero, List.nil_append]
  | j + 1, bits, p => by
    have ih := bitList_last j (bits / 2) (p + 1)
    have e : bits / 2 / 2 ^ j = bits / 2 ^ (j + 1) := by rw [Nat.div_div_eq_div_mul, Nat.pow_succ, Nat.mul_comm]
    rw [e] at ih
    rw [show p + 1 + j = p + (j + 1) by omega] at ih
    conv => lhs; unfold bitList
    conv => rhs; unfold bitList
    rw [ih]
    split <;> simp
theorem bitList_zero : ∀ (k p : Nat), bitList k 0 p = []
  | 0, _ => rfl
  | k + 1, p => by simp [bitList, bitList_zero k]
theorem bitList_stable : ∀ (k m bits p : Nat), bits < 2 ^ k → bits < 2 ^ m → bitList k bits p = bitList m bits p
  | 0, m, bits, p, h, _ => by
    have : bits = 0 := by simpa using h
    subst this
    rw [bitList_zero, bitList_zero]
  | k + 1, 0, bits, p, _, h => by
    have : bits = 0 := by simpa using h
    subst this
    rw [bitList_zero, bitList_zero]
  | k + 1, m + 1, bits, p, h1, h2 => by
    simp only [bitList]
    rw [bitList_stable k m (bits / 2) (p + 1) (by rw [Nat.pow_succ] at h1; omega) (by rw [Nat.pow_succ] at h2; omega)]
end Go.Proofs.Ytbkfnajpbhfneaa

/- The reference's Bits: walk. -/
namespace Go.Proofs.Ytbkfnajpbhfneaa
open Go Go.RowKit

def bitsPost (bits : Nat) (w : World) (e : Ending) (w' : World) : Prop := ∃ A n k, e = .returned (.slice A n k) ∧ Later w w' ∧ RI w' A n (bitsR bits) ∧ n ≤ k ∧ Fresh w w' A
theorem bitList_len : ∀ (k bits p : Nat), (bitList k bits p).length ≤ k
  | 0, _, _ => Nat.le_refl _
  | k + 1, bits, p => by
    unfold bitList
    have := bitList_len k (bits / 2) (p + 1)
    split <;> simp <;> omega
theorem shr_nat (a p : Nat) : (a : Int) >>> p = ((a / 2 ^ p : Nat) : Int) := by
  rw [Int.shiftRight_eq_div_pow]; norm_cast
theorem own_cap2 {W : World} {base : Nat} {e : TypeId} {size : Nat} {A : Option Addr} {k n : Nat} {xs : List Value} (h : W.ownsRow base e size (.slice A n k) n xs) : n ≤ k := by
  rcases h.2 with ⟨e, h0⟩ | ⟨g, cap, cur, e, _, _, h1, _⟩
  · injection e with _ e _; omega
  · injection e with _ _ e; omega
set_option maxRecDepth 100000 in
theorem Bits_calls {bits : Nat} (w : World) (hb : bits ≤ 1000000) :
    Calls Try.prog 65 #[.int .i64 bits] w (bitsPost bits w) := by
  go_enter Try.func65, Try.ntmps65
  go_wp2_with fail
  go_loopw [3, 4] (fun v i wr => ∃ p : Nat, p ≤ 20 ∧ i = .int .i64 p ∧ wr.ownsRow w.heap.size 3 1 v (bitList p bits 0).length (ints (bitList p bits 0)) ∧ Later w wr) (fun _ i _ => 20 - (intOf i).toNat)
  case atStart => exact ⟨0, Nat.zero_le _, rfl, World.ownsRow_nil _ _ _ _, later_refl _⟩
  case round =>
    obtain ⟨p, hp, rfl, hown, hL⟩ := hrel
    have hlast := bitList_last p bits 0
    have hlen := bitList_len p bits 0
    rw [Nat.zero_add] at hlast
    have hs : (bits : Int) / 2 ^ p = ((bits / 2 ^ p : Nat) : Int) := by norm_cast
    have hs1 : (bits : Int) / 2 ^ min p 64 = ((bits / 2 ^ p : Nat) : Int) := by rw [show min p 64 = p by omega]; exact hs
    have hend : bits / 2 ^ p = 0 → bitList p bits 0 = bitsR bits := fun h => by
      have : bits < 2 ^ p := (Nat.div_eq_zero_iff_lt (Nat.two_pow_pos p)).1 h
      exact bitList_stable _ _ _ _ this Nat.lt_two_pow_self
    have hp20 : 0 < bits / 2 ^ p → p < 20 := fun h => by
      rcases Nat.lt_or_ge p 20 with h1 | h1
      · exact h1
      · have h2 : 2 ^ 20 ≤ 2 ^ p := Nat.pow_le_pow_right (by omega) h1
        rw [Nat.div_eq_of_lt (by omega)] at h
        cases h
    generalize bits / 2 ^ p = q at *
    by_cases h0 : 0 < q
    · have h1 : 0 < (q : Int) := by omega
      have hp2 := hp20 h0
      by_cases ho : q % 2 = 1
      · have hb1 : ((q : Int) % 2 == 1) = true := by simp; omega
        rw [if_pos ho] at hlast
        have Hlast := hide hlast
        clear hlast hend hp20 ho
        go_wp2_with (at_builtin; go_must (refine own_append (w0 := w) (W := wr) (te := 3) rfl _ _ 47 rfl 3 (.int .i64 0) 1 8 Try.underlying47 int_info rfl Nat.one_pos u3 (bitList p bits 0).length (ints (bitList p bits 0)) rfl hL hown [.int .i64 p] rfl rfl ?_ (by omega) (by omega) ?_; (simp [Value.oneCell']); intro v' w4 hap; have hown4 := hap.own; have hL4 := hap.later; clear hap))
        go_roundw
        case rel =>
          refine ⟨p + 1, hp2, by go_num, ?_, hL4⟩
          rw [Hlast.out, List.length_append, ints_snoc]; exact hown4
        case measure => simp [intOf]; omega
      · have hb1 : ((q : Int) % 2 == 1) = false := by simp; omega
        rw [if_neg ho, List.append_nil] at hlast
        have Hlast := hide hlast
        clear hlast hend hp20 ho
        go_wp2_with fail
        go_roundw
        case rel => exact ⟨p + 1, hp2, by go_num, by rw [Hlast.out]; exact hown, hL⟩
        case measure => simp [intOf]; omega
    · have hq : q = 0 := by omega
      subst hq
      have he := hend rfl
      rw [he] at hown
      clear hlast hlen hend he hp20
      obtain ⟨A, k, rfl, hrd, hfr⟩ := own_slice2 hown
      have hcp := own_cap2 hown
      go_wp2_with fail
      go_ret
      exact ⟨A, _, k, rfl, hL, hrd, hcp, hfr⟩
end Go.Proofs.Ytbkfnajpbhfneaa

/- The reference's Can, First, Leave: walks. -/
namespace Go.Proofs.Ytbkfnajpbhfneaa
open Go Go.RowKit

/-- v is a list that reads as l -/
def IsD (l : List Int) (v : Value) (W : World) : Prop := ∃ A n k, v = .slice A n k ∧ RI W A n l
theorem IsD.later {l : List Int} {v : Value} {W W' : World} (h : IsD l v W) (k : Later W W') : IsD l v W' := by
  obtain ⟨A, n, j, e, hr⟩ := h
  exact ⟨A, n, j, e, hr.later k⟩
theorem can_range (c : Hou) (bits : Nat) : can c bits = (List.range (many c).toNat).any fun (n : Nat) => risingR c (nth c.clocks n) bits := by
  unfold can allErr; rw [List.any_map]; rfl
set_option maxRecDepth 100000 in
set_option maxHeartbeats 1000000 in
theorem Can_calls {A1 A2 A3 : Option Addr} {n1 k1 n2 k2 n3 k3 : Nat} {c : Hou} {bits : Nat} (w : World) (hc : CV w c A1 n1 A2 n2 A3 n3) (ok : OkH c) (hm : many c ≤ 3000) (hb : bits ≤ 1048576) :
    Calls Try.prog 101 #[(.agg #[.int .i64 c.hour, .int .i64 c.grace, .slice A1 n1 k1, .slice A2 n2 k2, .slice A3 n3 k3]), .int .i64 (bits : Int)] w fun e w' => e = .returned (.bool (can c bits)) ∧ Later w w' := by
  have okh := ok.clock
  have hl1 : n1 ≤ 1000 := by have := ok.n1; have := hc.ck.len; omega
  have hmr := many_range okh
  have Hrr := hide (can_range c bits)
  obtain ⟨w0, hw0⟩ : ∃ W, W = (w.alloc (.cells #[.int .i64 c.hour, .int .i64 c.grace, .slice A1 n1 k1, .slice A2 n2 k2, .slice A3 n3 k3] 26)) := ⟨_, rfl⟩; have hbox : ∀ W, Later w0 W → ∀ i, W.cell? ⟨w.heap.size, i, none⟩ = #[.int .i64 c.hour, .int .i64 c.grace, .slice A1 n1 k1, .slice A2 n2 k2, .slice A3 n3 k3][i]? := (by rw [hw0]; exact box_cells w #[.int .i64 c.hour, .int .i64 c.grace, .slice A1 n1 k1, .slice A2 n2 k2, .slice A3 n3 k3] 26); have hL0 : Later w w0 := (by rw [hw0]; simp); have hc0 := hc.later hL0; have Hw0 := hide hw0; clear hw0
  have HR := hide (fun (W : World) (h : Later w0 W) A n k d q (hr : RI W A n d) (hd : IsErr c d) (hq : risingR c d bits = q) => Rising_eq (k1 := k1) (k2 := k2) (k3 := k3) (kd := k) hq W (hc0.later h) hr ok hd hb)
  go_enter Try.func101, Try.ntmps101
  go_wp2_with fail
  rw [← Hw0.out]; clear Hw0
  go_loopw [5] (fun i wr => ∃ j : Nat, (j : Int) ≤ many c ∧ i = .int .i64 j ∧ Later w0 wr ∧ Hid (((List.range j).any fun (n : Nat) => risingR c (nth c.clocks n) bits) = false)) (fun i _ => (many c - intOf i).toNat)
  case atStart => exact ⟨0, by omega, rfl, later_refl _, rfl⟩
  case round =>
    obtain ⟨j, hj, rfl, hL, Hno⟩ := hrel
    by_cases hlt : (j : Int) < many c
    · have hia := range_any_succ (fun (n : Nat) => risingR c (nth c.clocks n) bits) j
      rw [Hno.out, Bool.false_or] at hia
      obtain ⟨q, hq⟩ : ∃ q, risingR c (nth c.clocks (j : Int)) bits = q := ⟨_, rfl⟩
      have hbad : q = true → can c bits = true := fun h => by
        rw [Hrr.out]
        exact range_any_true (j := j) (by omega) (by rw [hq]; exact h)
      rw [hq] at hia
      have hdr := nth_isErr ok (j : Int)
      have Hia := hide hia
      have Hbad := hide hbad
      have Hq := hide hq
      clear hia hbad hq Hno
      go_wp2_with fail
      refine (Many_calls _ (hc0.later hL) okh (by omega)).mono ?_
      rintro e w1 ⟨rfl, hL1⟩
      have hL2 := Later.trans hL hL1
      have hS : Later w0 w1.drew := later_drew hL2
      go_upto_region 4 with fail
      refine wp_region_lin (w0 := w0) 6 [] rely_later (by kernel_rfl) (by kernel_rfl) (by kernel_rfl) (by kernel_rfl) (hS) (.inl rfl) ?_
      simp only [List.take_succ_cons, List.take_zero, List.drop_succ_cons, List.drop_zero]
      refine lin_det (v := ?_) (F' := ?_) (by rfl) (fun _ => by rfl) ?_ ?_ ?_
      rotate_left 2
      focus (intro xs X hX hdep; clear hdep; (try dsimp only); go_simp; (try (first | with_reducible rfl | exact ⟨rfl, rfl⟩ | (fail))))
      focus (intro xs; (try simp only [Act.put, List.setIfInBounds_toArray, List.set_cons_zero, List.set_cons_succ, Nat.reduceAdd]); rfl)
      refine lin_det (v := ?_) (F' := ?_) (by rfl) (fun _ => by rfl) ?_ ?_ ?_
      rotate_left 2
      focus (intro xs X hX hdep; clear hdep; (try dsimp only); go_simp; (try (first | with_reducible rfl | exact ⟨rfl, rfl⟩ | (fail))))
      focus (intro xs; (try simp only [Act.put, List.setIfInBounds_toArray, List.set_cons_zero, List.set_cons_succ, Nat.reduceAdd]); rfl)
      refine lin_det (v := ?_) (F' := ?_) (by rfl) (fun _ => by rfl) ?_ ?_ ?_
      rotate_left 2
      focus (intro xs X hX hdep; clear hdep; (try dsimp only); go_simp; (try (first | with_reducible rfl | exact ⟨rfl, rfl⟩ | (fail))))
      focus (intro xs; (try simp only [Act.put, List.setIfInBounds_toArray, List.set_cons_zero, List.set_cons_succ, Nat.reduceAdd]); rfl)
      refine lin_any (IsD (nth c.clocks (j : Int))) false (fun v W W' k h => IsD.later h k) (F' := ?_) (by rfl) (fun _ => by rfl) ?_ ?_ ?_
      rotate_left 1
      focus (intro xs X hX hdep; skip; clear hdep; intro K hK; (try dsimp only); go_simp; (refine (Nth_calls (k1 := k1) (k2 := k2) (k3 := k3) X (hc0.later hX) okh hl1 (by omega) (by omega)).mono ?_; rintro e W' ⟨A, m, k, rfl, hL, hri, _⟩; exact hK.out _ _ rfl hL ⟨A, m, k, rfl, hri⟩ (fun h => by cases h)))
      focus (intro xs; (try simp only [Act.put, List.setIfInBounds_toArray, List.set_cons_zero, List.set_cons_succ, Nat.reduceAdd]); rfl)
      refine lin_det (v := ?_) (F' := ?_) (by rfl) (fun _ => by rfl) ?_ ?_ ?_
      rotate_left 2
      focus (intro xs X hX hdep; clear hdep; (try dsimp only); go_simp; (try (first | with_reducible rfl | exact ⟨rfl, rfl⟩ | (fail))))
      focus (intro xs; (try simp only [Act.put, List.setIfInBounds_toArray, List.set_cons_zero, List.set_cons_succ, Nat.reduceAdd]); rfl)
      refine lin_det (v := ?_) (F' := ?_) (by rfl) (fun _ => by rfl) ?_ ?_ ?_
      rotate_left 2
      focus (intro xs X hX hdep; obtain ⟨A, m, k, e, hr⟩ := (show IsD _ _ _ from hdep 3 1 (by kernel_rfl)); clear hdep; (try dsimp only); go_simp; (try (first | with_reducible rfl | exact ⟨rfl, rfl⟩ | (exact HR.out X hX A m k _ q hr hdr Hq.out))))
      focus (intro xs; (try simp only [Act.put, List.setIfInBounds_toArray, List.set_cons_zero, List.set_cons_succ, Nat.reduceAdd]); rfl)
      intro xs w3 hW hf hfr hfb
      clear hf hfr hfb hS hL1
      cases q with
      | true =>
        have Hf : Hid (can c bits = true) := Hbad.out rfl
        go_wp2_with fail
        go_ret
        exact ⟨by rw [Hf.out]; rfl, Later.trans hL0 hW⟩
      | false =>
        go_wp2_with fail
        go_roundw
        case rel => exact ⟨j + 1, by omega, by go_num, hW, Hia.out⟩
        case measure => simp [intOf]; omega
    · have Hf : Hid (can c bits = false) := by
        show _ = _
        rw [Hrr.out, show (many c).toNat = j by omega]; exact Hno.out
      clear Hno
      go_wp2_with fail
      refine (Many_calls _ (hc0.later hL) okh (by omega)).mono ?_
      rintro e w1 ⟨rfl, hL1⟩
      go_wp2_with fail
      go_ret
      exact ⟨by rw [Hf.out]; rfl, Later.trans hL0 (Later.trans hL hL1)⟩
theorem Can_eq {A1 A2 A3 : Option Addr} {n1 k1 n2 k2 n3 k3 : Nat} {c : Hou} {bits : Nat} {q : Bool} (hq : can c bits = q) (w : World) (hc : CV w c A1 n1 A2 n2 A3 n3) (ok : OkH c) (hm : many c ≤ 3000) (hb : bits ≤ 1048576) :
    Calls Try.prog 101 #[(.agg #[.int .i64 c.hour, .int .i64 c.grace, .slice A1 n1 k1, .slice A2 n2 k2, .slice A3 n3 k3]), .int .i64 (bits : Int)] w fun e w' => e = .returned (.bool q) ∧ Later w w' := by
  rw [← hq]; exact Can_calls w hc ok hm hb

set_option maxRecDepth 100000 in
set_option maxHeartbeats 1000000 in
theorem First_calls {A1 A2 A3 : Option Addr} {n1 k1 n2 k2 n3 k3 : Nat} {c : Hou} (w : World) (hc : CV w c A1 n1 A2 n2 A3 n3) (ok : OkH c) (hm : many c ≤ 3000) :
    Calls Try.prog 48 #[(.agg #[.int .i64 c.hour, .int .i64 c.grace, .slice A1 n1 k1, .slice A2 n2 k2, .slice A3 n3 k3])] w fun e w' => e = .returned (.int .i64 (firstR c)) ∧ Later w w' := by
  have hl3 := hc.cp.len
  have hn3 : n3 ≤ 10 := by have := ok.n3; omega
  have Hl3 := hide hl3
  clear hl3
  obtain ⟨w0, hw0⟩ : ∃ W, W = (w.alloc (.cells #[.int .i64 c.hour, .int .i64 c.grace, .slice A1 n1 k1, .slice A2 n2 k2, .slice A3 n3 k3] 26)) := ⟨_, rfl⟩; have hbox : ∀ W, Later w0 W → ∀ i, W.cell? ⟨w.heap.size, i, none⟩ = #[.int .i64 c.hour, .int .i64 c.grace, .slice A1 n1 k1, .slice A2 n2 k2, .slice A3 n3 k3][i]? := (by rw [hw0]; exact box_cells w #[.int .i64 c.hour, .int .i64 c.grace, .slice A1 n1 k1, .slice A2 n2 k2, .slice A3 n3 k3] 26); have hL0 : Later w w0 := (by rw [hw0]; simp); have hc0 := hc.later hL0; have Hw0 := hide hw0; clear hw0
  go_enter Try.func48, Try.ntmps48
  go_wp2_with fail
  rw [← Hw0.out]; clear Hw0
  go_loopw [3] (fun i wr => ∃ t : Nat, t ≤ n3 ∧ i = .int .i64 t ∧ Later w0 wr ∧ Hid (∀ s, s < t → (!can c (2 ^ (s + 1) - 1)) = false)) (fun i _ => n3 - (intOf i).toNat)
  case atStart => exact ⟨0, Nat.zero_le _, rfl, later_refl _, fun s hs => by omega⟩
  case round =>
    obtain ⟨t, ht, rfl, hL, Hno⟩ := hrel
    by_cases hlt : t < n3
    · have hi1 : (t : Int) < n3 := by omega
      have hv : wrap64 (wrap64 (2 * 2 ^ t) - 1) = ((2 ^ (t + 1) - 1 : Nat) : Int) := by
        have h5 := pow_le20 (show t ≤ 20 by omega)
        have h6 := Nat.two_pow_pos t
        rw [pow_int, Nat.pow_succ]
        generalize 2 ^ t = m at *
        unfold wrap64; omega
      have hlk : 2 ^ (t + 1) - 1 ≤ 1048576 := by
        have h5 := pow_le20 (show t + 1 ≤ 20 by omega)
        omega
      obtain ⟨q, hq⟩ : ∃ q, can c (2 ^ (t + 1) - 1) = q := ⟨_, rfl⟩
      have hcan := Can_eq (k1 := k1) (k2 := k2) (k3 := k3) hq wr (hc0.later hL) ok hm hlk
      have Hq := hide hq
      have Hv := hide hv
      have Hcan := hide hcan
      clear hq hv hcan
      go_wp2_with fail
      rw [Hv.out]
      refine Hcan.out.mono ?_
      rintro e w2 ⟨rfl, hL2⟩
      have hL02 := Later.trans hL hL2
      cases q with
      | true =>
        go_wp2_with fail
        go_roundw
        case rel =>
          refine ⟨t + 1, hlt, by go_num, hL02, fun s hs => ?_⟩
          rcases Nat.lt_succ_iff_lt_or_eq.1 hs with h | rfl
          · exact Hno.out s h
          · rw [Hq.out]; rfl
        case measure => simp [intOf]; omega
      | false =>
        have hf : firstR c = t := by
          unfold firstR
          rw [find_range_some (j := t) (by have := Hl3.out; omega) (by rw [Hq.out]; rfl) Hno.out]
        have Hf := hide hf
        clear hf
        go_wp2_with fail
        go_ret
        exact ⟨ret_int Hf.out.symm, Later.trans hL0 hL02⟩
    · have hf : firstR c = -1 := by
        unfold firstR
        rw [find_range_none fun s hs => Hno.out s (by have := Hl3.out; omega)]
      have Hf := hide hf
      clear hf
      go_wp2_with fail
      go_ret
      exact ⟨ret_int Hf.out.symm, Later.trans hL0 hL⟩

theorem full_lt2 (c : Hou) : full c < 2 ^ c.clips.length := by unfold full; have := Nat.two_pow_pos c.clips.length; omega
theorem andNot_full {c : Hou} (h : c.clips.length ≤ 10) {j f : Nat} (hf : full c = f) (hj : j ≤ f) : bits .andNot .i64 (f : Int) (j : Int) = ((f - j : Nat) : Int) := by
  subst hf
  have := full_lt2 c
  exact andNot_all _ (by omega) j (by omega)
def leaveTo (c : Hou) (j : Nat) : List Int := (List.range j).foldl (leaveStep c) (bitsR (full c))
theorem leaveTo_succ (c : Hou) (j : Nat) : leaveTo c (j + 1) = leaveStep c (leaveTo c j) j := by
  unfold leaveTo; rw [List.range_succ, List.foldl_append]; rfl
theorem bitsR_len (bits : Nat) : (bitsR bits).length ≤ bits := bitList_len _ _ _
def LeaveRPost (c : Hou) (w : World) (e : Ending) (w' : World) : Prop := ∃ A n k, e = .returned (.slice A n k) ∧ Later w w' ∧ RI w' A n (leaveR c) ∧ n ≤ k
theorem Shorter_eq {A B : Option Addr} {n k m j : Nat} {a b : List Int} {q : Bool} (hq : shorter a b = q) (w : World) (ha : RI w A n a) (hb : RI w B m b) (hn : n ≤ 1000000) (hm : m ≤ 1000000) :
    Calls Try.prog 64 #[.slice A n k, .slice B m j] w fun e w' => e = .returned (.bool q) ∧ Later w w' := by
  rw [← hq]; exact Shorter_calls w ha hb hn hm
set_option maxRecDepth 100000 in
set_option maxHeartbeats 1000000 in
theorem Leave_calls {A1 A2 A3 : Option Addr} {n1 k1 n2 k2 n3 k3 : Nat} {c : Hou} (w : World) (hc : CV w c A1 n1 A2 n2 A3 n3) (ok : OkH c) (hm : many c ≤ 3000) :
    Calls Try.prog 47 #[(.agg #[.int .i64 c.hour, .int .i64 c.grace, .slice A1 n1 k1, .slice A2 n2 k2, .slice A3 n3 k3])] w (LeaveRPost c w) := by
  have hl3 := hc.cp.len
  have hn3 : n3 ≤ 20 := by have := ok.n3; omega
  have hf31 : full c ≤ 1023 := by
    have h5 : 2 ^ c.clips.length ≤ 2 ^ 10 := pow_le_of ok.n3
    unfold full; omega
  have hfull := fun (W : World) (h : CV W c A1 n1 A2 n2 A3 n3) => Full_calls (k1 := k1) (k2 := k2) (k3 := k3) W h hn3
  have hend : leaveR c = leaveTo c (full c + 1) := rfl
  obtain ⟨f, hf⟩ : ∃ f, full c = f := ⟨_, rfl⟩
  have hst0 : ∀ j, leaveTo c (j + 1) = if shorter (bitsR j) (leaveTo c j) && can c (f - j) then bitsR j else leaveTo c j := fun j => by rw [leaveTo_succ, ← hf]; rfl
  have h0 : leaveTo c 0 = bitsR f := by unfold leaveTo; rw [hf]; rfl
  rw [hf] at hf31 hend
  simp only [hf] at hfull
  have Hl3 := hide hl3
  have Hf := hide hf
  have Hfull := hide hfull
  have Hend := hide hend
  have Hst0 := hide hst0
  have H0 := hide h0
  clear hl3 hf hfull hend hst0 h0
  obtain ⟨w0, hw0⟩ : ∃ W, W = (w.alloc (.cells #[.int .i64 c.hour, .int .i64 c.grace, .slice A1 n1 k1, .slice A2 n2 k2, .slice A3 n3 k3] 26)) := ⟨_, rfl⟩; have hbox : ∀ W, Later w0 W → ∀ i, W.cell? ⟨w.heap.size, i, none⟩ = #[.int .i64 c.hour, .int .i64 c.grace, .slice A1 n1 k1, .slice A2 n2 k2, .slice A3 n3 k3][i]? := (by rw [hw0]; exact box_cells w #[.int .i64 c.hour, .int .i64 c.grace, .slice A1 n1 k1, .slice A2 n2 k2, .slice A3 n3 k3] 26); have hL0 : Later w w0 := (by rw [hw0]; simp); have hc0 := hc.later hL0; have Hw0 := hide hw0; clear hw0
  have HC := hide (fun (W : World) (h : Later w0 W) (bits : Nat) (hb : bits ≤ 1048576) q (hq : can c bits = q) => Can_eq (k1 := k1) (k2 := k2) (k3 := k3) hq W (hc0.later h) ok hm hb)
  go_enter Try.func47, Try.ntmps47
  go_wp2_with fail
  rw [← Hw0.out]; clear Hw0
  refine (Hfull.out _ hc0).mono ?_
  rintro e w1 ⟨rfl, hL1⟩
  go_wp2_with fail
  refine (Bits_calls w1 (by omega)).mono ?_
  rintro e w2 ⟨Ab, nb, kb, rfl, hL2, hrb, hkb, _⟩
  have hL02 := Later.trans hL1 hL2
  have hnb := bitsR_len f
  have hlb := hrb.len
  rw [← H0.out] at hrb
  have hnb31 : nb ≤ 1023 := by omega
  clear hnb hlb
  go_wp2_with fail
  go_loopw [3, 4, 5] (fun v i _ wr => ∃ (j : Nat) (Ax : Option Addr) (nx kx : Nat), j ≤ f + 1 ∧ i = .int .i64 j ∧ v = .slice Ax nx kx ∧ RI wr Ax nx (leaveTo c j) ∧ nx ≤ kx ∧ nx ≤ 1023 ∧ Later w0 wr) (fun _ i _ _ => f + 1 - (intOf i).toNat)
  case atStart => exact ⟨0, Ab, nb, kb, by omega, rfl, rfl, hrb, hkb, hnb31, hL02⟩
  case round =>
    obtain ⟨j, Ax, nx, kx, hj, rfl, rfl, hrx, hkx, hx31, hL⟩ := hrel
    go_wp2_with fail
    refine (Hfull.out _ (hc0.later hL)).mono ?_
    rintro e w3 ⟨rfl, hL3⟩
    by_cases hlt : j ≤ f
    · have hi1 : (j : Int) ≤ f := by omega
      go_wp2_with fail
      refine (Bits_calls w3 (by omega)).mono ?_
      rintro e w4 ⟨Ay, ny, ky, rfl, hL4, hry, hky, _⟩
      have hny := bitsR_len j
      have hly := hry.len
      have hny31 : ny ≤ 1023 := by omega
      clear hny hly
      have hrx4 := hrx.later (Later.trans hL3 hL4)
      have hst := Hst0.out j
      obtain ⟨s, hs⟩ : ∃ s, shorter (bitsR j) (leaveTo c j) = s := ⟨_, rfl⟩
      rw [hs] at hst
      have hL04 := Later.trans hL (Later.trans hL3 hL4)
      have HS := hide (fun (W : World) (h : Later w4 W) => Shorter_eq (k := ky) (j := kx) hs W (hry.later h) (hrx4.later h) (by omega) (by omega))
      have Hst := hide hst
      have hbox4 := fun W (hh : Later w4 W) => hbox W (Later.trans hL04 hh)
      clear hst hs
      cases s with
      | false =>
        go_wp2_with fail
        refine wp_region_ext (w0 := w4) (by kernel_rfl) (by kernel_rfl) (later_refl _) ?_; (repeat (first | go_big_quiet_step (((go_at_call 64; exact calls_ext (by simp) (HS.out _ (by simp))))) | quiet_step (((go_at_call 64; exact calls_ext (by simp) (HS.out _ (by simp))))))); refine wpQuiet_nil ?_; rintro w5 ⟨⟨_, hL5⟩, rfl⟩; (try dsimp only)
        go_wp2_with fail
        go_roundw
        case rel =>
          refine ⟨j + 1, Ax, nx, kx, by omega, by go_num, rfl, ?_, hkx, hx31, Later.trans hL04 hL5⟩
          rw [Hst.out]; exact hrx4.later hL5
        case measure => simp [intOf]; omega
      | true =>
        have han := andNot_full (by have := Hl3.out; have := ok.n3; omega) Hf.out hlt
        obtain ⟨q, hq⟩ : ∃ q, can c (f - j) = q := ⟨_, rfl⟩
        rw [hq, Bool.true_and] at Hst
        have Hq := hide hq
        clear hq
        have hcq := fun (W : World) (h : Later w0 W) => HC.out W h (f - j) (by omega) q Hq.out
        rw [← han] at hcq
        have Hcq := hide hcq
        clear hcq han
        cases q with
        | true =>
          go_wp2_with fail
          refine wp_region_ext (w0 := w4) (by kernel_rfl) (by kernel_rfl) (later_refl _) ?_; (repeat (first | go_big_quiet_step ((first | (go_at_call 64; exact calls_ext (by simp) (HS.out _ (by simp))) | (go_at_call 63; exact calls_ext (by simp) (Hfull.out _ (hc0.later (Later.trans hL04 (by simp))))) | (go_at_call 101; exact calls_ext (by simp) (Hcq.out _ (Later.trans hL04 (by simp)))))) | quiet_step ((first | (go_at_call 64; exact calls_ext (by simp) (HS.out _ (by simp))) | (go_at_call 63; exact calls_ext (by simp) (Hfull.out _ (hc0.later (Later.trans hL04 (by simp))))) | (go_at_call 101; exact calls_ext (by simp) (Hcq.out _ (Later.trans hL04 (by simp)))))))); refine wpQuiet_nil ?_; rintro w5 ⟨⟨_, hL5⟩, rfl⟩; (try dsimp only)
          go_wp2_with fail
          go_roundw
          case rel =>
            refine ⟨j + 1, Ay, ny, ky, by omega, by go_num, rfl, ?_, hky, hny31, Later.trans hL04 hL5⟩
            rw [Hst.out]; exact hry.later hL5
          case measure => simp [intOf]; omega
        | false =>
          go_wp2_with fail
          refine wp_region_ext (w0 := w4) (by kernel_rfl) (by kernel_rfl) (later_refl _) ?_; (repeat (first | go_big_quiet_step ((first | (go_at_call 64; exact calls_ext (by simp) (HS.out _ (by simp))) | (go_at_call 63; exact calls_ext (by simp) (Hfull.out _ (hc0.later (Later.trans hL04 (by simp))))) | (go_at_call 101; exact calls_ext (by simp) (Hcq.out _ (Later.trans hL04 (by simp)))))) | quiet_step ((first | (go_at_call 64; exact calls_ext (by simp) (HS.out _ (by simp))) | (go_at_call 63; exact calls_ext (by simp) (Hfull.out _ (hc0.later (Later.trans hL04 (by simp))))) | (go_at_call 101; exact calls_ext (by simp) (Hcq.out _ (Later.trans hL04 (by simp)))))))); refine wpQuiet_nil ?_; rintro w5 ⟨⟨_, hL5⟩, rfl⟩; (try dsimp only)
          go_wp2_with fail
          go_roundw
          case rel =>
            refine ⟨j + 1, Ax, nx, kx, by omega, by go_num, rfl, ?_, hkx, hx31, Later.trans hL04 hL5⟩
            rw [Hst.out]; exact hrx4.later hL5
          case measure => simp [intOf]; omega
    · have hj1 : j = f + 1 := by omega
      subst hj1
      have hi1 : ¬ ((f + 1 : Nat) : Int) ≤ f := by omega
      rw [← Hend.out] at hrx
      have hL3' := Later.trans hL hL3
      go_wp2_with fail
      go_ret
      exact ⟨Ax, nx, kx, rfl, Later.trans hL0 hL3', hrx.later hL3, hkx⟩
end Go.Proofs.Ytbkfnajpbhfneaa

/- Plain laws: all is paid once; tickets of tubs. -/
namespace Go.Proofs.Ytbkfnajpbhfneaa

/-! ### verdicts, asked of two tickets -/
theorem isTick_nat {c : Hou} {a : Nat} (h : a < c.tickets.length) : isTick c a = true := by unfold isTick inB; simp; omega
theorem clashDue_nat {c : Hou} {a b : Nat} (ha : a < c.tickets.length) (hb : b < c.tickets.length) (hne : a ≠ b) : clashDue c a b = 0 := by
  unfold clashDue
  rw [isTick_nat ha, isTick_nat hb, if_neg (by simp), if_neg (by omega)]
theorem clashOut_nat {c : Hou} (he : askedErr c 0 = 0) {a b : Nat} (ha : a < c.tickets.length) (hb : b < c.tickets.length) (hne : a ≠ b) : clashOut c a b = vP (fun d => clashB c d a b) (truthsP c) := by
  unfold clashOut
  rw [clashDue_nat ha hb hne, if_pos he]; rfl
theorem clash_comm (c : Hou) (d : List Int) (a b : Nat) : clashB c d a b = clashB c d b a := by
  unfold clashB
  rw [show decide ((tickAt c a).1 = (tickAt c b).1) = decide ((tickAt c b).1 = (tickAt c a).1) by rw [Bool.eq_iff_iff]; simp; omega]
  cases decide ((tickAt c b).1 = (tickAt c a).1) <;> cases (ofR c a).isEmpty <;> cases (ofR c b).isEmpty <;> cases cameB c d a b <;> cases cameB c d b a <;> rfl
theorem clashOut_comm {c : Hou} (he : askedErr c 0 = 0) {a b : Nat} (ha : a < c.tickets.length) (hb : b < c.tickets.length) (hne : a ≠ b) : clashOut c a b = clashOut c b a := by
  rw [clashOut_nat he ha hb hne, clashOut_nat he hb ha (Ne.symm hne)]
  exact vP_congr fun d _ => clash_comm c d a b
theorem clash_tubs {c : Hou} (he : askedErr c 0 = 0) {a b : Nat} (ha : a < c.tickets.length) (hb : b < c.tickets.length) (hne : a ≠ b) (ht : (tickAt c b).1 ≠ (tickAt c a).1) : clashOut c a b = 2 := by
  rw [clashOut_nat he ha hb hne, vP_two (askedErr_zero he).2.2]
  intro d _
  unfold clashB
  rw [decide_eq_false (fun e => ht e.symm)]
  simp
theorem clash_fits {c : Hou} (he : askedErr c 0 = 0) {a b : Nat} (ha : a < c.tickets.length) (hb : b < c.tickets.length) (hne : a ≠ b) {d : List Int} (hd : d ∈ truths c) :
    (clashOut c a b = 1 ∧ clashB c d a b = true) ∨ (clashOut c a b = 2 ∧ clashB c d a b = false) ∨ clashOut c a b = 3 := by
  rw [clashOut_nat he ha hb hne]
  exact vP_fits (p := fun d => clashB c d a b) ((truthsP_perm (askedErr_zero he).1).mem_iff.2 hd)

/-! ### TicketOnce -/
def noT (v : List Int) (i : Nat) : Bool := (List.range i).all fun t => decide (v.getD t 0 = 2)
def anT (v : List Int) (i : Nat) : Bool := (List.range i).any fun t => decide (v.getD t 0 = 1)
def noR (c : Hou) (a b : Nat) : Bool := (List.range b).all fun y => decide (clashOut c a y = 2)
def anR (c : Hou) (a b : Nat) : Bool := (List.range b).any fun y => decide (clashOut c a y = 1)
def noC (c : Hou) (a : Nat) : Bool := (List.range a).all fun x => noR c x x
def anC (c : Hou) (a : Nat) : Bool := (List.range a).any fun x => anR c x x
theorem noT_succ {v : List Int} {i : Nat} {x : Int} (h : v[i]? = some x) : noT v (i + 1) = (noT v i && decide (x = 2)) := by
  unfold noT; rw [range_all_succ, List.getD_eq_getElem?_getD, h]; rfl
theorem anT_succ {v : List Int} {i : Nat} {x : Int} (h : v[i]? = some x) : anT v (i + 1) = (anT v i || decide (x = 1)) := by
  unfold anT; rw [range_any_succ, List.getD_eq_getElem?_getD, h]; rfl
theorem noR_succ (c : Hou) (a b : Nat) : noR c a (b + 1) = (noR c a b && decide (clashOut c a b = 2)) := range_all_succ _ _
theorem anR_succ (c : Hou) (a b : Nat) : anR c a (b + 1) = (anR c a b || decide (clashOut c a b = 1)) := range_any_succ _ _
theorem noC_succ (c : Hou) (a : Nat) : noC c (a + 1) = (noC c a && noR c a a) := range_all_succ _ _
theorem anC_succ (c : Hou) (a : Nat) : anC c (a + 1) = (anC c a || anR c a a) := range_any_succ _ _
theorem long_get {c : Hou} (he : askedErr c 0 = 0) {t : Nat} (ht : t < c.tickets.length) : (longOut c).getD t 0 = vP (longF c t) (truthsP c) := by
  unfold longOut
  rw [if_pos he, List.getD_eq_getElem?_getD, List.getElem?_map, List.getElem?_range ht]; rfl
theorem once_law {c : Hou} (he : askedErr c 0 = 0) : (paidOut c = 1 ↔ (noT (longOut c) c.tickets.length && noC c c.tickets.length) = true) ∧ ((anT (longOut c) c.tickets.length || anC c c.tickets.length) = true → paidOut c = 2) := by
  obtain ⟨hf, _, hne⟩ := askedErr_zero he
  have hp : paidOut c = vP (isPaid c) (truthsP c) := by unfold paidOut; rw [if_pos he]
  rw [hp]
  have hpd : ∀ d, isPaid c d = true ↔ ∀ a, a < c.tickets.length → isLong c d a = false ∧ ∀ b, b < a → clashB c d a b = false := fun d => by
    unfold isPaid
    rw [List.all_eq_true]
    constructor
    · intro h a ha
      have := h a (List.mem_range.2 ha)
      rw [Bool.and_eq_true, Bool.not_eq_true', List.all_eq_true] at this
      exact ⟨this.1, fun b hb => by simpa using this.2 b (List.mem_range.2 hb)⟩
    · intro h a ha
      have := h a (List.mem_range.1 ha)
      rw [Bool.and_eq_true, Bool.not_eq_true', List.all_eq_true]
      exact ⟨this.1, fun b hb => by simpa using this.2 b (List.mem_range.1 hb)⟩
  have h1 : noT (longOut c) c.tickets.length = true ↔ ∀ a, a < c.tickets.length → ∀ d ∈ truthsP c, isLong c d a = false := by
    unfold noT
    rw [List.all_eq_true]
    constructor
    · intro h a ha d hd
      have := h a (List.mem_range.2 ha)
      rw [decide_eq_true_eq, long_get he ha, vP_two hne] at this
      exact this d hd
    · intro h a ha
      have ha2 := List.mem_range.1 ha
      rw [decide_eq_true_eq, long_get he ha2, vP_two hne]
      exact fun d hd => h a ha2 d hd
  have h2 : noC c c.tickets.length = true ↔ ∀ a, a < c.tickets.length → ∀ b, b < a → ∀ d ∈ truthsP c, clashB c d a b = false := by
    unfold noC noR
    rw [List.all_eq_true]
    constructor
    · intro h a ha b hb d hd
      have := List.all_eq_true.1 (h a (List.mem_range.2 ha)) b (List.mem_range.2 hb)
      rw [decide_eq_true_eq, clashOut_nat he ha (by omega) (by omega), vP_two hne] at this
      exact this d hd
    · intro h a ha
      have ha2 := List.mem_range.1 ha
      rw [List.all_eq_true]
      intro b hb
      have hb2 := List.mem_range.1 hb
      rw [decide_eq_true_eq, clashOut_nat he ha2 (by omega) (by omega), vP_two hne]
      exact fun d hd => h a ha2 b hb2 d hd
  constructor
  · rw [vP_one, Bool.and_eq_true, h1, h2]
    constructor
    · intro h
      exact ⟨fun a ha d hd => ((hpd d).1 (h d hd) a ha).1, fun a ha b hb d hd => ((hpd d).1 (h d hd) a ha).2 b hb⟩
    · rintro ⟨g1, g2⟩ d hd
      exact (hpd d).2 fun a ha => ⟨g1 a ha d hd, fun b hb => g2 a ha b hb d hd⟩
  · intro h
    rw [vP_two hne]
    intro d hd
    cases hq : isPaid c d with
    | false => rfl
    | true =>
      have hq2 := (hpd d).1 hq
      rw [Bool.or_eq_true] at h
      rcases h with h | h
      · unfold anT at h
        rw [List.any_eq_true] at h
        obtain ⟨a, ha, e⟩ := h
        have ha2 := List.mem_range.1 ha
        rw [decide_eq_true_eq, long_get he ha2, vP_one] at e
        have e1 : isLong c d a = true := e d hd
        rw [(hq2 a ha2).1] at e1
        cases e1
      · unfold anC anR at h
        rw [List.any_eq_true] at h
        obtain ⟨a, ha, e⟩ := h
        have ha2 := List.mem_range.1 ha
        rw [List.any_eq_true] at e
        obtain ⟨b, hb, e⟩ := e
        have hb2 := List.mem_range.1 hb
        rw [decide_eq_true_eq, clashOut_nat he ha2 (by omega) (by omega), vP_one] at e
        have e1 := e d hd
        rw [(hq2 a ha2).2 b hb2] at e1
        cases e1

/-! ### TicketTubs -/
def nStep (c : Hou) (d : List Int) (tub : Int) (n : Int) (k : Nat) : Int := if (tickAt c (clipAt c k).ticket.toNat).1 = tub then max n (trueM c d k) else n
def nTo (c : Hou) (d : List Int) (tub : Int) (j : Nat) : Int := (List.range j).foldl (nStep c d tub) 0
theorem nTo_succ (c : Hou) (d : List Int) (tub : Int) (j : Nat) : nTo c d tub (j + 1) = nStep c d tub (nTo c d tub j) j := by
  unfold nTo; rw [List.range_succ, List.foldl_append]; rfl
theorem nTo_ge {c : Hou} {d : List Int} {tub : Int} : ∀ (j : Nat), 0 ≤ nTo c d tub j ∧ ∀ k, k < j → (tickAt c (clipAt c k).ticket.toNat).1 = tub → trueM c d k ≤ nTo c d tub j
  | 0 => ⟨by simp [nTo], fun k hk => by omega⟩
  | j + 1 => by
    obtain ⟨h0, h1⟩ := nTo_ge (c := c) (d := d) (tub := tub) j
    rw [nTo_succ]
    unfold nStep
    refine ⟨by split <;> omega, fun k hk ht => ?_⟩
    rcases Nat.lt_succ_iff_lt_or_eq.1 hk with h | rfl
    · have := h1 k h ht
      split <;> omega
    · rw [if_pos ht]; omega
theorem nTo_le {c : Hou} {d : List Int} {tub m : Int} (h0 : 0 ≤ m) : ∀ (j : Nat), (∀ k, k < j → (tickAt c (clipAt c k).ticket.toNat).1 = tub → trueM c d k ≤ m) → nTo c d tub j ≤ m
  | 0, _ => by simpa [nTo] using h0
  | j + 1, h => by
    have := nTo_le (c := c) (d := d) (tub := tub) h0 j fun k hk => h k (by omega)
    rw [nTo_succ]
    unfold nStep
    split
    · rename_i ht
      have := h j (Nat.lt_succ_self _) ht
      omega
    · exact this
theorem nTo_range {c : Hou} (ok : OkH c) {d : List Int} (hd : IsErr c d) (tub : Int) {j : Nat} (hj : j ≤ c.clips.length) : 0 ≤ nTo c d tub j ∧ nTo c d tub j ≤ 1469 :=
  ⟨(nTo_ge j).1, nTo_le (by omega) j fun k hk _ => (trueM_range ok hd (by omega)).2⟩
theorem from_ge {c : Hou} {d : List Int} {tub : Int} : ∀ (l : List Nat) (n : Int), n ≤ l.foldl (fromStep c d tub) n ∧ ∀ i ∈ l, (tickAt c i).1 = tub → ∀ x y, ofR c i = [x, y] → trueM c d y ≤ l.foldl (fromStep c d tub) n
  | [], n => ⟨Int.le_refl _, fun i hi => by cases hi⟩
  | j :: l, n => by
    obtain ⟨h0, h1⟩ := from_ge (c := c) (d := d) (tub := tub) l (fromStep c d tub n j)
    rw [List.foldl_cons]
    have hs : n ≤ fromStep c d tub n j := by
      unfold fromStep
      split
      · split <;> omega
      · omega
    refine ⟨by omega, fun i hi ht x y e => ?_⟩
    rcases List.mem_cons.1 hi with rfl | hi
    · have : trueM c d y ≤ fromStep c d tub n i := by unfold fromStep; rw [if_pos ht, e]; dsimp only; omega
      omega
    · exact h1 i hi ht x y e
theorem from_le {c : Hou} {d : List Int} {tub m : Int} : ∀ (l : List Nat) (n : Int), n ≤ m → (∀ i ∈ l, (tickAt c i).1 = tub → ∀ x y, ofR c i = [x, y] → trueM c d y ≤ m) → l.foldl (fromStep c d tub) n ≤ m
  | [], n, h, _ => h
  | j :: l, n, h, hm => by
    rw [List.foldl_cons]
    refine from_le l _ ?_ fun i hi => hm i (List.mem_cons_of_mem _ hi)
    unfold fromStep
    split
    · rename_i ht
      split
      · rename_i x y e
        have := hm j List.mem_cons_self ht x y e
        omega
      · exact h
    · exact h
theorem ofR_mem {c : Hou} {t : Int} {k : Nat} : k ∈ ofR c t ↔ k < c.clips.length ∧ (clipAt c k).ticket = t := by
  unfold ofR
  rw [List.mem_filter, List.mem_range, decide_eq_true_eq]
theorem ofR_sorted (c : Hou) (t : Int) : (ofR c t).Pairwise (· < ·) := List.Pairwise.filter _ List.pairwise_lt_range
theorem truth_rises {c : Hou} (hf : fault c = 0) {d : List Int} (hd : d ∈ truths c) {j k : Nat} (hjk : j ≤ k) (hk : k < c.clips.length) : trueM c d j ≤ trueM c d k := by
  rcases Nat.lt_or_eq_of_le hjk with h | rfl
  · have := (risingR_iff c d (full c)).1 (List.mem_filter.1 hd).2 j k h hk
    rw [full_testBit, full_testBit] at this
    exact this (by simp; omega) (by simpa using hk)
  · omega
/-- the greatest true minute of the clips of a tub is the minute from which on it is free -/
theorem nTo_from {c : Hou} (hf : fault c = 0) {d : List Int} (hd : d ∈ truths c) {tub : Int} (ho : isOpen c tub = false) : nTo c d tub c.clips.length = fromR c d tub := by
  have ok := okH_of_fault hf
  have h0 := (fromR_range ok (truths_isErr ok d hd) tub).1
  apply Int.le_antisymm
  · refine nTo_le h0 _ fun k hk ht => ?_
    have hx := ok.clip _ (clipAt_mem hk)
    have hti : (clipAt c k).ticket.toNat < c.tickets.length := by omega
    have hk2 : k ∈ ofR c ((clipAt c k).ticket.toNat : Nat) := ofR_mem.2 ⟨hk, by omega⟩
    have hle := ok.two _ hti
    have h1 : ¬ (ofR c ((clipAt c k).ticket.toNat : Nat)).length = 1 := fun e => by
      have : isOpen c tub = true := by
        unfold isOpen
        exact List.any_eq_true.2 ⟨_, List.mem_range.2 hti, by rw [decide_eq_true ht, decide_eq_true e]; rfl⟩
      rw [ho] at this; cases this
    match h : ofR c ((clipAt c k).ticket.toNat : Nat), hle, h1, hk2 with
    | [], _, _, hk2 => cases hk2
    | [x], _, h1, _ => exact absurd rfl h1
    | [x, y], _, _, hk2 =>
      have hs := ofR_sorted c ((clipAt c k).ticket.toNat : Nat)
      rw [h] at hs
      have hxy : x < y := by simpa using hs
      have hy : y < c.clips.length := ofR_lt (t := ((clipAt c k).ticket.toNat : Nat)) (by rw [h]; simp)
      have hky : k ≤ y := by simp at hk2; omega
      have h2 := truth_rises hf hd hky hy
      have h3 := (from_ge (c := c) (d := d) (tub := tub) (List.range c.tickets.length) 0).2 _ (List.mem_range.2 hti) ht x y h
      unfold fromR; omega
    | _ :: _ :: _ :: _, hle, _, _ => simp at hle
  · unfold fromR
    refine from_le _ _ (nTo_ge _).1 fun i hi ht x y e => ?_
    have hy : y ∈ ofR c (i : Int) := by rw [e]; simp
    obtain ⟨h1, h2⟩ := ofR_mem.1 hy
    exact (nTo_ge (c := c) (d := d) (tub := tub) c.clips.length).2 y h1 (by rw [h2, Int.toNat_natCast]; exact ht)
theorem free_fits {c : Hou} (hf : fault c = 0) {d : List Int} (hd : d ∈ truths c) {a : Nat} (ha : a < c.tickets.length) (ho : isOpen c (tickAt c a).1 = false) :
    askedErr c (freeDue c (tickAt c a).1) = 0 ∧ inB (nTo c d (tickAt c a).1 c.clips.length) (freeOut c (tickAt c a).1).1 (freeOut c (tickAt c a).1).2 = true := by
  have ok := okH_of_fault hf
  have hne : truthsP c ≠ [] := (truths_ne hf).2 fun e => by rw [e] at hd; cases hd
  have ht := ok.tick _ (tickAt_mem ha)
  have hdu : freeDue c (tickAt c a).1 = 0 := by unfold freeDue; rw [if_neg, ho, if_neg (by simp)]; unfold inB; simp; omega
  have he : askedErr c (freeDue c (tickAt c a).1) = 0 := by rw [hdu]; exact askedErr_ok hf hne
  refine ⟨he, ?_⟩
  unfold freeOut
  rw [if_pos he, nTo_from hf hd ho]
  have hb := bP_is (freeF c (tickAt c a).1) hne
  have hdp : d ∈ truthsP c := (truthsP_perm hf).mem_iff.2 hd
  have h1 := hb.lo d hdp
  have h2 := hb.hi d hdp
  unfold freeF at h1 h2
  unfold inB
  simp only [Bool.and_eq_true, decide_eq_true_eq]
  exact ⟨h1, h2⟩
theorem free_open {c : Hou} (hf : fault c = 0) {a : Nat} (ha : a < c.tickets.length) (ho : isOpen c (tickAt c a).1 = true) : askedErr c (freeDue c (tickAt c a).1) = 8 := by
  have ok := okH_of_fault hf
  have ht := ok.tick _ (tickAt_mem ha)
  have hdu : freeDue c (tickAt c a).1 = 8 := by unfold freeDue; rw [if_neg, ho, if_pos rfl]; unfold inB; simp; omega
  rw [hdu]; exact askedErr_due hf (by omega)
theorem play_fits {c : Hou} (hf : fault c = 0) {d : List Int} (hd : d ∈ truths c) : playErr c d = 0 ∧ playL c d = c.clips.map (minuteC d) := by
  have ok := okH_of_fault hf
  have he : playErr c d = 0 := by unfold playErr; rw [if_neg (by simp [hf]), (isErr_iff c d).2 (truths_isErr ok d hd), if_neg (by simp)]
  exact ⟨he, by unfold playL; rw [if_pos he]⟩
end Go.Proofs.Ytbkfnajpbhfneaa

/- Plain laws: houses with fewer truths, one more clip, a wider clock. -/
namespace Go.Proofs.Ytbkfnajpbhfneaa

theorem ne_of_sub {l m : List (List Int)} (hs : ∀ d ∈ l, d ∈ m) (hl : l ≠ []) : m ≠ [] := fun e => by
  cases hx : l with
  | nil => exact hl hx
  | cons d t => have := hs d (by rw [hx]; exact List.mem_cons_self); rw [e] at this; cases this
theorem bP_sub (f : List Int → Int) {l m : List (List Int)} (hs : ∀ d ∈ l, d ∈ m) (hl : l ≠ []) : (bP f m).1 ≤ (bP f l).1 ∧ (bP f l).2 ≤ (bP f m).2 := by
  have hm := ne_of_sub hs hl
  obtain ⟨a, ha, e1⟩ := (bP_is f hl).loAt
  obtain ⟨b, hb, e2⟩ := (bP_is f hl).hiAt
  have t1 := (bP_is f hm).lo a (hs a ha)
  have t2 := (bP_is f hm).hi b (hs b hb)
  omega
theorem vP_sub (p : List Int → Bool) {l m : List (List Int)} (hs : ∀ d ∈ l, d ∈ m) (hl : l ≠ []) : vP p m = 3 ∨ vP p m = vP p l := by
  have hm := ne_of_sub hs hl
  rcases vP_cases p m with h | h | h
  · right
    have : vP p l = 1 := vP_one.2 fun d hd => vP_one.1 h d (hs d hd)
    rw [h, this]
  · right
    have : vP p l = 2 := (vP_two hl).2 fun d hd => (vP_two hm).1 h d (hs d hd)
    rw [h, this]
  · exact .inl h
theorem filter_sub {α : Type} {p q : α → Bool} {l : List α} (h : ∀ x ∈ l, p x = true → q x = true) : List.Sublist (l.filter p) (l.filter q) := by
  have e : l.filter p = (l.filter q).filter p := by
    rw [List.filter_filter]
    apply List.filter_congr
    intro x hx
    cases hp : p x with
    | false => simp
    | true => simp [h x hx hp]
  rw [e]; exact List.filter_sublist
theorem lookTo_mono {f g : Nat → Int} {m m' : Int} (hm : m ≤ m') : ∀ n, (∀ i, i < n → f i ≤ g i) → (lookTo f m n).2 ≤ (lookTo g m' n).2
  | 0, _ => hm
  | n + 1, h => by
    have ih := lookTo_mono hm n fun i hi => h i (by omega)
    have := h n (by omega)
    simp only [lookTo]
    split <;> split <;> (try dsimp only) <;> omega

/-- x has some truths, and all of them are c's -/
structure Narrow (c x : Hou) : Prop where
  fc : fault c = 0
  fx : fault x = 0
  ck : x.clocks.length = c.clocks.length
  sub : ∀ d ∈ truthsP x, d ∈ truthsP c
  ne : truthsP x ≠ []
theorem Narrow.nec {c x : Hou} (h : Narrow c x) : truthsP c ≠ [] := ne_of_sub h.sub h.ne
theorem Narrow.ec {c x : Hou} (h : Narrow c x) : askedErr c 0 = 0 := askedErr_ok h.fc h.nec
theorem Narrow.ex {c x : Hou} (h : Narrow c x) : askedErr x 0 = 0 := askedErr_ok h.fx h.ne
theorem Narrow.clocks {c x : Hou} (h : Narrow c x) : (clocksOut c).length = c.clocks.length ∧ (clocksOut x).length = c.clocks.length ∧
    ∀ (i : Nat) (a b : Int × Int), (clocksOut x)[i]? = some a → (clocksOut c)[i]? = some b → b.1 ≤ a.1 ∧ a.2 ≤ b.2 := by
  unfold clocksOut
  rw [if_pos h.ec, if_pos h.ex]
  refine ⟨by simp, by simp [h.ck], fun i a b ha hb => ?_⟩
  have hi : i < c.clocks.length := by have := (List.getElem?_eq_some_iff.1 hb).1; simpa using this
  rw [List.getElem?_map, List.getElem?_range hi] at hb
  rw [List.getElem?_map, List.getElem?_range (by rw [h.ck]; exact hi)] at ha
  simp only [Option.map_some, Option.some.injEq] at ha hb
  subst ha hb
  exact bP_sub (offF i) h.sub h.ne
theorem Narrow.hours {c x : Hou} (h : Narrow c x) (ht : x.tickets.length = c.tickets.length) (hh : ∀ d i, hoursR x d i = hoursR c d i) : (hoursOut c).length = c.tickets.length ∧ (hoursOut x).length = c.tickets.length ∧
    ∀ (i : Nat) (a b : Int × Int), (hoursOut x)[i]? = some a → (hoursOut c)[i]? = some b → b.1 ≤ a.1 ∧ a.2 ≤ b.2 := by
  unfold hoursOut
  rw [if_pos h.ec, if_pos h.ex]
  refine ⟨by simp, by simp [ht], fun i a b ha hb => ?_⟩
  have hi : i < c.tickets.length := by have := (List.getElem?_eq_some_iff.1 hb).1; simpa using this
  rw [List.getElem?_map, List.getElem?_range hi] at hb
  rw [List.getElem?_map, List.getElem?_range (by rw [ht]; exact hi)] at ha
  simp only [Option.map_some, Option.some.injEq] at ha hb
  subst ha hb
  have e : hoursF x i = hoursF c i := funext fun d => hh d i
  rw [e]
  exact bP_sub (hoursF c i) h.sub h.ne
theorem Narrow.long {c x : Hou} (h : Narrow c x) (ht : x.tickets.length = c.tickets.length) (hh : ∀ d i, isLong x d i = isLong c d i) : (longOut c).length = c.tickets.length ∧ (longOut x).length = c.tickets.length ∧
    ∀ (i : Nat) (a b : Int), (longOut c)[i]? = some a → (longOut x)[i]? = some b → a = 3 ∨ a = b := by
  unfold longOut
  rw [if_pos h.ec, if_pos h.ex]
  refine ⟨by simp, by simp [ht], fun i a b ha hb => ?_⟩
  have hi : i < c.tickets.length := by have := (List.getElem?_eq_some_iff.1 ha).1; simpa using this
  rw [List.getElem?_map, List.getElem?_range hi] at ha
  rw [List.getElem?_map, List.getElem?_range (by rw [ht]; exact hi)] at hb
  simp only [Option.map_some, Option.some.injEq] at ha hb
  subst ha hb
  have e : longF x i = longF c i := funext fun d => hh d i
  rw [e]
  exact vP_sub (longF c i) h.sub h.ne
theorem Narrow.paid {c x : Hou} (h : Narrow c x) (hh : ∀ d, isPaid x d = isPaid c d) : paidOut c = 3 ∨ paidOut c = paidOut x := by
  unfold paidOut
  rw [if_pos h.ec, if_pos h.ex]
  have e : isPaid x = isPaid c := funext hh
  rw [e]
  exact vP_sub (isPaid c) h.sub h.ne
theorem leaves_sub {l m : List (List Int)} (h : List.Sublist l m) (k : Nat) : leaves l k ≤ leaves m k := by
  obtain ⟨_, v, hv⟩ := leaves_is l k
  have h1 := (leaves_is m k).1 v
  have h2 : cnt l k v ≤ cnt m k v := h.countP_le
  omega
theorem mostC_leavesP {c : Hou} (hf : fault c = 0) {i : Nat} (hi : i < c.clocks.length) : mostC c i = leaves (truthsP c) i := by
  rw [mostC_leaves hf hi, leaves_perm (truthsP_perm hf)]
theorem Narrow.look {c x : Hou} (h : Narrow c x) (hs : List.Sublist (truthsP x) (truthsP c)) (h0 : 0 < c.clocks.length) : lookErr c = 0 ∧ lookErr x = 0 ∧ (lookOut x).2 ≤ (lookOut c).2 := by
  have e1 : lookErr c = 0 := by unfold lookErr; rw [if_neg (by simp [h.ec]), if_neg (by omega)]
  have e2 : lookErr x = 0 := by unfold lookErr; rw [if_neg (by simp [h.ex]), if_neg (by have := h.ck; omega)]
  refine ⟨e1, e2, ?_⟩
  unfold lookOut
  rw [if_pos e1, if_pos e2, h.ck]
  refine lookTo_mono (by have := hs.length_le; omega) _ fun i hi => ?_
  rw [mostC_leavesP h.fc hi, mostC_leavesP h.fx (by rw [h.ck]; exact hi)]
  exact leaves_sub hs i

/-! ### one more clip -/
def moreH (c : Hou) (x : Cp) : Hou := withClips c (c.clips ++ [x])
theorem trueM_more {c : Hou} {x : Cp} {d : List Int} {j : Nat} (h : j < c.clips.length) : trueM (moreH c x) d j = trueM c d j := by
  unfold trueM clipAt moreH withClips
  rw [List.getD_eq_getElem?_getD, List.getD_eq_getElem?_getD, List.getElem?_append_left h]
theorem bits_moreF : ((List.range 10).all fun n => (List.range (2 ^ n)).all fun b => (bitList (n + 1) (b + 2 ^ n) 0).length == (bitList (n + 1) b 0).length + 1) = true := by decide +kernel
theorem bits_lessF : ((List.range 10).all fun n => (List.range (2 ^ (n + 1))).all fun m => decide ((bitList (n + 1) (m % 2 ^ n) 0).length ≤ (bitList (n + 1) m 0).length)) = true := by decide +kernel
theorem bits_more {n b : Nat} (hn : n < 10) (hb : b < 2 ^ n) : (bitsR (b + 2 ^ n)).length = (bitsR b).length + 1 := by
  have h := List.all_eq_true.1 (List.all_eq_true.1 bits_moreF n (List.mem_range.2 hn)) b (List.mem_range.2 hb)
  have hp : 2 ^ (n + 1) = 2 ^ n + 2 ^ n := by rw [Nat.pow_succ]; omega
  rw [beq_iff_eq] at h
  rw [bitsR_fuel (n := n + 1) (by omega), bitsR_fuel (n := n + 1) (b := b) (by omega)]
  exact h
theorem bits_less {n m : Nat} (hn : n < 10) (hm : m < 2 ^ (n + 1)) : (bitsR (m % 2 ^ n)).length ≤ (bitsR m).length := by
  have h := List.all_eq_true.1 (List.all_eq_true.1 bits_lessF n (List.mem_range.2 hn)) m (List.mem_range.2 hm)
  have hp : 2 ^ (n + 1) = 2 ^ n + 2 ^ n := by rw [Nat.pow_succ]; omega
  have := Nat.mod_lt m (Nat.two_pow_pos n)
  rw [decide_eq_true_eq] at h
  rw [bitsR_fuel (n := n + 1) (by omega), bitsR_fuel (n := n + 1) (b := m) hm]
  exact h
theorem more_law {c : Hou} {x : Cp} (hf : fault c = 0) (hx : fault (moreH c x) = 0) :
    (leaveOut c).length ≤ (leaveOut (moreH c x)).length ∧ (leaveOut (moreH c x)).length ≤ (leaveOut c).length + 1 ∧
    (leaveOut (moreH c x) = [] → Narrow c (moreH c x) ∧ List.Sublist (truthsP (moreH c x)) (truthsP c) ∧ 0 < c.clocks.length) := by
  have ok := okH_of_fault hf
  have okx := okH_of_fault hx
  have hlx : (moreH c x).clips.length = c.clips.length + 1 := by unfold moreH withClips; simp
  have hn9 : c.clips.length < 10 := by have := okx.n3; omega
  obtain ⟨B, hB, e1, hP, hmin⟩ := leave_min hf
  obtain ⟨B', hB', e2, hP', hmin'⟩ := leave_min hx
  rw [hlx] at hB' hmin'
  have hpow : 2 ^ (c.clips.length + 1) = 2 ^ c.clips.length + 2 ^ c.clips.length := by rw [Nat.pow_succ]; omega
  have hbm := bits_more hn9 hB
  have hsub : List.Sublist (truthsP (moreH c x)) (truthsP c) := by
    rw [truthsP_filter okx, truthsP_filter ok]
    refine filter_sub fun d _ h => ?_
    rw [rightP_iff okx] at h
    rw [rightP_iff ok]
    intro j k hjk hk h1 h2
    have := h j k hjk (by omega) h1 h2
    rwa [trueM_more (by omega), trueM_more hk] at this
  refine ⟨?_, ?_, fun hnil => ⟨⟨hf, hx, rfl, fun d hd => hsub.subset hd, leave_nil hx hnil⟩, hsub, ?_⟩⟩
  · rw [e1, e2]
    refine Nat.le_trans (hmin (B' % 2 ^ c.clips.length) (Nat.mod_lt _ (Nat.two_pow_pos _)) ?_) (bits_less hn9 hB')
    rw [possible_iff okx] at hP'
    rw [possible_iff ok]
    obtain ⟨d, hd, h⟩ := hP'
    refine ⟨d, hd, fun j k hjk hk h1 h2 => ?_⟩
    rw [bitsR_mem, Nat.testBit_mod_two_pow] at h1 h2
    have := h j k hjk (by omega) (by rw [bitsR_mem]; simpa [show j < c.clips.length by omega] using h1) (by rw [bitsR_mem]; simpa [hk] using h2)
    rwa [trueM_more (by omega), trueM_more hk] at this
  · rw [e1, e2, ← hbm]
    refine hmin' (B + 2 ^ c.clips.length) (by omega) ?_
    rw [possible_iff ok] at hP
    rw [possible_iff okx]
    obtain ⟨d, hd, h⟩ := hP
    have hbit : ∀ j, (B + 2 ^ c.clips.length).testBit j = (decide (j = c.clips.length) || B.testBit j) := fun j => by
      have e := or_pow B c.clips.length hB
      rw [← e, Nat.testBit_or, Nat.testBit_two_pow, Bool.or_comm]
      by_cases hj : c.clips.length = j
      · simp [hj]
      · simp [hj, Ne.symm hj]
    refine ⟨d, hd, fun j k hjk hk h1 h2 => ?_⟩
    rw [bitsR_mem, hbit] at h1 h2
    simp only [Bool.or_eq_true, decide_eq_true_eq, not_or] at h1 h2
    have hk2 : k < c.clips.length := by omega
    rw [trueM_more (by omega), trueM_more hk2]
    exact h j k hjk hk2 (by rw [bitsR_mem]; exact h1.2) (by rw [bitsR_mem]; exact h2.2)
  · have := (okx.clip x (by unfold moreH withClips; simp)).2.2
    have e : (moreH c x).clocks.length = c.clocks.length := rfl
    omega

/-! ### a wider clock -/
theorem errAll_has : ∀ (hs : List (Int × Int)) (d : List Int), areErrors hs d = true → d ∈ errAll hs
  | [], [], _ => by simp [errAll]
  | [], _ :: _, h => by simp [areErrors] at h
  | _ :: _, [], h => by simp [areErrors] at h
  | h :: hs, x :: d, hd => by
    simp only [areErrors, Bool.and_eq_true, inB, decide_eq_true_eq] at hd
    unfold errAll
    refine List.mem_flatMap.2 ⟨x, ?_, List.mem_map.2 ⟨d, errAll_has hs d hd.2, rfl⟩⟩
    unfold rangeL
    exact List.mem_map.2 ⟨(x - h.1).toNat, List.mem_range.2 (by omega), by omega⟩
def setC (c : Hou) (k : Nat) (r : Int × Int) : Hou := { c with clocks := c.clocks.set k r }
theorem wider_law {c : Hou} {k : Nat} {r s : Int × Int} (hr : c.clocks[k]? = some r) (h1 : s.1 ≤ r.1) (h2 : r.2 ≤ s.2) (hf : fault c = 0) (hx : fault (setC c k s) = 0) :
    (leaveOut (setC c k s)).length ≤ (leaveOut c).length ∧ (leaveOut c = [] → Narrow (setC c k s) c) := by
  have hk : k < c.clocks.length := (List.getElem?_eq_some_iff.1 hr).1
  have ok := okH_of_fault hf
  have okx := okH_of_fault hx
  have hlen : (setC c k s).clocks.length = c.clocks.length := by show (c.clocks.set k _).length = _; simp
  have hsub : ∀ d ∈ errAll c.clocks, d ∈ errAll (setC c k s).clocks := fun d hd => by
    have h3 := errAll_isErr c d hd
    refine errAll_has _ d ((isErr_iff (setC c k s) d).2 ⟨by rw [h3.len, hlen], fun i h x hi hxi => ?_⟩)
    have hi' : (c.clocks.set k s)[i]? = some h := hi
    by_cases hik : k = i
    · subst hik
      rw [List.getElem?_set_self hk] at hi'
      injection hi' with hi'
      subst hi'
      have := h3.mem k r x hr hxi
      omega
    · rw [List.getElem?_set_ne hik] at hi'
      exact h3.mem i h x hi' hxi
  refine ⟨?_, fun hnil => ⟨hx, hf, hlen.symm, fun d hd => ?_, leave_nil hf hnil⟩⟩
  · obtain ⟨B, hB, e1, hP, _⟩ := leave_min hf
    obtain ⟨B', hB', e2, _, hmin⟩ := leave_min hx
    rw [e1, e2]
    refine hmin B hB ?_
    rw [possible_iff okx]
    rw [possible_iff ok] at hP
    obtain ⟨d, hd, h⟩ := hP
    exact ⟨d, hsub d hd, h⟩
  · rw [truthsP_filter ok] at hd
    rw [truthsP_filter okx]
    obtain ⟨h3, h4⟩ := List.mem_filter.1 hd
    exact List.mem_filter.2 ⟨hsub d h3, h4⟩
end Go.Proofs.Ytbkfnajpbhfneaa

/- append to an empty slice that the call has just made: all that was there stays. -/
namespace Go.Proofs.Ytbkfnajpbhfneaa
open Go Go.RowKit

theorem own_empty {W : World} {base g : Nat} {e : TypeId} {size : Nat} (hg : Blk W g e #[]) (hb : base ≤ g) : W.ownsRow base e size (.slice (some ⟨g, 0, none⟩) 0 0) 0 [] :=
  ⟨by simp, .inr ⟨g, 0, #[], rfl, hb, hg, Nat.le_refl _, by unfold maxLen; omega, by simp, by simp⟩⟩
theorem app0_wp {P : Program} {o : Oper} {a : Act} {K : Act → World → Prop} {Q : Exit → Act → World → Prop} {W : World} (base : Nat) (s x : Operand) (t : TypeId) (hgd : o.guard = none)
    (ho : o.op = .call { callee := .builtin .append, args := #[s, x], argTypes := #[t, t] }) (e : TypeId) (z : Value) (size bytes : Nat)
    (ht : P.underlying t = some (.slice e)) (hinfo : (P.info? e).map (fun i => (i.zero, i.size, i.bytes)) = some (some z, size, bytes)) (hzs : z.cells.size = size) (hsz : 0 < size)
    (g : Nat) (hs : a.eval s = .slice (some ⟨g, 0, none⟩) 0 0) (hg : Blk W g e #[]) (hb : base ≤ g)
    (ao : Option Addr) (m c : Nat) (news : List Value) (hx : a.eval x = .slice ao m c) (hl : news.length = m * size) (hc : ∀ ad, ao = some ad → ∀ j u, news[j]? = some u → W.cell? (ad.add j) = some u) (hno : ao = none → m = 0)
    (h1 : ∀ u ∈ news, u.oneCell' = true) (hm : m ≤ maxLen) (hby : m * bytes ≤ 140737488355328)
    (h : ∀ v' w', Later W w' → w'.ownsRow base e size v' m news → K (a.put o.dst v') w') :
    o.wp P a W K Q := by
  obtain ⟨i, hi, hz, h2, h3⟩ := info_parts hinfo
  by_cases hm0 : m = 0
  · subst hm0
    obtain rfl : news = [] := List.eq_nil_of_length_eq_zero (by simpa using hl)
    have hown := own_empty (size := size) hg hb
    have hr : (Builtin.append_ #[t, t] o.type #[.slice (some ⟨g, 0, none⟩) 0 0, .slice ao 0 c]).run P W = .ok (.slice (some ⟨g, 0, none⟩) 0 0) W := by
      cases ao with
      | none => simp [Builtin.append_, run_underlying ht, sizeOf, typeInfo, hi, Builtin.lenOf, Builtin.firstCells, storeCells]
      | some ad => simp [Builtin.append_, run_underlying ht, sizeOf, typeInfo, hi, Builtin.lenOf, Builtin.firstCells, loadCells, loadCellsFrom, storeCells]
    unfold Oper.wp execOp
    simp only [ho, resolve, invoke, builtin, Sem.run_bind, Sem.run_pure, Result.andThen_ok, List.map_toArray, List.map_cons, List.map_nil, hs, hx, hr]
    exact h _ _ (later_refl _) hown
  · cases ao with
    | none => exact absurd (hno rfl) hm0
    | some ad =>
      have h0 := step_append_grows (P := P) (ops := #[o]) (o := o) (a := a) (w := W) (K := K) (Q := Q) (E := False) hgd s x t ho e i z size bytes ht hi hz h2 h3 hzs hsz (some ⟨g, 0, none⟩) 0 0 [] hs (fun h => by cases h) (by simp) (fun b hb j u hj => by simp at hj)
        ad m c news hx hl (hc ad rfl) h1 (by omega) (by omega) (by rw [Nat.zero_add]; exact hby) (fun v' w' hown hgr => by
          rw [Nat.zero_add, List.nil_append] at hown
          exact h v' w' (Later.grown (later_refl W) hgr (fun g' hg' => by cases hg')) (World.ownsRow.mono hown (by have := hg.lt; omega)))
      rwa [if_pos (by simp [Region.wanted, hgd])] at h0
theorem app0 {P : Program} {ops : Array Oper} {rest : List Oper} {o : Oper} {a : Act} {Q : Exit → Act → World → Prop} {W : World} (hgd : o.guard = none) (base : Nat) (s x : Operand) (t : TypeId)
    (ho : o.op = .call { callee := .builtin .append, args := #[s, x], argTypes := #[t, t] }) (e : TypeId) (z : Value) (size bytes : Nat)
    (ht : P.underlying t = some (.slice e)) (hinfo : (P.info? e).map (fun i => (i.zero, i.size, i.bytes)) = some (some z, size, bytes)) (hzs : z.cells.size = size) (hsz : 0 < size)
    (g : Nat) (hs : a.eval s = .slice (some ⟨g, 0, none⟩) 0 0) (hg : Blk W g e #[]) (hb : base ≤ g)
    (ao : Option Addr) (m c : Nat) (news : List Value) (hx : a.eval x = .slice ao m c) (hl : news.length = m * size) (hc : ∀ ad, ao = some ad → ∀ j u, news[j]? = some u → W.cell? (ad.add j) = some u) (hno : ao = none → m = 0)
    (h1 : ∀ u ∈ news, u.oneCell' = true) (hm : m ≤ maxLen) (hby : m * bytes ≤ 140737488355328)
    (h : ∀ v' w', Later W w' → w'.ownsRow base e size v' m news → wpList P ops Q rest (a.put o.dst v') w') :
    wpList P ops Q (o :: rest) a W :=
  wpList_plain hgd fun _ hK => app0_wp base s x t hgd ho e z size bytes ht hinfo hzs hsz g hs hg hb ao m c news hx hl hc hno h1 hm hby fun v' w' hL ho => hK _ _ (h v' w' hL ho)
theorem reads_cells {w : World} {B size : Nat} {A : Option Addr} {n : Nat} {xs : List Value} (h : Reads w B size A n xs) : ∀ ad, A = some ad → ∀ j u, xs[j]? = some u → w.cell? (ad.add j) = some u := fun ad hA j u hj => by
  have hlt := (List.getElem?_eq_some_iff.1 hj).1
  have hn : 0 < n := by
    rcases Nat.eq_zero_or_pos n with h0 | h0
    · have := h.1; rw [h0, Nat.zero_mul] at this; omega
    · exact h0
  obtain ⟨ad', e, _, hc⟩ := h.2 hn
  rw [hA] at e; injection e with e; subst e
  exact hc j u hj
theorem reads_none {w : World} {B size : Nat} {A : Option Addr} {n : Nat} {xs : List Value} (h : Reads w B size A n xs) : A = none → n = 0 := fun hA => by
  rcases Nat.eq_zero_or_pos n with h0 | h0
  · exact h0
  · obtain ⟨ad', e, _⟩ := h.2 h0; rw [hA] at e; cases e
theorem clips_one (l : List Cp) : ∀ u ∈ clipsV l, u.oneCell' = true := fun u hu => by
  simp only [clipsV, List.mem_flatMap] at hu
  obtain ⟨x, _, hx⟩ := hu
  simp only [Cp.cells, List.mem_cons, List.not_mem_nil, or_false] at hx
  rcases hx with rfl | rfl | rfl <;> rfl
theorem pairs_one (l : List (Int × Int)) : ∀ u ∈ pairsV l, u.oneCell' = true := fun u hu => by
  simp only [pairsV, List.mem_flatMap] at hu
  obtain ⟨x, _, hx⟩ := hu
  simp only [pairC, List.mem_cons, List.not_mem_nil, or_false] at hx
  rcases hx with rfl | rfl <;> rfl
theorem rrange_info : (Try.prog.info? 44).map (fun i => (i.zero, i.size, i.bytes)) = some (some (.agg #[.int .i64 0, .int .i64 0]), 2, 16) := by kernel_rfl
theorem rticket_info : (Try.prog.info? 80).map (fun i => (i.zero, i.size, i.bytes)) = some (some (.agg #[.int .i64 0, .int .i64 0]), 2, 16) := by kernel_rfl
/-! ### lists of which one element is set -/
theorem pairsV_set : ∀ (l : List (Int × Int)) (k : Nat) (r : Int × Int), pairsV (l.set k r) = ((pairsV l).set (k * 2) (.int .i64 r.1)).set (k * 2 + 1) (.int .i64 r.2)
  | [], k, r => by simp [pairsV]
  | y :: l, 0, r => rfl
  | y :: l, k + 1, r => by
    have ih := pairsV_set l k r
    rw [show (k + 1) * 2 = k * 2 + 1 + 1 by omega]
    show pairC y ++ pairsV (l.set k r) = ((pairC y ++ pairsV l).set (k * 2 + 1 + 1) _).set (k * 2 + 1 + 1 + 1) _
    rw [ih]; rfl
theorem pairsV_second : ∀ (l : List (Int × Int)) (k : Nat) (x : Int × Int) (h : Int), l[k]? = some x → pairsV (l.set k (x.1, h)) = (pairsV l).set (k * 2 + 1) (.int .i64 h)
  | [], k, x, h, e => by cases e
  | y :: l, 0, x, h, e => by simp only [List.getElem?_cons_zero, Option.some.injEq] at e; subst e; rfl
  | y :: l, k + 1, x, h, e => by
    have ih := pairsV_second l k x h (by simpa using e)
    rw [show (k + 1) * 2 + 1 = k * 2 + 1 + 1 + 1 by omega]
    show pairC y ++ pairsV (l.set k (x.1, h)) = (pairC y ++ pairsV l).set (k * 2 + 1 + 1 + 1) _
    rw [ih]; rfl
theorem clipsV_minute : ∀ (l : List Cp) (k : Nat) (x : Cp) (h : Int), l[k]? = some x → clipsV (l.set k { x with minute := h }) = (clipsV l).set (k * 3 + 2) (.int .i64 h)
  | [], k, x, h, e => by cases e
  | y :: l, 0, x, h, e => by simp only [List.getElem?_cons_zero, Option.some.injEq] at e; subst e; rfl
  | y :: l, k + 1, x, h, e => by
    have ih := clipsV_minute l k x h (by simpa using e)
    rw [show (k + 1) * 3 + 2 = k * 3 + 2 + 1 + 1 + 1 by omega]
    show y.cells ++ clipsV (l.set k { x with minute := h }) = (y.cells ++ clipsV l).set (k * 3 + 2 + 1 + 1 + 1) _
    rw [ih]; rfl
/-- the first i elements mapped -/
def mapTo {α : Type} (f : α → α) (l : List α) (i : Nat) : List α := (l.take i).map f ++ l.drop i
theorem mapTo_zero {α : Type} (f : α → α) (l : List α) : mapTo f l 0 = l := by simp [mapTo]
theorem mapTo_all {α : Type} (f : α → α) (l : List α) {i : Nat} (h : l.length ≤ i) : mapTo f l i = l.map f := by simp [mapTo, List.take_of_length_le h, List.drop_eq_nil_of_le h]
theorem mapTo_len {α : Type} (f : α → α) (l : List α) (i : Nat) : (mapTo f l i).length = l.length := by simp [mapTo]; omega
theorem mapTo_get {α : Type} (f : α → α) (l : List α) {i : Nat} {x : α} (h : l[i]? = some x) : (mapTo f l i)[i]? = some x := by
  have hi := (List.getElem?_eq_some_iff.1 h).1
  unfold mapTo
  rw [List.getElem?_append_right (by rw [List.length_map, List.length_take]; omega)]
  simp [List.length_take, Nat.min_eq_left (Nat.le_of_lt hi), h]
theorem mapTo_succ {α : Type} (f : α → α) (l : List α) {i : Nat} {x : α} (h : l[i]? = some x) : mapTo f l (i + 1) = (mapTo f l i).set i (f x) := by
  have hi := (List.getElem?_eq_some_iff.1 h).1
  have hd : l.drop i = x :: l.drop (i + 1) := by rw [List.drop_eq_getElem_cons hi]; congr 1; exact (List.getElem?_eq_some_iff.1 h).2
  unfold mapTo
  rw [List.take_add_one, h, hd, List.set_append_right _ _ (by rw [List.length_map, List.length_take]; omega), List.map_append]
  simp [List.length_take, Nat.min_eq_left (Nat.le_of_lt hi)]
/-- v is an empty slice of the call's own -/
def IsNil0 (base : Nat) (t : TypeId) (v : Value) (W : World) : Prop := ∃ g, v = .slice (some ⟨g, 0, none⟩) 0 0 ∧ Blk W g t #[] ∧ base ≤ g
theorem IsNil0.later {base : Nat} {t : TypeId} {v : Value} {W W' : World} (h : IsNil0 base t v W) (k : Later W W') : IsNil0 base t v W' := let ⟨g, e, hb, hg⟩ := h; ⟨g, e, hb.later k, hg⟩
/-- v is a slice whose row is the call's own -/
def IsRow (base : Nat) (t : TypeId) (size n : Nat) (xs : List Value) (v : Value) (W : World) : Prop := ∃ A k, v = .slice A n k ∧ W.ownsRow base t size (.slice A n k) n xs
theorem IsRow.later {w0 : World} {t : TypeId} {size n : Nat} {xs : List Value} {v : Value} {W W' : World} (h : IsRow w0.heap.size t size n xs v W) (k : Later W W') : IsRow w0.heap.size t size n xs v W' := let ⟨A, j, e, ho⟩ := h; ⟨A, j, e, own_later ho k⟩
end Go.Proofs.Ytbkfnajpbhfneaa

/- Plain facts: the list that is left out is short. -/
namespace Go.Proofs.Ytbkfnajpbhfneaa

theorem bitListLen : ∀ (k bits p : Nat), (bitList k bits p).length ≤ k
  | 0, _, _ => by simp [bitList]
  | k + 1, bits, p => by
    have := bitListLen k (bits / 2) (p + 1)
    unfold bitList
    split
    · rw [List.length_cons]; omega
    · omega
theorem leaveR_len (c : Hou) : (leaveR c).length ≤ full c := by
  have h : ∀ (l : List Nat) (best : List Int), best.length ≤ full c → (∀ b ∈ l, b ≤ full c) → (l.foldl (leaveStep c) best).length ≤ full c := by
    intro l
    induction l with
    | nil => intro best hb _; exact hb
    | cons x l ih =>
      intro best hb hl
      rw [List.foldl_cons]
      refine ih _ ?_ fun b hm => hl b (List.mem_cons_of_mem _ hm)
      unfold leaveStep
      split
      · exact Nat.le_trans (bitListLen _ _ _) (hl x List.mem_cons_self)
      · exact hb
  exact h _ _ (bitListLen _ _ _) fun b hb => by have := List.mem_range.1 hb; omega
theorem leaveR_len2 {c : Hou} (h : c.clips.length ≤ 10) : (leaveR c).length ≤ 1023 := by
  have h1 := leaveR_len c
  have h2 : 2 ^ c.clips.length ≤ 2 ^ 10 := Nat.pow_le_pow_right (by omega) h
  unfold full at h1
  omega
end Go.Proofs.Ytbkfnajpbhfneaa

/- A law's row, in general, with the reach of what is read. -/
namespace Go.Proofs.Ytbkfnajpbhfneaa
open Go Go.ChangeShapes Go.WideShapes Go.ChangeAt Go.RowKit Go.Deep Go.Joins
set_option maxRecDepth 100000 in
theorem law_lifted_s {f : Func} {k : Nat} {s : ChangeSpec} (hf : Try.prog.funcs[k]? = some f) (hinit : Try.prog.inits.idxOf? k = none) (hvars : s.vars = [])
    (hres : f.resultTypes = #[4]) (hn : ∀ (H : Type) (ds : List (DataW H)), ds.length = f.params.toList.length → s.fn H ds = { results := [.lit (.bool true)], args := ds })
    (hr : ∀ t ∈ f.params.toList, Try.prog.readableRec t = true ∧ t < Try.prog.types.size)
    (contract : ∀ (H : Type) (enc : TypeId × Value → H) (W : World) (args : Array Value) (ds : List (DataW H)) (p : List MemPlace),
      (∀ (j : Nat) t v, f.params[j]? = some t → args[j]? = some v → ∃ base, Value.okWide Try.prog W .any base t v) →
      DataW.TrodAll enc Try.prog W 0 (fun _ => true) true f.params.toList args.toList ds p →
      (∀ (j : Nat) t d, f.params.toList[j]? = some t → ds[j]? = some d → ∀ n ∈ d.weights Try.prog t, n ≤ reachBytes) → Answers k args W)
    (os : Os) (started : os.Started) (H : Type) (enc : TypeId × Value → H)
    (witness : ∃ (w : World) (tape : Tape) (i : Input), w.os = os ∧ (w.forCall tape i).Shaped Try.prog ∧ i.vars = [] ∧ Input.okWide Try.prog (w.forCall tape i) .any w.heap.size k i ∧
      s.pre6 enc Try.prog f [] false (w.forCall tape i).memory i.args ∧ ({} : Assume).holds Try.prog (lone (Frame.enter Try.prog k i.args .normal) [] (w.forCall tape i))) :
    ReturnsInHanded {} Try.checked os k .any (s.pre6 enc Try.prog f [] false) (s.post enc Try.prog f false true false false) := by
  refine returnsInHanded_of_change_sized (C := Try.checked) seat_own started hinit hf witness ?_
  intro W base args ds gs before hval hW _ hsz _
  have hW' := hW
  rw [hvars] at hW'
  obtain ⟨p, q, hA, hV, rfl, hfz, hnd⟩ := hW'
  have hV2 := trodVars_none hV
  obtain ⟨rfl, rfl⟩ := hV2
  have hreach : ∀ (j : Nat) t d, f.params.toList[j]? = some t → ds[j]? = some d → ∀ n ∈ d.weights Try.prog t, n ≤ reachBytes := fun j t d h1 h2 n hn => by
    have h3 := List.all_eq_true.1 hsz n (DataW.weights_mem_each (j := j) (t := t) (d := d) (by rw [List.getElem?_append_left (List.getElem?_eq_some_iff.1 h1).1]; exact h1) (by rw [List.append_nil]; exact h2) n hn)
    exact of_decide_eq_true h3
  refine (contract H enc W args ds p (fun j t v h1 h2 => ⟨base, hval j t v h1 h2⟩) hA hreach).mono fun e W' ⟨he, hb⟩ => ?_
  subst he
  have hlt : ∀ x ∈ p, x.block < W.heap.size := fun x hx => hW.lt x (by simp [hx])
  have hfn := hn H ds (trodAll_len hA)
  refine ⟨_, rfl, ds, [], _, [], p, [], hW, ?_, ?_, ?_, hb.frame _, fun h => by cases h⟩
  · rw [List.append_nil, hfn, hres]; exact trodAll_mk1 (shut_bool Try.underlying4 true)
  · rw [List.append_nil, hfn]; exact below_trodAll seat_laid hb hr hlt hA
  · rw [List.append_nil, hfn, hvars]; rfl
section
variable {H : Type} {enc : TypeId × Value → H} {w : World}
theorem bytes_clip : (Try.prog).bytesOf 74 = 24 := by kernel_rfl
theorem reach_clips {fuel : Nat} {A : Option Addr} {n k : Nat} {x : DataW H × List MemPlace} (h : DataW.trod enc Try.prog w 0 (fun _ => true) true fuel 24 [.slice A n k] = some x)
    (hw : ∀ n ∈ x.1.weights Try.prog 24, n ≤ reachBytes) : n * 24 ≤ 140737488351232 := by
  rcases open_slice Try.underlying24 h with ⟨hc, _⟩ | ⟨a, len, cap, m, n', D, Pl, hc, _, hl, _, _, hx, _⟩
  · injection hc with hc; injection hc with _ e1 e2; omega
  · injection hc with hc; injection hc with _ e1 e2
    rw [hx] at hw
    have h1 := hw _ (by unfold DataW.weights; rw [Try.underlying24]; exact List.mem_cons_self)
    rw [bytes_clip] at h1
    simp only [List.length_map, List.length_range] at h1
    unfold reachBytes at h1
    subst e1
    have : n * 24 ≤ (n + (m - n)) * 24 := Nat.mul_le_mul_right _ (by omega)
    omega
set_option maxRecDepth 100000 in
theorem house_reach {A1 A2 A3 : Option Addr} {n1 k1 n2 k2 n3 k3 : Nat} {c : Hou} {d : DataW H} {p : List MemPlace} (h : DataW.Trod enc Try.prog w 0 (fun _ => true) true 26 (.agg #[.int .i64 c.hour, .int .i64 c.grace, .slice A1 n1 k1, .slice A2 n2 k2, .slice A3 n3 k3]) d p) (hw : ∀ n ∈ d.weights Try.prog 26, n ≤ reachBytes) : n3 * 24 ≤ 140737488351232 := by
  obtain ⟨fuel, hf0⟩ := h
  obtain ⟨xs, m, _, hd, _, hxl, hf⟩ := DataW.trod_struct Try.underlying26 hf0
  match xs, hxl with
  | [y0, y1, y2, y3, y4], _ =>
    have f4 := hf 4 _ rfl
    simp [Value.cells, cells_int, cells_ranges, cells_tickets, cells_clips] at f4
    refine reach_clips f4 fun n hn => hw n ?_
    injection hd with hd _
    rw [hd]
    unfold DataW.weights
    rw [Try.underlying26]
    exact DataW.weights_mem_each (j := 4) (t := 24) (d := y4.1) rfl rfl n hn
end
end Go.Proofs.Ytbkfnajpbhfneaa
