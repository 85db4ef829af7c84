/- Part 15 of the proof: joined from the texts LvT, LvU, AppI. -/
import Derived.Test.YtbkfnajpbhfneaaPart13
set_option linter.unusedSimpArgs false
set_option linter.unusedVariables false
/- Plain laws: clocks set. -/
namespace Go.Proofs.Ytbkfnajpbhfneaa

/-! ### what tickets are, by the true minutes of their clips -/
structure Same (c x : Hou) (d e : List Int) : Prop where
  ofs : ∀ t, ofR x t = ofR c t
  tm : ∀ i, i < c.clips.length → trueM x e i = trueM c d i
  hour : x.hour = c.hour
  grace : x.grace = c.grace
  tick : x.tickets = c.tickets
theorem Same.hours {c x : Hou} {d e : List Int} (s : Same c x d e) (t : Int) : hoursR x e t = hoursR c d t := by
  unfold hoursR
  rw [s.ofs]
  rcases h : ofR c t with _ | ⟨a, _ | ⟨b, l⟩⟩
  · rfl
  · rfl
  · have ha : a < c.clips.length := ofR_lt (t := t) (by rw [h]; simp)
    have hb : b < c.clips.length := ofR_lt (t := t) (by rw [h]; simp)
    dsimp only
    rw [s.tm a ha, s.tm b hb, s.hour, s.grace]
theorem Same.tickAt {c x : Hou} {d e : List Int} (s : Same c x d e) (t : Nat) : tickAt x t = tickAt c t := by unfold Go.Proofs.Ytbkfnajpbhfneaa.tickAt; rw [s.tick]
theorem Same.long {c x : Hou} {d e : List Int} (s : Same c x d e) (t : Nat) : isLong x e t = isLong c d t := by
  unfold isLong; rw [s.hours, s.tickAt]
theorem Same.came {c x : Hou} {d e : List Int} (s : Same c x d e) (t o : Int) : cameB x e t o = cameB c d t o := by
  unfold cameB
  rw [s.ofs, s.ofs]
  rcases h : ofR c o with _ | ⟨a, _ | ⟨b, l⟩⟩
  · rfl
  · rfl
  · have hb : b < c.clips.length := ofR_lt (t := o) (by rw [h]; simp)
    dsimp only
    rcases h2 : ofR c t with _ | ⟨a2, l2⟩
    · rfl
    · have ha : a2 < c.clips.length := ofR_lt (t := t) (by rw [h2]; simp)
      dsimp only
      rw [s.tm _ hb, s.tm _ ha]
theorem Same.clash {c x : Hou} {d e : List Int} (s : Same c x d e) (a b : Nat) : clashB x e a b = clashB c d a b := by
  unfold clashB
  rw [s.tickAt, s.tickAt, s.ofs, s.ofs, s.came, s.came]
theorem Same.paid {c x : Hou} {d e : List Int} (s : Same c x d e) : isPaid x e = isPaid c d := by
  unfold isPaid
  rw [s.tick]
  have h1 : (fun a => !isLong x e a && (List.range a).all fun b => !clashB x e a b) = fun a => !isLong c d a && (List.range a).all fun b => !clashB c d a b := funext fun a => by
    rw [s.long]
    have h2 : (fun b => !clashB x e a b) = fun b => !clashB c d a b := funext fun b => by rw [s.clash]
    rw [h2]
  rw [h1]

/-! ### answers of lists that are mapped -/
theorem bP_map {f g : List Int → Int} {s : List Int → List Int} {m : Int} {l : List (List Int)} (hl : l ≠ []) (h : ∀ d ∈ l, g (s d) = f d + m) : bP g (l.map s) = ((bP f l).1 + m, (bP f l).2 + m) := by
  have b := bP_is f hl
  refine (bP_is g (by simpa using hl)).unique ⟨fun d hd => ?_, fun d hd => ?_, ?_, ?_⟩
  · obtain ⟨e, he, rfl⟩ := List.mem_map.1 hd
    have := b.lo e he; rw [h e he]; dsimp only; omega
  · obtain ⟨e, he, rfl⟩ := List.mem_map.1 hd
    have := b.hi e he; rw [h e he]; dsimp only; omega
  · obtain ⟨e, he, h1⟩ := b.loAt
    exact ⟨s e, List.mem_map.2 ⟨e, he, rfl⟩, by rw [h e he, h1]⟩
  · obtain ⟨e, he, h1⟩ := b.hiAt
    exact ⟨s e, List.mem_map.2 ⟨e, he, rfl⟩, by rw [h e he, h1]⟩
theorem vP_map {p q : List Int → Bool} {s : List Int → List Int} {l : List (List Int)} (h : ∀ d ∈ l, p (s d) = q d) : vP p (l.map s) = vP q l := by
  have e : vP p (l.map s) = vP (fun d => p (s d)) l := by unfold vP; rw [List.any_map, List.any_map]; rfl
  rw [e]; exact vP_congr h
theorem leaves_map {s : List Int → List Int} {l : List (List Int)} {k : Nat} {m : Int} (h : ∀ d ∈ l, (s d).getD k 0 = d.getD k 0 + m) : leaves (l.map s) k = leaves l k := by
  have hc : ∀ v : Int, cnt (l.map s) k v = cnt l k (v - m) := fun v => by
    unfold cnt
    rw [List.countP_map]
    refine List.countP_congr fun d hd => ?_
    simp only [Function.comp_apply, decide_eq_true_eq]
    rw [h d hd]
    omega
  obtain ⟨h1, x, h2⟩ := leaves_is l k
  refine (leaves_is (l.map s) k).unique ⟨fun v => by rw [hc]; exact h1 _, x + m, ?_⟩
  rw [hc, show x + m - m = x by omega]; exact h2

/-! ### clocks set -/
def shiftD (k : Nat) (n : Int) (d : List Int) : List Int := d.set k (d.getD k 0 + n)
def shiftCp (k : Nat) (n : Int) (x : Cp) : Cp := if x.clock = k then { x with minute := x.minute + n } else x
def shiftC (c : Hou) (k : Nat) (n : Int) : Hou := { c with clocks := c.clocks.set k ((clockAt c k).1 + n, (clockAt c k).2 + n), clips := c.clips.map (shiftCp k n) }
theorem rangeL_shift (lo hi n : Int) : rangeL (lo + n) (hi + n) = (rangeL lo hi).map (· + n) := by
  unfold rangeL
  rw [show hi + n - (lo + n) + 1 = hi - lo + 1 by omega, List.map_map]
  refine List.map_congr_left fun i _ => ?_
  simp only [Function.comp_apply]; omega
theorem errAll_shift : ∀ (hs : List (Int × Int)) (k : Nat) (n : Int) (h : Int × Int), hs[k]? = some h → errAll (hs.set k (h.1 + n, h.2 + n)) = (errAll hs).map (shiftD k n)
  | [], k, n, h, e => by cases e
  | y :: hs, 0, n, h, e => by
    simp only [List.getElem?_cons_zero, Option.some.injEq] at e
    subst e
    show (rangeL (y.1 + n) (y.2 + n)).flatMap (fun x => (errAll hs).map (x :: ·)) = ((rangeL y.1 y.2).flatMap fun x => (errAll hs).map (x :: ·)).map (shiftD 0 n)
    rw [rangeL_shift, List.flatMap_map, List.map_flatMap]
    congr 1
    funext x
    rw [List.map_map]; rfl
  | y :: hs, k + 1, n, h, e => by
    have ih := errAll_shift hs k n h (by simpa using e)
    show (rangeL y.1 y.2).flatMap (fun x => (errAll (hs.set k (h.1 + n, h.2 + n))).map (x :: ·)) = ((rangeL y.1 y.2).flatMap fun x => (errAll hs).map (x :: ·)).map (shiftD (k + 1) n)
    rw [ih, List.map_flatMap]
    congr 1
    funext x
    rw [List.map_map, List.map_map]; rfl
theorem shiftD_len (k : Nat) (n : Int) (d : List Int) : (shiftD k n d).length = d.length := by unfold shiftD; simp
theorem shiftD_get {k : Nat} {n : Int} {d : List Int} (hk : k < d.length) (i : Nat) : (shiftD k n d).getD i 0 = d.getD i 0 + (if i = k then n else 0) := by
  unfold shiftD
  rw [List.getD_eq_getElem?_getD, List.getElem?_set]
  by_cases h : k = i
  · subst h; rw [if_pos rfl, if_pos hk, if_pos rfl]; rfl
  · rw [if_neg h, if_neg (Ne.symm h), List.getD_eq_getElem?_getD]; omega
theorem clipAt_shift {c : Hou} {k : Nat} {n : Int} {i : Nat} (hi : i < c.clips.length) : clipAt (shiftC c k n) i = shiftCp k n (clipAt c i) := by
  unfold clipAt shiftC
  rw [List.getD_eq_getElem?_getD, List.getD_eq_getElem?_getD, List.getElem?_map, List.getElem?_eq_getElem hi]; rfl
theorem shiftCp_ticket (k : Nat) (n : Int) (x : Cp) : (shiftCp k n x).ticket = x.ticket := by unfold shiftCp; split <;> rfl
theorem shiftCp_clock (k : Nat) (n : Int) (x : Cp) : (shiftCp k n x).clock = x.clock := by unfold shiftCp; split <;> rfl
theorem shift_same {c : Hou} (ok : OkH c) {k : Nat} {n : Int} {d : List Int} (hk : k < d.length) : Same c (shiftC c k n) d (shiftD k n d) := by
  have hl : (shiftC c k n).clips.length = c.clips.length := by unfold shiftC; simp
  refine ⟨fun t => ?_, fun i hi => ?_, rfl, rfl, rfl⟩
  · unfold ofR
    rw [hl]
    refine List.filter_congr fun i hi => ?_
    rw [clipAt_shift (List.mem_range.1 hi), shiftCp_ticket]
  · have hx := ok.clip _ (clipAt_mem hi)
    unfold trueM minuteC
    rw [clipAt_shift hi, shiftCp_clock, shiftD_get hk]
    unfold shiftCp
    by_cases h : (clipAt c i).clock = k
    · rw [if_pos h, if_pos (by omega)]; dsimp only; omega
    · rw [if_neg h, if_neg (by omega)]; omega
theorem shift_right {c : Hou} (ok : OkH c) {k : Nat} {n : Int} (okx : OkH (shiftC c k n)) {d : List Int} (hk : k < d.length) (out : List Int) :
    rightP (shiftC c k n) (pad4 (shiftD k n d)) out = rightP c (pad4 d) out := by
  have hl : (shiftC c k n).clips.length = c.clips.length := by unfold shiftC; simp
  have s := shift_same ok (n := n) hk
  rw [Bool.eq_iff_iff, rightP_iff okx, rightP_iff ok, hl]
  constructor
  · intro h i j hij hj h1 h2
    have := h i j hij hj h1 h2
    rwa [s.tm _ (by omega), s.tm _ hj] at this
  · intro h i j hij hj h1 h2
    rw [s.tm _ (by omega), s.tm _ hj]
    exact h i j hij hj h1 h2
theorem shift_err {c : Hou} {k : Nat} {n : Int} (hk : k < c.clocks.length) : errAll (shiftC c k n).clocks = (errAll c.clocks).map (shiftD k n) := by
  have hg := List.getElem?_eq_getElem hk
  have e : clockAt c k = c.clocks[k] := clockAt_of hg
  show errAll (c.clocks.set k ((clockAt c k).1 + n, (clockAt c k).2 + n)) = _
  rw [e]
  exact errAll_shift c.clocks k n _ hg
theorem shift_poss {c : Hou} (ok : OkH c) {k : Nat} {n : Int} (okx : OkH (shiftC c k n)) (hk : k < c.clocks.length) : possibleP (shiftC c k n) = possibleP c := by
  funext out
  unfold possibleP
  rw [shift_err hk, List.any_map, Bool.eq_iff_iff, List.any_eq_true, List.any_eq_true]
  refine exists_congr fun d => and_congr_right fun hd => ?_
  have := (errAll_isErr c d hd).len
  rw [Function.comp_apply, shift_right ok okx (by omega)]
theorem shift_truths {c : Hou} (ok : OkH c) {k : Nat} {n : Int} (okx : OkH (shiftC c k n)) (hk : k < c.clocks.length) : truthsP (shiftC c k n) = (truthsP c).map (shiftD k n) := by
  rw [truthsP_filter okx, truthsP_filter ok, shift_err hk, List.filter_map]
  congr 1
  refine List.filter_congr fun d hd => ?_
  have := (errAll_isErr c d hd).len
  rw [Function.comp_apply, shift_right ok okx (by omega)]
theorem set_law {c : Hou} {k : Nat} {n : Int} (hf : fault c = 0) (hk : k < c.clocks.length) (hx : fault (shiftC c k n) = 0) :
    leaveOut (shiftC c k n) = leaveOut c ∧ askedErr (shiftC c k n) 0 = askedErr c 0 ∧ (askedErr c 0 = 0 →
      (clocksOut c).length = c.clocks.length ∧ (clocksOut (shiftC c k n)).length = c.clocks.length ∧
      (∀ (i : Nat) (a b : Int × Int), (clocksOut c)[i]? = some a → (clocksOut (shiftC c k n))[i]? = some b → b = (a.1 + (if i = k then n else 0), a.2 + (if i = k then n else 0))) ∧
      (hoursOut c).length = c.tickets.length ∧ hoursOut (shiftC c k n) = hoursOut c ∧ paidOut (shiftC c k n) = paidOut c ∧
      lookErr c = 0 ∧ lookErr (shiftC c k n) = 0 ∧ (lookOut (shiftC c k n)).2 = (lookOut c).2) := by
  have ok := okH_of_fault hf
  have okx := okH_of_fault hx
  have hl : (shiftC c k n).clips.length = c.clips.length := by unfold shiftC; simp
  have hlc : (shiftC c k n).clocks.length = c.clocks.length := by unfold shiftC; simp
  have hlt : (shiftC c k n).tickets = c.tickets := rfl
  have htp := shift_truths ok okx hk
  have hlen := fun d (hd : d ∈ truthsP c) => (truthsP_isErr ok d hd).len
  have hea : askedErr (shiftC c k n) 0 = askedErr c 0 := by
    unfold askedErr
    rw [hf, hx, htp]
    simp
  refine ⟨?_, hea, fun he => ?_⟩
  · unfold leaveOut
    rw [if_pos hf, if_pos hx, leaveP_find, leaveP_find, hl, shift_poss ok okx hk]
  · have hex := hea.trans he
    obtain ⟨_, _, hne⟩ := askedErr_zero he
    have e1 : lookErr c = 0 := by unfold lookErr; rw [if_neg (by simp [he]), if_neg (by omega)]
    have e2 : lookErr (shiftC c k n) = 0 := by unfold lookErr; rw [if_neg (by simp [hex]), if_neg (by omega)]
    refine ⟨by unfold clocksOut; rw [if_pos he]; simp, by unfold clocksOut; rw [if_pos hex]; simp [hlc], fun i a b ha hb => ?_, by unfold hoursOut; rw [if_pos he]; simp, ?_, ?_, e1, e2, ?_⟩
    · unfold clocksOut at ha hb
      rw [if_pos he] at ha
      rw [if_pos hex, hlc, htp] at hb
      have hi : i < c.clocks.length := by have := (List.getElem?_eq_some_iff.1 ha).1; simpa using this
      rw [List.getElem?_map, List.getElem?_range hi] at ha hb
      simp only [Option.map_some, Option.some.injEq] at ha hb
      rw [← ha, ← hb]
      refine bP_map hne fun d hd => ?_
      have := hlen d hd
      unfold offF
      exact shiftD_get (by omega) i
    · unfold hoursOut
      rw [if_pos he, if_pos hex, hlt, htp]
      refine List.map_congr_left fun i _ => ?_
      have := bP_map (f := hoursF c i) (g := hoursF (shiftC c k n) i) (s := shiftD k n) (m := 0) hne fun d hd => by
        have := hlen d hd
        unfold hoursF
        rw [(shift_same ok (n := n) (d := d) (by omega)).hours]; omega
      rw [this]
      exact Prod.ext (by dsimp only; omega) (by dsimp only; omega)
    · unfold paidOut
      rw [if_pos he, if_pos hex, htp]
      refine vP_map fun d hd => ?_
      have := hlen d hd
      exact (shift_same ok (n := n) (d := d) (by omega)).paid
    · unfold lookOut
      rw [if_pos e1, if_pos e2, htp, hlc, List.length_map]
      congr 1
      refine lookTo_congr _ fun i hi => ?_
      rw [mostC_leavesP hf hi, mostC_leavesP hx (by rw [hlc]; exact hi), htp]
      refine leaves_map (m := if i = k then n else 0) fun d hd => ?_
      have := hlen d hd
      exact shiftD_get (by omega) i
end Go.Proofs.Ytbkfnajpbhfneaa

/- Plain laws: more hours paid, a greater grace or hour; the clock to compare. -/
namespace Go.Proofs.Ytbkfnajpbhfneaa

theorem hoursOf_le {hour hour' stay stay' : Int} (h1 : 1 ≤ hour) (h2 : hour ≤ hour') (h3 : stay' ≤ stay) : hoursOf hour' stay' ≤ hoursOf hour stay := by
  unfold hoursOf
  by_cases a : stay' ≤ 0
  · rw [if_pos a]
    split
    · omega
    · exact Int.ediv_nonneg (by omega) (by omega)
  · rw [if_neg a, if_neg (by omega)]
    have q0 : 0 ≤ (stay + hour - 1) / hour := Int.ediv_nonneg (by omega) (by omega)
    have k1 := Int.lt_ediv_add_one_mul_self (stay + hour - 1) (show 0 < hour by omega)
    generalize (stay + hour - 1) / hour = q at *
    rw [Int.add_mul, Int.one_mul] at k1
    have k2 : q * hour ≤ q * hour' := Int.mul_le_mul_of_nonneg_left h2 q0
    have k3 : (stay' + hour' - 1) / hour' < q + 1 := by
      rw [Int.ediv_lt_iff_lt_mul (by omega), Int.add_mul, Int.one_mul]
      omega
    omega
theorem bP_le {f g : List Int → Int} {l : List (List Int)} (hl : l ≠ []) (h : ∀ d ∈ l, f d ≤ g d) : (bP f l).1 ≤ (bP g l).1 ∧ (bP f l).2 ≤ (bP g l).2 := by
  have a := bP_is f hl
  have b := bP_is g hl
  obtain ⟨d, hd, e1⟩ := b.loAt
  obtain ⟨e, he, e2⟩ := a.hiAt
  have h1 := h d hd
  have h2 := h e he
  have h3 := a.lo d hd
  have h4 := b.hi e he
  omega
/-- in x more hours are paid, or fewer are due -/
structure Longer (c x : Hou) : Prop where
  fc : fault c = 0
  fx : fault x = 0
  ck : x.clocks = c.clocks
  cp : x.clips = c.clips
  tk : x.tickets.length = c.tickets.length
  paid : ∀ i, (tickAt c i).2 ≤ (tickAt x i).2
  grace : c.grace ≤ x.grace
  hour : c.hour ≤ x.hour
theorem Longer.ofs {c x : Hou} (h : Longer c x) (t : Int) : ofR x t = ofR c t := by unfold ofR clipAt; rw [h.cp]
theorem Longer.tm {c x : Hou} (h : Longer c x) (d : List Int) (i : Nat) : trueM x d i = trueM c d i := by unfold trueM clipAt; rw [h.cp]
theorem Longer.truths {c x : Hou} (h : Longer c x) : truthsP x = truthsP c := by
  have e : keepStep x = keepStep c := by funext acc d; unfold keepStep rightP; rw [h.cp]
  unfold truthsP
  rw [e, h.ck]
theorem Longer.asked {c x : Hou} (h : Longer c x) : askedErr x 0 = askedErr c 0 := by
  unfold askedErr
  rw [h.truths, h.fc, h.fx]
theorem Longer.hours {c x : Hou} (h : Longer c x) (d : List Int) (t : Int) : hoursR x d t ≤ hoursR c d t := by
  have ok := okH_of_fault h.fc
  unfold hoursR
  rw [h.ofs]
  rcases ofR c t with _ | ⟨a, _ | ⟨b, l⟩⟩
  · exact Int.le_refl _
  · exact Int.le_refl _
  · dsimp only
    rw [h.tm, h.tm]
    have := h.grace
    exact hoursOf_le ok.hour.1 h.hour (by omega)
theorem Longer.long {c x : Hou} (h : Longer c x) (d : List Int) (t : Nat) (hl : isLong x d t = true) : isLong c d t = true := by
  unfold isLong at *
  rw [decide_eq_true_eq] at *
  have := h.hours d t
  have := h.paid t
  omega
theorem Longer.law {c x : Hou} (h : Longer c x) (he : askedErr c 0 = 0) :
    (hoursOut c).length = c.tickets.length ∧ (hoursOut x).length = c.tickets.length ∧ (longOut c).length = c.tickets.length ∧ (longOut x).length = c.tickets.length ∧
    (∀ (i : Nat) (a b : Int × Int), (hoursOut c)[i]? = some a → (hoursOut x)[i]? = some b → b.1 ≤ a.1 ∧ b.2 ≤ a.2) ∧
    (∀ (i : Nat) (a b : Int), (longOut c)[i]? = some a → (longOut x)[i]? = some b → (a = 2 → b = 2) ∧ (b = 1 → a = 1)) := by
  have hex := h.asked.trans he
  obtain ⟨_, _, hne⟩ := askedErr_zero he
  refine ⟨by unfold hoursOut; rw [if_pos he]; simp, by unfold hoursOut; rw [if_pos hex]; simp [h.tk], by unfold longOut; rw [if_pos he]; simp, by unfold longOut; rw [if_pos hex]; simp [h.tk], fun i a b ha hb => ?_, fun i a b ha hb => ?_⟩
  · unfold hoursOut at ha hb
    rw [if_pos he] at ha
    rw [if_pos hex, h.tk, h.truths] at hb
    have hi : i < c.tickets.length := by have := (List.getElem?_eq_some_iff.1 ha).1; simpa using this
    rw [List.getElem?_map, List.getElem?_range hi] at ha hb
    simp only [Option.map_some, Option.some.injEq] at ha hb
    rw [← ha, ← hb]
    exact bP_le hne fun d _ => h.hours d i
  · unfold longOut at ha hb
    rw [if_pos he] at ha
    rw [if_pos hex, h.tk, h.truths] at hb
    have hi : i < c.tickets.length := by have := (List.getElem?_eq_some_iff.1 ha).1; simpa using this
    rw [List.getElem?_map, List.getElem?_range hi] at ha hb
    simp only [Option.map_some, Option.some.injEq] at ha hb
    rw [← ha, ← hb, vP_one, vP_one, vP_two hne, vP_two hne]
    refine ⟨fun h2 d hd => ?_, fun h2 d hd => h.long d i (h2 d hd)⟩
    cases hq : longF x i d with
    | false => rfl
    | true => have := h.long d i hq; have h3 := h2 d hd; unfold longF at h3; rw [this] at h3; cases h3
def paidMore (c : Hou) (m : Int) : Hou := { c with tickets := c.tickets.map fun t => (t.1, min 9 (t.2 + m)) }
def graceMore (c : Hou) (m : Int) : Hou := { c with grace := min 60 (c.grace + m) }
def hourMore (c : Hou) (m : Int) : Hou := { c with hour := min 120 (c.hour + m) }
theorem paidMore_law {c : Hou} {m : Int} (hf : fault c = 0) (hm : 0 ≤ m) : Longer c (paidMore c m) := by
  have ok := okH_of_fault hf
  have hl : (paidMore c m).tickets.length = c.tickets.length := by unfold paidMore; simp
  have okx : OkH (paidMore c m) := by
    refine ⟨ok.n1, by rw [hl]; exact ok.n2, ok.n3, ok.hour, ok.grace, ok.clock, fun t ht => ?_, fun x hx => ?_, fun i hi => ?_⟩
    · obtain ⟨u, hu, rfl⟩ := List.mem_map.1 ht
      have := ok.tick u hu
      dsimp only
      omega
    · rw [hl]; exact ok.clip x hx
    · exact ok.two i (by rw [hl] at hi; exact hi)
  refine ⟨hf, fault_of okx (show many c ≤ 2000 from many_le hf), rfl, rfl, hl, fun i => ?_, Int.le_refl _, Int.le_refl _⟩
  unfold tickAt paidMore
  rw [List.getD_eq_getElem?_getD, List.getD_eq_getElem?_getD, List.getElem?_map]
  rcases Nat.lt_or_ge i c.tickets.length with h | h
  · rw [List.getElem?_eq_getElem h]
    have := ok.tick _ (List.getElem_mem h)
    simp only [Option.map_some, Option.getD_some]
    omega
  · rw [List.getElem?_eq_none h]; exact Int.le_refl _
theorem graceMore_law {c : Hou} {m : Int} (hf : fault c = 0) (hm : 0 ≤ m) : Longer c (graceMore c m) := by
  have ok := okH_of_fault hf
  have hg := ok.grace
  have e : (graceMore c m).grace = min 60 (c.grace + m) := rfl
  have okx : OkH (graceMore c m) := ⟨ok.n1, ok.n2, ok.n3, ok.hour, by rw [e]; omega, ok.clock, ok.tick, ok.clip, ok.two⟩
  exact ⟨hf, fault_of okx (show many c ≤ 2000 from many_le hf), rfl, rfl, rfl, fun i => Int.le_refl _, by rw [e]; omega, Int.le_refl _⟩
theorem hourMore_law {c : Hou} {m : Int} (hf : fault c = 0) (hm : 0 ≤ m) : Longer c (hourMore c m) := by
  have ok := okH_of_fault hf
  have hg := ok.hour
  have e : (hourMore c m).hour = min 120 (c.hour + m) := rfl
  have okx : OkH (hourMore c m) := ⟨ok.n1, ok.n2, ok.n3, by rw [e]; omega, ok.grace, ok.clock, ok.tick, ok.clip, ok.two⟩
  exact ⟨hf, fault_of okx (show many c ≤ 2000 from many_le hf), rfl, rfl, rfl, fun i => Int.le_refl _, Int.le_refl _, by rw [e]; omega⟩

/-! ### the clock to compare -/
def fixC (c : Hou) (k : Nat) (n : Int) : Hou := setC c k (n, n)
theorem flatMap_none {α : Type} (L : List α) (j : Nat) : ∀ m, m ≤ j → (List.range m).flatMap (fun i => if i = j then L else []) = []
  | 0, _ => rfl
  | m + 1, h => by rw [List.range_succ, List.flatMap_append, flatMap_none L j m (by omega)]; simp; omega
theorem flatMap_one {α : Type} (L : List α) (j : Nat) : ∀ m, j < m → (List.range m).flatMap (fun i => if i = j then L else []) = L
  | 0, h => by omega
  | m + 1, h => by
    rw [List.range_succ, List.flatMap_append]
    rcases Nat.lt_or_ge j m with h2 | h2
    · rw [flatMap_one L j m h2]; simp; omega
    · have : m = j := by omega
      subst this
      rw [flatMap_none L m m (Nat.le_refl _)]; simp
theorem rangeL_self (n : Int) : rangeL n n = [n] := by unfold rangeL; rw [show n - n + 1 = 1 by omega]; simp
theorem errAll_fix : ∀ (hs : List (Int × Int)) (k : Nat) (n : Int) (h : Int × Int), hs[k]? = some h → h.1 ≤ n → n ≤ h.2 → errAll (hs.set k (n, n)) = (errAll hs).filter fun d => decide (d.getD k 0 = n)
  | [], k, n, h, e, _, _ => by cases e
  | y :: hs, 0, n, h, e, h1, h2 => by
    simp only [List.getElem?_cons_zero, Option.some.injEq] at e
    subst e
    show (rangeL n n).flatMap (fun x => (errAll hs).map (x :: ·)) = ((rangeL y.1 y.2).flatMap fun x => (errAll hs).map (x :: ·)).filter fun d => decide (d.getD 0 0 = n)
    rw [rangeL_self, List.filter_flatMap]
    unfold rangeL
    rw [List.flatMap_map]
    have e : (fun (i : Nat) => ((errAll hs).map ((y.1 + (i : Int)) :: ·)).filter fun d => decide (d.getD 0 0 = n)) = fun (i : Nat) => if i = (n - y.1).toNat then (errAll hs).map (n :: ·) else [] := by
      funext i
      rw [List.filter_map]
      by_cases hi : i = (n - y.1).toNat
      · rw [if_pos hi, show y.1 + (i : Int) = n by omega]
        congr 1
        rw [List.filter_eq_self]
        intro a _
        simp
      · rw [if_neg hi]
        have : (errAll hs).filter ((fun d => decide (d.getD 0 0 = n)) ∘ ((y.1 + (i : Int)) :: ·)) = [] := by
          rw [List.filter_eq_nil_iff]
          intro a _
          simp
          omega
        rw [this]; rfl
    simp only [List.flatMap_cons, List.flatMap_nil, List.append_nil]
    rw [show (fun (a : Nat) => List.filter (fun d => decide (d.getD 0 0 = n)) (List.map (fun x => (y.1 + (a : Int)) :: x) (errAll hs))) = fun (i : Nat) => if i = (n - y.1).toNat then (errAll hs).map (n :: ·) else [] from e]
    exact (flatMap_one _ _ _ (by omega)).symm
  | y :: hs, k + 1, n, h, e, h1, h2 => by
    have ih := errAll_fix hs k n h (by simpa using e) h1 h2
    show (rangeL y.1 y.2).flatMap (fun x => (errAll (hs.set k (n, n))).map (x :: ·)) = ((rangeL y.1 y.2).flatMap fun x => (errAll hs).map (x :: ·)).filter fun d => decide (d.getD (k + 1) 0 = n)
    rw [ih, List.filter_flatMap]
    congr 1
    funext x
    rw [List.filter_map]; rfl
theorem many_fold : ∀ (l l' : List (Int × Int)) (a b : Int), 0 ≤ a → a ≤ b → l'.length = l.length → (∀ (i : Nat) (r r' : Int × Int), l[i]? = some r → l'[i]? = some r' → 0 ≤ sizeR r' ∧ sizeR r' ≤ sizeR r) →
    l'.foldl (fun n r => min 3000 (n * sizeR r)) a ≤ l.foldl (fun n r => min 3000 (n * sizeR r)) b
  | [], [], a, b, _, h, _, _ => h
  | [], _ :: _, _, _, _, _, h, _ => by simp at h
  | _ :: _, [], _, _, _, _, h, _ => by simp at h
  | r :: l, r' :: l', a, b, h0, h, hl, hs => by
    have h1 := hs 0 r r' rfl rfl
    have h2 : a * sizeR r' ≤ b * sizeR r := Int.mul_le_mul h h1.2 h1.1 (by omega)
    have h3 : 0 ≤ a * sizeR r' := Int.mul_nonneg h0 h1.1
    simp only [List.foldl_cons]
    exact many_fold l l' _ _ (by omega) (by omega) (by simpa using hl) fun i r r' e1 e2 => hs (i + 1) r r' (by simpa using e1) (by simpa using e2)
theorem fix_fault {c : Hou} {k : Nat} {n : Int} {r : Int × Int} (hf : fault c = 0) (hr : c.clocks[k]? = some r) (h1 : r.1 ≤ n) (h2 : n ≤ r.2) : fault (fixC c k n) = 0 := by
  have ok := okH_of_fault hf
  have hk : k < c.clocks.length := (List.getElem?_eq_some_iff.1 hr).1
  have hl : (fixC c k n).clocks.length = c.clocks.length := by unfold fixC setC; simp
  have hrr := ok.clock r (List.mem_of_getElem? hr)
  have okx : OkH (fixC c k n) := by
    refine ⟨by rw [hl]; exact ok.n1, ok.n2, ok.n3, ok.hour, ok.grace, fun s hs => ?_, ok.tick, fun x hx => by rw [hl]; exact ok.clip x hx, ok.two⟩
    rcases List.mem_or_eq_of_mem_set hs with h | rfl
    · exact ok.clock s h
    · dsimp only; omega
  refine fault_of okx (Int.le_trans ?_ (many_le hf))
  refine many_fold c.clocks (c.clocks.set k (n, n)) 1 1 (by omega) (by omega) (by simp) fun i s s' e1 e2 => ?_
  have hs := ok.clock s (List.mem_of_getElem? e1)
  by_cases hik : k = i
  · subst hik
    rw [List.getElem?_set_self hk] at e2
    injection e2 with e2
    subst e2
    unfold sizeR; dsimp only; omega
  · rw [List.getElem?_set_ne hik, e1] at e2
    injection e2 with e2
    subst e2
    unfold sizeR; omega
theorem fix_truths {c : Hou} {k : Nat} {n : Int} {r : Int × Int} (hf : fault c = 0) (hr : c.clocks[k]? = some r) (h1 : r.1 ≤ n) (h2 : n ≤ r.2) : (truths (fixC c k n)).length = cnt (truthsP c) k n := by
  have hx := fix_fault hf hr h1 h2
  rw [← (truthsP_perm hx).length_eq, truthsP_filter (okH_of_fault hx), truthsP_filter (okH_of_fault hf)]
  unfold cnt
  rw [List.countP_eq_length_filter, List.filter_filter]
  show ((errAll (c.clocks.set k (n, n))).filter fun d => rightP c (pad4 d) []).length = _
  rw [errAll_fix c.clocks k n r hr h1 h2, List.filter_filter]
  congr 1
  refine List.filter_congr fun d _ => ?_
  rw [Bool.and_comm]
theorem lookTo_spec {f : Nat → Int} {m : Int} : ∀ n, (lookTo f m n).2 ≤ m ∧ (∀ i, i < n → (lookTo f m n).2 ≤ f i) ∧ (lookTo f m n = (0, m) ∨ ((lookTo f m n).1 < n ∧ (lookTo f m n).2 = f (lookTo f m n).1))
  | 0 => ⟨Int.le_refl _, fun i h => by omega, .inl rfl⟩
  | n + 1 => by
    obtain ⟨h1, h2, h3⟩ := lookTo_spec (f := f) (m := m) n
    simp only [lookTo]
    split
    · rename_i h
      refine ⟨by dsimp only; omega, fun i hi => ?_, .inr ⟨Nat.lt_succ_self _, rfl⟩⟩
      dsimp only
      rcases Nat.lt_succ_iff_lt_or_eq.1 hi with h4 | rfl
      · have := h2 i h4; omega
      · exact Int.le_refl _
    · rename_i h
      refine ⟨h1, fun i hi => ?_, ?_⟩
      · rcases Nat.lt_succ_iff_lt_or_eq.1 hi with h4 | rfl
        · exact h2 i h4
        · omega
      · rcases h3 with h3 | ⟨h3, h4⟩
        · exact .inl h3
        · exact .inr ⟨by omega, h4⟩
theorem compared_law {c : Hou} (he : askedErr c 0 = 0) (h0 : 0 < c.clocks.length) : lookErr c = 0 ∧ (lookOut c).1 < c.clocks.length ∧
    (lookOut c).2 = mostP (truthsP c) (lookOut c).1 (clockAt c (lookOut c).1).1 (sizeR (clockAt c (lookOut c).1)).toNat ∧ ∀ i, i < c.clocks.length → (lookOut c).2 ≤ leaves (truths c) i := by
  obtain ⟨hf, _, hne⟩ := askedErr_zero he
  have e1 : lookErr c = 0 := by unfold lookErr; rw [if_neg (by simp [he]), if_neg (by omega)]
  unfold lookOut
  rw [if_pos e1]
  obtain ⟨h1, h2, h3⟩ := lookTo_spec (f := mostC c) (m := (truthsP c).length + 1) c.clocks.length
  refine ⟨e1, ?_⟩
  have h4 : lookTo (mostC c) ((truthsP c).length + 1) c.clocks.length ≠ (0, ((truthsP c).length : Int) + 1) := fun e => by
    have h5 := h2 0 h0
    rw [e] at h5
    dsimp only at h5
    rw [mostC_leavesP hf h0] at h5
    have := (leaves_le (truthsP c) 0).2
    omega
  rcases h3 with h3 | ⟨h3, h5⟩
  · exact absurd h3 h4
  · refine ⟨h3, h5, fun i hi => ?_⟩
    rw [← mostC_leaves hf hi]
    exact h2 i hi
end Go.Proofs.Ytbkfnajpbhfneaa

/- Rows of the call's own, again. -/
namespace Go.Proofs.Ytbkfnajpbhfneaa
open Go Go.RowKit
theorem own_form {W : World} {base : Nat} {e : TypeId} {size : Nat} {v : Value} {n : Nat} {xs : List Value} (h : W.ownsRow base e size v n xs) (hn : 0 < n) : ∃ g k, v = .slice (some ⟨g, 0, none⟩) n k := by
  rcases h.2 with ⟨_, h0⟩ | ⟨g, cap, cur, e, _⟩
  · omega
  · exact ⟨g, cap, e⟩
theorem pairsV_at {l : List (Int × Int)} {k : Nat} {x : Int × Int} (h : l[k]? = some x) : (pairsV l)[k * 2]? = some (.int .i64 x.1) ∧ (pairsV l)[k * 2 + 1]? = some (.int .i64 x.2) :=
  ⟨pairsV_get l k 0 x h (by omega), pairsV_get l k 1 x h (by omega)⟩
theorem own_base {W : World} {base base' : Nat} {e : TypeId} {size : Nat} {v : Value} {n : Nat} {xs : List Value} (h : W.ownsRow base e size v n xs) (hb : base' ≤ base) : W.ownsRow base' e size v n xs := World.ownsRow.mono h hb
theorem own_laterb {base : Nat} {W W' : World} {e : TypeId} {size : Nat} {v : Value} {n : Nat} {xs : List Value} (h : W.ownsRow base e size v n xs) (hL : Later W W') : W'.ownsRow base e size v n xs := by
  refine ⟨h.1, ?_⟩
  rcases h.2 with hn | ⟨g, cap, cur, rfl, hb, hgg, rest⟩
  · exact .inl hn
  · refine .inr ⟨g, cap, cur, rfl, hb, ?_, rest⟩
    rw [hL.block g (Array.getElem?_eq_some_iff.1 hgg).1]
    exact hgg
end Go.Proofs.Ytbkfnajpbhfneaa
