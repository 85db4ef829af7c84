/- Part 17 of the proof: joined from the texts Trn, Dri, NthO. -/
import Derived.Test.YtjilckjhdlabaaaPart13
import Derived.Test.YtjilckjhdlabaaaPart16
import Derived.Deep.Onto
set_option linter.unusedSimpArgs false
set_option linter.unusedVariables false
/- ClosetTurned: the plain law. -/
namespace Go.Proofs.Ytjilckjhdlabaaa
open Go Go.RowKit

def mirr (m : Int) (p : List Int) : List Int := p.map fun x => m - 1 - x
theorem atFrom_mirr (m : Int) : ∀ (p : List Int) (x j : Int), atFrom (mirr m p) x j = atFrom p (m - 1 - x) j
  | [], _, _ => rfl
  | y :: p, x, j => by
    have ih := atFrom_mirr m p x (j + 1)
    simp only [mirr, List.map_cons, atFrom_cons] at ih ⊢
    rw [ih]
    by_cases h : m - 1 - y = x
    · rw [if_pos h, if_pos (by omega)]
    · rw [if_neg h, if_neg (by omega)]
theorem mirr_getD (m : Int) (p : List Int) (i : Nat) (hi : i < p.length) : (mirr m p).getD i 0 = m - 1 - p.getD i 0 := by
  unfold mirr
  rw [List.getD_eq_getElem?_getD, List.getD_eq_getElem?_getD, List.getElem?_map, List.getElem?_eq_getElem hi]; rfl
theorem minuteR_mirr (c : Clo) (p d : List Int) (i : Nat) (hi : i < p.length) : minuteR c (mirr c.closets p) d i = minuteR c p d i := by
  unfold minuteR
  rw [atFrom_mirr, atFrom_mirr, mirr_getD _ _ _ hi]
  have e1 : c.closets - 1 - (c.closets - 1 - p.getD i 0 - 1) = p.getD i 0 + 1 := by omega
  have e2 : c.closets - 1 - (c.closets - 1 - p.getD i 0 + 1) = p.getD i 0 - 1 := by omega
  rw [e1, e2]
  omega
theorem mirr_isPl {c : Clo} {p : List Int} (h : IsPl c p) : IsPl c (mirr c.closets p) := by
  refine ⟨by unfold mirr; rw [List.length_map]; exact h.len, fun x hx => ?_, ?_⟩
  · obtain ⟨y, hy, rfl⟩ := List.mem_map.1 hx
    have := h.mem y hy
    omega
  · unfold mirr
    unfold List.Nodup
    rw [List.pairwise_map]
    exact h.nodup.imp fun {a b} hab e => hab (by omega)
theorem bP_ext {f g : List Int → Int} : ∀ {l : List (List Int)}, (∀ d ∈ l, f d = g d) → bP f l = bP g l
  | [], _ => rfl
  | d :: l, h => by
    have key : ∀ (m : List (List Int)) (r : Int × Int), (∀ d ∈ m, f d = g d) → m.foldl (fun r d => wider r (f d)) r = m.foldl (fun r d => wider r (g d)) r := fun m => by
      induction m with
      | nil => intro r _; rfl
      | cons x m ih => intro r hm; rw [List.foldl_cons, List.foldl_cons, hm x List.mem_cons_self]; exact ih _ fun y hy => hm y (List.mem_cons_of_mem _ hy)
    show l.foldl (fun r d => wider r (f d)) (f d, f d) = l.foldl (fun r d => wider r (g d)) (g d, g d)
    rw [h d List.mem_cons_self]
    exact key l _ fun y hy => h y (List.mem_cons_of_mem _ hy)
theorem goodP_mirr {c : Clo} {p : List Int} (h : IsPl c p) {i : Nat} (hi : i < c.horses.length) : goodP c (truthsP c) (mirr c.closets p) i = goodP c (truthsP c) p i := by
  have hp : i < p.length := by rw [h.len]; exact hi
  unfold goodP
  rw [bP_ext (f := fun d => minuteR c (mirr c.closets p) d i) (g := fun d => minuteR c p d i) fun d _ => minuteR_mirr c p d i hp,
    bP_ext (f := fun d => minuteR c (mirr c.closets p) d i + graceAt c i) (g := fun d => minuteR c p d i + graceAt c i) fun d _ => by rw [minuteR_mirr c p d i hp]]
theorem goodOut_mirr {c : Clo} (hf : fault c = 0) {p : List Int} (h : IsPl c p) {i : Nat} (hi : i < c.horses.length) : goodOut c (mirr c.closets p) i = goodOut c p i := by
  have ok := okC_of_fault hf
  have b1 : isPlaceB c p = true := (isPlaceB_iff ok.cl1 ok.cl4 p).2 h
  have b2 : isPlaceB c (mirr c.closets p) = true := (isPlaceB_iff ok.cl1 ok.cl4 _).2 (mirr_isPl h)
  unfold goodOut
  rw [b1, b2, Int.toNat_natCast, goodP_mirr h hi]
theorem goodOut_err {c : Clo} (hf : fault c = 0) {p : List Int} (h : IsPl c p) {i : Nat} (hi : i < c.horses.length) : (goodOut c p i).2.2 = 0 ∨ (goodOut c p i).2.2 = 10 ∨ (goodOut c p i).2.2 = 11 := by
  have ok := okC_of_fault hf
  have b1 : isPlaceB c p = true := (isPlaceB_iff ok.cl1 ok.cl4 p).2 h
  have hh : isHorse c i = true := by unfold isHorse inB; simp; omega
  unfold goodOut
  rw [b1, hh]
  simp only [Bool.and_self]
  rcases askedErr_ii hf with h0 | ⟨h0, _⟩
  · rw [if_neg (by simp [h0])]
    split
    · exact .inr (.inl rfl)
    · exact .inl rfl
  · rw [if_pos (by rw [h0]; decide)]; exact .inr (.inr h0)
theorem playL_eq {c : Clo} (hf : fault c = 0) {p d : List Int} (h : IsPl c p) (hd : areNumbers c.horses d = true) : playErr c p d = 0 ∧ playL c p d = (List.range c.horses.length).map fun i => minuteR c p d i := by
  have ok := okC_of_fault hf
  have hb : isPlaceB c p = true := (isPlaceB_iff ok.cl1 ok.cl4 p).2 h
  have hl4 := ok.len
  have he : playErr c p d = 0 := by unfold playErr; rw [if_neg (by simp [hf]), if_pos ⟨hd, hb⟩]
  refine ⟨he, ?_⟩
  unfold playL
  rw [if_pos he]
  apply List.ext_getElem?
  intro i
  rcases Nat.lt_or_ge i c.horses.length with hi | hi
  · rw [List.getElem?_take_of_lt hi, minutesP_get h hi (by omega), minuteR_pad4 _ _ _ _ (by omega), List.getElem?_map, List.getElem?_range hi]; rfl
  · rw [List.getElem?_eq_none (by rw [List.length_take]; omega), List.getElem?_eq_none (by simpa using hi)]
theorem playL_mirr {c : Clo} (hf : fault c = 0) {p d : List Int} (h : IsPl c p) (hd : areNumbers c.horses d = true) : playL c (mirr c.closets p) d = playL c p d := by
  rw [(playL_eq hf h hd).2, (playL_eq hf (mirr_isPl h) hd).2]
  apply List.map_congr_left
  intro i hi
  exact minuteR_mirr c p d i (by rw [h.len]; simpa using hi)
/-- no two in next closets: the dry minutes are the dry numbers -/
theorem playL_alone {c : Clo} (hf : fault c = 0) {p d : List Int} (h : IsPl c p) (hd : areNumbers c.horses d = true) (hno : ∀ i, i < p.length → p.contains (p.getD i 0 + 1) = false) : playL c p d = d := by
  rw [(playL_eq hf h hd).2]
  have hdl := areNumbers_len _ _ hd
  have hnot : ∀ x, (∀ i, i < p.length → p.getD i 0 ≠ x) → x ∉ p := fun x hx hm => by
    obtain ⟨i, hi⟩ := List.getElem?_of_mem hm
    have hlt := (List.getElem?_eq_some_iff.1 hi).1
    exact hx i hlt (by rw [List.getD_eq_getElem?_getD, hi]; rfl)
  apply List.ext_getElem?
  intro i
  rcases Nat.lt_or_ge i c.horses.length with hi | hi
  · rw [List.getElem?_map, List.getElem?_range hi]
    have hip : i < p.length := by rw [h.len]; exact hi
    have h1 : (p.getD i 0 + 1) ∉ p := fun hm => by have := hno i hip; rw [List.contains_iff_mem.2 hm] at this; cases this
    have h2 : (p.getD i 0 - 1) ∉ p := hnot _ fun k hk e => by
      have h3 := hno k hk
      rw [e, show p.getD i 0 - 1 + 1 = p.getD i 0 by omega] at h3
      have hm : p.getD i 0 ∈ p := by rw [List.getD_eq_getElem?_getD, List.getElem?_eq_getElem hip]; exact List.getElem_mem hip
      rw [List.contains_iff_mem.2 hm] at h3
      cases h3
    have hi2 : i < d.length := by omega
    show some (minuteR c p d i) = _
    unfold minuteR
    rw [atFrom_none h1, atFrom_none h2, List.getElem?_eq_getElem hi2, List.getD_eq_getElem?_getD, List.getElem?_eq_getElem hi2]
    simp [wetAt]
  · rw [List.getElem?_eq_none (by simpa using hi), List.getElem?_eq_none (by omega)]
end Go.Proofs.Ytjilckjhdlabaaa

/- Closets that dry sooner: plain. -/
namespace Go.Proofs.Ytjilckjhdlabaaa
open Go

def minL (a b : List Int) : List Int := List.zipWith min a b
theorem isDry_min {c : Clo} {a b : List Int} (ha : IsDry c a) (hb : IsDry c b) : IsDry c (minL a b) := by
  refine ⟨by unfold minL; rw [List.length_zipWith, ha.len, hb.len]; omega, fun i h x hi hx => ?_⟩
  unfold minL at hx
  rw [List.getElem?_zipWith_eq_some] at hx
  obtain ⟨y, z, h1, h2, rfl⟩ := hx
  have := ha.mem i h y hi h1
  have := hb.mem i h z hi h2
  omega
/-- the closets with less Wet of a horse, and no looks -/
def drierC (c : Clo) (k : Nat) (y : Horse) : Clo := withLooks (setH c k y) []
theorem drier_law {c : Clo} (hf : fault c = 0) {k : Nat} {y : Horse} (hy : c.horses[k]? = some y) {t : Int} (ht : 0 ≤ t) {p a b : List Int} (hp : IsPl c p) (ha : areNumbers c.horses a = true) (hb : areNumbers c.horses b = true) :
    let x := drierC c k { y with wet := max 0 (y.wet - t) }
    playErr c p a = 0 ∧ playErr x p (minL a b) = 0 ∧ (playL c p a).length = c.horses.length ∧ (playL x p (minL a b)).length = c.horses.length ∧
    ∀ i, i < c.horses.length → (playL c p a)[i]? = some (minuteR c p a i) ∧ (playL x p (minL a b))[i]? = some (minuteR x p (minL a b) i) ∧ minuteR x p (minL a b) i ≤ minuteR c p a i ∧ a.getD i 0 ≤ minuteR c p a i := by
  intro x
  obtain ⟨h1, h2, h3, h4, h5, h6, h7⟩ := fault_zero hf
  have ok := okC_of_fault hf
  have hk : k < c.horses.length := (List.getElem?_eq_some_iff.1 hy).1
  have hok := List.all_eq_true.1 h4 y (List.mem_of_getElem? hy)
  simp only [horseOk, inB, Bool.and_eq_true, decide_eq_true_eq] at hok
  have hch : Chg c (setH c k { y with wet := max 0 (y.wet - t) }) := ⟨rfl, rfl, rfl, map_set_same _ hy rfl, h3, all_set h4 (by simp only [horseOk, inB, Bool.and_eq_true, decide_eq_true_eq]; omega)⟩
  have hfx : fault x = 0 := fault_looks (hch.fault hf) (by simp) (by simp)
  have hgy : c.horses.getD k default = y := by rw [List.getD_eq_getElem?_getD, hy]; rfl
  have hwet : ∀ i, wetK x i ≤ wetK c i := fun i => by
    show ((c.horses.set k _).getD i default).wet ≤ (c.horses.getD i default).wet
    rw [getD_set hk]; split
    · rename_i e; subst e; rw [hgy]; dsimp only; omega
    · exact Int.le_refl _
  have hwa : ∀ j : Int, wetAt x j ≤ wetAt c j := fun j => by
    unfold wetAt; split
    · exact hwet _
    · exact Int.le_refl _
  have hda := (isDry_iff c a).1 ha
  have hdb := (isDry_iff c b).1 hb
  have hm : areNumbers c.horses (minL a b) = true := (isDry_iff c _).2 (isDry_min hda hdb)
  have hmx : areNumbers x.horses (minL a b) = true := by
    have e := (isDry_iff c _).1 hm
    refine (isDry_iff x _).2 ⟨by rw [e.len]; exact hch.len.symm, fun i h v hi hv => ?_⟩
    have hi' : (c.horses.set k { y with wet := max 0 (y.wet - t) })[i]? = some h := hi
    by_cases hik : k = i
    · subst hik
      rw [List.getElem?_set_self hk] at hi'
      injection hi' with hi'
      subst hi'
      exact e.mem k y v hy hv
    · rw [List.getElem?_set_ne hik] at hi'
      exact e.mem i h v hi' hv
  have hpx : IsPl x p := IsPl_congr (c := c) (x := x) rfl hch.len hp
  have lx : x.horses.length = c.horses.length := hch.len
  obtain ⟨e1, l1⟩ := playL_eq hf hp ha
  obtain ⟨e2, l2⟩ := playL_eq hfx hpx hmx
  rw [lx] at l2
  refine ⟨e1, e2, by rw [l1]; simp, by rw [l2]; simp, fun i hi => ⟨by rw [l1, List.getElem?_map, List.getElem?_range hi]; rfl, by rw [l2, List.getElem?_map, List.getElem?_range hi]; rfl, ?_, ?_⟩⟩
  · unfold minuteR
    have := hwa (atFrom p (p.getD i 0 - 1) 0)
    have := hwa (atFrom p (p.getD i 0 + 1) 0)
    have hmin : (minL a b).getD i 0 ≤ a.getD i 0 := by
      have la := hda.len
      have lb := hdb.len
      have hia : i < a.length := by omega
      have hib : i < b.length := by omega
      unfold minL
      simp only [List.getD_eq_getElem?_getD]
      rw [List.getElem?_zipWith, List.getElem?_eq_getElem hia, List.getElem?_eq_getElem hib]
      show min a[i] b[i] ≤ a[i]
      omega
    omega
  · unfold minuteR
    have hn := hp.len
    have q : ∀ v : Int, 0 ≤ wetAt c (atFrom p v 0) := fun v => by
      rcases atFrom_range p v 0 with e | e
      · rw [e]; unfold wetAt; rw [if_neg (by omega)]; exact Int.le_refl _
      · exact (wetAt_range ok.toOkH _ (by omega)).1
    have := q (p.getD i 0 - 1)
    have := q (p.getD i 0 + 1)
    omega

/-- the smaller ones of two lists, up to j; the second list from there on -/
def minTo (a b : List Int) (j : Nat) : List Int := (List.range b.length).map fun i => if i < j then min (a.getD i 0) (b.getD i 0) else b.getD i 0
theorem minTo_length (a b : List Int) (j : Nat) : (minTo a b j).length = b.length := by simp [minTo]
theorem minTo_at {a b : List Int} {j i : Nat} (hi : i < b.length) : (minTo a b j)[i]? = some (if i < j then min (a.getD i 0) (b.getD i 0) else b.getD i 0) := by
  unfold minTo; rw [List.getElem?_map, List.getElem?_range hi]; rfl
theorem minTo_zero (a b : List Int) : minTo a b 0 = b := by
  refine List.ext_getElem? fun i => ?_
  rcases Nat.lt_or_ge i b.length with h | h
  · rw [minTo_at h, if_neg (by omega), List.getElem?_eq_getElem h, List.getD_eq_getElem?_getD, List.getElem?_eq_getElem h]; rfl
  · rw [List.getElem?_eq_none (by rw [minTo_length]; exact h), List.getElem?_eq_none h]
theorem minTo_full {a b : List Int} (h : a.length = b.length) : minTo a b b.length = minL a b := by
  refine List.ext_getElem? fun i => ?_
  rcases Nat.lt_or_ge i b.length with hi | hi
  · have hia : i < a.length := by omega
    rw [minTo_at hi, if_pos hi]
    unfold minL
    rw [List.getElem?_zipWith, List.getElem?_eq_getElem hia, List.getElem?_eq_getElem hi]
    simp only [List.getD_eq_getElem?_getD, List.getElem?_eq_getElem hia, List.getElem?_eq_getElem hi, Option.getD_some]
  · rw [List.getElem?_eq_none (by rw [minTo_length]; exact hi)]
    unfold minL
    rw [List.getElem?_eq_none (by rw [List.length_zipWith]; omega)]
theorem minTo_succ {a b : List Int} {j : Nat} (hj : j < b.length) {x y : Int} (hx : a[j]? = some x) (hy : b[j]? = some y) : (minTo a b j).set j (min x y) = minTo a b (j + 1) := by
  refine List.ext_getElem? fun i => ?_
  rcases Nat.lt_or_ge i b.length with hi | hi
  · rw [minTo_at hi]
    by_cases hij : j = i
    · subst hij
      rw [List.getElem?_set_self (by rw [minTo_length]; exact hi), if_pos (by omega)]
      simp only [List.getD_eq_getElem?_getD, hx, hy, Option.getD_some]
    · rw [List.getElem?_set_ne hij, minTo_at hi]
      by_cases h : i < j
      · rw [if_pos h, if_pos (by omega)]
      · rw [if_neg h, if_neg (by omega)]
  · rw [List.getElem?_eq_none (by rw [List.length_set, minTo_length]; exact hi), List.getElem?_eq_none (by rw [minTo_length]; exact hi)]
theorem ints_setL (l : List Int) (j : Nat) (v : Int) : (ints l).set j (.int .i64 v) = ints (l.set j v) := by unfold ints; rw [List.map_set]
theorem ints_at {l : List Int} {j : Nat} {v : Int} (h : l[j]? = some v) : (ints l)[j]? = some (.int .i64 v) := by unfold ints; rw [List.getElem?_map, h]; rfl
end Go.Proofs.Ytjilckjhdlabaaa

/- The reference's Nth, whose result is the caller's own: walk. -/
namespace Go.Proofs.Ytjilckjhdlabaaa
open Go Go.RowKit
set_option maxRecDepth 100000 in
theorem Nth_own_calls {A1 A2 A3 : Option Addr} {n1 k1 n2 k2 n3 k3 : Nat} {c : Clo} {n : Int} (w : World) (hc : CV w c A1 n1 A2 n2 A3 n3) (ok : ∀ h ∈ c.horses, 1 ≤ h.lo ∧ h.lo ≤ h.hi ∧ h.hi ≤ 60) (hl : n1 ≤ 1000) (h0 : 0 ≤ n) (h1 : n ≤ 1000000) :
    Calls Try.prog 46 #[(.agg #[.int .i64 c.closets, .int .i64 c.close, .slice A1 n1 k1, .slice A2 n2 k2, .slice A3 n3 k3]), .int .i64 n] w fun e w' => ∃ v, e = .returned v ∧ Later w w' ∧ w'.ownsRow w.heap.size 3 1 v n1 (ints (nth c.horses n)) := by
  have hn1 := hc.hs.len
  have Hn1 := hide hn1
  clear hn1
  obtain ⟨w0, hw0⟩ : ∃ W, W = (w.alloc (.cells #[.int .i64 c.closets, .int .i64 c.close, .slice A1 n1 k1, .slice A2 n2 k2, .slice A3 n3 k3] 26)) := ⟨_, rfl⟩; have hbox : ∀ W, Later w0 W → ∀ i, W.cell? ⟨w.heap.size, i, none⟩ = #[.int .i64 c.closets, .int .i64 c.close, .slice A1 n1 k1, .slice A2 n2 k2, .slice A3 n3 k3][i]? := (by rw [hw0]; exact box_cells w #[.int .i64 c.closets, .int .i64 c.close, .slice A1 n1 k1, .slice A2 n2 k2, .slice A3 n3 k3] 26); have hL0 : Later w w0 := (by rw [hw0]; simp); have hc0 := hc.later hL0; have Hw0 := hide hw0; clear hw0
  go_enter Try.func46, Try.ntmps46
  go_wp2_with fail
  rw [← Hw0.out]; clear Hw0
  go_loopw [1, 5, 6] (fun m v i wr => ∃ j : Nat, j ≤ n1 ∧ i = .int .i64 j ∧ m = .int .i64 (nthRest (c.horses.take j) n) ∧ wr.ownsRow w0.heap.size 3 1 v j (ints (nth (c.horses.take j) n)) ∧ Later w0 wr) (fun _ _ i _ => n1 - (intOf i).toNat)
  case atStart => exact ⟨0, Nat.zero_le _, rfl, rfl, World.ownsRow_nil _ _ _ _, later_refl _⟩
  case round =>
    obtain ⟨j, hj, rfl, rfl, hown, hL⟩ := hrel
    by_cases hlt : j < n1
    · obtain ⟨b, o, x, rfl, _, hx, hx0, hx1, hx2, hx3⟩ := hc0.hs.get hlt
      have okx := ok x (List.mem_of_getElem? hx)
      have hs := sizeH_range okx
      have ht : c.horses.take (j + 1) = c.horses.take j ++ [x] := by rw [List.take_add_one, hx]; rfl
      have hr := nthRest_range (l := c.horses.take j) (fun h hh => ok h (List.mem_of_mem_take hh)) n h0 h1
      have hi1 : (j : Int) < n1 := by omega
      have hs1 := nth_snoc (c.horses.take j) x n
      have hs2 := nthRest_snoc (c.horses.take j) x n
      rw [← ht] at hs1 hs2
      have Hs1 := hide hs1
      have Hs2 := hide hs2
      generalize nthRest (c.horses.take j) n = q at *
      have hq1 := Int.emod_nonneg q (b := sizeH x) (by omega)
      have hq2 := Int.emod_lt_of_pos q (b := sizeH x) (by omega)
      clear hs1 hs2 ht hx hx2 hx3
      go_wp2_with fail
      have hbx := box_cells wr #[.int .i64 x.lo, .int .i64 x.hi] 66
      have hcl := hbx _ (later_refl _) 0
      have hch := hbx _ (later_refl _) 1
      simp only [List.getElem?_toArray, List.getElem?_cons_zero, List.getElem?_cons_succ] at hcl hch
      have hLa : Later w0 (wr.alloc (.cells #[.int .i64 x.lo, .int .i64 x.hi] 66)) := later_alloc hL _
      have hne : ∀ g, (u5 : Value).ownBlock = some g → g < wr.heap.size := fun g hg => (hown.lt g hg).2
      clear hbx hx0 hx1
      have Hne := hide hne
      clear hne
      have hw1 : IntKind.i64.wrap (x.lo + q % sizeH x) = x.lo + q % sizeH x := IntWalk.i64_in _ (by omega)
      have hz1 : ¬ sizeH x = 0 := by omega
      have hz2 : q.tmod (sizeH x) = q % sizeH x := Int.tmod_eq_emod_of_nonneg hr.1
      have hw2 : IntKind.i64.wrap (q % sizeH x) = q % sizeH x := IntWalk.i64_in _ (by omega)
      go_region_held3 (fun W => Later w0 W ∧ W.cell? ⟨wr.heap.size, 0, none⟩ = some (.int .i64 x.lo) ∧ W.cell? ⟨wr.heap.size, 1, none⟩ = some (.int .i64 x.hi)) ((refine ⟨by simp [*], ?_, ?_⟩ <;> first | assumption | (simp [*]; done) | (rw [World.cell?_alloc_lt _ _ _ (by (show wr.heap.size < _); omega)]; assumption)))
        (first
          | (go_at_call 93; go_must (refine (Size_calls (h := x) _ (by omega) (by omega)).mono ?_; rintro e w1 ⟨rfl, hL1⟩; have hown1 := own_later (own_later hown (later_drew (later_alloc (later_refl _) _))) hL1; have hL2 := Later.trans (later_drew hLa) hL1; have hc1 := fun (i : Nat) (v : Value) (h : ((wr.alloc (.cells #[.int .i64 x.lo, .int .i64 x.hi] 66)).drew).cell? ⟨wr.heap.size, i, none⟩ = some v) => cell_later h hL1 (by simp); have hc2 := hc1 0 _ hcl; have hc3 := hc1 1 _ hch; clear hc1; have hsz1 : wr.heap.size < w1.heap.size := (by have := later_size hL1; simp at this; omega)))
          | (refine own_append_step (w0 := w0) (W := w1) (te := 3) rfl (.tmp 21) (.tmp 29) 23 rfl 3 (.int .i64 0) 1 8 Try.underlying23 int_info rfl (by omega) u5 j (ints (nth (List.take j c.horses) n)) rfl hL2 hown1 [.int .i64 (x.lo + q % sizeH x)] rfl rfl ?_ ?_ (by omega) ?_; (simp [Value.oneCell']); omega; intro v' w2 hap; have hown2 := hap.own; have hL3 := hap.later; have hk0 := hap.cell (b := wr.heap.size) (by have := later_size hL1; simp at this; omega) (fun h => by have := Hne.out _ h; omega); have hc4 := (hk0 0).trans hc2; have hc5 := (hk0 1).trans hc3; clear hk0 hap))
      go_wp2_with fail
      refine (Size_calls (h := x) _ (by omega) (by omega)).mono ?_
      rintro e w3 ⟨rfl, hL4⟩
      have hown3 := own_later hown2 hL4
      have hL5 := Later.trans hL3 hL4
      have hdv : q / sizeH x = q.tdiv (sizeH x) := (Int.tdiv_eq_ediv_of_nonneg hr.1).symm
      have Hdv := hide hdv
      clear hdv
      go_wp2_with fail
      go_roundw
      case rel =>
        refine ⟨j + 1, by omega, by go_num, by rw [Hs2.out], ?_, hL5⟩
        rw [Hs1.out, ints_snoc]; exact hown3
      case measure => simp [intOf]; omega
    · have hf : nth (c.horses.take j) n = nth c.horses n := by rw [List.take_of_length_le (by have := Hn1.out; omega)]
      rw [hf] at hown
      have hj1 : j = n1 := by omega
      subst j
      clear hf
      go_wp2_with fail
      go_ret
      exact ⟨_, rfl, Later.trans hL0 hL, World.ownsRow.mono hown hL0.size⟩
end Go.Proofs.Ytjilckjhdlabaaa
