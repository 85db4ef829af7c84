/- Part 12 of the proof: joined from the texts CloZ, CloZ2, Pig, LawI, LawJ, LawK. -/
import Derived.Test.YtjilckjhdlabaaaPart6
import Derived.Test.YtjilckjhdlabaaaPart1
import Derived.Test.YtjilckjhdlabaaaPart8
import Derived.Test.YtjilckjhdlabaaaPart10
set_option linter.unusedSimpArgs false
set_option linter.unusedVariables false
/- The program's ProvePlace, ProveTruth, Bounds: walks. -/
namespace Go.Proofs.Ytjilckjhdlabaaa
open Go Go.RowKit
attribute [local go_sem] later_alloc2 later_alloc3 later_alloc4

/-- what ProvePlace returns -/
def placeOut (c : Clo) (p : List Int) (n : Int) : Bool := decide (askedErr c (isPlaceB c p) = 0) && (decide ((doneP c (truthsP c) p).2 = c.horses.length) && decide ((doneP c (truthsP c) p).1 ≤ n))
set_option maxRecDepth 100000 in
set_option maxHeartbeats 1000000 in
theorem ProvePlace_calls {A1 A2 A3 : Option Addr} {n1 k1 n2 k2 n3 k3 : Nat} {c : Clo} {Ap : Option Addr} {np kp : Nat} {p : List Int} {n : Int} (w : World) (hc : CV w c A1 n1 A2 n2 A3 n3) (hcl : i64 c.closets) (hn1 : n1 ≤ 1000) (hn2 : n2 ≤ 1000) (hn3 : n3 ≤ 1000) (hk2 : n2 ≤ k2)
    (hp : RI w Ap np p) (hcap : np ≤ kp) (hnp : np ≤ 1000000) :
    Calls Try.prog 61 #[(.agg #[.int .i64 c.closets, .int .i64 c.close, .slice A1 n1 k1, .slice A2 n2 k2, .slice A3 n3 k3]), .slice Ap np kp, .int .i64 n] w fun e w' => e = .returned (.bool (placeOut c p n)) ∧ Later w w' := by
  obtain ⟨w0, hw0⟩ : ∃ W, W = (w.alloc (.cells #[.int .i64 c.closets, .int .i64 c.close, .slice A1 n1 k1, .slice A2 n2 k2, .slice A3 n3 k3] 35)) := ⟨_, rfl⟩; have hbox : ∀ W, Later w0 W → ∀ i, W.cell? ⟨w.heap.size, i, none⟩ = #[.int .i64 c.closets, .int .i64 c.close, .slice A1 n1 k1, .slice A2 n2 k2, .slice A3 n3 k3][i]? := (by rw [hw0]; exact box_cells w #[.int .i64 c.closets, .int .i64 c.close, .slice A1 n1 k1, .slice A2 n2 k2, .slice A3 n3 k3] 35); have hL0 : Later w w0 := (by rw [hw0]; simp); have hc0 := hc.later hL0; have Hw0 := hide hw0; clear hw0
  have hT : ∀ e : Ext w0, Later w0 e.W := fun e => e.h
  have hp0 := hp.later hL0
  obtain ⟨b, hb⟩ : ∃ b, isPlaceB c p = b := ⟨_, rfl⟩
  have Hso : Hid (placeOut c p n = (decide (askedErr c b = 0) && (decide ((doneP c (truthsP c) p).2 = c.horses.length) && decide ((doneP c (truthsP c) p).1 ≤ n)))) := by rw [← hb]; rfl
  by_cases he : askedErr c b = 0
  · obtain ⟨hf, hb2, htn⟩ := askedErr_zero he
    have ok := okC_of_fault hf
    have hpl := isPlaceB_isPl hf (hb.trans hb2)
    have htl := truthsP_len hf
    have hdry := truthsP_isDry ok.toOkH
    have hS0 : Later w0 w0.drew := later_drew (later_refl _)
    obtain ⟨⟨d1, d2⟩, hd⟩ : ∃ q, doneP c (truthsP c) p = q := ⟨_, rfl⟩
    rw [decide_eq_true he, hd, Bool.true_and] at Hso
    have hnl := hc.hs.len
    rw [← hnl] at Hso
    dsimp only at Hso
    have Hhf := hide hf
    have Hhb := hide hb
    have Hhe := hide he
    have Hb2 := hide hb2
    have Hd := hide hd
    have Hnl := hide hnl
    clear hf hb he hb2 hd hnl
    go_enter Try.func61, Try.ntmps61
    go_wp2_with fail
    rw [← Hw0.out]; clear Hw0
    go_region_held3 (fun W => Later w0 W) ((((repeat (first | assumption | refine later_drew ?_ | refine later_alloc ?_ _ | refine later_set ?_ _ (Nat.le_add_right _ _) _ | refine later_set ?_ _ (Nat.le_refl _) _)); done)))
      (first
        | (go_at_call 83; go_must (refine (asked_ok w1 (hc0.later hL1) hcl hn1 hn2 hn3 hk2 Hhe.out).mono ?_; rintro e w2 ⟨bw, bm, At, kt, rfl, hL2, hWK, hbm⟩; have hLw2 := Later.trans hL1 hL2))
        | (go_at_call 84; go_must (refine (isPlace_eq Hhb.out _ (hc0.later hS0) (hp0.later hS0) hcap hnp (by omega)).mono ?_; rintro e w1 ⟨rfl, hL⟩; have hL1 := Later.trans hS0 hL)))
    have hdc := done_calls (kp := kp) w2 hWK ok.toOkH (hp0.later hLw2) hpl hdry (by omega)
    rw [Hd.out] at hdc
    have Hdc := hide hdc
    clear hdc
    by_cases h7 : d2 = (n1 : Int)
    · have h7b : (d2 == (n1 : Int)) = true := by simpa using h7
      rw [decide_eq_true h7, Bool.true_and] at Hso
      clear h7
      go_wp2_with fail
      refine Hdc.out.mono ?_
      rintro e w3 ⟨rfl, hL3⟩
      have hLw3 := Later.trans hLw2 hL3
      go_wp2_with fail
      go_ret
      exact ⟨ret_bool (by rw [Hso.out]; try simp), Later.trans hL0 hLw3⟩
    · have h7b : (d2 == (n1 : Int)) = false := by simpa using h7
      rw [decide_eq_false h7, Bool.false_and] at Hso
      clear h7
      go_wp2_with fail
      refine Hdc.out.mono ?_
      rintro e w3 ⟨rfl, hL3⟩
      have hLw3 := Later.trans hLw2 hL3
      go_wp2_with fail
      go_ret
      exact ⟨by rw [Hso.out]; rfl, Later.trans hL0 hLw3⟩
  · have hfb : (askedErr c b != 0) = true := by simpa using he
    rw [decide_eq_false he, Bool.false_and] at Hso
    have Hhb := hide hb
    have Hhe := hide he
    clear hb he
    generalize hq : askedErr c b = q at *
    have Hq := hide hq
    clear hq
    go_enter Try.func61, Try.ntmps61
    go_wp2_with fail
    rw [← Hw0.out]; clear Hw0
    refine wp_region_ext (w0 := w0) (by kernel_rfl) (by kernel_rfl) (later_refl _) ?_; (repeat (first | go_big_quiet_step ((first | (go_at_call 84; exact calls_ext (by simp) (isPlace_eq Hhb.out _ (hc0.later (hT _)) (hp0.later (hT _)) hcap hnp (by omega))) | (go_at_call 83; exact calls_ext (by simp) (asked_fail _ (hc0.later (hT _)) hcl hn1 hn2 hn3 hk2 Hq.out Hhe.out)))) | quiet_step ((first | (go_at_call 84; exact calls_ext (by simp) (isPlace_eq Hhb.out _ (hc0.later (hT _)) (hp0.later (hT _)) hcap hnp (by omega))) | (go_at_call 83; exact calls_ext (by simp) (asked_fail _ (hc0.later (hT _)) hcl hn1 hn2 hn3 hk2 Hq.out Hhe.out)))))); refine wpQuiet_nil ?_; rintro w1 ⟨⟨_, hL1⟩, rfl⟩; (try dsimp only)
    go_wp2_with fail
    go_ret
    exact ⟨by rw [Hso.out]; rfl, Later.trans hL0 hL1⟩

/-- what ProveTruth returns -/
def truthOut (c : Clo) (d : List Int) : Bool := decide (fault c = 0) && (areNumbers c.horses d && rightP c (pad4 d) [])
set_option maxRecDepth 100000 in
set_option maxHeartbeats 1000000 in
theorem ProveTruth_calls {A1 A2 A3 : Option Addr} {n1 k1 n2 k2 n3 k3 : Nat} {c : Clo} {Ad : Option Addr} {nd kd : Nat} {d : List Int} (w : World) (hc : CV w c A1 n1 A2 n2 A3 n3) (hcl : i64 c.closets) (hn1 : n1 ≤ 1000) (hn2 : n2 ≤ 1000) (hn3 : n3 ≤ 1000) (hk2 : n2 ≤ k2) (hd : RI w Ad nd d) (hnd : nd ≤ 1000000) :
    Calls Try.prog 57 #[(.agg #[.int .i64 c.closets, .int .i64 c.close, .slice A1 n1 k1, .slice A2 n2 k2, .slice A3 n3 k3]), .slice Ad nd kd] w fun e w' => e = .returned (.bool (truthOut c d)) ∧ Later w w' := by
  obtain ⟨w0, hw0⟩ : ∃ W, W = (w.alloc (.cells #[.int .i64 c.closets, .int .i64 c.close, .slice A1 n1 k1, .slice A2 n2 k2, .slice A3 n3 k3] 35)) := ⟨_, rfl⟩; have hbox : ∀ W, Later w0 W → ∀ i, W.cell? ⟨w.heap.size, i, none⟩ = #[.int .i64 c.closets, .int .i64 c.close, .slice A1 n1 k1, .slice A2 n2 k2, .slice A3 n3 k3][i]? := (by rw [hw0]; exact box_cells w #[.int .i64 c.closets, .int .i64 c.close, .slice A1 n1 k1, .slice A2 n2 k2, .slice A3 n3 k3] 35); have hL0 : Later w w0 := (by rw [hw0]; simp); have hc0 := hc.later hL0; have Hw0 := hide hw0; clear hw0
  have hd0 := hd.later hL0
  by_cases hf : fault c = 0
  · have ok := okC_of_fault hf
    have hhl := hc.hs.len
    have hl4 := ok.len
    have hn4 : n1 ≤ 4 := by omega
    obtain ⟨b1, hb1⟩ : ∃ b, areNumbers c.horses d = b := ⟨_, rfl⟩
    obtain ⟨e0, e1, e2, e3, he⟩ := listedP_four c d
    have Hto : Hid (truthOut c d = (b1 && rightP c (pad4 d) [])) := by show _ = _; unfold truthOut; rw [decide_eq_true hf, Bool.true_and, hb1]
    have Hf := hide hf
    have Hb1 := hide hb1
    have He := hide he
    clear hf hb1 he hhl
    have hck := CheckCloset_eq (k1 := k1) (k3 := k3) w0 hc0 Hf.out hcl hn1 hn2 hn3 hk2
    go_enter Try.func57, Try.ntmps57
    go_wp2_with fail
    rw [← Hw0.out]; clear Hw0
    refine hck.mono ?_
    rintro e w1 ⟨rfl, hL1⟩
    go_wp2_with fail
    refine (listed_eq (kl := kd) _ (hc0.later hL1) (hd0.later hL1) hn4 hnd Hb1.out He.out).mono ?_
    rintro e w2 ⟨rfl, hL2⟩
    have hL2' := Later.trans hL1 hL2
    cases b1 with
    | false =>
      rw [Bool.false_and] at Hto
      go_wp2_with fail
      go_ret
      exact ⟨by rw [Hto.out]; rfl, later_alloc (Later.trans hL0 hL2') _⟩
    | true =>
      have hdry := areNumbers_dry Hb1.out
      have hp4 : pad4 d = [e0, e1, e2, e3] := by have := He.out; unfold listedP at this; rw [Hb1.out, if_pos rfl] at this; exact this
      have hbd := box_cells w2 #[.int .i64 e0, .int .i64 e1, .int .i64 e2, .int .i64 e3] 138
      have hrange : ∀ x ∈ [e0, e1, e2, e3], 0 ≤ x ∧ x ≤ 1000 := by rw [← hp4]; exact pad4_range ok.toOkH hdry
      obtain ⟨q, hq⟩ : ∃ q, rightP c (pad4 d) [] = q := ⟨_, rfl⟩
      rw [hq, Bool.true_and] at Hto
      have hrc := fun (W : World) (h : Later w0 W) => right_calls (k1 := k1) (k2 := k2) (k3 := k3) (ko := 0) (Ao := none) (no := 0) (out := []) W (hc0.later h) ok RI.nil (by omega) hrange
      rw [← hp4, hq] at hrc
      have Hrc := hide hrc
      have hL2a := later_alloc hL2' (.cells #[.int .i64 e0, .int .i64 e1, .int .i64 e2, .int .i64 e3] 138)
      have hd0' := hbd _ (later_refl _) 0
      have hd1' := hbd _ (later_refl _) 1
      have hd2' := hbd _ (later_refl _) 2
      have hd3' := hbd _ (later_refl _) 3
      simp only [List.getElem?_toArray, List.getElem?_cons_zero, List.getElem?_cons_succ] at hd0' hd1' hd2' hd3'
      clear hrc hq hp4 hbd hrange
      go_wp2_with fail
      refine (Hrc.out _ hL2a).mono ?_
      rintro e w3 ⟨rfl, hL3⟩
      go_wp2_with fail
      go_ret
      exact ⟨by rw [Hto.out]; rfl, Later.trans hL0 (Later.trans hL2a hL3)⟩
  · have hfb : (fault c != 0) = true := by simpa using hf
    have Hto : Hid (truthOut c d = false) := by show _ = _; unfold truthOut; rw [decide_eq_false hf, Bool.false_and]
    obtain ⟨q, hq⟩ : ∃ q, fault c = q := ⟨_, rfl⟩
    have hck := CheckCloset_eq (k1 := k1) (k3 := k3) w0 hc0 hq hcl hn1 hn2 hn3 hk2
    rw [hq] at hfb
    have Hck := hide hck
    clear hck hq hf
    go_enter Try.func57, Try.ntmps57
    go_wp2_with fail
    rw [← Hw0.out]; clear Hw0
    refine Hck.out.mono ?_
    rintro e w1 ⟨rfl, hL1⟩
    go_wp2_with fail
    go_ret
    exact ⟨by rw [Hto.out]; rfl, Later.trans hL0 hL1⟩
end Go.Proofs.Ytjilckjhdlabaaa

/- The program's Bounds: walk. -/
namespace Go.Proofs.Ytjilckjhdlabaaa
open Go Go.RowKit
attribute [local go_sem] later_alloc2 later_alloc3 later_alloc4

/-- a list of ranges, as cells -/
def rangesV (l : List (Int × Int)) : List Value := l.flatMap fun r => [.int .i64 r.1, .int .i64 r.2]
theorem rangesV_length (l : List (Int × Int)) : (rangesV l).length = l.length * 2 := by
  induction l with
  | nil => rfl
  | cons h l ih => simp only [rangesV, List.flatMap_cons, List.length_append] at ih ⊢; rw [ih]; simp; omega
theorem rangesV_snoc (l : List (Int × Int)) (r : Int × Int) : rangesV (l ++ [r]) = rangesV l ++ [.int .i64 r.1, .int .i64 r.2] := by simp [rangesV]
theorem rangesV_get (l : List (Int × Int)) (k j : Nat) (x : Int × Int) (h : l[k]? = some x) (hj : j < 2) : (rangesV l)[k * 2 + j]? = [Value.int .i64 x.1, Value.int .i64 x.2][j]? := by
  induction l generalizing k with
  | nil => simp at h
  | cons y l ih =>
    cases k with
    | zero =>
      simp at h; subst h
      simp only [rangesV, List.flatMap_cons]
      rw [List.getElem?_append_left (by simp; omega)]; simp
    | succ k =>
      simp only [rangesV, List.flatMap_cons] at ih ⊢
      rw [List.getElem?_append_right (by simp; omega)]
      have : (k + 1) * 2 + j - [Value.int .i64 y.1, Value.int .i64 y.2].length = k * 2 + j := by simp; omega
      rw [this]
      exact ih k (by simpa using h)
def RG (w : World) (A : Option Addr) (n : Nat) (l : List (Int × Int)) : Prop := Reads w w.heap.size 2 A n (rangesV l)
theorem RG.later {w W : World} {A : Option Addr} {n : Nat} {l : List (Int × Int)} (h : RG w A n l) (k : Later w W) : RG W A n l := Reads.later h k
theorem RG.len {w : World} {A : Option Addr} {n : Nat} {l : List (Int × Int)} (h : RG w A n l) : n = l.length := by have := h.1; rw [rangesV_length] at this; omega
theorem RG.get {w : World} {A : Option Addr} {n : Nat} {l : List (Int × Int)} (h : RG w A n l) {k : Nat} (hk : k < n) :
    ∃ b o x, A = some ⟨b, o, none⟩ ∧ b < w.heap.size ∧ l[k]? = some x ∧ (∀ W, Later w W → W.cell? ⟨b, o + k * 2, none⟩ = some (.int .i64 x.1)) ∧ (∀ W, Later w W → W.cell? ⟨b, o + k * 2 + 1, none⟩ = some (.int .i64 x.2)) := by
  obtain ⟨b, o, e, hb, hc⟩ := Reads.lit h (by omega) (by omega)
  have hl : k < l.length := by have := h.len; omega
  have hx := List.getElem?_eq_getElem hl
  exact ⟨b, o, l[k], e, hb, hx, fun W k' => cell_later (hc _ _ (rangesV_get l k 0 _ hx (by omega))) k' hb, fun W k' => cell_later (hc _ _ (rangesV_get l k 1 _ hx (by omega))) k' hb⟩
theorem range_info : (Try.prog.info? 61).map (fun i => (i.zero, i.size, i.bytes)) = some (some (.agg #[.int .i64 0, .int .i64 0]), 2, 16) := by kernel_rfl

def boundP (c : Clo) (p : List Int) (i : Nat) : Int × Int := bP (fun d => minuteR c p d i) (truthsP c)
def boundsTo2 (c : Clo) (p : List Int) (j : Nat) : List (Int × Int) := (List.range j).map (boundP c p)
theorem boundsTo2_succ (c : Clo) (p : List Int) (j : Nat) : boundsTo2 c p (j + 1) = boundsTo2 c p j ++ [boundP c p j] := by simp [boundsTo2, List.range_succ]
/-- what Bounds returns -/
def boundsOut (c : Clo) (p : List Int) : List (Int × Int) := if askedErr c (isPlaceB c p) ≠ 0 then [] else boundsTo2 c p c.horses.length
def BoundsPost (c : Clo) (p : List Int) (w : World) (e : Ending) (w' : World) : Prop :=
  ∃ A n k, e = .returned (.tuple #[.slice A n k, .int .i64 (askedErr c (isPlaceB c p))]) ∧ Later w w' ∧ RG w' A n (boundsOut c p)
set_option maxRecDepth 100000 in
set_option maxHeartbeats 1000000 in
theorem BoundsP_calls {A1 A2 A3 : Option Addr} {n1 k1 n2 k2 n3 k3 : Nat} {c : Clo} {Ap : Option Addr} {np kp : Nat} {p : List Int} (w : World) (hc : CV w c A1 n1 A2 n2 A3 n3) (hcl : i64 c.closets) (hn1 : n1 ≤ 1000) (hn2 : n2 ≤ 1000) (hn3 : n3 ≤ 1000) (hk2 : n2 ≤ k2)
    (hp : RI w Ap np p) (hcap : np ≤ kp) (hnp : np ≤ 1000000) :
    Calls Try.prog 65 #[(.agg #[.int .i64 c.closets, .int .i64 c.close, .slice A1 n1 k1, .slice A2 n2 k2, .slice A3 n3 k3]), .slice Ap np kp] w (BoundsPost c p w) := by
  obtain ⟨w0, hw0⟩ : ∃ W, W = (w.alloc (.cells #[.int .i64 c.closets, .int .i64 c.close, .slice A1 n1 k1, .slice A2 n2 k2, .slice A3 n3 k3] 35)) := ⟨_, rfl⟩; have hbox : ∀ W, Later w0 W → ∀ i, W.cell? ⟨w.heap.size, i, none⟩ = #[.int .i64 c.closets, .int .i64 c.close, .slice A1 n1 k1, .slice A2 n2 k2, .slice A3 n3 k3][i]? := (by rw [hw0]; exact box_cells w #[.int .i64 c.closets, .int .i64 c.close, .slice A1 n1 k1, .slice A2 n2 k2, .slice A3 n3 k3] 35); have hL0 : Later w w0 := (by rw [hw0]; simp); have hc0 := hc.later hL0; have Hw0 := hide hw0; clear hw0
  have hT : ∀ e : Ext w0, Later w0 e.W := fun e => e.h
  have hp0 := hp.later hL0
  obtain ⟨b, hb⟩ : ∃ b, isPlaceB c p = b := ⟨_, rfl⟩
  have Hso : Hid (boundsOut c p = if askedErr c b ≠ 0 then [] else boundsTo2 c p c.horses.length) := by rw [← hb]; rfl
  unfold BoundsPost
  rw [hb]
  by_cases he : askedErr c b = 0
  · obtain ⟨hf, hb2, htn⟩ := askedErr_zero he
    have ok := okC_of_fault hf
    have hpl := isPlaceB_isPl hf (hb.trans hb2)
    have htl := truthsP_len hf
    have hdry := truthsP_isDry ok.toOkH
    have hS0 : Later w0 w0.drew := later_drew (later_refl _)
    rw [if_neg (by simp [he])] at Hso
    have hnl := hc.hs.len
    have hl4 := ok.len
    have hn4 : n1 ≤ 4 := by omega
    rw [← hnl] at Hso
    rw [he]
    have Hhf := hide hf
    have Hhb := hide hb
    have Hhe := hide he
    have Hb2 := hide hb2
    have Hnl := hide hnl
    clear hf hb he hb2 hnl
    go_enter Try.func65, Try.ntmps65
    go_wp2_with fail
    rw [← Hw0.out]; clear Hw0
    go_region_held3 (fun W => Later w0 W) ((((repeat (first | assumption | refine later_drew ?_ | refine later_alloc ?_ _ | refine later_set ?_ _ (Nat.le_add_right _ _) _ | refine later_set ?_ _ (Nat.le_refl _) _)); done)))
      (first
        | (go_at_call 83; go_must (refine (asked_ok w1 (hc0.later hL1) hcl hn1 hn2 hn3 hk2 Hhe.out).mono ?_; rintro e w2 ⟨bw, bm, At, kt, rfl, hL2, hWK, hbm⟩; have hLw2 := Later.trans hL1 hL2))
        | (go_at_call 84; go_must (refine (isPlace_eq Hhb.out _ (hc0.later hS0) (hp0.later hS0) hcap hnp (by omega)).mono ?_; rintro e w1 ⟨rfl, hL⟩; have hL1 := Later.trans hS0 hL)))
    have hbf := fun (W : World) (h : Later w2 W) (i : Nat) (hi : i < n1) => bounds_from_calls (kp := kp) (h := i) W (hWK.later h) ok.toOkH (hp0.later (Later.trans hLw2 h)) hpl hdry (by omega) hi
    have Hbf := hide hbf
    clear hbf
    go_wp2_with fail
    go_loopw [24, 8] (fun i v wr => ∃ j : Nat, j ≤ n1 ∧ i = .int .i64 j ∧ wr.ownsRow w2.heap.size 61 2 v j (rangesV (boundsTo2 c p j)) ∧ Later w2 wr) (fun i _ _ => n1 - (intOf i).toNat)
    case atStart => exact ⟨0, Nat.zero_le _, rfl, World.ownsRow_nil _ _ _ _, later_refl _⟩
    case round =>
      obtain ⟨j, hj, rfl, hown, hL⟩ := hrel
      by_cases hlt : j < n1
      · have hi1 : (j : Int) < n1 := by omega
        have hbc := Hbf.out wr hL j hlt
        have hsu := boundsTo2_succ c p j
        obtain ⟨⟨g1, g2⟩, hg⟩ : ∃ q, boundP c p j = q := ⟨_, rfl⟩
        have hg2 : bP (fun d => minuteR c p d j) (truthsP c) = (g1, g2) := hg
        rw [hg2] at hbc
        rw [hg] at hsu
        have Hbc := hide hbc
        have Hsu := hide hsu
        clear hbc hsu hg hg2
        go_wp2_with fail
        refine Hbc.out.mono ?_
        rintro e w3 ⟨rfl, hL3⟩
        have hown3 := own_later2 hown hL3
        have hL23 := Later.trans hL hL3
        have hj6 : j ≤ 1000000 := by omega
        go_wp2_with (at_builtin; go_must (refine own_append (w0 := w2) (W := w3) (te := 61) rfl _ _ 95 rfl 61 (.agg #[.int .i64 0, .int .i64 0]) 2 16 Try.underlying95 range_info rfl (by omega) u8 j (rangesV (boundsTo2 c p j)) rfl hL23 hown3 [.int .i64 g1, .int .i64 g2] rfl rfl ?_ hj6 (by omega) ?_; (simp [Value.oneCell']); intro v' w4 hap; have hown4 := hap.own; have hL4 := hap.later; clear hap))
        go_roundw
        case rel =>
          refine ⟨j + 1, by omega, by go_num, ?_, hL4⟩
          rw [Hsu.out, rangesV_snoc]; exact hown4
        case measure => simp [intOf]; omega
      · have hj1 : j = n1 := by omega
        subst hj1
        obtain ⟨A, k, rfl, hrd⟩ := own_slice hown
        go_wp2_with fail
        refine bodyPost_ret (v := .tuple #[.slice A j k, .int .i64 0]) ?_ rfl ⟨A, j, k, rfl, Later.trans hL0 (Later.trans hLw2 hL), by rw [Hso.out]; exact hrd⟩
        simp [results, Try.results65, go_sem]
  · have hfb : (askedErr c b != 0) = true := by simpa using he
    rw [if_pos he] at Hso
    have Hhb := hide hb
    have Hhe := hide he
    clear hb he
    generalize hq : askedErr c b = q at *
    have Hq := hide hq
    clear hq
    go_enter Try.func65, Try.ntmps65
    go_wp2_with fail
    rw [← Hw0.out]; clear Hw0
    refine wp_region_ext (w0 := w0) (by kernel_rfl) (by kernel_rfl) (later_refl _) ?_; (repeat (first | go_big_quiet_step ((first | (go_at_call 84; exact calls_ext (by simp) (isPlace_eq Hhb.out _ (hc0.later (hT _)) (hp0.later (hT _)) hcap hnp (by omega))) | (go_at_call 83; exact calls_ext (by simp) (asked_fail _ (hc0.later (hT _)) hcl hn1 hn2 hn3 hk2 Hq.out Hhe.out)))) | quiet_step ((first | (go_at_call 84; exact calls_ext (by simp) (isPlace_eq Hhb.out _ (hc0.later (hT _)) (hp0.later (hT _)) hcap hnp (by omega))) | (go_at_call 83; exact calls_ext (by simp) (asked_fail _ (hc0.later (hT _)) hcl hn1 hn2 hn3 hk2 Hq.out Hhe.out)))))); refine wpQuiet_nil ?_; rintro w1 ⟨⟨_, hL1⟩, rfl⟩; (try dsimp only)
    go_wp2_with fail
    refine bodyPost_ret (v := .tuple #[.slice none 0 0, .int .i64 q]) ?_ rfl ⟨none, 0, 0, rfl, Later.trans hL0 hL1, by rw [Hso.out]; exact ⟨rfl, fun h => absurd h (by omega)⟩⟩
    simp [results, Try.results65, go_sem]
end Go.Proofs.Ytjilckjhdlabaaa

/- Pigeons: plain lemmas on lists of distinct numbers. -/
namespace Go.Proofs.Ytjilckjhdlabaaa
theorem erase_nodup {q : List Int} (h : q.Nodup) (x : Int) : (q.erase x).Nodup := List.Nodup.erase x h
theorem pigeon : ∀ (m : Nat) (q : List Int), q.Nodup → q.length < m → ∃ f : Nat, f < m ∧ (f : Int) ∉ q
  | 0, q, _, h => by omega
  | m + 1, q, hn, h => by
    by_cases hm : (m : Int) ∈ q
    · have hl := List.length_erase_of_mem hm
      have hpos := List.length_pos_of_mem hm
      obtain ⟨f, hf, hnf⟩ := pigeon m (q.erase (m : Int)) (erase_nodup hn _) (by omega)
      refine ⟨f, by omega, fun hq => hnf ?_⟩
      exact (List.mem_erase_of_ne (by omega)).2 hq
    · exact ⟨m, by omega, hm⟩
theorem pigeon_le : ∀ (m : Nat) (q : List Int), q.Nodup → (∀ x ∈ q, 0 ≤ x ∧ x < (m : Int)) → q.length ≤ m
  | 0, q, _, h => by
    cases q with
    | nil => simp
    | cons x q => have := h x List.mem_cons_self; omega
  | m + 1, q, hn, h => by
    by_cases hm : (m : Int) ∈ q
    · have hl := List.length_erase_of_mem hm
      have := pigeon_le m (q.erase (m : Int)) (erase_nodup hn _) (fun x hx => by
        have h1 := h x (List.mem_of_mem_erase hx)
        have h2 : x ≠ (m : Int) := fun e => by
          subst e
          exact absurd hx (List.Nodup.not_mem_erase hn)
        omega)
      omega
    · have := pigeon_le m q hn (fun x hx => by
        have h1 := h x hx
        have h2 : x ≠ (m : Int) := fun e => hm (e ▸ hx)
        omega)
      omega
/-- a placement needs as many closets as there are horses -/
theorem IsPl.many {c : Clo} {p : List Int} (h : IsPl c p) (h1 : 1 ≤ c.closets) : c.horses.length ≤ c.closets.toNat := by
  rw [← h.len]
  exact pigeon_le _ p h.nodup fun x hx => by have := h.mem x hx; omega
end Go.Proofs.Ytjilckjhdlabaaa

/- Helpers of the laws: word, used, ready, Placed: walks. -/
namespace Go.Proofs.Ytjilckjhdlabaaa
open Go Go.RowKit
attribute [local go_sem] later_alloc2 later_alloc3 later_alloc4

def WordPost (w : World) (e : Ending) (w' : World) : Prop := ∃ z : Nat, z < 65536 ∧ e = .returned (.int .i64 (z : Int)) ∧ w = w'
theorem word_calls {A : Option Addr} {n k : Nat} {l : List Nat} {i : Nat} (w : World) (h : RW w A n l) (hn : n ≤ 9223372036854775807) (hi : i ≤ 1000000) :
    Calls Try.prog 92 #[.slice A n k, .int .i64 i] w (WordPost w) := by
  by_cases h0 : n = 0
  · subst h0
    go_enter Try.func92, Try.ntmps92
    go_wp2_with fail
    go_ret
    exact ⟨0, by omega, rfl, rfl⟩
  · have hlt : i % n < n := Nat.mod_lt _ (by omega)
    obtain ⟨b, o, x, rfl, _, hx, hcx⟩ := h.get hlt
    have hm : (i : Int) % (n : Int) = ((i % n : Nat) : Int) := by norm_cast
    have hz : ((n : Int) == 0) = false := by simp; omega
    have hz2 : ¬ (n : Int) = 0 := by omega
    have hcx0 := hcx w (later_refl _)
    generalize i % n = m at *
    have hm2 : (m : Int) < n := by omega
    clear h0 hcx
    go_enter Try.func92, Try.ntmps92
    go_wp2_with fail
    go_ret
    exact ⟨x, hx, rfl, rfl⟩

theorem used_calls {A : Option Addr} {n k : Nat} {p : List Int} (x : Int) (w : World) (h : RI w A n p) (hn : n ≤ 1000000) :
    Calls Try.prog 53 #[.slice A n k, .int .i64 x] w fun e w' => e = .returned (.bool (p.contains x)) ∧ w = w' := by
  have hl := h.len
  go_enter Try.func53, Try.ntmps53
  go_wp2
  go_loop [5] (fun i => ∃ j : Nat, j ≤ n ∧ i = .int .i64 j ∧ (p.drop j).contains x = p.contains x) (fun i => n - (intOf i).toNat)
  case atStart => exact ⟨0, Nat.zero_le _, rfl, rfl⟩
  case round =>
    obtain ⟨j, hj, rfl, hno⟩ := hrel
    by_cases hlt : j < n
    · obtain ⟨b, o, y, rfl, _, hx, hc⟩ := h.get hlt
      replace hc := hc w (later_refl w)
      obtain ⟨hp, rfl⟩ := List.getElem?_eq_some_iff.1 hx
      rw [List.drop_eq_getElem_cons hp, List.contains_cons] at hno
      generalize p[j] = y at *
      by_cases he : y = x
      · have hyb : (y == x) = true := by simpa using he
        have hxb : (x == y) = true := by simpa using he.symm
        rw [hxb, Bool.true_or] at hno
        have Hno := hide hno
        have Hl := hide hl
        clear hno hx hl he hxb
        go_wp2
        go_ret
        exact ⟨ret_bool (by have h1 := Hno.out; simp only [List.contains_eq_mem] at h1; rw [← h1]; try rfl), rfl⟩
      · have hyb : (y == x) = false := by simpa using he
        have hxb : (x == y) = false := by simpa using fun h => he h.symm
        rw [hxb, Bool.false_or] at hno
        have Hno := hide hno
        have Hl := hide hl
        clear hno hx hl he hxb
        go_wp2
        go_round
        case rel => exact ⟨j + 1, by omega, by go_num, Hno.out⟩
        case measure => simp [intOf]; omega
    · rw [List.drop_of_length_le (by omega)] at hno
      have Hno := hide hno
      have Hl := hide hl
      clear hno hl
      go_wp2
      go_ret
      exact ⟨ret_bool (by have h1 := Hno.out; simp only [List.contains_eq_mem] at h1; rw [← h1]; try rfl), rfl⟩

def readyB (c : Clo) : Bool := thinB c && decide (fault c = 0)
theorem ready_calls {A1 A2 A3 : Option Addr} {n1 k1 n2 k2 n3 k3 : Nat} {c : Clo} (w : World) (hc : CV w c A1 n1 A2 n2 A3 n3) (hcl : i64 c.closets) (b1 : n1 ≤ 9223372036854775807) (b2 : n2 ≤ 9223372036854775807) (b3 : n3 ≤ 9223372036854775807) :
    Calls Try.prog 41 #[(.agg #[.int .i64 c.closets, .int .i64 c.close, .slice A1 n1 k1, .slice A2 n2 k2, .slice A3 n3 k3])] w fun e w' => e = .returned (.bool (readyB c)) ∧ Later w w' := by
  obtain ⟨w0, hw0⟩ : ∃ W, W = (w.alloc (.cells #[.int .i64 c.closets, .int .i64 c.close, .slice A1 n1 k1, .slice A2 n2 k2, .slice A3 n3 k3] 26)) := ⟨_, rfl⟩; have hbox : ∀ W, Later w0 W → ∀ i, W.cell? ⟨w.heap.size, i, none⟩ = #[.int .i64 c.closets, .int .i64 c.close, .slice A1 n1 k1, .slice A2 n2 k2, .slice A3 n3 k3][i]? := (by rw [hw0]; exact box_cells w #[.int .i64 c.closets, .int .i64 c.close, .slice A1 n1 k1, .slice A2 n2 k2, .slice A3 n3 k3] 26); have hL0 : Later w w0 := (by rw [hw0]; simp); have hc0 := hc.later hL0; have Hw0 := hide hw0; clear hw0
  have hthin := Thin_calls (k1 := k1) (k2 := k2) (k3 := k3) w0 hc0 hcl b1 b2 b3
  cases hth : thinB c with
  | false =>
    have Hr : Hid (readyB c = false) := by show _ = _; unfold readyB; rw [hth]; rfl
    rw [hth] at hthin
    have Hthin := hide hthin
    clear hth hthin
    go_enter Try.func41, Try.ntmps41
    go_wp2_with fail
    rw [← Hw0.out]; clear Hw0
    refine Hthin.out.mono ?_
    rintro e w1 ⟨rfl, hL1⟩
    go_wp2_with fail
    go_ret
    exact ⟨by rw [Hr.out]; rfl, Later.trans hL0 hL1⟩
  | true =>
    have Hr : Hid (readyB c = decide (fault c = 0)) := by show _ = _; unfold readyB; rw [hth]; rfl
    rw [hth] at hthin
    have hn := And.intro hc.hs.len (And.intro hc.hu.len hc.lk.len)
    unfold thinB at hth
    simp only [Bool.and_eq_true, decide_eq_true_eq] at hth
    have l1 : n1 ≤ 6 := by omega
    have l2 : n2 ≤ 8 := by omega
    have l3 : n3 ≤ 7 := by omega
    have Hthin := hide hthin
    clear hth hthin hn
    have hfc := fun (W : World) (h : Later w0 W) => fault_calls (k1 := k1) (k2 := k2) (k3 := k3) W (hc0.later h) hcl (by omega) (by omega) (by omega)
    obtain ⟨q, hq⟩ : ∃ q, fault c = q := ⟨_, rfl⟩
    rw [hq] at hfc Hr
    have Hfc := hide hfc
    clear hfc hq
    go_enter Try.func41, Try.ntmps41
    go_wp2_with fail
    rw [← Hw0.out]; clear Hw0
    refine Hthin.out.mono ?_
    rintro e w1 ⟨rfl, hL1⟩
    go_wp2_with fail
    refine (Hfc.out w1 hL1).mono ?_
    rintro e w2 ⟨rfl, hL2⟩
    go_wp2_with fail
    go_ret
    exact ⟨ret_bool (by rw [Hr.out]; first | rfl | (rw [Bool.eq_iff_iff]; simp)), Later.trans hL0 (Later.trans hL1 hL2)⟩
theorem readyB_true {c : Clo} (h : readyB c = true) : thinB c = true ∧ fault c = 0 := by
  unfold readyB at h
  rw [Bool.and_eq_true, decide_eq_true_eq] at h
  exact h

theorem turn_less {m f y : Int} (h1 : 1 ≤ m) (h4 : m ≤ 4) (hf : 0 ≤ f ∧ f < m) (hy : 0 ≤ y ∧ y < m) (hne : y ≠ f) : ((f - (y + 1) % m) % m).toNat < ((f - y) % m).toNat := by
  have : m = 1 ∨ m = 2 ∨ m = 3 ∨ m = 4 := by omega
  rcases this with rfl | rfl | rfl | rfl <;> omega
def PlacedP (c : Clo) (w : World) (e : Ending) (w' : World) : Prop := ∃ A k p, e = .returned (.slice A c.horses.length k) ∧ Later w w' ∧ RI w' A c.horses.length p ∧ c.horses.length ≤ k ∧ IsPl c p
set_option maxRecDepth 100000 in
set_option maxHeartbeats 1000000 in
theorem Placed_calls {A1 A2 A3 : Option Addr} {n1 k1 n2 k2 n3 k3 : Nat} {c : Clo} {Aw : Option Addr} {nw kw : Nat} {l : List Nat} (w : World) (hc : CV w c A1 n1 A2 n2 A3 n3) (ok : OkC c) (hw : RW w Aw nw l) (hnw : nw ≤ 9223372036854775807) :
    Calls Try.prog 42 #[(.agg #[.int .i64 c.closets, .int .i64 c.close, .slice A1 n1 k1, .slice A2 n2 k2, .slice A3 n3 k3]), .slice Aw nw kw] w (PlacedP c w) := by
  have hn1 := hc.hs.len
  have hn14 : n1 ≤ 4 := by have := ok.len; omega
  have hmany := ok.hung.many ok.cl1
  have hc1 := ok.cl1
  have hc4 := ok.cl4
  have hz1 : ¬ c.closets = 0 := by omega
  have hz2 : ∀ z : Nat, (z : Int).tmod c.closets = (z : Int) % c.closets := fun z => Int.tmod_eq_emod_of_nonneg (by omega)
  have hem : ∀ z : Nat, 0 ≤ (z : Int) % c.closets ∧ (z : Int) % c.closets < c.closets := fun z => ⟨Int.emod_nonneg _ (by omega), Int.emod_lt_of_pos _ (by omega)⟩
  have hw2 : ∀ z : Nat, IntKind.i64.wrap ((z : Int) % c.closets) = (z : Int) % c.closets := fun z => IntWalk.i64_in _ (by have := hem z; omega)
  have Hn1 := hide hn1
  have Hmany := hide hmany
  have Hem := hide hem
  have Hz2 := hide hz2
  have Hw2 := hide hw2
  clear hn1 hmany hem hz2 hw2
  obtain ⟨w0, hw0⟩ : ∃ W, W = (w.alloc (.cells #[.int .i64 c.closets, .int .i64 c.close, .slice A1 n1 k1, .slice A2 n2 k2, .slice A3 n3 k3] 26)) := ⟨_, rfl⟩; have hbox : ∀ W, Later w0 W → ∀ i, W.cell? ⟨w.heap.size, i, none⟩ = #[.int .i64 c.closets, .int .i64 c.close, .slice A1 n1 k1, .slice A2 n2 k2, .slice A3 n3 k3][i]? := (by rw [hw0]; exact box_cells w #[.int .i64 c.closets, .int .i64 c.close, .slice A1 n1 k1, .slice A2 n2 k2, .slice A3 n3 k3] 26); have hL0 : Later w w0 := (by rw [hw0]; simp); have hc0 := hc.later hL0; have Hw0 := hide hw0; clear hw0
  have hw0 := hw.later hL0
  go_enter Try.func42, Try.ntmps42
  go_wp2_with fail
  rw [← Hw0.out]; clear Hw0
  go_loopw [5, 6] (fun v i wr => ∃ (j : Nat) (q : List Int), j ≤ n1 ∧ i = .int .i64 j ∧ wr.ownsRow w0.heap.size 3 1 v j (ints q) ∧ Hid (q.length = j ∧ q.Nodup ∧ ∀ x ∈ q, 0 ≤ x ∧ x < c.closets) ∧ Later w0 wr) (fun _ i _ => n1 - (intOf i).toNat)
  case atStart => exact ⟨0, [], Nat.zero_le _, rfl, World.ownsRow_nil _ _ _ _, ⟨rfl, List.nodup_nil, fun x hx => by cases hx⟩, later_refl _⟩
  case round =>
    obtain ⟨j, q, hj, rfl, hown, Hq, hL⟩ := hrel
    by_cases hlt : j < n1
    · have hi1 : (j : Int) < n1 := by omega
      obtain ⟨f, hf, hfq⟩ := pigeon c.closets.toNat q Hq.out.2.1 (by have := Hq.out.1; have := Hmany.out; have := Hn1.out; omega)
      have Hfq := hide hfq
      clear hfq
      have hS0 : Later w0 wr.drew := later_drew hL
      have hz2 := Hz2.out
      have hw2 := Hw2.out
      go_wp2_with fail
      go_region_held3 (fun W => Later w0 W) ((((repeat (first | assumption | refine later_drew ?_ | refine later_alloc ?_ _ | refine later_set ?_ _ (Nat.le_add_right _ _) _ | refine later_set ?_ _ (Nat.le_refl _) _)); done)))
        (first | (go_at_call 92; go_must (refine (word_calls _ (hw0.later hS0) hnw (by omega)).mono ?_; rintro e w2 ⟨z, hz, rfl, rfl⟩)))
      clear hz2 hw2
      have hown1 := own_later hown (later_drew (later_refl _))
      have hez := Hem.out z
      obtain ⟨y, hy⟩ : ∃ y, (z : Int) % c.closets = y := ⟨_, rfl⟩
      rw [hy] at hez ⊢
      clear hy
      obtain ⟨we, hwe⟩ : ∃ W, W = wr.drew := ⟨_, rfl⟩
      rw [← hwe] at hS0 hown1 ⊢
      have hLe : Later w0 we := hS0
      clear hwe hown hL hS0
      have hfm : 0 ≤ (f : Int) ∧ (f : Int) < c.closets := by omega
      have hq6 : j ≤ 1000000 := by omega
      go_wp2_with fail
      go_loopw [7] (fun v wv => ∃ y : Int, v = .int .i64 y ∧ (0 ≤ y ∧ y < c.closets) ∧ Later we wv) (fun v _ => (((f : Int) - intOf v) % c.closets).toNat)
      case atStart => exact ⟨y, rfl, hez, later_refl _⟩
      case round =>
        obtain ⟨y, rfl, hyy, hLv⟩ := hrel
        have hownv := own_later2 hown1 hLv
        obtain ⟨Aq, kq, hvq, hrq⟩ := own_slice hown1
        subst hvq
        have hrq2 : RI we Aq j q := hrq
        have hL0v := Later.trans hLe hLv
        have hy1 := hyy.1
        have hy2 := hyy.2
        cases hcq : q.contains y with
        | true =>
          have huc := used_calls (k := kq) y wr (hrq2.later hLv) hq6
          rw [hcq] at huc
          have hne : y ≠ (f : Int) := fun e => by
            have h1 := List.contains_iff_mem.1 hcq
            rw [e] at h1
            exact Hfq.out h1
          have htl := turn_less hc1 hc4 hfm hyy hne
          have hem1 : 0 ≤ (y + 1) % c.closets := Int.emod_nonneg _ (by omega)
          have hem2 : (y + 1) % c.closets < c.closets := Int.emod_lt_of_pos _ (by omega)
          have Huc := hide huc
          have Htl := hide htl
          clear huc htl hcq hne
          go_wp2_with fail
          refine Huc.out.mono ?_
          rintro e w3 ⟨rfl, rfl⟩
          go_wp2_with fail
          go_roundw
          case rel => exact ⟨(y + 1) % c.closets, rfl, ⟨hem1, hem2⟩, hLv⟩
          case measure => exact Htl.out
        | false =>
          have huc := used_calls (k := kq) y wr (hrq2.later hLv) hq6
          rw [hcq] at huc
          have hq2 : (q ++ [y]).length = j + 1 ∧ (q ++ [y]).Nodup ∧ ∀ x ∈ q ++ [y], 0 ≤ x ∧ x < c.closets := by
            refine ⟨by simp [Hq.out.1], ?_, fun x hx => ?_⟩
            · rw [List.nodup_append]
              refine ⟨Hq.out.2.1, by simp, fun a ha b hb => ?_⟩
              simp at hb
              subst hb
              intro e
              subst e
              rw [List.contains_iff_mem.2 ha] at hcq
              cases hcq
            · rcases List.mem_append.1 hx with h | h
              · exact Hq.out.2.2 x h
              · simp at h; subst h; exact hyy
          have Huc := hide huc
          have Hq2 := hide hq2
          clear huc hq2 hcq
          go_wp2_with fail
          refine Huc.out.mono ?_
          rintro e w3 ⟨rfl, rfl⟩
          go_wp2_with (at_builtin; go_must (refine own_append (w0 := w0) (W := wr) (te := 3) rfl _ _ 23 rfl 3 (.int .i64 0) 1 8 Try.underlying23 int_info rfl Nat.one_pos (.slice Aq j kq) j (ints q) rfl hL0v hownv [.int .i64 y] rfl rfl ?_ hq6 (by omega) ?_; (simp [Value.oneCell']); intro v' w4 hap; have hown4 := hap.own; have hL4 := hap.later; clear hap))
          go_roundw
          case rel =>
            refine ⟨j + 1, q ++ [y], by omega, by go_num, ?_, Hq2, hL4⟩
            rw [show ints (q ++ [y]) = ints q ++ [Value.int .i64 y] by simp [ints]]; exact hown4
          case measure => simp [intOf]; omega
    · have hj1 : j = n1 := by omega
      subst hj1
      obtain ⟨A, k, rfl, hrd⟩ := own_slice hown
      have hcp := own_cap hown
      have hpl : IsPl c q := ⟨by rw [Hq.out.1, Hn1.out], Hq.out.2.2, Hq.out.2.1⟩
      have Hpl := hide hpl
      clear hpl
      go_wp2_with fail
      go_ret
      rw [PlacedP, ← Hn1.out]
      exact ⟨A, k, q, rfl, Later.trans hL0 hL, hrd, hcp, Hpl.out⟩
end Go.Proofs.Ytjilckjhdlabaaa

/- Helpers of the laws: good, sooner: walks. -/
namespace Go.Proofs.Ytjilckjhdlabaaa
open Go Go.RowKit
attribute [local go_sem] later_alloc2 later_alloc3 later_alloc4

/-- the good minutes of a horse, 1 to 0 if there are none -/
def goodL (c : Clo) (p : List Int) (i : Nat) : Int × Int := if (goodP c (truthsP c) p i).2 < (goodP c (truthsP c) p i).1 then (1, 0) else goodP c (truthsP c) p i
theorem askedErr_fine {c : Clo} {b : Bool} (h : askedErr c true = 0) (hb : b = true) : askedErr c b = 0 := by rw [hb]; exact h
theorem goodP_range {c : Clo} (h : askedErr c true = 0) {p : List Int} (hpl : IsPl c p) {i : Nat} (hi : i < c.horses.length) : 1 ≤ (goodP c (truthsP c) p i).1 ∧ (goodP c (truthsP c) p i).2 ≤ c.close := by
  obtain ⟨hf, _, hne⟩ := askedErr_zero h
  have ok := okC_of_fault hf
  exact ⟨bP_nonneg ok.toOkH (truthsP_isDry ok.toOkH) hne hpl hi, by unfold goodP; dsimp only; omega⟩
theorem goodOut_of {c : Clo} (h : askedErr c true = 0) {p : List Int} (hpl : IsPl c p) {i : Nat} (hi : i < c.horses.length) :
    ((goodL c p i) = (1, 0) ∧ goodOut c p i = (0, 0, 10)) ∨ (∃ lo hi, goodL c p i = (lo, hi) ∧ goodOut c p i = (lo, hi, 0) ∧ 1 ≤ lo ∧ lo ≤ hi ∧ hi ≤ c.close) := by
  obtain ⟨hf, _, hne⟩ := askedErr_zero h
  have ok := okC_of_fault hf
  have hb : isPlaceB c p = true := (isPlaceB_iff ok.cl1 ok.cl4 p).2 hpl
  have hh : isHorse c i = true := by unfold isHorse inB; simp; omega
  have ha : askedErr c (isPlaceB c p && isHorse c i) = 0 := askedErr_fine h (by rw [hb, hh]; rfl)
  have hr := goodP_range h hpl hi
  unfold goodOut goodL
  rw [if_neg (show ¬ (askedErr c (isPlaceB c p && isHorse c i) ≠ 0) by simp [ha]), Int.toNat_natCast]
  by_cases hlt : (goodP c (truthsP c) p i).2 < (goodP c (truthsP c) p i).1
  · left; rw [if_pos hlt, if_pos hlt]; exact ⟨rfl, rfl⟩
  · right; rw [if_neg hlt, if_neg hlt]; exact ⟨(goodP c (truthsP c) p i).1, (goodP c (truthsP c) p i).2, rfl, rfl, hr.1, by omega, hr.2⟩
set_option maxRecDepth 100000 in
set_option maxHeartbeats 2000000 in
theorem lawGood_calls {A1 A2 A3 : Option Addr} {n1 k1 n2 k2 n3 k3 : Nat} {c : Clo} {Ap : Option Addr} {np kp : Nat} {p : List Int} {i : Nat} (w : World) (hc : CV w c A1 n1 A2 n2 A3 n3) (hcl : i64 c.closets) (h : askedErr c true = 0) (hp : RI w Ap np p) (hpl : IsPl c p) (hi : i < c.horses.length) :
    Calls Try.prog 45 #[(.agg #[.int .i64 c.closets, .int .i64 c.close, .slice A1 n1 k1, .slice A2 n2 k2, .slice A3 n3 k3]), .slice Ap np kp, .int .i64 i] w fun e w' => e = .returned (.tuple #[.agg #[.int .i64 (goodL c p i).1, .int .i64 (goodL c p i).2], .bool true]) ∧ Later w w' := by
  have ok := okC_of_fault (askedErr_zero h).1
  have hn1 := hc.hs.len
  have hn2 := hc.hu.len
  have hn3 := hc.lk.len
  have hnp := hp.len
  have l1 : n1 ≤ 4 := by have := ok.len; omega
  have l2 : n2 ≤ 4 := by have := ok.len; have := ok.hung.len; omega
  have l3 : n3 ≤ 5 := by have := ok.nlooks; omega
  have l4 : np ≤ 4 := by have := hpl.len; omega
  have hout := goodOut_of h hpl hi
  clear hn1 hn2 hn3 hnp
  obtain ⟨w0, hw0⟩ : ∃ W, W = (w.alloc (.cells #[.int .i64 c.closets, .int .i64 c.close, .slice A1 n1 k1, .slice A2 n2 k2, .slice A3 n3 k3] 26)) := ⟨_, rfl⟩; have hbox : ∀ W, Later w0 W → ∀ i, W.cell? ⟨w.heap.size, i, none⟩ = #[.int .i64 c.closets, .int .i64 c.close, .slice A1 n1 k1, .slice A2 n2 k2, .slice A3 n3 k3][i]? := (by rw [hw0]; exact box_cells w #[.int .i64 c.closets, .int .i64 c.close, .slice A1 n1 k1, .slice A2 n2 k2, .slice A3 n3 k3] 26); have hL0 : Later w w0 := (by rw [hw0]; simp); have hc0 := hc.later hL0; have Hw0 := hide hw0; clear hw0
  obtain ⟨wB, hwB⟩ : ∃ W, W = w0.alloc (.cells #[.int .i64 0, .int .i64 0] 61) := ⟨_, rfl⟩
  have hs0 : w0.heap.size = w.heap.size + 1 := by rw [Hw0.out]; simp
  have hLB : Later w0 wB := by rw [hwB]; simp
  have hBr : Blk wB (w.heap.size + 1) 61 #[.int .i64 0, .int .i64 0] := by rw [hwB, ← hs0]; exact Blk.new _ _ _
  have hgp := fun (B1 B2 B3 : Option Addr) (j1 j2 j3 : Nat) (W : World) (h : CV W c B1 n1 B2 n2 B3 n3) (h2 : n2 ≤ j2) (Aq : Option Addr) (kq : Nat) (hq : RI W Aq np p) (hk : np ≤ kq) =>
    GoodP_calls (k1 := j1) (k2 := j2) (k3 := j3) (kp := kq) (h := (i : Int)) W h hcl (by omega) (by omega) (by omega) h2 hq hk (by omega)
  obtain ⟨⟨g1, g2⟩, hg⟩ : ∃ q, goodL c p i = q := ⟨_, rfl⟩
  obtain ⟨⟨r1, r2, r3⟩, hr⟩ : ∃ q, goodOut c p i = q := ⟨_, rfl⟩
  rw [hg, hr] at hout
  rw [hr] at hgp
  rw [hg]
  have hp0 := hp.later hL0
  have Hgp := hide hgp
  have Hout := hide hout
  have HwB := hide hwB
  have Hs0 := hide hs0
  have HBr := hide hBr
  clear hgp hout hwB hs0 hg hr hBr
  go_enter Try.func45, Try.ntmps45
  go_wp2_with fail
  rw [← Hw0.out, ← HwB.out]
  clear Hw0 HwB
  refine (lawCloset_calls (k1 := k1) (k2 := k2) (k3 := k3) wB (hc0.later hLB) (by omega) (by omega) (by omega)).mono ?_
  rintro e w2 ⟨B1, j1, B2, j2, B3, j3, rfl, hL2, hc2, hj1, hj2, hj3⟩
  go_wp2_with fail
  refine (list_calls _ (hp0.later (Later.trans hLB hL2)) (by omega)).mono ?_
  rintro e w3 ⟨Aq, nq, kq, rfl, hL3, hrq, hkq, _⟩
  have hnq := hrq.len
  rw [← hp0.len] at hnq
  subst hnq
  go_wp2_with fail
  refine (Hgp.out _ _ _ _ _ _ w3 (hc2.later hL3) hj2 _ _ hrq hkq).mono ?_
  rintro e w4 ⟨rfl, hL4⟩
  have hLB4 := Later.trans hL2 (Later.trans hL3 hL4)
  have hL04 := Later.trans hLB hLB4
  have hb4 := HBr.out.later hLB4
  have hx0 := hb4.cell 0
  have hx1 := hb4.cell 1
  have hf0 := hb4.frozen 0
  have hf1 := hb4.frozen 1
  have hsz := hb4.lt
  simp only [List.getElem?_toArray, List.getElem?_cons_zero, List.getElem?_cons_succ] at hx0 hx1
  have hlw : Later w w4 := Later.trans hL0 hL04
  clear hb4 hc2 hrq hL2 hL3 hL4
  rcases Hout.out with ⟨e1, e2⟩ | ⟨lo, hh, e1, e2, b1, b2, b3⟩
  · injection e1 with e1 e3
    injection e2 with e2 e4
    injection e4 with e4 e5
    subst e1 e2 e3 e4 e5
    go_wp2_with fail
    refine (between_calls 1 0 _).mono ?_
    rintro e w5 ⟨rfl, hL5⟩
    have hL45 : Later w4 w5 := Later.trans (by simp) hL5
    have hb5 := HBr.out.later (Later.trans hLB4 hL45)
    have hx0 := hb5.cell 0
    have hx1 := hb5.cell 1
    have hf0 := hb5.frozen 0
    have hf1 := hb5.frozen 1
    have hsz := hb5.lt
    simp only [List.getElem?_toArray, List.getElem?_cons_zero, List.getElem?_cons_succ] at hx0 hx1
    have hlw5 := Later.trans hlw hL45
    clear hb5 hL5 HBr
    go_wp2_with fail
    refine bodyPost_ret (v := .tuple #[.agg #[.int .i64 1, .int .i64 0], .bool true]) ?_ rfl ⟨rfl, ?_⟩
    · simp [results, Try.results45, go_sem, *]
    · simp [*]
  · injection e1 with e1 e3
    injection e2 with e2 e4
    injection e4 with e4 e5
    subst e1 e2 e3 e4 e5
    have h0 : 0 ≤ r1 := by omega
    obtain ⟨w5, hw5⟩ : ∃ W, W = w4.alloc (.cells #[.int .i64 r1, .int .i64 r2] 61) := ⟨_, rfl⟩
    have hL45 : Later w4 w5 := by rw [hw5]; simp
    have hbn : Blk w5 w4.heap.size 61 #[.int .i64 r1, .int .i64 r2] := by rw [hw5]; exact Blk.new _ _ _
    have hk := hbn.cells_later
    have hb5 := HBr.out.later (Later.trans hLB4 hL45)
    have hS0 : Later w w5 ∧ w5.cell? ⟨w4.heap.size, 0, none⟩ = some (.int .i64 r1) ∧ w5.cell? ⟨w4.heap.size, 1, none⟩ = some (.int .i64 r2) ∧ w5.cell? ⟨w.heap.size, 1, none⟩ = some (.int .i64 c.close) :=
      ⟨Later.trans hlw hL45, hk w5 (later_refl _) 0, hk w5 (later_refl _) 1, hbox w5 (Later.trans hL04 hL45) 1⟩
    have hne1 : w4.heap.size ≠ w.heap.size + 1 := by omega
    have hne2 : w.heap.size + 1 ≠ w4.heap.size := by omega
    have hr0 := hb5.cell 0
    have hr1 := hb5.cell 1
    have hf0 := hb5.frozen 0
    have hf1 := hb5.frozen 1
    have hsz := hb5.lt
    simp only [List.getElem?_toArray, List.getElem?_cons_zero, List.getElem?_cons_succ] at hr0 hr1
    obtain ⟨hlw5, hs1, hs2, hs3⟩ := hS0
    have Hw5 := hide hw5
    have Hb5 := hide hb5
    clear hw5 hk hb5 hbn hx0 hx1 hbox HBr
    go_wp2_with fail
    rw [← Hw5.out]
    go_region_held3 (fun X => Later w X ∧ X.cell? ⟨w4.heap.size, 0, none⟩ = some (.int .i64 r1) ∧ X.cell? ⟨w4.heap.size, 1, none⟩ = some (.int .i64 r2) ∧ X.cell? ⟨w.heap.size, 1, none⟩ = some (.int .i64 c.close))
      ((refine ⟨?_, ?_, ?_, ?_⟩ <;> (first | assumption | ((repeat (first | assumption | refine later_drew ?_ | refine later_set ?_ _ (Nat.le_add_right _ _) _)); done) | (go_keep; done) | (rw [World.cell?_drew, World.cell?_setCell_other _ _ _ _ (by simp [*]), World.cell?_setCell_other _ _ _ _ (by simp [*])]; assumption) | (simp only [World.cell?_drew]; rw [World.cell?_setCell_other _ _ _ _ (by simp [*]), World.cell?_setCell_other _ _ _ _ (by simp [*])]; assumption))))
      (fail)
    go_wp2_with fail
    refine bodyPost_ret (v := .tuple #[.agg #[.int .i64 r1, .int .i64 r2], .bool true]) ?_ rfl ⟨rfl, ?_⟩
    · simp [results, Try.results45, go_sem, *]
    · simp [*]
end Go.Proofs.Ytjilckjhdlabaaa

/- Helpers of the laws: sooner, kept, inside, in, mirrored: walks. -/
namespace Go.Proofs.Ytjilckjhdlabaaa
open Go Go.RowKit
attribute [local go_sem] later_alloc2 later_alloc3 later_alloc4

/-- the best placement of x is done no later than that of c -/
def SoonerP (c x : Clo) : Prop := ((bestOut c).2.2 = 10 ∧ ((bestOut x).2.2 = 0 ∨ (bestOut x).2.2 = 10)) ∨ ((bestOut c).2.2 = 0 ∧ (bestOut x).2.2 = 0 ∧ (bestOut x).2.1 ≤ (bestOut c).2.1)
set_option maxRecDepth 100000 in
set_option maxHeartbeats 2000000 in
theorem sooner_calls {A1 A2 A3 : Option Addr} {n1 k1 n2 k2 n3 k3 : Nat} {c : Clo} {D1 D2 D3 : Option Addr} {m1 i1 m2 i2 m3 i3 : Nat} {x : Clo} (w : World) (hc : CV w c A1 n1 A2 n2 A3 n3) (hcl : i64 c.closets) (hx : CV w x D1 m1 D2 m2 D3 m3) (hxl : i64 x.closets)
    (l1 : n1 ≤ 100) (l2 : n2 ≤ 100) (l3 : n3 ≤ 100) (l4 : m1 ≤ 100) (l5 : m2 ≤ 100) (l6 : m3 ≤ 100) (law : SoonerP c x) :
    Calls Try.prog 51 #[(.agg #[.int .i64 c.closets, .int .i64 c.close, .slice A1 n1 k1, .slice A2 n2 k2, .slice A3 n3 k3]), .agg #[.int .i64 x.closets, .int .i64 x.close, .slice D1 m1 i1, .slice D2 m2 i2, .slice D3 m3 i3]] w fun e w' => e = .returned (.bool true) ∧ Later w w' := by
  obtain ⟨w0, hw0⟩ : ∃ W, W = (w.alloc (.cells #[.int .i64 c.closets, .int .i64 c.close, .slice A1 n1 k1, .slice A2 n2 k2, .slice A3 n3 k3] 26)) := ⟨_, rfl⟩
  have hL0 : Later w w0 := by rw [hw0]; simp
  obtain ⟨wx, hwx⟩ : ∃ W, W = w0.alloc (.cells #[.int .i64 x.closets, .int .i64 x.close, .slice D1 m1 i1, .slice D2 m2 i2, .slice D3 m3 i3] 26) := ⟨_, rfl⟩
  have hLx : Later w0 wx := by rw [hwx]; simp
  have hs0 : w0.heap.size = w.heap.size + 1 := by rw [hw0]; simp
  have hbox : ∀ W, Later wx W → ∀ i, W.cell? ⟨w.heap.size, i, none⟩ = #[.int .i64 c.closets, .int .i64 c.close, .slice A1 n1 k1, .slice A2 n2 k2, .slice A3 n3 k3][i]? := fun W hW => by
    have := box_cells w #[.int .i64 c.closets, .int .i64 c.close, .slice A1 n1 k1, .slice A2 n2 k2, .slice A3 n3 k3] 26 W (by rw [← hw0]; exact Later.trans hLx hW)
    exact this
  have hboy : ∀ W, Later wx W → ∀ i, W.cell? ⟨w.heap.size + 1, i, none⟩ = #[.int .i64 x.closets, .int .i64 x.close, .slice D1 m1 i1, .slice D2 m2 i2, .slice D3 m3 i3][i]? := fun W hW => by
    have := box_cells w0 #[.int .i64 x.closets, .int .i64 x.close, .slice D1 m1 i1, .slice D2 m2 i2, .slice D3 m3 i3] 26 W (by rw [← hwx]; exact hW)
    rw [hs0] at this
    exact this
  have hlx := Later.trans hL0 hLx
  have hcx := hc.later hlx
  have hxx := hx.later hlx
  have hbc := fun (B1 B2 B3 : Option Addr) (j1 j2 j3 : Nat) (W : World) (h : CV W c B1 n1 B2 n2 B3 n3) (h2 : n2 ≤ j2) =>
    BestP_calls (k1 := j1) (k2 := j2) (k3 := j3) W h hcl (by omega) (by omega) (by omega) h2
  have hbx := fun (B1 B2 B3 : Option Addr) (j1 j2 j3 : Nat) (W : World) (h : CV W x B1 m1 B2 m2 B3 m3) (h2 : m2 ≤ j2) =>
    BestP_calls (k1 := j1) (k2 := j2) (k3 := j3) W h hxl (by omega) (by omega) (by omega) h2
  unfold BestPost at hbc hbx
  unfold SoonerP at law
  obtain ⟨⟨s1, s2, s3⟩, hs⟩ : ∃ q, bestOut c = q := ⟨_, rfl⟩
  obtain ⟨⟨t1, t2, t3⟩, ht⟩ : ∃ q, bestOut x = q := ⟨_, rfl⟩
  rw [hs] at hbc law
  rw [ht] at hbx law
  dsimp only at law
  have Hbc := hide hbc
  have Hbx := hide hbx
  have Hlaw := hide law
  have Hw0 := hide hw0
  have Hwx := hide hwx
  clear hbc hbx law hs ht hw0 hwx hs0
  go_enter Try.func51, Try.ntmps51
  go_wp2_with fail
  rw [← Hw0.out, ← Hwx.out]
  clear Hw0 Hwx
  refine (lawCloset_calls (k1 := k1) (k2 := k2) (k3 := k3) wx hcx (by omega) (by omega) (by omega)).mono ?_
  rintro e w2 ⟨B1, j1, B2, j2, B3, j3, rfl, hL2, hc2, hj1, hj2, hj3⟩
  go_wp2_with fail
  refine (Hbc.out _ _ _ _ _ _ w2 hc2 hj2).mono ?_
  rintro e w3 ⟨Aa, na, ka, rfl, hL3, _, _⟩
  have hL03 := Later.trans hL2 hL3
  clear hc2 hL2 hL3
  go_wp2_with fail
  refine (lawCloset_calls (k1 := i1) (k2 := i2) (k3 := i3) w3 (hxx.later hL03) (by omega) (by omega) (by omega)).mono ?_
  rintro e w4 ⟨E1, q1, E2, q2, E3, q3, rfl, hL4, hx4, hq1, hq2, hq3⟩
  go_wp2_with fail
  refine (Hbx.out _ _ _ _ _ _ w4 hx4 hq2).mono ?_
  rintro e w5 ⟨Ab, nb, kb, rfl, hL5, _, _⟩
  have hL05 := Later.trans hL03 (Later.trans hL4 hL5)
  clear hx4 hL4 hL5
  rcases Hlaw.out with ⟨rfl, rfl | rfl⟩ | ⟨rfl, rfl, hle⟩
  · go_wp2_with fail
    go_ret
    exact ⟨rfl, Later.trans hlx hL05⟩
  · go_wp2_with fail
    go_ret
    exact ⟨rfl, Later.trans hlx hL05⟩
  · go_wp2_with fail
    go_ret
    exact ⟨rfl, Later.trans hlx hL05⟩

/-- all good minutes stay good -/
def KeptP (c x : Clo) (p : List Int) : Prop := ∀ i, i < c.horses.length → (goodL c p i).1 ≤ (goodL c p i).2 → (goodL x p i).1 ≤ (goodL c p i).1 ∧ (goodL c p i).2 ≤ (goodL x p i).2
set_option maxRecDepth 100000 in
set_option maxHeartbeats 2000000 in
theorem kept_calls {A1 A2 A3 : Option Addr} {n1 k1 n2 k2 n3 k3 : Nat} {c : Clo} {D1 D2 D3 : Option Addr} {m1 i1 m2 i2 m3 i3 : Nat} {x : Clo} {Ap : Option Addr} {np kp : Nat} {p : List Int} (w : World) (hc : CV w c A1 n1 A2 n2 A3 n3) (hcl : i64 c.closets) (hx : CV w x D1 m1 D2 m2 D3 m3) (hxl : i64 x.closets)
    (ec : askedErr c true = 0) (ex : askedErr x true = 0) (hp : RI w Ap np p) (hpc : IsPl c p) (hpx : IsPl x p) (law : KeptP c x p) :
    Calls Try.prog 50 #[(.agg #[.int .i64 c.closets, .int .i64 c.close, .slice A1 n1 k1, .slice A2 n2 k2, .slice A3 n3 k3]), .agg #[.int .i64 x.closets, .int .i64 x.close, .slice D1 m1 i1, .slice D2 m2 i2, .slice D3 m3 i3], .slice Ap np kp] w fun e w' => e = .returned (.bool true) ∧ Later w w' := by
  have hn1 := hc.hs.len
  have hlen : x.horses.length = c.horses.length := by rw [← hpc.len, ← hpx.len]
  have hl4 := (okC_of_fault (askedErr_zero ec).1).len
  have hn4 : n1 ≤ 4 := by omega
  obtain ⟨w0, hw0⟩ : ∃ W, W = (w.alloc (.cells #[.int .i64 c.closets, .int .i64 c.close, .slice A1 n1 k1, .slice A2 n2 k2, .slice A3 n3 k3] 26)) := ⟨_, rfl⟩
  have hL0 : Later w w0 := by rw [hw0]; simp
  obtain ⟨wx, hwx⟩ : ∃ W, W = w0.alloc (.cells #[.int .i64 x.closets, .int .i64 x.close, .slice D1 m1 i1, .slice D2 m2 i2, .slice D3 m3 i3] 26) := ⟨_, rfl⟩
  have hLx : Later w0 wx := by rw [hwx]; simp
  have hs0 : w0.heap.size = w.heap.size + 1 := by rw [hw0]; simp
  have hbox : ∀ W, Later wx W → ∀ i, W.cell? ⟨w.heap.size, i, none⟩ = #[.int .i64 c.closets, .int .i64 c.close, .slice A1 n1 k1, .slice A2 n2 k2, .slice A3 n3 k3][i]? := fun W hW => by
    have := box_cells w #[.int .i64 c.closets, .int .i64 c.close, .slice A1 n1 k1, .slice A2 n2 k2, .slice A3 n3 k3] 26 W (by rw [← hw0]; exact Later.trans hLx hW)
    exact this
  have hboy : ∀ W, Later wx W → ∀ i, W.cell? ⟨w.heap.size + 1, i, none⟩ = #[.int .i64 x.closets, .int .i64 x.close, .slice D1 m1 i1, .slice D2 m2 i2, .slice D3 m3 i3][i]? := fun W hW => by
    have := box_cells w0 #[.int .i64 x.closets, .int .i64 x.close, .slice D1 m1 i1, .slice D2 m2 i2, .slice D3 m3 i3] 26 W (by rw [← hwx]; exact hW)
    rw [hs0] at this
    exact this
  have hlx := Later.trans hL0 hLx
  have hcx := hc.later hlx
  have hxx := hx.later hlx
  have hpp := hp.later hlx
  have Hlaw := hide law
  have Hn1 := hide hn1
  have Hlen := hide hlen
  have Hec := hide ec
  have Hex := hide ex
  have Hw0 := hide hw0
  have Hwx := hide hwx
  clear law hn1 hlen ec ex hw0 hwx hs0
  go_enter Try.func50, Try.ntmps50
  go_wp2_with fail
  rw [← Hw0.out, ← Hwx.out]
  clear Hw0 Hwx
  go_loopw [7] (fun i wr => ∃ j : Nat, j ≤ n1 ∧ i = .int .i64 j ∧ Later wx wr) (fun i _ => n1 - (intOf i).toNat)
  case atStart => exact ⟨0, Nat.zero_le _, rfl, later_refl _⟩
  case round =>
    obtain ⟨j, hj, rfl, hL⟩ := hrel
    by_cases hlt : j < n1
    · have hi1 : (j : Int) < n1 := by omega
      have hgc := lawGood_calls (k1 := k1) (k2 := k2) (k3 := k3) (kp := kp) (i := j) wr (hcx.later hL) hcl Hec.out (hpp.later hL) hpc (by have := Hn1.out; omega)
      have hgx := fun (W : World) (h : Later wx W) => lawGood_calls (k1 := i1) (k2 := i2) (k3 := i3) (kp := kp) (i := j) W (hxx.later h) hxl Hex.out (hpp.later h) hpx (by have := Hn1.out; have := Hlen.out; omega)
      have hk := Hlaw.out j (by have := Hn1.out; omega)
      obtain ⟨⟨a1, a2⟩, ha⟩ : ∃ q, goodL c p j = q := ⟨_, rfl⟩
      obtain ⟨⟨b1, b2⟩, hb⟩ : ∃ q, goodL x p j = q := ⟨_, rfl⟩
      rw [ha] at hgc hk
      rw [hb] at hgx hk
      dsimp only at hgc hgx hk
      have Hgc := hide hgc
      have Hgx := hide hgx
      clear hgc hgx ha hb
      by_cases hle : a1 ≤ a2
      · obtain ⟨hk1, hk2⟩ := hk hle
        have hk3 : ¬ a1 < b1 := by omega
        have hk4 : ¬ b2 < a2 := by omega
        go_wp2_with fail
        refine Hgc.out.mono ?_
        rintro e w3 ⟨rfl, hL3⟩
        have hL03 := Later.trans hL hL3
        have hbn := box_cells w3 #[.int .i64 a1, .int .i64 a2] 61
        have hLa : Later wx (w3.alloc (.cells #[.int .i64 a1, .int .i64 a2] 61)) := later_alloc hL03 _
        go_wp2_with fail
        refine (Hgx.out _ hLa).mono ?_
        rintro e w4 ⟨rfl, hL4⟩
        have hL04 := Later.trans hLa hL4
        have hx0 := hbn w4 hL4 0
        have hx1 := hbn w4 hL4 1
        have hsz := hL4.size
        simp only [List.getElem?_toArray, List.getElem?_cons_zero, List.getElem?_cons_succ, World.size_alloc] at hx0 hx1 hsz
        have hsz2 : w3.heap.size < w4.heap.size := by omega
        have hne : w3.heap.size ≠ w4.heap.size := by omega
        clear hbn
        go_wp2_with fail
        go_roundw
        case rel => exact ⟨j + 1, hlt, by go_num, later_alloc hL04 _⟩
        case measure => simp [intOf]; omega
      · have hle2 : a2 < a1 := by omega
        clear hk
        go_wp2_with fail
        refine Hgc.out.mono ?_
        rintro e w3 ⟨rfl, hL3⟩
        have hL03 := Later.trans hL hL3
        have hbn := box_cells w3 #[.int .i64 a1, .int .i64 a2] 61
        have hLa : Later wx (w3.alloc (.cells #[.int .i64 a1, .int .i64 a2] 61)) := later_alloc hL03 _
        go_wp2_with fail
        refine (Hgx.out _ hLa).mono ?_
        rintro e w4 ⟨rfl, hL4⟩
        have hL04 := Later.trans hLa hL4
        have hx0 := hbn w4 hL4 0
        have hx1 := hbn w4 hL4 1
        have hsz := hL4.size
        simp only [List.getElem?_toArray, List.getElem?_cons_zero, List.getElem?_cons_succ, World.size_alloc] at hx0 hx1 hsz
        have hsz2 : w3.heap.size < w4.heap.size := by omega
        have hne : w3.heap.size ≠ w4.heap.size := by omega
        clear hbn
        go_wp2_with fail
        go_roundw
        case rel => exact ⟨j + 1, hlt, by go_num, later_alloc hL04 _⟩
        case measure => simp [intOf]; omega
    · have hj1 : j = n1 := by omega
      subst hj1
      go_wp2_with fail
      go_ret
      exact ⟨rfl, Later.trans hlx hL⟩
end Go.Proofs.Ytjilckjhdlabaaa
