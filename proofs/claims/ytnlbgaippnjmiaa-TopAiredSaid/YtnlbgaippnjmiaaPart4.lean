/- Part 4 of the proof: joined from the texts CloL, CloM, CloN, App, CloO, CloP, CloQ, CloR, CloS, Good, BestP, CloT, CloU, AskD, CloV, CloW, CloX, CloY, RefD, Bits, RefE. -/
import Derived.Test.YtnlbgaippnjmiaaPart3
import Derived.Test.YtnlbgaippnjmiaaPart2
import Derived.Test.YtnlbgaippnjmiaaPart1
import Derived.Laws.CopyOwn
import Derived.Maps.OwnSet
import Derived.Maps.Views
import Derived.DeepKeys4
import Derived.WalkMore
import Derived.Laws.BitsAllLaws
import Derived.Laws.BitsLemmas
import Derived.RowKit
set_option linter.unusedSimpArgs false
set_option linter.unusedVariables false
/- The program's Good: walk. -/
namespace Go.Proofs.Ytnlbgaippnjmiaa
open Go Go.RowKit

theorem horse_eq {A1 A2 A3 : Option Addr} {n1 k1 n2 k2 n3 k3 : Nat} {c : Clo} {n : Int} {b : Bool} (w : World) (hn : n1 ≤ 1000000) (hb : inB n 0 ((n1 : Int) - 1) = b) : Calls Try.prog 27 #[(.agg #[.int .i64 c.closets, .int .i64 c.close, .slice A1 n1 k1, .slice A2 n2 k2, .slice A3 n3 k3]), .int .i64 n] w fun e w' => e = .returned (.bool b) ∧ Later w w' := by
  subst hb; exact horse_calls w hn
def isHorse (c : Clo) (h : Int) : Bool := inB h 0 ((c.horses.length : Int) - 1)
theorem isHorse_nat {c : Clo} {h : Int} (hh : isHorse c h = true) : ∃ k : Nat, h = k ∧ k < c.horses.length := by
  simp only [isHorse, inB, Bool.and_eq_true, decide_eq_true_eq] at hh
  exact ⟨h.toNat, by omega, by omega⟩
/-- what Good returns -/
def goodOut (c : Clo) (p : List Int) (h : Int) : Int × Int × Int :=
  if askedErr c (isPlaceB c p && isHorse c h) ≠ 0 then (0, 0, askedErr c (isPlaceB c p && isHorse c h))
  else if (goodP c (truthsP c) p h.toNat).2 < (goodP c (truthsP c) p h.toNat).1 then (0, 0, 10) else ((goodP c (truthsP c) p h.toNat).1, (goodP c (truthsP c) p h.toNat).2, 0)

set_option maxRecDepth 100000 in
set_option maxHeartbeats 1000000 in
theorem GoodP_calls {A1 A2 A3 : Option Addr} {n1 k1 n2 k2 n3 k3 : Nat} {c : Clo} {Ap : Option Addr} {np kp : Nat} {p : List Int} {h : Int} (w : World) (hc : CV w c A1 n1 A2 n2 A3 n3) (hcl : i64 c.closets) (hn1 : n1 ≤ 1000) (hn2 : n2 ≤ 1000) (hn3 : n3 ≤ 1000) (hk2 : n2 ≤ k2)
    (hp : RI w Ap np p) (hcap : np ≤ kp) (hnp : np ≤ 1000000) :
    Calls Try.prog 12 #[(.agg #[.int .i64 c.closets, .int .i64 c.close, .slice A1 n1 k1, .slice A2 n2 k2, .slice A3 n3 k3]), .slice Ap np kp, .int .i64 h] w fun e w' => e = .returned (.tuple #[.agg #[.int .i64 (goodOut c p h).1, .int .i64 (goodOut c p h).2.1], .int .i64 (goodOut c p h).2.2]) ∧ Later w w' := by
  obtain ⟨w0, hw0⟩ : ∃ W, W = (w.alloc (.cells #[.int .i64 c.closets, .int .i64 c.close, .slice A1 n1 k1, .slice A2 n2 k2, .slice A3 n3 k3] 45)).alloc (.cells #[.int .i64 0, .int .i64 0] 57) := ⟨_, rfl⟩
  have hbox : ∀ W, Later w0 W → ∀ i, W.cell? ⟨w.heap.size, i, none⟩ = #[.int .i64 c.closets, .int .i64 c.close, .slice A1 n1 k1, .slice A2 n2 k2, .slice A3 n3 k3][i]? := by
    rw [hw0]; exact fun W hW => box_cells w #[.int .i64 c.closets, .int .i64 c.close, .slice A1 n1 k1, .slice A2 n2 k2, .slice A3 n3 k3] 45 W (later_of_alloc hW)
  have hL0 : Later w w0 := by rw [hw0]; simp
  have hsz0 : w0.heap.size = w.heap.size + 2 := by rw [hw0]; simp
  have hbr : Blk w0 (w.heap.size + 1) 57 #[.int .i64 0, .int .i64 0] := by
    rw [hw0]
    have := Blk.new (w.alloc (.cells #[.int .i64 c.closets, .int .i64 c.close, .slice A1 n1 k1, .slice A2 n2 k2, .slice A3 n3 k3] 45)) 57 #[.int .i64 0, .int .i64 0]
    rw [World.size_alloc] at this; exact this
  have hc0 := hc.later hL0
  have Hw0 := hide hw0
  clear hw0
  have hT : ∀ e : Ext w0, Later w0 e.W := fun e => e.h
  have hp0 := hp.later hL0
  have hnl := hc.hs.len
  obtain ⟨b, hb⟩ : ∃ b, isPlaceB c p = b := ⟨_, rfl⟩
  obtain ⟨bh, hbh⟩ : ∃ b, isHorse c h = b := ⟨_, rfl⟩
  have Hhe : Hid (inB h 0 ((n1 : Int) - 1) = bh) := by rw [hnl]; exact hbh
  have Hgo : Hid (goodOut c p h = if askedErr c (b && bh) ≠ 0 then (0, 0, askedErr c (b && bh)) else if (goodP c (truthsP c) p h.toNat).2 < (goodP c (truthsP c) p h.toNat).1 then (0, 0, 10) else ((goodP c (truthsP c) p h.toNat).1, (goodP c (truthsP c) p h.toNat).2, 0)) := by rw [← hb, ← hbh]; rfl
  have Hbh := hide hbh
  have Hhb := hide hb
  have Hnl := hide hnl
  have Hsz0 := hide hsz0
  clear hb hbh hnl hsz0
  by_cases he : askedErr c (b && bh) = 0
  · obtain ⟨hf, hb2, htn⟩ := askedErr_zero he
    have ok := okC_of_fault hf
    rw [if_neg (by simp [he])] at Hgo
    rw [Bool.and_eq_true] at hb2
    obtain ⟨rfl, rfl⟩ := hb2
    have hpl := isPlaceB_isPl hf Hhb.out
    have htl := truthsP_len hf
    have hdry := truthsP_isDry ok.toOkH
    have hS0 : Later w0 w0.drew := later_drew (later_refl _)
    obtain ⟨k, rfl, hk⟩ := isHorse_nat Hbh.out
    rw [Int.toNat_natCast] at Hgo
    obtain ⟨⟨g1, g2⟩, hg⟩ : ∃ q, goodP c (truthsP c) p k = q := ⟨_, rfl⟩
    rw [hg] at Hgo
    have Hg := hide hg
    have Hf := hide hf
    have He := hide he
    clear hg hf he
    go_enter Try.func12, Try.ntmps12
    go_wp2_with fail
    rw [← Hw0.out]; clear Hw0
    go_region_held3 (fun W => Later w0 W) ((((repeat (first | assumption | refine later_drew ?_ | refine later_alloc ?_ _ | refine later_set ?_ _ (Nat.le_add_right _ _) _ | refine later_set ?_ _ (Nat.le_refl _) _)); done)))
      (first
        | (go_at_call 17; go_must (refine (asked_ok w2 (hc0.later hL2) hcl hn1 hn2 hn3 hk2 He.out).mono ?_; rintro e w3 ⟨bw, bm, At, kt, rfl, hL, hWK, hbm⟩; have hL3 := Later.trans hL2 hL))
        | (go_at_call 27; go_must (refine (horse_eq w1 (by omega) Hhe.out).mono ?_; rintro e w2 ⟨rfl, hL⟩; have hL2 := Later.trans hL1 hL))
        | (go_at_call 26; go_must (refine (isPlace_eq Hhb.out _ (hc0.later hS0) (hp0.later hS0) hcap hnp (by omega)).mono ?_; rintro e w1 ⟨rfl, hL⟩; have hL1 := Later.trans hS0 hL)))
    have hrb := hbr.later hL3
    have hx0 := hrb.cell 0
    have hx1 := hrb.cell 1
    have hxf0 := hrb.frozen 0
    have hxf1 := hrb.frozen 1
    simp only [List.getElem?_toArray, List.getElem?_cons_zero, List.getElem?_cons_succ] at hx0 hx1
    have Hrb := hide hrb
    clear hrb
    have hL3s := hL3.size
    have hgc := good_calls (kp := kp) w3 hWK ok.toOkH (hp0.later hL3) hpl hdry (by omega) (by rw [Hnl.out]; exact hk) Hg.out
    have Hgc := hide hgc
    clear hgc
    cases hnone : decide (g2 < g1) with
    | true =>
      rw [if_pos (by simpa using hnone)] at Hgo
      go_wp2_with fail
      refine Hgc.out.mono ?_
      rintro e w4 ⟨rfl, hL4⟩
      have hL5 := Later.trans hL3 hL4
      clear hx0 hx1 hxf0 hxf1 Hrb
      have hrb := hbr.later hL5
      have hx0 := hrb.cell 0
      have hx1 := hrb.cell 1
      have hxf0 := hrb.frozen 0
      have hxf1 := hrb.frozen 1
      simp only [List.getElem?_toArray, List.getElem?_cons_zero, List.getElem?_cons_succ] at hx0 hx1
      have Hrb := hide hrb
      clear hrb
      go_wp2_with fail
      refine (none_eq hnone _).mono ?_
      rintro e w5 ⟨rfl, hL6⟩
      have hL7 : Later w0 w5 := Later.trans (later_alloc hL5 _) hL6
      have y0 := box_cells w4 #[.int .i64 g1, .int .i64 g2] 57 w5 hL6 0
      have y1 := box_cells w4 #[.int .i64 g1, .int .i64 g2] 57 w5 hL6 1
      simp only [List.getElem?_toArray, List.getElem?_cons_zero, List.getElem?_cons_succ] at y0 y1
      have hne4 : w.heap.size + 1 < w4.heap.size := by have := hL5.size; have := Hsz0.out; omega
      clear hx0 hx1 hxf0 hxf1 Hrb
      have hrb := hbr.later hL7
      have hx0 := hrb.cell 0
      have hx1 := hrb.cell 1
      have hxf0 := hrb.frozen 0
      have hxf1 := hrb.frozen 1
      simp only [List.getElem?_toArray, List.getElem?_cons_zero, List.getElem?_cons_succ] at hx0 hx1
      have Hrb := hide hrb
      clear hrb
      go_wp2_with fail
      refine bodyPost_ret (v := .tuple #[.agg #[.int .i64 0, .int .i64 0], .int .i64 10]) ?_ rfl ⟨by rw [Hgo.out], ?_⟩
      · simp [results, Try.results12, go_sem, *]
      · have := Later.trans hL0 hL7; have := Hsz0.out; (((repeat (first | assumption | refine later_drew ?_ | refine later_alloc ?_ _ | refine later_set ?_ _ (Nat.le_add_right _ _) _ | refine later_set ?_ _ (Nat.le_refl _) _)); done))
    | false =>
      rw [if_neg (by simpa using hnone)] at Hgo
      go_wp2_with fail
      refine Hgc.out.mono ?_
      rintro e w4 ⟨rfl, hL4⟩
      have hL5 := Later.trans hL3 hL4
      clear hx0 hx1 hxf0 hxf1 Hrb
      have hrb := hbr.later hL5
      have hx0 := hrb.cell 0
      have hx1 := hrb.cell 1
      have hxf0 := hrb.frozen 0
      have hxf1 := hrb.frozen 1
      simp only [List.getElem?_toArray, List.getElem?_cons_zero, List.getElem?_cons_succ] at hx0 hx1
      have Hrb := hide hrb
      clear hrb
      go_wp2_with fail
      refine (none_eq hnone _).mono ?_
      rintro e w5 ⟨rfl, hL6⟩
      have hL7 : Later w0 w5 := Later.trans (later_alloc hL5 _) hL6
      have y0 := box_cells w4 #[.int .i64 g1, .int .i64 g2] 57 w5 hL6 0
      have y1 := box_cells w4 #[.int .i64 g1, .int .i64 g2] 57 w5 hL6 1
      simp only [List.getElem?_toArray, List.getElem?_cons_zero, List.getElem?_cons_succ] at y0 y1
      have hne4 : w.heap.size + 1 < w4.heap.size := by have := hL5.size; have := Hsz0.out; omega
      clear hx0 hx1 hxf0 hxf1 Hrb
      have hrb := hbr.later hL7
      have hx0 := hrb.cell 0
      have hx1 := hrb.cell 1
      have hxf0 := hrb.frozen 0
      have hxf1 := hrb.frozen 1
      simp only [List.getElem?_toArray, List.getElem?_cons_zero, List.getElem?_cons_succ] at hx0 hx1
      have Hrb := hide hrb
      clear hrb
      go_wp2_with fail
      have hfin : Later w ((w5.setCell ⟨w.heap.size + 1, 0, none⟩ (.int .i64 g1)).setCell ⟨w.heap.size + 1, 1, none⟩ (.int .i64 g2)) := later_set (later_set (Later.trans hL0 hL7) _ (Nat.le_succ _) _) _ (Nat.le_succ _) _
      have hb2 := (Hrb.out.set_ 0 (.int .i64 g1)).set_ 1 (.int .i64 g2)
      have z0 := hb2.cell 0
      have z1 := hb2.cell 1
      simp only [List.setIfInBounds_toArray, List.set_cons_zero, List.set_cons_succ, List.getElem?_toArray, List.getElem?_cons_zero, List.getElem?_cons_succ] at z0 z1
      clear hx0 hx1
      refine bodyPost_ret (v := .tuple #[.agg #[.int .i64 g1, .int .i64 g2], .int .i64 0]) ?_ rfl ⟨by rw [Hgo.out], ?_⟩
      · simp [results, Try.results12, go_sem, z0, z1]
      · exact hfin
  · have hfb : (askedErr c (b && bh) != 0) = true := by simpa using he
    have hfb2 : (askedErr c (b && bh) == 0) = false := by simpa using he
    rw [if_pos he] at Hgo
    generalize hq : askedErr c (b && bh) = q at *
    have Hq := hide hq
    have He := hide he
    clear hq he
    cases b with
    | false =>
      simp only [Bool.false_and] at Hq
      go_enter Try.func12, Try.ntmps12
      go_wp2_with fail
      rw [← Hw0.out]; clear Hw0
      refine wp_region_ext (w0 := w0) (by kernel_rfl) (by kernel_rfl) (later_refl _) ?_; (repeat (first | go_big_quiet_step ((first | (go_at_call 26; exact calls_ext (by simp) (isPlace_eq Hhb.out _ (hc0.later (hT _)) (hp0.later (hT _)) hcap hnp (by omega))) | (go_at_call 17; exact calls_ext (by simp) (asked_fail _ (hc0.later (hT _)) hcl hn1 hn2 hn3 hk2 Hq.out He.out)))) | quiet_step ((first | (go_at_call 26; exact calls_ext (by simp) (isPlace_eq Hhb.out _ (hc0.later (hT _)) (hp0.later (hT _)) hcap hnp (by omega))) | (go_at_call 17; exact calls_ext (by simp) (asked_fail _ (hc0.later (hT _)) hcl hn1 hn2 hn3 hk2 Hq.out He.out)))))); refine wpQuiet_nil ?_; rintro w1 ⟨⟨_, hL1⟩, rfl⟩; (try dsimp only)
      have hrb := hbr.later hL1
      have hx0 := hrb.cell 0
      have hx1 := hrb.cell 1
      have hxf0 := hrb.frozen 0
      have hxf1 := hrb.frozen 1
      simp only [List.getElem?_toArray, List.getElem?_cons_zero, List.getElem?_cons_succ] at hx0 hx1
      have Hrb := hide hrb
      clear hrb
      go_wp2_with fail
      refine bodyPost_ret (v := .tuple #[.agg #[.int .i64 0, .int .i64 0], .int .i64 q]) ?_ rfl ⟨by rw [Hgo.out], ?_⟩
      · simp [results, Try.results12, go_sem, *]
      · have := Later.trans hL0 hL1; have := Hsz0.out; (((repeat (first | assumption | refine later_drew ?_ | refine later_alloc ?_ _ | refine later_set ?_ _ (Nat.le_add_right _ _) _ | refine later_set ?_ _ (Nat.le_refl _) _)); done))
    | true =>
      simp only [Bool.true_and] at Hq
      go_enter Try.func12, Try.ntmps12
      go_wp2_with fail
      rw [← Hw0.out]; clear Hw0
      refine wp_region_ext (w0 := w0) (by kernel_rfl) (by kernel_rfl) (later_refl _) ?_; (repeat (first | go_big_quiet_step ((first | (go_at_call 26; exact calls_ext (by simp) (isPlace_eq Hhb.out _ (hc0.later (hT _)) (hp0.later (hT _)) hcap hnp (by omega))) | (go_at_call 27; exact calls_ext (by simp) (horse_eq _ (by omega) Hhe.out)) | (go_at_call 17; exact calls_ext (by simp) (asked_fail _ (hc0.later (hT _)) hcl hn1 hn2 hn3 hk2 Hq.out He.out)))) | quiet_step ((first | (go_at_call 26; exact calls_ext (by simp) (isPlace_eq Hhb.out _ (hc0.later (hT _)) (hp0.later (hT _)) hcap hnp (by omega))) | (go_at_call 27; exact calls_ext (by simp) (horse_eq _ (by omega) Hhe.out)) | (go_at_call 17; exact calls_ext (by simp) (asked_fail _ (hc0.later (hT _)) hcl hn1 hn2 hn3 hk2 Hq.out He.out)))))); refine wpQuiet_nil ?_; rintro w1 ⟨⟨_, hL1⟩, rfl⟩; (try dsimp only)
      have hrb := hbr.later hL1
      have hx0 := hrb.cell 0
      have hx1 := hrb.cell 1
      have hxf0 := hrb.frozen 0
      have hxf1 := hrb.frozen 1
      simp only [List.getElem?_toArray, List.getElem?_cons_zero, List.getElem?_cons_succ] at hx0 hx1
      have Hrb := hide hrb
      clear hrb
      go_wp2_with fail
      refine bodyPost_ret (v := .tuple #[.agg #[.int .i64 0, .int .i64 0], .int .i64 q]) ?_ rfl ⟨by rw [Hgo.out], ?_⟩
      · simp [results, Try.results12, go_sem, *]
      · have := Later.trans hL0 hL1; have := Hsz0.out; (((repeat (first | assumption | refine later_drew ?_ | refine later_alloc ?_ _ | refine later_set ?_ _ (Nat.le_add_right _ _) _ | refine later_set ?_ _ (Nat.le_refl _) _)); done))
end Go.Proofs.Ytnlbgaippnjmiaa

/- The program's Right: walk. -/
namespace Go.Proofs.Ytnlbgaippnjmiaa
open Go Go.RowKit

/-- what Right returns -/
def rightOut (c : Clo) (p : List Int) (h m : Int) : Int × Int :=
  if askedErr c ((isPlaceB c p && isHorse c h) && inB m 0 99) ≠ 0 then (0, askedErr c ((isPlaceB c p && isHorse c h) && inB m 0 99)) else (verdict c (truthsP c) p h.toNat m, 0)

end Go.Proofs.Ytnlbgaippnjmiaa

/- The program's possible: walk. -/
namespace Go.Proofs.Ytnlbgaippnjmiaa
open Go Go.RowKit Go.Shelf
attribute [local go_sem] Oper.semAt_some later_alloc3 later_alloc4

def possibleP (c : Clo) (out : List Int) : Bool := (dryAll c.horses).any fun d => rightP c (pad4 d) out

/-- what holds between the rounds: all that lay where the range began lies as it lay -/
structure PosI (E : Nat) (wE W : World) : Prop where
  size : E + 5 ≤ W.heap.size
  os : W.os = wE.os
  tape : W.tape = wE.tape
  out : W.output = wE.output
  old : ∀ b, b < E → W.heap[b]? = wE.heap[b]?
theorem PosI.same {E : Nat} {wE W W' : World} (h : PosI E wE W) (hs : W.heap.size ≤ W'.heap.size) (ho : W'.os = W.os) (ht : W'.tape = W.tape) (hu : W'.output = W.output)
    (hb : ∀ b, b < E → W'.heap[b]? = W.heap[b]?) : PosI E wE W' :=
  ⟨Nat.le_trans h.size hs, ho.trans h.os, ht.trans h.tape, hu.trans h.out, fun b h1 => (hb b h1).trans (h.old b h1)⟩
theorem PosI.later {E : Nat} {wE W W' : World} (h : PosI E wE W) (hL : Later W W') : PosI E wE W' :=
  h.same hL.size hL.os hL.tape hL.output fun b hb => hL.block b (by have := h.size; omega)
theorem PosI.put {E : Nat} {wE W : World} (h : PosI E wE W) {l : Nat} (hl : E ≤ l) (o : Obj) : PosI E wE (W.putObj l o) :=
  h.same (by simp) rfl rfl rfl fun b hb => heap_put W _ o b (by omega)
theorem PosI.set_ {E : Nat} {wE W : World} (h : PosI E wE W) {a : Addr} (hl : E ≤ a.block) (u : Value) : PosI E wE (W.setCell a u) :=
  h.same (by simp) rfl rfl rfl fun b hb => Below.heap_setCell W a u b (by omega)
theorem PosI.laterE {E : Nat} {wE W : World} (h : PosI E wE W) (hE : wE.heap.size = E) : Later wE W :=
  ⟨h.os, h.tape, h.out, by have := h.size; omega, fun b hb => h.old b (by omega)⟩

end Go.Proofs.Ytnlbgaippnjmiaa

/- append of any elements onto a row of the call's own; slices.Clone: walks. -/
namespace Go.Proofs.Ytnlbgaippnjmiaa
open Go Go.RowKit

/-- what an append leaves -/
structure AppG (base : Nat) (W w' : World) (e : TypeId) (size : Nat) (v v' : Value) (n m : Nat) (xs news : List Value) : Prop where
  own : w'.ownsRow base e size v' (n + m) (xs ++ news)
  grown : W.grownBy w' v.ownBlock
  at_ : v'.ownBlock = v.ownBlock ∨ v'.ownBlock = some W.heap.size

theorem appG_wp {P : Program} {o : Oper} {a : Act} {K : Act → World → Prop} {Q : Exit → Act → World → Prop} {W : World} (base : Nat) (s x : Operand) (t : TypeId)
    (ho : o.op = .call { callee := .builtin .append, args := #[s, x], argTypes := #[t, t] }) (e : TypeId) (z : Value) (size bytes : Nat)
    (ht : P.underlying t = some (.slice e)) (hinfo : (P.info? e).map (fun i => (i.zero, i.size, i.bytes)) = some (some z, size, bytes)) (hzs : z.cells.size = size) (hsz : 0 < size)
    (v : Value) (n : Nat) (xs : List Value) (hs : a.eval s = v) (hb : base ≤ W.heap.size) (hown : W.ownsRow base e size v n xs)
    (ad : Addr) (m c : Nat) (news : List Value) (hx : a.eval x = .slice (some ad) m c) (hl : news.length = m * size) (hc : ∀ j u, news[j]? = some u → W.cell? (ad.add j) = some u) (h1 : ∀ u ∈ news, u.oneCell' = true)
    (hn : n ≤ 1000000) (hm : m ≤ 1000000) (hby : bytes ≤ 1000)
    (h : ∀ v' w', AppG base W w' e size v v' n m xs news → K (a.put o.dst v') w') :
    o.wp P a W K Q := by
  obtain ⟨i, hi, hz, h2, h3⟩ := info_parts hinfo
  obtain ⟨v', w', hr, k2, k3, _, k5⟩ := run_append_own_at (P := P) W base t o.type e i z size bytes ht hi hz h2 h3 hzs hsz v n xs hown ad m c news hl hc h1 (by unfold maxLen; omega)
    (by
      have : (n + m) * bytes ≤ 2000000 * 1000 := Nat.mul_le_mul (by omega) hby
      omega) hb
  unfold Oper.wp execOp
  simp only [ho, resolve, invoke, builtin, Sem.run_bind, Sem.run_pure, Result.andThen_ok, List.map_toArray, List.map_cons, List.map_nil, hs, hx, hr]
  exact h v' w' ⟨k2, k3, k5⟩
theorem appG {P : Program} {ops : Array Oper} {rest : List Oper} {o : Oper} {a : Act} {Q : Exit → Act → World → Prop} {W : World} (hgd : o.guard = none) (base : Nat) (s x : Operand) (t : TypeId)
    (ho : o.op = .call { callee := .builtin .append, args := #[s, x], argTypes := #[t, t] }) (e : TypeId) (z : Value) (size bytes : Nat)
    (ht : P.underlying t = some (.slice e)) (hinfo : (P.info? e).map (fun i => (i.zero, i.size, i.bytes)) = some (some z, size, bytes)) (hzs : z.cells.size = size) (hsz : 0 < size)
    (v : Value) (n : Nat) (xs : List Value) (hs : a.eval s = v) (hb : base ≤ W.heap.size) (hown : W.ownsRow base e size v n xs)
    (ad : Addr) (m c : Nat) (news : List Value) (hx : a.eval x = .slice (some ad) m c) (hl : news.length = m * size) (hc : ∀ j u, news[j]? = some u → W.cell? (ad.add j) = some u) (h1 : ∀ u ∈ news, u.oneCell' = true)
    (hn : n ≤ 1000000) (hm : m ≤ 1000000) (hby : bytes ≤ 1000)
    (h : ∀ v' w', AppG base W w' e size v v' n m xs news → wpList P ops Q rest (a.put o.dst v') w') :
    wpList P ops Q (o :: rest) a W :=
  wpList_plain hgd fun _ hK => appG_wp base s x t ho e z size bytes ht hinfo hzs hsz v n xs hs hb hown ad m c news hx hl hc h1 hn hm hby fun v' w' q => hK _ _ (h v' w' q)
theorem appG_step {P : Program} {ops : Array Oper} {o : Oper} {a : Act} {K : Act → World → Prop} {Q : Exit → Act → World → Prop} {E : Prop} {W : World} (hgd : o.guard = none) (base : Nat) (s x : Operand) (t : TypeId)
    (ho : o.op = .call { callee := .builtin .append, args := #[s, x], argTypes := #[t, t] }) (e : TypeId) (z : Value) (size bytes : Nat)
    (ht : P.underlying t = some (.slice e)) (hinfo : (P.info? e).map (fun i => (i.zero, i.size, i.bytes)) = some (some z, size, bytes)) (hzs : z.cells.size = size) (hsz : 0 < size)
    (v : Value) (n : Nat) (xs : List Value) (hs : a.eval s = v) (hb : base ≤ W.heap.size) (hown : W.ownsRow base e size v n xs)
    (ad : Addr) (m c : Nat) (news : List Value) (hx : a.eval x = .slice (some ad) m c) (hl : news.length = m * size) (hc : ∀ j u, news[j]? = some u → W.cell? (ad.add j) = some u) (h1 : ∀ u ∈ news, u.oneCell' = true)
    (hn : n ≤ 1000000) (hm : m ≤ 1000000) (hby : bytes ≤ 1000)
    (h : ∀ v' w', AppG base W w' e size v v' n m xs news → K (a.put o.dst v') w') :
    if Region.wanted o (yielded ops a.tmps) = true then Oper.wp P o a W K Q else E := by
  rw [if_pos (by simp [Region.wanted, hgd])]
  exact appG_wp base s x t ho e z size bytes ht hinfo hzs hsz v n xs hs hb hown ad m c news hx hl hc h1 hn hm hby h
/-- an append onto a row that is new since w: all of w lies as it lay -/
theorem AppG.later {w W w' : World} {e : TypeId} {size n m : Nat} {v v' : Value} {xs news : List Value} (h : AppG w.heap.size W w' e size v v' n m xs news) (hL : Later w W) (hown : W.ownsRow w.heap.size e size v n xs) : Later w w' :=
  Later.grown hL h.grown fun g hg => (hown.lt g hg).1

theorem ints_cells {w : World} {ad : Addr} {n : Nat} {l : List Int} (h : RI w (some ad) n l) : ∀ j u, (ints l)[j]? = some u → w.cell? (ad.add j) = some u := fun j u hj => by
  have hl : j < l.length := by rw [← ints_length]; exact (List.getElem?_eq_some_iff.1 hj).1
  obtain ⟨ad', e, _, hc⟩ := h.2 (by have := h.len; omega)
  injection e with e
  subst e
  exact hc j u hj
theorem ints_one (l : List Int) : ∀ u ∈ ints l, u.oneCell' = true := by
  intro u hu
  simp only [ints, List.mem_map] at hu
  obtain ⟨x, _, rfl⟩ := hu
  rfl
set_option maxRecDepth 100000 in
/-- slices.Clone -/
theorem Clone_calls {A : Option Addr} {n k : Nat} {l : List Int} (w : World) (h : RI w A n l) (hn : n ≤ 1000) :
    Calls Try.prog 20 #[.slice A n k] w fun e w' => ∃ v, e = .returned v ∧ Later w w' ∧ w'.ownsRow w.heap.size 3 1 v n (ints l) := by
  have hlen := h.len
  cases A with
  | none =>
    have h0 : n = 0 := by
      rcases Nat.eq_zero_or_pos n with h0 | h0
      · exact h0
      · obtain ⟨ad, e, _⟩ := h.2 h0; cases e
    have hl : l = [] := List.eq_nil_of_length_eq_zero (by omega)
    subst h0 hl
    have hq : ∀ W : World, (binOp .eql 23 (.slice none 0 k) (.slice none 0 0)).run Try.prog W = .ok (.bool true) W := fun _ => by kernel_rfl
    clear hlen
    go_enter Try.func20, Try.ntmps20
    go_wp2_with fail
    go_ret
    exact ⟨_, rfl, later_refl _, World.ownsRow_nil _ _ _ _⟩
  | some ad =>
    have hc := fun (W : World) (hL : Later w W) => ints_cells (h.later hL)
    have hl2 : (ints l).length = n * 1 := by rw [ints_length]; omega
    have Hl := hide hlen
    have hq : ∀ W : World, (binOp .eql 23 (.slice (some ad) n k) (.slice none 0 0)).run Try.prog W = .ok (.bool false) W := fun _ => by kernel_rfl
    clear hlen
    go_enter Try.func20, Try.ntmps20
    go_wp2_with (at_builtin; refine appG rfl w.heap.size _ _ 23 rfl 3 (.int .i64 0) 1 8 Try.underlying23 int_info rfl (by omega) _ 0 [] rfl ?hb (World.ownsRow_made w #[] 0 (Nat.le_refl _) (by unfold maxLen; omega) rfl) ad n k (ints l) rfl hl2 (hc _ (later_alloc (later_refl _) _)) (ints_one l) (by omega) (by omega) (by omega) ?_; case hb => simp)
    intro v' w' hap
    go_wp2_with fail
    go_ret
    refine ⟨_, rfl, hap.later (later_alloc (later_refl _) _) (World.ownsRow_made w #[] 0 (Nat.le_refl _) (by unfold maxLen; omega) rfl), ?_⟩
    have := hap.own
    rw [Nat.zero_add, List.nil_append] at this
    exact this
end Go.Proofs.Ytnlbgaippnjmiaa

/- The program's listed: walk. -/
namespace Go.Proofs.Ytnlbgaippnjmiaa
open Go Go.RowKit

def listedP (c : Clo) (l : List Int) : List Int := if areNumbers c.horses l = true then pad4 l else [0, 0, 0, 0]
theorem splice_pad {l : List Int} (h : l.length ≤ 4) : splice (ints [0, 0, 0, 0]) 0 (ints l) = ints (pad4 l) := by
  match l, h with
  | [], _ => rfl
  | [_], _ => rfl
  | [_, _], _ => rfl
  | [_, _, _], _ => rfl
  | [_, _, _, _], _ => rfl

end Go.Proofs.Ytnlbgaippnjmiaa

/- The program's Play, ProveTruth: walks. -/
namespace Go.Proofs.Ytnlbgaippnjmiaa
open Go Go.RowKit

theorem areNumbers_dry {c : Clo} {d : List Int} (h : areNumbers c.horses d = true) : IsDry c d := (isDry_iff c d).1 h
theorem listedP_four (c : Clo) (l : List Int) : ∃ e0 e1 e2 e3, listedP c l = [e0, e1, e2, e3] := by
  unfold listedP; split <;> exact ⟨_, _, _, _, rfl⟩
/-- the error of Play -/
def playErr (c : Clo) (p d : List Int) : Int := if fault c ≠ 0 then fault c else if areNumbers c.horses d = true ∧ isPlaceB c p = true then 0 else 2
def playL (c : Clo) (p d : List Int) : List Int := if playErr c p d = 0 then (minutesP c p (pad4 d)).take c.horses.length else []
def PlayPost (c : Clo) (p d : List Int) (w : World) (e : Ending) (w' : World) : Prop :=
  ∃ A n k, e = .returned (.tuple #[.slice A n k, .int .i64 (playErr c p d)]) ∧ Later w w' ∧ RI w' A n (playL c p d) ∧ n ≤ k
theorem playPost_bad {c : Clo} {p d : List Int} {w w' : World} {q : Int} (hq : playErr c p d = q) (h0 : q ≠ 0) (hL : Later w w') : PlayPost c p d w (.returned (.tuple #[.slice none 0 0, .int .i64 q])) w' := by
  refine ⟨none, 0, 0, by rw [hq], hL, ?_, Nat.le_refl _⟩
  have : playL c p d = [] := by unfold playL; rw [if_neg (by omega)]
  rw [this]
  exact RI.nil
theorem own_cap {W : World} {base : Nat} {e : TypeId} {size : Nat} {A : Option Addr} {k n : Nat} {xs : List Value} (h : W.ownsRow base e size (.slice A n k) n xs) : n ≤ k := by
  rcases h.2 with ⟨e, h0⟩ | ⟨g, cap, cur, e, _, _, h1, _⟩
  · omega
  · injection e with _ _ e; omega

end Go.Proofs.Ytnlbgaippnjmiaa

/- The program's First: walk. -/
namespace Go.Proofs.Ytnlbgaippnjmiaa
open Go Go.RowKit

def withLooks (c : Clo) (l : List Look) : Clo := { c with looks := l }
theorem okC_looks {c : Clo} (ok : OkC c) {l : List Look} (hl : ∀ x ∈ l, x ∈ c.looks) (hn : l.length ≤ 5) : OkC (withLooks c l) :=
  ⟨⟨ok.len, ok.cl1, ok.cl4, ok.horse⟩, ⟨ok.hung.len, ok.hung.mem, ok.hung.nodup⟩, fun x hx => ok.looks x (hl x hx), hn, ok.close⟩
theorem okC_take {c : Clo} (ok : OkC c) (i : Nat) : OkC (withLooks c (c.looks.take i)) :=
  okC_looks ok (fun _ hx => List.mem_of_mem_take hx) (by have := ok.nlooks; rw [List.length_take]; omega)
theorem RL.take {w : World} {A : Option Addr} {n : Nat} {l : List Look} (h : RL w A n l) (i : Nat) (hi : i ≤ n) : RL w A i (l.take i) := by
  have hlen := h.len
  refine ⟨by rw [looksV_length, List.length_take]; omega, fun h0 => ?_⟩
  obtain ⟨ad, e, hb, hc⟩ := h.2 (by omega)
  refine ⟨ad, e, hb, fun j u hj => hc j u ?_⟩
  have hpre : looksV l = looksV (l.take i) ++ looksV (l.drop i) := by
    have := List.take_append_drop i l
    unfold looksV
    rw [← List.flatMap_append, this]
  rw [hpre, List.getElem?_append_left (List.getElem?_eq_some_iff.1 hj).1]
  exact hj
/-- the first wrong look, as the program finds it -/
def firstBad (c : Clo) (i : Nat) : Bool := !possibleP (withLooks c (c.looks.take (i + 1))) []
def firstOut (c : Clo) : Int × Int :=
  if fault c ≠ 0 then (0, fault c) else match (List.range c.looks.length).find? (firstBad c) with
    | some i => ((i : Nat), 0)
    | none => (0, 7)

end Go.Proofs.Ytnlbgaippnjmiaa

/- The program's Leave: a closure that calls itself: walks. -/
namespace Go.Proofs.Ytnlbgaippnjmiaa
open Go Go.RowKit

/-- all that lay at W lies as it lay, but for block g -/
structure But (g : Nat) (W W' : World) : Prop where
  os : W'.os = W.os
  tape : W'.tape = W.tape
  output : W'.output = W.output
  size : W.heap.size ≤ W'.heap.size
  block : ∀ b, b < W.heap.size → b ≠ g → W'.heap[b]? = W.heap[b]?
theorem But.refl (g : Nat) (W : World) : But g W W := ⟨rfl, rfl, rfl, Nat.le_refl _, fun _ _ _ => rfl⟩
theorem But.of_later {g : Nat} {W W' : World} (h : Later W W') : But g W W' := ⟨h.os, h.tape, h.output, h.size, fun b hb _ => h.block b hb⟩
theorem But.trans {g : Nat} {A B C : World} (h : But g A B) (k : But g B C) : But g A C :=
  ⟨k.os.trans h.os, k.tape.trans h.tape, k.output.trans h.output, Nat.le_trans h.size k.size, fun b hb hne => (k.block b (Nat.lt_of_lt_of_le hb h.size) hne).trans (h.block b hb hne)⟩
theorem But.set_ {g : Nat} {A B : World} (h : But g A B) (i : Nat) (u : Value) : But g A (B.setCell ⟨g, i, none⟩ u) :=
  h.trans ⟨rfl, rfl, rfl, by simp, fun b _ hne => Below.heap_setCell B ⟨g, i, none⟩ u b hne⟩
theorem But.later {g : Nat} {w A B : World} (h : But g A B) (hL : Later w A) (hg : w.heap.size ≤ g) : Later w B :=
  ⟨h.os.trans hL.os, h.tape.trans hL.tape, h.output.trans hL.output, Nat.le_trans hL.size h.size, fun b hb => (h.block b (Nat.lt_of_lt_of_le hb hL.size) (by omega)).trans (hL.block b hb)⟩
theorem But.blk {g b : Nat} {A B : World} {t : TypeId} {cs : Array Value} (h : But g A B) (k : Blk A b t cs) (hne : b ≠ g) : Blk B b t cs := (h.block b k.lt hne).trans k
theorem RI.but {g : Nat} {A B : World} {a : Option Addr} {n : Nat} {l : List Int} (h : RI A a n l) (k : But g A B) (hne : ∀ b o, a = some ⟨b, o, none⟩ → b ≠ g) : RI B a n l := by
  refine ⟨h.1, fun hn => ?_⟩
  obtain ⟨b, o, rfl, hb, hc⟩ := Reads.lit h (by omega) hn
  refine ⟨_, rfl, Nat.lt_of_lt_of_le hb k.size, fun j u hu => ?_⟩
  rw [add_lit]
  exact (World.cell?_of_block (a := ⟨b, o + j, none⟩) (k.block b hb (hne b o rfl))).trans (hc j u hu)

/-- the first list that can be left out, as the program finds it: many more from one on -/
def leaveGo (c : Clo) (n : Nat) : Nat → Nat → List Int → Option (List Int)
  | 0, _, out => if possibleP c out then some out else none
  | m + 1, f, out => (List.range' f (n - m - f)).findSome? fun i => leaveGo c n m (i + 1) (out ++ [(i : Int)])
theorem findSome_range_some {α : Type} (g : Nat → Option α) : ∀ (k f i : Nat) (x : α), f ≤ i → i < f + k → g i = some x → (∀ t, f ≤ t → t < i → g t = none) → (List.range' f k).findSome? g = some x
  | 0, f, i, x, h1, h2, _, _ => by omega
  | k + 1, f, i, x, h1, h2, h, hno => by
    rw [List.range'_succ, List.findSome?_cons]
    rcases Nat.eq_or_lt_of_le h1 with rfl | hlt
    · rw [h]
    · rw [hno f (Nat.le_refl _) hlt]
      exact findSome_range_some g k (f + 1) i x hlt (by omega) h fun t h3 h4 => hno t (by omega) h4
theorem findSome_range_none {α : Type} (g : Nat → Option α) (k f : Nat) (hno : ∀ t, f ≤ t → t < f + k → g t = none) : (List.range' f k).findSome? g = none := by
  rw [List.findSome?_eq_none_iff]
  intro t ht
  have := List.mem_range'_1.1 ht
  exact hno t this.1 this.2

/-- what the closure leaves -/
def LvPost (g : Nat) (W : World) (r : Option (List Int)) (e : Ending) (W' : World) : Prop :=
  But g W W' ∧ match r with
    | some x => e = .returned (.bool true) ∧ ∃ A n k, Blk W' g 23 #[.slice A n k] ∧ RI W' A n x ∧ n ≤ k ∧ ∀ b o, A = some ⟨b, o, none⟩ → b ≠ g
    | none => e = .returned (.bool false) ∧ ∃ v, Blk W' g 23 #[v]

theorem RI.of_snoc {w : World} {A : Option Addr} {n : Nat} {l : List Int} {x : Int} (h : Reads w w.heap.size 1 A n (ints l ++ [.int .i64 x])) : RI w A n (l ++ [x]) := by
  unfold RI; rw [show ints (l ++ [x]) = ints l ++ [.int .i64 x] by simp [ints]]; exact h
theorem own_apart {W : World} {base : Nat} {e : TypeId} {size : Nat} {A : Option Addr} {k n g : Nat} {xs : List Value} (h : W.ownsRow base e size (.slice A n k) n xs) (hg : g < base) : ∀ b o, A = some ⟨b, o, none⟩ → b ≠ g := fun b o e => by
  subst e
  have := (h.lt b rfl).1
  omega
theorem later_undrew {w W : World} (h : Later w.drew W) : Later w W := ⟨h.os, h.tape, h.output, h.size, h.block⟩
theorem one_cell (W : World) (x : Value) (t : TypeId) : ∀ j u, [x][j]? = some u → (W.alloc (.cells #[x] t)).cell? ((⟨W.heap.size, 0, none⟩ : Addr).add j) = some u := fun j u hj => by
  rw [add_lit, Nat.zero_add, (Blk.new W t #[x]).cell]
  simpa using hj
theorem one_cell_later {W W' : World} {x : Value} {t : TypeId} (h : Later (W.alloc (.cells #[x] t)) W') : ∀ j u, [x][j]? = some u → W'.cell? ((⟨W.heap.size, 0, none⟩ : Addr).add j) = some u := fun j u hj => by
  rw [add_lit, Nat.zero_add, ((Blk.new W t #[x]).later h).cell]
  simpa using hj
section
variable {c : Clo} {A1 A2 A3 : Option Addr} {n1 k1 n2 k2 n3 k3 bc bf bl : Nat} {wB : World}
end
end Go.Proofs.Ytnlbgaippnjmiaa

/- The program's Leave: walk. -/
namespace Go.Proofs.Ytnlbgaippnjmiaa
open Go Go.RowKit

theorem later_alloc2 {w W : World} (h : Later w W) (a b : Obj) : Later w ((W.alloc a).alloc b) := later_alloc (later_alloc h a) b
attribute [local go_sem] later_alloc2 later_alloc3 later_alloc4
theorem dryAll_ne : ∀ (hs : List Horse), (∀ h ∈ hs, h.lo ≤ h.hi) → ∃ d, d ∈ dryAll hs
  | [], _ => ⟨[], by simp [dryAll]⟩
  | h :: hs, ok => by
    obtain ⟨d, hd⟩ := dryAll_ne hs fun x hx => ok x (List.mem_cons_of_mem _ hx)
    have := ok h List.mem_cons_self
    refine ⟨h.lo :: d, ?_⟩
    simp only [dryAll, List.mem_flatMap, List.mem_map, rangeL, List.mem_range]
    exact ⟨h.lo, ⟨0, by omega, by simp⟩, d, hd, rfl⟩
theorem leaveGo_full (c : Clo) (n : Nat) : ∀ (m f : Nat) (out : List Int), f + m = n → leaveGo c n m f out = if possibleP c (out ++ (List.range' f m).map fun (i : Nat) => (i : Int)) then some (out ++ (List.range' f m).map fun (i : Nat) => (i : Int)) else none
  | 0, f, out, _ => by simp [leaveGo]
  | m + 1, f, out, h => by
    unfold leaveGo
    rw [show n - m - f = 1 by omega, List.range'_one, List.findSome?_cons, List.findSome?_nil, leaveGo_full c n m (f + 1) _ (by omega), List.range'_succ]
    simp only [List.map_cons, List.append_assoc, List.cons_append, List.nil_append]
    generalize (if possibleP c (out ++ (f : Int) :: (List.range' (f + 1) m).map fun (i : Nat) => (i : Int)) = true then some (out ++ (f : Int) :: (List.range' (f + 1) m).map fun (i : Nat) => (i : Int)) else none) = r
    cases r <;> rfl
/-- the smallest set, as the program finds it -/
def leaveP (c : Clo) : Option (List Int) := (List.range' 0 (c.looks.length + 1)).findSome? fun m => leaveGo c c.looks.length m 0 []
theorem leaveGo_last {c : Clo} (ok : OkC c) : leaveGo c c.looks.length c.looks.length 0 [] ≠ none := by
  rw [leaveGo_full _ _ _ _ _ (by omega)]
  have : possibleP c ([] ++ (List.range' 0 c.looks.length).map fun (i : Nat) => (i : Int)) = true := by
    unfold possibleP
    rw [List.any_eq_true]
    obtain ⟨d, hd⟩ := dryAll_ne c.horses fun h hh => by have := ok.horse h hh; omega
    refine ⟨d, hd, (rightP_iff ok _).2 fun j l hj => .inl ?_⟩
    have := (List.getElem?_eq_some_iff.1 hj).1
    simp only [List.nil_append, List.mem_map, List.mem_range'_1]
    exact ⟨j, ⟨Nat.zero_le _, by omega⟩, rfl⟩
  rw [if_pos this]
  simp
def leaveOut (c : Clo) : List Int := if fault c = 0 then (leaveP c).getD [] else []
def LeavePost (c : Clo) (w : World) (e : Ending) (w' : World) : Prop :=
  ∃ A n k, e = .returned (.tuple #[.slice A n k, .int .i64 (fault c)]) ∧ Later w w' ∧ RI w' A n (leaveOut c) ∧ n ≤ k

end Go.Proofs.Ytnlbgaippnjmiaa

/- The program's good minutes, and what follows of them, are those of the reference. -/
namespace Go.Proofs.Ytnlbgaippnjmiaa

def fW (f : List Int → Int) (l : List (List Int)) (r : Int × Int) : Int × Int := l.foldl (fun r d => wider r (f d)) r
structure FW (f : List Int → Int) (l : List (List Int)) (r R : Int × Int) : Prop where
  lo : R.1 ≤ r.1
  hi : r.2 ≤ R.2
  all : ∀ d ∈ l, R.1 ≤ f d ∧ f d ≤ R.2
  eLo : R.1 = r.1 ∨ ∃ d ∈ l, f d = R.1
  eHi : R.2 = r.2 ∨ ∃ d ∈ l, f d = R.2
theorem fW_cons (f : List Int → Int) (x : List Int) (l : List (List Int)) (r R : Int × Int) (h : FW f l (wider r (f x)) R) : FW f (x :: l) r R := by
  have h1 : R.1 ≤ min r.1 (f x) := h.lo
  have h2 : max r.2 (f x) ≤ R.2 := h.hi
  refine ⟨by omega, by omega, fun d hd => ?_, ?_, ?_⟩
  · rcases List.mem_cons.1 hd with rfl | hd
    · exact ⟨by omega, by omega⟩
    · exact h.all d hd
  · rcases h.eLo with e | ⟨d, hd, e⟩
    · have e2 : R.1 = min r.1 (f x) := e
      by_cases hle : r.1 ≤ f x
      · left; omega
      · right; exact ⟨x, List.mem_cons_self, by omega⟩
    · right; exact ⟨d, List.mem_cons_of_mem _ hd, e⟩
  · rcases h.eHi with e | ⟨d, hd, e⟩
    · have e2 : R.2 = max r.2 (f x) := e
      by_cases hle : f x ≤ r.2
      · left; omega
      · right; exact ⟨x, List.mem_cons_self, by omega⟩
    · right; exact ⟨d, List.mem_cons_of_mem _ hd, e⟩
theorem wider_fold (f : List Int → Int) (l : List (List Int)) (r : Int × Int) : FW f l r (fW f l r) := by
  induction l generalizing r with
  | nil => exact ⟨Int.le_refl _, Int.le_refl _, by simp, .inl rfl, .inl rfl⟩
  | cons x l ih => exact fW_cons f x l r _ (ih _)
theorem bP_spec (f : List Int → Int) {l : List (List Int)} (hl : l ≠ []) : (∀ d ∈ l, (bP f l).1 ≤ f d ∧ f d ≤ (bP f l).2) ∧ (∃ d ∈ l, f d = (bP f l).1) ∧ (∃ d ∈ l, f d = (bP f l).2) := by
  cases l with
  | nil => exact absurd rfl hl
  | cons x l =>
    have h := wider_fold f l (f x, f x)
    show (∀ d ∈ x :: l, (fW f l (f x, f x)).1 ≤ f d ∧ f d ≤ (fW f l (f x, f x)).2) ∧ (∃ d ∈ x :: l, f d = (fW f l (f x, f x)).1) ∧ (∃ d ∈ x :: l, f d = (fW f l (f x, f x)).2)
    generalize fW f l (f x, f x) = R at *
    refine ⟨fun d hd => ?_, ?_, ?_⟩
    · rcases List.mem_cons.1 hd with rfl | hd
      · exact ⟨h.lo, h.hi⟩
      · exact h.all d hd
    · rcases h.eLo with h | ⟨d, hd, e⟩
      · exact ⟨x, List.mem_cons_self, h.symm⟩
      · exact ⟨d, List.mem_cons_of_mem _ hd, e⟩
    · rcases h.eHi with h | ⟨d, hd, e⟩
      · exact ⟨x, List.mem_cons_self, h.symm⟩
      · exact ⟨d, List.mem_cons_of_mem _ hd, e⟩
/-- the bounds go by what is in a list, not by its order -/
theorem bP_congr (f : List Int → Int) {l m : List (List Int)} (hl : l ≠ []) (h : ∀ d, d ∈ l ↔ d ∈ m) : bP f l = bP f m := by
  have hm : m ≠ [] := by
    intro e
    subst e
    cases l with
    | nil => exact hl rfl
    | cons x l => exact absurd ((h x).1 List.mem_cons_self) (by simp)
  obtain ⟨a1, ⟨d1, b1, c1⟩, ⟨d2, b2, c2⟩⟩ := bP_spec f hl
  obtain ⟨a3, ⟨d3, b3, c3⟩, ⟨d4, b4, c4⟩⟩ := bP_spec f hm
  have e1 := a3 d1 ((h d1).1 b1)
  have e2 := a3 d2 ((h d2).1 b2)
  have e3 := a1 d3 ((h d3).2 b3)
  have e4 := a1 d4 ((h d4).2 b4)
  apply Prod.ext <;> omega

theorem verdict_one (c : Clo) (l : List (List Int)) (p : List Int) (h : Nat) (m : Int) : verdict c l p h m = 1 ↔ ∀ d ∈ l, isRight c p d h m = true := by
  unfold verdict
  rw [← List.countP_eq_length]
  by_cases h1 : l.countP (fun d => isRight c p d h m) = l.length
  · simp [h1]
  · rw [if_neg h1]
    split <;> simp only [h1, iff_false] <;> decide
theorem verdict_bP {c : Clo} {l tr : List (List Int)} (h : ∀ d, d ∈ l ↔ d ∈ tr) (hne : tr ≠ []) (p : List Int) (i : Nat) (m : Int) :
    verdict c l p i m = 1 ↔ (bP (fun d => minuteR c p d i) tr).2 ≤ m ∧ m ≤ (bP (fun d => minuteR c p d i + graceAt c i) tr).1 := by
  rw [verdict_one]
  obtain ⟨a1, _, ⟨d2, b2, c2⟩⟩ := bP_spec (fun d => minuteR c p d i) hne
  obtain ⟨a3, ⟨d3, b3, c3⟩, _⟩ := bP_spec (fun d => minuteR c p d i + graceAt c i) hne
  simp only [isRight, inB, Bool.and_eq_true, decide_eq_true_eq]
  constructor
  · intro k
    have k2 := (k d2 ((h d2).2 b2)).1
    have k3 := (k d3 ((h d3).2 b3)).2
    (try dsimp only at *)
    omega
  · rintro ⟨k1, k2⟩ d hd
    have e1 := (a1 d ((h d).1 hd)).2
    have e2 := (a3 d ((h d).1 hd)).1
    (try dsimp only at *)
    omega
theorem goodTo {c : Clo} {l : List (List Int)} {p : List Int} {i : Nat} {lo hi : Int} (h0 : 0 ≤ lo) (h : ∀ m : Int, verdict c l p i m = 1 ↔ lo ≤ m ∧ m ≤ hi) (k : Nat) :
    (List.range k).foldl (goodStep c l p i) (1, 0) = if lo < k ∧ lo ≤ hi then (lo, min ((k : Int) - 1) hi) else (1, 0) := by
  induction k with
  | zero => rw [if_neg (by omega)]; rfl
  | succ k ih =>
    rw [List.range_succ, List.foldl_append, List.foldl_cons, List.foldl_nil, ih]
    by_cases hk : lo < k ∧ lo ≤ hi
    · rw [if_pos hk]
      unfold goodStep
      by_cases hv : lo ≤ k ∧ k ≤ hi
      · rw [if_pos ((h k).2 hv), if_pos (show lo < ((k + 1 : Nat) : Int) ∧ lo ≤ hi by omega)]
        show ((if min ((k : Int) - 1) hi < lo then (k : Int) else lo), (k : Int)) = (lo, min (((k + 1 : Nat) : Int) - 1) hi)
        rw [if_neg (show ¬ min ((k : Int) - 1) hi < lo by omega)]
        exact Prod.ext rfl (show (k : Int) = min (((k + 1 : Nat) : Int) - 1) hi by omega)
      · rw [if_neg (fun hh => hv ((h k).1 hh)), if_pos (by omega)]
        exact Prod.ext rfl (show min ((k : Int) - 1) hi = min (((k + 1 : Nat) : Int) - 1) hi by omega)
    · rw [if_neg hk]
      unfold goodStep
      by_cases hv : lo ≤ k ∧ k ≤ hi
      · rw [if_pos ((h k).2 hv), if_pos (show lo < ((k + 1 : Nat) : Int) ∧ lo ≤ hi by omega)]
        show ((if (0 : Int) < 1 then (k : Int) else 1), (k : Int)) = (lo, min (((k + 1 : Nat) : Int) - 1) hi)
        rw [if_pos (show (0 : Int) < 1 by omega)]
        exact Prod.ext (show (k : Int) = lo by omega) (show (k : Int) = min (((k + 1 : Nat) : Int) - 1) hi by omega)
      · rw [if_neg (fun hh => hv ((h k).1 hh)), if_neg (by omega)]
theorem bP_nonneg {c : Clo} (ok : OkH c) {tr : List (List Int)} (hdry : ∀ d ∈ tr, IsDry c d) (hne : tr ≠ []) {p : List Int} (hp : IsPl c p) {i : Nat} (hi : i < c.horses.length) : 1 ≤ (bP (fun d => minuteR c p d i) tr).2 := by
  obtain ⟨_, _, ⟨d, b, e⟩⟩ := bP_spec (fun d => minuteR c p d i) hne
  have := minuteR_range ok (p := p) (by have := hp.len; omega) (hdry d b) i hi
  (try dsimp only at *)
  omega
/-- the good minutes are the same, where there are any -/
theorem goodR_eq {c : Clo} (ok : OkC c) {l tr : List (List Int)} (h : ∀ d, d ∈ l ↔ d ∈ tr) (hne : tr ≠ []) (hdry : ∀ d ∈ tr, IsDry c d) {p : List Int} (hp : IsPl c p) {i : Nat} (hi : i < c.horses.length) :
    goodR c l p i = if (goodP c tr p i).2 < (goodP c tr p i).1 then (1, 0) else goodP c tr p i := by
  have h1 := bP_nonneg ok.toOkH hdry hne hp hi
  have h2 := ok.close
  unfold goodR
  rw [goodTo (lo := (bP (fun d => minuteR c p d i) tr).2) (hi := (bP (fun d => minuteR c p d i + graceAt c i) tr).1) (by omega) (verdict_bP h hne p i)]
  unfold goodP
  generalize (bP (fun d => minuteR c p d i) tr).2 = a at *
  generalize (bP (fun d => minuteR c p d i + graceAt c i) tr).1 = b at *
  dsimp only
  by_cases hk : a < ((c.close + 1).toNat : Int) ∧ a ≤ b
  · rw [if_pos hk, if_neg (by omega)]
    apply Prod.ext <;> dsimp only <;> omega
  · rw [if_neg hk, if_pos (by omega)]
theorem noGood_eq {c : Clo} (ok : OkC c) {l tr : List (List Int)} (h : ∀ d, d ∈ l ↔ d ∈ tr) (hne : tr ≠ []) (hdry : ∀ d ∈ tr, IsDry c d) {p : List Int} (hp : IsPl c p) {i : Nat} (hi : i < c.horses.length) :
    noGood c l p i = decide ((goodP c tr p i).2 < (goodP c tr p i).1) := by
  unfold noGood
  rw [goodR_eq ok h hne hdry hp hi]
  split
  · simp [*]
  · rfl

theorem doneG_spec (G : Nat → Int × Int) : ∀ (k i : Nat) (n : Int),
    (∃ j, i ≤ j ∧ j < i + k ∧ (G j).2 < (G j).1 ∧ (∀ t, i ≤ t → t < j → ¬ (G t).2 < (G t).1) ∧ doneG G k i n = (0, (j : Int))) ∨
    ((∀ t, i ≤ t → t < i + k → ¬ (G t).2 < (G t).1) ∧ doneG G k i n = ((List.range' i k).foldl (fun n t => max n (G t).1) n, ((i + k : Nat) : Int)))
  | 0, i, n => .inr ⟨fun t h1 h2 => by omega, by simp [doneG]⟩
  | k + 1, i, n => by
    by_cases hb : (G i).2 < (G i).1
    · exact .inl ⟨i, by omega, by omega, hb, fun t h1 h2 => by omega, by simp [doneG, hb]⟩
    · have e : doneG G (k + 1) i n = doneG G k (i + 1) (max n (G i).1) := by simp [doneG, hb]
      rcases doneG_spec G k (i + 1) (max n (G i).1) with ⟨j, h1, h2, h3, h4, h5⟩ | ⟨h1, h2⟩
      · refine .inl ⟨j, by omega, by omega, h3, fun t ht1 ht2 => ?_, by rw [e, h5]⟩
        rcases Nat.eq_or_lt_of_le ht1 with rfl | hlt
        · exact hb
        · exact h4 t hlt ht2
      · refine .inr ⟨fun t ht1 ht2 => ?_, ?_⟩
        · rcases Nat.eq_or_lt_of_le ht1 with rfl | hlt
          · exact hb
          · exact h1 t hlt (by omega)
        · rw [e, h2, List.range'_succ, List.foldl_cons, show i + 1 + k = i + (k + 1) by omega]
/-- the first horse without a good minute; the minute in which all can be taken out -/
theorem doneP_spec {c : Clo} (ok : OkC c) {l tr : List (List Int)} (h : ∀ d, d ∈ l ↔ d ∈ tr) (hne : tr ≠ []) (hdry : ∀ d ∈ tr, IsDry c d) {p : List Int} (hp : IsPl c p) :
    (∃ j : Nat, j < c.horses.length ∧ stuckR c l p = j ∧ doneP c tr p = (0, (j : Int))) ∨
    (stuckR c l p = -1 ∧ doneP c tr p = (doneR c l p, (c.horses.length : Int)) ∧ ∀ i, i < c.horses.length → goodR c l p i = goodP c tr p i ∧ (goodP c tr p i).1 ≤ (goodP c tr p i).2) := by
  have hn := fun {i : Nat} (hi : i < c.horses.length) => noGood_eq ok h hne hdry hp hi
  unfold doneP
  rcases doneG_spec (goodP c tr p) c.horses.length 0 0 with ⟨j, _, h2, h3, h4, h5⟩ | ⟨h1, h2⟩
  · left
    refine ⟨j, by omega, ?_, h5⟩
    unfold stuckR
    rw [find_range_some (j := j) (by omega) (by rw [hn (by omega)]; simpa using h3) fun t ht => by rw [hn (by omega)]; simpa using h4 t (Nat.zero_le _) ht]
  · right
    have hg : ∀ i, i < c.horses.length → goodR c l p i = goodP c tr p i := fun i hi => by
      rw [goodR_eq ok h hne hdry hp hi, if_neg (h1 i (Nat.zero_le _) (by omega))]
    refine ⟨?_, ?_, fun i hi => ⟨hg i hi, by have := h1 i (Nat.zero_le _) (by omega); omega⟩⟩
    · unfold stuckR
      rw [find_range_none fun t ht => by rw [hn ht]; simpa using h1 t (Nat.zero_le _) (by omega)]
    · rw [h2, Nat.zero_add]
      unfold doneR
      rw [List.range_eq_range']
      have key : ∀ (xs : List Nat) (a : Int), (∀ x ∈ xs, x < c.horses.length) → xs.foldl (fun n t => max n (goodP c tr p t).1) a = xs.foldl (fun n t => max n (goodR c l p t).1) a := by
        intro xs
        induction xs with
        | nil => intro a _; rfl
        | cons x xs ih =>
          intro a hx
          simp only [List.foldl_cons, hg x (hx x List.mem_cons_self)]
          exact ih _ fun y hy => hx y (List.mem_cons_of_mem _ hy)
      rw [key _ _ fun x hx => by simpa using (List.mem_range'_1.1 hx).2]
end Go.Proofs.Ytnlbgaippnjmiaa

/- The best placement: the program's enumeration is the reference's. -/
namespace Go.Proofs.Ytnlbgaippnjmiaa

/-- all lists of k numbers below m, in lexicographic order -/
def lexAll (m : Nat) : Nat → List (List Int)
  | 0 => [[]]
  | k + 1 => (List.range m).flatMap fun (i : Nat) => (lexAll m k).map ((i : Int) :: ·)
theorem lexAll_last (m : Nat) : ∀ k, lexAll m (k + 1) = (lexAll m k).flatMap fun l => (List.range m).map fun (i : Nat) => l ++ [(i : Int)]
  | 0 => by simp only [lexAll, List.map_cons, List.map_nil, List.flatMap_cons, List.flatMap_nil, List.append_nil, List.nil_append]; rw [List.map_eq_flatMap]
  | k + 1 => by
    have ih := lexAll_last m k
    have e1 : lexAll m (k + 1 + 1) = (List.range m).flatMap fun (i : Nat) => (lexAll m (k + 1)).map ((i : Int) :: ·) := rfl
    have e2 : lexAll m (k + 1) = (List.range m).flatMap fun (i : Nat) => (lexAll m k).map ((i : Int) :: ·) := rfl
    have e3 : (fun (i : Nat) => (lexAll m (k + 1)).map ((i : Int) :: ·)) = fun (i : Nat) => ((lexAll m k).flatMap fun l => (List.range m).map fun (j : Nat) => l ++ [(j : Int)]).map ((i : Int) :: ·) := by rw [ih]
    rw [e1, e3, e2]
    simp only [List.map_flatMap, List.flatMap_assoc, List.flatMap_map, List.map_map]
    rfl
theorem placeAux_append (m : Int) : ∀ (k : Nat) (n : Int) (acc : List Int), placeAux m k n acc = placeAux m k n [] ++ acc
  | 0, _, _ => rfl
  | k + 1, n, acc => by
    simp only [placeAux]
    rw [placeAux_append m k _ (n % m :: acc), placeAux_append m k _ [n % m]]; simp
theorem placeAux_lex (m : Nat) (hm : 0 < m) : ∀ k, (List.range (m ^ k)).map (fun (n : Nat) => placeAux (m : Int) k n []) = lexAll m k
  | 0 => by simp [placeAux, lexAll]
  | k + 1 => by
    rw [Nat.pow_succ, Nat.mul_comm, range_mul_, List.map_flatMap, lexAll_last, ← placeAux_lex m hm k, List.flatMap_map]
    congr 1
    funext j
    rw [List.map_map]
    apply List.map_congr_left
    intro i hi
    have hi' : i < m := by simpa using hi
    have e1 : ((i + m * j : Nat) : Int) % (m : Int) = i := by rw [← Int.natCast_emod, Nat.add_mul_mod_self_left, Nat.mod_eq_of_lt hi']
    have e2 : ((i + m * j : Nat) : Int) / (m : Int) = j := by rw [← Int.natCast_ediv, Nat.add_mul_div_left _ _ hm, Nat.div_eq_of_lt hi', Nat.zero_add]
    simp only [Function.comp, placeAux, e1, e2]
    rw [placeAux_append]
/-- the placements, as the program goes through them -/
def hangL (m : Nat) : Nat → List Int → List (List Int)
  | 0, now => [now]
  | k + 1, now => (List.range m).flatMap fun (i : Nat) => if now.contains (i : Int) then [] else hangL m k (now ++ [(i : Int)])
theorem hangL_lex (m : Nat) : ∀ (k : Nat) (now : List Int), now.Nodup → hangL m k now = ((lexAll m k).map (now ++ ·)).filter fun l => decide l.Nodup
  | 0, now, h => by simp [hangL, lexAll, h]
  | k + 1, now, h => by
    simp only [hangL, lexAll, List.map_flatMap, List.filter_flatMap, List.map_map]
    congr 1
    funext i
    have e : ((now ++ ·) ∘ ((i : Int) :: ·) : List Int → List Int) = ((now ++ [(i : Int)]) ++ ·) := by funext l; simp
    rw [e]
    cases hc : now.contains (i : Int) with
    | true =>
      have hmem := List.contains_iff_mem.1 hc
      rw [if_pos rfl]
      symm
      rw [List.filter_eq_nil_iff]
      intro l hl
      obtain ⟨t, _, rfl⟩ := List.mem_map.1 hl
      simp only [decide_eq_true_eq, List.append_assoc, List.nodup_append]
      intro hh
      exact hh.2.2 (i : Int) hmem (i : Int) (by simp) rfl
    | false =>
      have hmem : (i : Int) ∉ now := fun hh => by rw [List.contains_iff_mem.2 hh] at hc; cases hc
      rw [if_neg (by simp)]
      refine hangL_lex m k _ ?_
      rw [List.nodup_append]
      exact ⟨h, by simp, fun a ha b hb e => by simp at hb; subst hb; subst e; exact hmem ha⟩
theorem lexAll_mem (m : Nat) : ∀ (k : Nat) (l : List Int), l ∈ lexAll m k → l.length = k ∧ ∀ x ∈ l, 0 ≤ x ∧ x < (m : Int)
  | 0, l, h => by simp [lexAll] at h; subst h; simp
  | k + 1, l, h => by
    simp only [lexAll, List.mem_flatMap, List.mem_range, List.mem_map] at h
    obtain ⟨i, hi, t, ht, rfl⟩ := h
    obtain ⟨h1, h2⟩ := lexAll_mem m k t ht
    refine ⟨by simp [h1], fun x hx => ?_⟩
    rcases List.mem_cons.1 hx with rfl | hx
    · omega
    · exact h2 x hx
theorem hangL_isPl {c : Clo} (ok : OkH c) : ∀ p ∈ hangL c.closets.toNat c.horses.length [], IsPl c p := fun p hp => by
  have hc1 := ok.cl1
  rw [hangL_lex _ _ _ List.nodup_nil, List.mem_filter] at hp
  obtain ⟨t, ht, rfl⟩ := List.mem_map.1 hp.1
  obtain ⟨h1, h2⟩ := lexAll_mem _ _ _ ht
  exact ⟨by simpa using h1, fun x hx => by have := h2 x (by simpa using hx); omega, by simpa using hp.2⟩
theorem hangL_places {c : Clo} (ok : OkH c) : ((List.range (places c).toNat).map fun (n : Nat) => placeN c n).filter (isPlaceB c) = hangL c.closets.toNat c.horses.length [] := by
  have hc1 := ok.cl1
  have hc4 := ok.cl4
  obtain ⟨m, hm⟩ : ∃ m : Nat, c.closets = (m : Int) := ⟨c.closets.toNat, by omega⟩
  have e1 : (places c).toNat = m ^ c.horses.length := by unfold places; rw [hm, ← Int.natCast_pow]; rfl
  have e2 : (fun (n : Nat) => placeN c n) = fun (n : Nat) => placeAux (m : Int) c.horses.length n [] := by funext n; unfold placeN; rw [hm]
  rw [e1, e2, placeAux_lex m (by omega), hm, Int.toNat_natCast, hangL_lex _ _ _ List.nodup_nil]
  simp only [List.nil_append, List.map_id']
  apply List.filter_congr
  intro l hl
  obtain ⟨h1, h2⟩ := lexAll_mem _ _ _ hl
  rw [Bool.eq_iff_iff, isPlaceB_iff ok.cl1 ok.cl4, decide_eq_true_eq]
  exact ⟨fun h => h.nodup, fun h => ⟨h1, fun x hx => by have := h2 x hx; omega, h⟩⟩

/-- the program's step at a placement -/
def bestStepP (c : Clo) (tr : List (List Int)) (b : Option (List Int × Int)) (p : List Int) : Option (List Int × Int) :=
  if (doneP c tr p).2 = c.horses.length then
    match b with
    | none => some (p, (doneP c tr p).1)
    | some q => if (doneP c tr p).1 < q.2 then some (p, (doneP c tr p).1) else b
  else b
def bestP (c : Clo) (tr : List (List Int)) : Option (List Int × Int) := (hangL c.closets.toNat c.horses.length []).foldl (bestStepP c tr) none
theorem bestR_eq {c : Clo} (ok : OkC c) {l tr : List (List Int)} (h : ∀ d, d ∈ l ↔ d ∈ tr) (hne : tr ≠ []) (hdry : ∀ d ∈ tr, IsDry c d) : bestR c l = bestP c tr := by
  unfold bestP
  rw [← hangL_places ok.toOkH]
  unfold bestR
  generalize (none : Option (List Int × Int)) = b
  induction (List.range (places c).toNat) generalizing b with
  | nil => rfl
  | cons n ns ih =>
    rw [List.foldl_cons, ih, List.map_cons, List.filter_cons]
    cases hp : isPlaceB c (placeN c n) with
    | false =>
      rw [if_neg (by simp)]
      have e : bestStep c l b n = b := by unfold bestStep; rw [if_pos (.inl hp)]
      rw [e]
    | true =>
      rw [if_pos rfl, List.foldl_cons]
      have hpl := (isPlaceB_iff ok.cl1 ok.cl4 _).1 hp
      have e : bestStep c l b n = bestStepP c tr b (placeN c n) := by
        unfold bestStep bestStepP
        rcases doneP_spec ok h hne hdry hpl with ⟨j, h1, h2, h3⟩ | ⟨h1, h2, _⟩
        · rw [if_pos (.inr (by omega)), h3, if_neg (by simp only; omega)]
        · rw [if_neg (by simp [hp, h1]), h2, if_pos rfl]; cases b <;> rfl
      rw [e]

/-! ### the best look -/
/-- how many truths a look leaves, as the program counts -/
def dryP (c : Clo) (tr : List (List Int)) (h : Nat) (m : Int) : Nat := tr.countP fun d => decide (minuteR c c.hung d h ≤ m)
def leavesP (c : Clo) (tr : List (List Int)) (h m : Nat) : Int := max (dryP c tr h m : Int) ((tr.length : Int) - dryP c tr h m)
def askP (c : Clo) (tr : List (List Int)) : Int × Int × Int := askAll (leavesP c tr) c.horses.length (0, 0, (tr.length : Int) + 1)
theorem leaves_perm {c : Clo} {l tr : List (List Int)} (h : List.Perm tr l) (i : Nat) (m : Nat) : leaves c l i m = leavesP c tr i m := by
  unfold leaves leavesP dryP
  rw [h.countP_eq, h.length_eq]
theorem askAll_init (f : Nat → Nat → Int) (n : Nat) (hn : 0 < n) (a b : Int) (ha : f 0 0 < a) (hb : f 0 0 < b) : askAll f n (0, 0, a) = askAll f n (0, 0, b) := by
  obtain ⟨n, rfl⟩ : ∃ m, n = m + 1 := ⟨n - 1, by omega⟩
  have key : ∀ x : Int, f 0 0 < x → (List.range 100).foldl (askStep f 0) (0, 0, x) = (List.range' 1 99).foldl (askStep f 0) (0, 0, f 0 0) := by
    intro x hx
    have e : List.range 100 = 0 :: List.range' 1 99 := by decide
    rw [e, List.foldl_cons]
    congr 1
    unfold askStep
    rw [if_pos hx]; rfl
  unfold askAll
  have e : List.range (n + 1) = 0 :: (List.range n).map Nat.succ := List.range_succ_eq_map
  rw [e, List.foldl_cons, List.foldl_cons, key a ha, key b hb]
theorem askR_eq {c : Clo} {l tr : List (List Int)} (h : List.Perm tr l) (hh : 0 < c.horses.length) (hl : tr.length ≤ 1000000) : askR c l = askP c tr := by
  unfold askR askP
  have e : (fun h m => leaves c l h ((m : Nat) : Int)) = leavesP c tr := by funext i m; exact leaves_perm h i m
  rw [e]
  have hc : dryP c tr 0 ((0 : Nat) : Int) ≤ tr.length := List.countP_le_length
  apply askAll_init _ _ hh
  · unfold leavesP; omega
  · unfold leavesP; omega
end Go.Proofs.Ytnlbgaippnjmiaa

/- The program's dry: a map keyed by a horse and a minute: walk. -/
namespace Go.Proofs.Ytnlbgaippnjmiaa
open Go Go.RowKit Go.Maps

/-! ### spots as keys -/
theorem laidOut_ : laidOutB Try.prog = true := by kernel_rfl
theorem row_spot : (165 : TypeId) < Try.prog.types.size := of_decide_eq_true (by kernel_rfl)
theorem cells_spot : Try.prog.cellsOf 165 = 2 := by kernel_rfl
theorem wide_spot : (match Try.prog.underlying 165 with | some (.array _ _) | some (.struct _) => true | _ => false) = true := by kernel_rfl
theorem deep_spot : Try.prog.keyTypeAt 2 165 = true := by kernel_rfl
set_option maxRecDepth 100000 in
theorem law_spot : Keyed Try.prog 165 := Keyed.of_law (deep_law_laid (P := Try.prog) laidOut_ (m := 2) (Nat.le_of_ble_eq_true rfl) row_spot deep_spot wide_spot)
def kl (h m : Int) : Lit := .string (keyBytes [.int .i64 h, .int .i64 m])
theorem size_succ : ∃ m, Try.prog.types.size = m + 1 + 1 := ⟨Try.prog.types.size - 2, by
  have h : (165 : Nat) < Try.prog.types.size := row_spot
  omega⟩
theorem keyOf_spot {h m : Int} (wh : (Lit.int .i64 h).wf = true) (wm : (Lit.int .i64 m).wf = true) : keyOf Try.prog 165 (.agg #[.int .i64 h, .int .i64 m]) = some (kl h m) := by
  have hkt : Try.prog.keyType 165 = true := by kernel_rfl
  have hi : Try.prog.underlying 3 = some (.int .i64) := by kernel_rfl
  have hci : Try.prog.cellsOf 3 = 1 := by kernel_rfl
  obtain ⟨k, hk⟩ := size_succ
  unfold keyOf
  simp only [Try.underlying165]
  rw [if_pos (by simp [hkt, Value.formed, Try.underlying165, cells_spot]), hk]
  unfold Program.keyLits
  simp only [Try.underlying165, Value.cells]
  rw [if_pos (by rw [cells_spot]; exact ⟨rfl, by kernel_rfl⟩)]
  simp [List.mapM_cons, hci, Program.keyLits, hi, wh, wm, kl]
theorem kl_inj {h m h' m' : Int} (wh : (Lit.int .i64 h).wf = true) (wm : (Lit.int .i64 m).wf = true) (wh' : (Lit.int .i64 h').wf = true) (wm' : (Lit.int .i64 m').wf = true) (e : kl h m = kl h' m') : h = h' ∧ m = m' := by
  have := law_spot.inj (keyOf_spot wh wm) (by rw [e]; exact keyOf_spot wh' wm')
  simp only [Value.agg.injEq, Array.mk.injEq, List.cons.injEq, Value.int.injEq, true_and, and_true] at this
  exact this

/-! ### a map apart: all else lies as it lay -/
theorem Reads.but {g : Nat} {A B : World} {size : Nat} {a : Option Addr} {n : Nat} {xs : List Value} {es : Array MapEntry} {cl : Nat} (h : Reads A A.heap.size size a n xs) (hs : 0 < size) (hm : A.heap[g]? = some (.map es cl)) (k : But g A B) : Reads B B.heap.size size a n xs := by
  refine ⟨h.1, fun hn => ?_⟩
  obtain ⟨b, o, rfl, hb, hc⟩ := Reads.lit h hs hn
  have hl : 0 < xs.length := by rw [h.1]; exact Nat.mul_pos hn hs
  have hne : b ≠ g := by
    intro e
    subst e
    have := hc 0 _ (List.getElem?_eq_getElem hl)
    unfold World.cell? at this
    simp only [hm] at this
    cases this
  refine ⟨_, rfl, Nat.lt_of_lt_of_le hb k.size, fun j u hu => ?_⟩
  rw [add_lit]
  exact (World.cell?_of_block (a := ⟨b, o + j, none⟩) (k.block b hb hne)).trans (hc j u hu)
theorem WK.but {g : Nat} {A B : World} {es : Array MapEntry} {cl : Nat} {bw : Nat} {c : Clo} {A1 A2 A3 At : Option Addr} {n1 k1 n2 k2 n3 k3 nt kt : Nat} {tr : List (List Int)} {vm : Value}
    (h : WK A bw c A1 n1 k1 A2 n2 k2 A3 n3 k3 At nt kt tr vm) (hm : A.heap[g]? = some (.map es cl)) (k : But g A B) : WK B bw c A1 n1 k1 A2 n2 k2 A3 n3 k3 At nt kt tr vm := by
  have hne : bw ≠ g := by
    intro e
    subst e
    have := h.cells 0
    unfold World.cell? at this
    simp only [hm] at this
    cases this
  exact ⟨fun i => (World.cell?_of_block (a := ⟨bw, i, none⟩) (k.block bw h.lt hne)).trans (h.cells i), Nat.lt_of_lt_of_le h.lt k.size,
    ⟨Reads.but h.cv.hs (by omega) hm k, Reads.but h.cv.hu (by omega) hm k, Reads.but h.cv.lk (by omega) hm k⟩, Reads.but h.tr (by omega) hm k⟩
theorem But.of_grown {g : Nat} {A B : World} (h : A.grownBy B (some g)) : But g A B := ⟨h.os, h.tape, h.output, h.size, fun b hb hne => h.block b hb fun e => hne (by injection e)⟩

/-- how the map of known numbers reads -/
def Known (w : World) (bm n : Nat) (D : DataW Unit) : Prop := w.ownsMap Try.prog 165 (plainElem Try.prog 3) bm n D
theorem Known.heap {w : World} {bm n : Nat} {D : DataW Unit} (h : Known w bm n D) : ∃ es cl, w.heap[bm]? = some (.map es cl) := by
  obtain ⟨es, cl, hb, _⟩ := h
  exact ⟨es, cl, hb⟩
theorem Known.later {w W : World} {bm n : Nat} {D : DataW Unit} (h : Known w bm n D) (hL : Later w W) : Known W bm n D := by
  obtain ⟨es, cl, hb, rest⟩ := h
  exact ⟨es, cl, (hL.block bm (Array.getElem?_eq_some_iff.1 hb).1).trans hb, rest⟩
theorem Known.made {w : World} {bm : Nat} (h : w.heap[bm]? = some (.map #[] 0)) : Known w bm 0 (.map []) := by
  obtain ⟨es, cl, hb, rest⟩ := World.ownsMap_made (H := Unit) w Try.prog 165 (plainElem Try.prog 3)
  have := heap_alloc_new w (.map #[] 0)
  rw [this] at hb
  injection hb with hb
  injection hb with h1 h2
  subst h1 h2
  exact ⟨#[], 0, h, rest⟩
theorem zero_int (w : World) : (zeroValue 3).run Try.prog w = .ok (.int .i64 0) w := by kernel_rfl
theorem und_int : Try.prog.underlying 3 = some (.int .i64) := by kernel_rfl
theorem und_map : Try.prog.underlying 100 = some (.map 165 3) := by kernel_rfl
/-- a spot that is not known reads as 0, false -/
theorem look_new {w : World} {bm n : Nat} {D : DataW Unit} {h m : Int} (hk : Known w bm n D) (wh : (Lit.int .i64 h).wf = true) (wm : (Lit.int .i64 m).wf = true) (hn : Maps.has D (kl h m) = false) :
    (Instr.lookup 100 (.map (some bm)) (.agg #[.int .i64 h, .int .i64 m]) true).run Try.prog w = .ok (.tuple #[.int .i64 0, .bool false]) w := by
  obtain ⟨v, ps, hrun, hv⟩ := World.ownsMap.look_ok hk law_spot und_map (zero_int w) (plainElem_int und_int (by decide)) (keyOf_spot wh wm)
  rw [hn] at hrun
  rw [atKey_of_not_has hn] at hv
  obtain ⟨c, rfl, hc, _⟩ := plainElem_int_inv und_int hv
  simp only [Prod.mk.injEq, DataW.lit.injEq, Lit.int.injEq, true_and] at hc
  rw [← hc.1] at hrun
  exact hrun
end Go.Proofs.Ytnlbgaippnjmiaa

/- The program's dry: walk. -/
namespace Go.Proofs.Ytnlbgaippnjmiaa
open Go Go.RowKit Go.Maps

def DryPost (bm n : Nat) (D : DataW Unit) (h m q : Int) (w : World) (e : Ending) (w' : World) : Prop :=
  e = .returned (.int .i64 q) ∧ But bm w w' ∧ Known w' bm (n + 1) (D.put (kl h m) (.lit (.int .i64 q)))

end Go.Proofs.Ytnlbgaippnjmiaa

/- Folds of the best look: plain. -/
namespace Go.Proofs.Ytnlbgaippnjmiaa
def askTo (f : Nat → Nat → Int) (i : Nat) (r : Int × Int × Int) : Int × Int × Int := (List.range i).foldl (fun r h => (List.range 100).foldl (askStep f h) r) r
theorem askTo_succ (f : Nat → Nat → Int) (i : Nat) (r : Int × Int × Int) : askTo f (i + 1) r = (List.range 100).foldl (askStep f i) (askTo f i r) := by
  unfold askTo; rw [show List.range (i + 1) = List.range i ++ [i] from List.range_succ, List.foldl_append]; simp only [List.foldl_cons, List.foldl_nil]
def askIn (f : Nat → Nat → Int) (i j : Nat) (r : Int × Int × Int) : Int × Int × Int := (List.range j).foldl (askStep f i) r
theorem askIn_succ (f : Nat → Nat → Int) (i j : Nat) (r : Int × Int × Int) : askIn f i (j + 1) r = askStep f i (askIn f i j r) j := by
  unfold askIn; rw [show List.range (j + 1) = List.range j ++ [j] from List.range_succ, List.foldl_append]; simp only [List.foldl_cons, List.foldl_nil]
end Go.Proofs.Ytnlbgaippnjmiaa

/- The program's Ask: walk. -/
namespace Go.Proofs.Ytnlbgaippnjmiaa
open Go Go.RowKit Go.Maps

/-- what Ask returns -/
def askOut (c : Clo) : Int × Int × Int × Int :=
  if askedErr c true ≠ 0 then (0, 0, 0, askedErr c true) else if c.horses.length = 0 then (0, 0, 0, 7)
  else ((askP c (truthsP c)).1, (askP c (truthsP c)).2.1, (askP c (truthsP c)).2.2, 0)
/-- the spots from (i, j) on are not known -/
def NewFrom (D : DataW Unit) (i j : Nat) : Prop := ∀ h m : Nat, h ≤ 4 → m ≤ 99 → (i < h ∨ (h = i ∧ j ≤ m)) → Maps.has D (kl h m) = false
theorem NewFrom.put {D : DataW Unit} {i j : Nat} (hi : i ≤ 4) (hj : j ≤ 99) (h : NewFrom D i j) (d : DataW Unit) : NewFrom (D.put (kl i j) d) i (j + 1) := by
  intro x y hx hy hxy
  rw [has_put_other]
  · exact h x y hx hy (by omega)
  · intro e
    have := kl_inj (WalkArith.wf_i64 (by omega)) (WalkArith.wf_i64 (by omega)) (WalkArith.wf_i64 (by omega)) (WalkArith.wf_i64 (by omega)) e
    omega
theorem NewFrom.next {D : DataW Unit} {i : Nat} (h : NewFrom D i 100) : NewFrom D (i + 1) 0 := fun x y hx hy hxy => h x y hx hy (by omega)
theorem NewFrom.nil : NewFrom (.map []) 0 0 := fun _ _ _ _ _ => rfl

end Go.Proofs.Ytnlbgaippnjmiaa

/- The program's Best: the closure hang: walks. -/
namespace Go.Proofs.Ytnlbgaippnjmiaa
open Go Go.RowKit

/-- all that lay at W lies as it lay, but for the blocks of S -/
structure ButS (S : Nat → Prop) (W W' : World) : Prop where
  os : W'.os = W.os
  tape : W'.tape = W.tape
  output : W'.output = W.output
  size : W.heap.size ≤ W'.heap.size
  block : ∀ b, b < W.heap.size → ¬ S b → W'.heap[b]? = W.heap[b]?
section
variable {S : Nat → Prop} {A B C w : World}
theorem ButS.refl (W : World) : ButS S W W := ⟨rfl, rfl, rfl, Nat.le_refl _, fun _ _ _ => rfl⟩
theorem ButS.of_later (h : Later A B) : ButS S A B := ⟨h.os, h.tape, h.output, h.size, fun b hb _ => h.block b hb⟩
theorem ButS.trans (h : ButS S A B) (k : ButS S B C) : ButS S A C :=
  ⟨k.os.trans h.os, k.tape.trans h.tape, k.output.trans h.output, Nat.le_trans h.size k.size, fun b hb hne => (k.block b (Nat.lt_of_lt_of_le hb h.size) hne).trans (h.block b hb hne)⟩
theorem ButS.set_ (h : ButS S A B) {g : Nat} (hg : S g) (i : Nat) (u : Value) : ButS S A (B.setCell ⟨g, i, none⟩ u) :=
  h.trans ⟨rfl, rfl, rfl, by simp, fun b _ hne => Below.heap_setCell B ⟨g, i, none⟩ u b (fun e => hne (by rw [e]; exact hg))⟩
theorem ButS.later (h : ButS S A B) (hL : Later w A) (hg : ∀ b, S b → w.heap.size ≤ b) : Later w B :=
  ⟨h.os.trans hL.os, h.tape.trans hL.tape, h.output.trans hL.output, Nat.le_trans hL.size h.size, fun b hb => (h.block b (Nat.lt_of_lt_of_le hb hL.size) (fun e => by have := hg b e; omega)).trans (hL.block b hb)⟩
theorem ButS.blk {b : Nat} {t : TypeId} {cs : Array Value} (h : ButS S A B) (k : Blk A b t cs) (hne : ¬ S b) : Blk B b t cs := (h.block b k.lt hne).trans k
/-- a slice's block is none of S -/
def Apart (S : Nat → Prop) (a : Option Addr) (n : Nat) : Prop := 0 < n → ∀ b o, a = some ⟨b, o, none⟩ → ¬ S b
theorem Reads.butS {size : Nat} {a : Option Addr} {n : Nat} {xs : List Value} (h : Reads A A.heap.size size a n xs) (hs : 0 < size) (k : ButS S A B) (ha : Apart S a n) : Reads B B.heap.size size a n xs := by
  refine ⟨h.1, fun hn => ?_⟩
  obtain ⟨b, o, rfl, hb, hc⟩ := Reads.lit h hs hn
  refine ⟨_, rfl, Nat.lt_of_lt_of_le hb k.size, fun j u hu => ?_⟩
  rw [add_lit]
  exact (World.cell?_of_block (a := ⟨b, o + j, none⟩) (k.block b hb (ha hn b o rfl))).trans (hc j u hu)
theorem WK.butS {bw : Nat} {c : Clo} {A1 A2 A3 At : Option Addr} {n1 k1 n2 k2 n3 k3 nt kt : Nat} {tr : List (List Int)} {vm : Value}
    (h : WK A bw c A1 n1 k1 A2 n2 k2 A3 n3 k3 At nt kt tr vm) (k : ButS S A B) (hb : ¬ S bw) (a1 : Apart S A1 n1) (a2 : Apart S A2 n2) (a3 : Apart S A3 n3) (at_ : Apart S At nt) : WK B bw c A1 n1 k1 A2 n2 k2 A3 n3 k3 At nt kt tr vm :=
  ⟨fun i => (World.cell?_of_block (a := ⟨bw, i, none⟩) (k.block bw h.lt hb)).trans (h.cells i), Nat.lt_of_lt_of_le h.lt k.size,
    ⟨Reads.butS h.cv.hs (by omega) k a1, Reads.butS h.cv.hu (by omega) k a2, Reads.butS h.cv.lk (by omega) k a3⟩, Reads.butS h.tr (by omega) k at_⟩
theorem Reads.apart {size : Nat} {a : Option Addr} {n : Nat} {xs : List Value} (h : Reads A A.heap.size size a n xs) (hs : 0 < size) (hS : ∀ b, S b → A.heap.size ≤ b) : Apart S a n := fun hn b o e hb => by
  obtain ⟨b', o', e', hlt, _⟩ := Reads.lit h hs hn
  rw [e] at e'
  obtain ⟨rfl, _⟩ := some_lit e'
  have := hS b hb
  omega
end

/-- a slice of integers: its block is one of int, from block B on -/
def TypedI (B : Nat) (W : World) (A : Option Addr) (n : Nat) : Prop := 0 < n → ∀ b o, A = some ⟨b, o, none⟩ → B ≤ b ∧ ∃ cs, Blk W b 3 cs
theorem TypedI.later {B : Nat} {W X : World} {A : Option Addr} {n : Nat} (h : TypedI B W A n) (k : Later W X) : TypedI B X A n := fun hn b o e => let ⟨hl, cs, hb⟩ := h hn b o e; ⟨hl, cs, hb.later k⟩
theorem TypedI.butS {B : Nat} {S : Nat → Prop} {W X : World} {A : Option Addr} {n : Nat} (h : TypedI B W A n) (k : ButS S W X) (ha : Apart S A n) : TypedI B X A n := fun hn b o e => let ⟨hl, cs, hb⟩ := h hn b o e; ⟨hl, cs, k.blk hb (ha hn b o e)⟩
theorem TypedI.zero (B : Nat) (W : World) (A : Option Addr) : TypedI B W A 0 := fun h => absurd h (Nat.not_lt_zero _)
theorem TypedI.le {B C : Nat} {W : World} {A : Option Addr} {n : Nat} (h : TypedI B W A n) (hl : C ≤ B) : TypedI C W A n := fun hn b o e => let ⟨h1, h2⟩ := h hn b o e; ⟨Nat.le_trans hl h1, h2⟩
theorem TypedI.of_own {B : Nat} {W : World} {base size : Nat} {A : Option Addr} {n k m : Nat} {xs : List Value} (hB : B ≤ base) (h : W.ownsRow base 3 size (.slice A n k) m xs) : TypedI B W A n := fun _ b o he => by
  subst he
  rcases h.2 with ⟨h', _⟩ | ⟨g, cap, cur, h', hl, hg, _⟩
  · cases h'
  · injection h' with h1
    injection h1 with h1
    injection h1 with h1 h2
    subst h1
    exact ⟨Nat.le_trans hB hl, cur, hg⟩
/-- the best placement so far, in memory -/
structure BS (S : Nat → Prop) (B0 bp bd bo : Nat) (W : World) (b : Option (List Int × Int)) (dv : Int) (A : Option Addr) (n k : Nat) : Prop where
  fo : Blk W bo 4 #[.bool b.isSome]
  dn : Blk W bd 3 #[.int .i64 dv]
  pl : Blk W bp 23 #[.slice A n k]
  is : ∀ q, b = some q → dv = q.2 ∧ RI W A n q.1 ∧ n ≤ k ∧ Apart S A n ∧ TypedI B0 W A n
theorem BS.later {S : Nat → Prop} {B0 bp bd bo : Nat} {W W' : World} {b : Option (List Int × Int)} {dv : Int} {A : Option Addr} {n k : Nat} (h : BS S B0 bp bd bo W b dv A n k) (hL : Later W W') : BS S B0 bp bd bo W' b dv A n k :=
  ⟨h.fo.later hL, h.dn.later hL, h.pl.later hL, fun q hq => let ⟨h1, h2, h3, h4, h5⟩ := h.is q hq; ⟨h1, h2.later hL, h3, h4, h5.later hL⟩⟩

def hangTo (m k : Nat) (now : List Int) (i : Nat) : List (List Int) := (List.range i).flatMap fun (i : Nat) => if now.contains (i : Int) then [] else hangL m k (now ++ [(i : Int)])
theorem hangTo_skip {m k : Nat} {now : List Int} {i : Nat} (h : now.contains (i : Int) = true) : hangTo m k now (i + 1) = hangTo m k now i := by
  unfold hangTo
  rw [show List.range (i + 1) = List.range i ++ [i] from List.range_succ, List.flatMap_append]
  simp only [List.flatMap_cons, List.flatMap_nil, h, if_true, List.append_nil]
theorem hangTo_more {m k : Nat} {now : List Int} {i : Nat} (h : now.contains (i : Int) = false) : hangTo m k now (i + 1) = hangTo m k now i ++ hangL m k (now ++ [(i : Int)]) := by
  unfold hangTo
  rw [show List.range (i + 1) = List.range i ++ [i] from List.range_succ, List.flatMap_append]
  simp only [List.flatMap_cons, List.flatMap_nil, h, List.append_nil]
  rfl
theorem hangL_to (m k : Nat) (now : List Int) : hangL m (k + 1) now = hangTo m k now m := rfl

/-- what hang leaves -/
def HangPost (S : Nat → Prop) (B0 bp bd bo : Nat) (W : World) (b : Option (List Int × Int)) (e : Ending) (W' : World) : Prop :=
  (∃ v, e = .returned v) ∧ ButS S W W' ∧ ∃ dv A n k, BS S B0 bp bd bo W' b dv A n k
end Go.Proofs.Ytnlbgaippnjmiaa

/- The program's Best: the closure hang, which calls itself: walk. -/
namespace Go.Proofs.Ytnlbgaippnjmiaa
open Go Go.RowKit

theorem own_apartS {S : Nat → Prop} {W : World} {base : Nat} {e : TypeId} {size : Nat} {A : Option Addr} {k n : Nat} {xs : List Value} (h : W.ownsRow base e size (.slice A n k) n xs) (hg : ∀ g, S g → g < base) : Apart S A n := fun _ b o e hb => by
  subst e
  have := (h.lt b rfl).1
  have := hg b hb
  omega
section
variable {c : Clo} {A1 A2 A3 At : Option Addr} {n1 k1 n2 k2 n3 k3 nt kt bw bc bq bo bd bp bh B0 : Nat} {tr : List (List Int)} {vm : Value} {wB : World} {S : Nat → Prop}

structure HangB (c : Clo) (A1 : Option Addr) (n1 k1 : Nat) (A2 : Option Addr) (n2 k2 : Nat) (A3 : Option Addr) (n3 k3 : Nat) (At : Option Addr) (nt kt : Nat) (tr : List (List Int)) (vm : Value) (bw bc bq bo bd bp bh : Nat) (S : Nat → Prop) (W : World) : Prop where
  wk : WK W bw c A1 n1 k1 A2 n2 k2 A3 n3 k3 At nt kt tr vm
  box : Blk W bc 45 #[.int .i64 c.closets, .int .i64 c.close, .slice A1 n1 k1, .slice A2 n2 k2, .slice A3 n3 k3]
  pw : Blk W bq 71 #[.pointer (some ⟨bw, 0, none⟩)]
  hg : Blk W bh 74 #[.func (.func 18) #[] #[.pointer (some ⟨bc, 0, none⟩), .pointer (some ⟨bq, 0, none⟩), .pointer (some ⟨bo, 0, none⟩), .pointer (some ⟨bd, 0, none⟩), .pointer (some ⟨bp, 0, none⟩), .pointer (some ⟨bh, 0, none⟩)]]
structure HangA (A1 : Option Addr) (n1 : Nat) (A2 : Option Addr) (n2 : Nat) (A3 : Option Addr) (n3 : Nat) (At : Option Addr) (nt : Nat) (bw bc bq bo bd bp bh : Nat) (S : Nat → Prop) : Prop where
  nw : ¬ S bw
  nc : ¬ S bc
  nq : ¬ S bq
  nh : ¬ S bh
  a1 : Apart S A1 n1
  a2 : Apart S A2 n2
  a3 : Apart S A3 n3
  at_ : Apart S At nt
  so : S bo
  sd : S bd
  sp : S bp
  od : bo ≠ bd
  op : bo ≠ bp
  dp : bd ≠ bp
  lt : ∀ b, S b → b = bp ∨ b = bd ∨ b = bo
theorem HangB.but {A B : World} (h : HangB c A1 n1 k1 A2 n2 k2 A3 n3 k3 At nt kt tr vm bw bc bq bo bd bp bh S A) (ha : HangA A1 n1 A2 n2 A3 n3 At nt bw bc bq bo bd bp bh S) (k : ButS S A B) : HangB c A1 n1 k1 A2 n2 k2 A3 n3 k3 At nt kt tr vm bw bc bq bo bd bp bh S B :=
  ⟨h.wk.butS k ha.nw ha.a1 ha.a2 ha.a3 ha.at_, k.blk h.box ha.nc, k.blk h.pw ha.nq, k.blk h.hg ha.nh⟩

def bestUpd (b : Option (List Int × Int)) (now : List Int) (d : Int) : Option (List Int × Int) :=
  match b with
  | none => some (now, d)
  | some q => if d < q.2 then some (now, d) else b
theorem bestStepP_upd (c : Clo) (tr : List (List Int)) (b : Option (List Int × Int)) (p : List Int) : bestStepP c tr b p = if (doneP c tr p).2 = c.horses.length then bestUpd b p (doneP c tr p).1 else b := by
  unfold bestStepP bestUpd; cases b <;> rfl
set_option maxRecDepth 100000 in
set_option maxHeartbeats 2000000 in
theorem hang_in (ha : HangA A1 n1 A2 n2 A3 n3 At nt bw bc bq bo bd bp bh S) (ok : OkC c) (hdry : ∀ d ∈ tr, IsDry c d) (htl : nt ≤ 2000) (hhl : n1 = c.horses.length) :
    ∀ (k : Nat) (now : List Int) (An : Option Addr) (nn kn : Nat) (W : World) (b : Option (List Int × Int)) (dv : Int) (A : Option Addr) (n ka : Nat), HangB c A1 n1 k1 A2 n2 k2 A3 n3 k3 At nt kt tr vm bw bc bq bo bd bp bh S W → BS S B0 bp bd bo W b dv A n ka →
      RI W An nn now → nn ≤ kn → Apart S An nn → now.Nodup → (∀ x ∈ now, 0 ≤ x ∧ x < c.closets) → nn + k = n1 → TypedI B0 W An nn → B0 ≤ W.heap.size →
      Calls Try.prog 18 #[.slice An nn kn, .pointer (some ⟨bc, 0, none⟩), .pointer (some ⟨bq, 0, none⟩), .pointer (some ⟨bo, 0, none⟩), .pointer (some ⟨bd, 0, none⟩), .pointer (some ⟨bp, 0, none⟩), .pointer (some ⟨bh, 0, none⟩)] W
        (HangPost S B0 bp bd bo W ((hangL c.closets.toNat k now).foldl (bestStepP c tr) b)) := by
  intro k
  induction k with
  | zero =>
    intro now An nn kn W b dv A n ka hB hbs hri hcap hap hnd hmem hlen hty hB0
    have hl4 := ok.len
    have hnow := hri.len
    have hnn : nn = n1 := by omega
    subst hnn
    have hpl : IsPl c now := ⟨by omega, hmem, hnd⟩
    obtain ⟨⟨d1, d2⟩, hd⟩ : ∃ q, doneP c tr now = q := ⟨_, rfl⟩
    have hdc := done_calls (kp := kn) W hB.wk ok.toOkH hri hpl hdry (by omega)
    rw [hd] at hdc
    have hstep : (hangL c.closets.toNat 0 now).foldl (bestStepP c tr) b = if d2 = (nn : Int) then bestUpd b now d1 else b := by
      show bestStepP c tr b now = _
      rw [bestStepP_upd, hd, hhl]
    have x2 := hB.box.cells_later
    have xq := hB.pw.cell 0
    simp only [List.getElem?_toArray, List.getElem?_cons_zero, List.getElem?_cons_succ] at xq
    have x2a := fun W' hW => x2 W' hW 2
    simp only [List.getElem?_toArray, List.getElem?_cons_zero, List.getElem?_cons_succ] at x2a
    have x2b := x2a W (later_refl _)
    have heq : ((nn : Int) == (nn : Int)) = true := by simp
    have Hstep := hide hstep
    have Hdc := hide hdc
    have Hhl := hide hhl
    have Hnow := hide hnow
    have Hbs := hide hbs
    clear hstep hdc hd hhl hnow hbs x2
    by_cases h7 : d2 = (nn : Int)
    · have h7b : (d2 == (nn : Int)) = true := by simpa using h7
      have Hstep2 : Hid ((hangL c.closets.toNat 0 now).foldl (bestStepP c tr) b = bestUpd b now d1) := by have := Hstep.out; rw [if_pos h7] at this; exact this
      clear h7
      cases b with
      | none =>
        have Hupd := hide (show (hangL c.closets.toNat 0 now).foldl (bestStepP c tr) none = some (now, d1) from Hstep2.out)
        go_enter Try.func18, Try.ntmps18
        go_step3
        go_wp2_with fail
        refine Hdc.out.mono ?_
        rintro e w5 ⟨rfl, hL5⟩
        have hb5 := Hbs.out.later hL5
        have x2c := x2a w5 hL5
        have o0 := hb5.fo.cell 0
        have of := hb5.fo.frozen 0
        have e0 := hb5.dn.cell 0
        have ef := hb5.dn.frozen 0
        have p0 := hb5.pl.cell 0
        have pf := hb5.pl.frozen 0
        simp only [List.getElem?_toArray, List.getElem?_cons_zero, List.getElem?_cons_succ, Option.isSome_none, Option.isSome_some] at o0 e0 p0
        have Hb5 := hide hb5
        clear hb5
        have hn1 : bo ≠ bd := ha.od
        have hn2 : bo ≠ bp := ha.op
        have hn3 : bd ≠ bp := ha.dp
        have hn4 : bp ≠ bd := fun e => ha.dp e.symm
        have hn5 : bp ≠ bo := fun e => ha.op e.symm
        have hn6 : bd ≠ bo := fun e => ha.od e.symm
        go_wp2_with fail
        rw [Exit.noGoto_ret]
        refine bodyPost_ret (results_none rfl _ _ _) rfl ?_
        rw [Hupd.out]
        have hBS : ButS S W (((w5.setCell ⟨bp, 0, none⟩ (.slice An nn kn)).setCell ⟨bd, 0, none⟩ (.int .i64 d1)).setCell ⟨bo, 0, none⟩ (.bool true)) := (((ButS.of_later hL5).set_ ha.sp 0 _).set_ ha.sd 0 _).set_ ha.so 0 _
        refine ⟨⟨_, rfl⟩, hBS, d1, An, nn, kn, ⟨?_, ?_, ?_, ?_⟩⟩
        · exact ((Hb5.out.fo.far hn2 _).far hn1 _).set_ 0 (.bool true)
        · exact ((Hb5.out.dn.far hn3 _).set_ 0 (.int .i64 d1)).far hn6 _
        · exact ((Hb5.out.pl.set_ 0 (.slice An nn kn)).far hn4 _).far hn5 _
        · intro q' hq'
          injection hq' with hq'
          subst hq'
          exact ⟨rfl, Reads.butS hri Nat.one_pos hBS hap, hcap, hap, hty.butS hBS hap⟩
      | some q =>
        have hdv := (Hbs.out.is q rfl).1
        by_cases hlt : d1 < dv
        · have Hupd := hide (show (hangL c.closets.toNat 0 now).foldl (bestStepP c tr) (some q) = some (now, d1) by rw [Hstep2.out]; unfold bestUpd; dsimp only; rw [if_pos (by omega)])
          clear hdv
          go_enter Try.func18, Try.ntmps18
          go_step3
          go_wp2_with fail
          refine Hdc.out.mono ?_
          rintro e w5 ⟨rfl, hL5⟩
          have hb5 := Hbs.out.later hL5
          have x2c := x2a w5 hL5
          have o0 := hb5.fo.cell 0
          have of := hb5.fo.frozen 0
          have e0 := hb5.dn.cell 0
          have ef := hb5.dn.frozen 0
          have p0 := hb5.pl.cell 0
          have pf := hb5.pl.frozen 0
          simp only [List.getElem?_toArray, List.getElem?_cons_zero, List.getElem?_cons_succ, Option.isSome_none, Option.isSome_some] at o0 e0 p0
          have Hb5 := hide hb5
          clear hb5
          have hn1 : bo ≠ bd := ha.od
          have hn2 : bo ≠ bp := ha.op
          have hn3 : bd ≠ bp := ha.dp
          have hn4 : bp ≠ bd := fun e => ha.dp e.symm
          have hn5 : bp ≠ bo := fun e => ha.op e.symm
          have hn6 : bd ≠ bo := fun e => ha.od e.symm
          go_wp2_with fail
          rw [Exit.noGoto_ret]
          refine bodyPost_ret (results_none rfl _ _ _) rfl ?_
          rw [Hupd.out]
          have hBS : ButS S W (((w5.setCell ⟨bp, 0, none⟩ (.slice An nn kn)).setCell ⟨bd, 0, none⟩ (.int .i64 d1)).setCell ⟨bo, 0, none⟩ (.bool true)) := (((ButS.of_later hL5).set_ ha.sp 0 _).set_ ha.sd 0 _).set_ ha.so 0 _
          refine ⟨⟨_, rfl⟩, hBS, d1, An, nn, kn, ⟨?_, ?_, ?_, ?_⟩⟩
          · exact ((Hb5.out.fo.far hn2 _).far hn1 _).set_ 0 (.bool true)
          · exact ((Hb5.out.dn.far hn3 _).set_ 0 (.int .i64 d1)).far hn6 _
          · exact ((Hb5.out.pl.set_ 0 (.slice An nn kn)).far hn4 _).far hn5 _
          · intro q' hq'
            injection hq' with hq'
            subst hq'
            exact ⟨rfl, Reads.butS hri Nat.one_pos hBS hap, hcap, hap, hty.butS hBS hap⟩
        · have Hupd := hide (show (hangL c.closets.toNat 0 now).foldl (bestStepP c tr) (some q) = some q by rw [Hstep2.out]; unfold bestUpd; dsimp only; rw [if_neg (by omega)])
          clear hdv
          go_enter Try.func18, Try.ntmps18
          go_step3
          go_wp2_with fail
          refine Hdc.out.mono ?_
          rintro e w5 ⟨rfl, hL5⟩
          have hb5 := Hbs.out.later hL5
          have x2c := x2a w5 hL5
          have o0 := hb5.fo.cell 0
          have of := hb5.fo.frozen 0
          have e0 := hb5.dn.cell 0
          have ef := hb5.dn.frozen 0
          have p0 := hb5.pl.cell 0
          have pf := hb5.pl.frozen 0
          simp only [List.getElem?_toArray, List.getElem?_cons_zero, List.getElem?_cons_succ, Option.isSome_none, Option.isSome_some] at o0 e0 p0
          have Hb5 := hide hb5
          clear hb5
          have hn1 : bo ≠ bd := ha.od
          have hn2 : bo ≠ bp := ha.op
          have hn3 : bd ≠ bp := ha.dp
          have hn4 : bp ≠ bd := fun e => ha.dp e.symm
          have hn5 : bp ≠ bo := fun e => ha.op e.symm
          have hn6 : bd ≠ bo := fun e => ha.od e.symm
          go_wp2_with fail
          rw [Exit.noGoto_ret]
          refine bodyPost_ret (results_none rfl _ _ _) rfl ?_
          rw [Hupd.out]
          exact ⟨⟨_, rfl⟩, ButS.of_later hL5, dv, A, n, ka, Hb5.out⟩
    · have h7b : (d2 == (nn : Int)) = false := by simpa using h7
      have Hupd : Hid ((hangL c.closets.toNat 0 now).foldl (bestStepP c tr) b = b) := by have := Hstep.out; rw [if_neg h7] at this; exact this
      clear h7
      go_enter Try.func18, Try.ntmps18
      go_step3
      go_wp2_with fail
      refine Hdc.out.mono ?_
      rintro e w5 ⟨rfl, hL5⟩
      have hb5 := Hbs.out.later hL5
      have x2c := x2a w5 hL5
      have o0 := hb5.fo.cell 0
      have of := hb5.fo.frozen 0
      have e0 := hb5.dn.cell 0
      have ef := hb5.dn.frozen 0
      have p0 := hb5.pl.cell 0
      have pf := hb5.pl.frozen 0
      simp only [List.getElem?_toArray, List.getElem?_cons_zero, List.getElem?_cons_succ, Option.isSome_none, Option.isSome_some] at o0 e0 p0
      have Hb5 := hide hb5
      clear hb5
      have hn1 : bo ≠ bd := ha.od
      have hn2 : bo ≠ bp := ha.op
      have hn3 : bd ≠ bp := ha.dp
      have hn4 : bp ≠ bd := fun e => ha.dp e.symm
      have hn5 : bp ≠ bo := fun e => ha.op e.symm
      have hn6 : bd ≠ bo := fun e => ha.od e.symm
      go_wp2_with fail
      rw [Exit.noGoto_ret]
      refine bodyPost_ret (results_none rfl _ _ _) rfl ?_
      rw [Hupd.out]
      exact ⟨⟨_, rfl⟩, ButS.of_later hL5, dv, A, n, ka, Hb5.out⟩
  | succ k ih =>
    intro now An nn kn W b dv A n ka hB hbs hri hcap hap hnd hmem hlen hty hB0
    have hl4 := ok.len
    have hc4 := ok.cl4
    have hc1 := ok.cl1
    have hnow := hri.len
    obtain ⟨mc, hmc⟩ : ∃ m : Nat, c.closets = (m : Int) := ⟨c.closets.toNat, by omega⟩
    have hmt : c.closets.toNat = mc := by omega
    have x2 := hB.box.cells_later
    have x2a := fun W' hW => x2 W' hW 2
    have x2c := fun W' hW => x2 W' hW 0
    simp only [List.getElem?_toArray, List.getElem?_cons_zero, List.getElem?_cons_succ] at x2a x2c
    have x2b := x2a W (later_refl _)
    have x2d := x2c W (later_refl _)
    rw [hmc] at x2d
    have hne0 : ((nn : Int) == (n1 : Int)) = false := by simp; omega
    have hgoal : (hangL c.closets.toNat (k + 1) now).foldl (bestStepP c tr) b = (hangTo mc k now mc).foldl (bestStepP c tr) b := by rw [hmt]; rfl
    rw [hmt] at ih
    have Hgoal := hide hgoal
    have Hnow := hide hnow
    have Hbs := hide hbs
    have hmc4 : mc ≤ 4 := by omega
    have hnn4 : nn ≤ 4 := by omega
    have Hmc := hide hmc
    have Hhl := hide hhl
    clear hgoal hnow hbs hmc hmt hhl x2 x2a x2c
    go_enter Try.func18, Try.ntmps18
    go_step3
    go_wp2_with fail
    go_step3
    go_wp2_with fail
    go_loopw [43] (fun x wr => ∃ (i : Nat) (dv : Int) (A : Option Addr) (n ka : Nat), i ≤ mc ∧ x = .int .i64 i ∧ ButS S W wr ∧ BS S B0 bp bd bo wr ((hangTo mc k now i).foldl (bestStepP c tr) b) dv A n ka) (fun x _ => mc - (intOf x).toNat)
    case atStart => exact ⟨0, dv, A, n, ka, Nat.zero_le _, rfl, ButS.refl _, Hbs.out⟩
    case round =>
      obtain ⟨i, dv2, A2', n2', ka2, hi, rfl, hBS, hbs2⟩ := hrel
      by_cases hlt : i < mc
      · have hi1 : (i : Int) < mc := by omega
        have hor : RI wr An nn now := Reads.butS hri Nat.one_pos hBS hap
        have Hbs2 := hide hbs2
        clear hbs2
        go_wp2_with fail
        go_loop [48] (fun x => ∃ j : Nat, j ≤ nn ∧ x = .int .i64 j ∧ Hid (∀ (t : Nat) (y : Int), t < j → now[t]? = some y → y ≠ (i : Int))) (fun x => nn - (intOf x).toNat)
        case atStart => exact ⟨0, Nat.zero_le _, rfl, fun t y h => absurd h (Nat.not_lt_zero _)⟩
        case round =>
          obtain ⟨j, hj, rfl, Hno⟩ := hrel
          by_cases hltj : j < nn
          · obtain ⟨b1, o1, x, rfl, _, hx, hx0⟩ := hor.get hltj
            have hj1 : (j : Int) < nn := by omega
            have hx0 := hx0 _ (later_refl _)
            have Hx := hide hx
            clear hx
            by_cases hxi : x = (i : Int)
            · have hxb : (x == (i : Int)) = true := by simpa using hxi
              have hcon : now.contains (i : Int) = true := List.contains_iff_mem.2 (by rw [← hxi]; exact List.mem_of_getElem? Hx.out)
              have Hsk := hide (hangTo_skip (m := mc) (k := k) hcon)
              clear hxi hcon
              go_wp2_with fail
              go_roundw
              case rel => exact ⟨i + 1, dv2, A2', n2', ka2, hlt, by go_num, hBS, by rw [Hsk.out]; exact Hbs2.out⟩
              case measure => simp [intOf]; omega
            · have hxb : (x == (i : Int)) = false := by simpa using hxi
              have Hxi := hide hxi
              clear hxi
              go_wp2_with fail
              go_round
              case rel =>
                refine ⟨j + 1, hltj, by go_num, fun t y ht hy => ?_⟩
                rcases Nat.lt_or_ge t j with h1 | h1
                · exact Hno.out t y h1 hy
                · have : t = j := by omega
                  subst this
                  have h2 := Hx.out
                  rw [hy] at h2
                  injection h2 with h2
                  rw [h2]; exact Hxi.out
              case measure => simp [intOf]; omega
          · have hcon : now.contains (i : Int) = false := by
              rw [← Bool.not_eq_true, List.contains_iff_mem]
              intro hm
              obtain ⟨t, ht⟩ := List.getElem?_of_mem hm
              have hlt2 := (List.getElem?_eq_some_iff.1 ht).1
              exact Hno.out t _ (by have := Hnow.out; omega) ht rfl
            have Hmo := hide (hangTo_more (m := mc) (k := k) hcon)
            have hnd2 : (now ++ [(i : Int)]).Nodup := by
              rw [List.nodup_append]
              refine ⟨hnd, by simp, fun a ha b hb e => ?_⟩
              simp at hb; subst hb; subst e
              rw [List.contains_iff_mem.2 ha] at hcon; cases hcon
            have hmem2 : ∀ x ∈ now ++ [(i : Int)], 0 ≤ x ∧ x < c.closets := fun x hx => by
              rcases List.mem_append.1 hx with h | h
              · exact hmem x h
              · simp at h; subst h; have := Hmc.out; omega
            have hBr := hB.but ha hBS
            have hbsr := Hbs2.out
            have hlS : ∀ g, S g → g < wr.heap.size := fun g hg => by
              rcases ha.lt g hg with rfl | rfl | rfl
              · exact hbsr.pl.lt
              · exact hbsr.dn.lt
              · exact hbsr.fo.lt
            have l0 := hBr.hg.cell 0
            simp only [List.getElem?_toArray, List.getElem?_cons_zero, List.getElem?_cons_succ] at l0
            have hblr := hBr.hg.lt
            have hno6 : nn ≤ 1000000 := by omega
            have hnn1 : nn ≤ 1000 := by omega
            have h16 : 1 ≤ 1000000 := by decide
            have h86 : 8 ≤ 1000 := by decide
            have hnh := ha.nh
            have hrec := fun (A' : Option Addr) (k' : Nat) (w3 : World) (hL3 : Later wr w3) h3 h4 h5 h6 => ih (now ++ [(i : Int)]) A' (nn + 1) k' w3 _ _ _ _ _ (hBr.but ha (ButS.of_later hL3)) (hbsr.later hL3) h3 h4 h5 hnd2 hmem2 (by omega) h6 (Nat.le_trans (Nat.le_trans hB0 hBS.size) hL3.size)
            have Hrec := hide hrec
            have HBr := hide hBr
            have HlS := hide hlS
            clear hrec hBr hlS hcon hnd2 hmem2 hbsr
            go_wp2_with fail
            go_region_held3 (fun X => X.cell? ⟨bh, 0, none⟩ = some (.func (.func 18) #[] #[.pointer (some ⟨bc, 0, none⟩), .pointer (some ⟨bq, 0, none⟩), .pointer (some ⟨bo, 0, none⟩), .pointer (some ⟨bd, 0, none⟩), .pointer (some ⟨bp, 0, none⟩), .pointer (some ⟨bh, 0, none⟩)])) (first | assumption | (go_keep; done))
              (first
                | (go_at_call 20; go_must (refine (Clone_calls (l := now) _ (hor.later (by first | exact later_drew (later_refl _) | exact later_refl _ | exact later_alloc (later_refl _) _ | exact later_drew (later_alloc (later_refl _) _) | exact later_alloc (later_drew (later_refl _)) _)) hnn1).mono ?_; rintro e w2 ⟨v, rfl, hL2, hown⟩; have hLw2 : Later wr w2 := Later.trans (by first | exact later_drew (later_refl _) | exact later_refl _ | exact later_alloc (later_refl _) _ | exact later_drew (later_alloc (later_refl _) _) | exact later_alloc (later_drew (later_refl _)) _) hL2; have hown2 : w2.ownsRow wr.heap.size 3 1 v nn (ints now) := own_rebase hown (fun g e => Nat.le_trans (by first | exact Nat.le_refl _ | simp) (hown.lt g e).1); have l2 := (HBr.out.hg.later hLw2).cell 0; simp only [List.getElem?_toArray, List.getElem?_cons_zero] at l2))
                | (refine appG_step rfl wr.heap.size _ _ 23 rfl 3 (.int .i64 0) 1 8 Try.underlying23 int_info rfl Nat.one_pos v nn (ints now) rfl ?_ (hown2.alloc _) ⟨w2.heap.size, 0, none⟩ 1 1 [.int .i64 i] rfl rfl (one_cell w2 _ _) (ints_one [(i : Int)]) hno6 h16 h86 ?_; (focus (have := hLw2.size; simp; omega)); intro v' w3 hap2; have hL3 : Later wr w3 := hap2.later (later_alloc hLw2 _) (hown2.alloc _); obtain ⟨A', k', hv', hrd⟩ := own_slice hap2.own; subst hv'; have hri2 : RI w3 A' (nn + 1) (now ++ [(i : Int)]) := RI.of_snoc hrd; have hk' := own_cap hap2.own; have htyp := TypedI.of_own (Nat.le_trans hB0 hBS.size) hap2.own; have hapt := own_apartS hap2.own HlS.out; have l3 := (HBr.out.hg.later hL3).cell 0; simp only [List.getElem?_toArray, List.getElem?_cons_zero] at l3)
                | (refine appG_step rfl wr.heap.size _ _ 23 rfl 3 (.int .i64 0) 1 8 Try.underlying23 int_info rfl Nat.one_pos v nn (ints now) rfl ?_ hown2 ⟨wr.heap.size, 0, none⟩ 1 1 [.int .i64 i] rfl rfl (one_cell_later hL2) (ints_one [(i : Int)]) hno6 h16 h86 ?_; (focus (have := hLw2.size; omega)); intro v' w3 hap2; have hL3 : Later wr w3 := hap2.later hLw2 hown2; obtain ⟨A', k', hv', hrd⟩ := own_slice hap2.own; subst hv'; have hri2 : RI w3 A' (nn + 1) (now ++ [(i : Int)]) := RI.of_snoc hrd; have hk' := own_cap hap2.own; have htyp := TypedI.of_own (Nat.le_trans hB0 hBS.size) hap2.own; have hapt := own_apartS hap2.own HlS.out; have l3 := (HBr.out.hg.later hL3).cell 0; simp only [List.getElem?_toArray, List.getElem?_cons_zero] at l3)
                | (refine appG_step rfl wr.heap.size _ _ 23 rfl 3 (.int .i64 0) 1 8 Try.underlying23 int_info rfl Nat.one_pos v nn (ints now) rfl ?_ hown2 ⟨wr.heap.size, 0, none⟩ 1 1 [.int .i64 i] rfl rfl (one_cell_later (later_undrew hL2)) (ints_one [(i : Int)]) hno6 h16 h86 ?_; (focus (have := hLw2.size; omega)); intro v' w3 hap2; have hL3 : Later wr w3 := hap2.later hLw2 hown2; obtain ⟨A', k', hv', hrd⟩ := own_slice hap2.own; subst hv'; have hri2 : RI w3 A' (nn + 1) (now ++ [(i : Int)]) := RI.of_snoc hrd; have hk' := own_cap hap2.own; have htyp := TypedI.of_own (Nat.le_trans hB0 hBS.size) hap2.own; have hapt := own_apartS hap2.own HlS.out; have l3 := (HBr.out.hg.later hL3).cell 0; simp only [List.getElem?_toArray, List.getElem?_cons_zero] at l3)
                | (go_at_call 18; go_must (refine (Hrec.out A' k' w3 hL3 hri2 hk' hapt htyp).mono ?_; rintro e w4 ⟨⟨v4, rfl⟩, hB4, dv4, A4, n4, ka4, hbs4⟩; have l4 := (hB4.blk (HBr.out.hg.later hL3) hnh).cell 0; simp only [List.getElem?_toArray, List.getElem?_cons_zero] at l4)))
            all_goals
              have hBS5 : ButS S W w4 := hBS.trans ((ButS.of_later hL3).trans hB4)
              clear l2 l3 l4 hL2 hown hown2 hap2
              go_wp2_with fail
              go_roundw
              case rel => exact ⟨i + 1, dv4, A4, n4, ka4, hlt, by go_num, hBS5, by rw [Hmo.out, List.foldl_append]; exact hbs4⟩
              case measure => simp [intOf]; omega
      · have him : i = mc := by omega
        subst him
        go_wp2_with fail
        rw [Exit.noGoto_normal]
        refine bodyPost_end (results_none rfl _ _ _) rfl ?_
        rw [Hgoal.out]
        exact ⟨⟨_, rfl⟩, hBS, dv2, A2', n2', ka2, hbs2⟩
end
end Go.Proofs.Ytnlbgaippnjmiaa

/- The program's Best: walk. -/
namespace Go.Proofs.Ytnlbgaippnjmiaa
open Go Go.RowKit
attribute [local go_sem] later_alloc2 later_alloc3 later_alloc4

theorem ButS.drew {S : Nat → Prop} {A B : World} (h : ButS S A B) : ButS S A B.drew := ⟨h.os, h.tape, h.output, h.size, h.block⟩
theorem cell_set_some (w : World) (a : Addr) (v : Value) (h : (w.cell? a).isSome = true) : (w.setCell a v).cell? a = some v := World.cell?_setCell_same' _ _ _ h
/-- what Best returns -/
def bestRes : Option (List Int × Int) → List Int × Int × Int
  | none => ([], 0, 10)
  | some q => (q.1, q.2, 0)
def bestOut (c : Clo) : List Int × Int × Int := if askedErr c true ≠ 0 then ([], 0, askedErr c true) else bestRes (bestP c (truthsP c))
def BestPost (c : Clo) (w : World) (e : Ending) (w' : World) : Prop :=
  ∃ A n k, e = .returned (.tuple #[.slice A n k, .int .i64 (bestOut c).2.1, .int .i64 (bestOut c).2.2]) ∧ Later w w' ∧ RI w' A n (bestOut c).1 ∧ n ≤ k ∧ TypedI w.heap.size w' A n

set_option maxRecDepth 100000 in
set_option maxHeartbeats 1000000 in
theorem BestP_calls {A1 A2 A3 : Option Addr} {n1 k1 n2 k2 n3 k3 : Nat} {c : Clo} (w : World) (hc : CV w c A1 n1 A2 n2 A3 n3) (hcl : i64 c.closets) (hn1 : n1 ≤ 1000) (hn2 : n2 ≤ 1000) (hn3 : n3 ≤ 1000) (hk2 : n2 ≤ k2) :
    Calls Try.prog 7 #[(.agg #[.int .i64 c.closets, .int .i64 c.close, .slice A1 n1 k1, .slice A2 n2 k2, .slice A3 n3 k3])] w fun e w' => BestPost c w e w' := by
  obtain ⟨w0, hw0⟩ : ∃ W, W = ((w.alloc (.cells #[.int .i64 c.closets, .int .i64 c.close, .slice A1 n1 k1, .slice A2 n2 k2, .slice A3 n3 k3] 45)).alloc (.cells #[.slice none 0 0] 23)).alloc (.cells #[.int .i64 0] 3) := ⟨_, rfl⟩
  have kc : Blk w0 w.heap.size 45 #[.int .i64 c.closets, .int .i64 c.close, .slice A1 n1 k1, .slice A2 n2 k2, .slice A3 n3 k3] := by rw [hw0]; exact ((Blk.new _ _ _).alloc _).alloc _
  have kp : Blk w0 (w.heap.size + 1) 23 #[.slice none 0 0] := by
    rw [hw0]
    have := Blk.new (w.alloc (.cells #[.int .i64 c.closets, .int .i64 c.close, .slice A1 n1 k1, .slice A2 n2 k2, .slice A3 n3 k3] 45)) 23 #[.slice none 0 0]
    rw [World.size_alloc] at this; exact this.alloc _
  have kd : Blk w0 (w.heap.size + 1 + 1) 3 #[.int .i64 0] := by
    rw [hw0]
    have := Blk.new ((w.alloc (.cells #[.int .i64 c.closets, .int .i64 c.close, .slice A1 n1 k1, .slice A2 n2 k2, .slice A3 n3 k3] 45)).alloc (.cells #[.slice none 0 0] 23)) 3 #[.int .i64 0]
    simp only [World.size_alloc] at this; exact this
  have hL0 : Later w w0 := by rw [hw0]; exact later_alloc3 (later_refl _) _ _ _
  have hs0 : w0.heap.size = w.heap.size + 3 := by rw [hw0]; simp
  have hc0 := hc.later hL0
  have hbox := kc.cells_later
  have Hs0 := hide hs0
  have Hw0 := hide hw0
  clear hw0 hs0
  by_cases he : askedErr c true = 0
  · obtain ⟨hf, _, htn⟩ := askedErr_zero he
    have ok := okC_of_fault hf
    have hhl := hc.hs.len
    have hl4 := ok.len
    have htl := truthsP_len hf
    have hdry := truthsP_isDry ok.toOkH
    have hao := asked_ok (k1 := k1) (k3 := k3) w0 hc0 hcl hn1 hn2 hn3 hk2 he
    obtain ⟨bo, hbo⟩ : ∃ b, bestP c (truthsP c) = b := ⟨_, rfl⟩
    have hou : bestOut c = bestRes bo := by unfold bestOut; rw [if_neg (by simp [he]), hbo]
    have Hou := hide hou
    have Hao := hide hao
    have Hhl := hide hhl
    have Hbo := hide hbo
    clear hao hhl he hf hou hbo
    go_enter Try.func7, Try.ntmps7
    go_wp2_with fail
    rw [← Hw0.out]; clear Hw0
    refine Hao.out.mono ?_
    rintro e w3 ⟨bw, bm, At, kt, rfl, hL3, hWK, hbm, hbm1, hbw1, hbne, hAt⟩
    have hs3 := hL3.size
    have hbw3 := hWK.lt
    have hs0 := Hs0.out
    obtain ⟨W0, hW0⟩ : ∃ X, X = ((w3.alloc (.cells #[.pointer (some ⟨bw, 0, none⟩)] 71)).alloc (.cells #[.bool false] 4)).alloc (.cells #[.func (.func 18) #[] #[.pointer (some ⟨w.heap.size, 0, none⟩), .pointer (some ⟨w3.heap.size, 0, none⟩), .pointer (some ⟨w3.heap.size + 1, 0, none⟩), .pointer (some ⟨w.heap.size + 1 + 1, 0, none⟩), .pointer (some ⟨w.heap.size + 1, 0, none⟩), .pointer (some ⟨w3.heap.size + 1 + 1, 0, none⟩)]] 74) := ⟨_, rfl⟩
    have hLW : Later w3 W0 := by rw [hW0]; exact later_alloc3 (later_refl _) _ _ _
    have kq : Blk W0 w3.heap.size 71 #[.pointer (some ⟨bw, 0, none⟩)] := by rw [hW0]; exact ((Blk.new _ _ _).alloc _).alloc _
    have ko : Blk W0 (w3.heap.size + 1) 4 #[.bool false] := by
      rw [hW0]
      have := Blk.new (w3.alloc (.cells #[.pointer (some ⟨bw, 0, none⟩)] 71)) 4 #[.bool false]
      rw [World.size_alloc] at this; exact this.alloc _
    have kh : Blk W0 (w3.heap.size + 1 + 1) 74 #[.func (.func 18) #[] #[.pointer (some ⟨w.heap.size, 0, none⟩), .pointer (some ⟨w3.heap.size, 0, none⟩), .pointer (some ⟨w3.heap.size + 1, 0, none⟩), .pointer (some ⟨w.heap.size + 1 + 1, 0, none⟩), .pointer (some ⟨w.heap.size + 1, 0, none⟩), .pointer (some ⟨w3.heap.size + 1 + 1, 0, none⟩)]] := by
      rw [hW0]
      have := Blk.new ((w3.alloc (.cells #[.pointer (some ⟨bw, 0, none⟩)] 71)).alloc (.cells #[.bool false] 4)) 74 #[.func (.func 18) #[] #[.pointer (some ⟨w.heap.size, 0, none⟩), .pointer (some ⟨w3.heap.size, 0, none⟩), .pointer (some ⟨w3.heap.size + 1, 0, none⟩), .pointer (some ⟨w.heap.size + 1 + 1, 0, none⟩), .pointer (some ⟨w.heap.size + 1, 0, none⟩), .pointer (some ⟨w3.heap.size + 1 + 1, 0, none⟩)]]
      simp only [World.size_alloc] at this; exact this
    have HW0 := hide hW0
    clear hW0
    go_wp2_with fail
    rw [← HW0.out]
    have hLW0 := Later.trans hL3 hLW
    have hbs0 : BS (fun b => b = w.heap.size + 1 ∨ b = w.heap.size + 1 + 1 ∨ b = w3.heap.size + 1) w.heap.size (w.heap.size + 1) (w.heap.size + 1 + 1) (w3.heap.size + 1) W0 none 0 none 0 0 := ⟨ko, kd.later hLW0, kp.later hLW0, fun q hq => by cases hq⟩
    have hWK0 := hWK.later hLW
    have hap : ∀ (A : Option Addr) (n size : Nat) (xs : List Value), 0 < size → Reads w w.heap.size size A n xs → Apart (fun b => b = w.heap.size + 1 ∨ b = w.heap.size + 1 + 1 ∨ b = w3.heap.size + 1) A n := fun A n size xs hs h => h.apart hs fun b hb => by omega
    have hHA : HangA A1 n1 A2 n2 A3 n3 At (truthsP c).length bw w.heap.size w3.heap.size (w3.heap.size + 1) (w.heap.size + 1 + 1) (w.heap.size + 1) (w3.heap.size + 1 + 1) (fun b => b = w.heap.size + 1 ∨ b = w.heap.size + 1 + 1 ∨ b = w3.heap.size + 1) :=
      ⟨by omega, by omega, by omega, by omega, hap _ _ _ _ (by omega) hc.hs, hap _ _ _ _ (by omega) hc.hu, hap _ _ _ _ (by omega) hc.lk,
        fun hn b o e hb => by
          have h1 := hAt b o e
          have h2 : b < w3.heap.size := by
            obtain ⟨b', o', e', hlt, _⟩ := Reads.lit hWK.tr (by omega) hn
            rw [e] at e'
            obtain ⟨rfl, _⟩ := some_lit e'
            exact hlt
          omega,
        .inr (.inr rfl), .inr (.inl rfl), .inl rfl, by omega, by omega, by omega, fun b hb => by omega⟩
    have hHB : HangB c A1 n1 k1 A2 n2 k2 A3 n3 k3 At (truthsP c).length kt (truthsP c) (.map (some bm)) bw w.heap.size w3.heap.size (w3.heap.size + 1) (w.heap.size + 1 + 1) (w.heap.size + 1) (w3.heap.size + 1 + 1) (fun b => b = w.heap.size + 1 ∨ b = w.heap.size + 1 + 1 ∨ b = w3.heap.size + 1) W0 := ⟨hWK0, kc.later hLW0, kq, kh⟩
    have hcall := hang_in (k1 := k1) (k2 := k2) (k3 := k3) hHA ok hdry htl Hhl.out n1 [] none 0 0 W0 none 0 none 0 0 hHB hbs0 RI.nil (Nat.le_refl _) (fun h => absurd h (by omega)) List.nodup_nil (by simp) (by omega) (TypedI.zero _ _ _) (Later.trans hL0 hLW0).size
    have hbp : (hangL c.closets.toNat n1 []).foldl (bestStepP c (truthsP c)) none = bo := by rw [Hhl.out]; exact Hbo.out
    rw [hbp] at hcall
    refine hcall.mono ?_
    clear hcall hbp hHB hHA hbs0 hap hbox
    rintro e w5 ⟨⟨v, rfl⟩, hB5, dv, A, n, ka, hbs5⟩
    have hfin := Later.trans hL0 (Later.trans hL3 hLW)
    have hfin5 := hB5.later hfin (fun b hb => by omega)
    have p0 := hbs5.pl.cell 0
    have pf := hbs5.pl.frozen 0
    have d0 := hbs5.dn.cell 0
    have df := hbs5.dn.frozen 0
    have o0 := hbs5.fo.cell 0
    simp only [List.getElem?_toArray, List.getElem?_cons_zero, List.getElem?_cons_succ] at p0 d0 o0
    have his := hbs5.is
    have Hb5 := hide hbs5
    clear hbs5
    cases bo with
    | none =>
      simp only [Option.isSome_none] at o0
      have Hou2 : Hid (bestOut c = ([], 0, 10)) := Hou.out
      clear his
      go_wp2_with fail
      refine bodyPost_ret (v := .tuple #[.slice none 0 0, .int .i64 0, .int .i64 10]) ?_ rfl ⟨none, 0, 0, by rw [Hou2.out], ?_, by rw [Hou2.out]; exact RI.nil, Nat.le_refl _, TypedI.zero _ _ _⟩
      · have z0 := ((Hb5.out.pl.set_ 0 (.slice none 0 0)).far (p := ⟨w.heap.size + 1 + 1, 0, none⟩) (by show w.heap.size + 1 ≠ w.heap.size + 1 + 1; omega) (.int .i64 0)).cell 0
        have z1 := ((Hb5.out.dn.far (p := ⟨w.heap.size + 1, 0, none⟩) (by show w.heap.size + 1 + 1 ≠ w.heap.size + 1; omega) (.slice none 0 0)).set_ 0 (.int .i64 0)).cell 0
        simp only [List.setIfInBounds_toArray, List.set_cons_zero, List.set_cons_succ, List.getElem?_toArray, List.getElem?_cons_zero, List.getElem?_cons_succ] at z0 z1
        simp [results, Try.results7, go_sem, z0, z1]
      · exact later_set (later_set hfin5 _ (Nat.le_succ _) _) _ (by show w.heap.size ≤ w.heap.size + 1 + 1; omega) _
    | some q =>
      obtain ⟨hdv, hri, hnk, hapq, htyq⟩ := his q rfl
      simp only [Option.isSome_some] at o0
      have Hou2 : Hid (bestOut c = (q.1, dv, 0)) := by show _ = _; rw [Hou.out, hdv]; rfl
      have hz1 : ¬ w.heap.size + 1 = w.heap.size + 1 + 1 := by omega
      have hz2 : ¬ w.heap.size + 1 + 1 = w.heap.size + 1 := by omega
      clear his hdv
      go_wp2_with fail
      go_region_held3 (fun X => X.cell? ⟨w.heap.size + 1, 0, none⟩ = some (.slice A n ka) ∧ X.cell? ⟨w.heap.size + 1 + 1, 0, none⟩ = some (.int .i64 dv) ∧ X.frozen? ⟨w.heap.size + 1, 0, none⟩ = false ∧ X.frozen? ⟨w.heap.size + 1 + 1, 0, none⟩ = false) ((simp [*, World.cell?_alloc_some, World.cell?_setCell_far, cell_set_some]; done)) (fail)
      all_goals
        go_wp2_with fail
        refine bodyPost_ret (v := .tuple #[.slice A n ka, .int .i64 dv, .int .i64 0]) (by simp [results, Try.results7, go_sem, *]) rfl ?_
        have hBf : ∀ X, ButS (fun b => b = w.heap.size + 1 ∨ b = w.heap.size + 1 + 1 ∨ b = w3.heap.size + 1) w5 X → BestPost c w (.returned (.tuple #[.slice A n ka, .int .i64 dv, .int .i64 0])) X := fun X hX =>
          ⟨A, n, ka, by rw [Hou2.out], hX.later hfin5 (fun b hb => by omega), by rw [Hou2.out]; exact Reads.butS hri Nat.one_pos hX hapq, hnk, htyq.butS hX hapq⟩
        refine hBf _ ?_
        repeat (first | exact ButS.refl _ | refine ButS.drew ?_ | refine ButS.set_ ?_ (.inl rfl) _ _ | refine ButS.set_ ?_ (.inr (.inl rfl)) _ _)
  · obtain ⟨q, hq⟩ : ∃ q, askedErr c true = q := ⟨_, rfl⟩
    have hou : bestOut c = ([], 0, q) := by unfold bestOut; rw [if_pos he, hq]
    rw [hq] at he
    have hqb : (q != 0) = true := by simpa using he
    have haf := asked_fail (k1 := k1) (k3 := k3) w0 hc0 hcl hn1 hn2 hn3 hk2 hq he
    have Hou := hide hou
    have Haf := hide haf
    clear hou haf he hq
    go_enter Try.func7, Try.ntmps7
    go_wp2_with fail
    rw [← Hw0.out]; clear Hw0
    refine Haf.out.mono ?_
    rintro e w1 ⟨rfl, hL1⟩
    have hp1 := kp.later hL1
    have hd1 := kd.later hL1
    have p0 := hp1.cell 0
    have pf := hp1.frozen 0
    have d0 := hd1.cell 0
    have df := hd1.frozen 0
    simp only [List.getElem?_toArray, List.getElem?_cons_zero, List.getElem?_cons_succ] at p0 d0
    have hs1 := hL1.size
    have hs0 := Hs0.out
    have hp2 := hp1.lt
    have hd2 := hd1.lt
    have Hp1 := hide hp1
    have Hd1 := hide hd1
    clear hp1 hd1
    go_wp2_with fail
    refine bodyPost_ret (v := .tuple #[.slice none 0 0, .int .i64 0, .int .i64 q]) ?_ rfl ⟨none, 0, 0, by rw [Hou.out], ?_, by rw [Hou.out]; exact RI.nil, Nat.le_refl _, TypedI.zero _ _ _⟩
    · have z0 := (((Hp1.out.set_ 0 (.slice none 0 0)).far (p := ⟨w.heap.size + 1 + 1, 0, none⟩) (by show w.heap.size + 1 ≠ w.heap.size + 1 + 1; omega) (.int .i64 0)).alloc (.cells #[.pointer none] 71)).cell 0
      have z1 := (((Hd1.out.far (p := ⟨w.heap.size + 1, 0, none⟩) (by show w.heap.size + 1 + 1 ≠ w.heap.size + 1; omega) (.slice none 0 0)).set_ 0 (.int .i64 0)).alloc (.cells #[.pointer none] 71)).cell 0
      simp only [List.setIfInBounds_toArray, List.set_cons_zero, List.set_cons_succ, List.getElem?_toArray, List.getElem?_cons_zero, List.getElem?_cons_succ] at z0 z1
      simp [results, Try.results7, go_sem, z0, z1]
    · exact later_alloc (later_set (later_set (Later.trans hL0 hL1) _ (Nat.le_succ _) _) _ (by show w.heap.size ≤ w.heap.size + 1 + 1; omega) _) _
end Go.Proofs.Ytnlbgaippnjmiaa

/- The reference's Nth: walk. -/
namespace Go.Proofs.Ytnlbgaippnjmiaa
open Go Go.RowKit

def nthRest : List Horse → Int → Int
  | [], n => n
  | h :: hs, n => nthRest hs (n / sizeH h)
theorem nth_snoc (l : List Horse) (h : Horse) (n : Int) : nth (l ++ [h]) n = nth l n ++ [h.lo + nthRest l n % sizeH h] := by
  induction l generalizing n with
  | nil => simp [nth, nthRest]
  | cons x l ih => simp [nth, nthRest, ih]
theorem nthRest_snoc (l : List Horse) (h : Horse) (n : Int) : nthRest (l ++ [h]) n = nthRest l n / sizeH h := by
  induction l generalizing n with
  | nil => rfl
  | cons x l ih => simp [nthRest, ih]
theorem nthRest_range {l : List Horse} (ok : ∀ h ∈ l, 1 ≤ h.lo ∧ h.lo ≤ h.hi ∧ h.hi ≤ 60) (n : Int) (h0 : 0 ≤ n) (h1 : n ≤ 1000000) : 0 ≤ nthRest l n ∧ nthRest l n ≤ 1000000 := by
  induction l generalizing n with
  | nil => exact ⟨h0, h1⟩
  | cons x l ih =>
    have := sizeH_range (ok x List.mem_cons_self)
    exact ih (fun h hh => ok h (List.mem_cons_of_mem _ hh)) _ (Int.ediv_nonneg h0 (by omega)) (Int.le_trans (Int.ediv_le_self _ h0) h1)
theorem ints_snoc (l : List Int) (x : Int) : ints (l ++ [x]) = ints l ++ [Value.int .i64 x] := by simp [ints]

end Go.Proofs.Ytnlbgaippnjmiaa

/- Bits of small numbers, as the machine has them. -/
namespace Go.Proofs.Ytnlbgaippnjmiaa
open Go Go.RowKit
theorem ofInt_i64 (a : Nat) (ha : a < 9223372036854775808) : (BitVec.ofInt 64 (a : Int)).toNat = a := by
  rw [BitVec.ofInt_natCast, BitVec.toNat_ofNat]; exact Nat.mod_eq_of_lt (by omega)
theorem i64_and_nat (a b : Nat) (ha : a < 9223372036854775808) (hb : b < 9223372036854775808) : bits .and .i64 (a : Int) (b : Int) = ((a &&& b : Nat) : Int) := by
  have hx : a &&& b < 2 ^ 63 := Nat.and_lt_two_pow _ (by omega)
  show IntKind.i64.wrap ((BitVec.ofInt 64 (a : Int) &&& BitVec.ofInt 64 (b : Int)).toNat : Int) = _
  rw [BitVec.toNat_and, ofInt_i64 a ha, ofInt_i64 b hb, IntKind.wrap_i64]
  omega
theorem i64_or_nat (a b : Nat) (ha : a < 9223372036854775808) (hb : b < 9223372036854775808) : bits .or .i64 (a : Int) (b : Int) = ((a ||| b : Nat) : Int) := by
  have hx : a ||| b < 2 ^ 63 := Nat.or_lt_two_pow (by omega) (by omega)
  show IntKind.i64.wrap ((BitVec.ofInt 64 (a : Int) ||| BitVec.ofInt 64 (b : Int)).toNat : Int) = _
  rw [BitVec.toNat_or, ofInt_i64 a ha, ofInt_i64 b hb, IntKind.wrap_i64]
  omega
theorem pow_le5 {j : Nat} (hj : j ≤ 5) : 2 ^ j ≤ 32 := by
  have : (2 : Nat) ^ j ≤ 2 ^ 5 := Nat.pow_le_pow_right (by omega) hj
  omega
theorem pow_int (j : Nat) : ((2 : Int) ^ j) = ((2 ^ j : Nat) : Int) := by norm_cast
theorem wrap_pow {j : Nat} (hj : j ≤ 5) : wrap64 (2 ^ j) = ((2 ^ j : Nat) : Int) := by
  rw [pow_int]; have h := pow_le5 hj; generalize 2 ^ j = m at h ⊢; unfold wrap64; omega
theorem bits_or_pow {q j : Nat} (hq : q < 2 ^ j) (hj : j ≤ 5) : bits .or .i64 (q : Int) (wrap64 (2 ^ j)) = ((q + 2 ^ j : Nat) : Int) := by
  have := pow_le5 hj
  rw [wrap_pow hj, i64_or_nat q _ (by omega) (by omega), or_pow _ _ hq]
end Go.Proofs.Ytnlbgaippnjmiaa

/- The reference's Right, Full, Can: walks. -/
namespace Go.Proofs.Ytnlbgaippnjmiaa
open Go Go.RowKit

end Go.Proofs.Ytnlbgaippnjmiaa
