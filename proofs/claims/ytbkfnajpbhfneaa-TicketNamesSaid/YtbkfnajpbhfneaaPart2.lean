/- Part 2 of the proof: joined from the texts TcD, TcE, TcF, RegionIn, Iter, Choose, Lv, TcG, TcH. -/
import Derived.Test.YtbkfnajpbhfneaaPart1
import Derived.OrdersIn
import Derived.RangeFuncCalls
import Derived.RangeFuncNested
import Derived.RangeFuncBound
import Derived.RangeFuncLeaves
import Derived.Shelf.Abstract
import Derived.Shelf.RegionOpen
import Derived.OwnWalkIn
import Derived.TacticsInMore
import Derived.LoopNIn
import Derived.LoopIn
import Derived.Laws.EntriesVeiled
import Derived.Carry
import Derived.Laws.StructEq
set_option linter.unusedSimpArgs false
set_option linter.unusedVariables false
/- The program's clips of a ticket: walk. -/
namespace Go.Proofs.Ytbkfnajpbhfneaa
open Go Go.RowKit

/-- the clips of a ticket -/
def ofP (c : Hou) (t : Int) : List Cp := c.clips.filter fun x => decide (x.ticket = t)
theorem ofP_map (c : Hou) (t : Int) : (ofR c t).map (clipAt c) = ofP c t := by
  have key : ∀ (l : List Cp), ((List.range l.length).filter fun i => decide ((l.getD i default).ticket = t)).map (fun i => l.getD i default) = l.filter fun x => decide (x.ticket = t) := by
    intro l
    induction l with
    | nil => rfl
    | cons x l ih =>
      rw [List.length_cons, List.range_succ_eq_map, List.filter_cons, List.filter_cons, List.filter_map]
      have e1 : ((fun i => decide (((x :: l).getD i default).ticket = t)) ∘ Nat.succ) = fun i => decide ((l.getD i default).ticket = t) := by funext i; simp
      have e2 : ((fun i => (x :: l).getD i default) ∘ Nat.succ) = fun i => l.getD i default := by funext i; simp
      have e0 : ((x :: l).getD 0 default) = x := rfl
      rw [e1, e0]
      split
      · rw [List.map_cons, List.map_map, e2, ih]; rfl
      · rw [List.map_map, e2, ih]
  exact key c.clips
theorem ofP_len (c : Hou) (t : Int) : (ofP c t).length = (ofR c t).length := by rw [← ofP_map, List.length_map]
theorem ofP_take {c : Hou} {t : Int} {j : Nat} {x : Cp} (hx : c.clips[j]? = some x) : (c.clips.take (j + 1)).filter (fun x => decide (x.ticket = t)) = (c.clips.take j).filter (fun x => decide (x.ticket = t)) ++ (if x.ticket = t then [x] else []) := by
  rw [List.take_add_one, hx, Option.toList_some, List.filter_append]
  congr 1
  by_cases h : x.ticket = t <;> simp [h]
theorem clip_info : (Try.prog.info? 101).map (fun i => (i.zero, i.size, i.bytes)) = some (some (.agg #[.int .i64 0, .int .i64 0, .int .i64 0]), 3, 24) := by kernel_rfl
/-- what of returns -/
def OfPost (c : Hou) (t : Int) (w : World) (e : Ending) (w' : World) : Prop := ∃ A k, e = .returned (.slice A (ofP c t).length k) ∧ Later w w' ∧ RC w' A (ofP c t).length (ofP c t)
set_option maxRecDepth 100000 in
set_option maxHeartbeats 1000000 in
theorem of_calls {A1 A2 A3 : Option Addr} {n1 k1 n2 k2 n3 k3 : Nat} {c : Hou} {t : Int} (w : World) (hc : CV w c A1 n1 A2 n2 A3 n3) (hn : n3 ≤ 1000) : Calls Try.prog 116 #[(.agg #[.int .i64 c.hour, .int .i64 c.grace, .slice A1 n1 k1, .slice A2 n2 k2, .slice A3 n3 k3]), .int .i64 t] w (OfPost c t w) := by
  have hl3 := hc.cp.len
  have Hl3 := hide hl3
  clear hl3
  obtain ⟨w0, hw0⟩ : ∃ W, W = (w.alloc (.cells #[.int .i64 c.hour, .int .i64 c.grace, .slice A1 n1 k1, .slice A2 n2 k2, .slice A3 n3 k3] 36)) := ⟨_, rfl⟩; have hbox : ∀ W, Later w0 W → ∀ i, W.cell? ⟨w.heap.size, i, none⟩ = #[.int .i64 c.hour, .int .i64 c.grace, .slice A1 n1 k1, .slice A2 n2 k2, .slice A3 n3 k3][i]? := (by rw [hw0]; exact box_cells w #[.int .i64 c.hour, .int .i64 c.grace, .slice A1 n1 k1, .slice A2 n2 k2, .slice A3 n3 k3] 36); have hL0 : Later w w0 := (by rw [hw0]; simp); have hc0 := hc.later hL0; have Hw0 := hide hw0; clear hw0
  go_enter Try.func116, Try.ntmps116
  go_wp2_with fail
  rw [← Hw0.out]; clear Hw0
  go_loopw [4, 10] (fun v i wr => ∃ j : Nat, j ≤ n3 ∧ i = .int .i64 j ∧ wr.ownsRow w0.heap.size 101 3 v ((c.clips.take j).filter fun x => decide (x.ticket = t)).length (clipsV ((c.clips.take j).filter fun x => decide (x.ticket = t))) ∧ Later w0 wr) (fun _ i _ => n3 - (intOf i).toNat)
  case atStart => exact ⟨0, Nat.zero_le _, rfl, World.ownsRow_nil _ _ _ _, later_refl _⟩
  case round =>
    obtain ⟨j, hj, rfl, hown, hL⟩ := hrel
    by_cases hlt : j < n3
    · obtain ⟨b, o, x, rfl, _, hx, hx0, hx1, hx2⟩ := hc0.cp.get hlt
      have hi1 : (j : Int) < n3 := by omega
      have ht := ofP_take (t := t) hx
      have hfl : ((c.clips.take j).filter fun x => decide (x.ticket = t)).length ≤ 1000000 := by
        have := List.length_filter_le (fun x : Cp => decide (x.ticket = t)) (c.clips.take j)
        have := List.length_take_le j c.clips
        omega
      have hx0 := hx0 _ hL
      have hx1 := hx1 _ hL
      have hx2 := hx2 _ hL
      obtain ⟨w2, hw2⟩ : ∃ W, W = wr.alloc (.cells #[.int .i64 x.ticket, .int .i64 x.clock, .int .i64 x.minute] 101) := ⟨_, rfl⟩
      have hb2 := Blk.new wr 101 #[.int .i64 x.ticket, .int .i64 x.clock, .int .i64 x.minute]
      rw [← hw2] at hb2
      have hL2 : Later w0 w2 := by rw [hw2]; exact later_alloc hL _
      have hown2 := own_later hown (show Later wr w2 by rw [hw2]; exact later_alloc (later_refl _) _)
      have c0 := hb2.cell 0
      have c1 := hb2.cell 1
      have c2 := hb2.cell 2
      simp only [List.getElem?_toArray, List.getElem?_cons_zero, List.getElem?_cons_succ] at c0 c1 c2
      have Hw2 := hide hw2
      generalize (c.clips.take j).filter (fun x => decide (x.ticket = t)) = fl at *
      clear hx hw2 hown
      by_cases he : x.ticket = t
      · have heb : (x.ticket == t) = true := by simp [he]
        rw [if_pos he] at ht
        have Ht := hide ht
        clear ht he
        go_upto_region 4 with fail
        rw [← Hw2.out]
        go_wp2_with (at_builtin; go_must (refine own_append (w0 := w0) (W := w2) (te := 101) rfl _ _ 34 rfl 101 (.agg #[.int .i64 0, .int .i64 0, .int .i64 0]) 3 24 Try.underlying34 clip_info rfl (by omega) u4 fl.length (clipsV fl) rfl hL2 hown2 [.int .i64 x.ticket, .int .i64 x.clock, .int .i64 x.minute] rfl rfl ?_ hfl (by omega) ?_; (simp [Value.oneCell']); intro v' w4 hap; have hown4 := hap.own; have hL4 := hap.later; clear hap))
        go_roundw
        case rel =>
          refine ⟨j + 1, hlt, by go_num, ?_, hL4⟩
          rw [Ht.out, List.length_append, clipsV_snoc]; exact hown4
        case measure => simp [intOf]; omega
      · have heb : (x.ticket == t) = false := by simp [he]
        rw [if_neg he, List.append_nil] at ht
        have Ht := hide ht
        clear ht he
        go_upto_region 4 with fail
        rw [← Hw2.out]
        go_wp2_with fail
        go_roundw
        case rel => exact ⟨j + 1, hlt, by go_num, by rw [Ht.out]; exact hown2, hL2⟩
        case measure => simp [intOf]; omega
    · have hfin : (c.clips.take j).filter (fun x => decide (x.ticket = t)) = ofP c t := by
        rw [List.take_of_length_le (by have := Hl3.out; omega)]; rfl
      rw [hfin] at hown
      obtain ⟨A, k, rfl, hrd⟩ := own_slice hown
      generalize hq : ofP c t = q at *
      have Hq := hide hq
      clear hfin hq hown
      go_wp2_with fail
      go_ret
      exact ⟨A, k, by rw [Hq.out]; rfl, Later.trans hL0 hL, by rw [Hq.out]; exact hrd⟩
end Go.Proofs.Ytbkfnajpbhfneaa

/- The program's CheckHouse: walk. -/
namespace Go.Proofs.Ytbkfnajpbhfneaa
open Go Go.RowKit

theorem take_all_ {α : Type} {p : α → Bool} {l : List α} {n : Nat} (hn : n = l.length) (h : (l.take n).all p = true) : l.all p = true := by
  rw [List.take_of_length_le (by omega)] at h; exact h
set_option maxRecDepth 100000 in
set_option maxHeartbeats 2000000 in
theorem CheckHouse_calls {A1 A2 A3 : Option Addr} {n1 k1 n2 k2 n3 k3 : Nat} {c : Hou} (w : World) (hc : CV w c A1 n1 A2 n2 A3 n3) (hn1 : n1 ≤ 1000) (hn2 : n2 ≤ 1000) (hn3 : n3 ≤ 1000) :
    Calls Try.prog 67 #[(.agg #[.int .i64 c.hour, .int .i64 c.grace, .slice A1 n1 k1, .slice A2 n2 k2, .slice A3 n3 k3])] w fun e w' => e = .returned (.int .i64 (fault c)) ∧ Later w w' := by
  have hl1 := hc.ck.len
  have hl2 := hc.tk.len
  have hl3 := hc.cp.len
  by_cases hA : 4 < n1
  · have Hf : Hid (fault c = 3) := fault_lim (by unfold LimB; omega)
    have hA' : (4 : Int) < n1 := by omega
    clear hl1 hl2 hl3
    go_enter Try.func67, Try.ntmps67
    go_wp2_with fail
    go_ret
    exact ⟨ret_int Hf.out.symm, by simp⟩
  by_cases hB : 6 < n2
  · have Hf : Hid (fault c = 3) := fault_lim (by unfold LimB; omega)
    have hA' : ¬ (4 : Int) < n1 := by omega
    have hB' : (6 : Int) < n2 := by omega
    clear hl1 hl2 hl3
    go_enter Try.func67, Try.ntmps67
    go_wp2_with fail
    go_ret
    exact ⟨ret_int Hf.out.symm, by simp⟩
  by_cases hC : 10 < n3
  · have Hf : Hid (fault c = 3) := fault_lim (by unfold LimB; omega)
    have hA' : ¬ (4 : Int) < n1 := by omega
    have hB' : ¬ (6 : Int) < n2 := by omega
    have hC' : (10 : Int) < n3 := by omega
    clear hl1 hl2 hl3
    go_enter Try.func67, Try.ntmps67
    go_wp2_with fail
    go_ret
    exact ⟨ret_int Hf.out.symm, by simp⟩
  have hA' : ¬ (4 : Int) < n1 := by omega
  have hB' : ¬ (6 : Int) < n2 := by omega
  have hC' : ¬ (10 : Int) < n3 := by omega
  have Hlim : Hid (¬ LimB c) := by show ¬ LimB c; unfold LimB; omega
  have Hl1 := hide hl1
  have Hl2 := hide hl2
  have Hl3 := hide hl3
  clear hl1 hl2 hl3
  obtain ⟨w0, hw0⟩ : ∃ W, W = (w.alloc (.cells #[.int .i64 c.hour, .int .i64 c.grace, .slice A1 n1 k1, .slice A2 n2 k2, .slice A3 n3 k3] 36)) := ⟨_, rfl⟩; have hbox : ∀ W, Later w0 W → ∀ i, W.cell? ⟨w.heap.size, i, none⟩ = #[.int .i64 c.hour, .int .i64 c.grace, .slice A1 n1 k1, .slice A2 n2 k2, .slice A3 n3 k3][i]? := (by rw [hw0]; exact box_cells w #[.int .i64 c.hour, .int .i64 c.grace, .slice A1 n1 k1, .slice A2 n2 k2, .slice A3 n3 k3] 36); have hL0 : Later w w0 := (by rw [hw0]; simp); have hc0 := hc.later hL0; have Hw0 := hide hw0; clear hw0
  have hLs : Later w0 w0 := later_refl _
  cases hD : inB c.hour 1 120 with
  | false =>
    have Hf : Hid (fault c = 1) := fault_one Hlim.out (Or.inl hD)
    go_enter Try.func67, Try.ntmps67
    go_wp2_with (go_at_call 110; refine (within_calls _ _ _ _).mono ?_; rintro e w' ⟨rfl, rfl⟩)
    rw [← Hw0.out]; clear Hw0
    go_ret
    exact ⟨ret_int Hf.out.symm, hL0⟩
  | true =>
  cases hE : inB c.grace 0 60 with
  | false =>
    have Hf : Hid (fault c = 1) := fault_one Hlim.out (Or.inr (Or.inl hE))
    go_enter Try.func67, Try.ntmps67
    go_wp2_with (go_at_call 110; refine (within_calls _ _ _ _).mono ?_; rintro e w' ⟨rfl, rfl⟩)
    rw [← Hw0.out]; clear Hw0
    go_ret
    exact ⟨ret_int Hf.out.symm, hL0⟩
  | true =>
  cases hF : c.clocks.all clockOk with
  | false =>
    have Hf : Hid (fault c = 1) := fault_one Hlim.out (Or.inr (Or.inr (Or.inl hF)))
    have HF := hide hF
    clear hF
    go_enter Try.func67, Try.ntmps67
    go_wp2_with (go_at_call 110; refine (within_calls _ _ _ _).mono ?_; rintro e w' ⟨rfl, rfl⟩)
    rw [← Hw0.out]; clear Hw0
    refine (allR_eq HF.out _ hc0.ck (by omega)).mono ?_
    rintro e w1 ⟨rfl, hL1⟩
    go_wp2_with fail
    go_ret
    exact ⟨ret_int Hf.out.symm, Later.trans hL0 hL1⟩
  | true =>
  cases hG : c.tickets.all tickOk with
  | false =>
    have Hf : Hid (fault c = 1) := fault_one Hlim.out (Or.inr (Or.inr (Or.inr (Or.inl hG))))
    have HF := hide hF
    have HG := hide hG
    clear hF hG
    go_enter Try.func67, Try.ntmps67
    go_wp2_with (go_at_call 110; refine (within_calls _ _ _ _).mono ?_; rintro e w' ⟨rfl, rfl⟩)
    rw [← Hw0.out]; clear Hw0
    refine (allR_eq HF.out _ hc0.ck (by omega)).mono ?_
    rintro e w1 ⟨rfl, hL1⟩
    go_wp2_with fail
    refine (allT_eq HG.out _ (hc0.later hL1).tk (by omega)).mono ?_
    rintro e w2 ⟨rfl, hL2⟩
    go_wp2_with fail
    go_ret
    exact ⟨ret_int Hf.out.symm, Later.trans hL0 (Later.trans hL1 hL2)⟩
  | true =>
  cases hH : c.clips.all (clipOk n1 n2) with
  | false =>
    have Hf : Hid (fault c = 1) := fault_one Hlim.out (Or.inr (Or.inr (Or.inr (Or.inr (Or.inl (by rw [← Hl1.out, ← Hl2.out]; exact hH))))))
    have HF := hide hF
    have HG := hide hG
    have HH := hide hH
    clear hF hG hH
    go_enter Try.func67, Try.ntmps67
    go_wp2_with (go_at_call 110; refine (within_calls _ _ _ _).mono ?_; rintro e w' ⟨rfl, rfl⟩)
    rw [← Hw0.out]; clear Hw0
    refine (allR_eq HF.out _ hc0.ck (by omega)).mono ?_
    rintro e w1 ⟨rfl, hL1⟩
    go_wp2_with fail
    refine (allT_eq HG.out _ (hc0.later hL1).tk (by omega)).mono ?_
    rintro e w2 ⟨rfl, hL2⟩
    have hL2' := Later.trans hL1 hL2
    go_wp2_with fail
    refine (allC_eq (c := c) HH.out _ (hc0.later hL2').cp (by omega) (by omega) (by omega)).mono ?_
    rintro e w3 ⟨rfl, hL3⟩
    go_wp2_with fail
    go_ret
    exact ⟨ret_int Hf.out.symm, Later.trans hL0 (Later.trans hL2' hL3)⟩
  | true =>
  have okh : ∀ h ∈ c.clocks, -30 ≤ h.1 ∧ h.1 ≤ h.2 ∧ h.2 ≤ 30 := fun h hh => clockOk_range (List.all_eq_true.1 hF h hh)
  have HF := hide hF
  have HG := hide hG
  have HH := hide hH
  have Hone : Hid ((List.range c.tickets.length).all (ofOk c) = false → fault c = 1) := fun h => fault_one Hlim.out (Or.inr (Or.inr (Or.inr (Or.inr (Or.inr h)))))
  have Hmany : Hid ((List.range c.tickets.length).all (ofOk c) = true → fault c = if 2000 < many c then 3 else 0) := fun h => fault_many Hlim.out hD hE HF.out HG.out (by rw [← Hl1.out, ← Hl2.out]; exact HH.out) h
  clear hF hG hH
  go_enter Try.func67, Try.ntmps67
  go_wp2_with (go_at_call 110; refine (within_calls _ _ _ _).mono ?_; rintro e w' ⟨rfl, rfl⟩)
  rw [← Hw0.out]; clear Hw0
  refine (allR_eq HF.out _ hc0.ck (by omega)).mono ?_
  rintro e w1 ⟨rfl, hL1⟩
  go_wp2_with fail
  refine (allT_eq HG.out _ (hc0.later hL1).tk (by omega)).mono ?_
  rintro e w2 ⟨rfl, hL2⟩
  have hL2' := Later.trans hL1 hL2
  go_wp2_with fail
  refine (allC_eq (c := c) HH.out _ (hc0.later hL2').cp (by omega) (by omega) (by omega)).mono ?_
  rintro e w3 ⟨rfl, hL3⟩
  have hL3' := Later.trans hL2' hL3
  clear hL1 hL2 hL2' hL3
  go_wp2_with fail
  go_loopw [60, 4] (fun i _ wr => ∃ j : Nat, j ≤ n2 ∧ i = .int .i64 j ∧ Later w0 wr ∧ Hid ((List.range j).all (ofOk c) = true)) (fun i _ _ => n2 - (intOf i).toNat)
  case atStart => exact ⟨0, Nat.zero_le _, rfl, hL3', rfl⟩
  case round =>
    obtain ⟨j, hj, rfl, hL, Hall⟩ := hrel
    by_cases hlt : j < n2
    · have hi1 : (j : Int) < n2 := by omega
      have hia := range_all_succ (ofOk c) j
      rw [Hall.out, Bool.true_and] at hia
      have hrow : ofOk c j = decide ((ofP c j).length ≤ 2) := by rw [ofP_len]; rfl
      rw [hrow] at hia
      have hbad : decide ((ofP c j).length ≤ 2) = false → fault c = 1 := fun h => Hone.out (range_all_false (j := j) (by have := Hl2.out; omega) (by rw [hrow]; exact h))
      have Hia := hide hia
      have Hbad := hide hbad
      clear hia hbad hrow Hall
      go_wp2_with fail
      refine (of_calls (k1 := k1) (k2 := k2) (k3 := k3) _ (hc0.later hL) hn3).mono ?_
      rintro e w5 ⟨A, k, rfl, hL5, hri⟩
      clear hri
      generalize (ofP c j).length = m at *
      by_cases p3 : m ≤ 2
      · rw [decide_eq_true p3] at Hia
        have p4 : ¬ (2 : Int) < m := by omega
        go_wp2_with fail
        go_roundw
        case rel => exact ⟨j + 1, by omega, by go_num, Later.trans hL hL5, Hia.out⟩
        case measure => simp [intOf]; omega
      · have Hf : Hid (fault c = 1) := Hbad.out (decide_eq_false p3)
        have p4 : (2 : Int) < m := by omega
        clear Hia Hbad
        go_wp2_with fail
        go_ret
        exact ⟨ret_int Hf.out.symm, Later.trans hL0 (Later.trans hL hL5)⟩
    · have Hf : Hid (fault c = if 2000 < many c then 3 else 0) := by
        have := Hall.out
        rw [show j = c.tickets.length by have := Hl2.out; omega] at this
        exact Hmany.out this
      have Hcm := hide (cut_many okh)
      have hpr : ∀ j : Nat, 1 ≤ cutTo (c.clocks.take j) ∧ cutTo (c.clocks.take j) ≤ 2001 := fun j => cutTo_range fun h hh => okh h (List.mem_of_mem_take hh)
      clear Hall Hone Hmany
      go_wp2_with fail
      obtain ⟨wo, hwo⟩ : ∃ W, W = wr := ⟨_, rfl⟩
      rw [← hwo] at hL
      rw [← hwo]
      clear hwo
      go_loopw [72, 5] (fun i m wr => ∃ j : Nat, j ≤ n1 ∧ i = .int .i64 j ∧ m = .int .i64 (cutTo (c.clocks.take j)) ∧ Later w0 wr) (fun i _ _ => n1 - (intOf i).toNat)
      case atStart => exact ⟨0, Nat.zero_le _, rfl, rfl, hL⟩
      case round =>
        obtain ⟨q, hq, rfl, rfl, hLq⟩ := hrel
        by_cases hltq : q < n1
        · obtain ⟨b, o, x, rfl, _, hx, hx0, hx1⟩ := hc0.ck.get hltq
          have hi1 : (q : Int) < n1 := by omega
          have Hp := hide (cutTo_take hx)
          have hp1 := hpr q
          have okx := okh x (List.mem_of_getElem? hx)
          have hsz : 1 ≤ sizeR x ∧ sizeR x ≤ 61 := by unfold sizeR; omega
          have hx0 := hx0 _ hLq
          have hx1 := hx1 _ hLq
          generalize cutTo (c.clocks.take q) = pj at *
          have hm0 : 0 ≤ pj * sizeR x := Int.mul_nonneg (by omega) (by omega)
          have hm1 : pj * sizeR x ≤ 2001 * 61 := Int.mul_le_mul (by omega) (by omega) (by omega) (by omega)
          have hwm : IntKind.i64.wrap (pj * sizeR x) = pj * sizeR x := IntWalk.i64_in _ (by omega)
          clear hx
          go_wp2_with fail
          refine (size_calls (h := x) _ (by omega) (by omega)).mono ?_
          rintro e w5 ⟨rfl, hL5⟩
          have hL5' : Later w0 w5 := Later.trans (later_alloc hLq _) hL5
          go_wp2_with fail
          refine (min2_calls _ _ _ _ (box_cells w5 #[.int .i64 (pj * sizeR x), .int .i64 2001] 3 _ (later_refl _) 0) (box_cells w5 #[.int .i64 (pj * sizeR x), .int .i64 2001] 3 _ (later_refl _) 1)).mono ?_
          rintro e w6 ⟨rfl, rfl⟩
          go_wp2_with fail
          go_roundw
          case rel => exact ⟨q + 1, by omega, by go_num, by rw [Hp.out], later_alloc hL5' _⟩
          case measure => simp [intOf]; omega
        · have hfull : c.clocks.take q = c.clocks := List.take_of_length_le (by have := Hl1.out; omega)
          rw [hfull]
          have hpf := hpr q
          rw [hfull] at hpf
          by_cases hbig : 2000 < cutTo c.clocks
          · have Hf2 : Hid (fault c = 3) := by show fault c = 3; rw [Hf.out, if_pos (Hcm.out.1 hbig)]
            clear hfull
            generalize cutTo c.clocks = q2 at *
            go_wp2_with fail
            go_ret
            exact ⟨ret_int Hf2.out.symm, Later.trans hL0 hLq⟩
          · have Hf2 : Hid (fault c = 0) := by show fault c = 0; rw [Hf.out, if_neg (fun h => hbig (Hcm.out.2 h))]
            clear hfull
            generalize cutTo c.clocks = q2 at *
            go_wp2_with fail
            go_ret
            exact ⟨ret_int Hf2.out.symm, Later.trans hL0 hLq⟩
theorem CheckHouse_eq {A1 A2 A3 : Option Addr} {n1 k1 n2 k2 n3 k3 : Nat} {c : Hou} {b : Int} (w : World) (hc : CV w c A1 n1 A2 n2 A3 n3) (hb : fault c = b) (hn1 : n1 ≤ 1000) (hn2 : n2 ≤ 1000) (hn3 : n3 ≤ 1000) :
    Calls Try.prog 67 #[(.agg #[.int .i64 c.hour, .int .i64 c.grace, .slice A1 n1 k1, .slice A2 n2 k2, .slice A3 n3 k3])] w fun e w' => e = .returned (.int .i64 b) ∧ Later w w' := by
  have := CheckHouse_calls (k1 := k1) (k2 := k2) (k3 := k3) w hc hn1 hn2 hn3; rw [hb] at this; exact this
end Go.Proofs.Ytbkfnajpbhfneaa

/- The program's minute, rising: walks. -/
namespace Go.Proofs.Ytbkfnajpbhfneaa
open Go Go.RowKit

set_option maxRecDepth 100000 in
theorem minute_eq {e0 e1 e2 e3 v : Int} {x : Cp} (hv : minuteC [e0, e1, e2, e3] x = v) (w : World) (h0 : 0 ≤ x.clock) (h4 : x.clock < 4) (hm : -1000000 ≤ x.minute ∧ x.minute ≤ 1000000) (he : ∀ y ∈ [e0, e1, e2, e3], -1000 ≤ y ∧ y ≤ 1000) :
    Calls Try.prog 105 #[.agg #[.int .i64 e0, .int .i64 e1, .int .i64 e2, .int .i64 e3], .agg #[.int .i64 x.ticket, .int .i64 x.clock, .int .i64 x.minute]] w fun e w' => e = .returned (.int .i64 v) ∧ Later w w' := by
  obtain ⟨w0, hw0⟩ : ∃ W, W = (w.alloc (.cells #[.int .i64 e0, .int .i64 e1, .int .i64 e2, .int .i64 e3] 117)).alloc (.cells #[.int .i64 x.ticket, .int .i64 x.clock, .int .i64 x.minute] 101) := ⟨_, rfl⟩
  have hL0 : Later w w0 := by rw [hw0]; exact later_alloc (later_alloc (later_refl _) _) _
  have b1 : Blk w0 w.heap.size 117 #[.int .i64 e0, .int .i64 e1, .int .i64 e2, .int .i64 e3] := by rw [hw0]; exact (Blk.new _ _ _).alloc _
  have b2 : Blk w0 (w.heap.size + 1) 101 #[.int .i64 x.ticket, .int .i64 x.clock, .int .i64 x.minute] := by
    have := Blk.new (w.alloc (.cells #[.int .i64 e0, .int .i64 e1, .int .i64 e2, .int .i64 e3] 117)) 101 #[.int .i64 x.ticket, .int .i64 x.clock, .int .i64 x.minute]
    rw [World.size_alloc] at this
    rw [hw0]; exact this
  have hlt : x.clock.toNat < 4 := by omega
  obtain ⟨y, hy⟩ : ∃ y, [e0, e1, e2, e3][x.clock.toNat]? = some y := ⟨_, List.getElem?_eq_getElem (by simpa using hlt)⟩
  have hyr := he y (List.mem_of_getElem? hy)
  have c0 : ∀ W, Later w0 W → W.cell? ⟨w.heap.size, x.clock.toNat, none⟩ = some (.int .i64 y) := fun W hW => by
    rw [(b1.later hW).cell]
    have : (ints [e0, e1, e2, e3])[x.clock.toNat]? = some (.int .i64 y) := by unfold ints; rw [List.getElem?_map, hy]; rfl
    simpa [ints] using this
  have d1 := fun W (hW : Later w0 W) => (b2.later hW).cell 1
  have d2 := fun W (hW : Later w0 W) => (b2.later hW).cell 2
  simp only [List.getElem?_toArray, List.getElem?_cons_zero, List.getElem?_cons_succ] at d1 d2
  have hvv : x.minute - y = v := by rw [← hv]; unfold minuteC; rw [List.getD_eq_getElem?_getD, hy]; rfl
  have hw1 : IntKind.i64.wrap (x.minute - y) = x.minute - y := IntWalk.i64_in _ (by omega)
  have Hvv := hide hvv
  have Hw0 := hide hw0
  clear hw0 hy hvv hv b1 b2 he
  go_enter Try.func105, Try.ntmps105
  go_wp2_with fail
  rw [← Hw0.out]; clear Hw0
  refine wp_region_ext (w0 := w0) (by kernel_rfl) (by kernel_rfl) (later_refl _) ?_; (repeat (first | go_big_quiet_step (((fail))) | quiet_step (((fail))))); refine wpQuiet_nil ?_; rintro w3 ⟨⟨_, hL3⟩, rfl⟩; (try dsimp only)
  go_wp2_with fail
  go_ret
  exact ⟨ret_int Hvv.out, Later.trans hL0 hL3⟩
theorem risP_cons (d out : List Int) (i : Nat) (x : Cp) (l : List Cp) (last : Option Int) : risP d out i (x :: l) last = if out.contains (i : Int) then risP d out (i + 1) l last else
    (match last with
      | none => true
      | some m => decide (m ≤ minuteC d x)) && risP d out (i + 1) l (some (minuteC d x)) := rfl
/-- the four errors, for a house: what a clip's minute asks -/
structure Err4 (c : Hou) (e0 e1 e2 e3 : Int) : Prop where
  rng : ∀ y ∈ [e0, e1, e2, e3], -1000 ≤ y ∧ y ≤ 1000
theorem clip_in {c : Hou} (ok : OkH c) {x : Cp} (hx : x ∈ c.clips) : 0 ≤ x.clock ∧ x.clock < 4 ∧ -1000000 ≤ x.minute ∧ x.minute ≤ 1000000 := by
  have := ok.clip x hx
  have := ok.n1
  omega
set_option maxRecDepth 100000 in
set_option maxHeartbeats 2000000 in
theorem rising_calls {A1 A2 A3 : Option Addr} {n1 k1 n2 k2 n3 k3 : Nat} {c : Hou} {e0 e1 e2 e3 : Int} {Ao : Option Addr} {no ko : Nat} {out : List Int} (w : World) (hc : CV w c A1 n1 A2 n2 A3 n3) (ok : OkH c) (ho : RI w Ao no out) (hno : no ≤ 1000000) (he : ∀ y ∈ [e0, e1, e2, e3], -1000 ≤ y ∧ y ≤ 1000) :
    Calls Try.prog 108 #[(.agg #[.int .i64 c.hour, .int .i64 c.grace, .slice A1 n1 k1, .slice A2 n2 k2, .slice A3 n3 k3]), .agg #[.int .i64 e0, .int .i64 e1, .int .i64 e2, .int .i64 e3], .slice Ao no ko] w fun e w' => e = .returned (.bool (rightP c [e0, e1, e2, e3] out)) ∧ Later w w' := by
  have hl3 := hc.cp.len
  have hn3 : n3 ≤ 10 := by have := ok.n3; omega
  have Hl3 := hide hl3
  clear hl3
  obtain ⟨w0, hw0⟩ : ∃ W, W = ((w.alloc (.cells #[.int .i64 c.hour, .int .i64 c.grace, .slice A1 n1 k1, .slice A2 n2 k2, .slice A3 n3 k3] 36))).alloc (.cells #[.int .i64 e0, .int .i64 e1, .int .i64 e2, .int .i64 e3] 117) := ⟨_, rfl⟩
  have hL0 : Later w w0 := by rw [hw0]; exact later_alloc (later_alloc (later_refl _) _) _
  have b1 : Blk w0 w.heap.size 36 #[.int .i64 c.hour, .int .i64 c.grace, .slice A1 n1 k1, .slice A2 n2 k2, .slice A3 n3 k3] := by rw [hw0]; exact (Blk.new _ _ _).alloc _
  have b2 : Blk w0 (w.heap.size + 1) 117 #[.int .i64 e0, .int .i64 e1, .int .i64 e2, .int .i64 e3] := by
    have := Blk.new (w.alloc (.cells #[.int .i64 c.hour, .int .i64 c.grace, .slice A1 n1 k1, .slice A2 n2 k2, .slice A3 n3 k3] 36)) 117 #[.int .i64 e0, .int .i64 e1, .int .i64 e2, .int .i64 e3]
    rw [World.size_alloc] at this
    rw [hw0]; exact this
  have hbox := fun W (hW : Later w0 W) => (b1.later hW).cell
  have hbe := fun W (hW : Later w0 W) => (b2.later hW).cell
  have hc0 := hc.later hL0
  have ho0 := ho.later hL0
  have Hw0 := hide hw0
  clear hw0 b1 b2
  go_enter Try.func108, Try.ntmps108
  go_wp2_with fail
  rw [← Hw0.out]; clear Hw0
  go_loopw [7, 8, 9, 11, 15] (fun v7 v8 _ _ v15 wr => ∃ (j : Nat) (m : Int) (b : Bool), j ≤ n3 ∧ v15 = .int .i64 j ∧ v7 = .int .i64 m ∧ v8 = .bool b ∧ Later w0 wr ∧ Hid (risP [e0, e1, e2, e3] out 0 c.clips none = risP [e0, e1, e2, e3] out j (c.clips.drop j) (if b then some m else none))) (fun _ _ _ _ v15 _ => n3 - (intOf v15).toNat)
  case atStart => exact ⟨0, 0, false, Nat.zero_le _, rfl, rfl, rfl, later_refl _, rfl⟩
  case round =>
    obtain ⟨j, m, b, hj, rfl, rfl, rfl, hL, Hrec⟩ := hrel
    by_cases hlt : j < n3
    · obtain ⟨bb, o, x, rfl, _, hx, hx0, hx1, hx2⟩ := hc0.cp.get hlt
      have hi1 : (j : Int) < n3 := by omega
      obtain ⟨hp, e9⟩ := List.getElem?_eq_some_iff.1 hx
      have hrec := Hrec.out
      rw [List.drop_eq_getElem_cons hp, e9, risP_cons] at hrec
      obtain ⟨k0, k4, km⟩ := clip_in ok (List.mem_of_getElem? hx)
      have hx0 := hx0 _ hL
      have hx1 := hx1 _ hL
      have hx2 := hx2 _ hL
      have hor := ho0.later hL
      obtain ⟨w2, hw2⟩ : ∃ W, W = wr.alloc (.cells #[.int .i64 x.ticket, .int .i64 x.clock, .int .i64 x.minute] 101) := ⟨_, rfl⟩
      have hb2 := Blk.new wr 101 #[.int .i64 x.ticket, .int .i64 x.clock, .int .i64 x.minute]
      rw [← hw2] at hb2
      have hLr2 : Later wr w2 := by rw [hw2]; exact later_alloc (later_refl _) _
      have hL2 := Later.trans hL hLr2
      have q0 := fun W (hW : Later w2 W) => (hb2.later hW).cell 0
      have q1 := fun W (hW : Later w2 W) => (hb2.later hW).cell 1
      have q2 := fun W (hW : Later w2 W) => (hb2.later hW).cell 2
      simp only [List.getElem?_toArray, List.getElem?_cons_zero, List.getElem?_cons_succ] at q0 q1 q2
      have hL22 : Later w2 w2 := later_refl _
      have Hw2 := hide hw2
      cases hct : out.contains (j : Int) with
      | true =>
        rw [hct, if_pos rfl] at hrec
        have Hr2 := hide hrec
        have Hct := hide hct
        clear hrec hx hct hw2 e9 Hrec
        go_upto_region 5 with fail
        rw [← Hw2.out]
        go_wp2_with (go_at_call 123; refine (Contains_eq Hct.out _ (hor.later hLr2) hno).mono ?_; rintro e w' ⟨rfl, rfl⟩)
        go_roundw
        case rel => exact ⟨j + 1, m, b, hlt, by go_num, rfl, rfl, hL2, Hr2.out⟩
        case measure => simp [intOf]; omega
      | false =>
        rw [hct, if_neg (by simp)] at hrec
        obtain ⟨v, hv⟩ : ∃ v, minuteC [e0, e1, e2, e3] x = v := ⟨_, rfl⟩
        rw [hv] at hrec
        have Hv := hide hv
        have Hct := hide hct
        cases b with
        | false =>
          have Hr2 : Hid (risP [e0, e1, e2, e3] out 0 c.clips none = risP [e0, e1, e2, e3] out (j + 1) (c.clips.drop (j + 1)) (some v)) := by
            show _ = _; rw [hrec]; simp
          clear hrec hx hct hw2 e9 Hrec hv
          go_upto_region 5 with fail
          rw [← Hw2.out]
          go_wp2_with (go_at_call 123; refine (Contains_eq Hct.out _ (hor.later hLr2) hno).mono ?_; rintro e w' ⟨rfl, rfl⟩)
          refine (minute_eq Hv.out _ k0 k4 km he).mono ?_
          rintro e w3 ⟨rfl, hL3⟩
          go_wp2_with fail
          go_roundw
          case rel => exact ⟨j + 1, v, true, hlt, by go_num, rfl, rfl, Later.trans hL2 hL3, Hr2.out⟩
          case measure => simp [intOf]; omega
        | true =>
          have hrec2 : risP [e0, e1, e2, e3] out 0 c.clips none = (decide (m ≤ v) && risP [e0, e1, e2, e3] out (j + 1) (c.clips.drop (j + 1)) (some v)) := by rw [hrec]; rfl
          by_cases hmv : v < m
          · have Hf : Hid (rightP c [e0, e1, e2, e3] out = false) := by
              show _ = _; unfold rightP; rw [hrec2, decide_eq_false (by omega)]; rfl
            clear hrec hx hct hw2 e9 Hrec hrec2 hv
            go_upto_region 5 with fail
            rw [← Hw2.out]
            go_wp2_with (go_at_call 123; refine (Contains_eq Hct.out _ (hor.later hLr2) hno).mono ?_; rintro e w' ⟨rfl, rfl⟩)
            refine (minute_eq Hv.out _ k0 k4 km he).mono ?_
            rintro e w3 ⟨rfl, hL3⟩
            go_wp2_with fail
            go_ret
            exact ⟨by rw [Hf.out]; rfl, Later.trans hL0 (Later.trans hL2 hL3)⟩
          · have Hr2 : Hid (risP [e0, e1, e2, e3] out 0 c.clips none = risP [e0, e1, e2, e3] out (j + 1) (c.clips.drop (j + 1)) (some v)) := by
              show _ = _; rw [hrec2, decide_eq_true (by omega)]; rfl
            clear hrec hx hct hw2 e9 Hrec hrec2 hv
            go_upto_region 5 with fail
            rw [← Hw2.out]
            go_wp2_with (go_at_call 123; refine (Contains_eq Hct.out _ (hor.later hLr2) hno).mono ?_; rintro e w' ⟨rfl, rfl⟩)
            refine (minute_eq Hv.out _ k0 k4 km he).mono ?_
            rintro e w3 ⟨rfl, hL3⟩
            go_wp2_with fail
            go_roundw
            case rel => exact ⟨j + 1, v, true, hlt, by go_num, rfl, rfl, Later.trans hL2 hL3, Hr2.out⟩
            case measure => simp [intOf]; omega
    · have Hf : Hid (rightP c [e0, e1, e2, e3] out = true) := by
        show _ = _
        unfold rightP
        rw [Hrec.out, List.drop_of_length_le (by have := Hl3.out; omega)]; rfl
      clear Hrec
      go_wp2_with fail
      go_ret
      exact ⟨by rw [Hf.out]; rfl, Later.trans hL0 hL⟩
theorem rising_eq {A1 A2 A3 : Option Addr} {n1 k1 n2 k2 n3 k3 : Nat} {c : Hou} {e0 e1 e2 e3 : Int} {Ao : Option Addr} {no ko : Nat} {out : List Int} {b : Bool} (hb : rightP c [e0, e1, e2, e3] out = b) (w : World) (hc : CV w c A1 n1 A2 n2 A3 n3) (ok : OkH c) (ho : RI w Ao no out) (hno : no ≤ 1000000) (he : ∀ y ∈ [e0, e1, e2, e3], -1000 ≤ y ∧ y ≤ 1000) :
    Calls Try.prog 108 #[(.agg #[.int .i64 c.hour, .int .i64 c.grace, .slice A1 n1 k1, .slice A2 n2 k2, .slice A3 n3 k3]), .agg #[.int .i64 e0, .int .i64 e1, .int .i64 e2, .int .i64 e3], .slice Ao no ko] w fun e w' => e = .returned (.bool b) ∧ Later w w' := by
  rw [← hb]; exact rising_calls w hc ok ho hno he
theorem pad4_range {c : Hou} (ok : OkH c) {d : List Int} (hd : IsErr c d) : ∀ y ∈ pad4 d, -1000 ≤ y ∧ y ≤ 1000 := by
  intro x hx
  simp only [pad4, List.mem_cons, List.not_mem_nil, or_false] at hx
  have h0 := hd.range ok 0
  have h1 := hd.range ok 1
  have h2 := hd.range ok 2
  have h3 := hd.range ok 3
  rcases hx with rfl | rfl | rfl | rfl <;> omega
end Go.Proofs.Ytbkfnajpbhfneaa

/- A drawn region within a round of a range over a function: from what is shown outside of a round. -/
namespace Go.Proofs.Ytbkfnajpbhfneaa
open Go Go.RowKit
section
variable {P : Program} {ops : Array Oper} {md : Region.Mode} {Q : Exit → Act → World → Prop} {l n : Nat}
theorem oper_round {o : Oper} {a : Act} {w : World} {K : Act → World → Prop} (hd : ∀ c, o.op ≠ .defer c) (h : o.wp P a w K Q) : o.wpIn (Fence.wide.inRound l) n P a w K Q := by
  refine ⟨fun _ _ => trivial, ?_⟩
  unfold Oper.wp at h
  rw [Oper.semAt_eq _ _ _ hd]
  generalize (execOp a.eval o).run P w = r at *
  have hdep : (Fence.wide.inRound l).depth.isSome = true → 1 ≤ n := fun h => by simp [Fence.wide, Fence.inRound] at h
  cases r with
  | ok x w' =>
    cases x <;> simp only [Oper.upon, Oper.uponIn] at h ⊢ <;>
      first
        | exact h
        | exact ⟨hdep, CallsIn.inRound l (callsIn_wide.2 h)⟩
        | exact ⟨hdep, fun c cs _ => let ⟨v, w1, hk, hs⟩ := h c cs; ⟨v, w1, hk, stepsIn_wide.2 hs⟩⟩
        | exact ⟨hdep, fun c cs => let ⟨v, w1, hk, hs⟩ := h c cs; ⟨v, w1, hk, stepsIn_wide.2 hs⟩⟩
        | exact h.elim
  | halt x w' => cases x <;> simp only [Oper.upon, Oper.uponIn] at h ⊢ <;> exact h

theorem op_round {i : Nat} {a : Act} {w : World} {K : Act → World → Prop} (hd : ∀ (j : Nat) (o : Oper) c, ops[j]? = some o → o.op ≠ .defer c) (hQ : ¬ LetsOut Q) (h : wpOp P ops Q i K a w) : wpOpIn (Fence.wide.inRound l) n P ops Q i K a w := by
  unfold wpOp at h
  unfold wpOpIn
  split
  · simpa [*] using h
  · rename_i o ho
    simp only [ho] at h
    split
    · rename_i hw
      simp only [hw, if_true] at h
      exact oper_round (hd i o · ho) (h.resolve_right fun k => hQ k.2)
    · rename_i hw
      simp only [hw] at h
      exact ⟨fun _ _ => trivial, h⟩
theorem wpOp_mono_ {i : Nat} {a : Act} {w : World} {K K' : Act → World → Prop} (h : ∀ a w, K a w → K' a w) (hh : wpOpIn (Fence.wide.inRound l) n P ops Q i K a w) : wpOpIn (Fence.wide.inRound l) n P ops Q i K' a w := wpOpIn_mono h hh
theorem any_round (hd : ∀ (j : Nat) (o : Oper) c, ops[j]? = some o → o.op ≠ .defer c) (hQ : ¬ LetsOut Q) : ∀ (fuel : Nat) (listed : Array Bool) (a : Act) (w : World), wpAny P md ops Q fuel listed a w → wpAnyIn (Fence.wide.inRound l) n P md ops Q fuel listed a w
  | 0, _, _, _, h => h
  | fuel + 1, _, _, _, h => ⟨h.1, fun i hi => wpOpIn_mono (fun a w => any_round hd hQ fuel _ a w) (op_round hd hQ (h.2 i hi))⟩
/-- what is shown of a drawn region outside of a round serves within -/
theorem region_round {id : Nat} {a : Act} {w : World} (hm : P.follows .mixedOrders = true) (hd : ops.all (fun o => match o.op with | .defer _ => false | _ => true) = true) (hQ : ¬ LetsOut Q)
    (h : wpAny P .any ops Q ops.size (Array.replicate ops.size false) a w.drew) : (Code.region id ops true).wpIn (Fence.wide.inRound l) n P Q a w := by
  refine wpIn_region_any hm (any_round (fun j o c hj e => ?_) hQ _ _ _ _ h)
  have := (Array.all_eq_true.1 hd) j (Array.getElem?_eq_some_iff.1 hj).1
  rw [(Array.getElem?_eq_some_iff.1 hj).2, e] at this
  cases this
theorem region_round_quiet {id : Nat} {a : Act} {w w0 : World} {ls : List Oper} (hm : P.follows .mixedOrders = true) (hB : Region.lexB .any ls.toArray = true)
    (hd : ls.toArray.all (fun o => match o.op with | .defer _ => false | _ => true) = true) (hQ : ¬ LetsOut Q) (hL : Later w0 w)
    (h : wpQuiet P ls.toArray (fun W => ∃ e : Ext w0, W = e.W) (fun a' => ∀ W, (∃ e : Ext w0, W = e.W) → Q .normal a' W) ls a) : (Code.region id ls.toArray true).wpIn (Fence.wide.inRound l) n P Q a w := by
  simp only [Region.lexB, Bool.and_eq_true] at hB
  refine region_round hm hd hQ (wpAny_of_quiet (C := fun W => ∃ e : Ext w0, W = e.W) (Q := fun a' => ∀ w', (∃ e : Ext w0, w' = e.W) → Q .normal a' w') (fun _ w' hw' h => h w' hw') _ _ _ _ ⟨⟨w.drew, later_drew hL⟩, rfl⟩ ?_)
  have := wpAnyQ_lex (C := fun W => ∃ e : Ext w0, W = e.W) (md := .any) hB.1 ls 0 (Array.replicate ls.length false) a (by simp) (by simpa using hB.2) h
  simpa using this
end
end Go.Proofs.Ytbkfnajpbhfneaa

/- A range over a function whose iterator keeps cells of its own: the law for the caller. -/
namespace Go.Proofs.Ytbkfnajpbhfneaa
open Go Go.RowKit Go.Shelf

/-- J stands new blocks, and stores into block bd -/
def Stands {β : Type} (bd : Nat) (J : β → World → Prop) : Prop :=
  (∀ s A o, J s A → J s (A.alloc o)) ∧ ∀ s A i u, J s A → J s (A.setCell ⟨bd, i, none⟩ u)

/-- THE ITERATOR's CONTRACT: it yields xs in order; its own cells lie from the heap's size on, of which the block next to the first is written between rounds; a round that goes on keeps Kp. -/
def IterOK {α : Type} (F : Fence) (n : Nat) (P : Program) (gf : Nat) (lb : Array Value) (encs : α → Array Value) (Kp : World → World → Prop) (xs : List α) (W : World) : Prop :=
  ∀ (l : Nat) (J Jx : List α → World → Prop), Stands (W.heap.size + 1) J →
    (∀ pre x A, J pre A → pre ++ [x] <+: xs → YieldAt F (n - 1) P l (encs x) A fun e A' =>
      (e = .returned (.bool true) ∧ J (pre ++ [x]) A' ∧ Kp A A') ∨ (e = .returned (.bool false) ∧ Jx (pre ++ [x]) A')) →
    (∀ A, Later W A → W.heap.size + 3 ≤ A.heap.size → J [] A) →
    CallsIn F n P gf (#[.func (.yield l) #[] #[]] ++ lb) W fun e W' => (∃ v, e = .returned v) ∧ (J xs W' ∨ ∃ pre, pre <+: xs ∧ Jx pre W')

/-- how a round's body may be left -/
def iterPost {α : Type} (Kp : World → World → Prop) (I : List α → World → Prop) (Ix : Code → List α → World → Prop) (xs : List α) (W : World) : Exit → Act → World → Prop
  | .normal, _, W' => KeepsOthers W W' ∧ Kp W W' ∧ I xs W'
  | .ret, _, W' => KeepsOthers W W' ∧ Ix .ret xs W'
  | .exit id, _, W' => KeepsOthers W W' ∧ Ix (.exit id) xs W'
  | .goto t, _, W' => KeepsOthers W W' ∧ Ix (.goto t) xs W'
  | .panic _, _, _ => False
  | .outgrown, _, _ => False

variable {F : Fence} {n : Nat} {P : Program}
theorem wpIn_iter {α : Type} {g : Operand} {ps : Array Tmp} {assign body : Code} {Q : Exit → Act → World → Prop} {a : Act} {w : World}
    (hro : F.round = none) (h1 : 1 ≤ n) {gf : Nat} {lb : Array Value} (hg : a.eval g = .func (.func gf) #[] lb) (hFg : F.fn gf) (eg : ∀ args w, (callFunc gf args).run P w = .ok (.enter gf args) w)
    {encs : α → Array Value} {Kp : World → World → Prop} {xs : List α}
    (hseq : ∀ W, Later w W → W.heap.size = w.heap.size + 2 → IterOK F (n - 1) P gf lb encs Kp xs W)
    (hKt : ∀ {A B C : World}, Kp A B → Kp B C → Kp A C) (hKb : ∀ (W : World) (o : Obj), Kp W (W.putObj (w.heap.size + 1) o)) (hps : ∀ x, (encs x).size = ps.size)
    (I : List α → World → Prop) (Ix : Code → List α → World → Prop)
    (hIs : Stands (w.heap.size + 3) I) (hIp : ∀ s A o, I s A → w.heap.size + 1 < A.heap.size → I s (A.putObj (w.heap.size + 1) o)) (hIxp : ∀ c s A o, Ix c s A → w.heap.size + 1 < A.heap.size → Ix c s (A.putObj (w.heap.size + 1) o))
    (h0 : ∀ A, Later w A → w.heap.size + 5 ≤ A.heap.size → I [] A) (I2 : List α → α → Act → World → Prop)
    (hassign : ∀ (l : Nat) (pre : List α) (x : α) (W : World) (K : Act → World → Prop), I pre W → pre ++ [x] <+: xs → (∀ a' W', KeepsOthers W W' → Kp W W' → I2 pre x a' W' → K a' W') →
      assign.wpIn (F.inRound l) (n - 1 - 1) P (Exit.then K (fun _ _ _ => False)) { tmps := (ps.zip (encs x)).foldl (fun t (p, v) => t.setIfInBounds p v) a.tmps, defers := [] } W)
    (hI2p : ∀ pre x a' A o, I2 pre x a' A → w.heap.size + 1 < A.heap.size → I2 pre x a' (A.putObj (w.heap.size + 1) o))
    (hbody : ∀ (l : Nat) (pre : List α) (x : α) (a' : Act) (W : World), I2 pre x a' W → pre ++ [x] <+: xs → w.heap.size + 1 < W.heap.size → body.wpIn (F.inRound l) (n - 1 - 1) P (iterPost Kp I Ix (pre ++ [x]) W) a' W)
    (hdone : ∀ (W : World), I xs W → W.heap[w.heap.size]? = some (.deferred (some [])) → Q .normal { a with defers := { target := .collected w.heap.size, args := #[] } :: a.defers } W)
    (hstop : ∀ (c : Code) (pre : List α) (W : World), pre <+: xs → Ix c pre W → W.heap[w.heap.size]? = some (.deferred (some [])) → c.wpIn F n P Q { a with defers := { target := .collected w.heap.size, args := #[] } :: a.defers } W) :
    (Code.rangeFunc g ps assign body).wpIn F n P Q a w := by
  refine wpIn_rangeFunc ?_
  intro fn hfn
  rw [hro]
  obtain ⟨rec, hrec⟩ : ∃ rec : LoopState → Option Code → Loop, rec = fun st pe => { state := st, pending := pe, fn, tmps := a.tmps, params := ps, assign, body, defers := w.heap.size } := ⟨_, rfl⟩
  obtain ⟨W1, hW1⟩ : ∃ W1, (w.alloc (.deferred (some []))).alloc (.loop (rec .ready none)) = W1 := ⟨_, rfl⟩
  have hs1 : W1.heap.size = w.heap.size + 2 := by rw [← hW1]; simp
  have hL1 : W1.heap[w.heap.size + 1]? = some (.loop (rec .ready none)) := by
    rw [← hW1]; have := World.alloc_heap_new (w.alloc (.deferred (some []))) (.loop (rec .ready none)); rwa [World.size_alloc] at this
  have hK1 : W1.heap[w.heap.size]? = some (.deferred (some [])) := by
    rw [← hW1]; exact (Below.heap_alloc _ _ _ (by simp)).trans (World.alloc_heap_new w _)
  have hb1 : Later w W1 := by rw [← hW1]; simp
  refine ⟨w.heap.size + 1, [{ target := .collected w.heap.size, args := #[] }], W1, { target := .fn (.func gf) lb, args := #[.func (.yield (w.heap.size + 1)) #[] #[]] }, W1, gf,
    #[.func (.yield (w.heap.size + 1)) #[] #[]] ++ lb, W1, ?_, ?_, ?_, ?_, fun _ => h1, ?_⟩
  · rw [← hW1, hrec]; exact run_enterLoop_outer _ _ _ _ _
  · simp only [resolve, hg]
    simp [go_sem]
  · intro f' hf'; simp [Target.leads] at hf'; subst hf'; exact hFg
  · simp [invoke, go_sem, eg]
  · refine (hseq W1 hb1 hs1 (w.heap.size + 1)
      (fun pre W => I pre W ∧ W.heap[w.heap.size + 1]? = some (.loop (rec .ready none)) ∧ W.heap[w.heap.size]? = some (.deferred (some [])))
      (fun pre W => ∃ c, Ix c pre W ∧ W.heap[w.heap.size + 1]? = some (.loop (rec .done (some c))) ∧ W.heap[w.heap.size]? = some (.deferred (some [])))
      ⟨fun s A o hs => ⟨hIs.1 _ _ _ hs.1, (Below.heap_alloc A o _ (Array.getElem?_eq_some_iff.1 hs.2.1).1).trans hs.2.1, (Below.heap_alloc A o _ (Array.getElem?_eq_some_iff.1 hs.2.2).1).trans hs.2.2⟩,
       fun s A i u hs => by
        rw [hs1]
        exact ⟨hIs.2 _ _ _ _ hs.1, (Below.heap_setCell A _ u _ (by show w.heap.size + 1 ≠ w.heap.size + 2 + 1; omega)).trans hs.2.1, (Below.heap_setCell A _ u _ (by show w.heap.size ≠ w.heap.size + 2 + 1; omega)).trans hs.2.2⟩⟩
      ?_ (fun A hA hsz => ⟨h0 A (Later.trans hb1 hA) (by omega), (hA.block _ (by omega)).trans hL1, (hA.block _ (by omega)).trans hK1⟩)).mono ?_
    · rintro pre x W0 ⟨hi0, hl0, hk0⟩ hpx
      have hlt0 : w.heap.size + 1 < W0.heap.size := (Array.getElem?_eq_some_iff.1 hl0).1
      have hy := run_yield (P := P) (args := encs x) hl0 (by rw [hrec]; exact hps x)
      rw [hrec] at hy
      refine ⟨fn, _, assign, body, hy, roundIn_of_wpIn hfn (hassign _ pre x W0 _ hi0 hpx fun a' W hko hkp hi => ?_)⟩
      have hl := hko.same _ _ hl0 rfl
      have hk := hko.same _ _ hk0 rfl
      have hlt : w.heap.size + 1 < W.heap.size := (Array.getElem?_eq_some_iff.1 hl).1
      refine ⟨_, run_beginRound hl (by rw [hrec]), ?_⟩
      have hl2 : (W.putObj (w.heap.size + 1) (.loop { rec .ready none with state := .busy })).heap[w.heap.size + 1]? = some (.loop { rec .ready none with state := .busy }) := World.putObj_heap_same hlt
      have hk2 : (W.putObj (w.heap.size + 1) (.loop { rec .ready none with state := .busy })).heap[w.heap.size]? = some (.deferred (some [])) := (World.putObj_heap_other (by omega)).trans hk
      have hw2 : Kp W0 (W.putObj (w.heap.size + 1) (.loop { rec .ready none with state := .busy })) := hKt hkp (hKb _ _)
      refine wpIn_mono (hbody _ pre x a' _ (hI2p _ _ _ _ _ hi hlt) hpx (by simpa using hlt)) ?_
      have fin : ∀ (jump : Option Code) (W3 : World), KeepsOthers (W.putObj (w.heap.size + 1) (.loop { rec .ready none with state := .busy })) W3 →
          (Instr.endRound (w.heap.size + 1) jump).run P W3 = .ok (.bool jump.isNone) (W3.putObj (w.heap.size + 1) (.loop (rec (if jump.isNone then .ready else .done) jump))) ∧
          w.heap.size + 1 < W3.heap.size ∧
          (W3.putObj (w.heap.size + 1) (.loop (rec (if jump.isNone then .ready else .done) jump))).heap[w.heap.size + 1]? = some (.loop (rec (if jump.isNone then .ready else .done) jump)) ∧
          (W3.putObj (w.heap.size + 1) (.loop (rec (if jump.isNone then .ready else .done) jump))).heap[w.heap.size]? = some (.deferred (some [])) := fun jump W3 hk3 => by
        have hl3 := hk3.same _ _ hl2 rfl
        have := run_endRound (P := P) jump hl3
        rw [hrec] at this ⊢
        exact ⟨this, (Array.getElem?_eq_some_iff.1 hl3).1, World.putObj_heap_same (Array.getElem?_eq_some_iff.1 hl3).1, (World.putObj_heap_other (by omega)).trans (hk3.same _ _ hk2 rfl)⟩
      rintro e a3 W3 hp
      cases e with
      | normal =>
        obtain ⟨hk3, hkp3, hi3⟩ := hp
        obtain ⟨hr, hl3, hl4, hk4⟩ := fin none W3 hk3
        exact ⟨_, _, hr, .inl ⟨rfl, ⟨hIp _ _ _ hi3 hl3, hl4, hk4⟩, hKt (hKt hw2 hkp3) (hKb _ _)⟩⟩
      | ret =>
        obtain ⟨hk3, hi3⟩ := hp
        obtain ⟨hr, hl3, hl4, hk4⟩ := fin (some .ret) W3 hk3
        exact ⟨_, _, hr, .inr ⟨rfl, .ret, hIxp _ _ _ _ hi3 hl3, hl4, hk4⟩⟩
      | exit id =>
        obtain ⟨hk3, hi3⟩ := hp
        obtain ⟨hr, hl3, hl4, hk4⟩ := fin (some (.exit id)) W3 hk3
        exact ⟨_, _, hr, .inr ⟨rfl, .exit id, hIxp _ _ _ _ hi3 hl3, hl4, hk4⟩⟩
      | goto t =>
        obtain ⟨hk3, hi3⟩ := hp
        obtain ⟨hr, hl3, hl4, hk4⟩ := fin (some (.goto t)) W3 hk3
        exact ⟨_, _, hr, .inr ⟨rfl, .goto t, hIxp _ _ _ _ hi3 hl3, hl4, hk4⟩⟩
      | panic ch => exact hp.elim
      | outgrown => exact hp.elim
    · rintro e W2 ⟨⟨v, rfl⟩, (⟨hi, hl, hk⟩ | ⟨pre, hSp, c, hi, hl, hk⟩)⟩
      · exact ⟨none, _, by have := run_endLoop (P := P) hl (by rw [hrec]; simp); rw [hrec] at this; exact this, hdone _ (hIp _ _ _ hi (Array.getElem?_eq_some_iff.1 hl).1) ((World.putObj_heap_other (by omega)).trans hk)⟩
      · exact ⟨some c, _, by have := run_endLoop (P := P) hl (by rw [hrec]; simp); rw [hrec] at this; exact this, hstop c pre _ hSp (hIxp _ _ _ _ hi (Array.getElem?_eq_some_iff.1 hl).1) ((World.putObj_heap_other (by omega)).trans hk)⟩

/-- what the body of a range keeps: the blocks of S -/
def KeepS (S : Nat → Prop) (A B : World) : Prop := ∀ b, S b → B.heap[b]? = A.heap[b]?
theorem KeepS.refl {S : Nat → Prop} (A : World) : KeepS S A A := fun _ _ => rfl
theorem KeepS.trans {S : Nat → Prop} {A B C : World} (h : KeepS S A B) (k : KeepS S B C) : KeepS S A C := fun b hb => (k b hb).trans (h b hb)
theorem KeepS.alloc {S : Nat → Prop} {A B : World} (h : KeepS S A B) (o : Obj) (hs : ∀ b, S b → b < B.heap.size) : KeepS S A (B.alloc o) := fun b hb => (Below.heap_alloc B o b (hs b hb)).trans (h b hb)
theorem KeepS.set_ {S : Nat → Prop} {A B : World} (h : KeepS S A B) (p : Addr) (hp : ¬ S p.block) (u : Value) : KeepS S A (B.setCell p u) := fun b hb => (Below.heap_setCell B p u b (fun e => hp (e ▸ hb))).trans (h b hb)
theorem KeepS.later {S : Nat → Prop} {A B C : World} (h : KeepS S A B) (k : Later B C) (hs : ∀ b, S b → b < B.heap.size) : KeepS S A C := fun b hb => (k.block b (hs b hb)).trans (h b hb)
theorem KeepS.cell {S : Nat → Prop} {A B : World} (h : KeepS S A B) {b : Nat} (hb : S b) (i : Nat) : B.cell? ⟨b, i, none⟩ = A.cell? ⟨b, i, none⟩ := World.cell?_of_block (h b hb)

theorem roundIn_wide {n m : Nat} {P : Program} {l : Nat} {f : FuncId} {tmps : Array Value} {assign body : Code} {w : World} {R : Ending → World → Prop}
    (h : RoundIn Fence.wide n P l f tmps assign body w R) : RoundIn Fence.wide m P l f tmps assign body w R := ⟨h.1, fun c cs _ => h.2 c cs (room_wide _)⟩
theorem yieldAt_wide {n m : Nat} {P : Program} {l : Nat} {args : Array Value} {w : World} {R : Ending → World → Prop} (h : YieldAt Fence.wide n P l args w R) : YieldAt Fence.wide m P l args w R := by
  obtain ⟨fn, tmps, assign, body, hy, hR⟩ := h
  exact ⟨fn, tmps, assign, body, hy, roundIn_wide hR⟩
end Go.Proofs.Ytbkfnajpbhfneaa

/- The program's truths: choose (a closure that calls itself), and the iterator. -/
namespace Go.Proofs.Ytbkfnajpbhfneaa
open Go Go.RowKit Go.Shelf
attribute [local go_sem] Oper.semAt_some

theorem ints_set (D : List Int) (k : Nat) (x : Int) : (ints D).toArray.setIfInBounds k (.int .i64 x) = (ints (D.set k x)).toArray := by
  simp [ints, List.map_set]

/-- the array of four numbers that is yielded -/
def pad (x : List Int) : List Int := x ++ List.replicate (4 - x.length) 0
def encD (x : List Int) : Array Value := #[.agg (ints (pad x)).toArray]

/-- what dry holds when a beginning of it is chosen -/
structure ErrAt (D pfx : List Int) (len : Nat) : Prop where
  size : D.length = 4
  pre : D.take pfx.length = pfx
  rest : D.drop len = List.replicate (4 - len) 0
theorem ErrAt.set_ {D pfx : List Int} {len : Nat} (h : ErrAt D pfx len) (x : Int) (hp : pfx.length < len) (hl : len ≤ 4) : ErrAt (D.set pfx.length x) (pfx ++ [x]) len := by
  refine ⟨by simp [h.size], ?_, ?_⟩
  · have hlt : pfx.length < D.length := by rw [h.size]; omega
    rw [List.length_append, List.length_singleton, List.take_add_one, List.getElem?_set_self hlt, List.take_set, h.pre]
    simp [List.set_eq_of_length_le]
  · rw [List.drop_set, if_pos (by omega), h.rest]
theorem ErrAt.keep {D pfx : List Int} {x : Int} {len : Nat} (h : ErrAt D (pfx ++ [x]) len) : ErrAt D pfx len := by
  refine ⟨h.size, ?_, h.rest⟩
  have := congrArg (List.take pfx.length) h.pre
  rw [List.take_take] at this
  simpa using this
theorem ErrAt.all {D pfx : List Int} (h : ErrAt D pfx pfx.length) : D = pad pfx := by
  have := List.take_append_drop pfx.length D
  rw [h.pre, h.rest] at this
  exact this.symm

theorem size_exact {h : Int × Int} (w : World) (b1 : -1000000 ≤ h.1 ∧ h.1 ≤ 1000000) (b2 : -1000000 ≤ h.2 ∧ h.2 ≤ 1000000) :
    Calls Try.prog 97 #[.agg #[.int .i64 h.1, .int .i64 h.2]] w fun e w' => e = .returned (.int .i64 (sizeR h)) ∧ w' = w.alloc (.cells #[.int .i64 h.1, .int .i64 h.2] 42) := by
  go_enter Try.func97, Try.ntmps97
  go_wp2_with fail
  go_ret
  exact ⟨rfl, rfl⟩
section
variable {c : Hou} {A1 A2 A3 : Option Addr} {n1 k1 n2 k2 n3 k3 : Nat} {bc by_ bd bf l : Nat} {S : Nat → Prop} {A0 : World} {J Jx : List (List Int) → World → Prop}

/-- what choose finds in memory, whatever the rounds have done -/
structure ChFacts (c : Hou) (A1 A2 A3 : Option Addr) (n1 k1 n2 k2 n3 k3 bc by_ bd bf l : Nat) (A : World) : Prop where
  box : ∀ i, A.cell? ⟨bc, i, none⟩ = #[.int .i64 c.hour, .int .i64 c.grace, .slice A1 n1 k1, .slice A2 n2 k2, .slice A3 n3 k3][i]?
  ck : RP A A1 n1 c.clocks
  yl : A.cell? ⟨by_, 0, none⟩ = some (.func (.yield l) #[] #[])
  ch : A.cell? ⟨bf, 0, none⟩ = some (.func (.func 132) #[] #[.pointer (some ⟨bc, 0, none⟩), .pointer (some ⟨by_, 0, none⟩), .pointer (some ⟨bd, 0, none⟩), .pointer (some ⟨bf, 0, none⟩)])

theorem choose_in (ok : OkH c) (hn1 : n1 = c.clocks.length) (xs : List (List Int)) (Inv : World → Prop)
    (hI : ∀ A, Inv A → ChFacts c A1 A2 A3 n1 k1 n2 k2 n3 k3 bc by_ bd bf l A)
    (hIa : ∀ A o, Inv A → Inv (A.alloc o)) (hJa : ∀ s A o, J s A → J s (A.alloc o))
    (hIs : ∀ A i u, Inv A → Inv (A.setCell ⟨bd, i, none⟩ u)) (hIk : ∀ A B, Inv A → KeepS S A B → Inv B) (hSd : S bd)
    (hJs : ∀ s A i u, J s A → J s (A.setCell ⟨bd, i, none⟩ u))
    (hY : ∀ pre x A, J pre A → pre ++ [x] <+: xs → YieldAt Fence.wide 4 Try.prog l (encD x) A fun e A' =>
      (e = .returned (.bool true) ∧ J (pre ++ [x]) A' ∧ KeepS S A A') ∨ (e = .returned (.bool false) ∧ Jx (pre ++ [x]) A')) :
    ∀ (m : Nat) (hs : List (Int × Int)) (pfx : List Int) (pre : List (List Int)) (D : List Int) (A : World), hs.length = m → c.clocks.drop pfx.length = hs → pfx.length + m = c.clocks.length →
      J pre A → pre ++ ext hs pfx <+: xs → Blk A bd 117 (ints D).toArray → ErrAt D pfx c.clocks.length → Inv A →
      CallsIn Fence.wide 5 Try.prog 132 #[.int .i64 pfx.length, .pointer (some ⟨bc, 0, none⟩), .pointer (some ⟨by_, 0, none⟩), .pointer (some ⟨bd, 0, none⟩), .pointer (some ⟨bf, 0, none⟩)] A fun e A' =>
        (e = .returned (.bool true) ∧ J (pre ++ ext hs pfx) A' ∧ Inv A' ∧ ∃ D', Blk A' bd 117 (ints D').toArray ∧ ErrAt D' pfx c.clocks.length) ∨
        (e = .returned (.bool false) ∧ ∃ q, q <+: xs ∧ Jx q A') := by
  intro m
  induction m with
  | zero =>
    intro hs pfx pre D A hm hdrop hlen hJ hpre hB hD hInv
    have hnil : hs = [] := List.eq_nil_of_length_eq_zero hm
    subst hnil
    have hl4 := ok.n1
    rw [ext_nil] at hpre ⊢
    have hD2 : D = pad pfx := by
      have : c.clocks.length = pfx.length := by omega
      rw [this] at hD; exact hD.all
    obtain ⟨d0, d1, d2, d3, hDl⟩ : ∃ d0 d1 d2 d3, D = [d0, d1, d2, d3] := by
      have := hD.size
      match D, this with
      | [a, b, c, d], _ => exact ⟨a, b, c, d, rfl⟩
    have F := hI A hInv
    have f1 := F.box 2
    have f2 := F.yl
    have henc : encD pfx = #[.agg #[.int .i64 d0, .int .i64 d1, .int .i64 d2, .int .i64 d3]] := by
      unfold encD; rw [← hD2, hDl]; rfl
    obtain ⟨fn, tmps, assign, body, hy, hR⟩ := hY pre pfx A hJ hpre
    rw [henc] at hy
    rw [hDl] at hB
    have c0 := hB.cell 0
    have c1 := hB.cell 1
    have c2 := hB.cell 2
    have c3 := hB.cell 3
    simp only [ints, List.map_cons, List.map_nil, List.getElem?_toArray, List.getElem?_cons_zero, List.getElem?_cons_succ] at f1 c0 c1 c2 c3
    have heq : ((pfx.length : Int) == (n1 : Int)) = true := by simp; omega
    have Hn := hide hn1
    have Hlen := hide hlen
    have Hdl := hide hDl
    have HB := hide hB
    have HD := hide hD
    clear hn1 hdrop hlen hm hDl hD2 henc hB hD
    refine callsIn_of_wp Try.func132 rfl trivial ?_ rfl
    simp only [Try.ntmps132, List.size_toArray, List.length_cons, List.length_nil, Nat.reduceAdd, Nat.reduceSub, Array.replicate_succ, Array.replicate_zero, List.push_toArray, List.append_toArray, List.nil_append, List.cons_append]
    gi_wp2_with fail
    refine hR.mono ?_
    rintro e A' (⟨rfl, hJ', hk⟩ | ⟨rfl, hJx⟩)
    · gi_wp2_with fail
      go_ret
      exact .inl ⟨rfl, hJ', hIk _ _ hInv hk, D, (by have hB := HB.out; rw [Hdl.out]; exact (hk bd hSd).trans hB), HD.out⟩
    · gi_wp2_with fail
      go_ret
      exact .inr ⟨rfl, _, hpre, hJx⟩
  | succ m ih =>
    intro hs pfx pre D A hm hdrop hlen hJ hpre hB hD hInv
    cases hs with
    | nil => simp at hm
    | cons h hs =>
    have hl4 := ok.n1
    have hlt : pfx.length < n1 := by omega
    have F := hI A hInv
    obtain ⟨b, o, x, rfl, _, hx, hx0, hx1⟩ := F.ck.get hlt
    have hxh : x = h := by
      have h1 : (c.clocks.drop pfx.length)[0]? = some h := by rw [hdrop]; rfl
      rw [List.getElem?_drop, Nat.add_zero, hx] at h1
      exact Option.some.inj h1
    subst hxh
    have okx := ok.clock x (List.mem_of_getElem? hx)
    have hdrop2 : c.clocks.drop (pfx.length + 1) = hs := by
      rw [← List.tail_drop, hdrop]; rfl
    have f1 := F.box 2
    have g0 := hx0 A (later_refl _)
    have g0b := hx1 A (later_refl _)
    simp only [List.getElem?_toArray, List.getElem?_cons_zero, List.getElem?_cons_succ] at f1
    have heq : ((pfx.length : Int) == (n1 : Int)) = false := by simp; omega
    have hi1 : (pfx.length : Int) < n1 := by omega
    have Hn := hide hn1
    have Hm := hide hm
    have Hlen := hide hlen
    have Hdrop := hide hdrop2
    have Hx := hide hx
    have Hext := hide (ext_cons x hs pfx)
    have HB := hide hB
    have HD := hide hD
    clear hn1 hdrop hlen hm hB hD hx hdrop2 hx0 hx1
    refine callsIn_of_wp Try.func132 rfl trivial ?_ rfl
    simp only [Try.ntmps132, List.size_toArray, List.length_cons, List.length_nil, Nat.reduceAdd, Nat.reduceSub, Array.replicate_succ, Array.replicate_zero, List.push_toArray, List.append_toArray, List.nil_append, List.cons_append]
    gi_wp2_with fail
    refine ⟨trivial, (callsIn_wide.2 (size_exact (h := x) _ (by omega) (by omega))).mono ?_⟩
    rintro e w5 ⟨rfl, rfl⟩
    have hJ5 := hJa _ _ (.cells #[.int .i64 x.1, .int .i64 x.2] 42) hJ
    have hInv5 := hIa _ (.cells #[.int .i64 x.1, .int .i64 x.2] 42) hInv
    have hB5 := HB.out.alloc (.cells #[.int .i64 x.1, .int .i64 x.2] 42)
    have hszr : sizeR x = x.2 - x.1 + 1 := rfl
    have hsz0 : 0 ≤ sizeR x := by omega
    have Hszr := hide hszr
    clear hszr
    gi_wp2_with fail
    gi_loopw [7, 22] (fun _ v wr => ∃ (k : Nat) (D : List Int), k ≤ (x.2 - x.1 + 1).toNat ∧ v = .int .i64 (k : Int) ∧ J (pre ++ extTo x hs pfx k) wr ∧ Inv wr ∧ Blk wr bd 117 (ints D).toArray ∧ ErrAt D pfx c.clocks.length) (fun _ v _ => (sizeR x - intOf v).toNat)
    case atStart => exact ⟨0, D, by omega, rfl, by simpa [extTo] using hJ5, hInv5, hB5, HD.out⟩
    case round =>
      obtain ⟨k, D1, hk, rfl, hJ1, hInv1, hB1, hD1⟩ := hrel
      have F1 := hI wr hInv1
      have f1 := F1.box 2
      have f3 := F1.ch
      obtain ⟨y, hy, hy0, hy1⟩ := F1.ck.at_ hlt
      have g1 := hy0 wr (later_refl _)
      have hyx : y = x := by
        have h2 := Hx.out
        rw [hy] at h2
        exact Option.some.inj h2
      subst hyx
      have hwy : IntKind.i64.wrap (y.1 + (k : Int)) = y.1 + (k : Int) := IntWalk.i64_in _ (by omega)
      have hszk : (k : Int) ≤ sizeR y := by have := Hszr.out; omega
      simp only [List.getElem?_toArray, List.getElem?_cons_zero, List.getElem?_cons_succ] at f1
      have hsz : D1.length = 4 := hD1.size
      have hpl : pfx.length < c.clocks.length := by have := Hn.out; omega
      have hex : ∃ v0, wr.cell? ⟨bd, pfx.length, none⟩ = some v0 := ⟨_, by rw [hB1.cell]; simp only [ints, List.getElem?_toArray, List.getElem?_map]; rw [List.getElem?_eq_getElem (by omega)]; rfl⟩
      obtain ⟨v0, hv0⟩ := hex
      have hf0 := hB1.frozen pfx.length
      have hB2 := hB1.set_ pfx.length (.int .i64 (y.1 + k))
      rw [ints_set] at hB2
      have hInv2 := hIs wr pfx.length (.int .i64 (y.1 + k)) hInv1
      have hJ2 := hJs _ wr pfx.length (.int .i64 (y.1 + k)) hJ1
      have f4 := (hI _ hInv2).ch
      have hD2 := hD1.set_ (y.1 + k) hpl hl4
      have hp4 : (pfx.length : Int) < 4 := by omega
      by_cases hle : (k : Int) < sizeR y
      · have hszr := Hszr.out
        have hstep := extTo_succ y hs pfx k
        have hle2 : k + 1 ≤ (y.2 - y.1 + 1).toNat := by omega
        clear hszr
        have hpf := extTo_prefix y hs pfx hle2
        have hpre2 : (pre ++ extTo y hs pfx k) ++ ext hs (pfx ++ [y.1 + k]) <+: xs := by
          rw [List.append_assoc, ← hstep]
          rw [Hext.out] at hpre
          exact ((List.prefix_append_right_inj pre).2 hpf).trans hpre
        have hcall := ih hs (pfx ++ [y.1 + k]) (pre ++ extTo y hs pfx k) (D1.set pfx.length (y.1 + k)) _ (by have := Hm.out; simpa using this) (by rw [List.length_append, List.length_singleton]; exact Hdrop.out) (by have := Hlen.out; rw [List.length_append, List.length_singleton]; omega) hJ2 hpre2 hB2 hD2 hInv2
        rw [List.append_assoc, ← hstep] at hcall
        have Hcall := hide (callsIn_wide.1 hcall)
        have e1 : ((pfx ++ [y.1 + k]).length : Int) = (pfx.length : Int) + 1 := by simp
        rw [e1] at Hcall
        clear hcall hstep hpre2 e1 hB2 hD2 hInv2 hJ2 hJ1 hB1 hD1
        gi_wp2_with fail
        refine ⟨trivial, (callsIn_wide.2 Hcall.out).mono ?_⟩
        rintro e A' (⟨rfl, hJ3, hInv3, D3, hB3, hD3⟩ | ⟨rfl, q, hq, hJx⟩)
        · gi_wp2_with fail
          go_roundw
          case rel => exact ⟨k + 1, D3, hle2, by go_num, hJ3, hInv3, hB3, hD3.keep⟩
          case measure => simp [intOf]; omega
        · gi_wp2_with fail
          go_ret
          exact .inr ⟨rfl, q, hq, hJx⟩
      · have hk2 : k = (y.2 - y.1 + 1).toNat := by have := Hszr.out; omega
        rw [hk2, ← Hext.out] at hJ1
        clear f4 hB2 hD2 hInv2 hJ2 hk2
        gi_wp2_with fail
        go_ret
        exact .inl ⟨rfl, hJ1, hInv1, D1, hB1, hD1⟩
end

theorem RP.kept {W A : World} {A1 : Option Addr} {n : Nat} {l : List (Int × Int)} (h : RP W A1 n l) (hk : 0 < n → ∀ b o, A1 = some ⟨b, o, none⟩ → A.heap[b]? = W.heap[b]?) : RP A A1 n l := by
  refine ⟨h.1, fun hn => ?_⟩
  obtain ⟨b, o, rfl, hb, hc⟩ := Reads.lit h (by omega) hn
  have e := hk hn b o rfl
  have hlt : b < A.heap.size := by
    rw [Array.getElem?_eq_getElem hb] at e
    exact (Array.getElem?_eq_some_iff.1 e).1
  refine ⟨_, rfl, hlt, fun j u hu => ?_⟩
  rw [add_lit]
  exact (World.cell?_of_block (a := ⟨b, o + j, none⟩) e).trans (hc j u hu)

theorem ext_errAll (hs : List (Int × Int)) : ext hs [] = errAll hs := by simp [ext]

set_option maxRecDepth 100000 in
/-- THE ITERATOR c.truths(): all dry numbers, in order. -/
theorem lists_iter {c : Hou} {A1 A2 A3 : Option Addr} {n1 k1 n2 k2 n3 k3 bc : Nat} {S : Nat → Prop} {W : World} (ok : OkH c) (hc : RP W A1 n1 c.clocks)
    (hbox : Blk W bc 36 #[.int .i64 c.hour, .int .i64 c.grace, .slice A1 n1 k1, .slice A2 n2 k2, .slice A3 n3 k3])
    (hSl : ∀ b, S b → b < W.heap.size + 3) (hSb : S bc) (hSh : 0 < n1 → ∀ b o, A1 = some ⟨b, o, none⟩ → S b) (hS0 : S W.heap.size) (hS1 : S (W.heap.size + 1)) (hS2 : S (W.heap.size + 2)) :
    IterOK Fence.wide 5 Try.prog 131 #[.pointer (some ⟨bc, 0, none⟩)] encD (KeepS S) (errAll c.clocks) W := by
  intro l J Jx hSt hY h0
  have hl4 := ok.n1
  have hn1 := RP.len hc
  obtain ⟨W3, hW3⟩ : ∃ X, X = ((W.alloc (.cells #[.func (.yield l) #[] #[]] 119)).alloc (.cells #[.int .i64 0, .int .i64 0, .int .i64 0, .int .i64 0] 117)).alloc
      (.cells #[.func (.func 132) #[] #[.pointer (some ⟨bc, 0, none⟩), .pointer (some ⟨W.heap.size, 0, none⟩), .pointer (some ⟨W.heap.size + 1, 0, none⟩), .pointer (some ⟨W.heap.size + 1 + 1, 0, none⟩)]] 121) := ⟨_, rfl⟩
  have hL3 : Later W W3 := by rw [hW3]; exact later_alloc (later_alloc (later_alloc (later_refl _) _) _) _
  have b0 : Blk W3 W.heap.size 119 #[.func (.yield l) #[] #[]] := by rw [hW3]; exact ((Blk.new _ _ _).alloc _).alloc _
  have b1 : Blk W3 (W.heap.size + 1) 117 (ints [0, 0, 0, 0]).toArray := by
    rw [hW3]
    have := Blk.new (W.alloc (.cells #[.func (.yield l) #[] #[]] 119)) 117 #[.int .i64 0, .int .i64 0, .int .i64 0, .int .i64 0]
    rw [World.size_alloc] at this
    exact this.alloc _
  have b2 : Blk W3 (W.heap.size + 1 + 1) 121 #[.func (.func 132) #[] #[.pointer (some ⟨bc, 0, none⟩), .pointer (some ⟨W.heap.size, 0, none⟩), .pointer (some ⟨W.heap.size + 1, 0, none⟩), .pointer (some ⟨W.heap.size + 1 + 1, 0, none⟩)]] := by
    rw [hW3]
    have := Blk.new ((W.alloc (.cells #[.func (.yield l) #[] #[]] 119)).alloc (.cells #[.int .i64 0, .int .i64 0, .int .i64 0, .int .i64 0] 117)) 121 #[.func (.func 132) #[] #[.pointer (some ⟨bc, 0, none⟩), .pointer (some ⟨W.heap.size, 0, none⟩), .pointer (some ⟨W.heap.size + 1, 0, none⟩), .pointer (some ⟨W.heap.size + 1 + 1, 0, none⟩)]]
    rw [World.size_alloc, World.size_alloc] at this
    exact this
  have hc3 := hc.later hL3
  have hbox3 := hbox.later hL3
  have hJ3 : J [] W3 := h0 W3 hL3 (by rw [hW3]; simp)
  have hlt := hbox.lt
  have hcall := choose_in (A1 := A1) (A2 := A2) (A3 := A3) (k1 := k1) (n2 := n2) (k2 := k2) (n3 := n3) (k3 := k3) (bc := bc) (by_ := W.heap.size) (bd := W.heap.size + 1) (bf := W.heap.size + 1 + 1) (l := l) (S := S) (J := J) (Jx := Jx) ok hn1 (errAll c.clocks)
    (fun A => ∀ b, S b → b ≠ W.heap.size + 1 → A.heap[b]? = W3.heap[b]?)
    (fun A hA => ⟨fun i => (World.cell?_of_block (a := ⟨bc, i, none⟩) (hA bc hSb (by omega))).trans (hbox3.cell i),
      hc3.kept fun hn b o e => hA b (hSh hn b o e) (by
        intro e2
        obtain ⟨b', o', e3, hb', _⟩ := Reads.lit hc (by omega) hn
        rw [e] at e3; obtain ⟨rfl, _⟩ := some_lit e3; omega),
      (World.cell?_of_block (a := ⟨W.heap.size, 0, none⟩) (hA W.heap.size hS0 (by omega))).trans (b0.cell 0),
      (World.cell?_of_block (a := ⟨W.heap.size + 1 + 1, 0, none⟩) (hA (W.heap.size + 1 + 1) hS2 (by omega))).trans (b2.cell 0)⟩)
    (fun A o hA b hb hne => (Below.heap_alloc A o b (by
      have h1 : b < W3.heap.size := by have := hSl b hb; have h3 : W3.heap.size = W.heap.size + 3 := (by rw [hW3]; simp); omega
      have h2 := hA b hb hne
      rw [Array.getElem?_eq_getElem h1] at h2
      exact (Array.getElem?_eq_some_iff.1 h2).1)).trans (hA b hb hne)) (fun s A o h => hSt.1 s A o h)
    (fun A i u hA b hb hne => (Below.heap_setCell A _ u b hne).trans (hA b hb hne))
    (fun A B hA hk b hb hne => (hk b hb).trans (hA b hb hne)) hS1 hSt.2 hY
    c.clocks.length c.clocks [] [] [0, 0, 0, 0] W3 rfl rfl (by simp) hJ3 (by rw [ext_errAll]; exact List.prefix_refl _) b1
    ⟨rfl, rfl, by
      have : c.clocks.length = 0 ∨ c.clocks.length = 1 ∨ c.clocks.length = 2 ∨ c.clocks.length = 3 ∨ c.clocks.length = 4 := by omega
      rcases this with h | h | h | h | h <;> rw [h] <;> rfl⟩ (fun _ _ _ => rfl)
  rw [ext_errAll] at hcall
  have Hcall := hide (callsIn_wide.1 hcall)
  have HW3 := hide hW3
  clear hcall hW3 b0 b1 b2 hc3 hbox3 hL3 hn1
  refine callsIn_of_wp Try.func131 rfl trivial ?_ rfl
  simp only [Try.ntmps131, List.size_toArray, List.length_cons, List.length_nil, Nat.reduceAdd, Nat.reduceSub, Array.replicate_succ, Array.replicate_zero, List.push_toArray, List.append_toArray, List.nil_append, List.cons_append]
  gi_wp2_with fail
  rw [← HW3.out]
  refine ⟨trivial, (callsIn_wide.2 Hcall.out).mono ?_⟩
  rintro e A' (⟨rfl, hJ', _⟩ | ⟨rfl, q, hq, hJx⟩)
  · gi_wp2_with fail
    go_end0
    exact ⟨⟨_, rfl⟩, .inl hJ'⟩
  · gi_wp2_with fail
    go_end0
    exact ⟨⟨_, rfl⟩, .inr ⟨q, hq, hJx⟩⟩
end Go.Proofs.Ytbkfnajpbhfneaa

/- The plain laws of First and Leave: what the program finds is what the reference has. -/
namespace Go.Proofs.Ytbkfnajpbhfneaa

/-- have all clips but some a truth -/
def possibleP (c : Hou) (out : List Int) : Bool := (errAll c.clocks).any fun d => rightP c (pad4 d) out
def withClips (c : Hou) (l : List Cp) : Hou := { c with clips := l }
/-- the first wrong clip, as the program finds it -/
def firstBad (c : Hou) (i : Nat) : Bool := !possibleP (withClips c (c.clips.take (i + 1))) []
def firstOut (c : Hou) : Int × Int :=
  if fault c ≠ 0 then (0, fault c) else match (List.range c.clips.length).find? (firstBad c) with
    | some i => ((i : Nat), 0)
    | none => (0, 7)
/-- the first list that can be left out, as the program finds it: many more from one on -/
def leaveGo (c : Hou) (n : Nat) : Nat → Nat → List Int → Option (List Int)
  | 0, _, out => if possibleP c out then some out else none
  | m + 1, f, out => (List.range' f (n - m - f)).findSome? fun i => leaveGo c n m (i + 1) (out ++ [(i : Int)])
theorem findSome_range_some {α : Type} (g : Nat → Option α) : ∀ (k f i : Nat) (x : α), f ≤ i → i < f + k → g i = some x → (∀ t, f ≤ t → t < i → g t = none) → (List.range' f k).findSome? g = some x
  | 0, f, i, x, h1, h2, _, _ => by omega
  | k + 1, f, i, x, h1, h2, h, hno => by
    rw [List.range'_succ, List.findSome?_cons]
    rcases Nat.eq_or_lt_of_le h1 with rfl | hlt
    · rw [h]
    · rw [hno f (Nat.le_refl _) hlt]
      exact findSome_range_some g k (f + 1) i x hlt (by omega) h fun t h3 h4 => hno t (by omega) h4
theorem findSome_range_none {α : Type} (g : Nat → Option α) (k f : Nat) (hno : ∀ t, f ≤ t → t < f + k → g t = none) : (List.range' f k).findSome? g = none := by
  rw [List.findSome?_eq_none_iff]
  intro t ht
  have := List.mem_range'_1.1 ht
  exact hno t this.1 this.2

theorem errAll_ne : ∀ (hs : List (Int × Int)), (∀ h ∈ hs, h.1 ≤ h.2) → ∃ d, d ∈ errAll hs
  | [], _ => ⟨[], by simp [errAll]⟩
  | h :: hs, ok => by
    obtain ⟨d, hd⟩ := errAll_ne hs fun x hx => ok x (List.mem_cons_of_mem _ hx)
    have := ok h List.mem_cons_self
    refine ⟨h.1 :: d, ?_⟩
    simp only [errAll, List.mem_flatMap, List.mem_map, rangeL, List.mem_range]
    exact ⟨h.1, ⟨0, by omega, by simp⟩, d, hd, rfl⟩
theorem leaveGo_full (c : Hou) (n : Nat) : ∀ (m f : Nat) (out : List Int), f + m = n → leaveGo c n m f out = if possibleP c (out ++ (List.range' f m).map fun (i : Nat) => (i : Int)) then some (out ++ (List.range' f m).map fun (i : Nat) => (i : Int)) else none
  | 0, f, out, _ => by simp [leaveGo]
  | m + 1, f, out, h => by
    unfold leaveGo
    rw [show n - m - f = 1 by omega, List.range'_one, List.findSome?_cons, List.findSome?_nil, leaveGo_full c n m (f + 1) _ (by omega), List.range'_succ]
    simp only [List.map_cons, List.append_assoc, List.cons_append, List.nil_append]
    generalize (if possibleP c (out ++ (f : Int) :: (List.range' (f + 1) m).map fun (i : Nat) => (i : Int)) = true then some (out ++ (f : Int) :: (List.range' (f + 1) m).map fun (i : Nat) => (i : Int)) else none) = r
    cases r <;> rfl
/-- the smallest set, as the program finds it -/
def leaveP (c : Hou) : Option (List Int) := (List.range' 0 (c.clips.length + 1)).findSome? fun m => leaveGo c c.clips.length m 0 []
theorem leaveGo_last {c : Hou} (ok : OkH c) : leaveGo c c.clips.length c.clips.length 0 [] ≠ none := by
  rw [leaveGo_full _ _ _ _ _ (by omega)]
  have : possibleP c ([] ++ (List.range' 0 c.clips.length).map fun (i : Nat) => (i : Int)) = true := by
    unfold possibleP
    rw [List.any_eq_true]
    obtain ⟨d, hd⟩ := errAll_ne c.clocks fun h hh => by have := ok.clock h hh; omega
    refine ⟨d, hd, (rightP_iff ok _).2 fun j k hjk hk hn _ => absurd ?_ hn⟩
    simp only [List.nil_append, List.mem_map, List.mem_range'_1]
    exact ⟨j, ⟨Nat.zero_le _, by omega⟩, rfl⟩
  rw [if_pos this]
  simp
def leaveOut (c : Hou) : List Int := if fault c = 0 then (leaveP c).getD [] else []

theorem ofR_take_le (c : Hou) (t : Int) (k : Nat) : (ofR (withClips c (c.clips.take k)) t).length ≤ (ofR c t).length := by
  unfold ofR
  have e : (List.range (withClips c (c.clips.take k)).clips.length).filter (fun i => decide ((clipAt (withClips c (c.clips.take k)) i).ticket = t)) = (List.range (withClips c (c.clips.take k)).clips.length).filter (fun i => decide ((clipAt c i).ticket = t)) := by
    apply List.filter_congr
    intro i hi
    have hlt : i < k ∧ i < c.clips.length := by
      have : i < (c.clips.take k).length := List.mem_range.1 hi
      rw [List.length_take] at this; omega
    have : clipAt (withClips c (c.clips.take k)) i = clipAt c i := by
      unfold clipAt withClips
      rw [List.getD_eq_getElem?_getD, List.getD_eq_getElem?_getD, List.getElem?_take_of_lt hlt.1]
    rw [this]
  rw [e]
  refine List.Sublist.length_le (List.Sublist.filter _ ?_)
  refine List.range_sublist.2 ?_
  show (c.clips.take k).length ≤ c.clips.length
  rw [List.length_take]; omega
theorem okH_take {c : Hou} (ok : OkH c) (k : Nat) : OkH (withClips c (c.clips.take k)) :=
  ⟨ok.n1, ok.n2, by show (c.clips.take k).length ≤ 10; have := ok.n3; rw [List.length_take]; omega, ok.hour, ok.grace, ok.clock, ok.tick, fun x hx => ok.clip x (List.mem_of_mem_take hx), fun i hi => Nat.le_trans (ofR_take_le c i k) (ok.two i hi)⟩
theorem possible_iff {c : Hou} (ok : OkH c) (out : List Int) : possibleP c out = true ↔ ∃ d ∈ errAll c.clocks, ∀ j k, j < k → k < c.clips.length → ¬ (j : Int) ∈ out → ¬ (k : Int) ∈ out → trueM c d j ≤ trueM c d k := by
  unfold possibleP
  rw [List.any_eq_true]
  constructor
  · rintro ⟨d, hd, h⟩; exact ⟨d, hd, (rightP_iff ok out).1 h⟩
  · rintro ⟨d, hd, h⟩; exact ⟨d, hd, (rightP_iff ok out).2 h⟩
theorem can_iff {c : Hou} (hf : fault c = 0) (bits : Nat) : can c bits = true ↔ ∃ d ∈ errAll c.clocks, risingR c d bits = true := by
  unfold can
  rw [List.any_eq_true]
  constructor
  · rintro ⟨d, hd, h⟩; exact ⟨d, ((allErr_perm hf).mem_iff).2 hd, h⟩
  · rintro ⟨d, hd, h⟩; exact ⟨d, ((allErr_perm hf).mem_iff).1 hd, h⟩
theorem mask_bits {c : Hou} (hf : fault c = 0) {bits : Nat} {out : List Int} (h : ∀ j, j < c.clips.length → (bits.testBit j = true ↔ ¬ (j : Int) ∈ out)) : can c bits = possibleP c out := by
  rw [Bool.eq_iff_iff, can_iff hf]
  unfold possibleP
  rw [List.any_eq_true]
  constructor
  · rintro ⟨d, hd, hl⟩; exact ⟨d, hd, by rw [← rising_mask (okH_of_fault hf) h]; exact hl⟩
  · rintro ⟨d, hd, hl⟩; exact ⟨d, hd, by rw [rising_mask (okH_of_fault hf) h]; exact hl⟩

/-! ### First -/
theorem trueM_take {c : Hou} {d : List Int} {k j : Nat} (h : j < k) : trueM (withClips c (c.clips.take k)) d j = trueM c d j := by
  unfold trueM clipAt withClips
  rw [List.getD_eq_getElem?_getD, List.getD_eq_getElem?_getD, List.getElem?_take_of_lt h]
theorem first_bit {c : Hou} (hf : fault c = 0) {i : Nat} (hi : i < c.clips.length) : firstBad c i = !can c (2 ^ (i + 1) - 1) := by
  unfold firstBad
  congr 1
  have hlen : (withClips c (c.clips.take (i + 1))).clips.length = i + 1 := by show (c.clips.take (i + 1)).length = _; rw [List.length_take]; omega
  rw [Bool.eq_iff_iff, can_iff hf, possible_iff (okH_take (okH_of_fault hf) _), hlen]
  constructor
  · rintro ⟨d, hd, h⟩
    refine ⟨d, hd, (risingR_iff _ _ _).2 fun j k hjk hk hj hk2 => ?_⟩
    rw [Nat.testBit_two_pow_sub_one, decide_eq_true_eq] at hj hk2
    have := h j k hjk hk2 (by simp) (by simp)
    rwa [trueM_take hj, trueM_take hk2] at this
  · rintro ⟨d, hd, h⟩
    refine ⟨d, hd, fun j k hjk hk _ _ => ?_⟩
    rw [trueM_take (by omega), trueM_take hk]
    exact (risingR_iff _ _ _).1 h j k hjk (by omega) (by rw [Nat.testBit_two_pow_sub_one, decide_eq_true_eq]; omega) (by rw [Nat.testBit_two_pow_sub_one, decide_eq_true_eq]; omega)
theorem find_congr {P Q : Nat → Bool} {n : Nat} (h : ∀ i, i < n → P i = Q i) : (List.range n).find? P = (List.range n).find? Q := by
  have : ∀ (l : List Nat), (∀ i ∈ l, P i = Q i) → l.find? P = l.find? Q := fun l => by
    induction l with
    | nil => intro _; rfl
    | cons x l ih => intro hl; rw [List.find?_cons, List.find?_cons, hl x List.mem_cons_self, ih fun i hi => hl i (List.mem_cons_of_mem _ hi)]
  exact this _ fun i hi => h i (by simpa using hi)
theorem first_law (c : Hou) : (fault c ≠ 0 ∧ firstOut c = (0, fault c)) ∨
    (fault c = 0 ∧ ((∃ j : Nat, j < c.clips.length ∧ firstR c = j ∧ firstOut c = ((j : Int), 0)) ∨ (firstR c = -1 ∧ firstOut c = (0, 7)))) := by
  by_cases hf : fault c = 0
  · right
    refine ⟨hf, ?_⟩
    have hc := find_congr (n := c.clips.length) fun i hi => first_bit hf hi
    unfold firstOut firstR
    rw [if_neg (by simp [hf]), hc]
    cases hq : (List.range c.clips.length).find? (fun n => !can c (2 ^ (n + 1) - 1)) with
    | none => exact .inr ⟨rfl, rfl⟩
    | some j =>
      have := List.mem_of_find?_eq_some hq
      exact .inl ⟨j, by simpa using this, rfl, rfl⟩
  · exact .inl ⟨hf, by unfold firstOut; rw [if_pos hf]⟩

/-! ### Leave -/
theorem bitList_mem : ∀ (k bits p j : Nat), bits < 2 ^ k → ((j : Int) ∈ bitList k bits p ↔ p ≤ j ∧ bits.testBit (j - p) = true)
  | 0, bits, p, j, h => by
    have : bits = 0 := by simpa using h
    subst this
    simp [bitList]
  | k + 1, bits, p, j, h => by
    have hk : bits / 2 < 2 ^ k := by rw [Nat.pow_succ] at h; omega
    have ih := bitList_mem k (bits / 2) (p + 1) j hk
    have hrest : p + 1 ≤ j → bits.testBit (j - p) = (bits / 2).testBit (j - (p + 1)) := fun hj => by
      rw [show j - p = (j - (p + 1)) + 1 by omega, Nat.testBit_succ]
    have hzero : bits.testBit 0 = decide (bits % 2 = 1) := Nat.testBit_zero bits
    unfold bitList
    split
    · rename_i hb
      simp only [List.mem_cons]
      rw [ih]
      constructor
      · rintro (h1 | ⟨h1, h2⟩)
        · have : j = p := by omega
          subst this
          exact ⟨Nat.le_refl _, by rw [Nat.sub_self, hzero]; simp [hb]⟩
        · exact ⟨by omega, by rw [hrest h1]; exact h2⟩
      · rintro ⟨h1, h2⟩
        rcases Nat.eq_or_lt_of_le h1 with rfl | hlt
        · exact .inl rfl
        · exact .inr ⟨hlt, by rw [← hrest hlt]; exact h2⟩
    · rename_i hb
      rw [ih]
      constructor
      · rintro ⟨h1, h2⟩
        exact ⟨by omega, by rw [hrest h1]; exact h2⟩
      · rintro ⟨h1, h2⟩
        rcases Nat.eq_or_lt_of_le h1 with rfl | hlt
        · rw [Nat.sub_self, hzero] at h2
          simp [hb] at h2
        · exact ⟨hlt, by rw [← hrest hlt]; exact h2⟩
theorem bitsR_mem (bits j : Nat) : (j : Int) ∈ bitsR bits ↔ bits.testBit j = true := by
  unfold bitsR
  rw [bitList_mem bits bits 0 j Nat.lt_two_pow_self]
  simp
theorem can_bits {c : Hou} (hf : fault c = 0) {bits : Nat} (hb : bits < 2 ^ c.clips.length) : can c (full c - bits) = possibleP c (bitsR bits) := by
  have ht : ∀ j, (full c - bits).testBit j = (decide (j < c.clips.length) && !bits.testBit j) := fun j => by
    unfold full
    rw [show 2 ^ c.clips.length - 1 - bits = 2 ^ c.clips.length - (bits + 1) by omega]
    exact Nat.testBit_two_pow_sub_succ hb j
  refine mask_bits hf fun j hj => ?_
  rw [ht, bitsR_mem]; simp [hj]
theorem before_trans : ∀ (a b c : List Int), before a b = true → before b c = true → before a c = true
  | [], [], _, h, _ => by simp [before] at h
  | [], _ :: _, [], _, h => by simp [before] at h
  | [], _ :: _, _ :: _, _, _ => rfl
  | _ :: _, [], _, h, _ => by simp [before] at h
  | _ :: _, _ :: _, [], _, h => by simp [before] at h
  | x :: a, y :: b, z :: c, h1, h2 => by
    simp only [before] at h1 h2 ⊢
    by_cases e1 : x = y
    · subst e1
      rw [if_pos rfl] at h1
      by_cases e2 : x = z
      · subst e2
        rw [if_pos rfl] at h2 ⊢
        exact before_trans a b c h1 h2
      · rw [if_neg e2] at h2 ⊢; exact h2
    · rw [if_neg e1, decide_eq_true_eq] at h1
      by_cases e2 : y = z
      · subst e2
        rw [if_neg e1]; simpa using h1
      · rw [if_neg e2, decide_eq_true_eq] at h2
        rw [if_neg (by omega)]; simp; omega
theorem before_irrefl : ∀ (a : List Int), before a a = false
  | [] => rfl
  | x :: a => by simp [before, before_irrefl a]
theorem shorter_trans {a b c : List Int} (h1 : shorter a b = true) (h2 : shorter b c = true) : shorter a c = true := by
  unfold shorter at *
  simp only [Bool.or_eq_true, Bool.and_eq_true, decide_eq_true_eq, beq_iff_eq] at *
  rcases h1 with h1 | ⟨h1, h3⟩ <;> rcases h2 with h2 | ⟨h2, h4⟩
  · left; omega
  · left; omega
  · left; omega
  · right; exact ⟨by omega, before_trans a b c h3 h4⟩
theorem shorter_irrefl (a : List Int) : shorter a a = false := by unfold shorter; simp [before_irrefl]
/-- a fold that keeps the shortest of those with a property -/
theorem leaveFold (P : List Int → Bool) (f : Nat → List Int) (Q : Nat → Bool) (hQ : ∀ b, Q b = P (f b)) : ∀ (L : List Nat) (b0 : List Int), P b0 = true →
    (P (L.foldl (fun best b => if shorter (f b) best && Q b then f b else best) b0) = true ∧
     ((L.foldl (fun best b => if shorter (f b) best && Q b then f b else best) b0) = b0 ∨ (∃ b ∈ L, (L.foldl (fun best b => if shorter (f b) best && Q b then f b else best) b0) = f b)) ∧
     (∀ y, P y = true → shorter y b0 = false → shorter y (L.foldl (fun best b => if shorter (f b) best && Q b then f b else best) b0) = false) ∧
     (∀ b ∈ L, P (f b) = true → shorter (f b) (L.foldl (fun best b => if shorter (f b) best && Q b then f b else best) b0) = false))
  | [], b0, h => ⟨h, .inl rfl, fun _ _ h => h, fun b hb => by cases hb⟩
  | b :: L, b0, h => by
    rw [List.foldl_cons]
    by_cases hs : (shorter (f b) b0 && Q b) = true
    · rw [if_pos hs]
      rw [Bool.and_eq_true, hQ] at hs
      obtain ⟨h1, h2, h3, h4⟩ := leaveFold P f Q hQ L (f b) hs.2
      have hb := h3 (f b) hs.2 (shorter_irrefl _)
      refine ⟨h1, ?_, fun y hy hn => h3 y hy ?_, fun x hx hp => ?_⟩
      · rcases h2 with h2 | ⟨x, hx, h2⟩
        · exact .inr ⟨b, List.mem_cons_self, h2⟩
        · exact .inr ⟨x, List.mem_cons_of_mem _ hx, h2⟩
      · cases hc : shorter y (f b) with
        | false => rfl
        | true => rw [shorter_trans hc hs.1] at hn; cases hn
      · rcases List.mem_cons.1 hx with rfl | hx
        · exact hb
        · exact h4 x hx hp
    · rw [if_neg hs]
      obtain ⟨h1, h2, h3, h4⟩ := leaveFold P f Q hQ L b0 h
      refine ⟨h1, ?_, h3, fun x hx hp => ?_⟩
      · rcases h2 with h2 | ⟨x, hx, h2⟩
        · exact .inl h2
        · exact .inr ⟨x, List.mem_cons_of_mem _ hx, h2⟩
      · rcases List.mem_cons.1 hx with rfl | hx
        · refine h3 _ hp ?_
          rw [hQ, hp, Bool.and_true] at hs
          simpa using hs
        · exact h4 x hx hp
/-- the sets of m more numbers from f on, below n -/
def comb (n : Nat) : Nat → Nat → List Int → List (List Int)
  | 0, _, out => [out]
  | m + 1, f, out => (List.range' f (n - m - f)).flatMap fun i => comb n m (i + 1) (out ++ [(i : Int)])
theorem leaveGo_find (c : Hou) (n : Nat) : ∀ (m f : Nat) (out : List Int), leaveGo c n m f out = (comb n m f out).find? (possibleP c)
  | 0, f, out => by
    unfold leaveGo comb
    rw [List.find?_cons, List.find?_nil]
    cases possibleP c out <;> rfl
  | m + 1, f, out => by
    unfold leaveGo comb
    rw [List.find?_flatMap]
    congr 1
    funext i
    exact leaveGo_find c n m (i + 1) _
def combs (n : Nat) : List (List Int) := (List.range' 0 (n + 1)).flatMap fun m => comb n m 0 []
theorem leaveP_find (c : Hou) : leaveP c = (combs c.clips.length).find? (possibleP c) := by
  unfold leaveP combs
  rw [List.find?_flatMap]
  congr 1
  funext m
  exact leaveGo_find c _ m 0 []
theorem bitList_nil : ∀ (k p : Nat), bitList k 0 p = []
  | 0, _ => rfl
  | k + 1, p => by simp [bitList, bitList_nil k (p + 1)]
theorem bitList_fuel : ∀ (k j bits p : Nat), bits < 2 ^ k → k ≤ j → bitList j bits p = bitList k bits p
  | 0, j, bits, p, h, _ => by
    have : bits = 0 := by simpa using h
    subst this
    rw [bitList_nil, bitList_nil]
  | k + 1, 0, bits, p, _, hj => by omega
  | k + 1, j + 1, bits, p, h, hj => by
    have hk : bits / 2 < 2 ^ k := by rw [Nat.pow_succ] at h; omega
    simp only [bitList, bitList_fuel k j (bits / 2) (p + 1) hk (by omega)]
theorem bitsR_fuel {n b : Nat} (h : b < 2 ^ n) : bitsR b = bitList n b 0 := by
  unfold bitsR
  rcases Nat.le_total n b with hle | hle
  · exact bitList_fuel n b b 0 h hle
  · exact (bitList_fuel b n b 0 Nat.lt_two_pow_self hle).symm
def toB (l : List Int) : Nat := l.foldl (fun b i => b + 2 ^ i.toNat) 0
def chainB : List (List Int) → Bool
  | a :: b :: l => shorter a b && chainB (b :: l)
  | _ => true
theorem chainB_pairwise : ∀ (l : List (List Int)), chainB l = true → l.Pairwise (fun a b => shorter a b = true)
  | [], _ => List.Pairwise.nil
  | [a], _ => List.pairwise_singleton _ _
  | a :: b :: l, h => by
    simp only [chainB, Bool.and_eq_true] at h
    have ih := chainB_pairwise (b :: l) h.2
    refine List.Pairwise.cons (fun x hx => ?_) ih
    rcases List.mem_cons.1 hx with rfl | hx
    · exact h.1
    · exact shorter_trans h.1 ((List.pairwise_cons.1 ih).1 x hx)
theorem combs_facts : ∀ n, n < 11 → chainB (combs n) = true ∧ ((combs n).all fun l => bitList n (toB l) 0 == l && decide (toB l < 2 ^ n)) = true ∧
    ((List.range (2 ^ n)).all fun b => (comb n (bitList n b 0).length 0 []).contains (bitList n b 0) && decide ((bitList n b 0).length ≤ n)) = true := by
  decide +kernel
theorem combs_sorted {n : Nat} (h : n < 11) : (combs n).Pairwise (fun a b => shorter a b = true) := chainB_pairwise _ (combs_facts n h).1
theorem combs_bits {n : Nat} (h : n < 11) {l : List Int} (hl : l ∈ combs n) : ∃ b, b < 2 ^ n ∧ bitsR b = l := by
  have := List.all_eq_true.1 (combs_facts n h).2.1 l hl
  rw [Bool.and_eq_true, beq_iff_eq, decide_eq_true_eq] at this
  exact ⟨toB l, this.2, by rw [bitsR_fuel this.2]; exact this.1⟩
theorem combs_has {n : Nat} (h : n < 11) {b : Nat} (hb : b < 2 ^ n) : bitsR b ∈ combs n := by
  have := List.all_eq_true.1 (combs_facts n h).2.2 b (by simpa using hb)
  rw [Bool.and_eq_true, decide_eq_true_eq] at this
  rw [bitsR_fuel hb]
  unfold combs
  rw [List.mem_flatMap]
  exact ⟨(bitList n b 0).length, by rw [List.mem_range'_1]; omega, List.contains_iff_mem.1 this.1⟩
theorem find_sorted {P : List Int → Bool} : ∀ {l : List (List Int)} {x : List Int}, l.Pairwise (fun a b => shorter a b = true) → l.find? P = some x → x ∈ l ∧ P x = true ∧ ∀ y ∈ l, P y = true → y = x ∨ shorter x y = true
  | [], x, _, h => by cases h
  | a :: l, x, hp, h => by
    have hp2 := List.pairwise_cons.1 hp
    rw [List.find?_cons] at h
    split at h
    · rename_i ha
      injection h with h
      subst h
      refine ⟨List.mem_cons_self, ha, fun y hy _ => ?_⟩
      rcases List.mem_cons.1 hy with rfl | hy
      · exact .inl rfl
      · exact .inr (hp2.1 y hy)
    · rename_i ha
      obtain ⟨h1, h2, h3⟩ := find_sorted hp2.2 h
      refine ⟨List.mem_cons_of_mem _ h1, h2, fun y hy hP => ?_⟩
      rcases List.mem_cons.1 hy with rfl | hy
      · rw [hP] at ha; cases ha
      · exact h3 y hy hP
theorem full_lt (c : Hou) : full c < 2 ^ c.clips.length := by unfold full; have := Nat.two_pow_pos c.clips.length; omega
theorem leaveP_some {c : Hou} (hf : fault c = 0) : ∃ l, leaveP c = some l ∧ l ∈ combs c.clips.length ∧ possibleP c l = true ∧ ∀ y ∈ combs c.clips.length, possibleP c y = true → y = l ∨ shorter l y = true := by
  have ok := okH_of_fault hf
  have h6 : c.clips.length < 11 := by have := ok.n3; omega
  have hfull : possibleP c (bitsR (full c)) = true := by
    rw [← can_bits hf (full_lt c), Nat.sub_self, can_iff hf]
    obtain ⟨d, hd⟩ := errAll_ne c.clocks fun h hh => by have := ok.clock h hh; omega
    exact ⟨d, hd, (risingR_iff _ _ _).2 fun j k _ _ hj => by simp at hj⟩
  cases h : leaveP c with
  | none =>
    rw [leaveP_find, List.find?_eq_none] at h
    exact absurd hfull (h _ (combs_has h6 (full_lt c)))
  | some l =>
    have h2 := h
    rw [leaveP_find] at h2
    exact ⟨l, rfl, find_sorted (combs_sorted h6) h2⟩
theorem leave_law {c : Hou} (hf : fault c = 0) : leaveOut c = leaveR c := by
  have ok := okH_of_fault hf
  have h6 : c.clips.length < 11 := by have := ok.n3; omega
  obtain ⟨l, hl, hmem, hP, hmin⟩ := leaveP_some hf
  have hQ : ∀ b, (fun b => can c (full c - b)) b = (fun b => can c (full c - b)) b := fun _ => rfl
  have hcan : ∀ b, b < 2 ^ c.clips.length → can c (full c - b) = possibleP c (bitsR b) := fun b hb => can_bits hf hb
  have hstep : leaveR c = (List.range (full c + 1)).foldl (fun best b => if shorter (bitsR b) best && possibleP c (bitsR b) then bitsR b else best) (bitsR (full c)) := by
    unfold leaveR
    have : ∀ (L : List Nat) (b0 : List Int), (∀ b ∈ L, b < 2 ^ c.clips.length) → L.foldl (leaveStep c) b0 = L.foldl (fun best b => if shorter (bitsR b) best && possibleP c (bitsR b) then bitsR b else best) b0 := fun L => by
      induction L with
      | nil => intro _ _; rfl
      | cons b L ih =>
        intro b0 h
        rw [List.foldl_cons, List.foldl_cons, ih _ fun x hx => h x (List.mem_cons_of_mem _ hx)]
        unfold leaveStep
        rw [hcan b (h b List.mem_cons_self)]
    exact this _ _ fun b hb => by have := full_lt c; simp at hb; omega
  have hfp : possibleP c (bitsR (full c)) = true := by
    rw [← can_bits hf (full_lt c), Nat.sub_self, can_iff hf]
    obtain ⟨d, hd⟩ := errAll_ne c.clocks fun h hh => by have := ok.clock h hh; omega
    exact ⟨d, hd, (risingR_iff _ _ _).2 fun j k _ _ hj => by simp at hj⟩
  obtain ⟨h1, h2, h3, h4⟩ := leaveFold (possibleP c) bitsR (fun b => possibleP c (bitsR b)) (fun _ => rfl) (List.range (full c + 1)) (bitsR (full c)) hfp
  rw [← hstep] at h1 h2 h3 h4
  unfold leaveOut
  rw [if_pos hf, hl, Option.getD_some]
  have hin : leaveR c ∈ combs c.clips.length := by
    rcases h2 with h2 | ⟨b, hb, h2⟩
    · rw [h2]; exact combs_has h6 (full_lt c)
    · rw [h2]; exact combs_has h6 (by have := full_lt c; simp at hb; omega)
  rcases hmin _ hin h1 with h5 | h5
  · exact h5.symm
  · obtain ⟨b, hb, hbl⟩ := combs_bits h6 hmem
    have h6 := h4 b (by unfold full; simp; omega) (by rw [hbl]; exact hP)
    rw [hbl, h5] at h6
    cases h6
end Go.Proofs.Ytbkfnajpbhfneaa

/- What the walks of the program's ranges over its iterator share. -/
namespace Go.Proofs.Ytbkfnajpbhfneaa
open Go Go.RowKit Go.Shelf
attribute [local go_sem] Oper.semAt_some
/- simp settles conditions two deep: three and four new blocks in one step -/
theorem later_alloc3 {w W : World} (h : Later w W) (a b c : Obj) : Later w (((W.alloc a).alloc b).alloc c) := later_alloc (later_alloc (later_alloc h a) b) c
theorem later_alloc4 {w W : World} (h : Later w W) (a b c d : Obj) : Later w ((((W.alloc a).alloc b).alloc c).alloc d) := later_alloc (later_alloc3 h a b c) d
theorem lists_fn {A1 A2 A3 : Option Addr} {n1 k1 n2 k2 n3 k3 : Nat} {c : Hou} (w : World) : Calls Try.prog 120 #[(.agg #[.int .i64 c.hour, .int .i64 c.grace, .slice A1 n1 k1, .slice A2 n2 k2, .slice A3 n3 k3])] w fun e w' => e = .returned (.func (.func 131) #[] #[.pointer (some ⟨w.heap.size, 0, none⟩)]) ∧ w' = w.alloc (.cells #[.int .i64 c.hour, .int .i64 c.grace, .slice A1 n1 k1, .slice A2 n2 k2, .slice A3 n3 k3] 36) := by
  go_enter Try.func120, Try.ntmps120
  go_wp2_with fail
  go_ret
  exact ⟨rfl, rfl⟩

theorem eq4 (a0 a1 a2 a3 b0 b1 b2 b3 : Int) (X : World) : (Op.equalIn 10000 117 (.agg #[.int .i64 a0, .int .i64 a1, .int .i64 a2, .int .i64 a3]) (.agg #[.int .i64 b0, .int .i64 b1, .int .i64 b2, .int .i64 b3])).run Try.prog X = .ok (a0 == b0 && (a1 == b1 && (a2 == b2 && a3 == b3))) X := by
  have hu : Try.prog.underlying 117 = some (.array 4 3) := by kernel_rfl
  have hi : Try.prog.underlying 3 = some (.int .i64) := by kernel_rfl
  have hs : ∀ X, (sizeOf 3).run Try.prog X = .ok 1 X := fun _ => by kernel_rfl
  have p0 : ∀ (x y z u : Int) X, (part 3 #[.int .i64 x, .int .i64 y, .int .i64 z, .int .i64 u] 0).run Try.prog X = .ok (.int .i64 x) X := fun _ _ _ _ _ => by kernel_rfl
  have p1 : ∀ (x y z u : Int) X, (part 3 #[.int .i64 x, .int .i64 y, .int .i64 z, .int .i64 u] 1).run Try.prog X = .ok (.int .i64 y) X := fun _ _ _ _ _ => by kernel_rfl
  have p2 : ∀ (x y z u : Int) X, (part 3 #[.int .i64 x, .int .i64 y, .int .i64 z, .int .i64 u] 2).run Try.prog X = .ok (.int .i64 z) X := fun _ _ _ _ _ => by kernel_rfl
  have p3 : ∀ (x y z u : Int) X, (part 3 #[.int .i64 x, .int .i64 y, .int .i64 z, .int .i64 u] 3).run Try.prog X = .ok (.int .i64 u) X := fun _ _ _ _ _ => by kernel_rfl
  have hq : ∀ (x y : Int) X, (Op.equalIn 9999 3 (.int .i64 x) (.int .i64 y)).run Try.prog X = .ok (x == y) X := fun x y X => run_equalIn_int (w := X) 9998 3 .i64 .i64 x y hi
  rw [show (10000 : Nat) = 9999 + 1 from rfl, Op.equalIn]
  simp only [Sem.run_bind, run_underlying hu, Result.andThen_ok, hs]
  rw [show ([0:4] : Std.Legacy.Range) = ⟨0, 4, 1, by decide⟩ from rfl]
  simp only [Std.Legacy.Range.forIn_eq_forIn_range']
  by_cases h0 : a0 = b0
  · by_cases h1 : a1 = b1
    · by_cases h2 : a2 = b2
      · by_cases h3 : a3 = b3 <;> simp [Std.Legacy.Range.size, List.range', Sem.run_bind, p0, p1, p2, p3, hq, Result.andThen, h0, h1, h2, h3]
      · simp [Std.Legacy.Range.size, List.range', Sem.run_bind, p0, p1, p2, p3, hq, Result.andThen, h0, h1, h2]
    · simp [Std.Legacy.Range.size, List.range', Sem.run_bind, p0, p1, p2, p3, hq, Result.andThen, h0, h1]
  · simp [Std.Legacy.Range.size, List.range', Sem.run_bind, p0, p1, p2, p3, hq, Result.andThen, h0]
theorem neq4 (a0 a1 a2 a3 b0 b1 b2 b3 : Int) (b : Bool) (hb : (a0 == b0 && (a1 == b1 && (a2 == b2 && a3 == b3))) = b) (X : World) : (binOp .neq 117 (.agg #[.int .i64 a0, .int .i64 a1, .int .i64 a2, .int .i64 a3]) (.agg #[.int .i64 b0, .int .i64 b1, .int .i64 b2, .int .i64 b3])).run Try.prog X = .ok (.bool !b) X := by
  rw [run_neq_struct, eq4, hb]; rfl
theorem numbers_info : (Try.prog.info? 117).map (fun i => (i.zero, i.size, i.bytes)) = some (some (.agg #[.int .i64 0, .int .i64 0, .int .i64 0, .int .i64 0]), 4, 32) := by kernel_rfl
theorem heap_put (W : World) (l : Nat) (o : Obj) (b : Nat) (h : b ≠ l) : (W.putObj l o).heap[b]? = W.heap[b]? := World.putObj_heap_other h
theorem own_block {W W' : World} {base : Nat} {e : TypeId} {size : Nat} {v : Value} {n : Nat} {xs : List Value} (h : W.ownsRow base e size v n xs) (hk : ∀ g, v.ownBlock = some g → W'.heap[g]? = W.heap[g]?) : W'.ownsRow base e size v n xs := by
  refine ⟨h.1, ?_⟩
  rcases h.2 with hn | ⟨g, cap, cur, rfl, hb, hgg, rest⟩
  · exact .inl hn
  · exact .inr ⟨g, cap, cur, rfl, hb, (hk g rfl).trans hgg, rest⟩
theorem pad_four {x : List Int} (h : x.length ≤ 4) : ∃ e0 e1 e2 e3, pad x = [e0, e1, e2, e3] := by
  have : (pad x).length = 4 := by unfold pad; simp; omega
  match hp : pad x, this with
  | [a, b, c, d], _ => exact ⟨a, b, c, d, rfl⟩
theorem pad_eq {x : List Int} (h : x.length ≤ 4) : pad x = pad4 x := by
  match x, h with
  | [], _ => rfl
  | [_], _ => rfl
  | [_, _], _ => rfl
  | [_, _, _], _ => rfl
  | [_, _, _, _], _ => rfl
theorem KeepsOthers.of_later {W W' : World} (h : Later W W') : KeepsOthers W W' :=
  ⟨h.size, fun k o hk _ => (h.block k (Array.getElem?_eq_some_iff.1 hk).1).trans hk⟩
theorem own_later2 {W W' : World} {base : Nat} {e : TypeId} {size : Nat} {v : Value} {n : Nat} {xs : List Value} (h : W.ownsRow base e size v n xs) (hL : Later W W') : W'.ownsRow base e size v n xs :=
  own_block h fun g hg => hL.block g (h.lt g hg).2
theorem own_rebase {W : World} {base base' : Nat} {e : TypeId} {size : Nat} {v : Value} {n : Nat} {xs : List Value} (h : W.ownsRow base e size v n xs) (hb : ∀ g, v.ownBlock = some g → base' ≤ g) : W.ownsRow base' e size v n xs := by
  refine ⟨h.1, ?_⟩
  rcases h.2 with hn | ⟨g, cap, cur, rfl, _, hgg, rest⟩
  · exact .inl hn
  · exact .inr ⟨g, cap, cur, rfl, hb g rfl, hgg, rest⟩
theorem Appended.others {w0 W w' : World} {e : TypeId} {size n : Nat} {v v' : Value} {xs news : List Value} (h : Appended w0 W w' e size v v' n xs news) (hown : W.ownsRow w0.heap.size e size v n xs) : KeepsOthers W w' := by
  refine ⟨Nat.le_of_lt h.size, fun k o hk ho => ?_⟩
  have hlt := (Array.getElem?_eq_some_iff.1 hk).1
  rw [h.keep k hlt]
  · exact hk
  · intro e
    rcases hown.2 with ⟨rfl, _⟩ | ⟨g, cap, cur, rfl, _, hgg, _⟩
    · cases e
    · have : g = k := by simpa [Value.ownBlock] using e
      subst this
      rw [hk] at hgg
      injection hgg with hgg
      subst hgg
      cases ho
theorem later_put {w W : World} (h : Later w W) {l : Nat} (hl : w.heap.size ≤ l) (o : Obj) : Later w (W.putObj l o) :=
  ⟨h.os, h.tape, h.output, by simpa using h.size, fun b hb => (heap_put W l o b (by omega)).trans (h.block b hb)⟩
theorem Blk.of_eq {w w' : World} {g : Nat} {t : TypeId} {cs : Array Value} (h : w'.heap[g]? = w.heap[g]?) (k : Blk w g t cs) : Blk w' g t cs := h.trans k
theorem nil_or_snoc {α : Type} (l : List α) : l = [] ∨ ∃ t x, l = t ++ [x] := by
  rcases List.eq_nil_or_concat l with h | ⟨t, x, h⟩
  · exact .inl h
  · exact .inr ⟨t, x, by rw [h, List.concat_eq_append]⟩
theorem encD_size (x : List Int) : (encD x).size = 1 := rfl

theorem later_alloc2 {w W : World} (h : Later w W) (a b : Obj) : Later w ((W.alloc a).alloc b) := later_alloc (later_alloc h a) b
end Go.Proofs.Ytbkfnajpbhfneaa

/- The program's possible: walk. -/
namespace Go.Proofs.Ytbkfnajpbhfneaa
open Go Go.RowKit Go.Shelf
attribute [local go_sem] Oper.semAt_some later_alloc3 later_alloc4

/-- what holds between the rounds: all that lay where the range began lies as it lay -/
structure PosI (E : Nat) (wE W : World) : Prop where
  size : E + 5 ≤ W.heap.size
  os : W.os = wE.os
  tape : W.tape = wE.tape
  out : W.output = wE.output
  old : ∀ b, b < E → W.heap[b]? = wE.heap[b]?
theorem PosI.same {E : Nat} {wE W W' : World} (h : PosI E wE W) (hs : W.heap.size ≤ W'.heap.size) (ho : W'.os = W.os) (ht : W'.tape = W.tape) (hu : W'.output = W.output)
    (hb : ∀ b, b < E → W'.heap[b]? = W.heap[b]?) : PosI E wE W' :=
  ⟨Nat.le_trans h.size hs, ho.trans h.os, ht.trans h.tape, hu.trans h.out, fun b h1 => (hb b h1).trans (h.old b h1)⟩
theorem PosI.later {E : Nat} {wE W W' : World} (h : PosI E wE W) (hL : Later W W') : PosI E wE W' :=
  h.same hL.size hL.os hL.tape hL.output fun b hb => hL.block b (by have := h.size; omega)
theorem PosI.put {E : Nat} {wE W : World} (h : PosI E wE W) {l : Nat} (hl : E ≤ l) (o : Obj) : PosI E wE (W.putObj l o) :=
  h.same (by simp) rfl rfl rfl fun b hb => heap_put W _ o b (by omega)
theorem PosI.set_ {E : Nat} {wE W : World} (h : PosI E wE W) {a : Addr} (hl : E ≤ a.block) (u : Value) : PosI E wE (W.setCell a u) :=
  h.same (by simp) rfl rfl rfl fun b hb => Below.heap_setCell W a u b (by omega)
theorem PosI.laterE {E : Nat} {wE W : World} (h : PosI E wE W) (hE : wE.heap.size = E) : Later wE W :=
  ⟨h.os, h.tape, h.out, by have := h.size; omega, fun b hb => h.old b (by omega)⟩

set_option maxRecDepth 100000 in
set_option maxHeartbeats 2000000 in
theorem possible_calls {A1 A2 A3 : Option Addr} {n1 k1 n2 k2 n3 k3 : Nat} {c : Hou} {Ao : Option Addr} {no ko : Nat} {out : List Int} (w : World) (hc : CV w c A1 n1 A2 n2 A3 n3) (ok : OkH c) (ho : RI w Ao no out) (hno : no ≤ 1000000) :
    Calls Try.prog 98 #[(.agg #[.int .i64 c.hour, .int .i64 c.grace, .slice A1 n1 k1, .slice A2 n2 k2, .slice A3 n3 k3]), .slice Ao no ko] w fun e w' => e = .returned (.bool (possibleP c out)) ∧ Later w w' := by
  refine (callsIn_wide (n := 6)).1 ?_
  have htf := fun W => (callsIn_wide (n := 5)).2 (lists_fn (c := c) (A1 := A1) (A2 := A2) (A3 := A3) (n1 := n1) (n2 := n2) (n3 := n3) (k1 := k1) (k2 := k2) (k3 := k3) W)
  refine callsIn_of_wp_marks Try.func98 rfl trivial ?_ rfl
  simp only [Try.ntmps98, List.size_toArray, List.length_cons, List.length_nil, Nat.reduceAdd, Nat.reduceSub, Array.replicate_succ, Array.replicate_zero, List.push_toArray, List.append_toArray, List.nil_append, List.cons_append]
  gi_wp2_with fail
  refine ⟨trivial, (htf _).mono ?_⟩
  rintro e w2 ⟨rfl, rfl⟩
  gi_wp2_with fail
  obtain ⟨B, hB⟩ : ∃ b, b = w.heap.size := ⟨_, rfl⟩
  simp only [← hB, World.size_alloc]
  generalize hwE : ((((w.alloc _).alloc _).alloc _).alloc _) = wE
  have hE : wE.heap.size = B + 4 := by rw [← hwE]; simp [← hB]
  have hLE : Later w wE := by rw [← hwE]; exact later_alloc4 (later_refl _) _ _ _ _
  have kb : Blk wE B 36 #[.int .i64 c.hour, .int .i64 c.grace, .slice A1 n1 k1, .slice A2 n2 k2, .slice A3 n3 k3] := by
    rw [← hwE, hB]; exact (((Blk.new _ _ _).alloc _).alloc _).alloc _
  have ko1 : Blk wE (B + 1) 47 #[.slice Ao no ko] := by
    rw [← hwE, hB]
    have := Blk.new (w.alloc (.cells #[.int .i64 c.hour, .int .i64 c.grace, .slice A1 n1 k1, .slice A2 n2 k2, .slice A3 n3 k3] 36)) 47 #[.slice Ao no ko]
    rw [World.size_alloc] at this
    exact (this.alloc _).alloc _
  have kr : Blk wE (B + 1 + 1) 4 #[.bool false] := by
    rw [← hwE, hB]
    have := Blk.new ((w.alloc (.cells #[.int .i64 c.hour, .int .i64 c.grace, .slice A1 n1 k1, .slice A2 n2 k2, .slice A3 n3 k3] 36)).alloc (.cells #[.slice Ao no ko] 47)) 4 #[.bool false]
    simp only [World.size_alloc] at this
    exact this.alloc _
  have kc : Blk wE (B + 1 + 1 + 1) 36 #[.int .i64 c.hour, .int .i64 c.grace, .slice A1 n1 k1, .slice A2 n2 k2, .slice A3 n3 k3] := by
    rw [← hwE, hB]
    have := Blk.new (((w.alloc (.cells #[.int .i64 c.hour, .int .i64 c.grace, .slice A1 n1 k1, .slice A2 n2 k2, .slice A3 n3 k3] 36)).alloc (.cells #[.slice Ao no ko] 47)).alloc (.cells #[.bool false] 4)) 36 #[.int .i64 c.hour, .int .i64 c.grace, .slice A1 n1 k1, .slice A2 n2 k2, .slice A3 n3 k3]
    simp only [World.size_alloc] at this
    exact this
  have hcE := hc.later hLE
  have hoE := ho.later hLE
  have HwE := hide hwE
  have HB := hide hB
  clear hwE hB htf
  refine wpIn_iter (α := List Int) (gf := 131) (lb := #[.pointer (some ⟨B + 1 + 1 + 1, 0, none⟩)]) (encs := encD) (xs := errAll c.clocks) (Kp := KeepS fun b => b < B + 9 ∧ b ≠ B + 5) rfl (by omega) rfl trivial (enters_of Try.func131 (by kernel_rfl) rfl) ?_ (fun h k => h.trans k) ?_ encD_size
    (fun pre W => PosI (B + 4) wE W ∧ ∀ d ∈ pre, rightP c (pad4 d) out = false) (fun cd pre W => cd = .ret ∧ (∃ W1, PosI (B + 4) wE W1 ∧ W.os = W1.os ∧ W.tape = W1.tape ∧ W.output = W1.output ∧ W1.heap.size = W.heap.size ∧ (∀ b, b < B + 4 → b ≠ B + 1 + 1 → W.heap[b]? = W1.heap[b]?)) ∧ Blk W (B + 1 + 1) 4 #[.bool true] ∧ ∃ d ∈ pre, rightP c (pad4 d) out = true) ?_ ?_ ?_ ?_
    (fun pre x a' W => ∃ (g : Nat) (e0 e1 e2 e3 : Int), a' = { tmps := #[(.agg #[.int .i64 c.hour, .int .i64 c.grace, .slice A1 n1 k1, .slice A2 n2 k2, .slice A3 n3 k3]), .slice Ao no ko, .pointer (some ⟨B, 0, none⟩), .pointer (some ⟨B + 1, 0, none⟩), .pointer (some ⟨B + 1 + 1, 0, none⟩), .pointer (some ⟨g, 0, none⟩), (.agg #[.int .i64 c.hour, .int .i64 c.grace, .slice A1 n1 k1, .slice A2 n2 k2, .slice A3 n3 k3]), .func (.func 131) #[] #[.pointer (some ⟨B + 1 + 1 + 1, 0, none⟩)], .agg #[.int .i64 e0, .int .i64 e1, .int .i64 e2, .int .i64 e3], undef, undef, undef, undef], defers := [] } ∧ pad x = [e0, e1, e2, e3] ∧ B + 9 ≤ g ∧ Blk W g 117 #[.int .i64 e0, .int .i64 e1, .int .i64 e2, .int .i64 e3] ∧ PosI (B + 4) wE W ∧ ∀ d ∈ pre, rightP c (pad4 d) out = false) ?assign ?_ ?body ?done ?stop
  case assign =>
    rintro l pre x W K ⟨hI, hno2⟩ hpx hK
    obtain ⟨e0, e1, e2, e3, hpad⟩ := pad_four (x := x) (by
      have := errAll_isErr c x (hpx.subset (by simp))
      rw [this.len]; exact ok.n1)
    have henc : encD x = #[.agg #[.int .i64 e0, .int .i64 e1, .int .i64 e2, .int .i64 e3]] := by unfold encD; rw [hpad]; rfl
    rw [henc]
    have Hpad := hide hpad
    have Hno := hide hno2
    clear hpad henc hno2
    gi_wp2_with fail
    refine hK _ _ (KeepsOthers.alloc _ _) ((KeepS.refl _).alloc _ fun b hb => by have := hI.size; omega) ⟨_, e0, e1, e2, e3, rfl, Hpad.out, ?_, ?_, ?_, Hno.out⟩
    · have := hI.size; omega
    · exact Blk.new _ _ _
    · exact hI.later (later_alloc (later_refl _) _)
  case body =>
    rintro l pre x a' W ⟨g, e0, e1, e2, e3, rfl, hpad, hg, hBd, hI, hno2⟩ hpx hsz
    have hdx := errAll_isErr c x (hpx.subset (by simp))
    have hp4 : pad4 x = [e0, e1, e2, e3] := by rw [← hpad]; exact (pad_eq (by rw [hdx.len]; exact ok.n1)).symm
    have hIs := hI.size
    have kbW : Blk W B 36 #[.int .i64 c.hour, .int .i64 c.grace, .slice A1 n1 k1, .slice A2 n2 k2, .slice A3 n3 k3] := Blk.of_eq (hI.old _ (by omega)) kb
    have koW : Blk W (B + 1) 47 #[.slice Ao no ko] := Blk.of_eq (hI.old _ (by omega)) ko1
    have krW : Blk W (B + 1 + 1) 4 #[.bool false] := Blk.of_eq (hI.old _ (by omega)) kr
    have hLW := hI.laterE hE
    have hcW := hcE.later hLW
    have hoW := hoE.later hLW
    have hr4 := pad4_range ok hdx
    rw [hp4] at hr4
    have q0 := kbW.cells_later
    have q1 := koW.cells_later
    have q3 := hBd.cells_later
    have q2 := krW.cells_later
    have f2 := krW.frozen_later
    obtain ⟨b, hr⟩ : ∃ b, rightP c [e0, e1, e2, e3] out = b := ⟨_, rfl⟩
    have hrc : ∀ X, Later W X → CallsIn (Fence.wide.inRound l) (6 - 1 - 1 - 1) Try.prog 108 #[(.agg #[.int .i64 c.hour, .int .i64 c.grace, .slice A1 n1 k1, .slice A2 n2 k2, .slice A3 n3 k3]), .agg #[.int .i64 e0, .int .i64 e1, .int .i64 e2, .int .i64 e3], .slice Ao no ko] X fun e w' => e = .returned (.bool b) ∧ Later X w' := fun X hX => by
      have := rising_calls (k1 := k1) (k2 := k2) (k3 := k3) (ko := ko) X (hcW.later hX) ok (hoW.later hX) hno hr4
      rw [hr] at this
      exact CallsIn.inRound l (callsIn_wide.2 this)
    have Hr := hide hr
    have HI := hide hI
    have Hno := hide hno2
    have HkrW := hide krW
    clear hr hI hno2 kbW koW krW hBd
    gi_wp2_with fail
    refine ⟨trivial, (hrc _ (later_refl _)).mono ?_⟩
    rintro e w3 ⟨rfl, hL3⟩
    have hI3 := HI.out.later hL3
    cases b with
    | false =>
      clear hrc
      gi_wp2_with fail
      refine ⟨KeepsOthers.of_later hL3, fun b hb => hL3.block b (by omega), hI3, fun d hd => ?_⟩
      rcases List.mem_append.1 hd with h | h
      · exact Hno.out d h
      · simp only [List.mem_singleton] at h; subst h; rw [hp4]; exact Hr.out
    | true =>
      have krW3 := HkrW.out.later hL3
      have r0 := krW3.cell 0
      have rf := krW3.frozen 0
      simp only [List.getElem?_toArray, List.getElem?_cons_zero, List.getElem?_cons_succ] at r0
      have hb2 := krW3.set_ 0 (.bool true)
      have Hb2 := hide hb2
      clear hrc hb2 krW3
      gi_wp2_with fail
      refine ⟨(KeepsOthers.of_later hL3).trans (KeepsOthers.setCell _ _ _), rfl, ⟨w3, hI3, rfl, rfl, rfl, by simp, fun b hb hne => Below.heap_setCell w3 _ _ b hne⟩, Hb2.out, x, by simp, by rw [hp4]; exact Hr.out⟩
  case done =>
    rintro W ⟨hI, hno2⟩ hK
    rw [hE] at hK ⊢
    have krW : Blk W (B + 1 + 1) 4 #[.bool false] := Blk.of_eq (hI.old _ (by omega)) kr
    have r0 := krW.cell 0
    have rf := krW.frozen 0
    simp only [List.getElem?_toArray, List.getElem?_cons_zero, List.getElem?_cons_succ] at r0
    have hK2 : (W.setCell ⟨B + 1 + 1, 0, none⟩ (.bool false)).heap[B + 4]? = some (.deferred (some [])) := (Below.heap_setCell W _ _ _ (by show B + 4 ≠ B + 1 + 1; omega)).trans hK
    have hb2 : Blk ((W.setCell ⟨B + 1 + 1, 0, none⟩ (.bool false)).putObj (B + 4) (.deferred none)) (B + 1 + 1) 4 #[.bool false] := Blk.of_eq (heap_put _ _ _ _ (by omega)) (krW.set_ 0 (.bool false))
    have z0 := hb2.cell 0
    simp only [List.getElem?_toArray, List.getElem?_cons_zero, List.getElem?_cons_succ] at z0
    have hfin : Later w ((W.setCell ⟨B + 1 + 1, 0, none⟩ (.bool false)).putObj (B + 4) (.deferred none)) := later_put (later_set (Later.trans hLE (hI.laterE hE)) _ (by rw [← HB.out]; show B ≤ B + 1 + 1; omega) _) (by rw [← HB.out]; omega) _
    have hp : possibleP c out = false := by
      unfold possibleP
      rw [← Bool.not_eq_true, List.any_eq_true]
      rintro ⟨d, hd, h⟩
      rw [hno2 d hd] at h; cases h
    have HK := hide hK2
    have Hp := hide hp
    clear hK hK2 hp hb2
    gi_wp2_with fail
    refine ⟨by simp, .inl ⟨_, _, rfl, run_takeDeferred HK.out, ?_⟩⟩
    refine ⟨.bool false, by simp [results, Try.results98, go_sem, z0], by rw [Hp.out], hfin⟩
  case stop =>
    rintro cd pre W hpre ⟨rfl, ⟨W1, hI, hos, htape, hout, hsz, hold⟩, hbk, d, hd, hr⟩ hK
    rw [hE] at hK ⊢
    have hb2 : Blk (W.putObj (B + 4) (.deferred none)) (B + 1 + 1) 4 #[.bool true] := Blk.of_eq (heap_put _ _ _ _ (by omega)) hbk
    have z0 := hb2.cell 0
    simp only [List.getElem?_toArray, List.getElem?_cons_zero, List.getElem?_cons_succ] at z0
    have hL1 := Later.trans hLE (hI.laterE hE)
    have hL2 : Later w W := ⟨hos.trans hL1.os, htape.trans hL1.tape, hout.trans hL1.output, by have := hL1.size; omega, fun b hb => (hold b (by have := HB.out; omega) (by have := HB.out; omega)).trans (hL1.block b hb)⟩
    have hfin : Later w (W.putObj (B + 4) (.deferred none)) := later_put hL2 (by rw [← HB.out]; omega) _
    have hp : possibleP c out = true := by
      unfold possibleP
      rw [List.any_eq_true]
      exact ⟨d, hpre.subset hd, hr⟩
    gi_wp2_with fail
    refine ⟨by simp, .inl ⟨_, _, rfl, run_takeDeferred hK, ?_⟩⟩
    refine ⟨.bool true, by simp [results, Try.results98, go_sem, z0], by rw [hp], hfin⟩
  · intro W hL hs
    rw [hE] at hs
    refine lists_iter (n2 := n2) (k2 := k2) (n3 := n3) (k3 := k3) (A2 := A2) (A3 := A3) (k1 := k1) ok (hcE.ck.later hL) (kc.later hL) (fun b hb => by omega) (by omega) (fun hn b o e => ?_) (by omega) (by omega) (by omega)
    obtain ⟨b', o', e3, hb', _⟩ := Reads.lit hc.ck (by omega) hn
    rw [e] at e3; obtain ⟨rfl, _⟩ := some_lit e3; have := HB.out; omega
  · exact fun W o b hb => heap_put W _ o b (by rw [hE]; exact hb.2)
  · rw [hE]
    exact ⟨fun s A o h => ⟨h.1.later (later_alloc (later_refl _) _), h.2⟩, fun s A i u h => ⟨h.1.set_ (by show B + 4 ≤ B + 4 + 3; omega) u, h.2⟩⟩
  · intro s A o h _; rw [hE]; exact ⟨h.1.put (by omega) o, h.2⟩
  · rintro cd s A o ⟨rfl, ⟨W1, hI, hos, htape, hout, hsz, hold⟩, hbk, hd⟩ _
    rw [hE]
    exact ⟨rfl, ⟨W1, hI, hos, htape, hout, by simpa using hsz, fun b hb hne => (heap_put A _ o b (by omega)).trans (hold b hb hne)⟩, Blk.of_eq (heap_put A _ o _ (by omega)) hbk, hd⟩
  · intro A hL hs
    rw [hE] at hs
    exact ⟨⟨hs, hL.os, hL.tape, hL.output, fun b hb => hL.block b (by omega)⟩, by simp⟩
  · rintro pre x a' A o ⟨g, e0, e1, e2, e3, rfl, hpad, hg, hBd, hI, hno2⟩ _
    rw [hE]
    exact ⟨g, e0, e1, e2, e3, rfl, hpad, hg, (heap_put A _ o g (by omega)).trans hBd, hI.put (by omega) o, hno2⟩
end Go.Proofs.Ytbkfnajpbhfneaa
