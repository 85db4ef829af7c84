/- Part 3 of the proof: joined from the texts TcF, RegionIn, Iter, Choose, TcG, TcH, TcI, App, TcJ, TcN, TcL, TcM, TcO, IterM. -/
import Derived.Test.YtcffgjhmpgdfpaaPart2
import Derived.Test.YtcffgjhmpgdfpaaPart1
import Derived.OrdersIn
import Derived.RangeFuncCalls
import Derived.RangeFuncNested
import Derived.RangeFuncBound
import Derived.RangeFuncLeaves
import Derived.Shelf.Abstract
import Derived.Shelf.RegionOpen
import Derived.OwnWalkIn
import Derived.TacticsInMore
import Derived.LoopNIn
import Derived.LoopIn
import Derived.Laws.EntriesVeiled
import Derived.Carry
import Derived.Laws.StructEq
import Derived.Maps.OwnSet
import Derived.Maps.Views
import Derived.DeepKeys4
import Derived.WideKeyEntry
set_option linter.unusedSimpArgs false
set_option linter.unusedVariables false
/- The program's minute, rising: walks. -/
namespace Go.Proofs.Ytcffgjhmpgdfpaa
open Go Go.RowKit

set_option maxRecDepth 100000 in
theorem minute_eq {e0 e1 e2 e3 v : Int} {x : Cp} (hv : minuteC [e0, e1, e2, e3] x = v) (w : World) (h0 : 0 ≤ x.clock) (h4 : x.clock < 4) (hm : -1000000 ≤ x.minute ∧ x.minute ≤ 1000000) (he : ∀ y ∈ [e0, e1, e2, e3], -1000 ≤ y ∧ y ≤ 1000) :
    Calls Try.prog 53 #[.agg #[.int .i64 e0, .int .i64 e1, .int .i64 e2, .int .i64 e3], .agg #[.int .i64 x.ticket, .int .i64 x.clock, .int .i64 x.minute]] w fun e w' => e = .returned (.int .i64 v) ∧ Later w w' := by
  obtain ⟨w0, hw0⟩ : ∃ W, W = (w.alloc (.cells #[.int .i64 e0, .int .i64 e1, .int .i64 e2, .int .i64 e3] 103)).alloc (.cells #[.int .i64 x.ticket, .int .i64 x.clock, .int .i64 x.minute] 74) := ⟨_, rfl⟩
  have hL0 : Later w w0 := by rw [hw0]; exact later_alloc (later_alloc (later_refl _) _) _
  have b1 : Blk w0 w.heap.size 103 #[.int .i64 e0, .int .i64 e1, .int .i64 e2, .int .i64 e3] := by rw [hw0]; exact (Blk.new _ _ _).alloc _
  have b2 : Blk w0 (w.heap.size + 1) 74 #[.int .i64 x.ticket, .int .i64 x.clock, .int .i64 x.minute] := by
    have := Blk.new (w.alloc (.cells #[.int .i64 e0, .int .i64 e1, .int .i64 e2, .int .i64 e3] 103)) 74 #[.int .i64 x.ticket, .int .i64 x.clock, .int .i64 x.minute]
    rw [World.size_alloc] at this
    rw [hw0]; exact this
  have hlt : x.clock.toNat < 4 := by omega
  obtain ⟨y, hy⟩ : ∃ y, [e0, e1, e2, e3][x.clock.toNat]? = some y := ⟨_, List.getElem?_eq_getElem (by simpa using hlt)⟩
  have hyr := he y (List.mem_of_getElem? hy)
  have c0 : ∀ W, Later w0 W → W.cell? ⟨w.heap.size, x.clock.toNat, none⟩ = some (.int .i64 y) := fun W hW => by
    rw [(b1.later hW).cell]
    have : (ints [e0, e1, e2, e3])[x.clock.toNat]? = some (.int .i64 y) := by unfold ints; rw [List.getElem?_map, hy]; rfl
    simpa [ints] using this
  have d1 := fun W (hW : Later w0 W) => (b2.later hW).cell 1
  have d2 := fun W (hW : Later w0 W) => (b2.later hW).cell 2
  simp only [List.getElem?_toArray, List.getElem?_cons_zero, List.getElem?_cons_succ] at d1 d2
  have hvv : x.minute - y = v := by rw [← hv]; unfold minuteC; rw [List.getD_eq_getElem?_getD, hy]; rfl
  have hw1 : IntKind.i64.wrap (x.minute - y) = x.minute - y := IntWalk.i64_in _ (by omega)
  have Hvv := hide hvv
  have Hw0 := hide hw0
  clear hw0 hy hvv hv b1 b2 he
  go_enter Try.func53, Try.ntmps53
  go_wp2_with fail
  rw [← Hw0.out]; clear Hw0
  refine wp_region_ext (w0 := w0) (by kernel_rfl) (by kernel_rfl) (later_refl _) ?_; (repeat (first | go_big_quiet_step (((fail))) | quiet_step (((fail))))); refine wpQuiet_nil ?_; rintro w3 ⟨⟨_, hL3⟩, rfl⟩; (try dsimp only)
  go_wp2_with fail
  go_ret
  exact ⟨ret_int Hvv.out, Later.trans hL0 hL3⟩
theorem risP_cons (d out : List Int) (i : Nat) (x : Cp) (l : List Cp) (last : Option Int) : risP d out i (x :: l) last = if out.contains (i : Int) then risP d out (i + 1) l last else
    (match last with
      | none => true
      | some m => decide (m ≤ minuteC d x)) && risP d out (i + 1) l (some (minuteC d x)) := rfl
/-- the four errors, for a house: what a clip's minute asks -/
structure Err4 (c : Hou) (e0 e1 e2 e3 : Int) : Prop where
  rng : ∀ y ∈ [e0, e1, e2, e3], -1000 ≤ y ∧ y ≤ 1000
theorem clip_in {c : Hou} (ok : OkH c) {x : Cp} (hx : x ∈ c.clips) : 0 ≤ x.clock ∧ x.clock < 4 ∧ -1000000 ≤ x.minute ∧ x.minute ≤ 1000000 := by
  have := ok.clip x hx
  have := ok.n1
  omega
set_option maxRecDepth 100000 in
set_option maxHeartbeats 2000000 in
theorem rising_calls {A1 A2 A3 : Option Addr} {n1 k1 n2 k2 n3 k3 : Nat} {c : Hou} {e0 e1 e2 e3 : Int} {Ao : Option Addr} {no ko : Nat} {out : List Int} (w : World) (hc : CV w c A1 n1 A2 n2 A3 n3) (ok : OkH c) (ho : RI w Ao no out) (hno : no ≤ 1000000) (he : ∀ y ∈ [e0, e1, e2, e3], -1000 ≤ y ∧ y ≤ 1000) :
    Calls Try.prog 51 #[(.agg #[.int .i64 c.hour, .int .i64 c.grace, .slice A1 n1 k1, .slice A2 n2 k2, .slice A3 n3 k3]), .agg #[.int .i64 e0, .int .i64 e1, .int .i64 e2, .int .i64 e3], .slice Ao no ko] w fun e w' => e = .returned (.bool (rightP c [e0, e1, e2, e3] out)) ∧ Later w w' := by
  have hl3 := hc.cp.len
  have hn3 : n3 ≤ 10 := by have := ok.n3; omega
  have Hl3 := hide hl3
  clear hl3
  obtain ⟨w0, hw0⟩ : ∃ W, W = ((w.alloc (.cells #[.int .i64 c.hour, .int .i64 c.grace, .slice A1 n1 k1, .slice A2 n2 k2, .slice A3 n3 k3] 46))).alloc (.cells #[.int .i64 e0, .int .i64 e1, .int .i64 e2, .int .i64 e3] 103) := ⟨_, rfl⟩
  have hL0 : Later w w0 := by rw [hw0]; exact later_alloc (later_alloc (later_refl _) _) _
  have b1 : Blk w0 w.heap.size 46 #[.int .i64 c.hour, .int .i64 c.grace, .slice A1 n1 k1, .slice A2 n2 k2, .slice A3 n3 k3] := by rw [hw0]; exact (Blk.new _ _ _).alloc _
  have b2 : Blk w0 (w.heap.size + 1) 103 #[.int .i64 e0, .int .i64 e1, .int .i64 e2, .int .i64 e3] := by
    have := Blk.new (w.alloc (.cells #[.int .i64 c.hour, .int .i64 c.grace, .slice A1 n1 k1, .slice A2 n2 k2, .slice A3 n3 k3] 46)) 103 #[.int .i64 e0, .int .i64 e1, .int .i64 e2, .int .i64 e3]
    rw [World.size_alloc] at this
    rw [hw0]; exact this
  have hbox := fun W (hW : Later w0 W) => (b1.later hW).cell
  have hbe := fun W (hW : Later w0 W) => (b2.later hW).cell
  have hc0 := hc.later hL0
  have ho0 := ho.later hL0
  have Hw0 := hide hw0
  clear hw0 b1 b2
  go_enter Try.func51, Try.ntmps51
  go_wp2_with fail
  rw [← Hw0.out]; clear Hw0
  go_loopw [7, 8, 9, 11, 15] (fun v7 v8 _ _ v15 wr => ∃ (j : Nat) (m : Int) (b : Bool), j ≤ n3 ∧ v15 = .int .i64 j ∧ v7 = .int .i64 m ∧ v8 = .bool b ∧ Later w0 wr ∧ Hid (risP [e0, e1, e2, e3] out 0 c.clips none = risP [e0, e1, e2, e3] out j (c.clips.drop j) (if b then some m else none))) (fun _ _ _ _ v15 _ => n3 - (intOf v15).toNat)
  case atStart => exact ⟨0, 0, false, Nat.zero_le _, rfl, rfl, rfl, later_refl _, rfl⟩
  case round =>
    obtain ⟨j, m, b, hj, rfl, rfl, rfl, hL, Hrec⟩ := hrel
    by_cases hlt : j < n3
    · obtain ⟨bb, o, x, rfl, _, hx, hx0, hx1, hx2⟩ := hc0.cp.get hlt
      have hi1 : (j : Int) < n3 := by omega
      obtain ⟨hp, e9⟩ := List.getElem?_eq_some_iff.1 hx
      have hrec := Hrec.out
      rw [List.drop_eq_getElem_cons hp, e9, risP_cons] at hrec
      obtain ⟨k0, k4, km⟩ := clip_in ok (List.mem_of_getElem? hx)
      have hx0 := hx0 _ hL
      have hx1 := hx1 _ hL
      have hx2 := hx2 _ hL
      have hor := ho0.later hL
      obtain ⟨w2, hw2⟩ : ∃ W, W = wr.alloc (.cells #[.int .i64 x.ticket, .int .i64 x.clock, .int .i64 x.minute] 74) := ⟨_, rfl⟩
      have hb2 := Blk.new wr 74 #[.int .i64 x.ticket, .int .i64 x.clock, .int .i64 x.minute]
      rw [← hw2] at hb2
      have hLr2 : Later wr w2 := by rw [hw2]; exact later_alloc (later_refl _) _
      have hL2 := Later.trans hL hLr2
      have q0 := fun W (hW : Later w2 W) => (hb2.later hW).cell 0
      have q1 := fun W (hW : Later w2 W) => (hb2.later hW).cell 1
      have q2 := fun W (hW : Later w2 W) => (hb2.later hW).cell 2
      simp only [List.getElem?_toArray, List.getElem?_cons_zero, List.getElem?_cons_succ] at q0 q1 q2
      have hL22 : Later w2 w2 := later_refl _
      have Hw2 := hide hw2
      cases hct : out.contains (j : Int) with
      | true =>
        rw [hct, if_pos rfl] at hrec
        have Hr2 := hide hrec
        have Hct := hide hct
        clear hrec hx hct hw2 e9 Hrec
        go_upto_region 5 with fail
        rw [← Hw2.out]
        go_wp2_with (go_at_call 47; refine (Contains_eq Hct.out _ (hor.later hLr2) hno).mono ?_; rintro e w' ⟨rfl, rfl⟩)
        go_roundw
        case rel => exact ⟨j + 1, m, b, hlt, by go_num, rfl, rfl, hL2, Hr2.out⟩
        case measure => simp [intOf]; omega
      | false =>
        rw [hct, if_neg (by simp)] at hrec
        obtain ⟨v, hv⟩ : ∃ v, minuteC [e0, e1, e2, e3] x = v := ⟨_, rfl⟩
        rw [hv] at hrec
        have Hv := hide hv
        have Hct := hide hct
        cases b with
        | false =>
          have Hr2 : Hid (risP [e0, e1, e2, e3] out 0 c.clips none = risP [e0, e1, e2, e3] out (j + 1) (c.clips.drop (j + 1)) (some v)) := by
            show _ = _; rw [hrec]; simp
          clear hrec hx hct hw2 e9 Hrec hv
          go_upto_region 5 with fail
          rw [← Hw2.out]
          go_wp2_with (go_at_call 47; refine (Contains_eq Hct.out _ (hor.later hLr2) hno).mono ?_; rintro e w' ⟨rfl, rfl⟩)
          refine (minute_eq Hv.out _ k0 k4 km he).mono ?_
          rintro e w3 ⟨rfl, hL3⟩
          go_wp2_with fail
          go_roundw
          case rel => exact ⟨j + 1, v, true, hlt, by go_num, rfl, rfl, Later.trans hL2 hL3, Hr2.out⟩
          case measure => simp [intOf]; omega
        | true =>
          have hrec2 : risP [e0, e1, e2, e3] out 0 c.clips none = (decide (m ≤ v) && risP [e0, e1, e2, e3] out (j + 1) (c.clips.drop (j + 1)) (some v)) := by rw [hrec]; rfl
          by_cases hmv : v < m
          · have Hf : Hid (rightP c [e0, e1, e2, e3] out = false) := by
              show _ = _; unfold rightP; rw [hrec2, decide_eq_false (by omega)]; rfl
            clear hrec hx hct hw2 e9 Hrec hrec2 hv
            go_upto_region 5 with fail
            rw [← Hw2.out]
            go_wp2_with (go_at_call 47; refine (Contains_eq Hct.out _ (hor.later hLr2) hno).mono ?_; rintro e w' ⟨rfl, rfl⟩)
            refine (minute_eq Hv.out _ k0 k4 km he).mono ?_
            rintro e w3 ⟨rfl, hL3⟩
            go_wp2_with fail
            go_ret
            exact ⟨by rw [Hf.out]; rfl, Later.trans hL0 (Later.trans hL2 hL3)⟩
          · have Hr2 : Hid (risP [e0, e1, e2, e3] out 0 c.clips none = risP [e0, e1, e2, e3] out (j + 1) (c.clips.drop (j + 1)) (some v)) := by
              show _ = _; rw [hrec2, decide_eq_true (by omega)]; rfl
            clear hrec hx hct hw2 e9 Hrec hrec2 hv
            go_upto_region 5 with fail
            rw [← Hw2.out]
            go_wp2_with (go_at_call 47; refine (Contains_eq Hct.out _ (hor.later hLr2) hno).mono ?_; rintro e w' ⟨rfl, rfl⟩)
            refine (minute_eq Hv.out _ k0 k4 km he).mono ?_
            rintro e w3 ⟨rfl, hL3⟩
            go_wp2_with fail
            go_roundw
            case rel => exact ⟨j + 1, v, true, hlt, by go_num, rfl, rfl, Later.trans hL2 hL3, Hr2.out⟩
            case measure => simp [intOf]; omega
    · have Hf : Hid (rightP c [e0, e1, e2, e3] out = true) := by
        show _ = _
        unfold rightP
        rw [Hrec.out, List.drop_of_length_le (by have := Hl3.out; omega)]; rfl
      clear Hrec
      go_wp2_with fail
      go_ret
      exact ⟨by rw [Hf.out]; rfl, Later.trans hL0 hL⟩
theorem rising_eq {A1 A2 A3 : Option Addr} {n1 k1 n2 k2 n3 k3 : Nat} {c : Hou} {e0 e1 e2 e3 : Int} {Ao : Option Addr} {no ko : Nat} {out : List Int} {b : Bool} (hb : rightP c [e0, e1, e2, e3] out = b) (w : World) (hc : CV w c A1 n1 A2 n2 A3 n3) (ok : OkH c) (ho : RI w Ao no out) (hno : no ≤ 1000000) (he : ∀ y ∈ [e0, e1, e2, e3], -1000 ≤ y ∧ y ≤ 1000) :
    Calls Try.prog 51 #[(.agg #[.int .i64 c.hour, .int .i64 c.grace, .slice A1 n1 k1, .slice A2 n2 k2, .slice A3 n3 k3]), .agg #[.int .i64 e0, .int .i64 e1, .int .i64 e2, .int .i64 e3], .slice Ao no ko] w fun e w' => e = .returned (.bool b) ∧ Later w w' := by
  rw [← hb]; exact rising_calls w hc ok ho hno he
theorem pad4_range {c : Hou} (ok : OkH c) {d : List Int} (hd : IsErr c d) : ∀ y ∈ pad4 d, -1000 ≤ y ∧ y ≤ 1000 := by
  intro x hx
  simp only [pad4, List.mem_cons, List.not_mem_nil, or_false] at hx
  have h0 := hd.range ok 0
  have h1 := hd.range ok 1
  have h2 := hd.range ok 2
  have h3 := hd.range ok 3
  rcases hx with rfl | rfl | rfl | rfl <;> omega
end Go.Proofs.Ytcffgjhmpgdfpaa

/- A drawn region within a round of a range over a function: from what is shown outside of a round. -/
namespace Go.Proofs.Ytcffgjhmpgdfpaa
open Go Go.RowKit
section
variable {P : Program} {ops : Array Oper} {md : Region.Mode} {Q : Exit → Act → World → Prop} {l n : Nat}
theorem oper_round {o : Oper} {a : Act} {w : World} {K : Act → World → Prop} (hd : ∀ c, o.op ≠ .defer c) (h : o.wp P a w K Q) : o.wpIn (Fence.wide.inRound l) n P a w K Q := by
  refine ⟨fun _ _ => trivial, ?_⟩
  unfold Oper.wp at h
  rw [Oper.semAt_eq _ _ _ hd]
  generalize (execOp a.eval o).run P w = r at *
  have hdep : (Fence.wide.inRound l).depth.isSome = true → 1 ≤ n := fun h => by simp [Fence.wide, Fence.inRound] at h
  cases r with
  | ok x w' =>
    cases x <;> simp only [Oper.upon, Oper.uponIn] at h ⊢ <;>
      first
        | exact h
        | exact ⟨hdep, CallsIn.inRound l (callsIn_wide.2 h)⟩
        | exact ⟨hdep, fun c cs _ => let ⟨v, w1, hk, hs⟩ := h c cs; ⟨v, w1, hk, stepsIn_wide.2 hs⟩⟩
        | exact ⟨hdep, fun c cs => let ⟨v, w1, hk, hs⟩ := h c cs; ⟨v, w1, hk, stepsIn_wide.2 hs⟩⟩
        | exact h.elim
  | halt x w' => cases x <;> simp only [Oper.upon, Oper.uponIn] at h ⊢ <;> exact h

theorem op_round {i : Nat} {a : Act} {w : World} {K : Act → World → Prop} (hd : ∀ (j : Nat) (o : Oper) c, ops[j]? = some o → o.op ≠ .defer c) (hQ : ¬ LetsOut Q) (h : wpOp P ops Q i K a w) : wpOpIn (Fence.wide.inRound l) n P ops Q i K a w := by
  unfold wpOp at h
  unfold wpOpIn
  split
  · simpa [*] using h
  · rename_i o ho
    simp only [ho] at h
    split
    · rename_i hw
      simp only [hw, if_true] at h
      exact oper_round (hd i o · ho) (h.resolve_right fun k => hQ k.2)
    · rename_i hw
      simp only [hw] at h
      exact ⟨fun _ _ => trivial, h⟩
theorem wpOp_mono_ {i : Nat} {a : Act} {w : World} {K K' : Act → World → Prop} (h : ∀ a w, K a w → K' a w) (hh : wpOpIn (Fence.wide.inRound l) n P ops Q i K a w) : wpOpIn (Fence.wide.inRound l) n P ops Q i K' a w := wpOpIn_mono h hh
theorem any_round (hd : ∀ (j : Nat) (o : Oper) c, ops[j]? = some o → o.op ≠ .defer c) (hQ : ¬ LetsOut Q) : ∀ (fuel : Nat) (listed : Array Bool) (a : Act) (w : World), wpAny P md ops Q fuel listed a w → wpAnyIn (Fence.wide.inRound l) n P md ops Q fuel listed a w
  | 0, _, _, _, h => h
  | fuel + 1, _, _, _, h => ⟨h.1, fun i hi => wpOpIn_mono (fun a w => any_round hd hQ fuel _ a w) (op_round hd hQ (h.2 i hi))⟩
/-- what is shown of a drawn region outside of a round serves within -/
theorem region_round {id : Nat} {a : Act} {w : World} (hm : P.follows .mixedOrders = true) (hd : ops.all (fun o => match o.op with | .defer _ => false | _ => true) = true) (hQ : ¬ LetsOut Q)
    (h : wpAny P .any ops Q ops.size (Array.replicate ops.size false) a w.drew) : (Code.region id ops true).wpIn (Fence.wide.inRound l) n P Q a w := by
  refine wpIn_region_any hm (any_round (fun j o c hj e => ?_) hQ _ _ _ _ h)
  have := (Array.all_eq_true.1 hd) j (Array.getElem?_eq_some_iff.1 hj).1
  rw [(Array.getElem?_eq_some_iff.1 hj).2, e] at this
  cases this
theorem region_round_quiet {id : Nat} {a : Act} {w w0 : World} {ls : List Oper} (hm : P.follows .mixedOrders = true) (hB : Region.lexB .any ls.toArray = true)
    (hd : ls.toArray.all (fun o => match o.op with | .defer _ => false | _ => true) = true) (hQ : ¬ LetsOut Q) (hL : Later w0 w)
    (h : wpQuiet P ls.toArray (fun W => ∃ e : Ext w0, W = e.W) (fun a' => ∀ W, (∃ e : Ext w0, W = e.W) → Q .normal a' W) ls a) : (Code.region id ls.toArray true).wpIn (Fence.wide.inRound l) n P Q a w := by
  simp only [Region.lexB, Bool.and_eq_true] at hB
  refine region_round hm hd hQ (wpAny_of_quiet (C := fun W => ∃ e : Ext w0, W = e.W) (Q := fun a' => ∀ w', (∃ e : Ext w0, w' = e.W) → Q .normal a' w') (fun _ w' hw' h => h w' hw') _ _ _ _ ⟨⟨w.drew, later_drew hL⟩, rfl⟩ ?_)
  have := wpAnyQ_lex (C := fun W => ∃ e : Ext w0, W = e.W) (md := .any) hB.1 ls 0 (Array.replicate ls.length false) a (by simp) (by simpa using hB.2) h
  simpa using this
end
end Go.Proofs.Ytcffgjhmpgdfpaa

/- A range over a function whose iterator keeps cells of its own: the law for the caller. -/
namespace Go.Proofs.Ytcffgjhmpgdfpaa
open Go Go.RowKit Go.Shelf

/-- J stands new blocks, and stores into block bd -/
def Stands {β : Type} (bd : Nat) (J : β → World → Prop) : Prop :=
  (∀ s A o, J s A → J s (A.alloc o)) ∧ ∀ s A i u, J s A → J s (A.setCell ⟨bd, i, none⟩ u)

/-- THE ITERATOR's CONTRACT: it yields xs in order; its own cells lie from the heap's size on, of which the block next to the first is written between rounds; a round that goes on keeps Kp. -/
def IterOK {α : Type} (F : Fence) (n : Nat) (P : Program) (gf : Nat) (lb : Array Value) (encs : α → Array Value) (Kp : World → World → Prop) (xs : List α) (W : World) : Prop :=
  ∀ (l : Nat) (J Jx : List α → World → Prop), Stands (W.heap.size + 1) J →
    (∀ pre x A, J pre A → pre ++ [x] <+: xs → YieldAt F (n - 1) P l (encs x) A fun e A' =>
      (e = .returned (.bool true) ∧ J (pre ++ [x]) A' ∧ Kp A A') ∨ (e = .returned (.bool false) ∧ Jx (pre ++ [x]) A')) →
    (∀ A, Later W A → W.heap.size + 3 ≤ A.heap.size → J [] A) →
    CallsIn F n P gf (#[.func (.yield l) #[] #[]] ++ lb) W fun e W' => (∃ v, e = .returned v) ∧ (J xs W' ∨ ∃ pre, pre <+: xs ∧ Jx pre W')

/-- how a round's body may be left -/
def iterPost {α : Type} (Kp : World → World → Prop) (I : List α → World → Prop) (Ix : Code → List α → World → Prop) (xs : List α) (W : World) : Exit → Act → World → Prop
  | .normal, _, W' => KeepsOthers W W' ∧ Kp W W' ∧ I xs W'
  | .ret, _, W' => KeepsOthers W W' ∧ Ix .ret xs W'
  | .exit id, _, W' => KeepsOthers W W' ∧ Ix (.exit id) xs W'
  | .goto t, _, W' => KeepsOthers W W' ∧ Ix (.goto t) xs W'
  | .panic _, _, _ => False
  | .outgrown, _, _ => False

variable {F : Fence} {n : Nat} {P : Program}
theorem wpIn_iter {α : Type} {g : Operand} {ps : Array Tmp} {assign body : Code} {Q : Exit → Act → World → Prop} {a : Act} {w : World}
    (hro : F.round = none) (h1 : 1 ≤ n) {gf : Nat} {lb : Array Value} (hg : a.eval g = .func (.func gf) #[] lb) (hFg : F.fn gf) (eg : ∀ args w, (callFunc gf args).run P w = .ok (.enter gf args) w)
    {encs : α → Array Value} {Kp : World → World → Prop} {xs : List α}
    (hseq : ∀ W, Later w W → W.heap.size = w.heap.size + 2 → IterOK F (n - 1) P gf lb encs Kp xs W)
    (hKt : ∀ {A B C : World}, Kp A B → Kp B C → Kp A C) (hKb : ∀ (W : World) (o : Obj), Kp W (W.putObj (w.heap.size + 1) o)) (hps : ∀ x, (encs x).size = ps.size)
    (I : List α → World → Prop) (Ix : Code → List α → World → Prop)
    (hIs : Stands (w.heap.size + 3) I) (hIp : ∀ s A o, I s A → w.heap.size + 1 < A.heap.size → I s (A.putObj (w.heap.size + 1) o)) (hIxp : ∀ c s A o, Ix c s A → w.heap.size + 1 < A.heap.size → Ix c s (A.putObj (w.heap.size + 1) o))
    (h0 : ∀ A, Later w A → w.heap.size + 5 ≤ A.heap.size → I [] A) (I2 : List α → α → Act → World → Prop)
    (hassign : ∀ (l : Nat) (pre : List α) (x : α) (W : World) (K : Act → World → Prop), I pre W → pre ++ [x] <+: xs → (∀ a' W', KeepsOthers W W' → Kp W W' → I2 pre x a' W' → K a' W') →
      assign.wpIn (F.inRound l) (n - 1 - 1) P (Exit.then K (fun _ _ _ => False)) { tmps := (ps.zip (encs x)).foldl (fun t (p, v) => t.setIfInBounds p v) a.tmps, defers := [] } W)
    (hI2p : ∀ pre x a' A o, I2 pre x a' A → w.heap.size + 1 < A.heap.size → I2 pre x a' (A.putObj (w.heap.size + 1) o))
    (hbody : ∀ (l : Nat) (pre : List α) (x : α) (a' : Act) (W : World), I2 pre x a' W → pre ++ [x] <+: xs → w.heap.size + 1 < W.heap.size → body.wpIn (F.inRound l) (n - 1 - 1) P (iterPost Kp I Ix (pre ++ [x]) W) a' W)
    (hdone : ∀ (W : World), I xs W → W.heap[w.heap.size]? = some (.deferred (some [])) → Q .normal { a with defers := { target := .collected w.heap.size, args := #[] } :: a.defers } W)
    (hstop : ∀ (c : Code) (pre : List α) (W : World), pre <+: xs → Ix c pre W → W.heap[w.heap.size]? = some (.deferred (some [])) → c.wpIn F n P Q { a with defers := { target := .collected w.heap.size, args := #[] } :: a.defers } W) :
    (Code.rangeFunc g ps assign body).wpIn F n P Q a w := by
  refine wpIn_rangeFunc ?_
  intro fn hfn
  rw [hro]
  obtain ⟨rec, hrec⟩ : ∃ rec : LoopState → Option Code → Loop, rec = fun st pe => { state := st, pending := pe, fn, tmps := a.tmps, params := ps, assign, body, defers := w.heap.size } := ⟨_, rfl⟩
  obtain ⟨W1, hW1⟩ : ∃ W1, (w.alloc (.deferred (some []))).alloc (.loop (rec .ready none)) = W1 := ⟨_, rfl⟩
  have hs1 : W1.heap.size = w.heap.size + 2 := by rw [← hW1]; simp
  have hL1 : W1.heap[w.heap.size + 1]? = some (.loop (rec .ready none)) := by
    rw [← hW1]; have := World.alloc_heap_new (w.alloc (.deferred (some []))) (.loop (rec .ready none)); rwa [World.size_alloc] at this
  have hK1 : W1.heap[w.heap.size]? = some (.deferred (some [])) := by
    rw [← hW1]; exact (Below.heap_alloc _ _ _ (by simp)).trans (World.alloc_heap_new w _)
  have hb1 : Later w W1 := by rw [← hW1]; simp
  refine ⟨w.heap.size + 1, [{ target := .collected w.heap.size, args := #[] }], W1, { target := .fn (.func gf) lb, args := #[.func (.yield (w.heap.size + 1)) #[] #[]] }, W1, gf,
    #[.func (.yield (w.heap.size + 1)) #[] #[]] ++ lb, W1, ?_, ?_, ?_, ?_, fun _ => h1, ?_⟩
  · rw [← hW1, hrec]; exact run_enterLoop_outer _ _ _ _ _
  · simp only [resolve, hg]
    simp [go_sem]
  · intro f' hf'; simp [Target.leads] at hf'; subst hf'; exact hFg
  · simp [invoke, go_sem, eg]
  · refine (hseq W1 hb1 hs1 (w.heap.size + 1)
      (fun pre W => I pre W ∧ W.heap[w.heap.size + 1]? = some (.loop (rec .ready none)) ∧ W.heap[w.heap.size]? = some (.deferred (some [])))
      (fun pre W => ∃ c, Ix c pre W ∧ W.heap[w.heap.size + 1]? = some (.loop (rec .done (some c))) ∧ W.heap[w.heap.size]? = some (.deferred (some [])))
      ⟨fun s A o hs => ⟨hIs.1 _ _ _ hs.1, (Below.heap_alloc A o _ (Array.getElem?_eq_some_iff.1 hs.2.1).1).trans hs.2.1, (Below.heap_alloc A o _ (Array.getElem?_eq_some_iff.1 hs.2.2).1).trans hs.2.2⟩,
       fun s A i u hs => by
        rw [hs1]
        exact ⟨hIs.2 _ _ _ _ hs.1, (Below.heap_setCell A _ u _ (by show w.heap.size + 1 ≠ w.heap.size + 2 + 1; omega)).trans hs.2.1, (Below.heap_setCell A _ u _ (by show w.heap.size ≠ w.heap.size + 2 + 1; omega)).trans hs.2.2⟩⟩
      ?_ (fun A hA hsz => ⟨h0 A (Later.trans hb1 hA) (by omega), (hA.block _ (by omega)).trans hL1, (hA.block _ (by omega)).trans hK1⟩)).mono ?_
    · rintro pre x W0 ⟨hi0, hl0, hk0⟩ hpx
      have hlt0 : w.heap.size + 1 < W0.heap.size := (Array.getElem?_eq_some_iff.1 hl0).1
      have hy := run_yield (P := P) (args := encs x) hl0 (by rw [hrec]; exact hps x)
      rw [hrec] at hy
      refine ⟨fn, _, assign, body, hy, roundIn_of_wpIn hfn (hassign _ pre x W0 _ hi0 hpx fun a' W hko hkp hi => ?_)⟩
      have hl := hko.same _ _ hl0 rfl
      have hk := hko.same _ _ hk0 rfl
      have hlt : w.heap.size + 1 < W.heap.size := (Array.getElem?_eq_some_iff.1 hl).1
      refine ⟨_, run_beginRound hl (by rw [hrec]), ?_⟩
      have hl2 : (W.putObj (w.heap.size + 1) (.loop { rec .ready none with state := .busy })).heap[w.heap.size + 1]? = some (.loop { rec .ready none with state := .busy }) := World.putObj_heap_same hlt
      have hk2 : (W.putObj (w.heap.size + 1) (.loop { rec .ready none with state := .busy })).heap[w.heap.size]? = some (.deferred (some [])) := (World.putObj_heap_other (by omega)).trans hk
      have hw2 : Kp W0 (W.putObj (w.heap.size + 1) (.loop { rec .ready none with state := .busy })) := hKt hkp (hKb _ _)
      refine wpIn_mono (hbody _ pre x a' _ (hI2p _ _ _ _ _ hi hlt) hpx (by simpa using hlt)) ?_
      have fin : ∀ (jump : Option Code) (W3 : World), KeepsOthers (W.putObj (w.heap.size + 1) (.loop { rec .ready none with state := .busy })) W3 →
          (Instr.endRound (w.heap.size + 1) jump).run P W3 = .ok (.bool jump.isNone) (W3.putObj (w.heap.size + 1) (.loop (rec (if jump.isNone then .ready else .done) jump))) ∧
          w.heap.size + 1 < W3.heap.size ∧
          (W3.putObj (w.heap.size + 1) (.loop (rec (if jump.isNone then .ready else .done) jump))).heap[w.heap.size + 1]? = some (.loop (rec (if jump.isNone then .ready else .done) jump)) ∧
          (W3.putObj (w.heap.size + 1) (.loop (rec (if jump.isNone then .ready else .done) jump))).heap[w.heap.size]? = some (.deferred (some [])) := fun jump W3 hk3 => by
        have hl3 := hk3.same _ _ hl2 rfl
        have := run_endRound (P := P) jump hl3
        rw [hrec] at this ⊢
        exact ⟨this, (Array.getElem?_eq_some_iff.1 hl3).1, World.putObj_heap_same (Array.getElem?_eq_some_iff.1 hl3).1, (World.putObj_heap_other (by omega)).trans (hk3.same _ _ hk2 rfl)⟩
      rintro e a3 W3 hp
      cases e with
      | normal =>
        obtain ⟨hk3, hkp3, hi3⟩ := hp
        obtain ⟨hr, hl3, hl4, hk4⟩ := fin none W3 hk3
        exact ⟨_, _, hr, .inl ⟨rfl, ⟨hIp _ _ _ hi3 hl3, hl4, hk4⟩, hKt (hKt hw2 hkp3) (hKb _ _)⟩⟩
      | ret =>
        obtain ⟨hk3, hi3⟩ := hp
        obtain ⟨hr, hl3, hl4, hk4⟩ := fin (some .ret) W3 hk3
        exact ⟨_, _, hr, .inr ⟨rfl, .ret, hIxp _ _ _ _ hi3 hl3, hl4, hk4⟩⟩
      | exit id =>
        obtain ⟨hk3, hi3⟩ := hp
        obtain ⟨hr, hl3, hl4, hk4⟩ := fin (some (.exit id)) W3 hk3
        exact ⟨_, _, hr, .inr ⟨rfl, .exit id, hIxp _ _ _ _ hi3 hl3, hl4, hk4⟩⟩
      | goto t =>
        obtain ⟨hk3, hi3⟩ := hp
        obtain ⟨hr, hl3, hl4, hk4⟩ := fin (some (.goto t)) W3 hk3
        exact ⟨_, _, hr, .inr ⟨rfl, .goto t, hIxp _ _ _ _ hi3 hl3, hl4, hk4⟩⟩
      | panic ch => exact hp.elim
      | outgrown => exact hp.elim
    · rintro e W2 ⟨⟨v, rfl⟩, (⟨hi, hl, hk⟩ | ⟨pre, hSp, c, hi, hl, hk⟩)⟩
      · exact ⟨none, _, by have := run_endLoop (P := P) hl (by rw [hrec]; simp); rw [hrec] at this; exact this, hdone _ (hIp _ _ _ hi (Array.getElem?_eq_some_iff.1 hl).1) ((World.putObj_heap_other (by omega)).trans hk)⟩
      · exact ⟨some c, _, by have := run_endLoop (P := P) hl (by rw [hrec]; simp); rw [hrec] at this; exact this, hstop c pre _ hSp (hIxp _ _ _ _ hi (Array.getElem?_eq_some_iff.1 hl).1) ((World.putObj_heap_other (by omega)).trans hk)⟩

/-- what the body of a range keeps: the blocks of S -/
def KeepS (S : Nat → Prop) (A B : World) : Prop := ∀ b, S b → B.heap[b]? = A.heap[b]?
theorem KeepS.refl {S : Nat → Prop} (A : World) : KeepS S A A := fun _ _ => rfl
theorem KeepS.trans {S : Nat → Prop} {A B C : World} (h : KeepS S A B) (k : KeepS S B C) : KeepS S A C := fun b hb => (k b hb).trans (h b hb)
theorem KeepS.alloc {S : Nat → Prop} {A B : World} (h : KeepS S A B) (o : Obj) (hs : ∀ b, S b → b < B.heap.size) : KeepS S A (B.alloc o) := fun b hb => (Below.heap_alloc B o b (hs b hb)).trans (h b hb)
theorem KeepS.set_ {S : Nat → Prop} {A B : World} (h : KeepS S A B) (p : Addr) (hp : ¬ S p.block) (u : Value) : KeepS S A (B.setCell p u) := fun b hb => (Below.heap_setCell B p u b (fun e => hp (e ▸ hb))).trans (h b hb)
theorem KeepS.later {S : Nat → Prop} {A B C : World} (h : KeepS S A B) (k : Later B C) (hs : ∀ b, S b → b < B.heap.size) : KeepS S A C := fun b hb => (k.block b (hs b hb)).trans (h b hb)
theorem KeepS.cell {S : Nat → Prop} {A B : World} (h : KeepS S A B) {b : Nat} (hb : S b) (i : Nat) : B.cell? ⟨b, i, none⟩ = A.cell? ⟨b, i, none⟩ := World.cell?_of_block (h b hb)

theorem roundIn_wide {n m : Nat} {P : Program} {l : Nat} {f : FuncId} {tmps : Array Value} {assign body : Code} {w : World} {R : Ending → World → Prop}
    (h : RoundIn Fence.wide n P l f tmps assign body w R) : RoundIn Fence.wide m P l f tmps assign body w R := ⟨h.1, fun c cs _ => h.2 c cs (room_wide _)⟩
theorem yieldAt_wide {n m : Nat} {P : Program} {l : Nat} {args : Array Value} {w : World} {R : Ending → World → Prop} (h : YieldAt Fence.wide n P l args w R) : YieldAt Fence.wide m P l args w R := by
  obtain ⟨fn, tmps, assign, body, hy, hR⟩ := h
  exact ⟨fn, tmps, assign, body, hy, roundIn_wide hR⟩
end Go.Proofs.Ytcffgjhmpgdfpaa

/- The program's truths: choose (a closure that calls itself), and the iterator. -/
namespace Go.Proofs.Ytcffgjhmpgdfpaa
open Go Go.RowKit Go.Shelf
attribute [local go_sem] Oper.semAt_some

theorem ints_set (D : List Int) (k : Nat) (x : Int) : (ints D).toArray.setIfInBounds k (.int .i64 x) = (ints (D.set k x)).toArray := by
  simp [ints, List.map_set]

/-- the array of four numbers that is yielded -/
def pad (x : List Int) : List Int := x ++ List.replicate (4 - x.length) 0
def encD (x : List Int) : Array Value := #[.agg (ints (pad x)).toArray]

/-- what dry holds when a beginning of it is chosen -/
structure ErrAt (D pfx : List Int) (len : Nat) : Prop where
  size : D.length = 4
  pre : D.take pfx.length = pfx
  rest : D.drop len = List.replicate (4 - len) 0
theorem ErrAt.set_ {D pfx : List Int} {len : Nat} (h : ErrAt D pfx len) (x : Int) (hp : pfx.length < len) (hl : len ≤ 4) : ErrAt (D.set pfx.length x) (pfx ++ [x]) len := by
  refine ⟨by simp [h.size], ?_, ?_⟩
  · have hlt : pfx.length < D.length := by rw [h.size]; omega
    rw [List.length_append, List.length_singleton, List.take_add_one, List.getElem?_set_self hlt, List.take_set, h.pre]
    simp [List.set_eq_of_length_le]
  · rw [List.drop_set, if_pos (by omega), h.rest]
theorem ErrAt.keep {D pfx : List Int} {x : Int} {len : Nat} (h : ErrAt D (pfx ++ [x]) len) : ErrAt D pfx len := by
  refine ⟨h.size, ?_, h.rest⟩
  have := congrArg (List.take pfx.length) h.pre
  rw [List.take_take] at this
  simpa using this
theorem ErrAt.all {D pfx : List Int} (h : ErrAt D pfx pfx.length) : D = pad pfx := by
  have := List.take_append_drop pfx.length D
  rw [h.pre, h.rest] at this
  exact this.symm

theorem size_exact {h : Int × Int} (w : World) (b1 : -1000000 ≤ h.1 ∧ h.1 ≤ 1000000) (b2 : -1000000 ≤ h.2 ∧ h.2 ≤ 1000000) :
    Calls Try.prog 68 #[.agg #[.int .i64 h.1, .int .i64 h.2]] w fun e w' => e = .returned (.int .i64 (sizeR h)) ∧ w' = w.alloc (.cells #[.int .i64 h.1, .int .i64 h.2] 65) := by
  go_enter Try.func68, Try.ntmps68
  go_wp2_with fail
  go_ret
  exact ⟨rfl, rfl⟩
section
variable {c : Hou} {A1 A2 A3 : Option Addr} {n1 k1 n2 k2 n3 k3 : Nat} {bc by_ bd bf l : Nat} {S : Nat → Prop} {A0 : World} {J Jx : List (List Int) → World → Prop}

/-- what choose finds in memory, whatever the rounds have done -/
structure ChFacts (c : Hou) (A1 A2 A3 : Option Addr) (n1 k1 n2 k2 n3 k3 bc by_ bd bf l : Nat) (A : World) : Prop where
  box : ∀ i, A.cell? ⟨bc, i, none⟩ = #[.int .i64 c.hour, .int .i64 c.grace, .slice A1 n1 k1, .slice A2 n2 k2, .slice A3 n3 k3][i]?
  ck : RP A A1 n1 c.clocks
  yl : A.cell? ⟨by_, 0, none⟩ = some (.func (.yield l) #[] #[])
  ch : A.cell? ⟨bf, 0, none⟩ = some (.func (.func 70) #[] #[.pointer (some ⟨bc, 0, none⟩), .pointer (some ⟨by_, 0, none⟩), .pointer (some ⟨bd, 0, none⟩), .pointer (some ⟨bf, 0, none⟩)])

theorem choose_in (ok : OkH c) (hn1 : n1 = c.clocks.length) (xs : List (List Int)) (Inv : World → Prop)
    (hI : ∀ A, Inv A → ChFacts c A1 A2 A3 n1 k1 n2 k2 n3 k3 bc by_ bd bf l A)
    (hIa : ∀ A o, Inv A → Inv (A.alloc o)) (hJa : ∀ s A o, J s A → J s (A.alloc o))
    (hIs : ∀ A i u, Inv A → Inv (A.setCell ⟨bd, i, none⟩ u)) (hIk : ∀ A B, Inv A → KeepS S A B → Inv B) (hSd : S bd)
    (hJs : ∀ s A i u, J s A → J s (A.setCell ⟨bd, i, none⟩ u))
    (hY : ∀ pre x A, J pre A → pre ++ [x] <+: xs → YieldAt Fence.wide 4 Try.prog l (encD x) A fun e A' =>
      (e = .returned (.bool true) ∧ J (pre ++ [x]) A' ∧ KeepS S A A') ∨ (e = .returned (.bool false) ∧ Jx (pre ++ [x]) A')) :
    ∀ (m : Nat) (hs : List (Int × Int)) (pfx : List Int) (pre : List (List Int)) (D : List Int) (A : World), hs.length = m → c.clocks.drop pfx.length = hs → pfx.length + m = c.clocks.length →
      J pre A → pre ++ ext hs pfx <+: xs → Blk A bd 103 (ints D).toArray → ErrAt D pfx c.clocks.length → Inv A →
      CallsIn Fence.wide 5 Try.prog 70 #[.int .i64 pfx.length, .pointer (some ⟨bc, 0, none⟩), .pointer (some ⟨by_, 0, none⟩), .pointer (some ⟨bd, 0, none⟩), .pointer (some ⟨bf, 0, none⟩)] A fun e A' =>
        (e = .returned (.bool true) ∧ J (pre ++ ext hs pfx) A' ∧ Inv A' ∧ ∃ D', Blk A' bd 103 (ints D').toArray ∧ ErrAt D' pfx c.clocks.length) ∨
        (e = .returned (.bool false) ∧ ∃ q, q <+: xs ∧ Jx q A') := by
  intro m
  induction m with
  | zero =>
    intro hs pfx pre D A hm hdrop hlen hJ hpre hB hD hInv
    have hnil : hs = [] := List.eq_nil_of_length_eq_zero hm
    subst hnil
    have hl4 := ok.n1
    rw [ext_nil] at hpre ⊢
    have hD2 : D = pad pfx := by
      have : c.clocks.length = pfx.length := by omega
      rw [this] at hD; exact hD.all
    obtain ⟨d0, d1, d2, d3, hDl⟩ : ∃ d0 d1 d2 d3, D = [d0, d1, d2, d3] := by
      have := hD.size
      match D, this with
      | [a, b, c, d], _ => exact ⟨a, b, c, d, rfl⟩
    have F := hI A hInv
    have f1 := F.box 2
    have f2 := F.yl
    have henc : encD pfx = #[.agg #[.int .i64 d0, .int .i64 d1, .int .i64 d2, .int .i64 d3]] := by
      unfold encD; rw [← hD2, hDl]; rfl
    obtain ⟨fn, tmps, assign, body, hy, hR⟩ := hY pre pfx A hJ hpre
    rw [henc] at hy
    rw [hDl] at hB
    have c0 := hB.cell 0
    have c1 := hB.cell 1
    have c2 := hB.cell 2
    have c3 := hB.cell 3
    simp only [ints, List.map_cons, List.map_nil, List.getElem?_toArray, List.getElem?_cons_zero, List.getElem?_cons_succ] at f1 c0 c1 c2 c3
    have heq : ((pfx.length : Int) == (n1 : Int)) = true := by simp; omega
    have Hn := hide hn1
    have Hlen := hide hlen
    have Hdl := hide hDl
    have HB := hide hB
    have HD := hide hD
    clear hn1 hdrop hlen hm hDl hD2 henc hB hD
    refine callsIn_of_wp Try.func70 rfl trivial ?_ rfl
    simp only [Try.ntmps70, List.size_toArray, List.length_cons, List.length_nil, Nat.reduceAdd, Nat.reduceSub, Array.replicate_succ, Array.replicate_zero, List.push_toArray, List.append_toArray, List.nil_append, List.cons_append]
    gi_wp2_with fail
    refine hR.mono ?_
    rintro e A' (⟨rfl, hJ', hk⟩ | ⟨rfl, hJx⟩)
    · gi_wp2_with fail
      go_ret
      exact .inl ⟨rfl, hJ', hIk _ _ hInv hk, D, (by have hB := HB.out; rw [Hdl.out]; exact (hk bd hSd).trans hB), HD.out⟩
    · gi_wp2_with fail
      go_ret
      exact .inr ⟨rfl, _, hpre, hJx⟩
  | succ m ih =>
    intro hs pfx pre D A hm hdrop hlen hJ hpre hB hD hInv
    cases hs with
    | nil => simp at hm
    | cons h hs =>
    have hl4 := ok.n1
    have hlt : pfx.length < n1 := by omega
    have F := hI A hInv
    obtain ⟨b, o, x, rfl, _, hx, hx0, hx1⟩ := F.ck.get hlt
    have hxh : x = h := by
      have h1 : (c.clocks.drop pfx.length)[0]? = some h := by rw [hdrop]; rfl
      rw [List.getElem?_drop, Nat.add_zero, hx] at h1
      exact Option.some.inj h1
    subst hxh
    have okx := ok.clock x (List.mem_of_getElem? hx)
    have hdrop2 : c.clocks.drop (pfx.length + 1) = hs := by
      rw [← List.tail_drop, hdrop]; rfl
    have f1 := F.box 2
    have g0 := hx0 A (later_refl _)
    have g0b := hx1 A (later_refl _)
    simp only [List.getElem?_toArray, List.getElem?_cons_zero, List.getElem?_cons_succ] at f1
    have heq : ((pfx.length : Int) == (n1 : Int)) = false := by simp; omega
    have hi1 : (pfx.length : Int) < n1 := by omega
    have Hn := hide hn1
    have Hm := hide hm
    have Hlen := hide hlen
    have Hdrop := hide hdrop2
    have Hx := hide hx
    have Hext := hide (ext_cons x hs pfx)
    have HB := hide hB
    have HD := hide hD
    clear hn1 hdrop hlen hm hB hD hx hdrop2 hx0 hx1
    refine callsIn_of_wp Try.func70 rfl trivial ?_ rfl
    simp only [Try.ntmps70, List.size_toArray, List.length_cons, List.length_nil, Nat.reduceAdd, Nat.reduceSub, Array.replicate_succ, Array.replicate_zero, List.push_toArray, List.append_toArray, List.nil_append, List.cons_append]
    gi_wp2_with fail
    refine ⟨trivial, (callsIn_wide.2 (size_exact (h := x) _ (by omega) (by omega))).mono ?_⟩
    rintro e w5 ⟨rfl, rfl⟩
    have hJ5 := hJa _ _ (.cells #[.int .i64 x.1, .int .i64 x.2] 65) hJ
    have hInv5 := hIa _ (.cells #[.int .i64 x.1, .int .i64 x.2] 65) hInv
    have hB5 := HB.out.alloc (.cells #[.int .i64 x.1, .int .i64 x.2] 65)
    have hszr : sizeR x = x.2 - x.1 + 1 := rfl
    have hsz0 : 0 ≤ sizeR x := by omega
    have Hszr := hide hszr
    clear hszr
    gi_wp2_with fail
    gi_loopw [7, 22] (fun _ v wr => ∃ (k : Nat) (D : List Int), k ≤ (x.2 - x.1 + 1).toNat ∧ v = .int .i64 (k : Int) ∧ J (pre ++ extTo x hs pfx k) wr ∧ Inv wr ∧ Blk wr bd 103 (ints D).toArray ∧ ErrAt D pfx c.clocks.length) (fun _ v _ => (sizeR x - intOf v).toNat)
    case atStart => exact ⟨0, D, by omega, rfl, by simpa [extTo] using hJ5, hInv5, hB5, HD.out⟩
    case round =>
      obtain ⟨k, D1, hk, rfl, hJ1, hInv1, hB1, hD1⟩ := hrel
      have F1 := hI wr hInv1
      have f1 := F1.box 2
      have f3 := F1.ch
      obtain ⟨y, hy, hy0, hy1⟩ := F1.ck.at_ hlt
      have g1 := hy0 wr (later_refl _)
      have hyx : y = x := by
        have h2 := Hx.out
        rw [hy] at h2
        exact Option.some.inj h2
      subst hyx
      have hwy : IntKind.i64.wrap (y.1 + (k : Int)) = y.1 + (k : Int) := IntWalk.i64_in _ (by omega)
      have hszk : (k : Int) ≤ sizeR y := by have := Hszr.out; omega
      simp only [List.getElem?_toArray, List.getElem?_cons_zero, List.getElem?_cons_succ] at f1
      have hsz : D1.length = 4 := hD1.size
      have hpl : pfx.length < c.clocks.length := by have := Hn.out; omega
      have hex : ∃ v0, wr.cell? ⟨bd, pfx.length, none⟩ = some v0 := ⟨_, by rw [hB1.cell]; simp only [ints, List.getElem?_toArray, List.getElem?_map]; rw [List.getElem?_eq_getElem (by omega)]; rfl⟩
      obtain ⟨v0, hv0⟩ := hex
      have hf0 := hB1.frozen pfx.length
      have hB2 := hB1.set_ pfx.length (.int .i64 (y.1 + k))
      rw [ints_set] at hB2
      have hInv2 := hIs wr pfx.length (.int .i64 (y.1 + k)) hInv1
      have hJ2 := hJs _ wr pfx.length (.int .i64 (y.1 + k)) hJ1
      have f4 := (hI _ hInv2).ch
      have hD2 := hD1.set_ (y.1 + k) hpl hl4
      have hp4 : (pfx.length : Int) < 4 := by omega
      by_cases hle : (k : Int) < sizeR y
      · have hszr := Hszr.out
        have hstep := extTo_succ y hs pfx k
        have hle2 : k + 1 ≤ (y.2 - y.1 + 1).toNat := by omega
        clear hszr
        have hpf := extTo_prefix y hs pfx hle2
        have hpre2 : (pre ++ extTo y hs pfx k) ++ ext hs (pfx ++ [y.1 + k]) <+: xs := by
          rw [List.append_assoc, ← hstep]
          rw [Hext.out] at hpre
          exact ((List.prefix_append_right_inj pre).2 hpf).trans hpre
        have hcall := ih hs (pfx ++ [y.1 + k]) (pre ++ extTo y hs pfx k) (D1.set pfx.length (y.1 + k)) _ (by have := Hm.out; simpa using this) (by rw [List.length_append, List.length_singleton]; exact Hdrop.out) (by have := Hlen.out; rw [List.length_append, List.length_singleton]; omega) hJ2 hpre2 hB2 hD2 hInv2
        rw [List.append_assoc, ← hstep] at hcall
        have Hcall := hide (callsIn_wide.1 hcall)
        have e1 : ((pfx ++ [y.1 + k]).length : Int) = (pfx.length : Int) + 1 := by simp
        rw [e1] at Hcall
        clear hcall hstep hpre2 e1 hB2 hD2 hInv2 hJ2 hJ1 hB1 hD1
        gi_wp2_with fail
        refine ⟨trivial, (callsIn_wide.2 Hcall.out).mono ?_⟩
        rintro e A' (⟨rfl, hJ3, hInv3, D3, hB3, hD3⟩ | ⟨rfl, q, hq, hJx⟩)
        · gi_wp2_with fail
          go_roundw
          case rel => exact ⟨k + 1, D3, hle2, by go_num, hJ3, hInv3, hB3, hD3.keep⟩
          case measure => simp [intOf]; omega
        · gi_wp2_with fail
          go_ret
          exact .inr ⟨rfl, q, hq, hJx⟩
      · have hk2 : k = (y.2 - y.1 + 1).toNat := by have := Hszr.out; omega
        rw [hk2, ← Hext.out] at hJ1
        clear f4 hB2 hD2 hInv2 hJ2 hk2
        gi_wp2_with fail
        go_ret
        exact .inl ⟨rfl, hJ1, hInv1, D1, hB1, hD1⟩
end

theorem RP.kept {W A : World} {A1 : Option Addr} {n : Nat} {l : List (Int × Int)} (h : RP W A1 n l) (hk : 0 < n → ∀ b o, A1 = some ⟨b, o, none⟩ → A.heap[b]? = W.heap[b]?) : RP A A1 n l := by
  refine ⟨h.1, fun hn => ?_⟩
  obtain ⟨b, o, rfl, hb, hc⟩ := Reads.lit h (by omega) hn
  have e := hk hn b o rfl
  have hlt : b < A.heap.size := by
    rw [Array.getElem?_eq_getElem hb] at e
    exact (Array.getElem?_eq_some_iff.1 e).1
  refine ⟨_, rfl, hlt, fun j u hu => ?_⟩
  rw [add_lit]
  exact (World.cell?_of_block (a := ⟨b, o + j, none⟩) e).trans (hc j u hu)

theorem ext_errAll (hs : List (Int × Int)) : ext hs [] = errAll hs := by simp [ext]

set_option maxRecDepth 100000 in
/-- THE ITERATOR c.truths(): all dry numbers, in order. -/
theorem lists_iter {c : Hou} {A1 A2 A3 : Option Addr} {n1 k1 n2 k2 n3 k3 bc : Nat} {S : Nat → Prop} {W : World} (ok : OkH c) (hc : RP W A1 n1 c.clocks)
    (hbox : Blk W bc 46 #[.int .i64 c.hour, .int .i64 c.grace, .slice A1 n1 k1, .slice A2 n2 k2, .slice A3 n3 k3])
    (hSl : ∀ b, S b → b < W.heap.size + 3) (hSb : S bc) (hSh : 0 < n1 → ∀ b o, A1 = some ⟨b, o, none⟩ → S b) (hS0 : S W.heap.size) (hS1 : S (W.heap.size + 1)) (hS2 : S (W.heap.size + 2)) :
    IterOK Fence.wide 5 Try.prog 69 #[.pointer (some ⟨bc, 0, none⟩)] encD (KeepS S) (errAll c.clocks) W := by
  intro l J Jx hSt hY h0
  have hl4 := ok.n1
  have hn1 := RP.len hc
  obtain ⟨W3, hW3⟩ : ∃ X, X = ((W.alloc (.cells #[.func (.yield l) #[] #[]] 105)).alloc (.cells #[.int .i64 0, .int .i64 0, .int .i64 0, .int .i64 0] 103)).alloc
      (.cells #[.func (.func 70) #[] #[.pointer (some ⟨bc, 0, none⟩), .pointer (some ⟨W.heap.size, 0, none⟩), .pointer (some ⟨W.heap.size + 1, 0, none⟩), .pointer (some ⟨W.heap.size + 1 + 1, 0, none⟩)]] 100) := ⟨_, rfl⟩
  have hL3 : Later W W3 := by rw [hW3]; exact later_alloc (later_alloc (later_alloc (later_refl _) _) _) _
  have b0 : Blk W3 W.heap.size 105 #[.func (.yield l) #[] #[]] := by rw [hW3]; exact ((Blk.new _ _ _).alloc _).alloc _
  have b1 : Blk W3 (W.heap.size + 1) 103 (ints [0, 0, 0, 0]).toArray := by
    rw [hW3]
    have := Blk.new (W.alloc (.cells #[.func (.yield l) #[] #[]] 105)) 103 #[.int .i64 0, .int .i64 0, .int .i64 0, .int .i64 0]
    rw [World.size_alloc] at this
    exact this.alloc _
  have b2 : Blk W3 (W.heap.size + 1 + 1) 100 #[.func (.func 70) #[] #[.pointer (some ⟨bc, 0, none⟩), .pointer (some ⟨W.heap.size, 0, none⟩), .pointer (some ⟨W.heap.size + 1, 0, none⟩), .pointer (some ⟨W.heap.size + 1 + 1, 0, none⟩)]] := by
    rw [hW3]
    have := Blk.new ((W.alloc (.cells #[.func (.yield l) #[] #[]] 105)).alloc (.cells #[.int .i64 0, .int .i64 0, .int .i64 0, .int .i64 0] 103)) 100 #[.func (.func 70) #[] #[.pointer (some ⟨bc, 0, none⟩), .pointer (some ⟨W.heap.size, 0, none⟩), .pointer (some ⟨W.heap.size + 1, 0, none⟩), .pointer (some ⟨W.heap.size + 1 + 1, 0, none⟩)]]
    rw [World.size_alloc, World.size_alloc] at this
    exact this
  have hc3 := hc.later hL3
  have hbox3 := hbox.later hL3
  have hJ3 : J [] W3 := h0 W3 hL3 (by rw [hW3]; simp)
  have hlt := hbox.lt
  have hcall := choose_in (A1 := A1) (A2 := A2) (A3 := A3) (k1 := k1) (n2 := n2) (k2 := k2) (n3 := n3) (k3 := k3) (bc := bc) (by_ := W.heap.size) (bd := W.heap.size + 1) (bf := W.heap.size + 1 + 1) (l := l) (S := S) (J := J) (Jx := Jx) ok hn1 (errAll c.clocks)
    (fun A => ∀ b, S b → b ≠ W.heap.size + 1 → A.heap[b]? = W3.heap[b]?)
    (fun A hA => ⟨fun i => (World.cell?_of_block (a := ⟨bc, i, none⟩) (hA bc hSb (by omega))).trans (hbox3.cell i),
      hc3.kept fun hn b o e => hA b (hSh hn b o e) (by
        intro e2
        obtain ⟨b', o', e3, hb', _⟩ := Reads.lit hc (by omega) hn
        rw [e] at e3; obtain ⟨rfl, _⟩ := some_lit e3; omega),
      (World.cell?_of_block (a := ⟨W.heap.size, 0, none⟩) (hA W.heap.size hS0 (by omega))).trans (b0.cell 0),
      (World.cell?_of_block (a := ⟨W.heap.size + 1 + 1, 0, none⟩) (hA (W.heap.size + 1 + 1) hS2 (by omega))).trans (b2.cell 0)⟩)
    (fun A o hA b hb hne => (Below.heap_alloc A o b (by
      have h1 : b < W3.heap.size := by have := hSl b hb; have h3 : W3.heap.size = W.heap.size + 3 := (by rw [hW3]; simp); omega
      have h2 := hA b hb hne
      rw [Array.getElem?_eq_getElem h1] at h2
      exact (Array.getElem?_eq_some_iff.1 h2).1)).trans (hA b hb hne)) (fun s A o h => hSt.1 s A o h)
    (fun A i u hA b hb hne => (Below.heap_setCell A _ u b hne).trans (hA b hb hne))
    (fun A B hA hk b hb hne => (hk b hb).trans (hA b hb hne)) hS1 hSt.2 hY
    c.clocks.length c.clocks [] [] [0, 0, 0, 0] W3 rfl rfl (by simp) hJ3 (by rw [ext_errAll]; exact List.prefix_refl _) b1
    ⟨rfl, rfl, by
      have : c.clocks.length = 0 ∨ c.clocks.length = 1 ∨ c.clocks.length = 2 ∨ c.clocks.length = 3 ∨ c.clocks.length = 4 := by omega
      rcases this with h | h | h | h | h <;> rw [h] <;> rfl⟩ (fun _ _ _ => rfl)
  rw [ext_errAll] at hcall
  have Hcall := hide (callsIn_wide.1 hcall)
  have HW3 := hide hW3
  clear hcall hW3 b0 b1 b2 hc3 hbox3 hL3 hn1
  refine callsIn_of_wp Try.func69 rfl trivial ?_ rfl
  simp only [Try.ntmps69, List.size_toArray, List.length_cons, List.length_nil, Nat.reduceAdd, Nat.reduceSub, Array.replicate_succ, Array.replicate_zero, List.push_toArray, List.append_toArray, List.nil_append, List.cons_append]
  gi_wp2_with fail
  rw [← HW3.out]
  refine ⟨trivial, (callsIn_wide.2 Hcall.out).mono ?_⟩
  rintro e A' (⟨rfl, hJ', _⟩ | ⟨rfl, q, hq, hJx⟩)
  · gi_wp2_with fail
    go_end0
    exact ⟨⟨_, rfl⟩, .inl hJ'⟩
  · gi_wp2_with fail
    go_end0
    exact ⟨⟨_, rfl⟩, .inr ⟨q, hq, hJx⟩⟩
end Go.Proofs.Ytcffgjhmpgdfpaa

/- What the walks of the program's ranges over its iterator share. -/
namespace Go.Proofs.Ytcffgjhmpgdfpaa
open Go Go.RowKit Go.Shelf
attribute [local go_sem] Oper.semAt_some
/- simp settles conditions two deep: three and four new blocks in one step -/
theorem later_alloc3 {w W : World} (h : Later w W) (a b c : Obj) : Later w (((W.alloc a).alloc b).alloc c) := later_alloc (later_alloc (later_alloc h a) b) c
theorem later_alloc4 {w W : World} (h : Later w W) (a b c d : Obj) : Later w ((((W.alloc a).alloc b).alloc c).alloc d) := later_alloc (later_alloc3 h a b c) d
theorem lists_fn {A1 A2 A3 : Option Addr} {n1 k1 n2 k2 n3 k3 : Nat} {c : Hou} (w : World) : Calls Try.prog 50 #[(.agg #[.int .i64 c.hour, .int .i64 c.grace, .slice A1 n1 k1, .slice A2 n2 k2, .slice A3 n3 k3])] w fun e w' => e = .returned (.func (.func 69) #[] #[.pointer (some ⟨w.heap.size, 0, none⟩)]) ∧ w' = w.alloc (.cells #[.int .i64 c.hour, .int .i64 c.grace, .slice A1 n1 k1, .slice A2 n2 k2, .slice A3 n3 k3] 46) := by
  go_enter Try.func50, Try.ntmps50
  go_wp2_with fail
  go_ret
  exact ⟨rfl, rfl⟩

theorem eq4 (a0 a1 a2 a3 b0 b1 b2 b3 : Int) (X : World) : (Op.equalIn 10000 103 (.agg #[.int .i64 a0, .int .i64 a1, .int .i64 a2, .int .i64 a3]) (.agg #[.int .i64 b0, .int .i64 b1, .int .i64 b2, .int .i64 b3])).run Try.prog X = .ok (a0 == b0 && (a1 == b1 && (a2 == b2 && a3 == b3))) X := by
  have hu : Try.prog.underlying 103 = some (.array 4 3) := by kernel_rfl
  have hi : Try.prog.underlying 3 = some (.int .i64) := by kernel_rfl
  have hs : ∀ X, (sizeOf 3).run Try.prog X = .ok 1 X := fun _ => by kernel_rfl
  have p0 : ∀ (x y z u : Int) X, (part 3 #[.int .i64 x, .int .i64 y, .int .i64 z, .int .i64 u] 0).run Try.prog X = .ok (.int .i64 x) X := fun _ _ _ _ _ => by kernel_rfl
  have p1 : ∀ (x y z u : Int) X, (part 3 #[.int .i64 x, .int .i64 y, .int .i64 z, .int .i64 u] 1).run Try.prog X = .ok (.int .i64 y) X := fun _ _ _ _ _ => by kernel_rfl
  have p2 : ∀ (x y z u : Int) X, (part 3 #[.int .i64 x, .int .i64 y, .int .i64 z, .int .i64 u] 2).run Try.prog X = .ok (.int .i64 z) X := fun _ _ _ _ _ => by kernel_rfl
  have p3 : ∀ (x y z u : Int) X, (part 3 #[.int .i64 x, .int .i64 y, .int .i64 z, .int .i64 u] 3).run Try.prog X = .ok (.int .i64 u) X := fun _ _ _ _ _ => by kernel_rfl
  have hq : ∀ (x y : Int) X, (Op.equalIn 9999 3 (.int .i64 x) (.int .i64 y)).run Try.prog X = .ok (x == y) X := fun x y X => run_equalIn_int (w := X) 9998 3 .i64 .i64 x y hi
  rw [show (10000 : Nat) = 9999 + 1 from rfl, Op.equalIn]
  simp only [Sem.run_bind, run_underlying hu, Result.andThen_ok, hs]
  rw [show ([0:4] : Std.Legacy.Range) = ⟨0, 4, 1, by decide⟩ from rfl]
  simp only [Std.Legacy.Range.forIn_eq_forIn_range']
  by_cases h0 : a0 = b0
  · by_cases h1 : a1 = b1
    · by_cases h2 : a2 = b2
      · by_cases h3 : a3 = b3 <;> simp [Std.Legacy.Range.size, List.range', Sem.run_bind, p0, p1, p2, p3, hq, Result.andThen, h0, h1, h2, h3]
      · simp [Std.Legacy.Range.size, List.range', Sem.run_bind, p0, p1, p2, p3, hq, Result.andThen, h0, h1, h2]
    · simp [Std.Legacy.Range.size, List.range', Sem.run_bind, p0, p1, p2, p3, hq, Result.andThen, h0, h1]
  · simp [Std.Legacy.Range.size, List.range', Sem.run_bind, p0, p1, p2, p3, hq, Result.andThen, h0]
theorem neq4 (a0 a1 a2 a3 b0 b1 b2 b3 : Int) (b : Bool) (hb : (a0 == b0 && (a1 == b1 && (a2 == b2 && a3 == b3))) = b) (X : World) : (binOp .neq 103 (.agg #[.int .i64 a0, .int .i64 a1, .int .i64 a2, .int .i64 a3]) (.agg #[.int .i64 b0, .int .i64 b1, .int .i64 b2, .int .i64 b3])).run Try.prog X = .ok (.bool !b) X := by
  rw [run_neq_struct, eq4, hb]; rfl
theorem numbers_info : (Try.prog.info? 103).map (fun i => (i.zero, i.size, i.bytes)) = some (some (.agg #[.int .i64 0, .int .i64 0, .int .i64 0, .int .i64 0]), 4, 32) := by kernel_rfl
theorem heap_put (W : World) (l : Nat) (o : Obj) (b : Nat) (h : b ≠ l) : (W.putObj l o).heap[b]? = W.heap[b]? := World.putObj_heap_other h
theorem own_block {W W' : World} {base : Nat} {e : TypeId} {size : Nat} {v : Value} {n : Nat} {xs : List Value} (h : W.ownsRow base e size v n xs) (hk : ∀ g, v.ownBlock = some g → W'.heap[g]? = W.heap[g]?) : W'.ownsRow base e size v n xs := by
  refine ⟨h.1, ?_⟩
  rcases h.2 with hn | ⟨g, cap, cur, rfl, hb, hgg, rest⟩
  · exact .inl hn
  · exact .inr ⟨g, cap, cur, rfl, hb, (hk g rfl).trans hgg, rest⟩
theorem pad_four {x : List Int} (h : x.length ≤ 4) : ∃ e0 e1 e2 e3, pad x = [e0, e1, e2, e3] := by
  have : (pad x).length = 4 := by unfold pad; simp; omega
  match hp : pad x, this with
  | [a, b, c, d], _ => exact ⟨a, b, c, d, rfl⟩
theorem pad_eq {x : List Int} (h : x.length ≤ 4) : pad x = pad4 x := by
  match x, h with
  | [], _ => rfl
  | [_], _ => rfl
  | [_, _], _ => rfl
  | [_, _, _], _ => rfl
  | [_, _, _, _], _ => rfl
theorem KeepsOthers.of_later {W W' : World} (h : Later W W') : KeepsOthers W W' :=
  ⟨h.size, fun k o hk _ => (h.block k (Array.getElem?_eq_some_iff.1 hk).1).trans hk⟩
theorem own_later2 {W W' : World} {base : Nat} {e : TypeId} {size : Nat} {v : Value} {n : Nat} {xs : List Value} (h : W.ownsRow base e size v n xs) (hL : Later W W') : W'.ownsRow base e size v n xs :=
  own_block h fun g hg => hL.block g (h.lt g hg).2
theorem own_rebase {W : World} {base base' : Nat} {e : TypeId} {size : Nat} {v : Value} {n : Nat} {xs : List Value} (h : W.ownsRow base e size v n xs) (hb : ∀ g, v.ownBlock = some g → base' ≤ g) : W.ownsRow base' e size v n xs := by
  refine ⟨h.1, ?_⟩
  rcases h.2 with hn | ⟨g, cap, cur, rfl, _, hgg, rest⟩
  · exact .inl hn
  · exact .inr ⟨g, cap, cur, rfl, hb g rfl, hgg, rest⟩
theorem Appended.others {w0 W w' : World} {e : TypeId} {size n : Nat} {v v' : Value} {xs news : List Value} (h : Appended w0 W w' e size v v' n xs news) (hown : W.ownsRow w0.heap.size e size v n xs) : KeepsOthers W w' := by
  refine ⟨Nat.le_of_lt h.size, fun k o hk ho => ?_⟩
  have hlt := (Array.getElem?_eq_some_iff.1 hk).1
  rw [h.keep k hlt]
  · exact hk
  · intro e
    rcases hown.2 with ⟨rfl, _⟩ | ⟨g, cap, cur, rfl, _, hgg, _⟩
    · cases e
    · have : g = k := by simpa [Value.ownBlock] using e
      subst this
      rw [hk] at hgg
      injection hgg with hgg
      subst hgg
      cases ho
theorem later_put {w W : World} (h : Later w W) {l : Nat} (hl : w.heap.size ≤ l) (o : Obj) : Later w (W.putObj l o) :=
  ⟨h.os, h.tape, h.output, by simpa using h.size, fun b hb => (heap_put W l o b (by omega)).trans (h.block b hb)⟩
theorem Blk.of_eq {w w' : World} {g : Nat} {t : TypeId} {cs : Array Value} (h : w'.heap[g]? = w.heap[g]?) (k : Blk w g t cs) : Blk w' g t cs := h.trans k
theorem nil_or_snoc {α : Type} (l : List α) : l = [] ∨ ∃ t x, l = t ++ [x] := by
  rcases List.eq_nil_or_concat l with h | ⟨t, x, h⟩
  · exact .inl h
  · exact .inr ⟨t, x, by rw [h, List.concat_eq_append]⟩
theorem encD_size (x : List Int) : (encD x).size = 1 := rfl

theorem later_alloc2 {w W : World} (h : Later w W) (a b : Obj) : Later w ((W.alloc a).alloc b) := later_alloc (later_alloc h a) b
end Go.Proofs.Ytcffgjhmpgdfpaa

/- The program's possible: walk. -/
namespace Go.Proofs.Ytcffgjhmpgdfpaa
open Go Go.RowKit Go.Shelf
attribute [local go_sem] Oper.semAt_some later_alloc3 later_alloc4

/-- what holds between the rounds: all that lay where the range began lies as it lay -/
structure PosI (E : Nat) (wE W : World) : Prop where
  size : E + 5 ≤ W.heap.size
  os : W.os = wE.os
  tape : W.tape = wE.tape
  out : W.output = wE.output
  old : ∀ b, b < E → W.heap[b]? = wE.heap[b]?
theorem PosI.same {E : Nat} {wE W W' : World} (h : PosI E wE W) (hs : W.heap.size ≤ W'.heap.size) (ho : W'.os = W.os) (ht : W'.tape = W.tape) (hu : W'.output = W.output)
    (hb : ∀ b, b < E → W'.heap[b]? = W.heap[b]?) : PosI E wE W' :=
  ⟨Nat.le_trans h.size hs, ho.trans h.os, ht.trans h.tape, hu.trans h.out, fun b h1 => (hb b h1).trans (h.old b h1)⟩
theorem PosI.later {E : Nat} {wE W W' : World} (h : PosI E wE W) (hL : Later W W') : PosI E wE W' :=
  h.same hL.size hL.os hL.tape hL.output fun b hb => hL.block b (by have := h.size; omega)
theorem PosI.put {E : Nat} {wE W : World} (h : PosI E wE W) {l : Nat} (hl : E ≤ l) (o : Obj) : PosI E wE (W.putObj l o) :=
  h.same (by simp) rfl rfl rfl fun b hb => heap_put W _ o b (by omega)
theorem PosI.set_ {E : Nat} {wE W : World} (h : PosI E wE W) {a : Addr} (hl : E ≤ a.block) (u : Value) : PosI E wE (W.setCell a u) :=
  h.same (by simp) rfl rfl rfl fun b hb => Below.heap_setCell W a u b (by omega)
theorem PosI.laterE {E : Nat} {wE W : World} (h : PosI E wE W) (hE : wE.heap.size = E) : Later wE W :=
  ⟨h.os, h.tape, h.out, by have := h.size; omega, fun b hb => h.old b (by omega)⟩

end Go.Proofs.Ytcffgjhmpgdfpaa

/- The program's First: walk. -/
namespace Go.Proofs.Ytcffgjhmpgdfpaa
open Go Go.RowKit

theorem RC.take {w : World} {A : Option Addr} {n : Nat} {l : List Cp} (h : RC w A n l) (i : Nat) (hi : i ≤ n) : RC w A i (l.take i) := by
  have hlen := h.len
  refine ⟨by rw [clipsV_length, List.length_take]; omega, fun h0 => ?_⟩
  obtain ⟨ad, e, hb, hc⟩ := h.2 (by omega)
  refine ⟨ad, e, hb, fun j u hj => hc j u ?_⟩
  have hpre : clipsV l = clipsV (l.take i) ++ clipsV (l.drop i) := by
    have := List.take_append_drop i l
    unfold clipsV
    rw [← List.flatMap_append, this]
  rw [hpre, List.getElem?_append_left (List.getElem?_eq_some_iff.1 hj).1]
  exact hj
end Go.Proofs.Ytcffgjhmpgdfpaa

/- append of any elements onto a row of the call's own; slices.Clone: walks. -/
namespace Go.Proofs.Ytcffgjhmpgdfpaa
open Go Go.RowKit

/-- what an append leaves -/
structure AppG (base : Nat) (W w' : World) (e : TypeId) (size : Nat) (v v' : Value) (n m : Nat) (xs news : List Value) : Prop where
  own : w'.ownsRow base e size v' (n + m) (xs ++ news)
  grown : W.grownBy w' v.ownBlock
  at_ : v'.ownBlock = v.ownBlock ∨ v'.ownBlock = some W.heap.size

theorem appG_wp {P : Program} {o : Oper} {a : Act} {K : Act → World → Prop} {Q : Exit → Act → World → Prop} {W : World} (base : Nat) (s x : Operand) (t : TypeId)
    (ho : o.op = .call { callee := .builtin .append, args := #[s, x], argTypes := #[t, t] }) (e : TypeId) (z : Value) (size bytes : Nat)
    (ht : P.underlying t = some (.slice e)) (hinfo : (P.info? e).map (fun i => (i.zero, i.size, i.bytes)) = some (some z, size, bytes)) (hzs : z.cells.size = size) (hsz : 0 < size)
    (v : Value) (n : Nat) (xs : List Value) (hs : a.eval s = v) (hb : base ≤ W.heap.size) (hown : W.ownsRow base e size v n xs)
    (ad : Addr) (m c : Nat) (news : List Value) (hx : a.eval x = .slice (some ad) m c) (hl : news.length = m * size) (hc : ∀ j u, news[j]? = some u → W.cell? (ad.add j) = some u) (h1 : ∀ u ∈ news, u.oneCell' = true)
    (hn : n ≤ 1000000) (hm : m ≤ 1000000) (hby : bytes ≤ 1000)
    (h : ∀ v' w', AppG base W w' e size v v' n m xs news → K (a.put o.dst v') w') :
    o.wp P a W K Q := by
  obtain ⟨i, hi, hz, h2, h3⟩ := info_parts hinfo
  obtain ⟨v', w', hr, k2, k3, _, k5⟩ := run_append_own_at (P := P) W base t o.type e i z size bytes ht hi hz h2 h3 hzs hsz v n xs hown ad m c news hl hc h1 (by unfold maxLen; omega)
    (by
      have : (n + m) * bytes ≤ 2000000 * 1000 := Nat.mul_le_mul (by omega) hby
      omega) hb
  unfold Oper.wp execOp
  simp only [ho, resolve, invoke, builtin, Sem.run_bind, Sem.run_pure, Result.andThen_ok, List.map_toArray, List.map_cons, List.map_nil, hs, hx, hr]
  exact h v' w' ⟨k2, k3, k5⟩
theorem appG {P : Program} {ops : Array Oper} {rest : List Oper} {o : Oper} {a : Act} {Q : Exit → Act → World → Prop} {W : World} (hgd : o.guard = none) (base : Nat) (s x : Operand) (t : TypeId)
    (ho : o.op = .call { callee := .builtin .append, args := #[s, x], argTypes := #[t, t] }) (e : TypeId) (z : Value) (size bytes : Nat)
    (ht : P.underlying t = some (.slice e)) (hinfo : (P.info? e).map (fun i => (i.zero, i.size, i.bytes)) = some (some z, size, bytes)) (hzs : z.cells.size = size) (hsz : 0 < size)
    (v : Value) (n : Nat) (xs : List Value) (hs : a.eval s = v) (hb : base ≤ W.heap.size) (hown : W.ownsRow base e size v n xs)
    (ad : Addr) (m c : Nat) (news : List Value) (hx : a.eval x = .slice (some ad) m c) (hl : news.length = m * size) (hc : ∀ j u, news[j]? = some u → W.cell? (ad.add j) = some u) (h1 : ∀ u ∈ news, u.oneCell' = true)
    (hn : n ≤ 1000000) (hm : m ≤ 1000000) (hby : bytes ≤ 1000)
    (h : ∀ v' w', AppG base W w' e size v v' n m xs news → wpList P ops Q rest (a.put o.dst v') w') :
    wpList P ops Q (o :: rest) a W :=
  wpList_plain hgd fun _ hK => appG_wp base s x t ho e z size bytes ht hinfo hzs hsz v n xs hs hb hown ad m c news hx hl hc h1 hn hm hby fun v' w' q => hK _ _ (h v' w' q)
theorem appG_step {P : Program} {ops : Array Oper} {o : Oper} {a : Act} {K : Act → World → Prop} {Q : Exit → Act → World → Prop} {E : Prop} {W : World} (hgd : o.guard = none) (base : Nat) (s x : Operand) (t : TypeId)
    (ho : o.op = .call { callee := .builtin .append, args := #[s, x], argTypes := #[t, t] }) (e : TypeId) (z : Value) (size bytes : Nat)
    (ht : P.underlying t = some (.slice e)) (hinfo : (P.info? e).map (fun i => (i.zero, i.size, i.bytes)) = some (some z, size, bytes)) (hzs : z.cells.size = size) (hsz : 0 < size)
    (v : Value) (n : Nat) (xs : List Value) (hs : a.eval s = v) (hb : base ≤ W.heap.size) (hown : W.ownsRow base e size v n xs)
    (ad : Addr) (m c : Nat) (news : List Value) (hx : a.eval x = .slice (some ad) m c) (hl : news.length = m * size) (hc : ∀ j u, news[j]? = some u → W.cell? (ad.add j) = some u) (h1 : ∀ u ∈ news, u.oneCell' = true)
    (hn : n ≤ 1000000) (hm : m ≤ 1000000) (hby : bytes ≤ 1000)
    (h : ∀ v' w', AppG base W w' e size v v' n m xs news → K (a.put o.dst v') w') :
    if Region.wanted o (yielded ops a.tmps) = true then Oper.wp P o a W K Q else E := by
  rw [if_pos (by simp [Region.wanted, hgd])]
  exact appG_wp base s x t ho e z size bytes ht hinfo hzs hsz v n xs hs hb hown ad m c news hx hl hc h1 hn hm hby h
/-- an append onto a row that is new since w: all of w lies as it lay -/
theorem AppG.later {w W w' : World} {e : TypeId} {size n m : Nat} {v v' : Value} {xs news : List Value} (h : AppG w.heap.size W w' e size v v' n m xs news) (hL : Later w W) (hown : W.ownsRow w.heap.size e size v n xs) : Later w w' :=
  Later.grown hL h.grown fun g hg => (hown.lt g hg).1

theorem ints_cells {w : World} {ad : Addr} {n : Nat} {l : List Int} (h : RI w (some ad) n l) : ∀ j u, (ints l)[j]? = some u → w.cell? (ad.add j) = some u := fun j u hj => by
  have hl : j < l.length := by rw [← ints_length]; exact (List.getElem?_eq_some_iff.1 hj).1
  obtain ⟨ad', e, _, hc⟩ := h.2 (by have := h.len; omega)
  injection e with e
  subst e
  exact hc j u hj
theorem ints_one (l : List Int) : ∀ u ∈ ints l, u.oneCell' = true := by
  intro u hu
  simp only [ints, List.mem_map] at hu
  obtain ⟨x, _, rfl⟩ := hu
  rfl
end Go.Proofs.Ytcffgjhmpgdfpaa

/- The program's Leave: a closure that calls itself: walks. -/
namespace Go.Proofs.Ytcffgjhmpgdfpaa
open Go Go.RowKit

/-- all that lay at W lies as it lay, but for block g -/
structure But (g : Nat) (W W' : World) : Prop where
  os : W'.os = W.os
  tape : W'.tape = W.tape
  output : W'.output = W.output
  size : W.heap.size ≤ W'.heap.size
  block : ∀ b, b < W.heap.size → b ≠ g → W'.heap[b]? = W.heap[b]?
theorem But.refl (g : Nat) (W : World) : But g W W := ⟨rfl, rfl, rfl, Nat.le_refl _, fun _ _ _ => rfl⟩
theorem But.of_later {g : Nat} {W W' : World} (h : Later W W') : But g W W' := ⟨h.os, h.tape, h.output, h.size, fun b hb _ => h.block b hb⟩
theorem But.trans {g : Nat} {A B C : World} (h : But g A B) (k : But g B C) : But g A C :=
  ⟨k.os.trans h.os, k.tape.trans h.tape, k.output.trans h.output, Nat.le_trans h.size k.size, fun b hb hne => (k.block b (Nat.lt_of_lt_of_le hb h.size) hne).trans (h.block b hb hne)⟩
theorem But.set_ {g : Nat} {A B : World} (h : But g A B) (i : Nat) (u : Value) : But g A (B.setCell ⟨g, i, none⟩ u) :=
  h.trans ⟨rfl, rfl, rfl, by simp, fun b _ hne => Below.heap_setCell B ⟨g, i, none⟩ u b hne⟩
theorem But.later {g : Nat} {w A B : World} (h : But g A B) (hL : Later w A) (hg : w.heap.size ≤ g) : Later w B :=
  ⟨h.os.trans hL.os, h.tape.trans hL.tape, h.output.trans hL.output, Nat.le_trans hL.size h.size, fun b hb => (h.block b (Nat.lt_of_lt_of_le hb hL.size) (by omega)).trans (hL.block b hb)⟩
theorem But.blk {g b : Nat} {A B : World} {t : TypeId} {cs : Array Value} (h : But g A B) (k : Blk A b t cs) (hne : b ≠ g) : Blk B b t cs := (h.block b k.lt hne).trans k
theorem RI.but {g : Nat} {A B : World} {a : Option Addr} {n : Nat} {l : List Int} (h : RI A a n l) (k : But g A B) (hne : ∀ b o, a = some ⟨b, o, none⟩ → b ≠ g) : RI B a n l := by
  refine ⟨h.1, fun hn => ?_⟩
  obtain ⟨b, o, rfl, hb, hc⟩ := Reads.lit h (by omega) hn
  refine ⟨_, rfl, Nat.lt_of_lt_of_le hb k.size, fun j u hu => ?_⟩
  rw [add_lit]
  exact (World.cell?_of_block (a := ⟨b, o + j, none⟩) (k.block b hb (hne b o rfl))).trans (hc j u hu)

theorem own_cap {W : World} {base : Nat} {e : TypeId} {size : Nat} {A : Option Addr} {k n : Nat} {xs : List Value} (h : W.ownsRow base e size (.slice A n k) n xs) : n ≤ k := by
  rcases h.2 with ⟨e, h0⟩ | ⟨g, cap, cur, e, _, _, h1, _⟩
  · omega
  · injection e with _ _ e; omega
/-- what the closure leaves -/
def LvPost (g : Nat) (W : World) (r : Option (List Int)) (e : Ending) (W' : World) : Prop :=
  But g W W' ∧ match r with
    | some x => e = .returned (.bool true) ∧ ∃ A n k, Blk W' g 35 #[.slice A n k] ∧ RI W' A n x ∧ n ≤ k ∧ ∀ b o, A = some ⟨b, o, none⟩ → b ≠ g
    | none => e = .returned (.bool false) ∧ ∃ v, Blk W' g 35 #[v]

theorem RI.of_snoc {w : World} {A : Option Addr} {n : Nat} {l : List Int} {x : Int} (h : Reads w w.heap.size 1 A n (ints l ++ [.int .i64 x])) : RI w A n (l ++ [x]) := by
  unfold RI; rw [show ints (l ++ [x]) = ints l ++ [.int .i64 x] by simp [ints]]; exact h
theorem own_apart {W : World} {base : Nat} {e : TypeId} {size : Nat} {A : Option Addr} {k n g : Nat} {xs : List Value} (h : W.ownsRow base e size (.slice A n k) n xs) (hg : g < base) : ∀ b o, A = some ⟨b, o, none⟩ → b ≠ g := fun b o e => by
  subst e
  have := (h.lt b rfl).1
  omega
theorem later_undrew {w W : World} (h : Later w.drew W) : Later w W := ⟨h.os, h.tape, h.output, h.size, h.block⟩
theorem one_cell (W : World) (x : Value) (t : TypeId) : ∀ j u, [x][j]? = some u → (W.alloc (.cells #[x] t)).cell? ((⟨W.heap.size, 0, none⟩ : Addr).add j) = some u := fun j u hj => by
  rw [add_lit, Nat.zero_add, (Blk.new W t #[x]).cell]
  simpa using hj
theorem one_cell_later {W W' : World} {x : Value} {t : TypeId} (h : Later (W.alloc (.cells #[x] t)) W') : ∀ j u, [x][j]? = some u → W'.cell? ((⟨W.heap.size, 0, none⟩ : Addr).add j) = some u := fun j u hj => by
  rw [add_lit, Nat.zero_add, ((Blk.new W t #[x]).later h).cell]
  simpa using hj
section
variable {c : Hou} {A1 A2 A3 : Option Addr} {n1 k1 n2 k2 n3 k3 bc bf bl : Nat} {wB : World}
end
end Go.Proofs.Ytcffgjhmpgdfpaa

/- The program's map of how many truths have an error of a clock. -/
namespace Go.Proofs.Ytcffgjhmpgdfpaa
open Go Go.RowKit Go.Maps

/-! ### spots as keys -/
theorem laidOut_ : laidOutB Try.prog = true := by kernel_rfl
theorem row_spot : (121 : TypeId) < Try.prog.types.size := of_decide_eq_true (by kernel_rfl)
theorem cells_spot : Try.prog.cellsOf 121 = 2 := by kernel_rfl
theorem wide_spot : (match Try.prog.underlying 121 with | some (.array _ _) | some (.struct _) => true | _ => false) = true := by kernel_rfl
theorem deep_spot : Try.prog.keyTypeAt 2 121 = true := by kernel_rfl
set_option maxRecDepth 100000 in
theorem law_spot : Keyed Try.prog 121 := Keyed.of_law (deep_law_laid (P := Try.prog) laidOut_ (m := 2) (Nat.le_of_ble_eq_true rfl) row_spot deep_spot wide_spot)
set_option maxRecDepth 100000 in
theorem klaw_spot : WideMaps.KeyLaw Try.prog 121 := deep_law_laid (P := Try.prog) laidOut_ (m := 2) (Nat.le_of_ble_eq_true rfl) row_spot deep_spot wide_spot
def kl (h m : Int) : Lit := .string (keyBytes [.int .i64 h, .int .i64 m])
theorem size_succ : ∃ m, Try.prog.types.size = m + 1 + 1 := ⟨Try.prog.types.size - 2, by
  have h : (121 : Nat) < Try.prog.types.size := row_spot
  omega⟩
theorem keyOf_spot {h m : Int} (wh : (Lit.int .i64 h).wf = true) (wm : (Lit.int .i64 m).wf = true) : keyOf Try.prog 121 (.agg #[.int .i64 h, .int .i64 m]) = some (kl h m) := by
  have hkt : Try.prog.keyType 121 = true := by kernel_rfl
  have hi : Try.prog.underlying 3 = some (.int .i64) := by kernel_rfl
  have hci : Try.prog.cellsOf 3 = 1 := by kernel_rfl
  obtain ⟨k, hk⟩ := size_succ
  unfold keyOf
  simp only [Try.underlying121]
  rw [if_pos (by simp [hkt, Value.formed, Try.underlying121, cells_spot]), hk]
  unfold Program.keyLits
  simp only [Try.underlying121, Value.cells]
  rw [if_pos (by rw [cells_spot]; exact ⟨rfl, by kernel_rfl⟩)]
  simp [List.mapM_cons, hci, Program.keyLits, hi, wh, wm, kl]
theorem kl_inj {h m h' m' : Int} (wh : (Lit.int .i64 h).wf = true) (wm : (Lit.int .i64 m).wf = true) (wh' : (Lit.int .i64 h').wf = true) (wm' : (Lit.int .i64 m').wf = true) (e : kl h m = kl h' m') : h = h' ∧ m = m' := by
  have := law_spot.inj (keyOf_spot wh wm) (by rw [e]; exact keyOf_spot wh' wm')
  simp only [Value.agg.injEq, Array.mk.injEq, List.cons.injEq, Value.int.injEq, true_and, and_true] at this
  exact this

/-! ### a map apart: all else lies as it lay -/
theorem Reads.but {g : Nat} {A B : World} {size : Nat} {a : Option Addr} {n : Nat} {xs : List Value} {es : Array MapEntry} {cl : Nat} (h : Reads A A.heap.size size a n xs) (hs : 0 < size) (hm : A.heap[g]? = some (.map es cl)) (k : But g A B) : Reads B B.heap.size size a n xs := by
  refine ⟨h.1, fun hn => ?_⟩
  obtain ⟨b, o, rfl, hb, hc⟩ := Reads.lit h hs hn
  have hl : 0 < xs.length := by rw [h.1]; exact Nat.mul_pos hn hs
  have hne : b ≠ g := by
    intro e
    subst e
    have := hc 0 _ (List.getElem?_eq_getElem hl)
    unfold World.cell? at this
    simp only [hm] at this
    cases this
  refine ⟨_, rfl, Nat.lt_of_lt_of_le hb k.size, fun j u hu => ?_⟩
  rw [add_lit]
  exact (World.cell?_of_block (a := ⟨b, o + j, none⟩) (k.block b hb hne)).trans (hc j u hu)
theorem But.of_grown {g : Nat} {A B : World} (h : A.grownBy B (some g)) : But g A B := ⟨h.os, h.tape, h.output, h.size, fun b hb hne => h.block b hb fun e => hne (by injection e)⟩

/-- how the map of known numbers reads -/
def Known (w : World) (bm n : Nat) (D : DataW Unit) : Prop := w.ownsMap Try.prog 121 (plainElem Try.prog 3) bm n D
theorem Known.heap {w : World} {bm n : Nat} {D : DataW Unit} (h : Known w bm n D) : ∃ es cl, w.heap[bm]? = some (.map es cl) := by
  obtain ⟨es, cl, hb, _⟩ := h
  exact ⟨es, cl, hb⟩
theorem Known.later {w W : World} {bm n : Nat} {D : DataW Unit} (h : Known w bm n D) (hL : Later w W) : Known W bm n D := by
  obtain ⟨es, cl, hb, rest⟩ := h
  exact ⟨es, cl, (hL.block bm (Array.getElem?_eq_some_iff.1 hb).1).trans hb, rest⟩
theorem Known.made {w : World} {bm : Nat} (h : w.heap[bm]? = some (.map #[] 0)) : Known w bm 0 (.map []) := by
  obtain ⟨es, cl, hb, rest⟩ := World.ownsMap_made (H := Unit) w Try.prog 121 (plainElem Try.prog 3)
  have := heap_alloc_new w (.map #[] 0)
  rw [this] at hb
  injection hb with hb
  injection hb with h1 h2
  subst h1 h2
  exact ⟨#[], 0, h, rest⟩
theorem zero_int (w : World) : (zeroValue 3).run Try.prog w = .ok (.int .i64 0) w := by kernel_rfl
theorem und_int : Try.prog.underlying 3 = some (.int .i64) := by kernel_rfl
theorem und_map : Try.prog.underlying 112 = some (.map 121 3) := by kernel_rfl

section
open Go.ChangeShapes Go.WideShapes Go.MapKept Go.ChangeMaps Go.WideElems
open Go.WideMaps (KeyLaw)
variable {H : Type} {P : Program} {w : World} {t k e : TypeId} {R : Value → Option (DataW H × List MemPlace)} {b : Nat} {es : Array MapEntry} {clock : Nat}
/-- an entry, asked for: it is there with its value, or with the zero value; a look-up gives that value; the store goes into it -/
theorem entry_all (K : KeyLaw P k) (ht : P.underlying t = some (.map k e)) {z : Value} (hz : ∀ u : World, (zeroValue e).run P u = .ok z u) (hb : w.heap[b]? = some (.map es clock)) (F : Fit P k R es clock)
    {key : Value} {kl : Lit} (hkey : keyOf P k key = some kl) :
    ∃ (v0 : Value) (st : Nat) (es1 : Array MapEntry) (clock1 : Nat), (Instr.mapEntry t (.map (some b)) key).run P w = .ok (.tuple #[v0, goInt st]) (setBlock w b (.map es1 clock1)) ∧
      (Instr.lookup t (.map (some b)) key false).run P w = .ok v0 w ∧ (Instr.mapUpdate t (.map (some b)) key v0).run P w = .ok () (setBlock w b (.map es1 clock1)) ∧
      ∀ (w2 : World) (val : Value), w2.heap[b]? = some (.map es1 clock1) → ∃ es' clock', (Instr.entryStore t (.map (some b)) (goInt st) val).run P w2 = .ok () (setBlock w2 b (.map es' clock')) ∧
        (Instr.mapUpdate t (.map (some b)) key val).run P w = .ok () (setBlock w b (.map es' clock')) := by
  obtain ⟨s1, s2, _⟩ := F.stamped
  rcases K.find w hkey es.toList F.keys with ⟨h1, h2⟩ | ⟨j, e0, h1, h2, h3⟩
  · refine ⟨z, clock, es.push ⟨key, z, clock⟩, clock + 1, ?_, ?_, ?_, fun w2 val hw2 => ⟨es.push ⟨key, val, clock⟩, clock + 1, ?_, ?_⟩⟩
    · simp [Instr.mapEntry, run_underlying ht, MapKept.run_getObj_map hb, K.check w false hkey, h1, hz, MapKept.run_setObj_map _ hb, Result.andThen, setBlock]
    · simp [Instr.lookup, run_underlying ht, MapKept.run_getObj_map hb, K.check w _ hkey, h1, hz, Result.andThen]
    · simp [Instr.mapUpdate, run_underlying ht, MapKept.run_getObj_map hb, K.check w false hkey, h1, MapKept.run_setObj_map _ hb, Result.andThen, setBlock]
    · have hidx : (es.push ⟨key, z, clock⟩).findIdx? (fun e => ((e.born : Nat) : Int) == ((clock : Nat) : Int)) = some es.size := by
        rw [findIdx_arr]
        have := findIdx_born (l := (es.push ⟨key, z, clock⟩).toList) (j := es.size) (e0 := ⟨key, z, clock⟩) (by
          simp only [Array.toList_push, List.map_append, List.map_cons, List.map_nil]
          refine List.nodup_append.2 ⟨s2, by simp, fun a ha c hc e1 => ?_⟩
          simp only [List.mem_singleton] at hc
          obtain ⟨x, hx, rfl⟩ := List.mem_map.1 ha
          have := s1 x hx
          omega) (by simp)
        exact this
      have hmod : (es.push ⟨key, z, clock⟩).modify es.size (fun e => { e with val := val }) = es.push ⟨key, val, clock⟩ := by
        apply Array.ext'
        rw [Array.toList_modify, Array.toList_push, Array.toList_push, ← Array.length_toList, modify_last]
      simp [Instr.entryStore, MapKept.run_getObj_map hw2, asInt, asIntOf, goInt, hidx, hmod, MapKept.run_setObj_map _ hw2, Result.andThen, setBlock]
    · simp [Instr.mapUpdate, run_underlying ht, MapKept.run_getObj_map hb, K.check w false hkey, h1, MapKept.run_setObj_map _ hb, Result.andThen, setBlock]
  · have hj : es[j]? = some e0 := by simpa using h2
    have hsame : es.modify j (fun e => { e with key := key }) = es := by
      apply Array.ext'
      rw [Array.toList_modify, modify_eq_set _ _ _ _ h2]
      have : ({ e0 with key := key } : MapEntry) = e0 := by rw [← h3]
      rw [this]
      exact set_self _ _ _ h2
    have hsame2 : es.modify j (fun e => { e with key := key, val := e0.val }) = es := by
      apply Array.ext'
      rw [Array.toList_modify, modify_eq_set _ _ _ _ h2]
      have : ({ e0 with key := key, val := e0.val } : MapEntry) = e0 := by rw [← h3]
      rw [this]
      exact set_self _ _ _ h2
    refine ⟨e0.val, e0.born, es, clock, ?_, ?_, ?_, fun w2 val hw2 => ⟨es.modify j (fun e' => { e' with key := key, val := val }), clock, ?_, ?_⟩⟩
    · simp [Instr.mapEntry, run_underlying ht, MapKept.run_getObj_map hb, K.check w false hkey, h1, hj, h3, K.stays w hkey, hsame, MapKept.run_setObj_map _ hb, Result.andThen, setBlock]
    · simp [Instr.lookup, run_underlying ht, MapKept.run_getObj_map hb, K.check w _ hkey, h1, Result.andThen]
    · simp [Instr.mapUpdate, run_underlying ht, MapKept.run_getObj_map hb, K.check w false hkey, h1, hj, h3, K.stays w hkey, hsame2, MapKept.run_setObj_map _ hb, Result.andThen, setBlock]
    · have hidx : es.findIdx? (fun e => ((e.born : Nat) : Int) == ((e0.born : Nat) : Int)) = some j := by
        rw [findIdx_arr]
        exact findIdx_born s2 h2
      have hmod : es.modify j (fun e => { e with val := val }) = es.modify j (fun e' => { e' with key := key, val := val }) := by
        apply Array.ext'
        rw [Array.toList_modify, Array.toList_modify, modify_eq_set _ _ _ _ h2, modify_eq_set _ _ _ _ h2, ← h3]
      simp [Instr.entryStore, MapKept.run_getObj_map hw2, asInt, asIntOf, goInt, hidx, hmod, MapKept.run_setObj_map _ hw2, Result.andThen, setBlock]
    · simp [Instr.mapUpdate, run_underlying ht, MapKept.run_getObj_map hb, K.check w false hkey, h1, hj, h3, K.stays w hkey, MapKept.run_setObj_map _ hb, Result.andThen, setBlock]
end

def wfi (x : Int) : Prop := (Lit.int .i64 x).wf = true
theorem wfi_of {x : Int} (h : -9223372036854775808 ≤ x ∧ x ≤ 9223372036854775807) : wfi x := WalkArith.wf_i64 h
/-- the map bm holds f i v at the spot of clock i with error v -/
def Many (w : World) (bm n : Nat) (f : Nat → Int → Nat) : Prop :=
  ∃ D : DataW Unit, Known w bm n D ∧ ∀ (i : Nat) (v : Int), i < 4 → wfi v → D.atKey (kl i v) (.lit (.int .i64 0)) = .lit (.int .i64 (f i v : Nat))
theorem Many.later {w W : World} {bm n : Nat} {f : Nat → Int → Nat} (h : Many w bm n f) (hL : Later w W) : Many W bm n f := let ⟨D, h1, h2⟩ := h; ⟨D, h1.later hL, h2⟩
theorem Many.lt {w : World} {bm n : Nat} {f : Nat → Int → Nat} (h : Many w bm n f) : bm < w.heap.size := let ⟨_, h1, _⟩ := h; World.ownsMap.lt h1
theorem Many.of_eq {w W : World} {bm n : Nat} {f : Nat → Int → Nat} (h : Many w bm n f) (e : W.heap[bm]? = w.heap[bm]?) : Many W bm n f := by
  obtain ⟨D, ⟨es, cl, hb, rest⟩, h2⟩ := h
  exact ⟨D, ⟨es, cl, e.trans hb, rest⟩, h2⟩
theorem Many.congr {w : World} {bm n : Nat} {f g : Nat → Int → Nat} (h : Many w bm n f) (e : ∀ i v, f i v = g i v) : Many w bm n g := by
  obtain ⟨D, h1, h2⟩ := h
  exact ⟨D, h1, fun i v hi hv => by rw [h2 i v hi hv, e]⟩
theorem Many.made {w : World} {bm : Nat} (h : w.heap[bm]? = some (.map #[] 0)) : Many w bm 0 (fun _ _ => 0) :=
  ⟨.map [], Known.made h, fun i v _ _ => rfl⟩
theorem Many.isMap {w : World} {bm n : Nat} {f : Nat → Int → Nat} (h : Many w bm n f) : ∃ es cl, w.heap[bm]? = some (.map es cl) := let ⟨_, h1, _⟩ := h; h1.heap
theorem Many.look {w : World} {bm n : Nat} {f : Nat → Int → Nat} (h : Many w bm n f) {i : Nat} {v : Int} (hi : i < 4) (hv : wfi v) :
    (Instr.lookup 112 (.map (some bm)) (.agg #[.int .i64 (i : Int), .int .i64 v]) false).run Try.prog w = .ok (.int .i64 (f i v : Nat)) w := by
  obtain ⟨D, h1, h2⟩ := h
  have wi : (Lit.int .i64 (i : Int)).wf = true := WalkArith.wf_i64 (by omega)
  obtain ⟨c, hr, hat, _⟩ := World.ownsMap.lookup_int h1 law_spot und_map und_int (zero_int w) (keyOf_spot wi hv)
  rw [h2 i v hi hv] at hat
  simp only [DataW.lit.injEq, Lit.int.injEq, true_and] at hat
  rw [hat]; exact hr
def updF (f : Nat → Int → Nat) (j : Nat) (x : Int) (i : Nat) (v : Int) : Nat := if i = j ∧ v = x then f j x + 1 else f i v
theorem Many.put {w w' : World} {bm n : Nat} {f : Nat → Int → Nat} {D : DataW Unit} (h1 : Known w bm n D) (h2 : ∀ (i : Nat) (v : Int), i < 4 → wfi v → D.atKey (kl i v) (.lit (.int .i64 0)) = .lit (.int .i64 (f i v : Nat)))
    {j : Nat} {x : Int} {c : Nat} (hj : j < 4) (hx : wfi x) (hn : n ≤ 1000000) (hc : c ≤ 1000000)
    (hr : (Instr.mapUpdate 112 (.map (some bm)) (.agg #[.int .i64 (j : Int), .int .i64 x]) (.int .i64 (c : Nat))).run Try.prog w = .ok () w') :
    Many w' bm (n + 1) (fun i v => if i = j ∧ v = x then c else f i v) ∧ But bm w w' := by
  have wj : (Lit.int .i64 (j : Int)).wf = true := WalkArith.wf_i64 (by omega)
  have wc : (Lit.int .i64 (c : Int)).wf = true := WalkArith.wf_i64 (by omega)
  obtain ⟨w2, hr2, hk, hg⟩ := World.ownsMap.update h1 law_spot und_map (by unfold maxLen; omega) (keyOf_spot wj hx) (plainElem_int und_int wc)
  rw [hr] at hr2
  injection hr2 with _ hw
  subst hw
  refine ⟨⟨_, hk, fun i v hi hv => ?_⟩, But.of_grown hg⟩
  have wi : (Lit.int .i64 (i : Int)).wf = true := WalkArith.wf_i64 (by omega)
  have hm : Maps.IsMap D := by obtain ⟨es, cl, _, _, _, e⟩ := h1; exact ⟨_, e⟩
  dsimp only
  by_cases he : i = j ∧ v = x
  · obtain ⟨rfl, rfl⟩ := he
    rw [atKey_put_same hm (law_spot.key (keyOf_spot wi hv)), if_pos ⟨rfl, rfl⟩]
  · rw [atKey_put_other (fun e => he (by have := kl_inj wi hv wj hx e; exact ⟨by omega, this.2⟩)), if_neg he, h2 i v hi hv]
/-- m[spot{j, x}]++: the entry, then the store -/
theorem many_step {w : World} {bm n : Nat} {f : Nat → Int → Nat} (h : Many w bm n f) {j : Nat} {x : Int} (hj : j < 4) (hx : wfi x) (hn : n ≤ 1000000) (hf : f j x ≤ 100000) :
    ∃ (st : Nat) (w1 : World), (Instr.mapEntry 112 (.map (some bm)) (.agg #[.int .i64 (j : Int), .int .i64 x])).run Try.prog w = .ok (.tuple #[.int .i64 (f j x : Nat), .int .i64 (st : Int)]) w1 ∧
      (Instr.lookup 112 (.map (some bm)) (.agg #[.int .i64 (j : Int), .int .i64 x]) false).run Try.prog w1 = .ok (.int .i64 (f j x : Nat)) w1 ∧ But bm w w1 ∧ w.heap.size = w1.heap.size ∧
      ∀ w2 : World, w2.heap[bm]? = w1.heap[bm]? → ∃ w3, (Instr.entryStore 112 (.map (some bm)) (.int .i64 (st : Int)) (.int .i64 ((f j x : Nat) + 1))).run Try.prog w2 = .ok () w3 ∧ But bm w2 w3 ∧ w2.heap.size = w3.heap.size ∧ Many w3 bm (n + 1) (updF f j x) ∧ ∃ es cl, w3 = ChangeMaps.setBlock w2 bm (.map es cl) := by
  have hlook := h.look hj hx
  obtain ⟨D, h1, h2⟩ := h
  have wj : (Lit.int .i64 (j : Int)).wf = true := WalkArith.wf_i64 (by omega)
  obtain ⟨es, cl, hb, F, hs, hD⟩ := h1
  obtain ⟨v0, st, es1, cl1, r1, r2, r3, r4⟩ := entry_all (R := plainElem Try.prog 3) klaw_spot und_map (fun u => zero_int u) hb F (keyOf_spot wj hx)
  rw [hlook] at r2
  injection r2 with r2 _
  subst r2
  have hput := Many.put (f := f) ⟨es, cl, hb, F, hs, hD⟩ h2 hj hx hn (by omega) r3
  have hb1 : (ChangeMaps.setBlock w bm (.map es1 cl1)).heap[bm]? = some (.map es1 cl1) := (MapKept.heap_set hb).1
  refine ⟨st, _, r1, ?_, hput.2, by simp [ChangeMaps.setBlock], fun w2 hw2 => ?_⟩
  · have := hput.1.look (i := j) (v := x) hj hx
    rw [if_pos ⟨rfl, rfl⟩] at this
    exact this
  · rw [hb1] at hw2
    obtain ⟨es', cl', e1, e2⟩ := r4 w2 (.int .i64 ((f j x : Nat) + 1)) hw2
    have hput2 := Many.put (f := f) (c := f j x + 1) ⟨es, cl, hb, F, hs, hD⟩ h2 hj hx hn (by omega) e2
    refine ⟨_, e1, ⟨rfl, rfl, rfl, by simp [ChangeMaps.setBlock], fun b hb' hne => (MapKept.heap_set hw2).2 b hne⟩, by simp [ChangeMaps.setBlock], ?_, es', cl', rfl⟩
    have hE : (ChangeMaps.setBlock w2 bm (.map es' cl')).heap[bm]? = (ChangeMaps.setBlock w bm (.map es' cl')).heap[bm]? := by
      rw [show (ChangeMaps.setBlock w2 bm (.map es' cl')).heap[bm]? = some (.map es' cl') from (MapKept.heap_set hw2).1, show (ChangeMaps.setBlock w bm (.map es' cl')).heap[bm]? = some (.map es' cl') from (MapKept.heap_set hb).1]
    exact hput2.1.of_eq hE
end Go.Proofs.Ytcffgjhmpgdfpaa

/- The program's listed: walk. -/
namespace Go.Proofs.Ytcffgjhmpgdfpaa
open Go Go.RowKit

/-- the four cells after j numbers of a list -/
def padTo (l : List Int) (j : Nat) : List Int := pad4 (l.take j)
theorem padTo_succ {l : List Int} {j : Nat} {x : Int} (hx : l[j]? = some x) (h4 : j < 4) : padTo l (j + 1) = (padTo l j).set j x := by
  have hl := (List.getElem?_eq_some_iff.1 hx).1
  have ht : l.take (j + 1) = l.take j ++ [x] := by rw [List.take_add_one, hx]; rfl
  have hlen : (l.take j).length = j := by rw [List.length_take]; omega
  unfold padTo
  rw [ht]
  generalize l.take j = t at *
  subst hlen
  match t with
  | [] => rfl
  | [_] => rfl
  | [_, _] => rfl
  | [_, _, _] => rfl
  | _ :: _ :: _ :: _ :: t => simp at h4; omega
/-- what listed returns -/
def ListedPost (c : Hou) (l : List Int) (w : World) (e : Ending) (w' : World) : Prop :=
  ∃ e0 e1 e2 e3 : Int, e = .returned (.tuple #[.agg #[.int .i64 e0, .int .i64 e1, .int .i64 e2, .int .i64 e3], .bool (areErrors c.clocks l)]) ∧ Later w w' ∧ (areErrors c.clocks l = true → pad4 l = [e0, e1, e2, e3])
theorem areErrLen : ∀ (l : List (Int × Int)) (d : List Int), areErrors l d = true → d.length = l.length
  | [], [], _ => rfl
  | h :: l, x :: d, k => by
    simp only [areErrors, Bool.and_eq_true] at k
    simp [areErrLen l d k.2]
end Go.Proofs.Ytcffgjhmpgdfpaa

/- The program's Play, ProveTruth: walks. -/
namespace Go.Proofs.Ytcffgjhmpgdfpaa
open Go Go.RowKit

def playErr (c : Hou) (l : List Int) : Int := if fault c ≠ 0 then fault c else if areErrors c.clocks l = false then 2 else 0
def playL (c : Hou) (l : List Int) : List Int := if playErr c l = 0 then c.clips.map (minuteC l) else []
def truthOut (c : Hou) (l : List Int) : Bool := decide (fault c = 0) && isTruth c l
def PlayPost (c : Hou) (l : List Int) (w : World) (e : Ending) (w' : World) : Prop :=
  ∃ A k, e = .returned (.tuple #[.slice A (playL c l).length k, .int .i64 (playErr c l)]) ∧ Later w w' ∧ RI w' A (playL c l).length (playL c l)
theorem ints_snoc_ (l : List Int) (x : Int) : ints (l ++ [x]) = ints l ++ [Value.int .i64 x] := by simp [ints]
theorem list4 {l : List Int} {e0 e1 e2 e3 : Int} (h : pad4 l = [e0, e1, e2, e3]) {c : Hou} (ok : OkH c) {x : Cp} (hx : x ∈ c.clips) : minuteC [e0, e1, e2, e3] x = minuteC l x := by
  rw [← h]; exact minuteC_pad4 ok l hx
end Go.Proofs.Ytcffgjhmpgdfpaa

/- The program's work: what lies in memory. -/
namespace Go.Proofs.Ytcffgjhmpgdfpaa
open Go Go.RowKit Go.Shelf

def drysV (l : List (List Int)) : List Value := l.flatMap fun d => ints (pad4 d)
theorem drysV_length (l : List (List Int)) : (drysV l).length = l.length * 4 := by
  induction l with
  | nil => rfl
  | cons h l ih => simp only [drysV, List.flatMap_cons, List.length_append] at ih ⊢; rw [ih]; simp [pad4, ints]; omega
theorem drysV_snoc (l : List (List Int)) (d : List Int) : drysV (l ++ [d]) = drysV l ++ ints (pad4 d) := by simp [drysV]
theorem drysV_get (l : List (List Int)) (k j : Nat) (x : List Int) (h : l[k]? = some x) (hj : j < 4) : (drysV l)[k * 4 + j]? = (ints (pad4 x))[j]? := by
  induction l generalizing k with
  | nil => simp at h
  | cons y l ih =>
    cases k with
    | zero =>
      simp at h; subst h
      simp only [drysV, List.flatMap_cons]
      rw [List.getElem?_append_left (by simp [pad4, ints]; omega)]; simp
    | succ k =>
      simp only [drysV, List.flatMap_cons] at ih ⊢
      rw [List.getElem?_append_right (by simp [pad4, ints]; omega)]
      have : (k + 1) * 4 + j - (ints (pad4 y)).length = k * 4 + j := by simp [pad4, ints]; omega
      rw [this]
      exact ih k (by simpa using h)
def RD (w : World) (A : Option Addr) (n : Nat) (l : List (List Int)) : Prop := Reads w w.heap.size 4 A n (drysV l)
section
variable {w W : World} {n : Nat} {A : Option Addr} {l : List (List Int)}
theorem RD.later (h : RD w A n l) (k : Later w W) : RD W A n l := Reads.later h k
theorem RD.len (h : RD w A n l) : n = l.length := by have := h.1; rw [drysV_length] at this; omega
theorem RD.nil : RD w none 0 [] := Reads.none_
theorem RD.get (h : RD w A n l) {k : Nat} (hk : k < n) :
    ∃ b o d e0 e1 e2 e3, A = some ⟨b, o, none⟩ ∧ b < w.heap.size ∧ l[k]? = some d ∧ Hid (pad4 d = [e0, e1, e2, e3]) ∧ (∀ W, Later w W → W.cell? ⟨b, o + k * 4, none⟩ = some (.int .i64 e0)) ∧ (∀ W, Later w W → W.cell? ⟨b, o + k * 4 + 1, none⟩ = some (.int .i64 e1)) ∧
      (∀ W, Later w W → W.cell? ⟨b, o + k * 4 + 2, none⟩ = some (.int .i64 e2)) ∧ ∀ W, Later w W → W.cell? ⟨b, o + k * 4 + 3, none⟩ = some (.int .i64 e3) := by
  obtain ⟨b, o, e, hb, hc⟩ := Reads.lit h (by omega) (by omega)
  have hl : k < l.length := by have := h.len; omega
  have hx := List.getElem?_eq_getElem hl
  exact ⟨b, o, l[k], _, _, _, _, e, hb, hx, rfl, fun W k' => cell_later (hc _ _ (drysV_get l k 0 _ hx (by omega))) k' hb, fun W k' => cell_later (hc _ _ (drysV_get l k 1 _ hx (by omega))) k' hb,
    fun W k' => cell_later (hc _ _ (drysV_get l k 2 _ hx (by omega))) k' hb, fun W k' => cell_later (hc _ _ (drysV_get l k 3 _ hx (by omega))) k' hb⟩
end
/-- how often the truths tr have an error of a clock below n1 -/
def cntF (n1 : Nat) (tr : List (List Int)) (i : Nat) (v : Int) : Nat := if i < n1 then cnt tr i v else 0
/-- what a work holds -/
structure WK (w : World) (bw : Nat) (c : Hou) (A1 : Option Addr) (n1 k1 : Nat) (A2 : Option Addr) (n2 k2 : Nat) (A3 : Option Addr) (n3 k3 : Nat) (At : Option Addr) (nt kt : Nat) (tr : List (List Int)) (bm : Nat) : Prop where
  cells : ∀ i, w.cell? ⟨bw, i, none⟩ = #[.int .i64 c.hour, .int .i64 c.grace, .slice A1 n1 k1, .slice A2 n2 k2, .slice A3 n3 k3, .slice At nt kt, .map (some bm)][i]?
  lt : bw < w.heap.size
  cv : CV w c A1 n1 A2 n2 A3 n3
  rd : RD w At nt tr
  many : ∃ n, Many w bm n (cntF n1 tr)
theorem WK.later {w W : World} {bw bm : Nat} {c : Hou} {A1 A2 A3 At : Option Addr} {n1 k1 n2 k2 n3 k3 nt kt : Nat} {tr : List (List Int)}
    (h : WK w bw c A1 n1 k1 A2 n2 k2 A3 n3 k3 At nt kt tr bm) (hL : Later w W) : WK W bw c A1 n1 k1 A2 n2 k2 A3 n3 k3 At nt kt tr bm :=
  ⟨fun i => (Below.cell hL (p := ⟨bw, i, none⟩) h.lt).trans (h.cells i), Nat.lt_of_lt_of_le h.lt hL.size, h.cv.later hL, h.rd.later hL, let ⟨n, hm⟩ := h.many; ⟨n, hm.later hL⟩⟩
/-- the truths kept so far -/
def keep (c : Hou) (pre : List (List Int)) : List (List Int) := pre.foldl (keepStep c) []
theorem keep_snoc (c : Hou) (pre : List (List Int)) (x : List Int) : keep c (pre ++ [x]) = keepStep c (keep c pre) x := by simp [keep, List.foldl_append]
theorem keepStep_len (c : Hou) (acc : List (List Int)) (d : List Int) : (keepStep c acc d).length ≤ acc.length + 1 := by
  unfold keepStep; split <;> simp
theorem keep_len {c : Hou} (hf : fault c = 0) {pre : List (List Int)} (h : pre <+: errAll c.clocks) : (keep c pre).length ≤ 2000 := by
  have h1 : ∀ (l acc : List (List Int)), (l.foldl (keepStep c) acc).length ≤ acc.length + l.length := by
    intro l
    induction l with
    | nil => intro acc; simp
    | cons d l ih => intro acc; have := ih (keepStep c acc d); have := keepStep_len c acc d; simp only [List.foldl_cons, List.length_cons]; omega
  have h2 := h1 pre []
  have h3 := h.length_le
  have h4 := (allErr_perm hf).length_eq
  have h5 : (allErr c).length = (many c).toNat := by simp [allErr]
  have h6 := many_le hf
  unfold keep
  simp only [List.length_nil] at h2
  omega
theorem pre_len {c : Hou} (hf : fault c = 0) {pre : List (List Int)} (h : pre <+: errAll c.clocks) : pre.length ≤ 2000 := by
  have h3 := h.length_le
  have h4 := (allErr_perm hf).length_eq
  have h5 : (allErr c).length = (many c).toNat := by simp [allErr]
  have h6 := many_le hf
  omega
theorem cnt_snoc (l : List (List Int)) (x : List Int) (i : Nat) (v : Int) : cnt (l ++ [x]) i v = cnt l i v + if x.getD i 0 = v then 1 else 0 := by
  unfold cnt
  rw [List.countP_append]
  by_cases h : x.getD i 0 = v <;> simp [h]
/-- the map while the clocks of x are counted: j of them are -/
def cntTo (n1 : Nat) (tr : List (List Int)) (x : List Int) (j : Nat) (i : Nat) (v : Int) : Nat := cntF n1 tr i v + if i < j ∧ i < n1 ∧ x.getD i 0 = v then 1 else 0
theorem cntTo_zero (n1 : Nat) (tr : List (List Int)) (x : List Int) (i : Nat) (v : Int) : cntTo n1 tr x 0 i v = cntF n1 tr i v := by unfold cntTo; simp
theorem cntTo_all (n1 : Nat) (tr : List (List Int)) (x : List Int) (i : Nat) (v : Int) : cntTo n1 tr x n1 i v = cntF n1 (tr ++ [x]) i v := by
  unfold cntTo cntF
  by_cases h : i < n1
  · rw [if_pos h, if_pos h, cnt_snoc]
    by_cases hv : x.getD i 0 = v
    · rw [if_pos ⟨h, h, hv⟩, if_pos hv]
    · rw [if_neg (fun q => hv q.2.2), if_neg hv]
  · rw [if_neg h, if_neg h, if_neg (fun q => h q.1)]
theorem cntTo_succ {n1 : Nat} {tr : List (List Int)} {x : List Int} {j : Nat} (hj : j < n1) (i : Nat) (v : Int) : updF (cntTo n1 tr x j) j (x.getD j 0) i v = cntTo n1 tr x (j + 1) i v := by
  unfold updF cntTo
  by_cases h : i = j
  · subst h
    by_cases hv : v = x.getD i 0
    · rw [if_pos ⟨rfl, hv⟩, if_neg (fun q => absurd q.1 (Nat.lt_irrefl _)), if_pos ⟨Nat.lt_succ_self _, hj, hv.symm⟩, hv]
    · rw [if_neg (fun q => hv q.2), if_neg (fun q => absurd q.1 (Nat.lt_irrefl _)), if_neg (fun q => hv q.2.2.symm)]
  · rw [if_neg (fun q => h q.1)]
    by_cases hl : i < j
    · have e : (i < j ∧ i < n1 ∧ x.getD i 0 = v) ↔ (i < j + 1 ∧ i < n1 ∧ x.getD i 0 = v) := ⟨fun q => ⟨by omega, q.2⟩, fun q => ⟨hl, q.2⟩⟩
      simp only [e]
    · rw [if_neg (fun q => hl q.1), if_neg (fun q => by omega)]
theorem cntTo_le (n1 : Nat) (tr : List (List Int)) (x : List Int) (j i : Nat) (v : Int) : cntTo n1 tr x j i v ≤ tr.length + 1 := by
  unfold cntTo cntF
  have h1 : cnt tr i v ≤ tr.length := List.countP_le_length
  split <;> split <;> omega

/-- what holds between the rounds: E: the heap's size where the range begins -/
structure AskI (c : Hou) (A1 : Option Addr) (n1 k1 : Nat) (A2 : Option Addr) (n2 k2 : Nat) (A3 : Option Addr) (n3 k3 : Nat) (E bw bm : Nat) (w0 wE : World) (pre : List (List Int)) (W : World) : Prop where
  size : E + 5 ≤ W.heap.size
  os : W.os = w0.os
  tape : W.tape = w0.tape
  out : W.output = w0.output
  old : ∀ b, b < E → b ≠ bw → b ≠ bm → W.heap[b]? = wE.heap[b]?
  row : ∃ At kt, Blk W bw 115 #[.int .i64 c.hour, .int .i64 c.grace, .slice A1 n1 k1, .slice A2 n2 k2, .slice A3 n3 k3, .slice At (keep c pre).length kt, .map (some bm)] ∧
    W.ownsRow (E + 5) 103 4 (.slice At (keep c pre).length kt) (keep c pre).length (drysV (keep c pre))
  many : Many W bm (4 * pre.length) (cntF n1 (keep c pre))
section
variable {c : Hou} {A1 A2 A3 : Option Addr} {n1 k1 n2 k2 n3 k3 E bw bm : Nat} {w0 wE W W' : World} {pre : List (List Int)}
theorem AskI.same (h : AskI c A1 n1 k1 A2 n2 k2 A3 n3 k3 E bw bm w0 wE pre W) (hbw : bw < E) (hbm : bm < E) (hs : W.heap.size ≤ W'.heap.size) (ho : W'.os = W.os) (ht : W'.tape = W.tape) (hu : W'.output = W.output)
    (hb : ∀ b, b < W.heap.size → (b < E ∨ E + 5 ≤ b) → W'.heap[b]? = W.heap[b]?) : AskI c A1 n1 k1 A2 n2 k2 A3 n3 k3 E bw bm w0 wE pre W' := by
  have hsz := h.size
  obtain ⟨At, kt, hk, hown⟩ := h.row
  refine ⟨by omega, ho.trans h.os, ht.trans h.tape, hu.trans h.out, fun b h1 h2 h3 => (hb b (by omega) (.inl h1)).trans (h.old b h1 h2 h3), ⟨At, kt, (hb bw (by omega) (.inl hbw)).trans hk, own_block hown fun g hg => ?_⟩, h.many.of_eq (hb bm (by omega) (.inl hbm))⟩
  have := hown.lt g hg
  exact hb g this.2 (.inr this.1)
theorem AskI.later (h : AskI c A1 n1 k1 A2 n2 k2 A3 n3 k3 E bw bm w0 wE pre W) (hbw : bw < E) (hbm : bm < E) (hL : Later W W') : AskI c A1 n1 k1 A2 n2 k2 A3 n3 k3 E bw bm w0 wE pre W' :=
  h.same hbw hbm hL.size hL.os hL.tape hL.output fun b hb _ => hL.block b hb
theorem AskI.stands (hbw : bw < E) (hbm : bm < E) : Stands (E + 3) (fun pre W => AskI c A1 n1 k1 A2 n2 k2 A3 n3 k3 E bw bm w0 wE pre W) :=
  ⟨fun s A o h => h.later hbw hbm (later_alloc (later_refl _) _), fun s A i u h => h.same hbw hbm (by simp) rfl rfl rfl fun b _ hb => Below.heap_setCell A _ u b (by show b ≠ E + 3; omega)⟩
theorem AskI.put (h : AskI c A1 n1 k1 A2 n2 k2 A3 n3 k3 E bw bm w0 wE pre W) (hbw : bw < E) (hbm : bm < E) (o : Obj) : AskI c A1 n1 k1 A2 n2 k2 A3 n3 k3 E bw bm w0 wE pre (W.putObj (E + 1) o) :=
  h.same hbw hbm (by simp) rfl rfl rfl fun b _ hb => heap_put W _ o b (by omega)
theorem AskI.base (h : AskI c A1 n1 k1 A2 n2 k2 A3 n3 k3 E bw bm w0 wE pre W) (hL : Later w0 wE) (hbw : w0.heap.size ≤ bw) (hbm : w0.heap.size ≤ bm) (hE : w0.heap.size ≤ E) : Later w0 W :=
  ⟨h.os, h.tape, h.out, by have := h.size; omega, fun b hb => (h.old b (by omega) (by omega) (by omega)).trans (hL.block b hb)⟩
theorem AskI.skip {pre' : List (List Int)} (h : AskI c A1 n1 k1 A2 n2 k2 A3 n3 k3 E bw bm w0 wE pre W) (e : keep c pre' = keep c pre) (hl : pre.length ≤ pre'.length) : AskI c A1 n1 k1 A2 n2 k2 A3 n3 k3 E bw bm w0 wE pre' W :=
  ⟨h.size, h.os, h.tape, h.out, h.old, by rw [e]; exact h.row, by
    rw [e]; obtain ⟨D, h1, h2⟩ := h.many; exact ⟨D, World.ownsMap.mono h1 (by omega), h2⟩⟩
end
theorem eql4 (a0 a1 a2 a3 b0 b1 b2 b3 : Int) (b : Bool) (hb : (a0 == b0 && (a1 == b1 && (a2 == b2 && a3 == b3))) = b) (X : World) : (binOp .eql 103 (.agg #[.int .i64 a0, .int .i64 a1, .int .i64 a2, .int .i64 a3]) (.agg #[.int .i64 b0, .int .i64 b1, .int .i64 b2, .int .i64 b3])).run Try.prog X = .ok (.bool b) X := by
  rw [run_eql_struct, eq4, hb]; rfl
end Go.Proofs.Ytcffgjhmpgdfpaa

/- A range over a function whose iterator keeps cells of its own, and whose body may write maps: the law for the caller. -/
namespace Go.Proofs.Ytcffgjhmpgdfpaa
open Go Go.RowKit Go.Shelf

/-- the range's own two blocks lie as they lay -/
structure Keeps2 (B : Nat) (W W' : World) : Prop where
  size : W.heap.size ≤ W'.heap.size
  k0 : W'.heap[B]? = W.heap[B]?
  k1 : W'.heap[B + 1]? = W.heap[B + 1]?
theorem Keeps2.of_old {B n : Nat} {W W' : World} (hs : W.heap.size ≤ W'.heap.size) (h : ∀ b, b < n → W'.heap[b]? = W.heap[b]?) (hB : B + 1 < n) : Keeps2 B W W' := ⟨hs, h _ (by omega), h _ hB⟩
/-- how a round's body may be left -/
def iterPost2 {α : Type} (B : Nat) (Kp : World → World → Prop) (I : List α → World → Prop) (Ix : Code → List α → World → Prop) (xs : List α) (W : World) : Exit → Act → World → Prop
  | .normal, _, W' => Keeps2 B W W' ∧ Kp W W' ∧ I xs W'
  | .ret, _, W' => Keeps2 B W W' ∧ Ix .ret xs W'
  | .exit id, _, W' => Keeps2 B W W' ∧ Ix (.exit id) xs W'
  | .goto t, _, W' => Keeps2 B W W' ∧ Ix (.goto t) xs W'
  | .panic _, _, _ => False
  | .outgrown, _, _ => False

variable {F : Fence} {n : Nat} {P : Program}
theorem wpIn_iter2 {α : Type} {g : Operand} {ps : Array Tmp} {assign body : Code} {Q : Exit → Act → World → Prop} {a : Act} {w : World}
    (hro : F.round = none) (h1 : 1 ≤ n) {gf : Nat} {lb : Array Value} (hg : a.eval g = .func (.func gf) #[] lb) (hFg : F.fn gf) (eg : ∀ args w, (callFunc gf args).run P w = .ok (.enter gf args) w)
    {encs : α → Array Value} {Kp : World → World → Prop} {xs : List α}
    (hseq : ∀ W, Later w W → W.heap.size = w.heap.size + 2 → IterOK F (n - 1) P gf lb encs Kp xs W)
    (hKt : ∀ {A B C : World}, Kp A B → Kp B C → Kp A C) (hKb : ∀ (W : World) (o : Obj), Kp W (W.putObj (w.heap.size + 1) o)) (hps : ∀ x, (encs x).size = ps.size)
    (I : List α → World → Prop) (Ix : Code → List α → World → Prop)
    (hIs : Stands (w.heap.size + 3) I) (hIp : ∀ s A o, I s A → w.heap.size + 1 < A.heap.size → I s (A.putObj (w.heap.size + 1) o)) (hIxp : ∀ c s A o, Ix c s A → w.heap.size + 1 < A.heap.size → Ix c s (A.putObj (w.heap.size + 1) o))
    (h0 : ∀ A, Later w A → w.heap.size + 5 ≤ A.heap.size → I [] A) (I2 : List α → α → Act → World → Prop)
    (hassign : ∀ (l : Nat) (pre : List α) (x : α) (W : World) (K : Act → World → Prop), I pre W → pre ++ [x] <+: xs → (∀ a' W', Keeps2 w.heap.size W W' → Kp W W' → I2 pre x a' W' → K a' W') →
      assign.wpIn (F.inRound l) (n - 1 - 1) P (Exit.then K (fun _ _ _ => False)) { tmps := (ps.zip (encs x)).foldl (fun t (p, v) => t.setIfInBounds p v) a.tmps, defers := [] } W)
    (hI2p : ∀ pre x a' A o, I2 pre x a' A → w.heap.size + 1 < A.heap.size → I2 pre x a' (A.putObj (w.heap.size + 1) o))
    (hbody : ∀ (l : Nat) (pre : List α) (x : α) (a' : Act) (W : World), I2 pre x a' W → pre ++ [x] <+: xs → w.heap.size + 1 < W.heap.size → body.wpIn (F.inRound l) (n - 1 - 1) P (iterPost2 w.heap.size Kp I Ix (pre ++ [x]) W) a' W)
    (hdone : ∀ (W : World), I xs W → W.heap[w.heap.size]? = some (.deferred (some [])) → Q .normal { a with defers := { target := .collected w.heap.size, args := #[] } :: a.defers } W)
    (hstop : ∀ (c : Code) (pre : List α) (W : World), pre <+: xs → Ix c pre W → W.heap[w.heap.size]? = some (.deferred (some [])) → c.wpIn F n P Q { a with defers := { target := .collected w.heap.size, args := #[] } :: a.defers } W) :
    (Code.rangeFunc g ps assign body).wpIn F n P Q a w := by
  refine wpIn_rangeFunc ?_
  intro fn hfn
  rw [hro]
  obtain ⟨rec, hrec⟩ : ∃ rec : LoopState → Option Code → Loop, rec = fun st pe => { state := st, pending := pe, fn, tmps := a.tmps, params := ps, assign, body, defers := w.heap.size } := ⟨_, rfl⟩
  obtain ⟨W1, hW1⟩ : ∃ W1, (w.alloc (.deferred (some []))).alloc (.loop (rec .ready none)) = W1 := ⟨_, rfl⟩
  have hs1 : W1.heap.size = w.heap.size + 2 := by rw [← hW1]; simp
  have hL1 : W1.heap[w.heap.size + 1]? = some (.loop (rec .ready none)) := by
    rw [← hW1]; have := World.alloc_heap_new (w.alloc (.deferred (some []))) (.loop (rec .ready none)); rwa [World.size_alloc] at this
  have hK1 : W1.heap[w.heap.size]? = some (.deferred (some [])) := by
    rw [← hW1]; exact (Below.heap_alloc _ _ _ (by simp)).trans (World.alloc_heap_new w _)
  have hb1 : Later w W1 := by rw [← hW1]; simp
  refine ⟨w.heap.size + 1, [{ target := .collected w.heap.size, args := #[] }], W1, { target := .fn (.func gf) lb, args := #[.func (.yield (w.heap.size + 1)) #[] #[]] }, W1, gf,
    #[.func (.yield (w.heap.size + 1)) #[] #[]] ++ lb, W1, ?_, ?_, ?_, ?_, fun _ => h1, ?_⟩
  · rw [← hW1, hrec]; exact run_enterLoop_outer _ _ _ _ _
  · simp only [resolve, hg]
    simp [go_sem]
  · intro f' hf'; simp [Target.leads] at hf'; subst hf'; exact hFg
  · simp [invoke, go_sem, eg]
  · refine (hseq W1 hb1 hs1 (w.heap.size + 1)
      (fun pre W => I pre W ∧ W.heap[w.heap.size + 1]? = some (.loop (rec .ready none)) ∧ W.heap[w.heap.size]? = some (.deferred (some [])))
      (fun pre W => ∃ c, Ix c pre W ∧ W.heap[w.heap.size + 1]? = some (.loop (rec .done (some c))) ∧ W.heap[w.heap.size]? = some (.deferred (some [])))
      ⟨fun s A o hs => ⟨hIs.1 _ _ _ hs.1, (Below.heap_alloc A o _ (Array.getElem?_eq_some_iff.1 hs.2.1).1).trans hs.2.1, (Below.heap_alloc A o _ (Array.getElem?_eq_some_iff.1 hs.2.2).1).trans hs.2.2⟩,
       fun s A i u hs => by
        rw [hs1]
        exact ⟨hIs.2 _ _ _ _ hs.1, (Below.heap_setCell A _ u _ (by show w.heap.size + 1 ≠ w.heap.size + 2 + 1; omega)).trans hs.2.1, (Below.heap_setCell A _ u _ (by show w.heap.size ≠ w.heap.size + 2 + 1; omega)).trans hs.2.2⟩⟩
      ?_ (fun A hA hsz => ⟨h0 A (Later.trans hb1 hA) (by omega), (hA.block _ (by omega)).trans hL1, (hA.block _ (by omega)).trans hK1⟩)).mono ?_
    · rintro pre x W0 ⟨hi0, hl0, hk0⟩ hpx
      have hlt0 : w.heap.size + 1 < W0.heap.size := (Array.getElem?_eq_some_iff.1 hl0).1
      have hy := run_yield (P := P) (args := encs x) hl0 (by rw [hrec]; exact hps x)
      rw [hrec] at hy
      refine ⟨fn, _, assign, body, hy, roundIn_of_wpIn hfn (hassign _ pre x W0 _ hi0 hpx fun a' W hko hkp hi => ?_)⟩
      have hl := hko.k1.trans hl0
      have hk := hko.k0.trans hk0
      have hlt : w.heap.size + 1 < W.heap.size := (Array.getElem?_eq_some_iff.1 hl).1
      refine ⟨_, run_beginRound hl (by rw [hrec]), ?_⟩
      have hl2 : (W.putObj (w.heap.size + 1) (.loop { rec .ready none with state := .busy })).heap[w.heap.size + 1]? = some (.loop { rec .ready none with state := .busy }) := World.putObj_heap_same hlt
      have hk2 : (W.putObj (w.heap.size + 1) (.loop { rec .ready none with state := .busy })).heap[w.heap.size]? = some (.deferred (some [])) := (World.putObj_heap_other (by omega)).trans hk
      have hw2 : Kp W0 (W.putObj (w.heap.size + 1) (.loop { rec .ready none with state := .busy })) := hKt hkp (hKb _ _)
      refine wpIn_mono (hbody _ pre x a' _ (hI2p _ _ _ _ _ hi hlt) hpx (by simpa using hlt)) ?_
      have fin : ∀ (jump : Option Code) (W3 : World), Keeps2 w.heap.size (W.putObj (w.heap.size + 1) (.loop { rec .ready none with state := .busy })) W3 →
          (Instr.endRound (w.heap.size + 1) jump).run P W3 = .ok (.bool jump.isNone) (W3.putObj (w.heap.size + 1) (.loop (rec (if jump.isNone then .ready else .done) jump))) ∧
          w.heap.size + 1 < W3.heap.size ∧
          (W3.putObj (w.heap.size + 1) (.loop (rec (if jump.isNone then .ready else .done) jump))).heap[w.heap.size + 1]? = some (.loop (rec (if jump.isNone then .ready else .done) jump)) ∧
          (W3.putObj (w.heap.size + 1) (.loop (rec (if jump.isNone then .ready else .done) jump))).heap[w.heap.size]? = some (.deferred (some [])) := fun jump W3 hk3 => by
        have hl3 := hk3.k1.trans hl2
        have := run_endRound (P := P) jump hl3
        rw [hrec] at this ⊢
        exact ⟨this, (Array.getElem?_eq_some_iff.1 hl3).1, World.putObj_heap_same (Array.getElem?_eq_some_iff.1 hl3).1, (World.putObj_heap_other (by omega)).trans (hk3.k0.trans hk2)⟩
      rintro e a3 W3 hp
      cases e with
      | normal =>
        obtain ⟨hk3, hkp3, hi3⟩ := hp
        obtain ⟨hr, hl3, hl4, hk4⟩ := fin none W3 hk3
        exact ⟨_, _, hr, .inl ⟨rfl, ⟨hIp _ _ _ hi3 hl3, hl4, hk4⟩, hKt (hKt hw2 hkp3) (hKb _ _)⟩⟩
      | ret =>
        obtain ⟨hk3, hi3⟩ := hp
        obtain ⟨hr, hl3, hl4, hk4⟩ := fin (some .ret) W3 hk3
        exact ⟨_, _, hr, .inr ⟨rfl, .ret, hIxp _ _ _ _ hi3 hl3, hl4, hk4⟩⟩
      | exit id =>
        obtain ⟨hk3, hi3⟩ := hp
        obtain ⟨hr, hl3, hl4, hk4⟩ := fin (some (.exit id)) W3 hk3
        exact ⟨_, _, hr, .inr ⟨rfl, .exit id, hIxp _ _ _ _ hi3 hl3, hl4, hk4⟩⟩
      | goto t =>
        obtain ⟨hk3, hi3⟩ := hp
        obtain ⟨hr, hl3, hl4, hk4⟩ := fin (some (.goto t)) W3 hk3
        exact ⟨_, _, hr, .inr ⟨rfl, .goto t, hIxp _ _ _ _ hi3 hl3, hl4, hk4⟩⟩
      | panic ch => exact hp.elim
      | outgrown => exact hp.elim
    · rintro e W2 ⟨⟨v, rfl⟩, (⟨hi, hl, hk⟩ | ⟨pre, hSp, c, hi, hl, hk⟩)⟩
      · exact ⟨none, _, by have := run_endLoop (P := P) hl (by rw [hrec]; simp); rw [hrec] at this; exact this, hdone _ (hIp _ _ _ hi (Array.getElem?_eq_some_iff.1 hl).1) ((World.putObj_heap_other (by omega)).trans hk)⟩
      · exact ⟨some c, _, by have := run_endLoop (P := P) hl (by rw [hrec]; simp); rw [hrec] at this; exact this, hstop c pre _ hSp (hIxp _ _ _ _ hi (Array.getElem?_eq_some_iff.1 hl).1) ((World.putObj_heap_other (by omega)).trans hk)⟩

end Go.Proofs.Ytcffgjhmpgdfpaa
