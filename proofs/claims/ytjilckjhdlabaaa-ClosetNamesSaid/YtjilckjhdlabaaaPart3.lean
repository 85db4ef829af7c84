/- Part 3 of the proof: joined from the texts CloH, CloI, Perm, RefB, RefC, RefJ, CloC, RegionIn. -/
import Derived.Test.YtjilckjhdlabaaaPart2
import Derived.Test.YtjilckjhdlabaaaPart1
import Derived.OrdersIn
import Derived.RangeFuncCalls
set_option linter.unusedSimpArgs false
set_option linter.unusedVariables false
/- The program's bounds: walks (to). -/
namespace Go.Proofs.Ytjilckjhdlabaaa
open Go Go.RowKit

set_option maxRecDepth 100000 in
set_option maxHeartbeats 1000000 in
theorem bounds_to_calls {A1 A2 A3 At Ap : Option Addr} {n1 k1 n2 k2 n3 k3 nt kt np kp bw h : Nat} {c : Clo} {tr : List (List Int)} {vm : Value} {p : List Int} (w : World)
    (hw : WK w bw c A1 n1 k1 A2 n2 k2 A3 n3 k3 At nt kt tr vm) (ok : OkH c) (hp : RI w Ap np p) (hpl : IsPl c p) (hdry : ∀ d ∈ tr, IsDry c d) (hn : nt ≤ 1000000) (hh : h < n1) :
    Calls Try.prog 112 #[.agg #[.func (.func 122) #[] #[]], .pointer (some ⟨bw, 0, none⟩), .slice Ap np kp, .int .i64 (h : Int)] w fun e w' =>
      e = .returned (.agg #[.int .i64 (bP (fun d => minuteR c p d h + graceAt c h) tr).1, .int .i64 (bP (fun d => minuteR c p d h + graceAt c h) tr).2]) ∧ Later w w' := by
  have hnt := hw.tr.len
  have hn1 := hw.cv.hs.len
  have hl4 := ok.len
  have hh4 : h < 4 := by omega
  have hhi : (h : Int) < n1 := by omega
  have hhi4 : (h : Int) < 4 := by omega
  have hhc : h < c.horses.length := by omega
  obtain ⟨b1, o1, z, rfl, _, hz, hz0, hz1, hz2, hz3⟩ := hw.cv.hs.get hh
  have okz := ok.horse z (List.mem_of_getElem? hz)
  have Hz := hide (show graceAt c h = z.grace by unfold graceAt; rw [List.getD_eq_getElem?_getD, hz]; rfl)
  have Hnt := hide hnt
  have Hn1 := hide hn1
  clear hnt hn1 hz
  obtain ⟨w0, hw0⟩ : ∃ X, X = w.alloc (.cells #[.func (.func 122) #[] #[]] 156) := ⟨_, rfl⟩
  have hL0 : Later w w0 := by rw [hw0]; exact later_alloc (later_refl _) _
  have hs0 : w0.heap.size = w.heap.size + 1 := by rw [hw0]; simp
  have bq : Blk w0 w.heap.size 156 #[.func (.func 122) #[] #[]] := by rw [hw0]; exact Blk.new _ _ _
  have Hw0 := hide hw0
  clear hw0
  obtain ⟨W3, hW3⟩ : ∃ X, X = w0.alloc (.cells #[.int .i64 0, .int .i64 0] 61) := ⟨_, rfl⟩
  have br : Blk W3 (w.heap.size + 1) 61 #[.int .i64 0, .int .i64 0] := by
    have := Blk.new w0 61 #[.int .i64 0, .int .i64 0]
    rw [hs0] at this
    rw [hW3]; exact this
  have hL3 : Later w0 W3 := by rw [hW3]; exact later_alloc (later_refl _) _
  have Hs0 := hide hs0
  have HW3 := hide hW3
  have hwL := hw.later (Later.trans hL0 hL3)
  have t5 := hwL.cells 5
  simp only [List.getElem?_toArray, List.getElem?_cons_zero, List.getElem?_cons_succ] at t5
  rw [hW3] at t5
  have hbw : bw < w.heap.size := hw.lt
  rw [Hw0.out] at t5
  clear hs0 hW3 hwL
  go_enter Try.func112, Try.ntmps112
  go_wp2_with fail
  rw [← Hw0.out, ← HW3.out]
  clear Hw0 HW3 t5
  go_loopw [17] (fun i wr => ∃ j : Nat, j ≤ nt ∧ i = .int .i64 j ∧ Later w0 wr ∧ Blk wr (w.heap.size + 1) 61 #[.int .i64 (bP (fun d => minuteR c p d h + graceAt c h) (tr.take j)).1, .int .i64 (bP (fun d => minuteR c p d h + graceAt c h) (tr.take j)).2]) (fun i _ => nt - (intOf i).toNat)
  case atStart => exact ⟨0, Nat.zero_le _, rfl, hL3, by rw [List.take_zero]; exact br⟩
  case round =>
    obtain ⟨j, hj, rfl, hL, hbk⟩ := hrel
    by_cases hlt : j < nt
    · obtain ⟨b, o, d, e0, e1, e2, e3, rfl, _, hx, He, hx0, hx1, hx2, hx3⟩ := hw.tr.get hlt
      have hLw := Later.trans hL0 hL
      have hdr := hdry d (List.mem_of_getElem? hx)
      obtain ⟨m0, m1, m2, m3, hm⟩ : ∃ m0 m1 m2 m3, minutesP c p (pad4 d) = [m0, m1, m2, m3] := ⟨_, _, _, _, rfl⟩
      obtain ⟨mh, hmh⟩ : ∃ mh, minuteR c p d h = mh := ⟨_, rfl⟩
      have hget := minutesP_get (d := pad4 d) hpl hhc hh4
      rw [minuteR_pad4 c p d h hh4, hmh, hm] at hget
      have hget2 := index4 hh4 hget
      have hmr := minuteR_range ok (Nat.le_of_eq hpl.len) hdr h hhc
      rw [hmh] at hmr
      have ht : tr.take (j + 1) = tr.take j ++ [d] := by rw [List.take_add_one, hx]; rfl
      have hb1 : j = 0 → bP (fun d => minuteR c p d h + graceAt c h) (tr.take (j + 1)) = (mh + z.grace, mh + z.grace) := fun e => by
        rw [ht, e, List.take_zero, List.nil_append]; simp [bP, hmh, Hz.out]
      have hb2 : j ≠ 0 → bP (fun d => minuteR c p d h + graceAt c h) (tr.take (j + 1)) = wider (bP (fun d => minuteR c p d h + graceAt c h) (tr.take j)) (mh + z.grace) := fun e => by
        have hne : tr.take j ≠ [] := by
          intro e2
          have e3 := congrArg List.length e2
          rw [List.length_take] at e3
          have := Hnt.out
          simp only [List.length_nil] at e3
          omega
        rw [ht, bP_snoc _ _ _ hne]
        simp [hmh, Hz.out]
      have Hb1 := hide hb1
      have Hb2 := hide hb2
      have Hm := hide hm
      generalize bP (fun d => minuteR c p d h + graceAt c h) (tr.take j) = r at *
      obtain ⟨r1, r2⟩ := r
      dsimp only at hbk
      have hi1 : (j : Int) < nt := by omega
      have hx0 := hx0 _ hLw
      have hx1 := hx1 _ hLw
      have hx2 := hx2 _ hLw
      have hx3 := hx3 _ hLw
      have hbd := box_cells wr #[.int .i64 e0, .int .i64 e1, .int .i64 e2, .int .i64 e3] 138
      obtain ⟨Wb, hWb⟩ : ∃ X, X = wr.alloc (.cells #[.int .i64 e0, .int .i64 e1, .int .i64 e2, .int .i64 e3] 138) := ⟨_, rfl⟩
      have hLb : Later wr Wb := by rw [hWb]; exact later_alloc (later_refl _) _
      rw [← hWb] at hbd
      have HWb := hide hWb
      have hd0 := fun W hW => hbd W hW 0
      have hd1 := fun W hW => hbd W hW 1
      have hd2 := fun W hW => hbd W hW 2
      have hd3 := fun W hW => hbd W hW 3
      have hLwb := Later.trans hLw hLb
      have hwk := hw.later hLwb
      have hcw := fun W (hW : Later Wb W) i => (hwk.later hW).cells i
      have hc0 := fun W hW => hcw W hW 0
      have hc1 := fun W hW => hcw W hW 1
      have hc2 := fun W hW => hcw W hW 2
      have hc3 := fun W hW => hcw W hW 3
      have hc4 := fun W hW => hcw W hW 4
      have hqq := fun W (hW : Later Wb W) => (bq.later (Later.trans hL (Later.trans hLb hW))).cell 0
      simp only [List.getElem?_toArray, List.getElem?_cons_zero, List.getElem?_cons_succ] at hd0 hd1 hd2 hd3 hc0 hc1 hc2 hc3 hc4 hqq
      have hz0' := fun W (hW : Later Wb W) => hz0 W (Later.trans hLwb hW)
      have hz1' := fun W (hW : Later Wb W) => hz1 W (Later.trans hLwb hW)
      have hz2' := fun W (hW : Later Wb W) => hz2 W (Later.trans hLwb hW)
      have hz3' := fun W (hW : Later Wb W) => hz3 W (Later.trans hLwb hW)
      have hpb := hp.later hLwb
      have hcv := hwk.cv
      have hT : ∀ e : Ext Wb, Later Wb e.W := fun e => e.h
      have HB := hide (hbk.later hLb)
      have HL := hide (Later.trans hL hLb)
      clear hWb hbd hcw hb1 hb2 hm hmh hget ht hx hz0 hz1 hz2 hz3 hbk hL3 br
      go_wp2_with fail
      rw [← HWb.out]
      clear HWb
      refine wp_region_ext (w0 := Wb) (by kernel_rfl) (by kernel_rfl) (later_refl _) ?_; (repeat (first | go_big_quiet_step ((first | (go_at_call 95; exact calls_ext (hT _) (minutes_eq _ (hcv.later (hT _)) ok (hpb.later (hT _)) (Nat.le_of_eq hpl.len) (hpl.bound ok) hdr He.out Hm.out)) | (go_at_call 122; exact calls_ext (hT _) (to_calls z mh _ (by omega) (by omega))))) | quiet_step ((first | (go_at_call 95; exact calls_ext (hT _) (minutes_eq _ (hcv.later (hT _)) ok (hpb.later (hT _)) (Nat.le_of_eq hpl.len) (hpl.bound ok) hdr He.out Hm.out)) | (go_at_call 122; exact calls_ext (hT _) (to_calls z mh _ (by omega) (by omega))))))); refine wpQuiet_nil ?_; rintro w3 ⟨⟨_, hL3⟩, rfl⟩; (try dsimp only)
      have hLn := Later.trans HL.out hL3
      have hk3 := HB.out.later hL3
      have hg : w0.heap.size ≤ w.heap.size + 1 := Nat.le_of_eq Hs0.out
      clear hd0 hd1 hd2 hd3 hc0 hc1 hc2 hc3 hc4 hqq hz0' hz1' hz2' hz3' hT hget2 hL3 HL HB
      by_cases hj0 : j = 0
      · have e0' : ((j : Int) == 0) = true := by simp [hj0]
        have Hv := hide (Hb1.out hj0)
        have f0 := hk3.frozen 0
        have f1 := hk3.frozen 1
        have c0 := hk3.cell 0
        have c1 := hk3.cell 1
        simp only [List.getElem?_toArray, List.getElem?_cons_zero, List.getElem?_cons_succ] at c0 c1
        have hk4 : Blk ((w3.setCell ⟨w.heap.size + 1, 0, none⟩ (.int .i64 (mh + z.grace))).setCell ⟨w.heap.size + 1, 1, none⟩ (.int .i64 (mh + z.grace))) (w.heap.size + 1) 61 #[.int .i64 (mh + z.grace), .int .i64 (mh + z.grace)] := (hk3.set_ 0 _).set_ 1 _
        have hL4 := later_drop (later_drop hLn (a := ⟨w.heap.size + 1, 0, none⟩) (u := .int .i64 (mh + z.grace)) hg) (a := ⟨w.heap.size + 1, 1, none⟩) (u := .int .i64 (mh + z.grace)) hg
        have HK := hide hk4
        have HL4 := hide hL4
        clear hj0 hk3 hk4 hL4
        go_wp2_with fail
        refine (wider_calls (mh + z.grace) (mh + z.grace) (mh + z.grace) _).mono ?_
        rintro e w5 ⟨rfl, hL5⟩
        have hk5 := HK.out.later hL5
        have hL6 := Later.trans HL4.out hL5
        have g0 := hk5.frozen 0
        have g1 := hk5.frozen 1
        have q0 := hk5.cell 0
        have q1 := hk5.cell 1
        simp only [List.getElem?_toArray, List.getElem?_cons_zero, List.getElem?_cons_succ] at q0 q1
        have hk6 : Blk ((w5.setCell ⟨w.heap.size + 1, 0, none⟩ (.int .i64 (min (mh + z.grace) (mh + z.grace)))).setCell ⟨w.heap.size + 1, 1, none⟩ (.int .i64 (max (mh + z.grace) (mh + z.grace)))) (w.heap.size + 1) 61 #[.int .i64 (bP (fun d => minuteR c p d h + graceAt c h) (tr.take (j + 1))).1, .int .i64 (bP (fun d => minuteR c p d h + graceAt c h) (tr.take (j + 1))).2] := by
          have := (hk5.set_ 0 (.int .i64 (min (mh + z.grace) (mh + z.grace)))).set_ 1 (.int .i64 (max (mh + z.grace) (mh + z.grace)))
          rw [Hv.out]
          simpa [Int.min_self, Int.max_self] using this
        have hL7 := later_drop (later_drop hL6 (a := ⟨w.heap.size + 1, 0, none⟩) (u := .int .i64 (min (mh + z.grace) (mh + z.grace))) hg) (a := ⟨w.heap.size + 1, 1, none⟩) (u := .int .i64 (max (mh + z.grace) (mh + z.grace))) hg
        have HK6 := hide hk6
        have HL7 := hide hL7
        clear hk5 hk6 hL7 HK HL4 c0 c1 f0 f1
        go_wp2_with fail
        go_roundw
        case rel => exact ⟨j + 1, by omega, by go_num, by have := HL7.out; rwa [Int.min_self, Int.max_self] at this, by have := HK6.out; rwa [Int.min_self, Int.max_self] at this⟩
        case measure => simp [intOf]; omega
      · have e0' : ((j : Int) == 0) = false := by simp [hj0]
        have Hv := hide (Hb2.out hj0)
        have f0 := hk3.frozen 0
        have f1 := hk3.frozen 1
        have c0 := hk3.cell 0
        have c1 := hk3.cell 1
        simp only [List.getElem?_toArray, List.getElem?_cons_zero, List.getElem?_cons_succ] at c0 c1
        have HK := hide hk3
        clear hj0 hk3
        go_wp2_with fail
        refine (wider_calls r1 r2 (mh + z.grace) _).mono ?_
        rintro e w5 ⟨rfl, hL5⟩
        have hk5 := HK.out.later hL5
        have hL6 := Later.trans hLn hL5
        have g0 := hk5.frozen 0
        have g1 := hk5.frozen 1
        have q0 := hk5.cell 0
        have q1 := hk5.cell 1
        simp only [List.getElem?_toArray, List.getElem?_cons_zero, List.getElem?_cons_succ] at q0 q1
        have hk6 : Blk ((w5.setCell ⟨w.heap.size + 1, 0, none⟩ (.int .i64 (min r1 (mh + z.grace)))).setCell ⟨w.heap.size + 1, 1, none⟩ (.int .i64 (max r2 (mh + z.grace)))) (w.heap.size + 1) 61 #[.int .i64 (bP (fun d => minuteR c p d h + graceAt c h) (tr.take (j + 1))).1, .int .i64 (bP (fun d => minuteR c p d h + graceAt c h) (tr.take (j + 1))).2] := by
          have := (hk5.set_ 0 (.int .i64 (min r1 (mh + z.grace)))).set_ 1 (.int .i64 (max r2 (mh + z.grace)))
          rw [Hv.out]
          exact this
        have hL7 := later_drop (later_drop hL6 (a := ⟨w.heap.size + 1, 0, none⟩) (u := .int .i64 (min r1 (mh + z.grace))) hg) (a := ⟨w.heap.size + 1, 1, none⟩) (u := .int .i64 (max r2 (mh + z.grace))) hg
        have HK6 := hide hk6
        have HL7 := hide hL7
        clear hk5 hk6 hL7 HK c0 c1 f0 f1
        go_wp2_with fail
        go_roundw
        case rel => exact ⟨j + 1, by omega, by go_num, HL7.out, HK6.out⟩
        case measure => simp [intOf]; omega
    · have hfin : tr.take j = tr := List.take_of_length_le (by have := Hnt.out; omega)
      rw [hfin] at hbk
      have hg : w0.heap.size ≤ w.heap.size + 1 := Nat.le_of_eq Hs0.out
      obtain ⟨⟨r1, r2⟩, hr⟩ : ∃ r, bP (fun d => minuteR c p d h + graceAt c h) tr = r := ⟨_, rfl⟩
      rw [hr] at hbk
      dsimp only at hbk
      have Hr := hide hr
      have f0 := hbk.frozen 0
      have f1 := hbk.frozen 1
      have c0 := hbk.cell 0
      have c1 := hbk.cell 1
      simp only [List.getElem?_toArray, List.getElem?_cons_zero, List.getElem?_cons_succ] at c0 c1
      clear hr hfin hbk hL3 br
      go_wp2_with fail
      refine bodyPost_ret (v := .agg #[.int .i64 r1, .int .i64 r2]) ?_ rfl ⟨by rw [Hr.out], ?_⟩
      · simp [results, Try.results112, go_sem, *]
      · exact Later.trans hL0 (later_drop (later_drop hL hg) hg)
end Go.Proofs.Ytjilckjhdlabaaa

/- The program's good, done: walks. -/
namespace Go.Proofs.Ytjilckjhdlabaaa
open Go Go.RowKit

def goodP (c : Clo) (tr : List (List Int)) (p : List Int) (h : Nat) : Int × Int := ((bP (fun d => minuteR c p d h) tr).2, min c.close (bP (fun d => minuteR c p d h + graceAt c h) tr).1)

set_option maxRecDepth 100000 in
set_option maxHeartbeats 1000000 in
theorem good_calls {A1 A2 A3 At Ap : Option Addr} {n1 k1 n2 k2 n3 k3 nt kt np kp bw h : Nat} {c : Clo} {tr : List (List Int)} {vm : Value} {p : List Int} {g1 g2 : Int} (w : World)
    (hw : WK w bw c A1 n1 k1 A2 n2 k2 A3 n3 k3 At nt kt tr vm) (ok : OkH c) (hp : RI w Ap np p) (hpl : IsPl c p) (hdry : ∀ d ∈ tr, IsDry c d) (hn : nt ≤ 1000000) (hh : h < n1) (hg : goodP c tr p h = (g1, g2)) :
    Calls Try.prog 98 #[.pointer (some ⟨bw, 0, none⟩), .slice Ap np kp, .int .i64 (h : Int)] w fun e w' => e = .returned (.agg #[.int .i64 g1, .int .i64 g2]) ∧ Later w w' := by
  obtain ⟨⟨f1, f2⟩, hf⟩ : ∃ r, bP (fun d => minuteR c p d h) tr = r := ⟨_, rfl⟩
  obtain ⟨⟨t1, t2⟩, ht⟩ : ∃ r, bP (fun d => minuteR c p d h + graceAt c h) tr = r := ⟨_, rfl⟩
  have hg1 : f2 = g1 := by have := congrArg Prod.fst hg; simpa [goodP, hf, ht] using this
  have hg2 : min c.close t1 = g2 := by have := congrArg Prod.snd hg; simpa [goodP, hf, ht] using this
  obtain ⟨w0, hw0⟩ : ∃ X, X = w.alloc (.cells #[.int .i64 0, .int .i64 0] 61) := ⟨_, rfl⟩
  have hL0 : Later w w0 := by rw [hw0]; exact later_alloc (later_refl _) _
  have br : Blk w0 w.heap.size 61 #[.int .i64 0, .int .i64 0] := by rw [hw0]; exact Blk.new _ _ _
  have hF := fun W (hW : WK W bw c A1 n1 k1 A2 n2 k2 A3 n3 k3 At nt kt tr vm) (hpW : RI W Ap np p) => bounds_from_calls (kp := kp) W hW ok hpW hpl hdry hn hh
  have hTo := fun W (hW : WK W bw c A1 n1 k1 A2 n2 k2 A3 n3 k3 At nt kt tr vm) (hpW : RI W Ap np p) => bounds_to_calls (kp := kp) W hW ok hpW hpl hdry hn hh
  rw [hf] at hF
  rw [ht] at hTo
  have hLd : Later w w0.drew := later_drew hL0
  have hwd := hw.later hLd
  have hpd := hp.later hLd
  have hbw := hw.lt
  have hne1 : ¬ w.heap.size = bw := by omega
  have hne2 : ¬ bw = w.heap.size := by omega
  have hcl := hwd.cells 1
  simp only [List.getElem?_toArray, List.getElem?_cons_zero, List.getElem?_cons_succ] at hcl
  have hbd : Blk w0.drew w.heap.size 61 #[.int .i64 0, .int .i64 0] := br
  have Hg1 := hide hg1
  have Hg2 := hide hg2
  have Hw0 := hide hw0
  have hsz : w0.drew.heap.size = w.heap.size + 1 := by rw [hw0]; simp
  have Hsz := hide hsz
  have hfi0 : ∀ W : World, (Instr.field 61 (.agg #[.int .i64 t1, .int .i64 t2]) 0).run Try.prog W = .ok (.int .i64 t1) W := fun _ => by kernel_rfl
  have hfi1 : ∀ W : World, (Instr.field 61 (.agg #[.int .i64 f1, .int .i64 f2]) 1).run Try.prog W = .ok (.int .i64 f2) W := fun _ => by kernel_rfl
  clear hf ht hg hg1 hg2 hw0 br hsz
  go_enter Try.func98, Try.ntmps98
  go_wp2_with fail
  rw [← Hw0.out]
  clear Hw0
  go_region_held3 (fun W => Later w W ∧ W.cell? ⟨bw, 1, none⟩ = some (.int .i64 c.close)) ((refine ⟨?_, ?_⟩ <;> first | (((repeat (first | assumption | refine later_drew ?_ | refine later_alloc ?_ _ | refine later_set ?_ _ (Nat.le_add_right _ _) _ | refine later_set ?_ _ (Nat.le_refl _) _)); done)) | (go_keep; done)))
    (first
      | (go_at_call 112; (refine (hTo _ hwd1 hpd1).mono ?_; rintro e w2 ⟨rfl, hL2⟩; have hwd2 := hwd1.later hL2; have hLw2 := Later.trans hLw1 hL2; have hcl2 := hwd2.cells 1; have hbd2 := hbd1.later hL2; simp only [List.getElem?_toArray, List.getElem?_cons_zero, List.getElem?_cons_succ] at hcl2))
      | (go_at_call 112; go_must (refine (hF _ hwd hpd).mono ?_; rintro e w1 ⟨rfl, hL1⟩; have hwd1 := hwd.later hL1; have hpd1 := hpd.later hL1; have hLw1 := Later.trans hLd hL1; have hcl1 := hwd1.cells 1; have hbd1 := hbd.later hL1; simp only [List.getElem?_toArray, List.getElem?_cons_zero, List.getElem?_cons_succ] at hcl1))
      | (go_at_call 121; go_must (refine (min2_calls c.close t1 _ _ (box_cells w2 #[.int .i64 c.close, .int .i64 t1] 3 _ (later_refl _) 0) (box_cells w2 #[.int .i64 c.close, .int .i64 t1] 3 _ (later_refl _) 1)).mono ?_; rintro e w3 ⟨rfl, rfl⟩; have hbd3 := hbd2.alloc (.cells #[.int .i64 c.close, .int .i64 t1] 3); have hc0 := hbd3.cell 0; have hc1 := hbd3.cell 1; have hf0 := hbd3.frozen 0; have hf1 := hbd3.frozen 1; simp only [List.getElem?_toArray, List.getElem?_cons_zero, List.getElem?_cons_succ] at hc0 hc1)))
  go_wp2_with fail
  refine bodyPost_ret (v := .agg #[.int .i64 f2, .int .i64 (min c.close t1)]) ?_ rfl ⟨by rw [Hg1.out, Hg2.out], ?_⟩
  · simp [results, Try.results98, go_sem, *]
  · (((repeat (first | assumption | refine later_drew ?_ | refine later_alloc ?_ _ | refine later_set ?_ _ (Nat.le_add_right _ _) _ | refine later_set ?_ _ (Nat.le_refl _) _)); done))

/-- done: the first horse without a good minute, or the minute in which all can be taken out -/
def doneG (G : Nat → Int × Int) : Nat → Nat → Int → Int × Int
  | 0, i, n => (n, i)
  | k + 1, i, n => if (G i).2 < (G i).1 then (0, i) else doneG G k (i + 1) (max n (G i).1)
def doneP (c : Clo) (tr : List (List Int)) (p : List Int) : Int × Int := doneG (goodP c tr p) c.horses.length 0 0
theorem bP_range {c : Clo} (ok : OkH c) {f : List Int → Int} (hf : ∀ d, IsDry c d → 0 ≤ f d ∧ f d ≤ 1000) {tr : List (List Int)} (hdry : ∀ d ∈ tr, IsDry c d) : 0 ≤ (bP f tr).1 ∧ (bP f tr).1 ≤ 1000 ∧ 0 ≤ (bP f tr).2 ∧ (bP f tr).2 ≤ 1000 := by
  cases tr with
  | nil => simp [bP]
  | cons d l =>
    have key : ∀ (l : List (List Int)) (r : Int × Int), (∀ d ∈ l, IsDry c d) → (0 ≤ r.1 ∧ r.1 ≤ 1000 ∧ 0 ≤ r.2 ∧ r.2 ≤ 1000) →
        0 ≤ (l.foldl (fun r d => wider r (f d)) r).1 ∧ (l.foldl (fun r d => wider r (f d)) r).1 ≤ 1000 ∧ 0 ≤ (l.foldl (fun r d => wider r (f d)) r).2 ∧ (l.foldl (fun r d => wider r (f d)) r).2 ≤ 1000 := by
      intro l
      induction l with
      | nil => intro r _ h; exact h
      | cons x l ih =>
        intro r hd h
        refine ih _ (fun d hd' => hd d (List.mem_cons_of_mem _ hd')) ?_
        have := hf x (hd x List.mem_cons_self)
        simp only [wider]
        omega
    have h0 := hf d (hdry d List.mem_cons_self)
    exact key l _ (fun x hx => hdry x (List.mem_cons_of_mem _ hx)) ⟨h0.1, h0.2, h0.1, h0.2⟩

set_option maxRecDepth 100000 in
theorem done_calls {A1 A2 A3 At Ap : Option Addr} {n1 k1 n2 k2 n3 k3 nt kt np kp bw : Nat} {c : Clo} {tr : List (List Int)} {vm : Value} {p : List Int} (w : World)
    (hw : WK w bw c A1 n1 k1 A2 n2 k2 A3 n3 k3 At nt kt tr vm) (ok : OkH c) (hp : RI w Ap np p) (hpl : IsPl c p) (hdry : ∀ d ∈ tr, IsDry c d) (hn : nt ≤ 1000000) :
    Calls Try.prog 85 #[.pointer (some ⟨bw, 0, none⟩), .slice Ap np kp] w fun e w' => e = .returned (.tuple #[.int .i64 (doneP c tr p).1, .int .i64 (doneP c tr p).2]) ∧ Later w w' := by
  have hn1 := hw.cv.hs.len
  have hl4 := ok.len
  have hn4 : n1 ≤ 4 := by omega
  have Hn1 := hide hn1
  have hcl : ∀ W, Later w W → W.cell? ⟨bw, 2, none⟩ = some (.slice A1 n1 k1) := fun W hW => (hw.later hW).cells 2
  have hcl0 := hcl w (later_refl _)
  have hbw := hw.lt
  have Hd0 := hide (show doneP c tr p = doneG (goodP c tr p) (n1 - 0) 0 0 by rw [Nat.sub_zero, hn1]; rfl)
  clear hn1
  go_enter Try.func85, Try.ntmps85
  go_wp2_with fail
  go_loopw [14, 4] (fun i m wr => ∃ (j : Nat) (q : Int), j ≤ n1 ∧ i = .int .i64 j ∧ m = .int .i64 q ∧ Hid (doneP c tr p = doneG (goodP c tr p) (n1 - j) j q) ∧ Later w wr) (fun i _ _ => n1 - (intOf i).toNat)
  case atStart => exact ⟨0, 0, Nat.zero_le _, rfl, rfl, Hd0, later_refl _⟩
  case round =>
    obtain ⟨j, q, hj, rfl, rfl, Hd, hL⟩ := hrel
    clear Hd0
    by_cases hlt : j < n1
    · obtain ⟨⟨g1, g2⟩, hg⟩ : ∃ r, goodP c tr p j = r := ⟨_, rfl⟩
      have hi1 : (j : Int) < n1 := by omega
      have hgc := good_calls (kp := kp) (w := wr) (hw.later hL) ok (hp.later hL) hpl hdry hn hlt hg
      have hstep : doneG (goodP c tr p) (n1 - j) j q = if g2 < g1 then (0, (j : Int)) else doneG (goodP c tr p) (n1 - (j + 1)) (j + 1) (max q g1) := by
        rw [show n1 - j = (n1 - (j + 1)) + 1 by omega]
        simp only [doneG, hg]
      have Hgc := hide hgc
      have Hstep := hide hstep
      clear hg hgc hstep
      cases hnone : decide (g2 < g1) with
      | true =>
        have H2 := hide (show doneP c tr p = (0, (j : Int)) by rw [Hd.out, Hstep.out, if_pos (by simpa using hnone)])
        go_wp2_with fail
        refine Hgc.out.mono ?_
        rintro e w1 ⟨rfl, hL1⟩
        have hL2 := Later.trans hL hL1
        go_wp2_with fail
        refine (none_eq hnone _).mono ?_
        rintro e w2 ⟨rfl, hL3⟩
        go_wp2_with fail
        refine bodyPost_ret (v := .tuple #[.int .i64 0, .int .i64 (j : Int)]) ?_ rfl ⟨by rw [H2.out], Later.trans (later_alloc hL2 _) hL3⟩
        simp [results, Try.results85, go_sem]
      | false =>
        have H2 := hide (show doneP c tr p = doneG (goodP c tr p) (n1 - (j + 1)) (j + 1) (max q g1) by rw [Hd.out, Hstep.out, if_neg (by simpa using hnone)])
        go_wp2_with fail
        refine Hgc.out.mono ?_
        rintro e w1 ⟨rfl, hL1⟩
        have hL2 := Later.trans hL hL1
        go_wp2_with fail
        refine (none_eq hnone _).mono ?_
        rintro e w2 ⟨rfl, hL3⟩
        have hb := box_cells w1 #[.int .i64 g1, .int .i64 g2] 61 w2 hL3 0
        simp only [List.getElem?_toArray, List.getElem?_cons_zero, List.getElem?_cons_succ] at hb
        have hL4 := Later.trans (later_alloc hL2 (.cells #[.int .i64 g1, .int .i64 g2] 61)) hL3
        rcases Int.lt_or_le q g1 with hmx | hmx
        · have hmm : max q g1 = g1 := by omega
          rw [hmm] at H2
          clear hmm
          go_wp2_with fail
          go_roundw
          case rel => exact ⟨j + 1, g1, by omega, by go_num, rfl, H2, hL4⟩
          case measure => simp [intOf]; omega
        · have hmm : max q g1 = q := by omega
          rw [hmm] at H2
          clear hmm
          go_wp2_with fail
          go_roundw
          case rel => exact ⟨j + 1, q, by omega, by go_num, rfl, H2, hL4⟩
          case measure => simp [intOf]; omega
    · have H2 := hide (show doneP c tr p = (q, (n1 : Int)) by
        have := Hd.out
        rw [show n1 - j = 0 by omega] at this
        rw [this]; show (q, (j : Int)) = _; rw [show j = n1 by omega])
      have hcl2 := hcl _ hL
      go_wp2_with fail
      refine wp_region_ext (w0 := w) (by kernel_rfl) (by kernel_rfl) hL ?_; (repeat (first | go_big_quiet_step (((fail))) | quiet_step (((fail))))); refine wpQuiet_nil ?_; rintro w3 ⟨⟨_, hL3⟩, rfl⟩; (try dsimp only)
      go_wp2_with fail
      refine bodyPost_ret (v := .tuple #[.int .i64 q, .int .i64 (n1 : Int)]) ?_ rfl ⟨by rw [H2.out], hL3⟩
      simp [results, Try.results85, go_sem]
end Go.Proofs.Ytjilckjhdlabaaa

/- The two enumerations of dry numbers are permutations of each other; the program's truths are those of the reference, in another order. -/
namespace Go.Proofs.Ytjilckjhdlabaaa

theorem perm_flatMap_cons {α β : Type} (l : List α) (g : α → β) (h : α → List β) : List.Perm (l.flatMap fun x => g x :: h x) (l.map g ++ l.flatMap h) := by
  induction l with
  | nil => exact List.Perm.refl _
  | cons a l ih =>
    simp only [List.flatMap_cons, List.map_cons, List.cons_append]
    refine List.Perm.cons _ ?_
    refine (List.Perm.append_left (h a) ih).trans ?_
    rw [← List.append_assoc, ← List.append_assoc]
    exact List.Perm.append_right _ List.perm_append_comm
theorem perm_swap {α β γ : Type} (f : α → β → γ) (l : List α) (m : List β) : List.Perm (l.flatMap fun x => m.map (f x)) (m.flatMap fun y => l.map fun x => f x y) := by
  induction l with
  | nil => simp
  | cons a l ih =>
    simp only [List.flatMap_cons, List.map_cons]
    exact (List.Perm.append_left _ ih).trans (perm_flatMap_cons m (f a) _).symm
theorem range_mul_ (s m : Nat) : List.range (s * m) = (List.range m).flatMap fun j => (List.range s).map fun i => i + s * j := by
  induction m with
  | zero => simp
  | succ m ih =>
    rw [Nat.mul_succ, List.range_add, ih, List.range_succ, List.flatMap_append]
    congr 1
    simp only [List.flatMap_cons, List.flatMap_nil, List.append_nil]
    apply List.map_congr_left
    intro i _
    omega

def sizeN (h : Horse) : Nat := (h.hi - h.lo + 1).toNat
def prodN : List Horse → Nat
  | [] => 1
  | h :: hs => sizeN h * prodN hs
theorem dry_perm : ∀ (hs : List Horse), (∀ h ∈ hs, h.lo ≤ h.hi) → List.Perm (dryAll hs) ((List.range (prodN hs)).map fun (n : Nat) => nth hs n)
  | [], _ => by simp [dryAll, prodN, nth]
  | h :: hs, ok => by
    have e : (List.range (prodN (h :: hs))).map (fun (n : Nat) => nth (h :: hs) n) = (List.range (prodN hs)).flatMap fun (j : Nat) => (List.range (sizeN h)).map fun (i : Nat) => (h.lo + (i : Int)) :: nth hs (j : Int) := by
      rw [prodN, range_mul_, List.map_flatMap]
      congr 1
      funext j
      rw [List.map_map]
      apply List.map_congr_left
      intro i hi
      have hi' : i < sizeN h := by simpa using hi
      have hs1 : sizeH h = (sizeN h : Int) := by unfold sizeH sizeN; have := ok h List.mem_cons_self; omega
      have e1 : ((i + sizeN h * j : Nat) : Int) % (sizeN h : Int) = i := by
        rw [← Int.natCast_emod, Nat.add_mul_mod_self_left, Nat.mod_eq_of_lt hi']
      have e2 : ((i + sizeN h * j : Nat) : Int) / (sizeN h : Int) = j := by
        rw [← Int.natCast_ediv, Nat.add_mul_div_left _ _ (by omega), Nat.div_eq_of_lt hi', Nat.zero_add]
      simp only [Function.comp, nth, hs1, e1, e2]
    rw [e]
    have e3 : dryAll (h :: hs) = (List.range (sizeN h)).flatMap fun (i : Nat) => (dryAll hs).map ((h.lo + (i : Int)) :: ·) := by
      simp only [dryAll, rangeL, sizeN, List.flatMap_map]
    rw [e3]
    refine (perm_swap (fun (i : Nat) d => (h.lo + (i : Int)) :: d) _ _).trans ?_
    have ih := List.Perm.flatMap_right (fun d => (List.range (sizeN h)).map fun (i : Nat) => (h.lo + (i : Int)) :: d) (dry_perm hs fun x hx => ok x (List.mem_cons_of_mem _ hx))
    rw [List.flatMap_map] at ih
    exact ih
theorem prodN_foldl : ∀ (l : List Horse) (a : Int), (∀ h ∈ l, h.lo ≤ h.hi) → l.foldl (fun n h => n * sizeH h) a = a * (prodN l : Int)
  | [], a, _ => by simp [prodN]
  | h :: l, a, ok => by
    have hs1 : sizeH h = (sizeN h : Int) := by unfold sizeH sizeN; have := ok h List.mem_cons_self; omega
    rw [List.foldl_cons, prodN_foldl l _ fun x hx => ok x (List.mem_cons_of_mem _ hx), prodN, hs1, Int.natCast_mul, Int.mul_assoc]
theorem many_prodN {c : Clo} (hf : fault c = 0) : (many c).toNat = prodN c.horses := by
  have ok := okC_of_fault hf
  have hz := fault_zero hf
  have h1 := many_prod (c := c) fun h hh => by have := ok.horse h hh; omega
  have h2 : prodTo c.horses = (prodN c.horses : Int) := by
    unfold prodTo
    rw [prodN_foldl _ _ fun h hh => by have := ok.horse h hh; omega]
    omega
  have := hz.2.2.2.2.2.2
  omega
theorem allDry_perm {c : Clo} (hf : fault c = 0) : List.Perm (dryAll c.horses) (allDry c) := by
  have ok := okC_of_fault hf
  unfold allDry
  rw [many_prodN hf]
  exact dry_perm _ fun h hh => by have := ok.horse h hh; omega

theorem rangeL_nodup (lo hi : Int) : (rangeL lo hi).Pairwise (· ≠ ·) := by
  unfold rangeL
  rw [List.pairwise_map]
  exact List.pairwise_lt_range.imp fun {a b} h => by omega
theorem dryAll_nodup : ∀ (hs : List Horse), (dryAll hs).Pairwise (· ≠ ·)
  | [] => by simp [dryAll]
  | h :: hs => by
    rw [dryAll, List.pairwise_flatMap]
    refine ⟨fun x _ => ?_, ?_⟩
    · rw [List.pairwise_map]
      exact (dryAll_nodup hs).imp fun {a b} hab e => hab (List.cons.inj e).2
    · refine (rangeL_nodup h.lo h.hi).imp fun {a b} hab x hx y hy e => ?_
      obtain ⟨x', _, rfl⟩ := List.mem_map.1 hx
      obtain ⟨y', _, rfl⟩ := List.mem_map.1 hy
      exact hab (List.cons.inj e).1
theorem dryAll_dry : ∀ (hs : List Horse), ∀ d ∈ dryAll hs, areNumbers hs d = true
  | [], d, h => by simp [dryAll] at h; subst h; rfl
  | h :: hs, d, hd => by
    simp only [dryAll, List.mem_flatMap, List.mem_map, rangeL, List.mem_range] at hd
    obtain ⟨x, ⟨i, hi, rfl⟩, d', hd', rfl⟩ := hd
    simp only [areNumbers, dryAll_dry hs d' hd', Bool.and_true, inB, Bool.and_eq_true, decide_eq_true_eq]
    omega
theorem dryAll_isDry (c : Clo) : ∀ d ∈ dryAll c.horses, IsDry c d := fun d hd => (isDry_iff c d).1 (dryAll_dry _ d hd)

/-! ### the program's truths -/
def keepStep (c : Clo) (acc : List (List Int)) (d : List Int) : List (List Int) :=
  if rightP c (pad4 d) [] = true ∧ (acc = [] ∨ pad4 (acc.getLastD []) ≠ pad4 d) then acc ++ [d] else acc
def truthsP (c : Clo) : List (List Int) := (dryAll c.horses).foldl (keepStep c) []

theorem pad4_inj {a b : List Int} (h : a.length = b.length) (h4 : a.length ≤ 4) (e : pad4 a = pad4 b) : a = b := by
  apply List.ext_getElem h
  intro i h1 h2
  simp only [pad4, List.cons.injEq] at e
  have : i = 0 ∨ i = 1 ∨ i = 2 ∨ i = 3 := by omega
  have key : a.getD i 0 = b.getD i 0 := by
    rcases this with rfl | rfl | rfl | rfl
    · exact e.1
    · exact e.2.1
    · exact e.2.2.1
    · exact e.2.2.2.1
  rw [List.getD_eq_getElem?_getD, List.getD_eq_getElem?_getD, List.getElem?_eq_getElem h1, List.getElem?_eq_getElem h2] at key
  simpa using key
theorem keep_filter (c : Clo) (hl : c.horses.length ≤ 4) : ∀ (l acc : List (List Int)), (∀ d ∈ l, d.length = c.horses.length) → (∀ d ∈ acc, d.length = c.horses.length) → l.Pairwise (· ≠ ·) → (∀ d ∈ l, ∀ a ∈ acc, a ≠ d) →
    l.foldl (keepStep c) acc = acc ++ l.filter fun d => rightP c (pad4 d) []
  | [], acc, _, _, _, _ => by simp
  | d :: l, acc, h1, h2, h3, h4 => by
    have hd := h1 d List.mem_cons_self
    have hp := List.pairwise_cons.1 h3
    have hne : acc = [] ∨ pad4 (acc.getLastD []) ≠ pad4 d := by
      rcases List.eq_nil_or_concat acc with h | ⟨a, x, h⟩
      · exact .inl h
      · right
        intro e
        have hx : x ∈ acc := by rw [h]; simp
        have hlx := h2 x hx
        have e2 : acc.getLastD [] = x := by rw [h]; simp
        rw [e2] at e
        exact h4 d List.mem_cons_self x hx (pad4_inj (by omega) (by omega) e)
    rw [List.foldl_cons]
    cases hr : rightP c (pad4 d) [] with
    | true =>
      have e : keepStep c acc d = acc ++ [d] := by unfold keepStep; rw [if_pos ⟨hr, hne⟩]
      rw [e, keep_filter c hl l _ (fun x hx => h1 x (List.mem_cons_of_mem _ hx)) (fun x hx => by
        rcases List.mem_append.1 hx with h | h
        · exact h2 x h
        · simp at h; subst h; exact hd) hp.2 (fun x hx a ha => by
        rcases List.mem_append.1 ha with h | h
        · exact h4 x (List.mem_cons_of_mem _ hx) a h
        · simp at h; subst h; exact hp.1 x hx), List.filter_cons_of_pos (by simpa using hr)]
      simp
    | false =>
      have e : keepStep c acc d = acc := by unfold keepStep; rw [if_neg (by simp [hr])]
      rw [e, keep_filter c hl l _ (fun x hx => h1 x (List.mem_cons_of_mem _ hx)) h2 hp.2 (fun x hx a ha => h4 x (List.mem_cons_of_mem _ hx) a ha), List.filter_cons_of_neg (by simp [hr])]
theorem truthsP_filter {c : Clo} (ok : OkH c) : truthsP c = (dryAll c.horses).filter fun d => rightP c (pad4 d) [] := by
  have := keep_filter c ok.len (dryAll c.horses) [] (fun d hd => (dryAll_isDry c d hd).len) (by simp) (dryAll_nodup _) (by simp)
  simpa [truthsP] using this

theorem bitsOf_testBit : ∀ (l : List Bool) (i : Nat), (bitsOf l).testBit i = l.getD i false
  | [], i => by simp [bitsOf]
  | b :: l, 0 => by cases b <;> simp [bitsOf, Nat.testBit_zero] <;> omega
  | b :: l, i + 1 => by
    rw [Nat.testBit_succ]
    have : bitsOf (b :: l) / 2 = bitsOf l := by simp only [bitsOf]; have := Bool.toNat_le b; omega
    rw [this, bitsOf_testBit l i]; simp
theorem full_testBit (c : Clo) (i : Nat) : (full c).testBit i = decide (i < c.looks.length) := by
  unfold full; rw [Nat.testBit_two_pow_sub_one]
theorem minutesP_getD {c : Clo} (ok : OkC c) {d : List Int} {l : Look} (hl : l ∈ c.looks) : (minutesP c c.hung (pad4 d)).getD l.horse.toNat 0 = minuteR c c.hung d l.horse.toNat := by
  have h := ok.looks l hl
  have h4 := ok.len
  rw [List.getD_eq_getElem?_getD, minutesP_get ok.hung (by omega) (by omega), Option.getD_some, minuteR_pad4 _ _ _ _ (by omega)]
theorem rightP_iff {c : Clo} (ok : OkC c) {d : List Int} (out : List Int) : rightP c (pad4 d) out = true ↔ ∀ (j : Nat) (l : Look), c.looks[j]? = some l → (j : Int) ∈ out ∨ okL c d l = true := by
  unfold rightP
  rw [List.all_eq_true]
  constructor
  · intro h j l hj
    have hlt : j < c.looks.length := (List.getElem?_eq_some_iff.1 hj).1
    have h1 := h j (by simpa using hlt)
    unfold lookF lookP at h1
    rw [List.getD_eq_getElem?_getD, hj, Option.getD_some, minutesP_getD ok (List.mem_of_getElem? hj)] at h1
    rcases Bool.or_eq_true _ _ ▸ h1 with h2 | h2
    · exact .inl (List.contains_iff_mem.1 h2)
    · right; unfold okL; rw [Bool.beq_comm]; exact h2
  · intro h j hj
    have hlt : j < c.looks.length := by simpa using hj
    have h1 := h j _ (List.getElem?_eq_getElem hlt)
    unfold lookF lookP
    rw [List.getD_eq_getElem?_getD, List.getElem?_eq_getElem hlt, Option.getD_some, minutesP_getD ok (List.getElem_mem hlt), Bool.or_eq_true]
    rcases h1 with h2 | h2
    · exact .inl (List.contains_iff_mem.2 h2)
    · right; unfold okL at h2; rw [Bool.beq_comm]; exact h2
theorem rightBits_testBit (c : Clo) (d : List Int) (i : Nat) : (rightBits c d).testBit i = (c.looks.map (okL c d)).getD i false := bitsOf_testBit _ _
theorem rightBits_full (c : Clo) (d : List Int) : (rightBits c d == full c) = true ↔ ∀ (j : Nat) (l : Look), c.looks[j]? = some l → okL c d l = true := by
  rw [beq_iff_eq]
  constructor
  · intro h j l hj
    have hlt : j < c.looks.length := (List.getElem?_eq_some_iff.1 hj).1
    have h1 := congrArg (fun n => n.testBit j) h
    simp only [rightBits_testBit, full_testBit] at h1
    rw [List.getD_eq_getElem?_getD, List.getElem?_map, hj] at h1
    simpa [hlt] using h1
  · intro h
    apply Nat.eq_of_testBit_eq
    intro i
    rw [rightBits_testBit, full_testBit]
    rcases Nat.lt_or_ge i c.looks.length with hlt | hge
    · rw [List.getD_eq_getElem?_getD, List.getElem?_map, List.getElem?_eq_getElem hlt]
      simp [hlt, h i _ (List.getElem?_eq_getElem hlt)]
    · rw [List.getD_eq_getElem?_getD, List.getElem?_eq_none (by simpa using hge)]
      simp; omega
theorem rightP_full {c : Clo} (ok : OkC c) (d : List Int) : rightP c (pad4 d) [] = (rightBits c d == full c) := by
  rw [Bool.eq_iff_iff, rightP_iff ok, rightBits_full]
  simp
theorem truthsP_perm {c : Clo} (hf : fault c = 0) : List.Perm (truthsP c) (truths c) := by
  have ok := okC_of_fault hf
  rw [truthsP_filter ok.toOkH]
  unfold truths
  have e : (fun d => rightP c (pad4 d) []) = fun d => rightBits c d == full c := funext fun d => rightP_full ok d
  rw [e]
  exact (allDry_perm hf).filter _
theorem truthsP_isDry {c : Clo} (ok : OkH c) : ∀ d ∈ truthsP c, IsDry c d := fun d hd => by
  rw [truthsP_filter ok] at hd
  exact dryAll_isDry c d (List.mem_filter.1 hd).1
end Go.Proofs.Ytjilckjhdlabaaa

/- The reference's IsPlace, Size, Is, Many: walks. -/
namespace Go.Proofs.Ytjilckjhdlabaaa
open Go Go.RowKit

theorem IsPlace_calls {A1 A2 A3 : Option Addr} {n1 k1 n2 k2 n3 k3 : Nat} {c : Clo} {Ap : Option Addr} {np kp : Nat} {p : List Int} (w : World) (hc : CV w c A1 n1 A2 n2 A3 n3) (hp : RI w Ap np p)
    (hcl : i64 c.closets) (hmp : np ≤ 1000000) (hmh : n1 ≤ 1000000) :
    Calls Try.prog 29 #[(.agg #[.int .i64 c.closets, .int .i64 c.close, .slice A1 n1 k1, .slice A2 n2 k2, .slice A3 n3 k3]), .slice Ap np kp] w fun e w' => e = .returned (.bool (isPlaceB c p)) ∧ Later w w' := by
  have hnp := hp.len
  have hn1 := hc.hs.len
  have hbox := box_cells w #[.int .i64 c.closets, .int .i64 c.close, .slice A1 n1 k1, .slice A2 n2 k2, .slice A3 n3 k3] 26
  by_cases hne : np = n1
  · have hfin : isPlaceB c p = plAux (wrap64 (c.closets - 1)) [] p := by
      unfold isPlaceB; rw [show (p.length == c.horses.length) = true from by simp; omega, Bool.true_and, wr64_eq]
    have Hfin := hide hfin
    have hneb : ((np : Int) != (n1 : Int)) = false := by rw [bne_eq_false_iff_eq]; omega
    have Hn := hide hne
    have Hnp := hide hnp
    have Hn1 := hide hn1
    clear hne hnp hn1 hfin
    go_enter Try.func29, Try.ntmps29
    go_wp2_with fail
    go_loopw [5] (fun i wr => ∃ j : Nat, j ≤ np ∧ i = .int .i64 j ∧ plAux (wrap64 (c.closets - 1)) [] p = plAux (wrap64 (c.closets - 1)) (p.take j) (p.drop j) ∧ Later (w.alloc (.cells #[.int .i64 c.closets, .int .i64 c.close, .slice A1 n1 k1, .slice A2 n2 k2, .slice A3 n3 k3] 26)) wr) (fun i _ => np - (intOf i).toNat)
    case atStart => exact ⟨0, Nat.zero_le _, rfl, rfl, later_refl _⟩
    case round =>
      obtain ⟨j, hj, rfl, hrec, hL⟩ := hrel
      by_cases hlt : j < np
      · obtain ⟨b, o, x, rfl, _, hx, hcx⟩ := (hp.later (later_alloc (later_refl w) (.cells #[.int .i64 c.closets, .int .i64 c.close, .slice A1 n1 k1, .slice A2 n2 k2, .slice A3 n3 k3] 26))).get hlt
        obtain ⟨hpj, rfl⟩ := List.getElem?_eq_some_iff.1 hx
        rw [List.drop_eq_getElem_cons hpj] at hrec
        have hrec2 : plAux (wrap64 (c.closets - 1)) [] p = (inB p[j] 0 (wrap64 (c.closets - 1)) && !((p.take j).contains p[j]) && plAux (wrap64 (c.closets - 1)) (p.take j ++ [p[j]]) (p.drop (j + 1))) := hrec
        have Hrec := hide hrec2
        have Hx := hide hx
        clear hrec hx hrec2
        have hidx : (0 : Int) ≤ (j : Int) := by omega
        have hidx2 : (j : Int) < (np : Int) := by omega
        by_cases hin : inB p[j] 0 (wrap64 (c.closets - 1)) = true
        · go_wp2_with fail
          go_quiet ((go_at_call 44; exact Calls.quiet_of_same ((In_calls _ _ _ _).mono fun _ _ h => ⟨h.1, h.2.symm⟩)))
          go_wp2_with fail
          obtain ⟨wo, hwo⟩ : ∃ wo : World, wo = wr.drewN nq := ⟨_, rfl⟩
          have hLo : Later (w.alloc (.cells #[.int .i64 c.closets, .int .i64 c.close, .slice A1 n1 k1, .slice A2 n2 k2, .slice A3 n3 k3] 26)) wo := by rw [hwo]; simp [hL]
          rw [← hwo]
          clear hwo hL
          go_loopw [6] (fun i wr => ∃ t : Nat, t ≤ j ∧ i = .int .i64 t ∧ (∀ s, s < t → p[s]? ≠ some p[j]) ∧ Later (w.alloc (.cells #[.int .i64 c.closets, .int .i64 c.close, .slice A1 n1 k1, .slice A2 n2 k2, .slice A3 n3 k3] 26)) wr) (fun i _ => j - (intOf i).toNat)
          case atStart => exact ⟨0, Nat.zero_le _, rfl, by intro s hs; omega, hLo⟩
          case round =>
            obtain ⟨t, ht, rfl, hno, hL⟩ := hrel
            by_cases htj : t < j
            · obtain ⟨y, hy, hcy⟩ := (hp.later (later_alloc (later_refl w) (.cells #[.int .i64 c.closets, .int .i64 c.close, .slice A1 n1 k1, .slice A2 n2 k2, .slice A3 n3 k3] 26))).at_ (k := t) (by omega)
              obtain ⟨hpt, rfl⟩ := List.getElem?_eq_some_iff.1 hy
              have htn : (t : Int) < (np : Int) := by omega
              have Hy := hide hy
              have Hno := hide hno
              clear hy hno
              by_cases he : p[t] = p[j]
              · have hf : plAux (wrap64 (c.closets - 1)) [] p = false := by
                  rw [Hrec.out, show (p.take j).contains p[j] = true from by rw [List.contains_iff_mem, List.mem_take_iff_getElem]; exact ⟨t, by omega, he⟩]; simp
                have Hf := hide hf
                have heb : (p[t] == p[j]) = true := by simp [he]
                clear hf he
                go_wp2_with fail
                go_quiet (fail)
                go_wp2_with fail
                go_ret
                exact ⟨by rw [Hfin.out, Hf.out]; rfl, Later.trans (by simp) (show Later (w.alloc (.cells #[.int .i64 c.closets, .int .i64 c.close, .slice A1 n1 k1, .slice A2 n2 k2, .slice A3 n3 k3] 26)) _ by simp [hL])⟩
              · have heb : (p[t] == p[j]) = false := by simp [he]
                clear he
                have Heb := hide heb
                go_wp2_with fail
                go_quiet (fail)
                go_wp2_with fail
                go_roundw
                case rel =>
                  refine ⟨t + 1, by omega, by go_num, ?_, by simp [hL]⟩
                  intro s hs
                  rcases Nat.lt_succ_iff_lt_or_eq.1 hs with h | rfl
                  · exact Hno.out s h
                  · rw [Hy.out]; have := Heb.out; simpa using this
                case measure => simp [intOf]; omega
            · have htj' : t = j := by omega
              subst htj'
              have hcon : (p.take t).contains p[t] = false := by
                rw [← Bool.not_eq_true, List.contains_iff_mem, List.mem_take_iff_getElem]
                rintro ⟨s, hs, he⟩
                exact hno s (by omega) (by rw [← he]; exact List.getElem?_eq_getElem (by omega))
              rw [hin, hcon, Bool.true_and, Bool.not_false, Bool.true_and] at Hrec
              have Hno := hide hno
              clear hno hcon
              go_wp2_with fail
              go_roundw
              case rel => exact ⟨t + 1, by omega, by go_num, by rw [Hrec.out, List.take_succ_eq_append_getElem hpj], hL⟩
              case measure => simp [intOf]; omega
        · have hin' : inB p[j] 0 (wrap64 (c.closets - 1)) = false := by simpa using hin
          have hf : plAux (wrap64 (c.closets - 1)) [] p = false := by rw [Hrec.out, hin']; simp
          have Hf := hide hf
          clear hf hin
          go_wp2_with fail
          go_quiet ((go_at_call 44; exact Calls.quiet_of_same ((In_calls _ _ _ _).mono fun _ _ h => ⟨h.1, h.2.symm⟩)))
          go_wp2_with fail
          go_ret
          exact ⟨by rw [Hfin.out, Hf.out]; rfl, Later.trans (by simp) (show Later (w.alloc (.cells #[.int .i64 c.closets, .int .i64 c.close, .slice A1 n1 k1, .slice A2 n2 k2, .slice A3 n3 k3] 26)) _ by simp [hL])⟩
      · have hjn : j = np := by omega
        have hd : p.drop j = [] := List.drop_eq_nil_of_le (by have := Hnp.out; omega)
        rw [hd] at hrec
        have Hrec := hide hrec
        clear hrec hd hjn
        go_wp2_with fail
        go_ret
        exact ⟨by rw [Hfin.out, Hrec.out]; rfl, Later.trans (by simp) hL⟩
  · have hfin : isPlaceB c p = false := by
      unfold isPlaceB; rw [show (p.length == c.horses.length) = false from by simp; omega]; rfl
    have Hfin := hide hfin
    have hneb : ((np : Int) != (n1 : Int)) = true := by rw [bne_iff_ne]; omega
    clear hne hnp hn1 hfin
    go_enter Try.func29, Try.ntmps29
    go_wp2_with fail
    go_ret
    exact ⟨by rw [Hfin.out]; rfl, by simp⟩
end Go.Proofs.Ytjilckjhdlabaaa

/- The reference's Size, Is, Many, AreNumbers: walks. -/
namespace Go.Proofs.Ytjilckjhdlabaaa
open Go Go.RowKit

theorem Size_calls {h : Horse} (w : World) (b1 : -1000000 ≤ h.lo ∧ h.lo ≤ 1000000) (b2 : -1000000 ≤ h.hi ∧ h.hi ≤ 1000000) :
    Calls Try.prog 93 #[.agg #[.int .i64 h.lo, .int .i64 h.hi]] w fun e w' => e = .returned (.int .i64 (sizeH h)) ∧ Later w w' := by
  go_enter Try.func93, Try.ntmps93
  go_wp2_with fail
  go_ret
  exact ⟨rfl, by simp⟩

theorem Is_calls (n lo hi : Int) (w : World) :
    Calls Try.prog 108 #[.int .i64 n, .agg #[.int .i64 lo, .int .i64 hi]] w fun e w' => e = .returned (.bool (inB n lo hi)) ∧ Later w w' := by
  go_enter Try.func108, Try.ntmps108
  go_wp2_with (go_at_call 44; refine (In_calls _ _ _ _).mono ?_; rintro e w' ⟨rfl, rfl⟩)
  go_ret
  exact ⟨rfl, by simp⟩

theorem sizeH_range {h : Horse} (k : 1 ≤ h.lo ∧ h.lo ≤ h.hi ∧ h.hi ≤ 60) : 1 ≤ sizeH h ∧ sizeH h ≤ 60 := by unfold sizeH; omega
theorem many_aux {l : List Horse} (ok : ∀ h ∈ l, 1 ≤ h.lo ∧ h.lo ≤ h.hi ∧ h.hi ≤ 60) (a : Int) (ha : 1 ≤ a ∧ a ≤ 3000) :
    1 ≤ l.foldl (fun n h => min 3000 (n * sizeH h)) a ∧ l.foldl (fun n h => min 3000 (n * sizeH h)) a ≤ 3000 := by
  induction l generalizing a with
  | nil => exact ha
  | cons h l ih =>
    refine ih (fun x hx => ok x (List.mem_cons_of_mem _ hx)) _ ?_
    have := sizeH_range (ok h List.mem_cons_self)
    have h1 : 1 * 1 ≤ a * sizeH h := Int.mul_le_mul (by omega) (by omega) (by omega) (by omega)
    show 1 ≤ min 3000 (a * sizeH h) ∧ min 3000 (a * sizeH h) ≤ 3000
    omega
theorem many_range {c : Clo} (ok : ∀ h ∈ c.horses, 1 ≤ h.lo ∧ h.lo ≤ h.hi ∧ h.hi ≤ 60) : 1 ≤ many c ∧ many c ≤ 3000 := many_aux ok 1 (by omega)

def manyTo (c : Clo) (j : Nat) : Int := (c.horses.take j).foldl (fun n h => min 3000 (n * sizeH h)) 1

theorem Many_calls {A1 A2 A3 : Option Addr} {n1 k1 n2 k2 n3 k3 : Nat} {c : Clo} (w : World) (hc : CV w c A1 n1 A2 n2 A3 n3) (ok : ∀ h ∈ c.horses, 1 ≤ h.lo ∧ h.lo ≤ h.hi ∧ h.hi ≤ 60) (hl : n1 ≤ 1000000) :
    Calls Try.prog 47 #[(.agg #[.int .i64 c.closets, .int .i64 c.close, .slice A1 n1 k1, .slice A2 n2 k2, .slice A3 n3 k3])] w fun e w' => e = .returned (.int .i64 (many c)) ∧ Later w w' := by
  have hn1 := hc.hs.len
  have hbox := box_cells w #[.int .i64 c.closets, .int .i64 c.close, .slice A1 n1 k1, .slice A2 n2 k2, .slice A3 n3 k3] 26
  have Hn1 := hide hn1
  clear hn1
  go_enter Try.func47, Try.ntmps47
  go_wp2_with fail
  go_loopw [3, 4] (fun a i wr => ∃ j : Nat, j ≤ n1 ∧ i = .int .i64 j ∧ a = .int .i64 (manyTo c j) ∧ Later (w.alloc (.cells #[.int .i64 c.closets, .int .i64 c.close, .slice A1 n1 k1, .slice A2 n2 k2, .slice A3 n3 k3] 26)) wr) (fun _ i _ => n1 - (intOf i).toNat)
  case atStart => exact ⟨0, Nat.zero_le _, rfl, rfl, later_refl _⟩
  case round =>
    obtain ⟨j, hj, rfl, rfl, hL⟩ := hrel
    by_cases hlt : j < n1
    · obtain ⟨b, o, x, rfl, _, hx, h0, h1, h2, h3⟩ := (hc.hs.later (later_alloc (later_refl w) (.cells #[.int .i64 c.closets, .int .i64 c.close, .slice A1 n1 k1, .slice A2 n2 k2, .slice A3 n3 k3] 26))).get hlt
      have okx := ok x (List.mem_of_getElem? hx)
      have hs := sizeH_range okx
      have hm := many_aux (l := c.horses.take j) (fun h hh => ok h (List.mem_of_mem_take hh)) 1 (by omega)
      have hmt : 1 ≤ manyTo c j ∧ manyTo c j ≤ 3000 := hm
      have hnext : manyTo c (j + 1) = min 3000 (manyTo c j * sizeH x) := by
        unfold manyTo; rw [List.take_add_one, hx]; simp [List.foldl_append]
      have hp1 : 0 ≤ manyTo c j * sizeH x := Int.mul_nonneg (by omega) (by omega)
      have hp2 : manyTo c j * sizeH x ≤ 3000 * 60 := Int.mul_le_mul (by omega) (by omega) (by omega) (by omega)
      have Hx := hide hx
      have Hnext := hide hnext
      clear hx hnext h2 h3 hm
      go_wp2_with fail
      refine (Size_calls _ (by omega) (by omega)).mono ?_
      rintro e w1 ⟨rfl, hL1⟩
      have hL2 := Later.trans hL hL1
      go_wp2_with fail
      go_roundw
      case rel => exact ⟨j + 1, by omega, by go_num, by rw [Hnext.out]; congr 1; split <;> omega, hL2⟩
      case measure => simp [intOf]; omega
    · have hjn : manyTo c j = many c := by
        unfold manyTo many; rw [List.take_of_length_le (by have := Hn1.out; omega)]
      have Hjn := hide hjn
      clear hjn
      go_wp2_with fail
      go_ret
      exact ⟨ret_int Hjn.out, Later.trans (by simp) hL⟩

theorem areNumbers_len : ∀ (l : List Horse) (d : List Int), areNumbers l d = true → d.length = l.length
  | [], [], _ => rfl
  | h :: l, x :: d, k => by
    simp only [areNumbers, Bool.and_eq_true] at k
    simp [areNumbers_len l d k.2]

theorem AreNumbers_calls {A1 A2 A3 : Option Addr} {n1 k1 n2 k2 n3 k3 : Nat} {c : Clo} {Ap : Option Addr} {np kp : Nat} {p : List Int} (w : World) (hc : CV w c A1 n1 A2 n2 A3 n3) (hp : RI w Ap np p) (hl : n1 ≤ 1000000) (hm : np ≤ 1000000) :
    Calls Try.prog 60 #[(.agg #[.int .i64 c.closets, .int .i64 c.close, .slice A1 n1 k1, .slice A2 n2 k2, .slice A3 n3 k3]), .slice Ap np kp] w fun e w' => e = .returned (.bool (areNumbers c.horses p)) ∧ Later w w' := by
  have hnp := hp.len
  have hn1 := hc.hs.len
  obtain ⟨w0, hw0⟩ : ∃ W, W = (w.alloc (.cells #[.int .i64 c.closets, .int .i64 c.close, .slice A1 n1 k1, .slice A2 n2 k2, .slice A3 n3 k3] 26)) := ⟨_, rfl⟩; have hbox : ∀ W, Later w0 W → ∀ i, W.cell? ⟨w.heap.size, i, none⟩ = #[.int .i64 c.closets, .int .i64 c.close, .slice A1 n1 k1, .slice A2 n2 k2, .slice A3 n3 k3][i]? := (by rw [hw0]; exact box_cells w #[.int .i64 c.closets, .int .i64 c.close, .slice A1 n1 k1, .slice A2 n2 k2, .slice A3 n3 k3] 26); have hL0 : Later w w0 := (by rw [hw0]; simp); have hc0 := hc.later hL0; have Hw0 := hide hw0; clear hw0
  have hp0 := hp.later hL0
  have Hnp := hide hnp
  have Hn1 := hide hn1
  by_cases hne : np = n1
  · have hneb : ((np : Int) != (n1 : Int)) = false := by rw [bne_eq_false_iff_eq]; omega
    have Hn := hide hne
    clear hne hnp hn1
    go_enter Try.func60, Try.ntmps60
    go_wp2_with fail
    rw [← Hw0.out]; clear Hw0
    go_loopw [5] (fun i wr => ∃ j : Nat, j ≤ np ∧ i = .int .i64 j ∧ areNumbers c.horses p = areNumbers (c.horses.drop j) (p.drop j) ∧ Later w0 wr) (fun i _ => np - (intOf i).toNat)
    case atStart => exact ⟨0, Nat.zero_le _, rfl, rfl, later_refl _⟩
    case round =>
      obtain ⟨j, hj, rfl, hrec, hL⟩ := hrel
      by_cases hlt : j < np
      · have hlt1 : j < n1 := by have := Hn.out; omega
        obtain ⟨b, o, x, rfl, _, hx, hcx⟩ := hp0.get hlt
        obtain ⟨b', o', y, rfl, _, hy, h0, h1, h2, h3⟩ := hc0.hs.get hlt1
        have hi1 : (j : Int) < np := by omega
        have hi2 : (j : Int) < n1 := by omega
        obtain ⟨hpj, e1⟩ := List.getElem?_eq_some_iff.1 hx
        obtain ⟨hpj2, e2⟩ := List.getElem?_eq_some_iff.1 hy
        rw [List.drop_eq_getElem_cons hpj, List.drop_eq_getElem_cons hpj2, e1, e2] at hrec
        have hrec2 : areNumbers c.horses p = (inB x y.lo y.hi && areNumbers (c.horses.drop (j + 1)) (p.drop (j + 1))) := hrec
        have Hrec := hide hrec2
        clear hrec hrec2 hx hy e1 e2 h2 h3
        by_cases hin : inB x y.lo y.hi = true
        · rw [hin, Bool.true_and] at Hrec
          go_wp2_with fail
          go_region_held3 (fun W => Later w0 W) (simp [*]) (first | (go_at_call 108; refine (Is_calls _ _ _ _).mono ?_; rintro e w1 ⟨rfl, hL1⟩; have hL2 := Later.trans (show Later w0 _ by assumption) hL1))
          go_wp2_with fail
          go_roundw
          case rel => exact ⟨j + 1, by omega, by go_num, Hrec.out, hL2⟩
          case measure => simp [intOf]; omega
        · have hin' : inB x y.lo y.hi = false := by simpa using hin
          rw [hin', Bool.false_and] at Hrec
          clear hin
          go_wp2_with fail
          go_region_held3 (fun W => Later w0 W) (simp [*]) (first | (go_at_call 108; refine (Is_calls _ _ _ _).mono ?_; rintro e w1 ⟨rfl, hL1⟩; have hL2 := Later.trans (show Later w0 _ by assumption) hL1))
          go_wp2_with fail
          go_ret
          exact ⟨by rw [Hrec.out]; rfl, Later.trans hL0 hL2⟩
      · have hjn : j = np := by omega
        have hd : p.drop j = [] := List.drop_eq_nil_of_le (by have := Hnp.out; omega)
        have hd2 : c.horses.drop j = [] := List.drop_eq_nil_of_le (by have := Hn1.out; have := Hn.out; omega)
        rw [hd, hd2] at hrec
        have Hrec := hide hrec
        clear hrec hd hd2 hjn
        go_wp2_with fail
        go_ret
        exact ⟨by rw [Hrec.out]; rfl, Later.trans hL0 hL⟩
  · have hfin : areNumbers c.horses p = false := by
      rw [← Bool.not_eq_true]; intro h; have := areNumbers_len _ _ h; omega
    have Hfin := hide hfin
    have hneb : ((np : Int) != (n1 : Int)) = true := by rw [bne_iff_ne]; omega
    clear hne hnp hn1 hfin
    go_enter Try.func60, Try.ntmps60
    go_wp2_with fail
    rw [← Hw0.out]; clear Hw0
    go_ret
    exact ⟨by rw [Hfin.out]; rfl, hL0⟩
end Go.Proofs.Ytjilckjhdlabaaa

/- The reference's Fault: walk. -/
namespace Go.Proofs.Ytjilckjhdlabaaa
open Go Go.RowKit

theorem In_eq {n lo hi : Int} {b : Bool} (h : inB n lo hi = b) (w : World) :
    Calls Try.prog 44 #[.int .i64 n, .int .i64 lo, .int .i64 hi] w fun e w' => e = .returned (.bool b) ∧ w = w' := by
  have := In_calls n lo hi w; rw [h] at this; exact this
theorem horseOk_true {x : Horse} (h : horseOk x = true) : 1 ≤ x.lo ∧ x.lo ≤ x.hi ∧ x.hi ≤ 60 ∧ inB x.wet 0 9 = true ∧ inB x.grace 0 30 = true := by
  simpa [horseOk, and_assoc] using h
theorem horseOk_range {x : Horse} (h : horseOk x = true) : 1 ≤ x.lo ∧ x.lo ≤ x.hi ∧ x.hi ≤ 60 := ⟨(horseOk_true h).1, (horseOk_true h).2.1, (horseOk_true h).2.2.1⟩

set_option maxRecDepth 100000 in
set_option maxHeartbeats 1000000 in
theorem Fault_calls {A1 A2 A3 : Option Addr} {n1 k1 n2 k2 n3 k3 : Nat} {c : Clo} (w : World) (hc : CV w c A1 n1 A2 n2 A3 n3) (hcl : i64 c.closets) (hn1 : n1 ≤ 1000) (hn2 : n2 ≤ 1000) (hn3 : n3 ≤ 1000) :
    Calls Try.prog 82 #[(.agg #[.int .i64 c.closets, .int .i64 c.close, .slice A1 n1 k1, .slice A2 n2 k2, .slice A3 n3 k3])] w fun e w' => e = .returned (.int .i64 (fault c)) ∧ Later w w' := by
  have hl1 := hc.hs.len
  have hl3 := hc.lk.len
  by_cases hA : 4 < c.closets
  · have Hf : Hid (fault c = 3) := by unfold fault; rw [if_pos (by omega)]; rfl
    go_enter Try.func82, Try.ntmps82
    go_wp2_with fail
    go_ret
    exact ⟨ret_int Hf.out.symm, by simp⟩
  by_cases hB : 4 < n1
  · have Hf : Hid (fault c = 3) := by unfold fault; rw [if_pos (by omega)]; rfl
    have hB' : (4 : Int) < n1 := by omega
    clear hl1 hl3
    go_enter Try.func82, Try.ntmps82
    go_wp2_with fail
    go_ret
    exact ⟨ret_int Hf.out.symm, by simp⟩
  by_cases hC : 5 < n3
  · have Hf : Hid (fault c = 3) := by unfold fault; rw [if_pos (by omega)]; rfl
    have hB' : ¬ (4 : Int) < n1 := by omega
    have hC' : (5 : Int) < n3 := by omega
    clear hl1 hl3
    go_enter Try.func82, Try.ntmps82
    go_wp2_with fail
    go_ret
    exact ⟨ret_int Hf.out.symm, by simp⟩
  have hB' : ¬ (4 : Int) < n1 := by omega
  have hC' : ¬ (5 : Int) < n3 := by omega
  have Hf0 : Hid (fault c = if c.closets < 1 ∨ inB c.close 0 99 = false ∨ isPlaceB c c.hung = false then 1
    else if c.horses.all horseOk = false then 1 else if c.looks.all (lookOk c.horses.length) = false then 1 else if 2000 < many c then 3 else 0) := by
    unfold fault; rw [if_neg (by omega)]; rfl
  have Hl1 := hide hl1
  have Hl3 := hide hl3
  clear hl1 hl3
  obtain ⟨w0, hw0⟩ : ∃ W, W = (w.alloc (.cells #[.int .i64 c.closets, .int .i64 c.close, .slice A1 n1 k1, .slice A2 n2 k2, .slice A3 n3 k3] 26)) := ⟨_, rfl⟩; have hbox : ∀ W, Later w0 W → ∀ i, W.cell? ⟨w.heap.size, i, none⟩ = #[.int .i64 c.closets, .int .i64 c.close, .slice A1 n1 k1, .slice A2 n2 k2, .slice A3 n3 k3][i]? := (by rw [hw0]; exact box_cells w #[.int .i64 c.closets, .int .i64 c.close, .slice A1 n1 k1, .slice A2 n2 k2, .slice A3 n3 k3] 26); have hL0 : Later w w0 := (by rw [hw0]; simp); have hc0 := hc.later hL0; have Hw0 := hide hw0; clear hw0
  by_cases hD : c.closets < 1
  · rw [if_pos (Or.inl hD)] at Hf0
    go_enter Try.func82, Try.ntmps82
    go_wp2_with fail
    rw [← Hw0.out]; clear Hw0
    go_ret
    exact ⟨ret_int Hf0.out.symm, hL0⟩
  cases hE : inB c.close 0 99 with
  | false =>
    rw [if_pos (Or.inr (Or.inl hE))] at Hf0
    go_enter Try.func82, Try.ntmps82
    go_wp2_with (go_at_call 44; refine (In_calls _ _ _ _).mono ?_; rintro e w' ⟨rfl, rfl⟩)
    rw [← Hw0.out]; clear Hw0
    go_ret
    exact ⟨ret_int Hf0.out.symm, hL0⟩
  | true =>
  cases hF : isPlaceB c c.hung with
  | false =>
    rw [if_pos (Or.inr (Or.inr hF))] at Hf0
    go_enter Try.func82, Try.ntmps82
    go_wp2_with (go_at_call 44; refine (In_calls _ _ _ _).mono ?_; rintro e w' ⟨rfl, rfl⟩)
    rw [← Hw0.out]; clear Hw0
    refine (IsPlace_calls _ hc0 hc0.hu hcl (by omega) (by omega)).mono ?_
    rintro e w1 ⟨rfl, hL1⟩
    go_wp2_with fail
    go_ret
    exact ⟨ret_int Hf0.out.symm, Later.trans hL0 hL1⟩
  | true =>
  rw [if_neg (by simp [hE, hF]; omega)] at Hf0
  go_enter Try.func82, Try.ntmps82
  go_wp2_with (go_at_call 44; refine (In_calls _ _ _ _).mono ?_; rintro e w' ⟨rfl, rfl⟩)
  rw [← Hw0.out]; clear Hw0
  refine (IsPlace_calls _ hc0 hc0.hu hcl (by omega) (by omega)).mono ?_
  rintro e w1 ⟨rfl, hL1⟩
  go_wp2_with fail
  go_loopw [3] (fun i wr => ∃ j : Nat, j ≤ n1 ∧ i = .int .i64 j ∧ Later w0 wr ∧ (c.horses.take j).all horseOk = true) (fun i _ => n1 - (intOf i).toNat)
  case atStart => exact ⟨0, Nat.zero_le _, rfl, hL1, rfl⟩
  case round =>
    obtain ⟨j, hj, rfl, hL, hall⟩ := hrel
    by_cases hlt : j < n1
    · obtain ⟨b, o, x, rfl, _, hx, hx0, hx1, hx2, hx3⟩ := hc0.hs.get hlt
      have hi1 : (j : Int) < n1 := by omega
      have Hall := hide hall
      cases hok : horseOk x with
      | true =>
        obtain ⟨o1, o2, o3, o4, o5⟩ := horseOk_true hok
        have Hx := hide hx
        have Hok := hide hok
        clear hx hok hall
        go_wp2_with (go_at_call 44; refine (In_calls _ _ _ _).mono ?_; rintro e w' ⟨rfl, rfl⟩)
        go_roundw
        case rel =>
          refine ⟨j + 1, by omega, by go_num, by simp [hL], ?_⟩
          rw [List.take_add_one, Hx.out]
          simp only [Option.toList_some, List.all_append, Hall.out, Hok.out, List.all_cons, List.all_nil, Bool.true_and, Bool.and_true]
        case measure => simp [intOf]; omega
      | false =>
        have hbad : c.horses.all horseOk = false := by
          rw [← Bool.not_eq_true, List.all_eq_true]
          intro h
          rw [h x (List.mem_of_getElem? hx)] at hok; cases hok
        rw [if_pos hbad] at Hf0
        clear hbad hx hall
        by_cases o1 : x.lo < 1
        · clear hok
          go_wp2_with fail
          go_ret
          exact ⟨ret_int Hf0.out.symm, Later.trans hL0 (by simp [hL])⟩
        by_cases o2 : x.hi < x.lo
        · clear hok
          go_wp2_with fail
          go_ret
          exact ⟨ret_int Hf0.out.symm, Later.trans hL0 (by simp [hL])⟩
        by_cases o3 : 60 < x.hi
        · clear hok
          go_wp2_with fail
          go_ret
          exact ⟨ret_int Hf0.out.symm, Later.trans hL0 (by simp [hL])⟩
        cases o4 : inB x.wet 0 9 with
        | false =>
          clear hok
          go_wp2_with (go_at_call 44; refine (In_calls _ _ _ _).mono ?_; rintro e w' ⟨rfl, rfl⟩)
          go_ret
          exact ⟨ret_int Hf0.out.symm, Later.trans hL0 (by simp [hL])⟩
        | true =>
        cases o5 : inB x.grace 0 30 with
        | false =>
          clear hok
          go_wp2_with (go_at_call 44; refine (In_calls _ _ _ _).mono ?_; rintro e w' ⟨rfl, rfl⟩)
          go_ret
          exact ⟨ret_int Hf0.out.symm, Later.trans hL0 (by simp [hL])⟩
        | true =>
          exfalso
          simp [horseOk, o4, o5] at hok
          omega
    · have hall2 : c.horses.all horseOk = true := by
        rw [List.take_of_length_le (by have := Hl1.out; omega)] at hall; exact hall
      have okh : ∀ h ∈ c.horses, 1 ≤ h.lo ∧ h.lo ≤ h.hi ∧ h.hi ≤ 60 := fun h hh => horseOk_range (List.all_eq_true.1 hall2 h hh)
      rw [if_neg (by simp [hall2])] at Hf0
      clear hall hall2
      go_wp2_with fail
      obtain ⟨wo, hwo⟩ : ∃ W, W = wr := ⟨_, rfl⟩
      rw [← hwo] at hL
      rw [← hwo]
      clear hwo
      go_loopw [5] (fun i wr => ∃ j : Nat, j ≤ n3 ∧ i = .int .i64 j ∧ Later w0 wr ∧ (c.looks.take j).all (lookOk c.horses.length) = true) (fun i _ => n3 - (intOf i).toNat)
      case atStart => exact ⟨0, Nat.zero_le _, rfl, hL, rfl⟩
      case round =>
        obtain ⟨q, hq, rfl, hLq, hall⟩ := hrel
        by_cases hltq : q < n3
        · obtain ⟨b, o, x, rfl, _, hx, hx0, hx1, hx2⟩ := hc0.lk.get hltq
          have hi1 : (q : Int) < n3 := by omega
          have hT : ∀ e : Ext w0, Later w0 e.W := fun e => e.h
          have hw1 : IntKind.i64.wrap ((n1 : Int) - 1) = (n1 : Int) - 1 := IntWalk.i64_in _ (by omega)
          have hlk : lookOk c.horses.length x = (inB x.horse 0 ((n1 : Int) - 1) && inB x.minute 0 99) := by rw [Hl1.out]; rfl
          cases p1 : inB x.horse 0 ((n1 : Int) - 1) with
          | false =>
            have hbad : c.looks.all (lookOk c.horses.length) = false := by
              rw [← Bool.not_eq_true, List.all_eq_true]
              intro h
              have := h x (List.mem_of_getElem? hx)
              rw [hlk, p1] at this; cases this
            rw [if_pos hbad] at Hf0
            clear hbad hx hall hlk
            go_wp2_with fail
            refine wp_region_ext (w0 := w0) (by kernel_rfl) (by kernel_rfl) hLq ?_; (repeat (first | go_big_quiet_step (((go_at_call 44; exact calls_ext_same (by simp) (In_eq (by assumption) _)))) | quiet_step (((go_at_call 44; exact calls_ext_same (by simp) (In_eq (by assumption) _)))))); refine wpQuiet_nil ?_; rintro w3 ⟨⟨_, hL3⟩, rfl⟩; (try dsimp only)
            go_wp2_with fail
            go_ret
            exact ⟨ret_int Hf0.out.symm, Later.trans hL0 hL3⟩
          | true =>
          cases p2 : inB x.minute 0 99 with
          | false =>
            have hbad : c.looks.all (lookOk c.horses.length) = false := by
              rw [← Bool.not_eq_true, List.all_eq_true]
              intro h
              have := h x (List.mem_of_getElem? hx)
              rw [hlk, p1, p2] at this; cases this
            rw [if_pos hbad] at Hf0
            clear hbad hx hall hlk
            go_wp2_with fail
            refine wp_region_ext (w0 := w0) (by kernel_rfl) (by kernel_rfl) hLq ?_; (repeat (first | go_big_quiet_step (((go_at_call 44; exact calls_ext_same (by simp) (In_eq (by assumption) _)))) | quiet_step (((go_at_call 44; exact calls_ext_same (by simp) (In_eq (by assumption) _)))))); refine wpQuiet_nil ?_; rintro w3 ⟨⟨_, hL3⟩, rfl⟩; (try dsimp only)
            go_wp2_with fail
            go_ret
            exact ⟨ret_int Hf0.out.symm, Later.trans hL0 hL3⟩
          | true =>
            have hall2 : (c.looks.take (q + 1)).all (lookOk c.horses.length) = true := by
              rw [List.take_add_one, hx]
              simp only [Option.toList_some, List.all_append, hall, hlk, p1, p2, List.all_cons, List.all_nil, Bool.true_and, Bool.and_true]
            have Hall2 := hide hall2
            clear hall2 hx hall hlk
            go_wp2_with fail
            refine wp_region_ext (w0 := w0) (by kernel_rfl) (by kernel_rfl) hLq ?_; (repeat (first | go_big_quiet_step (((go_at_call 44; exact calls_ext_same (by simp) (In_eq (by assumption) _)))) | quiet_step (((go_at_call 44; exact calls_ext_same (by simp) (In_eq (by assumption) _)))))); refine wpQuiet_nil ?_; rintro w3 ⟨⟨_, hL3⟩, rfl⟩; (try dsimp only)
            go_wp2_with fail
            go_roundw
            case rel => exact ⟨q + 1, by omega, by go_num, hL3, Hall2.out⟩
            case measure => simp [intOf]; omega
        · have hall2 : c.looks.all (lookOk c.horses.length) = true := by
            rw [List.take_of_length_le (by have := Hl3.out; omega)] at hall; exact hall
          rw [if_neg (by simp [hall2])] at Hf0
          clear hall hall2
          go_wp2_with fail
          refine (Many_calls _ (hc0.later hLq) okh (by omega)).mono ?_
          rintro e w3 ⟨rfl, hL3⟩
          by_cases hm : 2000 < many c
          · rw [if_pos hm] at Hf0
            go_wp2_with fail
            go_ret
            exact ⟨ret_int Hf0.out.symm, Later.trans hL0 (Later.trans hLq hL3)⟩
          · rw [if_neg hm] at Hf0
            go_wp2_with fail
            go_ret
            exact ⟨ret_int Hf0.out.symm, Later.trans hL0 (Later.trans hLq hL3)⟩
end Go.Proofs.Ytjilckjhdlabaaa

/- The program's all (looks), CheckCloset: walks. -/
namespace Go.Proofs.Ytjilckjhdlabaaa
open Go Go.RowKit

theorem allL1_calls {A1 A2 A3 : Option Addr} {n1 k1 n2 k2 n3 k3 : Nat} {c : Clo} {bp : Nat} (x : Look) (w : World) (hn : n1 ≤ 1000000) (h : w.cell? ⟨bp, 0, none⟩ = some (.func (.func 102) #[(.agg #[.int .i64 c.closets, .int .i64 c.close, .slice A1 n1 k1, .slice A2 n2 k2, .slice A3 n3 k3])] #[])) :
    Calls Try.prog 126 #[.agg #[.int .i64 x.horse, .int .i64 x.minute, .bool x.dry], .pointer (some ⟨bp, 0, none⟩)] w fun e w' =>
      e = .returned (.bool (!lookOk n1 x)) ∧ Later w w' := by
  have hb : bp < w.heap.size := World.block_lt_of_cell? w ⟨bp, 0, none⟩ h
  have h2 := fun W k => cell_later (W := W) h k hb
  go_enter Try.func126, Try.ntmps126
  go_wp2_with fail
  refine (look_calls (c := c) x _ hn).mono ?_
  rintro e w1 ⟨rfl, hL1⟩
  go_wp2_with fail
  go_ret
  exact ⟨rfl, Later.trans (by simp) hL1⟩

theorem IndexFuncL_calls {A1 A2 A3 : Option Addr} {n1 k1 n2 k2 n3 k3 : Nat} {c : Clo} {A : Option Addr} {n k bp : Nat} {l : List Look} (w : World) (h : RL w A n l) (hn : n ≤ 1000000) (hm : n1 ≤ 1000000) (hb : w.cell? ⟨bp, 0, none⟩ = some (.func (.func 102) #[(.agg #[.int .i64 c.closets, .int .i64 c.close, .slice A1 n1 k1, .slice A2 n2 k2, .slice A3 n3 k3])] #[])) :
    Calls Try.prog 133 #[.slice A n k, .func (.func 126) #[] #[.pointer (some ⟨bp, 0, none⟩)]] w fun e w' =>
      e = .returned (.int .i64 (idxB (fun x => !lookOk n1 x) l 0)) ∧ Later w w' := by
  have hl := h.len
  have hbl : bp < w.heap.size := World.block_lt_of_cell? w ⟨bp, 0, none⟩ hb
  have hb2 := fun W k => cell_later (W := W) hb k hbl
  have Hl := hide hl
  clear hl
  go_enter Try.func133, Try.ntmps133
  go_wp2_with fail
  go_loopw [8] (fun i wr => ∃ j : Nat, j ≤ n ∧ i = .int .i64 j ∧ idxB (fun x => !lookOk n1 x) (l.drop j) j = idxB (fun x => !lookOk n1 x) l 0 ∧ Later w wr) (fun i _ => n - (intOf i).toNat)
  case atStart => exact ⟨0, Nat.zero_le _, rfl, rfl, later_refl _⟩
  case round =>
    obtain ⟨j, hj, rfl, hno, hL⟩ := hrel
    by_cases hlt : j < n
    · obtain ⟨b, o, y, rfl, _, hx, hc0, hc1, hc2⟩ := h.get hlt
      obtain ⟨hp, e1⟩ := List.getElem?_eq_some_iff.1 hx
      rw [List.drop_eq_getElem_cons hp, e1] at hno
      simp only [idxB] at hno
      have hi1 : (j : Int) < n := by omega
      have hcc := allL1_calls (c := c) y wr hm (hb2 _ hL)
      cases hok : lookOk n1 y with
      | true =>
        rw [hok] at hcc
        simp only [hok, Bool.not_true, Bool.false_eq_true, if_false] at hno
        have Hno := hide hno
        have Hcc := hide hcc
        clear hno hx hcc e1 hok
        go_wp2_with fail
        refine Hcc.out.mono ?_
        rintro e w1 ⟨rfl, hL1⟩
        have hL2 := Later.trans hL hL1
        go_wp2_with fail
        go_roundw
        case rel => exact ⟨j + 1, by omega, by go_num, by rw [← Hno.out]; rfl, hL2⟩
        case measure => simp [intOf]; omega
      | false =>
        rw [hok] at hcc
        simp only [hok, Bool.not_false, if_true] at hno
        have Hno := hide hno
        have Hcc := hide hcc
        clear hno hx hcc e1 hok
        go_wp2_with fail
        refine Hcc.out.mono ?_
        rintro e w1 ⟨rfl, hL1⟩
        go_wp2_with fail
        go_ret
        exact ⟨ret_int Hno.out, Later.trans hL hL1⟩
    · rw [List.drop_of_length_le (by have := Hl.out; omega)] at hno
      have Hno := hide hno
      clear hno
      go_wp2_with fail
      go_ret
      exact ⟨ret_int Hno.out, hL⟩

theorem allL_calls {A1 A2 A3 : Option Addr} {n1 k1 n2 k2 n3 k3 : Nat} {c : Clo} {A : Option Addr} {n k : Nat} {l : List Look} (w : World) (h : RL w A n l) (hn : n ≤ 1000000) (hm : n1 ≤ 1000000) :
    Calls Try.prog 106 #[.slice A n k, .func (.func 102) #[(.agg #[.int .i64 c.closets, .int .i64 c.close, .slice A1 n1 k1, .slice A2 n2 k2, .slice A3 n3 k3])] #[]] w fun e w' => e = .returned (.bool (l.all (lookOk n1))) ∧ Later w w' := by
  have hw : Later w (w.alloc (.cells #[.func (.func 102) #[(.agg #[.int .i64 c.closets, .int .i64 c.close, .slice A1 n1 k1, .slice A2 n2 k2, .slice A3 n3 k3])] #[]] 147)) := later_alloc (later_refl _) _
  have hb := box_cells w #[.func (.func 102) #[(.agg #[.int .i64 c.closets, .int .i64 c.close, .slice A1 n1 k1, .slice A2 n2 k2, .slice A3 n3 k3])] #[]] 147 _ (later_refl _) 0
  have hf := idxB_any (fun x => !lookOk n1 x) l 0 (by omega)
  have hf2 := not_any_not (lookOk n1) l
  rw [← hf] at hf2
  have Hf := hide hf2
  clear hf hf2
  go_enter Try.func106, Try.ntmps106
  go_wp2_with fail
  go_enter Try.func125, Try.ntmps125
  go_wp2_with fail
  refine (IndexFuncL_calls (c := c) _ (h.later hw) hn hm hb).mono ?_
  rintro e w1 ⟨rfl, hL1⟩
  generalize idxB (fun x => !lookOk n1 x) l 0 = q at *
  go_wp2_with fail
  go_ret
  exact ⟨by rw [← Hf.out]; rfl, Later.trans hw hL1⟩

theorem allH_eq {A : Option Addr} {n k : Nat} {l : List Horse} {b : Bool} (hb : l.all horseOk = b) (w : World) (h : RH w A n l) (hn : n ≤ 1000000) :
    Calls Try.prog 104 #[.slice A n k, .func (.func 105) #[] #[]] w fun e w' => e = .returned (.bool b) ∧ Later w w' := by
  have := allH_calls (k := k) w h hn; rw [hb] at this; exact this
theorem isPlace_eq {A1 A2 A3 : Option Addr} {n1 k1 n2 k2 n3 k3 : Nat} {c : Clo} {Ap : Option Addr} {np kp : Nat} {p : List Int} {b : Bool} (hb : isPlaceB c p = b) (w : World) (hc : CV w c A1 n1 A2 n2 A3 n3) (hp : RI w Ap np p) (hcap : np ≤ kp)
    (hmp : np ≤ 1000000) (hmh : n1 ≤ 1000000) :
    Calls Try.prog 84 #[(.agg #[.int .i64 c.closets, .int .i64 c.close, .slice A1 n1 k1, .slice A2 n2 k2, .slice A3 n3 k3]), .slice Ap np kp] w fun e w' => e = .returned (.bool b) ∧ Later w w' := by
  have := isPlace_calls (k1 := k1) (k2 := k2) (k3 := k3) w hc hp hcap hmp hmh; rw [hb] at this; exact this
theorem allL_eq {A1 A2 A3 : Option Addr} {n1 k1 n2 k2 n3 k3 : Nat} {c : Clo} {A : Option Addr} {n k : Nat} {l : List Look} {b : Bool} (hb : l.all (lookOk n1) = b) (w : World) (h : RL w A n l) (hn : n ≤ 1000000) (hm : n1 ≤ 1000000) :
    Calls Try.prog 106 #[.slice A n k, .func (.func 102) #[(.agg #[.int .i64 c.closets, .int .i64 c.close, .slice A1 n1 k1, .slice A2 n2 k2, .slice A3 n3 k3])] #[]] w fun e w' => e = .returned (.bool b) ∧ Later w w' := by
  have := allL_calls (c := c) (A1 := A1) (A2 := A2) (A3 := A3) (k1 := k1) (n2 := n2) (k2 := k2) (n3 := n3) (k3 := k3) (k := k) w h hn hm; rw [hb] at this; exact this

theorem prodTo_take {l : List Horse} {j : Nat} {x : Horse} (hx : l[j]? = some x) : prodTo (l.take (j + 1)) = prodTo (l.take j) * sizeH x := by
  unfold prodTo
  rw [List.take_add_one, hx, Option.toList_some, List.foldl_append]; rfl

set_option maxRecDepth 100000 in
set_option maxHeartbeats 1000000 in
theorem CheckCloset_calls {A1 A2 A3 : Option Addr} {n1 k1 n2 k2 n3 k3 : Nat} {c : Clo} (w : World) (hc : CV w c A1 n1 A2 n2 A3 n3) (hcl : i64 c.closets) (hn1 : n1 ≤ 1000) (hn2 : n2 ≤ 1000) (hn3 : n3 ≤ 1000) (hk2 : n2 ≤ k2) :
    Calls Try.prog 58 #[(.agg #[.int .i64 c.closets, .int .i64 c.close, .slice A1 n1 k1, .slice A2 n2 k2, .slice A3 n3 k3])] w fun e w' => e = .returned (.int .i64 (fault c)) ∧ Later w w' := by
  have hl1 := hc.hs.len
  have hl3 := hc.lk.len
  by_cases hA : 4 < c.closets
  · have Hf : Hid (fault c = 3) := fault_lim (by omega)
    clear hl1 hl3
    go_enter Try.func58, Try.ntmps58
    go_wp2_with fail
    go_ret
    exact ⟨ret_int Hf.out.symm, by simp⟩
  by_cases hB : 4 < n1
  · have Hf : Hid (fault c = 3) := fault_lim (by omega)
    have hB' : (4 : Int) < n1 := by omega
    clear hl1 hl3
    go_enter Try.func58, Try.ntmps58
    go_wp2_with fail
    go_ret
    exact ⟨ret_int Hf.out.symm, by simp⟩
  by_cases hC : 5 < n3
  · have Hf : Hid (fault c = 3) := fault_lim (by omega)
    have hB' : ¬ (4 : Int) < n1 := by omega
    have hC' : (5 : Int) < n3 := by omega
    clear hl1 hl3
    go_enter Try.func58, Try.ntmps58
    go_wp2_with fail
    go_ret
    exact ⟨ret_int Hf.out.symm, by simp⟩
  have hB' : ¬ (4 : Int) < n1 := by omega
  have hC' : ¬ (5 : Int) < n3 := by omega
  have hlim : ¬ (4 < c.closets ∨ 4 < c.horses.length ∨ 5 < c.looks.length) := by omega
  have Hl1 := hide hl1
  have Hl3 := hide hl3
  have Hlim := hide hlim
  clear hl1 hl3 hlim
  obtain ⟨w0, hw0⟩ : ∃ W, W = (w.alloc (.cells #[.int .i64 c.closets, .int .i64 c.close, .slice A1 n1 k1, .slice A2 n2 k2, .slice A3 n3 k3] 35)) := ⟨_, rfl⟩; have hbox : ∀ W, Later w0 W → ∀ i, W.cell? ⟨w.heap.size, i, none⟩ = #[.int .i64 c.closets, .int .i64 c.close, .slice A1 n1 k1, .slice A2 n2 k2, .slice A3 n3 k3][i]? := (by rw [hw0]; exact box_cells w #[.int .i64 c.closets, .int .i64 c.close, .slice A1 n1 k1, .slice A2 n2 k2, .slice A3 n3 k3] 35); have hL0 : Later w w0 := (by rw [hw0]; simp); have hc0 := hc.later hL0; have Hw0 := hide hw0; clear hw0
  by_cases hD : c.closets < 1
  · have Hf : Hid (fault c = 1) := fault_one Hlim.out (Or.inl hD)
    go_enter Try.func58, Try.ntmps58
    go_wp2_with fail
    rw [← Hw0.out]; clear Hw0
    go_ret
    exact ⟨ret_int Hf.out.symm, hL0⟩
  cases hE : inB c.close 0 99 with
  | false =>
    have Hf : Hid (fault c = 1) := fault_one Hlim.out (Or.inr (Or.inl hE))
    go_enter Try.func58, Try.ntmps58
    go_wp2_with (go_at_call 103; refine (minute_eq (by assumption) _).mono ?_; rintro e w' ⟨rfl, rfl⟩)
    rw [← Hw0.out]; clear Hw0
    go_ret
    exact ⟨ret_int Hf.out.symm, hL0⟩
  | true =>
  cases hF : c.horses.all horseOk with
  | false =>
    have Hf : Hid (fault c = 1) := fault_one Hlim.out (Or.inr (Or.inr (Or.inl hF)))
    go_enter Try.func58, Try.ntmps58
    go_wp2_with (go_at_call 103; refine (minute_eq (by assumption) _).mono ?_; rintro e w' ⟨rfl, rfl⟩)
    rw [← Hw0.out]; clear Hw0
    refine (allH_eq hF _ hc0.hs (by omega)).mono ?_
    rintro e w1 ⟨rfl, hL1⟩
    go_wp2_with fail
    go_ret
    exact ⟨ret_int Hf.out.symm, Later.trans hL0 hL1⟩
  | true =>
  cases hG : isPlaceB c c.hung with
  | false =>
    have Hf : Hid (fault c = 1) := fault_one Hlim.out (Or.inr (Or.inr (Or.inr (Or.inl hG))))
    go_enter Try.func58, Try.ntmps58
    go_wp2_with (go_at_call 103; refine (minute_eq (by assumption) _).mono ?_; rintro e w' ⟨rfl, rfl⟩)
    rw [← Hw0.out]; clear Hw0
    refine (allH_eq hF _ hc0.hs (by omega)).mono ?_
    rintro e w1 ⟨rfl, hL1⟩
    go_wp2_with fail
    refine (isPlace_eq hG _ (hc0.later hL1) (hc0.later hL1).hu hk2 (by omega) (by omega)).mono ?_
    rintro e w2 ⟨rfl, hL2⟩
    have hL2' := Later.trans hL1 hL2
    go_wp2_with fail
    go_ret
    exact ⟨ret_int Hf.out.symm, Later.trans hL0 hL2'⟩
  | true =>
  cases hH : c.looks.all (lookOk n1) with
  | false =>
    have Hf : Hid (fault c = 1) := fault_one Hlim.out (Or.inr (Or.inr (Or.inr (Or.inr (by rw [← Hl1.out]; exact hH)))))
    go_enter Try.func58, Try.ntmps58
    go_wp2_with (go_at_call 103; refine (minute_eq (by assumption) _).mono ?_; rintro e w' ⟨rfl, rfl⟩)
    rw [← Hw0.out]; clear Hw0
    refine (allH_eq hF _ hc0.hs (by omega)).mono ?_
    rintro e w1 ⟨rfl, hL1⟩
    go_wp2_with fail
    refine (isPlace_eq hG _ (hc0.later hL1) (hc0.later hL1).hu hk2 (by omega) (by omega)).mono ?_
    rintro e w2 ⟨rfl, hL2⟩
    have hL2' := Later.trans hL1 hL2
    go_wp2_with fail
    refine (allL_eq hH _ (hc0.later hL2').lk (by omega) (by omega)).mono ?_
    rintro e w3 ⟨rfl, hL3⟩
    have hL3' := Later.trans hL2' hL3
    go_wp2_with fail
    go_ret
    exact ⟨ret_int Hf.out.symm, Later.trans hL0 hL3'⟩
  | true =>
  have Hf : Hid (fault c = if 2000 < many c then 3 else 0) := fault_many Hlim.out hD hE hF hG (by rw [← Hl1.out]; exact hH)
  have okh : ∀ h ∈ c.horses, 1 ≤ h.lo ∧ h.lo ≤ h.hi ∧ h.hi ≤ 60 := fun h hh => horseOk_range (List.all_eq_true.1 hF h hh)
  have Hmany := hide (many_prod okh)
  have hpr : ∀ j : Nat, 1 ≤ prodTo (c.horses.take j) ∧ prodTo (c.horses.take j) ≤ 12960000 := fun j => by
    have := prodTo_range (l := c.horses.take j) (fun h hh => okh h (List.mem_of_mem_take hh)) 4 (by have := Hlim.out; rw [List.length_take]; omega)
    exact this
  go_enter Try.func58, Try.ntmps58
  go_wp2_with (go_at_call 103; refine (minute_eq (by assumption) _).mono ?_; rintro e w' ⟨rfl, rfl⟩)
  rw [← Hw0.out]; clear Hw0
  refine (allH_eq hF _ hc0.hs (by omega)).mono ?_
  rintro e w1 ⟨rfl, hL1⟩
  go_wp2_with fail
  refine (isPlace_eq hG _ (hc0.later hL1) (hc0.later hL1).hu hk2 (by omega) (by omega)).mono ?_
  rintro e w2 ⟨rfl, hL2⟩
  have hL2' := Later.trans hL1 hL2
  go_wp2_with fail
  refine (allL_eq hH _ (hc0.later hL2').lk (by omega) (by omega)).mono ?_
  rintro e w3 ⟨rfl, hL3⟩
  have hL3' := Later.trans hL2' hL3
  go_wp2_with fail
  go_loopw [58, 4] (fun i m wr => ∃ j : Nat, j ≤ n1 ∧ i = .int .i64 j ∧ m = .int .i64 (prodTo (c.horses.take j)) ∧ Later w0 wr) (fun i _ _ => n1 - (intOf i).toNat)
  case atStart => exact ⟨0, Nat.zero_le _, rfl, rfl, hL3'⟩
  case round =>
    obtain ⟨j, hj, rfl, rfl, hL⟩ := hrel
    by_cases hlt : j < n1
    · obtain ⟨b, o, x, rfl, _, hx, hx0, hx1, hx2, hx3⟩ := hc0.hs.get hlt
      have hi1 : (j : Int) < n1 := by omega
      have Hp := hide (prodTo_take hx)
      have hp1 := hpr j
      have hp2 := hpr (j + 1)
      have hok := okh x (List.mem_of_getElem? hx)
      rw [Hp.out] at hp2
      have hx0 := hx0 _ hL
      have hx1 := hx1 _ hL
      have hx2 := hx2 _ hL
      have hx3 := hx3 _ hL
      have Hx := hide hx
      clear hx
      generalize prodTo (c.horses.take j) = pj at *
      go_wp2_with fail
      refine (size_calls (h := x) _ (by omega) (by omega)).mono ?_
      rintro e w5 ⟨rfl, hL5⟩
      have hw5 : IntKind.i64.wrap (pj * sizeH x) = pj * sizeH x := IntWalk.i64_in _ (by omega)
      go_wp2_with fail
      go_roundw
      case rel => exact ⟨j + 1, by omega, by go_num, by rw [Hp.out], Later.trans (by simp [hL]) hL5⟩
      case measure => simp [intOf]; omega
    · have hfull : c.horses.take j = c.horses := List.take_of_length_le (by have := Hl1.out; omega)
      rw [hfull]
      have hpf := hpr j
      rw [hfull] at hpf
      by_cases hbig : 2000 < prodTo c.horses
      · have Hf2 : Hid (fault c = 3) := by show fault c = 3; rw [Hf.out, if_pos (by have := Hmany.out; omega)]
        clear hfull
        generalize prodTo c.horses = q at *
        go_wp2_with fail
        go_ret
        exact ⟨ret_int Hf2.out.symm, Later.trans hL0 hL⟩
      · have Hf2 : Hid (fault c = 0) := by show fault c = 0; rw [Hf.out, if_neg (by have := Hmany.out; omega)]
        clear hfull
        generalize prodTo c.horses = q at *
        go_wp2_with fail
        go_ret
        exact ⟨ret_int Hf2.out.symm, Later.trans hL0 hL⟩
end Go.Proofs.Ytjilckjhdlabaaa

/- A drawn region within a round of a range over a function: from what is shown outside of a round. -/
namespace Go.Proofs.Ytjilckjhdlabaaa
open Go Go.RowKit
section
variable {P : Program} {ops : Array Oper} {md : Region.Mode} {Q : Exit → Act → World → Prop} {l n : Nat}
theorem oper_round {o : Oper} {a : Act} {w : World} {K : Act → World → Prop} (hd : ∀ c, o.op ≠ .defer c) (h : o.wp P a w K Q) : o.wpIn (Fence.wide.inRound l) n P a w K Q := by
  refine ⟨fun _ _ => trivial, ?_⟩
  unfold Oper.wp at h
  rw [Oper.semAt_eq _ _ _ hd]
  generalize (execOp a.eval o).run P w = r at *
  have hdep : (Fence.wide.inRound l).depth.isSome = true → 1 ≤ n := fun h => by simp [Fence.wide, Fence.inRound] at h
  cases r with
  | ok x w' =>
    cases x <;> simp only [Oper.upon, Oper.uponIn] at h ⊢ <;>
      first
        | exact h
        | exact ⟨hdep, CallsIn.inRound l (callsIn_wide.2 h)⟩
        | exact ⟨hdep, fun c cs _ => let ⟨v, w1, hk, hs⟩ := h c cs; ⟨v, w1, hk, stepsIn_wide.2 hs⟩⟩
        | exact ⟨hdep, fun c cs => let ⟨v, w1, hk, hs⟩ := h c cs; ⟨v, w1, hk, stepsIn_wide.2 hs⟩⟩
        | exact h.elim
  | halt x w' => cases x <;> simp only [Oper.upon, Oper.uponIn] at h ⊢ <;> exact h

theorem op_round {i : Nat} {a : Act} {w : World} {K : Act → World → Prop} (hd : ∀ (j : Nat) (o : Oper) c, ops[j]? = some o → o.op ≠ .defer c) (hQ : ¬ LetsOut Q) (h : wpOp P ops Q i K a w) : wpOpIn (Fence.wide.inRound l) n P ops Q i K a w := by
  unfold wpOp at h
  unfold wpOpIn
  split
  · simpa [*] using h
  · rename_i o ho
    simp only [ho] at h
    split
    · rename_i hw
      simp only [hw, if_true] at h
      exact oper_round (hd i o · ho) (h.resolve_right fun k => hQ k.2)
    · rename_i hw
      simp only [hw] at h
      exact ⟨fun _ _ => trivial, h⟩
theorem wpOp_mono_ {i : Nat} {a : Act} {w : World} {K K' : Act → World → Prop} (h : ∀ a w, K a w → K' a w) (hh : wpOpIn (Fence.wide.inRound l) n P ops Q i K a w) : wpOpIn (Fence.wide.inRound l) n P ops Q i K' a w := wpOpIn_mono h hh
theorem any_round (hd : ∀ (j : Nat) (o : Oper) c, ops[j]? = some o → o.op ≠ .defer c) (hQ : ¬ LetsOut Q) : ∀ (fuel : Nat) (listed : Array Bool) (a : Act) (w : World), wpAny P md ops Q fuel listed a w → wpAnyIn (Fence.wide.inRound l) n P md ops Q fuel listed a w
  | 0, _, _, _, h => h
  | fuel + 1, _, _, _, h => ⟨h.1, fun i hi => wpOpIn_mono (fun a w => any_round hd hQ fuel _ a w) (op_round hd hQ (h.2 i hi))⟩
/-- what is shown of a drawn region outside of a round serves within -/
theorem region_round {id : Nat} {a : Act} {w : World} (hm : P.follows .mixedOrders = true) (hd : ops.all (fun o => match o.op with | .defer _ => false | _ => true) = true) (hQ : ¬ LetsOut Q)
    (h : wpAny P .any ops Q ops.size (Array.replicate ops.size false) a w.drew) : (Code.region id ops true).wpIn (Fence.wide.inRound l) n P Q a w := by
  refine wpIn_region_any hm (any_round (fun j o c hj e => ?_) hQ _ _ _ _ h)
  have := (Array.all_eq_true.1 hd) j (Array.getElem?_eq_some_iff.1 hj).1
  rw [(Array.getElem?_eq_some_iff.1 hj).2, e] at this
  cases this
theorem region_round_quiet {id : Nat} {a : Act} {w w0 : World} {ls : List Oper} (hm : P.follows .mixedOrders = true) (hB : Region.lexB .any ls.toArray = true)
    (hd : ls.toArray.all (fun o => match o.op with | .defer _ => false | _ => true) = true) (hQ : ¬ LetsOut Q) (hL : Later w0 w)
    (h : wpQuiet P ls.toArray (fun W => ∃ e : Ext w0, W = e.W) (fun a' => ∀ W, (∃ e : Ext w0, W = e.W) → Q .normal a' W) ls a) : (Code.region id ls.toArray true).wpIn (Fence.wide.inRound l) n P Q a w := by
  simp only [Region.lexB, Bool.and_eq_true] at hB
  refine region_round hm hd hQ (wpAny_of_quiet (C := fun W => ∃ e : Ext w0, W = e.W) (Q := fun a' => ∀ w', (∃ e : Ext w0, w' = e.W) → Q .normal a' w') (fun _ w' hw' h => h w' hw') _ _ _ _ ⟨⟨w.drew, later_drew hL⟩, rfl⟩ ?_)
  have := wpAnyQ_lex (C := fun W => ∃ e : Ext w0, W = e.W) (md := .any) hB.1 ls 0 (Array.replicate ls.length false) a (by simp) (by simpa using hB.2) h
  simpa using this
end
end Go.Proofs.Ytjilckjhdlabaaa
