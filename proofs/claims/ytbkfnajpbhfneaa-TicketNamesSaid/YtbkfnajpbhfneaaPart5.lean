/- Part 5 of the proof: joined from the texts TcQ, TcR, TcV, TcS, TcT. -/
import Derived.Test.YtbkfnajpbhfneaaPart3
import Derived.Test.YtbkfnajpbhfneaaPart4
set_option linter.unusedSimpArgs false
set_option linter.unusedVariables false
/- The program's off, hours, from: walks. -/
namespace Go.Proofs.Ytbkfnajpbhfneaa
open Go Go.RowKit

theorem hoursR_ofP (c : Hou) (d : List Int) (t : Int) : hoursR c d t = match ofP c t with
    | x :: y :: _ => hoursOf c.hour (minuteC d y - minuteC d x - c.grace)
    | _ => 0 := by
  unfold hoursR
  rw [← ofP_map]
  match ofR c t with
  | [] => rfl
  | [_] => rfl
  | _ :: _ :: _ => rfl
theorem hours_max {hour stay : Int} (h1 : 1 ≤ hour ∧ hour ≤ 120) (hs : -100000 ≤ stay ∧ stay ≤ 100000) : (max 0 stay + hour - 1).tdiv hour = hoursOf hour stay := by
  unfold hoursOf
  rw [Int.tdiv_eq_ediv_of_nonneg (by omega)]
  split
  · rename_i h
    rw [Int.max_eq_left h, Int.zero_add]
    exact Int.ediv_eq_zero_of_lt (by omega) (by omega)
  · rw [Int.max_eq_right (by omega)]
theorem ofP_mem {c : Hou} {t : Int} {x : Cp} (h : x ∈ ofP c t) : x ∈ c.clips := (List.mem_filter.1 h).1
section
variable {A1 A2 A3 At : Option Addr} {n1 k1 n2 k2 n3 k3 nt kt bw bm : Nat} {c : Hou} {tr : List (List Int)}
set_option maxRecDepth 100000 in
theorem workOff_calls {d : List Int} {e0 e1 e2 e3 : Int} {h : Nat} (w : World) (hd : pad4 d = [e0, e1, e2, e3]) (hh : h < 4) :
    Calls Try.prog 79 #[.pointer (some ⟨bw, 0, none⟩), .agg #[.int .i64 e0, .int .i64 e1, .int .i64 e2, .int .i64 e3], .int .i64 (h : Int)] w fun e w' => e = .returned (.int .i64 (offF h d)) ∧ Later w w' := by
  obtain ⟨v, hv⟩ : ∃ v, offF h d = v := ⟨_, rfl⟩
  have hb := box_cells w #[.int .i64 e0, .int .i64 e1, .int .i64 e2, .int .i64 e3] 117
  have hx : #[Value.int .i64 e0, .int .i64 e1, .int .i64 e2, .int .i64 e3][h]? = some (.int .i64 v) := by
    unfold pad4 at hd
    simp only [List.cons.injEq, and_true] at hd
    obtain ⟨rfl, rfl, rfl, rfl⟩ := hd
    rw [← hv]
    match h, hh with
    | 0, _ => rfl
    | 1, _ => rfl
    | 2, _ => rfl
    | 3, _ => rfl
  have hb1 := (hb _ (later_refl _) h).trans hx
  have h4 : (h : Int) < 4 := by omega
  have Hv := hide hv
  clear hb hx hd hv
  go_enter Try.func79, Try.ntmps79
  go_wp2_with fail
  go_ret
  exact ⟨ret_int Hv.out.symm, by simp⟩
set_option maxRecDepth 100000 in
set_option maxHeartbeats 1000000 in
theorem hours_calls {d : List Int} {e0 e1 e2 e3 : Int} {t : Int} (w : World) (hw : WK w bw c A1 n1 k1 A2 n2 k2 A3 n3 k3 At nt kt tr bm) (ok : OkH c) (hd : IsErr c d) (hp : pad4 d = [e0, e1, e2, e3]) :
    Calls Try.prog 81 #[.pointer (some ⟨bw, 0, none⟩), .agg #[.int .i64 e0, .int .i64 e1, .int .i64 e2, .int .i64 e3], .int .i64 t] w fun e w' => e = .returned (.int .i64 (hoursR c d t)) ∧ Later w w' := by
  have hm3 : n3 ≤ 1000 := by have := hw.cv.cp.len; have := ok.n3; omega
  have hr4 := pad4_range ok hd
  rw [hp] at hr4
  obtain ⟨w0, hw0⟩ : ∃ X, X = w.alloc (.cells #[.int .i64 e0, .int .i64 e1, .int .i64 e2, .int .i64 e3] 117) := ⟨_, rfl⟩
  have hb := box_cells w #[.int .i64 e0, .int .i64 e1, .int .i64 e2, .int .i64 e3] 117
  rw [← hw0] at hb
  have hL0 : Later w w0 := by rw [hw0]; exact later_alloc (later_refl _) _
  have hwk := hw.later hL0
  have hcw := fun W (hW : Later w0 W) i => (hwk.later hW).cells i
  have cc := hcw w0 (later_refl _)
  have c0 := cc 0
  have c1 := cc 1
  have c2 := cc 2
  have c3 := cc 3
  have c4 := cc 4
  simp only [List.getElem?_toArray, List.getElem?_cons_zero, List.getElem?_cons_succ] at c0 c1 c2 c3 c4
  have Hw0 := hide hw0
  have hof := ofP_len c t
  have hm := hoursR_ofP c d t
  have hmin : ∀ x ∈ ofP c t, minuteC [e0, e1, e2, e3] x = minuteC d x ∧ 0 ≤ x.clock ∧ x.clock < 4 ∧ -1000000 ≤ x.minute ∧ x.minute ≤ 1000000 ∧ -30 ≤ minuteC d x ∧ minuteC d x ≤ 1469 := fun x hx => by
    have h1 := ofP_mem hx
    have h2 := clip_in ok h1
    exact ⟨by rw [← hp]; exact minuteC_pad4 ok d h1, h2.1, h2.2.1, h2.2.2.1, h2.2.2.2, minuteC_range ok hd h1⟩
  have Hmin := hide hmin
  have Hm := hide hm
  have Hcw := hide hcw
  clear hw0 hcw cc hof hm hmin
  go_enter Try.func81, Try.ntmps81
  go_upto_region 1 with fail
  rw [← Hw0.out]; clear Hw0
  go_wp2_with fail
  refine (of_calls (k1 := k1) (k2 := k2) (k3 := k3) _ hwk.cv hm3).mono ?_
  rintro e w1 ⟨A, k, rfl, hL1, hrc⟩
  match hl : ofP c t with
  | [] =>
    rw [hl] at Hm hrc
    have Hf : Hid (hoursR c d t = 0) := Hm.out
    clear Hm
    go_wp2_with fail
    go_ret
    exact ⟨ret_int Hf.out.symm, Later.trans hL0 hL1⟩
  | [x] =>
    rw [hl] at Hm hrc
    have Hf : Hid (hoursR c d t = 0) := Hm.out
    clear Hm
    go_wp2_with fail
    go_ret
    exact ⟨ret_int Hf.out.symm, Later.trans hL0 hL1⟩
  | x :: y :: l =>
    rw [hl] at Hm hrc
    have Hf : Hid (hoursR c d t = hoursOf c.hour (minuteC d y - minuteC d x - c.grace)) := Hm.out
    obtain ⟨kx, x0, x4, xm, xM, xr⟩ := Hmin.out x (by rw [hl]; simp)
    obtain ⟨ky, y0, y4, ym, yM, yr⟩ := Hmin.out y (by rw [hl]; simp)
    have hgr := ok.grace
    have hho := ok.hour
    have hmx := hours_max (hour := c.hour) (stay := minuteC d y - minuteC d x - c.grace) hho (by omega)
    have hwx : IntKind.i64.wrap (minuteC d y - minuteC d x) = minuteC d y - minuteC d x := IntWalk.i64_in _ (by omega)
    have hwy : IntKind.i64.wrap (minuteC d y - minuteC d x - c.grace) = minuteC d y - minuteC d x - c.grace := IntWalk.i64_in _ (by omega)
    have hxm : x ∈ ofP c t := by rw [hl]; simp
    have hym : y ∈ ofP c t := by rw [hl]; simp
    have Hmc := hide (fun (W : World) (z : Cp) (hz : z ∈ ofP c t) => minute_eq (Hmin.out z hz).1 W (Hmin.out z hz).2.1 (Hmin.out z hz).2.2.1 ⟨(Hmin.out z hz).2.2.2.1, (Hmin.out z hz).2.2.2.2.1⟩ hr4)
    clear kx x0 x4 xm xM ky y0 y4 ym yM hr4
    obtain ⟨bb, oo, y0', rfl, _, hy0, hx00, hx01, hx02⟩ := hrc.get (k := 0) (by simp)
    obtain ⟨y1', hy1, hy00, hy01, hy02⟩ := hrc.at_ (k := 1) (by simp)
    simp only [List.getElem?_cons_zero, List.getElem?_cons_succ, Option.some.injEq] at hy0 hy1
    subst hy0 hy1
    simp only [Nat.zero_mul, Nat.add_zero, Nat.one_mul] at hx00 hx01 hx02 hy00 hy01 hy02
    have h2 : (2 : Int) ≤ ((x :: y :: l).length : Nat) := by simp only [List.length_cons]; omega
    generalize (x :: y :: l).length = m at *
    have hm1 : (1 : Int) < m := by omega
    have hm0 : (0 : Int) < m := by omega
    clear Hm hl hrc Hmin
    go_wp2_with fail
    have hcw := fun W (hW : Later w1 W) => Hcw.out W (Later.trans hL1 hW)
    have hc0 := fun W hW => hcw W hW 0
    have hc1 := fun W hW => hcw W hW 1
    have hbb := fun W (hW : Later w1 W) => hb W (Later.trans hL1 hW)
    have hb0 := fun W hW => hbb W hW 0
    have hb1 := fun W hW => hbb W hW 1
    have hb2 := fun W hW => hbb W hW 2
    have hb3 := fun W hW => hbb W hW 3
    simp only [List.getElem?_toArray, List.getElem?_cons_zero, List.getElem?_cons_succ] at hc0 hc1 hb0 hb1 hb2 hb3
    clear hcw hbb hb c0 c1 c2 c3 c4
    refine wp_region_ext (w0 := w1) (by kernel_rfl) (by kernel_rfl) (later_refl _) ?_; (repeat (first | go_big_quiet_step (((go_at_call 105; exact calls_ext (by simp) (Hmc.out _ _ (by assumption))))) | quiet_step (((go_at_call 105; exact calls_ext (by simp) (Hmc.out _ _ (by assumption))))))); refine wpQuiet_nil ?_; rintro w3 ⟨⟨_, hL3⟩, rfl⟩; (try dsimp only)
    obtain ⟨mm, hmm⟩ : ∃ mm, (if c.grace < minuteC d y - minuteC d x then minuteC d y - minuteC d x - c.grace else 0) = mm := ⟨_, rfl⟩
    have hmm2 : max 0 (minuteC d y - minuteC d x - c.grace) = mm := by rw [← hmm, Int.max_def]; split <;> split <;> omega
    have hmr : 0 ≤ mm ∧ mm ≤ 2000 := by omega
    rw [hmm]
    rw [hmm2, ← Hf.out] at hmx
    have hqr := hoursR_range ok hd t
    generalize hqv : hoursR c d t = q at *
    have Hqv := hide hqv
    clear hqv
    have hw1 : IntKind.i64.wrap (mm + c.hour) = mm + c.hour := IntWalk.i64_in _ (by omega)
    have hw2 : IntKind.i64.wrap (mm + c.hour - 1) = mm + c.hour - 1 := IntWalk.i64_in _ (by omega)
    have hw3 : IntKind.i64.wrap ((mm + c.hour - 1).tdiv c.hour) = q := by rw [hmx]; exact IntWalk.i64_in _ (by omega)
    have hne : c.hour ≠ 0 := by omega
    have hneb : (c.hour == 0) = false := by simpa using hne
    have hc0' := fun W (hW : Later w3 W) => hc0 W (Later.trans hL3 hW)
    have hL13 := Later.trans hL1 hL3
    clear hc0 hc1 hb0 hb1 hb2 hb3 hx00 hx01 hx02 hy00 hy01 hy02 hwx hwy hmm hmm2 Hmc hmx
    go_upto_region 5 with fail
    refine wp_region_ext (w0 := w3) (by kernel_rfl) (by kernel_rfl) (later_refl _) ?_; (repeat (first | go_big_quiet_step (((fail))) | quiet_step (((fail))))); refine wpQuiet_nil ?_; rintro w5 ⟨⟨_, hL5⟩, rfl⟩; (try dsimp only)
    go_wp2_with fail
    go_ret
    exact ⟨ret_int Hqv.out.symm, Later.trans hL0 (Later.trans hL13 hL5)⟩

theorem fromStep_ofP (c : Hou) (d : List Int) (tub n : Int) (i : Nat) : fromStep c d tub n i = if (tickAt c i).1 = tub then (match ofP c (i : Int) with
    | [_, y] => max n (minuteC d y)
    | _ => n) else n := by
  unfold fromStep
  rw [← ofP_map]
  split
  · match ofR c i with
    | [] => rfl
    | [_] => rfl
    | [_, _] => rfl
    | _ :: _ :: _ :: _ => rfl
  · rfl
def fromUp (c : Hou) (d : List Int) (tub : Int) (j : Nat) : Int := (List.range j).foldl (fromStep c d tub) 0
theorem fromUp_succ (c : Hou) (d : List Int) (tub : Int) (j : Nat) : fromUp c d tub (j + 1) = fromStep c d tub (fromUp c d tub j) j := by
  unfold fromUp; rw [List.range_succ, List.foldl_append]; rfl
theorem fromUp_range {c : Hou} (ok : OkH c) {d : List Int} (hd : IsErr c d) (tub : Int) (j : Nat) : 0 ≤ fromUp c d tub j ∧ fromUp c d tub j ≤ 1469 := from_fold ok hd tub _ 0 (by omega)
set_option maxRecDepth 100000 in
set_option maxHeartbeats 1000000 in
theorem from_calls {d : List Int} {e0 e1 e2 e3 : Int} {tub : Int} (w : World) (hw : WK w bw c A1 n1 k1 A2 n2 k2 A3 n3 k3 At nt kt tr bm) (ok : OkH c) (hd : IsErr c d) (hp : pad4 d = [e0, e1, e2, e3]) :
    Calls Try.prog 94 #[.pointer (some ⟨bw, 0, none⟩), .agg #[.int .i64 e0, .int .i64 e1, .int .i64 e2, .int .i64 e3], .int .i64 tub] w fun e w' => e = .returned (.int .i64 (fromR c d tub)) ∧ Later w w' := by
  have hm3 : n3 ≤ 1000 := by have := hw.cv.cp.len; have := ok.n3; omega
  have hl2 := hw.cv.tk.len
  have hn2 := ok.n2
  have hn26 : n2 ≤ 6 := by omega
  have hend : fromUp c d tub n2 = fromR c d tub := by rw [hl2]; rfl
  have hr4 := pad4_range ok hd
  rw [hp] at hr4
  obtain ⟨w0, hw0⟩ : ∃ X, X = w.alloc (.cells #[.int .i64 e0, .int .i64 e1, .int .i64 e2, .int .i64 e3] 117) := ⟨_, rfl⟩
  have hb := box_cells w #[.int .i64 e0, .int .i64 e1, .int .i64 e2, .int .i64 e3] 117
  rw [← hw0] at hb
  have hL0 : Later w w0 := by rw [hw0]; exact later_alloc (later_refl _) _
  have hwk := hw.later hL0
  have Hcw := hide (fun W (hW : Later w0 W) i => (hwk.later hW).cells i)
  have c3 := Hcw.out w0 (later_refl _) 3
  simp only [List.getElem?_toArray, List.getElem?_cons_zero, List.getElem?_cons_succ] at c3
  have Hw0 := hide hw0
  have Hmc := hide (fun (W : World) (t : Int) (z : Cp) (hz : z ∈ ofP c t) => minute_eq (v := minuteC d z) (by rw [← hp]; exact minuteC_pad4 ok d (ofP_mem hz)) W (clip_in ok (ofP_mem hz)).1 (clip_in ok (ofP_mem hz)).2.1 (clip_in ok (ofP_mem hz)).2.2 hr4)
  have Hend := hide hend
  have Hb := hide hb
  clear hw0 hl2 hn2 hend hb hr4
  go_enter Try.func94, Try.ntmps94
  go_upto_region 1 with fail
  rw [← Hw0.out]; clear Hw0
  go_wp2_with fail
  clear c3
  go_loopw [6, 7, 8, 9, 16] (fun v _ _ _ u wr => ∃ i : Nat, i ≤ n2 ∧ u = .int .i64 i ∧ v = .int .i64 (fromUp c d tub i) ∧ Later w0 wr) (fun _ _ _ _ u _ => n2 - (intOf u).toNat)
  case atStart => exact ⟨0, Nat.zero_le _, rfl, rfl, later_refl _⟩
  case round =>
    obtain ⟨i, hi, rfl, rfl, hL⟩ := hrel
    by_cases hlt : i < n2
    · have hi1 : (i : Int) < n2 := by omega
      obtain ⟨b, o, x, rfl, _, hx, hx0, hx1⟩ := hwk.cv.tk.get hlt
      have hs := fromUp_succ c d tub i
      rw [fromStep_ofP, tickAt_of hx] at hs
      have hfr := fromUp_range ok hd tub i
      have Hs := hide hs
      generalize fromUp c d tub i = q at *
      have hx0 := hx0 _ hL
      have hx1 := hx1 _ hL
      obtain ⟨w2, hw2⟩ : ∃ X, X = wr.alloc (.cells #[.int .i64 x.1, .int .i64 x.2] 103) := ⟨_, rfl⟩
      have hb2 := Blk.new wr 103 #[.int .i64 x.1, .int .i64 x.2]
      rw [← hw2] at hb2
      have hLr2 : Later wr w2 := by rw [hw2]; exact later_alloc (later_refl _) _
      have hL2 := Later.trans hL hLr2
      have Hw2 := hide hw2
      have hcc := Hcw.out w2 hL2
      have c0 := hcc 0
      have c1 := hcc 1
      have c2 := hcc 2
      have c3 := hcc 3
      have c4 := hcc 4
      simp only [List.getElem?_toArray, List.getElem?_cons_zero, List.getElem?_cons_succ] at c0 c1 c2 c3 c4
      clear hw2 hx hs hcc
      go_upto_region 4 with fail
      rw [← Hw2.out]
      go_wp2_with fail
      refine (of_calls (k1 := k1) (k2 := k2) (k3 := k3) _ (hwk.cv.later hL2) hm3).mono ?_
      rintro e w3 ⟨A, k, rfl, hL3, hrc⟩
      have hb3 := hb2.later hL3
      have hbc := hb3.cell 0
      simp only [List.getElem?_toArray, List.getElem?_cons_zero, List.getElem?_cons_succ] at hbc
      have hL03 := Later.trans hL2 hL3
      by_cases h1 : x.1 = tub
      · have hb1 : (x.1 == tub) = true := by simpa using h1
        rw [if_pos h1] at Hs
        clear h1
        by_cases h2 : (ofP c (i : Int)).length = 2
        · obtain ⟨x0, y, hl⟩ : ∃ a b, ofP c (i : Int) = [a, b] := by
            match h : ofP c (i : Int) with
            | [] => rw [h] at h2; simp at h2
            | [_] => rw [h] at h2; simp at h2
            | [a, b] => exact ⟨a, b, rfl⟩
            | _ :: _ :: _ :: l => rw [h] at h2; simp at h2
          have hym : y ∈ ofP c (i : Int) := by rw [hl]; simp
          have hyr := minuteC_range ok hd (ofP_mem hym)
          rw [hl] at Hs hrc
          obtain ⟨bb, oo, y', rfl, _, hy0, hy00, hy01, hy02⟩ := hrc.get (k := 1) (by simp)
          simp only [List.getElem?_cons_zero, List.getElem?_cons_succ, Option.some.injEq] at hy0
          subst hy0
          simp only [Nat.one_mul] at hy00 hy01 hy02
          have hm1 : (1 : Int) < (([x0, y] : List Cp).length : Nat) := by simp
          have hb2' : (((([x0, y] : List Cp).length : Nat) : Int) == 2) = true := by simp
          have Hs2 : Hid (fromUp c d tub (i + 1) = max q (minuteC d y)) := Hs.out
          rw [hl]
          generalize ([x0, y] : List Cp).length = m at *
          have hbb := fun W (hW : Later w3 W) => Hb.out W (Later.trans hL03 hW)
          have hd0 := fun W hW => hbb W hW 0
          have hd1 := fun W hW => hbb W hW 1
          have hd2 := fun W hW => hbb W hW 2
          have hd3 := fun W hW => hbb W hW 3
          simp only [List.getElem?_toArray, List.getElem?_cons_zero, List.getElem?_cons_succ] at hd0 hd1 hd2 hd3
          clear hl h2 Hs hrc hbb hx0 hx1 c0 c1 c2 c3 c4
          go_wp2_with fail
          refine wp_region_ext (w0 := w3) (by kernel_rfl) (by kernel_rfl) (later_refl _) ?_; (repeat (first | go_big_quiet_step (((go_at_call 105; exact calls_ext (by simp) (Hmc.out _ _ _ (by assumption))))) | quiet_step (((go_at_call 105; exact calls_ext (by simp) (Hmc.out _ _ _ (by assumption))))))); refine wpQuiet_nil ?_; rintro w4 ⟨⟨_, hL4⟩, rfl⟩; (try dsimp only)
          go_wp2_with fail
          go_roundw
          case rel => exact ⟨i + 1, hlt, by go_num, by rw [Hs2.out]; first | rfl | (congr 1; rw [Int.max_def]; split <;> split <;> omega), Later.trans hL03 hL4⟩
          case measure => simp [intOf]; omega
        · have hb2' : ((((ofP c (i : Int)).length : Nat) : Int) == 2) = false := by simp; omega
          have Hs2 : Hid (fromUp c d tub (i + 1) = q) := by
            show _ = _
            rw [Hs.out]
            match h : ofP c (i : Int) with
            | [] => rfl
            | [_] => rfl
            | [a, b] => rw [h] at h2; simp at h2
            | _ :: _ :: _ :: l => rfl
          clear h2 Hs hrc hx0 hx1 c0 c1 c2 c3 c4
          go_wp2_with fail
          go_roundw
          case rel => exact ⟨i + 1, hlt, by go_num, by rw [Hs2.out], hL03⟩
          case measure => simp [intOf]; omega
      · have hb1 : (x.1 == tub) = false := by simpa using h1
        rw [if_neg h1] at Hs
        clear h1 hrc hx0 hx1 c0 c1 c2 c3 c4
        go_wp2_with fail
        go_roundw
        case rel => exact ⟨i + 1, hlt, by go_num, by rw [Hs.out], hL03⟩
        case measure => simp [intOf]; omega
    · have hin : i = n2 := by omega
      subst hin
      generalize fromUp c d tub i = q at *
      go_wp2_with fail
      go_ret
      exact ⟨ret_int Hend.out, Later.trans hL0 hL⟩
end
end Go.Proofs.Ytbkfnajpbhfneaa

/- The program's bounds: walk. -/
namespace Go.Proofs.Ytbkfnajpbhfneaa
open Go Go.RowKit

def foldB (f : List Int → Int) (a : Int) (l : List (List Int)) : Int × Int := l.foldl (fun r d => wider r (f d)) (a, a)
theorem foldB_take {f : List Int → Int} {a : Int} {l : List (List Int)} {j : Nat} {d : List Int} (h : l[j]? = some d) : foldB f a (l.take (j + 1)) = wider (foldB f a (l.take j)) (f d) := by
  unfold foldB; rw [List.take_add_one, h, Option.toList_some, List.foldl_append]; rfl
theorem foldB_bP {f : List Int → Int} {l : List (List Int)} {d : List Int} (h : l[0]? = some d) : foldB f (f d) l = bP f l := by
  cases l with
  | nil => simp at h
  | cons x l => simp at h; subst h; rfl
section
variable {A1 A2 A3 At : Option Addr} {n1 k1 n2 k2 n3 k3 nt kt bw bm : Nat} {c : Hou} {tr : List (List Int)}
set_option maxRecDepth 100000 in
set_option maxHeartbeats 1000000 in
theorem bounds_off_calls (f : List Int → Int) {x : Int} (w : World) (hw : WK w bw c A1 n1 k1 A2 n2 k2 A3 n3 k3 At nt kt tr bm) (hne : tr ≠ []) (hnt : nt ≤ 1000000)
    (Hfn : ∀ W, Later w W → ∀ d ∈ tr, ∀ e0 e1 e2 e3, Hid (pad4 d = [e0, e1, e2, e3]) → Calls Try.prog 79 #[.pointer (some ⟨bw, 0, none⟩), .agg #[.int .i64 e0, .int .i64 e1, .int .i64 e2, .int .i64 e3], .int .i64 x] W fun e w' => e = .returned (.int .i64 (f d)) ∧ Later W w') :
    Calls Try.prog 80 #[.agg #[.func (.func 79) #[] #[]], .pointer (some ⟨bw, 0, none⟩), .int .i64 x] w fun e w' =>
      e = .returned (.agg #[.int .i64 (bP f tr).1, .int .i64 (bP f tr).2]) ∧ Later w w' := by
  have hl := hw.rd.len
  have hl := hw.rd.len
  subst hl
  have h0 : 0 < tr.length := List.length_pos_iff.2 hne
  have h0i : (0 : Int) < tr.length := by omega
  obtain ⟨wq, hwq⟩ : ∃ X, X = w.alloc (.cells #[.func (.func 79) #[] #[]] 111) := ⟨_, rfl⟩
  have bq0 : Blk wq w.heap.size 111 #[.func (.func 79) #[] #[]] := by rw [hwq]; exact Blk.new _ _ _
  have hsq : wq.heap.size = w.heap.size + 1 := by rw [hwq]; simp
  have hLq : Later w wq := by rw [hwq]; exact later_alloc (later_refl _) _
  obtain ⟨w0, hw0⟩ : ∃ X, X = wq.alloc (.cells #[.int .i64 0, .int .i64 0] 42) := ⟨_, rfl⟩
  have br0 : Blk w0 (w.heap.size + 1) 42 #[.int .i64 0, .int .i64 0] := by
    have := Blk.new wq 42 #[.int .i64 0, .int .i64 0]
    rw [hsq] at this; rw [hw0]; exact this
  have hLq0 : Later wq w0 := by rw [hw0]; exact later_alloc (later_refl _) _
  have hs0 : w0.heap.size = w.heap.size + 2 := by rw [hw0]; simp [hsq]
  have bq := bq0.later hLq0
  have hL0 := Later.trans hLq hLq0
  obtain ⟨b0, o0, d0, e0, e1, e2, e3, rfl, hb0, hd0, Hp0, x0, x1, x2, x3⟩ := hw.rd.get h0
  have hd0m := List.mem_of_getElem? hd0
  have x0' := fun W (hW : Later w0 W) => x0 W (Later.trans hL0 hW)
  have x1' := fun W (hW : Later w0 W) => x1 W (Later.trans hL0 hW)
  have x2' := fun W (hW : Later w0 W) => x2 W (Later.trans hL0 hW)
  have x3' := fun W (hW : Later w0 W) => x3 W (Later.trans hL0 hW)
  simp only [Nat.zero_mul, Nat.add_zero] at x0' x1' x2' x3'
  have hcw := fun W (hW : Later w0 W) i => (hw.later (Later.trans hL0 hW)).cells i
  have t5 := fun W (hW : Later w0 W) => hcw W hW 5
  have q0 := fun W (hW : Later w0 W) => (bq.later hW).cell 0
  simp only [List.getElem?_toArray, List.getElem?_cons_zero, List.getElem?_cons_succ] at t5 q0
  have Hwq := hide hwq
  have Hw0 := hide hw0
  have HF := hide (fun (W : World) (hW : Later w0 W) => Hfn W (Later.trans hL0 hW))
  have Hbp := hide (foldB_bP (f := f) hd0)
  have HW := hide hw
  clear hwq hw0 bq0 bq hcw x0 x1 x2 x3 hd0 hLq0 hLq
  go_enter Try.func80, Try.ntmps80
  go_upto_region 1 with fail
  rw [← Hwq.out, ← Hw0.out]
  refine wp_region_ext (w0 := w0) (by kernel_rfl) (by kernel_rfl) (later_refl _) ?_; (repeat (first | go_big_quiet_step (((exact calls_ext (by simp) (HF.out _ (by simp) _ hd0m _ _ _ _ Hp0)))) | quiet_step (((exact calls_ext (by simp) (HF.out _ (by simp) _ hd0m _ _ _ _ Hp0)))))); refine wpQuiet_nil ?_; rintro w1 ⟨⟨_, hL1⟩, rfl⟩; (try dsimp only)
  have hL01 := Later.trans hL0 hL1
  have hs1 := hL1.size
  obtain ⟨vf, hvf⟩ : ∃ v, f d0 = v := ⟨_, rfl⟩
  rw [hvf] at Hbp ⊢
  obtain ⟨w2, hw2⟩ : ∃ X, X = w1.alloc (.cells #[.int .i64 vf, .int .i64 vf] 42) := ⟨_, rfl⟩
  have br2 : Blk w2 w1.heap.size 42 #[.int .i64 vf, .int .i64 vf] := by rw [hw2]; exact Blk.new _ _ _
  have hL12 : Later w1 w2 := by rw [hw2]; exact later_alloc (later_refl _) _
  have Hw2 := hide hw2
  have hL02 := Later.trans hL1 hL12
  have t5' := t5 w2 hL02
  have q0' := fun W (hW : Later w1 W) => q0 W (Later.trans hL1 hW)
  have t5'' := fun W (hW : Later w1 W) => t5 W (Later.trans hL1 hW)
  have br1 := fun W (hW : Later w1 W) => br0.later (Later.trans hL1 hW)
  clear hw2 hvf x0' x1' x2' x3' t5 q0 Hwq Hw0
  go_upto_region 3 with fail
  rw [← Hw2.out]
  clear Hw2
  go_wp2_with fail
  have hn1' : (tr.length : Int) ≤ 1000000 := by omega
  have br2' := fun W (hW : Later w2 W) => br2.later hW
  have hbq : w.heap.size < w1.heap.size := by omega
  clear t5'
  go_loopw [10, 30] (fun _ v wr => ∃ j : Nat, j ≤ tr.length ∧ v = .int .i64 j ∧ Later w1 wr ∧ Blk wr w1.heap.size 42 #[.int .i64 (foldB f vf (tr.take j)).1, .int .i64 (foldB f vf (tr.take j)).2]) (fun _ v _ => tr.length - (intOf v).toNat)
  case atStart => exact ⟨0, Nat.zero_le _, rfl, hL12, by rw [List.take_zero]; exact br2⟩
  case round =>
    obtain ⟨j, hj, rfl, hL, hbk⟩ := hrel
    by_cases hlt : j < tr.length
    · obtain ⟨bb, oo, d, f0, f1, f2, f3, he, _, hd, Hp, y0, y1, y2, y3⟩ := HW.out.rd.get hlt
      obtain ⟨rfl, rfl⟩ := some_lit he
      have hLw := Later.trans hL01 hL
      have hdm := List.mem_of_getElem? hd
      have hft := foldB_take (f := f) (a := vf) hd
      have Hft := hide hft
      obtain ⟨vd, hvd⟩ : ∃ v, f d = v := ⟨_, rfl⟩
      obtain ⟨⟨r1, r2⟩, hr⟩ : ∃ r, foldB f vf (tr.take j) = r := ⟨_, rfl⟩
      rw [hr, hvd] at Hft
      rw [hr] at hbk
      dsimp only at hbk
      have hi1 : (j : Int) < tr.length := by omega
      have y0 := y0 _ hLw
      have y1 := y1 _ hLw
      have y2 := y2 _ hLw
      have y3 := y3 _ hLw
      obtain ⟨Wb, hWb⟩ : ∃ X, X = wr.alloc (.cells #[.int .i64 f0, .int .i64 f1, .int .i64 f2, .int .i64 f3] 117) := ⟨_, rfl⟩
      have hbd := box_cells wr #[.int .i64 f0, .int .i64 f1, .int .i64 f2, .int .i64 f3] 117
      have hLb : Later wr Wb := by rw [hWb]; exact later_alloc (later_refl _) _
      rw [← hWb] at hbd
      have HWb := hide hWb
      have d0' := fun W hW => hbd W hW 0
      have d1' := fun W hW => hbd W hW 1
      have d2' := fun W hW => hbd W hW 2
      have d3' := fun W hW => hbd W hW 3
      have hL1b := Later.trans hL hLb
      have hL0b := Later.trans hL1 hL1b
      have hqb := fun W (hW : Later Wb W) => q0' W (Later.trans hL1b hW)
      have hkb := fun W (hW : Later Wb W) => (hbk.later hLb).later hW
      have k0 := fun W hW => (hkb W hW).cell 0
      have k1' := fun W hW => (hkb W hW).cell 1
      simp only [List.getElem?_toArray, List.getElem?_cons_zero, List.getElem?_cons_succ] at d0' d1' d2' d3' k0 k1'
      have Hkb := hide hkb
      have Hv := hide hvd
      clear hWb hbd hft hd hr hkb hvd
      go_upto_region 6 with fail
      rw [← HWb.out]
      clear HWb y0 y1 y2 y3
      refine wp_region_ext_tail (w0 := Wb) 8 (by kernel_rfl) (by kernel_rfl) (later_refl _) ?_; simp only [List.take_succ_cons, List.take_zero, List.drop_succ_cons, List.drop_zero]; (repeat (first | go_big_quiet_step ((first | (go_at_call 79; exact calls_ext (by simp) (HF.out _ (Later.trans hL0b (by simp)) _ hdm _ _ _ _ Hp)) | (go_at_call 121; exact calls_ext (by simp) (wider_calls _ _ _ _)))) | quiet_step ((first | (go_at_call 79; exact calls_ext (by simp) (HF.out _ (Later.trans hL0b (by simp)) _ hdm _ _ _ _ Hp)) | (go_at_call 121; exact calls_ext (by simp) (wider_calls _ _ _ _)))))); refine wpQuiet_nil ?_; rintro w5 ⟨⟨_, hL5⟩, rfl⟩; (try dsimp only)
      rw [Hv.out]
      have hkw := Hkb.out w5 hL5
      have g0 := hkw.frozen 0
      have g1 := hkw.frozen 1
      have c0 := hkw.cell 0
      have c1 := hkw.cell 1
      simp only [List.getElem?_toArray, List.getElem?_cons_zero, List.getElem?_cons_succ] at c0 c1
      have hk6 := (hkw.set_ 0 (.int .i64 (min r1 vd))).set_ 1 (.int .i64 (max r2 vd))
      have hL6 := later_drop (later_drop (Later.trans hL1b hL5) (a := ⟨w1.heap.size, 0, none⟩) (u := .int .i64 (min r1 vd)) (Nat.le_refl _)) (a := ⟨w1.heap.size, 1, none⟩) (u := .int .i64 (max r2 vd)) (Nat.le_refl _)
      have Hk6 := hide hk6
      have HL6 := hide hL6
      clear hkw hk6 hL6 d0' d1' d2' d3' k0 k1' hqb
      go_wp2_with fail
      go_roundw
      case rel => exact ⟨j + 1, by omega, by go_num, HL6.out, by rw [Hft.out]; exact Hk6.out⟩
      case measure => simp [intOf]; omega
    · have hfin : tr.take j = tr := List.take_of_length_le (by omega)
      rw [hfin, Hbp.out] at hbk
      obtain ⟨⟨r1, r2⟩, hr⟩ : ∃ r, bP f tr = r := ⟨_, rfl⟩
      rw [hr] at hbk
      dsimp only at hbk
      have Hr := hide hr
      have c0 := hbk.cell 0
      have c1 := hbk.cell 1
      have hb1 := br1 wr hL
      have f0 := hb1.frozen 0
      have f1 := hb1.frozen 1
      have g0 := hb1.cell 0
      have g1 := hb1.cell 1
      simp only [List.getElem?_toArray, List.getElem?_cons_zero, List.getElem?_cons_succ] at c0 c1 g0 g1
      have hLf := later_drop (later_drop (Later.trans hL01 hL) (a := ⟨w.heap.size + 1, 0, none⟩) (u := .int .i64 r1) (Nat.le_succ _)) (a := ⟨w.heap.size + 1, 1, none⟩) (u := .int .i64 r2) (Nat.le_succ _)
      have HLf := hide hLf
      clear hr hfin hbk hb1 br0 br1 br2 br2' hLf
      go_wp2_with fail
      refine bodyPost_ret (v := .agg #[.int .i64 r1, .int .i64 r2]) ?_ rfl ⟨by rw [Hr.out], ?_⟩
      · simp [results, Try.results80, go_sem, *]
      · exact HLf.out
set_option maxRecDepth 100000 in
set_option maxHeartbeats 1000000 in
theorem bounds_hours_calls (f : List Int → Int) {x : Int} (w : World) (hw : WK w bw c A1 n1 k1 A2 n2 k2 A3 n3 k3 At nt kt tr bm) (hne : tr ≠ []) (hnt : nt ≤ 1000000)
    (Hfn : ∀ W, Later w W → ∀ d ∈ tr, ∀ e0 e1 e2 e3, Hid (pad4 d = [e0, e1, e2, e3]) → Calls Try.prog 81 #[.pointer (some ⟨bw, 0, none⟩), .agg #[.int .i64 e0, .int .i64 e1, .int .i64 e2, .int .i64 e3], .int .i64 x] W fun e w' => e = .returned (.int .i64 (f d)) ∧ Later W w') :
    Calls Try.prog 80 #[.agg #[.func (.func 81) #[] #[]], .pointer (some ⟨bw, 0, none⟩), .int .i64 x] w fun e w' =>
      e = .returned (.agg #[.int .i64 (bP f tr).1, .int .i64 (bP f tr).2]) ∧ Later w w' := by
  have hl := hw.rd.len
  have hl := hw.rd.len
  subst hl
  have h0 : 0 < tr.length := List.length_pos_iff.2 hne
  have h0i : (0 : Int) < tr.length := by omega
  obtain ⟨wq, hwq⟩ : ∃ X, X = w.alloc (.cells #[.func (.func 81) #[] #[]] 111) := ⟨_, rfl⟩
  have bq0 : Blk wq w.heap.size 111 #[.func (.func 81) #[] #[]] := by rw [hwq]; exact Blk.new _ _ _
  have hsq : wq.heap.size = w.heap.size + 1 := by rw [hwq]; simp
  have hLq : Later w wq := by rw [hwq]; exact later_alloc (later_refl _) _
  obtain ⟨w0, hw0⟩ : ∃ X, X = wq.alloc (.cells #[.int .i64 0, .int .i64 0] 42) := ⟨_, rfl⟩
  have br0 : Blk w0 (w.heap.size + 1) 42 #[.int .i64 0, .int .i64 0] := by
    have := Blk.new wq 42 #[.int .i64 0, .int .i64 0]
    rw [hsq] at this; rw [hw0]; exact this
  have hLq0 : Later wq w0 := by rw [hw0]; exact later_alloc (later_refl _) _
  have hs0 : w0.heap.size = w.heap.size + 2 := by rw [hw0]; simp [hsq]
  have bq := bq0.later hLq0
  have hL0 := Later.trans hLq hLq0
  obtain ⟨b0, o0, d0, e0, e1, e2, e3, rfl, hb0, hd0, Hp0, x0, x1, x2, x3⟩ := hw.rd.get h0
  have hd0m := List.mem_of_getElem? hd0
  have x0' := fun W (hW : Later w0 W) => x0 W (Later.trans hL0 hW)
  have x1' := fun W (hW : Later w0 W) => x1 W (Later.trans hL0 hW)
  have x2' := fun W (hW : Later w0 W) => x2 W (Later.trans hL0 hW)
  have x3' := fun W (hW : Later w0 W) => x3 W (Later.trans hL0 hW)
  simp only [Nat.zero_mul, Nat.add_zero] at x0' x1' x2' x3'
  have hcw := fun W (hW : Later w0 W) i => (hw.later (Later.trans hL0 hW)).cells i
  have t5 := fun W (hW : Later w0 W) => hcw W hW 5
  have q0 := fun W (hW : Later w0 W) => (bq.later hW).cell 0
  simp only [List.getElem?_toArray, List.getElem?_cons_zero, List.getElem?_cons_succ] at t5 q0
  have Hwq := hide hwq
  have Hw0 := hide hw0
  have HF := hide (fun (W : World) (hW : Later w0 W) => Hfn W (Later.trans hL0 hW))
  have Hbp := hide (foldB_bP (f := f) hd0)
  have HW := hide hw
  clear hwq hw0 bq0 bq hcw x0 x1 x2 x3 hd0 hLq0 hLq
  go_enter Try.func80, Try.ntmps80
  go_upto_region 1 with fail
  rw [← Hwq.out, ← Hw0.out]
  refine wp_region_ext (w0 := w0) (by kernel_rfl) (by kernel_rfl) (later_refl _) ?_; (repeat (first | go_big_quiet_step (((exact calls_ext (by simp) (HF.out _ (by simp) _ hd0m _ _ _ _ Hp0)))) | quiet_step (((exact calls_ext (by simp) (HF.out _ (by simp) _ hd0m _ _ _ _ Hp0)))))); refine wpQuiet_nil ?_; rintro w1 ⟨⟨_, hL1⟩, rfl⟩; (try dsimp only)
  have hL01 := Later.trans hL0 hL1
  have hs1 := hL1.size
  obtain ⟨vf, hvf⟩ : ∃ v, f d0 = v := ⟨_, rfl⟩
  rw [hvf] at Hbp ⊢
  obtain ⟨w2, hw2⟩ : ∃ X, X = w1.alloc (.cells #[.int .i64 vf, .int .i64 vf] 42) := ⟨_, rfl⟩
  have br2 : Blk w2 w1.heap.size 42 #[.int .i64 vf, .int .i64 vf] := by rw [hw2]; exact Blk.new _ _ _
  have hL12 : Later w1 w2 := by rw [hw2]; exact later_alloc (later_refl _) _
  have Hw2 := hide hw2
  have hL02 := Later.trans hL1 hL12
  have t5' := t5 w2 hL02
  have q0' := fun W (hW : Later w1 W) => q0 W (Later.trans hL1 hW)
  have t5'' := fun W (hW : Later w1 W) => t5 W (Later.trans hL1 hW)
  have br1 := fun W (hW : Later w1 W) => br0.later (Later.trans hL1 hW)
  clear hw2 hvf x0' x1' x2' x3' t5 q0 Hwq Hw0
  go_upto_region 3 with fail
  rw [← Hw2.out]
  clear Hw2
  go_wp2_with fail
  have hn1' : (tr.length : Int) ≤ 1000000 := by omega
  have br2' := fun W (hW : Later w2 W) => br2.later hW
  have hbq : w.heap.size < w1.heap.size := by omega
  clear t5'
  go_loopw [10, 30] (fun _ v wr => ∃ j : Nat, j ≤ tr.length ∧ v = .int .i64 j ∧ Later w1 wr ∧ Blk wr w1.heap.size 42 #[.int .i64 (foldB f vf (tr.take j)).1, .int .i64 (foldB f vf (tr.take j)).2]) (fun _ v _ => tr.length - (intOf v).toNat)
  case atStart => exact ⟨0, Nat.zero_le _, rfl, hL12, by rw [List.take_zero]; exact br2⟩
  case round =>
    obtain ⟨j, hj, rfl, hL, hbk⟩ := hrel
    by_cases hlt : j < tr.length
    · obtain ⟨bb, oo, d, f0, f1, f2, f3, he, _, hd, Hp, y0, y1, y2, y3⟩ := HW.out.rd.get hlt
      obtain ⟨rfl, rfl⟩ := some_lit he
      have hLw := Later.trans hL01 hL
      have hdm := List.mem_of_getElem? hd
      have hft := foldB_take (f := f) (a := vf) hd
      have Hft := hide hft
      obtain ⟨vd, hvd⟩ : ∃ v, f d = v := ⟨_, rfl⟩
      obtain ⟨⟨r1, r2⟩, hr⟩ : ∃ r, foldB f vf (tr.take j) = r := ⟨_, rfl⟩
      rw [hr, hvd] at Hft
      rw [hr] at hbk
      dsimp only at hbk
      have hi1 : (j : Int) < tr.length := by omega
      have y0 := y0 _ hLw
      have y1 := y1 _ hLw
      have y2 := y2 _ hLw
      have y3 := y3 _ hLw
      obtain ⟨Wb, hWb⟩ : ∃ X, X = wr.alloc (.cells #[.int .i64 f0, .int .i64 f1, .int .i64 f2, .int .i64 f3] 117) := ⟨_, rfl⟩
      have hbd := box_cells wr #[.int .i64 f0, .int .i64 f1, .int .i64 f2, .int .i64 f3] 117
      have hLb : Later wr Wb := by rw [hWb]; exact later_alloc (later_refl _) _
      rw [← hWb] at hbd
      have HWb := hide hWb
      have d0' := fun W hW => hbd W hW 0
      have d1' := fun W hW => hbd W hW 1
      have d2' := fun W hW => hbd W hW 2
      have d3' := fun W hW => hbd W hW 3
      have hL1b := Later.trans hL hLb
      have hL0b := Later.trans hL1 hL1b
      have hqb := fun W (hW : Later Wb W) => q0' W (Later.trans hL1b hW)
      have hkb := fun W (hW : Later Wb W) => (hbk.later hLb).later hW
      have k0 := fun W hW => (hkb W hW).cell 0
      have k1' := fun W hW => (hkb W hW).cell 1
      simp only [List.getElem?_toArray, List.getElem?_cons_zero, List.getElem?_cons_succ] at d0' d1' d2' d3' k0 k1'
      have Hkb := hide hkb
      have Hv := hide hvd
      clear hWb hbd hft hd hr hkb hvd
      go_upto_region 6 with fail
      rw [← HWb.out]
      clear HWb y0 y1 y2 y3
      refine wp_region_ext_tail (w0 := Wb) 8 (by kernel_rfl) (by kernel_rfl) (later_refl _) ?_; simp only [List.take_succ_cons, List.take_zero, List.drop_succ_cons, List.drop_zero]; (repeat (first | go_big_quiet_step ((first | (go_at_call 81; exact calls_ext (by simp) (HF.out _ (Later.trans hL0b (by simp)) _ hdm _ _ _ _ Hp)) | (go_at_call 121; exact calls_ext (by simp) (wider_calls _ _ _ _)))) | quiet_step ((first | (go_at_call 81; exact calls_ext (by simp) (HF.out _ (Later.trans hL0b (by simp)) _ hdm _ _ _ _ Hp)) | (go_at_call 121; exact calls_ext (by simp) (wider_calls _ _ _ _)))))); refine wpQuiet_nil ?_; rintro w5 ⟨⟨_, hL5⟩, rfl⟩; (try dsimp only)
      rw [Hv.out]
      have hkw := Hkb.out w5 hL5
      have g0 := hkw.frozen 0
      have g1 := hkw.frozen 1
      have c0 := hkw.cell 0
      have c1 := hkw.cell 1
      simp only [List.getElem?_toArray, List.getElem?_cons_zero, List.getElem?_cons_succ] at c0 c1
      have hk6 := (hkw.set_ 0 (.int .i64 (min r1 vd))).set_ 1 (.int .i64 (max r2 vd))
      have hL6 := later_drop (later_drop (Later.trans hL1b hL5) (a := ⟨w1.heap.size, 0, none⟩) (u := .int .i64 (min r1 vd)) (Nat.le_refl _)) (a := ⟨w1.heap.size, 1, none⟩) (u := .int .i64 (max r2 vd)) (Nat.le_refl _)
      have Hk6 := hide hk6
      have HL6 := hide hL6
      clear hkw hk6 hL6 d0' d1' d2' d3' k0 k1' hqb
      go_wp2_with fail
      go_roundw
      case rel => exact ⟨j + 1, by omega, by go_num, HL6.out, by rw [Hft.out]; exact Hk6.out⟩
      case measure => simp [intOf]; omega
    · have hfin : tr.take j = tr := List.take_of_length_le (by omega)
      rw [hfin, Hbp.out] at hbk
      obtain ⟨⟨r1, r2⟩, hr⟩ : ∃ r, bP f tr = r := ⟨_, rfl⟩
      rw [hr] at hbk
      dsimp only at hbk
      have Hr := hide hr
      have c0 := hbk.cell 0
      have c1 := hbk.cell 1
      have hb1 := br1 wr hL
      have f0 := hb1.frozen 0
      have f1 := hb1.frozen 1
      have g0 := hb1.cell 0
      have g1 := hb1.cell 1
      simp only [List.getElem?_toArray, List.getElem?_cons_zero, List.getElem?_cons_succ] at c0 c1 g0 g1
      have hLf := later_drop (later_drop (Later.trans hL01 hL) (a := ⟨w.heap.size + 1, 0, none⟩) (u := .int .i64 r1) (Nat.le_succ _)) (a := ⟨w.heap.size + 1, 1, none⟩) (u := .int .i64 r2) (Nat.le_succ _)
      have HLf := hide hLf
      clear hr hfin hbk hb1 br0 br1 br2 br2' hLf
      go_wp2_with fail
      refine bodyPost_ret (v := .agg #[.int .i64 r1, .int .i64 r2]) ?_ rfl ⟨by rw [Hr.out], ?_⟩
      · simp [results, Try.results80, go_sem, *]
      · exact HLf.out
set_option maxRecDepth 100000 in
set_option maxHeartbeats 1000000 in
theorem bounds_from_calls (f : List Int → Int) {x : Int} (w : World) (hw : WK w bw c A1 n1 k1 A2 n2 k2 A3 n3 k3 At nt kt tr bm) (hne : tr ≠ []) (hnt : nt ≤ 1000000)
    (Hfn : ∀ W, Later w W → ∀ d ∈ tr, ∀ e0 e1 e2 e3, Hid (pad4 d = [e0, e1, e2, e3]) → Calls Try.prog 94 #[.pointer (some ⟨bw, 0, none⟩), .agg #[.int .i64 e0, .int .i64 e1, .int .i64 e2, .int .i64 e3], .int .i64 x] W fun e w' => e = .returned (.int .i64 (f d)) ∧ Later W w') :
    Calls Try.prog 80 #[.agg #[.func (.func 94) #[] #[]], .pointer (some ⟨bw, 0, none⟩), .int .i64 x] w fun e w' =>
      e = .returned (.agg #[.int .i64 (bP f tr).1, .int .i64 (bP f tr).2]) ∧ Later w w' := by
  have hl := hw.rd.len
  have hl := hw.rd.len
  subst hl
  have h0 : 0 < tr.length := List.length_pos_iff.2 hne
  have h0i : (0 : Int) < tr.length := by omega
  obtain ⟨wq, hwq⟩ : ∃ X, X = w.alloc (.cells #[.func (.func 94) #[] #[]] 111) := ⟨_, rfl⟩
  have bq0 : Blk wq w.heap.size 111 #[.func (.func 94) #[] #[]] := by rw [hwq]; exact Blk.new _ _ _
  have hsq : wq.heap.size = w.heap.size + 1 := by rw [hwq]; simp
  have hLq : Later w wq := by rw [hwq]; exact later_alloc (later_refl _) _
  obtain ⟨w0, hw0⟩ : ∃ X, X = wq.alloc (.cells #[.int .i64 0, .int .i64 0] 42) := ⟨_, rfl⟩
  have br0 : Blk w0 (w.heap.size + 1) 42 #[.int .i64 0, .int .i64 0] := by
    have := Blk.new wq 42 #[.int .i64 0, .int .i64 0]
    rw [hsq] at this; rw [hw0]; exact this
  have hLq0 : Later wq w0 := by rw [hw0]; exact later_alloc (later_refl _) _
  have hs0 : w0.heap.size = w.heap.size + 2 := by rw [hw0]; simp [hsq]
  have bq := bq0.later hLq0
  have hL0 := Later.trans hLq hLq0
  obtain ⟨b0, o0, d0, e0, e1, e2, e3, rfl, hb0, hd0, Hp0, x0, x1, x2, x3⟩ := hw.rd.get h0
  have hd0m := List.mem_of_getElem? hd0
  have x0' := fun W (hW : Later w0 W) => x0 W (Later.trans hL0 hW)
  have x1' := fun W (hW : Later w0 W) => x1 W (Later.trans hL0 hW)
  have x2' := fun W (hW : Later w0 W) => x2 W (Later.trans hL0 hW)
  have x3' := fun W (hW : Later w0 W) => x3 W (Later.trans hL0 hW)
  simp only [Nat.zero_mul, Nat.add_zero] at x0' x1' x2' x3'
  have hcw := fun W (hW : Later w0 W) i => (hw.later (Later.trans hL0 hW)).cells i
  have t5 := fun W (hW : Later w0 W) => hcw W hW 5
  have q0 := fun W (hW : Later w0 W) => (bq.later hW).cell 0
  simp only [List.getElem?_toArray, List.getElem?_cons_zero, List.getElem?_cons_succ] at t5 q0
  have Hwq := hide hwq
  have Hw0 := hide hw0
  have HF := hide (fun (W : World) (hW : Later w0 W) => Hfn W (Later.trans hL0 hW))
  have Hbp := hide (foldB_bP (f := f) hd0)
  have HW := hide hw
  clear hwq hw0 bq0 bq hcw x0 x1 x2 x3 hd0 hLq0 hLq
  go_enter Try.func80, Try.ntmps80
  go_upto_region 1 with fail
  rw [← Hwq.out, ← Hw0.out]
  refine wp_region_ext (w0 := w0) (by kernel_rfl) (by kernel_rfl) (later_refl _) ?_; (repeat (first | go_big_quiet_step (((exact calls_ext (by simp) (HF.out _ (by simp) _ hd0m _ _ _ _ Hp0)))) | quiet_step (((exact calls_ext (by simp) (HF.out _ (by simp) _ hd0m _ _ _ _ Hp0)))))); refine wpQuiet_nil ?_; rintro w1 ⟨⟨_, hL1⟩, rfl⟩; (try dsimp only)
  have hL01 := Later.trans hL0 hL1
  have hs1 := hL1.size
  obtain ⟨vf, hvf⟩ : ∃ v, f d0 = v := ⟨_, rfl⟩
  rw [hvf] at Hbp ⊢
  obtain ⟨w2, hw2⟩ : ∃ X, X = w1.alloc (.cells #[.int .i64 vf, .int .i64 vf] 42) := ⟨_, rfl⟩
  have br2 : Blk w2 w1.heap.size 42 #[.int .i64 vf, .int .i64 vf] := by rw [hw2]; exact Blk.new _ _ _
  have hL12 : Later w1 w2 := by rw [hw2]; exact later_alloc (later_refl _) _
  have Hw2 := hide hw2
  have hL02 := Later.trans hL1 hL12
  have t5' := t5 w2 hL02
  have q0' := fun W (hW : Later w1 W) => q0 W (Later.trans hL1 hW)
  have t5'' := fun W (hW : Later w1 W) => t5 W (Later.trans hL1 hW)
  have br1 := fun W (hW : Later w1 W) => br0.later (Later.trans hL1 hW)
  clear hw2 hvf x0' x1' x2' x3' t5 q0 Hwq Hw0
  go_upto_region 3 with fail
  rw [← Hw2.out]
  clear Hw2
  go_wp2_with fail
  have hn1' : (tr.length : Int) ≤ 1000000 := by omega
  have br2' := fun W (hW : Later w2 W) => br2.later hW
  have hbq : w.heap.size < w1.heap.size := by omega
  clear t5'
  go_loopw [10, 30] (fun _ v wr => ∃ j : Nat, j ≤ tr.length ∧ v = .int .i64 j ∧ Later w1 wr ∧ Blk wr w1.heap.size 42 #[.int .i64 (foldB f vf (tr.take j)).1, .int .i64 (foldB f vf (tr.take j)).2]) (fun _ v _ => tr.length - (intOf v).toNat)
  case atStart => exact ⟨0, Nat.zero_le _, rfl, hL12, by rw [List.take_zero]; exact br2⟩
  case round =>
    obtain ⟨j, hj, rfl, hL, hbk⟩ := hrel
    by_cases hlt : j < tr.length
    · obtain ⟨bb, oo, d, f0, f1, f2, f3, he, _, hd, Hp, y0, y1, y2, y3⟩ := HW.out.rd.get hlt
      obtain ⟨rfl, rfl⟩ := some_lit he
      have hLw := Later.trans hL01 hL
      have hdm := List.mem_of_getElem? hd
      have hft := foldB_take (f := f) (a := vf) hd
      have Hft := hide hft
      obtain ⟨vd, hvd⟩ : ∃ v, f d = v := ⟨_, rfl⟩
      obtain ⟨⟨r1, r2⟩, hr⟩ : ∃ r, foldB f vf (tr.take j) = r := ⟨_, rfl⟩
      rw [hr, hvd] at Hft
      rw [hr] at hbk
      dsimp only at hbk
      have hi1 : (j : Int) < tr.length := by omega
      have y0 := y0 _ hLw
      have y1 := y1 _ hLw
      have y2 := y2 _ hLw
      have y3 := y3 _ hLw
      obtain ⟨Wb, hWb⟩ : ∃ X, X = wr.alloc (.cells #[.int .i64 f0, .int .i64 f1, .int .i64 f2, .int .i64 f3] 117) := ⟨_, rfl⟩
      have hbd := box_cells wr #[.int .i64 f0, .int .i64 f1, .int .i64 f2, .int .i64 f3] 117
      have hLb : Later wr Wb := by rw [hWb]; exact later_alloc (later_refl _) _
      rw [← hWb] at hbd
      have HWb := hide hWb
      have d0' := fun W hW => hbd W hW 0
      have d1' := fun W hW => hbd W hW 1
      have d2' := fun W hW => hbd W hW 2
      have d3' := fun W hW => hbd W hW 3
      have hL1b := Later.trans hL hLb
      have hL0b := Later.trans hL1 hL1b
      have hqb := fun W (hW : Later Wb W) => q0' W (Later.trans hL1b hW)
      have hkb := fun W (hW : Later Wb W) => (hbk.later hLb).later hW
      have k0 := fun W hW => (hkb W hW).cell 0
      have k1' := fun W hW => (hkb W hW).cell 1
      simp only [List.getElem?_toArray, List.getElem?_cons_zero, List.getElem?_cons_succ] at d0' d1' d2' d3' k0 k1'
      have Hkb := hide hkb
      have Hv := hide hvd
      clear hWb hbd hft hd hr hkb hvd
      go_upto_region 6 with fail
      rw [← HWb.out]
      clear HWb y0 y1 y2 y3
      refine wp_region_ext_tail (w0 := Wb) 8 (by kernel_rfl) (by kernel_rfl) (later_refl _) ?_; simp only [List.take_succ_cons, List.take_zero, List.drop_succ_cons, List.drop_zero]; (repeat (first | go_big_quiet_step ((first | (go_at_call 94; exact calls_ext (by simp) (HF.out _ (Later.trans hL0b (by simp)) _ hdm _ _ _ _ Hp)) | (go_at_call 121; exact calls_ext (by simp) (wider_calls _ _ _ _)))) | quiet_step ((first | (go_at_call 94; exact calls_ext (by simp) (HF.out _ (Later.trans hL0b (by simp)) _ hdm _ _ _ _ Hp)) | (go_at_call 121; exact calls_ext (by simp) (wider_calls _ _ _ _)))))); refine wpQuiet_nil ?_; rintro w5 ⟨⟨_, hL5⟩, rfl⟩; (try dsimp only)
      rw [Hv.out]
      have hkw := Hkb.out w5 hL5
      have g0 := hkw.frozen 0
      have g1 := hkw.frozen 1
      have c0 := hkw.cell 0
      have c1 := hkw.cell 1
      simp only [List.getElem?_toArray, List.getElem?_cons_zero, List.getElem?_cons_succ] at c0 c1
      have hk6 := (hkw.set_ 0 (.int .i64 (min r1 vd))).set_ 1 (.int .i64 (max r2 vd))
      have hL6 := later_drop (later_drop (Later.trans hL1b hL5) (a := ⟨w1.heap.size, 0, none⟩) (u := .int .i64 (min r1 vd)) (Nat.le_refl _)) (a := ⟨w1.heap.size, 1, none⟩) (u := .int .i64 (max r2 vd)) (Nat.le_refl _)
      have Hk6 := hide hk6
      have HL6 := hide hL6
      clear hkw hk6 hL6 d0' d1' d2' d3' k0 k1' hqb
      go_wp2_with fail
      go_roundw
      case rel => exact ⟨j + 1, by omega, by go_num, HL6.out, by rw [Hft.out]; exact Hk6.out⟩
      case measure => simp [intOf]; omega
    · have hfin : tr.take j = tr := List.take_of_length_le (by omega)
      rw [hfin, Hbp.out] at hbk
      obtain ⟨⟨r1, r2⟩, hr⟩ : ∃ r, bP f tr = r := ⟨_, rfl⟩
      rw [hr] at hbk
      dsimp only at hbk
      have Hr := hide hr
      have c0 := hbk.cell 0
      have c1 := hbk.cell 1
      have hb1 := br1 wr hL
      have f0 := hb1.frozen 0
      have f1 := hb1.frozen 1
      have g0 := hb1.cell 0
      have g1 := hb1.cell 1
      simp only [List.getElem?_toArray, List.getElem?_cons_zero, List.getElem?_cons_succ] at c0 c1 g0 g1
      have hLf := later_drop (later_drop (Later.trans hL01 hL) (a := ⟨w.heap.size + 1, 0, none⟩) (u := .int .i64 r1) (Nat.le_succ _)) (a := ⟨w.heap.size + 1, 1, none⟩) (u := .int .i64 r2) (Nat.le_succ _)
      have HLf := hide hLf
      clear hr hfin hbk hb1 br0 br1 br2 br2' hLf
      go_wp2_with fail
      refine bodyPost_ret (v := .agg #[.int .i64 r1, .int .i64 r2]) ?_ rfl ⟨by rw [Hr.out], ?_⟩
      · simp [results, Try.results80, go_sem, *]
      · exact HLf.out
end
end Go.Proofs.Ytbkfnajpbhfneaa

/- The program's Clocks, Hours: walks. -/
namespace Go.Proofs.Ytbkfnajpbhfneaa
open Go Go.RowKit
attribute [local go_sem] later_alloc2 later_alloc3 later_alloc4

theorem asked_err {A1 A2 A3 : Option Addr} {n1 k1 n2 k2 n3 k3 : Nat} {c : Hou} {due q : Int} (w : World) (hc : CV w c A1 n1 A2 n2 A3 n3) (hn1 : n1 ≤ 1000) (hn2 : n2 ≤ 1000) (hn3 : n3 ≤ 1000) (he : askedErr c due = q) (hq : q ≠ 0) :
    Calls Try.prog 78 #[(.agg #[.int .i64 c.hour, .int .i64 c.grace, .slice A1 n1 k1, .slice A2 n2 k2, .slice A3 n3 k3]), .int .i64 due] w fun e w' => e = .returned (.tuple #[.pointer none, .int .i64 q]) ∧ Later w w' := by
  subst he
  by_cases hf : fault c = 0
  · by_cases hd : due = 0
    · subst hd
      have ht : truthsP c = [] := Classical.byContradiction fun h => hq (askedErr_ok hf h)
      rw [askedErr_none hf ht]
      refine (asked_fine w hc hn1 hn2 hn3 hf).mono ?_
      rintro e w' (⟨_, he, hL⟩ | ⟨h, _⟩)
      · exact ⟨he, hL⟩
      · exact absurd ht h
    · rw [askedErr_due hf hd]
      exact asked_due w hc hn1 hn2 hn3 hf hd
  · rw [askedErr_bad hf]
    exact asked_bad w hc hn1 hn2 hn3 hf
theorem asked_ok {A1 A2 A3 : Option Addr} {n1 k1 n2 k2 n3 k3 : Nat} {c : Hou} {due : Int} (w : World) (hc : CV w c A1 n1 A2 n2 A3 n3) (hn1 : n1 ≤ 1000) (hn2 : n2 ≤ 1000) (hn3 : n3 ≤ 1000) (he : askedErr c due = 0) :
    Calls Try.prog 78 #[(.agg #[.int .i64 c.hour, .int .i64 c.grace, .slice A1 n1 k1, .slice A2 n2 k2, .slice A3 n3 k3]), .int .i64 due] w fun e w' => ∃ bw bm At kt, e = .returned (.tuple #[.pointer (some ⟨bw, 0, none⟩), .int .i64 0]) ∧ Later w w' ∧
      WK w' bw c A1 n1 k1 A2 n2 k2 A3 n3 k3 At (truthsP c).length kt (truthsP c) bm := by
  obtain ⟨hf, hd, ht⟩ := askedErr_zero he
  subst hd
  refine (asked_fine w hc hn1 hn2 hn3 hf).mono ?_
  rintro e w' (⟨h, _⟩ | ⟨_, h⟩)
  · exact absurd h ht
  · exact h
theorem truthsP_len {c : Hou} (hf : fault c = 0) : (truthsP c).length ≤ 2000 := by
  have h1 := (truthsP_perm hf).length_eq
  have h2 : (truths c).length ≤ (allErr c).length := List.length_filter_le _ _
  have h3 : (allErr c).length = (many c).toNat := by simp [allErr]
  have h4 := many_le hf
  omega
theorem range_info : (Try.prog.info? 42).map (fun i => (i.zero, i.size, i.bytes)) = some (some (.agg #[.int .i64 0, .int .i64 0]), 2, 16) := by kernel_rfl
theorem range_map_succ {α : Type} (f : Nat → α) (j : Nat) : (List.range (j + 1)).map f = (List.range j).map f ++ [f j] := by simp [List.range_succ]
theorem pairsV_one (l : List (Int × Int)) (r : Int × Int) : pairsV (l ++ [r]) = pairsV l ++ [.int .i64 r.1, .int .i64 r.2] := by simp [pairsV, pairC]
theorem calls_val {P : Program} {f : FuncId} {args : Array Value} {w : World} {v u : Int} (h : Calls P f args w fun e w' => e = .returned (.int .i64 v) ∧ Later w w') (e : v = u) : Calls P f args w fun e w' => e = .returned (.int .i64 u) ∧ Later w w' := by
  subst e; exact h
/-- a list of ranges, and an error -/
def PairsPost (l : List (Int × Int)) (q : Int) (w : World) (e : Ending) (w' : World) : Prop :=
  ∃ A n k, e = .returned (.tuple #[.slice A n k, .int .i64 q]) ∧ Later w w' ∧ RP w' A n l
set_option maxRecDepth 100000 in
set_option maxHeartbeats 1000000 in
theorem ClocksP_calls {A1 A2 A3 : Option Addr} {n1 k1 n2 k2 n3 k3 : Nat} {c : Hou} (w : World) (hc : CV w c A1 n1 A2 n2 A3 n3) (hn1 : n1 ≤ 1000) (hn2 : n2 ≤ 1000) (hn3 : n3 ≤ 1000) :
    Calls Try.prog 24 #[(.agg #[.int .i64 c.hour, .int .i64 c.grace, .slice A1 n1 k1, .slice A2 n2 k2, .slice A3 n3 k3])] w (PairsPost (clocksOut c) (askedErr c 0) w) := by
  obtain ⟨w0, hw0⟩ : ∃ W, W = (w.alloc (.cells #[.int .i64 c.hour, .int .i64 c.grace, .slice A1 n1 k1, .slice A2 n2 k2, .slice A3 n3 k3] 36)) := ⟨_, rfl⟩; have hbox : ∀ W, Later w0 W → ∀ i, W.cell? ⟨w.heap.size, i, none⟩ = #[.int .i64 c.hour, .int .i64 c.grace, .slice A1 n1 k1, .slice A2 n2 k2, .slice A3 n3 k3][i]? := (by rw [hw0]; exact box_cells w #[.int .i64 c.hour, .int .i64 c.grace, .slice A1 n1 k1, .slice A2 n2 k2, .slice A3 n3 k3] 36); have hL0 : Later w w0 := (by rw [hw0]; simp); have hc0 := hc.later hL0; have Hw0 := hide hw0; clear hw0
  by_cases he : askedErr c 0 = 0
  · obtain ⟨hf, _, htn⟩ := askedErr_zero he
    have ok := okH_of_fault hf
    have htl := truthsP_len hf
    have herr := truthsP_isErr ok
    have hnl := hc.ck.len
    have hcl1 := hc.ck.len
    have hl14 := ok.n1
    have hn6 : n1 ≤ 6 := by have := ok.n1; have := ok.n2; omega
    have Hso : Hid (clocksOut c = (List.range n1).map fun i => bP (offF i) (truthsP c)) := by show _ = _; unfold clocksOut; rw [if_pos he, hnl]
    have hn14 : n1 ≤ 4 := by omega
    rw [he]
    have Hhe := hide he
    clear hf he hnl hcl1 hl14
    go_enter Try.func24, Try.ntmps24
    go_wp2_with fail
    rw [← Hw0.out]; clear Hw0
    refine (asked_ok w0 hc0 hn1 hn2 hn3 Hhe.out).mono ?_
    rintro e w2 ⟨bw, bm, At, kt, rfl, hL2, hWK⟩
    have Hbf := hide (fun (W : World) (h : Later w2 W) (i : Nat) (hi : i < n1) => bounds_off_calls (offF i) (x := (i : Int)) W (hWK.later h) htn (by omega) (fun W' hW' d hd e0 e1 e2 e3 hp => workOff_calls W' hp.out (by omega)))
    have b2 := fun W (h : Later w2 W) => hbox W (Later.trans hL2 h) 2
    simp only [List.getElem?_toArray, List.getElem?_cons_zero, List.getElem?_cons_succ] at b2
    go_wp2_with fail
    go_loopw [19, 6, 7] (fun i v _ wr => ∃ j : Nat, j ≤ n1 ∧ i = .int .i64 j ∧ wr.ownsRow w2.heap.size 42 2 v j (pairsV ((List.range j).map fun i => bP (offF i) (truthsP c))) ∧ Later w2 wr) (fun i _ _ _ => n1 - (intOf i).toNat)
    case atStart => exact ⟨0, Nat.zero_le _, rfl, World.ownsRow_nil _ _ _ _, later_refl _⟩
    case round =>
      obtain ⟨j, hj, rfl, hown, hL⟩ := hrel
      by_cases hlt : j < n1
      · have hi1 : (j : Int) < n1 := by omega
        have hbc := Hbf.out wr hL j hlt
        have hsu : ((List.range (j + 1)).map fun i => bP (offF i) (truthsP c)) = ((List.range j).map fun i => bP (offF i) (truthsP c)) ++ [bP (offF j) (truthsP c)] := range_map_succ _ j
        obtain ⟨⟨g1, g2⟩, hg⟩ : ∃ q, bP (offF j) (truthsP c) = q := ⟨_, rfl⟩
        rw [hg] at hbc hsu
        generalize ((List.range j).map fun i => bP (offF i) (truthsP c)) = ls at *
        have Hbc := hide hbc
        have Hsu := hide hsu
        clear hbc hsu hg
        go_wp2_with fail
        refine Hbc.out.mono ?_
        rintro e w3 ⟨rfl, hL3⟩
        have hown3 := own_later2 hown hL3
        have hL23 := Later.trans hL hL3
        have hj6 : j ≤ 1000000 := by omega
        go_wp2_with (at_builtin; go_must (refine own_append (w0 := w2) (W := w3) (te := 42) rfl _ _ 29 rfl 42 (.agg #[.int .i64 0, .int .i64 0]) 2 16 Try.underlying29 range_info rfl (by omega) u6 j (pairsV ls) rfl hL23 hown3 [.int .i64 g1, .int .i64 g2] rfl rfl ?_ hj6 (by omega) ?_; (simp [Value.oneCell']); intro v' w4 hap; have hown4 := hap.own; have hL4 := hap.later; clear hap))
        go_roundw
        case rel =>
          refine ⟨j + 1, by omega, by go_num, ?_, hL4⟩
          rw [Hsu.out, pairsV_one]; exact hown4
        case measure => simp [intOf]; omega
      · have hj1 : j = n1 := by omega
        subst hj1
        obtain ⟨A, k, rfl, hrd⟩ := own_slice hown
        go_wp2_with fail
        refine bodyPost_ret (v := .tuple #[.slice A j k, .int .i64 0]) ?_ rfl ⟨A, j, k, rfl, Later.trans hL0 (Later.trans hL2 hL), by rw [Hso.out]; exact hrd⟩
        simp [results, Try.results24, go_sem]
  · have Hso : Hid (clocksOut c = []) := by show _ = _; unfold clocksOut; rw [if_neg he]
    obtain ⟨q, hq⟩ : ∃ q, askedErr c 0 = q := ⟨_, rfl⟩
    rw [hq] at he ⊢
    have hqb : (q != 0) = true := by simpa using he
    have hqb2 : (q == 0) = false := by simpa using he
    have Hq := hide hq
    clear hq
    go_enter Try.func24, Try.ntmps24
    go_wp2_with fail
    rw [← Hw0.out]; clear Hw0
    refine (asked_err w0 hc0 hn1 hn2 hn3 Hq.out he).mono ?_
    rintro e w1 ⟨rfl, hL1⟩
    go_wp2_with fail
    refine bodyPost_ret (v := .tuple #[.slice none 0 0, .int .i64 q]) ?_ rfl ⟨none, 0, 0, rfl, Later.trans hL0 hL1, by rw [Hso.out]; exact RP.nil⟩
    simp [results, Try.results24, go_sem]
set_option maxRecDepth 100000 in
set_option maxHeartbeats 1000000 in
theorem HoursP_calls {A1 A2 A3 : Option Addr} {n1 k1 n2 k2 n3 k3 : Nat} {c : Hou} (w : World) (hc : CV w c A1 n1 A2 n2 A3 n3) (hn1 : n1 ≤ 1000) (hn2 : n2 ≤ 1000) (hn3 : n3 ≤ 1000) :
    Calls Try.prog 26 #[(.agg #[.int .i64 c.hour, .int .i64 c.grace, .slice A1 n1 k1, .slice A2 n2 k2, .slice A3 n3 k3])] w (PairsPost (hoursOut c) (askedErr c 0) w) := by
  obtain ⟨w0, hw0⟩ : ∃ W, W = (w.alloc (.cells #[.int .i64 c.hour, .int .i64 c.grace, .slice A1 n1 k1, .slice A2 n2 k2, .slice A3 n3 k3] 36)) := ⟨_, rfl⟩; have hbox : ∀ W, Later w0 W → ∀ i, W.cell? ⟨w.heap.size, i, none⟩ = #[.int .i64 c.hour, .int .i64 c.grace, .slice A1 n1 k1, .slice A2 n2 k2, .slice A3 n3 k3][i]? := (by rw [hw0]; exact box_cells w #[.int .i64 c.hour, .int .i64 c.grace, .slice A1 n1 k1, .slice A2 n2 k2, .slice A3 n3 k3] 36); have hL0 : Later w w0 := (by rw [hw0]; simp); have hc0 := hc.later hL0; have Hw0 := hide hw0; clear hw0
  by_cases he : askedErr c 0 = 0
  · obtain ⟨hf, _, htn⟩ := askedErr_zero he
    have ok := okH_of_fault hf
    have htl := truthsP_len hf
    have herr := truthsP_isErr ok
    have hnl := hc.tk.len
    have hcl1 := hc.ck.len
    have hl14 := ok.n1
    have hn6 : n2 ≤ 6 := by have := ok.n1; have := ok.n2; omega
    have Hso : Hid (hoursOut c = (List.range n2).map fun i => bP (hoursF c i) (truthsP c)) := by show _ = _; unfold hoursOut; rw [if_pos he, hnl]
    have hn14 : n1 ≤ 4 := by omega
    rw [he]
    have Hhe := hide he
    clear hf he hnl hcl1 hl14
    go_enter Try.func26, Try.ntmps26
    go_wp2_with fail
    rw [← Hw0.out]; clear Hw0
    refine (asked_ok w0 hc0 hn1 hn2 hn3 Hhe.out).mono ?_
    rintro e w2 ⟨bw, bm, At, kt, rfl, hL2, hWK⟩
    have Hbf := hide (fun (W : World) (h : Later w2 W) (i : Nat) (hi : i < n2) => bounds_hours_calls (hoursF c i) (x := (i : Int)) W (hWK.later h) htn (by omega) (fun W' hW' d hd e0 e1 e2 e3 hp => hours_calls W' (hWK.later (Later.trans h hW')) ok (herr d hd) hp.out))
    have b3 := fun W (h : Later w2 W) => hbox W (Later.trans hL2 h) 3
    simp only [List.getElem?_toArray, List.getElem?_cons_zero, List.getElem?_cons_succ] at b3
    go_wp2_with fail
    go_loopw [19, 6, 7] (fun i v _ wr => ∃ j : Nat, j ≤ n2 ∧ i = .int .i64 j ∧ wr.ownsRow w2.heap.size 42 2 v j (pairsV ((List.range j).map fun i => bP (hoursF c i) (truthsP c))) ∧ Later w2 wr) (fun i _ _ _ => n2 - (intOf i).toNat)
    case atStart => exact ⟨0, Nat.zero_le _, rfl, World.ownsRow_nil _ _ _ _, later_refl _⟩
    case round =>
      obtain ⟨j, hj, rfl, hown, hL⟩ := hrel
      by_cases hlt : j < n2
      · have hi1 : (j : Int) < n2 := by omega
        have hbc := Hbf.out wr hL j hlt
        have hsu : ((List.range (j + 1)).map fun i => bP (hoursF c i) (truthsP c)) = ((List.range j).map fun i => bP (hoursF c i) (truthsP c)) ++ [bP (hoursF c j) (truthsP c)] := range_map_succ _ j
        obtain ⟨⟨g1, g2⟩, hg⟩ : ∃ q, bP (hoursF c j) (truthsP c) = q := ⟨_, rfl⟩
        rw [hg] at hbc hsu
        generalize ((List.range j).map fun i => bP (hoursF c i) (truthsP c)) = ls at *
        have Hbc := hide hbc
        have Hsu := hide hsu
        clear hbc hsu hg
        go_wp2_with fail
        refine Hbc.out.mono ?_
        rintro e w3 ⟨rfl, hL3⟩
        have hown3 := own_later2 hown hL3
        have hL23 := Later.trans hL hL3
        have hj6 : j ≤ 1000000 := by omega
        go_wp2_with (at_builtin; go_must (refine own_append (w0 := w2) (W := w3) (te := 42) rfl _ _ 29 rfl 42 (.agg #[.int .i64 0, .int .i64 0]) 2 16 Try.underlying29 range_info rfl (by omega) u6 j (pairsV ls) rfl hL23 hown3 [.int .i64 g1, .int .i64 g2] rfl rfl ?_ hj6 (by omega) ?_; (simp [Value.oneCell']); intro v' w4 hap; have hown4 := hap.own; have hL4 := hap.later; clear hap))
        go_roundw
        case rel =>
          refine ⟨j + 1, by omega, by go_num, ?_, hL4⟩
          rw [Hsu.out, pairsV_one]; exact hown4
        case measure => simp [intOf]; omega
      · have hj1 : j = n2 := by omega
        subst hj1
        obtain ⟨A, k, rfl, hrd⟩ := own_slice hown
        go_wp2_with fail
        refine bodyPost_ret (v := .tuple #[.slice A j k, .int .i64 0]) ?_ rfl ⟨A, j, k, rfl, Later.trans hL0 (Later.trans hL2 hL), by rw [Hso.out]; exact hrd⟩
        simp [results, Try.results26, go_sem]
  · have Hso : Hid (hoursOut c = []) := by show _ = _; unfold hoursOut; rw [if_neg he]
    obtain ⟨q, hq⟩ : ∃ q, askedErr c 0 = q := ⟨_, rfl⟩
    rw [hq] at he ⊢
    have hqb : (q != 0) = true := by simpa using he
    have hqb2 : (q == 0) = false := by simpa using he
    have Hq := hide hq
    clear hq
    go_enter Try.func26, Try.ntmps26
    go_wp2_with fail
    rw [← Hw0.out]; clear Hw0
    refine (asked_err w0 hc0 hn1 hn2 hn3 Hq.out he).mono ?_
    rintro e w1 ⟨rfl, hL1⟩
    go_wp2_with fail
    refine bodyPost_ret (v := .tuple #[.slice none 0 0, .int .i64 q]) ?_ rfl ⟨none, 0, 0, rfl, Later.trans hL0 hL1, by rw [Hso.out]; exact RP.nil⟩
    simp [results, Try.results26, go_sem]
end Go.Proofs.Ytbkfnajpbhfneaa

/- The program's long, clash: walks. -/
namespace Go.Proofs.Ytbkfnajpbhfneaa
open Go Go.RowKit

def cameP (d : List Int) (la lb : List Cp) : Bool :=
  match lb with
  | _ :: b :: _ => match la with
    | a :: _ => decide (minuteC d a < minuteC d b)
    | [] => true
  | _ => true
def clashL (d : List Int) (la lb : List Cp) : Bool := !la.isEmpty && (!lb.isEmpty && (cameP d la lb && cameP d lb la))
theorem cameB_ofP (c : Hou) (d : List Int) (t o : Int) : cameB c d t o = cameP d (ofP c t) (ofP c o) := by
  unfold cameB cameP
  rw [← ofP_map, ← ofP_map]
  match ofR c o, ofR c t with
  | [], _ => rfl
  | [_], _ => rfl
  | _ :: _ :: _, [] => rfl
  | _ :: _ :: _, _ :: _ => rfl
theorem clashB_ofP (c : Hou) (d : List Int) (i o : Nat) : clashB c d i o = (decide ((tickAt c i).1 = (tickAt c o).1) && clashL d (ofP c i) (ofP c o)) := by
  have h : ∀ t : Int, (ofR c t).isEmpty = (ofP c t).isEmpty := fun t => by rw [← ofP_map]; cases ofR c t <;> rfl
  unfold clashB clashL
  rw [cameB_ofP, cameB_ofP, h, h]
  simp only [Bool.and_assoc]
section
variable {A1 A2 A3 At : Option Addr} {n1 k1 n2 k2 n3 k3 nt kt bw bm : Nat} {c : Hou} {tr : List (List Int)}
set_option maxRecDepth 100000 in
theorem long_calls {d : List Int} {e0 e1 e2 e3 : Int} {i : Nat} (w : World) (hw : WK w bw c A1 n1 k1 A2 n2 k2 A3 n3 k3 At nt kt tr bm) (ok : OkH c) (hd : IsErr c d) (hp : pad4 d = [e0, e1, e2, e3]) (hi : i < n2) :
    Calls Try.prog 86 #[.pointer (some ⟨bw, 0, none⟩), .agg #[.int .i64 e0, .int .i64 e1, .int .i64 e2, .int .i64 e3], .int .i64 (i : Int)] w fun e w' => e = .returned (.bool (isLong c d i)) ∧ Later w w' := by
  obtain ⟨w0, hw0⟩ : ∃ X, X = w.alloc (.cells #[.int .i64 e0, .int .i64 e1, .int .i64 e2, .int .i64 e3] 117) := ⟨_, rfl⟩
  have hb := box_cells w #[.int .i64 e0, .int .i64 e1, .int .i64 e2, .int .i64 e3] 117
  rw [← hw0] at hb
  have hL0 : Later w w0 := by rw [hw0]; exact later_alloc (later_refl _) _
  have hwk := hw.later hL0
  have hcw := fun W (hW : Later w0 W) i => (hwk.later hW).cells i
  have c3 := fun W hW => hcw W hW 3
  have b0 := fun W hW => hb W hW 0
  have b1 := fun W hW => hb W hW 1
  have b2 := fun W hW => hb W hW 2
  have b3 := fun W hW => hb W hW 3
  simp only [List.getElem?_toArray, List.getElem?_cons_zero, List.getElem?_cons_succ] at c3 b0 b1 b2 b3
  obtain ⟨bt, ot, x, rfl, _, hx, hx0, hx1⟩ := hwk.cv.tk.get hi
  have hi1 : (i : Int) < n2 := by omega
  have Hil : Hid (isLong c d i = decide (x.2 < hoursR c d i)) := by show _ = _; unfold isLong; rw [tickAt_of hx]
  have Hw0 := hide hw0
  have HH := hide (fun (W : World) (hW : Later w0 W) => hours_calls (t := (i : Int)) W (hwk.later hW) ok hd hp)
  generalize hoursR c d i = q at *
  clear hw0 hb hcw hx
  go_enter Try.func86, Try.ntmps86
  go_upto_region 1 with fail
  rw [← Hw0.out]; clear Hw0
  refine wp_region_ext (w0 := w0) (by kernel_rfl) (by kernel_rfl) (later_refl _) ?_; (repeat (first | go_big_quiet_step (((go_at_call 81; exact calls_ext (by simp) (HH.out _ (by simp))))) | quiet_step (((go_at_call 81; exact calls_ext (by simp) (HH.out _ (by simp))))))); refine wpQuiet_nil ?_; rintro w3 ⟨⟨_, hL3⟩, rfl⟩; (try dsimp only)
  go_wp2_with fail
  go_ret
  exact ⟨ret_bool (by rw [Hil.out]), Later.trans hL0 hL3⟩
set_option maxRecDepth 100000 in
set_option maxHeartbeats 2000000 in
theorem clash_calls {d : List Int} {e0 e1 e2 e3 : Int} {i o : Nat} (w : World) (hw : WK w bw c A1 n1 k1 A2 n2 k2 A3 n3 k3 At nt kt tr bm) (ok : OkH c) (hd : IsErr c d) (hp : pad4 d = [e0, e1, e2, e3]) (hi : i < n2) (ho : o < n2) :
    Calls Try.prog 91 #[.pointer (some ⟨bw, 0, none⟩), .agg #[.int .i64 e0, .int .i64 e1, .int .i64 e2, .int .i64 e3], .int .i64 (i : Int), .int .i64 (o : Int)] w fun e w' => e = .returned (.bool (clashB c d i o)) ∧ Later w w' := by
  have hm3 : n3 ≤ 1000 := by have := hw.cv.cp.len; have := ok.n3; omega
  obtain ⟨w0, hw0⟩ : ∃ X, X = w.alloc (.cells #[.int .i64 e0, .int .i64 e1, .int .i64 e2, .int .i64 e3] 117) := ⟨_, rfl⟩
  have hb := box_cells w #[.int .i64 e0, .int .i64 e1, .int .i64 e2, .int .i64 e3] 117
  rw [← hw0] at hb
  have hL0 : Later w w0 := by rw [hw0]; exact later_alloc (later_refl _) _
  have hwk := hw.later hL0
  have hcw := fun W (hW : Later w0 W) i => (hwk.later hW).cells i
  have c0 := fun W hW => hcw W hW 0
  have c1 := fun W hW => hcw W hW 1
  have c2 := fun W hW => hcw W hW 2
  have c3 := fun W hW => hcw W hW 3
  have c4 := fun W hW => hcw W hW 4
  simp only [List.getElem?_toArray, List.getElem?_cons_zero, List.getElem?_cons_succ] at c0 c1 c2 c3 c4
  have hS0 : Later w0 w0.drew := later_drew (later_refl _)
  have hc0 := hwk.cv
  have Hw0 := hide hw0
  have Hb := hide hb
  have Hcl := hide (clashB_ofP c d i o)
  obtain ⟨bt, ot, x, rfl, _, hx, hx0, hx1⟩ := hc0.tk.get hi
  obtain ⟨y, hy, hy0, hy1⟩ := hc0.tk.at_ ho
  rw [tickAt_of hx, tickAt_of hy] at Hcl
  have hi1 : (i : Int) < n2 := by omega
  have ho1 : (o : Int) < n2 := by omega
  have hmi : ∀ z ∈ ofP c (i : Int), z ∈ c.clips := fun z hz => ofP_mem hz
  have hmo : ∀ z ∈ ofP c (o : Int), z ∈ c.clips := fun z hz => ofP_mem hz
  have hr4 := pad4_range ok hd
  rw [hp] at hr4
  have Hmc := hide (fun (W : World) (z : Cp) (hz : z ∈ c.clips) => minute_eq (v := minuteC d z) (by rw [← hp]; exact minuteC_pad4 ok d hz) W (clip_in ok hz).1 (clip_in ok hz).2.1 (clip_in ok hz).2.2 hr4)
  clear hw0 hb hcw hx hy hx1 hy1 hr4
  go_enter Try.func91, Try.ntmps91
  go_upto_region 1 with fail
  rw [← Hw0.out]; clear Hw0
  go_region_held3 (fun W => Later w0 W) ((((repeat (first | assumption | refine later_drew ?_ | refine later_alloc ?_ _ | refine later_set ?_ _ (Nat.le_add_right _ _) _ | refine later_set ?_ _ (Nat.le_refl _) _)); done)))
    (first
      | (go_at_call 116; go_must (refine (of_calls (k1 := k1) (k2 := k2) (k3 := k3) _ (hc0.later (by assumption)) hm3).mono ?_; rintro e w2 ⟨A, k, rfl, hL2, hrc⟩; have hLw2 : Later w0 w2 := Later.trans (by assumption) hL2)))
  rename_i wa Aa ka hLa hca hLwa hS1
  have hca := hca.later hL2
  have hL00 := Later.trans hL0 hLw2
  have hx0 := fun W (hW : Later w2 W) => hx0 W (Later.trans hLw2 hW)
  have hy0 := fun W (hW : Later w2 W) => hy0 W (Later.trans hLw2 hW)
  have hcw3 := fun W (hW : Later w2 W) => c3 W (Later.trans hLw2 hW)
  have hbw := fun W (hW : Later w2 W) => Hb.out W (Later.trans hLw2 hW)
  have f0 := fun W hW => hbw W hW 0
  have f1 := fun W hW => hbw W hW 1
  have f2 := fun W hW => hbw W hW 2
  have f3 := fun W hW => hbw W hW 3
  simp only [List.getElem?_toArray, List.getElem?_cons_zero, List.getElem?_cons_succ] at f0 f1 f2 f3
  clear hbw c0 c1 c2 c3 c4 hLa hLwa hS0 Hb hS1
  generalize ofP c (i : Int) = la at *
  generalize ofP c (o : Int) = lb at *
  by_cases hxy : x.1 = y.1
  · have hnb : (x.1 != y.1) = false := by simpa using hxy
    rw [decide_eq_true hxy, Bool.true_and] at Hcl
    clear hxy
    match la, lb with
    | [], lb =>
      have Hf : Hid (clashB c d i o = false) := Hcl.out
      have hz : (((([] : List Cp).length : Nat) : Int) == 0) = true := rfl
      generalize ([] : List Cp).length = na at *
      clear Hcl hca hrc hmi hmo
      go_upto_region 2 with fail
      refine wp_region_ext (w0 := w2) (by kernel_rfl) (by kernel_rfl) (later_refl _) ?_; (repeat (first | go_big_quiet_step (((fail))) | quiet_step (((fail))))); refine wpQuiet_nil ?_; rintro w3 ⟨⟨_, hL3⟩, rfl⟩; (try dsimp only)
      go_wp2_with fail
      go_ret
      exact ⟨by rw [Hf.out]; rfl, Later.trans hL00 hL3⟩
    | a :: la, [] =>
      have Hf : Hid (clashB c d i o = false) := Hcl.out
      have hz0 : ((((a :: la).length : Nat) : Int) == 0) = false := by simp only [List.length_cons, beq_eq_false_iff_ne]; omega
      have hz : (((([] : List Cp).length : Nat) : Int) == 0) = true := rfl
      generalize ([] : List Cp).length = nb at *
      generalize (a :: la).length = na at *
      clear Hcl hca hrc hmi hmo
      go_upto_region 2 with fail
      refine wp_region_ext (w0 := w2) (by kernel_rfl) (by kernel_rfl) (later_refl _) ?_; (repeat (first | go_big_quiet_step (((fail))) | quiet_step (((fail))))); refine wpQuiet_nil ?_; rintro w3 ⟨⟨_, hL3⟩, rfl⟩; (try dsimp only)
      go_wp2_with fail
      go_ret
      exact ⟨by rw [Hf.out]; rfl, Later.trans hL00 hL3⟩
    | [a], [b] =>
      have hz0 : (((([a]).length : Nat) : Int) == 0) = false := by simp only [List.length_cons, beq_eq_false_iff_ne]; omega
      have hz : (((([b]).length : Nat) : Int) == 0) = false := by simp only [List.length_cons, beq_eq_false_iff_ne]; omega
      have hla : ((([a]).length : Nat) : Int) < 2 := by simp only [List.length_cons, List.length_nil]; omega
      have hlb : ((([b]).length : Nat) : Int) < 2 := by simp only [List.length_cons, List.length_nil]; omega
      generalize hna : ([a] : List Cp).length = na at *
      generalize hnb2 : ([b] : List Cp).length = nb at *
      have hla2 := decide_eq_true hla
      have hlb2 := decide_eq_true hlb
      have Hf : Hid (clashB c d i o = (true)) := by
        show _ = _; rw [Hcl.out]; simp [clashL, cameP]
      clear Hcl hca hrc hna hnb2 hmi hmo
      go_upto_region 2 with fail
      refine wp_region_ext (w0 := w2) (by kernel_rfl) (by kernel_rfl) (later_refl _) ?_; (repeat (first | go_big_quiet_step (((fail))) | quiet_step (((fail))))); refine wpQuiet_nil ?_; rintro w3 ⟨⟨_, hL3⟩, rfl⟩; (try dsimp only)
      have f0 := fun W (hW : Later w3 W) => f0 W (Later.trans hL3 hW)
      have f1 := fun W (hW : Later w3 W) => f1 W (Later.trans hL3 hW)
      have f2 := fun W (hW : Later w3 W) => f2 W (Later.trans hL3 hW)
      have f3 := fun W (hW : Later w3 W) => f3 W (Later.trans hL3 hW)
      clear hz hz0 hx0 hy0 hcw3
      go_upto_region 4 with fail
      refine wp_region_ext (w0 := w3) (by kernel_rfl) (by kernel_rfl) (later_refl _) ?_; (repeat (first | go_big_quiet_step (((fail))) | quiet_step (((fail))))); refine wpQuiet_nil ?_; rintro w4 ⟨⟨_, hL4⟩, rfl⟩; (try dsimp only)
      go_wp2_with fail
      go_ret
      exact ⟨ret_bool (by rw [Hf.out] <;> simp [*]), Later.trans hL00 (Later.trans hL3 hL4)⟩
    | a :: a1 :: la, [b] =>
      have hz0 : ((((a :: a1 :: la).length : Nat) : Int) == 0) = false := by simp only [List.length_cons, beq_eq_false_iff_ne]; omega
      have hz : (((([b]).length : Nat) : Int) == 0) = false := by simp only [List.length_cons, beq_eq_false_iff_ne]; omega
      have hla : (2 : Int) ≤ (((a :: a1 :: la).length : Nat) : Int) := by simp only [List.length_cons]; omega
      have hlb : ((([b]).length : Nat) : Int) < 2 := by simp only [List.length_cons, List.length_nil]; omega
      obtain ⟨ba, oa, za1, rfl, _, ya1, ac10, ac11, ac12⟩ := hca.get (k := 1) (by simp)
      simp only [List.getElem?_cons_zero, List.getElem?_cons_succ, Option.some.injEq] at ya1
      subst ya1
      simp only [Nat.zero_mul, Nat.add_zero, Nat.one_mul] at ac10 ac11 ac12
      have hma1 : a1 ∈ c.clips := hmi _ (by simp)
      obtain ⟨bb, ob, zb0, rfl, _, yb0, bc00, bc01, bc02⟩ := hrc.get (k := 0) (by simp)
      simp only [List.getElem?_cons_zero, List.getElem?_cons_succ, Option.some.injEq] at yb0
      subst yb0
      simp only [Nat.zero_mul, Nat.add_zero, Nat.one_mul] at bc00 bc01 bc02
      have hmb0 : b ∈ c.clips := hmo _ (by simp)
      have hia1 : (1 : Int) < ((a :: a1 :: la : List Cp).length : Nat) := by simp only [List.length_cons, List.length_nil]; omega
      have hib0 : (0 : Int) < (([b] : List Cp).length : Nat) := by simp only [List.length_cons, List.length_nil]; omega
      generalize hna : (a :: a1 :: la : List Cp).length = na at *
      generalize hnb2 : ([b] : List Cp).length = nb at *
      have hla' : ¬ (na : Int) < 2 := by omega
      have hla2 := decide_eq_false hla'
      have hlb2 := decide_eq_true hlb
      have Hf : Hid (clashB c d i o = (decide (minuteC d b < minuteC d a1))) := by
        show _ = _; rw [Hcl.out]; simp [clashL, cameP]
      clear Hcl hca hrc hna hnb2 hmi hmo
      by_cases cb : minuteC d b < minuteC d a1
      · have cb2 := decide_eq_true cb
        go_upto_region 2 with fail
        refine wp_region_ext (w0 := w2) (by kernel_rfl) (by kernel_rfl) (later_refl _) ?_; (repeat (first | go_big_quiet_step (((fail))) | quiet_step (((fail))))); refine wpQuiet_nil ?_; rintro w3 ⟨⟨_, hL3⟩, rfl⟩; (try dsimp only)
        have f0 := fun W (hW : Later w3 W) => f0 W (Later.trans hL3 hW)
        have f1 := fun W (hW : Later w3 W) => f1 W (Later.trans hL3 hW)
        have f2 := fun W (hW : Later w3 W) => f2 W (Later.trans hL3 hW)
        have f3 := fun W (hW : Later w3 W) => f3 W (Later.trans hL3 hW)
        have ac10 := fun W (hW : Later w3 W) => ac10 W (Later.trans hL3 hW)
        have ac11 := fun W (hW : Later w3 W) => ac11 W (Later.trans hL3 hW)
        have ac12 := fun W (hW : Later w3 W) => ac12 W (Later.trans hL3 hW)
        have bc00 := fun W (hW : Later w3 W) => bc00 W (Later.trans hL3 hW)
        have bc01 := fun W (hW : Later w3 W) => bc01 W (Later.trans hL3 hW)
        have bc02 := fun W (hW : Later w3 W) => bc02 W (Later.trans hL3 hW)
        clear hz hz0 hx0 hy0 hcw3
        go_upto_region 4 with fail
        refine wp_region_ext (w0 := w3) (by kernel_rfl) (by kernel_rfl) (later_refl _) ?_; (repeat (first | go_big_quiet_step (((go_at_call 105; exact calls_ext (by simp) (Hmc.out _ _ (by assumption))))) | quiet_step (((go_at_call 105; exact calls_ext (by simp) (Hmc.out _ _ (by assumption))))))); refine wpQuiet_nil ?_; rintro w4 ⟨⟨_, hL4⟩, rfl⟩; (try dsimp only)
        go_wp2_with fail
        go_ret
        exact ⟨ret_bool (by rw [Hf.out] <;> simp [*]), Later.trans hL00 (Later.trans hL3 hL4)⟩
      · have cb2 := decide_eq_false cb
        go_upto_region 2 with fail
        refine wp_region_ext (w0 := w2) (by kernel_rfl) (by kernel_rfl) (later_refl _) ?_; (repeat (first | go_big_quiet_step (((fail))) | quiet_step (((fail))))); refine wpQuiet_nil ?_; rintro w3 ⟨⟨_, hL3⟩, rfl⟩; (try dsimp only)
        have f0 := fun W (hW : Later w3 W) => f0 W (Later.trans hL3 hW)
        have f1 := fun W (hW : Later w3 W) => f1 W (Later.trans hL3 hW)
        have f2 := fun W (hW : Later w3 W) => f2 W (Later.trans hL3 hW)
        have f3 := fun W (hW : Later w3 W) => f3 W (Later.trans hL3 hW)
        have ac10 := fun W (hW : Later w3 W) => ac10 W (Later.trans hL3 hW)
        have ac11 := fun W (hW : Later w3 W) => ac11 W (Later.trans hL3 hW)
        have ac12 := fun W (hW : Later w3 W) => ac12 W (Later.trans hL3 hW)
        have bc00 := fun W (hW : Later w3 W) => bc00 W (Later.trans hL3 hW)
        have bc01 := fun W (hW : Later w3 W) => bc01 W (Later.trans hL3 hW)
        have bc02 := fun W (hW : Later w3 W) => bc02 W (Later.trans hL3 hW)
        clear hz hz0 hx0 hy0 hcw3
        go_upto_region 4 with fail
        refine wp_region_ext (w0 := w3) (by kernel_rfl) (by kernel_rfl) (later_refl _) ?_; (repeat (first | go_big_quiet_step (((go_at_call 105; exact calls_ext (by simp) (Hmc.out _ _ (by assumption))))) | quiet_step (((go_at_call 105; exact calls_ext (by simp) (Hmc.out _ _ (by assumption))))))); refine wpQuiet_nil ?_; rintro w4 ⟨⟨_, hL4⟩, rfl⟩; (try dsimp only)
        go_wp2_with fail
        go_ret
        exact ⟨ret_bool (by rw [Hf.out] <;> simp [*]), Later.trans hL00 (Later.trans hL3 hL4)⟩
    | [a], b :: b1 :: lb =>
      have hz0 : (((([a]).length : Nat) : Int) == 0) = false := by simp only [List.length_cons, beq_eq_false_iff_ne]; omega
      have hz : ((((b :: b1 :: lb).length : Nat) : Int) == 0) = false := by simp only [List.length_cons, beq_eq_false_iff_ne]; omega
      have hla : ((([a]).length : Nat) : Int) < 2 := by simp only [List.length_cons, List.length_nil]; omega
      have hlb : (2 : Int) ≤ (((b :: b1 :: lb).length : Nat) : Int) := by simp only [List.length_cons]; omega
      obtain ⟨ba, oa, za0, rfl, _, ya0, ac00, ac01, ac02⟩ := hca.get (k := 0) (by simp)
      simp only [List.getElem?_cons_zero, List.getElem?_cons_succ, Option.some.injEq] at ya0
      subst ya0
      simp only [Nat.zero_mul, Nat.add_zero, Nat.one_mul] at ac00 ac01 ac02
      have hma0 : a ∈ c.clips := hmi _ (by simp)
      obtain ⟨bb, ob, zb1, rfl, _, yb1, bc10, bc11, bc12⟩ := hrc.get (k := 1) (by simp)
      simp only [List.getElem?_cons_zero, List.getElem?_cons_succ, Option.some.injEq] at yb1
      subst yb1
      simp only [Nat.zero_mul, Nat.add_zero, Nat.one_mul] at bc10 bc11 bc12
      have hmb1 : b1 ∈ c.clips := hmo _ (by simp)
      have hia0 : (0 : Int) < (([a] : List Cp).length : Nat) := by simp only [List.length_cons, List.length_nil]; omega
      have hib1 : (1 : Int) < ((b :: b1 :: lb : List Cp).length : Nat) := by simp only [List.length_cons, List.length_nil]; omega
      generalize hna : ([a] : List Cp).length = na at *
      generalize hnb2 : (b :: b1 :: lb : List Cp).length = nb at *
      have hla2 := decide_eq_true hla
      have hlb' : ¬ (nb : Int) < 2 := by omega
      have hlb2 := decide_eq_false hlb'
      have Hf : Hid (clashB c d i o = (decide (minuteC d a < minuteC d b1))) := by
        show _ = _; rw [Hcl.out]; simp [clashL, cameP]
      clear Hcl hca hrc hna hnb2 hmi hmo
      by_cases ca : minuteC d a < minuteC d b1
      · have ca2 := decide_eq_true ca
        go_upto_region 2 with fail
        refine wp_region_ext (w0 := w2) (by kernel_rfl) (by kernel_rfl) (later_refl _) ?_; (repeat (first | go_big_quiet_step (((fail))) | quiet_step (((fail))))); refine wpQuiet_nil ?_; rintro w3 ⟨⟨_, hL3⟩, rfl⟩; (try dsimp only)
        have f0 := fun W (hW : Later w3 W) => f0 W (Later.trans hL3 hW)
        have f1 := fun W (hW : Later w3 W) => f1 W (Later.trans hL3 hW)
        have f2 := fun W (hW : Later w3 W) => f2 W (Later.trans hL3 hW)
        have f3 := fun W (hW : Later w3 W) => f3 W (Later.trans hL3 hW)
        have ac00 := fun W (hW : Later w3 W) => ac00 W (Later.trans hL3 hW)
        have ac01 := fun W (hW : Later w3 W) => ac01 W (Later.trans hL3 hW)
        have ac02 := fun W (hW : Later w3 W) => ac02 W (Later.trans hL3 hW)
        have bc10 := fun W (hW : Later w3 W) => bc10 W (Later.trans hL3 hW)
        have bc11 := fun W (hW : Later w3 W) => bc11 W (Later.trans hL3 hW)
        have bc12 := fun W (hW : Later w3 W) => bc12 W (Later.trans hL3 hW)
        clear hz hz0 hx0 hy0 hcw3
        go_upto_region 4 with fail
        refine wp_region_ext (w0 := w3) (by kernel_rfl) (by kernel_rfl) (later_refl _) ?_; (repeat (first | go_big_quiet_step (((go_at_call 105; exact calls_ext (by simp) (Hmc.out _ _ (by assumption))))) | quiet_step (((go_at_call 105; exact calls_ext (by simp) (Hmc.out _ _ (by assumption))))))); refine wpQuiet_nil ?_; rintro w4 ⟨⟨_, hL4⟩, rfl⟩; (try dsimp only)
        go_wp2_with fail
        go_ret
        exact ⟨ret_bool (by rw [Hf.out] <;> simp [*]), Later.trans hL00 (Later.trans hL3 hL4)⟩
      · have ca2 := decide_eq_false ca
        go_upto_region 2 with fail
        refine wp_region_ext (w0 := w2) (by kernel_rfl) (by kernel_rfl) (later_refl _) ?_; (repeat (first | go_big_quiet_step (((fail))) | quiet_step (((fail))))); refine wpQuiet_nil ?_; rintro w3 ⟨⟨_, hL3⟩, rfl⟩; (try dsimp only)
        have f0 := fun W (hW : Later w3 W) => f0 W (Later.trans hL3 hW)
        have f1 := fun W (hW : Later w3 W) => f1 W (Later.trans hL3 hW)
        have f2 := fun W (hW : Later w3 W) => f2 W (Later.trans hL3 hW)
        have f3 := fun W (hW : Later w3 W) => f3 W (Later.trans hL3 hW)
        have ac00 := fun W (hW : Later w3 W) => ac00 W (Later.trans hL3 hW)
        have ac01 := fun W (hW : Later w3 W) => ac01 W (Later.trans hL3 hW)
        have ac02 := fun W (hW : Later w3 W) => ac02 W (Later.trans hL3 hW)
        have bc10 := fun W (hW : Later w3 W) => bc10 W (Later.trans hL3 hW)
        have bc11 := fun W (hW : Later w3 W) => bc11 W (Later.trans hL3 hW)
        have bc12 := fun W (hW : Later w3 W) => bc12 W (Later.trans hL3 hW)
        clear hz hz0 hx0 hy0 hcw3
        go_upto_region 4 with fail
        refine wp_region_ext (w0 := w3) (by kernel_rfl) (by kernel_rfl) (later_refl _) ?_; (repeat (first | go_big_quiet_step (((go_at_call 105; exact calls_ext (by simp) (Hmc.out _ _ (by assumption))))) | quiet_step (((go_at_call 105; exact calls_ext (by simp) (Hmc.out _ _ (by assumption))))))); refine wpQuiet_nil ?_; rintro w4 ⟨⟨_, hL4⟩, rfl⟩; (try dsimp only)
        go_wp2_with fail
        go_ret
        exact ⟨ret_bool (by rw [Hf.out] <;> simp [*]), Later.trans hL00 (Later.trans hL3 hL4)⟩
    | a :: a1 :: la, b :: b1 :: lb =>
      have hz0 : ((((a :: a1 :: la).length : Nat) : Int) == 0) = false := by simp only [List.length_cons, beq_eq_false_iff_ne]; omega
      have hz : ((((b :: b1 :: lb).length : Nat) : Int) == 0) = false := by simp only [List.length_cons, beq_eq_false_iff_ne]; omega
      have hla : (2 : Int) ≤ (((a :: a1 :: la).length : Nat) : Int) := by simp only [List.length_cons]; omega
      have hlb : (2 : Int) ≤ (((b :: b1 :: lb).length : Nat) : Int) := by simp only [List.length_cons]; omega
      obtain ⟨ba, oa, za0, rfl, _, ya0, ac00, ac01, ac02⟩ := hca.get (k := 0) (by simp)
      simp only [List.getElem?_cons_zero, List.getElem?_cons_succ, Option.some.injEq] at ya0
      subst ya0
      simp only [Nat.zero_mul, Nat.add_zero, Nat.one_mul] at ac00 ac01 ac02
      have hma0 : a ∈ c.clips := hmi _ (by simp)
      obtain ⟨za1, ya1, ac10, ac11, ac12⟩ := hca.at_ (k := 1) (by simp)
      simp only [List.getElem?_cons_zero, List.getElem?_cons_succ, Option.some.injEq] at ya1
      subst ya1
      simp only [Nat.zero_mul, Nat.add_zero, Nat.one_mul] at ac10 ac11 ac12
      have hma1 : a1 ∈ c.clips := hmi _ (by simp)
      obtain ⟨bb, ob, zb0, rfl, _, yb0, bc00, bc01, bc02⟩ := hrc.get (k := 0) (by simp)
      simp only [List.getElem?_cons_zero, List.getElem?_cons_succ, Option.some.injEq] at yb0
      subst yb0
      simp only [Nat.zero_mul, Nat.add_zero, Nat.one_mul] at bc00 bc01 bc02
      have hmb0 : b ∈ c.clips := hmo _ (by simp)
      obtain ⟨zb1, yb1, bc10, bc11, bc12⟩ := hrc.at_ (k := 1) (by simp)
      simp only [List.getElem?_cons_zero, List.getElem?_cons_succ, Option.some.injEq] at yb1
      subst yb1
      simp only [Nat.zero_mul, Nat.add_zero, Nat.one_mul] at bc10 bc11 bc12
      have hmb1 : b1 ∈ c.clips := hmo _ (by simp)
      have hia0 : (0 : Int) < ((a :: a1 :: la : List Cp).length : Nat) := by simp only [List.length_cons, List.length_nil]; omega
      have hia1 : (1 : Int) < ((a :: a1 :: la : List Cp).length : Nat) := by simp only [List.length_cons, List.length_nil]; omega
      have hib1 : (1 : Int) < ((b :: b1 :: lb : List Cp).length : Nat) := by simp only [List.length_cons, List.length_nil]; omega
      have hib0 : (0 : Int) < ((b :: b1 :: lb : List Cp).length : Nat) := by simp only [List.length_cons, List.length_nil]; omega
      generalize hna : (a :: a1 :: la : List Cp).length = na at *
      generalize hnb2 : (b :: b1 :: lb : List Cp).length = nb at *
      have hla' : ¬ (na : Int) < 2 := by omega
      have hla2 := decide_eq_false hla'
      have hlb' : ¬ (nb : Int) < 2 := by omega
      have hlb2 := decide_eq_false hlb'
      have Hf : Hid (clashB c d i o = (decide (minuteC d a < minuteC d b1) && decide (minuteC d b < minuteC d a1))) := by
        show _ = _; rw [Hcl.out]; simp [clashL, cameP]
      clear Hcl hca hrc hna hnb2 hmi hmo
      by_cases ca : minuteC d a < minuteC d b1
      · have ca2 := decide_eq_true ca
        by_cases cb : minuteC d b < minuteC d a1
        · have cb2 := decide_eq_true cb
          go_upto_region 2 with fail
          refine wp_region_ext (w0 := w2) (by kernel_rfl) (by kernel_rfl) (later_refl _) ?_; (repeat (first | go_big_quiet_step (((fail))) | quiet_step (((fail))))); refine wpQuiet_nil ?_; rintro w3 ⟨⟨_, hL3⟩, rfl⟩; (try dsimp only)
          have f0 := fun W (hW : Later w3 W) => f0 W (Later.trans hL3 hW)
          have f1 := fun W (hW : Later w3 W) => f1 W (Later.trans hL3 hW)
          have f2 := fun W (hW : Later w3 W) => f2 W (Later.trans hL3 hW)
          have f3 := fun W (hW : Later w3 W) => f3 W (Later.trans hL3 hW)
          have ac00 := fun W (hW : Later w3 W) => ac00 W (Later.trans hL3 hW)
          have ac01 := fun W (hW : Later w3 W) => ac01 W (Later.trans hL3 hW)
          have ac02 := fun W (hW : Later w3 W) => ac02 W (Later.trans hL3 hW)
          have ac10 := fun W (hW : Later w3 W) => ac10 W (Later.trans hL3 hW)
          have ac11 := fun W (hW : Later w3 W) => ac11 W (Later.trans hL3 hW)
          have ac12 := fun W (hW : Later w3 W) => ac12 W (Later.trans hL3 hW)
          have bc00 := fun W (hW : Later w3 W) => bc00 W (Later.trans hL3 hW)
          have bc01 := fun W (hW : Later w3 W) => bc01 W (Later.trans hL3 hW)
          have bc02 := fun W (hW : Later w3 W) => bc02 W (Later.trans hL3 hW)
          have bc10 := fun W (hW : Later w3 W) => bc10 W (Later.trans hL3 hW)
          have bc11 := fun W (hW : Later w3 W) => bc11 W (Later.trans hL3 hW)
          have bc12 := fun W (hW : Later w3 W) => bc12 W (Later.trans hL3 hW)
          clear hz hz0 hx0 hy0 hcw3
          go_upto_region 4 with fail
          refine wp_region_ext (w0 := w3) (by kernel_rfl) (by kernel_rfl) (later_refl _) ?_; (repeat (first | go_big_quiet_step (((go_at_call 105; exact calls_ext (by simp) (Hmc.out _ _ (by assumption))))) | quiet_step (((go_at_call 105; exact calls_ext (by simp) (Hmc.out _ _ (by assumption))))))); refine wpQuiet_nil ?_; rintro w4 ⟨⟨_, hL4⟩, rfl⟩; (try dsimp only)
          go_wp2_with fail
          go_ret
          exact ⟨ret_bool (by rw [Hf.out] <;> simp [*]), Later.trans hL00 (Later.trans hL3 hL4)⟩
        · have cb2 := decide_eq_false cb
          go_upto_region 2 with fail
          refine wp_region_ext (w0 := w2) (by kernel_rfl) (by kernel_rfl) (later_refl _) ?_; (repeat (first | go_big_quiet_step (((fail))) | quiet_step (((fail))))); refine wpQuiet_nil ?_; rintro w3 ⟨⟨_, hL3⟩, rfl⟩; (try dsimp only)
          have f0 := fun W (hW : Later w3 W) => f0 W (Later.trans hL3 hW)
          have f1 := fun W (hW : Later w3 W) => f1 W (Later.trans hL3 hW)
          have f2 := fun W (hW : Later w3 W) => f2 W (Later.trans hL3 hW)
          have f3 := fun W (hW : Later w3 W) => f3 W (Later.trans hL3 hW)
          have ac00 := fun W (hW : Later w3 W) => ac00 W (Later.trans hL3 hW)
          have ac01 := fun W (hW : Later w3 W) => ac01 W (Later.trans hL3 hW)
          have ac02 := fun W (hW : Later w3 W) => ac02 W (Later.trans hL3 hW)
          have ac10 := fun W (hW : Later w3 W) => ac10 W (Later.trans hL3 hW)
          have ac11 := fun W (hW : Later w3 W) => ac11 W (Later.trans hL3 hW)
          have ac12 := fun W (hW : Later w3 W) => ac12 W (Later.trans hL3 hW)
          have bc00 := fun W (hW : Later w3 W) => bc00 W (Later.trans hL3 hW)
          have bc01 := fun W (hW : Later w3 W) => bc01 W (Later.trans hL3 hW)
          have bc02 := fun W (hW : Later w3 W) => bc02 W (Later.trans hL3 hW)
          have bc10 := fun W (hW : Later w3 W) => bc10 W (Later.trans hL3 hW)
          have bc11 := fun W (hW : Later w3 W) => bc11 W (Later.trans hL3 hW)
          have bc12 := fun W (hW : Later w3 W) => bc12 W (Later.trans hL3 hW)
          clear hz hz0 hx0 hy0 hcw3
          go_upto_region 4 with fail
          refine wp_region_ext (w0 := w3) (by kernel_rfl) (by kernel_rfl) (later_refl _) ?_; (repeat (first | go_big_quiet_step (((go_at_call 105; exact calls_ext (by simp) (Hmc.out _ _ (by assumption))))) | quiet_step (((go_at_call 105; exact calls_ext (by simp) (Hmc.out _ _ (by assumption))))))); refine wpQuiet_nil ?_; rintro w4 ⟨⟨_, hL4⟩, rfl⟩; (try dsimp only)
          go_wp2_with fail
          go_ret
          exact ⟨ret_bool (by rw [Hf.out] <;> simp [*]), Later.trans hL00 (Later.trans hL3 hL4)⟩
      · have ca2 := decide_eq_false ca
        go_upto_region 2 with fail
        refine wp_region_ext (w0 := w2) (by kernel_rfl) (by kernel_rfl) (later_refl _) ?_; (repeat (first | go_big_quiet_step (((fail))) | quiet_step (((fail))))); refine wpQuiet_nil ?_; rintro w3 ⟨⟨_, hL3⟩, rfl⟩; (try dsimp only)
        have f0 := fun W (hW : Later w3 W) => f0 W (Later.trans hL3 hW)
        have f1 := fun W (hW : Later w3 W) => f1 W (Later.trans hL3 hW)
        have f2 := fun W (hW : Later w3 W) => f2 W (Later.trans hL3 hW)
        have f3 := fun W (hW : Later w3 W) => f3 W (Later.trans hL3 hW)
        have ac00 := fun W (hW : Later w3 W) => ac00 W (Later.trans hL3 hW)
        have ac01 := fun W (hW : Later w3 W) => ac01 W (Later.trans hL3 hW)
        have ac02 := fun W (hW : Later w3 W) => ac02 W (Later.trans hL3 hW)
        have ac10 := fun W (hW : Later w3 W) => ac10 W (Later.trans hL3 hW)
        have ac11 := fun W (hW : Later w3 W) => ac11 W (Later.trans hL3 hW)
        have ac12 := fun W (hW : Later w3 W) => ac12 W (Later.trans hL3 hW)
        have bc00 := fun W (hW : Later w3 W) => bc00 W (Later.trans hL3 hW)
        have bc01 := fun W (hW : Later w3 W) => bc01 W (Later.trans hL3 hW)
        have bc02 := fun W (hW : Later w3 W) => bc02 W (Later.trans hL3 hW)
        have bc10 := fun W (hW : Later w3 W) => bc10 W (Later.trans hL3 hW)
        have bc11 := fun W (hW : Later w3 W) => bc11 W (Later.trans hL3 hW)
        have bc12 := fun W (hW : Later w3 W) => bc12 W (Later.trans hL3 hW)
        clear hz hz0 hx0 hy0 hcw3
        go_upto_region 4 with fail
        refine wp_region_ext (w0 := w3) (by kernel_rfl) (by kernel_rfl) (later_refl _) ?_; (repeat (first | go_big_quiet_step (((go_at_call 105; exact calls_ext (by simp) (Hmc.out _ _ (by assumption))))) | quiet_step (((go_at_call 105; exact calls_ext (by simp) (Hmc.out _ _ (by assumption))))))); refine wpQuiet_nil ?_; rintro w4 ⟨⟨_, hL4⟩, rfl⟩; (try dsimp only)
        go_wp2_with fail
        go_ret
        exact ⟨ret_bool (by rw [Hf.out] <;> simp [*]), Later.trans hL00 (Later.trans hL3 hL4)⟩
  · have hnb : (x.1 != y.1) = true := by simpa using hxy
    have Hf : Hid (clashB c d i o = false) := by show _ = _; rw [Hcl.out, decide_eq_false hxy]; rfl
    clear hxy Hcl
    generalize la.length = na at *
    generalize lb.length = nb at *
    go_upto_region 2 with fail
    refine wp_region_ext (w0 := w2) (by kernel_rfl) (by kernel_rfl) (later_refl _) ?_; (repeat (first | go_big_quiet_step (((fail))) | quiet_step (((fail))))); refine wpQuiet_nil ?_; rintro w3 ⟨⟨_, hL3⟩, rfl⟩; (try dsimp only)
    go_wp2_with fail
    go_ret
    exact ⟨by rw [Hf.out]; rfl, Later.trans hL00 hL3⟩
end
end Go.Proofs.Ytbkfnajpbhfneaa

/- The program's paid, open: walks. -/
namespace Go.Proofs.Ytbkfnajpbhfneaa
open Go Go.RowKit

def payRow (c : Hou) (d : List Int) (a : Nat) : Bool := !isLong c d a && (List.range a).all fun b => !clashB c d a b
theorem isPaid_pay (c : Hou) (d : List Int) : isPaid c d = (List.range c.tickets.length).all (payRow c d) := rfl
section
variable {A1 A2 A3 At : Option Addr} {n1 k1 n2 k2 n3 k3 nt kt bw bm : Nat} {c : Hou} {tr : List (List Int)}
theorem long_eq {d : List Int} {e0 e1 e2 e3 : Int} {i : Nat} {q : Bool} (hq : isLong c d i = q) (w : World) (hw : WK w bw c A1 n1 k1 A2 n2 k2 A3 n3 k3 At nt kt tr bm) (ok : OkH c) (hd : IsErr c d) (hp : pad4 d = [e0, e1, e2, e3]) (hi : i < n2) :
    Calls Try.prog 86 #[.pointer (some ⟨bw, 0, none⟩), .agg #[.int .i64 e0, .int .i64 e1, .int .i64 e2, .int .i64 e3], .int .i64 (i : Int)] w fun e w' => e = .returned (.bool q) ∧ Later w w' := by
  rw [← hq]; exact long_calls w hw ok hd hp hi
theorem clash_eq {d : List Int} {e0 e1 e2 e3 : Int} {i o : Nat} {q : Bool} (hq : clashB c d i o = q) (w : World) (hw : WK w bw c A1 n1 k1 A2 n2 k2 A3 n3 k3 At nt kt tr bm) (ok : OkH c) (hd : IsErr c d) (hp : pad4 d = [e0, e1, e2, e3]) (hi : i < n2) (ho : o < n2) :
    Calls Try.prog 91 #[.pointer (some ⟨bw, 0, none⟩), .agg #[.int .i64 e0, .int .i64 e1, .int .i64 e2, .int .i64 e3], .int .i64 (i : Int), .int .i64 (o : Int)] w fun e w' => e = .returned (.bool q) ∧ Later w w' := by
  rw [← hq]; exact clash_calls w hw ok hd hp hi ho
set_option maxRecDepth 100000 in
set_option maxHeartbeats 1000000 in
theorem paid_calls {d : List Int} {e0 e1 e2 e3 : Int} (w : World) (hw : WK w bw c A1 n1 k1 A2 n2 k2 A3 n3 k3 At nt kt tr bm) (ok : OkH c) (hd : IsErr c d) (hp : pad4 d = [e0, e1, e2, e3]) :
    Calls Try.prog 87 #[.pointer (some ⟨bw, 0, none⟩), .agg #[.int .i64 e0, .int .i64 e1, .int .i64 e2, .int .i64 e3]] w fun e w' => e = .returned (.bool (isPaid c d)) ∧ Later w w' := by
  have hl2 := hw.cv.tk.len
  have hn2 := ok.n2
  have hn26 : n2 ≤ 6 := by omega
  have hrr := isPaid_pay c d
  rw [← hl2] at hrr
  have Hrr := hide hrr
  clear hl2 hn2 hrr
  obtain ⟨w0, hw0⟩ : ∃ X, X = w.alloc (.cells #[.int .i64 e0, .int .i64 e1, .int .i64 e2, .int .i64 e3] 117) := ⟨_, rfl⟩
  have hb := box_cells w #[.int .i64 e0, .int .i64 e1, .int .i64 e2, .int .i64 e3] 117
  rw [← hw0] at hb
  have hL0 : Later w w0 := by rw [hw0]; exact later_alloc (later_refl _) _
  have hwk := hw.later hL0
  have c3 := hwk.cells 3
  have b0 := fun W hW => hb W hW 0
  have b1 := fun W hW => hb W hW 1
  have b2 := fun W hW => hb W hW 2
  have b3 := fun W hW => hb W hW 3
  simp only [List.getElem?_toArray, List.getElem?_cons_zero, List.getElem?_cons_succ] at c3 b0 b1 b2 b3
  have Hw0 := hide hw0
  have HL := hide (fun (W : World) (h : Later w0 W) i (hi : i < n2) q (hq : isLong c d i = q) => long_eq hq W (hwk.later h) ok hd hp hi)
  have HC := hide (fun (W : World) (h : Later w0 W) a b (ha : a < n2) (hb : b < n2) q (hq : clashB c d a b = q) => clash_eq hq W (hwk.later h) ok hd hp ha hb)
  clear hb hw0
  go_enter Try.func87, Try.ntmps87
  go_upto_region 1 with fail
  rw [← Hw0.out]; clear Hw0
  go_wp2_with fail
  clear c3
  go_loopw [5, 6, 13, 21] (fun _ _ u _ wr => ∃ i : Nat, i ≤ n2 ∧ u = .int .i64 i ∧ Later w0 wr ∧ Hid ((List.range i).all (payRow c d) = true)) (fun _ _ u _ _ => n2 - (intOf u).toNat)
  case atStart => exact ⟨0, Nat.zero_le _, rfl, later_refl _, rfl⟩
  case round =>
    obtain ⟨i, hi, rfl, hL, Hall⟩ := hrel
    by_cases hlt : i < n2
    · have hi1 : (i : Int) < n2 := by omega
      have hia := range_all_succ (payRow c d) i
      rw [Hall.out, Bool.true_and] at hia
      have Hia := hide hia
      have b0' := b0 _ hL
      have b1' := b1 _ hL
      have b2' := b2 _ hL
      have b3' := b3 _ hL
      clear hia Hall
      cases hlg : isLong c d i with
      | true =>
        have Hf : Hid (isPaid c d = false) := by
          show _ = _
          rw [Hrr.out]; exact range_all_false hlt (by unfold payRow; rw [hlg]; rfl)
        have Hlg := hide hlg
        clear hlg Hia
        go_wp2_with fail
        refine (HL.out _ hL _ hlt _ Hlg.out).mono ?_
        rintro e w1 ⟨rfl, hL1⟩
        go_wp2_with fail
        go_ret
        exact ⟨by rw [Hf.out]; rfl, Later.trans hL0 (Later.trans hL hL1)⟩
      | false =>
        have Hrow : Hid (payRow c d i = (List.range i).all fun b => !clashB c d i b) := by show _ = _; unfold payRow; rw [hlg]; rfl
        have Hlg := hide hlg
        clear hlg
        go_wp2_with fail
        refine (HL.out _ hL _ hlt _ Hlg.out).mono ?_
        rintro e w1 ⟨rfl, hL1⟩
        have hLn := Later.trans hL hL1
        clear hL hL1 b0' b1' b2' b3'
        go_wp2_with fail
        go_loopw [6, 21] (fun _ u wr => ∃ k : Nat, k ≤ i ∧ u = .int .i64 k ∧ Later w0 wr ∧ Hid (((List.range k).all fun b => !clashB c d i b) = true)) (fun _ u _ => i - (intOf u).toNat)
        case atStart => exact ⟨0, Nat.zero_le _, rfl, hLn, rfl⟩
        case round =>
          obtain ⟨k, hk, rfl, hLk, Hk⟩ := hrel
          by_cases hltk : k < i
          · have hk1 : (k : Int) < i := by omega
            have hka := range_all_succ (fun b => !clashB c d i b) k
            rw [Hk.out, Bool.true_and] at hka
            have Hka := hide hka
            have b0' := b0 _ hLk
            have b1' := b1 _ hLk
            have b2' := b2 _ hLk
            have b3' := b3 _ hLk
            clear hka Hk
            cases hcl : clashB c d i k with
            | true =>
              have Hf : Hid (isPaid c d = false) := by
                show _ = _
                rw [Hrr.out]; exact range_all_false hlt (by rw [Hrow.out]; exact range_all_false hltk (by rw [hcl]; rfl))
              have Hcl := hide hcl
              clear hcl Hka Hrow
              go_wp2_with fail
              refine (HC.out _ hLk _ _ hlt (by omega) _ Hcl.out).mono ?_
              rintro e w3 ⟨rfl, hL3⟩
              go_wp2_with fail
              go_ret
              exact ⟨by rw [Hf.out]; rfl, Later.trans hL0 (Later.trans hLk hL3)⟩
            | false =>
              have Hka2 : Hid (((List.range (k + 1)).all fun b => !clashB c d i b) = true) := by show _ = _; rw [Hka.out, hcl]; rfl
              have Hcl := hide hcl
              clear hcl Hka
              go_wp2_with fail
              refine (HC.out _ hLk _ _ hlt (by omega) _ Hcl.out).mono ?_
              rintro e w3 ⟨rfl, hL3⟩
              go_wp2_with fail
              go_roundw
              case rel => exact ⟨k + 1, hltk, by go_num, Later.trans hLk hL3, Hka2⟩
              case measure => simp [intOf]; omega
          · have hki : k = i := by omega
            subst hki
            have Hia2 : Hid ((List.range (k + 1)).all (payRow c d) = true) := by show _ = _; rw [Hia.out, Hrow.out]; exact Hk.out
            clear Hia Hk
            go_wp2_with fail
            go_roundw
            case rel => exact ⟨k + 1, hlt, by go_num, hLk, Hia2⟩
            case measure => simp [intOf]; omega
    · have hin : i = n2 := by omega
      subst hin
      have Hf : Hid (isPaid c d = true) := by show _ = _; rw [Hrr.out]; exact Hall.out
      clear Hall
      go_wp2_with fail
      go_ret
      exact ⟨by rw [Hf.out]; rfl, Later.trans hL0 hL⟩
end

def openP (c : Hou) (tub : Int) (i : Nat) : Bool := decide ((tickAt c i).1 = tub) && decide ((ofP c (i : Int)).length = 1)
theorem isOpen_openP (c : Hou) (tub : Int) : isOpen c tub = (List.range c.tickets.length).any (openP c tub) := by
  unfold isOpen openP; simp only [ofP_len]
set_option maxRecDepth 100000 in
theorem open_calls {A1 A2 A3 : Option Addr} {n1 k1 n2 k2 n3 k3 : Nat} {c : Hou} {tub : Int} (w : World) (hc : CV w c A1 n1 A2 n2 A3 n3) (hm3 : n3 ≤ 1000) (hm2 : n2 ≤ 1000) :
    Calls Try.prog 93 #[(.agg #[.int .i64 c.hour, .int .i64 c.grace, .slice A1 n1 k1, .slice A2 n2 k2, .slice A3 n3 k3]), .int .i64 tub] w fun e w' => e = .returned (.bool (isOpen c tub)) ∧ Later w w' := by
  have hl2 := hc.tk.len
  have hrr : isOpen c tub = (List.range n2).any (openP c tub) := by rw [hl2]; exact isOpen_openP c tub
  have Hrr := hide hrr
  clear hl2 hrr
  obtain ⟨w0, hw0⟩ : ∃ W, W = (w.alloc (.cells #[.int .i64 c.hour, .int .i64 c.grace, .slice A1 n1 k1, .slice A2 n2 k2, .slice A3 n3 k3] 36)) := ⟨_, rfl⟩; have hbox : ∀ W, Later w0 W → ∀ i, W.cell? ⟨w.heap.size, i, none⟩ = #[.int .i64 c.hour, .int .i64 c.grace, .slice A1 n1 k1, .slice A2 n2 k2, .slice A3 n3 k3][i]? := (by rw [hw0]; exact box_cells w #[.int .i64 c.hour, .int .i64 c.grace, .slice A1 n1 k1, .slice A2 n2 k2, .slice A3 n3 k3] 36); have hL0 : Later w w0 := (by rw [hw0]; simp); have hc0 := hc.later hL0; have Hw0 := hide hw0; clear hw0
  go_enter Try.func93, Try.ntmps93
  go_wp2_with fail
  rw [← Hw0.out]; clear Hw0
  go_loopw [5, 6, 10] (fun _ _ u wr => ∃ i : Nat, i ≤ n2 ∧ u = .int .i64 i ∧ Later w0 wr ∧ Hid ((List.range i).any (openP c tub) = false)) (fun _ _ u _ => n2 - (intOf u).toNat)
  case atStart => exact ⟨0, Nat.zero_le _, rfl, later_refl _, rfl⟩
  case round =>
    obtain ⟨i, hi, rfl, hL, Hall⟩ := hrel
    by_cases hlt : i < n2
    · have hi1 : (i : Int) < n2 := by omega
      obtain ⟨b, o, x, rfl, _, hx, hx0, hx1⟩ := hc0.tk.get hlt
      have hia := range_any_succ (openP c tub) i
      rw [Hall.out, Bool.false_or] at hia
      have hrow : openP c tub i = (decide (x.1 = tub) && decide ((ofP c (i : Int)).length = 1)) := by unfold openP; rw [tickAt_of hx]
      rw [hrow] at hia
      have hbad : openP c tub i = true → isOpen c tub = true := fun h => by rw [Hrr.out]; exact range_any_true hlt h
      rw [hrow] at hbad
      have Hia := hide hia
      have Hbad := hide hbad
      have hx0 := hx0 _ hL
      have hx1 := hx1 _ hL
      obtain ⟨w2, hw2⟩ : ∃ X, X = wr.alloc (.cells #[.int .i64 x.1, .int .i64 x.2] 103) := ⟨_, rfl⟩
      have hb2 := Blk.new wr 103 #[.int .i64 x.1, .int .i64 x.2]
      rw [← hw2] at hb2
      have hLr2 : Later wr w2 := by rw [hw2]; exact later_alloc (later_refl _) _
      have hL2 := Later.trans hL hLr2
      have hbc := hb2.cell 0
      simp only [List.getElem?_toArray, List.getElem?_cons_zero, List.getElem?_cons_succ] at hbc
      have Hw2 := hide hw2
      clear hia Hall hrow hbad hx hw2
      by_cases h1 : x.1 = tub
      · have hb1 : (x.1 == tub) = true := by simpa using h1
        rw [decide_eq_true h1, Bool.true_and] at Hia Hbad
        have Hlen := hide (show (ofP c (i : Int)).length = 1 ∨ (ofP c (i : Int)).length ≠ 1 by omega)
        clear h1
        go_upto_region 4 with fail
        rw [← Hw2.out]
        clear hx0 hx1
        go_wp2_with fail
        refine (of_calls (k1 := k1) (k2 := k2) (k3 := k3) _ (hc0.later hL2) hm3).mono ?_
        rintro e w1 ⟨A, k, rfl, hL1, hri⟩
        rcases Hlen.out with h2 | h2
        · have hb2 : ((((ofP c (i : Int)).length : Nat) : Int) == 1) = true := by simp [h2]
          have Hf : Hid (isOpen c tub = true) := Hbad.out (decide_eq_true h2)
          clear h2 Hia Hbad
          go_wp2_with fail
          go_ret
          exact ⟨by rw [Hf.out]; rfl, Later.trans hL0 (Later.trans hL2 hL1)⟩
        · have hb2 : ((((ofP c (i : Int)).length : Nat) : Int) == 1) = false := by simp; omega
          rw [decide_eq_false h2] at Hia
          clear h2 Hbad
          go_wp2_with fail
          go_roundw
          case rel => exact ⟨i + 1, hlt, by go_num, Later.trans hL2 hL1, Hia.out⟩
          case measure => simp [intOf]; omega
      · have hb1 : (x.1 == tub) = false := by simpa using h1
        rw [decide_eq_false h1, Bool.false_and] at Hia
        clear h1 Hbad
        go_upto_region 4 with fail
        rw [← Hw2.out]
        clear hx0 hx1
        go_wp2_with fail
        go_roundw
        case rel => exact ⟨i + 1, hlt, by go_num, hL2, Hia.out⟩
        case measure => simp [intOf]; omega
    · have hin : i = n2 := by omega
      subst hin
      have Hf : Hid (isOpen c tub = false) := by show _ = _; rw [Hrr.out]; exact Hall.out
      clear Hall
      go_wp2_with fail
      go_ret
      exact ⟨by rw [Hf.out]; rfl, Later.trans hL0 hL⟩
end Go.Proofs.Ytbkfnajpbhfneaa
