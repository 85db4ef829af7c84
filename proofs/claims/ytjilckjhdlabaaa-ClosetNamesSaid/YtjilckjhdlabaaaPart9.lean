/- Part 9 of the proof: joined from the texts RefF, RefG, RefH, LawH, Open. -/
import Derived.Test.YtjilckjhdlabaaaPart6
import Derived.Test.YtjilckjhdlabaaaPart1
import Derived.Test.YtjilckjhdlabaaaPart8
import Derived.Test.YtjilckjhdlabaaaProg
import Derived.Deep.Slices
import Derived.Deep.Fields
import Derived.ChangeSame
import Derived.Lib.SmallJoins
import Derived.ProofKit
import Derived.ChangeSlices
set_option linter.unusedSimpArgs false
set_option linter.unusedVariables false
/- The reference's IsRight, IsTruth, Verdict, Leaves: walks. -/
namespace Go.Proofs.Ytjilckjhdlabaaa
open Go Go.RowKit

theorem IsRight_calls {A1 A2 A3 : Option Addr} {n1 k1 n2 k2 n3 k3 : Nat} {c : Clo} {Ap Ad : Option Addr} {np kp nd kd : Nat} {p d : List Int} {h m : Int} (w : World) (hc : CV w c A1 n1 A2 n2 A3 n3)
    (hp : RI w Ap np p) (hd : RI w Ad nd d) (ok : OkH c) (hpl : IsPl c p) (hdry : IsDry c d) (h0 : 0 ≤ h) (h1 : h < c.horses.length) :
    Calls Try.prog 114 #[(.agg #[.int .i64 c.closets, .int .i64 c.close, .slice A1 n1 k1, .slice A2 n2 k2, .slice A3 n3 k3]), .slice Ap np kp, .slice Ad nd kd, .int .i64 h, .int .i64 m] w fun e w' => e = .returned (.bool (isRight c p d h.toNat m)) ∧ Later w w' := by
  obtain ⟨k, rfl⟩ := Int.eq_ofNat_of_zero_le h0
  have hn1 := hc.hs.len
  have hlt : k < n1 := by omega
  have hlen := ok.len
  have hr := minuteR_range ok (Nat.le_of_eq hpl.len) hdry k (by omega)
  obtain ⟨w0, hw0⟩ : ∃ W, W = (w.alloc (.cells #[.int .i64 c.closets, .int .i64 c.close, .slice A1 n1 k1, .slice A2 n2 k2, .slice A3 n3 k3] 26)) := ⟨_, rfl⟩; have hbox : ∀ W, Later w0 W → ∀ i, W.cell? ⟨w.heap.size, i, none⟩ = #[.int .i64 c.closets, .int .i64 c.close, .slice A1 n1 k1, .slice A2 n2 k2, .slice A3 n3 k3][i]? := (by rw [hw0]; exact box_cells w #[.int .i64 c.closets, .int .i64 c.close, .slice A1 n1 k1, .slice A2 n2 k2, .slice A3 n3 k3] 26); have hL0 : Later w w0 := (by rw [hw0]; simp); have hc0 := hc.later hL0; have Hw0 := hide hw0; clear hw0
  have hp0 := hp.later hL0
  have hd0 := hd.later hL0
  have Hn1 := hide hn1
  obtain ⟨b, o, x, rfl, _, hx, hx0, hx1, hx2, hx3⟩ := hc0.hs.get hlt
  have okx := ok.horse x (List.mem_of_getElem? hx)
  have hfin : isRight c p d k m = inB m (minuteR c p d k) (minuteR c p d k + x.grace) := by
    unfold isRight graceAt; rw [List.getD_eq_getElem?_getD, hx, Option.getD_some]
  have Hfin := hide hfin
  have hi1 : (k : Int) < n1 := by omega
  clear hfin hx hx0 hx1 hx2 hn1
  go_enter Try.func114, Try.ntmps114
  go_wp2_with fail
  rw [← Hw0.out]; clear Hw0
  refine (Minute_calls _ hc0 hp0 hd0 ok hpl.len hdry.len h0 h1 (hpl.bound ok) (hdry.bound ok)).mono ?_
  rintro e w1 ⟨rfl, hL1⟩
  rw [Int.toNat_natCast]
  generalize minuteR c p d k = q at *
  go_wp2_with (go_at_call 44; refine (In_calls _ _ _ _).mono ?_; rintro e w' ⟨rfl, rfl⟩)
  go_ret
  exact ⟨by rw [Int.toNat_natCast, Hfin.out]; rfl, Later.trans hL0 hL1⟩

theorem IsTruth_calls {A1 A2 A3 : Option Addr} {n1 k1 n2 k2 n3 k3 : Nat} {c : Clo} {Ad : Option Addr} {nd kd : Nat} {d : List Int} (w : World) (hc : CV w c A1 n1 A2 n2 A3 n3) (hd : RI w Ad nd d) (ok : OkC c) (hm : nd ≤ 1000) :
    Calls Try.prog 59 #[(.agg #[.int .i64 c.closets, .int .i64 c.close, .slice A1 n1 k1, .slice A2 n2 k2, .slice A3 n3 k3]), .slice Ad nd kd] w fun e w' => e = .returned (.bool (isTruth c d)) ∧ Later w w' := by
  have hn1 := hc.hs.len
  have hn3 := hc.lk.len
  have hl1 : n1 ≤ 1000000 := by have := ok.len; omega
  have hl3 : n3 ≤ 5 := by have := ok.nlooks; omega
  clear hn1 hn3
  obtain ⟨w0, hw0⟩ : ∃ W, W = (w.alloc (.cells #[.int .i64 c.closets, .int .i64 c.close, .slice A1 n1 k1, .slice A2 n2 k2, .slice A3 n3 k3] 26)) := ⟨_, rfl⟩; have hbox : ∀ W, Later w0 W → ∀ i, W.cell? ⟨w.heap.size, i, none⟩ = #[.int .i64 c.closets, .int .i64 c.close, .slice A1 n1 k1, .slice A2 n2 k2, .slice A3 n3 k3][i]? := (by rw [hw0]; exact box_cells w #[.int .i64 c.closets, .int .i64 c.close, .slice A1 n1 k1, .slice A2 n2 k2, .slice A3 n3 k3] 26); have hL0 : Later w w0 := (by rw [hw0]; simp); have hc0 := hc.later hL0; have Hw0 := hide hw0; clear hw0
  have hd0 := hd.later hL0
  have hT : ∀ e : Ext w0, Later w0 e.W := fun e => e.h
  cases hn : areNumbers c.horses d with
  | true =>
    have hdry := (isDry_iff c d).1 hn
    have hfin : isTruth c d = (rightBits c d == full c) := by unfold isTruth; rw [hn, Bool.true_and]
    have Hfin := hide hfin
    have hq : (((rightBits c d : Nat) : Int) == ((full c : Nat) : Int)) = (rightBits c d == full c) := by
      rw [Bool.eq_iff_iff]; simp; constructor <;> omega
    clear hfin
    go_enter Try.func59, Try.ntmps59
    go_wp2_with fail
    rw [← Hw0.out]; clear Hw0
    refine wp_region_ext (w0 := w0) (by kernel_rfl) (by kernel_rfl) (later_refl _) ?_; (repeat (first | go_big_quiet_step ((first | (go_at_call 60; exact calls_ext (by simp) (AreNumbers_calls _ (hc0.later (hT _)) (hd0.later (hT _)) hl1 (by omega))) | (go_at_call 90; exact calls_ext (by simp) (Right_calls _ (hc0.later (hT _)) (hd0.later (hT _)) ok hdry)) | (go_at_call 73; exact calls_ext (by simp) (Full_calls _ (hc0.later (hT _)) hl3)))) | quiet_step ((first | (go_at_call 60; exact calls_ext (by simp) (AreNumbers_calls _ (hc0.later (hT _)) (hd0.later (hT _)) hl1 (by omega))) | (go_at_call 90; exact calls_ext (by simp) (Right_calls _ (hc0.later (hT _)) (hd0.later (hT _)) ok hdry)) | (go_at_call 73; exact calls_ext (by simp) (Full_calls _ (hc0.later (hT _)) hl3)))))); refine wpQuiet_nil ?_; rintro w1 ⟨⟨_, hL1⟩, rfl⟩; (try dsimp only)
    go_wp2_with fail
    go_ret
    exact ⟨by rw [Hfin.out]; rfl, Later.trans hL0 hL1⟩
  | false =>
    have hfin : isTruth c d = false := by unfold isTruth; rw [hn, Bool.false_and]
    have Hfin := hide hfin
    clear hfin
    go_enter Try.func59, Try.ntmps59
    go_wp2_with fail
    rw [← Hw0.out]; clear Hw0
    refine wp_region_ext (w0 := w0) (by kernel_rfl) (by kernel_rfl) (later_refl _) ?_; (repeat (first | go_big_quiet_step ((first | (go_at_call 60; exact calls_ext (by simp) (AreNumbers_calls _ (hc0.later (hT _)) (hd0.later (hT _)) hl1 (by omega))))) | quiet_step ((first | (go_at_call 60; exact calls_ext (by simp) (AreNumbers_calls _ (hc0.later (hT _)) (hd0.later (hT _)) hl1 (by omega))))))); refine wpQuiet_nil ?_; rintro w1 ⟨⟨_, hL1⟩, rfl⟩; (try dsimp only)
    go_wp2_with fail
    go_ret
    exact ⟨by rw [Hfin.out]; rfl, Later.trans hL0 hL1⟩

theorem Verdict_calls {A1 A2 A3 : Option Addr} {n1 k1 n2 k2 n3 k3 : Nat} {c : Clo} {Al Ap : Option Addr} {nl kl np kp : Nat} {ll : List (List Int)} {p : List Int} {h m : Int} (w : World) (hc : CV w c A1 n1 A2 n2 A3 n3) (hl : RRI w Al nl ll)
    (hp : RI w Ap np p) (ok : OkH c) (hpl : IsPl c p) (hdry : ∀ d ∈ ll, IsDry c d) (hn : nl ≤ 1000000) (h0 : 0 ≤ h) (h1 : h < c.horses.length) :
    Calls Try.prog 67 #[(.agg #[.int .i64 c.closets, .int .i64 c.close, .slice A1 n1 k1, .slice A2 n2 k2, .slice A3 n3 k3]), .slice Al nl kl, .slice Ap np kp, .int .i64 h, .int .i64 m] w fun e w' => e = .returned (.int .i64 (verdict c ll p h.toNat m)) ∧ Later w w' := by
  obtain ⟨k, rfl⟩ := Int.eq_ofNat_of_zero_le h0
  have hnl := hl.len
  have Hnl := hide hnl
  clear hnl
  obtain ⟨w0, hw0⟩ : ∃ W, W = (w.alloc (.cells #[.int .i64 c.closets, .int .i64 c.close, .slice A1 n1 k1, .slice A2 n2 k2, .slice A3 n3 k3] 26)) := ⟨_, rfl⟩; have hbox : ∀ W, Later w0 W → ∀ i, W.cell? ⟨w.heap.size, i, none⟩ = #[.int .i64 c.closets, .int .i64 c.close, .slice A1 n1 k1, .slice A2 n2 k2, .slice A3 n3 k3][i]? := (by rw [hw0]; exact box_cells w #[.int .i64 c.closets, .int .i64 c.close, .slice A1 n1 k1, .slice A2 n2 k2, .slice A3 n3 k3] 26); have hL0 : Later w w0 := (by rw [hw0]; simp); have hc0 := hc.later hL0; have Hw0 := hide hw0; clear hw0
  have hp0 := hp.later hL0
  have hl0 := hl.later hL0
  have hT : ∀ e : Ext w0, Later w0 e.W := fun e => e.h
  have hle := fun j => countP_take_le (fun d => isRight c p d k m) ll j
  have Hle := hide hle
  clear hle
  go_enter Try.func67, Try.ntmps67
  go_wp2_with fail
  rw [← Hw0.out]; clear Hw0
  go_loopw [11, 12] (fun y i wr => ∃ j : Nat, j ≤ nl ∧ i = .int .i64 j ∧ y = .int .i64 ((ll.take j).countP (fun d => isRight c p d k m) : Nat) ∧ Later w0 wr) (fun _ i _ => nl - (intOf i).toNat)
  case atStart => exact ⟨0, Nat.zero_le _, rfl, rfl, later_refl _⟩
  case round =>
    obtain ⟨j, hj, rfl, rfl, hL⟩ := hrel
    by_cases hlt : j < nl
    · obtain ⟨b, o, d, Ad, nd, kd, rfl, hx, hrd, hcx⟩ := hl0.get hlt
      have hdr := hdry d (List.mem_of_getElem? hx)
      have hct := countP_take (fun d => isRight c p d k m) ll j d hx
      have hcle := Hle.out j
      have hi1 : (j : Int) < nl := by omega
      generalize hq : (ll.take j).countP (fun d => isRight c p d k m) = q at *
      have Hct := hide hct
      clear hct hx hq
      cases hr : isRight c p d k m with
      | true =>
        simp only [hr, if_true] at Hct
        have hr2 : isRight c p d (k : Int).toNat m = true := hr
        clear hr
        go_wp2_with fail
        refine wp_region_ext (w0 := w0) (by kernel_rfl) (by kernel_rfl) hL ?_; (repeat (first | go_big_quiet_step (((go_at_call 114; exact calls_ext (by simp) (IsRight_calls _ (hc0.later (hT _)) (hp0.later (hT _)) (hrd.later (hT _)) ok hpl hdr h0 h1)))) | quiet_step (((go_at_call 114; exact calls_ext (by simp) (IsRight_calls _ (hc0.later (hT _)) (hp0.later (hT _)) (hrd.later (hT _)) ok hpl hdr h0 h1)))))); refine wpQuiet_nil ?_; rintro w1 ⟨⟨_, hL1⟩, rfl⟩; (try dsimp only)
        rw [hr2]
        go_wp2_with fail
        go_roundw
        case rel => exact ⟨j + 1, by omega, by go_num, by rw [Hct.out]; go_num, hL1⟩
        case measure => simp [intOf]; omega
      | false =>
        simp only [hr, Bool.false_eq_true, if_false] at Hct
        have hr2 : isRight c p d (k : Int).toNat m = false := hr
        clear hr
        go_wp2_with fail
        refine wp_region_ext (w0 := w0) (by kernel_rfl) (by kernel_rfl) hL ?_; (repeat (first | go_big_quiet_step (((go_at_call 114; exact calls_ext (by simp) (IsRight_calls _ (hc0.later (hT _)) (hp0.later (hT _)) (hrd.later (hT _)) ok hpl hdr h0 h1)))) | quiet_step (((go_at_call 114; exact calls_ext (by simp) (IsRight_calls _ (hc0.later (hT _)) (hp0.later (hT _)) (hrd.later (hT _)) ok hpl hdr h0 h1)))))); refine wpQuiet_nil ?_; rintro w1 ⟨⟨_, hL1⟩, rfl⟩; (try dsimp only)
        rw [hr2]
        go_wp2_with fail
        go_roundw
        case rel => exact ⟨j + 1, by omega, by go_num, by rw [Hct.out]; rfl, hL1⟩
        case measure => simp [intOf]; omega
    · have hf : ll.take j = ll := List.take_of_length_le (by have := Hnl.out; omega)
      rw [hf]
      have Hv : Hid (verdict c ll p k m = if ll.countP (fun d => isRight c p d k m) = nl then 1 else if ll.countP (fun d => isRight c p d k m) = 0 then 2 else 3) := by
        have := Hnl.out; rw [this]; exact rfl
      have hcle := Hle.out j
      rw [hf] at hcle
      generalize ll.countP (fun d => isRight c p d k m) = q at *
      clear hf
      by_cases e1 : q = nl
      · have b1 : ((q : Int) == (nl : Int)) = true := by simp; omega
        rw [if_pos e1] at Hv
        clear e1
        go_wp2_with fail
        go_ret
        exact ⟨ret_int (by rw [Int.toNat_natCast, Hv.out]), Later.trans hL0 hL⟩
      · have b1 : ((q : Int) == (nl : Int)) = false := by simp; omega
        rw [if_neg e1] at Hv
        clear e1
        by_cases e2 : q = 0
        · have b2 : ((q : Int) == 0) = true := by simp; omega
          rw [if_pos e2] at Hv
          clear e2
          go_wp2_with fail
          go_ret
          exact ⟨ret_int (by rw [Int.toNat_natCast, Hv.out]), Later.trans hL0 hL⟩
        · have b2 : ((q : Int) == 0) = false := by simp; omega
          rw [if_neg e2] at Hv
          clear e2
          go_wp2_with fail
          go_ret
          exact ⟨ret_int (by rw [Int.toNat_natCast, Hv.out]), Later.trans hL0 hL⟩
end Go.Proofs.Ytjilckjhdlabaaa

/- The reference's Leaves, Empty, Wider, Good: walks. -/
namespace Go.Proofs.Ytjilckjhdlabaaa
open Go Go.RowKit

theorem Empty_calls (w : World) : Calls Try.prog 115 #[] w fun e w' => e = .returned (.agg #[.int .i64 1099511627776, .int .i64 (-1)]) ∧ Later w w' := by
  go_enter Try.func115, Try.ntmps115
  go_wp2_with fail
  exact bodyPost_ret (v := .agg #[.int .i64 1099511627776, .int .i64 (-1)]) (by simp [results, Try.results115, go_sem]) rfl ⟨rfl, by simp⟩

theorem Wider_calls (r : Int × Int) (n : Int) (w : World) : Calls Try.prog 116 #[.agg #[.int .i64 r.1, .int .i64 r.2], .int .i64 n] w fun e w' =>
    e = .returned (.agg #[.int .i64 (wider r n).1, .int .i64 (wider r n).2]) ∧ Later w w' := by
  obtain ⟨lo, hi⟩ := r
  dsimp only
  by_cases h1 : lo ≤ n <;> by_cases h2 : n ≤ hi
  all_goals
    go_enter Try.func116, Try.ntmps116
    go_wp2_with fail
    refine bodyPost_ret (v := .agg #[.int .i64 (wider (lo, hi) n).1, .int .i64 (wider (lo, hi) n).2]) ?_ rfl ⟨rfl, by simp⟩
    simp [results, Try.results116, go_sem, wider]
    omega

theorem Leaves_calls {A1 A2 A3 : Option Addr} {n1 k1 n2 k2 n3 k3 : Nat} {c : Clo} {Al : Option Addr} {nl kl : Nat} {ll : List (List Int)} {h m : Int} (w : World) (hc : CV w c A1 n1 A2 n2 A3 n3) (hl : RRI w Al nl ll)
    (ok : OkC c) (hdry : ∀ d ∈ ll, IsDry c d) (hn : nl ≤ 1000000) (h0 : 0 ≤ h) (h1 : h < c.horses.length) :
    Calls Try.prog 56 #[(.agg #[.int .i64 c.closets, .int .i64 c.close, .slice A1 n1 k1, .slice A2 n2 k2, .slice A3 n3 k3]), .slice Al nl kl, .int .i64 h, .int .i64 m] w fun e w' => e = .returned (.int .i64 (leaves c ll h.toNat m)) ∧ Later w w' := by
  obtain ⟨k, rfl⟩ := Int.eq_ofNat_of_zero_le h0
  have hnl := hl.len
  have Hnl := hide hnl
  clear hnl
  obtain ⟨w0, hw0⟩ : ∃ W, W = (w.alloc (.cells #[.int .i64 c.closets, .int .i64 c.close, .slice A1 n1 k1, .slice A2 n2 k2, .slice A3 n3 k3] 26)) := ⟨_, rfl⟩; have hbox : ∀ W, Later w0 W → ∀ i, W.cell? ⟨w.heap.size, i, none⟩ = #[.int .i64 c.closets, .int .i64 c.close, .slice A1 n1 k1, .slice A2 n2 k2, .slice A3 n3 k3][i]? := (by rw [hw0]; exact box_cells w #[.int .i64 c.closets, .int .i64 c.close, .slice A1 n1 k1, .slice A2 n2 k2, .slice A3 n3 k3] 26); have hL0 : Later w w0 := (by rw [hw0]; simp); have hc0 := hc.later hL0; have Hw0 := hide hw0; clear hw0
  have hl0 := hl.later hL0
  have hT : ∀ e : Ext w0, Later w0 e.W := fun e => e.h
  have hle := fun j => countP_take_le (fun d => decide (minuteR c c.hung d k ≤ m)) ll j
  have Hle := hide hle
  clear hle
  go_enter Try.func56, Try.ntmps56
  go_wp2_with fail
  rw [← Hw0.out]; clear Hw0
  go_loopw [9, 10] (fun y i wr => ∃ j : Nat, j ≤ nl ∧ i = .int .i64 j ∧ y = .int .i64 ((ll.take j).countP (fun d => decide (minuteR c c.hung d k ≤ m)) : Nat) ∧ Later w0 wr) (fun _ i _ => nl - (intOf i).toNat)
  case atStart => exact ⟨0, Nat.zero_le _, rfl, rfl, later_refl _⟩
  case round =>
    obtain ⟨j, hj, rfl, rfl, hL⟩ := hrel
    by_cases hlt : j < nl
    · obtain ⟨b, o, d, Ad, nd, kd, rfl, hx, hrd, hcx⟩ := hl0.get hlt
      have hdr := hdry d (List.mem_of_getElem? hx)
      have hct := countP_take (fun d => decide (minuteR c c.hung d k ≤ m)) ll j d hx
      have hcle := Hle.out j
      have hi1 : (j : Int) < nl := by omega
      generalize hq : (ll.take j).countP (fun d => decide (minuteR c c.hung d k ≤ m)) = q at *
      have Hct := hide hct
      clear hct hx hq
      go_wp2_with fail
      refine wp_region_ext (w0 := w0) (by kernel_rfl) (by kernel_rfl) hL ?_; (repeat (first | go_big_quiet_step (((go_at_call 55; exact calls_ext (by simp) (Minute_calls _ (hc0.later (hT _)) (hc0.hu.later (hT _)) (hrd.later (hT _)) ok.toOkH ok.hung.len hdr.len h0 h1 (ok.hung.bound ok.toOkH) (hdr.bound ok.toOkH))))) | quiet_step (((go_at_call 55; exact calls_ext (by simp) (Minute_calls _ (hc0.later (hT _)) (hc0.hu.later (hT _)) (hrd.later (hT _)) ok.toOkH ok.hung.len hdr.len h0 h1 (ok.hung.bound ok.toOkH) (hdr.bound ok.toOkH))))))); refine wpQuiet_nil ?_; rintro w1 ⟨⟨_, hL1⟩, rfl⟩; (try dsimp only)
      (try rw [Int.toNat_natCast])
      generalize minuteR c c.hung d k = z at *
      by_cases hr : z ≤ m
      · simp only [hr, decide_true, if_true] at Hct
        have hr1 : decide (z ≤ m) = true := by simp [hr]
        go_wp2_with fail
        go_roundw
        case rel => exact ⟨j + 1, by omega, by go_num, by rw [Hct.out]; go_num, hL1⟩
        case measure => simp [intOf]; omega
      · simp only [hr, decide_false, Bool.false_eq_true, if_false] at Hct
        have hr1 : decide (z ≤ m) = false := by simp [hr]
        go_wp2_with fail
        go_roundw
        case rel => exact ⟨j + 1, by omega, by go_num, by rw [Hct.out]; rfl, hL1⟩
        case measure => simp [intOf]; omega
    · have hf : ll.take j = ll := List.take_of_length_le (by have := Hnl.out; omega)
      rw [hf]
      have Hv : Hid (leaves c ll k m = max (ll.countP (fun d => decide (minuteR c c.hung d k ≤ m)) : Int) ((nl : Int) - (ll.countP (fun d => decide (minuteR c c.hung d k ≤ m)) : Int))) := by
        have := Hnl.out; rw [this]; exact rfl
      have hcle := Hle.out j
      rw [hf] at hcle
      generalize ll.countP (fun d => decide (minuteR c c.hung d k ≤ m)) = q at *
      clear hf
      have hq1 : q ≤ nl := by omega
      go_wp2_with fail
      all_goals (go_ret; exact ⟨ret_int (by have := Hv.out; first | omega | (rw [Int.toNat_natCast]; omega)), Later.trans hL0 hL⟩)

theorem Good_calls {A1 A2 A3 : Option Addr} {n1 k1 n2 k2 n3 k3 : Nat} {c : Clo} {Al Ap : Option Addr} {nl kl np kp : Nat} {ll : List (List Int)} {p : List Int} {h : Int} (w : World) (hc : CV w c A1 n1 A2 n2 A3 n3) (hl : RRI w Al nl ll)
    (hp : RI w Ap np p) (ok : OkC c) (hpl : IsPl c p) (hdry : ∀ d ∈ ll, IsDry c d) (hn : nl ≤ 1000000) (h0 : 0 ≤ h) (h1 : h < c.horses.length) :
    Calls Try.prog 70 #[(.agg #[.int .i64 c.closets, .int .i64 c.close, .slice A1 n1 k1, .slice A2 n2 k2, .slice A3 n3 k3]), .slice Al nl kl, .slice Ap np kp, .int .i64 h] w fun e w' => e = .returned (.agg #[.int .i64 (goodR c ll p h.toNat).1, .int .i64 (goodR c ll p h.toNat).2]) ∧ Later w w' := by
  obtain ⟨k, rfl⟩ := Int.eq_ofNat_of_zero_le h0
  have hcl := ok.close
  obtain ⟨w0, hw0⟩ : ∃ W, W = (w.alloc (.cells #[.int .i64 c.closets, .int .i64 c.close, .slice A1 n1 k1, .slice A2 n2 k2, .slice A3 n3 k3] 26)) := ⟨_, rfl⟩; have hbox : ∀ W, Later w0 W → ∀ i, W.cell? ⟨w.heap.size, i, none⟩ = #[.int .i64 c.closets, .int .i64 c.close, .slice A1 n1 k1, .slice A2 n2 k2, .slice A3 n3 k3][i]? := (by rw [hw0]; exact box_cells w #[.int .i64 c.closets, .int .i64 c.close, .slice A1 n1 k1, .slice A2 n2 k2, .slice A3 n3 k3] 26); have hL0 : Later w w0 := (by rw [hw0]; simp); have hc0 := hc.later hL0; have Hw0 := hide hw0; clear hw0
  obtain ⟨wB, hwB⟩ : ∃ W, W = w0.alloc (.cells #[.int .i64 0, .int .i64 0] 66) := ⟨_, rfl⟩
  have hs0 : w0.heap.size = w.heap.size + 1 := by rw [Hw0.out]; simp
  have hLB : Later w0 wB := by rw [hwB]; simp
  have hsB : wB.heap.size = w.heap.size + 1 + 1 := by rw [hwB]; simp [hs0]
  have hBr : Blk wB (w.heap.size + 1) 66 #[.int .i64 0, .int .i64 0] := by rw [hwB, ← hs0]; exact Blk.new _ _ _
  have hT : ∀ W, Later wB W → Later w0 W := fun W h => Later.trans hLB h
  have hBn : Blk (wB.alloc (.cells #[.int .i64 1, .int .i64 0] 66)) (w.heap.size + 1 + 1) 66 #[.int .i64 1, .int .i64 0] := by rw [← hsB]; exact Blk.new _ _ _
  have HwB := hide hwB
  have Hs0 := hide hs0
  have HsB := hide hsB
  clear hwB hs0 hsB
  go_enter Try.func70, Try.ntmps70
  go_wp2_with fail
  rw [← Hw0.out, ← HwB.out]
  go_loopw [10] (fun i wr => ∃ j : Nat, j ≤ (c.close + 1).toNat ∧ i = .int .i64 j ∧ Later wB wr ∧ Blk wr (w.heap.size + 1 + 1) 66 #[.int .i64 ((List.range j).foldl (goodStep c ll p k) (1, 0)).1, .int .i64 ((List.range j).foldl (goodStep c ll p k) (1, 0)).2]) (fun i _ => (c.close + 1).toNat - (intOf i).toNat)
  case atStart => exact ⟨0, Nat.zero_le _, rfl, later_alloc (later_refl _) _, hBn⟩
  case round =>
    obtain ⟨j, hj, rfl, hL, hbk⟩ := hrel
    have hstep : (List.range (j + 1)).foldl (goodStep c ll p k) (1, 0) = goodStep c ll p k ((List.range j).foldl (goodStep c ll p k) (1, 0)) j := by
      rw [List.range_succ, List.foldl_append]; rfl
    have hend : j = (c.close + 1).toNat → goodR c ll p k = (List.range j).foldl (goodStep c ll p k) (1, 0) := fun e => by rw [e]; rfl
    generalize (List.range j).foldl (goodStep c ll p k) (1, 0) = r at *
    obtain ⟨r1, r2⟩ := r
    dsimp only at hbk
    have hL0r : Later w0 wr := Later.trans hLB hL
    by_cases hlt : (j : Int) ≤ c.close
    · have Hstep := hide hstep
      clear hstep hend
      go_wp2_with fail
      refine (Verdict_calls _ (hc0.later hL0r) ((hl.later hL0).later hL0r) ((hp.later hL0).later hL0r) ok.toOkH hpl hdry hn h0 h1).mono ?_
      rintro e w2 ⟨rfl, hL2⟩
      have hLB2 := Later.trans hL hL2
      have hbk2 := hbk.later hL2
      have hk0 := hbk2.cell 0
      have hk1 := hbk2.cell 1
      have hf0 := hbk2.frozen 0
      have hf1 := hbk2.frozen 1
      simp only [List.getElem?_toArray, List.getElem?_cons_zero, List.getElem?_cons_succ] at hk0 hk1
      have hsz := hbk2.lt
      have Hb2 := hide hbk2
      clear hbk hbk2
      (try rw [Int.toNat_natCast])
      rw [goodStep] at Hstep
      by_cases hv : verdict c ll p k j = 1
      · have hvb : (verdict c ll p k j == 1) = true := by simp [hv]
        rw [if_pos hv] at Hstep
        have Hv := hide hv
        clear hv
        by_cases hr : r2 < r1
        · rw [if_pos hr] at Hstep
          go_wp2_with fail
          go_roundw
          case rel =>
            refine ⟨j + 1, by omega, by go_num, later_set (later_set hLB2 _ (by rw [HsB.out]; exact Nat.le_refl _) _) _ (by rw [HsB.out]; exact Nat.le_refl _) _, ?_⟩
            rw [Hstep.out]
            exact (Hb2.out.set_ 0 _).set_ 1 _
          case measure => simp [intOf]; omega
        · rw [if_neg hr] at Hstep
          go_wp2_with fail
          go_roundw
          case rel =>
            refine ⟨j + 1, by omega, by go_num, later_set hLB2 _ (by rw [HsB.out]; exact Nat.le_refl _) _, ?_⟩
            rw [Hstep.out]
            exact Hb2.out.set_ 1 _
          case measure => simp [intOf]; omega
      · have hvb : (verdict c ll p k j == 1) = false := by simp [hv]
        rw [if_neg hv] at Hstep
        clear hv
        go_wp2_with fail
        go_roundw
        case rel =>
          refine ⟨j + 1, by omega, by go_num, hLB2, ?_⟩
          rw [Hstep.out]
          exact Hb2.out
        case measure => simp [intOf]; omega
    · have hfin := hend (by omega)
      have Hfin := hide hfin
      clear hstep hend hfin
      have hk0 := hbk.cell 0
      have hk1 := hbk.cell 1
      simp only [List.getElem?_toArray, List.getElem?_cons_zero, List.getElem?_cons_succ] at hk0 hk1
      have hbr := hBr.later hL
      have hr0 := hbr.cell 0
      have hr1 := hbr.cell 1
      have hf0 := hbr.frozen 0
      have hf1 := hbr.frozen 1
      simp only [List.getElem?_toArray, List.getElem?_cons_zero, List.getElem?_cons_succ] at hr0 hr1
      have hsz := hbk.lt
      clear hbk hbr hBr hBn
      go_wp2_with fail
      refine bodyPost_ret (v := .agg #[.int .i64 r1, .int .i64 r2]) ?_ rfl ⟨by (try rw [Int.toNat_natCast]); rw [Hfin.out], ?_⟩
      · simp [results, Try.results70, go_sem, *]
      · have := Later.trans hL0 hL0r
        simp [*]
end Go.Proofs.Ytjilckjhdlabaaa

/- The reference's Stuck, Done, Bounds: walks. -/
namespace Go.Proofs.Ytjilckjhdlabaaa
open Go Go.RowKit

theorem Stuck_calls {A1 A2 A3 : Option Addr} {n1 k1 n2 k2 n3 k3 : Nat} {c : Clo} {Al Ap : Option Addr} {nl kl np kp : Nat} {ll : List (List Int)} {p : List Int} (w : World) (hc : CV w c A1 n1 A2 n2 A3 n3) (hl : RRI w Al nl ll)
    (hp : RI w Ap np p) (ok : OkC c) (hpl : IsPl c p) (hdry : ∀ d ∈ ll, IsDry c d) (hn : nl ≤ 1000000) :
    Calls Try.prog 30 #[(.agg #[.int .i64 c.closets, .int .i64 c.close, .slice A1 n1 k1, .slice A2 n2 k2, .slice A3 n3 k3]), .slice Al nl kl, .slice Ap np kp] w fun e w' => e = .returned (.int .i64 (stuckR c ll p)) ∧ Later w w' := by
  have hn1 := hc.hs.len
  have hn14 : n1 ≤ 4 := by have := ok.len; omega
  have Hn1 := hide hn1
  clear hn1
  obtain ⟨w0, hw0⟩ : ∃ W, W = (w.alloc (.cells #[.int .i64 c.closets, .int .i64 c.close, .slice A1 n1 k1, .slice A2 n2 k2, .slice A3 n3 k3] 26)) := ⟨_, rfl⟩; have hbox : ∀ W, Later w0 W → ∀ i, W.cell? ⟨w.heap.size, i, none⟩ = #[.int .i64 c.closets, .int .i64 c.close, .slice A1 n1 k1, .slice A2 n2 k2, .slice A3 n3 k3][i]? := (by rw [hw0]; exact box_cells w #[.int .i64 c.closets, .int .i64 c.close, .slice A1 n1 k1, .slice A2 n2 k2, .slice A3 n3 k3] 26); have hL0 : Later w w0 := (by rw [hw0]; simp); have hc0 := hc.later hL0; have Hw0 := hide hw0; clear hw0
  go_enter Try.func30, Try.ntmps30
  go_wp2_with fail
  rw [← Hw0.out]; clear Hw0
  go_loopw [7] (fun i wr => ∃ j : Nat, j ≤ n1 ∧ i = .int .i64 j ∧ Later w0 wr ∧ ∀ t, t < j → noGood c ll p t = false) (fun i _ => n1 - (intOf i).toNat)
  case atStart => exact ⟨0, Nat.zero_le _, rfl, later_refl _, fun t ht => by omega⟩
  case round =>
    obtain ⟨j, hj, rfl, hL, hno⟩ := hrel
    have Hno := hide hno
    clear hno
    by_cases hlt : j < n1
    · have hj1 : (j : Int) < c.horses.length := by have := Hn1.out; omega
      go_wp2_with fail
      refine (Good_calls _ (hc0.later hL) ((hl.later hL0).later hL) ((hp.later hL0).later hL) ok hpl hdry hn (by omega) hj1).mono ?_
      rintro e w2 ⟨rfl, hL2⟩
      have hL3 := Later.trans hL hL2
      (try rw [Int.toNat_natCast])
      have hng : noGood c ll p j = decide ((goodR c ll p j).2 < (goodR c ll p j).1) := rfl
      have hfin : noGood c ll p j = true → stuckR c ll p = j := fun h => by
        unfold stuckR; rw [find_range_some (by omega) h Hno.out]
      generalize goodR c ll p j = r at *
      obtain ⟨r1, r2⟩ := r
      dsimp only at hng ⊢
      by_cases hr : r2 < r1
      · rw [decide_eq_true hr] at hng
        have Hfin := hide (hfin hng)
        clear hng hfin
        go_wp2_with fail
        go_ret
        exact ⟨ret_int Hfin.out.symm, Later.trans hL0 (by simp [*])⟩
      · rw [decide_eq_false hr] at hng
        have Hng := hide hng
        clear hng hfin
        go_wp2_with fail
        go_roundw
        case rel =>
          refine ⟨j + 1, by omega, by go_num, by simp [*], fun t ht => ?_⟩
          rcases Nat.lt_succ_iff_lt_or_eq.1 ht with h | rfl
          · exact Hno.out t h
          · exact Hng.out
        case measure => simp [intOf]; omega
    · have hfin : stuckR c ll p = -1 := by
        unfold stuckR; rw [find_range_none fun t ht => Hno.out t (by have := Hn1.out; omega)]
      have Hfin := hide hfin
      clear hfin
      go_wp2_with fail
      go_ret
      exact ⟨ret_int Hfin.out.symm, Later.trans hL0 hL⟩

theorem field_lo (a b : Value) (w : World) : (Instr.field 66 (.agg #[a, b]) 0).run Try.prog w = .ok a w := by kernel_rfl

def doneTo (c : Clo) (l : List (List Int)) (p : List Int) (j : Nat) : Int := (List.range j).foldl (fun n i => max n (goodR c l p i).1) 0

set_option maxRecDepth 100000 in
theorem Done_calls {A1 A2 A3 : Option Addr} {n1 k1 n2 k2 n3 k3 : Nat} {c : Clo} {Al Ap : Option Addr} {nl kl np kp : Nat} {ll : List (List Int)} {p : List Int} (w : World) (hc : CV w c A1 n1 A2 n2 A3 n3) (hl : RRI w Al nl ll)
    (hp : RI w Ap np p) (ok : OkC c) (hpl : IsPl c p) (hdry : ∀ d ∈ ll, IsDry c d) (hn : nl ≤ 1000000) :
    Calls Try.prog 62 #[(.agg #[.int .i64 c.closets, .int .i64 c.close, .slice A1 n1 k1, .slice A2 n2 k2, .slice A3 n3 k3]), .slice Al nl kl, .slice Ap np kp] w fun e w' => e = .returned (.int .i64 (doneR c ll p)) ∧ Later w w' := by
  have hn1 := hc.hs.len
  have hn14 : n1 ≤ 4 := by have := ok.len; omega
  have Hn1 := hide hn1
  clear hn1
  obtain ⟨w0, hw0⟩ : ∃ W, W = (w.alloc (.cells #[.int .i64 c.closets, .int .i64 c.close, .slice A1 n1 k1, .slice A2 n2 k2, .slice A3 n3 k3] 26)) := ⟨_, rfl⟩; have hbox : ∀ W, Later w0 W → ∀ i, W.cell? ⟨w.heap.size, i, none⟩ = #[.int .i64 c.closets, .int .i64 c.close, .slice A1 n1 k1, .slice A2 n2 k2, .slice A3 n3 k3][i]? := (by rw [hw0]; exact box_cells w #[.int .i64 c.closets, .int .i64 c.close, .slice A1 n1 k1, .slice A2 n2 k2, .slice A3 n3 k3] 26); have hL0 : Later w w0 := (by rw [hw0]; simp); have hc0 := hc.later hL0; have Hw0 := hide hw0; clear hw0
  go_enter Try.func62, Try.ntmps62
  go_wp2_with fail
  rw [← Hw0.out]; clear Hw0
  go_loopw [7, 8] (fun a i wr => ∃ j : Nat, j ≤ n1 ∧ i = .int .i64 j ∧ a = .int .i64 (doneTo c ll p j) ∧ Later w0 wr) (fun _ i _ => n1 - (intOf i).toNat)
  case atStart => exact ⟨0, Nat.zero_le _, rfl, rfl, later_refl _⟩
  case round =>
    obtain ⟨j, hj, rfl, rfl, hL⟩ := hrel
    by_cases hlt : j < n1
    · have hj1 : (j : Int) < c.horses.length := by have := Hn1.out; omega
      have hstep : doneTo c ll p (j + 1) = max (doneTo c ll p j) (goodR c ll p j).1 := by
        unfold doneTo; rw [List.range_succ, List.foldl_append]; rfl
      go_wp2_with fail
      refine (Good_calls _ (hc0.later hL) ((hl.later hL0).later hL) ((hp.later hL0).later hL) ok hpl hdry hn (by omega) hj1).mono ?_
      rintro e w2 ⟨rfl, hL2⟩
      have hL3 := Later.trans hL hL2
      (try rw [Int.toNat_natCast])
      generalize goodR c ll p j = r at *
      obtain ⟨r1, r2⟩ := r
      dsimp only at hstep ⊢
      have Hstep := hide hstep
      have hfl := field_lo (.int .i64 r1) (.int .i64 r2)
      clear hstep
      go_wp2_with fail
      all_goals
        go_roundw
        case rel => exact ⟨j + 1, by omega, by go_num, by rw [Hstep.out]; first | rfl | (congr 1; omega) | (congr 1; split <;> omega), hL3⟩
        case measure => simp [intOf]; omega
    · have hfin : doneTo c ll p j = doneR c ll p := by
        have := Hn1.out
        unfold doneR doneTo; rw [show j = c.horses.length by omega]
      rw [hfin]
      clear hfin
      go_wp2_with fail
      go_ret
      exact ⟨rfl, Later.trans hL0 hL⟩

def boundsTo (c : Clo) (l : List (List Int)) (p : List Int) (h : Nat) (j : Nat) : Int × Int := (l.take j).foldl (fun r d => wider r (minuteR c p d h)) (1099511627776, -1)

theorem BoundsR_calls {A1 A2 A3 : Option Addr} {n1 k1 n2 k2 n3 k3 : Nat} {c : Clo} {Al Ap : Option Addr} {nl kl np kp : Nat} {ll : List (List Int)} {p : List Int} {h : Int} (w : World) (hc : CV w c A1 n1 A2 n2 A3 n3) (hl : RRI w Al nl ll)
    (hp : RI w Ap np p) (ok : OkH c) (hpl : IsPl c p) (hdry : ∀ d ∈ ll, IsDry c d) (hn : nl ≤ 1000000) (h0 : 0 ≤ h) (h1 : h < c.horses.length) :
    Calls Try.prog 69 #[(.agg #[.int .i64 c.closets, .int .i64 c.close, .slice A1 n1 k1, .slice A2 n2 k2, .slice A3 n3 k3]), .slice Al nl kl, .slice Ap np kp, .int .i64 h] w fun e w' => e = .returned (.agg #[.int .i64 (boundsR c ll p h.toNat).1, .int .i64 (boundsR c ll p h.toNat).2]) ∧ Later w w' := by
  obtain ⟨k, rfl⟩ := Int.eq_ofNat_of_zero_le h0
  have hnl := hl.len
  have Hnl := hide hnl
  clear hnl
  obtain ⟨w0, hw0⟩ : ∃ W, W = (w.alloc (.cells #[.int .i64 c.closets, .int .i64 c.close, .slice A1 n1 k1, .slice A2 n2 k2, .slice A3 n3 k3] 26)) := ⟨_, rfl⟩; have hbox : ∀ W, Later w0 W → ∀ i, W.cell? ⟨w.heap.size, i, none⟩ = #[.int .i64 c.closets, .int .i64 c.close, .slice A1 n1 k1, .slice A2 n2 k2, .slice A3 n3 k3][i]? := (by rw [hw0]; exact box_cells w #[.int .i64 c.closets, .int .i64 c.close, .slice A1 n1 k1, .slice A2 n2 k2, .slice A3 n3 k3] 26); have hL0 : Later w w0 := (by rw [hw0]; simp); have hc0 := hc.later hL0; have Hw0 := hide hw0; clear hw0
  have hs0 : w0.heap.size = w.heap.size + 1 := by rw [Hw0.out]; simp
  have Hs0 := hide hs0
  clear hs0
  go_enter Try.func69, Try.ntmps69
  go_wp2_with fail
  rw [← Hw0.out]
  refine (Empty_calls _).mono ?_
  rintro e w1 ⟨rfl, hL1⟩
  have hlt1 : w.heap.size + 1 < w1.heap.size := by have := later_size hL1; have := Hs0.out; simp at *; omega
  have hLw := Later.trans (later_alloc (later_refl w0) _) hL1
  have hBr : Blk w1 (w.heap.size + 1) 66 #[.int .i64 0, .int .i64 0] := by
    have := Blk.new w0 66 #[.int .i64 0, .int .i64 0]
    rw [Hs0.out] at this
    exact this.later hL1
  clear Hw0
  go_wp2_with fail
  go_loopw [10] (fun i wr => ∃ j : Nat, j ≤ nl ∧ i = .int .i64 j ∧ Later w1 wr ∧ Blk wr w1.heap.size 66 #[.int .i64 (boundsTo c ll p k j).1, .int .i64 (boundsTo c ll p k j).2]) (fun i _ => nl - (intOf i).toNat)
  case atStart => exact ⟨0, Nat.zero_le _, rfl, later_alloc (later_refl _) _, Blk.new _ _ _⟩
  case round =>
    obtain ⟨j, hj, rfl, hL, hbk⟩ := hrel
    have hLr := Later.trans hLw hL
    by_cases hlt : j < nl
    · obtain ⟨b, o, d, Ad, nd, kd, rfl, hx, hrd, hcx⟩ := (hl.later hL0).get hlt
      have hdr := hdry d (List.mem_of_getElem? hx)
      have hstep : boundsTo c ll p k (j + 1) = wider (boundsTo c ll p k j) (minuteR c p d k) := by
        unfold boundsTo; rw [List.take_add_one, hx, Option.toList_some, List.foldl_append]; rfl
      generalize boundsTo c ll p k j = r at *
      obtain ⟨r1, r2⟩ := r
      dsimp only at hbk
      have hi1 : (j : Int) < nl := by omega
      have hT : ∀ e : Ext wr, Later w0 e.W := fun e => Later.trans hLr e.h
      have hk0 := hbk.cells_later
      have hf := hbk.frozen_later
      have hsz := hbk.lt
      have Hb := hide hbk
      have Hstep := hide hstep
      clear hstep hbk hx hL1
      go_wp2_with fail
      refine wp_region_ext_tail (w0 := wr) 10 (by kernel_rfl) (by kernel_rfl) (later_refl _) ?_; simp only [List.take_succ_cons, List.take_zero, List.drop_succ_cons, List.drop_zero]; (repeat (first | go_big_quiet_step ((first | (go_at_call 55; exact calls_ext (by simp) (Minute_calls _ (hc0.later (hT _)) ((hp.later hL0).later (hT _)) (hrd.later (hT _)) ok hpl.len hdr.len h0 h1 (hpl.bound ok) (hdr.bound ok))) | (go_at_call 116; exact calls_ext (by simp) (Wider_calls (r1, r2) _ _)))) | quiet_step ((first | (go_at_call 55; exact calls_ext (by simp) (Minute_calls _ (hc0.later (hT _)) ((hp.later hL0).later (hT _)) (hrd.later (hT _)) ok hpl.len hdr.len h0 h1 (hpl.bound ok) (hdr.bound ok))) | (go_at_call 116; exact calls_ext (by simp) (Wider_calls (r1, r2) _ _)))))); refine wpQuiet_nil ?_; rintro w1 ⟨⟨_, hL1⟩, rfl⟩; (try dsimp only)
      go_wp2_with fail
      go_roundw
      case rel =>
        refine ⟨j + 1, by omega, by go_num, later_set (later_set (Later.trans hL hL1) _ (Nat.le_refl _) _) _ (Nat.le_refl _) _, ?_⟩
        rw [Hstep.out]
        exact ((Hb.out.later hL1).set_ 0 _).set_ 1 _
      case measure => simp [intOf]; omega
    · have hfin : boundsR c ll p k = boundsTo c ll p k j := by
        have := Hnl.out
        unfold boundsR boundsTo; rw [List.take_of_length_le (by omega)]
      rw [← hfin] at hbk
      clear hfin
      obtain ⟨⟨r1, r2⟩, hr⟩ : ∃ q, boundsR c ll p k = q := ⟨_, rfl⟩
      rw [hr] at hbk
      have Hr := hide hr
      clear hr
      dsimp only at hbk
      have hk0 := hbk.cell 0
      have hk1 := hbk.cell 1
      simp only [List.getElem?_toArray, List.getElem?_cons_zero, List.getElem?_cons_succ] at hk0 hk1
      have hbr := hBr.later hL
      have hr0 := hbr.cell 0
      have hr1 := hbr.cell 1
      have hf0 := hbr.frozen 0
      have hf1 := hbr.frozen 1
      simp only [List.getElem?_toArray, List.getElem?_cons_zero, List.getElem?_cons_succ] at hr0 hr1
      have hsz := hbk.lt
      clear hbk hbr hBr
      go_wp2_with fail
      refine bodyPost_ret (v := .agg #[.int .i64 r1, .int .i64 r2]) ?_ rfl ⟨by rw [Int.toNat_natCast, Hr.out], ?_⟩
      · simp [results, Try.results69, go_sem, *]
      · have := Later.trans hL0 hLr
        simp [*]
end Go.Proofs.Ytjilckjhdlabaaa

/- ClosetStuck: the plain law and the walk. -/
namespace Go.Proofs.Ytjilckjhdlabaaa
open Go Go.RowKit
attribute [local go_sem] later_alloc2 later_alloc3 later_alloc4

/-- the law, in plain words -/
theorem stuck_law (c : Clo) (p : List Int) :
    (∃ q, q ≠ 0 ∧ askedErr c (isPlaceB c p) = q ∧ stuckOut c p = (0, q)) ∨
    (askedErr c (isPlaceB c p) = 0 ∧ fault c = 0 ∧ isPlaceB c p = true ∧
      ((∃ j : Nat, j ≤ 4 ∧ stuckR c (truths c) p = j ∧ stuckOut c p = ((j : Int), 0)) ∨ (stuckR c (truths c) p = -1 ∧ stuckOut c p = (0, 7)))) := by
  by_cases h : askedErr c (isPlaceB c p) = 0
  · obtain ⟨hf, hb, hne⟩ := askedErr_zero h
    have ok := okC_of_fault hf
    have hl := ok.len
    refine .inr ⟨h, hf, hb, ?_⟩
    rcases doneP_spec ok (l := truths c) (tr := truthsP c) (fun d => ((truthsP_perm hf).mem_iff).symm) hne (truthsP_isDry ok.toOkH) (isPlaceB_isPl hf hb) with ⟨j, hj, h1, h2⟩ | ⟨h1, h2, _⟩
    · refine .inl ⟨j, by omega, h1, ?_⟩
      unfold stuckOut
      rw [if_neg (by simp [h]), h2, if_neg (by simp; omega)]
    · refine .inr ⟨h1, ?_⟩
      unfold stuckOut
      rw [if_neg (by simp [h]), h2, if_pos rfl]
  · exact .inl ⟨_, h, rfl, by unfold stuckOut; rw [if_pos h]⟩

set_option maxRecDepth 100000 in
set_option maxHeartbeats 4000000 in
theorem lawStuck_calls {A1 A2 A3 : Option Addr} {n1 k1 n2 k2 n3 k3 : Nat} {c : Clo} {Ap : Option Addr} {np kp : Nat} {p : List Int} (w : World) (hc : CV w c A1 n1 A2 n2 A3 n3) (hcl : i64 c.closets) (b1 : n1 ≤ 9223372036854775807) (b2 : n2 ≤ 9223372036854775807) (b3 : n3 ≤ 9223372036854775807)
    (hp : RI w Ap np p) (bp : np ≤ 9223372036854775807) : Calls Try.prog 3 #[(.agg #[.int .i64 c.closets, .int .i64 c.close, .slice A1 n1 k1, .slice A2 n2 k2, .slice A3 n3 k3]), .slice Ap np kp] w fun e w' => e = .returned (.bool true) ∧ Later w w' := by
  obtain ⟨w0, hw0⟩ : ∃ W, W = (w.alloc (.cells #[.int .i64 c.closets, .int .i64 c.close, .slice A1 n1 k1, .slice A2 n2 k2, .slice A3 n3 k3] 26)) := ⟨_, rfl⟩; have hbox : ∀ W, Later w0 W → ∀ i, W.cell? ⟨w.heap.size, i, none⟩ = #[.int .i64 c.closets, .int .i64 c.close, .slice A1 n1 k1, .slice A2 n2 k2, .slice A3 n3 k3][i]? := (by rw [hw0]; exact box_cells w #[.int .i64 c.closets, .int .i64 c.close, .slice A1 n1 k1, .slice A2 n2 k2, .slice A3 n3 k3] 26); have hL0 : Later w w0 := (by rw [hw0]; simp); have hc0 := hc.later hL0; have Hw0 := hide hw0; clear hw0
  have hp0 := hp.later hL0
  have hthin := Thin_calls (k1 := k1) (k2 := k2) (k3 := k3) w0 hc0 hcl b1 b2 b3
  cases hth : thinB c with
  | false =>
    rw [hth] at hthin
    have Hthin := hide hthin
    clear hth hthin
    go_enter Try.func3, Try.ntmps3
    go_wp2_with fail
    rw [← Hw0.out]; clear Hw0
    refine Hthin.out.mono ?_
    rintro e w1 ⟨rfl, hL1⟩
    go_wp2_with fail
    refine (awake_calls _).mono ?_
    rintro e w2 ⟨rfl, hL2⟩
    go_wp2_with fail
    go_ret
    exact ⟨rfl, Later.trans hL0 (Later.trans hL1 hL2)⟩
  | true =>
    rw [hth] at hthin
    have hn := And.intro hc.hs.len (And.intro hc.hu.len hc.lk.len)
    unfold thinB at hth
    simp only [Bool.and_eq_true, decide_eq_true_eq] at hth
    have l1 : n1 ≤ 6 := by omega
    have l2 : n2 ≤ 8 := by omega
    have l3 : n3 ≤ 7 := by omega
    have Hthin := hide hthin
    clear hth hthin hn
    by_cases hp9 : np ≤ 9
    · have h9 : ¬ (9 : Int) < (np : Int) := by omega
      obtain ⟨⟨s1, s2⟩, hso⟩ : ∃ q, stuckOut c p = q := ⟨_, rfl⟩
      obtain ⟨b, hb⟩ : ∃ b, isPlaceB c p = b := ⟨_, rfl⟩
      obtain ⟨q, hq⟩ : ∃ q, askedErr c b = q := ⟨_, rfl⟩
      have law := stuck_law c p
      rw [hb, hq, hso] at law
      have hsc := fun (B1 B2 B3 : Option Addr) (j1 j2 j3 : Nat) (W : World) (h : CV W c B1 n1 B2 n2 B3 n3) (h2 : n2 ≤ j2) (Aq : Option Addr) (kq : Nat) (hq : RI W Aq np p) (hk : np ≤ kq) =>
        StuckP_calls (k1 := j1) (k2 := j2) (k3 := j3) W h hcl (by omega) (by omega) (by omega) h2 hq hk (by omega)
      rw [hso] at hsc
      have hpc := fun (W : World) (h : Later w0 W) => placed_calls (k1 := k1) (k2 := k2) (k3 := k3) (fine := b) W (hc0.later h) hcl (by omega) (by omega) (by omega)
      unfold PlacedPost at hpc
      rw [hq] at hpc
      have hip := fun (W : World) (h : Later w0 W) => IsPlace_calls (kp := kp) (k1 := k1) (k2 := k2) (k3 := k3) W (hc0.later h) (hp0.later h) hcl (by omega) (by omega)
      rw [hb] at hip
      have Hsc := hide hsc
      have Hpc := hide hpc
      have Hip := hide hip
      have Hlaw := hide law
      have Hb := hide hb
      clear hsc hpc hip law hso hb hq
      go_enter Try.func3, Try.ntmps3
      go_wp2_with fail
      rw [← Hw0.out]; clear Hw0
      refine Hthin.out.mono ?_
      rintro e w1 ⟨rfl, hL1⟩
      go_wp2_with fail
      refine (lawCloset_calls (k1 := k1) (k2 := k2) (k3 := k3) w1 (hc0.later hL1) (by omega) (by omega) (by omega)).mono ?_
      rintro e w2 ⟨B1, j1, B2, j2, B3, j3, rfl, hL2, hc2, hj1, hj2, hj3⟩
      go_wp2_with fail
      refine (list_calls _ (hp0.later (Later.trans hL1 hL2)) (by omega)).mono ?_
      rintro e w3 ⟨Aq, nq, kq, rfl, hL3, hrq, hkq, _⟩
      have hnq := hrq.len
      rw [← hp0.len] at hnq
      subst hnq
      go_wp2_with fail
      refine (Hsc.out _ _ _ _ _ _ w3 (hc2.later hL3) hj2 _ _ hrq hkq).mono ?_
      rintro e w4 ⟨rfl, hL4⟩
      have hL04 := Later.trans hL1 (Later.trans hL2 (Later.trans hL3 hL4))
      clear hc2 hrq hL1 hL2 hL3 hL4
      go_wp2_with fail
      have hS0 : Later w0 w4.drew := later_drew hL04
      go_region_held3 (fun W => Later w0 W) ((((repeat (first | assumption | refine later_drew ?_ | refine later_alloc ?_ _ | refine later_set ?_ _ (Nat.le_add_right _ _) _ | refine later_set ?_ _ (Nat.le_refl _) _)); done)))
        (first
          | (go_at_call 28; go_must (refine (Hpc.out w5 hL5).mono ?_; rintro e w6 ⟨At, nt, kt, rfl, hL6, hrr⟩; have hL06 := Later.trans hL5 hL6))
          | (go_at_call 29; go_must (refine (Hip.out _ hS0).mono ?_; rintro e w5 ⟨rfl, hL⟩; have hL5 := Later.trans hS0 hL)))
      rcases Hlaw.out with ⟨q', hq0, rfl, he⟩ | ⟨rfl, hf, hbt, hor⟩
      · injection he with e1 e2
        subst e1 e2
        have hqb : (s2 != 0) = true := by simpa using hq0
        clear hq0
        go_wp2_with fail
        refine (awake_calls _).mono ?_
        rintro e w7 ⟨rfl, hL7⟩
        go_wp2_with fail
        go_ret
        exact ⟨rfl, Later.trans hL0 (Later.trans hL06 hL7)⟩
      · have ok := okC_of_fault hf
        have hpl := isPlaceB_isPl hf (Hb.out.trans hbt)
        have hrr := hrr rfl
        have hmr := (fault_zero hf).2.2.2.2.2.2
        have hnt := hrr.len
        have htl : nt ≤ 1000000 := by rw [hnt, ← (truthsP_perm hf).length_eq]; have := truthsP_len hf; omega
        have hst := Stuck_calls (k1 := k1) (k2 := k2) (k3 := k3) (kl := kt) (kp := kp) w6 (hc0.later hL06) hrr (hp0.later hL06) ok hpl (truths_isDry ok.toOkH) htl
        clear hrr hpl ok hmr hnt htl hf hbt
        rcases hor with ⟨j, hj4, hsr, he⟩ | ⟨hsr, he⟩
        · injection he with e1 e2
          subst e1 e2
          rw [hsr] at hst
          have Hst := hide hst
          have hj0 : ¬ (j : Int) < 0 := by omega
          clear hst hsr
          go_wp2_with fail
          refine Hst.out.mono ?_
          rintro e w7 ⟨rfl, hL7⟩
          go_wp2_with fail
          refine (awake_calls _).mono ?_
          rintro e w8 ⟨rfl, hL8⟩
          go_wp2_with fail
          go_ret
          exact ⟨rfl, Later.trans hL0 (Later.trans hL06 (Later.trans hL7 hL8))⟩
        · injection he with e1 e2
          subst e1 e2
          rw [hsr] at hst
          have Hst := hide hst
          clear hst hsr
          go_wp2_with fail
          refine Hst.out.mono ?_
          rintro e w7 ⟨rfl, hL7⟩
          go_wp2_with fail
          refine (awake_calls _).mono ?_
          rintro e w8 ⟨rfl, hL8⟩
          go_wp2_with fail
          go_ret
          exact ⟨rfl, Later.trans hL0 (Later.trans hL06 (Later.trans hL7 hL8))⟩
    · have h9 : (9 : Int) < (np : Int) := by omega
      go_enter Try.func3, Try.ntmps3
      go_wp2_with fail
      rw [← Hw0.out]; clear Hw0
      refine Hthin.out.mono ?_
      rintro e w1 ⟨rfl, hL1⟩
      go_wp2_with fail
      refine (awake_calls _).mono ?_
      rintro e w2 ⟨rfl, hL2⟩
      go_wp2_with fail
      go_ret
      exact ⟨rfl, Later.trans hL0 (Later.trans hL1 hL2)⟩
end Go.Proofs.Ytjilckjhdlabaaa

/- The arguments of the laws of chapter 04, opened. -/
namespace Go.Proofs.Ytjilckjhdlabaaa
open Go Go.RowKit Go.ChangeShapes Go.WideShapes Go.Deep Go.Joins

theorem list_of {α : Type} {P : Nat → α → Prop} : ∀ (n : Nat), (∀ i, i < n → ∃ x, P i x) → ∃ l : List α, l.length = n ∧ ∀ i x, l[i]? = some x → P i x
  | 0, _ => ⟨[], rfl, fun i x h => by simp at h⟩
  | n + 1, h => by
    obtain ⟨l, hl, hP⟩ := list_of n (fun i hi => h i (by omega))
    obtain ⟨x, hx⟩ := h n (by omega)
    refine ⟨l ++ [x], by simp [hl], fun i y hy => ?_⟩
    rcases Nat.lt_or_ge i n with hi | hi
    · rw [List.getElem?_append_left (by omega)] at hy; exact hP i y hy
    · have hin : i = n := by have := (List.getElem?_eq_some_iff.1 hy).1; simp at this; omega
      subst hin
      rw [← hl, List.getElem?_concat_length] at hy
      injection hy with hy; subst hy; exact hx
theorem reads_of {α : Type} {w : World} {a : Addr} {n size : Nat} (f : List α → List Value) (cells : α → List Value) (hs : 0 < size) (hf : ∀ l : List α, (f l).length = l.length * size) (hc : ∀ x, (cells x).length = size)
    (hg : ∀ (l : List α) (k j : Nat) (x : α), l[k]? = some x → j < size → (f l)[k * size + j]? = (cells x)[j]?)
    {l : List α} (hl : l.length = n) (h : ∀ i x, l[i]? = some x → ∀ j, j < size → w.cell? (a.add (i * size + j)) = (cells x)[j]?) : Reads w w.heap.size size (some a) n (f l) := by
  have hall : ∀ (j : Nat) (u : Value), (f l)[j]? = some u → w.cell? (a.add j) = some u := fun j u hu => by
    have hj := (List.getElem?_eq_some_iff.1 hu).1
    rw [hf] at hj
    have hdv : j / size < l.length := (Nat.div_lt_iff_lt_mul hs).2 hj
    have hm : j % size < size := Nat.mod_lt _ hs
    have he : j / size * size + j % size = j := by rw [Nat.mul_comm]; exact Nat.div_add_mod j size
    have h1 := hg l (j / size) (j % size) _ (List.getElem?_eq_getElem hdv) hm
    have h2 := h (j / size) _ (List.getElem?_eq_getElem hdv) (j % size) hm
    rw [he] at h1 h2
    rw [h2, ← h1, hu]
  refine ⟨by rw [hf, hl], fun hn => ⟨a, rfl, ?_, hall⟩⟩
  have hl0 : 0 < (f l).length := by rw [hf, hl]; exact Nat.mul_pos hn hs
  have h0 := hall 0 _ (List.getElem?_eq_getElem hl0)
  have := World.block_lt_of_cell? _ _ h0
  simpa [Addr.add] using this
section
variable {H : Type} {enc : TypeId × Value → H} {w : World}

theorem open_ints_ {v : Value} {fuel : Nat} {x : DataW H × List MemPlace} (h : DataW.trod enc Try.prog w 0 (fun _ => true) true fuel 23 [v] = some x) :
    ∃ A n k l, v = .slice A n k ∧ RI w A n l ∧ n ≤ maxLen := by
  rcases open_ints Try.underlying23 Try.underlying3 (by kernel_rfl) h with ⟨hc, _⟩ | ⟨a, len, cap, zs, hc, _, hl, hm, hz, _, hcell, _⟩
  · injection hc with hc
    exact ⟨none, 0, 0, [], hc, RI.nil, by simp [maxLen]⟩
  · injection hc with hc
    simp only [if_true] at hz
    refine ⟨some a, len, cap, zs.take len, hc, ⟨by simp [ints]; omega, fun hn => ⟨a, rfl, ?_, fun j u hu => ?_⟩⟩, Nat.le_trans hl hm⟩
    · have := World.block_lt_of_cell? _ _ (hcell 0 (by omega))
      simpa [Addr.add] using this
    · have hj := (List.getElem?_eq_some_iff.1 hu).1
      simp [ints] at hj
      rw [hcell j (by omega)]
      simp only [ints, List.getElem?_map, List.getElem?_take] at hu
      rw [if_pos (by omega), List.getElem?_eq_getElem (by omega)] at hu
      simp only [Option.map_some] at hu
      rw [← hu, List.getD_eq_getElem?_getD, List.getElem?_eq_getElem (by omega)]
      rfl
theorem cells_range : (Try.prog).cellsOf 66 = 2 := by kernel_rfl
theorem cells_horse : (Try.prog).cellsOf 68 = 4 := by kernel_rfl
theorem cells_look : (Try.prog).cellsOf 84 = 3 := by kernel_rfl
theorem cells_int : (Try.prog).cellsOf 3 = 1 := by kernel_rfl
theorem cells_bool : (Try.prog).cellsOf 4 = 1 := by kernel_rfl
set_option maxRecDepth 100000 in
theorem horse_cells {cs : List Value} {n : Nat} {x : DataW H × List MemPlace} (h : DataW.trod enc Try.prog w 0 (fun _ => true) true n 68 cs = some x) : ∃ r : Horse, cs = r.cells := by
  obtain ⟨xs, m, _, _, hlen, hxl, hf⟩ := DataW.trod_struct Try.underlying68 h
  rw [cells_horse] at hlen
  match cs, hlen with
  | [c0, c1, c2, c3], _ =>
    match xs, hxl with
    | [y0, y1, y2], _ =>
      have f0 := hf 0 _ rfl
      have f1 := hf 1 _ rfl
      have f2 := hf 2 _ rfl
      simp [cells_range, cells_int] at f0 f1 f2
      obtain ⟨xs', m', _, _, _, hxl', hf'⟩ := DataW.trod_struct Try.underlying66 f0
      match xs', hxl' with
      | [z0, z1], _ =>
        have g0 := hf' 0 _ rfl
        have g1 := hf' 1 _ rfl
        simp [cells_int] at g0 g1
        obtain ⟨a, ha, _⟩ := DataW.trod_int Try.underlying3 g0
        obtain ⟨b, hb, _⟩ := DataW.trod_int Try.underlying3 g1
        obtain ⟨d, hd, _⟩ := DataW.trod_int Try.underlying3 f1
        obtain ⟨e, he, _⟩ := DataW.trod_int Try.underlying3 f2
        injection ha with ha; injection hb with hb; injection hd with hd; injection he with he
        exact ⟨⟨a, b, d, e⟩, by simp [Horse.cells, ha, hb, hd, he]⟩
set_option maxRecDepth 100000 in
theorem look_cells {cs : List Value} {n : Nat} {x : DataW H × List MemPlace} (h : DataW.trod enc Try.prog w 0 (fun _ => true) true n 84 cs = some x) : ∃ r : Look, cs = r.cells := by
  obtain ⟨xs, m, _, _, hlen, hxl, hf⟩ := DataW.trod_struct Try.underlying84 h
  rw [cells_look] at hlen
  match cs, hlen with
  | [c0, c1, c2], _ =>
    match xs, hxl with
    | [y0, y1, y2], _ =>
      have f0 := hf 0 _ rfl
      have f1 := hf 1 _ rfl
      have f2 := hf 2 _ rfl
      simp [cells_bool, cells_int] at f0 f1 f2
      obtain ⟨a, ha, _⟩ := DataW.trod_int Try.underlying3 f0
      obtain ⟨b, hb, _⟩ := DataW.trod_int Try.underlying3 f1
      obtain ⟨d, hd, _⟩ := DataW.trod_bool Try.underlying4 f2
      injection ha with ha; injection hb with hb; injection hd with hd
      exact ⟨⟨a, b, d⟩, by simp [Look.cells, ha, hb, hd]⟩
set_option maxRecDepth 100000 in
theorem open_horses_ {v : Value} {fuel : Nat} {x : DataW H × List MemPlace} (h : DataW.trod enc Try.prog w 0 (fun _ => true) true fuel 22 [v] = some x) :
    ∃ A n k l, v = .slice A n k ∧ RH w A n l ∧ n ≤ maxLen := by
  rcases open_slice Try.underlying22 h with ⟨hc, _⟩ | ⟨a, len, cap, m, n, D, Pl, hc, _, hl, hm, hmm, _, hi⟩
  · injection hc with hc
    exact ⟨none, 0, 0, [], hc, ⟨rfl, fun h => absurd h (by omega)⟩, by simp [maxLen]⟩
  · injection hc with hc
    simp only [if_true] at hmm
    rw [cells_horse] at hi
    obtain ⟨l, hl1, hl2⟩ := list_of (P := fun i (r : Horse) => ∀ j, j < 4 → w.cell? (a.add (i * 4 + j)) = r.cells[j]?) len (fun i hi' => by
      obtain ⟨cs', hcs, ht⟩ := hi i (by omega)
      obtain ⟨r, rfl⟩ := horse_cells ht
      obtain ⟨_, _, hat⟩ := World.cells?_some hcs
      exact ⟨r, fun j hj => by rw [← Go.Deep.add_add]; exact hat j hj⟩)
    exact ⟨some a, len, cap, l, hc, reads_of horsesV Horse.cells (by omega) horsesV_length (fun x => rfl) (fun l k j x h hj => horsesV_get l k j x h hj) hl1 hl2, Nat.le_trans hl hm⟩
set_option maxRecDepth 100000 in
theorem open_looks_ {v : Value} {fuel : Nat} {x : DataW H × List MemPlace} (h : DataW.trod enc Try.prog w 0 (fun _ => true) true fuel 24 [v] = some x) :
    ∃ A n k l, v = .slice A n k ∧ RL w A n l ∧ n ≤ maxLen := by
  rcases open_slice Try.underlying24 h with ⟨hc, _⟩ | ⟨a, len, cap, m, n, D, Pl, hc, _, hl, hm, hmm, _, hi⟩
  · injection hc with hc
    exact ⟨none, 0, 0, [], hc, ⟨rfl, fun h => absurd h (by omega)⟩, by simp [maxLen]⟩
  · injection hc with hc
    simp only [if_true] at hmm
    rw [cells_look] at hi
    obtain ⟨l, hl1, hl2⟩ := list_of (P := fun i (r : Look) => ∀ j, j < 3 → w.cell? (a.add (i * 3 + j)) = r.cells[j]?) len (fun i hi' => by
      obtain ⟨cs', hcs, ht⟩ := hi i (by omega)
      obtain ⟨r, rfl⟩ := look_cells ht
      obtain ⟨_, _, hat⟩ := World.cells?_some hcs
      exact ⟨r, fun j hj => by rw [← Go.Deep.add_add]; exact hat j hj⟩)
    exact ⟨some a, len, cap, l, hc, reads_of looksV Look.cells (by omega) looksV_length (fun x => rfl) (fun l k j x h hj => looksV_get l k j x h hj) hl1 hl2, Nat.le_trans hl hm⟩
theorem cells_closet : (Try.prog).cellsOf 26 = 5 := by kernel_rfl
theorem cells_horses : (Try.prog).cellsOf 22 = 1 := by kernel_rfl
theorem cells_ints : (Try.prog).cellsOf 23 = 1 := by kernel_rfl
theorem cells_looks : (Try.prog).cellsOf 24 = 1 := by kernel_rfl
set_option maxRecDepth 100000 in
theorem open_closet_ {r : Reach} {b0 : Nat} {v : Value} {d : DataW H} {p : List MemPlace} (hv : Value.okWide Try.prog w r b0 26 v) (h : DataW.Trod enc Try.prog w 0 (fun _ => true) true 26 v d p) :
    ∃ (c : Clo) (A1 : Option Addr) (n1 k1 : Nat) (A2 : Option Addr) (n2 k2 : Nat) (A3 : Option Addr) (n3 k3 : Nat), v = (.agg #[.int .i64 c.closets, .int .i64 c.close, .slice A1 n1 k1, .slice A2 n2 k2, .slice A3 n3 k3]) ∧ CV w c A1 n1 A2 n2 A3 n3 ∧ i64 c.closets ∧ n1 ≤ maxLen ∧ n2 ≤ maxLen ∧ n3 ≤ maxLen := by
  obtain ⟨cs, rfl, hsz⟩ := okWide_struct Try.underlying26 hv
  rw [cells_closet] at hsz
  obtain ⟨fuel, hf0⟩ := h
  obtain ⟨cs⟩ := cs
  match cs, hsz with
  | [c0, c1, c2, c3, c4], _ =>
    obtain ⟨xs, m, _, _, _, hxl, hf⟩ := DataW.trod_struct Try.underlying26 hf0
    match xs, hxl with
    | [y0, y1, y2, y3, y4], _ =>
      have f0 := hf 0 _ rfl
      have f1 := hf 1 _ rfl
      have f2 := hf 2 _ rfl
      have f3 := hf 3 _ rfl
      have f4 := hf 4 _ rfl
      simp [Value.cells, cells_int, cells_horses, cells_ints, cells_looks] at f0 f1 f2 f3 f4
      obtain ⟨a, ha, _, wa⟩ := DataW.trod_int Try.underlying3 f0
      obtain ⟨b, hb, _, _⟩ := DataW.trod_int Try.underlying3 f1
      obtain ⟨A1, n1, k1, l1, rfl, h1, m1⟩ := open_horses_ f2
      obtain ⟨A2, n2, k2, l2, rfl, h2, m2⟩ := open_ints_ f3
      obtain ⟨A3, n3, k3, l3, rfl, h3, m3⟩ := open_looks_ f4
      injection ha with ha; injection hb with hb
      subst ha hb
      exact ⟨⟨a, b, l1, l2, l3⟩, A1, n1, k1, A2, n2, k2, A3, n3, k3, rfl, ⟨h1, h2, h3⟩, bounds_i64 wa, m1, m2, m3⟩
end
end Go.Proofs.Ytjilckjhdlabaaa
