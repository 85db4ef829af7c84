/- The law TicketLong: walk. -/
import Derived.Test.YtbkfnajpbhfneaaPart10
import Derived.Test.YtbkfnajpbhfneaaPart8
set_option linter.unusedSimpArgs false
set_option linter.unusedVariables false
namespace Go.Proofs.Ytbkfnajpbhfneaa
open Go Go.RowKit

theorem LongR_eq {A1 A2 A3 : Option Addr} {n1 k1 n2 k2 n3 k3 : Nat} {c : Hou} {Al : Option Addr} {nl kl : Nat} {ll : List (List Int)} {t : Nat} {v : Int} (w : World) (hc : CV w c A1 n1 A2 n2 A3 n3) (hl : RRI w Al nl ll) (ok : OkH c) (hd : ∀ d ∈ ll, IsErr c d) (hn : nl ≤ 1000000) (ht : t < n2) (hv : vR (longF c t) ll = v) :
    Calls Try.prog 34 #[(.agg #[.int .i64 c.hour, .int .i64 c.grace, .slice A1 n1 k1, .slice A2 n2 k2, .slice A3 n3 k3]), .slice Al nl kl, .int .i64 (t : Int)] w fun e w' => e = .returned (.int .i64 v) ∧ Later w w' := by
  rw [← hv]; exact Long_calls w hc hl ok hd hn ht
theorem PaidR_eq {A1 A2 A3 : Option Addr} {n1 k1 n2 k2 n3 k3 : Nat} {c : Hou} {Al : Option Addr} {nl kl : Nat} {ll : List (List Int)} {v : Int} (w : World) (hc : CV w c A1 n1 A2 n2 A3 n3) (hl : RRI w Al nl ll) (ok : OkH c) (hd : ∀ d ∈ ll, IsErr c d) (hn : nl ≤ 1000000) (hv : vR (isPaid c) ll = v) :
    Calls Try.prog 33 #[(.agg #[.int .i64 c.hour, .int .i64 c.grace, .slice A1 n1 k1, .slice A2 n2 k2, .slice A3 n3 k3]), .slice Al nl kl] w fun e w' => e = .returned (.int .i64 v) ∧ Later w w' := by
  rw [← hv]; exact Paid_calls w hc hl ok hd hn
set_option maxRecDepth 100000 in
set_option maxHeartbeats 4000000 in
theorem lawLong_calls {A1 A2 A3 : Option Addr} {n1 k1 n2 k2 n3 k3 : Nat} {c : Hou} (w : World) (hc : CV w c A1 n1 A2 n2 A3 n3) (b1 : n1 ≤ 9223372036854775807) (b2 : n2 ≤ 9223372036854775807) (b3 : n3 ≤ 9223372036854775807) :
    Calls Try.prog 4 #[(.agg #[.int .i64 c.hour, .int .i64 c.grace, .slice A1 n1 k1, .slice A2 n2 k2, .slice A3 n3 k3])] w fun e w' => e = .returned (.bool true) ∧ Later w w' := by
  obtain ⟨w0, hw0⟩ : ∃ W, W = (w.alloc (.cells #[.int .i64 c.hour, .int .i64 c.grace, .slice A1 n1 k1, .slice A2 n2 k2, .slice A3 n3 k3] 26)) := ⟨_, rfl⟩; have hbox : ∀ W, Later w0 W → ∀ i, W.cell? ⟨w.heap.size, i, none⟩ = #[.int .i64 c.hour, .int .i64 c.grace, .slice A1 n1 k1, .slice A2 n2 k2, .slice A3 n3 k3][i]? := (by rw [hw0]; exact box_cells w #[.int .i64 c.hour, .int .i64 c.grace, .slice A1 n1 k1, .slice A2 n2 k2, .slice A3 n3 k3] 26); have hL0 : Later w w0 := (by rw [hw0]; simp); have hc0 := hc.later hL0; have Hw0 := hide hw0; clear hw0
  have hthin := Thin_calls (k1 := k1) (k2 := k2) (k3 := k3) w0 hc0 b1 b2 b3
  cases hth : thinB c with
  | false =>
    rw [hth] at hthin
    have Hthin := hide hthin
    clear hth hthin
    go_enter Try.func4, Try.ntmps4
    go_wp2_with fail
    rw [← Hw0.out]; clear Hw0
    refine Hthin.out.mono ?_
    rintro e w1 ⟨rfl, hL1⟩
    go_wp2_with fail
    refine (awake_calls _).mono ?_
    rintro e w2 ⟨rfl, hL2⟩
    go_wp2_with fail
    go_ret
    exact ⟨rfl, Later.trans hL0 (Later.trans hL1 hL2)⟩
  | true =>
    rw [hth] at hthin
    have hn := And.intro hc.ck.len (And.intro hc.tk.len hc.cp.len)
    unfold thinB at hth
    simp only [Bool.and_eq_true, decide_eq_true_eq] at hth
    have l1 : n1 ≤ 6 := by omega
    have l2 : n2 ≤ 8 := by omega
    have l3 : n3 ≤ 12 := by omega
    have Hthin := hide hthin
    clear hth hthin hn
    obtain ⟨pd, hpd⟩ : ∃ g, paidOut c = g := ⟨_, rfl⟩
    obtain ⟨s, hs⟩ : ∃ s, askedErr c 0 = s := ⟨_, rfl⟩
    have hcl := fun (B1 B2 B3 : Option Addr) (j1 j2 j3 : Nat) (W : World) (h : CV W c B1 n1 B2 n2 B3 n3) => LongP_calls (k1 := j1) (k2 := j2) (k3 := j3) W h (by omega) (by omega) (by omega)
    have hcp := fun (B1 B2 B3 : Option Addr) (j1 j2 j3 : Nat) (W : World) (h : CV W c B1 n1 B2 n2 B3 n3) => PaidP_calls (k1 := j1) (k2 := j2) (k3 := j3) W h (by omega) (by omega) (by omega)
    rw [hpd] at hcp
    rw [hs] at hcl hcp
    have Hcl := hide hcl
    have Hcp := hide hcp
    have hnl := hc.tk.len
    clear hcl hcp
    by_cases hs0 : s = 0
    · subst hs0
      obtain ⟨hf0, _, htn⟩ := askedErr_zero hs
      have ok := okH_of_fault hf0
      have htr : ∀ d ∈ truths c, IsErr c d := truths_isErr ok
      have hlen : (truths c).length ≤ 2000 := by rw [← (truthsP_perm hf0).length_eq]; exact truthsP_len hf0
      have Hs := hide hs
      have hlo : longOut c = (List.range n2).map fun i => vR (longF c i) (truths c) := by
        unfold longOut; rw [if_pos hs, hnl]
        exact List.map_congr_left fun i _ => vP_vR _ (truthsP_perm hf0)
      have hpv : vR (isPaid c) (truths c) = pd := by
        rw [← hpd]; unfold paidOut; rw [if_pos hs]; exact (vP_vR _ (truthsP_perm hf0)).symm
      have Hlo := hide hlo
      have Hpv := hide hpv
      clear hs hnl htn hf0 hlo hpv hpd
      go_enter Try.func4, Try.ntmps4
      go_wp2_with fail
      rw [← Hw0.out]; clear Hw0
      refine Hthin.out.mono ?_
      rintro e w1 ⟨rfl, hL1⟩
      go_wp2_with fail
      refine (lawHouse_calls (k1 := k1) (k2 := k2) (k3 := k3) w1 (hc0.later hL1) (by omega) (by omega) (by omega)).mono ?_
      rintro e w2 ⟨B1, j1, B2, j2, B3, j3, rfl, hL2, hcv, _⟩
      have hL02 := Later.trans hL1 hL2
      go_wp2_with fail
      refine (Hcl.out B1 B2 B3 j1 j2 j3 w2 hcv).mono ?_
      rintro e w3 ⟨Ag, ng, kg, rfl, hL3, hgl⟩
      have hL03 := Later.trans hL02 hL3
      have hgn := hgl.len
      have hng : ng = n2 := by rw [hgn, Hlo.out]; simp
      subst hng
      have Hgl := hide hgl
      clear hgn hgl
      go_wp2_with fail
      refine (lawHouse_calls (k1 := k1) (k2 := k2) (k3 := k3) w3 (hc0.later hL03) (by omega) (by omega) (by omega)).mono ?_
      rintro e w4 ⟨C1, i1, C2, i2, C3, i3, rfl, hL4, hcv4, _⟩
      have hL04 := Later.trans hL03 hL4
      go_wp2_with fail
      refine (Hcp.out C1 C2 C3 i1 i2 i3 w4 hcv4).mono ?_
      rintro e w5 ⟨rfl, hL5⟩
      have hL05 := Later.trans hL04 hL5
      go_wp2_with fail
      refine (sure_calls (k1 := k1) (k2 := k2) (k3 := k3) w5 (hc0.later hL05) (by omega) (by omega) (by omega)).mono ?_
      rintro e w6 ⟨As, ns, ks, rfl, hL6, hall⟩
      have hL06 := Later.trans hL05 hL6
      have hL36 := Later.trans hL4 (Later.trans hL5 hL6)
      rw [Hs.out]
      have hrr := hall Hs.out
      have hnl2 := hrr.len
      have hns : ns ≤ 1000000 := by omega
      have Hrr := hide hrr
      have Hpr := hide (fun (W : World) (h : Later w6 W) => PaidR_eq (k1 := k1) (k2 := k2) (k3 := k3) (kl := ks) W (hc0.later (Later.trans hL06 h)) (hrr.later h) ok htr hns Hpv.out)
      have Hlr := hide (fun (W : World) (h : Later w6 W) (i : Nat) (hi : i < ng) (v : Int) (hv : vR (longF c i) (truths c) = v) => LongR_eq (k1 := k1) (k2 := k2) (k3 := k3) (kl := ks) W (hc0.later (Later.trans hL06 h)) (hrr.later h) ok htr hns hi hv)
      have hx6 := hbox w6 hL06
      have x3 := hx6 3
      simp only [List.getElem?_toArray, List.getElem?_cons_zero, List.getElem?_cons_succ] at x3
      clear hnl2 hrr
      go_wp2_with fail
      refine (Hpr.out w6 (later_refl _)).mono ?_
      rintro e w7 ⟨rfl, hL7⟩
      have hL07 := Later.trans hL06 hL7
      clear hx6 x3
      go_wp2_with fail
      go_loopw [9] (fun i wr => ∃ j : Nat, j ≤ ng ∧ i = .int .i64 j ∧ Later w7 wr) (fun i _ => ng - (intOf i).toNat)
      case atStart => exact ⟨0, Nat.zero_le _, rfl, later_refl _⟩
      case round =>
        obtain ⟨j, hj, rfl, hL⟩ := hrel
        have hL0r := Later.trans hL07 hL
        by_cases hlt : j < ng
        · have hi1 : (j : Int) < ng := by omega
          obtain ⟨bb, oo, x, rfl, _, hx, hx0⟩ := Hgl.out.get hlt
          have hL3r := Later.trans hL36 (Later.trans hL7 hL)
          have hx0' := fun W (hW : Later wr W) => hx0 W (Later.trans hL3r hW)
          have hv : vR (longF c j) (truths c) = x := by
            rw [Hlo.out, List.getElem?_map, List.getElem?_range hlt] at hx
            simpa using hx
          have hbx := fun W (hW : Later wr W) => hbox W (Later.trans hL0r hW)
          have Hl := hide (fun (W : World) (hW : Later wr W) => Hlr.out W (Later.trans hL7 (Later.trans hL hW)) j hlt x hv)
          clear hx hx0 hv hbox
          go_wp2_with fail
          refine wp_region_ext (w0 := wr) (by kernel_rfl) (by kernel_rfl) (later_refl _) ?_; (repeat (first | go_big_quiet_step (((go_at_call 34; exact calls_ext (by simp) (Hl.out _ (by simp))))) | quiet_step (((go_at_call 34; exact calls_ext (by simp) (Hl.out _ (by simp))))))); refine wpQuiet_nil ?_; rintro w8 ⟨⟨_, hL8⟩, rfl⟩; (try dsimp only)
          go_wp2_with fail
          go_roundw
          case rel => exact ⟨j + 1, hlt, by go_num, Later.trans hL hL8⟩
          case measure => simp [intOf]; omega
        · have hjn : j = ng := by omega
          subst hjn
          go_wp2_with fail
          refine (awake_calls _).mono ?_
          rintro e w9 ⟨rfl, hL9⟩
          go_wp2_with fail
          go_ret
          exact ⟨rfl, Later.trans hL0 (Later.trans hL0r hL9)⟩
    · have hlo : longOut c = [] := by unfold longOut; rw [if_neg (by rw [hs]; exact hs0)]
      have hp0 : pd = 0 := by rw [← hpd]; unfold paidOut; rw [if_neg (by rw [hs]; exact hs0)]
      subst hp0
      have Hlo := hide hlo
      have hqb : (s != 0) = true := by simpa using hs0
      have hqb2 : (s == 0) = false := by simpa using hs0
      have Hs := hide hs
      clear hs hnl hlo hpd
      go_enter Try.func4, Try.ntmps4
      go_wp2_with fail
      rw [← Hw0.out]; clear Hw0
      refine Hthin.out.mono ?_
      rintro e w1 ⟨rfl, hL1⟩
      go_wp2_with fail
      refine (lawHouse_calls (k1 := k1) (k2 := k2) (k3 := k3) w1 (hc0.later hL1) (by omega) (by omega) (by omega)).mono ?_
      rintro e w2 ⟨B1, j1, B2, j2, B3, j3, rfl, hL2, hcv, _⟩
      have hL02 := Later.trans hL1 hL2
      go_wp2_with fail
      refine (Hcl.out B1 B2 B3 j1 j2 j3 w2 hcv).mono ?_
      rintro e w3 ⟨Ag, ng, kg, rfl, hL3, hgl⟩
      have hL03 := Later.trans hL02 hL3
      have hgn := hgl.len
      have hng : ng = 0 := by rw [hgn, Hlo.out]; rfl
      subst hng
      clear hgn hgl
      go_wp2_with fail
      refine (lawHouse_calls (k1 := k1) (k2 := k2) (k3 := k3) w3 (hc0.later hL03) (by omega) (by omega) (by omega)).mono ?_
      rintro e w4 ⟨C1, i1, C2, i2, C3, i3, rfl, hL4, hcv4, _⟩
      have hL04 := Later.trans hL03 hL4
      go_wp2_with fail
      refine (Hcp.out C1 C2 C3 i1 i2 i3 w4 hcv4).mono ?_
      rintro e w5 ⟨rfl, hL5⟩
      have hL05 := Later.trans hL04 hL5
      go_wp2_with fail
      refine (sure_calls (k1 := k1) (k2 := k2) (k3 := k3) w5 (hc0.later hL05) (by omega) (by omega) (by omega)).mono ?_
      rintro e w6 ⟨As, ns, ks, rfl, hL6, hall⟩
      have hL06 := Later.trans hL05 hL6
      have hL36 := Later.trans hL4 (Later.trans hL5 hL6)
      rw [Hs.out]
      go_wp2_with fail
      refine (awake_calls _).mono ?_
      rintro e w9 ⟨rfl, hL9⟩
      go_wp2_with fail
      go_ret
      exact ⟨rfl, Later.trans hL0 (Later.trans hL06 hL9)⟩
end Go.Proofs.Ytbkfnajpbhfneaa
