/- The law TicketTruth: walk. -/
import Derived.Test.YtbkfnajpbhfneaaPart14
import Derived.Test.YtbkfnajpbhfneaaPart13
set_option linter.unusedSimpArgs false
set_option linter.unusedVariables false
namespace Go.Proofs.Ytbkfnajpbhfneaa
open Go Go.RowKit
attribute [local go_sem] later_alloc2 later_alloc3 later_alloc4

set_option maxRecDepth 100000 in
set_option maxHeartbeats 8000000 in
theorem lawTruth_calls {A1 A2 A3 : Option Addr} {n1 k1 n2 k2 n3 k3 : Nat} {c : Hou} {z : Nat} (w : World) (hc : CV w c A1 n1 A2 n2 A3 n3) (b1 : n1 ≤ 9223372036854775807) (b2 : n2 ≤ 9223372036854775807) (b3 : n3 ≤ 9223372036854775807) (hz : z < 65536) :
    Calls Try.prog 21 #[(.agg #[.int .i64 c.hour, .int .i64 c.grace, .slice A1 n1 k1, .slice A2 n2 k2, .slice A3 n3 k3]), .int .u16 z] w fun e w' => e = .returned (.bool true) ∧ Later w w' := by
  obtain ⟨w0, hw0⟩ : ∃ W, W = (w.alloc (.cells #[.int .i64 c.hour, .int .i64 c.grace, .slice A1 n1 k1, .slice A2 n2 k2, .slice A3 n3 k3] 26)) := ⟨_, rfl⟩; have hbox : ∀ W, Later w0 W → ∀ i, W.cell? ⟨w.heap.size, i, none⟩ = #[.int .i64 c.hour, .int .i64 c.grace, .slice A1 n1 k1, .slice A2 n2 k2, .slice A3 n3 k3][i]? := (by rw [hw0]; exact box_cells w #[.int .i64 c.hour, .int .i64 c.grace, .slice A1 n1 k1, .slice A2 n2 k2, .slice A3 n3 k3] 26); have hL0 : Later w w0 := (by rw [hw0]; simp); have hc0 := hc.later hL0; have Hw0 := hide hw0; clear hw0
  have hrdy := ready_calls (k1 := k1) (k2 := k2) (k3 := k3) w0 hc0 b1 b2 b3
  cases hth : readyB c with
  | false =>
    rw [hth] at hrdy
    have Hrdy := hide hrdy
    clear hth hrdy
    go_enter Try.func21, Try.ntmps21
    go_wp2_with fail
    rw [← Hw0.out]; clear Hw0
    refine Hrdy.out.mono ?_
    rintro e w1 ⟨rfl, hL1⟩
    go_wp2_with fail
    refine (awake_calls _).mono ?_
    rintro e w2 ⟨rfl, hL2⟩
    go_wp2_with fail
    go_ret
    exact ⟨rfl, Later.trans hL0 (Later.trans hL1 hL2)⟩
  | true =>
    rw [hth] at hrdy
    have hn1 := hc.ck.len
    have hn2 := hc.tk.len
    have hn3 := hc.cp.len
    have hf := (readyB_true hth).2
    have ok := okH_of_fault hf
    have hmy := many_le hf
    have l1 : n1 ≤ 4 := by have := ok.n1; omega
    have l2 : n2 ≤ 6 := by have := ok.n2; omega
    have l3 : n3 ≤ 10 := by have := ok.n3; omega
    have Hn1 := hide hn1
    have Hn2 := hide hn2
    have Hn3 := hide hn3
    have Hf := hide hf
    have Hmy := hide hmy
    have Hrdy := hide hrdy
    clear hth hrdy hn1 hn2 hn3 hf hmy
    have hpk := fun (W : World) (h : Later w0 W) => pick_calls (k1 := k1) (k2 := k2) (k3 := k3) (z := z) W (hc0.later h) Hf.out hz
    have hlv := fun (B1 B2 B3 : Option Addr) (j1 j2 j3 : Nat) (W : World) (h : CV W c B1 n1 B2 n2 B3 n3) => LeaveP_calls (k1 := j1) (k2 := j2) (k3 := j3) W h (by omega) (by omega) (by omega)
    unfold LeavePost at hlv
    rw [Hf.out] at hlv
    rcases asked_cases Hf.out with ⟨he, hne, htn⟩ | ⟨he, hno, htn⟩
    · have hll := leave_none Hf.out hne
      have hfo := first_none Hf.out hne
      have hpp := fun (B1 B2 B3 : Option Addr) (j1 j2 j3 : Nat) (W : World) (h : CV W c B1 n1 B2 n2 B3 n3) => PaidP_calls (k1 := j1) (k2 := j2) (k3 := j3) W h (by omega) (by omega) (by omega)
      have hlp := fun (B1 B2 B3 : Option Addr) (j1 j2 j3 : Nat) (W : World) (h : CV W c B1 n1 B2 n2 B3 n3) => LongP_calls (k1 := j1) (k2 := j2) (k3 := j3) W h (by omega) (by omega) (by omega)
      have hcl := fun (B1 B2 B3 : Option Addr) (j1 j2 j3 : Nat) (W : World) (h : CV W c B1 n1 B2 n2 B3 n3) => ClocksP_calls (k1 := j1) (k2 := j2) (k3 := j3) W h (by omega) (by omega) (by omega)
      have hcp := fun (B1 B2 B3 : Option Addr) (j1 j2 j3 : Nat) (W : World) (h : CV W c B1 n1 B2 n2 B3 n3) => HoursP_calls (k1 := j1) (k2 := j2) (k3 := j3) W h (by omega) (by omega) (by omega)
      have hfp := fun (B1 B2 B3 : Option Addr) (j1 j2 j3 : Nat) (W : World) (h : CV W c B1 n1 B2 n2 B3 n3) (h3 : n3 ≤ j3) => FirstP_calls (k1 := j1) (k2 := j2) (k3 := j3) W h (by omega) (by omega) (by omega) h3
      have hpt := fun d (hd : d ∈ truths c) (B1 B2 B3 : Option Addr) (j1 j2 j3 : Nat) (W : World) (h : CV W c B1 n1 B2 n2 B3 n3) (Ad : Option Addr) (nd kd : Nat) (hr : RI W Ad nd d) =>
        ProveTruth_calls (k1 := j1) (k2 := j2) (k3 := j3) (kl := kd) W h hr (by omega) (by omega) (by omega) (by have h1 := hr.len; have h2 := (truths_isErr ok d hd).len; have h3 := Hn1.out; omega)
      unfold IntsPost at hlp
      unfold PairsPost at hcl hcp
      rw [he] at hpp hlp hcl hcp
      rw [hfo] at hfp
      rw [hll] at hlv
      have Hci := hide (fun d (hd : d ∈ truths c) => clocks_in he hd)
      have Hhi := hide (fun d (hd : d ∈ truths c) => hours_in he hd)
      have Hli := hide (fun d (hd : d ∈ truths c) => long_in he hd)
      have Hpi := hide (fun d (hd : d ∈ truths c) => paid_in he hd)
      have Hpk := hide hpk
      have Hlv := hide hlv
      have Hpp := hide hpp
      have Hlp := hide hlp
      have Hcl := hide hcl
      have Hcp := hide hcp
      have Hfp := hide hfp
      have Hpt := hide hpt
      have Hne := hide htn
      clear hpk hlv hpp hlp hcl hcp hfp hpt hll hfo htn hne he
      go_enter Try.func21, Try.ntmps21
      go_wp2_with fail
      rw [← Hw0.out]; clear Hw0
      refine Hrdy.out.mono ?_
      rintro e w1 ⟨rfl, hL1⟩
      go_wp2_with fail
      refine (Hpk.out w1 hL1).mono ?_
      rintro e w2 ⟨At, nt, kt, is, rfl, hM2, hpk⟩
      have hL2 := Later.trans hL1 hM2
      rcases hpk with ⟨rfl, h0⟩ | ⟨rfl, d, hd, hrt⟩
      · exact absurd h0 Hne.out
      · have hdr := truths_isErr ok d hd
        have hnt := hrt.len
        have hnt1 : nt = n1 := by have := hdr.len; have := Hn1.out; omega
        clear hnt
        subst nt
        obtain ⟨hc1, hc2⟩ := Hci.out d hd
        obtain ⟨hh1, hh2⟩ := Hhi.out d hd
        obtain ⟨hl1, hl2⟩ := Hli.out d hd
        have hpi := Hpi.out d hd
        have hpt := Hpt.out d hd
        have hto := truth_out Hf.out hd
        rw [hto] at hpt
        rw [← Hn1.out] at hc1
        rw [← Hn2.out] at hh1 hl1
        obtain ⟨lc, hlc⟩ : ∃ l, clocksOut c = l := ⟨_, rfl⟩
        obtain ⟨lh, hlh⟩ : ∃ l, hoursOut c = l := ⟨_, rfl⟩
        obtain ⟨lv, hlvv⟩ : ∃ l, longOut c = l := ⟨_, rfl⟩
        obtain ⟨pv, hpv⟩ : ∃ l, paidOut c = l := ⟨_, rfl⟩
        obtain ⟨ip, hip⟩ : ∃ l, isPaid c d = l := ⟨_, rfl⟩
        have hcl := Hcl.out
        have hcp := Hcp.out
        have hlp := Hlp.out
        have hpp := Hpp.out
        rw [hlc] at hcl hc1 hc2
        rw [hlh] at hcp hh1 hh2
        rw [hlvv] at hlp hl1 hl2
        rw [hpv] at hpp hpi
        rw [hip] at hpi
        have Hcl2 := hide hcl
        have Hcp2 := hide hcp
        have Hlp2 := hide hlp
        have Hpp2 := hide hpp
        have Hpt2 := hide hpt
        have Hpi2 : Hid (SteadyP pv ip) := hpi
        have Hc1 := hide hc1
        have Hc2 := hide hc2
        have Hh1 := hide hh1
        have Hh2 := hide hh2
        have Hl1 := hide hl1
        have Hl2 := hide hl2
        have Hdr := hide hdr
        have Hipc := hide (fun (W : World) (h : Later w2 W) => IsPaid_eq (k1 := k1) (k2 := k2) (k3 := k3) (kd := kt) hip W (hc0.later (Later.trans hL2 h)) (hrt.later h) ok hdr)
        have hne1 : ((n1 : Int) != (n1 : Int)) = false := by simp
        have hne2 : ((n2 : Int) != (n2 : Int)) = false := by simp
        have hx3 := fun W (hW : Later w0 W) => hbox W hW 3
        simp only [List.getElem?_toArray, List.getElem?_cons_zero, List.getElem?_cons_succ] at hx3
        clear hcl hcp hlp hpp hpt hpi hc1 hc2 hh1 hh2 hl1 hl2 hdr hlc hlh hlvv hpv hip hto hd Hci Hhi Hli Hpi Hcl Hcp Hlp Hpp Hpt Hpk
        go_wp2_with fail
        refine (lawHouse_calls (k1 := k1) (k2 := k2) (k3 := k3) w2 (hc0.later hL2) (by omega) (by omega) (by omega)).mono ?_
        rintro e wa ⟨B1a, j1a, B2a, j2a, B3a, j3a, rfl, hMa, hca, hj1a, hj2a, hj3a⟩
        have hLa := Later.trans hL2 hMa
        go_wp2_with fail
        refine (Hlv.out _ _ _ _ _ _ wa hca).mono ?_
        rintro e w3 ⟨Al, nl, kl, rfl, hM3, hrl, _⟩
        have hL3 := Later.trans hLa hM3
        have hm23 := Later.trans hMa hM3
        have hnl := hrl.len
        simp only [List.length_nil] at hnl
        subst nl
        clear hca hj1a hj2a hj3a hMa hLa hM3 hrl
        go_wp2_with fail
        refine (lawHouse_calls (k1 := k1) (k2 := k2) (k3 := k3) w3 (hc0.later hL3) (by omega) (by omega) (by omega)).mono ?_
        rintro e wa ⟨B1a, j1a, B2a, j2a, B3a, j3a, rfl, hMa, hca, hj1a, hj2a, hj3a⟩
        have hLa := Later.trans hL3 hMa
        go_wp2_with fail
        refine (Hcl2.out _ _ _ _ _ _ wa hca).mono ?_
        rintro e w4 ⟨Ac, nc, kc, rfl, hM4, hrc⟩
        have hL4 := Later.trans hLa hM4
        have hm24 := Later.trans hm23 (Later.trans hMa hM4)
        have hnc := hrc.len
        rw [Hc1.out] at hnc
        subst nc
        clear hca hj1a hj2a hj3a hMa hLa hM4 hm23
        go_wp2_with fail
        refine (lawHouse_calls (k1 := k1) (k2 := k2) (k3 := k3) w4 (hc0.later hL4) (by omega) (by omega) (by omega)).mono ?_
        rintro e wa ⟨B1a, j1a, B2a, j2a, B3a, j3a, rfl, hMa, hca, hj1a, hj2a, hj3a⟩
        have hLa := Later.trans hL4 hMa
        go_wp2_with fail
        refine (Hcp2.out _ _ _ _ _ _ wa hca).mono ?_
        rintro e w5 ⟨Ah, nh, kh, rfl, hM5, hrh⟩
        have hL5 := Later.trans hLa hM5
        have hm45 := Later.trans hMa hM5
        have hnh := hrh.len
        rw [Hh1.out] at hnh
        subst nh
        clear hca hj1a hj2a hj3a hMa hLa hM5
        go_wp2_with fail
        refine (lawHouse_calls (k1 := k1) (k2 := k2) (k3 := k3) w5 (hc0.later hL5) (by omega) (by omega) (by omega)).mono ?_
        rintro e wa ⟨B1a, j1a, B2a, j2a, B3a, j3a, rfl, hMa, hca, hj1a, hj2a, hj3a⟩
        have hLa := Later.trans hL5 hMa
        go_wp2_with fail
        refine (Hlp2.out _ _ _ _ _ _ wa hca).mono ?_
        rintro e w6 ⟨Av, nv, kv, rfl, hM6, hrv⟩
        have hL6 := Later.trans hLa hM6
        have hm56 := Later.trans hMa hM6
        have hnv := hrv.len
        rw [Hl1.out] at hnv
        subst nv
        clear hca hj1a hj2a hj3a hMa hLa hM6
        go_wp2_with fail
        refine (lawHouse_calls (k1 := k1) (k2 := k2) (k3 := k3) w6 (hc0.later hL6) (by omega) (by omega) (by omega)).mono ?_
        rintro e wa ⟨B1a, j1a, B2a, j2a, B3a, j3a, rfl, hMa, hca, hj1a, hj2a, hj3a⟩
        have hLa := Later.trans hL6 hMa
        go_wp2_with fail
        refine (Hpp2.out _ _ _ _ _ _ wa hca).mono ?_
        rintro e w7 ⟨rfl, hM7⟩
        have hL7 := Later.trans hLa hM7
        have hm67 := Later.trans hMa hM7
        clear hca hj1a hj2a hj3a hMa hLa hM7
        go_wp2_with fail
        refine (lawHouse_calls (k1 := k1) (k2 := k2) (k3 := k3) w7 (hc0.later hL7) (by omega) (by omega) (by omega)).mono ?_
        rintro e wa ⟨B1a, j1a, B2a, j2a, B3a, j3a, rfl, hMa, hca, hj1a, hj2a, hj3a⟩
        have hLa := Later.trans hL7 hMa
        go_wp2_with fail
        refine (Hfp.out _ _ _ _ _ _ wa hca hj3a).mono ?_
        rintro e w8 ⟨rfl, hM8⟩
        have hL8 := Later.trans hLa hM8
        have hm68 := Later.trans hm67 (Later.trans hMa hM8)
        have hm58 := Later.trans hm56 hm68
        have hm48 := Later.trans hm45 hm58
        have hm28 := Later.trans hm24 hm48
        clear hca hj1a hj2a hj3a hMa hLa hM8 hm67
        have hx8 := hx3 w8 hL8
        go_upto_region 12 with fail
        go_big_wp2_with fail
        refine (Hipc.out w8 hm28).mono ?_
        rintro e w9 ⟨rfl, hM9⟩
        have hL9 := Later.trans hL8 hM9
        go_big_wp2_with fail
        refine (steady_calls w9 Hpi2.out).mono ?_
        rintro e w10 ⟨rfl, hM10⟩
        have hL10 := Later.trans hL9 hM10
        have hm2 := Later.trans hm28 (Later.trans hM9 hM10)
        go_big_wp2_with fail
        refine (lawHouse_calls (k1 := k1) (k2 := k2) (k3 := k3) w10 (hc0.later hL10) (by omega) (by omega) (by omega)).mono ?_
        rintro e wa ⟨B1a, j1a, B2a, j2a, B3a, j3a, rfl, hMa, hca, hj1a, hj2a, hj3a⟩
        have hLa := Later.trans hL10 hMa
        have hrt10 := hrt.later (Later.trans hm2 hMa)
        go_big_wp2_with fail
        refine (list_calls _ hrt10 (by omega)).mono ?_
        rintro e wb ⟨Ab, nb, kb, rfl, hMb, hrb, _, _⟩
        have hLb := Later.trans hLa hMb
        go_big_wp2_with fail
        refine (Hpt2.out _ _ _ _ _ _ wb (hca.later hMb) _ _ _ hrb).mono ?_
        rintro e w11 ⟨rfl, hM11⟩
        have hL11 := Later.trans hLb hM11
        have hm811 := Later.trans hM9 (Later.trans hM10 (Later.trans hMa (Later.trans hMb hM11)))
        have hrt11 := hrt.later (Later.trans hm28 hm811)
        have hrc11 := hrc.later (Later.trans hm48 hm811)
        have hrh11 := hrh.later (Later.trans hm58 hm811)
        have hrv11 := hrv.later (Later.trans hm68 hm811)
        have Hx := hide hx3
        clear hca hj1a hj2a hj3a hMa hLa hM9 hM10 hMb hLb hrb hrt10 hm811 hm28 hm48 hm58 hm68 hm2 hrc hrh hrv hx8 hx3 hm24 hm45 hm56
        go_big_wp2_with fail

        go_loopw [19] (fun v wr => ∃ i : Nat, i ≤ n1 ∧ v = .int .i64 i ∧ Later w11 wr) (fun v _ => n1 - (intOf v).toNat)
        case atStart => exact ⟨0, Nat.zero_le _, rfl, later_refl _⟩
        case round =>
          obtain ⟨i, hi, rfl, hL⟩ := hrel
          have hL0r := Later.trans hL11 hL
          by_cases hlt : i < n1
          · have hi1 : (i : Int) < n1 := by omega
            obtain ⟨bt, ot, x, rfl, _, hx, hx0⟩ := hrt11.get hlt
            obtain ⟨bc, oc, ⟨r1, r2⟩, rfl, _, hr, hr1, hr2⟩ := hrc11.get hlt
            have hin := Hc2.out i _ hr
            rw [List.getD_eq_getElem?_getD, hx] at hin
            have Hin := hide (show inB x r1 r2 = true from hin)
            dsimp only at hr1 hr2
            have c0 := fun W (hW : Later wr W) => hx0 W (Later.trans hL hW)
            have c1 := fun W (hW : Later wr W) => hr1 W (Later.trans hL hW)
            have c2 := fun W (hW : Later wr W) => hr2 W (Later.trans hL hW)
            have hic := fun W => in_calls x r1 r2 W
            rw [Hin.out] at hic
            have Hic := hide hic
            clear hin hx hr hx0 hr1 hr2 hic
            go_wp2_with fail
            refine wp_region_ext (w0 := wr) (by kernel_rfl) (by kernel_rfl) (later_refl _) ?_; (repeat (first | go_big_quiet_step (((go_at_call 61; exact calls_ext (by simp) (Hic.out _)))) | quiet_step (((go_at_call 61; exact calls_ext (by simp) (Hic.out _)))))); refine wpQuiet_nil ?_; rintro w12 ⟨⟨_, hM12⟩, rfl⟩; (try dsimp only)
            go_wp2_with fail
            go_roundw
            case rel => exact ⟨i + 1, hlt, by go_num, Later.trans hL hM12⟩
            case measure => simp [intOf]; omega
          · obtain ⟨wm, rfl⟩ : ∃ x, x = wr := ⟨wr, rfl⟩
            have hLm := hL
            have hL0m := hL0r
            have hi1 : ¬ (i : Int) < n1 := by omega
            clear hL hL0r hlt
            go_wp2_with fail
            clear hi1
            go_loopw [20] (fun v wr => ∃ i : Nat, i ≤ n2 ∧ v = .int .i64 i ∧ Later wm wr) (fun v _ => n2 - (intOf v).toNat)
            case atStart => exact ⟨0, Nat.zero_le _, rfl, later_refl _⟩
            case round =>
              obtain ⟨j, hj, rfl, hL⟩ := hrel
              have hL0r := Later.trans hL0m hL
              by_cases hlt : j < n2
              · have hi1 : (j : Int) < n2 := by omega
                obtain ⟨bh, oh, ⟨r1, r2⟩, rfl, _, hr, hr1, hr2⟩ := hrh11.get hlt
                obtain ⟨bv, ov, x, rfl, _, hx, hx0⟩ := hrv11.get hlt
                have hin := Hh2.out j _ hr
                have hst := Hl2.out j _ hx
                obtain ⟨hv, hhv⟩ : ∃ v, hoursR c d j = v := ⟨_, rfl⟩
                obtain ⟨lo, hlo⟩ : ∃ v, isLong c d j = v := ⟨_, rfl⟩
                rw [hhv] at hin
                rw [hlo] at hst
                have hmr := Later.trans hLm hL
                have Hhc := hide (fun (W : World) (h : Later wr W) => Hours_eq (k1 := k1) (k2 := k2) (k3 := k3) (kd := kt) (t := (j : Int)) hhv W (hc0.later (Later.trans hL0r h)) (hrt11.later (Later.trans hmr h)) ok Hdr.out)
                have Hlc := hide (fun (W : World) (h : Later wr W) => IsLong_eq (k1 := k1) (k2 := k2) (k3 := k3) (kd := kt) hlo W (hc0.later (Later.trans hL0r h)) (hrt11.later (Later.trans hmr h)) ok Hdr.out hlt)
                have Hin := hide (show inB hv r1 r2 = true from hin)
                have hic := fun W => in_calls hv r1 r2 W
                rw [Hin.out] at hic
                have Hic := hide hic
                have Hst : Hid (SteadyP x lo) := hst
                dsimp only at hr1 hr2
                have c0 := fun W (hW : Later wr W) => hx0 W (Later.trans hmr hW)
                have c1 := fun W (hW : Later wr W) => hr1 W (Later.trans hmr hW)
                have c2 := fun W (hW : Later wr W) => hr2 W (Later.trans hmr hW)
                have hbx := fun W (hW : Later wr W) => hbox W (Later.trans hL0r hW)
                clear hin hst hx hr hx0 hr1 hr2 hic hhv hlo hbox
                go_wp2_with fail
                refine wp_region_ext (w0 := wr) (by kernel_rfl) (by kernel_rfl) (later_refl _) ?_; (repeat (first | go_big_quiet_step ((first | (go_at_call 50; exact calls_ext (by simp) (Hhc.out _ (by simp))) | (go_at_call 61; exact calls_ext (by simp) (Hic.out _)) | (go_at_call 75; exact calls_ext (by simp) (Hlc.out _ (by simp))) | (go_at_call 59; exact calls_ext (by simp) (steady_calls _ Hst.out)))) | quiet_step ((first | (go_at_call 50; exact calls_ext (by simp) (Hhc.out _ (by simp))) | (go_at_call 61; exact calls_ext (by simp) (Hic.out _)) | (go_at_call 75; exact calls_ext (by simp) (Hlc.out _ (by simp))) | (go_at_call 59; exact calls_ext (by simp) (steady_calls _ Hst.out)))))); refine wpQuiet_nil ?_; rintro w12 ⟨⟨_, hM12⟩, rfl⟩; (try dsimp only)
                go_wp2_with fail
                go_roundw
                case rel => exact ⟨j + 1, hlt, by go_num, Later.trans hL hM12⟩
                case measure => simp [intOf]; omega
              · have hi1 : ¬ (j : Int) < n2 := by omega
                clear hlt
                go_wp2_with fail
                refine (awake_calls _).mono ?_
                rintro e wa ⟨rfl, hLa⟩
                go_wp2_with fail
                go_ret
                exact ⟨rfl, Later.trans hL0 (Later.trans hL0r hLa)⟩
    · have hll : leaveOut c ≠ [] := fun h => leave_nil Hf.out h hno
      obtain ⟨lv, hlvv⟩ : ∃ l, leaveOut c = l := ⟨_, rfl⟩
      rw [hlvv] at hll hlv
      have hpos := List.length_pos_iff.2 hll
      have Hpk := hide hpk
      have Hlv := hide hlv
      have Hno := hide htn
      clear hpk hlv hll htn hno he hlvv
      go_enter Try.func21, Try.ntmps21
      go_wp2_with fail
      rw [← Hw0.out]; clear Hw0
      refine Hrdy.out.mono ?_
      rintro e w1 ⟨rfl, hL1⟩
      go_wp2_with fail
      refine (Hpk.out w1 hL1).mono ?_
      rintro e w2 ⟨At, nt, kt, is, rfl, hM2, hpk⟩
      have hL2 := Later.trans hL1 hM2
      rcases hpk with ⟨rfl, h0⟩ | ⟨rfl, d, hd, hrt⟩
      · clear h0
        go_wp2_with fail
        refine (lawHouse_calls (k1 := k1) (k2 := k2) (k3 := k3) w2 (hc0.later hL2) (by omega) (by omega) (by omega)).mono ?_
        rintro e wa ⟨B1a, j1a, B2a, j2a, B3a, j3a, rfl, hMa, hca, hj1a, hj2a, hj3a⟩
        have hLa := Later.trans hL2 hMa
        go_wp2_with fail
        refine (Hlv.out _ _ _ _ _ _ wa hca).mono ?_
        rintro e w3 ⟨Al, nl, kl, rfl, hM3, hrl, _⟩
        have hL3 := Later.trans hLa hM3
        have hnl := hrl.len
        have hnl2 : (0 : Int) < (nl : Int) := by omega
        clear hca hj1a hj2a hj3a hMa hLa hM3 hrl hnl hpos
        go_wp2_with fail
        refine (awake_calls _).mono ?_
        rintro e wa ⟨rfl, hLa⟩
        go_wp2_with fail
        go_ret
        exact ⟨rfl, Later.trans hL0 (Later.trans hL3 hLa)⟩
      · rw [Hno.out] at hd; cases hd
end Go.Proofs.Ytbkfnajpbhfneaa
