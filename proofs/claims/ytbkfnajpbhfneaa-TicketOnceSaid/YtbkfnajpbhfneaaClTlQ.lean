/- The law TicketOnce: walk. -/
import Derived.Test.YtbkfnajpbhfneaaPart14
import Derived.Test.YtbkfnajpbhfneaaPart13
set_option linter.unusedSimpArgs false
set_option linter.unusedVariables false
namespace Go.Proofs.Ytbkfnajpbhfneaa
open Go Go.RowKit
attribute [local go_sem] later_alloc2 later_alloc3 later_alloc4

set_option maxRecDepth 100000 in
set_option maxHeartbeats 8000000 in
theorem lawOnce_calls {A1 A2 A3 : Option Addr} {n1 k1 n2 k2 n3 k3 : Nat} {c : Hou} (w : World) (hc : CV w c A1 n1 A2 n2 A3 n3) (b1 : n1 ≤ 9223372036854775807) (b2 : n2 ≤ 9223372036854775807) (b3 : n3 ≤ 9223372036854775807) :
    Calls Try.prog 10 #[(.agg #[.int .i64 c.hour, .int .i64 c.grace, .slice A1 n1 k1, .slice A2 n2 k2, .slice A3 n3 k3])] w fun e w' => e = .returned (.bool true) ∧ Later w w' := by
  obtain ⟨w0, hw0⟩ : ∃ W, W = (w.alloc (.cells #[.int .i64 c.hour, .int .i64 c.grace, .slice A1 n1 k1, .slice A2 n2 k2, .slice A3 n3 k3] 26)) := ⟨_, rfl⟩; have hbox : ∀ W, Later w0 W → ∀ i, W.cell? ⟨w.heap.size, i, none⟩ = #[.int .i64 c.hour, .int .i64 c.grace, .slice A1 n1 k1, .slice A2 n2 k2, .slice A3 n3 k3][i]? := (by rw [hw0]; exact box_cells w #[.int .i64 c.hour, .int .i64 c.grace, .slice A1 n1 k1, .slice A2 n2 k2, .slice A3 n3 k3] 26); have hL0 : Later w w0 := (by rw [hw0]; simp); have hc0 := hc.later hL0; have Hw0 := hide hw0; clear hw0
  have hrdy := ready_calls (k1 := k1) (k2 := k2) (k3 := k3) w0 hc0 b1 b2 b3
  cases hth : readyB c with
  | false =>
    rw [hth] at hrdy
    have Hrdy := hide hrdy
    clear hth hrdy
    go_enter Try.func10, Try.ntmps10
    go_wp2_with fail
    rw [← Hw0.out]; clear Hw0
    refine Hrdy.out.mono ?_
    rintro e w1 ⟨rfl, hL1⟩
    go_wp2_with fail
    refine (awake_calls _).mono ?_
    rintro e w2 ⟨rfl, hL2⟩
    go_wp2_with fail
    go_ret
    exact ⟨rfl, Later.trans hL0 (Later.trans hL1 hL2)⟩
  | true =>
    rw [hth] at hrdy
    have hn1 := hc.ck.len
    have hn2 := hc.tk.len
    have hn3 := hc.cp.len
    have hf := (readyB_true hth).2
    have ok := okH_of_fault hf
    have hmy := many_le hf
    have l1 : n1 ≤ 4 := by have := ok.n1; omega
    have l2 : n2 ≤ 6 := by have := ok.n2; omega
    have l3 : n3 ≤ 10 := by have := ok.n3; omega
    have Hn1 := hide hn1
    have Hn2 := hide hn2
    have Hn3 := hide hn3
    have Hf := hide hf
    have Hmy := hide hmy
    have Hrdy := hide hrdy
    clear hth hrdy hn1 hn2 hn3 hf hmy
    have hpp := fun (B1 B2 B3 : Option Addr) (j1 j2 j3 : Nat) (W : World) (h : CV W c B1 n1 B2 n2 B3 n3) => PaidP_calls (k1 := j1) (k2 := j2) (k3 := j3) W h (by omega) (by omega) (by omega)
    have hlp := fun (B1 B2 B3 : Option Addr) (j1 j2 j3 : Nat) (W : World) (h : CV W c B1 n1 B2 n2 B3 n3) => LongP_calls (k1 := j1) (k2 := j2) (k3 := j3) W h (by omega) (by omega) (by omega)
    have hcp := fun (a b : Int) (B1 B2 B3 : Option Addr) (j1 j2 j3 : Nat) (W : World) (h : CV W c B1 n1 B2 n2 B3 n3) => ClashP_calls (a := a) (b := b) (k1 := j1) (k2 := j2) (k3 := j3) W h (by omega) (by omega) (by omega)
    unfold IntsPost at hlp
    rcases asked_cases Hf.out with ⟨he, hne, _⟩ | ⟨he, _, _⟩
    · have hol := once_law he
      have hpc := vP_cases (isPaid c) (truthsP c)
      have hpo : paidOut c = vP (isPaid c) (truthsP c) := by unfold paidOut; rw [if_pos he]
      have hll : (longOut c).length = n2 := by unfold longOut; rw [if_pos he, List.length_map, List.length_range, Hn2.out]
      rw [← hpo] at hpc
      rw [he] at hpp hlp
      have hcz := fun (a b : Nat) (ha : a < n2) (hb : b < a) => show askedErr c (clashDue c a b) = 0 by
        rw [clashDue_nat (by have := Hn2.out; omega) (by have := Hn2.out; omega) (by omega)]; exact he
      rw [← Hn2.out] at hol
      obtain ⟨v, hv⟩ : ∃ v, longOut c = v := ⟨_, rfl⟩
      rw [hv] at hol hll hlp
      obtain ⟨P, hP⟩ : ∃ P, paidOut c = P := ⟨_, rfl⟩
      rw [hP] at hol hpc hpp
      have hn2i : ∀ x y, clashOut c x y = clashOut c x y := fun _ _ => rfl
      have Hol := hide hol
      have Hpc := hide hpc
      have Hll := hide hll
      have Hcz := hide hcz
      have Hpp := hide hpp
      have Hlp := hide hlp
      have Hcp := hide hcp
      clear hol hpc hpo hll hcz hpp hlp hcp hne he hv hP hn2i
      go_enter Try.func10, Try.ntmps10
      go_wp2_with fail
      rw [← Hw0.out]; clear Hw0
      refine Hrdy.out.mono ?_
      rintro e w1 ⟨rfl, hL1⟩
      go_wp2_with fail
      refine (lawHouse_calls (k1 := k1) (k2 := k2) (k3 := k3) w1 (hc0.later hL1) (by omega) (by omega) (by omega)).mono ?_
      rintro e wa ⟨B1a, j1a, B2a, j2a, B3a, j3a, rfl, hMa, hca, hj1a, hj2a, hj3a⟩
      have hLa := Later.trans hL1 hMa
      go_wp2_with fail
      refine (Hpp.out _ _ _ _ _ _ wa hca).mono ?_
      rintro e w2 ⟨rfl, hM2⟩
      have hL2 := Later.trans hLa hM2
      clear hca hj1a hj2a hj3a hMa hLa hM2
      go_wp2_with fail
      refine (lawHouse_calls (k1 := k1) (k2 := k2) (k3 := k3) w2 (hc0.later hL2) (by omega) (by omega) (by omega)).mono ?_
      rintro e wb ⟨B1b, j1b, B2b, j2b, B3b, j3b, rfl, hMb, hcb, hj1b, hj2b, hj3b⟩
      have hLb := Later.trans hL2 hMb
      go_wp2_with fail
      refine (Hlp.out _ _ _ _ _ _ wb hcb).mono ?_
      rintro e w3 ⟨Al, nl, kl, rfl, hM3, hrl⟩
      have hL3 := Later.trans hLb hM3
      have hnl := hrl.len
      rw [Hll.out] at hnl
      subst nl
      clear hcb hj1b hj2b hj3b hMb hLb hM3 hL1 hL2
      go_wp2_with fail
      go_loopw [7, 8, 9] (fun nv av i wr => ∃ j : Nat, j ≤ n2 ∧ i = .int .i64 j ∧ nv = .bool (noT v j) ∧ av = .bool (anT v j) ∧ Later w3 wr) (fun _ _ i _ => n2 - (intOf i).toNat)
      case atStart => exact ⟨0, Nat.zero_le _, rfl, rfl, rfl, later_refl _⟩
      case round =>
        obtain ⟨j, hj, rfl, rfl, rfl, hL⟩ := hrel
        have hL0r := Later.trans hL3 hL
        by_cases hlt : j < n2
        · have hi1 : (j : Int) < n2 := by omega
          obtain ⟨b, o, x, rfl, _, hx, hx0⟩ := hrl.get hlt
          have h1 := noT_succ hx
          have h2 := anT_succ hx
          have c1 := fun W (hW : Later wr W) => hx0 W (Later.trans hL hW)
          obtain ⟨p, hp⟩ : ∃ p, noT v j = p := ⟨_, rfl⟩
          obtain ⟨q, hq⟩ : ∃ q, anT v j = q := ⟨_, rfl⟩
          rw [hp] at h1 ⊢
          rw [hq] at h2 ⊢
          have H1 := hide h1
          have H2 := hide h2
          clear h1 h2 hp hq hx hx0
          cases p <;> cases q <;>
          · go_wp2_with fail
            refine wp_region_ext (w0 := wr) (by kernel_rfl) (by kernel_rfl) (later_refl _) ?_; (repeat (first | go_big_quiet_step ((fail)) | quiet_step ((fail)))); refine wpQuiet_nil ?_; rintro w8 ⟨⟨_, hM8⟩, rfl⟩; (try dsimp only)
            go_wp2_with fail
            go_roundw
            case rel => exact ⟨j + 1, hlt, by go_num, by rw [H1.out]; rfl, by rw [H2.out]; rfl, Later.trans hL hM8⟩
            case measure => simp [intOf]; omega
        · have hjn : j = n2 := by omega
          subst j
          obtain ⟨wm, rfl⟩ : ∃ x, x = wr := ⟨wr, rfl⟩
          have hLm := hL
          have hL0m := hL0r
          obtain ⟨N1, hN1⟩ : ∃ p, noT v n2 = p := ⟨_, rfl⟩
          obtain ⟨A1', hA1⟩ : ∃ p, anT v n2 = p := ⟨_, rfl⟩
          have hol := Hol.out
          rw [hN1, hA1] at hol
          rw [hN1, hA1]
          have Hol2 := hide hol
          clear hL hL0r hlt Hol hol hN1 hA1 hrl
          go_wp2_with fail
          go_loopw [7, 8, 10] (fun nv av i wr => ∃ j : Nat, j ≤ n2 ∧ i = .int .i64 j ∧ nv = .bool (N1 && noC c j) ∧ av = .bool (A1' || anC c j) ∧ Later wm wr) (fun _ _ i _ => n2 - (intOf i).toNat)
          case atStart => exact ⟨0, Nat.zero_le _, rfl, by simp [noC], by simp [anC], later_refl _⟩
          case round =>
            obtain ⟨a, ha, rfl, rfl, rfl, hL⟩ := hrel
            have hL0r := Later.trans hL0m hL
            have hb2 := hbox wr hL0r 3
            simp only [List.getElem?_toArray, List.getElem?_cons_zero, List.getElem?_cons_succ] at hb2
            by_cases hlt : a < n2
            · have hi1 : (a : Int) < n2 := by omega
              obtain ⟨wo, rfl⟩ : ∃ x, x = wr := ⟨wr, rfl⟩
              have hLo := hL
              have hL0o := hL0r
              have h1 := noC_succ c a
              have h2 := anC_succ c a
              obtain ⟨N2, hN2⟩ : ∃ p, (N1 && noC c a) = p := ⟨_, rfl⟩
              obtain ⟨A2', hA2⟩ : ∃ p, (A1' || anC c a) = p := ⟨_, rfl⟩
              have h1' : (N1 && noC c (a + 1)) = (N2 && noR c a a) := by rw [h1, ← Bool.and_assoc, hN2]
              have h2' : (A1' || anC c (a + 1)) = (A2' || anR c a a) := by rw [h2, ← Bool.or_assoc, hA2]
              rw [hN2, hA2]
              have H1 := hide h1'
              have H2 := hide h2'
              clear hL hL0r h1 h2 h1' h2' hN2 hA2
              go_wp2_with fail
              go_loopw [7, 8, 11] (fun nv av i wr => ∃ j : Nat, j ≤ a ∧ i = .int .i64 j ∧ nv = .bool (N2 && noR c a j) ∧ av = .bool (A2' || anR c a j) ∧ Later wo wr) (fun _ _ i _ => a - (intOf i).toNat)
              case atStart => exact ⟨0, Nat.zero_le _, rfl, by simp [noR], by simp [anR], later_refl _⟩
              case round =>
                obtain ⟨b, hb, rfl, rfl, rfl, hL⟩ := hrel
                have hL0r := Later.trans hL0o hL
                by_cases hltb : b < a
                · have hi2 : (b : Int) < a := by omega
                  have h1 := noR_succ c a b
                  have h2 := anR_succ c a b
                  have hcz := Hcz.out a b hlt hltb
                  have hcl := Hcp.out (a : Int) (b : Int)
                  rw [hcz] at hcl
                  obtain ⟨u, hu⟩ : ∃ u, clashOut c a b = u := ⟨_, rfl⟩
                  rw [hu] at hcl h1 h2
                  obtain ⟨p, hp⟩ : ∃ p, (N2 && noR c a b) = p := ⟨_, rfl⟩
                  obtain ⟨q, hq⟩ : ∃ q, (A2' || anR c a b) = q := ⟨_, rfl⟩
                  have h1' : (N2 && noR c a (b + 1)) = (p && decide (u = 2)) := by rw [h1, ← Bool.and_assoc, hp]
                  have h2' : (A2' || anR c a (b + 1)) = (q || decide (u = 1)) := by rw [h2, ← Bool.or_assoc, hq]
                  rw [hp, hq]
                  have H3 := hide h1'
                  have H4 := hide h2'
                  have Hcl := hide hcl
                  clear h1 h2 h1' h2' hp hq hcz hcl hu
                  go_wp2_with fail
                  refine (lawHouse_calls (k1 := k1) (k2 := k2) (k3 := k3) wr (hc0.later hL0r) (by omega) (by omega) (by omega)).mono ?_
                  rintro e wd ⟨B1d, j1d, B2d, j2d, B3d, j3d, rfl, hMd, hcd, hj1d, hj2d, hj3d⟩
                  have hLd := Later.trans hL0r hMd
                  go_wp2_with fail
                  refine (Hcl.out _ _ _ _ _ _ wd hcd).mono ?_
                  rintro e w5 ⟨rfl, hM5⟩
                  have hL5 := Later.trans hMd hM5
                  clear hcd hj1d hj2d hj3d hMd hLd hM5
                  cases p <;> cases q <;>
                  · go_wp2_with fail
                    go_roundw
                    case rel => exact ⟨b + 1, hltb, by go_num, by rw [H3.out]; rfl, by rw [H4.out]; rfl, Later.trans hL hL5⟩
                    case measure => simp [intOf]; omega
                · have hbn : b = a := by omega
                  subst b
                  rw [← H1.out, ← H2.out]
                  go_wp2_with fail
                  go_roundw
                  case rel => exact ⟨a + 1, hlt, by go_num, rfl, rfl, Later.trans hLo hL⟩
                  case measure => simp [intOf]; omega
            · have han : a = n2 := by omega
              subst a
              have hol := Hol2.out
              obtain ⟨N3, hN3⟩ : ∃ p, (N1 && noC c n2) = p := ⟨_, rfl⟩
              obtain ⟨A3', hA3⟩ : ∃ p, (A1' || anC c n2) = p := ⟨_, rfl⟩
              rw [hN3, hA3] at hol ⊢
              clear Hol2 hN3 hA3 hlt
              rcases Hpc.out with rfl | rfl | rfl
              · have hN : N3 = true := hol.1.1 rfl
                have hA : A3' = false := by cases A3' with | false => rfl | true => exact absurd (hol.2 rfl) (by omega)
                subst hN hA
                clear hol
                go_wp2_with fail
                refine (awake_calls _).mono ?_
                rintro e wa ⟨rfl, hLa⟩
                go_wp2_with fail
                go_ret
                exact ⟨rfl, Later.trans hL0 (Later.trans hL0r hLa)⟩
              · have hN : N3 = false := by cases N3 with | false => rfl | true => exact absurd (hol.1.2 rfl) (by omega)
                subst hN
                clear hol
                cases A3' <;>
                · go_wp2_with fail
                  refine (awake_calls _).mono ?_
                  rintro e wa ⟨rfl, hLa⟩
                  go_wp2_with fail
                  go_ret
                  exact ⟨rfl, Later.trans hL0 (Later.trans hL0r hLa)⟩
              · have hN : N3 = false := by cases N3 with | false => rfl | true => exact absurd (hol.1.2 rfl) (by omega)
                have hA : A3' = false := by cases A3' with | false => rfl | true => exact absurd (hol.2 rfl) (by omega)
                subst hN hA
                clear hol
                go_wp2_with fail
                refine (awake_calls _).mono ?_
                rintro e wa ⟨rfl, hLa⟩
                go_wp2_with fail
                go_ret
                exact ⟨rfl, Later.trans hL0 (Later.trans hL0r hLa)⟩
    · rw [he] at hpp hlp
      have Hpp := hide hpp
      have Hlp := hide hlp
      clear hpp hlp hcp he
      go_enter Try.func10, Try.ntmps10
      go_wp2_with fail
      rw [← Hw0.out]; clear Hw0
      refine Hrdy.out.mono ?_
      rintro e w1 ⟨rfl, hL1⟩
      go_wp2_with fail
      refine (lawHouse_calls (k1 := k1) (k2 := k2) (k3 := k3) w1 (hc0.later hL1) (by omega) (by omega) (by omega)).mono ?_
      rintro e wa ⟨B1a, j1a, B2a, j2a, B3a, j3a, rfl, hMa, hca, hj1a, hj2a, hj3a⟩
      have hLa := Later.trans hL1 hMa
      go_wp2_with fail
      refine (Hpp.out _ _ _ _ _ _ wa hca).mono ?_
      rintro e w2 ⟨rfl, hM2⟩
      have hL2 := Later.trans hLa hM2
      clear hca hj1a hj2a hj3a hMa hLa hM2
      go_wp2_with fail
      refine (lawHouse_calls (k1 := k1) (k2 := k2) (k3 := k3) w2 (hc0.later hL2) (by omega) (by omega) (by omega)).mono ?_
      rintro e wb ⟨B1b, j1b, B2b, j2b, B3b, j3b, rfl, hMb, hcb, hj1b, hj2b, hj3b⟩
      have hLb := Later.trans hL2 hMb
      go_wp2_with fail
      refine (Hlp.out _ _ _ _ _ _ wb hcb).mono ?_
      rintro e w3 ⟨Al, nl, kl, rfl, hM3, _⟩
      have hL3 := Later.trans hLb hM3
      clear hcb hj1b hj2b hj3b hMb hLb hM3
      go_wp2_with fail
      refine (awake_calls _).mono ?_
      rintro e wa ⟨rfl, hLa⟩
      go_wp2_with fail
      go_ret
      exact ⟨rfl, Later.trans hL0 (Later.trans hL3 hLa)⟩
end Go.Proofs.Ytbkfnajpbhfneaa
