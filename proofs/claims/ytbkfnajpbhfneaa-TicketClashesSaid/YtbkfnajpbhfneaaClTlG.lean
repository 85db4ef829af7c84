/- The law TicketClashes: walk. -/
import Derived.Test.YtbkfnajpbhfneaaPart10
set_option linter.unusedSimpArgs false
set_option linter.unusedVariables false
namespace Go.Proofs.Ytbkfnajpbhfneaa
open Go Go.RowKit

theorem ClashR_eq {A1 A2 A3 : Option Addr} {n1 k1 n2 k2 n3 k3 : Nat} {c : Hou} {Al : Option Addr} {nl kl : Nat} {ll : List (List Int)} {a b : Int} {v : Int} (w : World) (hc : CV w c A1 n1 A2 n2 A3 n3) (hl : RRI w Al nl ll) (ok : OkH c) (hd : ∀ d ∈ ll, IsErr c d) (hn : nl ≤ 1000000) (ha : 0 ≤ a ∧ a < n2) (hb : 0 ≤ b ∧ b < n2) (hv : vR (clashF c a.toNat b.toNat) ll = v) :
    Calls Try.prog 38 #[(.agg #[.int .i64 c.hour, .int .i64 c.grace, .slice A1 n1 k1, .slice A2 n2 k2, .slice A3 n3 k3]), .slice Al nl kl, .int .i64 a, .int .i64 b] w fun e w' => e = .returned (.int .i64 v) ∧ Later w w' := by
  have := Clash_calls (k1 := k1) (k2 := k2) (k3 := k3) (kl := kl) (a := a.toNat) (b := b.toNat) w hc hl ok hd hn (by omega) (by omega)
  rw [hv, show ((a.toNat : Nat) : Int) = a by omega, show ((b.toNat : Nat) : Int) = b by omega] at this
  exact this
set_option maxRecDepth 100000 in
set_option maxHeartbeats 4000000 in
theorem lawClashes_calls {A1 A2 A3 : Option Addr} {n1 k1 n2 k2 n3 k3 : Nat} {c : Hou} {a b : Int} (w : World) (hc : CV w c A1 n1 A2 n2 A3 n3) (b1 : n1 ≤ 9223372036854775807) (b2 : n2 ≤ 9223372036854775807) (b3 : n3 ≤ 9223372036854775807) :
    Calls Try.prog 5 #[(.agg #[.int .i64 c.hour, .int .i64 c.grace, .slice A1 n1 k1, .slice A2 n2 k2, .slice A3 n3 k3]), .int .i64 a, .int .i64 b] w fun e w' => e = .returned (.bool true) ∧ Later w w' := by
  obtain ⟨w0, hw0⟩ : ∃ W, W = (w.alloc (.cells #[.int .i64 c.hour, .int .i64 c.grace, .slice A1 n1 k1, .slice A2 n2 k2, .slice A3 n3 k3] 26)) := ⟨_, rfl⟩; have hbox : ∀ W, Later w0 W → ∀ i, W.cell? ⟨w.heap.size, i, none⟩ = #[.int .i64 c.hour, .int .i64 c.grace, .slice A1 n1 k1, .slice A2 n2 k2, .slice A3 n3 k3][i]? := (by rw [hw0]; exact box_cells w #[.int .i64 c.hour, .int .i64 c.grace, .slice A1 n1 k1, .slice A2 n2 k2, .slice A3 n3 k3] 26); have hL0 : Later w w0 := (by rw [hw0]; simp); have hc0 := hc.later hL0; have Hw0 := hide hw0; clear hw0
  have hthin := Thin_calls (k1 := k1) (k2 := k2) (k3 := k3) w0 hc0 b1 b2 b3
  cases hth : thinB c with
  | false =>
    rw [hth] at hthin
    have Hthin := hide hthin
    clear hth hthin
    go_enter Try.func5, Try.ntmps5
    go_wp2_with fail
    rw [← Hw0.out]; clear Hw0
    refine Hthin.out.mono ?_
    rintro e w1 ⟨rfl, hL1⟩
    go_wp2_with fail
    refine (awake_calls _).mono ?_
    rintro e w2 ⟨rfl, hL2⟩
    go_wp2_with fail
    go_ret
    exact ⟨rfl, Later.trans hL0 (Later.trans hL1 hL2)⟩
  | true =>
    rw [hth] at hthin
    have hn := And.intro hc.ck.len (And.intro hc.tk.len hc.cp.len)
    unfold thinB at hth
    simp only [Bool.and_eq_true, decide_eq_true_eq] at hth
    have l1 : n1 ≤ 6 := by omega
    have l2 : n2 ≤ 8 := by omega
    have l3 : n3 ≤ 12 := by omega
    have Hthin := hide hthin
    clear hth hthin hn
    obtain ⟨q, hq⟩ : ∃ q, askedErr c (clashDue c a b) = q := ⟨_, rfl⟩
    obtain ⟨got, hgot⟩ : ∃ g, clashOut c a b = g := ⟨_, rfl⟩
    have hcl := fun (B1 B2 B3 : Option Addr) (j1 j2 j3 : Nat) (W : World) (h : CV W c B1 n1 B2 n2 B3 n3) => ClashP_calls (k1 := j1) (k2 := j2) (k3 := j3) (a := a) (b := b) W h (by omega) (by omega) (by omega)
    rw [hgot, hq] at hcl
    have Hcl := hide hcl
    have hnl := hc.tk.len
    have hta : isTick c a = inB a 0 ((n2 : Int) - 1) := by unfold isTick; rw [hnl]
    have htb : isTick c b = inB b 0 ((n2 : Int) - 1) := by unfold isTick; rw [hnl]
    have hwt : IntKind.i64.wrap ((n2 : Int) - 1) = (n2 : Int) - 1 := IntWalk.i64_in _ (by omega)
    clear hcl hnl
    by_cases hf0 : fault c = 0
    · have hf := hf0
      have ok := okH_of_fault hf0
      have htr : ∀ d ∈ truths c, IsErr c d := truths_isErr ok
      have hfc := fun (W : World) (h : Later w0 W) => lawFault_calls (k1 := k1) (k2 := k2) (k3 := k3) W (hc0.later h) (by omega) (by omega) (by omega)
      rw [hf] at hfc
      have Hfc := hide hfc
      clear hfc
      cases ha : isTick c a with
      | false =>
        have hd : clashDue c a b = 2 := by unfold clashDue; rw [if_pos (.inl ha)]
        have hq2 : q = 2 := by rw [← hq, hd, askedErr_due hf0 (by omega)]
        have hg0 : got = 0 := by rw [← hgot]; unfold clashOut; rw [hd, if_neg (askedErr_ne (by omega))]
        subst hq2 hg0
        obtain ⟨s, hs⟩ : ∃ s, askedErr c 0 = s := ⟨_, rfl⟩
        have Hs := hide hs
        have hia := hta.symm.trans ha
        clear hq hgot hd ha hta htb hs hf hf0
        go_enter Try.func5, Try.ntmps5
        go_wp2_with fail
        rw [← Hw0.out]; clear Hw0
        refine Hthin.out.mono ?_
        rintro e w1 ⟨rfl, hL1⟩
        go_wp2_with fail
        refine (lawHouse_calls (k1 := k1) (k2 := k2) (k3 := k3) w1 (hc0.later hL1) (by omega) (by omega) (by omega)).mono ?_
        rintro e w2 ⟨B1, j1, B2, j2, B3, j3, rfl, hL2, hcv, _⟩
        have hL02 := Later.trans hL1 hL2
        go_wp2_with fail
        refine (Hcl.out B1 B2 B3 j1 j2 j3 w2 hcv).mono ?_
        rintro e w3 ⟨rfl, hL3⟩
        have hL03 := Later.trans hL02 hL3
        go_wp2_with fail
        refine (sure_calls (k1 := k1) (k2 := k2) (k3 := k3) w3 (hc0.later hL03) (by omega) (by omega) (by omega)).mono ?_
        rintro e w4 ⟨As, ns, ks, rfl, hL4, hall⟩
        have hL04 := Later.trans hL03 hL4
        rw [Hs.out]
        go_wp2_with fail
        refine (Hfc.out w4 hL04).mono ?_
        rintro e w5 ⟨rfl, hL5⟩
        have hL05 := Later.trans hL04 hL5
        go_wp2_with (go_at_call 37; refine (In_calls _ _ _ _).mono ?_; rintro e w' ⟨rfl, rfl⟩)
        refine (awake_calls _).mono ?_
        rintro e w6 ⟨rfl, hL6⟩
        go_wp2_with fail
        go_ret
        exact ⟨rfl, Later.trans hL0 (Later.trans hL05 hL6)⟩
      | true =>
        have hia := hta.symm.trans ha
        cases hb : isTick c b with
        | false =>
          have hd : clashDue c a b = 2 := by unfold clashDue; rw [if_pos (.inr hb)]
          have hq2 : q = 2 := by rw [← hq, hd, askedErr_due hf0 (by omega)]
          have hg0 : got = 0 := by rw [← hgot]; unfold clashOut; rw [hd, if_neg (askedErr_ne (by omega))]
          subst hq2 hg0
          obtain ⟨s, hs⟩ : ∃ s, askedErr c 0 = s := ⟨_, rfl⟩
          have Hs := hide hs
          have hib := htb.symm.trans hb
          clear hq hgot hd ha hb hta htb hs hf hf0
          go_enter Try.func5, Try.ntmps5
          go_wp2_with fail
          rw [← Hw0.out]; clear Hw0
          refine Hthin.out.mono ?_
          rintro e w1 ⟨rfl, hL1⟩
          go_wp2_with fail
          refine (lawHouse_calls (k1 := k1) (k2 := k2) (k3 := k3) w1 (hc0.later hL1) (by omega) (by omega) (by omega)).mono ?_
          rintro e w2 ⟨B1, j1, B2, j2, B3, j3, rfl, hL2, hcv, _⟩
          have hL02 := Later.trans hL1 hL2
          go_wp2_with fail
          refine (Hcl.out B1 B2 B3 j1 j2 j3 w2 hcv).mono ?_
          rintro e w3 ⟨rfl, hL3⟩
          have hL03 := Later.trans hL02 hL3
          go_wp2_with fail
          refine (sure_calls (k1 := k1) (k2 := k2) (k3 := k3) w3 (hc0.later hL03) (by omega) (by omega) (by omega)).mono ?_
          rintro e w4 ⟨As, ns, ks, rfl, hL4, hall⟩
          have hL04 := Later.trans hL03 hL4
          rw [Hs.out]
          go_wp2_with fail
          refine (Hfc.out w4 hL04).mono ?_
          rintro e w5 ⟨rfl, hL5⟩
          have hL05 := Later.trans hL04 hL5
          go_wp2_with (go_at_call 37; refine (In_calls _ _ _ _).mono ?_; rintro e w' ⟨rfl, rfl⟩)
          refine (awake_calls _).mono ?_
          rintro e w6 ⟨rfl, hL6⟩
          go_wp2_with fail
          go_ret
          exact ⟨rfl, Later.trans hL0 (Later.trans hL05 hL6)⟩
        | true =>
          have hib := htb.symm.trans hb
          by_cases hab : a = b
          · have hd : clashDue c a b = 6 := by unfold clashDue; rw [if_neg (by rw [ha, hb]; simp), if_pos hab]
            have hq2 : q = 6 := by rw [← hq, hd, askedErr_due hf0 (by omega)]
            have hg0 : got = 0 := by rw [← hgot]; unfold clashOut; rw [hd, if_neg (askedErr_ne (by omega))]
            subst hq2 hg0
            have hbb : (a == b) = true := by simpa using hab
            obtain ⟨s, hs⟩ : ∃ s, askedErr c 0 = s := ⟨_, rfl⟩
            have Hs := hide hs
            clear hq hgot hd ha hb hta htb hs hf hf0 hab
            go_enter Try.func5, Try.ntmps5
            go_wp2_with fail
            rw [← Hw0.out]; clear Hw0
            refine Hthin.out.mono ?_
            rintro e w1 ⟨rfl, hL1⟩
            go_wp2_with fail
            refine (lawHouse_calls (k1 := k1) (k2 := k2) (k3 := k3) w1 (hc0.later hL1) (by omega) (by omega) (by omega)).mono ?_
            rintro e w2 ⟨B1, j1, B2, j2, B3, j3, rfl, hL2, hcv, _⟩
            have hL02 := Later.trans hL1 hL2
            go_wp2_with fail
            refine (Hcl.out B1 B2 B3 j1 j2 j3 w2 hcv).mono ?_
            rintro e w3 ⟨rfl, hL3⟩
            have hL03 := Later.trans hL02 hL3
            go_wp2_with fail
            refine (sure_calls (k1 := k1) (k2 := k2) (k3 := k3) w3 (hc0.later hL03) (by omega) (by omega) (by omega)).mono ?_
            rintro e w4 ⟨As, ns, ks, rfl, hL4, hall⟩
            have hL04 := Later.trans hL03 hL4
            rw [Hs.out]
            go_wp2_with fail
            refine (Hfc.out w4 hL04).mono ?_
            rintro e w5 ⟨rfl, hL5⟩
            have hL05 := Later.trans hL04 hL5
            go_wp2_with (go_at_call 37; refine (In_calls _ _ _ _).mono ?_; rintro e w' ⟨rfl, rfl⟩)
            refine (awake_calls _).mono ?_
            rintro e w6 ⟨rfl, hL6⟩
            go_wp2_with fail
            go_ret
            exact ⟨rfl, Later.trans hL0 (Later.trans hL05 hL6)⟩
          · have hd : clashDue c a b = 0 := by unfold clashDue; rw [if_neg (by rw [ha, hb]; simp), if_neg hab]
            have hbb : (a == b) = false := by simpa using hab
            have hra : 0 ≤ a ∧ a ≤ (n2 : Int) - 1 := by have := hia; unfold inB at this; simpa using this
            have hrb : 0 ≤ b ∧ b ≤ (n2 : Int) - 1 := by have := hib; unfold inB at this; simpa using this
            rw [hd] at hq
            by_cases hq0 : q = 0
            · obtain ⟨_, _, htn⟩ := askedErr_zero (hq.trans hq0)
              have hgv : vR (clashF c a.toNat b.toNat) (truths c) = got := by
                rw [← hgot]; unfold clashOut; rw [hd, if_pos (hq.trans hq0)]
                exact (vP_vR _ (truthsP_perm hf0)).symm
              have hlen : (truths c).length ≤ 2000 := by rw [← (truthsP_perm hf0).length_eq]; exact truthsP_len hf0
              subst hq0
              have Hs := hide hq
              have Hgv := hide hgv
              clear hq hgot hd ha hb hta htb hf hf0 hab hgv htn
              go_enter Try.func5, Try.ntmps5
              go_wp2_with fail
              rw [← Hw0.out]; clear Hw0
              refine Hthin.out.mono ?_
              rintro e w1 ⟨rfl, hL1⟩
              go_wp2_with fail
              refine (lawHouse_calls (k1 := k1) (k2 := k2) (k3 := k3) w1 (hc0.later hL1) (by omega) (by omega) (by omega)).mono ?_
              rintro e w2 ⟨B1, j1, B2, j2, B3, j3, rfl, hL2, hcv, _⟩
              have hL02 := Later.trans hL1 hL2
              go_wp2_with fail
              refine (Hcl.out B1 B2 B3 j1 j2 j3 w2 hcv).mono ?_
              rintro e w3 ⟨rfl, hL3⟩
              have hL03 := Later.trans hL02 hL3
              go_wp2_with fail
              refine (sure_calls (k1 := k1) (k2 := k2) (k3 := k3) w3 (hc0.later hL03) (by omega) (by omega) (by omega)).mono ?_
              rintro e w4 ⟨As, ns, ks, rfl, hL4, hall⟩
              have hL04 := Later.trans hL03 hL4
              rw [Hs.out]
              go_wp2_with fail
              refine (Hfc.out w4 hL04).mono ?_
              rintro e w5 ⟨rfl, hL5⟩
              have hL05 := Later.trans hL04 hL5
              have hrr := hall Hs.out
              have hnl2 := hrr.len
              have Hrr := hide hrr
              have hns : ns ≤ 1000000 := by omega
              clear hnl2 hrr
              go_wp2_with (go_at_call 37; refine (In_calls _ _ _ _).mono ?_; rintro e w' ⟨rfl, rfl⟩)
              refine (ClashR_eq (k1 := k1) (k2 := k2) (k3 := k3) _ (hc0.later hL05) (Hrr.out.later hL5) ok htr hns (by omega) (by omega) Hgv.out).mono ?_
              rintro e w6 ⟨rfl, hL6⟩
              have hL06 := Later.trans hL05 hL6
              go_wp2_with fail
              refine (awake_calls _).mono ?_
              rintro e w7 ⟨rfl, hL7⟩
              go_wp2_with fail
              go_ret
              exact ⟨rfl, Later.trans hL0 (Later.trans hL06 hL7)⟩
            · have hg0 : got = 0 := by rw [← hgot]; unfold clashOut; rw [hd, if_neg (by rw [hq]; exact hq0)]
              subst hg0
              have hqb : (q != 0) = true := by simpa using hq0
              have hqb2 : (q == 0) = false := by simpa using hq0
              have Hs := hide hq
              clear hq hgot hd ha hb hta htb hf hf0 hab
              go_enter Try.func5, Try.ntmps5
              go_wp2_with fail
              rw [← Hw0.out]; clear Hw0
              refine Hthin.out.mono ?_
              rintro e w1 ⟨rfl, hL1⟩
              go_wp2_with fail
              refine (lawHouse_calls (k1 := k1) (k2 := k2) (k3 := k3) w1 (hc0.later hL1) (by omega) (by omega) (by omega)).mono ?_
              rintro e w2 ⟨B1, j1, B2, j2, B3, j3, rfl, hL2, hcv, _⟩
              have hL02 := Later.trans hL1 hL2
              go_wp2_with fail
              refine (Hcl.out B1 B2 B3 j1 j2 j3 w2 hcv).mono ?_
              rintro e w3 ⟨rfl, hL3⟩
              have hL03 := Later.trans hL02 hL3
              go_wp2_with fail
              refine (sure_calls (k1 := k1) (k2 := k2) (k3 := k3) w3 (hc0.later hL03) (by omega) (by omega) (by omega)).mono ?_
              rintro e w4 ⟨As, ns, ks, rfl, hL4, hall⟩
              have hL04 := Later.trans hL03 hL4
              rw [Hs.out]
              go_wp2_with fail
              refine (Hfc.out w4 hL04).mono ?_
              rintro e w5 ⟨rfl, hL5⟩
              have hL05 := Later.trans hL04 hL5
              go_wp2_with (go_at_call 37; refine (In_calls _ _ _ _).mono ?_; rintro e w' ⟨rfl, rfl⟩)
              refine (awake_calls _).mono ?_
              rintro e w6 ⟨rfl, hL6⟩
              go_wp2_with fail
              go_ret
              exact ⟨rfl, Later.trans hL0 (Later.trans hL05 hL6)⟩
    · obtain ⟨f, hf⟩ : ∃ f, fault c = f := ⟨_, rfl⟩
      have hfc := fun (W : World) (h : Later w0 W) => lawFault_calls (k1 := k1) (k2 := k2) (k3 := k3) W (hc0.later h) (by omega) (by omega) (by omega)
      rw [hf] at hfc
      have Hfc := hide hfc
      clear hfc
      have hq2 : q = f := by rw [← hq, askedErr_bad hf0, hf]
      have hs : askedErr c 0 = q := by rw [askedErr_bad hf0, hf, hq2]
      have hg0 : got = 0 := by rw [← hgot]; unfold clashOut; rw [if_neg (by rw [askedErr_bad hf0]; exact hf0)]
      rw [hf] at hf0
      subst hq2 hg0
      have hqb : (q != 0) = true := by simpa using hf0
      have hqb2 : (q == 0) = false := by simpa using hf0
      have Hs := hide hs
      clear hq hgot hta htb hs hf
      go_enter Try.func5, Try.ntmps5
      go_wp2_with fail
      rw [← Hw0.out]; clear Hw0
      refine Hthin.out.mono ?_
      rintro e w1 ⟨rfl, hL1⟩
      go_wp2_with fail
      refine (lawHouse_calls (k1 := k1) (k2 := k2) (k3 := k3) w1 (hc0.later hL1) (by omega) (by omega) (by omega)).mono ?_
      rintro e w2 ⟨B1, j1, B2, j2, B3, j3, rfl, hL2, hcv, _⟩
      have hL02 := Later.trans hL1 hL2
      go_wp2_with fail
      refine (Hcl.out B1 B2 B3 j1 j2 j3 w2 hcv).mono ?_
      rintro e w3 ⟨rfl, hL3⟩
      have hL03 := Later.trans hL02 hL3
      go_wp2_with fail
      refine (sure_calls (k1 := k1) (k2 := k2) (k3 := k3) w3 (hc0.later hL03) (by omega) (by omega) (by omega)).mono ?_
      rintro e w4 ⟨As, ns, ks, rfl, hL4, hall⟩
      have hL04 := Later.trans hL03 hL4
      rw [Hs.out]
      go_wp2_with fail
      refine (Hfc.out w4 hL04).mono ?_
      rintro e w5 ⟨rfl, hL5⟩
      have hL05 := Later.trans hL04 hL5
      go_wp2_with fail
      refine (awake_calls _).mono ?_
      rintro e w6 ⟨rfl, hL6⟩
      go_wp2_with fail
      go_ret
      exact ⟨rfl, Later.trans hL0 (Later.trans hL05 hL6)⟩
end Go.Proofs.Ytbkfnajpbhfneaa
