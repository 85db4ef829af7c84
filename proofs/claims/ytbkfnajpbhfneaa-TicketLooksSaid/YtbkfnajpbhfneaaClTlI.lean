/- The law TicketLooks: walk. -/
import Derived.Test.YtbkfnajpbhfneaaPart10
import Derived.Test.YtbkfnajpbhfneaaPart12
set_option linter.unusedSimpArgs false
set_option linter.unusedVariables false
namespace Go.Proofs.Ytbkfnajpbhfneaa
open Go Go.RowKit

set_option maxRecDepth 100000 in
set_option maxHeartbeats 4000000 in
theorem lawLooks_calls {A1 A2 A3 : Option Addr} {n1 k1 n2 k2 n3 k3 : Nat} {c : Hou} (w : World) (hc : CV w c A1 n1 A2 n2 A3 n3) (b1 : n1 ≤ 9223372036854775807) (b2 : n2 ≤ 9223372036854775807) (b3 : n3 ≤ 9223372036854775807) :
    Calls Try.prog 7 #[(.agg #[.int .i64 c.hour, .int .i64 c.grace, .slice A1 n1 k1, .slice A2 n2 k2, .slice A3 n3 k3])] w fun e w' => e = .returned (.bool true) ∧ Later w w' := by
  obtain ⟨w0, hw0⟩ : ∃ W, W = (w.alloc (.cells #[.int .i64 c.hour, .int .i64 c.grace, .slice A1 n1 k1, .slice A2 n2 k2, .slice A3 n3 k3] 26)) := ⟨_, rfl⟩; have hbox : ∀ W, Later w0 W → ∀ i, W.cell? ⟨w.heap.size, i, none⟩ = #[.int .i64 c.hour, .int .i64 c.grace, .slice A1 n1 k1, .slice A2 n2 k2, .slice A3 n3 k3][i]? := (by rw [hw0]; exact box_cells w #[.int .i64 c.hour, .int .i64 c.grace, .slice A1 n1 k1, .slice A2 n2 k2, .slice A3 n3 k3] 26); have hL0 : Later w w0 := (by rw [hw0]; simp); have hc0 := hc.later hL0; have Hw0 := hide hw0; clear hw0
  have hthin := Thin_calls (k1 := k1) (k2 := k2) (k3 := k3) w0 hc0 b1 b2 b3
  cases hth : thinB c with
  | false =>
    rw [hth] at hthin
    have Hthin := hide hthin
    clear hth hthin
    go_enter Try.func7, Try.ntmps7
    go_wp2_with fail
    rw [← Hw0.out]; clear Hw0
    refine Hthin.out.mono ?_
    rintro e w1 ⟨rfl, hL1⟩
    go_wp2_with fail
    refine (awake_calls _).mono ?_
    rintro e w2 ⟨rfl, hL2⟩
    go_wp2_with fail
    go_ret
    exact ⟨rfl, Later.trans hL0 (Later.trans hL1 hL2)⟩
  | true =>
    rw [hth] at hthin
    have hn := And.intro hc.ck.len (And.intro hc.tk.len hc.cp.len)
    unfold thinB at hth
    simp only [Bool.and_eq_true, decide_eq_true_eq] at hth
    have l1 : n1 ≤ 6 := by omega
    have l2 : n2 ≤ 8 := by omega
    have l3 : n3 ≤ 12 := by omega
    have Hthin := hide hthin
    clear hth hthin hn
    obtain ⟨q, hq⟩ : ∃ q, lookErr c = q := ⟨_, rfl⟩
    obtain ⟨⟨r1, r2⟩, hgot⟩ : ∃ g, lookOut c = g := ⟨_, rfl⟩
    have hcl := fun (B1 B2 B3 : Option Addr) (j1 j2 j3 : Nat) (W : World) (h : CV W c B1 n1 B2 n2 B3 n3) => LookP_calls (k1 := j1) (k2 := j2) (k3 := j3) W h (by omega) (by omega) (by omega)
    rw [hgot, hq] at hcl
    have Hcl := hide hcl
    obtain ⟨s, hs⟩ : ∃ s, askedErr c 0 = s := ⟨_, rfl⟩
    have hnl := hc.ck.len
    clear hcl
    by_cases hs0 : s = 0
    · subst hs0
      obtain ⟨hf0, _, htn⟩ := askedErr_zero hs
      have ok := okH_of_fault hf0
      have htr : ∀ d ∈ truths c, IsErr c d := truths_isErr ok
      have hlen : (truths c).length ≤ 2000 := by rw [← (truthsP_perm hf0).length_eq]; exact truthsP_len hf0
      have Hs := hide hs
      by_cases h0 : n1 = 0
      · have hq7 : q = 7 := by rw [← hq]; unfold lookErr; rw [if_neg (by simp [hs]), if_pos (by omega)]
        obtain ⟨rfl, rfl⟩ : r1 = 0 ∧ r2 = 0 := by
          have h := hgot
          unfold lookOut at h
          rw [if_neg (by rw [hq]; omega)] at h
          injection h with e1 e2
          exact ⟨e1.symm, e2.symm⟩
        subst hq7
        have hnb : ((n1 : Int) == 0) = true := by simp [h0]
        clear hq hgot hs h0 hnl htn hf0
        go_enter Try.func7, Try.ntmps7
        go_wp2_with fail
        rw [← Hw0.out]; clear Hw0
        refine Hthin.out.mono ?_
        rintro e w1 ⟨rfl, hL1⟩
        go_wp2_with fail
        refine (lawHouse_calls (k1 := k1) (k2 := k2) (k3 := k3) w1 (hc0.later hL1) (by omega) (by omega) (by omega)).mono ?_
        rintro e w2 ⟨B1, j1, B2, j2, B3, j3, rfl, hL2, hcv, _⟩
        have hL02 := Later.trans hL1 hL2
        go_wp2_with fail
        refine (Hcl.out B1 B2 B3 j1 j2 j3 w2 hcv).mono ?_
        rintro e w3 ⟨rfl, hL3⟩
        have hL03 := Later.trans hL02 hL3
        go_wp2_with fail
        refine (sure_calls (k1 := k1) (k2 := k2) (k3 := k3) w3 (hc0.later hL03) (by omega) (by omega) (by omega)).mono ?_
        rintro e w4 ⟨As, ns, ks, rfl, hL4, hall⟩
        have hL04 := Later.trans hL03 hL4
        rw [Hs.out]
        go_wp2_with fail
        refine (awake_calls _).mono ?_
        rintro e w7 ⟨rfl, hL7⟩
        go_wp2_with fail
        go_ret
        exact ⟨rfl, Later.trans hL0 (Later.trans hL04 hL7)⟩
      · have hq7 : q = 0 := by rw [← hq]; unfold lookErr; rw [if_neg (by simp [hs]), if_neg (by omega)]
        have hlk : lookR c (truths c) = (r1, r2) := by
          rw [← hgot]; unfold lookOut; rw [hq, if_pos hq7]
          exact (look_law hf0 htn (by omega)).symm
        subst hq7
        have hnb : ((n1 : Int) == 0) = false := by simp [h0]
        have h1n : 1 ≤ n1 := by omega
        have Hlk := hide hlk
        have Hnl := hide hnl
        clear hq hgot hs h0 hnl htn hf0 hlk
        go_enter Try.func7, Try.ntmps7
        go_wp2_with fail
        rw [← Hw0.out]; clear Hw0
        refine Hthin.out.mono ?_
        rintro e w1 ⟨rfl, hL1⟩
        go_wp2_with fail
        refine (lawHouse_calls (k1 := k1) (k2 := k2) (k3 := k3) w1 (hc0.later hL1) (by omega) (by omega) (by omega)).mono ?_
        rintro e w2 ⟨B1, j1, B2, j2, B3, j3, rfl, hL2, hcv, _⟩
        have hL02 := Later.trans hL1 hL2
        go_wp2_with fail
        refine (Hcl.out B1 B2 B3 j1 j2 j3 w2 hcv).mono ?_
        rintro e w3 ⟨rfl, hL3⟩
        have hL03 := Later.trans hL02 hL3
        go_wp2_with fail
        refine (sure_calls (k1 := k1) (k2 := k2) (k3 := k3) w3 (hc0.later hL03) (by omega) (by omega) (by omega)).mono ?_
        rintro e w4 ⟨As, ns, ks, rfl, hL4, hall⟩
        have hL04 := Later.trans hL03 hL4
        rw [Hs.out]
        have hrr := hall Hs.out
        have hnl2 := hrr.len
        have hns : ns ≤ 100000 := by omega
        have hbx := hbox w4 hL04
        have hlr := Look_calls (k1 := k1) (k2 := k2) (k3 := k3) (kl := ks) w4 (hc0.later hL04) hrr (fun d hd => by have := (htr d hd).len; have := Hnl.out; omega) hns h1n (by omega)
        rw [Hlk.out] at hlr
        have Hlr := hide hlr
        clear hnl2 hrr hlr
        go_wp2_with fail
        refine Hlr.out.mono ?_
        rintro e w6 ⟨rfl, hL6⟩
        have hL06 := Later.trans hL04 hL6
        go_wp2_with fail
        refine (awake_calls _).mono ?_
        rintro e w7 ⟨rfl, hL7⟩
        go_wp2_with fail
        go_ret
        exact ⟨rfl, Later.trans hL0 (Later.trans hL06 hL7)⟩
    · have hqs : q = s := by rw [← hq]; unfold lookErr; rw [if_pos (by rw [hs]; exact hs0), hs]
      obtain ⟨rfl, rfl⟩ : r1 = 0 ∧ r2 = 0 := by
        have h := hgot
        unfold lookOut at h
        rw [if_neg (by rw [hq]; omega)] at h
        injection h with e1 e2
        exact ⟨e1.symm, e2.symm⟩
      subst hqs
      have hqb : (q != 0) = true := by simpa using hs0
      have hqb2 : (q == 0) = false := by simpa using hs0
      have Hs := hide hs
      clear hq hgot hs hnl
      go_enter Try.func7, Try.ntmps7
      go_wp2_with fail
      rw [← Hw0.out]; clear Hw0
      refine Hthin.out.mono ?_
      rintro e w1 ⟨rfl, hL1⟩
      go_wp2_with fail
      refine (lawHouse_calls (k1 := k1) (k2 := k2) (k3 := k3) w1 (hc0.later hL1) (by omega) (by omega) (by omega)).mono ?_
      rintro e w2 ⟨B1, j1, B2, j2, B3, j3, rfl, hL2, hcv, _⟩
      have hL02 := Later.trans hL1 hL2
      go_wp2_with fail
      refine (Hcl.out B1 B2 B3 j1 j2 j3 w2 hcv).mono ?_
      rintro e w3 ⟨rfl, hL3⟩
      have hL03 := Later.trans hL02 hL3
      go_wp2_with fail
      refine (sure_calls (k1 := k1) (k2 := k2) (k3 := k3) w3 (hc0.later hL03) (by omega) (by omega) (by omega)).mono ?_
      rintro e w4 ⟨As, ns, ks, rfl, hL4, hall⟩
      have hL04 := Later.trans hL03 hL4
      rw [Hs.out]
      go_wp2_with fail
      refine (awake_calls _).mono ?_
      rintro e w7 ⟨rfl, hL7⟩
      go_wp2_with fail
      go_ret
      exact ⟨rfl, Later.trans hL0 (Later.trans hL04 hL7)⟩
end Go.Proofs.Ytbkfnajpbhfneaa
