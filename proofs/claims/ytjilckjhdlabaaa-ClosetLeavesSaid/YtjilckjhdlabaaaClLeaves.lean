/- ClosetLeaves: the walk. -/
import Derived.Test.YtjilckjhdlabaaaPart8
import Derived.Test.YtjilckjhdlabaaaPart11
set_option linter.unusedSimpArgs false
set_option linter.unusedVariables false
namespace Go.Proofs.Ytjilckjhdlabaaa
open Go Go.RowKit
attribute [local go_sem] later_alloc2 later_alloc3 later_alloc4

set_option maxRecDepth 100000 in
set_option maxHeartbeats 4000000 in
theorem lawLeaves_calls {A1 A2 A3 : Option Addr} {n1 k1 n2 k2 n3 k3 : Nat} {c : Clo} (w : World) (hc : CV w c A1 n1 A2 n2 A3 n3) (hcl : i64 c.closets) (b1 : n1 ≤ 9223372036854775807) (b2 : n2 ≤ 9223372036854775807) (b3 : n3 ≤ 9223372036854775807) :
    Calls Try.prog 5 #[(.agg #[.int .i64 c.closets, .int .i64 c.close, .slice A1 n1 k1, .slice A2 n2 k2, .slice A3 n3 k3])] w fun e w' => e = .returned (.bool true) ∧ Later w w' := by
  obtain ⟨w0, hw0⟩ : ∃ W, W = (w.alloc (.cells #[.int .i64 c.closets, .int .i64 c.close, .slice A1 n1 k1, .slice A2 n2 k2, .slice A3 n3 k3] 26)) := ⟨_, rfl⟩; have hbox : ∀ W, Later w0 W → ∀ i, W.cell? ⟨w.heap.size, i, none⟩ = #[.int .i64 c.closets, .int .i64 c.close, .slice A1 n1 k1, .slice A2 n2 k2, .slice A3 n3 k3][i]? := (by rw [hw0]; exact box_cells w #[.int .i64 c.closets, .int .i64 c.close, .slice A1 n1 k1, .slice A2 n2 k2, .slice A3 n3 k3] 26); have hL0 : Later w w0 := (by rw [hw0]; simp); have hc0 := hc.later hL0; have Hw0 := hide hw0; clear hw0
  have hthin := Thin_calls (k1 := k1) (k2 := k2) (k3 := k3) w0 hc0 hcl b1 b2 b3
  cases hth : thinB c with
  | false =>
    rw [hth] at hthin
    have Hthin := hide hthin
    clear hth hthin
    go_enter Try.func5, Try.ntmps5
    go_wp2_with fail
    rw [← Hw0.out]; clear Hw0
    refine Hthin.out.mono ?_
    rintro e w1 ⟨rfl, hL1⟩
    go_wp2_with fail
    refine (awake_calls _).mono ?_
    rintro e w2 ⟨rfl, hL2⟩
    go_wp2_with fail
    go_ret
    exact ⟨rfl, Later.trans hL0 (Later.trans hL1 hL2)⟩
  | true =>
    rw [hth] at hthin
    have hn := And.intro hc.hs.len (And.intro hc.hu.len hc.lk.len)
    unfold thinB at hth
    simp only [Bool.and_eq_true, decide_eq_true_eq] at hth
    have l1 : n1 ≤ 6 := by omega
    have l2 : n2 ≤ 8 := by omega
    have l3 : n3 ≤ 7 := by omega
    have Hthin := hide hthin
    clear hth hthin hn
    obtain ⟨⟨s1, s2⟩, hso⟩ : ∃ q, firstOut c = q := ⟨_, rfl⟩
    obtain ⟨q, hq⟩ : ∃ q, fault c = q := ⟨_, rfl⟩
    have law := first_law c
    rw [hq, hso] at law
    have hfp := fun (B1 B2 B3 : Option Addr) (j1 j2 j3 : Nat) (W : World) (h : CV W c B1 n1 B2 n2 B3 n3) (h2 : n2 ≤ j2) (h3 : n3 ≤ j3) =>
      FirstP_calls (k1 := j1) (k2 := j2) (k3 := j3) W h hcl (by omega) (by omega) (by omega) h2 h3
    rw [hso] at hfp
    have hlp := fun (B1 B2 B3 : Option Addr) (j1 j2 j3 : Nat) (W : World) (h : CV W c B1 n1 B2 n2 B3 n3) (h2 : n2 ≤ j2) =>
      LeaveP_calls (k1 := j1) (k2 := j2) (k3 := j3) W h hcl (by omega) (by omega) (by omega) h2
    unfold LeavePost at hlp
    rw [hq] at hlp
    have hfc := fun (W : World) (h : Later w0 W) => fault_calls (k1 := k1) (k2 := k2) (k3 := k3) W (hc0.later h) hcl (by omega) (by omega) (by omega)
    rw [hq] at hfc
    have Hfp := hide hfp
    have Hlp := hide hlp
    have Hfc := hide hfc
    have Hlaw := hide law
    have Hq := hide hq
    clear hfp hlp hfc law hso hq
    go_enter Try.func5, Try.ntmps5
    go_wp2_with fail
    rw [← Hw0.out]; clear Hw0
    refine Hthin.out.mono ?_
    rintro e w1 ⟨rfl, hL1⟩
    go_wp2_with fail
    refine (lawCloset_calls (k1 := k1) (k2 := k2) (k3 := k3) w1 (hc0.later hL1) (by omega) (by omega) (by omega)).mono ?_
    rintro e w2 ⟨B1, j1, B2, j2, B3, j3, rfl, hL2, hc2, hj1, hj2, hj3⟩
    go_wp2_with fail
    refine (Hfp.out _ _ _ _ _ _ w2 hc2 hj2 hj3).mono ?_
    rintro e w3 ⟨rfl, hL3⟩
    have hL03 := Later.trans hL1 (Later.trans hL2 hL3)
    clear hc2 hL1 hL2 hL3 hj1 hj2 hj3
    go_wp2_with fail
    refine (lawCloset_calls (k1 := k1) (k2 := k2) (k3 := k3) w3 (hc0.later hL03) (by omega) (by omega) (by omega)).mono ?_
    rintro e w4 ⟨C1, i1, C2, i2, C3, i3, rfl, hL4, hc4, hi1, hi2, hi3⟩
    go_wp2_with fail
    refine (Hlp.out _ _ _ _ _ _ w4 hc4 hi2).mono ?_
    rintro e w5 ⟨Al, nl, kl, rfl, hL5, hrl, hkl⟩
    have hL05 := Later.trans hL03 (Later.trans hL4 hL5)
    clear hc4 hL4 hL5 hi1 hi2 hi3 hL03
    go_wp2_with fail
    refine (Hfc.out w5 hL05).mono ?_
    rintro e w6 ⟨rfl, hL6⟩
    have hL06 := Later.trans hL05 hL6
    rcases Hlaw.out with ⟨hq0, he⟩ | ⟨rfl, hor⟩
    · injection he with e1 e2
      subst e1 e2
      have hl0 : leaveOut c = [] := by unfold leaveOut; rw [if_neg (by rw [Hq.out]; exact hq0)]
      rw [hl0] at hrl
      have hnl := hrl.len
      simp only [List.length_nil] at hnl
      subst hnl
      have hqb2 : (s2 != 0) = true := by simpa using hq0
      clear hq0 hl0
      go_wp2_with fail
      refine (awake_calls _).mono ?_
      rintro e wa ⟨rfl, hLa⟩
      go_wp2_with fail
      go_ret
      exact ⟨rfl, Later.trans hL0 (Later.trans hL06 hLa)⟩
    · have hf := Hq.out
      have ok := okC_of_fault hf
      have hmr := (fault_zero hf).2.2.2.2.2.2
      have hn5 : n3 ≤ 5 := by have := ok.nlooks; have := hc.lk.len; omega
      have hlt := allBits_lt ok.nlooks
      have hll : nl ≤ 1000000 := by
        rw [leave_law hf] at hrl
        have h1 := hrl.len
        obtain ⟨l, h2, h3, _⟩ := leaveP_some hf
        have h4 := leave_law hf
        unfold leaveOut at h4
        rw [if_pos hf, h2, Option.getD_some] at h4
        obtain ⟨b, hb, e⟩ := combs_bits (by have := ok.nlooks; omega) h3
        rw [h1, ← h4, ← e]
        have h5 := bitsR_len b
        have h6 := pow_le5 ok.nlooks
        omega
      have hall := All_calls (k1 := k1) (k2 := k2) (k3 := k3) w6 (hc0.later hL06) ok hmr
      rw [leave_law hf] at hrl
      have Hall := hide hall
      have Hlt := hide hlt
      have Hmr := hide hmr
      have Hok := hide ok
      clear hall hlt hmr ok hf
      go_wp2_with fail
      refine Hall.out.mono ?_
      rintro e w7 ⟨Aa, na, ka, rfl, hL7, hra⟩
      have hL07 := Later.trans hL06 hL7
      have hna : na ≤ 1000000 := by
        have h1 := hra.len
        have h2 : (natInts (allBits c)).length = (many c).toNat := by simp [natInts, allBits, allDry]
        have := Hmr.out
        omega
      go_wp2_with fail
      refine (Leave_calls (k1 := k1) (k2 := k2) (k3 := k3) (k := ka) w7 (hc0.later hL07) hra hna hn5 Hlt.out).mono ?_
      rintro e w8 ⟨Ab, nb, kb, rfl, hL8, hrb, hkb⟩
      have hL08 := Later.trans hL07 hL8
      have hrl8 := hrl.later (Later.trans hL6 (Later.trans hL7 hL8))
      have hnb : nb = nl := by rw [hrb.len, hrl.len]
      subst hnb
      have hsame := same_calls (k := kl) (j := kb) w8 hrl8 hrb hll hll
      rw [decide_eq_true rfl] at hsame
      have Hsame := hide hsame
      clear hsame
      go_wp2_with fail
      refine Hsame.out.mono ?_
      rintro e w9 ⟨rfl, hL9⟩
      have hL09 := Later.trans hL08 hL9
      have hra9 := hra.later (Later.trans hL8 hL9)
      have hfr := First_calls (k1 := k1) (k2 := k2) (k3 := k3) (k := ka) w9 (hc0.later hL09) hra9 hna hn5 Hlt.out
      rcases hor with ⟨j, hj, hj2, he⟩ | ⟨hj2, he⟩
      · injection he with e1 e2
        subst e1 e2
        rw [hj2] at hfr
        have hneg : ¬ (j : Int) < 0 := by omega
        have Hfr := hide hfr
        clear hfr hj2 hj
        go_wp2_with fail
        refine Hfr.out.mono ?_
        rintro e w10 ⟨rfl, hL10⟩
        have hL010 := Later.trans hL09 hL10
        go_wp2_with fail
        refine (awake_calls _).mono ?_
        rintro e wa ⟨rfl, hLa⟩
        go_wp2_with fail
        go_ret
        exact ⟨rfl, Later.trans hL0 (Later.trans hL010 hLa)⟩
      · injection he with e1 e2
        subst e1 e2
        rw [hj2] at hfr
        have Hfr := hide hfr
        clear hfr hj2
        go_wp2_with fail
        refine Hfr.out.mono ?_
        rintro e w10 ⟨rfl, hL10⟩
        have hL010 := Later.trans hL09 hL10
        go_wp2_with fail
        refine (awake_calls _).mono ?_
        rintro e wa ⟨rfl, hLa⟩
        go_wp2_with fail
        go_ret
        exact ⟨rfl, Later.trans hL0 (Later.trans hL010 hLa)⟩
end Go.Proofs.Ytjilckjhdlabaaa
