/- ClosetAsks: the plain law and the walk. -/
import Derived.Test.YtjilckjhdlabaaaPart8
import Derived.Test.YtjilckjhdlabaaaPart11
set_option linter.unusedSimpArgs false
set_option linter.unusedVariables false
namespace Go.Proofs.Ytjilckjhdlabaaa
open Go Go.RowKit
attribute [local go_sem] later_alloc2 later_alloc3 later_alloc4

theorem asks_law (c : Clo) :
    (∃ q, q ≠ 0 ∧ askedErr c true = q ∧ askOut c = (0, 0, 0, q)) ∨
    (askedErr c true = 0 ∧ fault c = 0 ∧
      ((c.horses.length = 0 ∧ askOut c = (0, 0, 0, 7)) ∨ (0 < c.horses.length ∧ askOut c = ((askR c (truths c)).1, (askR c (truths c)).2.1, (askR c (truths c)).2.2, 0)))) := by
  by_cases h : askedErr c true = 0
  · obtain ⟨hf, _, hne⟩ := askedErr_zero h
    refine .inr ⟨h, hf, ?_⟩
    by_cases h0 : c.horses.length = 0
    · exact .inl ⟨h0, by unfold askOut; rw [if_neg (by simp [h]), if_pos h0]⟩
    · refine .inr ⟨by omega, ?_⟩
      unfold askOut
      rw [if_neg (by simp [h]), if_neg h0, askR_eq (truthsP_perm hf) (by omega) (by have := truthsP_len hf; omega)]
  · exact .inl ⟨_, h, rfl, by unfold askOut; rw [if_pos h]⟩

set_option maxRecDepth 100000 in
set_option maxHeartbeats 4000000 in
theorem lawAsks_calls {A1 A2 A3 : Option Addr} {n1 k1 n2 k2 n3 k3 : Nat} {c : Clo} (w : World) (hc : CV w c A1 n1 A2 n2 A3 n3) (hcl : i64 c.closets) (b1 : n1 ≤ 9223372036854775807) (b2 : n2 ≤ 9223372036854775807) (b3 : n3 ≤ 9223372036854775807) :
    Calls Try.prog 4 #[(.agg #[.int .i64 c.closets, .int .i64 c.close, .slice A1 n1 k1, .slice A2 n2 k2, .slice A3 n3 k3])] w fun e w' => e = .returned (.bool true) ∧ Later w w' := by
  obtain ⟨w0, hw0⟩ : ∃ W, W = (w.alloc (.cells #[.int .i64 c.closets, .int .i64 c.close, .slice A1 n1 k1, .slice A2 n2 k2, .slice A3 n3 k3] 26)) := ⟨_, rfl⟩; have hbox : ∀ W, Later w0 W → ∀ i, W.cell? ⟨w.heap.size, i, none⟩ = #[.int .i64 c.closets, .int .i64 c.close, .slice A1 n1 k1, .slice A2 n2 k2, .slice A3 n3 k3][i]? := (by rw [hw0]; exact box_cells w #[.int .i64 c.closets, .int .i64 c.close, .slice A1 n1 k1, .slice A2 n2 k2, .slice A3 n3 k3] 26); have hL0 : Later w w0 := (by rw [hw0]; simp); have hc0 := hc.later hL0; have Hw0 := hide hw0; clear hw0
  have hthin := Thin_calls (k1 := k1) (k2 := k2) (k3 := k3) w0 hc0 hcl b1 b2 b3
  cases hth : thinB c with
  | false =>
    rw [hth] at hthin
    have Hthin := hide hthin
    clear hth hthin
    go_enter Try.func4, Try.ntmps4
    go_wp2_with fail
    rw [← Hw0.out]; clear Hw0
    refine Hthin.out.mono ?_
    rintro e w1 ⟨rfl, hL1⟩
    go_wp2_with fail
    refine (awake_calls _).mono ?_
    rintro e w2 ⟨rfl, hL2⟩
    go_wp2_with fail
    go_ret
    exact ⟨rfl, Later.trans hL0 (Later.trans hL1 hL2)⟩
  | true =>
    rw [hth] at hthin
    have hn := And.intro hc.hs.len (And.intro hc.hu.len hc.lk.len)
    unfold thinB at hth
    simp only [Bool.and_eq_true, decide_eq_true_eq] at hth
    have l1 : n1 ≤ 6 := by omega
    have l2 : n2 ≤ 8 := by omega
    have l3 : n3 ≤ 7 := by omega
    have Hthin := hide hthin
    clear hth hthin hn
    obtain ⟨⟨s1, s2, s3, s4⟩, hso⟩ : ∃ q, askOut c = q := ⟨_, rfl⟩
    obtain ⟨q, hq⟩ : ∃ q, askedErr c true = q := ⟨_, rfl⟩
    have law := asks_law c
    rw [hq, hso] at law
    have hsc := fun (B1 B2 B3 : Option Addr) (j1 j2 j3 : Nat) (W : World) (h : CV W c B1 n1 B2 n2 B3 n3) (h2 : n2 ≤ j2) =>
      AskP_calls (k1 := j1) (k2 := j2) (k3 := j3) W h hcl (by omega) (by omega) (by omega) h2
    rw [hso] at hsc
    have hpc := fun (W : World) (h : Later w0 W) => sure_calls (k1 := k1) (k2 := k2) (k3 := k3) W (hc0.later h) hcl (by omega) (by omega) (by omega)
    unfold PlacedPost at hpc
    rw [hq] at hpc
    have hnl := hc.hs.len
    rw [← hnl] at law
    have Hnl := hide hnl
    have Hsc := hide hsc
    have Hpc := hide hpc
    have Hlaw := hide law
    clear hsc hpc law hso hq hnl
    go_enter Try.func4, Try.ntmps4
    go_wp2_with fail
    rw [← Hw0.out]; clear Hw0
    refine Hthin.out.mono ?_
    rintro e w1 ⟨rfl, hL1⟩
    go_wp2_with fail
    refine (lawCloset_calls (k1 := k1) (k2 := k2) (k3 := k3) w1 (hc0.later hL1) (by omega) (by omega) (by omega)).mono ?_
    rintro e w2 ⟨B1, j1, B2, j2, B3, j3, rfl, hL2, hc2, hj1, hj2, hj3⟩
    go_wp2_with fail
    refine (Hsc.out _ _ _ _ _ _ w2 hc2 hj2).mono ?_
    rintro e w3 ⟨rfl, hL3⟩
    have hL03 := Later.trans hL1 (Later.trans hL2 hL3)
    clear hc2 hL1 hL2 hL3
    go_wp2_with fail
    refine (Hpc.out w3 hL03).mono ?_
    rintro e w4 ⟨At, nt, kt, rfl, hL4, hrr⟩
    have hL04 := Later.trans hL03 hL4
    rcases Hlaw.out with ⟨q', hq0, rfl, he⟩ | ⟨rfl, hf, ⟨hn0, he⟩ | ⟨hn0, he⟩⟩
    · injection he with e1 he
      injection he with e2 he
      injection he with e3 e4
      subst e1 e2 e3 e4
      have hqb : (s4 == 0) = false := by simpa using hq0
      have hqb2 : (s4 != 0) = true := by simpa using hq0
      clear hq0
      go_wp2_with fail
      refine (awake_calls _).mono ?_
      rintro e wa ⟨rfl, hLa⟩
      go_wp2_with fail
      go_ret
      exact ⟨rfl, Later.trans hL0 (Later.trans hL04 hLa)⟩
    · injection he with e1 he
      injection he with e2 he
      injection he with e3 e4
      subst e1 e2 e3 e4
      subst hn0
      go_wp2_with fail
      refine (awake_calls _).mono ?_
      rintro e wa ⟨rfl, hLa⟩
      go_wp2_with fail
      go_ret
      exact ⟨rfl, Later.trans hL0 (Later.trans hL04 hLa)⟩
    · have ok := okC_of_fault hf
      have hrr := hrr rfl
      have hmr := (fault_zero hf).2.2.2.2.2.2
      have hnt := hrr.len
      have htl : nt ≤ 1000000 := by rw [hnt, ← (truthsP_perm hf).length_eq]; have := truthsP_len hf; omega
      have hst := Ask_calls (k1 := k1) (k2 := k2) (k3 := k3) (kl := kt) w4 (hc0.later hL04) hrr ok (truths_isDry ok.toOkH) htl
      injection he with e1 he
      injection he with e2 he
      injection he with e3 e4
      rw [← e1, ← e2, ← e3] at hst
      have hz : ((n1 : Int) == 0) = false := by simp; omega
      have Hst := hide hst
      subst e4
      clear hst e1 e2 e3 hrr hmr hnt htl hf ok hn0
      go_wp2_with fail
      refine Hst.out.mono ?_
      rintro e w5 ⟨rfl, hL5⟩
      have hL05 := Later.trans hL04 hL5
      go_wp2_with fail
      refine (awake_calls _).mono ?_
      rintro e wa ⟨rfl, hLa⟩
      go_wp2_with fail
      go_ret
      exact ⟨rfl, Later.trans hL0 (Later.trans hL05 hLa)⟩
end Go.Proofs.Ytjilckjhdlabaaa
