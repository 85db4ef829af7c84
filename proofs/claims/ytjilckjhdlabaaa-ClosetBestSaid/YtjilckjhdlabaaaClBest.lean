/- ClosetBest: the plain law and the walk. -/
import Derived.Test.YtjilckjhdlabaaaPart8
import Derived.Test.YtjilckjhdlabaaaPart15
import Derived.Test.YtjilckjhdlabaaaPart14
set_option linter.unusedSimpArgs false
set_option linter.unusedVariables false
namespace Go.Proofs.Ytjilckjhdlabaaa
open Go Go.RowKit
attribute [local go_sem] later_alloc2 later_alloc3 later_alloc4

theorem best_law (c : Clo) (p : List Int) (n : Int) :
    (askedErr c true ≠ 0 ∧ bestOut c = ([], 0, askedErr c true) ∧ placeOut c p n = false) ∨
    (askedErr c true = 0 ∧ fault c = 0 ∧ placeOut c p n = (isPlaceB c p && (decide (stuckR c (truths c) p < 0) && decide (doneR c (truths c) p ≤ n))) ∧ bestOut c = bestRes (bestR c (truths c)) ∧ ∀ q, bestR c (truths c) = some q → q.1.length ≤ 4) := by
  by_cases h : askedErr c true = 0
  · right
    obtain ⟨hf, _, hne⟩ := askedErr_zero h
    have ok := okC_of_fault hf
    have hmem : ∀ d, d ∈ truths c ↔ d ∈ truthsP c := fun d => ((truthsP_perm hf).mem_iff).symm
    have hdry := truthsP_isDry ok.toOkH
    refine ⟨h, hf, ?_, by unfold bestOut; rw [if_neg (by simp [h]), bestR_eq ok hmem hne hdry], fun q hq => ?_⟩
    rotate_left
    · rw [bestR_eq ok hmem hne hdry] at hq
      rcases bestP_spec ok.toOkH with ⟨hb, _⟩ | ⟨x, hb, hx, _⟩
      · rw [hb] at hq; cases hq
      · rw [hb] at hq
        injection hq with hq
        subst hq
        have := hx.len
        have := ok.len
        show x.length ≤ 4
        omega
    unfold placeOut
    cases hb : isPlaceB c p with
    | false =>
      have : askedErr c false ≠ 0 := fun e => by have := (askedErr_zero e).2.1; cases this
      rw [decide_eq_false this]; rfl
    | true =>
      have hpl := isPlaceB_isPl hf hb
      rw [decide_eq_true h, Bool.true_and, Bool.true_and]
      rcases doneP_spec ok hmem hne hdry hpl with ⟨j, h1, h2, h3⟩ | ⟨h1, h2, _⟩
      · rw [h3, h2, decide_eq_false (show ¬ (j : Int) = c.horses.length by omega), decide_eq_false (show ¬ (j : Int) < 0 by omega)]
        rfl
      · rw [h2, h1, decide_eq_true rfl, decide_eq_true (show (-1 : Int) < 0 by omega)]
  · left
    refine ⟨h, by unfold bestOut; rw [if_pos h], ?_⟩
    unfold placeOut
    have : askedErr c (isPlaceB c p) ≠ 0 := fun e => by
      have h2 := (askedErr_zero e).2.1
      rw [h2] at e
      exact h e
    rw [decide_eq_false this]; rfl

set_option maxRecDepth 100000 in
set_option maxHeartbeats 16000000 in
theorem lawBest_calls {A1 A2 A3 : Option Addr} {n1 k1 n2 k2 n3 k3 : Nat} {c : Clo} {Ap : Option Addr} {np kp : Nat} {p : List Int} {n : Int} (w : World) (hc : CV w c A1 n1 A2 n2 A3 n3) (hcl : i64 c.closets) (b1 : n1 ≤ 9223372036854775807) (b2 : n2 ≤ 9223372036854775807) (b3 : n3 ≤ 9223372036854775807)
    (hp : RI w Ap np p) (bp : np ≤ 9223372036854775807) (_hn : i64 n) : Calls Try.prog 13 #[(.agg #[.int .i64 c.closets, .int .i64 c.close, .slice A1 n1 k1, .slice A2 n2 k2, .slice A3 n3 k3]), .slice Ap np kp, .int .i64 n] w fun e w' => e = .returned (.bool true) ∧ Later w w' := by
  obtain ⟨w0, hw0⟩ : ∃ W, W = (w.alloc (.cells #[.int .i64 c.closets, .int .i64 c.close, .slice A1 n1 k1, .slice A2 n2 k2, .slice A3 n3 k3] 26)) := ⟨_, rfl⟩; have hbox : ∀ W, Later w0 W → ∀ i, W.cell? ⟨w.heap.size, i, none⟩ = #[.int .i64 c.closets, .int .i64 c.close, .slice A1 n1 k1, .slice A2 n2 k2, .slice A3 n3 k3][i]? := (by rw [hw0]; exact box_cells w #[.int .i64 c.closets, .int .i64 c.close, .slice A1 n1 k1, .slice A2 n2 k2, .slice A3 n3 k3] 26); have hL0 : Later w w0 := (by rw [hw0]; simp); have hc0 := hc.later hL0; have Hw0 := hide hw0; clear hw0
  have hp0 := hp.later hL0
  have hthin := Thin_calls (k1 := k1) (k2 := k2) (k3 := k3) w0 hc0 hcl b1 b2 b3
  cases hth : thinB c with
  | false =>
    rw [hth] at hthin
    have Hthin := hide hthin
    clear hth hthin
    go_enter Try.func13, Try.ntmps13
    go_wp2_with fail
    rw [← Hw0.out]; clear Hw0
    refine Hthin.out.mono ?_
    rintro e w1 ⟨rfl, hL1⟩
    go_wp2_with fail
    refine (awake_calls _).mono ?_
    rintro e w2 ⟨rfl, hL2⟩
    go_wp2_with fail
    go_ret
    exact ⟨rfl, Later.trans hL0 (Later.trans hL1 hL2)⟩
  | true =>
    rw [hth] at hthin
    have hn := And.intro hc.hs.len (And.intro hc.hu.len hc.lk.len)
    unfold thinB at hth
    simp only [Bool.and_eq_true, decide_eq_true_eq] at hth
    have l1 : n1 ≤ 6 := by omega
    have l2 : n2 ≤ 8 := by omega
    have l3 : n3 ≤ 7 := by omega
    have Hthin := hide hthin
    clear hth hthin hn
    by_cases hp9 : (9 : Int) < (np : Int)
    · go_enter Try.func13, Try.ntmps13
      go_wp2_with fail
      rw [← Hw0.out]; clear Hw0
      refine Hthin.out.mono ?_
      rintro e w1 ⟨rfl, hL1⟩
      go_wp2_with fail
      refine (awake_calls _).mono ?_
      rintro e wa ⟨rfl, hLa⟩
      go_wp2_with fail
      go_ret
      exact ⟨rfl, Later.trans hL0 (Later.trans hL1 hLa)⟩
    · obtain ⟨f, hf⟩ : ∃ q, fault c = q := ⟨_, rfl⟩
      have hfc := fun (W : World) (h : Later w0 W) => fault_calls (k1 := k1) (k2 := k2) (k3 := k3) W (hc0.later h) hcl (by omega) (by omega) (by omega)
      rw [hf] at hfc
      have Hfc := hide hfc
      clear hfc
      by_cases hff : f = 0 ∧ 3 < n1
      · obtain ⟨rfl, h3⟩ := hff
        have h3b : (3 : Int) < n1 := by omega
        clear hf
        go_enter Try.func13, Try.ntmps13
        go_wp2_with fail
        rw [← Hw0.out]; clear Hw0
        refine Hthin.out.mono ?_
        rintro e w1 ⟨rfl, hL1⟩
        go_wp2_with fail
        refine (Hfc.out w1 hL1).mono ?_
        rintro e w2 ⟨rfl, hM2⟩
        have hL2 := Later.trans hL1 hM2
        go_wp2_with fail
        refine (awake_calls _).mono ?_
        rintro e wa ⟨rfl, hLa⟩
        go_wp2_with fail
        go_ret
        exact ⟨rfl, Later.trans hL0 (Later.trans hL2 hLa)⟩
      · have law := best_law c p n
        obtain ⟨E, hE⟩ : ∃ q, askedErr c true = q := ⟨_, rfl⟩
        obtain ⟨u, hu⟩ : ∃ q, placeOut c p n = q := ⟨_, rfl⟩
        obtain ⟨⟨s1, s2, s3⟩, hs⟩ : ∃ q, bestOut c = q := ⟨_, rfl⟩
        rw [hE, hu, hs] at law
        have hbp := fun (B1 B2 B3 : Option Addr) (j1 j2 j3 : Nat) (W : World) (h : CV W c B1 n1 B2 n2 B3 n3) (h2 : n2 ≤ j2) =>
          BestP_calls (k1 := j1) (k2 := j2) (k3 := j3) W h hcl (by omega) (by omega) (by omega) h2
        unfold BestPost at hbp
        rw [hs] at hbp
        have hpp := fun (B1 B2 B3 : Option Addr) (j1 j2 j3 : Nat) (W : World) (h : CV W c B1 n1 B2 n2 B3 n3) (h2 : n2 ≤ j2) (Aq : Option Addr) (kq : Nat) (hq : RI W Aq np p) (hk : np ≤ kq) =>
          ProvePlace_calls (k1 := j1) (k2 := j2) (k3 := j3) (kp := kq) (n := n) W h hcl (by omega) (by omega) (by omega) h2 hq hk (by omega)
        rw [hu] at hpp
        have hsr := fun (W : World) (h : Later w0 W) => sure_calls (k1 := k1) (k2 := k2) (k3 := k3) W (hc0.later h) hcl (by omega) (by omega) (by omega)
        unfold PlacedPost at hsr
        rw [hE] at hsr
        have Hbp := hide hbp
        have Hpp := hide hpp
        have Hsr := hide hsr
        have Hlaw := hide law
        have Hf := hide hf
        clear hbp hpp hsr law hE hu hs hf
        have hg : (f == 0) = true → ¬ (3 : Int) < (n1 : Int) := fun h => by simp at h; omega
        cases hf0 : (f == 0) with
        | false =>
          clear hff hg
          go_enter Try.func13, Try.ntmps13
          go_wp2_with fail
          rw [← Hw0.out]; clear Hw0
          refine Hthin.out.mono ?_
          rintro e w1 ⟨rfl, hL1⟩
          go_wp2_with fail
          refine (Hfc.out w1 hL1).mono ?_
          rintro e w2 ⟨rfl, hM2⟩
          have hL2 := Later.trans hL1 hM2
          go_wp2_with fail
          refine (lawCloset_calls (k1 := k1) (k2 := k2) (k3 := k3) w2 (hc0.later hL2) (by omega) (by omega) (by omega)).mono ?_
          rintro e wa ⟨B1a, j1a, B2a, j2a, B3a, j3a, rfl, hMa, hca, hj1a, hj2a, hj3a⟩
          have hLa := Later.trans hL2 hMa
          go_wp2_with fail
          refine (Hbp.out _ _ _ _ _ _ wa hca hj2a).mono ?_
          rintro e w3 ⟨Ax, nx, kx, rfl, hM3, hrx, hkx⟩
          have hL3 := Later.trans hLa hM3
          clear hca hj1a hj2a hj3a hMa hLa hM3
          go_wp2_with fail
          refine (lawCloset_calls (k1 := k1) (k2 := k2) (k3 := k3) w3 (hc0.later hL3) (by omega) (by omega) (by omega)).mono ?_
          rintro e wa ⟨B1a, j1a, B2a, j2a, B3a, j3a, rfl, hMa, hca, hj1a, hj2a, hj3a⟩
          have hLa := Later.trans hL3 hMa
          go_wp2_with fail
          refine (list_calls _ (hp0.later hLa) (by omega)).mono ?_
          rintro e wb ⟨Ab, nb, kb, rfl, hMb, hrb, hkb, _⟩
          have hLb := Later.trans hLa hMb
          have hnb := hrb.len
          rw [← hp0.len] at hnb
          subst nb
          go_wp2_with fail
          refine (Hpp.out _ _ _ _ _ _ wb (hca.later hMb) hj2a _ _ hrb hkb).mono ?_
          rintro e w4 ⟨rfl, hM4⟩
          have hL4 := Later.trans hLb hM4
          have hM34 := Later.trans hMa (Later.trans hMb hM4)
          clear hca hrb hj1a hj2a hj3a hMa hMb hLa hLb hM4
          go_wp2_with fail
          refine (Hsr.out w4 hL4).mono ?_
          rintro e w5 ⟨At, nt, kt, rfl, hM5, hrt⟩
          have hL5 := Later.trans hL4 hM5
          have hrx5 := hrx.later (Later.trans hM34 hM5)
          rcases Hlaw.out with ⟨h0, he, rfl⟩ | ⟨_, hf2, _⟩
          · injection he with e1 he
            injection he with e2 e3
            subst s1 s2 s3
            have hnx := hrx5.len
            simp only [List.length_nil] at hnx
            subst nx
            have h0c : (E != 0) = true := by simpa using h0
            clear h0 hrt
            go_wp2_with fail
            refine (awake_calls _).mono ?_
            rintro e wa ⟨rfl, hLa⟩
            go_wp2_with fail
            go_ret
            exact ⟨rfl, Later.trans hL0 (Later.trans hL5 hLa)⟩
          · exfalso
            have := Hf.out
            rw [hf2] at this
            rw [← this] at hf0
            cases hf0
        | true =>
          have hg3 := hg hf0
          clear hff hg
          go_enter Try.func13, Try.ntmps13
          go_wp2_with fail
          rw [← Hw0.out]; clear Hw0
          refine Hthin.out.mono ?_
          rintro e w1 ⟨rfl, hL1⟩
          go_wp2_with fail
          refine (Hfc.out w1 hL1).mono ?_
          rintro e w2 ⟨rfl, hM2⟩
          have hL2 := Later.trans hL1 hM2
          go_wp2_with fail
          refine (lawCloset_calls (k1 := k1) (k2 := k2) (k3 := k3) w2 (hc0.later hL2) (by omega) (by omega) (by omega)).mono ?_
          rintro e wa ⟨B1a, j1a, B2a, j2a, B3a, j3a, rfl, hMa, hca, hj1a, hj2a, hj3a⟩
          have hLa := Later.trans hL2 hMa
          go_wp2_with fail
          refine (Hbp.out _ _ _ _ _ _ wa hca hj2a).mono ?_
          rintro e w3 ⟨Ax, nx, kx, rfl, hM3, hrx, hkx⟩
          have hL3 := Later.trans hLa hM3
          clear hca hj1a hj2a hj3a hMa hLa hM3
          go_wp2_with fail
          refine (lawCloset_calls (k1 := k1) (k2 := k2) (k3 := k3) w3 (hc0.later hL3) (by omega) (by omega) (by omega)).mono ?_
          rintro e wa ⟨B1a, j1a, B2a, j2a, B3a, j3a, rfl, hMa, hca, hj1a, hj2a, hj3a⟩
          have hLa := Later.trans hL3 hMa
          go_wp2_with fail
          refine (list_calls _ (hp0.later hLa) (by omega)).mono ?_
          rintro e wb ⟨Ab, nb, kb, rfl, hMb, hrb, hkb, _⟩
          have hLb := Later.trans hLa hMb
          have hnb := hrb.len
          rw [← hp0.len] at hnb
          subst nb
          go_wp2_with fail
          refine (Hpp.out _ _ _ _ _ _ wb (hca.later hMb) hj2a _ _ hrb hkb).mono ?_
          rintro e w4 ⟨rfl, hM4⟩
          have hL4 := Later.trans hLb hM4
          have hM34 := Later.trans hMa (Later.trans hMb hM4)
          clear hca hrb hj1a hj2a hj3a hMa hMb hLa hLb hM4
          go_wp2_with fail
          refine (Hsr.out w4 hL4).mono ?_
          rintro e w5 ⟨At, nt, kt, rfl, hM5, hrt⟩
          have hL5 := Later.trans hL4 hM5
          have hrx5 := hrx.later (Later.trans hM34 hM5)
          rcases Hlaw.out with ⟨h0, he, rfl⟩ | ⟨rfl, hf2, hpo, hbo, hql⟩
          · injection he with e1 he
            injection he with e2 e3
            subst s1 s2 s3
            have hnx := hrx5.len
            simp only [List.length_nil] at hnx
            subst nx
            have h0c : (E != 0) = true := by simpa using h0
            clear h0 hrt
            go_wp2_with fail
            refine (awake_calls _).mono ?_
            rintro e wa ⟨rfl, hLa⟩
            go_wp2_with fail
            go_ret
            exact ⟨rfl, Later.trans hL0 (Later.trans hL5 hLa)⟩
          · have ok := okC_of_fault hf2
            have hrt' := hrt rfl
            have hnt := hrt'.len
            have htl : nt ≤ 1000000 := by rw [hnt, ← (truthsP_perm hf2).length_eq]; have := truthsP_len hf2; omega
            have hdry := truths_isDry ok.toOkH
            have hip := fun (W : World) (hW : Later w0 W) => IsPlace_calls (kp := kp) (k1 := k1) (k2 := k2) (k3 := k3) W (hc0.later hW) (hp0.later hW) hcl (by omega) (by omega)
            have hbr := fun (W : World) (hK : Later w5 W) => BestR_calls (k1 := k1) (k2 := k2) (k3 := k3) (kl := kt) W (hc0.later (Later.trans hL5 hK)) hcl (hrt'.later hK) ok hdry htl
            unfold BestRPost at hbr
            obtain ⟨bq, hbq⟩ : ∃ b, bestR c (truths c) = b := ⟨_, rfl⟩
            rw [hbq] at hbr hbo hql
            have Hbr := hide hbr
            have hsr := fun (W : World) (hK : Later w5 W) (hpl : IsPl c p) => Stuck_calls (k1 := k1) (k2 := k2) (k3 := k3) (kl := kt) (kp := kp) W (hc0.later (Later.trans hL5 hK)) (hrt'.later hK) (hp0.later (Later.trans hL5 hK)) ok hpl hdry htl
            have hdr := fun (W : World) (hK : Later w5 W) (hpl : IsPl c p) => Done_calls (k1 := k1) (k2 := k2) (k3 := k3) (kl := kt) (kp := kp) W (hc0.later (Later.trans hL5 hK)) (hrt'.later hK) (hp0.later (Later.trans hL5 hK)) ok hpl hdry htl
            obtain ⟨s, hs⟩ : ∃ s, stuckR c (truths c) p = s := ⟨_, rfl⟩
            obtain ⟨m, hm⟩ : ∃ m, doneR c (truths c) p = m := ⟨_, rfl⟩
            obtain ⟨b, hb⟩ : ∃ b, isPlaceB c p = b := ⟨_, rfl⟩
            have hpl : b = true → IsPl c p := fun h => isPlaceB_isPl hf2 (hb.trans h)
            rw [hs] at hsr hpo
            rw [hm] at hdr hpo
            rw [hb] at hip hpo
            have Hip := hide hip
            have Hsr2 := hide hsr
            have Hdr := hide hdr
            have Hbo := hide hbo
            have Hql := hide hql
            have hK5 : Later w5 w5 := later_refl _
            have hll : i64 c.closets := hcl
            clear hip hsr hdr hs hm hb hbq hbr hbo hql hrt hrt' hnt htl hdry ok
            cases b with
            | false =>
              rw [Bool.false_and] at hpo
              subst u
              go_wp2_with fail
              refine (Hip.out w5 hL5).mono ?_
              rintro e w6 ⟨rfl, hM6⟩
              have hL6 := Later.trans hL5 hM6
              have hK6 := hM6
              go_wp2_with fail
              refine (Hbr.out w6 hK6).mono ?_
              rintro e w10 ⟨v, d, fv, rfl, hM10, hbi⟩
              have hL10 := Later.trans hL6 hM10
              have hrx10 := hrx5.later (Later.trans hK6 hM10)
              have hbo := Hbo.out
              have hql := Hql.out
              cases bq with
              | none =>
                obtain ⟨rfl, rfl, rfl⟩ := hbi
                injection hbo with e1 e2
                injection e2 with e2 e3
                subst s1 s2 s3
                have hnx := hrx10.len
                simp only [List.length_nil] at hnx
                subst nx
                clear hql
                go_wp2_with fail
                refine (awake_calls _).mono ?_
                rintro e wa ⟨rfl, hLa⟩
                go_wp2_with fail
                go_ret
                exact ⟨rfl, Later.trans hL0 (Later.trans hL10 hLa)⟩
              | some q =>
                obtain ⟨⟨Ab, nb, kb, rfl, hrb, hkb⟩, rfl, rfl⟩ := hbi
                have hq4 := hql q rfl
                injection hbo with e1 e2
                injection e2 with e2 e3
                subst s1 s2 s3
                have hnx := hrx10.len
                have hnb := hrb.len
                have hsm := same_calls (k := kx) (j := kb) w10 hrx10 hrb (by omega) (by omega)
                rw [decide_eq_true rfl] at hsm
                have Hsm := hide hsm
                clear hsm hql hnx hnb hq4
                go_wp2_with fail
                refine (Hsm.out).mono ?_
                rintro e w11 ⟨rfl, hM11⟩
                have hL11 := Later.trans hL10 hM11
                go_wp2_with fail
                refine (awake_calls _).mono ?_
                rintro e wa ⟨rfl, hLa⟩
                go_wp2_with fail
                go_ret
                exact ⟨rfl, Later.trans hL0 (Later.trans hL11 hLa)⟩
            | true =>
              have hplp := hpl rfl
              rw [Bool.true_and] at hpo
              by_cases hs0 : s < 0
              · rw [decide_eq_true hs0, Bool.true_and] at hpo
                have huu : (u != decide (m ≤ n)) = false := by rw [hpo]; simp
                by_cases hmn : m ≤ n
                · rw [decide_eq_true hmn] at hpo
                  subst u
                  clear huu
                  go_wp2_with fail
                  refine (Hip.out w5 hL5).mono ?_
                  rintro e w6 ⟨rfl, hM6⟩
                  have hL6 := Later.trans hL5 hM6
                  go_wp2_with fail
                  refine (Hsr2.out w6 hM6 hplp).mono ?_
                  rintro e w7 ⟨rfl, hM7⟩
                  have hL7 := Later.trans hL6 hM7
                  have hK7 := Later.trans hM6 hM7
                  go_wp2_with fail
                  refine (Hdr.out w7 hK7 hplp).mono ?_
                  rintro e w8 ⟨rfl, hM8⟩
                  have hL8 := Later.trans hL7 hM8
                  have hK8 := Later.trans hK7 hM8
                  go_wp2_with fail
                  refine (Hbr.out w8 hK8).mono ?_
                  rintro e w10 ⟨v, d, fv, rfl, hM10, hbi⟩
                  have hL10 := Later.trans hL8 hM10
                  have hrx10 := hrx5.later (Later.trans hK8 hM10)
                  have hbo := Hbo.out
                  have hql := Hql.out
                  cases bq with
                  | none =>
                    obtain ⟨rfl, rfl, rfl⟩ := hbi
                    injection hbo with e1 e2
                    injection e2 with e2 e3
                    subst s1 s2 s3
                    have hnx := hrx10.len
                    simp only [List.length_nil] at hnx
                    subst nx
                    clear hql
                    go_wp2_with fail
                    refine (awake_calls _).mono ?_
                    rintro e wa ⟨rfl, hLa⟩
                    go_wp2_with fail
                    go_ret
                    exact ⟨rfl, Later.trans hL0 (Later.trans hL10 hLa)⟩
                  | some q =>
                    obtain ⟨⟨Ab, nb, kb, rfl, hrb, hkb⟩, rfl, rfl⟩ := hbi
                    have hq4 := hql q rfl
                    injection hbo with e1 e2
                    injection e2 with e2 e3
                    subst s1 s2 s3
                    have hnx := hrx10.len
                    have hnb := hrb.len
                    have hsm := same_calls (k := kx) (j := kb) w10 hrx10 hrb (by omega) (by omega)
                    rw [decide_eq_true rfl] at hsm
                    have Hsm := hide hsm
                    clear hsm hql hnx hnb hq4
                    go_wp2_with fail
                    refine (Hsm.out).mono ?_
                    rintro e w11 ⟨rfl, hM11⟩
                    have hL11 := Later.trans hL10 hM11
                    go_wp2_with fail
                    refine (awake_calls _).mono ?_
                    rintro e wa ⟨rfl, hLa⟩
                    go_wp2_with fail
                    go_ret
                    exact ⟨rfl, Later.trans hL0 (Later.trans hL11 hLa)⟩
                · rw [decide_eq_false hmn] at hpo
                  subst u
                  clear huu
                  go_wp2_with fail
                  refine (Hip.out w5 hL5).mono ?_
                  rintro e w6 ⟨rfl, hM6⟩
                  have hL6 := Later.trans hL5 hM6
                  go_wp2_with fail
                  refine (Hsr2.out w6 hM6 hplp).mono ?_
                  rintro e w7 ⟨rfl, hM7⟩
                  have hL7 := Later.trans hL6 hM7
                  have hK7 := Later.trans hM6 hM7
                  go_wp2_with fail
                  refine (Hdr.out w7 hK7 hplp).mono ?_
                  rintro e w8 ⟨rfl, hM8⟩
                  have hL8 := Later.trans hL7 hM8
                  have hK8 := Later.trans hK7 hM8
                  go_wp2_with fail
                  refine (Hbr.out w8 hK8).mono ?_
                  rintro e w10 ⟨v, d, fv, rfl, hM10, hbi⟩
                  have hL10 := Later.trans hL8 hM10
                  have hrx10 := hrx5.later (Later.trans hK8 hM10)
                  have hbo := Hbo.out
                  have hql := Hql.out
                  cases bq with
                  | none =>
                    obtain ⟨rfl, rfl, rfl⟩ := hbi
                    injection hbo with e1 e2
                    injection e2 with e2 e3
                    subst s1 s2 s3
                    have hnx := hrx10.len
                    simp only [List.length_nil] at hnx
                    subst nx
                    clear hql
                    go_wp2_with fail
                    refine (awake_calls _).mono ?_
                    rintro e wa ⟨rfl, hLa⟩
                    go_wp2_with fail
                    go_ret
                    exact ⟨rfl, Later.trans hL0 (Later.trans hL10 hLa)⟩
                  | some q =>
                    obtain ⟨⟨Ab, nb, kb, rfl, hrb, hkb⟩, rfl, rfl⟩ := hbi
                    have hq4 := hql q rfl
                    injection hbo with e1 e2
                    injection e2 with e2 e3
                    subst s1 s2 s3
                    have hnx := hrx10.len
                    have hnb := hrb.len
                    have hsm := same_calls (k := kx) (j := kb) w10 hrx10 hrb (by omega) (by omega)
                    rw [decide_eq_true rfl] at hsm
                    have Hsm := hide hsm
                    clear hsm hql hnx hnb hq4
                    go_wp2_with fail
                    refine (Hsm.out).mono ?_
                    rintro e w11 ⟨rfl, hM11⟩
                    have hL11 := Later.trans hL10 hM11
                    go_wp2_with fail
                    refine (awake_calls _).mono ?_
                    rintro e wa ⟨rfl, hLa⟩
                    go_wp2_with fail
                    go_ret
                    exact ⟨rfl, Later.trans hL0 (Later.trans hL11 hLa)⟩
              · rw [decide_eq_false hs0, Bool.false_and] at hpo
                subst u
                go_wp2_with fail
                refine (Hip.out w5 hL5).mono ?_
                rintro e w6 ⟨rfl, hM6⟩
                have hL6 := Later.trans hL5 hM6
                go_wp2_with fail
                refine (Hsr2.out w6 hM6 hplp).mono ?_
                rintro e w7 ⟨rfl, hM7⟩
                have hL7 := Later.trans hL6 hM7
                have hK7 := Later.trans hM6 hM7
                go_wp2_with fail
                refine (Hbr.out w7 hK7).mono ?_
                rintro e w10 ⟨v, d, fv, rfl, hM10, hbi⟩
                have hL10 := Later.trans hL7 hM10
                have hrx10 := hrx5.later (Later.trans hK7 hM10)
                have hbo := Hbo.out
                have hql := Hql.out
                cases bq with
                | none =>
                  obtain ⟨rfl, rfl, rfl⟩ := hbi
                  injection hbo with e1 e2
                  injection e2 with e2 e3
                  subst s1 s2 s3
                  have hnx := hrx10.len
                  simp only [List.length_nil] at hnx
                  subst nx
                  clear hql
                  go_wp2_with fail
                  refine (awake_calls _).mono ?_
                  rintro e wa ⟨rfl, hLa⟩
                  go_wp2_with fail
                  go_ret
                  exact ⟨rfl, Later.trans hL0 (Later.trans hL10 hLa)⟩
                | some q =>
                  obtain ⟨⟨Ab, nb, kb, rfl, hrb, hkb⟩, rfl, rfl⟩ := hbi
                  have hq4 := hql q rfl
                  injection hbo with e1 e2
                  injection e2 with e2 e3
                  subst s1 s2 s3
                  have hnx := hrx10.len
                  have hnb := hrb.len
                  have hsm := same_calls (k := kx) (j := kb) w10 hrx10 hrb (by omega) (by omega)
                  rw [decide_eq_true rfl] at hsm
                  have Hsm := hide hsm
                  clear hsm hql hnx hnb hq4
                  go_wp2_with fail
                  refine (Hsm.out).mono ?_
                  rintro e w11 ⟨rfl, hM11⟩
                  have hL11 := Later.trans hL10 hM11
                  go_wp2_with fail
                  refine (awake_calls _).mono ?_
                  rintro e wa ⟨rfl, hLa⟩
                  go_wp2_with fail
                  go_ret
                  exact ⟨rfl, Later.trans hL0 (Later.trans hL11 hLa)⟩
end Go.Proofs.Ytjilckjhdlabaaa
