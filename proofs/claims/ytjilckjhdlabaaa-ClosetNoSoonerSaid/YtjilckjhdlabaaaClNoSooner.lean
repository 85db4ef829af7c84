/- ClosetNoSooner: the walk. -/
import Derived.Test.YtjilckjhdlabaaaClNs
import Derived.Test.YtjilckjhdlabaaaPart11
set_option linter.unusedSimpArgs false
set_option linter.unusedVariables false
namespace Go.Proofs.Ytjilckjhdlabaaa
open Go Go.RowKit
attribute [local go_sem] later_alloc2 later_alloc3 later_alloc4

set_option maxRecDepth 100000 in
set_option maxHeartbeats 16000000 in
theorem lawNoSooner_calls {A1 A2 A3 : Option Addr} {n1 k1 n2 k2 n3 k3 : Nat} {c : Clo} {Aw : Option Addr} {nw kw : Nat} {l : List Nat} {x : Nat} (w : World) (hc : CV w c A1 n1 A2 n2 A3 n3) (hcl : i64 c.closets) (b1 : n1 ≤ 9223372036854775807) (b2 : n2 ≤ 9223372036854775807) (b3 : n3 ≤ 9223372036854775807)
    (hw : RW w Aw nw l) (hnw : nw ≤ 9223372036854775807) (hx : x < 256) :
    Calls Try.prog 14 #[(.agg #[.int .i64 c.closets, .int .i64 c.close, .slice A1 n1 k1, .slice A2 n2 k2, .slice A3 n3 k3]), .slice Aw nw kw, .int .u8 x] w fun e w' => e = .returned (.bool true) ∧ Later w w' := by
  obtain ⟨w0, hw0⟩ : ∃ W, W = (w.alloc (.cells #[.int .i64 c.closets, .int .i64 c.close, .slice A1 n1 k1, .slice A2 n2 k2, .slice A3 n3 k3] 26)) := ⟨_, rfl⟩; have hbox : ∀ W, Later w0 W → ∀ i, W.cell? ⟨w.heap.size, i, none⟩ = #[.int .i64 c.closets, .int .i64 c.close, .slice A1 n1 k1, .slice A2 n2 k2, .slice A3 n3 k3][i]? := (by rw [hw0]; exact box_cells w #[.int .i64 c.closets, .int .i64 c.close, .slice A1 n1 k1, .slice A2 n2 k2, .slice A3 n3 k3] 26); have hL0 : Later w w0 := (by rw [hw0]; simp); have hc0 := hc.later hL0; have Hw0 := hide hw0; clear hw0
  have hw0' := hw.later hL0
  have hrdy := ready_calls (k1 := k1) (k2 := k2) (k3 := k3) w0 hc0 hcl b1 b2 b3
  cases hth : readyB c with
  | false =>
    rw [hth] at hrdy
    have Hrdy := hide hrdy
    clear hth hrdy
    go_enter Try.func14, Try.ntmps14
    go_wp2_with fail
    rw [← Hw0.out]; clear Hw0
    refine Hrdy.out.mono ?_
    rintro e w1 ⟨rfl, hL1⟩
    go_wp2_with fail
    refine (awake_calls _).mono ?_
    rintro e w2 ⟨rfl, hL2⟩
    go_wp2_with fail
    go_ret
    exact ⟨rfl, Later.trans hL0 (Later.trans hL1 hL2)⟩
  | true =>
    rw [hth] at hrdy
    have hn1 := hc.hs.len
    have hn2 := hc.hu.len
    have hn3 := hc.lk.len
    have hf := (readyB_true hth).2
    have ok := okC_of_fault hf
    have l1 : n1 ≤ 4 := by have := ok.len; omega
    have l2 : n2 ≤ 4 := by have := ok.len; have := ok.hung.len; omega
    have l3 : n3 ≤ 5 := by have := ok.nlooks; omega
    have Hn1 := hide hn1
    have Hn2 := hide hn2
    have Hn3 := hide hn3
    have Hf := hide hf
    have Hrdy := hide hrdy
    clear hth hrdy hn1 hn2 hn3 hf
    have hbp := fun (B1 B2 B3 : Option Addr) (j1 j2 j3 : Nat) (W : World) (h : CV W c B1 n1 B2 n2 B3 n3) (h2 : n2 ≤ j2) =>
      BestP_calls (k1 := j1) (k2 := j2) (k3 := j3) W h hcl (by omega) (by omega) (by omega) h2
    unfold BestPost at hbp
    have hpp := fun (p : List Int) (B1 B2 B3 : Option Addr) (j1 j2 j3 : Nat) (W : World) (h : CV W c B1 n1 B2 n2 B3 n3) (h2 : n2 ≤ j2) (Aq : Option Addr) (kq : Nat) (hq : RI W Aq n1 p) (hk : n1 ≤ kq) (n : Int) =>
      ProvePlace_calls (k1 := j1) (k2 := j2) (k3 := j3) (kp := kq) (n := n) W h hcl (by omega) (by omega) (by omega) h2 hq hk (by omega)
    have Hbp := hide hbp
    have Hpp := hide hpp
    clear hbp hpp
    go_enter Try.func14, Try.ntmps14
    go_wp2_with fail
    rw [← Hw0.out]; clear Hw0
    refine Hrdy.out.mono ?_
    rintro e w1 ⟨rfl, hL1⟩
    go_wp2_with fail
    refine (Placed_calls (k1 := k1) (k2 := k2) (k3 := k3) (kw := kw) w1 (hc0.later hL1) ok (hw0'.later hL1) hnw).mono ?_
    rintro e w2 ⟨Ap, kp, p, rfl, hM2, hrp, hkp, hpl⟩
    have hL2 := Later.trans hL1 hM2
    rw [← Hn1.out] at hrp hkp ⊢
    have law := noSooner_law Hf.out hpl
    have hbp := Hbp.out
    rcases law with ⟨e0, he0, ho, hno⟩ | ⟨x0, m, ho, hxp, hm0, hm1, h1, h2, h3, h4, h5⟩
    · rw [ho] at hbp
      have Hbp := hide hbp
      have hpp := Hpp.out p
      simp only [hno] at hpp
      have Hpp := hide (fun (_ : List Int) => hpp)
      clear hbp ho hno hpp
      go_wp2_with fail
      refine (lawCloset_calls (k1 := k1) (k2 := k2) (k3 := k3) w2 (hc0.later hL2) (by omega) (by omega) (by omega)).mono ?_
      rintro e wa ⟨B1a, j1a, B2a, j2a, B3a, j3a, rfl, hMa, hca, hj1a, hj2a, hj3a⟩
      have hLa := Later.trans hL2 hMa
      go_wp2_with fail
      refine (Hbp.out _ _ _ _ _ _ wa hca hj2a).mono ?_
      rintro e wb ⟨Ax, nx, kx, rfl, hMb, _, _⟩
      have hLb := Later.trans hLa hMb
      have hrpb := hrp.later (Later.trans hMa hMb)
      have hKb : Later wb wb := later_refl _
      clear hca hMa hLa hMb hrp hj1a hj2a hj3a
      go_wp2_with fail
      refine (lawCloset_calls (k1 := k1) (k2 := k2) (k3 := k3) wb (hc0.later hLb) (by omega) (by omega) (by omega)).mono ?_
      rintro e wc ⟨B1c, j1c, B2c, j2c, B3c, j3c, rfl, hMc, hcc, hj1c, hj2c, hj3c⟩
      have hLc := Later.trans hLb hMc
      go_wp2_with fail
      refine (list_calls _ (hrpb.later hMc) (by omega)).mono ?_
      rintro e vc ⟨Aq, nq, kq, rfl, hNc, hrc, hkc, _⟩
      have hnq := hrc.len
      rw [← hrpb.len] at hnq
      subst nq
      go_wp2_with fail
      refine (Hpp.out p _ _ _ _ _ _ vc (hcc.later hNc) hj2c _ _ hrc hkc _).mono ?_
      rintro e yc ⟨rfl, hOc⟩
      have hLy := Later.trans hLc (Later.trans hNc hOc)
      rcases he0 with rfl | rfl
      · go_wp2_with fail
        refine (awake_calls _).mono ?_
        rintro e wa ⟨rfl, hLa⟩
        go_wp2_with fail
        go_ret
        exact ⟨rfl, Later.trans hL0 (Later.trans hLy hLa)⟩
      · go_wp2_with fail
        refine (awake_calls _).mono ?_
        rintro e wa ⟨rfl, hLa⟩
        go_wp2_with fail
        go_ret
        exact ⟨rfl, Later.trans hL0 (Later.trans hLy hLa)⟩
    · rw [ho] at hbp
      dsimp only at hbp
      have hib : isPlaceB c x0 = true := (isPlaceB_iff ok.cl1 ok.cl4 x0).2 hxp
      have hip := fun (W : World) (hW : Later w0 W) (Aq : Option Addr) (kq : Nat) (hq : RI W Aq n1 x0) => IsPlace_calls (kp := kq) (k1 := k1) (k2 := k2) (k3 := k3) W (hc0.later hW) hq hcl (by omega) (by omega)
      rw [hib] at hip
      have hlx := hxp.len
      rw [← Hn1.out] at hlx
      have hsub : IntKind.i64.wrap (m - 1) = m - 1 := IntWalk.i64_in _ (by omega)
      have Hip := hide hip
      have Hbp := hide hbp
      have H1 := hide h1
      have H2 := hide h2
      have H3 := hide h3
      have H4 := hide h4
      have H5 := hide h5
      have Hlx := hide hlx
      clear hbp ho hip hib h1 h2 h3 h4 h5 hlx hsub
      go_wp2_with fail
      refine (lawCloset_calls (k1 := k1) (k2 := k2) (k3 := k3) w2 (hc0.later hL2) (by omega) (by omega) (by omega)).mono ?_
      rintro e wa ⟨B1a, j1a, B2a, j2a, B3a, j3a, rfl, hMa, hca, hj1a, hj2a, hj3a⟩
      have hLa := Later.trans hL2 hMa
      go_wp2_with fail
      refine (Hbp.out _ _ _ _ _ _ wa hca hj2a).mono ?_
      rintro e wb ⟨Ax, nx, kx, rfl, hMb, hrx, hkx⟩
      have hLb := Later.trans hLa hMb
      have hrpb := hrp.later (Later.trans hMa hMb)
      have hKb : Later wb wb := later_refl _
      have hnx := hrx.len
      rw [Hlx.out] at hnx
      subst nx
      clear hca hMa hLa hMb hrp hj1a hj2a hj3a
      cases hq1 : placeOut c p ((x : Int) % 100) with
      | false =>
        have Hq1 := hide hq1
        clear hq1
        cases hq2 : placeOut c p m with
        | false =>
          have Hq2 := hide hq2
          clear hq2
          go_wp2_with fail
          refine (lawCloset_calls (k1 := k1) (k2 := k2) (k3 := k3) wb (hc0.later hLb) (by omega) (by omega) (by omega)).mono ?_
          rintro e wp ⟨B1p, j1p, B2p, j2p, B3p, j3p, rfl, hMp, hcp, hj1p, hj2p, hj3p⟩
          have hLp := Later.trans hLb hMp
          go_wp2_with fail
          refine (list_calls _ (hrpb.later (Later.trans hKb hMp)) (by omega)).mono ?_
          rintro e vp ⟨Aqp, nqp, kqp, rfl, hNp, hrp, hkp, _⟩
          have hnqp := hrp.len
          rw [← hrpb.len] at hnqp
          subst nqp
          go_wp2_with fail
          refine (Hpp.out _ _ _ _ _ _ _ vp (hcp.later hNp) hj2p _ _ hrp hkp (((x : Int) % 100))).mono ?_
          rintro e yp ⟨rfl, hOp⟩
          have hLyp := Later.trans hLp (Later.trans hNp hOp)
          have hKyp := Later.trans hKb (Later.trans hMp (Later.trans hNp hOp))
          clear hcp hrp hNp hOp hMp hLp hj1p hj2p hj3p
          rw [Hq1.out]
          go_wp2_with fail
          refine (Hip.out yp hLyp _ _ (hrx.later hKyp)).mono ?_
          rintro e w5 ⟨rfl, hM5⟩
          have hL5 := Later.trans hLyp hM5
          have hK5 := Later.trans hKyp hM5
          go_wp2_with fail
          refine (lawCloset_calls (k1 := k1) (k2 := k2) (k3 := k3) w5 (hc0.later hL5) (by omega) (by omega) (by omega)).mono ?_
          rintro e wq ⟨B1q, j1q, B2q, j2q, B3q, j3q, rfl, hMq, hcq, hj1q, hj2q, hj3q⟩
          have hLq := Later.trans hL5 hMq
          go_wp2_with fail
          refine (list_calls _ (hrx.later (Later.trans hK5 hMq)) (by omega)).mono ?_
          rintro e vq ⟨Aqq, nqq, kqq, rfl, hNq, hrq, hkq, _⟩
          have hnqq := hrq.len
          rw [← hrx.len] at hnqq
          subst nqq
          go_wp2_with fail
          refine (Hpp.out _ _ _ _ _ _ _ vq (hcq.later hNq) hj2q _ _ hrq hkq (m)).mono ?_
          rintro e yq ⟨rfl, hOq⟩
          have hLyq := Later.trans hLq (Later.trans hNq hOq)
          have hKyq := Later.trans hK5 (Later.trans hMq (Later.trans hNq hOq))
          clear hcq hrq hNq hOq hMq hLq hj1q hj2q hj3q
          rw [H1.out]
          go_wp2_with fail
          refine (lawCloset_calls (k1 := k1) (k2 := k2) (k3 := k3) yq (hc0.later hLyq) (by omega) (by omega) (by omega)).mono ?_
          rintro e wr ⟨B1r, j1r, B2r, j2r, B3r, j3r, rfl, hMr, hcr, hj1r, hj2r, hj3r⟩
          have hLr := Later.trans hLyq hMr
          go_wp2_with fail
          refine (list_calls _ (hrx.later (Later.trans hKyq hMr)) (by omega)).mono ?_
          rintro e vr ⟨Aqr, nqr, kqr, rfl, hNr, hrr, hkr, _⟩
          have hnqr := hrr.len
          rw [← hrx.len] at hnqr
          subst nqr
          go_wp2_with fail
          refine (Hpp.out _ _ _ _ _ _ _ vr (hcr.later hNr) hj2r _ _ hrr hkr ((m - 1))).mono ?_
          rintro e yr ⟨rfl, hOr⟩
          have hLyr := Later.trans hLr (Later.trans hNr hOr)
          have hKyr := Later.trans hKyq (Later.trans hMr (Later.trans hNr hOr))
          clear hcr hrr hNr hOr hMr hLr hj1r hj2r hj3r
          rw [H2.out]
          go_wp2_with fail
          refine (lawCloset_calls (k1 := k1) (k2 := k2) (k3 := k3) yr (hc0.later hLyr) (by omega) (by omega) (by omega)).mono ?_
          rintro e ws ⟨B1s, j1s, B2s, j2s, B3s, j3s, rfl, hMs, hcs, hj1s, hj2s, hj3s⟩
          have hLs := Later.trans hLyr hMs
          go_wp2_with fail
          refine (list_calls _ (hrpb.later (Later.trans hKyr hMs)) (by omega)).mono ?_
          rintro e vs ⟨Aqs, nqs, kqs, rfl, hNs, hrs, hks, _⟩
          have hnqs := hrs.len
          rw [← hrpb.len] at hnqs
          subst nqs
          go_wp2_with fail
          refine (Hpp.out _ _ _ _ _ _ _ vs (hcs.later hNs) hj2s _ _ hrs hks (m)).mono ?_
          rintro e ys ⟨rfl, hOs⟩
          have hLys := Later.trans hLs (Later.trans hNs hOs)
          have hKys := Later.trans hKyr (Later.trans hMs (Later.trans hNs hOs))
          clear hcs hrs hNs hOs hMs hLs hj1s hj2s hj3s
          rw [Hq2.out]
          go_wp2_with fail
          refine (lawCloset_calls (k1 := k1) (k2 := k2) (k3 := k3) ys (hc0.later hLys) (by omega) (by omega) (by omega)).mono ?_
          rintro e wt ⟨B1t, j1t, B2t, j2t, B3t, j3t, rfl, hMt, hct, hj1t, hj2t, hj3t⟩
          have hLt := Later.trans hLys hMt
          go_wp2_with fail
          refine (list_calls _ (hrpb.later (Later.trans hKys hMt)) (by omega)).mono ?_
          rintro e vt ⟨Aqt, nqt, kqt, rfl, hNt, hrt, hkt, _⟩
          have hnqt := hrt.len
          rw [← hrpb.len] at hnqt
          subst nqt
          go_wp2_with fail
          refine (Hpp.out _ _ _ _ _ _ _ vt (hct.later hNt) hj2t _ _ hrt hkt ((m - 1))).mono ?_
          rintro e yt ⟨rfl, hOt⟩
          have hLyt := Later.trans hLt (Later.trans hNt hOt)
          have hKyt := Later.trans hKys (Later.trans hMt (Later.trans hNt hOt))
          clear hct hrt hNt hOt hMt hLt hj1t hj2t hj3t
          rw [H3.out]
          go_wp2_with fail
          refine (awake_calls _).mono ?_
          rintro e wa ⟨rfl, hLa⟩
          go_wp2_with fail
          go_ret
          exact ⟨rfl, Later.trans hL0 (Later.trans hLyt hLa)⟩
        | true =>
          have hbf := H5.out hq2
          have Hq2 := hide hq2
          have hbc := fun (W : World) (hK : Later wb W) => Before_calls (k := kp) (j := kx) W (hrpb.later hK) (hrx.later hK) (by omega) (by omega)
          rw [hbf] at hbc
          have Hbc := hide hbc
          clear hq2 hbf hbc
          go_wp2_with fail
          refine (lawCloset_calls (k1 := k1) (k2 := k2) (k3 := k3) wb (hc0.later hLb) (by omega) (by omega) (by omega)).mono ?_
          rintro e wp ⟨B1p, j1p, B2p, j2p, B3p, j3p, rfl, hMp, hcp, hj1p, hj2p, hj3p⟩
          have hLp := Later.trans hLb hMp
          go_wp2_with fail
          refine (list_calls _ (hrpb.later (Later.trans hKb hMp)) (by omega)).mono ?_
          rintro e vp ⟨Aqp, nqp, kqp, rfl, hNp, hrp, hkp, _⟩
          have hnqp := hrp.len
          rw [← hrpb.len] at hnqp
          subst nqp
          go_wp2_with fail
          refine (Hpp.out _ _ _ _ _ _ _ vp (hcp.later hNp) hj2p _ _ hrp hkp (((x : Int) % 100))).mono ?_
          rintro e yp ⟨rfl, hOp⟩
          have hLyp := Later.trans hLp (Later.trans hNp hOp)
          have hKyp := Later.trans hKb (Later.trans hMp (Later.trans hNp hOp))
          clear hcp hrp hNp hOp hMp hLp hj1p hj2p hj3p
          rw [Hq1.out]
          go_wp2_with fail
          refine (Hip.out yp hLyp _ _ (hrx.later hKyp)).mono ?_
          rintro e w5 ⟨rfl, hM5⟩
          have hL5 := Later.trans hLyp hM5
          have hK5 := Later.trans hKyp hM5
          go_wp2_with fail
          refine (lawCloset_calls (k1 := k1) (k2 := k2) (k3 := k3) w5 (hc0.later hL5) (by omega) (by omega) (by omega)).mono ?_
          rintro e wq ⟨B1q, j1q, B2q, j2q, B3q, j3q, rfl, hMq, hcq, hj1q, hj2q, hj3q⟩
          have hLq := Later.trans hL5 hMq
          go_wp2_with fail
          refine (list_calls _ (hrx.later (Later.trans hK5 hMq)) (by omega)).mono ?_
          rintro e vq ⟨Aqq, nqq, kqq, rfl, hNq, hrq, hkq, _⟩
          have hnqq := hrq.len
          rw [← hrx.len] at hnqq
          subst nqq
          go_wp2_with fail
          refine (Hpp.out _ _ _ _ _ _ _ vq (hcq.later hNq) hj2q _ _ hrq hkq (m)).mono ?_
          rintro e yq ⟨rfl, hOq⟩
          have hLyq := Later.trans hLq (Later.trans hNq hOq)
          have hKyq := Later.trans hK5 (Later.trans hMq (Later.trans hNq hOq))
          clear hcq hrq hNq hOq hMq hLq hj1q hj2q hj3q
          rw [H1.out]
          go_wp2_with fail
          refine (lawCloset_calls (k1 := k1) (k2 := k2) (k3 := k3) yq (hc0.later hLyq) (by omega) (by omega) (by omega)).mono ?_
          rintro e wr ⟨B1r, j1r, B2r, j2r, B3r, j3r, rfl, hMr, hcr, hj1r, hj2r, hj3r⟩
          have hLr := Later.trans hLyq hMr
          go_wp2_with fail
          refine (list_calls _ (hrx.later (Later.trans hKyq hMr)) (by omega)).mono ?_
          rintro e vr ⟨Aqr, nqr, kqr, rfl, hNr, hrr, hkr, _⟩
          have hnqr := hrr.len
          rw [← hrx.len] at hnqr
          subst nqr
          go_wp2_with fail
          refine (Hpp.out _ _ _ _ _ _ _ vr (hcr.later hNr) hj2r _ _ hrr hkr ((m - 1))).mono ?_
          rintro e yr ⟨rfl, hOr⟩
          have hLyr := Later.trans hLr (Later.trans hNr hOr)
          have hKyr := Later.trans hKyq (Later.trans hMr (Later.trans hNr hOr))
          clear hcr hrr hNr hOr hMr hLr hj1r hj2r hj3r
          rw [H2.out]
          go_wp2_with fail
          refine (lawCloset_calls (k1 := k1) (k2 := k2) (k3 := k3) yr (hc0.later hLyr) (by omega) (by omega) (by omega)).mono ?_
          rintro e ws ⟨B1s, j1s, B2s, j2s, B3s, j3s, rfl, hMs, hcs, hj1s, hj2s, hj3s⟩
          have hLs := Later.trans hLyr hMs
          go_wp2_with fail
          refine (list_calls _ (hrpb.later (Later.trans hKyr hMs)) (by omega)).mono ?_
          rintro e vs ⟨Aqs, nqs, kqs, rfl, hNs, hrs, hks, _⟩
          have hnqs := hrs.len
          rw [← hrpb.len] at hnqs
          subst nqs
          go_wp2_with fail
          refine (Hpp.out _ _ _ _ _ _ _ vs (hcs.later hNs) hj2s _ _ hrs hks (m)).mono ?_
          rintro e ys ⟨rfl, hOs⟩
          have hLys := Later.trans hLs (Later.trans hNs hOs)
          have hKys := Later.trans hKyr (Later.trans hMs (Later.trans hNs hOs))
          clear hcs hrs hNs hOs hMs hLs hj1s hj2s hj3s
          rw [Hq2.out]
          go_wp2_with fail
          refine (Hbc.out ys hKys).mono ?_
          rintro e w7 ⟨rfl, hM7⟩
          have hL7 := Later.trans hLys hM7
          have hK7 := Later.trans hKys hM7
          go_wp2_with fail
          refine (lawCloset_calls (k1 := k1) (k2 := k2) (k3 := k3) w7 (hc0.later hL7) (by omega) (by omega) (by omega)).mono ?_
          rintro e wt ⟨B1t, j1t, B2t, j2t, B3t, j3t, rfl, hMt, hct, hj1t, hj2t, hj3t⟩
          have hLt := Later.trans hL7 hMt
          go_wp2_with fail
          refine (list_calls _ (hrpb.later (Later.trans hK7 hMt)) (by omega)).mono ?_
          rintro e vt ⟨Aqt, nqt, kqt, rfl, hNt, hrt, hkt, _⟩
          have hnqt := hrt.len
          rw [← hrpb.len] at hnqt
          subst nqt
          go_wp2_with fail
          refine (Hpp.out _ _ _ _ _ _ _ vt (hct.later hNt) hj2t _ _ hrt hkt ((m - 1))).mono ?_
          rintro e yt ⟨rfl, hOt⟩
          have hLyt := Later.trans hLt (Later.trans hNt hOt)
          have hKyt := Later.trans hK7 (Later.trans hMt (Later.trans hNt hOt))
          clear hct hrt hNt hOt hMt hLt hj1t hj2t hj3t
          rw [H3.out]
          go_wp2_with fail
          refine (awake_calls _).mono ?_
          rintro e wa ⟨rfl, hLa⟩
          go_wp2_with fail
          go_ret
          exact ⟨rfl, Later.trans hL0 (Later.trans hLyt hLa)⟩
      | true =>
        have hge := H4.out _ hq1
        have Hq1 := hide hq1
        clear hq1
        cases hq2 : placeOut c p m with
        | false =>
          have Hq2 := hide hq2
          clear hq2
          go_wp2_with fail
          refine (lawCloset_calls (k1 := k1) (k2 := k2) (k3 := k3) wb (hc0.later hLb) (by omega) (by omega) (by omega)).mono ?_
          rintro e wp ⟨B1p, j1p, B2p, j2p, B3p, j3p, rfl, hMp, hcp, hj1p, hj2p, hj3p⟩
          have hLp := Later.trans hLb hMp
          go_wp2_with fail
          refine (list_calls _ (hrpb.later (Later.trans hKb hMp)) (by omega)).mono ?_
          rintro e vp ⟨Aqp, nqp, kqp, rfl, hNp, hrp, hkp, _⟩
          have hnqp := hrp.len
          rw [← hrpb.len] at hnqp
          subst nqp
          go_wp2_with fail
          refine (Hpp.out _ _ _ _ _ _ _ vp (hcp.later hNp) hj2p _ _ hrp hkp (((x : Int) % 100))).mono ?_
          rintro e yp ⟨rfl, hOp⟩
          have hLyp := Later.trans hLp (Later.trans hNp hOp)
          have hKyp := Later.trans hKb (Later.trans hMp (Later.trans hNp hOp))
          clear hcp hrp hNp hOp hMp hLp hj1p hj2p hj3p
          rw [Hq1.out]
          go_wp2_with fail
          refine (Hip.out yp hLyp _ _ (hrx.later hKyp)).mono ?_
          rintro e w5 ⟨rfl, hM5⟩
          have hL5 := Later.trans hLyp hM5
          have hK5 := Later.trans hKyp hM5
          go_wp2_with fail
          refine (lawCloset_calls (k1 := k1) (k2 := k2) (k3 := k3) w5 (hc0.later hL5) (by omega) (by omega) (by omega)).mono ?_
          rintro e wq ⟨B1q, j1q, B2q, j2q, B3q, j3q, rfl, hMq, hcq, hj1q, hj2q, hj3q⟩
          have hLq := Later.trans hL5 hMq
          go_wp2_with fail
          refine (list_calls _ (hrx.later (Later.trans hK5 hMq)) (by omega)).mono ?_
          rintro e vq ⟨Aqq, nqq, kqq, rfl, hNq, hrq, hkq, _⟩
          have hnqq := hrq.len
          rw [← hrx.len] at hnqq
          subst nqq
          go_wp2_with fail
          refine (Hpp.out _ _ _ _ _ _ _ vq (hcq.later hNq) hj2q _ _ hrq hkq (m)).mono ?_
          rintro e yq ⟨rfl, hOq⟩
          have hLyq := Later.trans hLq (Later.trans hNq hOq)
          have hKyq := Later.trans hK5 (Later.trans hMq (Later.trans hNq hOq))
          clear hcq hrq hNq hOq hMq hLq hj1q hj2q hj3q
          rw [H1.out]
          go_wp2_with fail
          refine (lawCloset_calls (k1 := k1) (k2 := k2) (k3 := k3) yq (hc0.later hLyq) (by omega) (by omega) (by omega)).mono ?_
          rintro e wr ⟨B1r, j1r, B2r, j2r, B3r, j3r, rfl, hMr, hcr, hj1r, hj2r, hj3r⟩
          have hLr := Later.trans hLyq hMr
          go_wp2_with fail
          refine (list_calls _ (hrx.later (Later.trans hKyq hMr)) (by omega)).mono ?_
          rintro e vr ⟨Aqr, nqr, kqr, rfl, hNr, hrr, hkr, _⟩
          have hnqr := hrr.len
          rw [← hrx.len] at hnqr
          subst nqr
          go_wp2_with fail
          refine (Hpp.out _ _ _ _ _ _ _ vr (hcr.later hNr) hj2r _ _ hrr hkr ((m - 1))).mono ?_
          rintro e yr ⟨rfl, hOr⟩
          have hLyr := Later.trans hLr (Later.trans hNr hOr)
          have hKyr := Later.trans hKyq (Later.trans hMr (Later.trans hNr hOr))
          clear hcr hrr hNr hOr hMr hLr hj1r hj2r hj3r
          rw [H2.out]
          go_wp2_with fail
          refine (lawCloset_calls (k1 := k1) (k2 := k2) (k3 := k3) yr (hc0.later hLyr) (by omega) (by omega) (by omega)).mono ?_
          rintro e ws ⟨B1s, j1s, B2s, j2s, B3s, j3s, rfl, hMs, hcs, hj1s, hj2s, hj3s⟩
          have hLs := Later.trans hLyr hMs
          go_wp2_with fail
          refine (list_calls _ (hrpb.later (Later.trans hKyr hMs)) (by omega)).mono ?_
          rintro e vs ⟨Aqs, nqs, kqs, rfl, hNs, hrs, hks, _⟩
          have hnqs := hrs.len
          rw [← hrpb.len] at hnqs
          subst nqs
          go_wp2_with fail
          refine (Hpp.out _ _ _ _ _ _ _ vs (hcs.later hNs) hj2s _ _ hrs hks (m)).mono ?_
          rintro e ys ⟨rfl, hOs⟩
          have hLys := Later.trans hLs (Later.trans hNs hOs)
          have hKys := Later.trans hKyr (Later.trans hMs (Later.trans hNs hOs))
          clear hcs hrs hNs hOs hMs hLs hj1s hj2s hj3s
          rw [Hq2.out]
          go_wp2_with fail
          refine (lawCloset_calls (k1 := k1) (k2 := k2) (k3 := k3) ys (hc0.later hLys) (by omega) (by omega) (by omega)).mono ?_
          rintro e wt ⟨B1t, j1t, B2t, j2t, B3t, j3t, rfl, hMt, hct, hj1t, hj2t, hj3t⟩
          have hLt := Later.trans hLys hMt
          go_wp2_with fail
          refine (list_calls _ (hrpb.later (Later.trans hKys hMt)) (by omega)).mono ?_
          rintro e vt ⟨Aqt, nqt, kqt, rfl, hNt, hrt, hkt, _⟩
          have hnqt := hrt.len
          rw [← hrpb.len] at hnqt
          subst nqt
          go_wp2_with fail
          refine (Hpp.out _ _ _ _ _ _ _ vt (hct.later hNt) hj2t _ _ hrt hkt ((m - 1))).mono ?_
          rintro e yt ⟨rfl, hOt⟩
          have hLyt := Later.trans hLt (Later.trans hNt hOt)
          have hKyt := Later.trans hKys (Later.trans hMt (Later.trans hNt hOt))
          clear hct hrt hNt hOt hMt hLt hj1t hj2t hj3t
          rw [H3.out]
          go_wp2_with fail
          refine (awake_calls _).mono ?_
          rintro e wa ⟨rfl, hLa⟩
          go_wp2_with fail
          go_ret
          exact ⟨rfl, Later.trans hL0 (Later.trans hLyt hLa)⟩
        | true =>
          have hbf := H5.out hq2
          have Hq2 := hide hq2
          have hbc := fun (W : World) (hK : Later wb W) => Before_calls (k := kp) (j := kx) W (hrpb.later hK) (hrx.later hK) (by omega) (by omega)
          rw [hbf] at hbc
          have Hbc := hide hbc
          clear hq2 hbf hbc
          go_wp2_with fail
          refine (lawCloset_calls (k1 := k1) (k2 := k2) (k3 := k3) wb (hc0.later hLb) (by omega) (by omega) (by omega)).mono ?_
          rintro e wp ⟨B1p, j1p, B2p, j2p, B3p, j3p, rfl, hMp, hcp, hj1p, hj2p, hj3p⟩
          have hLp := Later.trans hLb hMp
          go_wp2_with fail
          refine (list_calls _ (hrpb.later (Later.trans hKb hMp)) (by omega)).mono ?_
          rintro e vp ⟨Aqp, nqp, kqp, rfl, hNp, hrp, hkp, _⟩
          have hnqp := hrp.len
          rw [← hrpb.len] at hnqp
          subst nqp
          go_wp2_with fail
          refine (Hpp.out _ _ _ _ _ _ _ vp (hcp.later hNp) hj2p _ _ hrp hkp (((x : Int) % 100))).mono ?_
          rintro e yp ⟨rfl, hOp⟩
          have hLyp := Later.trans hLp (Later.trans hNp hOp)
          have hKyp := Later.trans hKb (Later.trans hMp (Later.trans hNp hOp))
          clear hcp hrp hNp hOp hMp hLp hj1p hj2p hj3p
          rw [Hq1.out]
          go_wp2_with fail
          refine (Hip.out yp hLyp _ _ (hrx.later hKyp)).mono ?_
          rintro e w5 ⟨rfl, hM5⟩
          have hL5 := Later.trans hLyp hM5
          have hK5 := Later.trans hKyp hM5
          go_wp2_with fail
          refine (lawCloset_calls (k1 := k1) (k2 := k2) (k3 := k3) w5 (hc0.later hL5) (by omega) (by omega) (by omega)).mono ?_
          rintro e wq ⟨B1q, j1q, B2q, j2q, B3q, j3q, rfl, hMq, hcq, hj1q, hj2q, hj3q⟩
          have hLq := Later.trans hL5 hMq
          go_wp2_with fail
          refine (list_calls _ (hrx.later (Later.trans hK5 hMq)) (by omega)).mono ?_
          rintro e vq ⟨Aqq, nqq, kqq, rfl, hNq, hrq, hkq, _⟩
          have hnqq := hrq.len
          rw [← hrx.len] at hnqq
          subst nqq
          go_wp2_with fail
          refine (Hpp.out _ _ _ _ _ _ _ vq (hcq.later hNq) hj2q _ _ hrq hkq (m)).mono ?_
          rintro e yq ⟨rfl, hOq⟩
          have hLyq := Later.trans hLq (Later.trans hNq hOq)
          have hKyq := Later.trans hK5 (Later.trans hMq (Later.trans hNq hOq))
          clear hcq hrq hNq hOq hMq hLq hj1q hj2q hj3q
          rw [H1.out]
          go_wp2_with fail
          refine (lawCloset_calls (k1 := k1) (k2 := k2) (k3 := k3) yq (hc0.later hLyq) (by omega) (by omega) (by omega)).mono ?_
          rintro e wr ⟨B1r, j1r, B2r, j2r, B3r, j3r, rfl, hMr, hcr, hj1r, hj2r, hj3r⟩
          have hLr := Later.trans hLyq hMr
          go_wp2_with fail
          refine (list_calls _ (hrx.later (Later.trans hKyq hMr)) (by omega)).mono ?_
          rintro e vr ⟨Aqr, nqr, kqr, rfl, hNr, hrr, hkr, _⟩
          have hnqr := hrr.len
          rw [← hrx.len] at hnqr
          subst nqr
          go_wp2_with fail
          refine (Hpp.out _ _ _ _ _ _ _ vr (hcr.later hNr) hj2r _ _ hrr hkr ((m - 1))).mono ?_
          rintro e yr ⟨rfl, hOr⟩
          have hLyr := Later.trans hLr (Later.trans hNr hOr)
          have hKyr := Later.trans hKyq (Later.trans hMr (Later.trans hNr hOr))
          clear hcr hrr hNr hOr hMr hLr hj1r hj2r hj3r
          rw [H2.out]
          go_wp2_with fail
          refine (lawCloset_calls (k1 := k1) (k2 := k2) (k3 := k3) yr (hc0.later hLyr) (by omega) (by omega) (by omega)).mono ?_
          rintro e ws ⟨B1s, j1s, B2s, j2s, B3s, j3s, rfl, hMs, hcs, hj1s, hj2s, hj3s⟩
          have hLs := Later.trans hLyr hMs
          go_wp2_with fail
          refine (list_calls _ (hrpb.later (Later.trans hKyr hMs)) (by omega)).mono ?_
          rintro e vs ⟨Aqs, nqs, kqs, rfl, hNs, hrs, hks, _⟩
          have hnqs := hrs.len
          rw [← hrpb.len] at hnqs
          subst nqs
          go_wp2_with fail
          refine (Hpp.out _ _ _ _ _ _ _ vs (hcs.later hNs) hj2s _ _ hrs hks (m)).mono ?_
          rintro e ys ⟨rfl, hOs⟩
          have hLys := Later.trans hLs (Later.trans hNs hOs)
          have hKys := Later.trans hKyr (Later.trans hMs (Later.trans hNs hOs))
          clear hcs hrs hNs hOs hMs hLs hj1s hj2s hj3s
          rw [Hq2.out]
          go_wp2_with fail
          refine (Hbc.out ys hKys).mono ?_
          rintro e w7 ⟨rfl, hM7⟩
          have hL7 := Later.trans hLys hM7
          have hK7 := Later.trans hKys hM7
          go_wp2_with fail
          refine (lawCloset_calls (k1 := k1) (k2 := k2) (k3 := k3) w7 (hc0.later hL7) (by omega) (by omega) (by omega)).mono ?_
          rintro e wt ⟨B1t, j1t, B2t, j2t, B3t, j3t, rfl, hMt, hct, hj1t, hj2t, hj3t⟩
          have hLt := Later.trans hL7 hMt
          go_wp2_with fail
          refine (list_calls _ (hrpb.later (Later.trans hK7 hMt)) (by omega)).mono ?_
          rintro e vt ⟨Aqt, nqt, kqt, rfl, hNt, hrt, hkt, _⟩
          have hnqt := hrt.len
          rw [← hrpb.len] at hnqt
          subst nqt
          go_wp2_with fail
          refine (Hpp.out _ _ _ _ _ _ _ vt (hct.later hNt) hj2t _ _ hrt hkt ((m - 1))).mono ?_
          rintro e yt ⟨rfl, hOt⟩
          have hLyt := Later.trans hLt (Later.trans hNt hOt)
          have hKyt := Later.trans hK7 (Later.trans hMt (Later.trans hNt hOt))
          clear hct hrt hNt hOt hMt hLt hj1t hj2t hj3t
          rw [H3.out]
          go_wp2_with fail
          refine (awake_calls _).mono ?_
          rintro e wa ⟨rfl, hLa⟩
          go_wp2_with fail
          go_ret
          exact ⟨rfl, Later.trans hL0 (Later.trans hLyt hLa)⟩
end Go.Proofs.Ytjilckjhdlabaaa
