/- ClosetRights: the walk. -/
import Derived.Test.YtjilckjhdlabaaaClRgt
import Derived.Test.YtjilckjhdlabaaaPart9
set_option linter.unusedSimpArgs false
set_option linter.unusedVariables false
namespace Go.Proofs.Ytjilckjhdlabaaa
open Go Go.RowKit
attribute [local go_sem] later_alloc2 later_alloc3 later_alloc4

set_option maxRecDepth 100000 in
theorem placed_no {A1 A2 A3 : Option Addr} {n1 k1 n2 k2 n3 k3 : Nat} {c : Clo} {q : Int} (w : World) (hc : CV w c A1 n1 A2 n2 A3 n3) (hcl : i64 c.closets) (hn1 : n1 ≤ 1000) (hn2 : n2 ≤ 1000) (hn3 : n3 ≤ 1000) (hq : askedErr c false = q) :
    Calls Try.prog 28 #[(.agg #[.int .i64 c.closets, .int .i64 c.close, .slice A1 n1 k1, .slice A2 n2 k2, .slice A3 n3 k3]), .bool false] w fun e w' => e = .returned (.tuple #[.slice none 0 0, .int .i64 q]) ∧ Later w w' := by
  obtain ⟨w0, hw0⟩ : ∃ W, W = (w.alloc (.cells #[.int .i64 c.closets, .int .i64 c.close, .slice A1 n1 k1, .slice A2 n2 k2, .slice A3 n3 k3] 26)) := ⟨_, rfl⟩; have hbox : ∀ W, Later w0 W → ∀ i, W.cell? ⟨w.heap.size, i, none⟩ = #[.int .i64 c.closets, .int .i64 c.close, .slice A1 n1 k1, .slice A2 n2 k2, .slice A3 n3 k3][i]? := (by rw [hw0]; exact box_cells w #[.int .i64 c.closets, .int .i64 c.close, .slice A1 n1 k1, .slice A2 n2 k2, .slice A3 n3 k3] 26); have hL0 : Later w w0 := (by rw [hw0]; simp); have hc0 := hc.later hL0; have Hw0 := hide hw0; clear hw0
  obtain ⟨f, hf⟩ : ∃ q, fault c = q := ⟨_, rfl⟩
  have hfc := fault_calls (k1 := k1) (k2 := k2) (k3 := k3) w0 hc0 hcl hn1 hn2 hn3
  rw [hf] at hfc
  have Hfc := hide hfc
  unfold askedErr at hq
  rw [hf] at hq
  clear hfc hf
  by_cases hq0 : f = 0
  · subst hq0
    rw [if_neg (by simp), if_pos rfl] at hq
    subst hq
    go_enter Try.func28, Try.ntmps28
    go_wp2_with fail
    rw [← Hw0.out]; clear Hw0
    refine Hfc.out.mono ?_
    rintro e w1 ⟨rfl, hL1⟩
    go_wp2_with fail
    refine bodyPost_ret (v := .tuple #[.slice none 0 0, .int .i64 2]) ?_ rfl ⟨rfl, Later.trans hL0 hL1⟩
    simp [results, Try.results28, go_sem]
  · rw [if_pos hq0] at hq
    subst hq
    have hqb : (f != 0) = true := by simpa using hq0
    clear hq0
    go_enter Try.func28, Try.ntmps28
    go_wp2_with fail
    rw [← Hw0.out]; clear Hw0
    refine Hfc.out.mono ?_
    rintro e w1 ⟨rfl, hL1⟩
    go_wp2_with fail
    refine bodyPost_ret (v := .tuple #[.slice none 0 0, .int .i64 f]) ?_ rfl ⟨rfl, Later.trans hL0 hL1⟩
    simp [results, Try.results28, go_sem]
set_option maxRecDepth 100000 in
set_option maxHeartbeats 16000000 in
theorem lawRights_calls {A1 A2 A3 : Option Addr} {n1 k1 n2 k2 n3 k3 : Nat} {c : Clo} {Ap : Option Addr} {np kp : Nat} {p : List Int} {h m : Int} (w : World) (hc : CV w c A1 n1 A2 n2 A3 n3) (hcl : i64 c.closets) (b1 : n1 ≤ 9223372036854775807) (b2 : n2 ≤ 9223372036854775807) (b3 : n3 ≤ 9223372036854775807)
    (hp : RI w Ap np p) (bp : np ≤ 9223372036854775807) (_hh : i64 h) (_hm : i64 m) : Calls Try.prog 15 #[(.agg #[.int .i64 c.closets, .int .i64 c.close, .slice A1 n1 k1, .slice A2 n2 k2, .slice A3 n3 k3]), .slice Ap np kp, .int .i64 h, .int .i64 m] w fun e w' => e = .returned (.bool true) ∧ Later w w' := by
  obtain ⟨w0, hw0⟩ : ∃ W, W = (w.alloc (.cells #[.int .i64 c.closets, .int .i64 c.close, .slice A1 n1 k1, .slice A2 n2 k2, .slice A3 n3 k3] 26)) := ⟨_, rfl⟩; have hbox : ∀ W, Later w0 W → ∀ i, W.cell? ⟨w.heap.size, i, none⟩ = #[.int .i64 c.closets, .int .i64 c.close, .slice A1 n1 k1, .slice A2 n2 k2, .slice A3 n3 k3][i]? := (by rw [hw0]; exact box_cells w #[.int .i64 c.closets, .int .i64 c.close, .slice A1 n1 k1, .slice A2 n2 k2, .slice A3 n3 k3] 26); have hL0 : Later w w0 := (by rw [hw0]; simp); have hc0 := hc.later hL0; have Hw0 := hide hw0; clear hw0
  have hp0 := hp.later hL0
  have hthin := Thin_calls (k1 := k1) (k2 := k2) (k3 := k3) w0 hc0 hcl b1 b2 b3
  cases hth : thinB c with
  | false =>
    rw [hth] at hthin
    have Hthin := hide hthin
    clear hth hthin
    go_enter Try.func15, Try.ntmps15
    go_wp2_with fail
    rw [← Hw0.out]; clear Hw0
    refine Hthin.out.mono ?_
    rintro e w1 ⟨rfl, hL1⟩
    go_wp2_with fail
    refine (awake_calls _).mono ?_
    rintro e w2 ⟨rfl, hL2⟩
    go_wp2_with fail
    go_ret
    exact ⟨rfl, Later.trans hL0 (Later.trans hL1 hL2)⟩
  | true =>
    rw [hth] at hthin
    have hn := And.intro hc.hs.len (And.intro hc.hu.len hc.lk.len)
    unfold thinB at hth
    simp only [Bool.and_eq_true, decide_eq_true_eq] at hth
    have l1 : n1 ≤ 6 := by omega
    have l2 : n2 ≤ 8 := by omega
    have l3 : n3 ≤ 7 := by omega
    have Hthin := hide hthin
    clear hth hthin hn
    by_cases hp9 : (9 : Int) < (np : Int)
    · go_enter Try.func15, Try.ntmps15
      go_wp2_with fail
      rw [← Hw0.out]; clear Hw0
      refine Hthin.out.mono ?_
      rintro e w1 ⟨rfl, hL1⟩
      go_wp2_with fail
      refine (awake_calls _).mono ?_
      rintro e wa ⟨rfl, hLa⟩
      go_wp2_with fail
      go_ret
      exact ⟨rfl, Later.trans hL0 (Later.trans hL1 hLa)⟩
    · have hn1 := hc.hs.len
      obtain ⟨E1, h1⟩ : ∃ q, askedErr c (isPlaceB c p) = q := ⟨_, rfl⟩
      obtain ⟨E2, h2⟩ : ∃ q, askedErr c ((isPlaceB c p && isHorse c h) && inB m 0 99) = q := ⟨_, rfl⟩
      obtain ⟨E3, h3⟩ : ∃ q, askedErr c (isPlaceB c p && isHorse c h) = q := ⟨_, rfl⟩
      have law := rights_law c p h m E1 E2 E3 h1 h2 h3
      obtain ⟨⟨v1, v2⟩, hv⟩ : ∃ q, rightOut c p h m = q := ⟨_, rfl⟩
      obtain ⟨⟨g1, g2, g3⟩, hg⟩ : ∃ q, goodOut c p h = q := ⟨_, rfl⟩
      rw [hv, hg] at law
      have hbp := fun (B1 B2 B3 : Option Addr) (j1 j2 j3 : Nat) (W : World) (h : CV W c B1 n1 B2 n2 B3 n3) (h2 : n2 ≤ j2) (Aq : Option Addr) (kq : Nat) (hq : RI W Aq np p) (hk : np ≤ kq) =>
        BoundsP_calls (k1 := j1) (k2 := j2) (k3 := j3) (kp := kq) W h hcl (by omega) (by omega) (by omega) h2 hq hk (by omega)
      unfold BoundsPost at hbp
      rw [h1] at hbp
      have hrp := fun (B1 B2 B3 : Option Addr) (j1 j2 j3 : Nat) (W : World) (hcv : CV W c B1 n1 B2 n2 B3 n3) (h2 : n2 ≤ j2) (Aq : Option Addr) (kq : Nat) (hq : RI W Aq np p) (hk : np ≤ kq) =>
        RightP_calls (k1 := j1) (k2 := j2) (k3 := j3) (kp := kq) (h := h) (m := m) W hcv hcl (by omega) (by omega) (by omega) h2 hq hk (by omega)
      rw [hv] at hrp
      have hgp := fun (B1 B2 B3 : Option Addr) (j1 j2 j3 : Nat) (W : World) (hcv : CV W c B1 n1 B2 n2 B3 n3) (h2 : n2 ≤ j2) (Aq : Option Addr) (kq : Nat) (hq : RI W Aq np p) (hk : np ≤ kq) =>
        GoodP_calls (k1 := j1) (k2 := j2) (k3 := j3) (kp := kq) (h := h) W hcv hcl (by omega) (by omega) (by omega) h2 hq hk (by omega)
      rw [hg] at hgp
      obtain ⟨bi, hbi⟩ : ∃ b, isPlaceB c p = b := ⟨_, rfl⟩
      obtain ⟨bh, hbh⟩ : ∃ b, isHorse c h = b := ⟨_, rfl⟩
      obtain ⟨u, hu⟩ : ∃ b, inB m 0 99 = b := ⟨_, rfl⟩
      have hip := fun (W : World) (hW : Later w0 W) => IsPlace_calls (kp := kp) (k1 := k1) (k2 := k2) (k3 := k3) W (hc0.later hW) (hp0.later hW) hcl (by omega) (by omega)
      rw [hbi] at hip h1 h2 h3 law
      rw [hbh] at h2 h3 law
      rw [hu] at h2 law
      have hin := fun W => In_eq (n := h) (lo := 0) (hi := (n1 : Int) - 1) (b := bh) (by rw [hn1]; exact hbh) W
      have hin2 := fun W => In_eq (n := m) (lo := 0) (hi := 99) (b := u) hu W
      have hpl := fun (b : Bool) (W : World) (hW : Later w0 W) => placed_calls (k1 := k1) (k2 := k2) (k3 := k3) (fine := b) W (hc0.later hW) hcl (by omega) (by omega) (by omega)
      unfold PlacedPost at hpl
      have hpn := fun (q : Int) (hq : askedErr c false = q) (W : World) (hW : Later w0 W) => placed_no (k1 := k1) (k2 := k2) (k3 := k3) W (hc0.later hW) hcl (by omega) (by omega) (by omega) hq
      have Hpn := hide hpn
      have H2 := hide h2
      have Hbi := hide hbi
      have hp1 := hpl bi
      have hp2 := hpl ((bi && bh) && u)
      have hp3 := hpl (bi && bh)
      rw [h1] at hp1
      rw [h2] at hp2
      rw [h3] at hp3
      have hE1 : (E1 != E1) = false := by simp
      have hE2 : (E2 != E2) = false := by simp
      have Hn1 := hide hn1
      have Hlaw := hide law
      have Hbp := hide hbp
      have Hrp := hide hrp
      have Hgp := hide hgp
      have Hip := hide hip
      have Hin := hide hin
      have Hin2 := hide hin2
      have Hp1 := hide hp1
      have Hp2 := hide hp2
      have Hp3 := hide hp3
      clear law hbp hrp hgp hip hin hin2 hpl hpn hp1 hp2 hp3 hv hg hbi hbh hu h1 h2 h3 hn1
      cases bi with
      | false =>
        obtain ⟨h1, h2, h3, hvv, hgg, hbo⟩ := Hlaw.out.resolve_right (fun hh => by have := hh.2.2.1; cases this)
        injection hvv with e1 e2
        subst v1 v2
        injection hgg with e1 e2
        injection e2 with e2 e3
        subst g1 g2 g3
        go_enter Try.func15, Try.ntmps15
        go_wp2_with fail
        rw [← Hw0.out]; clear Hw0
        refine Hthin.out.mono ?_
        rintro e w1 ⟨rfl, hL1⟩
        go_wp2_with fail
        refine (lawCloset_calls (k1 := k1) (k2 := k2) (k3 := k3) w1 (hc0.later hL1) (by omega) (by omega) (by omega)).mono ?_
        rintro e wa ⟨B1a, j1a, B2a, j2a, B3a, j3a, rfl, hMa, hca, hj1a, hj2a, hj3a⟩
        have hLa := Later.trans hL1 hMa
        go_wp2_with fail
        refine (list_calls _ (hp0.later hLa) (by omega)).mono ?_
        rintro e wb ⟨Ab, nb, kb, rfl, hMb, hrb, hkb, _⟩
        have hLb := Later.trans hLa hMb
        have hnb := hrb.len
        rw [← hp0.len] at hnb
        subst nb
        go_wp2_with fail
        refine (Hbp.out _ _ _ _ _ _ wb (hca.later hMb) hj2a _ _ hrb hkb).mono ?_
        rintro e w2 ⟨Ar, nr, kr, rfl, hM2, hrg⟩
        have hL2 := Later.trans hLb hM2
        clear hca hrb hj1a hj2a hj3a hMa hMb hLa hLb
        go_wp2_with fail
        refine (lawCloset_calls (k1 := k1) (k2 := k2) (k3 := k3) w2 (hc0.later hL2) (by omega) (by omega) (by omega)).mono ?_
        rintro e wa ⟨B1a, j1a, B2a, j2a, B3a, j3a, rfl, hMa, hca, hj1a, hj2a, hj3a⟩
        have hLa := Later.trans hL2 hMa
        go_wp2_with fail
        refine (list_calls _ (hp0.later hLa) (by omega)).mono ?_
        rintro e wb ⟨Ab, nb, kb, rfl, hMb, hrb, hkb, _⟩
        have hLb := Later.trans hLa hMb
        have hnb := hrb.len
        rw [← hp0.len] at hnb
        subst nb
        go_wp2_with fail
        refine (Hrp.out _ _ _ _ _ _ wb (hca.later hMb) hj2a _ _ hrb hkb).mono ?_
        rintro e w3 ⟨rfl, hM3⟩
        have hL3 := Later.trans hLb hM3
        have hM23 := Later.trans hMa (Later.trans hMb hM3)
        clear hca hrb hj1a hj2a hj3a hMa hMb hLa hLb hM3
        go_wp2_with fail
        refine (lawCloset_calls (k1 := k1) (k2 := k2) (k3 := k3) w3 (hc0.later hL3) (by omega) (by omega) (by omega)).mono ?_
        rintro e wa ⟨B1a, j1a, B2a, j2a, B3a, j3a, rfl, hMa, hca, hj1a, hj2a, hj3a⟩
        have hLa := Later.trans hL3 hMa
        go_wp2_with fail
        refine (list_calls _ (hp0.later hLa) (by omega)).mono ?_
        rintro e wb ⟨Ab, nb, kb, rfl, hMb, hrb, hkb, _⟩
        have hLb := Later.trans hLa hMb
        have hnb := hrb.len
        rw [← hp0.len] at hnb
        subst nb
        go_wp2_with fail
        refine (Hgp.out _ _ _ _ _ _ wb (hca.later hMb) hj2a _ _ hrb hkb).mono ?_
        rintro e w4 ⟨rfl, hM4⟩
        have hL4 := Later.trans hLb hM4
        have hM24 := Later.trans hM23 (Later.trans hMa (Later.trans hMb hM4))
        clear hca hrb hj1a hj2a hj3a hMa hMb hLa hLb hM4 hM23
        have hbn := Blk.new w4 61 #[.int .i64 0, .int .i64 0]
        have hL5 : Later w0 (w4.alloc (.cells #[.int .i64 0, .int .i64 0] 61)) := later_alloc hL4 _
        obtain ⟨gr, hgr⟩ : ∃ g, g = w4.heap.size := ⟨_, rfl⟩
        have hrg5 := hrg.later (Later.trans hM24 (later_alloc (later_refl w4) (.cells #[.int .i64 0, .int .i64 0] 61)))
        generalize hw5 : w4.alloc (.cells #[.int .i64 0, .int .i64 0] 61) = w5 at *
        rw [← hgr] at hbn
        have Hw5 := hide hw5
        have Hgr := hide hgr
        clear hw5 hgr
        go_wp2_with fail
        rw [Hw5.out, ← Hgr.out]
        refine (Hip.out w5 hL5).mono ?_
        rintro e w6 ⟨rfl, hM6⟩
        have hL6 := Later.trans hL5 hM6
        go_wp2_with fail
        refine (Hin.out w6).mono ?_
        rintro e w6' ⟨rfl, rfl⟩
        go_wp2_with fail
        refine (Hp1.out w6 hL6).mono ?_
        rintro e w7 ⟨At, nt, kt, rfl, hM7, hrt⟩
        have hL7 := Later.trans hL6 hM7
        have hM57 := Later.trans hM6 hM7
        have hS7 : Later w0 w7.drew := later_drew hL7
        clear hL1 hL2 hL3 hM2 hM24 hrg
        have hT7 : ∀ e : Ext w7, Later w0 e.W := fun e => Later.trans hL7 e.h
        have hbx7 := fun W (hW : Later w7 W) => hbox W (Later.trans hL7 hW)
        clear hbox
        go_wp2_with fail
        refine wp_region_ext (w0 := w7) (by kernel_rfl) (by kernel_rfl) (later_refl _) ?_; (repeat (first | go_big_quiet_step (((go_at_call 28; exact calls_ext (by simp) (Hpn.out _ H2.out _ (hT7 _))))) | quiet_step (((go_at_call 28; exact calls_ext (by simp) (Hpn.out _ H2.out _ (hT7 _))))))); refine wpQuiet_nil ?_; rintro w8 ⟨⟨_, hM8⟩, rfl⟩; (try dsimp only)
        have hL8 := Later.trans hL7 hM8
        have hbox := fun W (hW : Later w8 W) => hbx7 W (Later.trans hM8 hW)
        have hL88 : Later w8 w8 := later_refl _
        go_wp2_with fail
        refine (Hp3.out w8 hL8).mono ?_
        rintro e w9 ⟨Av, nv, kv, rfl, hM9, _⟩
        have hL9 := Later.trans hL8 hM9
        have hM79 := Later.trans hM8 hM9
        have hb9 := hbn.later (Later.trans hM57 hM79)
        have rx0 := hb9.cell 0
        have rx1 := hb9.cell 1
        simp only [List.getElem?_toArray, List.getElem?_cons_zero, List.getElem?_cons_succ] at rx0 rx1
        have hnr := hrg5.len
        rw [hbo] at hnr
        simp only [List.length_nil] at hnr
        subst nr
        have e1n : (E1 != 0) = true := by simpa using h1
        have e2n : (E2 != 0) = true := by simpa using h2
        have e2m : (E2 == 0) = false := by simpa using h2
        clear h1 h2 h3 hbo hrg5 hrt
        go_wp2_with fail
        refine (awake_calls _).mono ?_
        rintro e wa ⟨rfl, hLa⟩
        go_wp2_with fail
        go_ret
        exact ⟨rfl, Later.trans hL0 (Later.trans hL9 hLa)⟩
      | true =>
        cases bh with
        | false =>
          rcases Hlaw.out with ⟨h1, h2, h3, hvv, hgg, hbo⟩ | ⟨h1, hf, hbt, ht, hblen, hget, hor⟩
          · injection hvv with e1 e2
            subst v1 v2
            injection hgg with e1 e2
            injection e2 with e2 e3
            subst g1 g2 g3
            go_enter Try.func15, Try.ntmps15
            go_wp2_with fail
            rw [← Hw0.out]; clear Hw0
            refine Hthin.out.mono ?_
            rintro e w1 ⟨rfl, hL1⟩
            go_wp2_with fail
            refine (lawCloset_calls (k1 := k1) (k2 := k2) (k3 := k3) w1 (hc0.later hL1) (by omega) (by omega) (by omega)).mono ?_
            rintro e wa ⟨B1a, j1a, B2a, j2a, B3a, j3a, rfl, hMa, hca, hj1a, hj2a, hj3a⟩
            have hLa := Later.trans hL1 hMa
            go_wp2_with fail
            refine (list_calls _ (hp0.later hLa) (by omega)).mono ?_
            rintro e wb ⟨Ab, nb, kb, rfl, hMb, hrb, hkb, _⟩
            have hLb := Later.trans hLa hMb
            have hnb := hrb.len
            rw [← hp0.len] at hnb
            subst nb
            go_wp2_with fail
            refine (Hbp.out _ _ _ _ _ _ wb (hca.later hMb) hj2a _ _ hrb hkb).mono ?_
            rintro e w2 ⟨Ar, nr, kr, rfl, hM2, hrg⟩
            have hL2 := Later.trans hLb hM2
            clear hca hrb hj1a hj2a hj3a hMa hMb hLa hLb
            go_wp2_with fail
            refine (lawCloset_calls (k1 := k1) (k2 := k2) (k3 := k3) w2 (hc0.later hL2) (by omega) (by omega) (by omega)).mono ?_
            rintro e wa ⟨B1a, j1a, B2a, j2a, B3a, j3a, rfl, hMa, hca, hj1a, hj2a, hj3a⟩
            have hLa := Later.trans hL2 hMa
            go_wp2_with fail
            refine (list_calls _ (hp0.later hLa) (by omega)).mono ?_
            rintro e wb ⟨Ab, nb, kb, rfl, hMb, hrb, hkb, _⟩
            have hLb := Later.trans hLa hMb
            have hnb := hrb.len
            rw [← hp0.len] at hnb
            subst nb
            go_wp2_with fail
            refine (Hrp.out _ _ _ _ _ _ wb (hca.later hMb) hj2a _ _ hrb hkb).mono ?_
            rintro e w3 ⟨rfl, hM3⟩
            have hL3 := Later.trans hLb hM3
            have hM23 := Later.trans hMa (Later.trans hMb hM3)
            clear hca hrb hj1a hj2a hj3a hMa hMb hLa hLb hM3
            go_wp2_with fail
            refine (lawCloset_calls (k1 := k1) (k2 := k2) (k3 := k3) w3 (hc0.later hL3) (by omega) (by omega) (by omega)).mono ?_
            rintro e wa ⟨B1a, j1a, B2a, j2a, B3a, j3a, rfl, hMa, hca, hj1a, hj2a, hj3a⟩
            have hLa := Later.trans hL3 hMa
            go_wp2_with fail
            refine (list_calls _ (hp0.later hLa) (by omega)).mono ?_
            rintro e wb ⟨Ab, nb, kb, rfl, hMb, hrb, hkb, _⟩
            have hLb := Later.trans hLa hMb
            have hnb := hrb.len
            rw [← hp0.len] at hnb
            subst nb
            go_wp2_with fail
            refine (Hgp.out _ _ _ _ _ _ wb (hca.later hMb) hj2a _ _ hrb hkb).mono ?_
            rintro e w4 ⟨rfl, hM4⟩
            have hL4 := Later.trans hLb hM4
            have hM24 := Later.trans hM23 (Later.trans hMa (Later.trans hMb hM4))
            clear hca hrb hj1a hj2a hj3a hMa hMb hLa hLb hM4 hM23
            have hbn := Blk.new w4 61 #[.int .i64 0, .int .i64 0]
            have hL5 : Later w0 (w4.alloc (.cells #[.int .i64 0, .int .i64 0] 61)) := later_alloc hL4 _
            obtain ⟨gr, hgr⟩ : ∃ g, g = w4.heap.size := ⟨_, rfl⟩
            have hrg5 := hrg.later (Later.trans hM24 (later_alloc (later_refl w4) (.cells #[.int .i64 0, .int .i64 0] 61)))
            generalize hw5 : w4.alloc (.cells #[.int .i64 0, .int .i64 0] 61) = w5 at *
            rw [← hgr] at hbn
            have Hw5 := hide hw5
            have Hgr := hide hgr
            clear hw5 hgr
            go_wp2_with fail
            rw [Hw5.out, ← Hgr.out]
            refine (Hip.out w5 hL5).mono ?_
            rintro e w6 ⟨rfl, hM6⟩
            have hL6 := Later.trans hL5 hM6
            go_wp2_with fail
            refine (Hin.out w6).mono ?_
            rintro e w6' ⟨rfl, rfl⟩
            go_wp2_with fail
            refine (Hp1.out w6 hL6).mono ?_
            rintro e w7 ⟨At, nt, kt, rfl, hM7, hrt⟩
            have hL7 := Later.trans hL6 hM7
            have hM57 := Later.trans hM6 hM7
            have hS7 : Later w0 w7.drew := later_drew hL7
            clear hL1 hL2 hL3 hM2 hM24 hrg
            have hT7 : ∀ e : Ext w7, Later w0 e.W := fun e => Later.trans hL7 e.h
            have hbx7 := fun W (hW : Later w7 W) => hbox W (Later.trans hL7 hW)
            clear hbox
            go_wp2_with fail
            refine wp_region_ext (w0 := w7) (by kernel_rfl) (by kernel_rfl) (later_refl _) ?_; (repeat (first | go_big_quiet_step (((go_at_call 28; exact calls_ext (by simp) (Hpn.out _ H2.out _ (hT7 _))))) | quiet_step (((go_at_call 28; exact calls_ext (by simp) (Hpn.out _ H2.out _ (hT7 _))))))); refine wpQuiet_nil ?_; rintro w8 ⟨⟨_, hM8⟩, rfl⟩; (try dsimp only)
            have hL8 := Later.trans hL7 hM8
            have hbox := fun W (hW : Later w8 W) => hbx7 W (Later.trans hM8 hW)
            have hL88 : Later w8 w8 := later_refl _
            go_wp2_with fail
            refine (Hp3.out w8 hL8).mono ?_
            rintro e w9 ⟨Av, nv, kv, rfl, hM9, _⟩
            have hL9 := Later.trans hL8 hM9
            have hM79 := Later.trans hM8 hM9
            have hb9 := hbn.later (Later.trans hM57 hM79)
            have rx0 := hb9.cell 0
            have rx1 := hb9.cell 1
            simp only [List.getElem?_toArray, List.getElem?_cons_zero, List.getElem?_cons_succ] at rx0 rx1
            have hnr := hrg5.len
            rw [hbo] at hnr
            simp only [List.length_nil] at hnr
            subst nr
            have e1n : (E1 != 0) = true := by simpa using h1
            have e2n : (E2 != 0) = true := by simpa using h2
            have e2m : (E2 == 0) = false := by simpa using h2
            clear h1 h2 h3 hbo hrg5 hrt
            go_wp2_with fail
            refine (awake_calls _).mono ?_
            rintro e wa ⟨rfl, hLa⟩
            go_wp2_with fail
            go_ret
            exact ⟨rfl, Later.trans hL0 (Later.trans hL9 hLa)⟩
          · obtain ⟨_, h2, h3, hvv, hgg⟩ := hor.resolve_right (fun ⟨k, _, _, hh, _⟩ => by cases hh)
            injection hvv with e1 e2
            subst v1 v2
            injection hgg with e1 e2
            injection e2 with e2 e3
            subst g1 g2 g3 E1
            go_enter Try.func15, Try.ntmps15
            go_wp2_with fail
            rw [← Hw0.out]; clear Hw0
            refine Hthin.out.mono ?_
            rintro e w1 ⟨rfl, hL1⟩
            go_wp2_with fail
            refine (lawCloset_calls (k1 := k1) (k2 := k2) (k3 := k3) w1 (hc0.later hL1) (by omega) (by omega) (by omega)).mono ?_
            rintro e wa ⟨B1a, j1a, B2a, j2a, B3a, j3a, rfl, hMa, hca, hj1a, hj2a, hj3a⟩
            have hLa := Later.trans hL1 hMa
            go_wp2_with fail
            refine (list_calls _ (hp0.later hLa) (by omega)).mono ?_
            rintro e wb ⟨Ab, nb, kb, rfl, hMb, hrb, hkb, _⟩
            have hLb := Later.trans hLa hMb
            have hnb := hrb.len
            rw [← hp0.len] at hnb
            subst nb
            go_wp2_with fail
            refine (Hbp.out _ _ _ _ _ _ wb (hca.later hMb) hj2a _ _ hrb hkb).mono ?_
            rintro e w2 ⟨Ar, nr, kr, rfl, hM2, hrg⟩
            have hL2 := Later.trans hLb hM2
            clear hca hrb hj1a hj2a hj3a hMa hMb hLa hLb
            go_wp2_with fail
            refine (lawCloset_calls (k1 := k1) (k2 := k2) (k3 := k3) w2 (hc0.later hL2) (by omega) (by omega) (by omega)).mono ?_
            rintro e wa ⟨B1a, j1a, B2a, j2a, B3a, j3a, rfl, hMa, hca, hj1a, hj2a, hj3a⟩
            have hLa := Later.trans hL2 hMa
            go_wp2_with fail
            refine (list_calls _ (hp0.later hLa) (by omega)).mono ?_
            rintro e wb ⟨Ab, nb, kb, rfl, hMb, hrb, hkb, _⟩
            have hLb := Later.trans hLa hMb
            have hnb := hrb.len
            rw [← hp0.len] at hnb
            subst nb
            go_wp2_with fail
            refine (Hrp.out _ _ _ _ _ _ wb (hca.later hMb) hj2a _ _ hrb hkb).mono ?_
            rintro e w3 ⟨rfl, hM3⟩
            have hL3 := Later.trans hLb hM3
            have hM23 := Later.trans hMa (Later.trans hMb hM3)
            clear hca hrb hj1a hj2a hj3a hMa hMb hLa hLb hM3
            go_wp2_with fail
            refine (lawCloset_calls (k1 := k1) (k2 := k2) (k3 := k3) w3 (hc0.later hL3) (by omega) (by omega) (by omega)).mono ?_
            rintro e wa ⟨B1a, j1a, B2a, j2a, B3a, j3a, rfl, hMa, hca, hj1a, hj2a, hj3a⟩
            have hLa := Later.trans hL3 hMa
            go_wp2_with fail
            refine (list_calls _ (hp0.later hLa) (by omega)).mono ?_
            rintro e wb ⟨Ab, nb, kb, rfl, hMb, hrb, hkb, _⟩
            have hLb := Later.trans hLa hMb
            have hnb := hrb.len
            rw [← hp0.len] at hnb
            subst nb
            go_wp2_with fail
            refine (Hgp.out _ _ _ _ _ _ wb (hca.later hMb) hj2a _ _ hrb hkb).mono ?_
            rintro e w4 ⟨rfl, hM4⟩
            have hL4 := Later.trans hLb hM4
            have hM24 := Later.trans hM23 (Later.trans hMa (Later.trans hMb hM4))
            clear hca hrb hj1a hj2a hj3a hMa hMb hLa hLb hM4 hM23
            have hbn := Blk.new w4 61 #[.int .i64 0, .int .i64 0]
            have hL5 : Later w0 (w4.alloc (.cells #[.int .i64 0, .int .i64 0] 61)) := later_alloc hL4 _
            obtain ⟨gr, hgr⟩ : ∃ g, g = w4.heap.size := ⟨_, rfl⟩
            have hrg5 := hrg.later (Later.trans hM24 (later_alloc (later_refl w4) (.cells #[.int .i64 0, .int .i64 0] 61)))
            generalize hw5 : w4.alloc (.cells #[.int .i64 0, .int .i64 0] 61) = w5 at *
            rw [← hgr] at hbn
            have Hw5 := hide hw5
            have Hgr := hide hgr
            clear hw5 hgr
            go_wp2_with fail
            rw [Hw5.out, ← Hgr.out]
            refine (Hip.out w5 hL5).mono ?_
            rintro e w6 ⟨rfl, hM6⟩
            have hL6 := Later.trans hL5 hM6
            go_wp2_with fail
            refine (Hin.out w6).mono ?_
            rintro e w6' ⟨rfl, rfl⟩
            go_wp2_with fail
            refine (Hp1.out w6 hL6).mono ?_
            rintro e w7 ⟨At, nt, kt, rfl, hM7, hrt⟩
            have hL7 := Later.trans hL6 hM7
            have hM57 := Later.trans hM6 hM7
            have hS7 : Later w0 w7.drew := later_drew hL7
            clear hL1 hL2 hL3 hM2 hM24 hrg
            have hT7 : ∀ e : Ext w7, Later w0 e.W := fun e => Later.trans hL7 e.h
            have hbx7 := fun W (hW : Later w7 W) => hbox W (Later.trans hL7 hW)
            clear hbox
            go_wp2_with fail
            refine wp_region_ext (w0 := w7) (by kernel_rfl) (by kernel_rfl) (later_refl _) ?_; (repeat (first | go_big_quiet_step (((go_at_call 28; exact calls_ext (by simp) (Hpn.out _ H2.out _ (hT7 _))))) | quiet_step (((go_at_call 28; exact calls_ext (by simp) (Hpn.out _ H2.out _ (hT7 _))))))); refine wpQuiet_nil ?_; rintro w8 ⟨⟨_, hM8⟩, rfl⟩; (try dsimp only)
            have hL8 := Later.trans hL7 hM8
            have hbox := fun W (hW : Later w8 W) => hbx7 W (Later.trans hM8 hW)
            have hL88 : Later w8 w8 := later_refl _
            go_wp2_with fail
            refine (Hp3.out w8 hL8).mono ?_
            rintro e w9 ⟨Av, nv, kv, rfl, hM9, _⟩
            have hL9 := Later.trans hL8 hM9
            have hM79 := Later.trans hM8 hM9
            have hb9 := hbn.later (Later.trans hM57 hM79)
            have rx0 := hb9.cell 0
            have rx1 := hb9.cell 1
            simp only [List.getElem?_toArray, List.getElem?_cons_zero, List.getElem?_cons_succ] at rx0 rx1
            have hrt9 := (hrt (by trivial)).later hM79
            have hrgL := hrg5.later (Later.trans hM57 hM79)
            have hnr := hrgL.len
            rw [hblen, ← Hn1.out] at hnr
            subst nr
            have hnt := hrt9.len
            have ok := okC_of_fault hf
            have hpl := isPlaceB_isPl hf Hbi.out
            have hdry := truths_isDry ok.toOkH
            have htl : nt ≤ 1000000 := by rw [hnt, ← (truthsP_perm hf).length_eq]; have := truthsP_len hf; omega
            have hnn : ((n1 : Int) != (n1 : Int)) = false := by simp
            have Hget := hide hget
            have Hok := hide ok
            have Hpl := hide hpl
            have Hdry := hide hdry
            have Htl := hide htl
            have Hf := hide hf
            clear hget ok hpl hdry htl hf hnt hrt hrg5 hblen hbt ht rx0 rx1
            have e2n : (E2 != 0) = true := by simpa using h2
            have e2m : (E2 == 0) = false := by simpa using h2
            have e3n : (E3 != 0) = true := by simpa using h3
            have hrtL := hrt9
            clear h2 h3
            go_wp2_with fail
            go_loopw [23] (fun v wr => ∃ i : Nat, i ≤ n1 ∧ v = .int .i64 i ∧ Later w9 wr) (fun v _ => n1 - (intOf v).toNat)
            case atStart => exact ⟨0, Nat.zero_le _, rfl, later_refl _⟩
            case round =>
              obtain ⟨i, hi, rfl, hL⟩ := hrel
              have hL0r := Later.trans hL9 hL
              by_cases hlt : i < n1
              · have hi1 : (i : Int) < n1 := by omega
                obtain ⟨b, o, y, rfl, _, hy, hy0, hy1⟩ := hrgL.get hlt
                have hy0' := fun W (hW : Later wr W) => hy0 W (Later.trans hL hW)
                have hy1' := fun W (hW : Later wr W) => hy1 W (Later.trans hL hW)
                have hxm := Hget.out i (by have := Hn1.out; omega)
                rw [hy] at hxm
                injection hxm with hxm
                have hbc := fun (W : World) (h : Later wr W) => BoundsR_calls (k1 := k1) (k2 := k2) (k3 := k3) (kp := kp) (kl := kt) (h := (i : Int)) W (hc0.later (Later.trans hL0r h)) (hrtL.later (Later.trans hL h)) (hp0.later (Later.trans hL0r h)) Hok.out.toOkH Hpl.out Hdry.out Htl.out (by omega) (by have := Hn1.out; omega)
                simp only [Int.toNat_natCast, ← hxm] at hbc
                obtain ⟨y1, y2⟩ := y
                dsimp only at hy0' hy1' hbc
                have Hbc := hide hbc
                have hT : ∀ e : Ext wr, Later wr e.W := fun e => e.h
                have hbx := fun W (hW : Later wr W) => (by first | exact hbox W (Later.trans hL0r hW) | exact hbox W (Later.trans hM9 (Later.trans hL hW)) | exact hbox W (Later.trans hM9 (Later.trans hM10 (Later.trans hL hW))))
                clear hbc hy hy0 hy1 hxm hbox
                go_wp2_with fail
                refine wp_region_ext (w0 := wr) (by kernel_rfl) (by kernel_rfl) (later_refl _) ?_; (repeat (first | go_big_quiet_step ((first | (go_at_call 69; exact calls_ext (by simp) (Hbc.out _ (hT _))) | (go_at_call 68; exact calls_ext (by simp) (lawTo_calls _ _ _)))) | quiet_step ((first | (go_at_call 69; exact calls_ext (by simp) (Hbc.out _ (hT _))) | (go_at_call 68; exact calls_ext (by simp) (lawTo_calls _ _ _)))))); refine wpQuiet_nil ?_; rintro w19 ⟨⟨_, hM19⟩, rfl⟩; (try dsimp only)
                go_wp2_with fail
                go_roundw
                case rel => exact ⟨i + 1, hlt, by go_num, Later.trans hL hM19⟩
                case measure => simp [intOf]; omega
              · have hi1 : ¬ (i : Int) < n1 := by omega
                clear hlt
                have hb10 := hb9.later hL
                have rx0 := hb10.cell 0
                have rx1 := hb10.cell 1
                simp only [List.getElem?_toArray, List.getElem?_cons_zero, List.getElem?_cons_succ] at rx0 rx1
                go_wp2_with fail
                refine (awake_calls _).mono ?_
                rintro e wa ⟨rfl, hLa⟩
                go_wp2_with fail
                go_ret
                exact ⟨rfl, Later.trans hL0 (Later.trans hL0r hLa)⟩
        | true =>
          rcases Hlaw.out with ⟨h1, h2, h3, hvv, hgg, hbo⟩ | ⟨h1, hf, hbt, ht, hblen, hget, hor⟩
          · injection hvv with e1 e2
            subst v1 v2
            injection hgg with e1 e2
            injection e2 with e2 e3
            subst g1 g2 g3
            go_enter Try.func15, Try.ntmps15
            go_wp2_with fail
            rw [← Hw0.out]; clear Hw0
            refine Hthin.out.mono ?_
            rintro e w1 ⟨rfl, hL1⟩
            go_wp2_with fail
            refine (lawCloset_calls (k1 := k1) (k2 := k2) (k3 := k3) w1 (hc0.later hL1) (by omega) (by omega) (by omega)).mono ?_
            rintro e wa ⟨B1a, j1a, B2a, j2a, B3a, j3a, rfl, hMa, hca, hj1a, hj2a, hj3a⟩
            have hLa := Later.trans hL1 hMa
            go_wp2_with fail
            refine (list_calls _ (hp0.later hLa) (by omega)).mono ?_
            rintro e wb ⟨Ab, nb, kb, rfl, hMb, hrb, hkb, _⟩
            have hLb := Later.trans hLa hMb
            have hnb := hrb.len
            rw [← hp0.len] at hnb
            subst nb
            go_wp2_with fail
            refine (Hbp.out _ _ _ _ _ _ wb (hca.later hMb) hj2a _ _ hrb hkb).mono ?_
            rintro e w2 ⟨Ar, nr, kr, rfl, hM2, hrg⟩
            have hL2 := Later.trans hLb hM2
            clear hca hrb hj1a hj2a hj3a hMa hMb hLa hLb
            go_wp2_with fail
            refine (lawCloset_calls (k1 := k1) (k2 := k2) (k3 := k3) w2 (hc0.later hL2) (by omega) (by omega) (by omega)).mono ?_
            rintro e wa ⟨B1a, j1a, B2a, j2a, B3a, j3a, rfl, hMa, hca, hj1a, hj2a, hj3a⟩
            have hLa := Later.trans hL2 hMa
            go_wp2_with fail
            refine (list_calls _ (hp0.later hLa) (by omega)).mono ?_
            rintro e wb ⟨Ab, nb, kb, rfl, hMb, hrb, hkb, _⟩
            have hLb := Later.trans hLa hMb
            have hnb := hrb.len
            rw [← hp0.len] at hnb
            subst nb
            go_wp2_with fail
            refine (Hrp.out _ _ _ _ _ _ wb (hca.later hMb) hj2a _ _ hrb hkb).mono ?_
            rintro e w3 ⟨rfl, hM3⟩
            have hL3 := Later.trans hLb hM3
            have hM23 := Later.trans hMa (Later.trans hMb hM3)
            clear hca hrb hj1a hj2a hj3a hMa hMb hLa hLb hM3
            go_wp2_with fail
            refine (lawCloset_calls (k1 := k1) (k2 := k2) (k3 := k3) w3 (hc0.later hL3) (by omega) (by omega) (by omega)).mono ?_
            rintro e wa ⟨B1a, j1a, B2a, j2a, B3a, j3a, rfl, hMa, hca, hj1a, hj2a, hj3a⟩
            have hLa := Later.trans hL3 hMa
            go_wp2_with fail
            refine (list_calls _ (hp0.later hLa) (by omega)).mono ?_
            rintro e wb ⟨Ab, nb, kb, rfl, hMb, hrb, hkb, _⟩
            have hLb := Later.trans hLa hMb
            have hnb := hrb.len
            rw [← hp0.len] at hnb
            subst nb
            go_wp2_with fail
            refine (Hgp.out _ _ _ _ _ _ wb (hca.later hMb) hj2a _ _ hrb hkb).mono ?_
            rintro e w4 ⟨rfl, hM4⟩
            have hL4 := Later.trans hLb hM4
            have hM24 := Later.trans hM23 (Later.trans hMa (Later.trans hMb hM4))
            clear hca hrb hj1a hj2a hj3a hMa hMb hLa hLb hM4 hM23
            have hbn := Blk.new w4 61 #[.int .i64 0, .int .i64 0]
            have hL5 : Later w0 (w4.alloc (.cells #[.int .i64 0, .int .i64 0] 61)) := later_alloc hL4 _
            obtain ⟨gr, hgr⟩ : ∃ g, g = w4.heap.size := ⟨_, rfl⟩
            have hrg5 := hrg.later (Later.trans hM24 (later_alloc (later_refl w4) (.cells #[.int .i64 0, .int .i64 0] 61)))
            generalize hw5 : w4.alloc (.cells #[.int .i64 0, .int .i64 0] 61) = w5 at *
            rw [← hgr] at hbn
            have Hw5 := hide hw5
            have Hgr := hide hgr
            clear hw5 hgr
            go_wp2_with fail
            rw [Hw5.out, ← Hgr.out]
            refine (Hip.out w5 hL5).mono ?_
            rintro e w6 ⟨rfl, hM6⟩
            have hL6 := Later.trans hL5 hM6
            go_wp2_with fail
            refine (Hin.out w6).mono ?_
            rintro e w6' ⟨rfl, rfl⟩
            go_wp2_with fail
            refine (Hp1.out w6 hL6).mono ?_
            rintro e w7 ⟨At, nt, kt, rfl, hM7, hrt⟩
            have hL7 := Later.trans hL6 hM7
            have hM57 := Later.trans hM6 hM7
            have hS7 : Later w0 w7.drew := later_drew hL7
            clear hL1 hL2 hL3 hM2 hM24 hrg
            go_wp2_with fail
            go_region_held3 (fun W => Later w0 W) ((((repeat (first | assumption | refine later_drew ?_ | refine later_alloc ?_ _ | refine later_set ?_ _ (Nat.le_add_right _ _) _ | refine later_set ?_ _ (Nat.le_refl _) _)); done)))
              (first
                | (go_at_call 28; go_must (refine (Hp2.out _ hS7).mono ?_; rintro e w8 ⟨Au, nu, ku, rfl, hM8, _⟩; have hL8 := Later.trans hS7 hM8))
                | (go_at_call 44; go_must (refine (Hin2.out _).mono ?_; rintro e w7' ⟨rfl, rfl⟩)))
            go_wp2_with fail
            refine (Hp3.out w8 hL8).mono ?_
            rintro e w9 ⟨Av, nv, kv, rfl, hM9, _⟩
            have hL9 := Later.trans hL8 hM9
            have hM79 := Later.trans (later_undrew hM8) hM9
            have hb9 := hbn.later (Later.trans hM57 hM79)
            have rx0 := hb9.cell 0
            have rx1 := hb9.cell 1
            simp only [List.getElem?_toArray, List.getElem?_cons_zero, List.getElem?_cons_succ] at rx0 rx1
            have hnr := hrg5.len
            rw [hbo] at hnr
            simp only [List.length_nil] at hnr
            subst nr
            have e1n : (E1 != 0) = true := by simpa using h1
            have e2n : (E2 != 0) = true := by simpa using h2
            have e2m : (E2 == 0) = false := by simpa using h2
            clear h1 h2 h3 hbo hrg5 hrt
            go_wp2_with fail
            refine (awake_calls _).mono ?_
            rintro e wa ⟨rfl, hLa⟩
            go_wp2_with fail
            go_ret
            exact ⟨rfl, Later.trans hL0 (Later.trans hL9 hLa)⟩
          · obtain ⟨k, hk, hkc, _, h3, hvor, hgor⟩ := hor.resolve_left (fun hh => by cases hh.1)
            subst E1 E3
            have hkc' : (k : Int) < c.horses.length := by omega
            have Hkc := hide hkc'
            clear hkc hkc'
            rcases hvor with ⟨hu2, h2, hvv⟩ | ⟨hu2, h2, hvv⟩
            · subst u
              injection hvv with e1 e2
              subst v1 v2
              rcases hgor with ⟨hgr2, hgg⟩ | ⟨lo, hi, hlh, hgr2, hgg⟩
              · injection hgg with e1 e2
                injection e2 with e2 e3
                subst g1 g2 g3
                have Hgr2 := hide hgr2
                clear hgr2
                subst h
                go_enter Try.func15, Try.ntmps15
                go_wp2_with fail
                rw [← Hw0.out]; clear Hw0
                refine Hthin.out.mono ?_
                rintro e w1 ⟨rfl, hL1⟩
                go_wp2_with fail
                refine (lawCloset_calls (k1 := k1) (k2 := k2) (k3 := k3) w1 (hc0.later hL1) (by omega) (by omega) (by omega)).mono ?_
                rintro e wa ⟨B1a, j1a, B2a, j2a, B3a, j3a, rfl, hMa, hca, hj1a, hj2a, hj3a⟩
                have hLa := Later.trans hL1 hMa
                go_wp2_with fail
                refine (list_calls _ (hp0.later hLa) (by omega)).mono ?_
                rintro e wb ⟨Ab, nb, kb, rfl, hMb, hrb, hkb, _⟩
                have hLb := Later.trans hLa hMb
                have hnb := hrb.len
                rw [← hp0.len] at hnb
                subst nb
                go_wp2_with fail
                refine (Hbp.out _ _ _ _ _ _ wb (hca.later hMb) hj2a _ _ hrb hkb).mono ?_
                rintro e w2 ⟨Ar, nr, kr, rfl, hM2, hrg⟩
                have hL2 := Later.trans hLb hM2
                clear hca hrb hj1a hj2a hj3a hMa hMb hLa hLb
                go_wp2_with fail
                refine (lawCloset_calls (k1 := k1) (k2 := k2) (k3 := k3) w2 (hc0.later hL2) (by omega) (by omega) (by omega)).mono ?_
                rintro e wa ⟨B1a, j1a, B2a, j2a, B3a, j3a, rfl, hMa, hca, hj1a, hj2a, hj3a⟩
                have hLa := Later.trans hL2 hMa
                go_wp2_with fail
                refine (list_calls _ (hp0.later hLa) (by omega)).mono ?_
                rintro e wb ⟨Ab, nb, kb, rfl, hMb, hrb, hkb, _⟩
                have hLb := Later.trans hLa hMb
                have hnb := hrb.len
                rw [← hp0.len] at hnb
                subst nb
                go_wp2_with fail
                refine (Hrp.out _ _ _ _ _ _ wb (hca.later hMb) hj2a _ _ hrb hkb).mono ?_
                rintro e w3 ⟨rfl, hM3⟩
                have hL3 := Later.trans hLb hM3
                have hM23 := Later.trans hMa (Later.trans hMb hM3)
                clear hca hrb hj1a hj2a hj3a hMa hMb hLa hLb hM3
                go_wp2_with fail
                refine (lawCloset_calls (k1 := k1) (k2 := k2) (k3 := k3) w3 (hc0.later hL3) (by omega) (by omega) (by omega)).mono ?_
                rintro e wa ⟨B1a, j1a, B2a, j2a, B3a, j3a, rfl, hMa, hca, hj1a, hj2a, hj3a⟩
                have hLa := Later.trans hL3 hMa
                go_wp2_with fail
                refine (list_calls _ (hp0.later hLa) (by omega)).mono ?_
                rintro e wb ⟨Ab, nb, kb, rfl, hMb, hrb, hkb, _⟩
                have hLb := Later.trans hLa hMb
                have hnb := hrb.len
                rw [← hp0.len] at hnb
                subst nb
                go_wp2_with fail
                refine (Hgp.out _ _ _ _ _ _ wb (hca.later hMb) hj2a _ _ hrb hkb).mono ?_
                rintro e w4 ⟨rfl, hM4⟩
                have hL4 := Later.trans hLb hM4
                have hM24 := Later.trans hM23 (Later.trans hMa (Later.trans hMb hM4))
                clear hca hrb hj1a hj2a hj3a hMa hMb hLa hLb hM4 hM23
                have hbn := Blk.new w4 61 #[.int .i64 0, .int .i64 0]
                have hL5 : Later w0 (w4.alloc (.cells #[.int .i64 0, .int .i64 0] 61)) := later_alloc hL4 _
                obtain ⟨gr, hgr⟩ : ∃ g, g = w4.heap.size := ⟨_, rfl⟩
                have hrg5 := hrg.later (Later.trans hM24 (later_alloc (later_refl w4) (.cells #[.int .i64 0, .int .i64 0] 61)))
                generalize hw5 : w4.alloc (.cells #[.int .i64 0, .int .i64 0] 61) = w5 at *
                rw [← hgr] at hbn
                have Hw5 := hide hw5
                have Hgr := hide hgr
                clear hw5 hgr
                go_wp2_with fail
                rw [Hw5.out, ← Hgr.out]
                refine (Hip.out w5 hL5).mono ?_
                rintro e w6 ⟨rfl, hM6⟩
                have hL6 := Later.trans hL5 hM6
                go_wp2_with fail
                refine (Hin.out w6).mono ?_
                rintro e w6' ⟨rfl, rfl⟩
                go_wp2_with fail
                refine (Hp1.out w6 hL6).mono ?_
                rintro e w7 ⟨At, nt, kt, rfl, hM7, hrt⟩
                have hL7 := Later.trans hL6 hM7
                have hM57 := Later.trans hM6 hM7
                have hS7 : Later w0 w7.drew := later_drew hL7
                clear hL1 hL2 hL3 hM2 hM24 hrg
                go_wp2_with fail
                go_region_held3 (fun W => Later w0 W) ((((repeat (first | assumption | refine later_drew ?_ | refine later_alloc ?_ _ | refine later_set ?_ _ (Nat.le_add_right _ _) _ | refine later_set ?_ _ (Nat.le_refl _) _)); done)))
                  (first
                    | (go_at_call 28; go_must (refine (Hp2.out _ hS7).mono ?_; rintro e w8 ⟨Au, nu, ku, rfl, hM8, _⟩; have hL8 := Later.trans hS7 hM8))
                    | (go_at_call 44; go_must (refine (Hin2.out _).mono ?_; rintro e w7' ⟨rfl, rfl⟩)))
                go_wp2_with fail
                refine (Hp3.out w8 hL8).mono ?_
                rintro e w9 ⟨Av, nv, kv, rfl, hM9, _⟩
                have hL9 := Later.trans hL8 hM9
                have hM79 := Later.trans (later_undrew hM8) hM9
                have hb9 := hbn.later (Later.trans hM57 hM79)
                have rx0 := hb9.cell 0
                have rx1 := hb9.cell 1
                simp only [List.getElem?_toArray, List.getElem?_cons_zero, List.getElem?_cons_succ] at rx0 rx1
                have hrt9 := (hrt (by trivial)).later hM79
                have hrgL := hrg5.later (Later.trans hM57 hM79)
                have hnr := hrgL.len
                rw [hblen, ← Hn1.out] at hnr
                subst nr
                have hnt := hrt9.len
                have ok := okC_of_fault hf
                have hpl := isPlaceB_isPl hf Hbi.out
                have hdry := truths_isDry ok.toOkH
                have htl : nt ≤ 1000000 := by rw [hnt, ← (truthsP_perm hf).length_eq]; have := truthsP_len hf; omega
                have hnn : ((n1 : Int) != (n1 : Int)) = false := by simp
                have Hget := hide hget
                have Hok := hide ok
                have Hpl := hide hpl
                have Hdry := hide hdry
                have Htl := hide htl
                have Hf := hide hf
                clear hget ok hpl hdry htl hf hnt hrt hrg5 hblen hbt ht rx0 rx1
                have e2n : (E2 != 0) = true := by simpa using h2
                have e2m : (E2 == 0) = false := by simpa using h2
                have hrtL := hrt9
                clear h2
                go_wp2_with fail
                go_loopw [23] (fun v wr => ∃ i : Nat, i ≤ n1 ∧ v = .int .i64 i ∧ Later w9 wr) (fun v _ => n1 - (intOf v).toNat)
                case atStart => exact ⟨0, Nat.zero_le _, rfl, later_refl _⟩
                case round =>
                  obtain ⟨i, hi, rfl, hL⟩ := hrel
                  have hL0r := Later.trans hL9 hL
                  by_cases hlt : i < n1
                  · have hi1 : (i : Int) < n1 := by omega
                    obtain ⟨b, o, y, rfl, _, hy, hy0, hy1⟩ := hrgL.get hlt
                    have hy0' := fun W (hW : Later wr W) => hy0 W (Later.trans hL hW)
                    have hy1' := fun W (hW : Later wr W) => hy1 W (Later.trans hL hW)
                    have hxm := Hget.out i (by have := Hn1.out; omega)
                    rw [hy] at hxm
                    injection hxm with hxm
                    have hbc := fun (W : World) (h : Later wr W) => BoundsR_calls (k1 := k1) (k2 := k2) (k3 := k3) (kp := kp) (kl := kt) (h := (i : Int)) W (hc0.later (Later.trans hL0r h)) (hrtL.later (Later.trans hL h)) (hp0.later (Later.trans hL0r h)) Hok.out.toOkH Hpl.out Hdry.out Htl.out (by omega) (by have := Hn1.out; omega)
                    simp only [Int.toNat_natCast, ← hxm] at hbc
                    obtain ⟨y1, y2⟩ := y
                    dsimp only at hy0' hy1' hbc
                    have Hbc := hide hbc
                    have hT : ∀ e : Ext wr, Later wr e.W := fun e => e.h
                    have hbx := fun W (hW : Later wr W) => (by first | exact hbox W (Later.trans hL0r hW) | exact hbox W (Later.trans hM9 (Later.trans hL hW)) | exact hbox W (Later.trans hM9 (Later.trans hM10 (Later.trans hL hW))))
                    clear hbc hy hy0 hy1 hxm hbox
                    go_wp2_with fail
                    refine wp_region_ext (w0 := wr) (by kernel_rfl) (by kernel_rfl) (later_refl _) ?_; (repeat (first | go_big_quiet_step ((first | (go_at_call 69; exact calls_ext (by simp) (Hbc.out _ (hT _))) | (go_at_call 68; exact calls_ext (by simp) (lawTo_calls _ _ _)))) | quiet_step ((first | (go_at_call 69; exact calls_ext (by simp) (Hbc.out _ (hT _))) | (go_at_call 68; exact calls_ext (by simp) (lawTo_calls _ _ _)))))); refine wpQuiet_nil ?_; rintro w19 ⟨⟨_, hM19⟩, rfl⟩; (try dsimp only)
                    go_wp2_with fail
                    go_roundw
                    case rel => exact ⟨i + 1, hlt, by go_num, Later.trans hL hM19⟩
                    case measure => simp [intOf]; omega
                  · have hi1 : ¬ (i : Int) < n1 := by omega
                    clear hlt
                    have hb10 := hb9.later hL
                    have rx0 := hb10.cell 0
                    have rx1 := hb10.cell 1
                    simp only [List.getElem?_toArray, List.getElem?_cons_zero, List.getElem?_cons_succ] at rx0 rx1
                    have hgc := Good_calls (k1 := k1) (k2 := k2) (k3 := k3) (kp := kp) (kl := kt) (h := (k : Int)) wr (hc0.later hL0r) (hrtL.later hL) (hp0.later hL0r) Hok.out Hpl.out Hdry.out Htl.out (by omega) Hkc.out
                    rw [Int.toNat_natCast, Hgr2.out] at hgc
                    have Hgc := hide hgc
                    clear hgc
                    go_wp2_with fail
                    refine Hgc.out.mono ?_
                    rintro e w20 ⟨rfl, hM20⟩
                    have hL20 := Later.trans hL0r hM20
                    have hb20 := hb10.later hM20
                    have rx0 := hb20.cell 0
                    have rx1 := hb20.cell 1
                    have hsz20 := hb20.lt
                    simp only [List.getElem?_toArray, List.getElem?_cons_zero, List.getElem?_cons_succ] at rx0 rx1
                    go_wp2_with fail
                    refine (awake_calls _).mono ?_
                    rintro e wa ⟨rfl, hLa⟩
                    go_wp2_with fail
                    go_ret
                    exact ⟨rfl, Later.trans hL0 (Later.trans (later_alloc hL20 _) hLa)⟩
              · injection hgg with e1 e2
                injection e2 with e2 e3
                subst lo hi g3
                have Hgr2 := hide hgr2
                clear hgr2
                subst h
                go_enter Try.func15, Try.ntmps15
                go_wp2_with fail
                rw [← Hw0.out]; clear Hw0
                refine Hthin.out.mono ?_
                rintro e w1 ⟨rfl, hL1⟩
                go_wp2_with fail
                refine (lawCloset_calls (k1 := k1) (k2 := k2) (k3 := k3) w1 (hc0.later hL1) (by omega) (by omega) (by omega)).mono ?_
                rintro e wa ⟨B1a, j1a, B2a, j2a, B3a, j3a, rfl, hMa, hca, hj1a, hj2a, hj3a⟩
                have hLa := Later.trans hL1 hMa
                go_wp2_with fail
                refine (list_calls _ (hp0.later hLa) (by omega)).mono ?_
                rintro e wb ⟨Ab, nb, kb, rfl, hMb, hrb, hkb, _⟩
                have hLb := Later.trans hLa hMb
                have hnb := hrb.len
                rw [← hp0.len] at hnb
                subst nb
                go_wp2_with fail
                refine (Hbp.out _ _ _ _ _ _ wb (hca.later hMb) hj2a _ _ hrb hkb).mono ?_
                rintro e w2 ⟨Ar, nr, kr, rfl, hM2, hrg⟩
                have hL2 := Later.trans hLb hM2
                clear hca hrb hj1a hj2a hj3a hMa hMb hLa hLb
                go_wp2_with fail
                refine (lawCloset_calls (k1 := k1) (k2 := k2) (k3 := k3) w2 (hc0.later hL2) (by omega) (by omega) (by omega)).mono ?_
                rintro e wa ⟨B1a, j1a, B2a, j2a, B3a, j3a, rfl, hMa, hca, hj1a, hj2a, hj3a⟩
                have hLa := Later.trans hL2 hMa
                go_wp2_with fail
                refine (list_calls _ (hp0.later hLa) (by omega)).mono ?_
                rintro e wb ⟨Ab, nb, kb, rfl, hMb, hrb, hkb, _⟩
                have hLb := Later.trans hLa hMb
                have hnb := hrb.len
                rw [← hp0.len] at hnb
                subst nb
                go_wp2_with fail
                refine (Hrp.out _ _ _ _ _ _ wb (hca.later hMb) hj2a _ _ hrb hkb).mono ?_
                rintro e w3 ⟨rfl, hM3⟩
                have hL3 := Later.trans hLb hM3
                have hM23 := Later.trans hMa (Later.trans hMb hM3)
                clear hca hrb hj1a hj2a hj3a hMa hMb hLa hLb hM3
                go_wp2_with fail
                refine (lawCloset_calls (k1 := k1) (k2 := k2) (k3 := k3) w3 (hc0.later hL3) (by omega) (by omega) (by omega)).mono ?_
                rintro e wa ⟨B1a, j1a, B2a, j2a, B3a, j3a, rfl, hMa, hca, hj1a, hj2a, hj3a⟩
                have hLa := Later.trans hL3 hMa
                go_wp2_with fail
                refine (list_calls _ (hp0.later hLa) (by omega)).mono ?_
                rintro e wb ⟨Ab, nb, kb, rfl, hMb, hrb, hkb, _⟩
                have hLb := Later.trans hLa hMb
                have hnb := hrb.len
                rw [← hp0.len] at hnb
                subst nb
                go_wp2_with fail
                refine (Hgp.out _ _ _ _ _ _ wb (hca.later hMb) hj2a _ _ hrb hkb).mono ?_
                rintro e w4 ⟨rfl, hM4⟩
                have hL4 := Later.trans hLb hM4
                have hM24 := Later.trans hM23 (Later.trans hMa (Later.trans hMb hM4))
                clear hca hrb hj1a hj2a hj3a hMa hMb hLa hLb hM4 hM23
                have hbn := Blk.new w4 61 #[.int .i64 g1, .int .i64 g2]
                have hL5 : Later w0 (w4.alloc (.cells #[.int .i64 g1, .int .i64 g2] 61)) := later_alloc hL4 _
                obtain ⟨gr, hgr⟩ : ∃ g, g = w4.heap.size := ⟨_, rfl⟩
                have hrg5 := hrg.later (Later.trans hM24 (later_alloc (later_refl w4) (.cells #[.int .i64 g1, .int .i64 g2] 61)))
                generalize hw5 : w4.alloc (.cells #[.int .i64 g1, .int .i64 g2] 61) = w5 at *
                rw [← hgr] at hbn
                have Hw5 := hide hw5
                have Hgr := hide hgr
                clear hw5 hgr
                go_wp2_with fail
                rw [Hw5.out, ← Hgr.out]
                refine (Hip.out w5 hL5).mono ?_
                rintro e w6 ⟨rfl, hM6⟩
                have hL6 := Later.trans hL5 hM6
                go_wp2_with fail
                refine (Hin.out w6).mono ?_
                rintro e w6' ⟨rfl, rfl⟩
                go_wp2_with fail
                refine (Hp1.out w6 hL6).mono ?_
                rintro e w7 ⟨At, nt, kt, rfl, hM7, hrt⟩
                have hL7 := Later.trans hL6 hM7
                have hM57 := Later.trans hM6 hM7
                have hS7 : Later w0 w7.drew := later_drew hL7
                clear hL1 hL2 hL3 hM2 hM24 hrg
                go_wp2_with fail
                go_region_held3 (fun W => Later w0 W) ((((repeat (first | assumption | refine later_drew ?_ | refine later_alloc ?_ _ | refine later_set ?_ _ (Nat.le_add_right _ _) _ | refine later_set ?_ _ (Nat.le_refl _) _)); done)))
                  (first
                    | (go_at_call 28; go_must (refine (Hp2.out _ hS7).mono ?_; rintro e w8 ⟨Au, nu, ku, rfl, hM8, _⟩; have hL8 := Later.trans hS7 hM8))
                    | (go_at_call 44; go_must (refine (Hin2.out _).mono ?_; rintro e w7' ⟨rfl, rfl⟩)))
                go_wp2_with fail
                refine (Hp3.out w8 hL8).mono ?_
                rintro e w9 ⟨Av, nv, kv, rfl, hM9, _⟩
                have hL9 := Later.trans hL8 hM9
                have hM79 := Later.trans (later_undrew hM8) hM9
                have hb9 := hbn.later (Later.trans hM57 hM79)
                have rx0 := hb9.cell 0
                have rx1 := hb9.cell 1
                simp only [List.getElem?_toArray, List.getElem?_cons_zero, List.getElem?_cons_succ] at rx0 rx1
                have hrt9 := (hrt (by trivial)).later hM79
                have hrgL := hrg5.later (Later.trans hM57 hM79)
                have hnr := hrgL.len
                rw [hblen, ← Hn1.out] at hnr
                subst nr
                have hnt := hrt9.len
                have ok := okC_of_fault hf
                have hpl := isPlaceB_isPl hf Hbi.out
                have hdry := truths_isDry ok.toOkH
                have htl : nt ≤ 1000000 := by rw [hnt, ← (truthsP_perm hf).length_eq]; have := truthsP_len hf; omega
                have hnn : ((n1 : Int) != (n1 : Int)) = false := by simp
                have Hget := hide hget
                have Hok := hide ok
                have Hpl := hide hpl
                have Hdry := hide hdry
                have Htl := hide htl
                have Hf := hide hf
                clear hget ok hpl hdry htl hf hnt hrt hrg5 hblen hbt ht rx0 rx1
                have e2n : (E2 != 0) = true := by simpa using h2
                have e2m : (E2 == 0) = false := by simpa using h2
                have hrtL := hrt9
                clear h2
                go_wp2_with fail
                go_loopw [23] (fun v wr => ∃ i : Nat, i ≤ n1 ∧ v = .int .i64 i ∧ Later w9 wr) (fun v _ => n1 - (intOf v).toNat)
                case atStart => exact ⟨0, Nat.zero_le _, rfl, later_refl _⟩
                case round =>
                  obtain ⟨i, hi, rfl, hL⟩ := hrel
                  have hL0r := Later.trans hL9 hL
                  by_cases hlt : i < n1
                  · have hi1 : (i : Int) < n1 := by omega
                    obtain ⟨b, o, y, rfl, _, hy, hy0, hy1⟩ := hrgL.get hlt
                    have hy0' := fun W (hW : Later wr W) => hy0 W (Later.trans hL hW)
                    have hy1' := fun W (hW : Later wr W) => hy1 W (Later.trans hL hW)
                    have hxm := Hget.out i (by have := Hn1.out; omega)
                    rw [hy] at hxm
                    injection hxm with hxm
                    have hbc := fun (W : World) (h : Later wr W) => BoundsR_calls (k1 := k1) (k2 := k2) (k3 := k3) (kp := kp) (kl := kt) (h := (i : Int)) W (hc0.later (Later.trans hL0r h)) (hrtL.later (Later.trans hL h)) (hp0.later (Later.trans hL0r h)) Hok.out.toOkH Hpl.out Hdry.out Htl.out (by omega) (by have := Hn1.out; omega)
                    simp only [Int.toNat_natCast, ← hxm] at hbc
                    obtain ⟨y1, y2⟩ := y
                    dsimp only at hy0' hy1' hbc
                    have Hbc := hide hbc
                    have hT : ∀ e : Ext wr, Later wr e.W := fun e => e.h
                    have hbx := fun W (hW : Later wr W) => (by first | exact hbox W (Later.trans hL0r hW) | exact hbox W (Later.trans hM9 (Later.trans hL hW)) | exact hbox W (Later.trans hM9 (Later.trans hM10 (Later.trans hL hW))))
                    clear hbc hy hy0 hy1 hxm hbox
                    go_wp2_with fail
                    refine wp_region_ext (w0 := wr) (by kernel_rfl) (by kernel_rfl) (later_refl _) ?_; (repeat (first | go_big_quiet_step ((first | (go_at_call 69; exact calls_ext (by simp) (Hbc.out _ (hT _))) | (go_at_call 68; exact calls_ext (by simp) (lawTo_calls _ _ _)))) | quiet_step ((first | (go_at_call 69; exact calls_ext (by simp) (Hbc.out _ (hT _))) | (go_at_call 68; exact calls_ext (by simp) (lawTo_calls _ _ _)))))); refine wpQuiet_nil ?_; rintro w19 ⟨⟨_, hM19⟩, rfl⟩; (try dsimp only)
                    go_wp2_with fail
                    go_roundw
                    case rel => exact ⟨i + 1, hlt, by go_num, Later.trans hL hM19⟩
                    case measure => simp [intOf]; omega
                  · have hi1 : ¬ (i : Int) < n1 := by omega
                    clear hlt
                    have hb10 := hb9.later hL
                    have rx0 := hb10.cell 0
                    have rx1 := hb10.cell 1
                    simp only [List.getElem?_toArray, List.getElem?_cons_zero, List.getElem?_cons_succ] at rx0 rx1
                    have hgc := Good_calls (k1 := k1) (k2 := k2) (k3 := k3) (kp := kp) (kl := kt) (h := (k : Int)) wr (hc0.later hL0r) (hrtL.later hL) (hp0.later hL0r) Hok.out Hpl.out Hdry.out Htl.out (by omega) Hkc.out
                    rw [Int.toNat_natCast, Hgr2.out] at hgc
                    have Hgc := hide hgc
                    have hlh : ¬ g2 < g1 := by omega
                    clear hgc
                    go_wp2_with fail
                    refine Hgc.out.mono ?_
                    rintro e w20 ⟨rfl, hM20⟩
                    have hL20 := Later.trans hL0r hM20
                    obtain ⟨w21, hw21⟩ : ∃ W, W = w20.alloc (.cells #[.int .i64 g1, .int .i64 g2] 66) := ⟨_, rfl⟩
                    have hL21 : Later w0 w21 := by rw [hw21]; exact later_alloc hL20 _
                    have hb21 := (hb10.later hM20).later (show Later w20 w21 by rw [hw21]; exact later_alloc (later_refl _) _)
                    have hx21 : Blk w21 w20.heap.size 66 #[.int .i64 g1, .int .i64 g2] := by rw [hw21]; exact Blk.new _ _ _
                    have rx := fun W (h : Later w21 W) => hb21.cells_later W h
                    have sx := fun W (h : Later w21 W) => hx21.cells_later W h
                    have rx0 := fun W h => rx W h 0
                    have rx1 := fun W h => rx W h 1
                    have sx0 := fun W h => sx W h 0
                    have sx1 := fun W h => sx W h 1
                    simp only [List.getElem?_toArray, List.getElem?_cons_zero, List.getElem?_cons_succ] at rx0 rx1 sx0 sx1
                    have Hw21 := hide hw21
                    have hS21 : Later w21 w21.drew := later_drew (later_refl _)
                    clear hw21 rx sx hb21 hx21
                    go_wp2_with fail
                    rw [← Hw21.out]
                    go_region_held3 (fun W => Later w21 W) ((((repeat (first | assumption | refine later_drew ?_ | refine later_alloc ?_ _ | refine later_set ?_ _ (Nat.le_add_right _ _) _ | refine later_set ?_ _ (Nat.le_refl _) _)); done)))
                      (first
                        | (go_at_call 24; go_must (refine (awake_calls _).mono ?_; rintro e w23 ⟨rfl, hM23⟩; have hL23 := Later.trans hL22 hM23))
                        | (go_at_call 68; go_must (refine (lawTo_calls _ _ _).mono ?_; rintro e w22 ⟨rfl, hM22⟩; have hL22 := Later.trans hS21 hM22)))
                    go_wp2_with fail
                    go_ret
                    exact ⟨rfl, Later.trans hL0 (Later.trans hL21 hL23)⟩
            · subst u E2
              injection hvv with e1 e2
              subst v2
              have hvc := fun (W : World) (hW : Later w0 W) (Al : Option Addr) (nl kl : Nat) (hl : RRI W Al nl (truths c)) (hnl : nl ≤ 1000000) (ok : OkC c) (hpl : IsPl c p) => Verdict_calls (k1 := k1) (k2 := k2) (k3 := k3) (kp := kp) (kl := kl) (h := (k : Int)) (m := m) W (hc0.later hW) hl (hp0.later hW) ok.toOkH hpl (truths_isDry ok.toOkH) hnl (by omega) Hkc.out
              simp only [Int.toNat_natCast, ← e1] at hvc
              have Hvc := hide hvc
              have hvv1 : (v1 != v1) = false := by simp
              clear hvc e1
              rcases hgor with ⟨hgr2, hgg⟩ | ⟨lo, hi, hlh, hgr2, hgg⟩
              · injection hgg with e1 e2
                injection e2 with e2 e3
                subst g1 g2 g3
                have Hgr2 := hide hgr2
                clear hgr2
                subst h
                go_enter Try.func15, Try.ntmps15
                go_wp2_with fail
                rw [← Hw0.out]; clear Hw0
                refine Hthin.out.mono ?_
                rintro e w1 ⟨rfl, hL1⟩
                go_wp2_with fail
                refine (lawCloset_calls (k1 := k1) (k2 := k2) (k3 := k3) w1 (hc0.later hL1) (by omega) (by omega) (by omega)).mono ?_
                rintro e wa ⟨B1a, j1a, B2a, j2a, B3a, j3a, rfl, hMa, hca, hj1a, hj2a, hj3a⟩
                have hLa := Later.trans hL1 hMa
                go_wp2_with fail
                refine (list_calls _ (hp0.later hLa) (by omega)).mono ?_
                rintro e wb ⟨Ab, nb, kb, rfl, hMb, hrb, hkb, _⟩
                have hLb := Later.trans hLa hMb
                have hnb := hrb.len
                rw [← hp0.len] at hnb
                subst nb
                go_wp2_with fail
                refine (Hbp.out _ _ _ _ _ _ wb (hca.later hMb) hj2a _ _ hrb hkb).mono ?_
                rintro e w2 ⟨Ar, nr, kr, rfl, hM2, hrg⟩
                have hL2 := Later.trans hLb hM2
                clear hca hrb hj1a hj2a hj3a hMa hMb hLa hLb
                go_wp2_with fail
                refine (lawCloset_calls (k1 := k1) (k2 := k2) (k3 := k3) w2 (hc0.later hL2) (by omega) (by omega) (by omega)).mono ?_
                rintro e wa ⟨B1a, j1a, B2a, j2a, B3a, j3a, rfl, hMa, hca, hj1a, hj2a, hj3a⟩
                have hLa := Later.trans hL2 hMa
                go_wp2_with fail
                refine (list_calls _ (hp0.later hLa) (by omega)).mono ?_
                rintro e wb ⟨Ab, nb, kb, rfl, hMb, hrb, hkb, _⟩
                have hLb := Later.trans hLa hMb
                have hnb := hrb.len
                rw [← hp0.len] at hnb
                subst nb
                go_wp2_with fail
                refine (Hrp.out _ _ _ _ _ _ wb (hca.later hMb) hj2a _ _ hrb hkb).mono ?_
                rintro e w3 ⟨rfl, hM3⟩
                have hL3 := Later.trans hLb hM3
                have hM23 := Later.trans hMa (Later.trans hMb hM3)
                clear hca hrb hj1a hj2a hj3a hMa hMb hLa hLb hM3
                go_wp2_with fail
                refine (lawCloset_calls (k1 := k1) (k2 := k2) (k3 := k3) w3 (hc0.later hL3) (by omega) (by omega) (by omega)).mono ?_
                rintro e wa ⟨B1a, j1a, B2a, j2a, B3a, j3a, rfl, hMa, hca, hj1a, hj2a, hj3a⟩
                have hLa := Later.trans hL3 hMa
                go_wp2_with fail
                refine (list_calls _ (hp0.later hLa) (by omega)).mono ?_
                rintro e wb ⟨Ab, nb, kb, rfl, hMb, hrb, hkb, _⟩
                have hLb := Later.trans hLa hMb
                have hnb := hrb.len
                rw [← hp0.len] at hnb
                subst nb
                go_wp2_with fail
                refine (Hgp.out _ _ _ _ _ _ wb (hca.later hMb) hj2a _ _ hrb hkb).mono ?_
                rintro e w4 ⟨rfl, hM4⟩
                have hL4 := Later.trans hLb hM4
                have hM24 := Later.trans hM23 (Later.trans hMa (Later.trans hMb hM4))
                clear hca hrb hj1a hj2a hj3a hMa hMb hLa hLb hM4 hM23
                have hbn := Blk.new w4 61 #[.int .i64 0, .int .i64 0]
                have hL5 : Later w0 (w4.alloc (.cells #[.int .i64 0, .int .i64 0] 61)) := later_alloc hL4 _
                obtain ⟨gr, hgr⟩ : ∃ g, g = w4.heap.size := ⟨_, rfl⟩
                have hrg5 := hrg.later (Later.trans hM24 (later_alloc (later_refl w4) (.cells #[.int .i64 0, .int .i64 0] 61)))
                generalize hw5 : w4.alloc (.cells #[.int .i64 0, .int .i64 0] 61) = w5 at *
                rw [← hgr] at hbn
                have Hw5 := hide hw5
                have Hgr := hide hgr
                clear hw5 hgr
                go_wp2_with fail
                rw [Hw5.out, ← Hgr.out]
                refine (Hip.out w5 hL5).mono ?_
                rintro e w6 ⟨rfl, hM6⟩
                have hL6 := Later.trans hL5 hM6
                go_wp2_with fail
                refine (Hin.out w6).mono ?_
                rintro e w6' ⟨rfl, rfl⟩
                go_wp2_with fail
                refine (Hp1.out w6 hL6).mono ?_
                rintro e w7 ⟨At, nt, kt, rfl, hM7, hrt⟩
                have hL7 := Later.trans hL6 hM7
                have hM57 := Later.trans hM6 hM7
                have hS7 : Later w0 w7.drew := later_drew hL7
                clear hL1 hL2 hL3 hM2 hM24 hrg
                go_wp2_with fail
                go_region_held3 (fun W => Later w0 W) ((((repeat (first | assumption | refine later_drew ?_ | refine later_alloc ?_ _ | refine later_set ?_ _ (Nat.le_add_right _ _) _ | refine later_set ?_ _ (Nat.le_refl _) _)); done)))
                  (first
                    | (go_at_call 28; go_must (refine (Hp2.out _ hS7).mono ?_; rintro e w8 ⟨Au, nu, ku, rfl, hM8, _⟩; have hL8 := Later.trans hS7 hM8))
                    | (go_at_call 44; go_must (refine (Hin2.out _).mono ?_; rintro e w7' ⟨rfl, rfl⟩)))
                go_wp2_with fail
                refine (Hp3.out w8 hL8).mono ?_
                rintro e w9 ⟨Av, nv, kv, rfl, hM9, _⟩
                have hL9 := Later.trans hL8 hM9
                have hM79 := Later.trans (later_undrew hM8) hM9
                have hb9 := hbn.later (Later.trans hM57 hM79)
                have rx0 := hb9.cell 0
                have rx1 := hb9.cell 1
                simp only [List.getElem?_toArray, List.getElem?_cons_zero, List.getElem?_cons_succ] at rx0 rx1
                have hrt9 := (hrt (by trivial)).later hM79
                have hrgL := hrg5.later (Later.trans hM57 hM79)
                have hnr := hrgL.len
                rw [hblen, ← Hn1.out] at hnr
                subst nr
                have hnt := hrt9.len
                have ok := okC_of_fault hf
                have hpl := isPlaceB_isPl hf Hbi.out
                have hdry := truths_isDry ok.toOkH
                have htl : nt ≤ 1000000 := by rw [hnt, ← (truthsP_perm hf).length_eq]; have := truthsP_len hf; omega
                have hnn : ((n1 : Int) != (n1 : Int)) = false := by simp
                have Hget := hide hget
                have Hok := hide ok
                have Hpl := hide hpl
                have Hdry := hide hdry
                have Htl := hide htl
                have Hf := hide hf
                clear hget ok hpl hdry htl hf hnt hrt hrg5 hblen hbt ht rx0 rx1
                go_wp2_with fail
                refine (Hvc.out w9 hL9 _ _ _ hrt9 Htl.out Hok.out Hpl.out).mono ?_
                rintro e w10 ⟨rfl, hM10⟩
                have hL10 := Later.trans hL9 hM10
                have hrtL := hrt9.later hM10
                have hrgM := hrgL.later hM10
                clear hrgL
                have hrgL := hrgM
                have hb9' := hb9.later hM10
                clear hb9
                have hb9 := hb9'
                go_wp2_with fail
                go_loopw [23] (fun v wr => ∃ i : Nat, i ≤ n1 ∧ v = .int .i64 i ∧ Later w10 wr) (fun v _ => n1 - (intOf v).toNat)
                case atStart => exact ⟨0, Nat.zero_le _, rfl, later_refl _⟩
                case round =>
                  obtain ⟨i, hi, rfl, hL⟩ := hrel
                  have hL0r := Later.trans hL10 hL
                  by_cases hlt : i < n1
                  · have hi1 : (i : Int) < n1 := by omega
                    obtain ⟨b, o, y, rfl, _, hy, hy0, hy1⟩ := hrgL.get hlt
                    have hy0' := fun W (hW : Later wr W) => hy0 W (Later.trans hL hW)
                    have hy1' := fun W (hW : Later wr W) => hy1 W (Later.trans hL hW)
                    have hxm := Hget.out i (by have := Hn1.out; omega)
                    rw [hy] at hxm
                    injection hxm with hxm
                    have hbc := fun (W : World) (h : Later wr W) => BoundsR_calls (k1 := k1) (k2 := k2) (k3 := k3) (kp := kp) (kl := kt) (h := (i : Int)) W (hc0.later (Later.trans hL0r h)) (hrtL.later (Later.trans hL h)) (hp0.later (Later.trans hL0r h)) Hok.out.toOkH Hpl.out Hdry.out Htl.out (by omega) (by have := Hn1.out; omega)
                    simp only [Int.toNat_natCast, ← hxm] at hbc
                    obtain ⟨y1, y2⟩ := y
                    dsimp only at hy0' hy1' hbc
                    have Hbc := hide hbc
                    have hT : ∀ e : Ext wr, Later wr e.W := fun e => e.h
                    have hbx := fun W (hW : Later wr W) => (by first | exact hbox W (Later.trans hL0r hW) | exact hbox W (Later.trans hM9 (Later.trans hL hW)) | exact hbox W (Later.trans hM9 (Later.trans hM10 (Later.trans hL hW))))
                    clear hbc hy hy0 hy1 hxm hbox
                    go_wp2_with fail
                    refine wp_region_ext (w0 := wr) (by kernel_rfl) (by kernel_rfl) (later_refl _) ?_; (repeat (first | go_big_quiet_step ((first | (go_at_call 69; exact calls_ext (by simp) (Hbc.out _ (hT _))) | (go_at_call 68; exact calls_ext (by simp) (lawTo_calls _ _ _)))) | quiet_step ((first | (go_at_call 69; exact calls_ext (by simp) (Hbc.out _ (hT _))) | (go_at_call 68; exact calls_ext (by simp) (lawTo_calls _ _ _)))))); refine wpQuiet_nil ?_; rintro w19 ⟨⟨_, hM19⟩, rfl⟩; (try dsimp only)
                    go_wp2_with fail
                    go_roundw
                    case rel => exact ⟨i + 1, hlt, by go_num, Later.trans hL hM19⟩
                    case measure => simp [intOf]; omega
                  · have hi1 : ¬ (i : Int) < n1 := by omega
                    clear hlt
                    have hb10 := hb9.later hL
                    have rx0 := hb10.cell 0
                    have rx1 := hb10.cell 1
                    simp only [List.getElem?_toArray, List.getElem?_cons_zero, List.getElem?_cons_succ] at rx0 rx1
                    have hgc := Good_calls (k1 := k1) (k2 := k2) (k3 := k3) (kp := kp) (kl := kt) (h := (k : Int)) wr (hc0.later hL0r) (hrtL.later hL) (hp0.later hL0r) Hok.out Hpl.out Hdry.out Htl.out (by omega) Hkc.out
                    rw [Int.toNat_natCast, Hgr2.out] at hgc
                    have Hgc := hide hgc
                    clear hgc
                    go_wp2_with fail
                    refine Hgc.out.mono ?_
                    rintro e w20 ⟨rfl, hM20⟩
                    have hL20 := Later.trans hL0r hM20
                    have hb20 := hb10.later hM20
                    have rx0 := hb20.cell 0
                    have rx1 := hb20.cell 1
                    have hsz20 := hb20.lt
                    simp only [List.getElem?_toArray, List.getElem?_cons_zero, List.getElem?_cons_succ] at rx0 rx1
                    go_wp2_with fail
                    refine (awake_calls _).mono ?_
                    rintro e wa ⟨rfl, hLa⟩
                    go_wp2_with fail
                    go_ret
                    exact ⟨rfl, Later.trans hL0 (Later.trans (later_alloc hL20 _) hLa)⟩
              · injection hgg with e1 e2
                injection e2 with e2 e3
                subst lo hi g3
                have Hgr2 := hide hgr2
                clear hgr2
                subst h
                go_enter Try.func15, Try.ntmps15
                go_wp2_with fail
                rw [← Hw0.out]; clear Hw0
                refine Hthin.out.mono ?_
                rintro e w1 ⟨rfl, hL1⟩
                go_wp2_with fail
                refine (lawCloset_calls (k1 := k1) (k2 := k2) (k3 := k3) w1 (hc0.later hL1) (by omega) (by omega) (by omega)).mono ?_
                rintro e wa ⟨B1a, j1a, B2a, j2a, B3a, j3a, rfl, hMa, hca, hj1a, hj2a, hj3a⟩
                have hLa := Later.trans hL1 hMa
                go_wp2_with fail
                refine (list_calls _ (hp0.later hLa) (by omega)).mono ?_
                rintro e wb ⟨Ab, nb, kb, rfl, hMb, hrb, hkb, _⟩
                have hLb := Later.trans hLa hMb
                have hnb := hrb.len
                rw [← hp0.len] at hnb
                subst nb
                go_wp2_with fail
                refine (Hbp.out _ _ _ _ _ _ wb (hca.later hMb) hj2a _ _ hrb hkb).mono ?_
                rintro e w2 ⟨Ar, nr, kr, rfl, hM2, hrg⟩
                have hL2 := Later.trans hLb hM2
                clear hca hrb hj1a hj2a hj3a hMa hMb hLa hLb
                go_wp2_with fail
                refine (lawCloset_calls (k1 := k1) (k2 := k2) (k3 := k3) w2 (hc0.later hL2) (by omega) (by omega) (by omega)).mono ?_
                rintro e wa ⟨B1a, j1a, B2a, j2a, B3a, j3a, rfl, hMa, hca, hj1a, hj2a, hj3a⟩
                have hLa := Later.trans hL2 hMa
                go_wp2_with fail
                refine (list_calls _ (hp0.later hLa) (by omega)).mono ?_
                rintro e wb ⟨Ab, nb, kb, rfl, hMb, hrb, hkb, _⟩
                have hLb := Later.trans hLa hMb
                have hnb := hrb.len
                rw [← hp0.len] at hnb
                subst nb
                go_wp2_with fail
                refine (Hrp.out _ _ _ _ _ _ wb (hca.later hMb) hj2a _ _ hrb hkb).mono ?_
                rintro e w3 ⟨rfl, hM3⟩
                have hL3 := Later.trans hLb hM3
                have hM23 := Later.trans hMa (Later.trans hMb hM3)
                clear hca hrb hj1a hj2a hj3a hMa hMb hLa hLb hM3
                go_wp2_with fail
                refine (lawCloset_calls (k1 := k1) (k2 := k2) (k3 := k3) w3 (hc0.later hL3) (by omega) (by omega) (by omega)).mono ?_
                rintro e wa ⟨B1a, j1a, B2a, j2a, B3a, j3a, rfl, hMa, hca, hj1a, hj2a, hj3a⟩
                have hLa := Later.trans hL3 hMa
                go_wp2_with fail
                refine (list_calls _ (hp0.later hLa) (by omega)).mono ?_
                rintro e wb ⟨Ab, nb, kb, rfl, hMb, hrb, hkb, _⟩
                have hLb := Later.trans hLa hMb
                have hnb := hrb.len
                rw [← hp0.len] at hnb
                subst nb
                go_wp2_with fail
                refine (Hgp.out _ _ _ _ _ _ wb (hca.later hMb) hj2a _ _ hrb hkb).mono ?_
                rintro e w4 ⟨rfl, hM4⟩
                have hL4 := Later.trans hLb hM4
                have hM24 := Later.trans hM23 (Later.trans hMa (Later.trans hMb hM4))
                clear hca hrb hj1a hj2a hj3a hMa hMb hLa hLb hM4 hM23
                have hbn := Blk.new w4 61 #[.int .i64 g1, .int .i64 g2]
                have hL5 : Later w0 (w4.alloc (.cells #[.int .i64 g1, .int .i64 g2] 61)) := later_alloc hL4 _
                obtain ⟨gr, hgr⟩ : ∃ g, g = w4.heap.size := ⟨_, rfl⟩
                have hrg5 := hrg.later (Later.trans hM24 (later_alloc (later_refl w4) (.cells #[.int .i64 g1, .int .i64 g2] 61)))
                generalize hw5 : w4.alloc (.cells #[.int .i64 g1, .int .i64 g2] 61) = w5 at *
                rw [← hgr] at hbn
                have Hw5 := hide hw5
                have Hgr := hide hgr
                clear hw5 hgr
                go_wp2_with fail
                rw [Hw5.out, ← Hgr.out]
                refine (Hip.out w5 hL5).mono ?_
                rintro e w6 ⟨rfl, hM6⟩
                have hL6 := Later.trans hL5 hM6
                go_wp2_with fail
                refine (Hin.out w6).mono ?_
                rintro e w6' ⟨rfl, rfl⟩
                go_wp2_with fail
                refine (Hp1.out w6 hL6).mono ?_
                rintro e w7 ⟨At, nt, kt, rfl, hM7, hrt⟩
                have hL7 := Later.trans hL6 hM7
                have hM57 := Later.trans hM6 hM7
                have hS7 : Later w0 w7.drew := later_drew hL7
                clear hL1 hL2 hL3 hM2 hM24 hrg
                go_wp2_with fail
                go_region_held3 (fun W => Later w0 W) ((((repeat (first | assumption | refine later_drew ?_ | refine later_alloc ?_ _ | refine later_set ?_ _ (Nat.le_add_right _ _) _ | refine later_set ?_ _ (Nat.le_refl _) _)); done)))
                  (first
                    | (go_at_call 28; go_must (refine (Hp2.out _ hS7).mono ?_; rintro e w8 ⟨Au, nu, ku, rfl, hM8, _⟩; have hL8 := Later.trans hS7 hM8))
                    | (go_at_call 44; go_must (refine (Hin2.out _).mono ?_; rintro e w7' ⟨rfl, rfl⟩)))
                go_wp2_with fail
                refine (Hp3.out w8 hL8).mono ?_
                rintro e w9 ⟨Av, nv, kv, rfl, hM9, _⟩
                have hL9 := Later.trans hL8 hM9
                have hM79 := Later.trans (later_undrew hM8) hM9
                have hb9 := hbn.later (Later.trans hM57 hM79)
                have rx0 := hb9.cell 0
                have rx1 := hb9.cell 1
                simp only [List.getElem?_toArray, List.getElem?_cons_zero, List.getElem?_cons_succ] at rx0 rx1
                have hrt9 := (hrt (by trivial)).later hM79
                have hrgL := hrg5.later (Later.trans hM57 hM79)
                have hnr := hrgL.len
                rw [hblen, ← Hn1.out] at hnr
                subst nr
                have hnt := hrt9.len
                have ok := okC_of_fault hf
                have hpl := isPlaceB_isPl hf Hbi.out
                have hdry := truths_isDry ok.toOkH
                have htl : nt ≤ 1000000 := by rw [hnt, ← (truthsP_perm hf).length_eq]; have := truthsP_len hf; omega
                have hnn : ((n1 : Int) != (n1 : Int)) = false := by simp
                have Hget := hide hget
                have Hok := hide ok
                have Hpl := hide hpl
                have Hdry := hide hdry
                have Htl := hide htl
                have Hf := hide hf
                clear hget ok hpl hdry htl hf hnt hrt hrg5 hblen hbt ht rx0 rx1
                go_wp2_with fail
                refine (Hvc.out w9 hL9 _ _ _ hrt9 Htl.out Hok.out Hpl.out).mono ?_
                rintro e w10 ⟨rfl, hM10⟩
                have hL10 := Later.trans hL9 hM10
                have hrtL := hrt9.later hM10
                have hrgM := hrgL.later hM10
                clear hrgL
                have hrgL := hrgM
                have hb9' := hb9.later hM10
                clear hb9
                have hb9 := hb9'
                go_wp2_with fail
                go_loopw [23] (fun v wr => ∃ i : Nat, i ≤ n1 ∧ v = .int .i64 i ∧ Later w10 wr) (fun v _ => n1 - (intOf v).toNat)
                case atStart => exact ⟨0, Nat.zero_le _, rfl, later_refl _⟩
                case round =>
                  obtain ⟨i, hi, rfl, hL⟩ := hrel
                  have hL0r := Later.trans hL10 hL
                  by_cases hlt : i < n1
                  · have hi1 : (i : Int) < n1 := by omega
                    obtain ⟨b, o, y, rfl, _, hy, hy0, hy1⟩ := hrgL.get hlt
                    have hy0' := fun W (hW : Later wr W) => hy0 W (Later.trans hL hW)
                    have hy1' := fun W (hW : Later wr W) => hy1 W (Later.trans hL hW)
                    have hxm := Hget.out i (by have := Hn1.out; omega)
                    rw [hy] at hxm
                    injection hxm with hxm
                    have hbc := fun (W : World) (h : Later wr W) => BoundsR_calls (k1 := k1) (k2 := k2) (k3 := k3) (kp := kp) (kl := kt) (h := (i : Int)) W (hc0.later (Later.trans hL0r h)) (hrtL.later (Later.trans hL h)) (hp0.later (Later.trans hL0r h)) Hok.out.toOkH Hpl.out Hdry.out Htl.out (by omega) (by have := Hn1.out; omega)
                    simp only [Int.toNat_natCast, ← hxm] at hbc
                    obtain ⟨y1, y2⟩ := y
                    dsimp only at hy0' hy1' hbc
                    have Hbc := hide hbc
                    have hT : ∀ e : Ext wr, Later wr e.W := fun e => e.h
                    have hbx := fun W (hW : Later wr W) => (by first | exact hbox W (Later.trans hL0r hW) | exact hbox W (Later.trans hM9 (Later.trans hL hW)) | exact hbox W (Later.trans hM9 (Later.trans hM10 (Later.trans hL hW))))
                    clear hbc hy hy0 hy1 hxm hbox
                    go_wp2_with fail
                    refine wp_region_ext (w0 := wr) (by kernel_rfl) (by kernel_rfl) (later_refl _) ?_; (repeat (first | go_big_quiet_step ((first | (go_at_call 69; exact calls_ext (by simp) (Hbc.out _ (hT _))) | (go_at_call 68; exact calls_ext (by simp) (lawTo_calls _ _ _)))) | quiet_step ((first | (go_at_call 69; exact calls_ext (by simp) (Hbc.out _ (hT _))) | (go_at_call 68; exact calls_ext (by simp) (lawTo_calls _ _ _)))))); refine wpQuiet_nil ?_; rintro w19 ⟨⟨_, hM19⟩, rfl⟩; (try dsimp only)
                    go_wp2_with fail
                    go_roundw
                    case rel => exact ⟨i + 1, hlt, by go_num, Later.trans hL hM19⟩
                    case measure => simp [intOf]; omega
                  · have hi1 : ¬ (i : Int) < n1 := by omega
                    clear hlt
                    have hb10 := hb9.later hL
                    have rx0 := hb10.cell 0
                    have rx1 := hb10.cell 1
                    simp only [List.getElem?_toArray, List.getElem?_cons_zero, List.getElem?_cons_succ] at rx0 rx1
                    have hgc := Good_calls (k1 := k1) (k2 := k2) (k3 := k3) (kp := kp) (kl := kt) (h := (k : Int)) wr (hc0.later hL0r) (hrtL.later hL) (hp0.later hL0r) Hok.out Hpl.out Hdry.out Htl.out (by omega) Hkc.out
                    rw [Int.toNat_natCast, Hgr2.out] at hgc
                    have Hgc := hide hgc
                    have hlh : ¬ g2 < g1 := by omega
                    clear hgc
                    go_wp2_with fail
                    refine Hgc.out.mono ?_
                    rintro e w20 ⟨rfl, hM20⟩
                    have hL20 := Later.trans hL0r hM20
                    obtain ⟨w21, hw21⟩ : ∃ W, W = w20.alloc (.cells #[.int .i64 g1, .int .i64 g2] 66) := ⟨_, rfl⟩
                    have hL21 : Later w0 w21 := by rw [hw21]; exact later_alloc hL20 _
                    have hb21 := (hb10.later hM20).later (show Later w20 w21 by rw [hw21]; exact later_alloc (later_refl _) _)
                    have hx21 : Blk w21 w20.heap.size 66 #[.int .i64 g1, .int .i64 g2] := by rw [hw21]; exact Blk.new _ _ _
                    have rx := fun W (h : Later w21 W) => hb21.cells_later W h
                    have sx := fun W (h : Later w21 W) => hx21.cells_later W h
                    have rx0 := fun W h => rx W h 0
                    have rx1 := fun W h => rx W h 1
                    have sx0 := fun W h => sx W h 0
                    have sx1 := fun W h => sx W h 1
                    simp only [List.getElem?_toArray, List.getElem?_cons_zero, List.getElem?_cons_succ] at rx0 rx1 sx0 sx1
                    have Hw21 := hide hw21
                    have hS21 : Later w21 w21.drew := later_drew (later_refl _)
                    clear hw21 rx sx hb21 hx21
                    go_wp2_with fail
                    rw [← Hw21.out]
                    go_region_held3 (fun W => Later w21 W) ((((repeat (first | assumption | refine later_drew ?_ | refine later_alloc ?_ _ | refine later_set ?_ _ (Nat.le_add_right _ _) _ | refine later_set ?_ _ (Nat.le_refl _) _)); done)))
                      (first
                        | (go_at_call 24; go_must (refine (awake_calls _).mono ?_; rintro e w23 ⟨rfl, hM23⟩; have hL23 := Later.trans hL22 hM23))
                        | (go_at_call 68; go_must (refine (lawTo_calls _ _ _).mono ?_; rintro e w22 ⟨rfl, hM22⟩; have hL22 := Later.trans hS21 hM22)))
                    go_wp2_with fail
                    go_ret
                    exact ⟨rfl, Later.trans hL0 (Later.trans hL21 hL23)⟩
end Go.Proofs.Ytjilckjhdlabaaa
