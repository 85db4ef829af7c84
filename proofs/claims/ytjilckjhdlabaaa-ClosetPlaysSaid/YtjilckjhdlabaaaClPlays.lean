/- ClosetPlays: the plain law and the walk. -/
import Derived.Test.YtjilckjhdlabaaaPart8
import Derived.Test.YtjilckjhdlabaaaPart12
import Derived.Test.YtjilckjhdlabaaaPart9
set_option linter.unusedSimpArgs false
set_option linter.unusedVariables false
namespace Go.Proofs.Ytjilckjhdlabaaa
open Go Go.RowKit
attribute [local go_sem] later_alloc2 later_alloc3 later_alloc4

theorem playL_get {c : Clo} {p d : List Int} (hf : fault c = 0) (hb : isPlaceB c p = true) (hd : areNumbers c.horses d = true) :
    playErr c p d = 0 ∧ (playL c p d).length = c.horses.length ∧ ∀ i, i < c.horses.length → (playL c p d)[i]? = some (minuteR c p d i) := by
  have ok := okC_of_fault hf
  have hpl := isPlaceB_isPl hf hb
  have hl4 := ok.len
  have he : playErr c p d = 0 := by unfold playErr; rw [if_neg (by simp [hf]), if_pos ⟨hd, hb⟩]
  have hpL : playL c p d = (minutesP c p (pad4 d)).take c.horses.length := by unfold playL; rw [if_pos he]
  refine ⟨he, ?_, fun i hi => ?_⟩
  · rw [hpL, List.length_take]
    have : (minutesP c p (pad4 d)).length = 4 := rfl
    omega
  · rw [hpL, List.getElem?_take_of_lt hi, minutesP_get hpl hi (by omega), minuteR_pad4 _ _ _ _ (by omega)]
theorem plays_law (c : Clo) (p d : List Int) :
    (fault c ≠ 0 ∧ playErr c p d = fault c ∧ playL c p d = [] ∧ truthOut c d = false) ∨
    (fault c = 0 ∧ truthOut c d = isTruth c d ∧ (((isPlaceB c p && areNumbers c.horses d) = true ∧ playErr c p d = 0 ∧ (playL c p d).length = c.horses.length ∧ ∀ i, i < c.horses.length → (playL c p d)[i]? = some (minuteR c p d i)) ∨
      ((isPlaceB c p && areNumbers c.horses d) = false ∧ playErr c p d = 2 ∧ playL c p d = []))) := by
  by_cases hf : fault c = 0
  · have ok := okC_of_fault hf
    refine .inr ⟨hf, by unfold truthOut isTruth; rw [decide_eq_true hf, Bool.true_and, rightP_full ok], ?_⟩
    cases hb : isPlaceB c p && areNumbers c.horses d with
    | true =>
      rw [Bool.and_eq_true] at hb
      exact .inl ⟨rfl, playL_get hf hb.1 hb.2⟩
    | false =>
      have he : playErr c p d = 2 := by
        unfold playErr
        rw [if_neg (by simp [hf]), if_neg]
        rintro ⟨h1, h2⟩
        rw [h1, h2] at hb
        cases hb
      exact .inr ⟨rfl, he, by unfold playL; rw [if_neg (by rw [he]; decide)]⟩
  · have he : playErr c p d = fault c := by unfold playErr; rw [if_pos hf]
    exact .inl ⟨hf, he, by unfold playL; rw [if_neg (by rw [he]; exact hf)], by unfold truthOut; rw [decide_eq_false hf, Bool.false_and]⟩

set_option maxRecDepth 100000 in
set_option maxHeartbeats 8000000 in
theorem lawPlays_calls {A1 A2 A3 : Option Addr} {n1 k1 n2 k2 n3 k3 : Nat} {c : Clo} {Ap Ad : Option Addr} {np kp nd kd : Nat} {p d : List Int} (w : World) (hc : CV w c A1 n1 A2 n2 A3 n3) (hcl : i64 c.closets) (b1 : n1 ≤ 9223372036854775807) (b2 : n2 ≤ 9223372036854775807) (b3 : n3 ≤ 9223372036854775807)
    (hp : RI w Ap np p) (bp : np ≤ 9223372036854775807) (hd : RI w Ad nd d) (bd : nd ≤ 9223372036854775807) : Calls Try.prog 12 #[(.agg #[.int .i64 c.closets, .int .i64 c.close, .slice A1 n1 k1, .slice A2 n2 k2, .slice A3 n3 k3]), .slice Ap np kp, .slice Ad nd kd] w fun e w' => e = .returned (.bool true) ∧ Later w w' := by
  obtain ⟨w0, hw0⟩ : ∃ W, W = (w.alloc (.cells #[.int .i64 c.closets, .int .i64 c.close, .slice A1 n1 k1, .slice A2 n2 k2, .slice A3 n3 k3] 26)) := ⟨_, rfl⟩; have hbox : ∀ W, Later w0 W → ∀ i, W.cell? ⟨w.heap.size, i, none⟩ = #[.int .i64 c.closets, .int .i64 c.close, .slice A1 n1 k1, .slice A2 n2 k2, .slice A3 n3 k3][i]? := (by rw [hw0]; exact box_cells w #[.int .i64 c.closets, .int .i64 c.close, .slice A1 n1 k1, .slice A2 n2 k2, .slice A3 n3 k3] 26); have hL0 : Later w w0 := (by rw [hw0]; simp); have hc0 := hc.later hL0; have Hw0 := hide hw0; clear hw0
  have hp0 := hp.later hL0
  have hd0 := hd.later hL0
  have hthin := Thin_calls (k1 := k1) (k2 := k2) (k3 := k3) w0 hc0 hcl b1 b2 b3
  cases hth : thinB c with
  | false =>
    rw [hth] at hthin
    have Hthin := hide hthin
    clear hth hthin
    go_enter Try.func12, Try.ntmps12
    go_wp2_with fail
    rw [← Hw0.out]; clear Hw0
    refine Hthin.out.mono ?_
    rintro e w1 ⟨rfl, hL1⟩
    go_wp2_with fail
    refine (awake_calls _).mono ?_
    rintro e w2 ⟨rfl, hL2⟩
    go_wp2_with fail
    go_ret
    exact ⟨rfl, Later.trans hL0 (Later.trans hL1 hL2)⟩
  | true =>
    rw [hth] at hthin
    have hn := And.intro hc.hs.len (And.intro hc.hu.len hc.lk.len)
    unfold thinB at hth
    simp only [Bool.and_eq_true, decide_eq_true_eq] at hth
    have l1 : n1 ≤ 6 := by omega
    have l2 : n2 ≤ 8 := by omega
    have l3 : n3 ≤ 7 := by omega
    have Hthin := hide hthin
    clear hth hthin hn
    by_cases hp9 : (9 : Int) < (np : Int)
    · go_enter Try.func12, Try.ntmps12
      go_wp2_with fail
      rw [← Hw0.out]; clear Hw0
      refine Hthin.out.mono ?_
      rintro e w1 ⟨rfl, hL1⟩
      go_wp2_with fail
      refine (awake_calls _).mono ?_
      rintro e wa ⟨rfl, hLa⟩
      go_wp2_with fail
      go_ret
      exact ⟨rfl, Later.trans hL0 (Later.trans hL1 hLa)⟩
    · by_cases hd9 : (9 : Int) < (nd : Int)
      · go_enter Try.func12, Try.ntmps12
        go_wp2_with fail
        rw [← Hw0.out]; clear Hw0
        refine Hthin.out.mono ?_
        rintro e w1 ⟨rfl, hL1⟩
        go_wp2_with fail
        refine (awake_calls _).mono ?_
        rintro e wa ⟨rfl, hLa⟩
        go_wp2_with fail
        go_ret
        exact ⟨rfl, Later.trans hL0 (Later.trans hL1 hLa)⟩
      · have hn1 := hc.hs.len
        have law := plays_law c p d
        obtain ⟨q, hq⟩ : ∃ q, fault c = q := ⟨_, rfl⟩
        have hfc := fun (W : World) (h : Later w0 W) => fault_calls (k1 := k1) (k2 := k2) (k3 := k3) W (hc0.later h) hcl (by omega) (by omega) (by omega)
        have hck := fun (B1 B2 B3 : Option Addr) (j1 j2 j3 : Nat) (W : World) (h : CV W c B1 n1 B2 n2 B3 n3) (h2 : n2 ≤ j2) =>
          CheckCloset_eq (k1 := j1) (k2 := j2) (k3 := j3) W h hq hcl (by omega) (by omega) (by omega) h2
        obtain ⟨t, ht⟩ : ∃ t, truthOut c d = t := ⟨_, rfl⟩
        obtain ⟨r, hr⟩ : ∃ r, playErr c p d = r := ⟨_, rfl⟩
        have htc := fun (B1 B2 B3 : Option Addr) (j1 j2 j3 : Nat) (W : World) (h : CV W c B1 n1 B2 n2 B3 n3) (h2 : n2 ≤ j2) (Aq : Option Addr) (kq : Nat) (hq : RI W Aq nd d) =>
          ProveTruth_calls (k1 := j1) (k2 := j2) (k3 := j3) (kd := kq) W h hcl (by omega) (by omega) (by omega) h2 hq (by omega)
        have hpc := fun (B1 B2 B3 : Option Addr) (j1 j2 j3 : Nat) (W : World) (h : CV W c B1 n1 B2 n2 B3 n3) (h2 : n2 ≤ j2) (Aq Ar : Option Addr) (kq kr : Nat) (hq : RI W Aq np p) (hk : np ≤ kq) (hr : RI W Ar nd d) =>
          PlayP_calls (k1 := j1) (k2 := j2) (k3 := j3) (kp := kq) (kd := kr) W h hcl (by omega) (by omega) (by omega) h2 hq hk (by omega) hr (by omega)
        unfold PlayPost at hpc
        rw [hq] at hfc law
        rw [ht] at htc law
        rw [hr] at hpc law
        have Hn1 := hide hn1
        have Hq := hide hq
        have Hfc := hide hfc
        have Hck := hide hck
        have Htc := hide htc
        have Hpc := hide hpc
        have Hlaw := hide law
        clear hn1 law hq hfc hck htc hpc ht hr
        go_enter Try.func12, Try.ntmps12
        go_wp2_with fail
        rw [← Hw0.out]; clear Hw0
        refine Hthin.out.mono ?_
        rintro e w1 ⟨rfl, hL1⟩
        go_wp2_with fail
        refine (lawCloset_calls (k1 := k1) (k2 := k2) (k3 := k3) w1 (hc0.later hL1) (by omega) (by omega) (by omega)).mono ?_
        rintro e wa ⟨B1a, j1a, B2a, j2a, B3a, j3a, rfl, hMa, hca, hj1a, hj2a, hj3a⟩
        have hLa := Later.trans hL1 hMa
        go_wp2_with fail
        refine (list_calls _ (hp0.later hLa) (by omega)).mono ?_
        rintro e wb ⟨Ab, nb, kb, rfl, hMb, hrb, hkb, _⟩
        have hLb := Later.trans hLa hMb
        have hnb := hrb.len
        rw [← hp0.len] at hnb
        subst nb
        go_wp2_with fail
        refine (list_calls _ (hd0.later hLb) (by omega)).mono ?_
        rintro e wc ⟨Ac, nc, kc, rfl, hMc, hrc, hkc, _⟩
        have hLc := Later.trans hLb hMc
        have hnc := hrc.len
        rw [← hd0.len] at hnc
        subst nc
        go_wp2_with fail
        refine (Hpc.out _ _ _ _ _ _ wc (hca.later (Later.trans hMb hMc)) hj2a _ _ _ _ (hrb.later hMc) hkb hrc).mono ?_
        rintro e w2 ⟨Al, nl, kl, rfl, hM2, hrl, hkl⟩
        have hL2 := Later.trans hLc hM2
        clear hca hrb hrc hj1a hj2a hj3a hMa hMb hMc hLa hLb hLc
        go_wp2_with fail
        refine (lawCloset_calls (k1 := k1) (k2 := k2) (k3 := k3) w2 (hc0.later hL2) (by omega) (by omega) (by omega)).mono ?_
        rintro e wa ⟨B1a, j1a, B2a, j2a, B3a, j3a, rfl, hMa, hca, hj1a, hj2a, hj3a⟩
        have hLa := Later.trans hL2 hMa
        go_wp2_with fail
        refine (list_calls _ (hd0.later hLa) (by omega)).mono ?_
        rintro e wb ⟨Ab, nb, kb, rfl, hMb, hrb, hkb, _⟩
        have hLb := Later.trans hLa hMb
        have hnb := hrb.len
        rw [← hd0.len] at hnb
        subst nb
        go_wp2_with fail
        refine (Htc.out _ _ _ _ _ _ wb (hca.later hMb) hj2a _ _ hrb).mono ?_
        rintro e w3 ⟨rfl, hM3⟩
        have hL3 := Later.trans hLb hM3
        have hM23 := Later.trans hMa (Later.trans hMb hM3)
        clear hca hrb hj1a hj2a hj3a hMa hMb hLa hLb hM3
        go_wp2_with fail
        refine (Hfc.out w3 hL3).mono ?_
        rintro e w4 ⟨rfl, hM4⟩
        have hL4 := Later.trans hL3 hM4
        go_wp2_with fail
        refine (lawCloset_calls (k1 := k1) (k2 := k2) (k3 := k3) w4 (hc0.later hL4) (by omega) (by omega) (by omega)).mono ?_
        rintro e wa ⟨B1a, j1a, B2a, j2a, B3a, j3a, rfl, hMa, hca, hj1a, hj2a, hj3a⟩
        have hLa := Later.trans hL4 hMa
        go_wp2_with fail
        refine (Hck.out _ _ _ _ _ _ wa hca hj2a).mono ?_
        rintro e w5 ⟨rfl, hM5⟩
        have hL5 := Later.trans hLa hM5
        have hrl5 := hrl.later (Later.trans hM23 (Later.trans hM4 (Later.trans hMa hM5)))
        clear hca hj1a hj2a hj3a hMa hLa hM5 hM23 hM4 hrl
        rcases Hlaw.out with ⟨h0, hrq, hpL, rfl⟩ | ⟨rfl, rfl, hor⟩
        · subst r
          rw [hpL] at hrl5
          have hnl := hrl5.len
          simp only [List.length_nil] at hnl
          subst nl
          have h0b : (q == 0) = false := by simpa using h0
          have h0c : (q != 0) = true := by simpa using h0
          clear h0 hpL
          go_wp2_with fail
          refine (awake_calls _).mono ?_
          rintro e wa ⟨rfl, hLa⟩
          go_wp2_with fail
          go_ret
          exact ⟨rfl, Later.trans hL0 (Later.trans hL5 hLa)⟩
        · have hf := Hq.out
          have ok := okC_of_fault hf
          have hit := IsTruth_calls (k1 := k1) (k2 := k2) (k3 := k3) (kd := kd) w5 (hc0.later hL5) (hd0.later hL5) ok (by omega)
          obtain ⟨t, ht⟩ : ∃ t, isTruth c d = t := ⟨_, rfl⟩
          rw [ht] at hit ⊢
          have Hit := hide hit
          have Hok := hide ok
          clear hit ht ok hf
          have hip := fun (W : World) (h : Later w0 W) => IsPlace_calls (kp := kp) (k1 := k1) (k2 := k2) (k3 := k3) W (hc0.later h) (hp0.later h) hcl (by omega) (by omega)
          have han := fun (W : World) (h : Later w0 W) => AreNumbers_calls (kp := kd) (k1 := k1) (k2 := k2) (k3 := k3) W (hc0.later h) (hd0.later h) (by omega) (by omega)
          obtain ⟨u, hu⟩ : ∃ u, isPlaceB c p = u := ⟨_, rfl⟩
          obtain ⟨v, hv⟩ : ∃ v, areNumbers c.horses d = v := ⟨_, rfl⟩
          rw [hu] at hip
          rw [hv] at han
          rw [hu, hv] at hor
          have Hip := hide hip
          have Han := hide han
          have Hu := hide hu
          have Hv := hide hv
          clear hip han hu hv
          have htt : (t != t) = false := by simp
          cases u with
          | false =>
            obtain ⟨_, hr2, hpL⟩ := hor.resolve_left (fun h => by simp at h)
            subst r
            rw [hpL] at hrl5
            have hnl := hrl5.len
            simp only [List.length_nil] at hnl
            subst nl
            clear hpL hrl5 hor
            go_wp2_with fail
            refine (Hit.out).mono ?_
            rintro e w6 ⟨rfl, hM6⟩
            have hL6 := Later.trans hL5 hM6
            go_wp2_with fail
            refine (Hip.out w6 hL6).mono ?_
            rintro e w7 ⟨rfl, hM7⟩
            have hL7 := Later.trans hL6 hM7
            go_wp2_with fail
            refine (awake_calls _).mono ?_
            rintro e wa ⟨rfl, hLa⟩
            go_wp2_with fail
            go_ret
            exact ⟨rfl, Later.trans hL0 (Later.trans hL7 hLa)⟩
          | true =>
            cases v with
            | false =>
              obtain ⟨_, hr2, hpL⟩ := hor.resolve_left (fun h => by simp at h)
              subst r
              rw [hpL] at hrl5
              have hnl := hrl5.len
              simp only [List.length_nil] at hnl
              subst nl
              clear hpL hrl5 hor
              go_wp2_with fail
              refine (Hit.out).mono ?_
              rintro e w6 ⟨rfl, hM6⟩
              have hL6 := Later.trans hL5 hM6
              go_wp2_with fail
              refine (Hip.out w6 hL6).mono ?_
              rintro e w7 ⟨rfl, hM7⟩
              have hL7 := Later.trans hL6 hM7
              go_wp2_with fail
              refine (Han.out w7 hL7).mono ?_
              rintro e w8 ⟨rfl, hM8⟩
              have hL8 := Later.trans hL7 hM8
              go_wp2_with fail
              refine (awake_calls _).mono ?_
              rintro e wa ⟨rfl, hLa⟩
              go_wp2_with fail
              go_ret
              exact ⟨rfl, Later.trans hL0 (Later.trans hL8 hLa)⟩
            | true =>
              obtain ⟨_, hr2, hpL, hget⟩ := hor.resolve_right (fun h => by simp at h)
              subst r
              have hnl := hrl5.len
              rw [hpL, ← Hn1.out] at hnl
              subst nl
              have hpl := isPlaceB_isPl Hq.out Hu.out
              have hdry := (isDry_iff c d).1 Hv.out
              have hnn : ((n1 : Int) != (n1 : Int)) = false := by simp
              have Hget := hide hget
              have Hpl := hide hpl
              have Hdry := hide hdry
              clear hpL hor hget hpl hdry
              go_wp2_with fail
              refine (Hit.out).mono ?_
              rintro e w6 ⟨rfl, hM6⟩
              have hL6 := Later.trans hL5 hM6
              go_wp2_with fail
              refine (Hip.out w6 hL6).mono ?_
              rintro e w7 ⟨rfl, hM7⟩
              have hL7 := Later.trans hL6 hM7
              go_wp2_with fail
              refine (Han.out w7 hL7).mono ?_
              rintro e w8 ⟨rfl, hM8⟩
              have hL8 := Later.trans hL7 hM8
              have hrl8 := hrl5.later (Later.trans hM6 (Later.trans hM7 hM8))
              go_wp2_with fail
              go_loopw [11] (fun v wr => ∃ i : Nat, i ≤ n1 ∧ v = .int .i64 i ∧ Later w8 wr) (fun v _ => n1 - (intOf v).toNat)
              case atStart => exact ⟨0, Nat.zero_le _, rfl, later_refl _⟩
              case round =>
                obtain ⟨i, hi, rfl, hL⟩ := hrel
                have hL0r := Later.trans hL8 hL
                by_cases hlt : i < n1
                · have hi1 : (i : Int) < n1 := by omega
                  obtain ⟨b, o, x, rfl, _, hx, hx0⟩ := hrl8.get hlt
                  have hx0' := fun W (hW : Later wr W) => hx0 W (Later.trans hL hW)
                  have hxm := Hget.out i (by have := Hn1.out; omega)
                  rw [hx] at hxm
                  injection hxm with hxm
                  have hmc := fun (W : World) (h : Later w0 W) => Minute_calls (k1 := k1) (k2 := k2) (k3 := k3) (kp := kp) (kd := kd) (h := (i : Int)) W (hc0.later h) (hp0.later h) (hd0.later h) Hok.out.toOkH Hpl.out.len Hdry.out.len (by omega) (by have := Hn1.out; omega) (Hpl.out.bound Hok.out.toOkH) (Hdry.out.bound Hok.out.toOkH)
                  simp only [Int.toNat_natCast, ← hxm] at hmc
                  have Hmc := hide hmc
                  have hxx : (x != x) = false := by simp
                  have hT : ∀ e : Ext wr, Later w0 e.W := fun e => Later.trans hL0r e.h
                  have hbx := fun W (hW : Later wr W) => hbox W (Later.trans hL0r hW)
                  clear hmc hx hx0 hxm hbox
                  go_wp2_with fail
                  refine wp_region_ext (w0 := wr) (by kernel_rfl) (by kernel_rfl) (later_refl _) ?_; (repeat (first | go_big_quiet_step (((go_at_call 55; exact calls_ext (by simp) (Hmc.out _ (hT _))))) | quiet_step (((go_at_call 55; exact calls_ext (by simp) (Hmc.out _ (hT _))))))); refine wpQuiet_nil ?_; rintro w9 ⟨⟨_, hM9⟩, rfl⟩; (try dsimp only)
                  go_wp2_with fail
                  go_roundw
                  case rel => exact ⟨i + 1, hlt, by go_num, Later.trans hL hM9⟩
                  case measure => simp [intOf]; omega
                · have hi1 : ¬ (i : Int) < n1 := by omega
                  clear hlt
                  go_wp2_with fail
                  refine (awake_calls _).mono ?_
                  rintro e wa ⟨rfl, hLa⟩
                  go_wp2_with fail
                  go_ret
                  exact ⟨rfl, Later.trans hL0 (Later.trans hL0r hLa)⟩
end Go.Proofs.Ytjilckjhdlabaaa
