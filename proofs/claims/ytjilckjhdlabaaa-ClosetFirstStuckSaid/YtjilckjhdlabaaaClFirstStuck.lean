/- ClosetFirstStuck: the plain law and the walk. -/
import Derived.Test.YtjilckjhdlabaaaPart12
set_option linter.unusedSimpArgs false
set_option linter.unusedVariables false
namespace Go.Proofs.Ytjilckjhdlabaaa
open Go Go.RowKit
attribute [local go_sem] later_alloc2 later_alloc3 later_alloc4

theorem askedErr_two {c : Clo} (hf : fault c = 0) : askedErr c true = 0 ∨ (askedErr c true = 11 ∧ truthsP c = []) := by
  unfold askedErr
  rw [if_neg (by simp [hf]), if_neg (by simp)]
  by_cases h : truthsP c = []
  · right; rw [if_pos h]; exact ⟨rfl, h⟩
  · left; rw [if_neg h]
/-- which horses have good minutes, up to the first that has none -/
theorem firstStuck_law {c : Clo} (h : askedErr c true = 0) {p : List Int} (hpl : IsPl c p) :
    ∃ n : Nat, n ≤ c.horses.length ∧ ((n < c.horses.length ∧ stuckOut c p = ((n : Int), 0)) ∨ (n = c.horses.length ∧ stuckOut c p = (0, 7))) ∧
      (∀ i, i < n → (goodL c p i).1 ≤ (goodL c p i).2) ∧ (n < c.horses.length → (goodL c p n).2 < (goodL c p n).1) := by
  obtain ⟨hf, _, hne⟩ := askedErr_zero h
  have ok := okC_of_fault hf
  have hb : isPlaceB c p = true := (isPlaceB_iff ok.cl1 ok.cl4 p).2 hpl
  have ha : askedErr c (isPlaceB c p) = 0 := askedErr_fine h hb
  have hgood : ∀ i, ¬ (goodP c (truthsP c) p i).2 < (goodP c (truthsP c) p i).1 → (goodL c p i).1 ≤ (goodL c p i).2 := fun i hi => by
    unfold goodL; rw [if_neg hi]; omega
  have hbad : ∀ i, (goodP c (truthsP c) p i).2 < (goodP c (truthsP c) p i).1 → (goodL c p i).2 < (goodL c p i).1 := fun i hi => by
    unfold goodL; rw [if_pos hi]; decide
  have hst : stuckOut c p = if (doneP c (truthsP c) p).2 = c.horses.length then (0, 7) else ((doneP c (truthsP c) p).2, 0) := by unfold stuckOut; rw [if_neg (by simp [ha])]
  unfold doneP at hst
  rcases doneG_spec (goodP c (truthsP c) p) c.horses.length 0 0 with ⟨j, _, h2, h3, h4, h5⟩ | ⟨h1, h2⟩
  · refine ⟨j, by omega, .inl ⟨by omega, ?_⟩, fun i hi => hgood i (h4 i (Nat.zero_le _) hi), fun _ => hbad j h3⟩
    rw [hst, h5, if_neg (by simp only; omega)]
  · refine ⟨c.horses.length, Nat.le_refl _, .inr ⟨rfl, ?_⟩, fun i hi => hgood i (h1 i (Nat.zero_le _) (by omega)), fun hlt => absurd hlt (Nat.lt_irrefl _)⟩
    rw [hst, h2, Nat.zero_add, if_pos rfl]

set_option maxRecDepth 100000 in
set_option maxHeartbeats 4000000 in
theorem lawFirstStuck_calls {A1 A2 A3 : Option Addr} {n1 k1 n2 k2 n3 k3 : Nat} {c : Clo} {Aw : Option Addr} {nw kw : Nat} {l : List Nat} (w : World) (hc : CV w c A1 n1 A2 n2 A3 n3) (hcl : i64 c.closets) (b1 : n1 ≤ 9223372036854775807) (b2 : n2 ≤ 9223372036854775807) (b3 : n3 ≤ 9223372036854775807)
    (hw : RW w Aw nw l) (hnw : nw ≤ 9223372036854775807) :
    Calls Try.prog 6 #[(.agg #[.int .i64 c.closets, .int .i64 c.close, .slice A1 n1 k1, .slice A2 n2 k2, .slice A3 n3 k3]), .slice Aw nw kw] w fun e w' => e = .returned (.bool true) ∧ Later w w' := by
  obtain ⟨w0, hw0⟩ : ∃ W, W = (w.alloc (.cells #[.int .i64 c.closets, .int .i64 c.close, .slice A1 n1 k1, .slice A2 n2 k2, .slice A3 n3 k3] 26)) := ⟨_, rfl⟩; have hbox : ∀ W, Later w0 W → ∀ i, W.cell? ⟨w.heap.size, i, none⟩ = #[.int .i64 c.closets, .int .i64 c.close, .slice A1 n1 k1, .slice A2 n2 k2, .slice A3 n3 k3][i]? := (by rw [hw0]; exact box_cells w #[.int .i64 c.closets, .int .i64 c.close, .slice A1 n1 k1, .slice A2 n2 k2, .slice A3 n3 k3] 26); have hL0 : Later w w0 := (by rw [hw0]; simp); have hc0 := hc.later hL0; have Hw0 := hide hw0; clear hw0
  have hw0' := hw.later hL0
  have hrdy := ready_calls (k1 := k1) (k2 := k2) (k3 := k3) w0 hc0 hcl b1 b2 b3
  cases hth : readyB c with
  | false =>
    rw [hth] at hrdy
    have Hrdy := hide hrdy
    clear hth hrdy
    go_enter Try.func6, Try.ntmps6
    go_wp2_with fail
    rw [← Hw0.out]; clear Hw0
    refine Hrdy.out.mono ?_
    rintro e w1 ⟨rfl, hL1⟩
    go_wp2_with fail
    refine (awake_calls _).mono ?_
    rintro e w2 ⟨rfl, hL2⟩
    go_wp2_with fail
    go_ret
    exact ⟨rfl, Later.trans hL0 (Later.trans hL1 hL2)⟩
  | true =>
    rw [hth] at hrdy
    have hn1 := hc.hs.len
    have hn2 := hc.hu.len
    have hn3 := hc.lk.len
    have hf := (readyB_true hth).2
    have ok := okC_of_fault hf
    have l1 : n1 ≤ 4 := by have := ok.len; omega
    have l2 : n2 ≤ 4 := by have := ok.len; have := ok.hung.len; omega
    have l3 : n3 ≤ 5 := by have := ok.nlooks; omega
    have Hn1 := hide hn1
    have Hn2 := hide hn2
    have Hn3 := hide hn3
    have Hf := hide hf
    have Hrdy := hide hrdy
    clear hth hrdy hn1 hn2 hn3 hf
    obtain ⟨q, hq⟩ : ∃ q, askedErr c true = q := ⟨_, rfl⟩
    have hl4 := ok.len
    go_enter Try.func6, Try.ntmps6
    go_wp2_with fail
    rw [← Hw0.out]; clear Hw0
    refine Hrdy.out.mono ?_
    rintro e w1 ⟨rfl, hL1⟩
    go_wp2_with fail
    refine (Placed_calls (k1 := k1) (k2 := k2) (k3 := k3) (kw := kw) w1 (hc0.later hL1) ok (hw0'.later hL1) hnw).mono ?_
    rintro e w2 ⟨Ap, kp, p, rfl, hL2, hrp, hkp, hpl⟩
    have hL02 := Later.trans hL1 hL2
    rw [← Hn1.out] at hrp hkp ⊢
    go_wp2_with fail
    refine (lawCloset_calls (k1 := k1) (k2 := k2) (k3 := k3) w2 (hc0.later hL02) (by omega) (by omega) (by omega)).mono ?_
    rintro e w3 ⟨B1, j1, B2, j2, B3, j3, rfl, hL3, hc3, hj1, hj2, hj3⟩
    go_wp2_with fail
    refine (list_calls _ (hrp.later hL3) (by omega)).mono ?_
    rintro e w4 ⟨Aq, nq, kq, rfl, hL4, hrq, hkq, _⟩
    have hnq := hrq.len
    rw [← hrp.len] at hnq
    subst nq
    have hsc := StuckP_calls (k1 := j1) (k2 := j2) (k3 := j3) (kp := kq) w4 (hc3.later hL4) hcl (by omega) (by omega) (by omega) hj2 hrq hkq (by omega)
    have hbp : isPlaceB c p = true := (isPlaceB_iff ok.cl1 ok.cl4 p).2 hpl
    have hL24 := Later.trans hL3 hL4
    have hL04 := Later.trans hL02 hL24
    by_cases h0 : q = 0
    · subst h0
      obtain ⟨n, hn, hcase, hgood, hbad⟩ := firstStuck_law hq hpl
      rw [← Hn1.out] at hn hcase hbad
      obtain ⟨⟨s1, s2⟩, hs⟩ : ∃ z, stuckOut c p = z := ⟨_, rfl⟩
      rw [hs] at hsc hcase
      have Hsc := hide hsc
      have Hgood := hide hgood
      have Hbad := hide hbad
      have Hq := hide hq
      clear hsc hs hgood hbad hq hc3 hrq hL3 hL4
      go_wp2_with fail
      refine Hsc.out.mono ?_
      rintro e w5 ⟨rfl, hL5⟩
      have hL05 := Later.trans hL04 hL5
      have hrp5 := hrp.later (Later.trans hL24 hL5)
      rcases hcase with ⟨hlt, he⟩ | ⟨hnn, he⟩
      · injection he with e1 e2
        subst e1 e2
        have hin := fun W => In_eq (n := (n : Int)) (lo := 0) (hi := (n1 : Int) - 1) (b := true) (by unfold inB; simp; omega) W
        have Hin := hide hin
        clear hin
        go_wp2_with fail
        refine (Hin.out w5).mono ?_
        rintro e w5' ⟨rfl, rfl⟩
        go_wp2_with fail
        go_loopw [8] (fun v wr => ∃ i : Nat, i ≤ n1 ∧ i ≤ n + 1 ∧ v = .int .i64 i ∧ Later w5 wr) (fun v _ => n1 - (intOf v).toNat)
        case atStart => exact ⟨0, Nat.zero_le _, Nat.zero_le _, rfl, later_refl _⟩
        case round =>
          obtain ⟨i, hi, hin, rfl, hL⟩ := hrel
          have hL0r := Later.trans hL05 hL
          by_cases hlt : i < n1
          · have hi1 : (i : Int) < n1 := by omega
            by_cases hle : i ≤ n
            · have hi2 : (i : Int) ≤ (n : Nat) := by omega
              have hgc := lawGood_calls (k1 := k1) (k2 := k2) (k3 := k3) (kp := kp) (i := i) wr (hc0.later hL0r) hcl Hq.out (hrp5.later hL) hpl (by have := Hn1.out; omega)
              obtain ⟨⟨a1, a2⟩, ha⟩ : ∃ q, goodL c p i = q := ⟨_, rfl⟩
              rw [ha] at hgc
              have hg1 := Hgood.out i
              have hg2 := Hbad.out
              have Hgc := hide hgc
              have Ha := hide ha
              clear hgc ha
              by_cases hlt2 : i < n
              · have h1 := hg1 hlt2
                rw [Ha.out] at h1
                dsimp only at h1
                have hi3 : (i : Int) < (n : Nat) := by omega
                clear hg1 hg2
                go_wp2_with fail
                refine Hgc.out.mono ?_
                rintro e w6 ⟨rfl, hL6⟩
                have hL56 := Later.trans hL hL6
                go_wp2_with fail
                go_roundw
                case rel => exact ⟨i + 1, hlt, by omega, by go_num, later_alloc hL56 _⟩
                case measure => simp [intOf]; omega
              · have hin2 : i = n := by omega
                have h1 : a2 < a1 := by
                  have := hg2 (by omega)
                  rw [← hin2, Ha.out] at this
                  exact this
                have h1b : ¬ a1 ≤ a2 := by omega
                have hi3 : ¬ (i : Int) < (n : Nat) := by omega
                clear hg1 hg2 hin2
                go_wp2_with fail
                refine Hgc.out.mono ?_
                rintro e w6 ⟨rfl, hL6⟩
                have hL56 := Later.trans hL hL6
                go_wp2_with fail
                go_roundw
                case rel => exact ⟨i + 1, hlt, by omega, by go_num, later_alloc hL56 _⟩
                case measure => simp [intOf]; omega
            · have hi2 : ¬ (i : Int) ≤ (n : Nat) := by omega
              clear hle
              go_wp2_with fail
              refine (awake_calls _).mono ?_
              rintro e wa ⟨rfl, hLa⟩
              go_wp2_with fail
              go_ret
              exact ⟨rfl, Later.trans hL0 (Later.trans hL0r hLa)⟩
          · have hi1 : ¬ (i : Int) < n1 := by omega
            clear hlt
            go_wp2_with fail
            refine (awake_calls _).mono ?_
            rintro e wa ⟨rfl, hLa⟩
            go_wp2_with fail
            go_ret
            exact ⟨rfl, Later.trans hL0 (Later.trans hL0r hLa)⟩
      · injection he with e1 e2
        subst e1 e2
        subst n
        go_wp2_with fail
        go_loopw [8] (fun v wr => ∃ i : Nat, i ≤ n1 ∧ v = .int .i64 i ∧ Later w5 wr) (fun v _ => n1 - (intOf v).toNat)
        case atStart => exact ⟨0, Nat.zero_le _, rfl, later_refl _⟩
        case round =>
          obtain ⟨i, hi, rfl, hL⟩ := hrel
          have hL0r := Later.trans hL05 hL
          by_cases hlt : i < n1
          · have hi1 : (i : Int) < n1 := by omega
            have hi2 : (i : Int) ≤ n1 := by omega
            have hgc := lawGood_calls (k1 := k1) (k2 := k2) (k3 := k3) (kp := kp) (i := i) wr (hc0.later hL0r) hcl Hq.out (hrp5.later hL) hpl (by have := Hn1.out; omega)
            obtain ⟨⟨a1, a2⟩, ha⟩ : ∃ q, goodL c p i = q := ⟨_, rfl⟩
            rw [ha] at hgc
            have hg1 := Hgood.out i hlt
            have Hgc := hide hgc
            rw [ha] at hg1
            dsimp only at hg1
            clear hgc ha
            go_wp2_with fail
            refine Hgc.out.mono ?_
            rintro e w6 ⟨rfl, hL6⟩
            have hL56 := Later.trans hL hL6
            go_wp2_with fail
            go_roundw
            case rel => exact ⟨i + 1, hlt, by go_num, later_alloc hL56 _⟩
            case measure => simp [intOf]; omega
          · have hi1 : ¬ (i : Int) < n1 := by omega
            clear hlt
            go_wp2_with fail
            refine (awake_calls _).mono ?_
            rintro e wa ⟨rfl, hLa⟩
            go_wp2_with fail
            go_ret
            exact ⟨rfl, Later.trans hL0 (Later.trans hL0r hLa)⟩
    · have hq11 := (askedErr_two Hf.out).resolve_left (by rw [hq]; exact h0)
      rw [hq] at hq11
      have htr := (truths_nil Hf.out).2 hq11.2
      have hst : stuckOut c p = (0, 11) := by
        have ha : askedErr c (isPlaceB c p) = 11 := by rw [hbp, hq, hq11.1]
        unfold stuckOut; rw [if_pos (by rw [ha]; decide), ha]
      rw [hst] at hsc
      have hmr := (fault_zero Hf.out).2.2.2.2.2.2
      have Hsc := hide hsc
      have Htr := hide htr
      have Hmr := hide hmr
      have Hok := hide ok
      clear hsc htr hmr hst hq11 h0 hq hbp hpl ok hc3 hrq hL3 hL4
      go_wp2_with fail
      refine Hsc.out.mono ?_
      rintro e w5 ⟨rfl, hL5⟩
      have hL05 := Later.trans hL04 hL5
      go_wp2_with fail
      refine (Truths_calls (k1 := k1) (k2 := k2) (k3 := k3) w5 (hc0.later hL05) Hok.out Hmr.out).mono ?_
      rintro e w6 ⟨At, nt, kt, rfl, hL6, hrr⟩
      have hL06 := Later.trans hL05 hL6
      have hnt := hrr.len
      rw [Htr.out] at hnt
      simp only [List.length_nil] at hnt
      subst nt
      clear hrr
      go_wp2_with fail
      refine (awake_calls _).mono ?_
      rintro e wa ⟨rfl, hLa⟩
      go_wp2_with fail
      go_ret
      exact ⟨rfl, Later.trans hL0 (Later.trans hL06 hLa)⟩
end Go.Proofs.Ytjilckjhdlabaaa
