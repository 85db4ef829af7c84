/- ClosetFirst: the walk. -/
import Derived.Test.YtjilckjhdlabaaaPart13
set_option linter.unusedSimpArgs false
set_option linter.unusedVariables false
namespace Go.Proofs.Ytjilckjhdlabaaa
open Go Go.RowKit
attribute [local go_sem] later_alloc2 later_alloc3 later_alloc4

theorem shl_one : ∀ j : Nat, j < 5 → IntKind.i64.wrap (IntKind.i64.wrap (2 ^ min (IntKind.u64.wrap (j : Int)).toNat 64) - 1) = ((2 ^ j - 1 : Nat) : Int) := by decide +kernel
theorem shl_two : ∀ j : Nat, j < 5 → IntKind.i64.wrap (IntKind.i64.wrap (2 * 2 ^ min (IntKind.u64.wrap (j : Int)).toNat 64) - 1) = ((2 ^ (j + 1) - 1 : Nat) : Int) := by decide +kernel
set_option maxRecDepth 100000 in
set_option maxHeartbeats 8000000 in
theorem lawFirst_calls {A1 A2 A3 : Option Addr} {n1 k1 n2 k2 n3 k3 : Nat} {c : Clo} (w : World) (hc : CV w c A1 n1 A2 n2 A3 n3) (hcl : i64 c.closets) (b1 : n1 ≤ 9223372036854775807) (b2 : n2 ≤ 9223372036854775807) (b3 : n3 ≤ 9223372036854775807) :
    Calls Try.prog 18 #[(.agg #[.int .i64 c.closets, .int .i64 c.close, .slice A1 n1 k1, .slice A2 n2 k2, .slice A3 n3 k3])] w fun e w' => e = .returned (.bool true) ∧ Later w w' := by
  obtain ⟨w0, hw0⟩ : ∃ W, W = (w.alloc (.cells #[.int .i64 c.closets, .int .i64 c.close, .slice A1 n1 k1, .slice A2 n2 k2, .slice A3 n3 k3] 26)) := ⟨_, rfl⟩; have hbox : ∀ W, Later w0 W → ∀ i, W.cell? ⟨w.heap.size, i, none⟩ = #[.int .i64 c.closets, .int .i64 c.close, .slice A1 n1 k1, .slice A2 n2 k2, .slice A3 n3 k3][i]? := (by rw [hw0]; exact box_cells w #[.int .i64 c.closets, .int .i64 c.close, .slice A1 n1 k1, .slice A2 n2 k2, .slice A3 n3 k3] 26); have hL0 : Later w w0 := (by rw [hw0]; simp); have hc0 := hc.later hL0; have Hw0 := hide hw0; clear hw0
  have hrdy := ready_calls (k1 := k1) (k2 := k2) (k3 := k3) w0 hc0 hcl b1 b2 b3
  cases hth : readyB c with
  | false =>
    rw [hth] at hrdy
    have Hrdy := hide hrdy
    clear hth hrdy
    go_enter Try.func18, Try.ntmps18
    go_wp2_with fail
    rw [← Hw0.out]; clear Hw0
    refine Hrdy.out.mono ?_
    rintro e w1 ⟨rfl, hL1⟩
    go_wp2_with fail
    refine (awake_calls _).mono ?_
    rintro e w2 ⟨rfl, hL2⟩
    go_wp2_with fail
    go_ret
    exact ⟨rfl, Later.trans hL0 (Later.trans hL1 hL2)⟩
  | true =>
    rw [hth] at hrdy
    have hn1 := hc.hs.len
    have hn2 := hc.hu.len
    have hn3 := hc.lk.len
    have hf := (readyB_true hth).2
    have ok := okC_of_fault hf
    have l1 : n1 ≤ 4 := by have := ok.len; omega
    have l2 : n2 ≤ 4 := by have := ok.len; have := ok.hung.len; omega
    have l3 : n3 ≤ 5 := by have := ok.nlooks; omega
    have Hn1 := hide hn1
    have Hn2 := hide hn2
    have Hn3 := hide hn3
    have Hf := hide hf
    have Hrdy := hide hrdy
    clear hth hrdy hn1 hn2 hn3 hf
    have hfp := fun (B1 B2 B3 : Option Addr) (j1 j2 j3 : Nat) (W : World) (h : CV W c B1 n1 B2 n2 B3 n3) (h2 : n2 ≤ j2) (h3 : n3 ≤ j3) =>
      FirstP_calls (k1 := j1) (k2 := j2) (k3 := j3) W h hcl (by omega) (by omega) (by omega) h2 h3
    have hbd := fun (x : Clo) (m : Nat) (hx : x.closets = c.closets) (hm : m ≤ 5) (B1 B2 B3 : Option Addr) (j1 j2 j3 : Nat) (W : World) (h : CV W x B1 n1 B2 n2 B3 m) (h2 : n2 ≤ j2) (Aq : Option Addr) (kq : Nat) (hq : RI W Aq n2 c.hung) (hk : n2 ≤ kq) =>
      BoundsP_calls (k1 := j1) (k2 := j2) (k3 := j3) (kp := kq) W h (by rw [hx]; exact hcl) (by omega) (by omega) (by omega) h2 hq hk (by omega)
    unfold BoundsPost at hbd
    have law := firstLaw Hf.out
    have Hfp := hide hfp
    have Hbd := hide hbd
    clear hfp hbd
    have hu0 := hc0.hu
    rcases law with ⟨ho, he⟩ | ⟨j, hj, ho, he1, he2⟩
    · have hfp := Hfp.out
      rw [ho] at hfp
      have Hfp := hide hfp
      have He := hide he
      clear hfp ho he
      go_enter Try.func18, Try.ntmps18
      go_wp2_with fail
      rw [← Hw0.out]; clear Hw0
      refine Hrdy.out.mono ?_
      rintro e w1 ⟨rfl, hL1⟩
      go_wp2_with fail
      refine (lawCloset_calls (k1 := k1) (k2 := k2) (k3 := k3) w1 (hc0.later hL1) (by omega) (by omega) (by omega)).mono ?_
      rintro e wa ⟨B1a, j1a, B2a, j2a, B3a, j3a, rfl, hMa, hca, hj1a, hj2a, hj3a⟩
      have hLa := Later.trans hL1 hMa
      go_wp2_with fail
      refine (Hfp.out _ _ _ _ _ _ wa hca hj2a hj3a).mono ?_
      rintro e w2 ⟨rfl, hM2⟩
      have hL2 := Later.trans hLa hM2
      have hS : Later w0 w2.drew := later_drew hL2
      clear hca hj1a hj2a hj3a hMa hLa
      go_wp2_with fail
      go_region_held3 (fun W => Later w0 W) ((((repeat (first | assumption | refine later_drew ?_ | refine later_alloc ?_ _ | refine later_set ?_ _ (Nat.le_add_right _ _) _ | refine later_set ?_ _ (Nat.le_refl _) _)); done)))
        (first
          | (go_at_call 65; go_must (refine (Hbd.out c n3 rfl l3 _ _ _ _ _ _ w4 (hc3.later hM4) hj23 _ _ hr4 hk4).mono ?_; rintro e w5 ⟨Ab, nb, kb, rfl, hM5, _⟩; have hL5 := Later.trans hL4 hM5))
          | (go_at_call 27; go_must (refine (list_calls _ (hu0.later hL3) (by omega)).mono ?_; rintro e w4 ⟨Aq, nq, kq, rfl, hM4, hr4, hk4, _⟩; have hL4 := Later.trans hL3 hM4; have hnq := hr4.len; rw [← hu0.len] at hnq; subst nq))
          | (go_at_call 26; go_must (refine (lawCloset_calls (k1 := k1) (k2 := k2) (k3 := k3) _ (hc0.later hS) (by omega) (by omega) (by omega)).mono ?_; rintro e w3 ⟨B1, j1, B2, j23, B3, j3, rfl, hM3, hc3, hj1, hj23, hj3⟩; have hL3 := Later.trans hS hM3)))
      rw [He.out]
      go_wp2_with fail
      refine (awake_calls _).mono ?_
      rintro e wa ⟨rfl, hLa⟩
      go_wp2_with fail
      go_ret
      exact ⟨rfl, Later.trans hL0 (Later.trans hL5 hLa)⟩
    · have hfp := Hfp.out
      rw [ho] at hfp
      have Hfp := hide hfp
      have He1 := hide he1
      have He2 := hide he2
      have hin := fun W => In_eq (n := (j : Int)) (lo := 0) (hi := (n3 : Int) - 1) (b := true) (by have := Hn3.out; unfold inB; simp; omega) W
      have Hin := hide hin
      have hj5 : j < 5 := by have := Hn3.out; omega
      have hv1 := shl_one j hj5
      have hv2 := shl_two j hj5
      have hp1 := pow_le5 (show j ≤ 5 by omega)
      have hp2 := pow_le5 (show j + 1 ≤ 5 by omega)
      obtain ⟨p1, hp1e⟩ : ∃ b, 2 ^ j - 1 = b := ⟨_, rfl⟩
      obtain ⟨p2, hp2e⟩ : ∃ b, 2 ^ (j + 1) - 1 = b := ⟨_, rfl⟩
      rw [hp1e] at He1 hv1
      rw [hp2e] at He2 hv2
      have hb1 : p1 ≤ 1000000 := by omega
      have hb2 : p2 ≤ 1000000 := by omega
      clear hp1 hp2 hp1e hp2e
      have hsm := fun (bits : Nat) (hb : bits ≤ 1000000) (W : World) (h : Later w0 W) => some_calls (bits := bits) (k1 := k1) (k2 := k2) (k3 := k3) W (hc0.later h) l3 hb
      have Hsm := hide hsm
      clear hsm hfp ho he1 he2 hin hj
      go_enter Try.func18, Try.ntmps18
      go_wp2_with fail
      rw [← Hw0.out]; clear Hw0
      refine Hrdy.out.mono ?_
      rintro e w1 ⟨rfl, hL1⟩
      go_wp2_with fail
      refine (lawCloset_calls (k1 := k1) (k2 := k2) (k3 := k3) w1 (hc0.later hL1) (by omega) (by omega) (by omega)).mono ?_
      rintro e wa ⟨B1a, j1a, B2a, j2a, B3a, j3a, rfl, hMa, hca, hj1a, hj2a, hj3a⟩
      have hLa := Later.trans hL1 hMa
      go_wp2_with fail
      refine (Hfp.out _ _ _ _ _ _ wa hca hj2a hj3a).mono ?_
      rintro e w2 ⟨rfl, hM2⟩
      have hL2 := Later.trans hLa hM2
      have hS : Later w0 w2.drew := later_drew hL2
      clear hca hj1a hj2a hj3a hMa hLa
      go_wp2_with fail
      refine (Hin.out w2).mono ?_
      rintro e w2' ⟨rfl, rfl⟩
      go_wp2_with fail
      go_region_held3 (fun W => Later w0 W) ((((repeat (first | assumption | refine later_drew ?_ | refine later_alloc ?_ _ | refine later_set ?_ _ (Nat.le_add_right _ _) _ | refine later_set ?_ _ (Nat.le_refl _) _)); done)))
        (first
          | (go_at_call 65; go_must (refine (Hbd.out (someC c p1) msa rfl hmsa _ _ _ _ _ _ w5a (hc4a.later hM5a) hj2a _ _ hr5a hk5a).mono ?_; rintro e w6a ⟨Aba, nba, kba, rfl, hM6a, _⟩; have hL6a := Later.trans hL5a hM6a))
          | (go_at_call 27; go_must (refine (list_calls _ (hu0.later hL4a) (by omega)).mono ?_; rintro e w5a ⟨Aqa, nqa, kqa, rfl, hM5a, hr5a, hk5a, _⟩; have hL5a := Later.trans hL4a hM5a; have hnqa := hr5a.len; rw [← hu0.len] at hnqa; subst nqa))
          | (go_at_call 26; go_must (refine (lawCloset_calls (c := someC c p1) (k1 := k1) (k2 := k2) (k3 := ksa) _ ⟨(hc0.later hL3a).hs, (hc0.later hL3a).hu, hrsa⟩ (by omega) (by omega) (by omega)).mono ?_; rintro e w4a ⟨B1a, j1a, B2a, j2a, B3a, j3a, rfl, hM4a, hc4a, hj1a, hj2a, hj3a⟩; have hL4a := Later.trans hL3a hM4a))
          | (go_at_call 72; go_must (refine (Hsm.out p1 hb1 _ hS).mono ?_; rintro e w3a ⟨Asa, msa, ksa, rfl, hM3a, hrsa⟩; have hL3a := Later.trans hS hM3a; have hmsa : msa ≤ 5 := (by have h1 := hrsa.len; have h2 := someTo_len c p1 c.looks.length; have h3 := Hn3.out; simp only [someC, withLooks] at h1; omega))))
      have hSb : Later w0 w6a.drew := later_drew hL6a
      go_wp2_with fail
      go_region_held3 (fun W => Later w0 W) ((((repeat (first | assumption | refine later_drew ?_ | refine later_alloc ?_ _ | refine later_set ?_ _ (Nat.le_add_right _ _) _ | refine later_set ?_ _ (Nat.le_refl _) _)); done)))
        (first
          | (go_at_call 65; go_must (refine (Hbd.out (someC c p2) msb rfl hmsb _ _ _ _ _ _ w5b (hc4b.later hM5b) hj2b _ _ hr5b hk5b).mono ?_; rintro e w6b ⟨Abb, nbb, kbb, rfl, hM6b, _⟩; have hL6b := Later.trans hL5b hM6b))
          | (go_at_call 27; go_must (refine (list_calls _ (hu0.later hL4b) (by omega)).mono ?_; rintro e w5b ⟨Aqb, nqb, kqb, rfl, hM5b, hr5b, hk5b, _⟩; have hL5b := Later.trans hL4b hM5b; have hnqb := hr5b.len; rw [← hu0.len] at hnqb; subst nqb))
          | (go_at_call 26; go_must (refine (lawCloset_calls (c := someC c p2) (k1 := k1) (k2 := k2) (k3 := ksb) _ ⟨(hc0.later hL3b).hs, (hc0.later hL3b).hu, hrsb⟩ (by omega) (by omega) (by omega)).mono ?_; rintro e w4b ⟨B1b, j1b, B2b, j2b, B3b, j3b, rfl, hM4b, hc4b, hj1b, hj2b, hj3b⟩; have hL4b := Later.trans hL3b hM4b))
          | (go_at_call 72; go_must (refine (Hsm.out p2 hb2 _ hSb).mono ?_; rintro e w3b ⟨Asb, msb, ksb, rfl, hM3b, hrsb⟩; have hL3b := Later.trans hSb hM3b; have hmsb : msb ≤ 5 := (by have h1 := hrsb.len; have h2 := someTo_len c p2 c.looks.length; have h3 := Hn3.out; simp only [someC, withLooks] at h1; omega))))
      have hE1 : askedErr (someC c p1) (isPlaceB (someC c p1) c.hung) = 0 := He1.out
      have hE2 : askedErr (someC c p2) (isPlaceB (someC c p2) c.hung) = 11 := He2.out
      rw [hE1, hE2]
      clear hE1 hE2
      go_wp2_with fail
      refine (awake_calls _).mono ?_
      rintro e wa ⟨rfl, hLa⟩
      go_wp2_with fail
      go_ret
      exact ⟨rfl, Later.trans hL0 (Later.trans hL6b hLa)⟩
end Go.Proofs.Ytjilckjhdlabaaa
