/- ClosetAsked: the walk. -/
import Derived.Test.YtjilckjhdlabaaaPart21
import Derived.Test.YtjilckjhdlabaaaPart20
import Derived.Test.YtjilckjhdlabaaaPart11
set_option linter.unusedSimpArgs false
set_option linter.unusedVariables false
namespace Go.Proofs.Ytjilckjhdlabaaa
open Go Go.RowKit
attribute [local go_sem] later_alloc2 later_alloc3 later_alloc4

set_option maxRecDepth 100000 in
set_option maxHeartbeats 16000000 in
theorem lawAsked_calls {A1 A2 A3 : Option Addr} {n1 k1 n2 k2 n3 k3 : Nat} {c : Clo} {q x y : Nat} (w : World) (hc : CV w c A1 n1 A2 n2 A3 n3) (hcl : i64 c.closets) (b1 : n1 ≤ 9223372036854775807) (b2 : n2 ≤ 9223372036854775807) (b3 : n3 ≤ 9223372036854775807)
    (hq : q < 65536) (hx : x < 256) (hy : y < 256) :
    Calls Try.prog 10 #[(.agg #[.int .i64 c.closets, .int .i64 c.close, .slice A1 n1 k1, .slice A2 n2 k2, .slice A3 n3 k3]), .int .u16 q, .int .u8 x, .int .u8 y] w fun e w' => e = .returned (.bool true) ∧ Later w w' := by
  obtain ⟨w0, hw0⟩ : ∃ W, W = (w.alloc (.cells #[.int .i64 c.closets, .int .i64 c.close, .slice A1 n1 k1, .slice A2 n2 k2, .slice A3 n3 k3] 26)) := ⟨_, rfl⟩; have hbox : ∀ W, Later w0 W → ∀ i, W.cell? ⟨w.heap.size, i, none⟩ = #[.int .i64 c.closets, .int .i64 c.close, .slice A1 n1 k1, .slice A2 n2 k2, .slice A3 n3 k3][i]? := (by rw [hw0]; exact box_cells w #[.int .i64 c.closets, .int .i64 c.close, .slice A1 n1 k1, .slice A2 n2 k2, .slice A3 n3 k3] 26); have hL0 : Later w w0 := (by rw [hw0]; simp); have hc0 := hc.later hL0; have Hw0 := hide hw0; clear hw0
  have hrdy := ready_calls (k1 := k1) (k2 := k2) (k3 := k3) w0 hc0 hcl b1 b2 b3
  cases hth : readyB c with
  | false =>
    rw [hth] at hrdy
    have Hrdy := hide hrdy
    clear hth hrdy
    go_enter Try.func10, Try.ntmps10
    go_wp2_with fail
    rw [← Hw0.out]; clear Hw0
    refine Hrdy.out.mono ?_
    rintro e w1 ⟨rfl, hL1⟩
    go_wp2_with fail
    refine (awake_calls _).mono ?_
    rintro e w2 ⟨rfl, hL2⟩
    go_wp2_with fail
    go_ret
    exact ⟨rfl, Later.trans hL0 (Later.trans hL1 hL2)⟩
  | true =>
    rw [hth] at hrdy
    have hn1 := hc.hs.len
    have hn2 := hc.hu.len
    have hn3 := hc.lk.len
    have hf := (readyB_true hth).2
    have ok := okC_of_fault hf
    have l1 : n1 ≤ 4 := by have := ok.len; omega
    have l2 : n2 ≤ 4 := by have := ok.len; have := ok.hung.len; omega
    have l3 : n3 ≤ 5 := by have := ok.nlooks; omega
    have Hn1 := hide hn1
    have Hn2 := hide hn2
    have Hn3 := hide hn3
    have Hf := hide hf
    have Hrdy := hide hrdy
    clear hth hrdy hn1 hn2 hn3 hf
    by_cases hn0 : n1 = 0
    · have hz : ((n1 : Int) == 0) = true := by simp [hn0]
      clear hn0
      go_enter Try.func10, Try.ntmps10
      go_wp2_with fail
      rw [← Hw0.out]; clear Hw0
      refine Hrdy.out.mono ?_
      rintro e w1 ⟨rfl, hL1⟩
      go_wp2_with fail
      refine (awake_calls _).mono ?_
      rintro e wa ⟨rfl, hLa⟩
      go_wp2_with fail
      go_ret
      exact ⟨rfl, Later.trans hL0 (Later.trans hL1 hLa)⟩
    · by_cases hn4 : 4 < n3
      · have hz : ((n1 : Int) == 0) = false := by simp; omega
        have hz2 : (4 : Int) < (n3 : Int) := by omega
        clear hn0
        go_enter Try.func10, Try.ntmps10
        go_wp2_with fail
        rw [← Hw0.out]; clear Hw0
        refine Hrdy.out.mono ?_
        rintro e w1 ⟨rfl, hL1⟩
        go_wp2_with fail
        refine (awake_calls _).mono ?_
        rintro e wa ⟨rfl, hLa⟩
        go_wp2_with fail
        go_ret
        exact ⟨rfl, Later.trans hL0 (Later.trans hL1 hLa)⟩
      · have hz : ((n1 : Int) == 0) = false := by simp; omega
        have hz2 : ¬ (4 : Int) < (n3 : Int) := by omega
        have hmr := (fault_zero Hf.out).2.2.2.2.2.2
        obtain ⟨⟨s1, s2, s3, s4⟩, hso⟩ : ∃ r, askOut c = r := ⟨_, rfl⟩
        have hak := fun (B1 B2 B3 : Option Addr) (j1 j2 j3 : Nat) (W : World) (h : CV W c B1 n1 B2 n2 B3 n3) (h2 : n2 ≤ j2) =>
          AskP_calls (k1 := j1) (k2 := j2) (k3 := j3) W h hcl (by omega) (by omega) (by omega) h2
        rw [hso] at hak
        have Hak := hide hak
        have Hso := hide hso
        have Hmr := hide hmr
        have Hn0 := hide hn0
        have htc := fun (W : World) (h : Later w0 W) => Truths_calls (k1 := k1) (k2 := k2) (k3 := k3) W (hc0.later h) ok Hmr.out
        have Htc := hide htc
        clear hak hso hmr htc hn0
        go_enter Try.func10, Try.ntmps10
        go_wp2_with fail
        rw [← Hw0.out]; clear Hw0
        refine Hrdy.out.mono ?_
        rintro e w1 ⟨rfl, hL1⟩
        go_wp2_with fail
        refine (lawCloset_calls (k1 := k1) (k2 := k2) (k3 := k3) w1 (hc0.later hL1) (by omega) (by omega) (by omega)).mono ?_
        rintro e wa ⟨B1a, j1a, B2a, j2a, B3a, j3a, rfl, hMa, hca, hj1a, hj2a, hj3a⟩
        have hLa := Later.trans hL1 hMa
        go_wp2_with fail
        refine (Hak.out _ _ _ _ _ _ wa hca hj2a).mono ?_
        rintro e w2 ⟨rfl, hM2⟩
        have hL2 := Later.trans hLa hM2
        clear hca hj1a hj2a hj3a hMa hLa hM2
        go_wp2_with fail
        refine (Htc.out w2 hL2).mono ?_
        rintro e w3 ⟨At, nt, kt, rfl, hM3, hrt⟩
        have hL3 := Later.trans hL2 hM3
        have hnt := hrt.len
        by_cases hne : truths c = []
        · rw [hne] at hnt
          simp only [List.length_nil] at hnt
          subst nt
          have hbo : askOut c = (0, 0, 0, 11) := by
            have e : askedErr c true = 11 := by unfold askedErr; rw [if_neg (by simp [Hf.out]), if_neg (by simp), if_pos ((truths_nil Hf.out).1 hne)]
            unfold askOut; rw [if_pos (by rw [e]; decide), e]
          rw [Hso.out] at hbo
          injection hbo with e1 hbo
          injection hbo with e2 hbo
          injection hbo with e3 e4
          subst s1 s2 s3 s4
          clear hne hrt
          go_wp2_with fail
          refine (awake_calls _).mono ?_
          rintro e wa ⟨rfl, hLa⟩
          go_wp2_with fail
          go_ret
          exact ⟨rfl, Later.trans hL0 (Later.trans hL3 hLa)⟩
        · have hl4 : c.looks.length ≤ 4 := by have := Hn3.out; omega
          obtain ⟨h, m, hh, hm, hso, hmin, hlaw⟩ := asked_law Hf.out hne (by have := Hn1.out; have := Hn0.out; omega) hl4
          rw [Hso.out] at hso
          injection hso with e1 hso
          injection hso with e2 hso
          injection hso with e3 e4
          subst s1 s2 s4
          have hn0 : nt ≠ 0 := fun e => hne (List.eq_nil_of_length_eq_zero (by omega))
          have hnb : ((nt : Int) == 0) = false := by simp; omega
          obtain ⟨k, hk⟩ : ∃ k, q % nt = k := ⟨_, rfl⟩
          have hkn : k < nt := by rw [← hk]; exact Nat.mod_lt _ (by omega)
          have hnt2 : nt ≤ 2000 := by rw [hnt, ← (truthsP_perm Hf.out).length_eq]; exact truthsP_len Hf.out
          have hv1 : ¬ (nt : Int) = 0 := by omega
          have hv2 : (q : Int).tmod (nt : Int) = (k : Int) := by rw [← hk, Int.tmod_eq_emod_of_nonneg (by omega)]; norm_cast
          have hv3 : (q : Int) % (nt : Int) = (k : Int) := by rw [← hk]; norm_cast
          have hv4 : ¬ nt = 0 := hn0
          have hi1 : inB (h : Int) 0 ((n1 : Int) - 1) = true := by have := Hn1.out; unfold inB; simp; omega
          have hi2 : inB (m : Int) 0 99 = true := by unfold inB; simp; omega
          have hic1 := fun W => In_calls (h : Int) 0 ((n1 : Int) - 1) W
          have hic2 := fun W => In_calls (m : Int) 0 99 W
          rw [hi1] at hic1
          rw [hi2] at hic2
          have Hic1 := hide hic1
          have Hic2 := hide hic2
          have Hnt := hide hnt
          clear hic1 hic2 hi1 hi2 hk hn0 hne hnt
          go_wp2_with fail
          refine (Hic1.out w3).mono ?_
          rintro e w3' ⟨rfl, rfl⟩
          go_wp2_with fail
          refine (Hic2.out w3).mono ?_
          rintro e w3' ⟨rfl, rfl⟩
          obtain ⟨bt, ot, t, Bt, nt2, kt2, rfl, htk, hrt2, hct⟩ := hrt.get hkn
          have hki : (k : Int) < nt := by omega
          have hct3 := hct w3 (later_refl _)
          go_upto_region 11 with fail
          obtain ⟨w9, hw9⟩ : ∃ W, W = w3.alloc (.cells #[.int .i64 c.closets, .int .i64 c.close, .slice A1 n1 k1, .slice A2 n2 k2, .slice A3 n3 k3] 26) := ⟨_, rfl⟩
          obtain ⟨g9, hg9⟩ : ∃ g, g = w3.heap.size := ⟨_, rfl⟩
          have hb9 : Blk w9 g9 26 #[.int .i64 c.closets, .int .i64 c.close, .slice A1 n1 k1, .slice A2 n2 k2, .slice A3 n3 k3] := by rw [hw9, hg9]; exact Blk.new _ _ _
          have hM9 : Later w3 w9 := by rw [hw9]; exact later_alloc (later_refl _) _
          have hL9 := Later.trans hL3 hM9
          have hg9s : g9 < w9.heap.size := hb9.lt
          have hlo9 : w3.heap.size ≤ g9 := Nat.le_of_eq hg9.symm
          obtain ⟨s3, hs3⟩ : ∃ s, leaves c (truths c) h m = s := ⟨_, rfl⟩
          obtain ⟨mm, hmm⟩ : ∃ s, minuteR c c.hung t h = s := ⟨_, rfl⟩
          obtain ⟨bq, hbq⟩ : ∃ b, decide (mm ≤ (m : Int)) = b := ⟨_, rfl⟩
          have htm := List.mem_of_getElem? htk
          have hlw := hlaw t htm
          have hdry := truths_isDry ok.toOkH
          have hdt := hdry t htm
          have hmc := fun (W : World) (hW : Later w9 W) => Minute_calls (k1 := k1) (k2 := k2) (k3 := k3) (kp := k2) (kd := kt2) (h := (h : Int)) W (hc0.later (Later.trans hL9 hW)) (hc0.later (Later.trans hL9 hW)).hu (hrt2.later (Later.trans hM9 hW)) ok.toOkH ok.hung.len hdt.len (by omega) (by omega) (ok.hung.bound ok.toOkH) (hdt.bound ok.toOkH)
          simp only [Int.toNat_natCast, hmm] at hmc
          rw [hs3] at hmin hlw ⊢
          rw [hmm, hbq] at hlw
          have hlc := fun (h' m' : Int) (W : World) (hW : Later w3 W) => Leaves_calls (k1 := k1) (k2 := k2) (k3 := k3) (kl := kt) (h := h') (m := m') W (hc0.later (Later.trans hL3 hW)) (hrt.later hW) ok hdry (by omega)
          have hb9w := fun W (hW : Later w9 W) => hbox W (Later.trans hL9 hW)
          have hbt4 := hb9w
          have Hmc := hide hmc
          have Hlc := hide hlc
          have Hmin := hide hmin
          have Hlw := hide hlw
          have Hs3 := hide hs3
          have Hbq := hide hbq
          rw [← hw9, ← hg9]
          clear hw9 hg9 hmm hmc hlc hmin hlw hlaw hs3 hct hct3 htk htm hv1 hv2 hv3 hv4
          have hS9 : Later w9 w9.drew := later_drew (later_refl _)
          refine wp_region_lin (w0 := w9) 16 [] rely_later (by kernel_rfl) (by kernel_rfl) (by kernel_rfl) (by kernel_rfl) (hS9) (.inl rfl) ?_
          simp only [List.take_succ_cons, List.take_zero, List.drop_succ_cons, List.drop_zero]
          refine lin_any (IsNil0 w9.heap.size 84) false (fun v W W' k h => IsNil0.later h k) (F' := ?_) (by rfl) (fun _ => by rfl) ?_ ?_ ?_
          rotate_left 1
          focus (intro xs X hX hdep; skip; clear hdep; intro K hK; (try dsimp only); go_simp; (exact hK.out _ _ rfl (later_alloc (later_refl _) _) ⟨_, rfl, Blk.new _ _ _, hX.size⟩ (fun h => by cases h)))
          focus (intro xs; (try simp only [Act.put, List.setIfInBounds_toArray, List.set_cons_zero, List.set_cons_succ, Nat.reduceAdd]); rfl)
          refine lin_det (v := ?_) (F' := ?_) (by rfl) (fun _ => by rfl) ?_ ?_ ?_
          rotate_left 2
          focus (intro xs X hX hdep; clear hdep; (try dsimp only); go_simp; (try (first | with_reducible rfl | exact ⟨rfl, rfl⟩ | (fail))))
          focus (intro xs; (try simp only [Act.put, List.setIfInBounds_toArray, List.set_cons_zero, List.set_cons_succ, Nat.reduceAdd]); rfl)
          refine lin_det (v := ?_) (F' := ?_) (by rfl) (fun _ => by rfl) ?_ ?_ ?_
          rotate_left 2
          focus (intro xs X hX hdep; clear hdep; (try dsimp only); go_simp; (try (first | with_reducible rfl | exact ⟨rfl, rfl⟩ | (fail))))
          focus (intro xs; (try simp only [Act.put, List.setIfInBounds_toArray, List.set_cons_zero, List.set_cons_succ, Nat.reduceAdd]); rfl)
          refine lin_any (IsRow w9.heap.size 84 3 n3 (looksV c.looks)) false (fun v W W' k h => IsRow.later h k) (F' := ?_) (by rfl) (fun _ => by rfl) ?_ ?_ ?_
          rotate_left 1
          focus (intro xs X hX hdep; obtain ⟨g, e0, hbk, hbg⟩ := (show IsNil0 _ _ _ _ from hdep 0 1 (by kernel_rfl)); clear hdep; intro K hK; (try dsimp only); (refine app0_wp w9.heap.size _ _ 24 rfl rfl 84 (.agg #[.int .i64 0, .int .i64 0, .bool false]) 3 24 Try.underlying24 rlook_info rfl (by omega) g (by exact e0) hbk hbg A3 n3 k3 (looksV c.looks) rfl (by rw [looksV_length]; have := Hn3.out; omega) (rl_cells (hc0.later (Later.trans hL9 hX)).lk) (rl_none hc0.lk) (rl_one _) (by unfold maxLen; omega) (by omega) (fun v' w' hL hown => ?_); obtain ⟨A, k, rfl, _⟩ := own_slice (w0 := w9) hown; exact hK.out _ _ rfl hL ⟨A, k, rfl, hown⟩ (fun h => by cases h)))
          focus (intro xs; (try simp only [Act.put, List.setIfInBounds_toArray, List.set_cons_zero, List.set_cons_succ, Nat.reduceAdd]); rfl)
          refine lin_det (v := ?_) (F' := ?_) (by rfl) (fun _ => by rfl) ?_ ?_ ?_
          rotate_left 2
          focus (intro xs X hX hdep; clear hdep; (try dsimp only); go_simp; (try (first | with_reducible rfl | exact ⟨rfl, rfl⟩ | (fail))))
          focus (intro xs; (try simp only [Act.put, List.setIfInBounds_toArray, List.set_cons_zero, List.set_cons_succ, Nat.reduceAdd]); rfl)
          refine lin_det (v := ?_) (F' := ?_) (by rfl) (fun _ => by rfl) ?_ ?_ ?_
          rotate_left 2
          focus (intro xs X hX hdep; clear hdep; (try dsimp only); go_simp; (try (first | with_reducible rfl | exact ⟨rfl, rfl⟩ | (fail))))
          focus (intro xs; (try simp only [Act.put, List.setIfInBounds_toArray, List.set_cons_zero, List.set_cons_succ, Nat.reduceAdd]); rfl)
          refine lin_det (v := ?_) (F' := ?_) (by rfl) (fun _ => by rfl) ?_ ?_ ?_
          rotate_left 2
          focus (intro xs X hX hdep; clear hdep; (try dsimp only); go_simp; (try (first | with_reducible rfl | exact ⟨rfl, rfl⟩ | (fail))))
          focus (intro xs; (try simp only [Act.put, List.setIfInBounds_toArray, List.set_cons_zero, List.set_cons_succ, Nat.reduceAdd]); rfl)
          refine lin_det (v := ?_) (F' := ?_) (by rfl) (fun _ => by rfl) ?_ ?_ ?_
          rotate_left 2
          focus (intro xs X hX hdep; clear hdep; (try dsimp only); go_simp; (try (first | with_reducible rfl | exact ⟨rfl, rfl⟩ | (fail))))
          focus (intro xs; (try simp only [Act.put, List.setIfInBounds_toArray, List.set_cons_zero, List.set_cons_succ, Nat.reduceAdd]); rfl)
          refine lin_det (v := ?_) (F' := ?_) (by rfl) (fun _ => by rfl) ?_ ?_ ?_
          rotate_left 2
          focus (intro xs X hX hdep; clear hdep; (try dsimp only); go_simp; (try (first | with_reducible rfl | exact ⟨rfl, rfl⟩ | (fail))))
          focus (intro xs; (try simp only [Act.put, List.setIfInBounds_toArray, List.set_cons_zero, List.set_cons_succ, Nat.reduceAdd]); rfl)
          refine lin_det (v := ?_) (F' := ?_) (by rfl) (fun _ => by rfl) ?_ ?_ ?_
          rotate_left 2
          focus (intro xs X hX hdep; clear hdep; (try dsimp only); go_simp; (try (first | with_reducible rfl | exact ⟨rfl, rfl⟩ | (fail))))
          focus (intro xs; (try simp only [Act.put, List.setIfInBounds_toArray, List.set_cons_zero, List.set_cons_succ, Nat.reduceAdd]); rfl)
          refine lin_det (v := ?_) (F' := ?_) (by rfl) (fun _ => by rfl) ?_ ?_ ?_
          rotate_left 2
          focus (intro xs X hX hdep; clear hdep; (try dsimp only); go_simp; (try (first | with_reducible rfl | exact ⟨rfl, rfl⟩ | (fail))))
          focus (intro xs; (try simp only [Act.put, List.setIfInBounds_toArray, List.set_cons_zero, List.set_cons_succ, Nat.reduceAdd]); rfl)
          refine lin_det (v := ?_) (F' := ?_) (by rfl) (fun _ => by rfl) ?_ ?_ ?_
          rotate_left 2
          focus (intro xs X hX hdep; clear hdep; (try dsimp only); go_simp; (try (first | with_reducible rfl | exact ⟨rfl, rfl⟩ | (exact Hmc.out X hX))))
          focus (intro xs; (try simp only [Act.put, List.setIfInBounds_toArray, List.set_cons_zero, List.set_cons_succ, Nat.reduceAdd]); rfl)
          refine lin_det (v := ?_) (F' := ?_) (by rfl) (fun _ => by rfl) ?_ ?_ ?_
          rotate_left 2
          focus (intro xs X hX hdep; clear hdep; (try dsimp only); go_simp; (try (first | with_reducible rfl | exact ⟨rfl, rfl⟩ | (fail))))
          focus (intro xs; (try simp only [Act.put, List.setIfInBounds_toArray, List.set_cons_zero, List.set_cons_succ, Nat.reduceAdd]); rfl)
          have hbq := Hbq.out
          refine lin_det (v := ?_) (F' := ?_) (by rfl) (fun _ => by rfl) ?_ ?_ ?_
          rotate_left 2
          focus (intro xs X hX hdep; clear hdep; (try dsimp only); go_simp; (try (first | with_reducible rfl | exact ⟨rfl, rfl⟩ | (fail))))
          focus (intro xs; (try simp only [Act.put, List.setIfInBounds_toArray, List.set_cons_zero, List.set_cons_succ, Nat.reduceAdd]); rfl)
          clear hbq
          refine lin_det (v := ?_) (F' := ?_) (by rfl) (fun _ => by rfl) ?_ ?_ ?_
          rotate_left 2
          focus (intro xs X hX hdep; clear hdep; (try dsimp only); go_simp; (try (first | with_reducible rfl | exact ⟨rfl, rfl⟩ | (fail))))
          focus (intro xs; (try simp only [Act.put, List.setIfInBounds_toArray, List.set_cons_zero, List.set_cons_succ, Nat.reduceAdd]); rfl)
          refine lin_any (IsNew 84 [.int .i64 h, .int .i64 m, .bool bq]) false (fun v W W' k h => IsNew.later h k) (F' := ?_) (by rfl) (fun _ => by rfl) ?_ ?_ ?_
          rotate_left 1
          focus (intro xs X hX hdep; skip; clear hdep; intro K hK; (try dsimp only); go_simp; (exact hK.out _ _ rfl (later_alloc (later_refl _) _) ⟨_, rfl, Blk.new _ _ _⟩ (fun h => by cases h)))
          focus (intro xs; (try simp only [Act.put, List.setIfInBounds_toArray, List.set_cons_zero, List.set_cons_succ, Nat.reduceAdd]); rfl)
          intro xs w10 hW hf hfr hfb
          obtain ⟨Ar, kr, hx3, hor⟩ := (show IsRow _ _ _ _ _ _ _ from hf 3)
          obtain ⟨gn, hx15, hbn⟩ := (show IsNew _ _ _ _ from hf 15)
          simp only [hx3, hx15, Nat.reduceAdd, Nat.zero_add]
          clear hf hfr hfb hx3 hx15
          have hL10 := Later.trans hL9 hW
          have hb10 := hb9.later hW
          have hsz10 := hW.size
          have Hlkl := hide (show (looksV c.looks).length = n3 * 3 by rw [looksV_length]; have := Hn3.out; omega)
          clear hb9
          go_wp2_with (at_builtin; refine appG rfl w9.heap.size _ _ 24 rfl 84 (.agg #[.int .i64 0, .int .i64 0, .bool false]) 3 24 Try.underlying24 rlook_info rfl (by omega) _ n3 (looksV c.looks) rfl hsz10 hor ⟨gn, 0, none⟩ 1 1 [.int .i64 h, .int .i64 m, .bool bq] rfl rfl hbn.one (by simp [Value.oneCell']) (by omega) (by omega) (by omega) ?_)
          intro v' w11 hap
          obtain ⟨Ax, kx, rfl, _⟩ := own_slice (w0 := w9) hap.own
          have hown := hap.own
          have hM11 := hap.later (w := w9) hW hor
          have hL11 := Later.trans hL9 hM11
          have hb11 : Blk w11 g9 26 #[.int .i64 c.closets, .int .i64 c.close, .slice A1 n1 k1, .slice A2 n2 k2, .slice A3 n3 k3] := Blk.of_eq (hap.grown.block g9 hb10.lt (fun e => by have := (hor.lt g9 e.symm).1; omega)) hb10
          have hk4 := hb11.cell 4
          have hkf := hb11.frozen 4
          simp only [List.getElem?_toArray, List.getElem?_cons_zero, List.getElem?_cons_succ] at hk4
          clear hap hor hbn hb10 hW
          go_upto_region 12 with fail
          obtain ⟨w12, hw12⟩ : ∃ W, W = w11.setCell ⟨g9, 4, none⟩ (.slice Ax (n3 + 1) kx) := ⟨_, rfl⟩
          have hb12 : Blk w12 g9 26 #[.int .i64 c.closets, .int .i64 c.close, .slice A1 n1 k1, .slice A2 n2 k2, .slice Ax (n3 + 1) kx] := by rw [hw12]; exact hb11.set_ 4 _
          have hM12 : Later w3 w12 := by rw [hw12]; exact later_set (Later.trans hM9 hM11) _ hlo9 _
          have hL12 := Later.trans hL3 hM12
          have hox : w12.ownsRow w9.heap.size 84 3 (.slice Ax (n3 + 1) kx) (n3 + 1) (looksV c.looks ++ [.int .i64 h, .int .i64 m, .bool bq]) := by
            rw [hw12]
            exact own_block hown fun g hg => Below.heap_setCell w11 _ _ g (by have := (hown.lt g hg).1; show g ≠ g9; omega)
          have hcx : CV w12 (moreC c ⟨h, m, bq⟩) A1 n1 A2 n2 Ax (n3 + 1) := ⟨(hc0.later hL12).hs, (hc0.later hL12).hu, by
            have := Reads.of_own hox
            rw [show looksV c.looks ++ [.int .i64 h, .int .i64 m, .bool bq] = looksV (c.looks ++ [⟨h, m, bq⟩]) by rw [looksV_snoc]; rfl] at this
            exact this⟩
          obtain ⟨hfx, hk1x, hk2x⟩ := Hlw.out
          have okx := okC_of_fault hfx
          have htx := Truths_calls (k1 := k1) (k2 := k2) (k3 := kx) w12 hcx okx (fault_zero hfx).2.2.2.2.2.2
          have Htx := hide htx
          rw [← hw12]
          have hbx12 := fun W (hW : Later w12 W) => (hb12.later hW).cell
          have hy0 := fun W hW => hbx12 W hW 0
          have hy1 := fun W hW => hbx12 W hW 1
          have hy2 := fun W hW => hbx12 W hW 2
          have hy3 := fun W hW => hbx12 W hW 3
          have hy4 := fun W hW => hbx12 W hW 4
          simp only [List.getElem?_toArray, List.getElem?_cons_zero, List.getElem?_cons_succ] at hy0 hy1 hy2 hy3 hy4
          have hT12 : Later w12 w12 := later_refl _
          clear hw12 hb11 hk4 hkf hown hox hbx12 htx hM11 hL11 hb9w hbt4
          go_wp2_with fail
          refine Htx.out.mono ?_
          rintro e w13 ⟨Ay, ny, ky, rfl, hM13, hry⟩
          have hny := hry.len
          rw [← hny] at hk1x hk2x
          have hM313 := Later.trans hM12 hM13
          have hL13 := Later.trans hL12 hM13
          have hd1 : decide ((1 : Int) ≤ (ny : Int)) = true := decide_eq_true (by omega)
          have hd2 : decide ((ny : Int) ≤ s3) = true := decide_eq_true hk2x
          have hn0 : ¬ n1 = 0 := Hn0.out
          obtain ⟨k', hk'⟩ : ∃ k, x % n1 = k := ⟨_, rfl⟩
          obtain ⟨y', hy'⟩ : ∃ k, y % 100 = k := ⟨_, rfl⟩
          have hkn' : k' < n1 := by rw [← hk']; exact Nat.mod_lt _ (by omega)
          have hyn' : y' < 100 := by omega
          have hv1 : ¬ (n1 : Int) = 0 := by omega
          have hv2 : (x : Int).tmod (n1 : Int) = (k' : Int) := by rw [← hk', Int.tmod_eq_emod_of_nonneg (by omega)]; norm_cast
          have hv3 : IntKind.i64.wrap (k' : Int) = (k' : Int) := IntWalk.i64_in _ (by omega)
          have hv4 : (x : Int) % (n1 : Int) = (k' : Int) := by rw [← hk']; norm_cast
          have hv6 : IntKind.i64.wrap (x : Int) = (x : Int) := IntWalk.i64_in _ (by omega)
          have hv7 : IntKind.i64.wrap (y : Int) = (y : Int) := IntWalk.i64_in _ (by omega)
          have hv8 : (y : Int).tmod 100 = (y' : Int) := by rw [← hy', Int.tmod_eq_emod_of_nonneg (by omega)]; norm_cast
          have hv9 : IntKind.i64.wrap (y' : Int) = (y' : Int) := IntWalk.i64_in _ (by omega)
          have hv10 : (y : Int) % 100 = (y' : Int) := by rw [← hy']; norm_cast
          have hmn := Hmin.out k' y' (by have := Hn1.out; omega) hyn'
          have hl1 := fun (W : World) (hW : Later w13 W) => Hlc.out (h : Int) (m : Int) W (Later.trans hM313 hW) (by omega) (by omega)
          have hl2 := fun (W : World) (hW : Later w13 W) => Hlc.out (k' : Int) (y' : Int) W (Later.trans hM313 hW) (by omega) (by have := Hn1.out; omega)
          simp only [Int.toNat_natCast] at hl1 hl2
          rw [Hs3.out] at hl1
          obtain ⟨s4, hs4⟩ : ∃ s, leaves c (truths c) k' y' = s := ⟨_, rfl⟩
          rw [hs4] at hl2 hmn
          have hd3 : decide (s3 ≤ s4) = true := decide_eq_true hmn
          have hd4 : (s3 == s3) = true := by simp
          have Hl1 := hide hl1
          have Hl2 := hide hl2
          have hT : ∀ e : Ext w13, Later w13 e.W := fun e => e.h
          have hbx13 := fun W (hW : Later w13 W) => hbox W (Later.trans hL13 hW)
          clear hk' hy' hl1 hl2 hmn hs4 hny hk1x hk2x hbox hy0 hy1 hy2 hy3 hy4
          go_wp2_with fail
          have hS13 : Later w13 w13.drew := later_drew (later_refl _)
          clear hT
          refine wp_region_lin (w0 := w13) 36 [] rely_later (by kernel_rfl) (by kernel_rfl) (by kernel_rfl) (by kernel_rfl) (hS13) (.inl rfl) ?_
          simp only [List.take_succ_cons, List.take_zero, List.drop_succ_cons, List.drop_zero]
          refine lin_det (v := ?_) (F' := ?_) (by rfl) (fun _ => by rfl) ?_ ?_ ?_
          rotate_left 2
          focus (intro xs X hX hdep; clear hdep; (try dsimp only); go_simp; (try (first | with_reducible rfl | exact ⟨rfl, rfl⟩ | (fail))))
          focus (intro xs; (try simp only [Act.put, List.setIfInBounds_toArray, List.set_cons_zero, List.set_cons_succ, Nat.reduceAdd]); rfl)
          refine lin_det (v := ?_) (F' := ?_) (by rfl) (fun _ => by rfl) ?_ ?_ ?_
          rotate_left 2
          focus (intro xs X hX hdep; clear hdep; (try dsimp only); go_simp; (try (first | with_reducible rfl | exact ⟨rfl, rfl⟩ | (fail))))
          focus (intro xs; (try simp only [Act.put, List.setIfInBounds_toArray, List.set_cons_zero, List.set_cons_succ, Nat.reduceAdd]); rfl)
          refine lin_det (v := ?_) (F' := ?_) (by rfl) (fun _ => by rfl) ?_ ?_ ?_
          rotate_left 2
          focus (intro xs X hX hdep; clear hdep; (try dsimp only); go_simp; (try (first | with_reducible rfl | exact ⟨rfl, rfl⟩ | (fail))))
          focus (intro xs; (try simp only [Act.put, List.setIfInBounds_toArray, List.set_cons_zero, List.set_cons_succ, Nat.reduceAdd]); rfl)
          refine lin_det (v := ?_) (F' := ?_) (by rfl) (fun _ => by rfl) ?_ ?_ ?_
          rotate_left 2
          focus (intro xs X hX hdep; clear hdep; (try dsimp only); go_simp; (try (first | with_reducible rfl | exact ⟨rfl, rfl⟩ | (fail))))
          focus (intro xs; (try simp only [Act.put, List.setIfInBounds_toArray, List.set_cons_zero, List.set_cons_succ, Nat.reduceAdd]); rfl)
          refine lin_det (v := ?_) (F' := ?_) (by rfl) (fun _ => by rfl) ?_ ?_ ?_
          rotate_left 2
          focus (intro xs X hX hdep; clear hdep; (try dsimp only); go_simp; (try (first | with_reducible rfl | exact ⟨rfl, rfl⟩ | (fail))))
          focus (intro xs; (try simp only [Act.put, List.setIfInBounds_toArray, List.set_cons_zero, List.set_cons_succ, Nat.reduceAdd]); rfl)
          refine lin_det (v := ?_) (F' := ?_) (by rfl) (fun _ => by rfl) ?_ ?_ ?_
          rotate_left 2
          focus (intro xs X hX hdep; clear hdep; (try dsimp only); go_simp; (try (first | with_reducible rfl | exact ⟨rfl, rfl⟩ | (fail))))
          focus (intro xs; (try simp only [Act.put, List.setIfInBounds_toArray, List.set_cons_zero, List.set_cons_succ, Nat.reduceAdd]); rfl)
          refine lin_det (v := ?_) (F' := ?_) (by rfl) (fun _ => by rfl) ?_ ?_ ?_
          rotate_left 2
          focus (intro xs X hX hdep; clear hdep; (try dsimp only); go_simp; (try (first | with_reducible rfl | exact ⟨rfl, rfl⟩ | (fail))))
          focus (intro xs; (try simp only [Act.put, List.setIfInBounds_toArray, List.set_cons_zero, List.set_cons_succ, Nat.reduceAdd]); rfl)
          refine lin_det (v := ?_) (F' := ?_) (by rfl) (fun _ => by rfl) ?_ ?_ ?_
          rotate_left 2
          focus (intro xs X hX hdep; clear hdep; (try dsimp only); go_simp; (try (first | with_reducible rfl | exact ⟨rfl, rfl⟩ | (fail))))
          focus (intro xs; (try simp only [Act.put, List.setIfInBounds_toArray, List.set_cons_zero, List.set_cons_succ, Nat.reduceAdd]); rfl)
          refine lin_det (v := ?_) (F' := ?_) (by rfl) (fun _ => by rfl) ?_ ?_ ?_
          rotate_left 2
          focus (intro xs X hX hdep; clear hdep; (try dsimp only); go_simp; (try (first | with_reducible rfl | exact ⟨rfl, rfl⟩ | (fail))))
          focus (intro xs; (try simp only [Act.put, List.setIfInBounds_toArray, List.set_cons_zero, List.set_cons_succ, Nat.reduceAdd]); rfl)
          refine lin_det (v := ?_) (F' := ?_) (by rfl) (fun _ => by rfl) ?_ ?_ ?_
          rotate_left 2
          focus (intro xs X hX hdep; clear hdep; (try dsimp only); go_simp; (try (first | with_reducible rfl | exact ⟨rfl, rfl⟩ | (fail))))
          focus (intro xs; (try simp only [Act.put, List.setIfInBounds_toArray, List.set_cons_zero, List.set_cons_succ, Nat.reduceAdd]); rfl)
          refine lin_det (v := ?_) (F' := ?_) (by rfl) (fun _ => by rfl) ?_ ?_ ?_
          rotate_left 2
          focus (intro xs X hX hdep; clear hdep; (try dsimp only); go_simp; (try (first | with_reducible rfl | exact ⟨rfl, rfl⟩ | (fail))))
          focus (intro xs; (try simp only [Act.put, List.setIfInBounds_toArray, List.set_cons_zero, List.set_cons_succ, Nat.reduceAdd]); rfl)
          refine lin_det (v := ?_) (F' := ?_) (by rfl) (fun _ => by rfl) ?_ ?_ ?_
          rotate_left 2
          focus (intro xs X hX hdep; clear hdep; (try dsimp only); go_simp; (try (first | with_reducible rfl | exact ⟨rfl, rfl⟩ | (fail))))
          focus (intro xs; (try simp only [Act.put, List.setIfInBounds_toArray, List.set_cons_zero, List.set_cons_succ, Nat.reduceAdd]); rfl)
          refine lin_det (v := ?_) (F' := ?_) (by rfl) (fun _ => by rfl) ?_ ?_ ?_
          rotate_left 2
          focus (intro xs X hX hdep; clear hdep; (try dsimp only); go_simp; (try (first | with_reducible rfl | exact ⟨rfl, rfl⟩ | (fail))))
          focus (intro xs; (try simp only [Act.put, List.setIfInBounds_toArray, List.set_cons_zero, List.set_cons_succ, Nat.reduceAdd]); rfl)
          refine lin_det (v := ?_) (F' := ?_) (by rfl) (fun _ => by rfl) ?_ ?_ ?_
          rotate_left 2
          focus (intro xs X hX hdep; clear hdep; (try dsimp only); go_simp; (try (first | with_reducible rfl | exact ⟨rfl, rfl⟩ | (exact Hl1.out X hX))))
          focus (intro xs; (try simp only [Act.put, List.setIfInBounds_toArray, List.set_cons_zero, List.set_cons_succ, Nat.reduceAdd]); rfl)
          refine lin_det (v := ?_) (F' := ?_) (by rfl) (fun _ => by rfl) ?_ ?_ ?_
          rotate_left 2
          focus (intro xs X hX hdep; clear hdep; (try dsimp only); go_simp; (try (first | with_reducible rfl | exact ⟨rfl, rfl⟩ | (fail))))
          focus (intro xs; (try simp only [Act.put, List.setIfInBounds_toArray, List.set_cons_zero, List.set_cons_succ, Nat.reduceAdd]); rfl)
          refine lin_det (v := ?_) (F' := ?_) (by rfl) (fun _ => by rfl) ?_ ?_ ?_
          rotate_left 2
          focus (intro xs X hX hdep; clear hdep; (try dsimp only); go_simp; (try (first | with_reducible rfl | exact ⟨rfl, rfl⟩ | (fail))))
          focus (intro xs; (try simp only [Act.put, List.setIfInBounds_toArray, List.set_cons_zero, List.set_cons_succ, Nat.reduceAdd]); rfl)
          refine lin_det (v := ?_) (F' := ?_) (by rfl) (fun _ => by rfl) ?_ ?_ ?_
          rotate_left 2
          focus (intro xs X hX hdep; clear hdep; (try dsimp only); go_simp; (try (first | with_reducible rfl | exact ⟨rfl, rfl⟩ | (fail))))
          focus (intro xs; (try simp only [Act.put, List.setIfInBounds_toArray, List.set_cons_zero, List.set_cons_succ, Nat.reduceAdd]); rfl)
          refine lin_det (v := ?_) (F' := ?_) (by rfl) (fun _ => by rfl) ?_ ?_ ?_
          rotate_left 2
          focus (intro xs X hX hdep; clear hdep; (try dsimp only); go_simp; (try (first | with_reducible rfl | exact ⟨rfl, rfl⟩ | (fail))))
          focus (intro xs; (try simp only [Act.put, List.setIfInBounds_toArray, List.set_cons_zero, List.set_cons_succ, Nat.reduceAdd]); rfl)
          refine lin_det (v := ?_) (F' := ?_) (by rfl) (fun _ => by rfl) ?_ ?_ ?_
          rotate_left 2
          focus (intro xs X hX hdep; clear hdep; (try dsimp only); go_simp; (try (first | with_reducible rfl | exact ⟨rfl, rfl⟩ | (fail))))
          focus (intro xs; (try simp only [Act.put, List.setIfInBounds_toArray, List.set_cons_zero, List.set_cons_succ, Nat.reduceAdd]); rfl)
          refine lin_det (v := ?_) (F' := ?_) (by rfl) (fun _ => by rfl) ?_ ?_ ?_
          rotate_left 2
          focus (intro xs X hX hdep; clear hdep; (try dsimp only); go_simp; (try (first | with_reducible rfl | exact ⟨rfl, rfl⟩ | (fail))))
          focus (intro xs; (try simp only [Act.put, List.setIfInBounds_toArray, List.set_cons_zero, List.set_cons_succ, Nat.reduceAdd]); rfl)
          refine lin_det (v := ?_) (F' := ?_) (by rfl) (fun _ => by rfl) ?_ ?_ ?_
          rotate_left 2
          focus (intro xs X hX hdep; clear hdep; (try dsimp only); go_simp; (try (first | with_reducible rfl | exact ⟨rfl, rfl⟩ | (fail))))
          focus (intro xs; (try simp only [Act.put, List.setIfInBounds_toArray, List.set_cons_zero, List.set_cons_succ, Nat.reduceAdd]); rfl)
          refine lin_det (v := ?_) (F' := ?_) (by rfl) (fun _ => by rfl) ?_ ?_ ?_
          rotate_left 2
          focus (intro xs X hX hdep; clear hdep; (try dsimp only); go_simp; (try (first | with_reducible rfl | exact ⟨rfl, rfl⟩ | (fail))))
          focus (intro xs; (try simp only [Act.put, List.setIfInBounds_toArray, List.set_cons_zero, List.set_cons_succ, Nat.reduceAdd]); rfl)
          refine lin_det (v := ?_) (F' := ?_) (by rfl) (fun _ => by rfl) ?_ ?_ ?_
          rotate_left 2
          focus (intro xs X hX hdep; clear hdep; (try dsimp only); go_simp; (try (first | with_reducible rfl | exact ⟨rfl, rfl⟩ | (fail))))
          focus (intro xs; (try simp only [Act.put, List.setIfInBounds_toArray, List.set_cons_zero, List.set_cons_succ, Nat.reduceAdd]); rfl)
          refine lin_det (v := ?_) (F' := ?_) (by rfl) (fun _ => by rfl) ?_ ?_ ?_
          rotate_left 2
          focus (intro xs X hX hdep; clear hdep; (try dsimp only); go_simp; (try (first | with_reducible rfl | exact ⟨rfl, rfl⟩ | (fail))))
          focus (intro xs; (try simp only [Act.put, List.setIfInBounds_toArray, List.set_cons_zero, List.set_cons_succ, Nat.reduceAdd]); rfl)
          refine lin_det (v := ?_) (F' := ?_) (by rfl) (fun _ => by rfl) ?_ ?_ ?_
          rotate_left 2
          focus (intro xs X hX hdep; clear hdep; (try dsimp only); go_simp; (try (first | with_reducible rfl | exact ⟨rfl, rfl⟩ | (fail))))
          focus (intro xs; (try simp only [Act.put, List.setIfInBounds_toArray, List.set_cons_zero, List.set_cons_succ, Nat.reduceAdd]); rfl)
          refine lin_det (v := ?_) (F' := ?_) (by rfl) (fun _ => by rfl) ?_ ?_ ?_
          rotate_left 2
          focus (intro xs X hX hdep; clear hdep; (try dsimp only); go_simp; (try (first | with_reducible rfl | exact ⟨rfl, rfl⟩ | (fail))))
          focus (intro xs; (try simp only [Act.put, List.setIfInBounds_toArray, List.set_cons_zero, List.set_cons_succ, Nat.reduceAdd]); rfl)
          refine lin_det (v := ?_) (F' := ?_) (by rfl) (fun _ => by rfl) ?_ ?_ ?_
          rotate_left 2
          focus (intro xs X hX hdep; clear hdep; (try dsimp only); go_simp; (try (first | with_reducible rfl | exact ⟨rfl, rfl⟩ | (fail))))
          focus (intro xs; (try simp only [Act.put, List.setIfInBounds_toArray, List.set_cons_zero, List.set_cons_succ, Nat.reduceAdd]); rfl)
          refine lin_det (v := ?_) (F' := ?_) (by rfl) (fun _ => by rfl) ?_ ?_ ?_
          rotate_left 2
          focus (intro xs X hX hdep; clear hdep; (try dsimp only); go_simp; (try (first | with_reducible rfl | exact ⟨rfl, rfl⟩ | (fail))))
          focus (intro xs; (try simp only [Act.put, List.setIfInBounds_toArray, List.set_cons_zero, List.set_cons_succ, Nat.reduceAdd]); rfl)
          refine lin_det (v := ?_) (F' := ?_) (by rfl) (fun _ => by rfl) ?_ ?_ ?_
          rotate_left 2
          focus (intro xs X hX hdep; clear hdep; (try dsimp only); go_simp; (try (first | with_reducible rfl | exact ⟨rfl, rfl⟩ | (exact Hl2.out X hX))))
          focus (intro xs; (try simp only [Act.put, List.setIfInBounds_toArray, List.set_cons_zero, List.set_cons_succ, Nat.reduceAdd]); rfl)
          refine lin_det (v := ?_) (F' := ?_) (by rfl) (fun _ => by rfl) ?_ ?_ ?_
          rotate_left 2
          focus (intro xs X hX hdep; clear hdep; (try dsimp only); go_simp; (try (first | with_reducible rfl | exact ⟨rfl, rfl⟩ | (fail))))
          focus (intro xs; (try simp only [Act.put, List.setIfInBounds_toArray, List.set_cons_zero, List.set_cons_succ, Nat.reduceAdd]); rfl)
          refine lin_det (v := ?_) (F' := ?_) (by rfl) (fun _ => by rfl) ?_ ?_ ?_
          rotate_left 2
          focus (intro xs X hX hdep; clear hdep; (try dsimp only); go_simp; (try (first | with_reducible rfl | exact ⟨rfl, rfl⟩ | (fail))))
          focus (intro xs; (try simp only [Act.put, List.setIfInBounds_toArray, List.set_cons_zero, List.set_cons_succ, Nat.reduceAdd]); rfl)
          refine lin_det (v := ?_) (F' := ?_) (by rfl) (fun _ => by rfl) ?_ ?_ ?_
          rotate_left 2
          focus (intro xs X hX hdep; clear hdep; (try dsimp only); go_simp; (try (first | with_reducible rfl | exact ⟨rfl, rfl⟩ | (fail))))
          focus (intro xs; (try simp only [Act.put, List.setIfInBounds_toArray, List.set_cons_zero, List.set_cons_succ, Nat.reduceAdd]); rfl)
          refine lin_det (v := ?_) (F' := ?_) (by rfl) (fun _ => by rfl) ?_ ?_ ?_
          rotate_left 2
          focus (intro xs X hX hdep; clear hdep; (try dsimp only); go_simp; (try (first | with_reducible rfl | exact ⟨rfl, rfl⟩ | (fail))))
          focus (intro xs; (try simp only [Act.put, List.setIfInBounds_toArray, List.set_cons_zero, List.set_cons_succ, Nat.reduceAdd]); rfl)
          refine lin_det (v := ?_) (F' := ?_) (by rfl) (fun _ => by rfl) ?_ ?_ ?_
          rotate_left 2
          focus (intro xs X hX hdep; clear hdep; (try dsimp only); go_simp; (try (first | with_reducible rfl | exact ⟨rfl, rfl⟩ | (exact awake_calls X))))
          focus (intro xs; (try simp only [Act.put, List.setIfInBounds_toArray, List.set_cons_zero, List.set_cons_succ, Nat.reduceAdd]); rfl)
          refine lin_det (v := ?_) (F' := ?_) (by rfl) (fun _ => by rfl) ?_ ?_ ?_
          rotate_left 2
          focus (intro xs X hX hdep; clear hdep; (try dsimp only); go_simp; (try (first | with_reducible rfl | exact ⟨rfl, rfl⟩ | (fail))))
          focus (intro xs; (try simp only [Act.put, List.setIfInBounds_toArray, List.set_cons_zero, List.set_cons_succ, Nat.reduceAdd]); rfl)
          refine lin_det (v := ?_) (F' := ?_) (by rfl) (fun _ => by rfl) ?_ ?_ ?_
          rotate_left 2
          focus (intro xs X hX hdep; clear hdep; (try dsimp only); go_simp; (try (first | with_reducible rfl | exact ⟨rfl, rfl⟩ | (fail))))
          focus (intro xs; (try simp only [Act.put, List.setIfInBounds_toArray, List.set_cons_zero, List.set_cons_succ, Nat.reduceAdd]); rfl)
          intro xs w14 hM14 hf hfr hfb
          clear hf hfr hfb
          have hL14 := Later.trans hL13 hM14
          go_wp2_with fail
          go_ret
          exact ⟨rfl, Later.trans hL0 hL14⟩
end Go.Proofs.Ytjilckjhdlabaaa
