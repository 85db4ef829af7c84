/- ClosetGrace: the walk. -/
import Derived.Test.YtjilckjhdlabaaaPart16
set_option linter.unusedSimpArgs false
set_option linter.unusedVariables false
namespace Go.Proofs.Ytjilckjhdlabaaa
open Go Go.RowKit
attribute [local go_sem] later_alloc2 later_alloc3 later_alloc4

set_option maxRecDepth 100000 in
set_option maxHeartbeats 16000000 in
theorem lawGrace_calls {A1 A2 A3 : Option Addr} {n1 k1 n2 k2 n3 k3 : Nat} {c : Clo} {Aw : Option Addr} {nw kw : Nat} {l : List Nat} {x y : Nat} (w : World) (hc : CV w c A1 n1 A2 n2 A3 n3) (hcl : i64 c.closets) (b1 : n1 ≤ 9223372036854775807) (b2 : n2 ≤ 9223372036854775807) (b3 : n3 ≤ 9223372036854775807)
    (hw : RW w Aw nw l) (hnw : nw ≤ 9223372036854775807) (hx : x < 256) (hy : y < 256) :
    Calls Try.prog 8 #[(.agg #[.int .i64 c.closets, .int .i64 c.close, .slice A1 n1 k1, .slice A2 n2 k2, .slice A3 n3 k3]), .slice Aw nw kw, .int .u8 x, .int .u8 y] w fun e w' => e = .returned (.bool true) ∧ Later w w' := by
  obtain ⟨w0, hw0⟩ : ∃ W, W = (w.alloc (.cells #[.int .i64 c.closets, .int .i64 c.close, .slice A1 n1 k1, .slice A2 n2 k2, .slice A3 n3 k3] 26)) := ⟨_, rfl⟩; have hbox : ∀ W, Later w0 W → ∀ i, W.cell? ⟨w.heap.size, i, none⟩ = #[.int .i64 c.closets, .int .i64 c.close, .slice A1 n1 k1, .slice A2 n2 k2, .slice A3 n3 k3][i]? := (by rw [hw0]; exact box_cells w #[.int .i64 c.closets, .int .i64 c.close, .slice A1 n1 k1, .slice A2 n2 k2, .slice A3 n3 k3] 26); have hL0 : Later w w0 := (by rw [hw0]; simp); have hc0 := hc.later hL0; have Hw0 := hide hw0; clear hw0
  have hw0' := hw.later hL0
  have hrdy := ready_calls (k1 := k1) (k2 := k2) (k3 := k3) w0 hc0 hcl b1 b2 b3
  cases hth : readyB c with
  | false =>
    rw [hth] at hrdy
    have Hrdy := hide hrdy
    clear hth hrdy
    go_enter Try.func8, Try.ntmps8
    go_wp2_with fail
    rw [← Hw0.out]; clear Hw0
    refine Hrdy.out.mono ?_
    rintro e w1 ⟨rfl, hL1⟩
    go_wp2_with fail
    refine (awake_calls _).mono ?_
    rintro e w2 ⟨rfl, hL2⟩
    go_wp2_with fail
    go_ret
    exact ⟨rfl, Later.trans hL0 (Later.trans hL1 hL2)⟩
  | true =>
    rw [hth] at hrdy
    have hn1 := hc.hs.len
    have hn2 := hc.hu.len
    have hn3 := hc.lk.len
    have hf := (readyB_true hth).2
    have ok := okC_of_fault hf
    have l1 : n1 ≤ 4 := by have := ok.len; omega
    have l2 : n2 ≤ 4 := by have := ok.len; have := ok.hung.len; omega
    have l3 : n3 ≤ 5 := by have := ok.nlooks; omega
    have Hn1 := hide hn1
    have Hn2 := hide hn2
    have Hn3 := hide hn3
    have Hf := hide hf
    have Hrdy := hide hrdy
    clear hth hrdy hn1 hn2 hn3 hf
    by_cases hn0 : n1 = 0
    · have hz : ((n1 : Int) == 0) = true := by simp [hn0]
      clear hn0
      go_enter Try.func8, Try.ntmps8
      go_wp2_with fail
      rw [← Hw0.out]; clear Hw0
      refine Hrdy.out.mono ?_
      rintro e w1 ⟨rfl, hL1⟩
      go_wp2_with fail
      refine (awake_calls _).mono ?_
      rintro e wa ⟨rfl, hLa⟩
      go_wp2_with fail
      go_ret
      exact ⟨rfl, Later.trans hL0 (Later.trans hL1 hLa)⟩
    · have hz : ((n1 : Int) == 0) = false := by simp; omega
      have hz1 : ¬ (n1 : Int) = 0 := by omega
      obtain ⟨k, hk⟩ : ∃ k, x % n1 = k := ⟨_, rfl⟩
      have hkn : k < n1 := by rw [← hk]; exact Nat.mod_lt _ (by omega)
      have hz2 : (x : Int).tmod (n1 : Int) = (k : Int) := by rw [← hk, Int.tmod_eq_emod_of_nonneg (by omega)]; norm_cast
      have hz3 : IntKind.i64.wrap (k : Int) = (k : Int) := IntWalk.i64_in _ (by omega)
      have hz4 : (x : Int) % (n1 : Int) = (k : Int) := by rw [← hk]; norm_cast
      have hz5 : ¬ n1 = 0 := hn0
      have hz6 : IntKind.i64.wrap (x : Int) = (x : Int) := IntWalk.i64_in _ (by omega)
      have hmr := (fault_zero Hf.out).2.2.2.2.2.2
      obtain ⟨ad, HA1⟩ : ∃ ad, Hid (A1 = some ad) := by obtain ⟨ad, e, _⟩ := hc.hs.2 (by omega); exact ⟨ad, hide e⟩
      have hl2 : (horsesV c.horses).length = n1 * 4 := by rw [horsesV_length, ← Hn1.out]
      have hone := rh_one c.horses
      have Hmr := hide hmr
      clear hn0 hk hmr
      go_enter Try.func8, Try.ntmps8
      go_wp2_with fail
      rw [← Hw0.out]; clear Hw0
      refine Hrdy.out.mono ?_
      rintro e w1 ⟨rfl, hL1⟩
      have hS1 : Later w0 w1.drew := later_drew hL1
      go_wp2_with fail
      go_region_held3 (fun W => Later w0 W) ((((repeat (first | assumption | refine later_drew ?_ | refine later_alloc ?_ _ | refine later_set ?_ _ (Nat.le_add_right _ _) _ | refine later_set ?_ _ (Nat.le_refl _) _)); done)))
        (first | (go_at_call 42; go_must (refine (Placed_calls (k1 := k1) (k2 := k2) (k3 := k3) (kw := kw) _ (hc0.later hS1) ok (hw0'.later hS1) hnw).mono ?_; rintro e w2 ⟨Ap, kp, p, rfl, hL2, hrp, hkp, hpl⟩; have hL02 := Later.trans hS1 hL2)))
      clear hz2 hz3 hz4 hz5 hz6
      rw [← Hn1.out] at hrp hkp ⊢
      have hcells9 := rh_cells HA1.out ((hc0.later (later_alloc (later_alloc hL02 (.cells #[.int .i64 c.closets, .int .i64 c.close, .slice A1 n1 k1, .slice A2 n2 k2, .slice A3 n3 k3] 26)) (.cells #[] 68))).hs)
      have hb9 := Blk.new w2 26 #[.int .i64 c.closets, .int .i64 c.close, .slice A1 n1 k1, .slice A2 n2 k2, .slice A3 n3 k3]
      have hL39 : Later w0 (w2.alloc (.cells #[.int .i64 c.closets, .int .i64 c.close, .slice A1 n1 k1, .slice A2 n2 k2, .slice A3 n3 k3] 26)) := later_alloc hL02 _
      have hrow9 := World.ownsRow_made (base := w0.heap.size) (e := 68) (size := 4) (w2.alloc (.cells #[.int .i64 c.closets, .int .i64 c.close, .slice A1 n1 k1, .slice A2 n2 k2, .slice A3 n3 k3] 26)) #[] 0 hL39.size (by unfold maxLen; omega) rfl
      have hz39 : (w2.alloc (.cells #[.int .i64 c.closets, .int .i64 c.close, .slice A1 n1 k1, .slice A2 n2 k2, .slice A3 n3 k3] 26)).heap.size = w2.heap.size + 1 := by simp
      rw [hz39] at hrow9
      have Hz39 := hide hz39
      have Hrow9 := hide hrow9
      have Hcells9 := hide hcells9
      have HL39 := hide hL39
      have Hb9 := hide hb9
      clear hz39 hrow9 hcells9 hL39 hb9
      go_wp2_with (at_builtin; go_loud (refine appG rfl w0.heap.size _ _ 22 rfl 68 (.agg #[.int .i64 0, .int .i64 0, .int .i64 0, .int .i64 0]) 4 32 Try.underlying22 rhorse_info rfl (by omega) _ 0 [] rfl (later_alloc HL39.out (.cells #[] 68)).size Hrow9.out ad n1 k1 (horsesV c.horses) (slice_eq HA1.out rfl) hl2 Hcells9.out hone (by omega) (by omega) (by omega) ?_))
      intro v9 w9 hap9
      have hL9a : Later w2 w9 := Later.grown (later_alloc (later_alloc (later_refl w2) (.cells #[.int .i64 c.closets, .int .i64 c.close, .slice A1 n1 k1, .slice A2 n2 k2, .slice A3 n3 k3] 26)) (.cells #[] 68)) hap9.grown (fun g hg => by injection hg with hg; have e2 : w2.heap.size + 1 = g := hg; omega)
      have hblt9 := Hb9.out.lt
      have hb9b := Blk.of_eq (hap9.grown.block _ (Nat.lt_of_lt_of_le hblt9 (by simp)) (fun e => by injection e with e; (first | (have e2 : w2.heap.size + 1 = w2.heap.size := e; omega) | (have e2 : w2.heap.size = w2.heap.size + 1 := e; omega)))) (Hb9.out.alloc (.cells #[] 68))
      obtain ⟨gh9, kh9, rfl⟩ : ∃ g k, v9 = .slice (some ⟨g, 0, none⟩) n1 k := own_form (by simpa using hap9.own) (by omega)
      have hox9 : w9.ownsRow w0.heap.size 68 4 (.slice (some ⟨gh9, 0, none⟩) n1 kh9) n1 (horsesV c.horses) := by simpa using hap9.own
      have hgn9 : w2.heap.size < gh9 := by
        rcases hap9.at_ with e | e
        · injection e with e; have e2 : gh9 = w2.heap.size + 1 := e; omega
        · injection e with e; have e2 : gh9 = _ := e; rw [World.size_alloc, World.size_alloc] at e2; omega
      clear hap9 hblt9
      clear Hrow9 Hcells9 HL39 Hz39 Hb9
      generalize hg9 : w2.heap.size = g9 at *
      have hlo9 : w2.heap.size ≤ g9 := Nat.le_of_eq hg9
      have hlh9 : w2.heap.size ≤ gh9 := by omega
      have hgn9 : g9 ≠ gh9 := by omega
      have Hg9 := hide hg9
      clear hg9
      have hx0 := hb9b.cell 0
      have hx1 := hb9b.cell 1
      have hx2 := hb9b.cell 2
      have hx3 := hb9b.cell 3
      have hx4 := hb9b.cell 4
      have hf2 := hb9b.frozen 2
      have hf1 := hb9b.frozen 1
      simp only [List.getElem?_toArray, List.getElem?_cons_zero, List.getElem?_cons_succ] at hx0 hx1 hx2 hx3 hx4
      go_upto_if 42 with fail
      obtain ⟨wA, hwA⟩ : ∃ W, W = w9.setCell ⟨g9, 2, none⟩ (.slice (some ⟨gh9, 0, none⟩) n1 kh9) := ⟨_, rfl⟩
      have hbA : Blk wA g9 26 #[.int .i64 c.closets, .int .i64 c.close, .slice (some ⟨gh9, 0, none⟩) n1 kh9, .slice A2 n2 k2, .slice A3 n3 k3] := by rw [hwA]; exact hb9b.set_ 2 _
      have hLA : Later w2 wA := by rw [hwA]; exact later_set hL9a _ hlo9 _
      have hoA : wA.ownsRow w0.heap.size 68 4 (.slice (some ⟨gh9, 0, none⟩) n1 kh9) n1 (horsesV c.horses) := by rw [hwA]; exact own_block hox9 (fun g hg => Below.heap_setCell w9 _ _ g (by injection hg with hg; show g ≠ g9; exact fun e => hgn9 (e.symm.trans hg.symm)))
      rw [← hwA]
      clear hwA hb9b hox9 hL9a hx0 hx1 hx2 hx3 hx4 hf2 hf1
      go_cut [] (fun (W : World) => ∃ x : Clo, Later w2 W ∧ CV W x (some ⟨gh9, 0, none⟩) n1 A2 n2 A3 n3 ∧ Blk W g9 26 #[.int .i64 x.closets, .int .i64 x.close, .slice (some ⟨gh9, 0, none⟩) n1 kh9, .slice A2 n2 k2, .slice A3 n3 k3] ∧ x.closets = c.closets ∧ (truthsP c ≠ [] → askedErr x true = 0 ∧ Wid c x ∧ (∀ p, IsPl c p → IsPl x p) ∧ x.horses.length = c.horses.length))
      case first =>
        have hbx := fun W (hW : Later wA W) => hbox W (Later.trans hL02 (Later.trans hLA hW))
        have hbxA := fun W (hW : Later wA W) => (hbA.later hW).cell
        have hxA0 := fun W hW => hbxA W hW 0
        have hxA1 := fun W hW => hbxA W hW 1
        have hxA2 := fun W hW => hbxA W hW 2
        have hxA3 := fun W hW => hbxA W hW 3
        have hxA4 := fun W hW => hbxA W hW 4
        simp only [List.getElem?_toArray, List.getElem?_cons_zero, List.getElem?_cons_succ] at hxA0 hxA1 hxA2 hxA3 hxA4
        have hf1 := hbA.frozen 1
        have hcA := hc0.later (Later.trans hL02 hLA)
        have hS : wA.heap.size ≤ wA.heap.size := Nat.le_refl _
        obtain ⟨t, ht⟩ : ∃ t : Int, (y : Int) / 2 % 8 = t := ⟨_, rfl⟩
        have ht0 : 0 ≤ t ∧ t ≤ 7 := by omega
        have hclo := ok.close
        clear hbox hbxA
        by_cases hy2 : y % 2 = 0
        · have hy3 : (y : Int) % 2 = 0 := by omega
          obtain ⟨b, o, yk, hAe, hbl, hyk, hk0, hk1, hk2, hk3⟩ := hcA.hs.get hkn
          have hgy := ok.horse yk (List.mem_of_getElem? hyk)
          have hwt : wrap64 (yk.grace + t) = yk.grace + t := by unfold wrap64; omega
          obtain ⟨m, hm⟩ : ∃ m, min 30 (yk.grace + t) = m := ⟨_, rfl⟩
          have law := fun hne => grace_law Hf.out hne hyk (g := t) ht0.1
          rw [hm] at law
          have Hlaw := hide law
          have Hyk := hide hyk
          have Hm := hide hm
          clear law hyk hm
          subst hAe
          go_wp2_with fail
          refine wp_region_ext_tail (w0 := wA) 15 (by kernel_rfl) (by kernel_rfl) (later_refl _) ?_; simp only [List.take_succ_cons, List.take_zero, List.drop_succ_cons, List.drop_zero]; (repeat (first | go_big_quiet_step ((fail)) | quiet_step ((fail)))); refine wpQuiet_nil ?_; rintro w1 ⟨⟨_, hL1⟩, rfl⟩; (try dsimp only)
          have hox := own_later hoA hL1
          have hst := fun u => hox.stored (k * 4 + 3) u
          have hxc := hox.cellAt (k * 4 + 3) (by omega)
          rw [(horsesV_at Hyk.out).2.2.2] at hxc
          have hxf := hox.frozenAt (k * 4 + 3)
          by_cases hlt : yk.grace + t < 30
          · obtain rfl : m = yk.grace + t := by have := Hm.out; omega
            go_wp2_with fail
            go_meet
            case rel =>
              have hL2 := Later.trans hLA hL1
              have hfin : ∀ u, Later w2 (w1.setCell ⟨gh9, k * 4 + 3, none⟩ u) := fun u => later_set hL2 _ hlh9 u
              have hf0 := fun u => Later.trans hL02 (hfin u)
              refine ⟨setH c k { yk with grace := yk.grace + t }, hfin _, ⟨?_, (hc0.later (hf0 _)).hu, (hc0.later (hf0 _)).lk⟩, (hbA.later hL1).far hgn9 _, rfl, Hlaw.out⟩
              have h1 := (hst (.int .i64 (yk.grace + t))).1
              rw [← horsesV_grace Hyk.out (yk.grace + t)] at h1
              exact Reads.of_own h1
          · obtain rfl : m = 30 := by have := Hm.out; omega
            go_wp2_with fail
            go_meet
            case rel =>
              have hL2 := Later.trans hLA hL1
              have hfin : ∀ u, Later w2 (w1.setCell ⟨gh9, k * 4 + 3, none⟩ u) := fun u => later_set hL2 _ hlh9 u
              have hf0 := fun u => Later.trans hL02 (hfin u)
              refine ⟨setH c k { yk with grace := 30 }, hfin _, ⟨?_, (hc0.later (hf0 _)).hu, (hc0.later (hf0 _)).lk⟩, (hbA.later hL1).far hgn9 _, rfl, Hlaw.out⟩
              have h1 := (hst (.int .i64 30)).1
              rw [← horsesV_grace Hyk.out 30] at h1
              exact Reads.of_own h1
        · have hy3 : (y : Int) % 2 = 1 := by omega
          have hwt : wrap64 (c.close + t) = c.close + t := by unfold wrap64; omega
          obtain ⟨m, hm⟩ : ∃ m, min 99 (c.close + t) = m := ⟨_, rfl⟩
          have law := fun hne => close_law Hf.out hne (g := t) ht0.1
          rw [hm] at law
          have Hlaw := hide law
          have Hm := hide hm
          clear law hm
          by_cases hlt : c.close + t < 99
          · obtain rfl : m = c.close + t := by have := Hm.out; omega
            go_wp2_with fail
            go_meet
            case rel =>
              have hfin : ∀ u, Later w2 (wA.setCell ⟨g9, 1, none⟩ u) := fun u => later_set hLA _ hlo9 u
              have hf0 := fun u => Later.trans hL02 (hfin u)
              have h1 := own_block hoA (W' := wA.setCell ⟨g9, 1, none⟩ (.int .i64 (c.close + t))) (fun g hg => Below.heap_setCell wA _ _ g (by injection hg with hg; show g ≠ g9; exact fun e => hgn9 (e.symm.trans hg.symm)))
              exact ⟨{ c with close := (c.close + t) }, hfin _, ⟨Reads.of_own h1, (hc0.later (hf0 _)).hu, (hc0.later (hf0 _)).lk⟩, hbA.set_ 1 _, rfl, fun hne => ⟨(Hlaw.out hne).1, (Hlaw.out hne).2.1, (Hlaw.out hne).2.2.1, rfl⟩⟩
          · obtain rfl : m = 99 := by have := Hm.out; omega
            go_wp2_with fail
            go_meet
            case rel =>
              have hfin : ∀ u, Later w2 (wA.setCell ⟨g9, 1, none⟩ u) := fun u => later_set hLA _ hlo9 u
              have hf0 := fun u => Later.trans hL02 (hfin u)
              have h1 := own_block hoA (W' := wA.setCell ⟨g9, 1, none⟩ (.int .i64 99)) (fun g hg => Below.heap_setCell wA _ _ g (by injection hg with hg; show g ≠ g9; exact fun e => hgn9 (e.symm.trans hg.symm)))
              exact ⟨{ c with close := 99 }, hfin _, ⟨Reads.of_own h1, (hc0.later (hf0 _)).hu, (hc0.later (hf0 _)).lk⟩, hbA.set_ 1 _, rfl, fun hne => ⟨(Hlaw.out hne).1, (Hlaw.out hne).2.1, (Hlaw.out hne).2.2.1, rfl⟩⟩
      case rest =>
        obtain ⟨x, hL2x, hcx, hbx, hxl, hlaw⟩ := hcut
        have hLx := Later.trans hL02 hL2x
        have htc := fun (W : World) (h : Later w0 W) => Truths_calls (k1 := k1) (k2 := k2) (k3 := k3) W (hc0.later h) ok Hmr.out
        have hboxc := fun W (hW : Later wc W) => hbox W (Later.trans hLx hW)
        clear hbA hoA hLA
        go_wp2_with fail
        refine (htc wc hLx).mono ?_
        rintro e w5 ⟨At, nt, kt, rfl, hM5, hrt⟩
        have hL5 := Later.trans hLx hM5
        have hnt := hrt.len
        by_cases hne : truthsP c = []
        · have htr := (truths_nil Hf.out).2 hne
          rw [htr] at hnt
          simp only [List.length_nil] at hnt
          subst nt
          have hbo : (bestOut c).2.2 = 11 := by
            have e : askedErr c true = 11 := by unfold askedErr; rw [if_neg (by simp [Hf.out]), if_neg (by simp), if_pos hne]
            unfold bestOut; rw [if_pos (by rw [e]; decide), e]
          have hbp := fun (B1 B2 B3 : Option Addr) (j1 j2 j3 : Nat) (W : World) (h : CV W c B1 n1 B2 n2 B3 n3) (h2 : n2 ≤ j2) =>
            BestP_calls (k1 := j1) (k2 := j2) (k3 := j3) W h hcl (by omega) (by omega) (by omega) h2
          unfold BestPost at hbp
          rw [hbo] at hbp
          have Hbp := hide hbp
          clear hbp hbo htr hne hrt hlaw hbx hcx
          go_wp2_with fail
          refine (lawCloset_calls (k1 := k1) (k2 := k2) (k3 := k3) w5 (hc0.later hL5) (by omega) (by omega) (by omega)).mono ?_
          rintro e wa ⟨B1a, j1a, B2a, j2a, B3a, j3a, rfl, hMa, hca, hj1a, hj2a, hj3a⟩
          have hLa := Later.trans hL5 hMa
          go_wp2_with fail
          refine (Hbp.out _ _ _ _ _ _ wa hca hj2a).mono ?_
          rintro e w6 ⟨Ax, nx, kx, rfl, hM6, _⟩
          have hL6 := Later.trans hLa hM6
          go_wp2_with fail
          refine (awake_calls _).mono ?_
          rintro e wa ⟨rfl, hLa⟩
          go_wp2_with fail
          go_ret
          exact ⟨rfl, Later.trans hL0 (Later.trans hL6 hLa)⟩
        · have htr : truths c ≠ [] := fun e => hne ((truths_nil Hf.out).1 e)
          have hn0 : nt ≠ 0 := fun e => htr (List.eq_nil_of_length_eq_zero (by omega))
          have hnb : ((nt : Int) == 0) = false := by simp; omega
          obtain ⟨ex, hwid, hpx, hlen⟩ := hlaw hne
          have ec : askedErr c true = 0 := by unfold askedErr; rw [if_neg (by simp [Hf.out]), if_neg (by simp), if_neg hne]
          have hkp := hwid.kept hpl
          have hsn := hwid.sooner hlen hpx ec ex
          have hbx5 := hbx.later hM5
          have hcx5 := hcx.later hM5
          have hplx := hpx p hpl
          have hxl2 : i64 x.closets := by rw [hxl]; exact hcl
          have hrp5 := hrp.later (Later.trans hL2x hM5)
          have hkc := fun (W : World) (hW : Later w5 W) => kept_calls (k1 := k1) (k2 := k2) (k3 := k3) (i1 := kh9) (i2 := k2) (i3 := k3) (kp := kp) W (hc0.later (Later.trans hL5 hW)) hcl (hcx5.later hW) hxl2 ec ex (hrp5.later hW) hpl hplx hkp
          have hsc := fun (W : World) (hW : Later w5 W) => sooner_calls (k1 := k1) (k2 := k2) (k3 := k3) (i1 := kh9) (i2 := k2) (i3 := k3) W (hc0.later (Later.trans hL5 hW)) hcl (hcx5.later hW) hxl2 (by omega) (by omega) (by omega) (by omega) (by omega) (by omega) hsn
          have hbox5 := fun W (hW : Later w5 W) => hboxc W (Later.trans hM5 hW)
          have hy0 := fun W (hW : Later w5 W) => hbx5.cells_later W hW 0
          have hy1 := fun W (hW : Later w5 W) => hbx5.cells_later W hW 1
          have hy2 := fun W (hW : Later w5 W) => hbx5.cells_later W hW 2
          have hy3 := fun W (hW : Later w5 W) => hbx5.cells_later W hW 3
          have hy4 := fun W (hW : Later w5 W) => hbx5.cells_later W hW 4
          simp only [List.getElem?_toArray, List.getElem?_cons_zero, List.getElem?_cons_succ] at hy0 hy1 hy2 hy3 hy4
          have Hkc := hide hkc
          have Hsc := hide hsc
          have hK5 : Later w5 w5 := later_refl _
          clear hkc hsc hn0 hnt hrt htr hwid hkp hsn hboxc hlaw hxl hlen
          go_wp2_with fail
          refine (Hkc.out w5 (later_refl _)).mono ?_
          rintro e w6 ⟨rfl, hM6⟩
          go_wp2_with fail
          refine (Hsc.out w6 hM6).mono ?_
          rintro e w7 ⟨rfl, hM7⟩
          have hL7 := Later.trans hL5 (Later.trans hM6 hM7)
          go_wp2_with fail
          refine (awake_calls _).mono ?_
          rintro e wa ⟨rfl, hLa⟩
          go_wp2_with fail
          go_ret
          exact ⟨rfl, Later.trans hL0 (Later.trans hL7 hLa)⟩
end Go.Proofs.Ytjilckjhdlabaaa
