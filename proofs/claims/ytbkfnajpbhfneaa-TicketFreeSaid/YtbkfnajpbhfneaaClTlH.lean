/- The law TicketFree: walk. -/
import Derived.Test.YtbkfnajpbhfneaaPart10
import Derived.Test.YtbkfnajpbhfneaaPart11
set_option linter.unusedSimpArgs false
set_option linter.unusedVariables false
namespace Go.Proofs.Ytbkfnajpbhfneaa
open Go Go.RowKit

theorem FreeR_eq {A1 A2 A3 : Option Addr} {n1 k1 n2 k2 n3 k3 : Nat} {c : Hou} {Al : Option Addr} {nl kl : Nat} {ll : List (List Int)} {t : Int} {r1 r2 : Int} (w : World) (hc : CV w c A1 n1 A2 n2 A3 n3) (hl : RRI w Al nl ll) (ok : OkH c) (hd : ∀ d ∈ ll, IsErr c d) (hn : nl ≤ 1000000) (hv : bR (freeF c t) ll = (r1, r2)) :
    Calls Try.prog 41 #[(.agg #[.int .i64 c.hour, .int .i64 c.grace, .slice A1 n1 k1, .slice A2 n2 k2, .slice A3 n3 k3]), .slice Al nl kl, .int .i64 t] w fun e w' => e = .returned (.agg #[.int .i64 r1, .int .i64 r2]) ∧ Later w w' := by
  have := Free_calls (k1 := k1) (k2 := k2) (k3 := k3) (kl := kl) t w hc hl ok hd hn
  rw [hv] at this
  exact this
theorem IsOpenR_eq {A1 A2 A3 : Option Addr} {n1 k1 n2 k2 n3 k3 : Nat} {c : Hou} {tub : Int} {b : Bool} (w : World) (hc : CV w c A1 n1 A2 n2 A3 n3) (hm3 : n3 ≤ 1000) (hm2 : n2 ≤ 1000) (hb : isOpen c tub = b) :
    Calls Try.prog 40 #[(.agg #[.int .i64 c.hour, .int .i64 c.grace, .slice A1 n1 k1, .slice A2 n2 k2, .slice A3 n3 k3]), .int .i64 tub] w fun e w' => e = .returned (.bool b) ∧ Later w w' := by
  rw [← hb]; exact IsOpen_calls w hc hm3 hm2
set_option maxRecDepth 100000 in
set_option maxHeartbeats 4000000 in
theorem lawFree_calls {A1 A2 A3 : Option Addr} {n1 k1 n2 k2 n3 k3 : Nat} {c : Hou} {n : Int} (w : World) (hc : CV w c A1 n1 A2 n2 A3 n3) (b1 : n1 ≤ 9223372036854775807) (b2 : n2 ≤ 9223372036854775807) (b3 : n3 ≤ 9223372036854775807) :
    Calls Try.prog 6 #[(.agg #[.int .i64 c.hour, .int .i64 c.grace, .slice A1 n1 k1, .slice A2 n2 k2, .slice A3 n3 k3]), .int .i64 n] w fun e w' => e = .returned (.bool true) ∧ Later w w' := by
  obtain ⟨w0, hw0⟩ : ∃ W, W = (w.alloc (.cells #[.int .i64 c.hour, .int .i64 c.grace, .slice A1 n1 k1, .slice A2 n2 k2, .slice A3 n3 k3] 26)) := ⟨_, rfl⟩; have hbox : ∀ W, Later w0 W → ∀ i, W.cell? ⟨w.heap.size, i, none⟩ = #[.int .i64 c.hour, .int .i64 c.grace, .slice A1 n1 k1, .slice A2 n2 k2, .slice A3 n3 k3][i]? := (by rw [hw0]; exact box_cells w #[.int .i64 c.hour, .int .i64 c.grace, .slice A1 n1 k1, .slice A2 n2 k2, .slice A3 n3 k3] 26); have hL0 : Later w w0 := (by rw [hw0]; simp); have hc0 := hc.later hL0; have Hw0 := hide hw0; clear hw0
  have hthin := Thin_calls (k1 := k1) (k2 := k2) (k3 := k3) w0 hc0 b1 b2 b3
  cases hth : thinB c with
  | false =>
    rw [hth] at hthin
    have Hthin := hide hthin
    clear hth hthin
    go_enter Try.func6, Try.ntmps6
    go_wp2_with fail
    rw [← Hw0.out]; clear Hw0
    refine Hthin.out.mono ?_
    rintro e w1 ⟨rfl, hL1⟩
    go_wp2_with fail
    refine (awake_calls _).mono ?_
    rintro e w2 ⟨rfl, hL2⟩
    go_wp2_with fail
    go_ret
    exact ⟨rfl, Later.trans hL0 (Later.trans hL1 hL2)⟩
  | true =>
    rw [hth] at hthin
    have hn := And.intro hc.ck.len (And.intro hc.tk.len hc.cp.len)
    unfold thinB at hth
    simp only [Bool.and_eq_true, decide_eq_true_eq] at hth
    have l1 : n1 ≤ 6 := by omega
    have l2 : n2 ≤ 8 := by omega
    have l3 : n3 ≤ 12 := by omega
    have Hthin := hide hthin
    clear hth hthin hn
    obtain ⟨q, hq⟩ : ∃ q, askedErr c (freeDue c n) = q := ⟨_, rfl⟩
    obtain ⟨⟨r1, r2⟩, hgot⟩ : ∃ g, freeOut c n = g := ⟨_, rfl⟩
    have hcl := fun (B1 B2 B3 : Option Addr) (j1 j2 j3 : Nat) (W : World) (h : CV W c B1 n1 B2 n2 B3 n3) => FreeP_calls (k1 := j1) (k2 := j2) (k3 := j3) (tub := n) W h (by omega) (by omega) (by omega)
    rw [hgot, hq] at hcl
    have Hcl := hide hcl
    clear hcl
    by_cases hf0 : fault c = 0
    · have hf := hf0
      have ok := okH_of_fault hf0
      have htr : ∀ d ∈ truths c, IsErr c d := truths_isErr ok
      have hfc := fun (W : World) (h : Later w0 W) => lawFault_calls (k1 := k1) (k2 := k2) (k3 := k3) W (hc0.later h) (by omega) (by omega) (by omega)
      rw [hf] at hfc
      have Hfc := hide hfc
      clear hfc
      cases hi : inB n 0 8 with
      | false =>
        have hd : freeDue c n = 2 := by unfold freeDue; rw [if_pos hi]
        have hq2 : q = 2 := by rw [← hq, hd, askedErr_due hf0 (by omega)]
        obtain ⟨rfl, rfl⟩ : r1 = 0 ∧ r2 = 0 := by
          have h := hgot
          unfold freeOut at h
          rw [if_neg (by rw [hd]; exact askedErr_ne (by omega))] at h
          injection h with e1 e2
          exact ⟨e1.symm, e2.symm⟩
        subst hq2
        obtain ⟨s, hs⟩ : ∃ s, askedErr c 0 = s := ⟨_, rfl⟩
        have Hs := hide hs
        clear hq hgot hd hs hf hf0
        go_enter Try.func6, Try.ntmps6
        go_wp2_with fail
        rw [← Hw0.out]; clear Hw0
        refine Hthin.out.mono ?_
        rintro e w1 ⟨rfl, hL1⟩
        go_wp2_with fail
        refine (lawHouse_calls (k1 := k1) (k2 := k2) (k3 := k3) w1 (hc0.later hL1) (by omega) (by omega) (by omega)).mono ?_
        rintro e w2 ⟨B1, j1, B2, j2, B3, j3, rfl, hL2, hcv, _⟩
        have hL02 := Later.trans hL1 hL2
        go_wp2_with fail
        refine (Hcl.out B1 B2 B3 j1 j2 j3 w2 hcv).mono ?_
        rintro e w3' ⟨rfl, hL3'⟩
        obtain ⟨w3, hw3⟩ : ∃ X, X = w3'.alloc (.cells #[.int .i64 0, .int .i64 0] 42) := ⟨_, rfl⟩
        have kb : Blk w3 w3'.heap.size 42 #[.int .i64 0, .int .i64 0] := by rw [hw3]; exact Blk.new _ _ _
        have hL3 : Later w2 w3 := by rw [hw3]; exact later_alloc hL3' _
        have Hw3 := hide hw3
        obtain ⟨g, hg⟩ : ∃ g, w3'.heap.size = g := ⟨_, rfl⟩
        rw [hg] at kb
        have Hg := hide hg
        have k0 := fun W (h : Later w3 W) => kb.cells_later W h 0
        have k1' := fun W (h : Later w3 W) => kb.cells_later W h 1
        simp only [List.getElem?_toArray, List.getElem?_cons_zero, List.getElem?_cons_succ] at k0 k1'
        clear hw3 kb hg
        have hL03 := Later.trans hL02 hL3
        go_upto_region 4 with fail
        rw [← Hw3.out, Hg.out]
        clear Hw3 Hg
        go_wp2_with fail
        refine (sure_calls (k1 := k1) (k2 := k2) (k3 := k3) w3 (hc0.later hL03) (by omega) (by omega) (by omega)).mono ?_
        rintro e w4 ⟨As, ns, ks, rfl, hL4, hall⟩
        have hL04 := Later.trans hL03 hL4
        rw [Hs.out]
        go_wp2_with fail
        refine (Hfc.out w4 hL04).mono ?_
        rintro e w5 ⟨rfl, hL5⟩
        have hL05 := Later.trans hL04 hL5
        have hL35 := Later.trans hL4 hL5
        go_wp2_with (go_at_call 37; refine (In_calls _ _ _ _).mono ?_; rintro e w' ⟨rfl, rfl⟩)
        refine (awake_calls _).mono ?_
        rintro e w7 ⟨rfl, hL7⟩
        go_wp2_with fail
        go_ret
        exact ⟨rfl, Later.trans hL0 (Later.trans hL05 hL7)⟩
      | true =>
        cases ho : isOpen c n with
        | true =>
          have hd : freeDue c n = 8 := by unfold freeDue; rw [if_neg (by simp [hi]), if_pos ho]
          have hq2 : q = 8 := by rw [← hq, hd, askedErr_due hf0 (by omega)]
          obtain ⟨rfl, rfl⟩ : r1 = 0 ∧ r2 = 0 := by
            have h := hgot
            unfold freeOut at h
            rw [if_neg (by rw [hd]; exact askedErr_ne (by omega))] at h
            injection h with e1 e2
            exact ⟨e1.symm, e2.symm⟩
          subst hq2
          obtain ⟨s, hs⟩ : ∃ s, askedErr c 0 = s := ⟨_, rfl⟩
          have Hs := hide hs
          have Ho := hide ho
          clear hq hgot hd hs hf hf0 ho
          go_enter Try.func6, Try.ntmps6
          go_wp2_with fail
          rw [← Hw0.out]; clear Hw0
          refine Hthin.out.mono ?_
          rintro e w1 ⟨rfl, hL1⟩
          go_wp2_with fail
          refine (lawHouse_calls (k1 := k1) (k2 := k2) (k3 := k3) w1 (hc0.later hL1) (by omega) (by omega) (by omega)).mono ?_
          rintro e w2 ⟨B1, j1, B2, j2, B3, j3, rfl, hL2, hcv, _⟩
          have hL02 := Later.trans hL1 hL2
          go_wp2_with fail
          refine (Hcl.out B1 B2 B3 j1 j2 j3 w2 hcv).mono ?_
          rintro e w3' ⟨rfl, hL3'⟩
          obtain ⟨w3, hw3⟩ : ∃ X, X = w3'.alloc (.cells #[.int .i64 0, .int .i64 0] 42) := ⟨_, rfl⟩
          have kb : Blk w3 w3'.heap.size 42 #[.int .i64 0, .int .i64 0] := by rw [hw3]; exact Blk.new _ _ _
          have hL3 : Later w2 w3 := by rw [hw3]; exact later_alloc hL3' _
          have Hw3 := hide hw3
          obtain ⟨g, hg⟩ : ∃ g, w3'.heap.size = g := ⟨_, rfl⟩
          rw [hg] at kb
          have Hg := hide hg
          have k0 := fun W (h : Later w3 W) => kb.cells_later W h 0
          have k1' := fun W (h : Later w3 W) => kb.cells_later W h 1
          simp only [List.getElem?_toArray, List.getElem?_cons_zero, List.getElem?_cons_succ] at k0 k1'
          clear hw3 kb hg
          have hL03 := Later.trans hL02 hL3
          go_upto_region 4 with fail
          rw [← Hw3.out, Hg.out]
          clear Hw3 Hg
          go_wp2_with fail
          refine (sure_calls (k1 := k1) (k2 := k2) (k3 := k3) w3 (hc0.later hL03) (by omega) (by omega) (by omega)).mono ?_
          rintro e w4 ⟨As, ns, ks, rfl, hL4, hall⟩
          have hL04 := Later.trans hL03 hL4
          rw [Hs.out]
          go_wp2_with fail
          refine (Hfc.out w4 hL04).mono ?_
          rintro e w5 ⟨rfl, hL5⟩
          have hL05 := Later.trans hL04 hL5
          have hL35 := Later.trans hL4 hL5
          go_wp2_with (go_at_call 37; refine (In_calls _ _ _ _).mono ?_; rintro e w' ⟨rfl, rfl⟩)
          refine (IsOpenR_eq (k1 := k1) (k2 := k2) (k3 := k3) w5 (hc0.later hL05) (by omega) (by omega) Ho.out).mono ?_
          rintro e w6 ⟨rfl, hL6⟩
          have hL06 := Later.trans hL05 hL6
          have hL36 := Later.trans hL35 hL6
          go_wp2_with fail
          refine (awake_calls _).mono ?_
          rintro e w7 ⟨rfl, hL7⟩
          go_wp2_with fail
          go_ret
          exact ⟨rfl, Later.trans hL0 (Later.trans hL06 hL7)⟩
        | false =>
          have hd : freeDue c n = 0 := by unfold freeDue; rw [if_neg (by simp [hi]), if_neg (by simp [ho])]
          have Ho := hide ho
          rw [hd] at hq
          by_cases hq0 : q = 0
          · obtain ⟨_, _, htn⟩ := askedErr_zero (hq.trans hq0)
            have hgv : bR (freeF c n) (truths c) = (r1, r2) := by
              rw [← hgot]; unfold freeOut; rw [hd, if_pos (hq.trans hq0)]
              exact (free_bR hf0 htn n).symm
            have hlen : (truths c).length ≤ 2000 := by rw [← (truthsP_perm hf0).length_eq]; exact truthsP_len hf0
            subst hq0
            have Hs := hide hq
            have Hgv := hide hgv
            clear hq hgot hd ho hf hf0 hgv htn
            go_enter Try.func6, Try.ntmps6
            go_wp2_with fail
            rw [← Hw0.out]; clear Hw0
            refine Hthin.out.mono ?_
            rintro e w1 ⟨rfl, hL1⟩
            go_wp2_with fail
            refine (lawHouse_calls (k1 := k1) (k2 := k2) (k3 := k3) w1 (hc0.later hL1) (by omega) (by omega) (by omega)).mono ?_
            rintro e w2 ⟨B1, j1, B2, j2, B3, j3, rfl, hL2, hcv, _⟩
            have hL02 := Later.trans hL1 hL2
            go_wp2_with fail
            refine (Hcl.out B1 B2 B3 j1 j2 j3 w2 hcv).mono ?_
            rintro e w3' ⟨rfl, hL3'⟩
            obtain ⟨w3, hw3⟩ : ∃ X, X = w3'.alloc (.cells #[.int .i64 r1, .int .i64 r2] 42) := ⟨_, rfl⟩
            have kb : Blk w3 w3'.heap.size 42 #[.int .i64 r1, .int .i64 r2] := by rw [hw3]; exact Blk.new _ _ _
            have hL3 : Later w2 w3 := by rw [hw3]; exact later_alloc hL3' _
            have Hw3 := hide hw3
            obtain ⟨g, hg⟩ : ∃ g, w3'.heap.size = g := ⟨_, rfl⟩
            rw [hg] at kb
            have Hg := hide hg
            have k0 := fun W (h : Later w3 W) => kb.cells_later W h 0
            have k1' := fun W (h : Later w3 W) => kb.cells_later W h 1
            simp only [List.getElem?_toArray, List.getElem?_cons_zero, List.getElem?_cons_succ] at k0 k1'
            clear hw3 kb hg
            have hL03 := Later.trans hL02 hL3
            go_upto_region 4 with fail
            rw [← Hw3.out, Hg.out]
            clear Hw3 Hg
            go_wp2_with fail
            refine (sure_calls (k1 := k1) (k2 := k2) (k3 := k3) w3 (hc0.later hL03) (by omega) (by omega) (by omega)).mono ?_
            rintro e w4 ⟨As, ns, ks, rfl, hL4, hall⟩
            have hL04 := Later.trans hL03 hL4
            rw [Hs.out]
            go_wp2_with fail
            refine (Hfc.out w4 hL04).mono ?_
            rintro e w5 ⟨rfl, hL5⟩
            have hL05 := Later.trans hL04 hL5
            have hL35 := Later.trans hL4 hL5
            have hrr := hall Hs.out
            have hnl2 := hrr.len
            have Hrr := hide hrr
            have hns : ns ≤ 1000000 := by omega
            clear hnl2 hrr
            go_wp2_with (go_at_call 37; refine (In_calls _ _ _ _).mono ?_; rintro e w' ⟨rfl, rfl⟩)
            refine (IsOpenR_eq (k1 := k1) (k2 := k2) (k3 := k3) w5 (hc0.later hL05) (by omega) (by omega) Ho.out).mono ?_
            rintro e w6 ⟨rfl, hL6⟩
            have hL06 := Later.trans hL05 hL6
            have hL36 := Later.trans hL35 hL6
            have hbx := fun W (h : Later w6 W) => hbox W (Later.trans hL06 h)
            have k06 := fun W (h : Later w6 W) => k0 W (Later.trans hL36 h)
            have k16 := fun W (h : Later w6 W) => k1' W (Later.trans hL36 h)
            have hL46 := Later.trans hL5 hL6
            have Hfr := hide (fun (W : World) (h : Later w6 W) => FreeR_eq (k1 := k1) (k2 := k2) (k3 := k3) (kl := ks) W (hc0.later (Later.trans hL06 h)) (Hrr.out.later (Later.trans hL46 h)) ok htr hns Hgv.out)
            clear k0 k1' hbox
            go_upto_region 12 with fail
            refine wp_region_ext (w0 := w6) (by kernel_rfl) (by kernel_rfl) (later_refl _) ?_; (repeat (first | go_big_quiet_step ((first | (go_at_call 41; exact calls_ext (by simp) (Hfr.out _ (by simp))) | (go_at_call 28; exact calls_ext (by simp) (lawTo_calls _ _ _)) | (go_at_call 23; exact calls_ext (by simp) (awake_calls _)))) | quiet_step ((first | (go_at_call 41; exact calls_ext (by simp) (Hfr.out _ (by simp))) | (go_at_call 28; exact calls_ext (by simp) (lawTo_calls _ _ _)) | (go_at_call 23; exact calls_ext (by simp) (awake_calls _)))))); refine wpQuiet_nil ?_; rintro w7 ⟨⟨_, hL7⟩, rfl⟩; (try dsimp only)
            go_wp2_with fail
            go_ret
            exact ⟨rfl, Later.trans hL0 (Later.trans hL06 hL7)⟩
          · have hqb : (q != 0) = true := by simpa using hq0
            have hqb2 : (q == 0) = false := by simpa using hq0
            obtain ⟨rfl, rfl⟩ : r1 = 0 ∧ r2 = 0 := by
              have h := hgot
              unfold freeOut at h
              rw [if_neg (by rw [hd, hq]; exact hq0)] at h
              injection h with e1 e2
              exact ⟨e1.symm, e2.symm⟩
            have Hs := hide hq
            clear hq hgot hd ho hf hf0
            go_enter Try.func6, Try.ntmps6
            go_wp2_with fail
            rw [← Hw0.out]; clear Hw0
            refine Hthin.out.mono ?_
            rintro e w1 ⟨rfl, hL1⟩
            go_wp2_with fail
            refine (lawHouse_calls (k1 := k1) (k2 := k2) (k3 := k3) w1 (hc0.later hL1) (by omega) (by omega) (by omega)).mono ?_
            rintro e w2 ⟨B1, j1, B2, j2, B3, j3, rfl, hL2, hcv, _⟩
            have hL02 := Later.trans hL1 hL2
            go_wp2_with fail
            refine (Hcl.out B1 B2 B3 j1 j2 j3 w2 hcv).mono ?_
            rintro e w3' ⟨rfl, hL3'⟩
            obtain ⟨w3, hw3⟩ : ∃ X, X = w3'.alloc (.cells #[.int .i64 0, .int .i64 0] 42) := ⟨_, rfl⟩
            have kb : Blk w3 w3'.heap.size 42 #[.int .i64 0, .int .i64 0] := by rw [hw3]; exact Blk.new _ _ _
            have hL3 : Later w2 w3 := by rw [hw3]; exact later_alloc hL3' _
            have Hw3 := hide hw3
            obtain ⟨g, hg⟩ : ∃ g, w3'.heap.size = g := ⟨_, rfl⟩
            rw [hg] at kb
            have Hg := hide hg
            have k0 := fun W (h : Later w3 W) => kb.cells_later W h 0
            have k1' := fun W (h : Later w3 W) => kb.cells_later W h 1
            simp only [List.getElem?_toArray, List.getElem?_cons_zero, List.getElem?_cons_succ] at k0 k1'
            clear hw3 kb hg
            have hL03 := Later.trans hL02 hL3
            go_upto_region 4 with fail
            rw [← Hw3.out, Hg.out]
            clear Hw3 Hg
            go_wp2_with fail
            refine (sure_calls (k1 := k1) (k2 := k2) (k3 := k3) w3 (hc0.later hL03) (by omega) (by omega) (by omega)).mono ?_
            rintro e w4 ⟨As, ns, ks, rfl, hL4, hall⟩
            have hL04 := Later.trans hL03 hL4
            rw [Hs.out]
            go_wp2_with fail
            refine (Hfc.out w4 hL04).mono ?_
            rintro e w5 ⟨rfl, hL5⟩
            have hL05 := Later.trans hL04 hL5
            have hL35 := Later.trans hL4 hL5
            go_wp2_with (go_at_call 37; refine (In_calls _ _ _ _).mono ?_; rintro e w' ⟨rfl, rfl⟩)
            refine (IsOpenR_eq (k1 := k1) (k2 := k2) (k3 := k3) w5 (hc0.later hL05) (by omega) (by omega) Ho.out).mono ?_
            rintro e w6 ⟨rfl, hL6⟩
            have hL06 := Later.trans hL05 hL6
            have hL36 := Later.trans hL35 hL6
            go_wp2_with fail
            refine (awake_calls _).mono ?_
            rintro e w7 ⟨rfl, hL7⟩
            go_wp2_with fail
            go_ret
            exact ⟨rfl, Later.trans hL0 (Later.trans hL06 hL7)⟩
    · obtain ⟨f, hf⟩ : ∃ f, fault c = f := ⟨_, rfl⟩
      have hfc := fun (W : World) (h : Later w0 W) => lawFault_calls (k1 := k1) (k2 := k2) (k3 := k3) W (hc0.later h) (by omega) (by omega) (by omega)
      rw [hf] at hfc
      have Hfc := hide hfc
      clear hfc
      have hq2 : q = f := by rw [← hq, askedErr_bad hf0, hf]
      have hs : askedErr c 0 = q := by rw [askedErr_bad hf0, hf, hq2]
      obtain ⟨rfl, rfl⟩ : r1 = 0 ∧ r2 = 0 := by
        have h := hgot
        unfold freeOut at h
        rw [if_neg (by rw [askedErr_bad hf0]; exact hf0)] at h
        injection h with e1 e2
        exact ⟨e1.symm, e2.symm⟩
      rw [hf] at hf0
      subst hq2
      have hqb : (q != 0) = true := by simpa using hf0
      have hqb2 : (q == 0) = false := by simpa using hf0
      have Hs := hide hs
      clear hq hgot hs hf
      go_enter Try.func6, Try.ntmps6
      go_wp2_with fail
      rw [← Hw0.out]; clear Hw0
      refine Hthin.out.mono ?_
      rintro e w1 ⟨rfl, hL1⟩
      go_wp2_with fail
      refine (lawHouse_calls (k1 := k1) (k2 := k2) (k3 := k3) w1 (hc0.later hL1) (by omega) (by omega) (by omega)).mono ?_
      rintro e w2 ⟨B1, j1, B2, j2, B3, j3, rfl, hL2, hcv, _⟩
      have hL02 := Later.trans hL1 hL2
      go_wp2_with fail
      refine (Hcl.out B1 B2 B3 j1 j2 j3 w2 hcv).mono ?_
      rintro e w3' ⟨rfl, hL3'⟩
      obtain ⟨w3, hw3⟩ : ∃ X, X = w3'.alloc (.cells #[.int .i64 0, .int .i64 0] 42) := ⟨_, rfl⟩
      have kb : Blk w3 w3'.heap.size 42 #[.int .i64 0, .int .i64 0] := by rw [hw3]; exact Blk.new _ _ _
      have hL3 : Later w2 w3 := by rw [hw3]; exact later_alloc hL3' _
      have Hw3 := hide hw3
      obtain ⟨g, hg⟩ : ∃ g, w3'.heap.size = g := ⟨_, rfl⟩
      rw [hg] at kb
      have Hg := hide hg
      have k0 := fun W (h : Later w3 W) => kb.cells_later W h 0
      have k1' := fun W (h : Later w3 W) => kb.cells_later W h 1
      simp only [List.getElem?_toArray, List.getElem?_cons_zero, List.getElem?_cons_succ] at k0 k1'
      clear hw3 kb hg
      have hL03 := Later.trans hL02 hL3
      go_upto_region 4 with fail
      rw [← Hw3.out, Hg.out]
      clear Hw3 Hg
      go_wp2_with fail
      refine (sure_calls (k1 := k1) (k2 := k2) (k3 := k3) w3 (hc0.later hL03) (by omega) (by omega) (by omega)).mono ?_
      rintro e w4 ⟨As, ns, ks, rfl, hL4, hall⟩
      have hL04 := Later.trans hL03 hL4
      rw [Hs.out]
      go_wp2_with fail
      refine (Hfc.out w4 hL04).mono ?_
      rintro e w5 ⟨rfl, hL5⟩
      have hL05 := Later.trans hL04 hL5
      have hL35 := Later.trans hL4 hL5
      go_wp2_with fail
      refine (awake_calls _).mono ?_
      rintro e w7 ⟨rfl, hL7⟩
      go_wp2_with fail
      go_ret
      exact ⟨rfl, Later.trans hL0 (Later.trans hL05 hL7)⟩
end Go.Proofs.Ytbkfnajpbhfneaa
