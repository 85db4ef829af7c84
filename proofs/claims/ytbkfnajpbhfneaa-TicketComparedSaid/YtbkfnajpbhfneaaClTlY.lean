/- The law TicketCompared: walk. -/
import Derived.Test.YtbkfnajpbhfneaaPart14
import Derived.Test.YtbkfnajpbhfneaaPart15
import Derived.Test.YtbkfnajpbhfneaaPart12
import Derived.RegionTactic
import Derived.Deep.MidRow
set_option linter.unusedSimpArgs false
set_option linter.unusedVariables false
namespace Go.Proofs.Ytbkfnajpbhfneaa
open Go Go.RowKit
attribute [local go_sem] later_alloc2 later_alloc3 later_alloc4

set_option maxRecDepth 100000 in
set_option maxHeartbeats 16000000 in
theorem lawCompared_calls {A1 A2 A3 : Option Addr} {n1 k1 n2 k2 n3 k3 : Nat} {c : Hou} {x : Nat} (w : World) (hc : CV w c A1 n1 A2 n2 A3 n3) (b1 : n1 ≤ 9223372036854775807) (b2 : n2 ≤ 9223372036854775807) (b3 : n3 ≤ 9223372036854775807) (hx : x < 256) :
    Calls Try.prog 15 #[(.agg #[.int .i64 c.hour, .int .i64 c.grace, .slice A1 n1 k1, .slice A2 n2 k2, .slice A3 n3 k3]), .int .u8 x] w fun e w' => e = .returned (.bool true) ∧ Later w w' := by
  obtain ⟨w0, hw0⟩ : ∃ W, W = (w.alloc (.cells #[.int .i64 c.hour, .int .i64 c.grace, .slice A1 n1 k1, .slice A2 n2 k2, .slice A3 n3 k3] 26)) := ⟨_, rfl⟩; have hbox : ∀ W, Later w0 W → ∀ i, W.cell? ⟨w.heap.size, i, none⟩ = #[.int .i64 c.hour, .int .i64 c.grace, .slice A1 n1 k1, .slice A2 n2 k2, .slice A3 n3 k3][i]? := (by rw [hw0]; exact box_cells w #[.int .i64 c.hour, .int .i64 c.grace, .slice A1 n1 k1, .slice A2 n2 k2, .slice A3 n3 k3] 26); have hL0 : Later w w0 := (by rw [hw0]; simp); have hc0 := hc.later hL0; have Hw0 := hide hw0; clear hw0
  have hrdy := ready_calls (k1 := k1) (k2 := k2) (k3 := k3) w0 hc0 b1 b2 b3
  cases hth : readyB c with
  | false =>
    rw [hth] at hrdy
    have Hrdy := hide hrdy
    clear hth hrdy
    go_enter Try.func15, Try.ntmps15
    go_wp2_with fail
    rw [← Hw0.out]; clear Hw0
    refine Hrdy.out.mono ?_
    rintro e w1 ⟨rfl, hL1⟩
    go_wp2_with fail
    refine (awake_calls _).mono ?_
    rintro e w2 ⟨rfl, hL2⟩
    go_wp2_with fail
    go_ret
    exact ⟨rfl, Later.trans hL0 (Later.trans hL1 hL2)⟩
  | true =>
    rw [hth] at hrdy
    have hn1 := hc.ck.len
    have hn2 := hc.tk.len
    have hn3 := hc.cp.len
    have hf := (readyB_true hth).2
    have ok := okH_of_fault hf
    have hmy := many_le hf
    have l1 : n1 ≤ 4 := by have := ok.n1; omega
    have l2 : n2 ≤ 6 := by have := ok.n2; omega
    have l3 : n3 ≤ 10 := by have := ok.n3; omega
    have Hn1 := hide hn1
    have Hn2 := hide hn2
    have Hn3 := hide hn3
    have Hf := hide hf
    have Hmy := hide hmy
    have Hrdy := hide hrdy
    clear hth hrdy hn1 hn2 hn3 hf hmy
    have hbxa := fun W (hW : Later w0 W) => hbox W hW 2
    simp only [List.getElem?_toArray, List.getElem?_cons_zero, List.getElem?_cons_succ] at hbxa
    by_cases hn : n1 = 0
    · have hnb : ((n1 : Int) == 0) = true := by simp [hn]
      clear hn
      go_enter Try.func15, Try.ntmps15
      go_wp2_with fail
      rw [← Hw0.out]; clear Hw0
      refine Hrdy.out.mono ?_
      rintro e w1 ⟨rfl, hL1⟩
      have hx1 := hbxa w1 hL1
      go_wp2_with fail
      refine (awake_calls _).mono ?_
      rintro e wa ⟨rfl, hLa⟩
      go_wp2_with fail
      go_ret
      exact ⟨rfl, Later.trans hL0 (Later.trans hL1 hLa)⟩
    · have hnb : ((n1 : Int) == 0) = false := by simp; omega
      have hsu := fun (W : World) (h : Later w0 W) => sure_calls (k1 := k1) (k2 := k2) (k3 := k3) W (hc0.later h) (by omega) (by omega) (by omega)
      unfold SurePost at hsu
      have hpc := fun (B1 B2 B3 : Option Addr) (j1 j2 j3 : Nat) (W : World) (h : CV W c B1 n1 B2 n2 B3 n3) => LookP_calls (k1 := j1) (k2 := j2) (k3 := j3) W h (by omega) (by omega) (by omega)
      rcases asked_cases Hf.out with ⟨he, hne, htn⟩ | ⟨he, hno, htn⟩
      · obtain ⟨e1, hkl, hmost, hlv⟩ := compared_law he (by rw [← Hn1.out]; omega)
        rw [e1] at hpc
        simp only [he] at hsu
        obtain ⟨k, hk⟩ : ∃ q, (lookOut c).1 = q := ⟨_, rfl⟩
        obtain ⟨left, hleft⟩ : ∃ q, (lookOut c).2 = q := ⟨_, rfl⟩
        rw [hk, hleft] at hpc
        rw [hk] at hkl hmost
        rw [hleft] at hmost hlv
        rw [← Hn1.out] at hkl
        obtain ⟨ot, gza⟩ : ∃ k, x % n1 = k := ⟨_, rfl⟩
        have za1 : (x : Int).tmod (n1 : Int) = (ot : Int) := by rw [← gza, Int.tmod_eq_emod_of_nonneg (by omega)]; norm_cast
        have za2 : (x : Int) % (n1 : Int) = (ot : Int) := by rw [← gza]; norm_cast
        have hza : ot < n1 := by rw [← gza]; exact Nat.mod_lt _ (by omega)
        have za3 : IntKind.i64.wrap (ot : Int) = (ot : Int) := IntWalk.i64_in _ (by omega)
        have za4 : ¬ n1 = 0 := by omega
        have za5 : ¬ (n1 : Int) = 0 := by omega
        have za6 : IntKind.i64.wrap (x : Int) = (x : Int) := IntWalk.i64_in _ (by omega)
        clear gza
        have htr := truths_isErr ok
        have hlen : (truths c).length ≤ 2000 := by rw [← (truthsP_perm Hf.out).length_eq]; exact truthsP_len Hf.out
        have hkk : (k : Int) < n1 := by omega
        have hkk2 : k < n1 := hkl
        have hinb : inB (k : Int) 0 ((n1 : Int) - 1) = true := by unfold inB; simp; omega
        have hwn : wrap64 ((n1 : Int) - 1) = (n1 : Int) - 1 := by unfold wrap64; omega
        have hl2 : (pairsV c.clocks).length = n1 * 2 := by rw [pairsV_length, ← Hn1.out]
        have Hsu := hide hsu
        have Hpc := hide hpc
        have Hmost := hide hmost
        have Hlv := hide hlv
        have Htr := hide htr
        have Hlen := hide hlen
        have Hinb := hide hinb
        clear hsu hpc hmost hlv htr hlen he hne htn e1 hk hleft hn hinb
        go_enter Try.func15, Try.ntmps15
        go_wp2_with fail
        rw [← Hw0.out]; clear Hw0
        refine Hrdy.out.mono ?_
        rintro e w1 ⟨rfl, hL1⟩
        have hx1 := hbxa w1 hL1
        go_wp2_with fail
        refine (lawHouse_calls (k1 := k1) (k2 := k2) (k3 := k3) w1 (hc0.later hL1) (by omega) (by omega) (by omega)).mono ?_
        rintro e wd ⟨B1d, j1d, B2d, j2d, B3d, j3d, rfl, hMd, hcd, hj1d, hj2d, hj3d⟩
        have hLd := Later.trans hL1 hMd
        go_wp2_with fail
        refine (Hpc.out _ _ _ _ _ _ wd hcd).mono ?_
        rintro e w3 ⟨rfl, hM3⟩
        have hL3 := Later.trans hLd hM3
        clear hcd hj1d hj2d hj3d hMd hLd hM3
        go_wp2_with fail
        refine (Hsu.out w3 hL3).mono ?_
        rintro e w5 ⟨As, ns, ks, rfl, hM5, hrs⟩
        have hL5 := Later.trans hL3 hM5
        replace hrs := hrs trivial
        have hns := hrs.len
        have hns2 : ns ≤ 2000 := by have := Hlen.out; omega
        have hx5 := hbxa w5 hL5
        clear hns
        go_wp2_with fail
        refine (In_eq Hinb.out _).mono ?_
        rintro e w6 ⟨rfl, rfl⟩
        obtain ⟨b, o, ⟨r1, r2⟩, hA1, _, hr, hr1, hr2⟩ := hc0.ck.get hkk2
        dsimp only at hr1 hr2
        have hrr := ok.clock _ (List.mem_of_getElem? hr)
        dsimp only at hrr
        have hr5 := hr1 w5 hL5
        have hr6 := hr2 w5 hL5
        have Hr := hide hr
        rw [hA1] at hx5
        have HA1 := hide hA1
        have Hbox := hide hbox
        have Hbxa := hide hbxa
        clear hr hA1 hbox hbxa hx1
        obtain ⟨w6, hw6⟩ : ∃ W, W = w5.alloc (.cells #[.int .i64 r1, .int .i64 r2] 44) := ⟨_, rfl⟩
        obtain ⟨g6, hg6⟩ : ∃ g, g = w5.heap.size := ⟨_, rfl⟩
        have hb6 : Blk w6 g6 44 #[.int .i64 r1, .int .i64 r2] := by rw [hw6, hg6]; exact Blk.new _ _ _
        have hM6 : Later w5 w6 := by rw [hw6]; exact later_alloc (later_refl _) _
        have hL6 := Later.trans hL5 hM6
        have hbx6 := fun W (hW : Later w6 W) => (hb6.later hW).cell
        have hr60 := fun W hW => hbx6 W hW 0
        have hr61 := fun W hW => hbx6 W hW 1
        simp only [List.getElem?_toArray, List.getElem?_cons_zero, List.getElem?_cons_succ] at hr60 hr61
        have hr60b := hr60 w6 (later_refl _)
        have hrs6 := hrs.later hM6
        have Hw6 := hide hw6
        have Hg6 := hide hg6
        clear hw6 hg6 hbx6 hrs
        go_upto_region 11 with fail
        rw [← Hw6.out, ← Hg6.out]
        have hbox := Hbox.out
        have hbxa := Hbxa.out
        clear Hw6 Hg6 hx5 hr5 hr6 hr1 hr2 Hbox Hbxa
        have hmost := Hmost.out
        rw [clockAt_of Hr.out] at hmost
        dsimp only [sizeR] at hmost
        obtain ⟨sz, hsz⟩ : ∃ q, (r2 - r1 + 1).toNat = q := ⟨_, rfl⟩
        rw [hsz] at hmost
        have Hmost2 := hide hmost
        clear hmost Hmost
        go_wp2_with fail
        go_loopw [10, 12] (fun m n wr => ∃ j : Nat, j ≤ sz ∧ n = .int .i64 (r1 + j) ∧ m = .int .i64 (mostP (truthsP c) k r1 j) ∧ Later w6 wr) (fun _ n _ => sz - (intOf n - r1).toNat)
        case atStart => exact ⟨0, Nat.zero_le _, by simp, rfl, later_refl _⟩
        case round =>
          obtain ⟨j, hj, rfl, rfl, hL⟩ := hrel
          have hL0r := Later.trans hL6 hL
          have hr62 := hr61 wr hL
          by_cases hlt : j < sz
          · have hi1 : r1 + (j : Int) ≤ r2 := by omega
            have hxr := hbxa wr hL0r
            have hb9 := Blk.new wr 26 #[.int .i64 c.hour, .int .i64 c.grace, .slice A1 n1 k1, .slice A2 n2 k2, .slice A3 n3 k3]
            have hL39 : Later w0 (wr.alloc (.cells #[.int .i64 c.hour, .int .i64 c.grace, .slice A1 n1 k1, .slice A2 n2 k2, .slice A3 n3 k3] 26)) := later_alloc hL0r _
            have hLz9 := later_alloc (later_refl (wr.alloc (.cells #[.int .i64 c.hour, .int .i64 c.grace, .slice A1 n1 k1, .slice A2 n2 k2, .slice A3 n3 k3] 26))) (.cells #[] 44)
            have hnew9 : Blk ((wr.alloc (.cells #[.int .i64 c.hour, .int .i64 c.grace, .slice A1 n1 k1, .slice A2 n2 k2, .slice A3 n3 k3] 26)).alloc (.cells #[] 44)) (wr.heap.size + 1) 44 #[] := by have := Blk.new (wr.alloc (.cells #[.int .i64 c.hour, .int .i64 c.grace, .slice A1 n1 k1, .slice A2 n2 k2, .slice A3 n3 k3] 26)) 44 #[]; rwa [World.size_alloc] at this
            have hsb9 : (wr.alloc (.cells #[.int .i64 c.hour, .int .i64 c.grace, .slice A1 n1 k1, .slice A2 n2 k2, .slice A3 n3 k3] 26)).heap.size ≤ wr.heap.size + 1 := Nat.le_of_eq (World.size_alloc _ _)
            have HL39 := hide hL39
            have HLz9 := hide hLz9
            have Hnew9 := hide hnew9
            have Hsb9 := hide hsb9
            have Hb9 := hide hb9
            clear hb9 hL39 hLz9 hnew9 hsb9
            go_wp2_with (at_builtin; go_loud (refine app0 rfl (wr.alloc (.cells #[.int .i64 c.hour, .int .i64 c.grace, .slice A1 n1 k1, .slice A2 n2 k2, .slice A3 n3 k3] 26)).heap.size _ _ 22 rfl 44 (.agg #[.int .i64 0, .int .i64 0]) 2 16 Try.underlying22 rrange_info rfl (by omega) (wr.heap.size + 1) rfl Hnew9.out Hsb9.out A1 n1 k1 (pairsV c.clocks) rfl hl2 (reads_cells (hc0.later (Later.trans HL39.out HLz9.out)).ck) (reads_none hc0.ck) (pairs_one _) (by unfold maxLen; omega) (by omega) ?_))
            intro v9 w9 hM9 hown9
            have hLw9 := Later.trans HLz9.out hM9
            have hL9a : Later wr w9 := Later.trans (later_alloc (later_refl _) _) hLw9
            have hb9b := Hb9.out.later hLw9
            have hw9o := World.size_alloc wr (.cells #[.int .i64 c.hour, .int .i64 c.grace, .slice A1 n1 k1, .slice A2 n2 k2, .slice A3 n3 k3] 26)
            try rw [hw9o] at hown9
            have hlo9 : wr.heap.size ≤ wr.heap.size := Nat.le_refl _
            clear hM9 hLw9 hw9o Hb9 Hnew9 HLz9 HL39 Hsb9
            generalize hg9 : wr.heap.size = g9 at *
            have hlo9 : wr.heap.size ≤ g9 := Nat.le_of_eq hg9
            have Hg9 := hide hg9
            clear hg9
            obtain ⟨gh9, kh9, rfl⟩ : ∃ g k, v9 = .slice (some ⟨g, 0, none⟩) n1 k := own_form hown9 (by omega)
            have hlh9 : g9 + 1 ≤ gh9 := (hown9.lt gh9 rfl).1
            have hgn9 : g9 ≠ gh9 := by omega
            have hx0 := hb9b.cell 0
            have hx1 := hb9b.cell 1
            have hx2 := hb9b.cell 2
            have hx3 := hb9b.cell 3
            have hx4 := hb9b.cell 4
            have hf2 := hb9b.frozen 2
            simp only [List.getElem?_toArray, List.getElem?_cons_zero, List.getElem?_cons_succ] at hx0 hx1 hx2 hx3 hx4
            go_upto_region 16 with fail
            obtain ⟨wA, hwA⟩ : ∃ W, W = w9.setCell ⟨g9, 2, none⟩ (.slice (some ⟨gh9, 0, none⟩) n1 kh9) := ⟨_, rfl⟩
            have hbA : Blk wA g9 26 #[.int .i64 c.hour, .int .i64 c.grace, .slice (some ⟨gh9, 0, none⟩) n1 kh9, .slice A2 n2 k2, .slice A3 n3 k3] := by rw [hwA]; exact hb9b.set_ 2 _
            have hLA : Later wr wA := by rw [hwA]; exact later_set hL9a _ hlo9 _
            have hoA : wA.ownsRow (g9 + 1) 44 2 (.slice (some ⟨gh9, 0, none⟩) n1 kh9) n1 (pairsV c.clocks) := by
              rw [hwA]
              exact own_block hown9 (fun g hg => Below.heap_setCell w9 _ _ g (by injection hg with hg; show g ≠ g9; exact fun e => hgn9 (e.symm.trans hg.symm)))
            rw [← hwA]
            clear hwA hb9b hown9 hL9a hx0 hx1 hx2 hx3 hx4 hf2
            have hbxA := fun W (hW : Later wA W) => (hbA.later hW).cell
            have hxA2 := fun W hW => hbxA W hW 2
            simp only [List.getElem?_toArray, List.getElem?_cons_zero, List.getElem?_cons_succ] at hxA2
            have hxA2b := hxA2 wA (later_refl _)
            obtain ⟨hv0, hv1⟩ := pairsV_at Hr.out
            have hxlo := hoA.cellAt (k * 2) (by omega)
            have hxhi := hoA.cellAt (k * 2 + 1) (by omega)
            rw [hv0] at hxlo
            rw [hv1] at hxhi
            have hflo := hoA.frozenAt (k * 2)
            have hfhi := hoA.frozenAt (k * 2 + 1)
            have hst := fun u v => ((hoA.stored (k * 2) u).1.stored (k * 2 + 1) v).1
            have Hst := hide hst
            clear hv0 hv1 hbxA hxr hoA hst hsz hr60 hr61 hr60b
            go_upto_region 17 with fail
            obtain ⟨wB, hwB⟩ : ∃ W, W = (wA.setCell ⟨gh9, k * 2, none⟩ (.int .i64 (r1 + j))).setCell ⟨gh9, k * 2 + 1, none⟩ (.int .i64 (r1 + j)) := ⟨_, rfl⟩
            have hlh : wr.heap.size ≤ gh9 := by omega
            have hLB : Later wr wB := by rw [hwB]; exact later_set (later_set hLA _ hlh _) _ hlh _
            have hbB : Blk wB g9 26 #[.int .i64 c.hour, .int .i64 c.grace, .slice (some ⟨gh9, 0, none⟩) n1 kh9, .slice A2 n2 k2, .slice A3 n3 k3] := by rw [hwB]; exact (hbA.far hgn9 _).far hgn9 _
            have hoB := Hst.out (.int .i64 (r1 + j)) (.int .i64 (r1 + j))
            rw [← hwB, ← pairsV_set c.clocks k (r1 + j, r1 + j)] at hoB
            rw [← hwB]
            have hL0B := Later.trans hL0r hLB
            have hcB := hc0.later hL0B
            have hcx : CV wB (fixC c k (r1 + j)) (some ⟨gh9, 0, none⟩) n1 A2 n2 A3 n3 := ⟨Reads.of_own hoB, hcB.tk, hcB.cp⟩
            have hbxB := fun W (hW : Later wB W) => (hbB.later hW).cell
            have hz0 := fun W hW => hbxB W hW 0
            have hz1 := fun W hW => hbxB W hW 1
            have hz2 := fun W hW => hbxB W hW 2
            have hz3 := fun W hW => hbxB W hW 3
            have hz4 := fun W hW => hbxB W hW 4
            simp only [List.getElem?_toArray, List.getElem?_cons_zero, List.getElem?_cons_succ] at hz0 hz1 hz2 hz3 hz4
            have hTB : Later wB wB := later_refl _
            have hfx := fix_fault Hf.out Hr.out (show (r1, r2).1 ≤ r1 + (j : Int) by dsimp only; omega) (show r1 + (j : Int) ≤ (r1, r2).2 from hi1)
            have hfl := fix_truths Hf.out Hr.out (show (r1, r2).1 ≤ r1 + (j : Int) by dsimp only; omega) (show r1 + (j : Int) ≤ (r1, r2).2 from hi1)
            have hxh : (fixC c k (r1 + j)).hour = c.hour := rfl
            have hxg : (fixC c k (r1 + j)).grace = c.grace := rfl
            obtain ⟨xc, hxc⟩ : ∃ q, fixC c k (r1 + j) = q := ⟨_, rfl⟩
            rw [hxc] at hcx hfx hfl hxh hxg
            have htx := Truths_calls (k1 := kh9) (k2 := k2) (k3 := k3) wB hcx (okH_of_fault hfx) (by have := many_le hfx; omega)
            rw [hxh, hxg] at htx
            have Htx := hide htx
            have Hfl := hide hfl
            clear hwB hbA hLA hoB hbB hbxB hxA2 hxA2b hxlo hxhi hflo hfhi Hst hfx hfl htx hxh hxg hxc hcx hcB
            go_wp2_with fail
            refine (Htx.out).mono ?_
            rintro e w17 ⟨At, nt, kt, rfl, hM17, hrt⟩
            have hLr := Later.trans hLB hM17
            have hnt := hrt.len
            rw [Hfl.out] at hnt
            have hms := mostP_succ (truthsP c) k r1 j
            rw [← hnt] at hms
            obtain ⟨mo, hmo⟩ : ∃ q, mostP (truthsP c) k r1 j = q := ⟨_, rfl⟩
            rw [hmo] at hms ⊢
            have Hms := hide hms
            clear hms hmo hnt hrt
            go_wp2_with fail
            all_goals
              go_roundw
              case rel => exact ⟨j + 1, hlt, by go_num, by rw [Hms.out]; congr 1; omega, Later.trans hL hLr⟩
              case measure => simp [intOf]; omega
          · have hi1 : ¬ r1 + (j : Int) ≤ r2 := by omega
            have hjz : j = sz := by omega
            subst hjz
            rw [← Hmost2.out]
            have hee : (left == left) = true := by simp
            clear hlt hsz hrr hj hr60 hr61 hr60b hbox
            have hxr := hbxa wr hL0r
            go_wp2_with fail
            refine (Leaves_calls ot wr (hrs6.later hL) (fun d hd => by have := (Htr.out d hd).len; have := Hn1.out; omega) (by omega)).mono ?_
            rintro e w7 ⟨rfl, hM7⟩
            have hge := Hlv.out ot (by rw [← Hn1.out]; exact hza)
            have hL7 := Later.trans hL0r hM7
            go_wp2_with fail
            refine (awake_calls _).mono ?_
            rintro e wa ⟨rfl, hLa⟩
            go_wp2_with fail
            go_ret
            exact ⟨rfl, Later.trans hL0 (Later.trans hL7 hLa)⟩
      · have e1 : lookErr c = 11 := by unfold lookErr; rw [if_pos (by simp [he]), he]
        rw [e1] at hpc
        simp only [he] at hsu
        have Hsu := hide hsu
        have Hpc := hide hpc
        clear hsu hpc he hno htn e1 hn
        go_enter Try.func15, Try.ntmps15
        go_wp2_with fail
        rw [← Hw0.out]; clear Hw0
        refine Hrdy.out.mono ?_
        rintro e w1 ⟨rfl, hL1⟩
        have hx1 := hbxa w1 hL1
        go_wp2_with fail
        refine (lawHouse_calls (k1 := k1) (k2 := k2) (k3 := k3) w1 (hc0.later hL1) (by omega) (by omega) (by omega)).mono ?_
        rintro e wd ⟨B1d, j1d, B2d, j2d, B3d, j3d, rfl, hMd, hcd, hj1d, hj2d, hj3d⟩
        have hLd := Later.trans hL1 hMd
        go_wp2_with fail
        refine (Hpc.out _ _ _ _ _ _ wd hcd).mono ?_
        rintro e w3 ⟨rfl, hM3⟩
        have hL3 := Later.trans hLd hM3
        clear hcd hj1d hj2d hj3d hMd hLd hM3
        go_wp2_with fail
        refine (Hsu.out w3 hL3).mono ?_
        rintro e w5 ⟨As, ns, ks, rfl, hM5, _⟩
        have hL5 := Later.trans hL3 hM5
        go_wp2_with fail
        refine (awake_calls _).mono ?_
        rintro e wa ⟨rfl, hLa⟩
        go_wp2_with fail
        go_ret
        exact ⟨rfl, Later.trans hL0 (Later.trans hL5 hLa)⟩
end Go.Proofs.Ytbkfnajpbhfneaa
