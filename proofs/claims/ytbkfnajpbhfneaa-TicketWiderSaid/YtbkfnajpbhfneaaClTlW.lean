/- The law TicketWider: walk. -/
import Derived.Test.YtbkfnajpbhfneaaPart14
import Derived.Test.YtbkfnajpbhfneaaPart13
import Derived.Test.YtbkfnajpbhfneaaPart15
import Derived.RegionTactic
set_option linter.unusedSimpArgs false
set_option linter.unusedVariables false
namespace Go.Proofs.Ytbkfnajpbhfneaa
open Go Go.RowKit
attribute [local go_sem] later_alloc2 later_alloc3 later_alloc4

set_option maxRecDepth 100000 in
set_option maxHeartbeats 16000000 in
theorem lawWider_calls {A1 A2 A3 : Option Addr} {n1 k1 n2 k2 n3 k3 : Nat} {c : Hou} {x y : Nat} (w : World) (hc : CV w c A1 n1 A2 n2 A3 n3) (b1 : n1 ≤ 9223372036854775807) (b2 : n2 ≤ 9223372036854775807) (b3 : n3 ≤ 9223372036854775807) (hx : x < 256) (hy : y < 256) :
    Calls Try.prog 13 #[(.agg #[.int .i64 c.hour, .int .i64 c.grace, .slice A1 n1 k1, .slice A2 n2 k2, .slice A3 n3 k3]), .int .u8 x, .int .u8 y] w fun e w' => e = .returned (.bool true) ∧ Later w w' := by
  obtain ⟨w0, hw0⟩ : ∃ W, W = (w.alloc (.cells #[.int .i64 c.hour, .int .i64 c.grace, .slice A1 n1 k1, .slice A2 n2 k2, .slice A3 n3 k3] 26)) := ⟨_, rfl⟩; have hbox : ∀ W, Later w0 W → ∀ i, W.cell? ⟨w.heap.size, i, none⟩ = #[.int .i64 c.hour, .int .i64 c.grace, .slice A1 n1 k1, .slice A2 n2 k2, .slice A3 n3 k3][i]? := (by rw [hw0]; exact box_cells w #[.int .i64 c.hour, .int .i64 c.grace, .slice A1 n1 k1, .slice A2 n2 k2, .slice A3 n3 k3] 26); have hL0 : Later w w0 := (by rw [hw0]; simp); have hc0 := hc.later hL0; have Hw0 := hide hw0; clear hw0
  have hrdy := ready_calls (k1 := k1) (k2 := k2) (k3 := k3) w0 hc0 b1 b2 b3
  cases hth : readyB c with
  | false =>
    rw [hth] at hrdy
    have Hrdy := hide hrdy
    clear hth hrdy
    go_enter Try.func13, Try.ntmps13
    go_wp2_with fail
    rw [← Hw0.out]; clear Hw0
    refine Hrdy.out.mono ?_
    rintro e w1 ⟨rfl, hL1⟩
    go_wp2_with fail
    refine (awake_calls _).mono ?_
    rintro e w2 ⟨rfl, hL2⟩
    go_wp2_with fail
    go_ret
    exact ⟨rfl, Later.trans hL0 (Later.trans hL1 hL2)⟩
  | true =>
    rw [hth] at hrdy
    have hn1 := hc.ck.len
    have hn2 := hc.tk.len
    have hn3 := hc.cp.len
    have hf := (readyB_true hth).2
    have ok := okH_of_fault hf
    have hmy := many_le hf
    have l1 : n1 ≤ 4 := by have := ok.n1; omega
    have l2 : n2 ≤ 6 := by have := ok.n2; omega
    have l3 : n3 ≤ 10 := by have := ok.n3; omega
    have Hn1 := hide hn1
    have Hn2 := hide hn2
    have Hn3 := hide hn3
    have Hf := hide hf
    have Hmy := hide hmy
    have Hrdy := hide hrdy
    clear hth hrdy hn1 hn2 hn3 hf hmy
    have hbxa := fun W (hW : Later w0 W) => hbox W hW 2
    simp only [List.getElem?_toArray, List.getElem?_cons_zero, List.getElem?_cons_succ] at hbxa
    by_cases hn : n1 = 0
    · have hnb : ((n1 : Int) == 0) = true := by simp [hn]
      clear hn
      go_enter Try.func13, Try.ntmps13
      go_wp2_with fail
      rw [← Hw0.out]; clear Hw0
      refine Hrdy.out.mono ?_
      rintro e w1 ⟨rfl, hL1⟩
      have hx1 := hbxa w1 hL1
      go_wp2_with fail
      refine (awake_calls _).mono ?_
      rintro e wa ⟨rfl, hLa⟩
      go_wp2_with fail
      go_ret
      exact ⟨rfl, Later.trans hL0 (Later.trans hL1 hLa)⟩
    · have hnb : ((n1 : Int) == 0) = false := by simp; omega
      obtain ⟨k, gza⟩ : ∃ k, x % n1 = k := ⟨_, rfl⟩
      have za1 : (x : Int).tmod (n1 : Int) = (k : Int) := by rw [← gza, Int.tmod_eq_emod_of_nonneg (by omega)]; norm_cast
      have za2 : (x : Int) % (n1 : Int) = (k : Int) := by rw [← gza]; norm_cast
      have hza : k < n1 := by rw [← gza]; exact Nat.mod_lt _ (by omega)
      have za3 : IntKind.i64.wrap (k : Int) = (k : Int) := IntWalk.i64_in _ (by omega)
      have za4 : ¬ n1 = 0 := by omega
      have za5 : ¬ (n1 : Int) = 0 := by omega
      have za6 : IntKind.i64.wrap (x : Int) = (x : Int) := IntWalk.i64_in _ (by omega)
      clear gza
      clear hn
      have hl2 : (pairsV c.clocks).length = n1 * 2 := by rw [pairsV_length, ← Hn1.out]
      go_enter Try.func13, Try.ntmps13
      go_wp2_with fail
      rw [← Hw0.out]; clear Hw0
      refine Hrdy.out.mono ?_
      rintro e w1 ⟨rfl, hL1⟩
      have hx1 := hbxa w1 hL1
      have hb9 := Blk.new w1 26 #[.int .i64 c.hour, .int .i64 c.grace, .slice A1 n1 k1, .slice A2 n2 k2, .slice A3 n3 k3]
      have hL39 : Later w0 (w1.alloc (.cells #[.int .i64 c.hour, .int .i64 c.grace, .slice A1 n1 k1, .slice A2 n2 k2, .slice A3 n3 k3] 26)) := later_alloc hL1 _
      have hLz9 := later_alloc (later_refl (w1.alloc (.cells #[.int .i64 c.hour, .int .i64 c.grace, .slice A1 n1 k1, .slice A2 n2 k2, .slice A3 n3 k3] 26))) (.cells #[] 44)
      have hnew9 : Blk ((w1.alloc (.cells #[.int .i64 c.hour, .int .i64 c.grace, .slice A1 n1 k1, .slice A2 n2 k2, .slice A3 n3 k3] 26)).alloc (.cells #[] 44)) (w1.heap.size + 1) 44 #[] := by have := Blk.new (w1.alloc (.cells #[.int .i64 c.hour, .int .i64 c.grace, .slice A1 n1 k1, .slice A2 n2 k2, .slice A3 n3 k3] 26)) 44 #[]; rwa [World.size_alloc] at this
      have hsb9 : (w1.alloc (.cells #[.int .i64 c.hour, .int .i64 c.grace, .slice A1 n1 k1, .slice A2 n2 k2, .slice A3 n3 k3] 26)).heap.size ≤ w1.heap.size + 1 := Nat.le_of_eq (World.size_alloc _ _)
      have HL39 := hide hL39
      have HLz9 := hide hLz9
      have Hnew9 := hide hnew9
      have Hsb9 := hide hsb9
      have Hb9 := hide hb9
      clear hb9 hL39 hLz9 hnew9 hsb9
      go_wp2_with (at_builtin; go_loud (refine app0 rfl (w1.alloc (.cells #[.int .i64 c.hour, .int .i64 c.grace, .slice A1 n1 k1, .slice A2 n2 k2, .slice A3 n3 k3] 26)).heap.size _ _ 22 rfl 44 (.agg #[.int .i64 0, .int .i64 0]) 2 16 Try.underlying22 rrange_info rfl (by omega) (w1.heap.size + 1) rfl Hnew9.out Hsb9.out A1 n1 k1 (pairsV c.clocks) rfl hl2 (reads_cells (hc0.later (Later.trans HL39.out HLz9.out)).ck) (reads_none hc0.ck) (pairs_one _) (by unfold maxLen; omega) (by omega) ?_))
      intro v9 w9 hM9 hown9
      have hLw9 := Later.trans HLz9.out hM9
      have hL9a : Later w1 w9 := Later.trans (later_alloc (later_refl _) _) hLw9
      have hb9b := Hb9.out.later hLw9
      have hw9o := World.size_alloc w1 (.cells #[.int .i64 c.hour, .int .i64 c.grace, .slice A1 n1 k1, .slice A2 n2 k2, .slice A3 n3 k3] 26)
      try rw [hw9o] at hown9
      have hlo9 : w1.heap.size ≤ w1.heap.size := Nat.le_refl _
      clear hM9 hLw9 hw9o Hb9 Hnew9 HLz9 HL39 Hsb9
      generalize hg9 : w1.heap.size = g9 at *
      have hlo9 : w1.heap.size ≤ g9 := Nat.le_of_eq hg9
      have Hg9 := hide hg9
      clear hg9
      obtain ⟨gh9, kh9, rfl⟩ : ∃ g k, v9 = .slice (some ⟨g, 0, none⟩) n1 k := own_form hown9 (by omega)
      have hlh9 : g9 + 1 ≤ gh9 := (hown9.lt gh9 rfl).1
      have hgn9 : g9 ≠ gh9 := by omega
      have hx0 := hb9b.cell 0
      have hx1 := hb9b.cell 1
      have hx2 := hb9b.cell 2
      have hx3 := hb9b.cell 3
      have hx4 := hb9b.cell 4
      have hf2 := hb9b.frozen 2
      simp only [List.getElem?_toArray, List.getElem?_cons_zero, List.getElem?_cons_succ] at hx0 hx1 hx2 hx3 hx4
      go_upto_region 5 with fail
      obtain ⟨wA, hwA⟩ : ∃ W, W = w9.setCell ⟨g9, 2, none⟩ (.slice (some ⟨gh9, 0, none⟩) n1 kh9) := ⟨_, rfl⟩
      have hbA : Blk wA g9 26 #[.int .i64 c.hour, .int .i64 c.grace, .slice (some ⟨gh9, 0, none⟩) n1 kh9, .slice A2 n2 k2, .slice A3 n3 k3] := by rw [hwA]; exact hb9b.set_ 2 _
      have hLA : Later w1 wA := by rw [hwA]; exact later_set hL9a _ hlo9 _
      have hoA : wA.ownsRow w0.heap.size 44 2 (.slice (some ⟨gh9, 0, none⟩) n1 kh9) n1 (pairsV c.clocks) := by
        rw [hwA]
        refine own_base (own_block hown9 (fun g hg => Below.heap_setCell w9 _ _ g (by injection hg with hg; show g ≠ g9; exact fun e => hgn9 (e.symm.trans hg.symm)))) ?_
        have := hL1.size; omega
      rw [← hwA]
      clear hwA hb9b hown9 hL9a hx0 hx1 hx2 hx3 hx4 hf2
      have hL0A := Later.trans hL1 hLA
      have hbxA := fun W (hW : Later wA W) => (hbA.later hW).cell
      have hxA2 := fun W hW => hbxA W hW 2
      simp only [List.getElem?_toArray, List.getElem?_cons_zero, List.getElem?_cons_succ] at hxA2
      have hkn2 : (k : Int) < n1 := by omega
      have hSA : Later wA wA.drew := later_drew (later_refl _)
      have hlh : w1.heap.size ≤ gh9 := by omega
      clear hbxA
      refine wp_region_lin (w0 := wA) 10 [] rely_later (by kernel_rfl) (by kernel_rfl) (by kernel_rfl) (by kernel_rfl) (hSA) (.inl rfl) ?_
      simp only [List.take_succ_cons, List.take_zero, List.drop_succ_cons, List.drop_zero]
      refine lin_det (v := ?_) (F' := ?_) (by rfl) (fun _ => by rfl) ?_ ?_ ?_
      rotate_left 2
      focus (intro xs X hX hdep; clear hdep; (try dsimp only); go_simp; (try (first | with_reducible rfl | exact ⟨rfl, rfl⟩ | (fail))))
      focus (intro xs; (try simp only [Act.put, List.setIfInBounds_toArray, List.set_cons_zero, List.set_cons_succ, Nat.reduceAdd]); rfl)
      refine lin_det (v := ?_) (F' := ?_) (by rfl) (fun _ => by rfl) ?_ ?_ ?_
      rotate_left 2
      focus (intro xs X hX hdep; clear hdep; (try dsimp only); go_simp; (try (first | with_reducible rfl | exact ⟨rfl, rfl⟩ | (fail))))
      focus (intro xs; (try simp only [Act.put, List.setIfInBounds_toArray, List.set_cons_zero, List.set_cons_succ, Nat.reduceAdd]); rfl)
      refine lin_det (v := ?_) (F' := ?_) (by rfl) (fun _ => by rfl) ?_ ?_ ?_
      rotate_left 2
      focus (intro xs X hX hdep; clear hdep; (try dsimp only); go_simp; (try (first | with_reducible rfl | exact ⟨rfl, rfl⟩ | (fail))))
      focus (intro xs; (try simp only [Act.put, List.setIfInBounds_toArray, List.set_cons_zero, List.set_cons_succ, Nat.reduceAdd]); rfl)
      refine lin_det (v := ?_) (F' := ?_) (by rfl) (fun _ => by rfl) ?_ ?_ ?_
      rotate_left 2
      focus (intro xs X hX hdep; clear hdep; (try dsimp only); go_simp; (try (first | with_reducible rfl | exact ⟨rfl, rfl⟩ | (fail))))
      focus (intro xs; (try simp only [Act.put, List.setIfInBounds_toArray, List.set_cons_zero, List.set_cons_succ, Nat.reduceAdd]); rfl)
      refine lin_det (v := ?_) (F' := ?_) (by rfl) (fun _ => by rfl) ?_ ?_ ?_
      rotate_left 2
      focus (intro xs X hX hdep; clear hdep; (try dsimp only); go_simp; (try (first | with_reducible rfl | exact ⟨rfl, rfl⟩ | (fail))))
      focus (intro xs; (try simp only [Act.put, List.setIfInBounds_toArray, List.set_cons_zero, List.set_cons_succ, Nat.reduceAdd]); rfl)
      refine lin_det (v := ?_) (F' := ?_) (by rfl) (fun _ => by rfl) ?_ ?_ ?_
      rotate_left 2
      focus (intro xs X hX hdep; clear hdep; (try dsimp only); go_simp; (try (first | with_reducible rfl | exact ⟨rfl, rfl⟩ | (fail))))
      focus (intro xs; (try simp only [Act.put, List.setIfInBounds_toArray, List.set_cons_zero, List.set_cons_succ, Nat.reduceAdd]); rfl)
      refine lin_det (v := ?_) (F' := ?_) (by rfl) (fun _ => by rfl) ?_ ?_ ?_
      rotate_left 2
      focus (intro xs X hX hdep; clear hdep; (try dsimp only); go_simp; (try (first | with_reducible rfl | exact ⟨rfl, rfl⟩ | (fail))))
      focus (intro xs; (try simp only [Act.put, List.setIfInBounds_toArray, List.set_cons_zero, List.set_cons_succ, Nat.reduceAdd]); rfl)
      refine lin_det (v := ?_) (F' := ?_) (by rfl) (fun _ => by rfl) ?_ ?_ ?_
      rotate_left 2
      focus (intro xs X hX hdep; clear hdep; (try dsimp only); go_simp; (try (first | with_reducible rfl | exact ⟨rfl, rfl⟩ | (fail))))
      focus (intro xs; (try simp only [Act.put, List.setIfInBounds_toArray, List.set_cons_zero, List.set_cons_succ, Nat.reduceAdd]); rfl)
      refine lin_det (v := ?_) (F' := ?_) (by rfl) (fun _ => by rfl) ?_ ?_ ?_
      rotate_left 2
      focus (intro xs X hX hdep; clear hdep; (try dsimp only); go_simp; (try (first | with_reducible rfl | exact ⟨rfl, rfl⟩ | (fail))))
      focus (intro xs; (try simp only [Act.put, List.setIfInBounds_toArray, List.set_cons_zero, List.set_cons_succ, Nat.reduceAdd]); rfl)
      refine lin_det (v := ?_) (F' := ?_) (by rfl) (fun _ => by rfl) ?_ ?_ ?_
      rotate_left 2
      focus (intro xs X hX hdep; clear hdep; (try dsimp only); go_simp; (try (first | with_reducible rfl | exact ⟨rfl, rfl⟩ | (fail))))
      focus (intro xs; (try simp only [Act.put, List.setIfInBounds_toArray, List.set_cons_zero, List.set_cons_succ, Nat.reduceAdd]); rfl)
      intro xs w10 hW hf hfr hfb
      clear hf hfr hfb za1 za2 za3 za4 za5 za6 hxA2
      obtain ⟨b, o, yk, hAe, _, hyk, _⟩ := hc0.ck.get hza
      have hgy := ok.clock yk (List.mem_of_getElem? hyk)
      obtain ⟨hv0, hv1⟩ := pairsV_at hyk
      have hox := own_later hoA hW
      have hxlo := hox.cellAt (k * 2) (by omega)
      have hxhi := hox.cellAt (k * 2 + 1) (by omega)
      rw [hv0] at hxlo
      rw [hv1] at hxhi
      have hflo := hox.frozenAt (k * 2)
      have hfhi := hox.frozenAt (k * 2 + 1)
      obtain ⟨s, hs⟩ : ∃ s : Int, (y : Int) % 2 = s := ⟨_, rfl⟩
      obtain ⟨t, ht⟩ : ∃ s : Int, (y : Int) / 2 % 3 = s := ⟨_, rfl⟩
      have hs0 : 0 ≤ s ∧ s ≤ 1 := by omega
      have ht0 : 0 ≤ t ∧ t ≤ 2 := by omega
      obtain ⟨lo, hlo⟩ : ∃ q : Int, max (-30) (yk.1 - s) = q := ⟨_, rfl⟩
      obtain ⟨hi, hhi⟩ : ∃ q : Int, min 30 (yk.2 + t) = q := ⟨_, rfl⟩
      have hlawf := fun hx => wider_law (s := (lo, hi)) hyk (by dsimp only; omega) (by dsimp only; omega) Hf.out hx
      have Hyk := hide hyk
      have Hox := hide hox
      have Hlaw := hide hlawf
      have Hlo := hide hlo
      have Hhi := hide hhi
      have hw1 : wrap64 (yk.1 - s) = yk.1 - s := by unfold wrap64; omega
      have hw2 : wrap64 (yk.2 + t) = yk.2 + t := by unfold wrap64; omega
      have hw3 : IntKind.i64.wrap (y : Int) = (y : Int) := IntWalk.i64_in _ (by omega)
      have hw4 : (y : Int).tmod 2 = s := by rw [← hs, Int.tmod_eq_emod_of_nonneg (by omega)]
      have hw5 : (y : Int).tdiv 2 = (y : Int) / 2 := Int.tdiv_eq_ediv_of_nonneg (by omega)
      have hw6 : ((y : Int) / 2).tmod 3 = t := by rw [← ht, Int.tmod_eq_emod_of_nonneg (by omega)]
      have hw7 : IntKind.i64.wrap s = s := IntWalk.i64_in _ (by omega)
      have hw8 : IntKind.i64.wrap t = t := IntWalk.i64_in _ (by omega)
      have hw9 : IntKind.i64.wrap ((y : Int) / 2) = (y : Int) / 2 := IntWalk.i64_in _ (by omega)
      have hL10 := Later.trans hL0A hW
      have hK10 := Later.trans hLA hW
      have hbA10 := hbA.later hW
      clear hAe hyk hv0 hv1 hoA hox hlawf hgy hbA hW hlo hhi
      go_upto_region 6 with fail
      go_cut [] (fun (W : World) => Later w1 W ∧ CV W (setC c k (lo, hi)) (some ⟨gh9, 0, none⟩) n1 A2 n2 A3 n3 ∧ Blk W g9 26 #[.int .i64 c.hour, .int .i64 c.grace, .slice (some ⟨gh9, 0, none⟩) n1 kh9, .slice A2 n2 k2, .slice A3 n3 k3])
      case first =>
        clear hbox
        go_region
        all_goals go_wp2_with fail
        all_goals
          go_meet
          case rel =>
            have key : ∀ a b : Int, a = lo → b = hi → Later w1 ((w10.setCell ⟨gh9, k * 2, none⟩ (.int .i64 a)).setCell ⟨gh9, k * 2 + 1, none⟩ (.int .i64 b)).drew ∧ CV ((w10.setCell ⟨gh9, k * 2, none⟩ (.int .i64 a)).setCell ⟨gh9, k * 2 + 1, none⟩ (.int .i64 b)).drew (setC c k (lo, hi)) (some ⟨gh9, 0, none⟩) n1 A2 n2 A3 n3 ∧ Blk ((w10.setCell ⟨gh9, k * 2, none⟩ (.int .i64 a)).setCell ⟨gh9, k * 2 + 1, none⟩ (.int .i64 b)).drew g9 26 #[.int .i64 c.hour, .int .i64 c.grace, .slice (some ⟨gh9, 0, none⟩) n1 kh9, .slice A2 n2 k2, .slice A3 n3 k3] := by
              intro a b ea eb
              subst ea eb
              have h1 := (Hox.out.stored (k * 2) (.int .i64 a)).1
              have h2 := (h1.stored (k * 2 + 1) (.int .i64 b)).1
              rw [← pairsV_set c.clocks k (a, b)] at h2
              have hK11 : Later w1 ((w10.setCell ⟨gh9, k * 2, none⟩ (.int .i64 a)).setCell ⟨gh9, k * 2 + 1, none⟩ (.int .i64 b)).drew := later_drew (later_set (later_set hK10 _ hlh _) _ hlh _)
              have hc11 := hc0.later (Later.trans hL1 hK11)
              exact ⟨hK11, ⟨Reads.of_own (World.ownsRow.drew h2), hc11.tk, hc11.cp⟩, ((hbA10.far hgn9 _).far hgn9 _).drew⟩
            exact key _ _ (by have := Hlo.out; omega) (by have := Hhi.out; omega)
      case rest =>
        obtain ⟨hK11, hcx, hbx⟩ := hcut
        obtain ⟨w11, rfl⟩ : ∃ W : World, W = wc := ⟨_, rfl⟩
        have hL11 := Later.trans hL1 hK11
        obtain ⟨xc, hxc⟩ : ∃ q, setC c k (lo, hi) = q := ⟨_, rfl⟩
        have hxh : xc.hour = c.hour := by rw [← hxc]; rfl
        have hxg : xc.grace = c.grace := by rw [← hxc]; rfl
        have hxt : xc.tickets.length = c.tickets.length := by rw [← hxc]; rfl
        rw [hxc] at hcx
        have Hlaw2 : Hid (fault xc = 0 → (leaveOut xc).length ≤ (leaveOut c).length ∧ (leaveOut c = [] → Narrow xc c)) := hide (by rw [← hxc]; exact Hlaw.out)
        have Hhh : Hid ((∀ d i, hoursR c d i = hoursR xc d i) ∧ (∀ d i, isLong c d i = isLong xc d i) ∧ ∀ d, isPaid c d = isPaid xc d) := hide (by rw [← hxc]; exact ⟨fun _ _ => rfl, fun _ _ => rfl, fun _ => rfl⟩)
        have Hxt := hide hxt
        have hrdx := ready_calls (k1 := kh9) (k2 := k2) (k3 := k3) w11 hcx b1 b2 b3
        have hxb : Blk w11 g9 26 #[.int .i64 xc.hour, .int .i64 xc.grace, .slice (some ⟨gh9, 0, none⟩) n1 kh9, .slice A2 n2 k2, .slice A3 n3 k3] := by rw [hxh, hxg]; exact hbx
        have hbxx := fun W (hW : Later w11 W) => (hxb.later hW).cell
        have hy0 := fun W hW => hbxx W hW 0
        have hy1 := fun W hW => hbxx W hW 1
        have hy2 := fun W hW => hbxx W hW 2
        have hy3 := fun W hW => hbxx W hW 3
        have hy4 := fun W hW => hbxx W hW 4
        simp only [List.getElem?_toArray, List.getElem?_cons_zero, List.getElem?_cons_succ] at hy0 hy1 hy2 hy3 hy4
        have hT11 : Later w11 w11 := later_refl _
        have hbx0 := fun W (hW : Later w11 W) => hbox W (Later.trans hL11 hW)
        clear hxc hxh hxg hxt hbx hxb hbxx Hlaw Hox hw1 hw2 hw3 hw4 hw5 hw6 hw7 hw8 hw9 hs ht hxlo hxhi hflo hfhi hbA10 hK10 hL10 hkn2 hbox hbxa
        cases hth2 : readyB xc with
        | false =>
          rw [hth2] at hrdx
          have Hrdx := hide hrdx
          clear hrdx hth2
          go_wp2_with fail
          refine (Hrdx.out).mono ?_
          rintro e w12 ⟨rfl, hM12⟩
          have hL12 := Later.trans hL11 hM12
          go_wp2_with fail
          refine (awake_calls _).mono ?_
          rintro e wa ⟨rfl, hLa⟩
          go_wp2_with fail
          go_ret
          exact ⟨rfl, Later.trans hL0 (Later.trans hL12 hLa)⟩
        | true =>
          rw [hth2] at hrdx
          have hfx := (readyB_true hth2).2
          have Hrdx := hide hrdx
          have Hfx := hide hfx
          obtain ⟨hlv, hnar⟩ := Hlaw2.out hfx
          have hlc := fun (B1 B2 B3 : Option Addr) (j1 j2 j3 : Nat) (W : World) (h : CV W c B1 n1 B2 n2 B3 n3) => LeaveP_calls (k1 := j1) (k2 := j2) (k3 := j3) W h (by omega) (by omega) (by omega)
          have hlx := fun (B1 B2 B3 : Option Addr) (j1 j2 j3 : Nat) (W : World) (h : CV W xc B1 n1 B2 n2 B3 n3) => LeaveP_calls (k1 := j1) (k2 := j2) (k3 := j3) W h (by omega) (by omega) (by omega)
          unfold LeavePost at hlc hlx
          rw [Hf.out] at hlc
          rw [hfx] at hlx
          have Hlc := hide hlc
          have Hlx := hide hlx
          have Hlv := hide hlv
          have Hnar := hide hnar
          clear hrdx hth2 hfx hlc hlx hlv hnar
          go_wp2_with fail
          refine (Hrdx.out).mono ?_
          rintro e w12 ⟨rfl, hM12⟩
          have hL12 := Later.trans hL11 hM12
          go_wp2_with fail
          refine (lawHouse_calls (k1 := k1) (k2 := k2) (k3 := k3) w12 (hc0.later hL12) (by omega) (by omega) (by omega)).mono ?_
          rintro e wa ⟨B1a, j1a, B2a, j2a, B3a, j3a, rfl, hMa, hca, hj1a, hj2a, hj3a⟩
          have hLa := Later.trans hL12 hMa
          go_wp2_with fail
          refine (Hlc.out _ _ _ _ _ _ wa hca).mono ?_
          rintro e w13 ⟨Al, nl, kl, rfl, hM13, hrl, _⟩
          have hK13 := Later.trans hM12 (Later.trans hMa hM13)
          have hL13 := Later.trans hL11 hK13
          clear hca hj1a hj2a hj3a hMa hLa hM12
          go_wp2_with fail
          refine (lawHouse_calls (k1 := kh9) (k2 := k2) (k3 := k3) w13 (hcx.later hK13) (by omega) (by omega) (by omega)).mono ?_
          rintro e wa ⟨B1a, j1a, B2a, j2a, B3a, j3a, rfl, hMa, hca, hj1a, hj2a, hj3a⟩
          have hLa := Later.trans hL13 hMa
          go_wp2_with fail
          refine (Hlx.out _ _ _ _ _ _ wa hca).mono ?_
          rintro e w14 ⟨Am, nm, km, rfl, hM14, hrm, _⟩
          have hK14 := Later.trans hK13 (Later.trans hMa hM14)
          have hL14 := Later.trans hL11 hK14
          have hnl := hrl.len
          have hnm := hrm.len
          have hnm2 : ¬ (nl : Int) < (nm : Int) := by have := Hlv.out; omega
          have Hnl := hide hnl
          clear hca hj1a hj2a hj3a hMa hLa hM13 hM14 hnm hrm hrl hnl
          by_cases hl0 : nl = 0
          · subst hl0
            have hl1 : ¬ (0 : Int) < ((0 : Nat) : Int) := by omega
            have hln : leaveOut c = [] := List.eq_nil_of_length_eq_zero Hnl.out.symm
            have hN := Hnar.out hln
            obtain ⟨hh1, hh2, hh3⟩ := Hhh.out
            obtain ⟨lc1, lc2, hordc⟩ := hN.clocks
            obtain ⟨lh1, lh2, hordh⟩ := hN.hours Hxt.out.symm hh1
            obtain ⟨lv1, lv2, hordv⟩ := hN.long Hxt.out.symm hh2
            have hpd := hN.paid hh3
            have ecx := hN.ec
            have ecc := hN.ex
            have eck := hN.ck
            have hcc := fun (B1 B2 B3 : Option Addr) (j1 j2 j3 : Nat) (W : World) (h : CV W c B1 n1 B2 n2 B3 n3) => ClocksP_calls (k1 := j1) (k2 := j2) (k3 := j3) W h (by omega) (by omega) (by omega)
            have hcxx := fun (B1 B2 B3 : Option Addr) (j1 j2 j3 : Nat) (W : World) (h : CV W xc B1 n1 B2 n2 B3 n3) => ClocksP_calls (k1 := j1) (k2 := j2) (k3 := j3) W h (by omega) (by omega) (by omega)
            have hhc := fun (B1 B2 B3 : Option Addr) (j1 j2 j3 : Nat) (W : World) (h : CV W c B1 n1 B2 n2 B3 n3) => HoursP_calls (k1 := j1) (k2 := j2) (k3 := j3) W h (by omega) (by omega) (by omega)
            have hhx := fun (B1 B2 B3 : Option Addr) (j1 j2 j3 : Nat) (W : World) (h : CV W xc B1 n1 B2 n2 B3 n3) => HoursP_calls (k1 := j1) (k2 := j2) (k3 := j3) W h (by omega) (by omega) (by omega)
            have hgc := fun (B1 B2 B3 : Option Addr) (j1 j2 j3 : Nat) (W : World) (h : CV W c B1 n1 B2 n2 B3 n3) => LongP_calls (k1 := j1) (k2 := j2) (k3 := j3) W h (by omega) (by omega) (by omega)
            have hgx := fun (B1 B2 B3 : Option Addr) (j1 j2 j3 : Nat) (W : World) (h : CV W xc B1 n1 B2 n2 B3 n3) => LongP_calls (k1 := j1) (k2 := j2) (k3 := j3) W h (by omega) (by omega) (by omega)
            have hpc := fun (B1 B2 B3 : Option Addr) (j1 j2 j3 : Nat) (W : World) (h : CV W c B1 n1 B2 n2 B3 n3) => PaidP_calls (k1 := j1) (k2 := j2) (k3 := j3) W h (by omega) (by omega) (by omega)
            have hpx := fun (B1 B2 B3 : Option Addr) (j1 j2 j3 : Nat) (W : World) (h : CV W xc B1 n1 B2 n2 B3 n3) => PaidP_calls (k1 := j1) (k2 := j2) (k3 := j3) W h (by omega) (by omega) (by omega)
            unfold PairsPost at hcc hcxx hhc hhx
            unfold IntsPost at hgc hgx
            rw [ecc] at hcc hhc hgc hpc
            rw [ecx] at hcxx hhx hgx hpx
            obtain ⟨u, hu⟩ : ∃ q, paidOut c = q := ⟨_, rfl⟩
            obtain ⟨v, hv⟩ : ∃ q, paidOut xc = q := ⟨_, rfl⟩
            rw [hu] at hpc hpd
            rw [hv] at hpx hpd
            have Hcc := hide hcc
            have Hcx := hide hcxx
            have Hhc := hide hhc
            have Hhx := hide hhx
            have Hgc := hide hgc
            have Hgx := hide hgx
            have Hpc := hide hpc
            have Hpx := hide hpx
            have Hordc := hide hordc
            have Hordh := hide hordh
            have Hordv := hide hordv
            have Hpd := hide hpd
            have Hlc1 := hide (lc1.trans eck.symm)
            have Hlc2 := hide (lc2.trans eck.symm)
            have Hlh1 := hide (lh1.trans Hxt.out)
            have Hlh2 := hide (lh2.trans Hxt.out)
            have Hlv1 := hide (lv1.trans Hxt.out)
            have Hlv2 := hide (lv2.trans Hxt.out)
            clear hln hN hh1 hh2 hh3 hordc hordh hordv lc1 lc2 lh1 lh2 lv1 lv2 hpd ecc ecx eck hcc hcxx hhc hhx hgc hgx hpc hpx hu hv
            go_wp2_with fail
            refine (lawHouse_calls (k1 := k1) (k2 := k2) (k3 := k3) w14 (hc0.later hL14) (by omega) (by omega) (by omega)).mono ?_
            rintro e wa ⟨B1a, j1a, B2a, j2a, B3a, j3a, rfl, hMa, hca, hj1a, hj2a, hj3a⟩
            have hLa := Later.trans hL14 hMa
            go_wp2_with fail
            refine (Hcc.out _ _ _ _ _ _ wa hca).mono ?_
            rintro e w15 ⟨Ac, nc, kc, rfl, hM15, hrc⟩
            have hK15 := Later.trans hK14 (Later.trans hMa hM15)
            have hL15 := Later.trans hL11 hK15
            clear hca hj1a hj2a hj3a hMa hLa hM15
            go_wp2_with fail
            refine (lawHouse_calls (k1 := kh9) (k2 := k2) (k3 := k3) w15 (hcx.later hK15) (by omega) (by omega) (by omega)).mono ?_
            rintro e wa ⟨B1a, j1a, B2a, j2a, B3a, j3a, rfl, hMa, hca, hj1a, hj2a, hj3a⟩
            have hLa := Later.trans hL15 hMa
            go_wp2_with fail
            refine (Hcx.out _ _ _ _ _ _ wa hca).mono ?_
            rintro e w16 ⟨Ad, nd, kd, rfl, hM16, hrd⟩
            have hQ16 := Later.trans hMa hM16
            have hK16 := Later.trans hK15 hQ16
            have hL16 := Later.trans hL11 hK16
            have hrc16 := hrc.later hQ16
            clear hca hj1a hj2a hj3a hMa hLa hM16 hrc hQ16
            go_wp2_with fail
            refine (lawHouse_calls (k1 := k1) (k2 := k2) (k3 := k3) w16 (hc0.later hL16) (by omega) (by omega) (by omega)).mono ?_
            rintro e wa ⟨B1a, j1a, B2a, j2a, B3a, j3a, rfl, hMa, hca, hj1a, hj2a, hj3a⟩
            have hLa := Later.trans hL16 hMa
            go_wp2_with fail
            refine (Hhc.out _ _ _ _ _ _ wa hca).mono ?_
            rintro e w17 ⟨Ah, nh, kh, rfl, hM17, hrh⟩
            have hQ17 := Later.trans hMa hM17
            have hK17 := Later.trans hK16 hQ17
            have hL17 := Later.trans hL11 hK17
            clear hca hj1a hj2a hj3a hMa hLa hM17
            go_wp2_with fail
            refine (lawHouse_calls (k1 := kh9) (k2 := k2) (k3 := k3) w17 (hcx.later hK17) (by omega) (by omega) (by omega)).mono ?_
            rintro e wa ⟨B1a, j1a, B2a, j2a, B3a, j3a, rfl, hMa, hca, hj1a, hj2a, hj3a⟩
            have hLa := Later.trans hL17 hMa
            go_wp2_with fail
            refine (Hhx.out _ _ _ _ _ _ wa hca).mono ?_
            rintro e w18 ⟨Ai, ni, ki, rfl, hM18, hri⟩
            have hQ18 := Later.trans hMa hM18
            have hK18 := Later.trans hK17 hQ18
            have hL18 := Later.trans hL11 hK18
            have hrh18 := hrh.later hQ18
            have hQ1618 := Later.trans hQ17 hQ18
            clear hca hj1a hj2a hj3a hMa hLa hM18 hrh
            go_wp2_with fail
            refine (lawHouse_calls (k1 := k1) (k2 := k2) (k3 := k3) w18 (hc0.later hL18) (by omega) (by omega) (by omega)).mono ?_
            rintro e wa ⟨B1a, j1a, B2a, j2a, B3a, j3a, rfl, hMa, hca, hj1a, hj2a, hj3a⟩
            have hLa := Later.trans hL18 hMa
            go_wp2_with fail
            refine (Hgc.out _ _ _ _ _ _ wa hca).mono ?_
            rintro e w19 ⟨Ag, ng, kg, rfl, hM19, hrg⟩
            have hQ19 := Later.trans hMa hM19
            have hK19 := Later.trans hK18 hQ19
            have hL19 := Later.trans hL11 hK19
            clear hca hj1a hj2a hj3a hMa hLa hM19
            go_wp2_with fail
            refine (lawHouse_calls (k1 := kh9) (k2 := k2) (k3 := k3) w19 (hcx.later hK19) (by omega) (by omega) (by omega)).mono ?_
            rintro e wa ⟨B1a, j1a, B2a, j2a, B3a, j3a, rfl, hMa, hca, hj1a, hj2a, hj3a⟩
            have hLa := Later.trans hL19 hMa
            go_wp2_with fail
            refine (Hgx.out _ _ _ _ _ _ wa hca).mono ?_
            rintro e w20 ⟨Av, nv, kv, rfl, hM20, hrv⟩
            have hQ20 := Later.trans hMa hM20
            have hK20 := Later.trans hK19 hQ20
            have hL20 := Later.trans hL11 hK20
            have hrg20 := hrg.later hQ20
            have hQ1820 := Later.trans hQ19 hQ20
            clear hca hj1a hj2a hj3a hMa hLa hM20 hrg
            go_wp2_with fail
            refine (lawHouse_calls (k1 := k1) (k2 := k2) (k3 := k3) w20 (hc0.later hL20) (by omega) (by omega) (by omega)).mono ?_
            rintro e wa ⟨B1a, j1a, B2a, j2a, B3a, j3a, rfl, hMa, hca, hj1a, hj2a, hj3a⟩
            have hLa := Later.trans hL20 hMa
            go_wp2_with fail
            refine (Hpc.out _ _ _ _ _ _ wa hca).mono ?_
            rintro e w21 ⟨rfl, hM21⟩
            have hQ21 := Later.trans hMa hM21
            have hK21 := Later.trans hK20 hQ21
            have hL21 := Later.trans hL11 hK21
            clear hca hj1a hj2a hj3a hMa hLa hM21
            go_wp2_with fail
            refine (lawHouse_calls (k1 := kh9) (k2 := k2) (k3 := k3) w21 (hcx.later hK21) (by omega) (by omega) (by omega)).mono ?_
            rintro e wa ⟨B1a, j1a, B2a, j2a, B3a, j3a, rfl, hMa, hca, hj1a, hj2a, hj3a⟩
            have hLa := Later.trans hL21 hMa
            go_wp2_with fail
            refine (Hpx.out _ _ _ _ _ _ wa hca).mono ?_
            rintro e w22 ⟨rfl, hM22⟩
            have hQ22 := Later.trans hMa hM22
            have hK22 := Later.trans hK21 hQ22
            have hL22 := Later.trans hL11 hK22
            have hQ2022 := Later.trans hQ21 hQ22
            have hQ1822 := Later.trans hQ1820 hQ2022
            have hQ1622 := Later.trans hQ1618 hQ1822
            have hnc := hrc16.len
            have hnd := hrd.len
            have hnh := hrh18.len
            have hni := hri.len
            have hng := hrg20.len
            have hnv := hrv.len
            rw [Hlc2.out, ← Hn1.out] at hnc
            rw [Hlc1.out, ← Hn1.out] at hnd
            rw [Hlh2.out, ← Hn2.out] at hnh
            rw [Hlh1.out, ← Hn2.out] at hni
            rw [Hlv2.out, ← Hn2.out] at hng
            rw [Hlv1.out, ← Hn2.out] at hnv
            subst nc nd nh ni ng nv
            have Hin1 := hide (inside_calls (k := kc) (j := kd) w22 (hrc16.later hQ1622) (hrd.later hQ1622) (by omega) (fun i a b ha hb => Hordc.out i a b ha hb))
            have Hin2 := hide (fun (W : World) (hW : Later w22 W) => inside_calls (k := kh) (j := ki) W (hrh18.later (Later.trans hQ1822 hW)) (hri.later (Later.trans hQ1822 hW)) (by omega) (fun i a b ha hb => Hordh.out i a b ha hb))
            have Hkp1 := hide (fun (W : World) (hW : Later w22 W) => kept_calls (k := kv) (j := kg) W (hrv.later (Later.trans hQ2022 hW)) (hrg20.later (Later.trans hQ2022 hW)) (by omega) (fun i a b ha hb => Hordv.out i a b ha hb))
            clear hca hj1a hj2a hj3a hMa hLa hM22 hrc16 hrd hrh18 hri hrg20 hrv hQ21 hQ22 hQ2022 hQ1822 hQ1622 hQ1820 hQ1618 hQ19 hQ20 hQ17 hQ18
            go_wp2_with fail
            refine (Hin1.out).mono ?_
            rintro e w23 ⟨rfl, hM23⟩
            go_wp2_with fail
            refine (Hin2.out w23 hM23).mono ?_
            rintro e w24 ⟨rfl, hM24⟩
            have hM24b := Later.trans hM23 hM24
            go_wp2_with fail
            refine (Hkp1.out w24 hM24b).mono ?_
            rintro e w25 ⟨rfl, hM25⟩
            have hL25 := Later.trans hL22 (Later.trans hM24b hM25)
            go_wp2_with fail
            have hbv := Blk.new w25 3 #[.int .i64 v]
            have hbu := Blk.new (w25.alloc (.cells #[.int .i64 v] 3)) 3 #[.int .i64 u]
            rw [World.size_alloc] at hbu
            have hrv1 : RI ((w25.alloc (.cells #[.int .i64 v] 3)).alloc (.cells #[.int .i64 u] 3)) (some ⟨w25.heap.size, 0, none⟩) 1 [v] := (hbv.alloc _).reads rfl fun j u hu => by rw [← hu]; simp [ints]
            have hru1 : RI ((w25.alloc (.cells #[.int .i64 v] 3)).alloc (.cells #[.int .i64 u] 3)) (some ⟨w25.heap.size + 1, 0, none⟩) 1 [u] := hbu.reads rfl fun j u hu => by rw [← hu]; simp [ints]
            refine (kept_calls (k := 1) (j := 1) _ hrv1 hru1 (by omega) (fun i a b ha hb => ?_)).mono ?_
            · have h1 := Hpd.out
              match i, ha, hb with
              | 0, ha, hb =>
                simp only [List.getElem?_cons_zero, Option.some.injEq] at ha hb
                subst ha hb
                exact h1
            rintro e w26 ⟨rfl, hM26⟩
            have hL26 := Later.trans hL25 (Later.trans (later_alloc (later_alloc (later_refl _) _) _) hM26)
            go_wp2_with fail
            refine (awake_calls _).mono ?_
            rintro e wa ⟨rfl, hLa⟩
            go_wp2_with fail
            go_ret
            exact ⟨rfl, Later.trans hL0 (Later.trans hL26 hLa)⟩
          · have hl1 : (0 : Int) < (nl : Int) := by omega
            clear hl0
            go_wp2_with fail
            refine (awake_calls _).mono ?_
            rintro e wa ⟨rfl, hLa⟩
            go_wp2_with fail
            go_ret
            exact ⟨rfl, Later.trans hL0 (Later.trans hL14 hLa)⟩
end Go.Proofs.Ytbkfnajpbhfneaa
