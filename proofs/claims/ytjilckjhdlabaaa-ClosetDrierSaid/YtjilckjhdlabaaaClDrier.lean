/- ClosetDrier: the walk. -/
import Derived.Test.YtjilckjhdlabaaaPart17
import Derived.Test.YtjilckjhdlabaaaPart18
set_option linter.unusedSimpArgs false
set_option linter.unusedVariables false
namespace Go.Proofs.Ytjilckjhdlabaaa
open Go Go.RowKit
attribute [local go_sem] later_alloc2 later_alloc3 later_alloc4

set_option maxRecDepth 100000 in
set_option maxHeartbeats 16000000 in
theorem lawDrier_calls {A1 A2 A3 : Option Addr} {n1 k1 n2 k2 n3 k3 : Nat} {c : Clo} {Aw : Option Addr} {nw kw : Nat} {l : List Nat} {q1 q2 x y : Nat} (w : World) (hc : CV w c A1 n1 A2 n2 A3 n3) (hcl : i64 c.closets) (b1 : n1 ≤ 9223372036854775807) (b2 : n2 ≤ 9223372036854775807) (b3 : n3 ≤ 9223372036854775807)
    (hq1 : q1 < 65536) (hq2 : q2 < 65536) (hw : RW w Aw nw l) (hnw : nw ≤ 9223372036854775807) (hx : x < 256) (hy : y < 256) :
    Calls Try.prog 7 #[(.agg #[.int .i64 c.closets, .int .i64 c.close, .slice A1 n1 k1, .slice A2 n2 k2, .slice A3 n3 k3]), .int .u16 q1, .int .u16 q2, .slice Aw nw kw, .int .u8 x, .int .u8 y] w fun e w' => e = .returned (.bool true) ∧ Later w w' := by
  obtain ⟨w0, hw0⟩ : ∃ W, W = (w.alloc (.cells #[.int .i64 c.closets, .int .i64 c.close, .slice A1 n1 k1, .slice A2 n2 k2, .slice A3 n3 k3] 26)) := ⟨_, rfl⟩; have hbox : ∀ W, Later w0 W → ∀ i, W.cell? ⟨w.heap.size, i, none⟩ = #[.int .i64 c.closets, .int .i64 c.close, .slice A1 n1 k1, .slice A2 n2 k2, .slice A3 n3 k3][i]? := (by rw [hw0]; exact box_cells w #[.int .i64 c.closets, .int .i64 c.close, .slice A1 n1 k1, .slice A2 n2 k2, .slice A3 n3 k3] 26); have hL0 : Later w w0 := (by rw [hw0]; simp); have hc0 := hc.later hL0; have Hw0 := hide hw0; clear hw0
  have hw0' := hw.later hL0
  have hrdy := ready_calls (k1 := k1) (k2 := k2) (k3 := k3) w0 hc0 hcl b1 b2 b3
  cases hth : readyB c with
  | false =>
    rw [hth] at hrdy
    have Hrdy := hide hrdy
    clear hth hrdy
    go_enter Try.func7, Try.ntmps7
    go_wp2_with fail
    rw [← Hw0.out]; clear Hw0
    refine Hrdy.out.mono ?_
    rintro e w1 ⟨rfl, hL1⟩
    go_wp2_with fail
    refine (awake_calls _).mono ?_
    rintro e w2 ⟨rfl, hL2⟩
    go_wp2_with fail
    go_ret
    exact ⟨rfl, Later.trans hL0 (Later.trans hL1 hL2)⟩
  | true =>
    rw [hth] at hrdy
    have hn1 := hc.hs.len
    have hn2 := hc.hu.len
    have hn3 := hc.lk.len
    have hf := (readyB_true hth).2
    have ok := okC_of_fault hf
    have l1 : n1 ≤ 4 := by have := ok.len; omega
    have l2 : n2 ≤ 4 := by have := ok.len; have := ok.hung.len; omega
    have l3 : n3 ≤ 5 := by have := ok.nlooks; omega
    have Hn1 := hide hn1
    have Hn2 := hide hn2
    have Hn3 := hide hn3
    have Hf := hide hf
    have Hrdy := hide hrdy
    clear hth hrdy hn1 hn2 hn3 hf
    by_cases hn0 : n1 = 0
    · have hz : ((n1 : Int) == 0) = true := by simp [hn0]
      clear hn0
      go_enter Try.func7, Try.ntmps7
      go_wp2_with fail
      rw [← Hw0.out]; clear Hw0
      refine Hrdy.out.mono ?_
      rintro e w1 ⟨rfl, hL1⟩
      go_wp2_with fail
      refine (awake_calls _).mono ?_
      rintro e wa ⟨rfl, hLa⟩
      go_wp2_with fail
      go_ret
      exact ⟨rfl, Later.trans hL0 (Later.trans hL1 hLa)⟩
    · have hz : ((n1 : Int) == 0) = false := by simp; omega
      have hz1 : ¬ (n1 : Int) = 0 := by omega
      obtain ⟨k, hk⟩ : ∃ k, x % n1 = k := ⟨_, rfl⟩
      have hkn : k < n1 := by rw [← hk]; exact Nat.mod_lt _ (by omega)
      have hz2 : (x : Int).tmod (n1 : Int) = (k : Int) := by rw [← hk, Int.tmod_eq_emod_of_nonneg (by omega)]; norm_cast
      have hz3 : IntKind.i64.wrap (k : Int) = (k : Int) := IntWalk.i64_in _ (by omega)
      have hz4 : (x : Int) % (n1 : Int) = (k : Int) := by rw [← hk]; norm_cast
      have hz5 : ¬ n1 = 0 := hn0
      have hz6 : IntKind.i64.wrap (x : Int) = (x : Int) := IntWalk.i64_in _ (by omega)
      have hmr := (fault_zero Hf.out).2.2.2.2.2.2
      obtain ⟨ad, HA1⟩ : ∃ ad, Hid (A1 = some ad) := by obtain ⟨ad, e, _⟩ := hc.hs.2 (by omega); exact ⟨ad, hide e⟩
      have hl2 : (horsesV c.horses).length = n1 * 4 := by rw [horsesV_length, ← Hn1.out]
      have hone := rh_one c.horses
      have Hmr := hide hmr
      have Hn0 := hide hn0
      clear hn0 hk hmr
      go_enter Try.func7, Try.ntmps7
      go_wp2_with fail
      rw [← Hw0.out]; clear Hw0
      refine Hrdy.out.mono ?_
      rintro e w1 ⟨rfl, hL1⟩
      have hS1 : Later w0 w1.drew := later_drew hL1
      go_wp2_with fail
      go_region_held3 (fun W => Later w0 W) ((((repeat (first | assumption | refine later_drew ?_ | refine later_alloc ?_ _ | refine later_set ?_ _ (Nat.le_add_right _ _) _ | refine later_set ?_ _ (Nat.le_refl _) _)); done)))
        (first | (go_at_call 42; go_must (refine (Placed_calls (k1 := k1) (k2 := k2) (k3 := k3) (kw := kw) _ (hc0.later hS1) ok (hw0'.later hS1) hnw).mono ?_; rintro e w2 ⟨Ap, kp, p, rfl, hL2, hrp, hkp, hpl⟩; have hL02 := Later.trans hS1 hL2)))
      clear hz2 hz3 hz4 hz5 hz6
      rw [← Hn1.out] at hrp hkp ⊢
      have hcells9 := rh_cells HA1.out ((hc0.later (later_alloc (later_alloc hL02 (.cells #[.int .i64 c.closets, .int .i64 c.close, .slice A1 n1 k1, .slice A2 n2 k2, .slice A3 n3 k3] 26)) (.cells #[] 68))).hs)
      have hb9 := Blk.new w2 26 #[.int .i64 c.closets, .int .i64 c.close, .slice A1 n1 k1, .slice A2 n2 k2, .slice A3 n3 k3]
      have hL39 : Later w0 (w2.alloc (.cells #[.int .i64 c.closets, .int .i64 c.close, .slice A1 n1 k1, .slice A2 n2 k2, .slice A3 n3 k3] 26)) := later_alloc hL02 _
      have hrow9 := World.ownsRow_made (base := w0.heap.size) (e := 68) (size := 4) (w2.alloc (.cells #[.int .i64 c.closets, .int .i64 c.close, .slice A1 n1 k1, .slice A2 n2 k2, .slice A3 n3 k3] 26)) #[] 0 hL39.size (by unfold maxLen; omega) rfl
      have hz39 : (w2.alloc (.cells #[.int .i64 c.closets, .int .i64 c.close, .slice A1 n1 k1, .slice A2 n2 k2, .slice A3 n3 k3] 26)).heap.size = w2.heap.size + 1 := by simp
      rw [hz39] at hrow9
      have Hz39 := hide hz39
      have Hrow9 := hide hrow9
      have Hcells9 := hide hcells9
      have HL39 := hide hL39
      have Hb9 := hide hb9
      clear hz39 hrow9 hcells9 hL39 hb9
      go_wp2_with (at_builtin; go_loud (refine appG rfl w0.heap.size _ _ 22 rfl 68 (.agg #[.int .i64 0, .int .i64 0, .int .i64 0, .int .i64 0]) 4 32 Try.underlying22 rhorse_info rfl (by omega) _ 0 [] rfl (later_alloc HL39.out (.cells #[] 68)).size Hrow9.out ad n1 k1 (horsesV c.horses) (slice_eq HA1.out rfl) hl2 Hcells9.out hone (by omega) (by omega) (by omega) ?_))
      intro v9 w9 hap9
      have hL9a : Later w2 w9 := Later.grown (later_alloc (later_alloc (later_refl w2) (.cells #[.int .i64 c.closets, .int .i64 c.close, .slice A1 n1 k1, .slice A2 n2 k2, .slice A3 n3 k3] 26)) (.cells #[] 68)) hap9.grown (fun g hg => by injection hg with hg; have e2 : w2.heap.size + 1 = g := hg; omega)
      have hblt9 := Hb9.out.lt
      have hb9b := Blk.of_eq (hap9.grown.block _ (Nat.lt_of_lt_of_le hblt9 (by simp)) (fun e => by injection e with e; (first | (have e2 : w2.heap.size + 1 = w2.heap.size := e; omega) | (have e2 : w2.heap.size = w2.heap.size + 1 := e; omega)))) (Hb9.out.alloc (.cells #[] 68))
      obtain ⟨gh9, kh9, rfl⟩ : ∃ g k, v9 = .slice (some ⟨g, 0, none⟩) n1 k := own_form (by simpa using hap9.own) (by omega)
      have hox9 : w9.ownsRow w0.heap.size 68 4 (.slice (some ⟨gh9, 0, none⟩) n1 kh9) n1 (horsesV c.horses) := by simpa using hap9.own
      have hgn9 : w2.heap.size < gh9 := by
        rcases hap9.at_ with e | e
        · injection e with e; have e2 : gh9 = w2.heap.size + 1 := e; omega
        · injection e with e; have e2 : gh9 = _ := e; rw [World.size_alloc, World.size_alloc] at e2; omega
      clear hap9 hblt9
      clear Hrow9 Hcells9 HL39 Hz39 Hb9
      generalize hg9 : w2.heap.size = g9 at *
      have hlo9 : w2.heap.size ≤ g9 := Nat.le_of_eq hg9
      have hlh9 : w2.heap.size ≤ gh9 := by omega
      have hgn9 : g9 ≠ gh9 := by omega
      have Hg9 := hide hg9
      clear hg9
      have hx0 := hb9b.cell 0
      have hx1 := hb9b.cell 1
      have hx2 := hb9b.cell 2
      have hx3 := hb9b.cell 3
      have hx4 := hb9b.cell 4
      have hf2 := hb9b.frozen 2
      have hf4 := hb9b.frozen 4
      simp only [List.getElem?_toArray, List.getElem?_cons_zero, List.getElem?_cons_succ] at hx0 hx1 hx2 hx3 hx4
      go_upto_region 7 with fail
      obtain ⟨wA, hwA⟩ : ∃ W, W = (w9.setCell ⟨g9, 2, none⟩ (.slice (some ⟨gh9, 0, none⟩) n1 kh9)).setCell ⟨g9, 4, none⟩ (.slice none 0 0) := ⟨_, rfl⟩
      have hbA : Blk wA g9 26 #[.int .i64 c.closets, .int .i64 c.close, .slice (some ⟨gh9, 0, none⟩) n1 kh9, .slice A2 n2 k2, .slice none 0 0] := by rw [hwA]; exact (hb9b.set_ 2 _).set_ 4 _
      have hLA : Later w2 wA := by rw [hwA]; exact later_set (later_set hL9a _ hlo9 _) _ hlo9 _
      have hoA : wA.ownsRow w0.heap.size 68 4 (.slice (some ⟨gh9, 0, none⟩) n1 kh9) n1 (horsesV c.horses) := by
        rw [hwA]
        refine own_block (own_block hox9 (fun g hg => Below.heap_setCell w9 _ _ g (by injection hg with hg; show g ≠ g9; exact fun e => hgn9 (e.symm.trans hg.symm)))) (fun g hg => Below.heap_setCell _ _ _ g (by injection hg with hg; show g ≠ g9; exact fun e => hgn9 (e.symm.trans hg.symm)))
      rw [← hwA]
      clear hwA hb9b hox9 hL9a hx0 hx1 hx2 hx3 hx4 hf2 hf4
      go_cut [] (fun (W : World) => ∃ (yk : Horse) (t : Int), c.horses[k]? = some yk ∧ 0 ≤ t ∧ Later w2 W ∧ CV W (drierC c k { yk with wet := max 0 (yk.wet - t) }) (some ⟨gh9, 0, none⟩) n1 A2 n2 none 0 ∧ Blk W g9 26 #[.int .i64 c.closets, .int .i64 c.close, .slice (some ⟨gh9, 0, none⟩) n1 kh9, .slice A2 n2 k2, .slice none 0 0])
      case first =>
        have hbx := fun W (hW : Later wA W) => hbox W (Later.trans hL02 (Later.trans hLA hW))
        have hbxA := fun W (hW : Later wA W) => (hbA.later hW).cell
        have hxA2 := fun W hW => hbxA W hW 2
        simp only [List.getElem?_toArray, List.getElem?_cons_zero, List.getElem?_cons_succ] at hxA2
        have hcA := hc0.later (Later.trans hL02 hLA)
        obtain ⟨t, ht⟩ : ∃ t : Int, (y : Int) % 4 = t := ⟨_, rfl⟩
        have ht0 : 0 ≤ t ∧ t ≤ 3 := by omega
        clear hbox hbxA
        obtain ⟨b, o, yk, hAe, hbl, hyk, hk0, hk1, hk2, hk3⟩ := hcA.hs.get hkn
        have hgy := ok.horse yk (List.mem_of_getElem? hyk)
        have hwt : wrap64 (yk.wet - t) = yk.wet - t := by unfold wrap64; omega
        obtain ⟨m, hm⟩ : ∃ m, max 0 (yk.wet - t) = m := ⟨_, rfl⟩
        have Hyk := hide hyk
        have Hm := hide hm
        clear hyk hm
        subst hAe
        go_wp2_with fail
        refine wp_region_ext_tail (w0 := wA) 14 (by kernel_rfl) (by kernel_rfl) (later_refl _) ?_; simp only [List.take_succ_cons, List.take_zero, List.drop_succ_cons, List.drop_zero]; (repeat (first | go_big_quiet_step ((fail)) | quiet_step ((fail)))); refine wpQuiet_nil ?_; rintro w1 ⟨⟨_, hL1⟩, rfl⟩; (try dsimp only)
        have hox := own_later hoA hL1
        have hst := fun u => hox.stored (k * 4 + 2) u
        have hxc := hox.cellAt (k * 4 + 2) (by omega)
        rw [(horsesV_at Hyk.out).2.2.1] at hxc
        have hxf := hox.frozenAt (k * 4 + 2)
        by_cases hlt : 0 < yk.wet - t
        · obtain rfl : m = yk.wet - t := by have := Hm.out; omega
          go_wp2_with fail
          go_meet
          case rel =>
            have hL2 := Later.trans hLA hL1
            have hfin : ∀ u, Later w2 (w1.setCell ⟨gh9, k * 4 + 2, none⟩ u) := fun u => later_set hL2 _ hlh9 u
            have hf0 := fun u => Later.trans hL02 (hfin u)
            refine ⟨yk, t, Hyk.out, ht0.1, hfin _, ⟨?_, (hc0.later (hf0 _)).hu, ⟨rfl, fun h => absurd h (by omega)⟩⟩, (hbA.later hL1).far hgn9 _⟩
            have h1 := (hst (.int .i64 (yk.wet - t))).1
            rw [← horsesV_wet Hyk.out] at h1
            show RH _ _ _ (c.horses.set k _)
            rw [Hm.out]
            exact Reads.of_own h1
        · obtain rfl : m = 0 := by have := Hm.out; omega
          go_wp2_with fail
          go_meet
          case rel =>
            have hL2 := Later.trans hLA hL1
            have hfin : ∀ u, Later w2 (w1.setCell ⟨gh9, k * 4 + 2, none⟩ u) := fun u => later_set hL2 _ hlh9 u
            have hf0 := fun u => Later.trans hL02 (hfin u)
            refine ⟨yk, t, Hyk.out, ht0.1, hfin _, ⟨?_, (hc0.later (hf0 _)).hu, ⟨rfl, fun h => absurd h (by omega)⟩⟩, (hbA.later hL1).far hgn9 _⟩
            have h1 := (hst (.int .i64 0)).1
            rw [← horsesV_wet Hyk.out] at h1
            show RH _ _ _ (c.horses.set k _)
            rw [Hm.out]
            exact Reads.of_own h1
      case rest =>
        obtain ⟨yk, t, hyk, ht0, hL2x, hcx, hbx⟩ := hcut
        obtain ⟨wd, rfl⟩ : ∃ W : World, W = wc := ⟨_, rfl⟩
        have hLx := Later.trans hL02 hL2x
        have okh : ∀ h ∈ c.horses, 1 ≤ h.lo ∧ h.lo ≤ h.hi ∧ h.hi ≤ 60 := fun h hh => by have := ok.horse h hh; omega
        have hmny := many_range okh
        obtain ⟨my, hmy⟩ : ∃ m, many c = m := ⟨_, rfl⟩
        have hmyc := fun (W : World) (hW : Later w0 W) => Many_calls (k1 := k1) (k2 := k2) (k3 := k3) W (hc0.later hW) okh (by omega)
        rw [hmy] at hmyc
        have hnth := fun (q : Int) (hq0 : 0 ≤ q) (hq : q ≤ 1000000) (W : World) (hW : Later w0 W) => Nth_own_calls (k1 := k1) (k2 := k2) (k3 := k3) (n := q) W (hc0.later hW) okh (by omega) hq0 hq
        rw [hmy] at hmny
        obtain ⟨m1, hm1⟩ : ∃ m, (q1 : Int) % my = m := ⟨_, rfl⟩
        obtain ⟨m2, hm2⟩ : ∃ m, (q2 : Int) % my = m := ⟨_, rfl⟩
        have hr1 : 0 ≤ m1 ∧ m1 < my := by rw [← hm1]; exact ⟨Int.emod_nonneg _ (by omega), Int.emod_lt_of_pos _ (by omega)⟩
        have hr2 : 0 ≤ m2 ∧ m2 < my := by rw [← hm2]; exact ⟨Int.emod_nonneg _ (by omega), Int.emod_lt_of_pos _ (by omega)⟩
        have hv1 : ¬ my = 0 := by omega
        have hv2 : (q1 : Int).tmod my = m1 := by rw [← hm1, Int.tmod_eq_emod_of_nonneg (by omega)]
        have hv3 : (q2 : Int).tmod my = m2 := by rw [← hm2, Int.tmod_eq_emod_of_nonneg (by omega)]
        have hv4 : IntKind.i64.wrap m1 = m1 := IntWalk.i64_in _ (by omega)
        have hv5 : IntKind.i64.wrap m2 = m2 := IntWalk.i64_in _ (by omega)
        have hv6 : IntKind.i64.wrap (q1 : Int) = (q1 : Int) := IntWalk.i64_in _ (by omega)
        have hv7 : IntKind.i64.wrap (q2 : Int) = (q2 : Int) := IntWalk.i64_in _ (by omega)
        have hN1 := hnth m1 (by omega) (by omega)
        have hN2 := hnth m2 (by omega) (by omega)
        obtain ⟨d1, hd1⟩ : ∃ d, nth c.horses m1 = d := ⟨_, rfl⟩
        obtain ⟨d2, hd2⟩ : ∃ d, nth c.horses m2 = d := ⟨_, rfl⟩
        rw [hd1] at hN1
        rw [hd2] at hN2
        have HN1 := hide hN1
        have HN2 := hide hN2
        have Hmyc := hide hmyc
        have Hd1 := hide hd1
        have Hd2 := hide hd2
        clear hN1 hN2 hnth hmyc hd1 hd2
        go_upto_region 8 with fail
        have hSc : Later wd wd.drew := later_drew (later_refl _)
        go_cut [16, 17] (fun (va vb : Value) (W : World) => ∃ ga ka gb kb, va = .slice (some ⟨ga, 0, none⟩) n1 ka ∧ vb = .slice (some ⟨gb, 0, none⟩) n1 kb ∧ Later wd W ∧ W.ownsRow wd.heap.size 3 1 (.slice (some ⟨ga, 0, none⟩) n1 ka) n1 (ints d1) ∧ W.ownsRow wd.heap.size 3 1 (.slice (some ⟨gb, 0, none⟩) n1 kb) n1 (ints d2) ∧ ga ≠ gb)
        case first =>
          have hbx := fun W (hW : Later wd W) => hbox W (Later.trans hLx hW)
          have hwd : wd.heap.size ≤ wd.drew.heap.size := Nat.le_refl _
          clear hbox
          refine wp_region_lin (w0 := wd) 14 [] rely_later (by kernel_rfl) (by kernel_rfl) (by kernel_rfl) (by kernel_rfl) (hSc) (.inl rfl) ?_
          simp only [List.take_succ_cons, List.take_zero, List.drop_succ_cons, List.drop_zero]
          refine lin_det (v := ?_) (F' := ?_) (by rfl) (fun _ => by rfl) ?_ ?_ ?_
          rotate_left 2
          focus (intro xs X hX hdep; clear hdep; (try dsimp only); go_simp; (try (first | with_reducible rfl | exact ⟨rfl, rfl⟩ | (fail))))
          focus (intro xs; (try simp only [Act.put, List.setIfInBounds_toArray, List.set_cons_zero, List.set_cons_succ, Nat.reduceAdd]); rfl)
          refine lin_det (v := ?_) (F' := ?_) (by rfl) (fun _ => by rfl) ?_ ?_ ?_
          rotate_left 2
          focus (intro xs X hX hdep; clear hdep; (try dsimp only); go_simp; (try (first | with_reducible rfl | exact ⟨rfl, rfl⟩ | (fail))))
          focus (intro xs; (try simp only [Act.put, List.setIfInBounds_toArray, List.set_cons_zero, List.set_cons_succ, Nat.reduceAdd]); rfl)
          refine lin_det (v := ?_) (F' := ?_) (by rfl) (fun _ => by rfl) ?_ ?_ ?_
          rotate_left 2
          focus (intro xs X hX hdep; clear hdep; (try dsimp only); go_simp; (try (first | with_reducible rfl | exact ⟨rfl, rfl⟩ | (fail))))
          focus (intro xs; (try simp only [Act.put, List.setIfInBounds_toArray, List.set_cons_zero, List.set_cons_succ, Nat.reduceAdd]); rfl)
          refine lin_det (v := ?_) (F' := ?_) (by rfl) (fun _ => by rfl) ?_ ?_ ?_
          rotate_left 2
          focus (intro xs X hX hdep; clear hdep; (try dsimp only); go_simp; (try (first | with_reducible rfl | exact ⟨rfl, rfl⟩ | (fail))))
          focus (intro xs; (try simp only [Act.put, List.setIfInBounds_toArray, List.set_cons_zero, List.set_cons_succ, Nat.reduceAdd]); rfl)
          refine lin_det (v := ?_) (F' := ?_) (by rfl) (fun _ => by rfl) ?_ ?_ ?_
          rotate_left 2
          focus (intro xs X hX hdep; clear hdep; (try dsimp only); go_simp; (try (first | with_reducible rfl | exact ⟨rfl, rfl⟩ | (exact Hmyc.out X (Later.trans hLx hX)))))
          focus (intro xs; (try simp only [Act.put, List.setIfInBounds_toArray, List.set_cons_zero, List.set_cons_succ, Nat.reduceAdd]); rfl)
          refine lin_det (v := ?_) (F' := ?_) (by rfl) (fun _ => by rfl) ?_ ?_ ?_
          rotate_left 2
          focus (intro xs X hX hdep; clear hdep; (try dsimp only); go_simp; (try (first | with_reducible rfl | exact ⟨rfl, rfl⟩ | (fail))))
          focus (intro xs; (try simp only [Act.put, List.setIfInBounds_toArray, List.set_cons_zero, List.set_cons_succ, Nat.reduceAdd]); rfl)
          refine lin_any (fun v W => ∃ g k, v = .slice (some ⟨g, 0, none⟩) n1 k ∧ W.ownsRow wd.heap.size 3 1 v n1 (ints d1)) true (fun v W W' h ⟨g, k, e, ho⟩ => ⟨g, k, e, own_later ho h⟩) (F' := ?_) (by rfl) (fun _ => by rfl) ?_ ?_ ?_
          rotate_left 1
          focus (intro xs X hX hdep; skip; clear hdep; intro K hK; (try dsimp only); go_simp; (refine (HN1.out X (Later.trans hLx hX)).mono ?_; rintro e W' ⟨v, rfl, hL, ho⟩; obtain ⟨g, kg, rfl⟩ := own_form ho (by omega); exact hK.out _ _ rfl hL ⟨g, kg, rfl, World.ownsRow.mono ho hX.size⟩ (fun _ => ⟨g, rfl, ho.lt g rfl⟩)))
          focus (intro xs; (try simp only [Act.put, List.setIfInBounds_toArray, List.set_cons_zero, List.set_cons_succ, Nat.reduceAdd]); rfl)
          refine lin_det (v := ?_) (F' := ?_) (by rfl) (fun _ => by rfl) ?_ ?_ ?_
          rotate_left 2
          focus (intro xs X hX hdep; clear hdep; (try dsimp only); go_simp; (try (first | with_reducible rfl | exact ⟨rfl, rfl⟩ | (fail))))
          focus (intro xs; (try simp only [Act.put, List.setIfInBounds_toArray, List.set_cons_zero, List.set_cons_succ, Nat.reduceAdd]); rfl)
          refine lin_det (v := ?_) (F' := ?_) (by rfl) (fun _ => by rfl) ?_ ?_ ?_
          rotate_left 2
          focus (intro xs X hX hdep; clear hdep; (try dsimp only); go_simp; (try (first | with_reducible rfl | exact ⟨rfl, rfl⟩ | (fail))))
          focus (intro xs; (try simp only [Act.put, List.setIfInBounds_toArray, List.set_cons_zero, List.set_cons_succ, Nat.reduceAdd]); rfl)
          refine lin_det (v := ?_) (F' := ?_) (by rfl) (fun _ => by rfl) ?_ ?_ ?_
          rotate_left 2
          focus (intro xs X hX hdep; clear hdep; (try dsimp only); go_simp; (try (first | with_reducible rfl | exact ⟨rfl, rfl⟩ | (fail))))
          focus (intro xs; (try simp only [Act.put, List.setIfInBounds_toArray, List.set_cons_zero, List.set_cons_succ, Nat.reduceAdd]); rfl)
          refine lin_det (v := ?_) (F' := ?_) (by rfl) (fun _ => by rfl) ?_ ?_ ?_
          rotate_left 2
          focus (intro xs X hX hdep; clear hdep; (try dsimp only); go_simp; (try (first | with_reducible rfl | exact ⟨rfl, rfl⟩ | (fail))))
          focus (intro xs; (try simp only [Act.put, List.setIfInBounds_toArray, List.set_cons_zero, List.set_cons_succ, Nat.reduceAdd]); rfl)
          refine lin_det (v := ?_) (F' := ?_) (by rfl) (fun _ => by rfl) ?_ ?_ ?_
          rotate_left 2
          focus (intro xs X hX hdep; clear hdep; (try dsimp only); go_simp; (try (first | with_reducible rfl | exact ⟨rfl, rfl⟩ | (exact Hmyc.out X (Later.trans hLx hX)))))
          focus (intro xs; (try simp only [Act.put, List.setIfInBounds_toArray, List.set_cons_zero, List.set_cons_succ, Nat.reduceAdd]); rfl)
          refine lin_det (v := ?_) (F' := ?_) (by rfl) (fun _ => by rfl) ?_ ?_ ?_
          rotate_left 2
          focus (intro xs X hX hdep; clear hdep; (try dsimp only); go_simp; (try (first | with_reducible rfl | exact ⟨rfl, rfl⟩ | (fail))))
          focus (intro xs; (try simp only [Act.put, List.setIfInBounds_toArray, List.set_cons_zero, List.set_cons_succ, Nat.reduceAdd]); rfl)
          refine lin_any (fun v W => ∃ g k, v = .slice (some ⟨g, 0, none⟩) n1 k ∧ W.ownsRow wd.heap.size 3 1 v n1 (ints d2)) true (fun v W W' h ⟨g, k, e, ho⟩ => ⟨g, k, e, own_later ho h⟩) (F' := ?_) (by rfl) (fun _ => by rfl) ?_ ?_ ?_
          rotate_left 1
          focus (intro xs X hX hdep; skip; clear hdep; intro K hK; (try dsimp only); go_simp; (refine (HN2.out X (Later.trans hLx hX)).mono ?_; rintro e W' ⟨v, rfl, hL, ho⟩; obtain ⟨g, kg, rfl⟩ := own_form ho (by omega); exact hK.out _ _ rfl hL ⟨g, kg, rfl, World.ownsRow.mono ho hX.size⟩ (fun _ => ⟨g, rfl, ho.lt g rfl⟩)))
          focus (intro xs; (try simp only [Act.put, List.setIfInBounds_toArray, List.set_cons_zero, List.set_cons_succ, Nat.reduceAdd]); rfl)
          intro xs W hW hf hfr hfb
          have h6 := hf 6
          have h13 := hf 13
          have hne := hfr 6 13 (by omega) rfl rfl
          obtain ⟨ga, ka, hx6, hoa⟩ := h6
          obtain ⟨gb, kb, hx13, hob⟩ := h13
          simp only [hx6, hx13, Nat.reduceAdd, Nat.zero_add] at hoa hob hne ⊢
          clear hf hfr hfb hx6 hx13
          go_wp2_with fail
          go_meet
          case rel => exact ⟨ga, ka, gb, kb, rfl, rfl, hW, hoa, hob, fun e => hne (by rw [e]; rfl)⟩
        case rest =>
          obtain ⟨ga, ka, gb, kb, rfl, rfl, hLd, hoa, hob, hgab⟩ := hcut
          have ha := nth_dry c.horses m1 okh
          have hb := nth_dry c.horses m2 okh
          rw [Hd1.out] at ha
          rw [Hd2.out] at hb
          have la := areNumbers_len _ _ ha
          have lb := areNumbers_len _ _ hb
          obtain ⟨hp1, hp2, hp3, hp4, hp5⟩ := drier_law Hf.out hyk ht0 hpl ha hb
          have Hla := hide la
          have Hlb := hide lb
          have Hp1 := hide hp1
          have Hp2 := hide hp2
          have Hp3 := hide hp3
          have Hp4 := hide hp4
          have Hp5 := hide hp5
          have Hyk := hide hyk
          clear la lb hp1 hp2 hp3 hp4 hp5 hyk ha hb hmny hr1 hr2 hv1 hv2 hv3 hv4 hv5 hv6 hv7 hm1 hm2
          go_wp2_with fail
          go_loopw [18] (fun v wr => ∃ j : Nat, j ≤ n1 ∧ v = .int .i64 j ∧ Later wd wr ∧ wr.ownsRow wd.heap.size 3 1 (.slice (some ⟨ga, 0, none⟩) n1 ka) n1 (ints d1) ∧ wr.ownsRow wd.heap.size 3 1 (.slice (some ⟨gb, 0, none⟩) n1 kb) n1 (ints (minTo d1 d2 j))) (fun v _ => n1 - (intOf v).toNat)
          case atStart => exact ⟨0, Nat.zero_le _, rfl, hLd, hoa, by rw [minTo_zero]; exact hob⟩
          case round =>
            obtain ⟨j, hj, rfl, hL, hoa, hob⟩ := hrel
            by_cases hlt : j < n1
            · have hi1 : (j : Int) < n1 := by omega
              have hja : j < d1.length := by have := Hn1.out; rw [Hla.out]; omega
              have hjb : j < d2.length := by have := Hn1.out; rw [Hlb.out]; omega
              obtain ⟨xa, hxa⟩ : ∃ v, d1[j]? = some v := ⟨_, List.getElem?_eq_getElem hja⟩
              obtain ⟨xb, hxb⟩ : ∃ v, d2[j]? = some v := ⟨_, List.getElem?_eq_getElem hjb⟩
              have hmj : (minTo d1 d2 j)[j]? = some xb := by rw [minTo_at hjb, if_neg (by omega), List.getD_eq_getElem?_getD, hxb]; rfl
              have ca := fun (W : World) (h : Later wr W) => ((own_later hoa h).cellAt j (by omega)).trans (ints_at hxa)
              have cb := fun (W : World) (h : Later wr W) => ((own_later hob h).cellAt j (by omega)).trans (ints_at hmj)
              have hsu := minTo_succ hjb hxa hxb
              have Hsu := hide hsu
              have Hoa := hide hoa
              have Hob := hide hob
              clear hsu hmj hxa hxb hja hjb hoa hob
              go_wp2_with fail
              refine wp_region_ext_tail (w0 := wr) 11 (by kernel_rfl) (by kernel_rfl) (later_refl _) ?_; simp only [List.take_succ_cons, List.take_zero, List.drop_succ_cons, List.drop_zero]; (repeat (first | go_big_quiet_step ((fail)) | quiet_step ((fail)))); refine wpQuiet_nil ?_; rintro w1 ⟨⟨_, hL1⟩, rfl⟩; (try dsimp only)
              have hoa1 := own_later Hoa.out hL1
              have hob1 := own_later Hob.out hL1
              have hst := fun u => (hob1.stored j u).1
              have hxf := hob1.frozenAt j
              have cb1 := cb _ hL1
              clear ca cb
              have hgb := (hob1.lt gb rfl).1
              have fin : ∀ u, Later wd (w1.setCell ⟨gb, j, none⟩ u) := fun u => later_set (Later.trans hL hL1) _ hgb u
              have hoa2 := fun u => own_block (W' := w1.setCell ⟨gb, j, none⟩ u) hoa1 (fun g hg => Below.heap_setCell w1 _ _ g (by injection hg with hg; show g ≠ gb; exact fun e => hgab (hg.trans e)))
              clear hoa1 hob1
              by_cases hab : xb < xa
              · have hm : min xa xb = xb := by omega
                have hst1 := hst (.int .i64 xb)
                rw [ints_setL, ← hm, Hsu.out, hm] at hst1
                go_wp2_with fail
                exact ⟨⟨j + 1, by omega, by go_num, fin _, hoa2 _, hst1⟩, by simp [intOf]; omega⟩
              · have hm : min xa xb = xa := by omega
                have hst1 := hst (.int .i64 xa)
                rw [ints_setL, ← hm, Hsu.out, hm] at hst1
                go_wp2_with fail
                exact ⟨⟨j + 1, by omega, by go_num, fin _, hoa2 _, hst1⟩, by simp [intOf]; omega⟩
            · have hi1 : ¬ (j : Int) < n1 := by omega
              obtain rfl : j = n1 := by omega
              have hmf : minTo d1 d2 j = minL d1 d2 := by
                have e1 : j = d2.length := by have := Hn1.out; rw [Hlb.out]; omega
                rw [e1]; exact minTo_full (by rw [Hla.out, Hlb.out])
              rw [hmf] at hob
              have hLr := Later.trans hLx hL
              have hra : RI wr (some ⟨ga, 0, none⟩) j d1 := Reads.of_own hoa
              have hrb0 : RI wr (some ⟨gb, 0, none⟩) j (minL d1 d2) := Reads.of_own hob
              have hrpr := hrp.later (Later.trans hL2x hL)
              have hcxr := hcx.later hL
              have hbxr := hbx.later hL
              have hpc := fun (B1 B2 B3 : Option Addr) (j1 j2 j3 : Nat) (W : World) (h : CV W c B1 j B2 n2 B3 n3) (h2 : n2 ≤ j2) (Aq Ar : Option Addr) (kq kr : Nat) (hq : RI W Aq j p) (hk : j ≤ kq) (hr : RI W Ar j d1) =>
                PlayP_calls (k1 := j1) (k2 := j2) (k3 := j3) (kp := kq) (kd := kr) W h hcl (by omega) (by omega) (by omega) h2 hq hk (by omega) hr (by omega)
              have hpx := fun (B1 B2 B3 : Option Addr) (j1 j2 j3 : Nat) (W : World) (h : CV W (drierC c k { yk with wet := max 0 (yk.wet - t) }) B1 j B2 n2 B3 0) (h2 : n2 ≤ j2) (Aq Ar : Option Addr) (kq kr : Nat) (hq : RI W Aq j p) (hk : j ≤ kq) (hr : RI W Ar j (minL d1 d2)) =>
                PlayP_calls (k1 := j1) (k2 := j2) (k3 := j3) (kp := kq) (kd := kr) W h hcl (by omega) (by omega) (by omega) h2 hq hk (by omega) hr (by omega)
              unfold PlayPost at hpc hpx
              rw [Hp1.out] at hpc
              rw [Hp2.out] at hpx
              have Hpc := hide hpc
              have Hpx := hide hpx
              have hboxr := fun W (hW : Later wr W) => hbox W (Later.trans hLr hW)
              have hKr : Later wr wr := later_refl _
              clear hlt hmf hpc hpx hoa hob hbx hcx
              go_wp2_with fail
              refine (lawCloset_calls (k1 := k1) (k2 := k2) (k3 := k3) wr (hc0.later hLr) (by omega) (by omega) (by omega)).mono ?_
              rintro e wa ⟨B1a, j1a, B2a, j2a, B3a, j3a, rfl, hMa, hca, hj1a, hj2a, hj3a⟩
              have hLa := Later.trans hLr hMa
              go_wp2_with fail
              refine (list_calls _ (hrpr.later hMa) (by omega)).mono ?_
              rintro e wb ⟨Ab, nb, kb, rfl, hMb, hrb, hkb, _⟩
              have hLb := Later.trans hMa hMb
              have hnb := hrb.len
              rw [← hrpr.len] at hnb
              subst nb
              go_wp2_with fail
              refine (list_calls _ (hra.later hLb) (by omega)).mono ?_
              rintro e we ⟨Ae, ne, ke, rfl, hMe, hre, hke, _⟩
              have hLe := Later.trans hLb hMe
              have hne := hre.len
              rw [← hra.len] at hne
              subst ne
              go_wp2_with fail
              refine (Hpc.out _ _ _ _ _ _ we (hca.later (Later.trans hMb hMe)) hj2a _ _ _ _ (hrb.later hMe) hkb hre).mono ?_
              rintro e w5 ⟨Al, nl, kl, rfl, hM5, hrl, hkl⟩
              have hK5 := Later.trans hLe hM5
              have hL5 := Later.trans hLr hK5
              have hx5 := hcxr.later hK5
              have hb5 := fun W (hW : Later w5 W) => (hbxr.later (Later.trans hK5 hW)).cell
              clear hca hrb hre hj1a hj2a hj3a hMa hMb hMe hLa hLb hLe hM5
              have hy0 := fun W hW => hb5 W hW 0
              have hy1 := fun W hW => hb5 W hW 1
              have hy2 := fun W hW => hb5 W hW 2
              have hy3 := fun W hW => hb5 W hW 3
              have hy4 := fun W hW => hb5 W hW 4
              simp only [List.getElem?_toArray, List.getElem?_cons_zero, List.getElem?_cons_succ] at hy0 hy1 hy2 hy3 hy4
              have hT5 : Later w5 w5 := later_refl _
              clear hb5
              go_wp2_with fail
              refine (lawCloset_calls (k1 := kh9) (k2 := k2) (k3 := 0) w5 hx5 (by omega) (by omega) (by omega)).mono ?_
              rintro e wa ⟨B1a, j1a, B2a, j2a, B3a, j3a, rfl, hMa, hca, hj1a, hj2a, hj3a⟩
              have hLa := Later.trans hK5 hMa
              go_wp2_with fail
              refine (list_calls _ (hrpr.later hLa) (by omega)).mono ?_
              rintro e wb ⟨Ab, nb, kb, rfl, hMb, hrb, hkb, _⟩
              have hLb := Later.trans hLa hMb
              have hnb := hrb.len
              rw [← hrpr.len] at hnb
              subst nb
              go_wp2_with fail
              refine (list_calls _ (hrb0.later hLb) (by omega)).mono ?_
              rintro e we ⟨Ae, ne, ke, rfl, hMe, hre, hke, _⟩
              have hLe := Later.trans hLb hMe
              have hne := hre.len
              rw [← hrb0.len] at hne
              subst ne
              go_wp2_with fail
              refine (Hpx.out _ _ _ _ _ _ we (hca.later (Later.trans hMb hMe)) hj2a _ _ _ _ (hrb.later hMe) hkb hre).mono ?_
              rintro e w6 ⟨Am, nm, km, rfl, hM6, hrm, hkm⟩
              have hK56 := Later.trans hMa (Later.trans hMb (Later.trans hMe hM6))
              have hL6 := Later.trans hL5 hK56
              have hrl6 := hrl.later hK56
              have hra6 := hra.later (Later.trans hK5 hK56)
              have hnl := hrl6.len
              have hnm := hrm.len
              rw [Hp3.out, ← Hn1.out] at hnl
              rw [Hp4.out, ← Hn1.out] at hnm
              subst nl nm
              have hnn : ((j : Int) != (j : Int)) = false := by simp
              clear hca hrb hre hj1a hj2a hj3a hMa hMb hMe hLa hLb hLe hM6 hK56 hrl
              go_wp2_with fail
              go_loopw [23] (fun v wr => ∃ i : Nat, i ≤ j ∧ v = .int .i64 i ∧ Later w6 wr) (fun v _ => j - (intOf v).toNat)
              case atStart => exact ⟨0, Nat.zero_le _, rfl, later_refl _⟩
              case round =>
                obtain ⟨i, hi, rfl, hL⟩ := hrel
                have hL6r := Later.trans hL6 hL
                by_cases hlt : i < j
                · have hi1 : (i : Int) < j := by omega
                  obtain ⟨bl, ol, li, rfl, _, hli, cl⟩ := hrl6.get hlt
                  obtain ⟨bm, om, mi, rfl, _, hmi, cm⟩ := hrm.get hlt
                  obtain ⟨ba, oa, ai, e, _, hai, ca⟩ := hra6.get hlt
                  obtain ⟨rfl, rfl⟩ := some_lit e
                  obtain ⟨g1, g2, g3, g4⟩ := Hp5.out i (by have := Hn1.out; omega)
                  rw [hli] at g1
                  rw [hmi] at g2
                  injection g1 with g1
                  injection g2 with g2
                  rw [List.getD_eq_getElem?_getD, hai] at g4
                  simp only [Option.getD_some] at g4
                  rw [← g2, ← g1] at g3
                  rw [← g1] at g4
                  have hd1 : decide (li < mi) = false := decide_eq_false (by omega)
                  have hd2 : decide (li < ai) = false := decide_eq_false (by omega)
                  have cl' := fun W (hW : Later wr W) => cl W (Later.trans hL hW)
                  have cm' := fun W (hW : Later wr W) => cm W (Later.trans hL hW)
                  have ca' := fun W (hW : Later wr W) => ca W (Later.trans hL hW)
                  simp only [Nat.zero_add] at ca'
                  clear cl cm ca hli hmi hai g1 g2 g3 g4
                  go_wp2_with fail
                  refine wp_region_ext (w0 := wr) (by kernel_rfl) (by kernel_rfl) (later_refl _) ?_; (repeat (first | go_big_quiet_step ((fail)) | quiet_step ((fail)))); refine wpQuiet_nil ?_; rintro w8 ⟨⟨_, hM8⟩, rfl⟩; (try dsimp only)
                  go_wp2_with fail
                  go_roundw
                  case rel => exact ⟨i + 1, hlt, by go_num, Later.trans hL hM8⟩
                  case measure => simp [intOf]; omega
                · have hi1 : ¬ (i : Int) < j := by omega
                  clear hlt
                  go_wp2_with fail
                  refine (awake_calls _).mono ?_
                  rintro e wa ⟨rfl, hLa⟩
                  go_wp2_with fail
                  go_ret
                  exact ⟨rfl, Later.trans hL0 (Later.trans hL6r hLa)⟩
end Go.Proofs.Ytjilckjhdlabaaa
