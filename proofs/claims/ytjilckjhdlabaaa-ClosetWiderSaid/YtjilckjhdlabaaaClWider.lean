/- ClosetWider: the walk. -/
import Derived.Test.YtjilckjhdlabaaaPart23
import Derived.Test.YtjilckjhdlabaaaPart16
import Derived.Deep.Onto
import Derived.RegionTactic
set_option linter.unusedSimpArgs false
set_option linter.unusedVariables false
namespace Go.Proofs.Ytjilckjhdlabaaa
open Go Go.RowKit
attribute [local go_sem] later_alloc2 later_alloc3 later_alloc4

theorem horsesV_dry {l : List Horse} {k : Nat} {y : Horse} (h : l[k]? = some y) (a b : Int) : horsesV (l.set k { y with lo := a, hi := b }) = ((horsesV l).set (k * 4) (.int .i64 a)).set (k * 4 + 1) (.int .i64 b) := by
  obtain ⟨_, _, h2, h3⟩ := horsesV_at h
  rw [horsesV_set]
  dsimp only
  have q2 : (((horsesV l).set (k * 4) (Value.int .i64 a)).set (k * 4 + 1) (.int .i64 b)).set (k * 4 + 2) (.int .i64 y.wet) = ((horsesV l).set (k * 4) (.int .i64 a)).set (k * 4 + 1) (.int .i64 b) :=
    set_same (by rw [List.getElem?_set_ne (by omega), List.getElem?_set_ne (by omega)]; exact h2)
  rw [q2]
  exact set_same (by rw [List.getElem?_set_ne (by omega), List.getElem?_set_ne (by omega)]; exact h3)

set_option maxRecDepth 100000 in
set_option maxHeartbeats 16000000 in
theorem lawWider_calls {A1 A2 A3 : Option Addr} {n1 k1 n2 k2 n3 k3 : Nat} {c : Clo} {Aw : Option Addr} {nw kw : Nat} {l : List Nat} {x y : Nat} (w : World) (hc : CV w c A1 n1 A2 n2 A3 n3) (hcl : i64 c.closets) (b1 : n1 ≤ 9223372036854775807) (b2 : n2 ≤ 9223372036854775807) (b3 : n3 ≤ 9223372036854775807)
    (hx : x < 256) (hy : y < 256) (hw : RW w Aw nw l) (hnw : nw ≤ 9223372036854775807) :
    Calls Try.prog 21 #[(.agg #[.int .i64 c.closets, .int .i64 c.close, .slice A1 n1 k1, .slice A2 n2 k2, .slice A3 n3 k3]), .int .u8 x, .int .u8 y, .slice Aw nw kw] w fun e w' => e = .returned (.bool true) ∧ Later w w' := by
  obtain ⟨w0, hw0⟩ : ∃ W, W = (w.alloc (.cells #[.int .i64 c.closets, .int .i64 c.close, .slice A1 n1 k1, .slice A2 n2 k2, .slice A3 n3 k3] 26)) := ⟨_, rfl⟩; have hbox : ∀ W, Later w0 W → ∀ i, W.cell? ⟨w.heap.size, i, none⟩ = #[.int .i64 c.closets, .int .i64 c.close, .slice A1 n1 k1, .slice A2 n2 k2, .slice A3 n3 k3][i]? := (by rw [hw0]; exact box_cells w #[.int .i64 c.closets, .int .i64 c.close, .slice A1 n1 k1, .slice A2 n2 k2, .slice A3 n3 k3] 26); have hL0 : Later w w0 := (by rw [hw0]; simp); have hc0 := hc.later hL0; have Hw0 := hide hw0; clear hw0
  have hw0' := hw.later hL0
  have hrdy := ready_calls (k1 := k1) (k2 := k2) (k3 := k3) w0 hc0 hcl b1 b2 b3
  cases hth : readyB c with
  | false =>
    rw [hth] at hrdy
    have Hrdy := hide hrdy
    clear hth hrdy
    go_enter Try.func21, Try.ntmps21
    go_wp2_with fail
    rw [← Hw0.out]; clear Hw0
    refine Hrdy.out.mono ?_
    rintro e w1 ⟨rfl, hL1⟩
    go_wp2_with fail
    refine (awake_calls _).mono ?_
    rintro e w2 ⟨rfl, hL2⟩
    go_wp2_with fail
    go_ret
    exact ⟨rfl, Later.trans hL0 (Later.trans hL1 hL2)⟩
  | true =>
    rw [hth] at hrdy
    have hn1 := hc.hs.len
    have hn2 := hc.hu.len
    have hn3 := hc.lk.len
    have hf := (readyB_true hth).2
    have ok := okC_of_fault hf
    have l1 : n1 ≤ 4 := by have := ok.len; omega
    have l2 : n2 ≤ 4 := by have := ok.len; have := ok.hung.len; omega
    have l3 : n3 ≤ 5 := by have := ok.nlooks; omega
    have Hn1 := hide hn1
    have Hn2 := hide hn2
    have Hn3 := hide hn3
    have Hf := hide hf
    have Hrdy := hide hrdy
    clear hth hrdy hn1 hn2 hn3 hf
    by_cases hn0 : n1 = 0
    · have hz : ((n1 : Int) == 0) = true := by simp [hn0]
      clear hn0
      go_enter Try.func21, Try.ntmps21
      go_wp2_with fail
      rw [← Hw0.out]; clear Hw0
      refine Hrdy.out.mono ?_
      rintro e w1 ⟨rfl, hL1⟩
      go_wp2_with fail
      refine (awake_calls _).mono ?_
      rintro e wa ⟨rfl, hLa⟩
      go_wp2_with fail
      go_ret
      exact ⟨rfl, Later.trans hL0 (Later.trans hL1 hLa)⟩
    · have hz : ((n1 : Int) == 0) = false := by simp; omega
      obtain ⟨ad, HA1⟩ : ∃ ad, Hid (A1 = some ad) := by obtain ⟨ad, e, _⟩ := hc.hs.2 (by omega); exact ⟨ad, hide e⟩
      have hl2 : (horsesV c.horses).length = n1 * 4 := by rw [horsesV_length, ← Hn1.out]
      have hone := rh_one c.horses
      have Hn0 := hide hn0
      obtain ⟨k, hk⟩ : ∃ k, x % n1 = k := ⟨_, rfl⟩
      have hkn : k < n1 := by rw [← hk]; exact Nat.mod_lt _ (by omega)
      have Hk := hide hk
      clear hn0 hk
      go_enter Try.func21, Try.ntmps21
      go_wp2_with fail
      rw [← Hw0.out]; clear Hw0
      refine Hrdy.out.mono ?_
      rintro e w1 ⟨rfl, hL1⟩
      have hcells9 := rh_cells HA1.out ((hc0.later (later_alloc (later_alloc hL1 (.cells #[.int .i64 c.closets, .int .i64 c.close, .slice A1 n1 k1, .slice A2 n2 k2, .slice A3 n3 k3] 26)) (.cells #[] 68))).hs)
      have hb9 := Blk.new w1 26 #[.int .i64 c.closets, .int .i64 c.close, .slice A1 n1 k1, .slice A2 n2 k2, .slice A3 n3 k3]
      have hL39 : Later w0 (w1.alloc (.cells #[.int .i64 c.closets, .int .i64 c.close, .slice A1 n1 k1, .slice A2 n2 k2, .slice A3 n3 k3] 26)) := later_alloc hL1 _
      have hrow9 := World.ownsRow_made (base := w0.heap.size) (e := 68) (size := 4) (w1.alloc (.cells #[.int .i64 c.closets, .int .i64 c.close, .slice A1 n1 k1, .slice A2 n2 k2, .slice A3 n3 k3] 26)) #[] 0 hL39.size (by unfold maxLen; omega) rfl
      have hz39 : (w1.alloc (.cells #[.int .i64 c.closets, .int .i64 c.close, .slice A1 n1 k1, .slice A2 n2 k2, .slice A3 n3 k3] 26)).heap.size = w1.heap.size + 1 := by simp
      rw [hz39] at hrow9
      have Hz39 := hide hz39
      have Hrow9 := hide hrow9
      have Hcells9 := hide hcells9
      have HL39 := hide hL39
      have Hb9 := hide hb9
      clear hz39 hrow9 hcells9 hL39 hb9
      go_wp2_with (at_builtin; go_loud (refine appG rfl w0.heap.size _ _ 22 rfl 68 (.agg #[.int .i64 0, .int .i64 0, .int .i64 0, .int .i64 0]) 4 32 Try.underlying22 rhorse_info rfl (by omega) _ 0 [] rfl (later_alloc HL39.out (.cells #[] 68)).size Hrow9.out ad n1 k1 (horsesV c.horses) (slice_eq HA1.out rfl) hl2 Hcells9.out hone (by omega) (by omega) (by omega) ?_))
      intro v9 w9 hap9
      have hL9a : Later w1 w9 := Later.grown (later_alloc (later_alloc (later_refl w1) (.cells #[.int .i64 c.closets, .int .i64 c.close, .slice A1 n1 k1, .slice A2 n2 k2, .slice A3 n3 k3] 26)) (.cells #[] 68)) hap9.grown (fun g hg => by injection hg with hg; have e2 : w1.heap.size + 1 = g := hg; omega)
      have hblt9 := Hb9.out.lt
      have hb9b := Blk.of_eq (hap9.grown.block _ (Nat.lt_of_lt_of_le hblt9 (by simp)) (fun e => by injection e with e; (first | (have e2 : w1.heap.size + 1 = w1.heap.size := e; omega) | (have e2 : w1.heap.size = w1.heap.size + 1 := e; omega)))) (Hb9.out.alloc (.cells #[] 68))
      obtain ⟨gh9, kh9, rfl⟩ : ∃ g k, v9 = .slice (some ⟨g, 0, none⟩) n1 k := own_form (by simpa using hap9.own) (by omega)
      have hox9 : w9.ownsRow w0.heap.size 68 4 (.slice (some ⟨gh9, 0, none⟩) n1 kh9) n1 (horsesV c.horses) := by simpa using hap9.own
      have hgn9 : w1.heap.size < gh9 := by
        rcases hap9.at_ with e | e
        · injection e with e; have e2 : gh9 = w1.heap.size + 1 := e; omega
        · injection e with e; have e2 : gh9 = _ := e; rw [World.size_alloc, World.size_alloc] at e2; omega
      clear hap9 hblt9
      clear Hrow9 Hcells9 HL39 Hz39 Hb9
      generalize hg9 : w1.heap.size = g9 at *
      have hlo9 : w1.heap.size ≤ g9 := Nat.le_of_eq hg9
      have hlh9 : w1.heap.size ≤ gh9 := by omega
      have hgn9 : g9 ≠ gh9 := by omega
      have Hg9 := hide hg9
      clear hg9
      have hx0 := hb9b.cell 0
      have hx1 := hb9b.cell 1
      have hx2 := hb9b.cell 2
      have hx3 := hb9b.cell 3
      have hx4 := hb9b.cell 4
      have hf2 := hb9b.frozen 2
      simp only [List.getElem?_toArray, List.getElem?_cons_zero, List.getElem?_cons_succ] at hx0 hx1 hx2 hx3 hx4
      go_upto_region 5 with fail
      obtain ⟨wA, hwA⟩ : ∃ W, W = w9.setCell ⟨g9, 2, none⟩ (.slice (some ⟨gh9, 0, none⟩) n1 kh9) := ⟨_, rfl⟩
      have hbA : Blk wA g9 26 #[.int .i64 c.closets, .int .i64 c.close, .slice (some ⟨gh9, 0, none⟩) n1 kh9, .slice A2 n2 k2, .slice A3 n3 k3] := by rw [hwA]; exact hb9b.set_ 2 _
      have hLA : Later w1 wA := by rw [hwA]; exact later_set hL9a _ hlo9 _
      have hoA : wA.ownsRow w0.heap.size 68 4 (.slice (some ⟨gh9, 0, none⟩) n1 kh9) n1 (horsesV c.horses) := by rw [hwA]; exact own_block hox9 (fun g hg => Below.heap_setCell w9 _ _ g (by injection hg with hg; show g ≠ g9; exact fun e => hgn9 (e.symm.trans hg.symm)))
      rw [← hwA]
      clear hwA hb9b hox9 hL9a hx0 hx1 hx2 hx3 hx4 hf2
      have hL0A := Later.trans hL1 hLA
      have hbxc := fun W (hW : Later wA W) => hbox W (Later.trans hL0A hW)
      have hbxA := fun W (hW : Later wA W) => (hbA.later hW).cell
      have hxA2 := fun W hW => hbxA W hW 2
      simp only [List.getElem?_toArray, List.getElem?_cons_zero, List.getElem?_cons_succ] at hxA2
      have hn0 := Hn0.out
      have hk := Hk.out
      have hkn2 : (k : Int) < n1 := by omega
      have hz1 : ¬ (n1 : Int) = 0 := by omega
      have hz2 : (x : Int).tmod (n1 : Int) = (k : Int) := by rw [← hk, Int.tmod_eq_emod_of_nonneg (by omega)]; norm_cast
      have hz3 : IntKind.i64.wrap (k : Int) = (k : Int) := IntWalk.i64_in _ (by omega)
      have hz4 : (x : Int) % (n1 : Int) = (k : Int) := by rw [← hk]; norm_cast
      have hz6 : IntKind.i64.wrap (x : Int) = (x : Int) := IntWalk.i64_in _ (by omega)
      have hSA : Later wA wA.drew := later_drew (later_refl _)
      clear hk hbxA
      refine wp_region_lin (w0 := wA) 11 [] rely_later (by kernel_rfl) (by kernel_rfl) (by kernel_rfl) (by kernel_rfl) (hSA) (.inl rfl) ?_
      simp only [List.take_succ_cons, List.take_zero, List.drop_succ_cons, List.drop_zero]
      refine lin_det (v := ?_) (F' := ?_) (by rfl) (fun _ => by rfl) ?_ ?_ ?_
      rotate_left 2
      focus (intro xs X hX hdep; clear hdep; (try dsimp only); go_simp; (try (first | with_reducible rfl | exact ⟨rfl, rfl⟩ | (fail))))
      focus (intro xs; (try simp only [Act.put, List.setIfInBounds_toArray, List.set_cons_zero, List.set_cons_succ, Nat.reduceAdd]); rfl)
      refine lin_det (v := ?_) (F' := ?_) (by rfl) (fun _ => by rfl) ?_ ?_ ?_
      rotate_left 2
      focus (intro xs X hX hdep; clear hdep; (try dsimp only); go_simp; (try (first | with_reducible rfl | exact ⟨rfl, rfl⟩ | (fail))))
      focus (intro xs; (try simp only [Act.put, List.setIfInBounds_toArray, List.set_cons_zero, List.set_cons_succ, Nat.reduceAdd]); rfl)
      refine lin_det (v := ?_) (F' := ?_) (by rfl) (fun _ => by rfl) ?_ ?_ ?_
      rotate_left 2
      focus (intro xs X hX hdep; clear hdep; (try dsimp only); go_simp; (try (first | with_reducible rfl | exact ⟨rfl, rfl⟩ | (fail))))
      focus (intro xs; (try simp only [Act.put, List.setIfInBounds_toArray, List.set_cons_zero, List.set_cons_succ, Nat.reduceAdd]); rfl)
      refine lin_det (v := ?_) (F' := ?_) (by rfl) (fun _ => by rfl) ?_ ?_ ?_
      rotate_left 2
      focus (intro xs X hX hdep; clear hdep; (try dsimp only); go_simp; (try (first | with_reducible rfl | exact ⟨rfl, rfl⟩ | (fail))))
      focus (intro xs; (try simp only [Act.put, List.setIfInBounds_toArray, List.set_cons_zero, List.set_cons_succ, Nat.reduceAdd]); rfl)
      refine lin_det (v := ?_) (F' := ?_) (by rfl) (fun _ => by rfl) ?_ ?_ ?_
      rotate_left 2
      focus (intro xs X hX hdep; clear hdep; (try dsimp only); go_simp; (try (first | with_reducible rfl | exact ⟨rfl, rfl⟩ | (fail))))
      focus (intro xs; (try simp only [Act.put, List.setIfInBounds_toArray, List.set_cons_zero, List.set_cons_succ, Nat.reduceAdd]); rfl)
      refine lin_det (v := ?_) (F' := ?_) (by rfl) (fun _ => by rfl) ?_ ?_ ?_
      rotate_left 2
      focus (intro xs X hX hdep; clear hdep; (try dsimp only); go_simp; (try (first | with_reducible rfl | exact ⟨rfl, rfl⟩ | (fail))))
      focus (intro xs; (try simp only [Act.put, List.setIfInBounds_toArray, List.set_cons_zero, List.set_cons_succ, Nat.reduceAdd]); rfl)
      refine lin_det (v := ?_) (F' := ?_) (by rfl) (fun _ => by rfl) ?_ ?_ ?_
      rotate_left 2
      focus (intro xs X hX hdep; clear hdep; (try dsimp only); go_simp; (try (first | with_reducible rfl | exact ⟨rfl, rfl⟩ | (fail))))
      focus (intro xs; (try simp only [Act.put, List.setIfInBounds_toArray, List.set_cons_zero, List.set_cons_succ, Nat.reduceAdd]); rfl)
      refine lin_det (v := ?_) (F' := ?_) (by rfl) (fun _ => by rfl) ?_ ?_ ?_
      rotate_left 2
      focus (intro xs X hX hdep; clear hdep; (try dsimp only); go_simp; (try (first | with_reducible rfl | exact ⟨rfl, rfl⟩ | (fail))))
      focus (intro xs; (try simp only [Act.put, List.setIfInBounds_toArray, List.set_cons_zero, List.set_cons_succ, Nat.reduceAdd]); rfl)
      refine lin_det (v := ?_) (F' := ?_) (by rfl) (fun _ => by rfl) ?_ ?_ ?_
      rotate_left 2
      focus (intro xs X hX hdep; clear hdep; (try dsimp only); go_simp; (try (first | with_reducible rfl | exact ⟨rfl, rfl⟩ | (fail))))
      focus (intro xs; (try simp only [Act.put, List.setIfInBounds_toArray, List.set_cons_zero, List.set_cons_succ, Nat.reduceAdd]); rfl)
      refine lin_det (v := ?_) (F' := ?_) (by rfl) (fun _ => by rfl) ?_ ?_ ?_
      rotate_left 2
      focus (intro xs X hX hdep; clear hdep; (try dsimp only); go_simp; (try (first | with_reducible rfl | exact ⟨rfl, rfl⟩ | (fail))))
      focus (intro xs; (try simp only [Act.put, List.setIfInBounds_toArray, List.set_cons_zero, List.set_cons_succ, Nat.reduceAdd]); rfl)
      refine lin_det (v := ?_) (F' := ?_) (by rfl) (fun _ => by rfl) ?_ ?_ ?_
      rotate_left 2
      focus (intro xs X hX hdep; clear hdep; (try dsimp only); go_simp; (try (first | with_reducible rfl | exact ⟨rfl, rfl⟩ | (fail))))
      focus (intro xs; (try simp only [Act.put, List.setIfInBounds_toArray, List.set_cons_zero, List.set_cons_succ, Nat.reduceAdd]); rfl)
      intro xs w10 hW hf hfr hfb
      clear hf hfr hfb hz1 hz2 hz3 hz4 hz6 hxA2 hbxc
      obtain ⟨b, o, yk, hAe, _, hyk, _⟩ := hc0.hs.get hkn
      have hgy := ok.horse yk (List.mem_of_getElem? hyk)
      obtain ⟨hv0, hv1, _, _⟩ := horsesV_at hyk
      have hox := own_later hoA hW
      have hxlo := hox.cellAt (k * 4) (by omega)
      have hxhi := hox.cellAt (k * 4 + 1) (by omega)
      rw [hv0] at hxlo
      rw [hv1] at hxhi
      have hflo := hox.frozenAt (k * 4)
      have hfhi := hox.frozenAt (k * 4 + 1)
      have hdry := horsesV_dry hyk
      obtain ⟨s, hs⟩ : ∃ s : Int, (y : Int) % 2 = s := ⟨_, rfl⟩
      obtain ⟨t, ht⟩ : ∃ s : Int, (y : Int) / 2 % 2 = s := ⟨_, rfl⟩
      have hs0 : 0 ≤ s ∧ s ≤ 1 := by omega
      have ht0 : 0 ≤ t ∧ t ≤ 1 := by omega
      have hlawf := fun hx => wider_law hyk hs0.1 ht0.1 Hf.out hx
      have Hyk := hide hyk
      have Hdry := hide hdry
      have Hox := hide hox
      have Hlaw := hide hlawf
      have hw1 : IntKind.i64.wrap (yk.lo - s) = yk.lo - s := IntWalk.i64_in _ (by omega)
      have hw2 : IntKind.i64.wrap (yk.hi + t) = yk.hi + t := IntWalk.i64_in _ (by omega)
      have hw3 : IntKind.i64.wrap (y : Int) = (y : Int) := IntWalk.i64_in _ (by omega)
      have hw4 : (y : Int).tmod 2 = s := by rw [← hs, Int.tmod_eq_emod_of_nonneg (by omega)]
      have hw5 : (y : Int).tdiv 2 = (y : Int) / 2 := Int.tdiv_eq_ediv_of_nonneg (by omega)
      have hw6 : ((y : Int) / 2).tmod 2 = t := by rw [← ht, Int.tmod_eq_emod_of_nonneg (by omega)]
      have hw7 : IntKind.i64.wrap s = s := IntWalk.i64_in _ (by omega)
      have hw8 : IntKind.i64.wrap t = t := IntWalk.i64_in _ (by omega)
      have hw9 : IntKind.i64.wrap ((y : Int) / 2) = (y : Int) / 2 := IntWalk.i64_in _ (by omega)
      have hL10 := Later.trans hL0A hW
      have hK10 := Later.trans hLA hW
      have hbA10 := hbA.later hW
      clear hAe hyk hv0 hv1 hoA hox hdry hlawf hgy hbA hW
      go_upto_region 6 with fail
      go_cut [] (fun (W : World) => Later w1 W ∧ CV W (widerC c k yk s t) (some ⟨gh9, 0, none⟩) n1 A2 n2 A3 n3 ∧ Blk W g9 26 #[.int .i64 c.closets, .int .i64 c.close, .slice (some ⟨gh9, 0, none⟩) n1 kh9, .slice A2 n2 k2, .slice A3 n3 k3])
      case first =>
        clear hbox
        go_region
        all_goals
          go_wp2_with fail
          go_meet
          case rel =>
            have h1 := (Hox.out.stored (k * 4) (.int .i64 (yk.lo - s))).1
            have h2 := (h1.stored (k * 4 + 1) (.int .i64 (yk.hi + t))).1
            rw [← Hdry.out (yk.lo - s) (yk.hi + t)] at h2
            have hK11 : Later w1 ((w10.setCell ⟨gh9, k * 4, none⟩ (.int .i64 (yk.lo - s))).setCell ⟨gh9, k * 4 + 1, none⟩ (.int .i64 (yk.hi + t))).drew := later_drew (later_set (later_set hK10 _ hlh9 _) _ hlh9 _)
            have hc11 := hc0.later (Later.trans hL1 hK11)
            exact ⟨hK11, ⟨Reads.of_own (World.ownsRow.drew h2), hc11.hu, hc11.lk⟩, ((hbA10.far hgn9 _).far hgn9 _).drew⟩
      case rest =>
        obtain ⟨hK11, hcx, hbx⟩ := hcut
        obtain ⟨w11, rfl⟩ : ∃ W : World, W = wc := ⟨_, rfl⟩
        have hL11 := Later.trans hL1 hK11
        obtain ⟨xc, hxc⟩ : ∃ q, widerC c k yk s t = q := ⟨_, rfl⟩
        have hxcl : xc.closets = c.closets := by rw [← hxc]; rfl
        have hxce : xc.close = c.close := by rw [← hxc]; rfl
        have hxh : xc.horses.length = c.horses.length := by rw [← hxc]; show (c.horses.set k _).length = _; simp
        rw [hxc] at hcx
        have Hlaw2 : Hid (fault xc = 0 → (leaveOut xc).length ≤ (leaveOut c).length ∧ (leaveOut c = [] → Narrow xc c)) := hide (by rw [← hxc]; exact Hlaw.out)
        have Hxh := hide hxh
        have hxi : i64 xc.closets := by rw [hxcl]; exact hcl
        have hrdx := ready_calls (k1 := kh9) (k2 := k2) (k3 := k3) w11 hcx hxi b1 b2 b3
        have hxb : Blk w11 g9 26 #[.int .i64 xc.closets, .int .i64 xc.close, .slice (some ⟨gh9, 0, none⟩) n1 kh9, .slice A2 n2 k2, .slice A3 n3 k3] := by rw [hxcl, hxce]; exact hbx
        have hbxx := fun W (hW : Later w11 W) => (hxb.later hW).cell
        have hy0 := fun W hW => hbxx W hW 0
        have hy1 := fun W hW => hbxx W hW 1
        have hy2 := fun W hW => hbxx W hW 2
        have hy3 := fun W hW => hbxx W hW 3
        have hy4 := fun W hW => hbxx W hW 4
        simp only [List.getElem?_toArray, List.getElem?_cons_zero, List.getElem?_cons_succ] at hy0 hy1 hy2 hy3 hy4
        have hT11 : Later w11 w11 := later_refl _
        clear hxc hxcl hxce hxh hbx hxb hbxx Hlaw Hox Hdry hw1 hw2 hw3 hw4 hw5 hw6 hw7 hw8 hw9 hs ht hxlo hxhi hflo hfhi hbA10 hK10 hL10 hkn2
        cases hth2 : readyB xc with
        | false =>
          rw [hth2] at hrdx
          have Hrdx := hide hrdx
          clear hrdx hth2
          go_wp2_with fail
          refine (Hrdx.out).mono ?_
          rintro e w12 ⟨rfl, hM12⟩
          have hL12 := Later.trans hL11 hM12
          go_wp2_with fail
          refine (awake_calls _).mono ?_
          rintro e wa ⟨rfl, hLa⟩
          go_wp2_with fail
          go_ret
          exact ⟨rfl, Later.trans hL0 (Later.trans hL12 hLa)⟩
        | true =>
          rw [hth2] at hrdx
          have hfx := (readyB_true hth2).2
          have Hrdx := hide hrdx
          have Hfx := hide hfx
          obtain ⟨hlv, hnar⟩ := Hlaw2.out hfx
          have hlc := fun (B1 B2 B3 : Option Addr) (j1 j2 j3 : Nat) (W : World) (h : CV W c B1 n1 B2 n2 B3 n3) (h2 : n2 ≤ j2) =>
            LeaveP_calls (k1 := j1) (k2 := j2) (k3 := j3) W h hcl (by omega) (by omega) (by omega) h2
          have hlx := fun (B1 B2 B3 : Option Addr) (j1 j2 j3 : Nat) (W : World) (h : CV W xc B1 n1 B2 n2 B3 n3) (h2 : n2 ≤ j2) =>
            LeaveP_calls (k1 := j1) (k2 := j2) (k3 := j3) W h hxi (by omega) (by omega) (by omega) h2
          unfold LeavePost at hlc hlx
          rw [Hf.out] at hlc
          rw [hfx] at hlx
          have Hlc := hide hlc
          have Hlx := hide hlx
          have Hlv := hide hlv
          have Hnar := hide hnar
          clear hrdx hth2 hfx hlc hlx hlv hnar
          go_wp2_with fail
          refine (Hrdx.out).mono ?_
          rintro e w12 ⟨rfl, hM12⟩
          have hL12 := Later.trans hL11 hM12
          go_wp2_with fail
          refine (lawCloset_calls (k1 := k1) (k2 := k2) (k3 := k3) w12 (hc0.later hL12) (by omega) (by omega) (by omega)).mono ?_
          rintro e wa ⟨B1a, j1a, B2a, j2a, B3a, j3a, rfl, hMa, hca, hj1a, hj2a, hj3a⟩
          have hLa := Later.trans hL12 hMa
          go_wp2_with fail
          refine (Hlc.out _ _ _ _ _ _ wa hca hj2a).mono ?_
          rintro e w13 ⟨Al, nl, kl, rfl, hM13, hrl, _⟩
          have hK13 := Later.trans hM12 (Later.trans hMa hM13)
          have hL13 := Later.trans hL11 hK13
          clear hca hj1a hj2a hj3a hMa hLa hM12
          go_wp2_with fail
          refine (lawCloset_calls (k1 := kh9) (k2 := k2) (k3 := k3) w13 (hcx.later hK13) (by omega) (by omega) (by omega)).mono ?_
          rintro e wa ⟨B1a, j1a, B2a, j2a, B3a, j3a, rfl, hMa, hca, hj1a, hj2a, hj3a⟩
          have hLa := Later.trans hL13 hMa
          go_wp2_with fail
          refine (Hlx.out _ _ _ _ _ _ wa hca hj2a).mono ?_
          rintro e w14 ⟨Am, nm, km, rfl, hM14, hrm, _⟩
          have hK14 := Later.trans hK13 (Later.trans hMa hM14)
          have hL14 := Later.trans hL11 hK14
          have hnl := hrl.len
          have hnm := hrm.len
          have hnm2 : ¬ (nl : Int) < (nm : Int) := by have := Hlv.out; omega
          have Hnl := hide hnl
          clear hca hj1a hj2a hj3a hMa hLa hM13 hM14 hnm hrm hrl hnl
          by_cases hl0 : nl = 0
          · have hl1 : ¬ (0 : Int) < (nl : Int) := by omega
            have hln : leaveOut c = [] := List.eq_nil_of_length_eq_zero (by rw [← Hnl.out]; exact hl0)
            have hN := Hnar.out hln
            have HN := hide hN
            clear hl0 hln hN
            go_wp2_with fail
            refine (Placed_calls (k1 := k1) (k2 := k2) (k3 := k3) (kw := kw) w14 (hc0.later hL14) ok (hw0'.later hL14) hnw).mono ?_
            rintro e w15 ⟨Ap, kp, p, rfl, hM15, hrp, hkp, hpl⟩
            rw [← Hn1.out] at hrp hkp ⊢
            have hL15 := Later.trans hL14 hM15
            have hK15 := Later.trans hK14 hM15
            have hN := HN.out
            have hplx : IsPl xc p := IsPl_congr hN.closets.symm hN.len.symm hpl
            obtain ⟨ex0, ec0, lx0, lc0, hord⟩ := hN.bounds hplx
            have ecx := hN.ec
            have ecc := hN.ex
            have hkp := hN.kept hplx
            have hplo := fun h => hN.place hplx (n := 99) h
            have hbc := fun (B1 B2 B3 : Option Addr) (j1 j2 j3 : Nat) (W : World) (h : CV W c B1 n1 B2 n2 B3 n3) (h2 : n2 ≤ j2) (Aq : Option Addr) (kq : Nat) (hq : RI W Aq n1 p) (hk : n1 ≤ kq) =>
              BoundsP_calls (k1 := j1) (k2 := j2) (k3 := j3) (kp := kq) W h hcl (by omega) (by omega) (by omega) h2 hq hk (by omega)
            have hbxc := fun (B1 B2 B3 : Option Addr) (j1 j2 j3 : Nat) (W : World) (h : CV W xc B1 n1 B2 n2 B3 n3) (h2 : n2 ≤ j2) (Aq : Option Addr) (kq : Nat) (hq : RI W Aq n1 p) (hk : n1 ≤ kq) =>
              BoundsP_calls (k1 := j1) (k2 := j2) (k3 := j3) (kp := kq) W h hxi (by omega) (by omega) (by omega) h2 hq hk (by omega)
            unfold BoundsPost at hbc hbxc
            rw [ec0] at hbc
            rw [ex0] at hbxc
            have hpc := fun (B1 B2 B3 : Option Addr) (j1 j2 j3 : Nat) (W : World) (h : CV W c B1 n1 B2 n2 B3 n3) (h2 : n2 ≤ j2) (Aq : Option Addr) (kq : Nat) (hq : RI W Aq n1 p) (hk : n1 ≤ kq) =>
              ProvePlace_calls (k1 := j1) (k2 := j2) (k3 := j3) (kp := kq) (n := 99) W h hcl (by omega) (by omega) (by omega) h2 hq hk (by omega)
            have hpx := fun (B1 B2 B3 : Option Addr) (j1 j2 j3 : Nat) (W : World) (h : CV W xc B1 n1 B2 n2 B3 n3) (h2 : n2 ≤ j2) (Aq : Option Addr) (kq : Nat) (hq : RI W Aq n1 p) (hk : n1 ≤ kq) =>
              ProvePlace_calls (k1 := j1) (k2 := j2) (k3 := j3) (kp := kq) (n := 99) W h hxi (by omega) (by omega) (by omega) h2 hq hk (by omega)
            have hkc := fun (W : World) (hW : Later w11 W) (hp : RI W Ap n1 p) => kept_calls (c := xc) (x := c) (k1 := kh9) (k2 := k2) (k3 := k3) (i1 := k1) (i2 := k2) (i3 := k3) (kp := kp) W (hcx.later hW) hxi (hc0.later (Later.trans hL11 hW)) hcl ecx ecc hp hplx hpl hkp
            have Hbc := hide hbc
            have Hbx := hide hbxc
            have Hpc := hide hpc
            have Hpx := hide hpx
            have Hkc := hide hkc
            have Hord := hide hord
            have Hlx0 := hide lx0
            have Hlc0 := hide lc0
            have Hplo := hide hplo
            clear hN hbc hbxc hpc hpx hkc hord lx0 lc0 hplo ec0 ex0 hkp
            go_wp2_with fail
            refine (lawCloset_calls (k1 := k1) (k2 := k2) (k3 := k3) w15 (hc0.later hL15) (by omega) (by omega) (by omega)).mono ?_
            rintro e wa ⟨B1a, j1a, B2a, j2a, B3a, j3a, rfl, hMa, hca, hj1a, hj2a, hj3a⟩
            have hLa := Later.trans hL15 hMa
            go_wp2_with fail
            refine (list_calls _ (hrp.later hMa) (by omega)).mono ?_
            rintro e wb ⟨Ab, nb, kb, rfl, hMb, hrb, hkb, _⟩
            have hLb := Later.trans hMa hMb
            have hnb := hrb.len
            rw [← hrp.len] at hnb
            subst nb
            go_wp2_with fail
            refine (Hbc.out _ _ _ _ _ _ wb (hca.later hMb) hj2a _ _ hrb hkb).mono ?_
            rintro e w16 ⟨Ar, nr, kr, rfl, hM16, hrg⟩
            have hQ16 := Later.trans hLb hM16
            have hK16 := Later.trans hK15 hQ16
            have hL16 := Later.trans hL11 hK16
            clear hca hrb hj1a hj2a hj3a hMa hMb hLa hLb hM16
            go_wp2_with fail
            refine (lawCloset_calls (k1 := kh9) (k2 := k2) (k3 := k3) w16 (hcx.later hK16) (by omega) (by omega) (by omega)).mono ?_
            rintro e wa ⟨B1a, j1a, B2a, j2a, B3a, j3a, rfl, hMa, hca, hj1a, hj2a, hj3a⟩
            have hLa := Later.trans hL16 hMa
            go_wp2_with fail
            refine (list_calls _ (hrp.later (Later.trans hQ16 hMa)) (by omega)).mono ?_
            rintro e wb ⟨Ab, nb, kb, rfl, hMb, hrb, hkb, _⟩
            have hLb := Later.trans (Later.trans hQ16 hMa) hMb
            have hnb := hrb.len
            rw [← hrp.len] at hnb
            subst nb
            go_wp2_with fail
            refine (Hbx.out _ _ _ _ _ _ wb (hca.later hMb) hj2a _ _ hrb hkb).mono ?_
            rintro e w17 ⟨As, ns, ks, rfl, hM17, hrs⟩
            have hQ1617 := Later.trans hMa (Later.trans hMb hM17)
            have hQ17 := Later.trans hQ16 hQ1617
            have hK17 := Later.trans hK16 hQ1617
            have hL17 := Later.trans hL11 hK17
            have hnr := hrg.len
            have hns := hrs.len
            rw [Hlc0.out, Hxh.out, ← Hn1.out] at hnr
            rw [Hlx0.out, Hxh.out, ← Hn1.out] at hns
            subst nr ns
            have hin := inside_calls (k := kr) (j := ks) w17 (hrg.later hQ1617) hrs (by omega) (fun i a b ha hb => by have := Hord.out i b a hb ha; omega)
            have Hin := hide hin
            clear hca hrb hj1a hj2a hj3a hMa hMb hLa hLb hM17 hrg hrs hin
            go_wp2_with fail
            refine (Hin.out).mono ?_
            rintro e w18 ⟨rfl, hM18⟩
            have hQ18 := Later.trans hQ17 hM18
            have hK18 := Later.trans hK17 hM18
            have hL18 := Later.trans hL11 hK18
            go_wp2_with fail
            refine (Hkc.out w18 hK18 (hrp.later hQ18)).mono ?_
            rintro e w19 ⟨rfl, hM19⟩
            have hQ19 := Later.trans hQ18 hM19
            have hK19 := Later.trans hK18 hM19
            have hL19 := Later.trans hL11 hK19
            go_wp2_with fail
            refine (lawCloset_calls (k1 := kh9) (k2 := k2) (k3 := k3) w19 (hcx.later hK19) (by omega) (by omega) (by omega)).mono ?_
            rintro e wa ⟨B1a, j1a, B2a, j2a, B3a, j3a, rfl, hMa, hca, hj1a, hj2a, hj3a⟩
            have hLa := Later.trans hL19 hMa
            go_wp2_with fail
            refine (list_calls _ (hrp.later (Later.trans hQ19 hMa)) (by omega)).mono ?_
            rintro e wb ⟨Ab, nb, kb, rfl, hMb, hrb, hkb, _⟩
            have hLb := Later.trans (Later.trans hQ19 hMa) hMb
            have hnb := hrb.len
            rw [← hrp.len] at hnb
            subst nb
            have hpx := Hpx.out _ _ _ j1a j2a j3a wb (hca.later hMb) hj2a _ _ hrb hkb
            cases hpo : placeOut xc p 99 with
            | false =>
              rw [hpo] at hpx
              have Hpx2 := hide hpx
              clear hpx hpo
              go_wp2_with fail
              refine (Hpx2.out).mono ?_
              rintro e w20 ⟨rfl, hM20⟩
              have hL20 := Later.trans hL19 (Later.trans hMa (Later.trans hMb hM20))
              go_wp2_with fail
              refine (awake_calls _).mono ?_
              rintro e wa ⟨rfl, hLa⟩
              go_wp2_with fail
              go_ret
              exact ⟨rfl, Later.trans hL0 (Later.trans hL20 hLa)⟩
            | true =>
              rw [hpo] at hpx
              have Hpx2 := hide hpx
              have hpo2 := Hplo.out hpo
              clear hpx hpo
              go_wp2_with fail
              refine (Hpx2.out).mono ?_
              rintro e w20 ⟨rfl, hM20⟩
              have hQ1920 := Later.trans hMa (Later.trans hMb hM20)
              have hQ20 := Later.trans hQ19 hQ1920
              have hL20 := Later.trans hL19 hQ1920
              clear hca hrb hj1a hj2a hj3a hMa hMb hLa hLb hM20
              go_wp2_with fail
              refine (lawCloset_calls (k1 := k1) (k2 := k2) (k3 := k3) w20 (hc0.later hL20) (by omega) (by omega) (by omega)).mono ?_
              rintro e wa ⟨B1a, j1a, B2a, j2a, B3a, j3a, rfl, hMa, hca, hj1a, hj2a, hj3a⟩
              have hLa := Later.trans hL20 hMa
              go_wp2_with fail
              refine (list_calls _ (hrp.later (Later.trans hQ20 hMa)) (by omega)).mono ?_
              rintro e wb ⟨Ab, nb, kb, rfl, hMb, hrb, hkb, _⟩
              have hLb := Later.trans (Later.trans hQ20 hMa) hMb
              have hnb := hrb.len
              rw [← hrp.len] at hnb
              subst nb
              have hpc := Hpc.out _ _ _ j1a j2a j3a wb (hca.later hMb) hj2a _ _ hrb hkb
              rw [hpo2] at hpc
              have Hpc2 := hide hpc
              clear hpc hpo2
              go_wp2_with fail
              refine (Hpc2.out).mono ?_
              rintro e w21 ⟨rfl, hM21⟩
              have hL21 := Later.trans hL20 (Later.trans hMa (Later.trans hMb hM21))
              go_wp2_with fail
              refine (awake_calls _).mono ?_
              rintro e wa ⟨rfl, hLa⟩
              go_wp2_with fail
              go_ret
              exact ⟨rfl, Later.trans hL0 (Later.trans hL21 hLa)⟩
          · have hl1 : (0 : Int) < (nl : Int) := by omega
            clear hl0
            go_wp2_with fail
            refine (awake_calls _).mono ?_
            rintro e wa ⟨rfl, hLa⟩
            go_wp2_with fail
            go_ret
            exact ⟨rfl, Later.trans hL0 (Later.trans hL14 hLa)⟩
end Go.Proofs.Ytjilckjhdlabaaa
