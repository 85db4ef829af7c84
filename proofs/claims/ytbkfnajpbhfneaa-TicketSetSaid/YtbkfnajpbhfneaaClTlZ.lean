/- The law TicketSet: walk. -/
import Derived.Test.YtbkfnajpbhfneaaPart14
import Derived.Test.YtbkfnajpbhfneaaPart15
import Derived.Test.YtbkfnajpbhfneaaPart13
import Derived.RegionTactic
set_option linter.unusedSimpArgs false
set_option linter.unusedVariables false
namespace Go.Proofs.Ytbkfnajpbhfneaa
open Go Go.RowKit
attribute [local go_sem] later_alloc2 later_alloc3 later_alloc4

theorem own_types {W : World} {base base' size size' n n' g g' : Nat} {e e' : TypeId} {v v' : Value} {xs xs' : List Value} (h : W.ownsRow base e size v n xs) (h' : W.ownsRow base' e' size' v' n' xs') (he : e ≠ e')
    (hg : v.ownBlock = some g) (hg' : v'.ownBlock = some g') : g ≠ g' := by
  rcases h.2 with ⟨hv, _⟩ | ⟨b, cap, cur, hv, _, hb, _⟩
  · rw [hv] at hg; cases hg
  · rcases h'.2 with ⟨hv', _⟩ | ⟨b', cap', cur', hv', _, hb', _⟩
    · rw [hv'] at hg'; cases hg'
    · subst hv hv'
      injection hg with hg
      injection hg' with hg'
      rintro rfl
      have e1 : b = b' := hg.trans hg'.symm
      subst e1
      rw [hb] at hb'
      injection hb' with hb'
      injection hb' with _ h2 _
      exact he h2
theorem set_self {α : Type} {l : List α} {i : Nat} {x : α} (h : l[i]? = some x) : l.set i x = l := by
  apply List.ext_getElem?
  intro j
  by_cases hj : i = j
  · subst hj; rw [List.getElem?_set_self (List.getElem?_eq_some_iff.1 h).1, h]
  · rw [List.getElem?_set_ne hj]

theorem clocksOut_range {c : Hou} (he : askedErr c 0 = 0) {i : Nat} {a : Int × Int} (h : (clocksOut c)[i]? = some a) : -30 ≤ a.1 ∧ a.1 ≤ 30 ∧ -30 ≤ a.2 ∧ a.2 ≤ 30 := by
  obtain ⟨hf, _, hne⟩ := askedErr_zero he
  have ok := okH_of_fault hf
  unfold clocksOut at h
  rw [if_pos he] at h
  have hi : i < c.clocks.length := by have := (List.getElem?_eq_some_iff.1 h).1; simpa using this
  rw [List.getElem?_map, List.getElem?_range hi] at h
  simp only [Option.map_some, Option.some.injEq] at h
  obtain ⟨d, hd, e1⟩ := (bP_is (offF i) hne).loAt
  obtain ⟨d', hd', e2⟩ := (bP_is (offF i) hne).hiAt
  have r1 := (truthsP_isErr ok d hd).range ok i
  have r2 := (truthsP_isErr ok d' hd').range ok i
  rw [h] at e1 e2
  unfold offF at e1 e2
  omega
theorem leave_ten' {c : Hou} (hf : fault c = 0) : (leaveOut c).length ≤ 10 := by
  obtain ⟨B, hB, e, _, _⟩ := leave_min hf
  have h5 := (okH_of_fault hf).n3
  rw [e, bitsR_fuel hB]
  exact Nat.le_trans (bitListLen _ _ _) h5
set_option maxRecDepth 100000 in
set_option maxHeartbeats 16000000 in
theorem lawSet_calls {A1 A2 A3 : Option Addr} {n1 k1 n2 k2 n3 k3 : Nat} {c : Hou} {x y : Nat} (w : World) (hc : CV w c A1 n1 A2 n2 A3 n3) (b1 : n1 ≤ 9223372036854775807) (b2 : n2 ≤ 9223372036854775807) (b3 : n3 ≤ 9223372036854775807) (hx : x < 256) (hy : y < 256) :
    Calls Try.prog 11 #[(.agg #[.int .i64 c.hour, .int .i64 c.grace, .slice A1 n1 k1, .slice A2 n2 k2, .slice A3 n3 k3]), .int .u8 x, .int .u8 y] w fun e w' => e = .returned (.bool true) ∧ Later w w' := by
  obtain ⟨w0, hw0⟩ : ∃ W, W = (w.alloc (.cells #[.int .i64 c.hour, .int .i64 c.grace, .slice A1 n1 k1, .slice A2 n2 k2, .slice A3 n3 k3] 26)) := ⟨_, rfl⟩; have hbox : ∀ W, Later w0 W → ∀ i, W.cell? ⟨w.heap.size, i, none⟩ = #[.int .i64 c.hour, .int .i64 c.grace, .slice A1 n1 k1, .slice A2 n2 k2, .slice A3 n3 k3][i]? := (by rw [hw0]; exact box_cells w #[.int .i64 c.hour, .int .i64 c.grace, .slice A1 n1 k1, .slice A2 n2 k2, .slice A3 n3 k3] 26); have hL0 : Later w w0 := (by rw [hw0]; simp); have hc0 := hc.later hL0; have Hw0 := hide hw0; clear hw0
  have hrdy := ready_calls (k1 := k1) (k2 := k2) (k3 := k3) w0 hc0 b1 b2 b3
  cases hth : readyB c with
  | false =>
    rw [hth] at hrdy
    have Hrdy := hide hrdy
    clear hth hrdy
    go_enter Try.func11, Try.ntmps11
    go_wp2_with fail
    rw [← Hw0.out]; clear Hw0
    refine Hrdy.out.mono ?_
    rintro e w1 ⟨rfl, hL1⟩
    go_wp2_with fail
    refine (awake_calls _).mono ?_
    rintro e w2 ⟨rfl, hL2⟩
    go_wp2_with fail
    go_ret
    exact ⟨rfl, Later.trans hL0 (Later.trans hL1 hL2)⟩
  | true =>
    rw [hth] at hrdy
    have hn1 := hc.ck.len
    have hn2 := hc.tk.len
    have hn3 := hc.cp.len
    have hf := (readyB_true hth).2
    have ok := okH_of_fault hf
    have hmy := many_le hf
    have l1 : n1 ≤ 4 := by have := ok.n1; omega
    have l2 : n2 ≤ 6 := by have := ok.n2; omega
    have l3 : n3 ≤ 10 := by have := ok.n3; omega
    have Hn1 := hide hn1
    have Hn2 := hide hn2
    have Hn3 := hide hn3
    have Hf := hide hf
    have Hmy := hide hmy
    have Hrdy := hide hrdy
    clear hth hrdy hn1 hn2 hn3 hf hmy
    have hbxa := fun W (hW : Later w0 W) => hbox W hW 2
    have hbxb := fun W (hW : Later w0 W) => hbox W hW 4
    simp only [List.getElem?_toArray, List.getElem?_cons_zero, List.getElem?_cons_succ] at hbxa hbxb
    by_cases hn : n1 = 0
    · have hnb : ((n1 : Int) == 0) = true := by simp [hn]
      clear hn
      go_enter Try.func11, Try.ntmps11
      go_wp2_with fail
      rw [← Hw0.out]; clear Hw0
      refine Hrdy.out.mono ?_
      rintro e w1 ⟨rfl, hL1⟩
      have hx1 := hbxa w1 hL1
      go_wp2_with fail
      refine (awake_calls _).mono ?_
      rintro e wa ⟨rfl, hLa⟩
      go_wp2_with fail
      go_ret
      exact ⟨rfl, Later.trans hL0 (Later.trans hL1 hLa)⟩
    · have hnb : ((n1 : Int) == 0) = false := by simp; omega
      obtain ⟨k, gza⟩ : ∃ k, x % n1 = k := ⟨_, rfl⟩
      have za1 : (x : Int).tmod (n1 : Int) = (k : Int) := by rw [← gza, Int.tmod_eq_emod_of_nonneg (by omega)]; norm_cast
      have za2 : (x : Int) % (n1 : Int) = (k : Int) := by rw [← gza]; norm_cast
      have hza : k < n1 := by rw [← gza]; exact Nat.mod_lt _ (by omega)
      have za3 : IntKind.i64.wrap (k : Int) = (k : Int) := IntWalk.i64_in _ (by omega)
      have za4 : ¬ n1 = 0 := by omega
      have za5 : ¬ (n1 : Int) = 0 := by omega
      have za6 : IntKind.i64.wrap (x : Int) = (x : Int) := IntWalk.i64_in _ (by omega)
      clear gza
      have hnp : 0 < n1 := by omega
      obtain ⟨s, hs⟩ : ∃ s : Int, (y : Int) % 9 = s := ⟨_, rfl⟩
      obtain ⟨n, hnn⟩ : ∃ n : Int, s - 4 = n := ⟨_, rfl⟩
      have hs0 : 0 ≤ s ∧ s ≤ 8 := by omega
      have hn0 : -4 ≤ n ∧ n ≤ 4 := by omega
      have hs1 : (y : Int).tmod 9 = s := by rw [← hs, Int.tmod_eq_emod_of_nonneg (by omega)]
      have hs2 : IntKind.i64.wrap s = s := IntWalk.i64_in _ (by omega)
      have hy2 : IntKind.i64.wrap (y : Int) = (y : Int) := IntWalk.i64_in _ (by omega)
      have hwn : wrap64 (s - 4) = s - 4 := by unfold wrap64; omega
      have hl1 : (pairsV c.clocks).length = n1 * 2 := by rw [pairsV_length, ← Hn1.out]
      have hl3 : (clipsV c.clips).length = n3 * 3 := by rw [clipsV_length, ← Hn3.out]
      have Hl1 := hide hl1
      have Hl3 := hide hl3
      clear hn hs hl1 hl3
      go_enter Try.func11, Try.ntmps11
      go_wp2_with fail
      rw [← Hw0.out]; clear Hw0
      refine Hrdy.out.mono ?_
      rintro e w1 ⟨rfl, hL1⟩
      have hx1 := hbxa w1 hL1
      go_upto_region 5 with fail
      obtain ⟨w9, hw9⟩ : ∃ W, W = w1.alloc (.cells #[.int .i64 c.hour, .int .i64 c.grace, .slice A1 n1 k1, .slice A2 n2 k2, .slice A3 n3 k3] 26) := ⟨_, rfl⟩
      obtain ⟨g9, hg9⟩ : ∃ g, g = w1.heap.size := ⟨_, rfl⟩
      have hb9 : Blk w9 g9 26 #[.int .i64 c.hour, .int .i64 c.grace, .slice A1 n1 k1, .slice A2 n2 k2, .slice A3 n3 k3] := by rw [hw9, hg9]; exact Blk.new _ _ _
      have hL9 : Later w1 w9 := by rw [hw9]; exact later_alloc (later_refl _) _
      rw [← hw9, ← hg9]
      have hg9s : g9 < w9.heap.size := hb9.lt
      have hlo9 : w1.heap.size ≤ g9 := Nat.le_of_eq hg9.symm
      have hL09 := Later.trans hL1 hL9
      have hb9w := fun W (hW : Later w9 W) => hbox W (Later.trans hL09 hW)
      have hS9 : Later w9 w9.drew := later_drew (later_refl _)
      have Hhx := hide hx1
      clear hw9 hg9 hx1
      refine wp_region_lin (w0 := w9) 9 [] rely_later (by kernel_rfl) (by kernel_rfl) (by kernel_rfl) (by kernel_rfl) (hS9) (.inl rfl) ?_
      simp only [List.take_succ_cons, List.take_zero, List.drop_succ_cons, List.drop_zero]
      refine lin_any (IsNil0 w9.heap.size 44) false (fun v W W' k h => IsNil0.later h k) (F' := ?_) (by rfl) (fun _ => by rfl) ?_ ?_ ?_
      rotate_left 1
      focus (intro xs X hX hdep; skip; clear hdep; intro K hK; (try dsimp only); go_simp; (exact hK.out _ _ rfl (later_alloc (later_refl _) _) ⟨_, rfl, Blk.new _ _ _, hX.size⟩ (fun h => by cases h)))
      focus (intro xs; (try simp only [Act.put, List.setIfInBounds_toArray, List.set_cons_zero, List.set_cons_succ, Nat.reduceAdd]); rfl)
      refine lin_det (v := ?_) (F' := ?_) (by rfl) (fun _ => by rfl) ?_ ?_ ?_
      rotate_left 2
      focus (intro xs X hX hdep; clear hdep; (try dsimp only); go_simp; (try (first | with_reducible rfl | exact ⟨rfl, rfl⟩ | (fail))))
      focus (intro xs; (try simp only [Act.put, List.setIfInBounds_toArray, List.set_cons_zero, List.set_cons_succ, Nat.reduceAdd]); rfl)
      refine lin_det (v := ?_) (F' := ?_) (by rfl) (fun _ => by rfl) ?_ ?_ ?_
      rotate_left 2
      focus (intro xs X hX hdep; clear hdep; (try dsimp only); go_simp; (try (first | with_reducible rfl | exact ⟨rfl, rfl⟩ | (fail))))
      focus (intro xs; (try simp only [Act.put, List.setIfInBounds_toArray, List.set_cons_zero, List.set_cons_succ, Nat.reduceAdd]); rfl)
      refine lin_any (IsRow w9.heap.size 44 2 n1 (pairsV c.clocks)) false (fun v W W' k h => IsRow.later h k) (F' := ?_) (by rfl) (fun _ => by rfl) ?_ ?_ ?_
      rotate_left 1
      focus (intro xs X hX hdep; obtain ⟨g, e0, hbk, hbg⟩ := (show IsNil0 _ _ _ _ from hdep 0 1 (by kernel_rfl)); clear hdep; intro K hK; (try dsimp only); (refine app0_wp w9.heap.size _ _ 22 rfl rfl 44 (.agg #[.int .i64 0, .int .i64 0]) 2 16 Try.underlying22 rrange_info rfl (by omega) g (by exact e0) hbk hbg A1 n1 k1 (pairsV c.clocks) rfl Hl1.out (reads_cells (hc0.later (Later.trans hL09 hX)).ck) (reads_none hc0.ck) (pairs_one _) (by unfold maxLen; omega) (by omega) (fun v' w' hL hown => ?_); obtain ⟨A, k, rfl, _⟩ := own_slice (w0 := w9) hown; exact hK.out _ _ rfl hL ⟨A, k, rfl, hown⟩ (fun h => by cases h)))
      focus (intro xs; (try simp only [Act.put, List.setIfInBounds_toArray, List.set_cons_zero, List.set_cons_succ, Nat.reduceAdd]); rfl)
      refine lin_any (IsNil0 w9.heap.size 74) false (fun v W W' k h => IsNil0.later h k) (F' := ?_) (by rfl) (fun _ => by rfl) ?_ ?_ ?_
      rotate_left 1
      focus (intro xs X hX hdep; skip; clear hdep; intro K hK; (try dsimp only); go_simp; (exact hK.out _ _ rfl (later_alloc (later_refl _) _) ⟨_, rfl, Blk.new _ _ _, hX.size⟩ (fun h => by cases h)))
      focus (intro xs; (try simp only [Act.put, List.setIfInBounds_toArray, List.set_cons_zero, List.set_cons_succ, Nat.reduceAdd]); rfl)
      refine lin_det (v := ?_) (F' := ?_) (by rfl) (fun _ => by rfl) ?_ ?_ ?_
      rotate_left 2
      focus (intro xs X hX hdep; clear hdep; (try dsimp only); go_simp; (try (first | with_reducible rfl | exact ⟨rfl, rfl⟩ | (fail))))
      focus (intro xs; (try simp only [Act.put, List.setIfInBounds_toArray, List.set_cons_zero, List.set_cons_succ, Nat.reduceAdd]); rfl)
      refine lin_det (v := ?_) (F' := ?_) (by rfl) (fun _ => by rfl) ?_ ?_ ?_
      rotate_left 2
      focus (intro xs X hX hdep; clear hdep; (try dsimp only); go_simp; (try (first | with_reducible rfl | exact ⟨rfl, rfl⟩ | (fail))))
      focus (intro xs; (try simp only [Act.put, List.setIfInBounds_toArray, List.set_cons_zero, List.set_cons_succ, Nat.reduceAdd]); rfl)
      refine lin_any (IsRow w9.heap.size 74 3 n3 (clipsV c.clips)) false (fun v W W' k h => IsRow.later h k) (F' := ?_) (by rfl) (fun _ => by rfl) ?_ ?_ ?_
      rotate_left 1
      focus (intro xs X hX hdep; obtain ⟨g, e0, hbk, hbg⟩ := (show IsNil0 _ _ _ _ from hdep 4 1 (by kernel_rfl)); clear hdep; intro K hK; (try dsimp only); (refine app0_wp w9.heap.size _ _ 24 rfl rfl 74 (.agg #[.int .i64 0, .int .i64 0, .int .i64 0]) 3 24 Try.underlying24 rclip_info rfl (by omega) g (by exact e0) hbk hbg A3 n3 k3 (clipsV c.clips) rfl Hl3.out (reads_cells (hc0.later (Later.trans hL09 hX)).cp) (reads_none hc0.cp) (clips_one _) (by unfold maxLen; omega) (by omega) (fun v' w' hL hown => ?_); obtain ⟨A, k, rfl, _⟩ := own_slice (w0 := w9) hown; exact hK.out _ _ rfl hL ⟨A, k, rfl, hown⟩ (fun h => by cases h)))
      focus (intro xs; (try simp only [Act.put, List.setIfInBounds_toArray, List.set_cons_zero, List.set_cons_succ, Nat.reduceAdd]); rfl)
      refine lin_det (v := ?_) (F' := ?_) (by rfl) (fun _ => by rfl) ?_ ?_ ?_
      rotate_left 2
      focus (intro xs X hX hdep; clear hdep; (try dsimp only); go_simp; (try (first | with_reducible rfl | exact ⟨rfl, rfl⟩ | (fail))))
      focus (intro xs; (try simp only [Act.put, List.setIfInBounds_toArray, List.set_cons_zero, List.set_cons_succ, Nat.reduceAdd]); rfl)
      intro xs w10 hW hf hfr hfb
      obtain ⟨Ap, kp, hx3, hop⟩ := (show IsRow _ _ _ _ _ _ _ from hf 3)
      obtain ⟨Ac, kc, hx7, hoc⟩ := (show IsRow _ _ _ _ _ _ _ from hf 7)
      simp only [hx3, hx7, Nat.reduceAdd, Nat.zero_add]
      clear hf hfr hfb hx3 hx7
      clear hs1 hs2 hy2 hwn za1 za2 za3 za4 za5 za6
      have hM10 := Later.trans hL9 hW
      have hb10 := hb9.later hW
      have hk2 := hb10.cell 2
      have hk4 := hb10.cell 4
      have hk2f := hb10.frozen 2
      have hk4f := hb10.frozen 4
      simp only [List.getElem?_toArray, List.getElem?_cons_zero, List.getElem?_cons_succ] at hk2 hk4
      go_upto_region 6 with fail
      obtain ⟨gp, jp, e⟩ := own_form hop hnp
      injection e with e1 _ e3
      subst e1 e3
      have hpg : w9.heap.size ≤ gp := (hop.lt gp rfl).1
      obtain ⟨wA, hwA⟩ : ∃ W, W = (w10.setCell ⟨g9, 2, none⟩ (.slice (some ⟨gp, 0, none⟩) n1 kp)).setCell ⟨g9, 4, none⟩ (.slice Ac n3 kc) := ⟨_, rfl⟩
      have hbA : Blk wA g9 26 #[.int .i64 c.hour, .int .i64 c.grace, .slice (some ⟨gp, 0, none⟩) n1 kp, .slice A2 n2 k2, .slice Ac n3 kc] := by rw [hwA]; exact (hb10.set_ 2 _).set_ 4 _
      have hLA : Later w1 wA := by rw [hwA]; exact later_set (later_set hM10 _ hlo9 _) _ hlo9 _
      have hpA : wA.ownsRow w9.heap.size 44 2 (.slice (some ⟨gp, 0, none⟩) n1 kp) n1 (pairsV c.clocks) := by
        rw [hwA]
        refine own_block (own_block hop (fun g hg => Below.heap_setCell _ _ _ g ?_)) (fun g hg => Below.heap_setCell _ _ _ g ?_) <;> (have := (hop.lt g hg).1; show g ≠ g9; omega)
      have hcA : wA.ownsRow w9.heap.size 74 3 (.slice Ac n3 kc) n3 (clipsV c.clips) := by
        rw [hwA]
        refine own_block (own_block hoc (fun g hg => Below.heap_setCell _ _ _ g ?_)) (fun g hg => Below.heap_setCell _ _ _ g ?_) <;> (have := (hoc.lt g hg).1; show g ≠ g9; omega)
      rw [← hwA]
      clear hwA hb10 hop hoc hM10 hk2 hk4 hk2f hk4f hW hb9
      have hL0A := Later.trans hL1 hLA
      have hbxA := fun W (hW : Later wA W) => (hbA.later hW).cell
      have hxA2 := fun W hW => hbxA W hW 2
      simp only [List.getElem?_toArray, List.getElem?_cons_zero, List.getElem?_cons_succ] at hxA2
      obtain ⟨b, o, ⟨r1, r2⟩, hA1, _, hr, hr1, hr2⟩ := hc0.ck.get hza
      dsimp only at hr1 hr2
      have hrr := ok.clock _ (List.mem_of_getElem? hr)
      dsimp only at hrr
      have hr3 := fun W (hW : Later wA W) => hr1 W (Later.trans hL0A hW)
      have hr4 := fun W (hW : Later wA W) => hr2 W (Later.trans hL0A hW)
      have hxh := fun W (hW : Later wA W) => hbxa W (Later.trans hL0A hW)
      simp only [hA1] at hxh
      have hkn2 : (k : Int) < n1 := by omega
      have hw1 : wrap64 (r1 + n) = r1 + n := by unfold wrap64; omega
      have hw2 : wrap64 (r2 + n) = r2 + n := by unfold wrap64; omega
      have Hr := hide hr
      have Hbox := hide hbox
      have Hbxa := hide hbxa
      have Hbxb := hide hbxb
      clear hbxA hb9w hr1 hr2 hr hA1 hbox hbxa hbxb
      refine wp_region_ext_tail (w0 := wA) 21 (by kernel_rfl) (by kernel_rfl) (later_refl _) ?_; simp only [List.take_succ_cons, List.take_zero, List.drop_succ_cons, List.drop_zero]; (repeat (first | go_big_quiet_step ((fail)) | quiet_step ((fail)))); refine wpQuiet_nil ?_; rintro wB ⟨⟨_, hMB⟩, rfl⟩; (try dsimp only)
      have hpB := own_laterb hpA hMB
      have hcB := own_laterb hcA hMB
      have hbB := hbA.later hMB
      have hLB := Later.trans hLA hMB
      obtain ⟨hv0, hv1⟩ := pairsV_at Hr.out
      have hpl := Hl1.out
      have hxlo := hpB.cellAt (k * 2) (by omega)
      have hxhi := hpB.cellAt (k * 2 + 1) (by omega)
      rw [hv0] at hxlo
      rw [hv1] at hxhi
      have hflo := hpB.frozenAt (k * 2)
      have hfhi := hpB.frozenAt (k * 2 + 1)
      have hst := ((hpB.stored (k * 2) (.int .i64 (r1 + n))).1.stored (k * 2 + 1) (.int .i64 (r2 + n))).1
      have Hst := hide hst
      clear hv0 hv1 hpl hst hxA2 hr3 hr4 hxh hw1 hw2 hpA hcA hbA hLA
      go_upto_region 7 with fail
      obtain ⟨wD, hwD⟩ : ∃ W, W = (wB.setCell ⟨gp, k * 2, none⟩ (.int .i64 (r1 + n))).setCell ⟨gp, k * 2 + 1, none⟩ (.int .i64 (r2 + n)) := ⟨_, rfl⟩
      have hlp : w1.heap.size ≤ gp := by have := hL9.size; omega
      have hgpn : g9 ≠ gp := by omega
      have hLD : Later w1 wD := by rw [hwD]; exact later_set (later_set hLB _ hlp _) _ hlp _
      have hbD : Blk wD g9 26 #[.int .i64 c.hour, .int .i64 c.grace, .slice (some ⟨gp, 0, none⟩) n1 kp, .slice A2 n2 k2, .slice Ac n3 kc] := by rw [hwD]; exact (hbB.far hgpn _).far hgpn _
      have hpD : wD.ownsRow w9.heap.size 44 2 (.slice (some ⟨gp, 0, none⟩) n1 kp) n1 (pairsV (c.clocks.set k (r1 + n, r2 + n))) := by rw [hwD, pairsV_set]; exact Hst.out
      have hcD : wD.ownsRow w9.heap.size 74 3 (.slice Ac n3 kc) n3 (clipsV c.clips) := by
        rw [hwD]
        refine own_block (own_block hcB (fun g hg => Below.heap_setCell _ _ _ g ?_)) (fun g hg => Below.heap_setCell _ _ _ g ?_) <;> exact own_types hcB hpB (by decide) hg rfl
      rw [← hwD]
      clear hwD hbB hLB hpB hcB hxlo hxhi hflo hfhi Hst hMB
      go_wp2_with fail
      go_loopw [10] (fun v wr => ∃ i : Nat, i ≤ n3 ∧ v = .int .i64 i ∧ Later w1 wr ∧ wr.ownsRow w9.heap.size 44 2 (.slice (some ⟨gp, 0, none⟩) n1 kp) n1 (pairsV (c.clocks.set k (r1 + n, r2 + n))) ∧ wr.ownsRow w9.heap.size 74 3 (.slice Ac n3 kc) n3 (clipsV (mapTo (shiftCp k n) c.clips i)) ∧ Blk wr g9 26 #[.int .i64 c.hour, .int .i64 c.grace, .slice (some ⟨gp, 0, none⟩) n1 kp, .slice A2 n2 k2, .slice Ac n3 kc]) (fun v _ => n3 - (intOf v).toNat)
      case atStart => exact ⟨0, Nat.zero_le _, rfl, hLD, hpD, by rw [mapTo_zero]; exact hcD, hbD⟩
      case round =>
        obtain ⟨i, hi, rfl, hL, hpr, hcr, hbr⟩ := hrel
        clear hLD hpD hcD hbD
        have hxr := fun W (hW : Later wr W) => (hbr.later hW).cell 4
        simp only [List.getElem?_toArray, List.getElem?_cons_zero, List.getElem?_cons_succ] at hxr
        have hxr1 := hxr wr (later_refl _)
        by_cases hlt : i < n3
        · have hi1 : (i : Int) < n3 := by omega
          obtain ⟨gc, jc, e⟩ := own_form hcr (by omega)
          injection e with e1 _ e3
          subst e1 e3
          obtain ⟨z, hz⟩ : ∃ z, c.clips[i]? = some z := ⟨_, List.getElem?_eq_getElem (by rw [← Hn3.out]; exact hlt)⟩
          have hgz := ok.clip z (List.mem_of_getElem? hz)
          have hmg := mapTo_get (shiftCp k n) c.clips hz
          have hms := mapTo_succ (shiftCp k n) c.clips hz
          have hml := mapTo_len (shiftCp k n) c.clips i
          obtain ⟨ml, hmq⟩ : ∃ q, mapTo (shiftCp k n) c.clips i = q := ⟨_, rfl⟩
          rw [hmq] at hcr hmg hms hml
          have hcl : (clipsV ml).length = n3 * 3 := by rw [clipsV_length, hml, ← Hn3.out]
          have hv1 := clipsV_get ml i 1 z hmg (by omega)
          have hv2 := clipsV_get ml i 2 z hmg (by omega)
          have hx1 := hcr.cellAt (i * 3 + 1) (by omega)
          have hx2 := hcr.cellAt (i * 3 + 2) (by omega)
          rw [hv1] at hx1
          rw [hv2] at hx2
          simp only [Cp.cells, List.getElem?_cons_zero, List.getElem?_cons_succ] at hx1 hx2
          have hf2 := hcr.frozenAt (i * 3 + 2)
          have hgc := (hcr.lt gc rfl).1
          by_cases hck : z.clock = (k : Int)
          · have hckb : (z.clock == (k : Int)) = true := by simp [hck]
            have hwz : wrap64 (z.minute + n) = z.minute + n := by unfold wrap64; omega
            have hst := (hcr.stored (i * 3 + 2) (.int .i64 (z.minute + n))).1
            rw [← clipsV_minute ml i z (z.minute + n) hmg] at hst
            have hsx : shiftCp k n z = { z with minute := z.minute + n } := by unfold shiftCp; rw [if_pos hck]
            rw [hsx] at hms
            rw [← hms] at hst
            have hgcp : gc ≠ gp := own_types hcr hpr (by decide) rfl rfl
            have Hst := hide hst
            clear hmg hms hml hmq hcl hv1 hv2 hst hsx hz hck
            go_wp2_with fail
            go_roundw
            case rel =>
              have hlc : w1.heap.size ≤ gc := by have := hL9.size; omega
              have hgcn : g9 ≠ gc := by omega
              have hpr2 := own_block (W' := wr.setCell ⟨gc, i * 3 + 2, none⟩ (.int .i64 (z.minute + n))) hpr (fun g hg => Below.heap_setCell _ _ _ g (by injection hg with hg; show g ≠ gc; exact fun e => hgcp (e.symm.trans hg.symm)))
              exact ⟨i + 1, hlt, by go_num, later_set hL _ hlc _, hpr2, Hst.out, hbr.far hgcn _⟩
            case measure => simp [intOf]; omega
          · have hckb : (z.clock == (k : Int)) = false := by simp [hck]
            have hsx : shiftCp k n z = z := by unfold shiftCp; rw [if_neg hck]
            rw [hsx, set_self hmg] at hms
            rw [← hms] at hcr
            clear hmg hms hml hmq hcl hv1 hv2 hsx hz hck
            go_wp2_with fail
            go_roundw
            case rel => exact ⟨i + 1, hlt, by go_num, hL, hpr, hcr, hbr⟩
            case measure => simp [intOf]; omega
        · have hi1 : ¬ (i : Int) < n3 := by omega
          rw [mapTo_all _ _ (by rw [← Hn3.out]; omega)] at hcr
          clear hlt
          have hca : clockAt c k = (r1, r2) := clockAt_of Hr.out
          have hcx : CV wr (shiftC c k n) (some ⟨gp, 0, none⟩) n1 A2 n2 Ac n3 := by
            refine ⟨?_, (hc0.later (Later.trans hL1 hL)).tk, Reads.of_own hcr⟩
            show RP wr _ n1 (c.clocks.set k ((clockAt c k).1 + n, (clockAt c k).2 + n))
            rw [hca]
            exact Reads.of_own hpr
          have hlaw := fun hx => set_law (n := n) Hf.out (by rw [← Hn1.out]; exact hza) hx
          obtain ⟨w11, rfl⟩ : ∃ W : World, W = wr := ⟨_, rfl⟩
          have hL11 := Later.trans hL1 hL
          obtain ⟨xc, hxc⟩ : ∃ q, shiftC c k n = q := ⟨_, rfl⟩
          have hxh : xc.hour = c.hour := by rw [← hxc]; rfl
          have hxg : xc.grace = c.grace := by rw [← hxc]; rfl
          rw [hxc] at hcx hlaw
          have hrdx := ready_calls (k1 := kp) (k2 := k2) (k3 := kc) w11 hcx b1 b2 b3
          have hxb : Blk w11 g9 26 #[.int .i64 xc.hour, .int .i64 xc.grace, .slice (some ⟨gp, 0, none⟩) n1 kp, .slice A2 n2 k2, .slice Ac n3 kc] := by rw [hxh, hxg]; exact hbr
          have hbxx := fun W (hW : Later w11 W) => (hxb.later hW).cell
          have hy0 := fun W hW => hbxx W hW 0
          have hy1 := fun W hW => hbxx W hW 1
          have hy2 := fun W hW => hbxx W hW 2
          have hy3 := fun W hW => hbxx W hW 3
          have hy4 := fun W hW => hbxx W hW 4
          simp only [List.getElem?_toArray, List.getElem?_cons_zero, List.getElem?_cons_succ] at hy0 hy1 hy2 hy3 hy4
          have hT11 : Later w11 w11 := later_refl _
          have hbx0 := fun W (hW : Later w11 W) => Hbox.out W (Later.trans hL11 hW)
          have Hlaw := hide hlaw
          clear hca hxc hxh hxg hbr hxb hbxx hlaw hpr hcr hL hxr hxr1 hkn2
          cases hth2 : readyB xc with
          | false =>
            rw [hth2] at hrdx
            have Hrdx := hide hrdx
            clear hrdx hth2
            go_upto_region 12 with fail
            go_wp2_with fail
            refine (Hrdx.out).mono ?_
            rintro e w12 ⟨rfl, hM12⟩
            have hL12 := Later.trans hL11 hM12
            go_wp2_with fail
            refine (awake_calls _).mono ?_
            rintro e wa ⟨rfl, hLa⟩
            go_wp2_with fail
            go_ret
            exact ⟨rfl, Later.trans hL0 (Later.trans hL12 hLa)⟩
          | true =>
            rw [hth2] at hrdx
            have hfx := (readyB_true hth2).2
            have Hrdx := hide hrdx
            obtain ⟨hlv, hea, hrest⟩ := Hlaw.out hfx
            have hten := leave_ten' Hf.out
            have hlc := fun (B1 B2 B3 : Option Addr) (j1 j2 j3 : Nat) (W : World) (h : CV W c B1 n1 B2 n2 B3 n3) => LeaveP_calls (k1 := j1) (k2 := j2) (k3 := j3) W h (by omega) (by omega) (by omega)
            have hlx := fun (B1 B2 B3 : Option Addr) (j1 j2 j3 : Nat) (W : World) (h : CV W xc B1 n1 B2 n2 B3 n3) => LeaveP_calls (k1 := j1) (k2 := j2) (k3 := j3) W h (by omega) (by omega) (by omega)
            unfold LeavePost at hlc hlx
            rw [Hf.out] at hlc
            rw [hfx, hlv] at hlx
            obtain ⟨lv, hlvq⟩ : ∃ l, leaveOut c = l := ⟨_, rfl⟩
            rw [hlvq] at hlc hlx hten
            have hcc := fun (B1 B2 B3 : Option Addr) (j1 j2 j3 : Nat) (W : World) (h : CV W c B1 n1 B2 n2 B3 n3) => ClocksP_calls (k1 := j1) (k2 := j2) (k3 := j3) W h (by omega) (by omega) (by omega)
            have hcxx := fun (B1 B2 B3 : Option Addr) (j1 j2 j3 : Nat) (W : World) (h : CV W xc B1 n1 B2 n2 B3 n3) => ClocksP_calls (k1 := j1) (k2 := j2) (k3 := j3) W h (by omega) (by omega) (by omega)
            unfold PairsPost at hcc hcxx
            rw [hea] at hcxx
            have Hlc := hide hlc
            have Hlx := hide hlx
            have Hten := hide hten
            have Hcc := hide hcc
            have Hcx := hide hcxx
            have Hrest := hide hrest
            have Hea := hide hea
            clear hrdx hth2 hfx hlc hlx hlv hea hrest hten hlvq hcc hcxx Hlaw
            go_upto_region 12 with fail
            go_wp2_with fail
            refine (Hrdx.out).mono ?_
            rintro e w12 ⟨rfl, hM12⟩
            have hL12 := Later.trans hL11 hM12
            go_wp2_with fail
            refine (lawHouse_calls (k1 := k1) (k2 := k2) (k3 := k3) w12 (hc0.later hL12) (by omega) (by omega) (by omega)).mono ?_
            rintro e wa ⟨B1a, j1a, B2a, j2a, B3a, j3a, rfl, hMa, hca, hj1a, hj2a, hj3a⟩
            have hLa := Later.trans hL12 hMa
            go_wp2_with fail
            refine (Hlc.out _ _ _ _ _ _ wa hca).mono ?_
            rintro e w13 ⟨Al, nl, kl, rfl, hM13, hrl, _⟩
            have hK13 := Later.trans hM12 (Later.trans hMa hM13)
            have hL13 := Later.trans hL11 hK13
            clear hca hj1a hj2a hj3a hMa hLa hM12
            go_wp2_with fail
            refine (lawHouse_calls (k1 := kp) (k2 := k2) (k3 := kc) w13 (hcx.later hK13) (by omega) (by omega) (by omega)).mono ?_
            rintro e wa ⟨B1a, j1a, B2a, j2a, B3a, j3a, rfl, hMa, hca, hj1a, hj2a, hj3a⟩
            have hLa := Later.trans hL13 hMa
            go_wp2_with fail
            refine (Hlx.out _ _ _ _ _ _ wa hca).mono ?_
            rintro e w14 ⟨Am, nm, km, rfl, hM14, hrm, _⟩
            have hQ14 := Later.trans hMa hM14
            have hK14 := Later.trans hK13 hQ14
            have hL14 := Later.trans hL11 hK14
            have hlen := hrl.len
            have hlem := hrm.len
            have his := lawInts_calls (k := kl) (j := km) w14 (hrl.later hQ14) hrm (by have := Hten.out; omega) (by have := Hten.out; omega)
            rw [decide_eq_true rfl] at his
            have His := hide his
            clear hca hj1a hj2a hj3a hMa hLa hM13 hM14 hrl hrm hlen hlem his hQ14
            go_wp2_with fail
            refine (His.out).mono ?_
            rintro e w15 ⟨rfl, hM15⟩
            have hK15 := Later.trans hK14 hM15
            have hL15 := Later.trans hL11 hK15
            rcases asked_cases Hf.out with ⟨he, _⟩ | ⟨he, _⟩
            · have hcc := Hcc.out
              have hcxx := Hcx.out
              rw [he] at hcc hcxx
              have hex := Hea.out.trans he
              obtain ⟨lc1, lc2, hord, lh, hho, hpo, e1, e2, hlk⟩ := Hrest.out he
              have hhc := fun (B1 B2 B3 : Option Addr) (j1 j2 j3 : Nat) (W : World) (h : CV W c B1 n1 B2 n2 B3 n3) => HoursP_calls (k1 := j1) (k2 := j2) (k3 := j3) W h (by omega) (by omega) (by omega)
              have hhx := fun (B1 B2 B3 : Option Addr) (j1 j2 j3 : Nat) (W : World) (h : CV W xc B1 n1 B2 n2 B3 n3) => HoursP_calls (k1 := j1) (k2 := j2) (k3 := j3) W h (by omega) (by omega) (by omega)
              have hpc := fun (B1 B2 B3 : Option Addr) (j1 j2 j3 : Nat) (W : World) (h : CV W c B1 n1 B2 n2 B3 n3) => PaidP_calls (k1 := j1) (k2 := j2) (k3 := j3) W h (by omega) (by omega) (by omega)
              have hpx := fun (B1 B2 B3 : Option Addr) (j1 j2 j3 : Nat) (W : World) (h : CV W xc B1 n1 B2 n2 B3 n3) => PaidP_calls (k1 := j1) (k2 := j2) (k3 := j3) W h (by omega) (by omega) (by omega)
              have hkc := fun (B1 B2 B3 : Option Addr) (j1 j2 j3 : Nat) (W : World) (h : CV W c B1 n1 B2 n2 B3 n3) => LookP_calls (k1 := j1) (k2 := j2) (k3 := j3) W h (by omega) (by omega) (by omega)
              have hkx := fun (B1 B2 B3 : Option Addr) (j1 j2 j3 : Nat) (W : World) (h : CV W xc B1 n1 B2 n2 B3 n3) => LookP_calls (k1 := j1) (k2 := j2) (k3 := j3) W h (by omega) (by omega) (by omega)
              unfold PairsPost at hhc hhx
              rw [he] at hhc hpc
              rw [hex] at hhx hpx
              rw [hho] at hhx
              rw [hpo] at hpx
              rw [e1] at hkc
              rw [e2, hlk] at hkx
              obtain ⟨u, hu⟩ : ∃ q, paidOut c = q := ⟨_, rfl⟩
              obtain ⟨v, hv⟩ : ∃ q, (lookOut c).2 = q := ⟨_, rfl⟩
              rw [hu] at hpc hpx
              rw [hv] at hkc hkx
              have Hhc := hide hhc
              have Hhx := hide hhx
              have Hpc := hide hpc
              have Hpx := hide hpx
              have Hkc := hide hkc
              have Hkx := hide hkx
              have Hcc2 := hide hcc
              have Hcx2 := hide hcxx
              have Hord := hide hord
              have Hlc1 := hide lc1
              have Hlc2 := hide lc2
              have Hlh := hide lh
              have Hrg := hide (fun i a h => clocksOut_range (c := c) he (i := i) (a := a) h)
              clear he hex hcc hcxx hord lc1 lc2 lh hho hpo e1 e2 hlk hhc hhx hpc hpx hkc hkx hu hv Hrest Hcc Hcx Hea
              go_wp2_with fail
              refine (lawHouse_calls (k1 := k1) (k2 := k2) (k3 := k3) w15 (hc0.later hL15) (by omega) (by omega) (by omega)).mono ?_
              rintro e wa ⟨B1a, j1a, B2a, j2a, B3a, j3a, rfl, hMa, hca, hj1a, hj2a, hj3a⟩
              have hLa := Later.trans hL15 hMa
              go_wp2_with fail
              refine (Hcc2.out _ _ _ _ _ _ wa hca).mono ?_
              rintro e w16 ⟨Ad, nd, kd, rfl, hM16, hrd⟩
              have hK16 := Later.trans hK15 (Later.trans hMa hM16)
              have hL16 := Later.trans hL11 hK16
              clear hca hj1a hj2a hj3a hMa hLa hM16
              go_wp2_with fail
              refine (lawHouse_calls (k1 := kp) (k2 := k2) (k3 := kc) w16 (hcx.later hK16) (by omega) (by omega) (by omega)).mono ?_
              rintro e wa ⟨B1a, j1a, B2a, j2a, B3a, j3a, rfl, hMa, hca, hj1a, hj2a, hj3a⟩
              have hLa := Later.trans hL16 hMa
              go_wp2_with fail
              refine (Hcx2.out _ _ _ _ _ _ wa hca).mono ?_
              rintro e w17 ⟨Ae, ne, ke, rfl, hM17, hre⟩
              have hQ17 := Later.trans hMa hM17
              have hK17 := Later.trans hK16 hQ17
              have hL17 := Later.trans hL11 hK17
              have hrd17 := hrd.later hQ17
              have hnd := hrd17.len
              have hne := hre.len
              rw [Hlc1.out, ← Hn1.out] at hnd
              rw [Hlc2.out, ← Hn1.out] at hne
              subst nd ne
              have hne2 : ((n1 : Int) != (n1 : Int)) = false := by simp
              have hx17 := hbx0 w17 hK17 2
              simp only [List.getElem?_toArray, List.getElem?_cons_zero, List.getElem?_cons_succ] at hx17
              clear hca hj1a hj2a hj3a hMa hLa hM17 hrd hQ17
              go_wp2_with fail
              clear hx17
              go_loopw [19, 20] (fun v _ wr => ∃ i : Nat, i ≤ n1 ∧ v = .int .i64 i ∧ Later w17 wr) (fun v _ _ => n1 - (intOf v).toNat)
              case atStart => exact ⟨0, Nat.zero_le _, rfl, later_refl _⟩
              case round =>
                obtain ⟨i, hi, rfl, hL⟩ := hrel
                have hL0r := Later.trans hL17 hL
                by_cases hlt : i < n1
                · have hi1 : (i : Int) < n1 := by omega
                  obtain ⟨ba, oa, ⟨a1, a2⟩, rfl, _, ha, ha1, ha2⟩ := hrd17.get hlt
                  obtain ⟨bd, od, ⟨d1, d2⟩, rfl, _, hd, hd1, hd2⟩ := hre.get hlt
                  have ho := Hord.out i _ _ ha hd
                  obtain ⟨hg1, hg2, hg3, hg4⟩ := Hrg.out i _ ha
                  dsimp only at ho ha1 ha2 hd1 hd2 hg1 hg2 hg3 hg4
                  have c1 := fun W (hW : Later wr W) => ha1 W (Later.trans hL hW)
                  have c2 := fun W (hW : Later wr W) => ha2 W (Later.trans hL hW)
                  have c3 := fun W (hW : Later wr W) => hd1 W (Later.trans hL hW)
                  have c4 := fun W (hW : Later wr W) => hd2 W (Later.trans hL hW)
                  clear ha hd ha1 ha2 hd1 hd2
                  by_cases hik : i = k
                  · skip
                    have hikb : ((i : Int) == (k : Int)) = true := by simp [hik]
                    rw [if_pos hik] at ho
                    obtain ⟨rfl, rfl⟩ := Prod.mk.inj ho
                    have hv1 : wrap64 (a1 + n) = a1 + n := by unfold wrap64; omega
                    have hv2 : wrap64 (a2 + n) = a2 + n := by unfold wrap64; omega
                    clear hik ho
                    go_wp2_with fail
                    refine wp_region_ext (w0 := wr) (by kernel_rfl) (by kernel_rfl) (later_refl _) ?_; (repeat (first | go_big_quiet_step (((go_at_call 51; exact calls_ext (by simp) (lawBetween_calls _ _ _)))) | quiet_step (((go_at_call 51; exact calls_ext (by simp) (lawBetween_calls _ _ _)))))); refine wpQuiet_nil ?_; rintro w18 ⟨⟨_, hM18⟩, rfl⟩; (try dsimp only)
                    go_wp2_with fail
                    go_roundw
                    case rel => exact ⟨i + 1, hlt, by go_num, Later.trans hL hM18⟩
                    case measure => simp [intOf]; omega
                  · skip
                    have hikb : ((i : Int) == (k : Int)) = false := by simp; omega
                    rw [if_neg hik] at ho
                    obtain ⟨rfl, rfl⟩ := Prod.mk.inj ho
                    have hv1 : wrap64 (a1 + 0) = a1 + 0 := by unfold wrap64; omega
                    have hv2 : wrap64 (a2 + 0) = a2 + 0 := by unfold wrap64; omega
                    clear hik ho
                    go_wp2_with fail
                    refine wp_region_ext (w0 := wr) (by kernel_rfl) (by kernel_rfl) (later_refl _) ?_; (repeat (first | go_big_quiet_step (((go_at_call 51; exact calls_ext (by simp) (lawBetween_calls _ _ _)))) | quiet_step (((go_at_call 51; exact calls_ext (by simp) (lawBetween_calls _ _ _)))))); refine wpQuiet_nil ?_; rintro w18 ⟨⟨_, hM18⟩, rfl⟩; (try dsimp only)
                    go_wp2_with fail
                    go_roundw
                    case rel => exact ⟨i + 1, hlt, by go_num, Later.trans hL hM18⟩
                    case measure => simp [intOf]; omega
                · have hi1 : ¬ (i : Int) < n1 := by omega
                  clear hlt hi hrd17 hre Hord Hrg
                  obtain ⟨w20, rfl⟩ : ∃ W : World, W = wr := ⟨wr, rfl⟩
                  have hK20 := Later.trans hK17 hL
                  clear hL
                  go_wp2_with fail
                  refine (lawHouse_calls (k1 := k1) (k2 := k2) (k3 := k3) w20 (hc0.later hL0r) (by omega) (by omega) (by omega)).mono ?_
                  rintro e wa ⟨B1a, j1a, B2a, j2a, B3a, j3a, rfl, hMa, hca, hj1a, hj2a, hj3a⟩
                  have hLa := Later.trans hL0r hMa
                  go_wp2_with fail
                  refine (Hhc.out _ _ _ _ _ _ wa hca).mono ?_
                  rintro e w21 ⟨Ah, nh, kh, rfl, hM21, hrh⟩
                  have hK21 := Later.trans hK20 (Later.trans hMa hM21)
                  have hL21 := Later.trans hL11 hK21
                  clear hca hj1a hj2a hj3a hMa hLa hM21
                  go_wp2_with fail
                  refine (lawHouse_calls (k1 := kp) (k2 := k2) (k3 := kc) w21 (hcx.later hK21) (by omega) (by omega) (by omega)).mono ?_
                  rintro e wa ⟨B1a, j1a, B2a, j2a, B3a, j3a, rfl, hMa, hca, hj1a, hj2a, hj3a⟩
                  have hLa := Later.trans hL21 hMa
                  go_wp2_with fail
                  refine (Hhx.out _ _ _ _ _ _ wa hca).mono ?_
                  rintro e w22 ⟨Ai, ni, ki, rfl, hM22, hri⟩
                  have hQ22 := Later.trans hMa hM22
                  have hK22 := Later.trans hK21 hQ22
                  have hL22 := Later.trans hL11 hK22
                  have hrh22 := hrh.later hQ22
                  clear hca hj1a hj2a hj3a hMa hLa hM22 hrh hQ22
                  go_wp2_with fail
                  refine (lawHouse_calls (k1 := k1) (k2 := k2) (k3 := k3) w22 (hc0.later hL22) (by omega) (by omega) (by omega)).mono ?_
                  rintro e wa ⟨B1a, j1a, B2a, j2a, B3a, j3a, rfl, hMa, hca, hj1a, hj2a, hj3a⟩
                  have hLa := Later.trans hL22 hMa
                  go_wp2_with fail
                  refine (Hpc.out _ _ _ _ _ _ wa hca).mono ?_
                  rintro e w23 ⟨rfl, hM23⟩
                  have hQ23 := Later.trans hMa hM23
                  have hK23 := Later.trans hK22 hQ23
                  have hL23 := Later.trans hL11 hK23
                  clear hca hj1a hj2a hj3a hMa hLa hM23
                  go_wp2_with fail
                  refine (lawHouse_calls (k1 := kp) (k2 := k2) (k3 := kc) w23 (hcx.later hK23) (by omega) (by omega) (by omega)).mono ?_
                  rintro e wa ⟨B1a, j1a, B2a, j2a, B3a, j3a, rfl, hMa, hca, hj1a, hj2a, hj3a⟩
                  have hLa := Later.trans hL23 hMa
                  go_wp2_with fail
                  refine (Hpx.out _ _ _ _ _ _ wa hca).mono ?_
                  rintro e w24 ⟨rfl, hM24⟩
                  have hQ24 := Later.trans hQ23 (Later.trans hMa hM24)
                  have hK24 := Later.trans hK22 hQ24
                  have hL24 := Later.trans hL11 hK24
                  clear hca hj1a hj2a hj3a hMa hLa hM24 hQ23
                  go_wp2_with fail
                  refine (lawHouse_calls (k1 := k1) (k2 := k2) (k3 := k3) w24 (hc0.later hL24) (by omega) (by omega) (by omega)).mono ?_
                  rintro e wa ⟨B1a, j1a, B2a, j2a, B3a, j3a, rfl, hMa, hca, hj1a, hj2a, hj3a⟩
                  have hLa := Later.trans hL24 hMa
                  go_wp2_with fail
                  refine (Hkc.out _ _ _ _ _ _ wa hca).mono ?_
                  rintro e w25 ⟨rfl, hM25⟩
                  have hQ25 := Later.trans hQ24 (Later.trans hMa hM25)
                  have hK25 := Later.trans hK22 hQ25
                  have hL25 := Later.trans hL11 hK25
                  clear hca hj1a hj2a hj3a hMa hLa hM25 hQ24
                  go_wp2_with fail
                  refine (lawHouse_calls (k1 := kp) (k2 := k2) (k3 := kc) w25 (hcx.later hK25) (by omega) (by omega) (by omega)).mono ?_
                  rintro e wa ⟨B1a, j1a, B2a, j2a, B3a, j3a, rfl, hMa, hca, hj1a, hj2a, hj3a⟩
                  have hLa := Later.trans hL25 hMa
                  go_wp2_with fail
                  refine (Hkx.out _ _ _ _ _ _ wa hca).mono ?_
                  rintro e w26 ⟨rfl, hM26⟩
                  have hQ26 := Later.trans hQ25 (Later.trans hMa hM26)
                  have hK26 := Later.trans hK22 hQ26
                  have hL26 := Later.trans hL11 hK26
                  have hrh26 := hrh22.later hQ26
                  have hri26 := hri.later hQ26
                  have hnh := hrh26.len
                  have hni := hri26.len
                  rw [Hlh.out, ← Hn2.out] at hnh hni
                  subst nh ni
                  have Hin1 := hide (inside_calls (k := kh) (j := ki) w26 hrh26 hri26 (by omega) (fun i a b ha hb => by rw [ha] at hb; injection hb with hb; subst hb; exact ⟨Int.le_refl _, Int.le_refl _⟩))
                  have Hin2 := hide (fun (W : World) (hW : Later w26 W) => inside_calls (k := ki) (j := kh) W (hri26.later hW) (hrh26.later hW) (by omega) (fun i a b ha hb => by rw [ha] at hb; injection hb with hb; subst hb; exact ⟨Int.le_refl _, Int.le_refl _⟩))
                  have huu : (u == u) = true := by simp
                  have hvv : (v == v) = true := by simp
                  clear hca hj1a hj2a hj3a hMa hLa hM26 hrh22 hri hrh26 hri26 hQ25 hQ26
                  go_wp2_with fail
                  refine (Hin1.out).mono ?_
                  rintro e w27 ⟨rfl, hM27⟩
                  go_wp2_with fail
                  refine (Hin2.out w27 hM27).mono ?_
                  rintro e w28 ⟨rfl, hM28⟩
                  have hL28 := Later.trans hL26 (Later.trans hM27 hM28)
                  go_wp2_with fail
                  refine (awake_calls _).mono ?_
                  rintro e wa ⟨rfl, hLa⟩
                  go_wp2_with fail
                  go_ret
                  exact ⟨rfl, Later.trans hL0 (Later.trans hL28 hLa)⟩
            · have hcc := Hcc.out
              have hcxx := Hcx.out
              rw [he] at hcc hcxx
              have Hcc2 := hide hcc
              have Hcx2 := hide hcxx
              clear he hcc hcxx Hrest Hcc Hcx Hea
              go_wp2_with fail
              refine (lawHouse_calls (k1 := k1) (k2 := k2) (k3 := k3) w15 (hc0.later hL15) (by omega) (by omega) (by omega)).mono ?_
              rintro e wa ⟨B1a, j1a, B2a, j2a, B3a, j3a, rfl, hMa, hca, hj1a, hj2a, hj3a⟩
              have hLa := Later.trans hL15 hMa
              go_wp2_with fail
              refine (Hcc2.out _ _ _ _ _ _ wa hca).mono ?_
              rintro e w16 ⟨Ad, nd, kd, rfl, hM16, _⟩
              have hK16 := Later.trans hK15 (Later.trans hMa hM16)
              have hL16 := Later.trans hL11 hK16
              clear hca hj1a hj2a hj3a hMa hLa hM16
              go_wp2_with fail
              refine (lawHouse_calls (k1 := kp) (k2 := k2) (k3 := kc) w16 (hcx.later hK16) (by omega) (by omega) (by omega)).mono ?_
              rintro e wa ⟨B1a, j1a, B2a, j2a, B3a, j3a, rfl, hMa, hca, hj1a, hj2a, hj3a⟩
              have hLa := Later.trans hL16 hMa
              go_wp2_with fail
              refine (Hcx2.out _ _ _ _ _ _ wa hca).mono ?_
              rintro e w17 ⟨Ae, ne, ke, rfl, hM17, _⟩
              have hK17 := Later.trans hK16 (Later.trans hMa hM17)
              have hL17 := Later.trans hL11 hK17
              go_wp2_with fail
              refine (awake_calls _).mono ?_
              rintro e wa ⟨rfl, hLa⟩
              go_wp2_with fail
              go_ret
              exact ⟨rfl, Later.trans hL0 (Later.trans hL17 hLa)⟩
end Go.Proofs.Ytbkfnajpbhfneaa
