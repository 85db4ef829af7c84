/- ClosetTurned: the walk. -/
import Derived.Test.YtjilckjhdlabaaaPart17
import Derived.Test.YtjilckjhdlabaaaPart19
import Derived.Test.YtjilckjhdlabaaaPart6
set_option linter.unusedSimpArgs false
set_option linter.unusedVariables false
namespace Go.Proofs.Ytjilckjhdlabaaa
open Go Go.RowKit
attribute [local go_sem] later_alloc2 later_alloc3 later_alloc4

theorem mirr_snoc {m : Int} {p : List Int} {j : Nat} {x : Int} (h : p[j]? = some x) : mirr m (p.take (j + 1)) = mirr m (p.take j) ++ [m - 1 - x] := by
  unfold mirr; rw [List.take_add_one, h, List.map_append]; rfl
set_option maxRecDepth 100000 in
theorem mirrored_calls {A1 A2 A3 : Option Addr} {n1 k1 n2 k2 n3 k3 : Nat} {c : Clo} {Ap : Option Addr} {np kp : Nat} {p : List Int} (w : World) (hc : CV w c A1 n1 A2 n2 A3 n3) (hcl : 1 ≤ c.closets ∧ c.closets ≤ 4) (hp : RI w Ap np p) (hnp : np ≤ 1000) (hb : ∀ x ∈ p, 0 ≤ x ∧ x < 4) :
    Calls Try.prog 52 #[(.agg #[.int .i64 c.closets, .int .i64 c.close, .slice A1 n1 k1, .slice A2 n2 k2, .slice A3 n3 k3]), .slice Ap np kp] w fun e w' => ∃ A k, e = .returned (.slice A np k) ∧ Later w w' ∧ RI w' A np (mirr c.closets p) ∧ np ≤ k := by
  obtain ⟨w0, hw0⟩ : ∃ W, W = (w.alloc (.cells #[.int .i64 c.closets, .int .i64 c.close, .slice A1 n1 k1, .slice A2 n2 k2, .slice A3 n3 k3] 26)) := ⟨_, rfl⟩; have hbox : ∀ W, Later w0 W → ∀ i, W.cell? ⟨w.heap.size, i, none⟩ = #[.int .i64 c.closets, .int .i64 c.close, .slice A1 n1 k1, .slice A2 n2 k2, .slice A3 n3 k3][i]? := (by rw [hw0]; exact box_cells w #[.int .i64 c.closets, .int .i64 c.close, .slice A1 n1 k1, .slice A2 n2 k2, .slice A3 n3 k3] 26); have hL0 : Later w w0 := (by rw [hw0]; simp); have hc0 := hc.later hL0; have Hw0 := hide hw0; clear hw0
  have hp0 := hp.later hL0
  have hnl := hp0.len
  have Hnl := hide hnl
  have hb0 := fun W hW => hbox W hW 0
  simp only [List.getElem?_toArray, List.getElem?_cons_zero] at hb0
  clear hnl hbox
  go_enter Try.func52, Try.ntmps52
  go_wp2_with fail
  rw [← Hw0.out]; clear Hw0
  go_loopw [5, 6] (fun v i wr => ∃ j : Nat, j ≤ np ∧ i = .int .i64 j ∧ wr.ownsRow w0.heap.size 3 1 v j (ints (mirr c.closets (p.take j))) ∧ Later w0 wr) (fun _ i _ => np - (intOf i).toNat)
  case atStart => exact ⟨0, Nat.zero_le _, rfl, World.ownsRow_nil _ _ _ _, later_refl _⟩
  case round =>
    obtain ⟨j, hj, rfl, hown, hL⟩ := hrel
    by_cases hlt : j < np
    · have hi1 : (j : Int) < np := by omega
      obtain ⟨b, o, x, rfl, _, hx, cx⟩ := hp0.get hlt
      have hbx := hb x (List.mem_of_getElem? hx)
      have hs := mirr_snoc (m := c.closets) hx
      have Hs := hide hs
      have hw1 : IntKind.i64.wrap (c.closets - 1) = c.closets - 1 := IntWalk.i64_in _ (by omega)
      have hw2 : IntKind.i64.wrap (c.closets - 1 - x) = c.closets - 1 - x := IntWalk.i64_in _ (by omega)
      have hS : Later wr wr.drew := later_drew (later_refl _)
      have hb1 := fun W (hW : Later wr W) => hb0 W (Later.trans hL hW)
      have cx1 := fun W (hW : Later wr W) => cx W (Later.trans hL hW)
      have Hown := hide hown
      clear hs hx cx hb0 hown
      go_wp2_with fail
      refine wp_region_lin (w0 := wr) 10 [] rely_later (by kernel_rfl) (by kernel_rfl) (by kernel_rfl) (by kernel_rfl) (hS) (.inl rfl) ?_
      simp only [List.take_succ_cons, List.take_zero, List.drop_succ_cons, List.drop_zero]
      refine lin_det (v := ?_) (F' := ?_) (by rfl) (fun _ => by rfl) ?_ ?_ ?_
      rotate_left 2
      focus (intro xs X hX hdep; clear hdep; (try dsimp only); go_simp; (try (first | with_reducible rfl | exact ⟨rfl, rfl⟩ | (fail))))
      focus (intro xs; (try simp only [Act.put, List.setIfInBounds_toArray, List.set_cons_zero, List.set_cons_succ, Nat.reduceAdd]); rfl)
      refine lin_det (v := ?_) (F' := ?_) (by rfl) (fun _ => by rfl) ?_ ?_ ?_
      rotate_left 2
      focus (intro xs X hX hdep; clear hdep; (try dsimp only); go_simp; (try (first | with_reducible rfl | exact ⟨rfl, rfl⟩ | (fail))))
      focus (intro xs; (try simp only [Act.put, List.setIfInBounds_toArray, List.set_cons_zero, List.set_cons_succ, Nat.reduceAdd]); rfl)
      refine lin_det (v := ?_) (F' := ?_) (by rfl) (fun _ => by rfl) ?_ ?_ ?_
      rotate_left 2
      focus (intro xs X hX hdep; clear hdep; (try dsimp only); go_simp; (try (first | with_reducible rfl | exact ⟨rfl, rfl⟩ | (fail))))
      focus (intro xs; (try simp only [Act.put, List.setIfInBounds_toArray, List.set_cons_zero, List.set_cons_succ, Nat.reduceAdd]); rfl)
      refine lin_det (v := ?_) (F' := ?_) (by rfl) (fun _ => by rfl) ?_ ?_ ?_
      rotate_left 2
      focus (intro xs X hX hdep; clear hdep; (try dsimp only); go_simp; (try (first | with_reducible rfl | exact ⟨rfl, rfl⟩ | (fail))))
      focus (intro xs; (try simp only [Act.put, List.setIfInBounds_toArray, List.set_cons_zero, List.set_cons_succ, Nat.reduceAdd]); rfl)
      refine lin_det (v := ?_) (F' := ?_) (by rfl) (fun _ => by rfl) ?_ ?_ ?_
      rotate_left 2
      focus (intro xs X hX hdep; clear hdep; (try dsimp only); go_simp; (try (first | with_reducible rfl | exact ⟨rfl, rfl⟩ | (fail))))
      focus (intro xs; (try simp only [Act.put, List.setIfInBounds_toArray, List.set_cons_zero, List.set_cons_succ, Nat.reduceAdd]); rfl)
      refine lin_det (v := ?_) (F' := ?_) (by rfl) (fun _ => by rfl) ?_ ?_ ?_
      rotate_left 2
      focus (intro xs X hX hdep; clear hdep; (try dsimp only); go_simp; (try (first | with_reducible rfl | exact ⟨rfl, rfl⟩ | (fail))))
      focus (intro xs; (try simp only [Act.put, List.setIfInBounds_toArray, List.set_cons_zero, List.set_cons_succ, Nat.reduceAdd]); rfl)
      refine lin_det (v := ?_) (F' := ?_) (by rfl) (fun _ => by rfl) ?_ ?_ ?_
      rotate_left 2
      focus (intro xs X hX hdep; clear hdep; (try dsimp only); go_simp; (try (first | with_reducible rfl | exact ⟨rfl, rfl⟩ | (fail))))
      focus (intro xs; (try simp only [Act.put, List.setIfInBounds_toArray, List.set_cons_zero, List.set_cons_succ, Nat.reduceAdd]); rfl)
      refine lin_det (v := ?_) (F' := ?_) (by rfl) (fun _ => by rfl) ?_ ?_ ?_
      rotate_left 2
      focus (intro xs X hX hdep; clear hdep; (try dsimp only); go_simp; (try (first | with_reducible rfl | exact ⟨rfl, rfl⟩ | (fail))))
      focus (intro xs; (try simp only [Act.put, List.setIfInBounds_toArray, List.set_cons_zero, List.set_cons_succ, Nat.reduceAdd]); rfl)
      refine lin_det (v := ?_) (F' := ?_) (by rfl) (fun _ => by rfl) ?_ ?_ ?_
      rotate_left 2
      focus (intro xs X hX hdep; clear hdep; (try dsimp only); go_simp; (try (first | with_reducible rfl | exact ⟨rfl, rfl⟩ | (fail))))
      focus (intro xs; (try simp only [Act.put, List.setIfInBounds_toArray, List.set_cons_zero, List.set_cons_succ, Nat.reduceAdd]); rfl)
      refine lin_any (IsNew 3 [.int .i64 (c.closets - 1 - x)]) false (fun v W W' h k => k.later h) (F' := ?_) (by rfl) (fun _ => by rfl) ?_ ?_ ?_
      rotate_left 1
      focus (intro xs X hX hdep; skip; clear hdep; intro K hK; (try dsimp only); go_simp; (exact hK.out _ _ rfl (later_alloc (later_refl _) _) ⟨_, rfl, Blk.new _ _ _⟩ (fun h => by cases h)))
      focus (intro xs; (try simp only [Act.put, List.setIfInBounds_toArray, List.set_cons_zero, List.set_cons_succ, Nat.reduceAdd]); rfl)
      intro xs W hW hf hfr hfb
      obtain ⟨g, hx9, hbk⟩ := (show IsNew _ _ _ _ from hf 9)
      simp only [hx9, Nat.reduceAdd, Nat.zero_add]
      have hown := own_later Hown.out hW
      have hbs := (Later.trans hL hW).size
      clear hf hfr hfb hx9
      go_wp2_with (at_builtin; refine appG rfl w0.heap.size _ _ 23 rfl 3 (.int .i64 0) 1 8 Try.underlying23 int_info rfl (by omega) u5 j _ rfl hbs hown ⟨g, 0, none⟩ 1 1 [.int .i64 (c.closets - 1 - x)] rfl rfl hbk.one (by simp [Value.oneCell']) (by omega) (by omega) (by omega) ?_)
      intro v' w' hap
      have hown2 := hap.own
      have hL2 := hap.later (Later.trans hL hW) hown
      have e1 : ints (mirr c.closets (p.take (j + 1))) = ints (mirr c.closets (p.take j)) ++ [.int .i64 (c.closets - 1 - x)] := by rw [Hs.out]; simp [ints]
      rw [← e1] at hown2
      clear hap hown e1
      go_wp2_with fail
      go_roundw
      case rel => exact ⟨j + 1, hlt, by go_num, hown2, hL2⟩
      case measure => simp [intOf]; omega
    · have hi1 : ¬ (j : Int) < np := by omega
      have e1 : p.take j = p := List.take_of_length_le (by have := Hnl.out; omega)
      obtain rfl : j = np := by omega
      rw [e1] at hown
      obtain ⟨A, k, rfl, _⟩ := own_slice hown
      have hk := own_cap hown
      have hr : RI wr A j (mirr c.closets p) := Reads.of_own hown
      clear e1 hlt
      go_wp2_with fail
      go_ret
      exact ⟨A, k, rfl, Later.trans hL0 hL, hr, hk⟩

def aloneTo (p : List Int) (j : Nat) : Bool := (List.range j).all fun k => !p.contains (p.getD k 0 + 1)
theorem aloneTo_succ (p : List Int) (j : Nat) : aloneTo p (j + 1) = (aloneTo p j && !p.contains (p.getD j 0 + 1)) := by
  unfold aloneTo; rw [List.range_succ, List.all_append]; simp
set_option maxRecDepth 100000 in
set_option maxHeartbeats 16000000 in
theorem lawTurned_calls {A1 A2 A3 : Option Addr} {n1 k1 n2 k2 n3 k3 : Nat} {c : Clo} {Aw : Option Addr} {nw kw : Nat} {l : List Nat} {q : Nat} (w : World) (hc : CV w c A1 n1 A2 n2 A3 n3) (hcl : i64 c.closets) (b1 : n1 ≤ 9223372036854775807) (b2 : n2 ≤ 9223372036854775807) (b3 : n3 ≤ 9223372036854775807)
    (hq : q < 65536) (hw : RW w Aw nw l) (hnw : nw ≤ 9223372036854775807) :
    Calls Try.prog 9 #[(.agg #[.int .i64 c.closets, .int .i64 c.close, .slice A1 n1 k1, .slice A2 n2 k2, .slice A3 n3 k3]), .int .u16 q, .slice Aw nw kw] w fun e w' => e = .returned (.bool true) ∧ Later w w' := by
  obtain ⟨w0, hw0⟩ : ∃ W, W = (w.alloc (.cells #[.int .i64 c.closets, .int .i64 c.close, .slice A1 n1 k1, .slice A2 n2 k2, .slice A3 n3 k3] 26)) := ⟨_, rfl⟩; have hbox : ∀ W, Later w0 W → ∀ i, W.cell? ⟨w.heap.size, i, none⟩ = #[.int .i64 c.closets, .int .i64 c.close, .slice A1 n1 k1, .slice A2 n2 k2, .slice A3 n3 k3][i]? := (by rw [hw0]; exact box_cells w #[.int .i64 c.closets, .int .i64 c.close, .slice A1 n1 k1, .slice A2 n2 k2, .slice A3 n3 k3] 26); have hL0 : Later w w0 := (by rw [hw0]; simp); have hc0 := hc.later hL0; have Hw0 := hide hw0; clear hw0
  have hw0' := hw.later hL0
  have hrdy := ready_calls (k1 := k1) (k2 := k2) (k3 := k3) w0 hc0 hcl b1 b2 b3
  cases hth : readyB c with
  | false =>
    rw [hth] at hrdy
    have Hrdy := hide hrdy
    clear hth hrdy
    go_enter Try.func9, Try.ntmps9
    go_wp2_with fail
    rw [← Hw0.out]; clear Hw0
    refine Hrdy.out.mono ?_
    rintro e w1 ⟨rfl, hL1⟩
    go_wp2_with fail
    refine (awake_calls _).mono ?_
    rintro e w2 ⟨rfl, hL2⟩
    go_wp2_with fail
    go_ret
    exact ⟨rfl, Later.trans hL0 (Later.trans hL1 hL2)⟩
  | true =>
    rw [hth] at hrdy
    have hn1 := hc.hs.len
    have hn2 := hc.hu.len
    have hn3 := hc.lk.len
    have hf := (readyB_true hth).2
    have ok := okC_of_fault hf
    have l1 : n1 ≤ 4 := by have := ok.len; omega
    have l2 : n2 ≤ 4 := by have := ok.len; have := ok.hung.len; omega
    have l3 : n3 ≤ 5 := by have := ok.nlooks; omega
    have Hn1 := hide hn1
    have Hn2 := hide hn2
    have Hn3 := hide hn3
    have Hf := hide hf
    have Hrdy := hide hrdy
    clear hth hrdy hn1 hn2 hn3 hf
    have okh : ∀ h ∈ c.horses, 1 ≤ h.lo ∧ h.lo ≤ h.hi ∧ h.hi ≤ 60 := fun h hh => by have := ok.horse h hh; omega
    have hmr := (fault_zero Hf.out).2.2.2.2.2.2
    have hmny := many_range okh
    obtain ⟨my, hmy⟩ : ∃ m, many c = m := ⟨_, rfl⟩
    have hmyc := fun (W : World) (hW : Later w0 W) => Many_calls (k1 := k1) (k2 := k2) (k3 := k3) W (hc0.later hW) okh (by omega)
    rw [hmy] at hmyc hmny hmr
    obtain ⟨m1, hm1⟩ : ∃ m, (q : Int) % my = m := ⟨_, rfl⟩
    have hr1 : 0 ≤ m1 ∧ m1 < my := by rw [← hm1]; exact ⟨Int.emod_nonneg _ (by omega), Int.emod_lt_of_pos _ (by omega)⟩
    have hv1 : ¬ my = 0 := by omega
    have hv2 : (q : Int).tmod my = m1 := by rw [← hm1, Int.tmod_eq_emod_of_nonneg (by omega)]
    have hv4 : IntKind.i64.wrap m1 = m1 := IntWalk.i64_in _ (by omega)
    have hv6 : IntKind.i64.wrap (q : Int) = (q : Int) := IntWalk.i64_in _ (by omega)
    have hN1 := fun (W : World) (hW : Later w0 W) => Nth_calls (k1 := k1) (k2 := k2) (k3 := k3) (n := m1) W (hc0.later hW) okh (by omega) (by omega) (by omega)
    have ht := nth_dry c.horses m1 okh
    obtain ⟨t, hd⟩ : ∃ d, nth c.horses m1 = d := ⟨_, rfl⟩
    rw [hd] at hN1 ht
    have htl := areNumbers_len _ _ ht
    have Ht := hide ht
    have Htl := hide htl
    have HN1 := hide hN1
    have Hmyc := hide hmyc
    clear ht htl hN1 hmyc hd hm1 hmy hmr hmny
    go_enter Try.func9, Try.ntmps9
    go_wp2_with fail
    rw [← Hw0.out]; clear Hw0
    refine Hrdy.out.mono ?_
    rintro e w1 ⟨rfl, hL1⟩
    have hb1 := fun W (hW : Later w1 W) => hbox W (Later.trans hL1 hW)
    have hS1 : Later w1 w1.drew := later_drew (later_refl _)
    clear hbox
    go_wp2_with fail
    refine wp_region_lin (w0 := w1) 10 [] rely_later (by kernel_rfl) (by kernel_rfl) (by kernel_rfl) (by kernel_rfl) (hS1) (.inl rfl) ?_
    simp only [List.take_succ_cons, List.take_zero, List.drop_succ_cons, List.drop_zero]
    refine lin_det (v := ?_) (F' := ?_) (by rfl) (fun _ => by rfl) ?_ ?_ ?_
    rotate_left 2
    focus (intro xs X hX hdep; clear hdep; (try dsimp only); go_simp; (try (first | with_reducible rfl | exact ⟨rfl, rfl⟩ | (fail))))
    focus (intro xs; (try simp only [Act.put, List.setIfInBounds_toArray, List.set_cons_zero, List.set_cons_succ, Nat.reduceAdd]); rfl)
    refine lin_det (v := ?_) (F' := ?_) (by rfl) (fun _ => by rfl) ?_ ?_ ?_
    rotate_left 2
    focus (intro xs X hX hdep; clear hdep; (try dsimp only); go_simp; (try (first | with_reducible rfl | exact ⟨rfl, rfl⟩ | (fail))))
    focus (intro xs; (try simp only [Act.put, List.setIfInBounds_toArray, List.set_cons_zero, List.set_cons_succ, Nat.reduceAdd]); rfl)
    refine lin_det (v := ?_) (F' := ?_) (by rfl) (fun _ => by rfl) ?_ ?_ ?_
    rotate_left 2
    focus (intro xs X hX hdep; clear hdep; (try dsimp only); go_simp; (try (first | with_reducible rfl | exact ⟨rfl, rfl⟩ | (fail))))
    focus (intro xs; (try simp only [Act.put, List.setIfInBounds_toArray, List.set_cons_zero, List.set_cons_succ, Nat.reduceAdd]); rfl)
    refine lin_det (v := ?_) (F' := ?_) (by rfl) (fun _ => by rfl) ?_ ?_ ?_
    rotate_left 2
    focus (intro xs X hX hdep; clear hdep; (try dsimp only); go_simp; (try (first | with_reducible rfl | exact ⟨rfl, rfl⟩ | (fail))))
    focus (intro xs; (try simp only [Act.put, List.setIfInBounds_toArray, List.set_cons_zero, List.set_cons_succ, Nat.reduceAdd]); rfl)
    refine lin_det (v := ?_) (F' := ?_) (by rfl) (fun _ => by rfl) ?_ ?_ ?_
    rotate_left 2
    focus (intro xs X hX hdep; clear hdep; (try dsimp only); go_simp; (try (first | with_reducible rfl | exact ⟨rfl, rfl⟩ | (exact Hmyc.out X (Later.trans hL1 hX)))))
    focus (intro xs; (try simp only [Act.put, List.setIfInBounds_toArray, List.set_cons_zero, List.set_cons_succ, Nat.reduceAdd]); rfl)
    refine lin_det (v := ?_) (F' := ?_) (by rfl) (fun _ => by rfl) ?_ ?_ ?_
    rotate_left 2
    focus (intro xs X hX hdep; clear hdep; (try dsimp only); go_simp; (try (first | with_reducible rfl | exact ⟨rfl, rfl⟩ | (fail))))
    focus (intro xs; (try simp only [Act.put, List.setIfInBounds_toArray, List.set_cons_zero, List.set_cons_succ, Nat.reduceAdd]); rfl)
    refine lin_any (IsR n1 t) false (fun v W W' k h => IsR.later h k) (F' := ?_) (by rfl) (fun _ => by rfl) ?_ ?_ ?_
    rotate_left 1
    focus (intro xs X hX hdep; skip; clear hdep; intro K hK; (try dsimp only); go_simp; (refine (HN1.out X (Later.trans hL1 hX)).mono ?_; rintro e W' ⟨A, m, k, rfl, hL, hr, _⟩; obtain rfl : m = n1 := (by have h1 := hr.len; have h2 := Htl.out; have h3 := Hn1.out; omega); exact hK.out _ _ rfl hL ⟨A, k, rfl, hr⟩ (fun h => by cases h)))
    focus (intro xs; (try simp only [Act.put, List.setIfInBounds_toArray, List.set_cons_zero, List.set_cons_succ, Nat.reduceAdd]); rfl)
    refine lin_det (v := ?_) (F' := ?_) (by rfl) (fun _ => by rfl) ?_ ?_ ?_
    rotate_left 2
    focus (intro xs X hX hdep; clear hdep; (try dsimp only); go_simp; (try (first | with_reducible rfl | exact ⟨rfl, rfl⟩ | (fail))))
    focus (intro xs; (try simp only [Act.put, List.setIfInBounds_toArray, List.set_cons_zero, List.set_cons_succ, Nat.reduceAdd]); rfl)
    refine lin_det (v := ?_) (F' := ?_) (by rfl) (fun _ => by rfl) ?_ ?_ ?_
    rotate_left 2
    focus (intro xs X hX hdep; clear hdep; (try dsimp only); go_simp; (try (first | with_reducible rfl | exact ⟨rfl, rfl⟩ | (fail))))
    focus (intro xs; (try simp only [Act.put, List.setIfInBounds_toArray, List.set_cons_zero, List.set_cons_succ, Nat.reduceAdd]); rfl)
    refine lin_any (IsP c n1) false (fun v W W' k h => IsP.later h k) (F' := ?_) (by rfl) (fun _ => by rfl) ?_ ?_ ?_
    rotate_left 1
    focus (intro xs X hX hdep; skip; clear hdep; intro K hK; (try dsimp only); go_simp; (refine (Placed_calls (k1 := k1) (k2 := k2) (k3 := k3) (kw := kw) X (hc0.later (Later.trans hL1 hX)) ok (hw0'.later (Later.trans hL1 hX)) hnw).mono ?_; rintro e W' ⟨A, k, p, rfl, hL, hr, hk, hpl⟩; rw [← Hn1.out] at hr hk ⊢; exact hK.out _ _ rfl hL ⟨p, hpl, A, k, rfl, hr, hk⟩ (fun h => by cases h)))
    focus (intro xs; (try simp only [Act.put, List.setIfInBounds_toArray, List.set_cons_zero, List.set_cons_succ, Nat.reduceAdd]); rfl)
    intro xs w2 hW hf hfr hfb
    obtain ⟨At, kt, hx6, hrt⟩ := (show IsR _ _ _ _ from hf 6)
    obtain ⟨p, hpl, Ap, kp, hx9, hrp, hkp⟩ := (show IsP _ _ _ _ from hf 9)
    have hb2 := fun W (hh : Later w2 W) => hb1 W (Later.trans hW hh)
    have hL2 := Later.trans hL1 hW
    simp only [hx6, hx9, Nat.reduceAdd, Nat.zero_add]
    clear hf hfr hfb hx6 hx9 hb1 xs hv1 hv2 hv4 hv6 hr1 Hmyc HN1 Hrdy
    have hp1 := playL_eq Hf.out hpl Ht.out
    have hp2 := playL_eq Hf.out (mirr_isPl hpl) Ht.out
    have hpm := playL_mirr Hf.out hpl Ht.out
    have hl1 : (playL c p t).length = n1 := by rw [hp1.2, List.length_map, List.length_range, ← Hn1.out]
    have hpc := fun (r : List Int) (hr0 : playErr c r t = 0) (B1 B2 B3 : Option Addr) (j1 j2 j3 : Nat) (W : World) (h : CV W c B1 n1 B2 n2 B3 n3) (h2 : n2 ≤ j2) (Aq Ar : Option Addr) (kq kr : Nat) (hq : RI W Aq n1 r) (hk : n1 ≤ kq) (hr : RI W Ar n1 t) =>
      PlayP_calls (k1 := j1) (k2 := j2) (k3 := j3) (kp := kq) (kd := kr) W h hcl (by omega) (by omega) (by omega) h2 hq hk (by omega) hr (by omega)
    unfold PlayPost at hpc
    obtain ⟨pl, hple⟩ : ∃ x, playL c p t = x := ⟨_, rfl⟩
    obtain ⟨pm, hpme⟩ : ∃ x, mirr c.closets p = x := ⟨_, rfl⟩
    have hplm := mirr_isPl hpl
    rw [hpme] at hp2 hpm hplm
    rw [hple] at hpm hl1
    have hpc1 := hpc p hp1.1
    rw [hp1.1, hple] at hpc1
    have hpc2 := hpc pm hp2.1
    rw [hp2.1, hpm] at hpc2
    have Hpc1 := hide hpc1
    have Hpc2 := hide hpc2
    have Hl1 := hide hl1
    have Hple := hide hple
    have Hpme := hide hpme
    clear hpc hpc1 hpc2 hl1 hple hpme hp1 hp2 hpm
    go_wp2_with fail
    refine (lawCloset_calls (k1 := k1) (k2 := k2) (k3 := k3) w2 (hc0.later hL2) (by omega) (by omega) (by omega)).mono ?_
    rintro e wa ⟨B1a, j1a, B2a, j2a, B3a, j3a, rfl, hMa, hca, hj1a, hj2a, hj3a⟩
    have hLa := Later.trans hL2 hMa
    go_wp2_with fail
    refine (list_calls _ (hrp.later hMa) (by omega)).mono ?_
    rintro e wb ⟨Ab, nb, kb, rfl, hMb, hrb, hkb, _⟩
    have hLb := Later.trans hMa hMb
    have hnb := hrb.len
    rw [← hrp.len] at hnb
    subst nb
    go_wp2_with fail
    refine (list_calls _ (hrt.later hLb) (by omega)).mono ?_
    rintro e we ⟨Ae, ne, ke, rfl, hMe, hre, hke, _⟩
    have hLe := Later.trans hLb hMe
    have hne := hre.len
    rw [← hrt.len] at hne
    subst ne
    go_wp2_with fail
    refine (Hpc1.out _ _ _ _ _ _ we (hca.later (Later.trans hMb hMe)) hj2a _ _ _ _ (hrb.later hMe) hkb hre).mono ?_
    rintro e w5 ⟨Al, nl, kl, rfl, hM5, hrl, hkl⟩
    have hK5 := Later.trans hLe hM5
    have hL5 := Later.trans hL2 hK5
    have hb5 := fun W (hh : Later w5 W) => hb2 W (Later.trans hK5 hh)
    have hrp5 := hrp.later hK5
    have hrt5 := hrt.later hK5
    have hnl := hrl.len
    rw [Hl1.out] at hnl
    subst nl
    clear hca hrb hre hj1a hj2a hj3a hMa hMb hMe hLa hLb hLe hM5 hb2 hrp hrt hK5
    have hS5 : Later w5 w5.drew := later_drew (later_refl _)
    go_wp2_with fail
    refine wp_region_lin (w0 := w5) 11 [10] rely_later (by kernel_rfl) (by kernel_rfl) (by kernel_rfl) (by kernel_rfl) (hS5) (.inr (by intro _ _ _ _ _ h; first | exact h | exact absurd h.1 (by simp))) ?_
    simp only [List.take_succ_cons, List.take_zero, List.drop_succ_cons, List.drop_zero]
    refine lin_det (v := ?_) (F' := ?_) (by rfl) (fun _ => by rfl) ?_ ?_ ?_
    rotate_left 2
    focus (intro xs X hX hdep; clear hdep; (try dsimp only); go_simp; (try (first | with_reducible rfl | exact ⟨rfl, rfl⟩ | (fail))))
    focus (intro xs; (try simp only [Act.put, List.setIfInBounds_toArray, List.set_cons_zero, List.set_cons_succ, Nat.reduceAdd]); rfl)
    skip
    refine lin_any (IsClo c n1 n2 n3) false (fun v W W' k h => IsClo.later h k) (F' := ?_) (by rfl) (fun _ => by rfl) ?_ ?_ ?_
    rotate_left 1
    focus (intro xs X hX hdep; skip; clear hdep; intro K hK; (try dsimp only); go_simp; (refine (lawCloset_calls (k1 := k1) (k2 := k2) (k3 := k3) X (hc0.later (Later.trans hL5 hX)) (by omega) (by omega) (by omega)).mono ?_; rintro e W' ⟨B1, j1, B2, j2, B3, j3, rfl, hL, hcv, h1, h2, h3⟩; exact hK.out _ _ rfl hL ⟨B1, j1, B2, j2, B3, j3, rfl, hcv, h1, h2, h3⟩ (fun h => by cases h)))
    focus (intro xs; (try simp only [Act.put, List.setIfInBounds_toArray, List.set_cons_zero, List.set_cons_succ, Nat.reduceAdd]); rfl)
    refine lin_det (v := ?_) (F' := ?_) (by rfl) (fun _ => by rfl) ?_ ?_ ?_
    rotate_left 2
    focus (intro xs X hX hdep; clear hdep; (try dsimp only); go_simp; (try (first | with_reducible rfl | exact ⟨rfl, rfl⟩ | (fail))))
    focus (intro xs; (try simp only [Act.put, List.setIfInBounds_toArray, List.set_cons_zero, List.set_cons_succ, Nat.reduceAdd]); rfl)
    refine lin_det (v := ?_) (F' := ?_) (by rfl) (fun _ => by rfl) ?_ ?_ ?_
    rotate_left 2
    focus (intro xs X hX hdep; clear hdep; (try dsimp only); go_simp; (try (first | with_reducible rfl | exact ⟨rfl, rfl⟩ | (fail))))
    focus (intro xs; (try simp only [Act.put, List.setIfInBounds_toArray, List.set_cons_zero, List.set_cons_succ, Nat.reduceAdd]); rfl)
    refine lin_any (IsL n1 pm) false (fun v W W' k h => IsL.later h k) (F' := ?_) (by rfl) (fun _ => by rfl) ?_ ?_ ?_
    rotate_left 1
    focus (intro xs X hX hdep; skip; clear hdep; intro K hK; (try dsimp only); go_simp; (refine (mirrored_calls (k1 := k1) (k2 := k2) (k3 := k3) (kp := kp) X (hc0.later (Later.trans hL5 hX)) ⟨ok.cl1, ok.cl4⟩ (hrp5.later hX) (by omega) (fun x hx => by have := hpl.mem x hx; have := ok.cl4; omega)).mono ?_; rintro e W' ⟨A, k, rfl, hL, hr, hk⟩; rw [Hpme.out] at hr; exact hK.out _ _ rfl hL ⟨A, k, rfl, hr, hk⟩ (fun h => by cases h)))
    focus (intro xs; (try simp only [Act.put, List.setIfInBounds_toArray, List.set_cons_zero, List.set_cons_succ, Nat.reduceAdd]); rfl)
    refine lin_det (v := ?_) (F' := ?_) (by rfl) (fun _ => by rfl) ?_ ?_ ?_
    rotate_left 2
    focus (intro xs X hX hdep; clear hdep; (try dsimp only); go_simp; (try (first | with_reducible rfl | exact ⟨rfl, rfl⟩ | (fail))))
    focus (intro xs; (try simp only [Act.put, List.setIfInBounds_toArray, List.set_cons_zero, List.set_cons_succ, Nat.reduceAdd]); rfl)
    refine lin_any (IsL n1 t) false (fun v W W' k h => IsL.later h k) (F' := ?_) (by rfl) (fun _ => by rfl) ?_ ?_ ?_
    rotate_left 1
    focus (intro xs X hX hdep; skip; clear hdep; intro K hK; (try dsimp only); go_simp; (refine (list_calls X (hrt5.later hX) (by omega)).mono ?_; rintro e W' ⟨A, n, k, rfl, hL, hr, hk, _⟩; obtain rfl : n = n1 := (by have h1 := hr.len; have h2 := Htl.out; have h3 := Hn1.out; omega); exact hK.out _ _ rfl hL ⟨A, k, rfl, hr, hk⟩ (fun h => by cases h)))
    focus (intro xs; (try simp only [Act.put, List.setIfInBounds_toArray, List.set_cons_zero, List.set_cons_succ, Nat.reduceAdd]); rfl)
    refine lin_any (IsLE n1 pl 0) false (fun v W W' k h => IsLE.later h k) (F' := ?_) (by rfl) (fun _ => by rfl) ?_ ?_ ?_
    rotate_left 1
    focus (intro xs X hX hdep; obtain ⟨B1, j1, B2, j2, B3, j3, e1, hcv, h1, h2, h3⟩ := (show IsClo _ _ _ _ _ _ from hdep 1 1 (by kernel_rfl)); obtain ⟨A4, k4, e4, r4, c4⟩ := (show IsL _ _ _ _ from hdep 4 1 (by kernel_rfl)); obtain ⟨A6, k6, e6, r6, c6⟩ := (show IsL _ _ _ _ from hdep 6 1 (by kernel_rfl)); clear hdep; intro K hK; (try dsimp only); go_simp; (refine (Hpc2.out _ _ _ _ _ _ X hcv h2 _ _ _ _ r4 c4 r6).mono ?_; rintro e W' ⟨A, n, k, rfl, hL, hr, hk⟩; obtain rfl : n = n1 := (by have h1 := hr.len; have h2 := Hl1.out; omega); exact hK.out _ _ rfl hL ⟨A, k, rfl, hr, hk⟩ (fun h => by cases h)))
    focus (intro xs; (try simp only [Act.put, List.setIfInBounds_toArray, List.set_cons_zero, List.set_cons_succ, Nat.reduceAdd]); rfl)
    refine lin_any (IsLE n1 pl 0) false (fun v W W' k h => IsLE.later h k) (F' := ?_) (by rfl) (fun _ => by rfl) ?_ ?_ ?_
    rotate_left 1
    focus (intro xs X hX hdep; obtain ⟨A, k, e7, r7, c7⟩ := (show IsLE _ _ _ _ _ from hdep 7 1 (by kernel_rfl)); clear hdep; intro K hK; (try dsimp only); go_simp; (exact hK.out _ _ rfl (later_refl _) ⟨A, k, rfl, r7, c7⟩ (fun h => by cases h)))
    focus (intro xs; (try simp only [Act.put, List.setIfInBounds_toArray, List.set_cons_zero, List.set_cons_succ, Nat.reduceAdd]); rfl)
    refine lin_any (IsL n1 pl) false (fun v W W' k h => IsL.later h k) (F' := ?_) (by rfl) (fun _ => by rfl) ?_ ?_ ?_
    rotate_left 1
    focus (intro xs X hX hdep; obtain ⟨A, k, e7, r7, c7⟩ := (show IsLE _ _ _ _ _ from hdep 8 1 (by kernel_rfl)); clear hdep; intro K hK; (try dsimp only); go_simp; (exact hK.out _ _ rfl (later_refl _) ⟨A, k, rfl, r7, c7⟩ (fun h => by cases h)))
    focus (intro xs; (try simp only [Act.put, List.setIfInBounds_toArray, List.set_cons_zero, List.set_cons_succ, Nat.reduceAdd]); rfl)
    refine lin_pure (v := ?_) (F' := ?_) (fun _ => by rfl) ?_ ?_ ?_
    rotate_left 2
    focus (intro xs X hX hdep; obtain ⟨A, k, e7, r7, c7⟩ := (show IsLE _ _ _ _ _ from hdep 8 1 (by kernel_rfl)); clear hdep hX; intro X; (try dsimp only); go_simp; (try (first | with_reducible rfl | rfl)))
    focus (intro xs; (try simp only [Act.put, List.setIfInBounds_toArray, List.set_cons_zero, List.set_cons_succ, Nat.reduceAdd]); rfl)
    intro xs w6 hW hf hfr hfb
    obtain ⟨Am, km, hx9, hrm, hkm⟩ := (show IsL _ _ _ _ from hf 9)
    have hb6 := fun W (hh : Later w6 W) => hb5 W (Later.trans hW hh)
    have hL6 := Later.trans hL5 hW
    simp only [hx9, Nat.reduceAdd, Nat.zero_add]
    have hrl6 := hrl.later hW
    have hrp6 := hrp5.later hW
    have hrt6 := hrt5.later hW
    clear hf hfr hfb hx9 hb5 hrl hrp5 hrt5
    have hsm := same_calls (k := kl) (j := km) w6 hrl6 hrm (by omega) (by omega)
    rw [decide_eq_true rfl] at hsm
    have Hsm := hide hsm
    clear hsm
    go_wp2_with fail
    refine (Hsm.out).mono ?_
    rintro e w7 ⟨rfl, hM7⟩
    have hL7 := Later.trans hL6 hM7
    have hrl7 := hrl6.later hM7
    have hrp7 := hrp6.later hM7
    have hrt7 := hrt6.later hM7
    have hb7 := fun W (hh : Later w7 W) => hb6 W (Later.trans hM7 hh)
    have hK7 : Later w7 w7 := later_refl _
    clear hb6 hrl6 hrp6 hrt6 Hsm
    go_wp2_with fail
    go_loopw [13, 14] (fun v i wr => ∃ j : Nat, j ≤ n1 ∧ i = .int .i64 j ∧ v = .bool (aloneTo p j) ∧ Later w7 wr) (fun _ i _ => n1 - (intOf i).toNat)
    case atStart => exact ⟨0, Nat.zero_le _, rfl, rfl, later_refl _⟩
    case round =>
      obtain ⟨j, hj, rfl, rfl, hL⟩ := hrel
      by_cases hlt : j < n1
      · have hi1 : (j : Int) < n1 := by omega
        obtain ⟨b, o, x, rfl, _, hx, cx⟩ := hrp7.get hlt
        have hbx := hpl.mem x (List.mem_of_getElem? hx)
        have hs := aloneTo_succ p j
        rw [List.getD_eq_getElem?_getD, hx, Option.getD_some] at hs
        have hrpr := hrp7.later hL
        have hcx := cx _ hL
        have hbb := ok.cl4
        have huc := used_calls (k := kp) (x + 1) wr hrpr (by omega)
        clear cx
        cases hu : p.contains (x + 1) with
        | false =>
          rw [hu] at huc hs
          rw [Bool.not_false, Bool.and_true] at hs
          have Huc := hide huc
          have Hs := hide hs
          clear huc hs hu hx
          go_wp2_with fail
          refine Huc.out.mono ?_
          rintro e w8 ⟨rfl, rfl⟩
          go_wp2_with fail
          go_roundw
          case rel => exact ⟨j + 1, hlt, by go_num, by rw [Hs.out], hL⟩
          case measure => simp [intOf]; omega
        | true =>
          rw [hu] at huc hs
          rw [Bool.not_true, Bool.and_false] at hs
          have Huc := hide huc
          have Hs := hide hs
          clear huc hs hu hx
          go_wp2_with fail
          refine Huc.out.mono ?_
          rintro e w8 ⟨rfl, rfl⟩
          go_wp2_with fail
          go_roundw
          case rel => exact ⟨j + 1, hlt, by go_num, by rw [Hs.out], hL⟩
          case measure => simp [intOf]; omega
      · have hi1 : ¬ (j : Int) < n1 := by omega
        obtain rfl : n1 = j := by omega
        obtain ⟨wo, rfl⟩ : ∃ W : World, W = wr := ⟨_, rfl⟩
        have hL7r := Later.trans hL7 hL
        have hrlr := hrl7.later hL
        have hrtr := hrt7.later hL
        have hrpr := hrp7.later hL
        have hbr := fun W (hh : Later wo W) => hb7 W (Later.trans hL hh)
        have hal : aloneTo p n1 = true → pl = t := fun h => by
          have h2 := playL_alone Hf.out hpl Ht.out (fun i hi => by
            have h3 := List.all_eq_true.1 h i (List.mem_range.2 (by have := hpl.len; have := Hn1.out; omega))
            simpa using h3)
          rw [← h2]; exact Hple.out.symm
        have hsm := same_calls (k := kl) (j := kt) wo hrlr hrtr (by omega) (by omega)
        have Hal := hide hal
        have Hsm := hide hsm
        clear hal hsm hb7 hrl7 hrp7 hrt7 hlt
        have hgo := fun (r : List Int) (B1 B2 B3 : Option Addr) (j1 j2 j3 : Nat) (W : World) (h : CV W c B1 n1 B2 n2 B3 n3) (h2 : n2 ≤ j2) (Aq : Option Addr) (kq i : Nat) (hq : RI W Aq n1 r) (hk : n1 ≤ kq) =>
          GoodP_calls (k1 := j1) (k2 := j2) (k3 := j3) (kp := kq) (h := (i : Int)) W h hcl (by omega) (by omega) (by omega) h2 hq hk (by omega)
        have Hgo := hide hgo
        have hKr : Later wo wo := later_refl _
        clear hgo
        cases ha : aloneTo p n1 with
        | false =>
          go_wp2_with fail
          have hLz := Later.trans hL7r hKr
          have hrpz := hrpr.later hKr
          have hbz := fun W (hh : Later wo W) => hbr W (Later.trans hKr hh)
          clear hbr
          go_loopw [15] (fun v wr => ∃ i : Nat, i ≤ n1 ∧ v = .int .i64 i ∧ Later wo wr) (fun v _ => n1 - (intOf v).toNat)
          case atStart => exact ⟨0, Nat.zero_le _, rfl, later_refl _⟩
          case round =>
            obtain ⟨i, hi, rfl, hLi⟩ := hrel
            have hLi0 := Later.trans hLz hLi
            by_cases hlt : i < n1
            · have hi1 : (i : Int) < n1 := by omega
              have hin : i < c.horses.length := by have := Hn1.out; omega
              have hge := goodOut_err Hf.out hpl hin
              have hgm := goodOut_mirr Hf.out hpl hin
              rw [Hpme.out] at hgm
              obtain ⟨⟨g1, g2, ge⟩, hg⟩ : ∃ q, goodOut c p i = q := ⟨_, rfl⟩
              have hg2 := Hgo.out p
              have hg3 := Hgo.out pm
              rw [hg] at hge
              have Hg := hide hg
              have Hgm := hide hgm
              have hbi := fun W (hh : Later wr W) => hbz W (Later.trans hLi hh)
              have hrpi := hrpz.later hLi
              have Hg2 := hide hg2
              have Hg3 := hide hg3
              have Hge := hide hge
              have hKi : Later wr wr := later_refl _
              clear hg hgm hbz hg2 hg3 hge
              go_wp2_with fail
              refine (lawCloset_calls (k1 := k1) (k2 := k2) (k3 := k3) wr (hc0.later hLi0) (by omega) (by omega) (by omega)).mono ?_
              rintro e wa ⟨B1a, j1a, B2a, j2a, B3a, j3a, rfl, hMa, hca, hj1a, hj2a, hj3a⟩
              have hLa := Later.trans hLi0 hMa
              go_wp2_with fail
              refine (list_calls _ (hrpi.later hMa) (by omega)).mono ?_
              rintro e wb ⟨Ab, nb, kb, rfl, hMb, hrb, hkb, _⟩
              have hLb := Later.trans hMa hMb
              have hnb := hrb.len
              rw [← hrpi.len] at hnb
              subst nb
              go_wp2_with fail
              have hgc := Hg2.out _ _ _ j1a j2a j3a wb (hca.later hMb) hj2a _ _ i hrb hkb
              rw [Hg.out] at hgc
              refine hgc.mono ?_
              rintro e w12 ⟨rfl, hM12⟩
              clear hgc
              go_upto_region 20 with fail
              obtain ⟨w13, hw13⟩ : ∃ W, W = w12.alloc (.cells #[.int .i64 g1, .int .i64 g2] 61) := ⟨_, rfl⟩
              obtain ⟨gr, hgr⟩ : ∃ g, g = w12.heap.size := ⟨_, rfl⟩
              have hbg : Blk w13 gr 61 #[.int .i64 g1, .int .i64 g2] := by rw [hw13, hgr]; exact Blk.new _ _ _
              have hK13 : Later wr w13 := by rw [hw13]; exact later_alloc (Later.trans (Later.trans hMa hMb) hM12) _
              have hL13 := Later.trans hLi0 hK13
              have hbi13 := fun W (hh : Later w13 W) => hbi W (Later.trans hK13 hh)
              have hrp13 := hrpi.later hK13
              have hS13 : Later w13 w13.drew := later_drew (later_refl _)
              rw [← hw13, ← hgr]
              clear hw13 hgr hca hrb hj1a hj2a hj3a hMa hMb hLa hLb hbi hrpi hM12
              refine wp_region_lin (w0 := w13) 11 [9] rely_later (by kernel_rfl) (by kernel_rfl) (by kernel_rfl) (by kernel_rfl) (hS13) (.inr (by intro _ _ _ _ _ h; first | exact h | exact absurd h.1 (by simp))) ?_
              simp only [List.take_succ_cons, List.take_zero, List.drop_succ_cons, List.drop_zero]
              refine lin_det (v := ?_) (F' := ?_) (by rfl) (fun _ => by rfl) ?_ ?_ ?_
              rotate_left 2
              focus (intro xs X hX hdep; clear hdep; (try dsimp only); go_simp; (try (first | with_reducible rfl | exact ⟨rfl, rfl⟩ | (fail))))
              focus (intro xs; (try simp only [Act.put, List.setIfInBounds_toArray, List.set_cons_zero, List.set_cons_succ, Nat.reduceAdd]); rfl)
              skip
              refine lin_any (IsClo c n1 n2 n3) false (fun v W W' k h => IsClo.later h k) (F' := ?_) (by rfl) (fun _ => by rfl) ?_ ?_ ?_
              rotate_left 1
              focus (intro xs X hX hdep; skip; clear hdep; intro K hK; (try dsimp only); go_simp; (refine (lawCloset_calls (k1 := k1) (k2 := k2) (k3 := k3) X (hc0.later (Later.trans hL13 hX)) (by omega) (by omega) (by omega)).mono ?_; rintro e W' ⟨B1, j1, B2, j2, B3, j3, rfl, hL, hcv, h1, h2, h3⟩; exact hK.out _ _ rfl hL ⟨B1, j1, B2, j2, B3, j3, rfl, hcv, h1, h2, h3⟩ (fun h => by cases h)))
              focus (intro xs; (try simp only [Act.put, List.setIfInBounds_toArray, List.set_cons_zero, List.set_cons_succ, Nat.reduceAdd]); rfl)
              refine lin_det (v := ?_) (F' := ?_) (by rfl) (fun _ => by rfl) ?_ ?_ ?_
              rotate_left 2
              focus (intro xs X hX hdep; clear hdep; (try dsimp only); go_simp; (try (first | with_reducible rfl | exact ⟨rfl, rfl⟩ | (fail))))
              focus (intro xs; (try simp only [Act.put, List.setIfInBounds_toArray, List.set_cons_zero, List.set_cons_succ, Nat.reduceAdd]); rfl)
              refine lin_det (v := ?_) (F' := ?_) (by rfl) (fun _ => by rfl) ?_ ?_ ?_
              rotate_left 2
              focus (intro xs X hX hdep; clear hdep; (try dsimp only); go_simp; (try (first | with_reducible rfl | exact ⟨rfl, rfl⟩ | (fail))))
              focus (intro xs; (try simp only [Act.put, List.setIfInBounds_toArray, List.set_cons_zero, List.set_cons_succ, Nat.reduceAdd]); rfl)
              refine lin_any (IsL n1 pm) false (fun v W W' k h => IsL.later h k) (F' := ?_) (by rfl) (fun _ => by rfl) ?_ ?_ ?_
              rotate_left 1
              focus (intro xs X hX hdep; skip; clear hdep; intro K hK; (try dsimp only); go_simp; (refine (mirrored_calls (k1 := k1) (k2 := k2) (k3 := k3) (kp := kp) X (hc0.later (Later.trans hL13 hX)) ⟨ok.cl1, ok.cl4⟩ (hrp13.later hX) (by omega) (fun x hx => by have := hpl.mem x hx; have := ok.cl4; omega)).mono ?_; rintro e W' ⟨A, k, rfl, hL, hr, hk⟩; rw [Hpme.out] at hr; exact hK.out _ _ rfl hL ⟨A, k, rfl, hr, hk⟩ (fun h => by cases h)))
              focus (intro xs; (try simp only [Act.put, List.setIfInBounds_toArray, List.set_cons_zero, List.set_cons_succ, Nat.reduceAdd]); rfl)
              refine lin_det (v := ?_) (F' := ?_) (by rfl) (fun _ => by rfl) ?_ ?_ ?_
              rotate_left 2
              focus (intro xs X hX hdep; clear hdep; (try dsimp only); go_simp; (try (first | with_reducible rfl | exact ⟨rfl, rfl⟩ | (fail))))
              focus (intro xs; (try simp only [Act.put, List.setIfInBounds_toArray, List.set_cons_zero, List.set_cons_succ, Nat.reduceAdd]); rfl)
              refine lin_det (v := ?_) (F' := ?_) (by rfl) (fun _ => by rfl) ?_ ?_ ?_
              rotate_left 2
              focus (intro xs X hX hdep; obtain ⟨B1, j1, B2, j2, B3, j3, e1, hcv, h1, h2, h3⟩ := (show IsClo _ _ _ _ _ _ from hdep 1 1 (by kernel_rfl)); obtain ⟨A4, k4, e4, r4, c4⟩ := (show IsL _ _ _ _ from hdep 4 1 (by kernel_rfl)); have hgc := Hg3.out B1 B2 B3 j1 j2 j3 X hcv h2 A4 k4 i r4 c4; rw [Hgm.out, Hg.out] at hgc; have Hgc := hide hgc; clear hgc; clear hdep; (try dsimp only); go_simp; (try (first | with_reducible rfl | exact ⟨rfl, rfl⟩ | (exact Hgc.out))))
              focus (intro xs; (try simp only [Act.put, List.setIfInBounds_toArray, List.set_cons_zero, List.set_cons_succ, Nat.reduceAdd]); rfl)
              refine lin_det (v := ?_) (F' := ?_) (by rfl) (fun _ => by rfl) ?_ ?_ ?_
              rotate_left 2
              focus (intro xs X hX hdep; clear hdep; (try dsimp only); go_simp; (try (first | with_reducible rfl | exact ⟨rfl, rfl⟩ | (fail))))
              focus (intro xs; (try simp only [Act.put, List.setIfInBounds_toArray, List.set_cons_zero, List.set_cons_succ, Nat.reduceAdd]); rfl)
              refine lin_det (v := ?_) (F' := ?_) (by rfl) (fun _ => by rfl) ?_ ?_ ?_
              rotate_left 2
              focus (intro xs X hX hdep; clear hdep; (try dsimp only); go_simp; (try (first | with_reducible rfl | exact ⟨rfl, rfl⟩ | (fail))))
              focus (intro xs; (try simp only [Act.put, List.setIfInBounds_toArray, List.set_cons_zero, List.set_cons_succ, Nat.reduceAdd]); rfl)
              refine lin_pure (v := ?_) (F' := ?_) (fun _ => by rfl) ?_ ?_ ?_
              rotate_left 2
              focus (intro xs X hX hdep; clear hdep hX; intro X; (try dsimp only); go_simp; (try (first | with_reducible rfl | rfl)))
              focus (intro xs; (try simp only [Act.put, List.setIfInBounds_toArray, List.set_cons_zero, List.set_cons_succ, Nat.reduceAdd]); rfl)
              refine lin_any (IsBox 61 [.int .i64 0, .int .i64 0]) true (fun v W W' k h => IsBox.later h k) (F' := ?_) (by rfl) (fun _ => by rfl) ?_ ?_ ?_
              rotate_left 1
              focus (intro xs X hX hdep; skip; clear hdep; intro K hK; (try dsimp only); go_simp; (exact hK.out _ _ rfl (later_alloc (later_refl _) _) ⟨_, rfl, Blk.new _ _ _⟩ (fun _ => ⟨_, rfl, Nat.le_refl _, by simp⟩)))
              focus (intro xs; (try simp only [Act.put, List.setIfInBounds_toArray, List.set_cons_zero, List.set_cons_succ, Nat.reduceAdd]); rfl)
              intro xs w14 hW hf hfr hfb
              obtain ⟨gb, hx10, hbk⟩ := (show IsBox _ _ _ _ from hf 10)
              obtain ⟨b', hb1', hb2', _⟩ := hfb 10 rfl
              rw [hx10] at hb1'
              obtain rfl : gb = b' := by injection hb1'
              have hne : gr ≠ gb := by have := hbg.lt; omega
              simp only [hx10, Nat.reduceAdd, Nat.zero_add]
              have hbg14 := hbg.later hW
              have hlo13 := hb2'
              clear hf hfr hfb hx10 hb1' hb2'
              have hk0 := hbk.cell 0
              have hk1 := hbk.cell 1
              have hkf0 := hbk.frozen 0
              have hkf1 := hbk.frozen 1
              simp only [List.getElem?_toArray, List.getElem?_cons_zero, List.getElem?_cons_succ] at hk0 hk1
              go_upto_region 21 with fail
              obtain ⟨w15, hw15⟩ : ∃ W, W = (w14.setCell ⟨gb, 0, none⟩ (.int .i64 g1)).setCell ⟨gb, 1, none⟩ (.int .i64 g2) := ⟨_, rfl⟩
              have hb15 : Blk w15 gb 61 #[.int .i64 g1, .int .i64 g2] := by rw [hw15]; exact (hbk.set_ 0 _).set_ 1 _
              have hg15 : Blk w15 gr 61 #[.int .i64 g1, .int .i64 g2] := by rw [hw15]; exact (hbg14.far hne _).far hne _
              have hlo : wr.heap.size ≤ gb := Nat.le_trans hK13.size hlo13
              have hK15 : Later wr w15 := by rw [hw15]; exact later_set (later_set (Later.trans hK13 hW) _ hlo _) _ hlo _
              rw [← hw15]
              have hk0 := hb15.cell 0
              have hk1 := hb15.cell 1
              have hq0 := hg15.cell 0
              have hq1 := hg15.cell 1
              simp only [List.getElem?_toArray, List.getElem?_cons_zero, List.getElem?_cons_succ] at hk0 hk1 hq0 hq1
              have hn1 : (g1 != g1) = false := by simp
              have hn2 : (g2 != g2) = false := by simp
              have hn3 : (ge != ge) = false := by simp
              have hx15 := Later.trans hLi hK15
              have hge := Hge.out
              clear hw15 hbk hbg14 hb15 hg15 hW hkf0 hkf1
              rcases hge with rfl | rfl | rfl
              · go_wp2_with fail
                go_roundw
                case rel => exact ⟨i + 1, hlt, by go_num, hx15⟩
                case measure => simp [intOf]; omega
              · go_wp2_with fail
                go_roundw
                case rel => exact ⟨i + 1, hlt, by go_num, hx15⟩
                case measure => simp [intOf]; omega
              · go_wp2_with fail
                go_roundw
                case rel => exact ⟨i + 1, hlt, by go_num, hx15⟩
                case measure => simp [intOf]; omega
            · have hi1 : ¬ (i : Int) < n1 := by omega
              clear hlt
              go_wp2_with fail
              refine (awake_calls _).mono ?_
              rintro e wa ⟨rfl, hLa⟩
              go_wp2_with fail
              go_ret
              exact ⟨rfl, Later.trans hL0 (Later.trans hLi0 hLa)⟩
        | true =>
          rw [decide_eq_true (Hal.out ha)] at Hsm
          go_wp2_with fail
          refine (Hsm.out).mono ?_
          rintro e w9 ⟨rfl, hM9⟩
          go_wp2_with fail
          have hLz := Later.trans hL7r hM9
          have hrpz := hrpr.later hM9
          have hbz := fun W (hh : Later w9 W) => hbr W (Later.trans hM9 hh)
          clear hbr
          go_loopw [15] (fun v wr => ∃ i : Nat, i ≤ n1 ∧ v = .int .i64 i ∧ Later w9 wr) (fun v _ => n1 - (intOf v).toNat)
          case atStart => exact ⟨0, Nat.zero_le _, rfl, later_refl _⟩
          case round =>
            obtain ⟨i, hi, rfl, hLi⟩ := hrel
            have hLi0 := Later.trans hLz hLi
            by_cases hlt : i < n1
            · have hi1 : (i : Int) < n1 := by omega
              have hin : i < c.horses.length := by have := Hn1.out; omega
              have hge := goodOut_err Hf.out hpl hin
              have hgm := goodOut_mirr Hf.out hpl hin
              rw [Hpme.out] at hgm
              obtain ⟨⟨g1, g2, ge⟩, hg⟩ : ∃ q, goodOut c p i = q := ⟨_, rfl⟩
              have hg2 := Hgo.out p
              have hg3 := Hgo.out pm
              rw [hg] at hge
              have Hg := hide hg
              have Hgm := hide hgm
              have hbi := fun W (hh : Later wr W) => hbz W (Later.trans hLi hh)
              have hrpi := hrpz.later hLi
              have Hg2 := hide hg2
              have Hg3 := hide hg3
              have Hge := hide hge
              have hKi : Later wr wr := later_refl _
              clear hg hgm hbz hg2 hg3 hge
              go_wp2_with fail
              refine (lawCloset_calls (k1 := k1) (k2 := k2) (k3 := k3) wr (hc0.later hLi0) (by omega) (by omega) (by omega)).mono ?_
              rintro e wa ⟨B1a, j1a, B2a, j2a, B3a, j3a, rfl, hMa, hca, hj1a, hj2a, hj3a⟩
              have hLa := Later.trans hLi0 hMa
              go_wp2_with fail
              refine (list_calls _ (hrpi.later hMa) (by omega)).mono ?_
              rintro e wb ⟨Ab, nb, kb, rfl, hMb, hrb, hkb, _⟩
              have hLb := Later.trans hMa hMb
              have hnb := hrb.len
              rw [← hrpi.len] at hnb
              subst nb
              go_wp2_with fail
              have hgc := Hg2.out _ _ _ j1a j2a j3a wb (hca.later hMb) hj2a _ _ i hrb hkb
              rw [Hg.out] at hgc
              refine hgc.mono ?_
              rintro e w12 ⟨rfl, hM12⟩
              clear hgc
              go_upto_region 20 with fail
              obtain ⟨w13, hw13⟩ : ∃ W, W = w12.alloc (.cells #[.int .i64 g1, .int .i64 g2] 61) := ⟨_, rfl⟩
              obtain ⟨gr, hgr⟩ : ∃ g, g = w12.heap.size := ⟨_, rfl⟩
              have hbg : Blk w13 gr 61 #[.int .i64 g1, .int .i64 g2] := by rw [hw13, hgr]; exact Blk.new _ _ _
              have hK13 : Later wr w13 := by rw [hw13]; exact later_alloc (Later.trans (Later.trans hMa hMb) hM12) _
              have hL13 := Later.trans hLi0 hK13
              have hbi13 := fun W (hh : Later w13 W) => hbi W (Later.trans hK13 hh)
              have hrp13 := hrpi.later hK13
              have hS13 : Later w13 w13.drew := later_drew (later_refl _)
              rw [← hw13, ← hgr]
              clear hw13 hgr hca hrb hj1a hj2a hj3a hMa hMb hLa hLb hbi hrpi hM12
              refine wp_region_lin (w0 := w13) 11 [9] rely_later (by kernel_rfl) (by kernel_rfl) (by kernel_rfl) (by kernel_rfl) (hS13) (.inr (by intro _ _ _ _ _ h; first | exact h | exact absurd h.1 (by simp))) ?_
              simp only [List.take_succ_cons, List.take_zero, List.drop_succ_cons, List.drop_zero]
              refine lin_det (v := ?_) (F' := ?_) (by rfl) (fun _ => by rfl) ?_ ?_ ?_
              rotate_left 2
              focus (intro xs X hX hdep; clear hdep; (try dsimp only); go_simp; (try (first | with_reducible rfl | exact ⟨rfl, rfl⟩ | (fail))))
              focus (intro xs; (try simp only [Act.put, List.setIfInBounds_toArray, List.set_cons_zero, List.set_cons_succ, Nat.reduceAdd]); rfl)
              skip
              refine lin_any (IsClo c n1 n2 n3) false (fun v W W' k h => IsClo.later h k) (F' := ?_) (by rfl) (fun _ => by rfl) ?_ ?_ ?_
              rotate_left 1
              focus (intro xs X hX hdep; skip; clear hdep; intro K hK; (try dsimp only); go_simp; (refine (lawCloset_calls (k1 := k1) (k2 := k2) (k3 := k3) X (hc0.later (Later.trans hL13 hX)) (by omega) (by omega) (by omega)).mono ?_; rintro e W' ⟨B1, j1, B2, j2, B3, j3, rfl, hL, hcv, h1, h2, h3⟩; exact hK.out _ _ rfl hL ⟨B1, j1, B2, j2, B3, j3, rfl, hcv, h1, h2, h3⟩ (fun h => by cases h)))
              focus (intro xs; (try simp only [Act.put, List.setIfInBounds_toArray, List.set_cons_zero, List.set_cons_succ, Nat.reduceAdd]); rfl)
              refine lin_det (v := ?_) (F' := ?_) (by rfl) (fun _ => by rfl) ?_ ?_ ?_
              rotate_left 2
              focus (intro xs X hX hdep; clear hdep; (try dsimp only); go_simp; (try (first | with_reducible rfl | exact ⟨rfl, rfl⟩ | (fail))))
              focus (intro xs; (try simp only [Act.put, List.setIfInBounds_toArray, List.set_cons_zero, List.set_cons_succ, Nat.reduceAdd]); rfl)
              refine lin_det (v := ?_) (F' := ?_) (by rfl) (fun _ => by rfl) ?_ ?_ ?_
              rotate_left 2
              focus (intro xs X hX hdep; clear hdep; (try dsimp only); go_simp; (try (first | with_reducible rfl | exact ⟨rfl, rfl⟩ | (fail))))
              focus (intro xs; (try simp only [Act.put, List.setIfInBounds_toArray, List.set_cons_zero, List.set_cons_succ, Nat.reduceAdd]); rfl)
              refine lin_any (IsL n1 pm) false (fun v W W' k h => IsL.later h k) (F' := ?_) (by rfl) (fun _ => by rfl) ?_ ?_ ?_
              rotate_left 1
              focus (intro xs X hX hdep; skip; clear hdep; intro K hK; (try dsimp only); go_simp; (refine (mirrored_calls (k1 := k1) (k2 := k2) (k3 := k3) (kp := kp) X (hc0.later (Later.trans hL13 hX)) ⟨ok.cl1, ok.cl4⟩ (hrp13.later hX) (by omega) (fun x hx => by have := hpl.mem x hx; have := ok.cl4; omega)).mono ?_; rintro e W' ⟨A, k, rfl, hL, hr, hk⟩; rw [Hpme.out] at hr; exact hK.out _ _ rfl hL ⟨A, k, rfl, hr, hk⟩ (fun h => by cases h)))
              focus (intro xs; (try simp only [Act.put, List.setIfInBounds_toArray, List.set_cons_zero, List.set_cons_succ, Nat.reduceAdd]); rfl)
              refine lin_det (v := ?_) (F' := ?_) (by rfl) (fun _ => by rfl) ?_ ?_ ?_
              rotate_left 2
              focus (intro xs X hX hdep; clear hdep; (try dsimp only); go_simp; (try (first | with_reducible rfl | exact ⟨rfl, rfl⟩ | (fail))))
              focus (intro xs; (try simp only [Act.put, List.setIfInBounds_toArray, List.set_cons_zero, List.set_cons_succ, Nat.reduceAdd]); rfl)
              refine lin_det (v := ?_) (F' := ?_) (by rfl) (fun _ => by rfl) ?_ ?_ ?_
              rotate_left 2
              focus (intro xs X hX hdep; obtain ⟨B1, j1, B2, j2, B3, j3, e1, hcv, h1, h2, h3⟩ := (show IsClo _ _ _ _ _ _ from hdep 1 1 (by kernel_rfl)); obtain ⟨A4, k4, e4, r4, c4⟩ := (show IsL _ _ _ _ from hdep 4 1 (by kernel_rfl)); have hgc := Hg3.out B1 B2 B3 j1 j2 j3 X hcv h2 A4 k4 i r4 c4; rw [Hgm.out, Hg.out] at hgc; have Hgc := hide hgc; clear hgc; clear hdep; (try dsimp only); go_simp; (try (first | with_reducible rfl | exact ⟨rfl, rfl⟩ | (exact Hgc.out))))
              focus (intro xs; (try simp only [Act.put, List.setIfInBounds_toArray, List.set_cons_zero, List.set_cons_succ, Nat.reduceAdd]); rfl)
              refine lin_det (v := ?_) (F' := ?_) (by rfl) (fun _ => by rfl) ?_ ?_ ?_
              rotate_left 2
              focus (intro xs X hX hdep; clear hdep; (try dsimp only); go_simp; (try (first | with_reducible rfl | exact ⟨rfl, rfl⟩ | (fail))))
              focus (intro xs; (try simp only [Act.put, List.setIfInBounds_toArray, List.set_cons_zero, List.set_cons_succ, Nat.reduceAdd]); rfl)
              refine lin_det (v := ?_) (F' := ?_) (by rfl) (fun _ => by rfl) ?_ ?_ ?_
              rotate_left 2
              focus (intro xs X hX hdep; clear hdep; (try dsimp only); go_simp; (try (first | with_reducible rfl | exact ⟨rfl, rfl⟩ | (fail))))
              focus (intro xs; (try simp only [Act.put, List.setIfInBounds_toArray, List.set_cons_zero, List.set_cons_succ, Nat.reduceAdd]); rfl)
              refine lin_pure (v := ?_) (F' := ?_) (fun _ => by rfl) ?_ ?_ ?_
              rotate_left 2
              focus (intro xs X hX hdep; clear hdep hX; intro X; (try dsimp only); go_simp; (try (first | with_reducible rfl | rfl)))
              focus (intro xs; (try simp only [Act.put, List.setIfInBounds_toArray, List.set_cons_zero, List.set_cons_succ, Nat.reduceAdd]); rfl)
              refine lin_any (IsBox 61 [.int .i64 0, .int .i64 0]) true (fun v W W' k h => IsBox.later h k) (F' := ?_) (by rfl) (fun _ => by rfl) ?_ ?_ ?_
              rotate_left 1
              focus (intro xs X hX hdep; skip; clear hdep; intro K hK; (try dsimp only); go_simp; (exact hK.out _ _ rfl (later_alloc (later_refl _) _) ⟨_, rfl, Blk.new _ _ _⟩ (fun _ => ⟨_, rfl, Nat.le_refl _, by simp⟩)))
              focus (intro xs; (try simp only [Act.put, List.setIfInBounds_toArray, List.set_cons_zero, List.set_cons_succ, Nat.reduceAdd]); rfl)
              intro xs w14 hW hf hfr hfb
              obtain ⟨gb, hx10, hbk⟩ := (show IsBox _ _ _ _ from hf 10)
              obtain ⟨b', hb1', hb2', _⟩ := hfb 10 rfl
              rw [hx10] at hb1'
              obtain rfl : gb = b' := by injection hb1'
              have hne : gr ≠ gb := by have := hbg.lt; omega
              simp only [hx10, Nat.reduceAdd, Nat.zero_add]
              have hbg14 := hbg.later hW
              have hlo13 := hb2'
              clear hf hfr hfb hx10 hb1' hb2'
              have hk0 := hbk.cell 0
              have hk1 := hbk.cell 1
              have hkf0 := hbk.frozen 0
              have hkf1 := hbk.frozen 1
              simp only [List.getElem?_toArray, List.getElem?_cons_zero, List.getElem?_cons_succ] at hk0 hk1
              go_upto_region 21 with fail
              obtain ⟨w15, hw15⟩ : ∃ W, W = (w14.setCell ⟨gb, 0, none⟩ (.int .i64 g1)).setCell ⟨gb, 1, none⟩ (.int .i64 g2) := ⟨_, rfl⟩
              have hb15 : Blk w15 gb 61 #[.int .i64 g1, .int .i64 g2] := by rw [hw15]; exact (hbk.set_ 0 _).set_ 1 _
              have hg15 : Blk w15 gr 61 #[.int .i64 g1, .int .i64 g2] := by rw [hw15]; exact (hbg14.far hne _).far hne _
              have hlo : wr.heap.size ≤ gb := Nat.le_trans hK13.size hlo13
              have hK15 : Later wr w15 := by rw [hw15]; exact later_set (later_set (Later.trans hK13 hW) _ hlo _) _ hlo _
              rw [← hw15]
              have hk0 := hb15.cell 0
              have hk1 := hb15.cell 1
              have hq0 := hg15.cell 0
              have hq1 := hg15.cell 1
              simp only [List.getElem?_toArray, List.getElem?_cons_zero, List.getElem?_cons_succ] at hk0 hk1 hq0 hq1
              have hn1 : (g1 != g1) = false := by simp
              have hn2 : (g2 != g2) = false := by simp
              have hn3 : (ge != ge) = false := by simp
              have hx15 := Later.trans hLi hK15
              have hge := Hge.out
              clear hw15 hbk hbg14 hb15 hg15 hW hkf0 hkf1
              rcases hge with rfl | rfl | rfl
              · go_wp2_with fail
                go_roundw
                case rel => exact ⟨i + 1, hlt, by go_num, hx15⟩
                case measure => simp [intOf]; omega
              · go_wp2_with fail
                go_roundw
                case rel => exact ⟨i + 1, hlt, by go_num, hx15⟩
                case measure => simp [intOf]; omega
              · go_wp2_with fail
                go_roundw
                case rel => exact ⟨i + 1, hlt, by go_num, hx15⟩
                case measure => simp [intOf]; omega
            · have hi1 : ¬ (i : Int) < n1 := by omega
              clear hlt
              go_wp2_with fail
              refine (awake_calls _).mono ?_
              rintro e wa ⟨rfl, hLa⟩
              go_wp2_with fail
              go_ret
              exact ⟨rfl, Later.trans hL0 (Later.trans hLi0 hLa)⟩
end Go.Proofs.Ytjilckjhdlabaaa
