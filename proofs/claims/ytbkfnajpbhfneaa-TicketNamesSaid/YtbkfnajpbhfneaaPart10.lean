/- Part 10 of the proof: joined from the texts TlF, Row, Seat, Open, Open2. -/
import Derived.Test.YtbkfnajpbhfneaaPart9
import Derived.Test.YtbkfnajpbhfneaaPart1
import Derived.Test.YtbkfnajpbhfneaaProg
import Derived.Test.YtbkfnajpbhfneaaChecked
import Derived.ProofKit
import Derived.Below
import Derived.Test.YtbkfnajpbhfneaaRows
import Derived.Deep.Slices
import Derived.Deep.Fields
import Derived.ChangeSame
import Derived.Lib.SmallJoins
import Derived.ChangeSlices
import Derived.IntWalk
set_option linter.unusedSimpArgs false
set_option linter.unusedVariables false
/- awake: walk. -/
namespace Go.Proofs.Ytbkfnajpbhfneaa
open Go Go.RowKit
attribute [local go_sem] later_alloc2 later_alloc3 later_alloc4
set_option maxRecDepth 100000 in
set_option maxHeartbeats 100000000 in
theorem awake_calls (w : World) : Calls Try.prog 23 #[] w fun e w' => e = .returned (.bool true) ∧ Later w w' := by
  go_enter Try.func23, Try.ntmps23
  have hLa := later_refl w
  go_wp2_with fail
  refine (two0_is 5 _).mono ?_
  rintro e x1 ⟨vt, rfl, hL, ht⟩
  replace hLa := Later.trans hLa hL
  clear hL
  go_wp2_with fail
  refine (play_is _ ht).mono ?_
  rintro e x2 ⟨vp, rfl, hL, hp⟩
  replace hLa := Later.trans hLa hL
  clear hL
  clear ht
  go_wp2_with fail
  refine (two0_is 5 _).mono ?_
  rintro e x3 ⟨vt, rfl, hL, ht⟩
  replace hp := hp.later hL
  replace hLa := Later.trans hLa hL
  clear hL
  go_wp2_with fail
  refine (clocks_is ht).mono ?_
  rintro e x4 ⟨vc, rfl, hL, hc⟩
  replace hp := hp.later hL
  replace hLa := Later.trans hLa hL
  clear hL
  clear ht
  go_wp2_with fail
  refine (two0_is 3 _).mono ?_
  rintro e x5 ⟨vt, rfl, hL, ht⟩
  replace hp := hp.later hL
  replace hc := hc.later hL
  replace hLa := Later.trans hLa hL
  clear hL
  go_wp2_with fail
  refine (hours_is ht).mono ?_
  rintro e x6 ⟨vh, rfl, hL, hh⟩
  replace hp := hp.later hL
  replace hc := hc.later hL
  replace hLa := Later.trans hLa hL
  clear hL
  clear ht
  go_wp2_with fail
  refine (two0_is 0 _).mono ?_
  rintro e x7 ⟨vt, rfl, hL, ht⟩
  replace hp := hp.later hL
  replace hc := hc.later hL
  replace hh := hh.later hL
  replace hLa := Later.trans hLa hL
  clear hL
  go_wp2_with fail
  refine (long_is ht).mono ?_
  rintro e x8 ⟨vl, rfl, hL, hl⟩
  replace hp := hp.later hL
  replace hc := hc.later hL
  replace hh := hh.later hL
  replace hLa := Later.trans hLa hL
  clear hL
  clear ht
  go_wp2_with fail
  refine (turned_is _).mono ?_
  rintro e x9 ⟨vt, rfl, hL, ht⟩
  replace hp := hp.later hL
  replace hc := hc.later hL
  replace hh := hh.later hL
  replace hl := hl.later hL
  replace hLa := Later.trans hLa hL
  clear hL
  go_wp2_with fail
  refine (clash_is ht).mono ?_
  rintro e x10 ⟨rfl, hL⟩
  replace hp := hp.later hL
  replace hc := hc.later hL
  replace hh := hh.later hL
  replace hl := hl.later hL
  replace hLa := Later.trans hLa hL
  clear hL
  clear ht
  go_wp2_with fail
  refine (two0_is 3 _).mono ?_
  rintro e x11 ⟨vt, rfl, hL, ht⟩
  replace hp := hp.later hL
  replace hc := hc.later hL
  replace hh := hh.later hL
  replace hl := hl.later hL
  replace hLa := Later.trans hLa hL
  clear hL
  go_wp2_with fail
  refine (paid_is ht).mono ?_
  rintro e x12 ⟨rfl, hL⟩
  replace hp := hp.later hL
  replace hc := hc.later hL
  replace hh := hh.later hL
  replace hl := hl.later hL
  replace hLa := Later.trans hLa hL
  clear hL
  clear ht
  go_wp2_with fail
  refine (two0_is 5 _).mono ?_
  rintro e x13 ⟨vt, rfl, hL, ht⟩
  replace hp := hp.later hL
  replace hc := hc.later hL
  replace hh := hh.later hL
  replace hl := hl.later hL
  replace hLa := Later.trans hLa hL
  clear hL
  go_wp2_with fail
  refine (free_is ht).mono ?_
  rintro e x14 ⟨rfl, hL⟩
  replace hp := hp.later hL
  replace hc := hc.later hL
  replace hh := hh.later hL
  replace hl := hl.later hL
  replace hLa := Later.trans hLa hL
  clear hL
  clear ht
  obtain ⟨w9, hw9⟩ : ∃ X, X = x14.alloc (.cells #[.int .i64 483, .int .i64 487] 42) := ⟨_, rfl⟩
  have hL : Later x14 w9 := by rw [hw9]; exact later_alloc (later_refl _) _
  have kb0 : Blk w9 x14.heap.size 42 #[.int .i64 483, .int .i64 487] := by rw [hw9]; exact Blk.new _ _ _
  obtain ⟨g, hg⟩ : ∃ g, x14.heap.size = g := ⟨_, rfl⟩
  rw [hg] at kb0
  have Hg := hide hg
  have Hw9 := hide hw9
  have hk : ∀ W, Later w9 W → W.cell? ⟨g, 0, none⟩ = some (.int .i64 483) ∧ W.cell? ⟨g, 1, none⟩ = some (.int .i64 487) := fun W h => ⟨kb0.cells_later W h 0, kb0.cells_later W h 1⟩
  have Hk := hide hk
  clear hw9 hg kb0 hk
  replace hp := hp.later hL
  replace hc := hc.later hL
  replace hh := hh.later hL
  replace hl := hl.later hL
  replace hLa := Later.trans hLa hL
  have hL9 := later_refl w9
  clear hL
  go_upto_region 8 with fail
  rw [← Hw9.out, Hg.out]
  clear Hw9 Hg
  go_wp2_with fail
  refine (two0_is 5 _).mono ?_
  rintro e x15 ⟨vt, rfl, hL, ht⟩
  replace hp := hp.later hL
  replace hc := hc.later hL
  replace hh := hh.later hL
  replace hl := hl.later hL
  replace hLa := Later.trans hLa hL
  replace hL9 := Later.trans hL9 hL
  clear hL
  go_wp2_with fail
  refine (look_is ht).mono ?_
  rintro e x16 ⟨rfl, hL⟩
  replace hp := hp.later hL
  replace hc := hc.later hL
  replace hh := hh.later hL
  replace hl := hl.later hL
  replace hLa := Later.trans hLa hL
  replace hL9 := Later.trans hL9 hL
  clear hL
  clear ht
  go_wp2_with fail
  refine (late_calls _).mono ?_
  rintro e x17 ⟨rfl, hL⟩
  replace hp := hp.later hL
  replace hc := hc.later hL
  replace hh := hh.later hL
  replace hl := hl.later hL
  replace hLa := Later.trans hLa hL
  replace hL9 := Later.trans hL9 hL
  clear hL
  go_wp2_with fail
  refine (two1_is 5 _).mono ?_
  rintro e x18 ⟨vt, rfl, hL, ht⟩
  replace hp := hp.later hL
  replace hc := hc.later hL
  replace hh := hh.later hL
  replace hl := hl.later hL
  replace hLa := Later.trans hLa hL
  replace hL9 := Later.trans hL9 hL
  clear hL
  go_wp2_with fail
  refine (first_is ht).mono ?_
  rintro e x19 ⟨rfl, hL⟩
  replace hp := hp.later hL
  replace hc := hc.later hL
  replace hh := hh.later hL
  replace hl := hl.later hL
  replace hLa := Later.trans hLa hL
  replace hL9 := Later.trans hL9 hL
  clear hL
  clear ht
  go_wp2_with fail
  refine (late_calls _).mono ?_
  rintro e x20 ⟨rfl, hL⟩
  replace hp := hp.later hL
  replace hc := hc.later hL
  replace hh := hh.later hL
  replace hl := hl.later hL
  replace hLa := Later.trans hLa hL
  replace hL9 := Later.trans hL9 hL
  clear hL
  go_wp2_with fail
  refine (two1_is 5 _).mono ?_
  rintro e x21 ⟨vt, rfl, hL, ht⟩
  replace hp := hp.later hL
  replace hc := hc.later hL
  replace hh := hh.later hL
  replace hl := hl.later hL
  replace hLa := Later.trans hLa hL
  replace hL9 := Later.trans hL9 hL
  clear hL
  go_wp2_with fail
  refine (leave_is ht).mono ?_
  rintro e x22 ⟨vv, rfl, hL, hv⟩
  replace hp := hp.later hL
  replace hc := hc.later hL
  replace hh := hh.later hL
  replace hl := hl.later hL
  replace hLa := Later.trans hLa hL
  replace hL9 := Later.trans hL9 hL
  clear hL
  clear ht
  obtain ⟨wz, rfl⟩ : ∃ W, W = x22 := ⟨_, rfl⟩
  obtain ⟨Ap, kp, rfl, hp⟩ := hp
  obtain ⟨Ac, kc, rfl, hc⟩ := hc
  obtain ⟨Ah, kh, rfl, hh⟩ := hh
  obtain ⟨Al, kl, rfl, hl⟩ := hl
  obtain ⟨Av, kv, rfl, hv⟩ := hv
  rw [ex_hoursL] at *
  rw [ex_hours] at hh
  obtain ⟨bc, oc, y, rfl, _, hy, y0, y1⟩ := hc.get (k := 1) (by simp)
  obtain ⟨bh, oh, z, rfl, _, hz, z0, z1⟩ := hh.get (k := 0) (by omega)
  simp only [List.getElem?_cons_succ, List.getElem?_cons_zero, Option.some.injEq] at hy hz
  subst hy hz
  simp only [Nat.zero_mul, Nat.add_zero, Nat.one_mul] at y0 y1 z0 z1
  have k0 := fun W (h : Later wz W) => (Hk.out W (Later.trans hL9 h)).1
  have k1 := fun W (h : Later wz W) => (Hk.out W (Later.trans hL9 h)).2
  have Hp := hide hp
  have Hl := hide hl
  have Hv := hide hv
  have HLa := hide hLa
  clear hp hl hv hc hh hLa hL9 Hk
  have hS0 : Later wz wz.drew := later_drew (later_refl _)
  have hzz : Later wz wz := later_refl _
  simp only [List.length_cons, List.length_nil, Nat.zero_add, Nat.reduceAdd]
  go_upto_region 11 with fail
  simp only [List.append_eq, List.cons_append, List.nil_append]
  refine wp_region_lin (w0 := wz) 103 [] rely_later (by kernel_rfl) (by kernel_rfl) (by kernel_rfl) (by kernel_rfl) (hS0) (.inl rfl) ?_
  simp only [List.take_succ_cons, List.take_zero, List.drop_succ_cons, List.drop_zero]
  refine lin_det (v := ?_) (F' := ?_) (by rfl) (fun _ => by rfl) ?_ ?_ ?_
  rotate_left 2
  focus (intro xs X hX hdep; clear hdep; (try dsimp only); go_simp; (try (first | with_reducible rfl | exact ⟨rfl, rfl⟩ | (fail))))
  focus (intro xs; (try simp only [Act.put, List.setIfInBounds_toArray, List.set_cons_zero, List.set_cons_succ, Nat.reduceAdd]); rfl)
  refine lin_det (v := ?_) (F' := ?_) (by rfl) (fun _ => by rfl) ?_ ?_ ?_
  rotate_left 2
  focus (intro xs X hX hdep; clear hdep; (try dsimp only); go_simp; (try (first | with_reducible rfl | exact ⟨rfl, rfl⟩ | (fail))))
  focus (intro xs; (try simp only [Act.put, List.setIfInBounds_toArray, List.set_cons_zero, List.set_cons_succ, Nat.reduceAdd]); rfl)
  refine lin_det (v := ?_) (F' := ?_) (by rfl) (fun _ => by rfl) ?_ ?_ ?_
  rotate_left 2
  focus (intro xs X hX hdep; clear hdep; (try dsimp only); go_simp; (try (first | with_reducible rfl | exact ⟨rfl, rfl⟩ | (fail))))
  focus (intro xs; (try simp only [Act.put, List.setIfInBounds_toArray, List.set_cons_zero, List.set_cons_succ, Nat.reduceAdd]); rfl)
  refine lin_det (v := ?_) (F' := ?_) (by rfl) (fun _ => by rfl) ?_ ?_ ?_
  rotate_left 2
  focus (intro xs X hX hdep; clear hdep; (try dsimp only); go_simp; (try (first | with_reducible rfl | exact ⟨rfl, rfl⟩ | (fail))))
  focus (intro xs; (try simp only [Act.put, List.setIfInBounds_toArray, List.set_cons_zero, List.set_cons_succ, Nat.reduceAdd]); rfl)
  refine lin_any (fun v W => IsInts [300, 363, 365, 485] W v) false (fun v W W' h k => IsInts.later k h) (F' := ?_) (by rfl) (fun _ => by rfl) ?_ ?_ ?_
  rotate_left 1
  focus (intro xs X hX hdep; skip; clear hdep; intro K hK; (try dsimp only); go_simp; (exact hK.out _ _ rfl (later_alloc (later_refl _) _) (newInts _ [300, 363, 365, 485] _ rfl) (fun h => by cases h)))
  focus (intro xs; (try simp only [Act.put, List.setIfInBounds_toArray, List.set_cons_zero, List.set_cons_succ, Nat.reduceAdd]); rfl)
  refine lin_det_last (j := 4) (v := ?_) (F' := ?_) (by rfl) (fun _ => by rfl) (by kernel_rfl) (by kernel_rfl) ?_ ?_ ?_
  rotate_left 2
  focus (intro xs X hX hs; obtain ⟨A, k, e, hr⟩ := (show IsInts _ _ _ from hs); (try dsimp only); go_simp; (try (first | with_reducible rfl | exact ⟨rfl, rfl⟩ | (exact ints_true (Hp.out.later hX) hr (by simp)))))
  focus (intro xs; (try simp only [Act.put, List.setIfInBounds_toArray, List.set_cons_zero, List.set_cons_succ, Nat.reduceAdd]); rfl)
  refine lin_det (v := ?_) (F' := ?_) (by rfl) (fun _ => by rfl) ?_ ?_ ?_
  rotate_left 2
  focus (intro xs X hX hdep; clear hdep; (try dsimp only); go_simp; (try (first | with_reducible rfl | exact ⟨rfl, rfl⟩ | (fail))))
  focus (intro xs; (try simp only [Act.put, List.setIfInBounds_toArray, List.set_cons_zero, List.set_cons_succ, Nat.reduceAdd]); rfl)
  refine lin_det (v := ?_) (F' := ?_) (by rfl) (fun _ => by rfl) ?_ ?_ ?_
  rotate_left 2
  focus (intro xs X hX hdep; clear hdep; (try dsimp only); go_simp; (try (first | with_reducible rfl | exact ⟨rfl, rfl⟩ | (fail))))
  focus (intro xs; (try simp only [Act.put, List.setIfInBounds_toArray, List.set_cons_zero, List.set_cons_succ, Nat.reduceAdd]); rfl)
  refine lin_det (v := ?_) (F' := ?_) (by rfl) (fun _ => by rfl) ?_ ?_ ?_
  rotate_left 2
  focus (intro xs X hX hdep; clear hdep; (try dsimp only); go_simp; (try (first | with_reducible rfl | exact ⟨rfl, rfl⟩ | (fail))))
  focus (intro xs; (try simp only [Act.put, List.setIfInBounds_toArray, List.set_cons_zero, List.set_cons_succ, Nat.reduceAdd]); rfl)
  refine lin_det (v := ?_) (F' := ?_) (by rfl) (fun _ => by rfl) ?_ ?_ ?_
  rotate_left 2
  focus (intro xs X hX hdep; clear hdep; (try dsimp only); go_simp; (try (first | with_reducible rfl | exact ⟨rfl, rfl⟩ | (fail))))
  focus (intro xs; (try simp only [Act.put, List.setIfInBounds_toArray, List.set_cons_zero, List.set_cons_succ, Nat.reduceAdd]); rfl)
  refine lin_det (v := ?_) (F' := ?_) (by rfl) (fun _ => by rfl) ?_ ?_ ?_
  rotate_left 2
  focus (intro xs X hX hdep; clear hdep; (try dsimp only); go_simp; (try (first | with_reducible rfl | exact ⟨rfl, rfl⟩ | (fail))))
  focus (intro xs; (try simp only [Act.put, List.setIfInBounds_toArray, List.set_cons_zero, List.set_cons_succ, Nat.reduceAdd]); rfl)
  refine lin_det (v := ?_) (F' := ?_) (by rfl) (fun _ => by rfl) ?_ ?_ ?_
  rotate_left 2
  focus (intro xs X hX hdep; clear hdep; (try dsimp only); go_simp; (try (first | with_reducible rfl | exact ⟨rfl, rfl⟩ | (fail))))
  focus (intro xs; (try simp only [Act.put, List.setIfInBounds_toArray, List.set_cons_zero, List.set_cons_succ, Nat.reduceAdd]); rfl)
  refine lin_det (v := ?_) (F' := ?_) (by rfl) (fun _ => by rfl) ?_ ?_ ?_
  rotate_left 2
  focus (intro xs X hX hdep; clear hdep; (try dsimp only); go_simp; (try (first | with_reducible rfl | exact ⟨rfl, rfl⟩ | (fail))))
  focus (intro xs; (try simp only [Act.put, List.setIfInBounds_toArray, List.set_cons_zero, List.set_cons_succ, Nat.reduceAdd]); rfl)
  refine lin_det (v := ?_) (F' := ?_) (by rfl) (fun _ => by rfl) ?_ ?_ ?_
  rotate_left 2
  focus (intro xs X hX hdep; clear hdep; (try dsimp only); go_simp; (try (first | with_reducible rfl | exact ⟨rfl, rfl⟩ | (fail))))
  focus (intro xs; (try simp only [Act.put, List.setIfInBounds_toArray, List.set_cons_zero, List.set_cons_succ, Nat.reduceAdd]); rfl)
  refine lin_det (v := ?_) (F' := ?_) (by rfl) (fun _ => by rfl) ?_ ?_ ?_
  rotate_left 2
  focus (intro xs X hX hdep; clear hdep; (try dsimp only); go_simp; (try (first | with_reducible rfl | exact ⟨rfl, rfl⟩ | (fail))))
  focus (intro xs; (try simp only [Act.put, List.setIfInBounds_toArray, List.set_cons_zero, List.set_cons_succ, Nat.reduceAdd]); rfl)
  refine lin_det (v := ?_) (F' := ?_) (by rfl) (fun _ => by rfl) ?_ ?_ ?_
  rotate_left 2
  focus (intro xs X hX hdep; clear hdep; (try dsimp only); go_simp; (try (first | with_reducible rfl | exact ⟨rfl, rfl⟩ | (fail))))
  focus (intro xs; (try simp only [Act.put, List.setIfInBounds_toArray, List.set_cons_zero, List.set_cons_succ, Nat.reduceAdd]); rfl)
  refine lin_det (v := ?_) (F' := ?_) (by rfl) (fun _ => by rfl) ?_ ?_ ?_
  rotate_left 2
  focus (intro xs X hX hdep; clear hdep; (try dsimp only); go_simp; (try (first | with_reducible rfl | exact ⟨rfl, rfl⟩ | (fail))))
  focus (intro xs; (try simp only [Act.put, List.setIfInBounds_toArray, List.set_cons_zero, List.set_cons_succ, Nat.reduceAdd]); rfl)
  refine lin_det (v := ?_) (F' := ?_) (by rfl) (fun _ => by rfl) ?_ ?_ ?_
  rotate_left 2
  focus (intro xs X hX hdep; clear hdep; (try dsimp only); go_simp; (try (first | with_reducible rfl | exact ⟨rfl, rfl⟩ | (fail))))
  focus (intro xs; (try simp only [Act.put, List.setIfInBounds_toArray, List.set_cons_zero, List.set_cons_succ, Nat.reduceAdd]); rfl)
  refine lin_det (v := ?_) (F' := ?_) (by rfl) (fun _ => by rfl) ?_ ?_ ?_
  rotate_left 2
  focus (intro xs X hX hdep; clear hdep; (try dsimp only); go_simp; (try (first | with_reducible rfl | exact ⟨rfl, rfl⟩ | (fail))))
  focus (intro xs; (try simp only [Act.put, List.setIfInBounds_toArray, List.set_cons_zero, List.set_cons_succ, Nat.reduceAdd]); rfl)
  refine lin_det (v := ?_) (F' := ?_) (by rfl) (fun _ => by rfl) ?_ ?_ ?_
  rotate_left 2
  focus (intro xs X hX hdep; clear hdep; (try dsimp only); go_simp; (try (first | with_reducible rfl | exact ⟨rfl, rfl⟩ | (fail))))
  focus (intro xs; (try simp only [Act.put, List.setIfInBounds_toArray, List.set_cons_zero, List.set_cons_succ, Nat.reduceAdd]); rfl)
  refine lin_det (v := ?_) (F' := ?_) (by rfl) (fun _ => by rfl) ?_ ?_ ?_
  rotate_left 2
  focus (intro xs X hX hdep; clear hdep; (try dsimp only); go_simp; (try (first | with_reducible rfl | exact ⟨rfl, rfl⟩ | (exact lawBetween_calls _ _ X))))
  focus (intro xs; (try simp only [Act.put, List.setIfInBounds_toArray, List.set_cons_zero, List.set_cons_succ, Nat.reduceAdd]); rfl)
  refine lin_det (v := ?_) (F' := ?_) (by rfl) (fun _ => by rfl) ?_ ?_ ?_
  rotate_left 2
  focus (intro xs X hX hdep; clear hdep; (try dsimp only); go_simp; (try (first | with_reducible rfl | exact ⟨rfl, rfl⟩ | (fail))))
  focus (intro xs; (try simp only [Act.put, List.setIfInBounds_toArray, List.set_cons_zero, List.set_cons_succ, Nat.reduceAdd]); rfl)
  refine lin_det (v := ?_) (F' := ?_) (by rfl) (fun _ => by rfl) ?_ ?_ ?_
  rotate_left 2
  focus (intro xs X hX hdep; clear hdep; (try dsimp only); go_simp; (try (first | with_reducible rfl | exact ⟨rfl, rfl⟩ | (fail))))
  focus (intro xs; (try simp only [Act.put, List.setIfInBounds_toArray, List.set_cons_zero, List.set_cons_succ, Nat.reduceAdd]); rfl)
  refine lin_det (v := ?_) (F' := ?_) (by rfl) (fun _ => by rfl) ?_ ?_ ?_
  rotate_left 2
  focus (intro xs X hX hdep; clear hdep; (try dsimp only); go_simp; (try (first | with_reducible rfl | exact ⟨rfl, rfl⟩ | (fail))))
  focus (intro xs; (try simp only [Act.put, List.setIfInBounds_toArray, List.set_cons_zero, List.set_cons_succ, Nat.reduceAdd]); rfl)
  refine lin_det (v := ?_) (F' := ?_) (by rfl) (fun _ => by rfl) ?_ ?_ ?_
  rotate_left 2
  focus (intro xs X hX hdep; clear hdep; (try dsimp only); go_simp; (try (first | with_reducible rfl | exact ⟨rfl, rfl⟩ | (fail))))
  focus (intro xs; (try simp only [Act.put, List.setIfInBounds_toArray, List.set_cons_zero, List.set_cons_succ, Nat.reduceAdd]); rfl)
  refine lin_det (v := ?_) (F' := ?_) (by rfl) (fun _ => by rfl) ?_ ?_ ?_
  rotate_left 2
  focus (intro xs X hX hdep; clear hdep; (try dsimp only); go_simp; (try (first | with_reducible rfl | exact ⟨rfl, rfl⟩ | (fail))))
  focus (intro xs; (try simp only [Act.put, List.setIfInBounds_toArray, List.set_cons_zero, List.set_cons_succ, Nat.reduceAdd]); rfl)
  refine lin_det (v := ?_) (F' := ?_) (by rfl) (fun _ => by rfl) ?_ ?_ ?_
  rotate_left 2
  focus (intro xs X hX hdep; clear hdep; (try dsimp only); go_simp; (try (first | with_reducible rfl | exact ⟨rfl, rfl⟩ | (fail))))
  focus (intro xs; (try simp only [Act.put, List.setIfInBounds_toArray, List.set_cons_zero, List.set_cons_succ, Nat.reduceAdd]); rfl)
  refine lin_det (v := ?_) (F' := ?_) (by rfl) (fun _ => by rfl) ?_ ?_ ?_
  rotate_left 2
  focus (intro xs X hX hdep; clear hdep; (try dsimp only); go_simp; (try (first | with_reducible rfl | exact ⟨rfl, rfl⟩ | (fail))))
  focus (intro xs; (try simp only [Act.put, List.setIfInBounds_toArray, List.set_cons_zero, List.set_cons_succ, Nat.reduceAdd]); rfl)
  refine lin_det (v := ?_) (F' := ?_) (by rfl) (fun _ => by rfl) ?_ ?_ ?_
  rotate_left 2
  focus (intro xs X hX hdep; clear hdep; (try dsimp only); go_simp; (try (first | with_reducible rfl | exact ⟨rfl, rfl⟩ | (fail))))
  focus (intro xs; (try simp only [Act.put, List.setIfInBounds_toArray, List.set_cons_zero, List.set_cons_succ, Nat.reduceAdd]); rfl)
  refine lin_det (v := ?_) (F' := ?_) (by rfl) (fun _ => by rfl) ?_ ?_ ?_
  rotate_left 2
  focus (intro xs X hX hdep; clear hdep; (try dsimp only); go_simp; (try (first | with_reducible rfl | exact ⟨rfl, rfl⟩ | (fail))))
  focus (intro xs; (try simp only [Act.put, List.setIfInBounds_toArray, List.set_cons_zero, List.set_cons_succ, Nat.reduceAdd]); rfl)
  refine lin_det (v := ?_) (F' := ?_) (by rfl) (fun _ => by rfl) ?_ ?_ ?_
  rotate_left 2
  focus (intro xs X hX hdep; clear hdep; (try dsimp only); go_simp; (try (first | with_reducible rfl | exact ⟨rfl, rfl⟩ | (fail))))
  focus (intro xs; (try simp only [Act.put, List.setIfInBounds_toArray, List.set_cons_zero, List.set_cons_succ, Nat.reduceAdd]); rfl)
  refine lin_det (v := ?_) (F' := ?_) (by rfl) (fun _ => by rfl) ?_ ?_ ?_
  rotate_left 2
  focus (intro xs X hX hdep; clear hdep; (try dsimp only); go_simp; (try (first | with_reducible rfl | exact ⟨rfl, rfl⟩ | (fail))))
  focus (intro xs; (try simp only [Act.put, List.setIfInBounds_toArray, List.set_cons_zero, List.set_cons_succ, Nat.reduceAdd]); rfl)
  refine lin_det (v := ?_) (F' := ?_) (by rfl) (fun _ => by rfl) ?_ ?_ ?_
  rotate_left 2
  focus (intro xs X hX hdep; clear hdep; (try dsimp only); go_simp; (try (first | with_reducible rfl | exact ⟨rfl, rfl⟩ | (fail))))
  focus (intro xs; (try simp only [Act.put, List.setIfInBounds_toArray, List.set_cons_zero, List.set_cons_succ, Nat.reduceAdd]); rfl)
  refine lin_det (v := ?_) (F' := ?_) (by rfl) (fun _ => by rfl) ?_ ?_ ?_
  rotate_left 2
  focus (intro xs X hX hdep; clear hdep; (try dsimp only); go_simp; (try (first | with_reducible rfl | exact ⟨rfl, rfl⟩ | (fail))))
  focus (intro xs; (try simp only [Act.put, List.setIfInBounds_toArray, List.set_cons_zero, List.set_cons_succ, Nat.reduceAdd]); rfl)
  refine lin_det (v := ?_) (F' := ?_) (by rfl) (fun _ => by rfl) ?_ ?_ ?_
  rotate_left 2
  focus (intro xs X hX hdep; clear hdep; (try dsimp only); go_simp; (try (first | with_reducible rfl | exact ⟨rfl, rfl⟩ | (fail))))
  focus (intro xs; (try simp only [Act.put, List.setIfInBounds_toArray, List.set_cons_zero, List.set_cons_succ, Nat.reduceAdd]); rfl)
  refine lin_det (v := ?_) (F' := ?_) (by rfl) (fun _ => by rfl) ?_ ?_ ?_
  rotate_left 2
  focus (intro xs X hX hdep; clear hdep; (try dsimp only); go_simp; (try (first | with_reducible rfl | exact ⟨rfl, rfl⟩ | (fail))))
  focus (intro xs; (try simp only [Act.put, List.setIfInBounds_toArray, List.set_cons_zero, List.set_cons_succ, Nat.reduceAdd]); rfl)
  refine lin_det (v := ?_) (F' := ?_) (by rfl) (fun _ => by rfl) ?_ ?_ ?_
  rotate_left 2
  focus (intro xs X hX hdep; clear hdep; (try dsimp only); go_simp; (try (first | with_reducible rfl | exact ⟨rfl, rfl⟩ | (exact lawBetween_calls _ _ X))))
  focus (intro xs; (try simp only [Act.put, List.setIfInBounds_toArray, List.set_cons_zero, List.set_cons_succ, Nat.reduceAdd]); rfl)
  refine lin_det (v := ?_) (F' := ?_) (by rfl) (fun _ => by rfl) ?_ ?_ ?_
  rotate_left 2
  focus (intro xs X hX hdep; clear hdep; (try dsimp only); go_simp; (try (first | with_reducible rfl | exact ⟨rfl, rfl⟩ | (fail))))
  focus (intro xs; (try simp only [Act.put, List.setIfInBounds_toArray, List.set_cons_zero, List.set_cons_succ, Nat.reduceAdd]); rfl)
  refine lin_det (v := ?_) (F' := ?_) (by rfl) (fun _ => by rfl) ?_ ?_ ?_
  rotate_left 2
  focus (intro xs X hX hdep; clear hdep; (try dsimp only); go_simp; (try (first | with_reducible rfl | exact ⟨rfl, rfl⟩ | (fail))))
  focus (intro xs; (try simp only [Act.put, List.setIfInBounds_toArray, List.set_cons_zero, List.set_cons_succ, Nat.reduceAdd]); rfl)
  refine lin_det (v := ?_) (F' := ?_) (by rfl) (fun _ => by rfl) ?_ ?_ ?_
  rotate_left 2
  focus (intro xs X hX hdep; clear hdep; (try dsimp only); go_simp; (try (first | with_reducible rfl | exact ⟨rfl, rfl⟩ | (fail))))
  focus (intro xs; (try simp only [Act.put, List.setIfInBounds_toArray, List.set_cons_zero, List.set_cons_succ, Nat.reduceAdd]); rfl)
  refine lin_det (v := ?_) (F' := ?_) (by rfl) (fun _ => by rfl) ?_ ?_ ?_
  rotate_left 2
  focus (intro xs X hX hdep; clear hdep; (try dsimp only); go_simp; (try (first | with_reducible rfl | exact ⟨rfl, rfl⟩ | (fail))))
  focus (intro xs; (try simp only [Act.put, List.setIfInBounds_toArray, List.set_cons_zero, List.set_cons_succ, Nat.reduceAdd]); rfl)
  refine lin_det (v := ?_) (F' := ?_) (by rfl) (fun _ => by rfl) ?_ ?_ ?_
  rotate_left 2
  focus (intro xs X hX hdep; clear hdep; (try dsimp only); go_simp; (try (first | with_reducible rfl | exact ⟨rfl, rfl⟩ | (fail))))
  focus (intro xs; (try simp only [Act.put, List.setIfInBounds_toArray, List.set_cons_zero, List.set_cons_succ, Nat.reduceAdd]); rfl)
  refine lin_det (v := ?_) (F' := ?_) (by rfl) (fun _ => by rfl) ?_ ?_ ?_
  rotate_left 2
  focus (intro xs X hX hdep; clear hdep; (try dsimp only); go_simp; (try (first | with_reducible rfl | exact ⟨rfl, rfl⟩ | (fail))))
  focus (intro xs; (try simp only [Act.put, List.setIfInBounds_toArray, List.set_cons_zero, List.set_cons_succ, Nat.reduceAdd]); rfl)
  refine lin_det (v := ?_) (F' := ?_) (by rfl) (fun _ => by rfl) ?_ ?_ ?_
  rotate_left 2
  focus (intro xs X hX hdep; clear hdep; (try dsimp only); go_simp; (try (first | with_reducible rfl | exact ⟨rfl, rfl⟩ | (fail))))
  focus (intro xs; (try simp only [Act.put, List.setIfInBounds_toArray, List.set_cons_zero, List.set_cons_succ, Nat.reduceAdd]); rfl)
  refine lin_det (v := ?_) (F' := ?_) (by rfl) (fun _ => by rfl) ?_ ?_ ?_
  rotate_left 2
  focus (intro xs X hX hdep; clear hdep; (try dsimp only); go_simp; (try (first | with_reducible rfl | exact ⟨rfl, rfl⟩ | (fail))))
  focus (intro xs; (try simp only [Act.put, List.setIfInBounds_toArray, List.set_cons_zero, List.set_cons_succ, Nat.reduceAdd]); rfl)
  refine lin_any (fun v W => IsInts [1, 3, 2] W v) false (fun v W W' h k => IsInts.later k h) (F' := ?_) (by rfl) (fun _ => by rfl) ?_ ?_ ?_
  rotate_left 1
  focus (intro xs X hX hdep; skip; clear hdep; intro K hK; (try dsimp only); go_simp; (exact hK.out _ _ rfl (later_alloc (later_refl _) _) (newInts _ [1, 3, 2] _ rfl) (fun h => by cases h)))
  focus (intro xs; (try simp only [Act.put, List.setIfInBounds_toArray, List.set_cons_zero, List.set_cons_succ, Nat.reduceAdd]); rfl)
  refine lin_det_last (j := 45) (v := ?_) (F' := ?_) (by rfl) (fun _ => by rfl) (by kernel_rfl) (by kernel_rfl) ?_ ?_ ?_
  rotate_left 2
  focus (intro xs X hX hs; obtain ⟨A, k, e, hr⟩ := (show IsInts _ _ _ from hs); (try dsimp only); go_simp; (try (first | with_reducible rfl | exact ⟨rfl, rfl⟩ | (exact ints_true (Hl.out.later hX) hr (by simp)))))
  focus (intro xs; (try simp only [Act.put, List.setIfInBounds_toArray, List.set_cons_zero, List.set_cons_succ, Nat.reduceAdd]); rfl)
  refine lin_det (v := ?_) (F' := ?_) (by rfl) (fun _ => by rfl) ?_ ?_ ?_
  rotate_left 2
  focus (intro xs X hX hdep; clear hdep; (try dsimp only); go_simp; (try (first | with_reducible rfl | exact ⟨rfl, rfl⟩ | (fail))))
  focus (intro xs; (try simp only [Act.put, List.setIfInBounds_toArray, List.set_cons_zero, List.set_cons_succ, Nat.reduceAdd]); rfl)
  refine lin_det (v := ?_) (F' := ?_) (by rfl) (fun _ => by rfl) ?_ ?_ ?_
  rotate_left 2
  focus (intro xs X hX hdep; clear hdep; (try dsimp only); go_simp; (try (first | with_reducible rfl | exact ⟨rfl, rfl⟩ | (fail))))
  focus (intro xs; (try simp only [Act.put, List.setIfInBounds_toArray, List.set_cons_zero, List.set_cons_succ, Nat.reduceAdd]); rfl)
  refine lin_det (v := ?_) (F' := ?_) (by rfl) (fun _ => by rfl) ?_ ?_ ?_
  rotate_left 2
  focus (intro xs X hX hdep; clear hdep; (try dsimp only); go_simp; (try (first | with_reducible rfl | exact ⟨rfl, rfl⟩ | (fail))))
  focus (intro xs; (try simp only [Act.put, List.setIfInBounds_toArray, List.set_cons_zero, List.set_cons_succ, Nat.reduceAdd]); rfl)
  refine lin_det (v := ?_) (F' := ?_) (by rfl) (fun _ => by rfl) ?_ ?_ ?_
  rotate_left 2
  focus (intro xs X hX hdep; clear hdep; (try dsimp only); go_simp; (try (first | with_reducible rfl | exact ⟨rfl, rfl⟩ | (fail))))
  focus (intro xs; (try simp only [Act.put, List.setIfInBounds_toArray, List.set_cons_zero, List.set_cons_succ, Nat.reduceAdd]); rfl)
  refine lin_det (v := ?_) (F' := ?_) (by rfl) (fun _ => by rfl) ?_ ?_ ?_
  rotate_left 2
  focus (intro xs X hX hdep; clear hdep; (try dsimp only); go_simp; (try (first | with_reducible rfl | exact ⟨rfl, rfl⟩ | (fail))))
  focus (intro xs; (try simp only [Act.put, List.setIfInBounds_toArray, List.set_cons_zero, List.set_cons_succ, Nat.reduceAdd]); rfl)
  refine lin_det (v := ?_) (F' := ?_) (by rfl) (fun _ => by rfl) ?_ ?_ ?_
  rotate_left 2
  focus (intro xs X hX hdep; clear hdep; (try dsimp only); go_simp; (try (first | with_reducible rfl | exact ⟨rfl, rfl⟩ | (fail))))
  focus (intro xs; (try simp only [Act.put, List.setIfInBounds_toArray, List.set_cons_zero, List.set_cons_succ, Nat.reduceAdd]); rfl)
  refine lin_det (v := ?_) (F' := ?_) (by rfl) (fun _ => by rfl) ?_ ?_ ?_
  rotate_left 2
  focus (intro xs X hX hdep; clear hdep; (try dsimp only); go_simp; (try (first | with_reducible rfl | exact ⟨rfl, rfl⟩ | (fail))))
  focus (intro xs; (try simp only [Act.put, List.setIfInBounds_toArray, List.set_cons_zero, List.set_cons_succ, Nat.reduceAdd]); rfl)
  refine lin_det (v := ?_) (F' := ?_) (by rfl) (fun _ => by rfl) ?_ ?_ ?_
  rotate_left 2
  focus (intro xs X hX hdep; clear hdep; (try dsimp only); go_simp; (try (first | with_reducible rfl | exact ⟨rfl, rfl⟩ | (fail))))
  focus (intro xs; (try simp only [Act.put, List.setIfInBounds_toArray, List.set_cons_zero, List.set_cons_succ, Nat.reduceAdd]); rfl)
  refine lin_det (v := ?_) (F' := ?_) (by rfl) (fun _ => by rfl) ?_ ?_ ?_
  rotate_left 2
  focus (intro xs X hX hdep; clear hdep; (try dsimp only); go_simp; (try (first | with_reducible rfl | exact ⟨rfl, rfl⟩ | (fail))))
  focus (intro xs; (try simp only [Act.put, List.setIfInBounds_toArray, List.set_cons_zero, List.set_cons_succ, Nat.reduceAdd]); rfl)
  refine lin_det (v := ?_) (F' := ?_) (by rfl) (fun _ => by rfl) ?_ ?_ ?_
  rotate_left 2
  focus (intro xs X hX hdep; clear hdep; (try dsimp only); go_simp; (try (first | with_reducible rfl | exact ⟨rfl, rfl⟩ | (fail))))
  focus (intro xs; (try simp only [Act.put, List.setIfInBounds_toArray, List.set_cons_zero, List.set_cons_succ, Nat.reduceAdd]); rfl)
  refine lin_det (v := ?_) (F' := ?_) (by rfl) (fun _ => by rfl) ?_ ?_ ?_
  rotate_left 2
  focus (intro xs X hX hdep; clear hdep; (try dsimp only); go_simp; (try (first | with_reducible rfl | exact ⟨rfl, rfl⟩ | (fail))))
  focus (intro xs; (try simp only [Act.put, List.setIfInBounds_toArray, List.set_cons_zero, List.set_cons_succ, Nat.reduceAdd]); rfl)
  refine lin_det (v := ?_) (F' := ?_) (by rfl) (fun _ => by rfl) ?_ ?_ ?_
  rotate_left 2
  focus (intro xs X hX hdep; clear hdep; (try dsimp only); go_simp; (try (first | with_reducible rfl | exact ⟨rfl, rfl⟩ | (fail))))
  focus (intro xs; (try simp only [Act.put, List.setIfInBounds_toArray, List.set_cons_zero, List.set_cons_succ, Nat.reduceAdd]); rfl)
  refine lin_det (v := ?_) (F' := ?_) (by rfl) (fun _ => by rfl) ?_ ?_ ?_
  rotate_left 2
  focus (intro xs X hX hdep; clear hdep; (try dsimp only); go_simp; (try (first | with_reducible rfl | exact ⟨rfl, rfl⟩ | (fail))))
  focus (intro xs; (try simp only [Act.put, List.setIfInBounds_toArray, List.set_cons_zero, List.set_cons_succ, Nat.reduceAdd]); rfl)
  refine lin_det (v := ?_) (F' := ?_) (by rfl) (fun _ => by rfl) ?_ ?_ ?_
  rotate_left 2
  focus (intro xs X hX hdep; clear hdep; (try dsimp only); go_simp; (try (first | with_reducible rfl | exact ⟨rfl, rfl⟩ | (fail))))
  focus (intro xs; (try simp only [Act.put, List.setIfInBounds_toArray, List.set_cons_zero, List.set_cons_succ, Nat.reduceAdd]); rfl)
  refine lin_det (v := ?_) (F' := ?_) (by rfl) (fun _ => by rfl) ?_ ?_ ?_
  rotate_left 2
  focus (intro xs X hX hdep; clear hdep; (try dsimp only); go_simp; (try (first | with_reducible rfl | exact ⟨rfl, rfl⟩ | (fail))))
  focus (intro xs; (try simp only [Act.put, List.setIfInBounds_toArray, List.set_cons_zero, List.set_cons_succ, Nat.reduceAdd]); rfl)
  refine lin_det (v := ?_) (F' := ?_) (by rfl) (fun _ => by rfl) ?_ ?_ ?_
  rotate_left 2
  focus (intro xs X hX hdep; clear hdep; (try dsimp only); go_simp; (try (first | with_reducible rfl | exact ⟨rfl, rfl⟩ | (fail))))
  focus (intro xs; (try simp only [Act.put, List.setIfInBounds_toArray, List.set_cons_zero, List.set_cons_succ, Nat.reduceAdd]); rfl)
  refine lin_det (v := ?_) (F' := ?_) (by rfl) (fun _ => by rfl) ?_ ?_ ?_
  rotate_left 2
  focus (intro xs X hX hdep; clear hdep; (try dsimp only); go_simp; (try (first | with_reducible rfl | exact ⟨rfl, rfl⟩ | (fail))))
  focus (intro xs; (try simp only [Act.put, List.setIfInBounds_toArray, List.set_cons_zero, List.set_cons_succ, Nat.reduceAdd]); rfl)
  refine lin_det (v := ?_) (F' := ?_) (by rfl) (fun _ => by rfl) ?_ ?_ ?_
  rotate_left 2
  focus (intro xs X hX hdep; clear hdep; (try dsimp only); go_simp; (try (first | with_reducible rfl | exact ⟨rfl, rfl⟩ | (fail))))
  focus (intro xs; (try simp only [Act.put, List.setIfInBounds_toArray, List.set_cons_zero, List.set_cons_succ, Nat.reduceAdd]); rfl)
  refine lin_det (v := ?_) (F' := ?_) (by rfl) (fun _ => by rfl) ?_ ?_ ?_
  rotate_left 2
  focus (intro xs X hX hdep; clear hdep; (try dsimp only); go_simp; (try (first | with_reducible rfl | exact ⟨rfl, rfl⟩ | (fail))))
  focus (intro xs; (try simp only [Act.put, List.setIfInBounds_toArray, List.set_cons_zero, List.set_cons_succ, Nat.reduceAdd]); rfl)
  refine lin_det (v := ?_) (F' := ?_) (by rfl) (fun _ => by rfl) ?_ ?_ ?_
  rotate_left 2
  focus (intro xs X hX hdep; clear hdep; (try dsimp only); go_simp; (try (first | with_reducible rfl | exact ⟨rfl, rfl⟩ | (fail))))
  focus (intro xs; (try simp only [Act.put, List.setIfInBounds_toArray, List.set_cons_zero, List.set_cons_succ, Nat.reduceAdd]); rfl)
  refine lin_det (v := ?_) (F' := ?_) (by rfl) (fun _ => by rfl) ?_ ?_ ?_
  rotate_left 2
  focus (intro xs X hX hdep; clear hdep; (try dsimp only); go_simp; (try (first | with_reducible rfl | exact ⟨rfl, rfl⟩ | (fail))))
  focus (intro xs; (try simp only [Act.put, List.setIfInBounds_toArray, List.set_cons_zero, List.set_cons_succ, Nat.reduceAdd]); rfl)
  refine lin_det (v := ?_) (F' := ?_) (by rfl) (fun _ => by rfl) ?_ ?_ ?_
  rotate_left 2
  focus (intro xs X hX hdep; clear hdep; (try dsimp only); go_simp; (try (first | with_reducible rfl | exact ⟨rfl, rfl⟩ | (fail))))
  focus (intro xs; (try simp only [Act.put, List.setIfInBounds_toArray, List.set_cons_zero, List.set_cons_succ, Nat.reduceAdd]); rfl)
  refine lin_det (v := ?_) (F' := ?_) (by rfl) (fun _ => by rfl) ?_ ?_ ?_
  rotate_left 2
  focus (intro xs X hX hdep; clear hdep; (try dsimp only); go_simp; (try (first | with_reducible rfl | exact ⟨rfl, rfl⟩ | (fail))))
  focus (intro xs; (try simp only [Act.put, List.setIfInBounds_toArray, List.set_cons_zero, List.set_cons_succ, Nat.reduceAdd]); rfl)
  refine lin_det (v := ?_) (F' := ?_) (by rfl) (fun _ => by rfl) ?_ ?_ ?_
  rotate_left 2
  focus (intro xs X hX hdep; clear hdep; (try dsimp only); go_simp; (try (first | with_reducible rfl | exact ⟨rfl, rfl⟩ | (exact lawBetween_calls _ _ X))))
  focus (intro xs; (try simp only [Act.put, List.setIfInBounds_toArray, List.set_cons_zero, List.set_cons_succ, Nat.reduceAdd]); rfl)
  refine lin_det (v := ?_) (F' := ?_) (by rfl) (fun _ => by rfl) ?_ ?_ ?_
  rotate_left 2
  focus (intro xs X hX hdep; clear hdep; (try dsimp only); go_simp; (try (first | with_reducible rfl | exact ⟨rfl, rfl⟩ | (fail))))
  focus (intro xs; (try simp only [Act.put, List.setIfInBounds_toArray, List.set_cons_zero, List.set_cons_succ, Nat.reduceAdd]); rfl)
  refine lin_det (v := ?_) (F' := ?_) (by rfl) (fun _ => by rfl) ?_ ?_ ?_
  rotate_left 2
  focus (intro xs X hX hdep; clear hdep; (try dsimp only); go_simp; (try (first | with_reducible rfl | exact ⟨rfl, rfl⟩ | (fail))))
  focus (intro xs; (try simp only [Act.put, List.setIfInBounds_toArray, List.set_cons_zero, List.set_cons_succ, Nat.reduceAdd]); rfl)
  refine lin_det (v := ?_) (F' := ?_) (by rfl) (fun _ => by rfl) ?_ ?_ ?_
  rotate_left 2
  focus (intro xs X hX hdep; clear hdep; (try dsimp only); go_simp; (try (first | with_reducible rfl | exact ⟨rfl, rfl⟩ | (fail))))
  focus (intro xs; (try simp only [Act.put, List.setIfInBounds_toArray, List.set_cons_zero, List.set_cons_succ, Nat.reduceAdd]); rfl)
  refine lin_det (v := ?_) (F' := ?_) (by rfl) (fun _ => by rfl) ?_ ?_ ?_
  rotate_left 2
  focus (intro xs X hX hdep; clear hdep; (try dsimp only); go_simp; (try (first | with_reducible rfl | exact ⟨rfl, rfl⟩ | (fail))))
  focus (intro xs; (try simp only [Act.put, List.setIfInBounds_toArray, List.set_cons_zero, List.set_cons_succ, Nat.reduceAdd]); rfl)
  refine lin_det (v := ?_) (F' := ?_) (by rfl) (fun _ => by rfl) ?_ ?_ ?_
  rotate_left 2
  focus (intro xs X hX hdep; clear hdep; (try dsimp only); go_simp; (try (first | with_reducible rfl | exact ⟨rfl, rfl⟩ | (fail))))
  focus (intro xs; (try simp only [Act.put, List.setIfInBounds_toArray, List.set_cons_zero, List.set_cons_succ, Nat.reduceAdd]); rfl)
  refine lin_det (v := ?_) (F' := ?_) (by rfl) (fun _ => by rfl) ?_ ?_ ?_
  rotate_left 2
  focus (intro xs X hX hdep; clear hdep; (try dsimp only); go_simp; (try (first | with_reducible rfl | exact ⟨rfl, rfl⟩ | (fail))))
  focus (intro xs; (try simp only [Act.put, List.setIfInBounds_toArray, List.set_cons_zero, List.set_cons_succ, Nat.reduceAdd]); rfl)
  refine lin_det (v := ?_) (F' := ?_) (by rfl) (fun _ => by rfl) ?_ ?_ ?_
  rotate_left 2
  focus (intro xs X hX hdep; clear hdep; (try dsimp only); go_simp; (try (first | with_reducible rfl | exact ⟨rfl, rfl⟩ | (fail))))
  focus (intro xs; (try simp only [Act.put, List.setIfInBounds_toArray, List.set_cons_zero, List.set_cons_succ, Nat.reduceAdd]); rfl)
  refine lin_det (v := ?_) (F' := ?_) (by rfl) (fun _ => by rfl) ?_ ?_ ?_
  rotate_left 2
  focus (intro xs X hX hdep; clear hdep; (try dsimp only); go_simp; (try (first | with_reducible rfl | exact ⟨rfl, rfl⟩ | (fail))))
  focus (intro xs; (try simp only [Act.put, List.setIfInBounds_toArray, List.set_cons_zero, List.set_cons_succ, Nat.reduceAdd]); rfl)
  refine lin_det (v := ?_) (F' := ?_) (by rfl) (fun _ => by rfl) ?_ ?_ ?_
  rotate_left 2
  focus (intro xs X hX hdep; clear hdep; (try dsimp only); go_simp; (try (first | with_reducible rfl | exact ⟨rfl, rfl⟩ | (fail))))
  focus (intro xs; (try simp only [Act.put, List.setIfInBounds_toArray, List.set_cons_zero, List.set_cons_succ, Nat.reduceAdd]); rfl)
  refine lin_det (v := ?_) (F' := ?_) (by rfl) (fun _ => by rfl) ?_ ?_ ?_
  rotate_left 2
  focus (intro xs X hX hdep; clear hdep; (try dsimp only); go_simp; (try (first | with_reducible rfl | exact ⟨rfl, rfl⟩ | (fail))))
  focus (intro xs; (try simp only [Act.put, List.setIfInBounds_toArray, List.set_cons_zero, List.set_cons_succ, Nat.reduceAdd]); rfl)
  refine lin_det (v := ?_) (F' := ?_) (by rfl) (fun _ => by rfl) ?_ ?_ ?_
  rotate_left 2
  focus (intro xs X hX hdep; clear hdep; (try dsimp only); go_simp; (try (first | with_reducible rfl | exact ⟨rfl, rfl⟩ | (fail))))
  focus (intro xs; (try simp only [Act.put, List.setIfInBounds_toArray, List.set_cons_zero, List.set_cons_succ, Nat.reduceAdd]); rfl)
  refine lin_det (v := ?_) (F' := ?_) (by rfl) (fun _ => by rfl) ?_ ?_ ?_
  rotate_left 2
  focus (intro xs X hX hdep; clear hdep; (try dsimp only); go_simp; (try (first | with_reducible rfl | exact ⟨rfl, rfl⟩ | (fail))))
  focus (intro xs; (try simp only [Act.put, List.setIfInBounds_toArray, List.set_cons_zero, List.set_cons_succ, Nat.reduceAdd]); rfl)
  refine lin_det (v := ?_) (F' := ?_) (by rfl) (fun _ => by rfl) ?_ ?_ ?_
  rotate_left 2
  focus (intro xs X hX hdep; clear hdep; (try dsimp only); go_simp; (try (first | with_reducible rfl | exact ⟨rfl, rfl⟩ | (fail))))
  focus (intro xs; (try simp only [Act.put, List.setIfInBounds_toArray, List.set_cons_zero, List.set_cons_succ, Nat.reduceAdd]); rfl)
  refine lin_det (v := ?_) (F' := ?_) (by rfl) (fun _ => by rfl) ?_ ?_ ?_
  rotate_left 2
  focus (intro xs X hX hdep; clear hdep; (try dsimp only); go_simp; (try (first | with_reducible rfl | exact ⟨rfl, rfl⟩ | (fail))))
  focus (intro xs; (try simp only [Act.put, List.setIfInBounds_toArray, List.set_cons_zero, List.set_cons_succ, Nat.reduceAdd]); rfl)
  refine lin_det (v := ?_) (F' := ?_) (by rfl) (fun _ => by rfl) ?_ ?_ ?_
  rotate_left 2
  focus (intro xs X hX hdep; clear hdep; (try dsimp only); go_simp; (try (first | with_reducible rfl | exact ⟨rfl, rfl⟩ | (fail))))
  focus (intro xs; (try simp only [Act.put, List.setIfInBounds_toArray, List.set_cons_zero, List.set_cons_succ, Nat.reduceAdd]); rfl)
  refine lin_det (v := ?_) (F' := ?_) (by rfl) (fun _ => by rfl) ?_ ?_ ?_
  rotate_left 2
  focus (intro xs X hX hdep; clear hdep; (try dsimp only); go_simp; (try (first | with_reducible rfl | exact ⟨rfl, rfl⟩ | (fail))))
  focus (intro xs; (try simp only [Act.put, List.setIfInBounds_toArray, List.set_cons_zero, List.set_cons_succ, Nat.reduceAdd]); rfl)
  refine lin_det (v := ?_) (F' := ?_) (by rfl) (fun _ => by rfl) ?_ ?_ ?_
  rotate_left 2
  focus (intro xs X hX hdep; clear hdep; (try dsimp only); go_simp; (try (first | with_reducible rfl | exact ⟨rfl, rfl⟩ | (fail))))
  focus (intro xs; (try simp only [Act.put, List.setIfInBounds_toArray, List.set_cons_zero, List.set_cons_succ, Nat.reduceAdd]); rfl)
  refine lin_det (v := ?_) (F' := ?_) (by rfl) (fun _ => by rfl) ?_ ?_ ?_
  rotate_left 2
  focus (intro xs X hX hdep; clear hdep; (try dsimp only); go_simp; (try (first | with_reducible rfl | exact ⟨rfl, rfl⟩ | (fail))))
  focus (intro xs; (try simp only [Act.put, List.setIfInBounds_toArray, List.set_cons_zero, List.set_cons_succ, Nat.reduceAdd]); rfl)
  refine lin_det (v := ?_) (F' := ?_) (by rfl) (fun _ => by rfl) ?_ ?_ ?_
  rotate_left 2
  focus (intro xs X hX hdep; clear hdep; (try dsimp only); go_simp; (try (first | with_reducible rfl | exact ⟨rfl, rfl⟩ | (fail))))
  focus (intro xs; (try simp only [Act.put, List.setIfInBounds_toArray, List.set_cons_zero, List.set_cons_succ, Nat.reduceAdd]); rfl)
  refine lin_det (v := ?_) (F' := ?_) (by rfl) (fun _ => by rfl) ?_ ?_ ?_
  rotate_left 2
  focus (intro xs X hX hdep; clear hdep; (try dsimp only); go_simp; (try (first | with_reducible rfl | exact ⟨rfl, rfl⟩ | (fail))))
  focus (intro xs; (try simp only [Act.put, List.setIfInBounds_toArray, List.set_cons_zero, List.set_cons_succ, Nat.reduceAdd]); rfl)
  refine lin_det (v := ?_) (F' := ?_) (by rfl) (fun _ => by rfl) ?_ ?_ ?_
  rotate_left 2
  focus (intro xs X hX hdep; clear hdep; (try dsimp only); go_simp; (try (first | with_reducible rfl | exact ⟨rfl, rfl⟩ | (fail))))
  focus (intro xs; (try simp only [Act.put, List.setIfInBounds_toArray, List.set_cons_zero, List.set_cons_succ, Nat.reduceAdd]); rfl)
  refine lin_det (v := ?_) (F' := ?_) (by rfl) (fun _ => by rfl) ?_ ?_ ?_
  rotate_left 2
  focus (intro xs X hX hdep; clear hdep; (try dsimp only); go_simp; (try (first | with_reducible rfl | exact ⟨rfl, rfl⟩ | (fail))))
  focus (intro xs; (try simp only [Act.put, List.setIfInBounds_toArray, List.set_cons_zero, List.set_cons_succ, Nat.reduceAdd]); rfl)
  refine lin_det (v := ?_) (F' := ?_) (by rfl) (fun _ => by rfl) ?_ ?_ ?_
  rotate_left 2
  focus (intro xs X hX hdep; clear hdep; (try dsimp only); go_simp; (try (first | with_reducible rfl | exact ⟨rfl, rfl⟩ | (fail))))
  focus (intro xs; (try simp only [Act.put, List.setIfInBounds_toArray, List.set_cons_zero, List.set_cons_succ, Nat.reduceAdd]); rfl)
  refine lin_det (v := ?_) (F' := ?_) (by rfl) (fun _ => by rfl) ?_ ?_ ?_
  rotate_left 2
  focus (intro xs X hX hdep; clear hdep; (try dsimp only); go_simp; (try (first | with_reducible rfl | exact ⟨rfl, rfl⟩ | (fail))))
  focus (intro xs; (try simp only [Act.put, List.setIfInBounds_toArray, List.set_cons_zero, List.set_cons_succ, Nat.reduceAdd]); rfl)
  refine lin_det (v := ?_) (F' := ?_) (by rfl) (fun _ => by rfl) ?_ ?_ ?_
  rotate_left 2
  focus (intro xs X hX hdep; clear hdep; (try dsimp only); go_simp; (try (first | with_reducible rfl | exact ⟨rfl, rfl⟩ | (fail))))
  focus (intro xs; (try simp only [Act.put, List.setIfInBounds_toArray, List.set_cons_zero, List.set_cons_succ, Nat.reduceAdd]); rfl)
  refine lin_det (v := ?_) (F' := ?_) (by rfl) (fun _ => by rfl) ?_ ?_ ?_
  rotate_left 2
  focus (intro xs X hX hdep; clear hdep; (try dsimp only); go_simp; (try (first | with_reducible rfl | exact ⟨rfl, rfl⟩ | (fail))))
  focus (intro xs; (try simp only [Act.put, List.setIfInBounds_toArray, List.set_cons_zero, List.set_cons_succ, Nat.reduceAdd]); rfl)
  refine lin_det (v := ?_) (F' := ?_) (by rfl) (fun _ => by rfl) ?_ ?_ ?_
  rotate_left 2
  focus (intro xs X hX hdep; clear hdep; (try dsimp only); go_simp; (try (first | with_reducible rfl | exact ⟨rfl, rfl⟩ | (fail))))
  focus (intro xs; (try simp only [Act.put, List.setIfInBounds_toArray, List.set_cons_zero, List.set_cons_succ, Nat.reduceAdd]); rfl)
  refine lin_det (v := ?_) (F' := ?_) (by rfl) (fun _ => by rfl) ?_ ?_ ?_
  rotate_left 2
  focus (intro xs X hX hdep; clear hdep; (try dsimp only); go_simp; (try (first | with_reducible rfl | exact ⟨rfl, rfl⟩ | (fail))))
  focus (intro xs; (try simp only [Act.put, List.setIfInBounds_toArray, List.set_cons_zero, List.set_cons_succ, Nat.reduceAdd]); rfl)
  refine lin_any (fun v W => IsInts [4] W v) false (fun v W W' h k => IsInts.later k h) (F' := ?_) (by rfl) (fun _ => by rfl) ?_ ?_ ?_
  rotate_left 1
  focus (intro xs X hX hdep; skip; clear hdep; intro K hK; (try dsimp only); go_simp; (exact hK.out _ _ rfl (later_alloc (later_refl _) _) (newInts _ [4] _ rfl) (fun h => by cases h)))
  focus (intro xs; (try simp only [Act.put, List.setIfInBounds_toArray, List.set_cons_zero, List.set_cons_succ, Nat.reduceAdd]); rfl)
  refine lin_det_last (j := 99) (v := ?_) (F' := ?_) (by rfl) (fun _ => by rfl) (by kernel_rfl) (by kernel_rfl) ?_ ?_ ?_
  rotate_left 2
  focus (intro xs X hX hs; obtain ⟨A, k, e, hr⟩ := (show IsInts _ _ _ from hs); (try dsimp only); go_simp; (try (first | with_reducible rfl | exact ⟨rfl, rfl⟩ | (exact ints_true (Hv.out.later hX) hr (by simp)))))
  focus (intro xs; (try simp only [Act.put, List.setIfInBounds_toArray, List.set_cons_zero, List.set_cons_succ, Nat.reduceAdd]); rfl)
  refine lin_det (v := ?_) (F' := ?_) (by rfl) (fun _ => by rfl) ?_ ?_ ?_
  rotate_left 2
  focus (intro xs X hX hdep; clear hdep; (try dsimp only); go_simp; (try (first | with_reducible rfl | exact ⟨rfl, rfl⟩ | (fail))))
  focus (intro xs; (try simp only [Act.put, List.setIfInBounds_toArray, List.set_cons_zero, List.set_cons_succ, Nat.reduceAdd]); rfl)
  refine lin_det (v := ?_) (F' := ?_) (by rfl) (fun _ => by rfl) ?_ ?_ ?_
  rotate_left 2
  focus (intro xs X hX hdep; clear hdep; (try dsimp only); go_simp; (try (first | with_reducible rfl | exact ⟨rfl, rfl⟩ | (fail))))
  focus (intro xs; (try simp only [Act.put, List.setIfInBounds_toArray, List.set_cons_zero, List.set_cons_succ, Nat.reduceAdd]); rfl)
  intro xs W hW hf hfr hfb
  clear hf hfr hfb
  go_wp2_with fail
  go_ret
  exact ⟨rfl, Later.trans HLa.out hW⟩
end Go.Proofs.Ytbkfnajpbhfneaa

/- A law's row, in general: if each call answers true and leaves the memory that was there, the row holds. -/
namespace Go.Proofs.Ytbkfnajpbhfneaa
open Go Go.ChangeShapes Go.WideShapes Go.ChangeAt Go.RowKit

theorem seat_own : ownKnob Try.prog.godebug = none := by kernel_rfl
theorem seat_laid : laidOutB Try.prog = true := by kernel_rfl
section
variable {H : Type} {enc : TypeId × Value → H} {P : Program}
theorem below_trodAll (hl : laidOutB P = true) {W W' : World} (hb : Below W.heap.size W W') : ∀ {ts : List TypeId} {vs : List Value} {ds : List (DataW H)} {ps : List MemPlace},
    (∀ t ∈ ts, P.readableRec t = true ∧ t < P.types.size) → (∀ x ∈ ps, x.block < W.heap.size) → DataW.TrodAll enc P W 0 (fun _ => true) true ts vs ds ps → DataW.TrodAll enc P W' 0 (fun b => decide (b < W.heap.size)) true ts vs ds ps
  | [], vs, ds, ps, _, _, h => by
    obtain ⟨rfl, rfl, rfl⟩ := trodAll_nil h
    exact trodAll_mk0
  | t :: ts, vs, ds, ps, hr, hlt, h => by
    obtain ⟨v, vs', d, ds', p, q, rfl, rfl, rfl, h1, h2⟩ := trodAll_cons h
    have ht := hr t List.mem_cons_self
    exact ⟨p, q, Below.trod hl ht.1 ht.2 h1 hb (fun x hx => hlt x (List.mem_append.2 (.inl hx))),
      below_trodAll hl hb (fun t ht => hr t (List.mem_cons_of_mem _ ht)) (fun x hx => hlt x (List.mem_append.2 (.inr hx))) h2, rfl⟩
theorem trodAll_len {W : World} {base : Nat} {spare : Nat → Bool} {held : Bool} : ∀ {ts : List TypeId} {vs : List Value} {ds : List (DataW H)} {ps : List MemPlace},
    DataW.TrodAll enc P W base spare held ts vs ds ps → ds.length = ts.length
  | [], vs, ds, ps, h => by obtain ⟨rfl, rfl, rfl⟩ := trodAll_nil h; rfl
  | t :: ts, vs, ds, ps, h => by
    obtain ⟨v, vs', d, ds', p, q, rfl, rfl, rfl, h1, h2⟩ := trodAll_cons h
    simp [trodAll_len h2]
end
/-- what a law's call does -/
def Answers (k : Nat) (args : Array Value) (W : World) : Prop := Calls Try.prog k args W fun e W' => e = .returned (.bool true) ∧ Below W.heap.size W W'
set_option maxRecDepth 100000 in
theorem law_lifted {f : Func} {k : Nat} {s : ChangeSpec} (hf : Try.prog.funcs[k]? = some f) (hinit : Try.prog.inits.idxOf? k = none) (hvars : s.vars = [])
    (hres : f.resultTypes = #[4]) (hn : ∀ (H : Type) (ds : List (DataW H)), ds.length = f.params.toList.length → s.fn H ds = { results := [.lit (.bool true)], args := ds })
    (hr : ∀ t ∈ f.params.toList, Try.prog.readableRec t = true ∧ t < Try.prog.types.size)
    (contract : ∀ (H : Type) (enc : TypeId × Value → H) (W : World) (args : Array Value) (ds : List (DataW H)) (p : List MemPlace),
      (∀ (j : Nat) t v, f.params[j]? = some t → args[j]? = some v → ∃ base, Value.okWide Try.prog W .any base t v) →
      DataW.TrodAll enc Try.prog W 0 (fun _ => true) true f.params.toList args.toList ds p → Answers k args W)
    (os : Os) (started : os.Started) (H : Type) (enc : TypeId × Value → H)
    (witness : ∃ (w : World) (tape : Tape) (i : Input), w.os = os ∧ (w.forCall tape i).Shaped Try.prog ∧ i.vars = [] ∧ Input.okWide Try.prog (w.forCall tape i) .any w.heap.size k i ∧
      s.pre6 enc Try.prog f [] false (w.forCall tape i).memory i.args ∧ ({} : Assume).holds Try.prog (lone (Frame.enter Try.prog k i.args .normal) [] (w.forCall tape i))) :
    ReturnsInHanded {} Try.checked os k .any (s.pre6 enc Try.prog f [] false) (s.post enc Try.prog f false true false false) := by
  refine returnsInHanded_of_change (C := Try.checked) seat_own started hinit hf witness ?_
  intro W base args ds gs before hval hW _ _
  have hW' := hW
  rw [hvars] at hW'
  obtain ⟨p, q, hA, hV, rfl, hfz, hnd⟩ := hW'
  have hV2 := trodVars_none hV
  obtain ⟨rfl, rfl⟩ := hV2
  refine (contract H enc W args ds p (fun j t v h1 h2 => ⟨base, hval j t v h1 h2⟩) hA).mono fun e W' ⟨he, hb⟩ => ?_
  subst he
  have hlt : ∀ x ∈ p, x.block < W.heap.size := fun x hx => hW.lt x (by simp [hx])
  have hfn := hn H ds (trodAll_len hA)
  refine ⟨_, rfl, ds, [], _, [], p, [], hW, ?_, ?_, ?_, hb.frame _, fun h => by cases h⟩
  · rw [List.append_nil, hfn, hres]; exact trodAll_mk1 (shut_bool Try.underlying4 true)
  · rw [List.append_nil, hfn]; exact below_trodAll seat_laid hb hr hlt hA
  · rw [List.append_nil, hfn, hvars]; rfl
end Go.Proofs.Ytbkfnajpbhfneaa

/- Closed facts of the seat's program, and how a row's facts are put together. -/
namespace Go.Proofs.Ytbkfnajpbhfneaa
open Go Go.ChangeShapes Go.WideShapes Go.ChangeAt Go.RowKit

theorem seat_1 : (laidOutB Try.prog) = true := by kernel_rfl
theorem seat_2 : (mapsRowed Try.prog) = true := by kernel_rfl
theorem seat_6 : ((Try.prog.stops == [])) = true := by kernel_rfl
theorem seat_8 : ((Try.prog.stopKnobs == [])) = true := by kernel_rfl
theorem seat_22 : ((false == Try.prog.plainKeys)) = true := by kernel_rfl
theorem seat_24 : (Try.prog.stopsHeard) = true := by kernel_rfl
theorem seat_25 : (Try.prog.mayEnter) = true := by kernel_rfl
theorem seat_26 : (Rows.ticketClashesRow.lifted == Try.prog.liftsFinal) = true := by kernel_rfl
theorem seat_27 : (Try.prog.make == some Rows.ticketClashesRow.make) = true := by kernel_rfl
theorem joined_of {P : Program} {f : FuncId} {fn : Func} {s : ChangeSpec} {c : OpenClaim}
    (h0 : (c.wf (OpenSpec.ofChange s)) = true)
    (h1 : (laidOutB P) = true)
    (h2 : (mapsRowed P) = true)
    (h3 : (fn.params.all (P.readableRec ·)) = true)
    (h4 : (namedTie P c.named s.vars) = true)
    (h5 : ((c.stops == [])) = true)
    (h6 : ((P.stops == [])) = true)
    (h7 : ((c.knobs == [])) = true)
    (h8 : ((P.stopKnobs == [])) = true)
    (h9 : ((c.inPlace == P.inPlace f)) = true)
    (h10 : ((c.unfollowed == P.unfollowed f)) = true)
    (h11 : ((c.recurses == P.recurses f)) = true)
    (h12 : ((c.named == P.varsNamed f)) = true)
    (h13 : ((c.maps == (fn.params.toList ++ s.plain.varTypes P).any (P.mapsRec ·))) = true)
    (h14 : ((c.ifaces == (fn.params.toList ++ s.plain.varTypes P).any (P.ifacesRec ·))) = true)
    (h15 : ((c.mapsOut == P.mapsAmong fn.resultTypes.toList)) = true)
    (h16 : ((c.loops == (fn.params.toList ++ s.plain.varTypes P).any (P.loopsFrom ·))) = true)
    (h17 : ((c.wideKeys == (fn.params.toList ++ s.plain.varTypes P ++ fn.resultTypes.toList).any (P.wideKeysFrom ·))) = true)
    (h18 : (s.vars.all (P.varReadable ·)) = true)
    (h19 : (fn.resultTypes.all (fun t => P.readableRec t && decide (t < P.types.size))) = true)
    (h20 : ((c.ifacesOut == fn.resultTypes.toList.any (P.ifacesRec ·))) = true)
    (h21 : ((c.loopsOut == fn.resultTypes.toList.any (P.loopsFrom ·))) = true)
    (h22 : ((c.plainKeys == P.plainKeys)) = true)
    (h23 : (c.shortTexts.isNone) = true)
    (h24 : (P.stopsHeard) = true)
    (h25 : (P.mayEnter) = true)
    (h26 : ((c.lifted == P.liftsFinal)) = true)
    (h27 : ((P.make == some c.make)) = true)
    (h28 : ((c.kinds == (if c.domain.isEmpty then [] else fn.params.toList.map fun t => match P.underlying t with | some (.int k) => some k | _ => none))) = true)
    (h29 : ((c.pinned == c.pinnedBy)) = true)
    (h30 : ((c.veiled == (fn.params.toList ++ s.plain.varTypes P ++ fn.resultTypes.toList).any (P.veiledRec ·))) = true)
    (h31 : (c.veiledFits P fn.params.toList (fn.params.toList ++ s.plain.varTypes P ++ fn.resultTypes.toList)) = true)
    : joinedFacts P f fn s c = true := by
  unfold joinedFacts
  simp only [Bool.and_eq_true]
  exact ⟨⟨⟨⟨⟨⟨⟨⟨⟨⟨⟨⟨⟨⟨⟨⟨⟨⟨⟨⟨⟨⟨⟨⟨⟨⟨⟨⟨⟨⟨⟨h0, h1⟩, h2⟩, h3⟩, h4⟩, h5⟩, h6⟩, h7⟩, h8⟩, h9⟩, h10⟩, h11⟩, h12⟩, h13⟩, h14⟩, h15⟩, h16⟩, h17⟩, h18⟩, h19⟩, h20⟩, h21⟩, h22⟩, h23⟩, h24⟩, h25⟩, h26⟩, h27⟩, h28⟩, h29⟩, h30⟩, h31⟩
end Go.Proofs.Ytbkfnajpbhfneaa

/- The arguments of the laws of chapter 01, opened. -/
namespace Go.Proofs.Ytbkfnajpbhfneaa
open Go Go.RowKit Go.ChangeShapes Go.WideShapes Go.Deep Go.Joins

theorem list_of {α : Type} {P : Nat → α → Prop} : ∀ (n : Nat), (∀ i, i < n → ∃ x, P i x) → ∃ l : List α, l.length = n ∧ ∀ i x, l[i]? = some x → P i x
  | 0, _ => ⟨[], rfl, fun i x h => by simp at h⟩
  | n + 1, h => by
    obtain ⟨l, hl, hP⟩ := list_of n (fun i hi => h i (by omega))
    obtain ⟨x, hx⟩ := h n (by omega)
    refine ⟨l ++ [x], by simp [hl], fun i y hy => ?_⟩
    rcases Nat.lt_or_ge i n with hi | hi
    · rw [List.getElem?_append_left (by omega)] at hy; exact hP i y hy
    · have hin : i = n := by have := (List.getElem?_eq_some_iff.1 hy).1; simp at this; omega
      subst hin
      rw [← hl, List.getElem?_concat_length] at hy
      injection hy with hy; subst hy; exact hx
theorem reads_of {α : Type} {w : World} {a : Addr} {n size : Nat} (f : List α → List Value) (cells : α → List Value) (hs : 0 < size) (hf : ∀ l : List α, (f l).length = l.length * size) (hc : ∀ x, (cells x).length = size)
    (hg : ∀ (l : List α) (k j : Nat) (x : α), l[k]? = some x → j < size → (f l)[k * size + j]? = (cells x)[j]?)
    {l : List α} (hl : l.length = n) (h : ∀ i x, l[i]? = some x → ∀ j, j < size → w.cell? (a.add (i * size + j)) = (cells x)[j]?) : Reads w w.heap.size size (some a) n (f l) := by
  have hall : ∀ (j : Nat) (u : Value), (f l)[j]? = some u → w.cell? (a.add j) = some u := fun j u hu => by
    have hj := (List.getElem?_eq_some_iff.1 hu).1
    rw [hf] at hj
    have hdv : j / size < l.length := (Nat.div_lt_iff_lt_mul hs).2 hj
    have hm : j % size < size := Nat.mod_lt _ hs
    have he : j / size * size + j % size = j := by rw [Nat.mul_comm]; exact Nat.div_add_mod j size
    have h1 := hg l (j / size) (j % size) _ (List.getElem?_eq_getElem hdv) hm
    have h2 := h (j / size) _ (List.getElem?_eq_getElem hdv) (j % size) hm
    rw [he] at h1 h2
    rw [h2, ← h1, hu]
  refine ⟨by rw [hf, hl], fun hn => ⟨a, rfl, ?_, hall⟩⟩
  have hl0 : 0 < (f l).length := by rw [hf, hl]; exact Nat.mul_pos hn hs
  have h0 := hall 0 _ (List.getElem?_eq_getElem hl0)
  have := World.block_lt_of_cell? _ _ h0
  simpa [Addr.add] using this
section
variable {H : Type} {enc : TypeId × Value → H} {w : World}

theorem open_ints_ {v : Value} {fuel : Nat} {x : DataW H × List MemPlace} (h : DataW.trod enc Try.prog w 0 (fun _ => true) true fuel 47 [v] = some x) :
    ∃ A n k l, v = .slice A n k ∧ RI w A n l ∧ n ≤ maxLen := by
  rcases open_ints Try.underlying47 Try.underlying3 (by kernel_rfl) h with ⟨hc, _⟩ | ⟨a, len, cap, zs, hc, _, hl, hm, hz, _, hcell, _⟩
  · injection hc with hc
    exact ⟨none, 0, 0, [], hc, RI.nil, by simp [maxLen]⟩
  · injection hc with hc
    simp only [if_true] at hz
    refine ⟨some a, len, cap, zs.take len, hc, ⟨by simp [ints]; omega, fun hn => ⟨a, rfl, ?_, fun j u hu => ?_⟩⟩, Nat.le_trans hl hm⟩
    · have := World.block_lt_of_cell? _ _ (hcell 0 (by omega))
      simpa [Addr.add] using this
    · have hj := (List.getElem?_eq_some_iff.1 hu).1
      simp [ints] at hj
      rw [hcell j (by omega)]
      simp only [ints, List.getElem?_map, List.getElem?_take] at hu
      rw [if_pos (by omega), List.getElem?_eq_getElem (by omega)] at hu
      simp only [Option.map_some] at hu
      rw [← hu, List.getD_eq_getElem?_getD, List.getElem?_eq_getElem (by omega)]
      rfl
theorem cells_range : (Try.prog).cellsOf 44 = 2 := by kernel_rfl
theorem cells_ticket : (Try.prog).cellsOf 80 = 2 := by kernel_rfl
theorem cells_clip : (Try.prog).cellsOf 74 = 3 := by kernel_rfl
theorem cells_int : (Try.prog).cellsOf 3 = 1 := by kernel_rfl
set_option maxRecDepth 100000 in
theorem range_cells {cs : List Value} {n : Nat} {x : DataW H × List MemPlace} (h : DataW.trod enc Try.prog w 0 (fun _ => true) true n 44 cs = some x) : ∃ r : Int × Int, cs = pairC r := by
  obtain ⟨xs, m, _, _, hlen, hxl, hf⟩ := DataW.trod_struct Try.underlying44 h
  rw [cells_range] at hlen
  match cs, hlen with
  | [c0, c1], _ =>
    match xs, hxl with
    | [y0, y1], _ =>
      have f0 := hf 0 _ rfl
      have f1 := hf 1 _ rfl
      simp [cells_int] at f0 f1
      obtain ⟨a, ha, _⟩ := DataW.trod_int Try.underlying3 f0
      obtain ⟨b, hb, _⟩ := DataW.trod_int Try.underlying3 f1
      injection ha with ha; injection hb with hb
      exact ⟨⟨a, b⟩, by simp [pairC, ha, hb]⟩
set_option maxRecDepth 100000 in
theorem ticket_cells {cs : List Value} {n : Nat} {x : DataW H × List MemPlace} (h : DataW.trod enc Try.prog w 0 (fun _ => true) true n 80 cs = some x) : ∃ r : Int × Int, cs = pairC r := by
  obtain ⟨xs, m, _, _, hlen, hxl, hf⟩ := DataW.trod_struct Try.underlying80 h
  rw [cells_ticket] at hlen
  match cs, hlen with
  | [c0, c1], _ =>
    match xs, hxl with
    | [y0, y1], _ =>
      have f0 := hf 0 _ rfl
      have f1 := hf 1 _ rfl
      simp [cells_int] at f0 f1
      obtain ⟨a, ha, _⟩ := DataW.trod_int Try.underlying3 f0
      obtain ⟨b, hb, _⟩ := DataW.trod_int Try.underlying3 f1
      injection ha with ha; injection hb with hb
      exact ⟨⟨a, b⟩, by simp [pairC, ha, hb]⟩
set_option maxRecDepth 100000 in
theorem clip_cells {cs : List Value} {n : Nat} {x : DataW H × List MemPlace} (h : DataW.trod enc Try.prog w 0 (fun _ => true) true n 74 cs = some x) : ∃ r : Cp, cs = r.cells := by
  obtain ⟨xs, m, _, _, hlen, hxl, hf⟩ := DataW.trod_struct Try.underlying74 h
  rw [cells_clip] at hlen
  match cs, hlen with
  | [c0, c1, c2], _ =>
    match xs, hxl with
    | [y0, y1, y2], _ =>
      have f0 := hf 0 _ rfl
      have f1 := hf 1 _ rfl
      have f2 := hf 2 _ rfl
      simp [cells_int] at f0 f1 f2
      obtain ⟨a, ha, _⟩ := DataW.trod_int Try.underlying3 f0
      obtain ⟨b, hb, _⟩ := DataW.trod_int Try.underlying3 f1
      obtain ⟨d, hd, _⟩ := DataW.trod_int Try.underlying3 f2
      injection ha with ha; injection hb with hb; injection hd with hd
      exact ⟨⟨a, b, d⟩, by simp [Cp.cells, ha, hb, hd]⟩
set_option maxRecDepth 100000 in
theorem open_ranges_ {v : Value} {fuel : Nat} {x : DataW H × List MemPlace} (h : DataW.trod enc Try.prog w 0 (fun _ => true) true fuel 22 [v] = some x) :
    ∃ A n k l, v = .slice A n k ∧ RP w A n l ∧ n ≤ maxLen := by
  rcases open_slice Try.underlying22 h with ⟨hc, _⟩ | ⟨a, len, cap, m, n, D, Pl, hc, _, hl, hm, hmm, _, hi⟩
  · injection hc with hc
    exact ⟨none, 0, 0, [], hc, ⟨rfl, fun h => absurd h (by omega)⟩, by simp [maxLen]⟩
  · injection hc with hc
    simp only [if_true] at hmm
    rw [cells_range] at hi
    obtain ⟨l, hl1, hl2⟩ := list_of (P := fun i (r : Int × Int) => ∀ j, j < 2 → w.cell? (a.add (i * 2 + j)) = (pairC r)[j]?) len (fun i hi' => by
      obtain ⟨cs', hcs, ht⟩ := hi i (by omega)
      obtain ⟨r, rfl⟩ := range_cells ht
      obtain ⟨_, _, hat⟩ := World.cells?_some hcs
      exact ⟨r, fun j hj => by rw [← Go.Deep.add_add]; exact hat j hj⟩)
    exact ⟨some a, len, cap, l, hc, reads_of pairsV pairC (by omega) pairsV_length (fun x => rfl) (fun l k j x h hj => pairsV_get l k j x h hj) hl1 hl2, Nat.le_trans hl hm⟩
set_option maxRecDepth 100000 in
theorem open_tickets_ {v : Value} {fuel : Nat} {x : DataW H × List MemPlace} (h : DataW.trod enc Try.prog w 0 (fun _ => true) true fuel 23 [v] = some x) :
    ∃ A n k l, v = .slice A n k ∧ RP w A n l ∧ n ≤ maxLen := by
  rcases open_slice Try.underlying23 h with ⟨hc, _⟩ | ⟨a, len, cap, m, n, D, Pl, hc, _, hl, hm, hmm, _, hi⟩
  · injection hc with hc
    exact ⟨none, 0, 0, [], hc, ⟨rfl, fun h => absurd h (by omega)⟩, by simp [maxLen]⟩
  · injection hc with hc
    simp only [if_true] at hmm
    rw [cells_ticket] at hi
    obtain ⟨l, hl1, hl2⟩ := list_of (P := fun i (r : Int × Int) => ∀ j, j < 2 → w.cell? (a.add (i * 2 + j)) = (pairC r)[j]?) len (fun i hi' => by
      obtain ⟨cs', hcs, ht⟩ := hi i (by omega)
      obtain ⟨r, rfl⟩ := ticket_cells ht
      obtain ⟨_, _, hat⟩ := World.cells?_some hcs
      exact ⟨r, fun j hj => by rw [← Go.Deep.add_add]; exact hat j hj⟩)
    exact ⟨some a, len, cap, l, hc, reads_of pairsV pairC (by omega) pairsV_length (fun x => rfl) (fun l k j x h hj => pairsV_get l k j x h hj) hl1 hl2, Nat.le_trans hl hm⟩
set_option maxRecDepth 100000 in
theorem open_clips_ {v : Value} {fuel : Nat} {x : DataW H × List MemPlace} (h : DataW.trod enc Try.prog w 0 (fun _ => true) true fuel 24 [v] = some x) :
    ∃ A n k l, v = .slice A n k ∧ RC w A n l ∧ n ≤ maxLen := by
  rcases open_slice Try.underlying24 h with ⟨hc, _⟩ | ⟨a, len, cap, m, n, D, Pl, hc, _, hl, hm, hmm, _, hi⟩
  · injection hc with hc
    exact ⟨none, 0, 0, [], hc, ⟨rfl, fun h => absurd h (by omega)⟩, by simp [maxLen]⟩
  · injection hc with hc
    simp only [if_true] at hmm
    rw [cells_clip] at hi
    obtain ⟨l, hl1, hl2⟩ := list_of (P := fun i (r : Cp) => ∀ j, j < 3 → w.cell? (a.add (i * 3 + j)) = (Cp.cells r)[j]?) len (fun i hi' => by
      obtain ⟨cs', hcs, ht⟩ := hi i (by omega)
      obtain ⟨r, rfl⟩ := clip_cells ht
      obtain ⟨_, _, hat⟩ := World.cells?_some hcs
      exact ⟨r, fun j hj => by rw [← Go.Deep.add_add]; exact hat j hj⟩)
    exact ⟨some a, len, cap, l, hc, reads_of clipsV Cp.cells (by omega) clipsV_length (fun x => rfl) (fun l k j x h hj => clipsV_get l k j x h hj) hl1 hl2, Nat.le_trans hl hm⟩
theorem cells_house : (Try.prog).cellsOf 26 = 5 := by kernel_rfl
theorem cells_ranges : (Try.prog).cellsOf 22 = 1 := by kernel_rfl
theorem cells_tickets : (Try.prog).cellsOf 23 = 1 := by kernel_rfl
theorem cells_clips : (Try.prog).cellsOf 24 = 1 := by kernel_rfl
set_option maxRecDepth 100000 in
theorem open_house_ {r : Reach} {b0 : Nat} {v : Value} {d : DataW H} {p : List MemPlace} (hv : Value.okWide Try.prog w r b0 26 v) (h : DataW.Trod enc Try.prog w 0 (fun _ => true) true 26 v d p) :
    ∃ (c : Hou) (A1 : Option Addr) (n1 k1 : Nat) (A2 : Option Addr) (n2 k2 : Nat) (A3 : Option Addr) (n3 k3 : Nat), v = (.agg #[.int .i64 c.hour, .int .i64 c.grace, .slice A1 n1 k1, .slice A2 n2 k2, .slice A3 n3 k3]) ∧ CV w c A1 n1 A2 n2 A3 n3 ∧ n1 ≤ maxLen ∧ n2 ≤ maxLen ∧ n3 ≤ maxLen := by
  obtain ⟨cs, rfl, hsz⟩ := okWide_struct Try.underlying26 hv
  rw [cells_house] at hsz
  obtain ⟨fuel, hf0⟩ := h
  obtain ⟨cs⟩ := cs
  match cs, hsz with
  | [c0, c1, c2, c3, c4], _ =>
    obtain ⟨xs, m, _, _, _, hxl, hf⟩ := DataW.trod_struct Try.underlying26 hf0
    match xs, hxl with
    | [y0, y1, y2, y3, y4], _ =>
      have f0 := hf 0 _ rfl
      have f1 := hf 1 _ rfl
      have f2 := hf 2 _ rfl
      have f3 := hf 3 _ rfl
      have f4 := hf 4 _ rfl
      simp [Value.cells, cells_int, cells_ranges, cells_tickets, cells_clips] at f0 f1 f2 f3 f4
      obtain ⟨a, ha, _, wa⟩ := DataW.trod_int Try.underlying3 f0
      obtain ⟨b, hb, _, _⟩ := DataW.trod_int Try.underlying3 f1
      obtain ⟨A1, n1, k1, l1, rfl, h1, m1⟩ := open_ranges_ f2
      obtain ⟨A2, n2, k2, l2, rfl, h2, m2⟩ := open_tickets_ f3
      obtain ⟨A3, n3, k3, l3, rfl, h3, m3⟩ := open_clips_ f4
      injection ha with ha; injection hb with hb
      subst ha hb
      exact ⟨⟨a, b, l1, l2, l3⟩, A1, n1, k1, A2, n2, k2, A3, n3, k3, rfl, ⟨h1, h2, h3⟩, m1, m2, m3⟩
end
end Go.Proofs.Ytbkfnajpbhfneaa

/- More arguments, opened: lists, numbers, words. -/
namespace Go.Proofs.Ytbkfnajpbhfneaa
open Go Go.RowKit Go.ChangeShapes Go.WideShapes Go.Deep Go.Joins

set_option maxRecDepth 100000
section
variable {H : Type} {enc : TypeId × Value → H} {w : World}
theorem open_list_ {r : Reach} {b0 : Nat} {v : Value} {d : DataW H} {p : List MemPlace} (hv : Value.okWide Try.prog w r b0 47 v) (h : DataW.Trod enc Try.prog w 0 (fun _ => true) true 47 v d p) :
    ∃ A n k l, v = .slice A n k ∧ RI w A n l ∧ n ≤ maxLen := by
  obtain ⟨A, n, k, rfl⟩ := okWide_slice Try.underlying47 hv
  obtain ⟨f, hf⟩ := h
  exact open_ints_ hf
theorem wf_lo {k : IntKind} {n : Int} (h : (Lit.int k n).wf = true) : k.min ≤ n ∧ n ≤ k.max := by
  simp [Lit.wf] at h; omega
theorem open_int_ {r : Reach} {b0 : Nat} {v : Value} {d : DataW H} {p : List MemPlace} (hv : Value.okWide Try.prog w r b0 3 v) (h : DataW.Trod enc Try.prog w 0 (fun _ => true) true 3 v d p) :
    ∃ n, v = .int .i64 n ∧ i64 n := by
  obtain ⟨n, rfl⟩ := okWide_int Try.underlying3 hv
  obtain ⟨f, hf⟩ := h
  obtain ⟨m, hm, _, hw⟩ := DataW.trod_int Try.underlying3 hf
  simp [Value.cells] at hm
  subst hm
  exact ⟨n, rfl, bounds_i64 hw⟩
theorem open_u16_ {r : Reach} {b0 : Nat} {v : Value} {d : DataW H} {p : List MemPlace} (hv : Value.okWide Try.prog w r b0 84 v) (h : DataW.Trod enc Try.prog w 0 (fun _ => true) true 84 v d p) :
    ∃ n : Nat, v = .int .u16 (n : Int) ∧ n < 65536 := by
  obtain ⟨n, rfl⟩ := okWide_int Try.underlying84 hv
  obtain ⟨f, hf⟩ := h
  obtain ⟨m, hm, _, hw⟩ := DataW.trod_int Try.underlying84 hf
  simp [Value.cells] at hm
  subst hm
  have hw2 := wf_lo hw
  simp [IntKind.min, IntKind.max, IntKind.bits, IntKind.signed] at hw2
  exact ⟨n.toNat, by rw [Int.toNat_of_nonneg hw2.1], by omega⟩
theorem open_u8_ {r : Reach} {b0 : Nat} {v : Value} {d : DataW H} {p : List MemPlace} (hv : Value.okWide Try.prog w r b0 5 v) (h : DataW.Trod enc Try.prog w 0 (fun _ => true) true 5 v d p) :
    ∃ n : Nat, v = .int .u8 (n : Int) ∧ n < 256 := by
  obtain ⟨n, rfl⟩ := okWide_int Try.underlying5 hv
  obtain ⟨f, hf⟩ := h
  obtain ⟨m, hm, _, hw⟩ := DataW.trod_int Try.underlying5 hf
  simp [Value.cells] at hm
  subst hm
  have hw2 := wf_lo hw
  simp [IntKind.min, IntKind.max, IntKind.bits, IntKind.signed] at hw2
  exact ⟨n.toNat, by rw [Int.toNat_of_nonneg hw2.1], by omega⟩
set_option maxRecDepth 100000 in
theorem open_clip_ {r : Reach} {b0 : Nat} {v : Value} {d : DataW H} {p : List MemPlace} (hv : Value.okWide Try.prog w r b0 74 v) (h : DataW.Trod enc Try.prog w 0 (fun _ => true) true 74 v d p) :
    ∃ x : Cp, v = .agg #[.int .i64 x.ticket, .int .i64 x.clock, .int .i64 x.minute] := by
  obtain ⟨cs, rfl, hsz⟩ := okWide_struct Try.underlying74 hv
  obtain ⟨f, hf⟩ := h
  obtain ⟨x, hx⟩ := clip_cells (cs := (Value.agg cs).cells.toList) hf
  refine ⟨x, ?_⟩
  obtain ⟨cs⟩ := cs
  simp [Value.cells, Cp.cells] at hx
  rw [hx]
end
end Go.Proofs.Ytbkfnajpbhfneaa
