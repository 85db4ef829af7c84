/- Part 9 of the proof: joined from the texts VoE, VpA, VpB, VpC, VpD, VpE, VpF. -/
import Derived.Test.YtnlbgaippnjmiaaPart8
import Derived.Test.YtnlbgaippnjmiaaPart4
import Derived.WalkMore
set_option linter.unusedSimpArgs false
set_option linter.unusedVariables false
/- The law's Monday of the program's: walk. -/
namespace Go.Proofs.Ytnlbgaippnjmiaa
open Go Go.RowKit
attribute [local go_sem] later_alloc2 later_alloc3 later_alloc4
theorem to10_calls (lo hi : Int) (w : World) : Calls Try.prog 25 #[.agg #[.int .i64 lo, .int .i64 hi]] w fun e w' => e = .returned (.agg #[.int .i64 lo, .int .i64 hi]) ∧ Later w w' := by
  go_enter Try.func25, Try.ntmps25
  go_wp2_with fail
  refine bodyPost_ret (v := .agg #[.int .i64 lo, .int .i64 hi]) ?_ rfl ⟨rfl, ?_⟩
  · simp [results, Try.results25, go_sem]
  · (((repeat (first | exact (later_refl _) | refine later_drew ?_ | refine later_alloc ?_ _ | refine later_set ?_ _ (Nat.le_add_right _ _) _ | refine later_set ?_ _ (Nat.le_refl _) _)); done))
theorem mwoman_info : (Try.prog.info? 70).map (fun i => (i.zero, i.size, i.bytes)) = some (some (.agg #[.int .i64 0, .int .i64 0, .int .i64 0, .int .i64 0, .int .i64 0, .int .i64 0]), 6, 48) := by kernel_rfl
theorem womV_take {l : List Horse} {t : Nat} {x : Horse} (h : l[t]? = some x) : womV (l.take (t + 1)) = womV (l.take t) ++ [.int .i64 0, .int .i64 0, .int .i64 x.lo, .int .i64 x.hi, .int .i64 x.wet, .int .i64 x.grace] := by
  rw [List.take_add_one, h]; simp [womV, womC]
theorem lin_end_last {P : Program} {ops : Array Oper} {Q : Exit → Act → World → Prop} {R : World → World → Prop} {w0 : World} {es : List Nat} {tail : List Oper} {k j : Nat} {S : List Slot} {s : Slot} {F : (Nat → Value) → Act}
    (h : ∀ xs W, R w0 W → s.fact (xs j) W → wpList P ops Q tail (F xs) W) (hj : S.length = j) : Lin P ops Q R w0 es tail [] k (S ++ [s]) F := fun xs W hW hf _ _ => h xs W hW (fact_last hj (hf j))
theorem build_rng (a b : Int) (W : World) : (Instr.build 57 #[(0, .int .i64 a), (1, .int .i64 b)]).run Try.prog W = .ok (.agg #[.int .i64 a, .int .i64 b]) W :=
  run_build W _ _ _ (by kernel_rfl)
theorem build_hrs (a b c d : Int) (W : World) : (Instr.build 66 #[(0, .agg #[.int .i64 a, .int .i64 b]), (1, .int .i64 c), (2, .int .i64 d)]).run Try.prog W = .ok (.agg #[.int .i64 a, .int .i64 b, .int .i64 c, .int .i64 d]) W :=
  run_build W _ _ _ (by kernel_rfl)
theorem build_wom (a b c d e f : Int) (W : World) : (Instr.build 70 #[(0, .agg #[.int .i64 a, .int .i64 b]), (1, .agg #[.int .i64 c, .int .i64 d, .int .i64 e, .int .i64 f])]).run Try.prog W = .ok (.agg #[.int .i64 a, .int .i64 b, .int .i64 c, .int .i64 d, .int .i64 e, .int .i64 f]) W :=
  run_build W _ _ _ (by kernel_rfl)
attribute [local go_sem] build_rng build_hrs build_wom
def MonPost (k close : Int) (nw : Nat) (hs : List Horse) (w : World) (e : Ending) (w' : World) : Prop :=
  ∃ A ka, e = .returned (.agg #[.int .i64 k, .int .i64 close, .slice A nw ka]) ∧ Later w w' ∧ RM w' A nw hs
set_option maxRecDepth 100000 in
set_option maxHeartbeats 4000000 in
theorem Monday_calls {k close : Int} {Aw : Option Addr} {nw kw : Nat} {hs : List Horse} (w : World) (hm : RM w Aw nw hs) (hn4 : nw ≤ 4) :
    Calls Try.prog 10 #[(.agg #[.int .i64 k, .int .i64 close, .slice Aw nw kw])] w (MonPost k close nw hs w) := by
  obtain ⟨w0, hw0⟩ : ∃ X, X = w.alloc (.cells #[.int .i64 k, .int .i64 close, .slice Aw nw kw] 32) := ⟨_, rfl⟩
  have hs0 : w0.heap.size = w.heap.size + 1 := by rw [hw0]; simp
  have k0 : Blk w0 w.heap.size 32 #[.int .i64 k, .int .i64 close, .slice Aw nw kw] := by rw [hw0]; exact Blk.new _ _ _
  have hL0 : Later w w0 := by rw [hw0]; exact later_alloc (later_refl _) _
  obtain ⟨w1, hw1⟩ : ∃ X, X = w0.alloc (.cells #[.int .i64 0, .int .i64 0, .slice none 0 0] 51) := ⟨_, rfl⟩
  obtain ⟨gr, hgr⟩ : ∃ g, g = w.heap.size + 1 := ⟨_, rfl⟩
  have r1 : Blk w1 gr 51 #[.int .i64 0, .int .i64 0, .slice none 0 0] := by rw [hgr, ← hs0, hw1]; exact Blk.new _ _ _
  have hL1 : Later w0 w1 := by rw [hw1]; exact later_alloc (later_refl _) _
  have hs1 : w1.heap.size = w.heap.size + 2 := by rw [hw1]; simp [hs0]
  obtain ⟨w2, hw2⟩ : ∃ X, X = w1.alloc (.cells #[.int .i64 k, .int .i64 close, .slice none 0 0] 51) := ⟨_, rfl⟩
  obtain ⟨g3, hg3⟩ : ∃ g, g = w1.heap.size := ⟨_, rfl⟩
  have m2 : Blk w2 g3 51 #[.int .i64 k, .int .i64 close, .slice none 0 0] := by rw [hg3, hw2]; exact Blk.new _ _ _
  have hL2 : Later w1 w2 := by rw [hw2]; exact later_alloc (later_refl _) _
  have hs2 : w2.heap.size = w.heap.size + 3 := by rw [hw2]; simp [hs1]
  have hLa := Later.trans hL0 hL1
  have hLb := Later.trans hL1 hL2
  have b0 := fun X (hX : Later w0 X) => ((k0.later hX).cell 0).trans (show _ = some (Value.int .i64 k) from rfl)
  have b1 := fun X (hX : Later w0 X) => ((k0.later hX).cell 1).trans (show _ = some (Value.int .i64 close) from rfl)
  have b2 := fun X (hX : Later w0 X) => ((k0.later hX).cell 2).trans (show _ = some (Value.slice Aw nw kw) from rfl)
  have hm1 := hm.later hLa
  have c0 := b0 w1 hL1
  have c1 := b1 w1 hL1
  have Hw0 := hide hw0
  have Hw1 := hide hw1
  have Hw2 := hide hw2
  have Hgr := hide hgr
  have Hg3 := hide hg3
  have M2 := hide m2
  have R1 := hide r1
  have hlo : w1.heap.size ≤ g3 := by omega
  have hg32 : g3 < w2.heap.size := by omega
  have hgr3 : gr ≠ g3 := by omega
  have hgrl : w.heap.size ≤ gr := by omega
  have hgr1 : gr < w1.heap.size := by omega
  clear hw0 hw1 hw2 hgr hg3 m2 r1 k0 hs0 hs1 hs2 hm
  go_enter Try.func10, Try.ntmps10
  go_upto_region 1 with fail
  rw [← Hw0.out, ← Hw1.out, ← Hgr.out]
  go_upto_region 2 with fail
  rw [← Hw2.out, ← Hg3.out]
  clear Hw0 Hw1 Hw2 Hgr Hg3 c0 c1
  go_wp2_with fail
  go_loopw [4] (fun i wr => ∃ (t : Nat) (Av : Option Addr) (kv : Nat), t ≤ nw ∧ i = .int .i64 t ∧ Later w1 wr ∧ Kept g3 w2 wr ∧ Hid (Blk wr g3 51 #[.int .i64 k, .int .i64 close, .slice Av t kv]) ∧ Hid (wr.ownsRow w2.heap.size 70 6 (.slice Av t kv) t (womV (hs.take t)))) (fun i _ => nw - (intOf i).toNat)
  case atStart => exact ⟨0, none, 0, Nat.zero_le _, rfl, hL2, Kept.refl _ _, M2, ⟨by simp [womV], .inl ⟨rfl, rfl⟩⟩⟩
  case round =>
    obtain ⟨t, Av, kv, ht, rfl, hL, hK, Hbk, Hown⟩ := hrel
    have hc8 := fun W (h : Later wr W) => b2 W (Later.trans hL1 (Later.trans hL h))
    have hc8a := hc8 wr (later_refl _)
    by_cases hlt : t < nw
    · obtain ⟨b, o, x, rfl, hbl, hx, h0, h1, h2, h3, h4, h5⟩ := hm1.get hlt
      have hi1 : (t : Int) < nw := by omega
      have Hv := hide (womV_take hx)
      have hc2 : ∀ X, Later wr X → X.cell? ⟨g3, 2, none⟩ = some (.slice Av t kv) := fun X hX => Hbk.out.cells_later X hX 2
      have x0 := fun W (hW : Later wr W) => h0 W (Later.trans hL hW)
      have x1 := fun W (hW : Later wr W) => h1 W (Later.trans hL hW)
      have x2 := fun W (hW : Later wr W) => h2 W (Later.trans hL hW)
      have x3 := fun W (hW : Later wr W) => h3 W (Later.trans hL hW)
      have x4 := fun W (hW : Later wr W) => h4 W (Later.trans hL hW)
      have x5 := fun W (hW : Later wr W) => h5 W (Later.trans hL hW)
      have y2 := x2 wr (later_refl _)
      have y3 := x3 wr (later_refl _)
      have y4 := x4 wr (later_refl _)
      have y5 := x5 wr (later_refl _)
      clear hx h0 h1 h2 h3 h4 h5
      obtain ⟨w4, hw4⟩ : ∃ X, X = wr.alloc (.cells #[.int .i64 x.lo, .int .i64 x.hi, .int .i64 x.wet, .int .i64 x.grace] 36) := ⟨_, rfl⟩
      obtain ⟨gh, hgh⟩ : ∃ g, g = wr.heap.size := ⟨_, rfl⟩
      have kh : Blk w4 gh 36 #[.int .i64 x.lo, .int .i64 x.hi, .int .i64 x.wet, .int .i64 x.grace] := by rw [hw4, hgh]; exact Blk.new _ _ _
      have hL4 : Later wr w4 := by rw [hw4]; exact later_alloc (later_refl _) _
      have Hw4 := hide hw4
      have Hgh := hide hgh
      clear hw4 hgh
      go_upto_region 6 with fail
      rw [← Hw4.out, ← Hgh.out]
      clear Hw4 Hgh y2 y3 y4 y5 hc8a
      have z0 := fun X (hX : Later w4 X) => ((kh.later hX).cell 0).trans (show _ = some (Value.int .i64 x.lo) from rfl)
      have z1 := fun X (hX : Later w4 X) => ((kh.later hX).cell 1).trans (show _ = some (Value.int .i64 x.hi) from rfl)
      have z2 := fun X (hX : Later w4 X) => ((kh.later hX).cell 2).trans (show _ = some (Value.int .i64 x.wet) from rfl)
      have z3 := fun X (hX : Later w4 X) => ((kh.later hX).cell 3).trans (show _ = some (Value.int .i64 x.grace) from rfl)
      have u2 := fun X (hX : Later w4 X) => hc2 X (Later.trans hL4 hX)
      have u8 := fun X (hX : Later w4 X) => hc8 X (Later.trans hL4 hX)
      have u0 := fun X (hX : Later w4 X) => x0 X (Later.trans hL4 hX)
      have u1 := fun X (hX : Later w4 X) => x1 X (Later.trans hL4 hX)
      have hS : Later w4 w4.drew := later_drew (later_refl _)
      have Hk := hide kh
      clear kh hc2 hc8 x0 x1 x2 x3 x4 x5
      refine wp_region_lin (w0 := w4) 23 [] rely_later (by kernel_rfl) (by kernel_rfl) (by kernel_rfl) (by kernel_rfl) (hS) (.inl rfl) ?_
      simp only [List.take_succ_cons, List.take_zero, List.drop_succ_cons, List.drop_zero]
      refine lin_det (v := ?_) (F' := ?_) (by rfl) (fun _ => by rfl) ?_ ?_ ?_
      rotate_left 2
      focus (intro xs X hX hdep; clear hdep; (try dsimp only); go_simp; (try (first | with_reducible rfl | exact ⟨rfl, rfl⟩ | (fail))))
      focus (intro xs; (try simp only [Act.put, List.setIfInBounds_toArray, List.set_cons_zero, List.set_cons_succ, Nat.reduceAdd]); rfl)
      refine lin_det (v := ?_) (F' := ?_) (by rfl) (fun _ => by rfl) ?_ ?_ ?_
      rotate_left 2
      focus (intro xs X hX hdep; clear hdep; (try dsimp only); go_simp; (try (first | with_reducible rfl | exact ⟨rfl, rfl⟩ | (fail))))
      focus (intro xs; (try simp only [Act.put, List.setIfInBounds_toArray, List.set_cons_zero, List.set_cons_succ, Nat.reduceAdd]); rfl)
      refine lin_det (v := ?_) (F' := ?_) (by rfl) (fun _ => by rfl) ?_ ?_ ?_
      rotate_left 2
      focus (intro xs X hX hdep; clear hdep; (try dsimp only); go_simp; (try (first | with_reducible rfl | exact ⟨rfl, rfl⟩ | (fail))))
      focus (intro xs; (try simp only [Act.put, List.setIfInBounds_toArray, List.set_cons_zero, List.set_cons_succ, Nat.reduceAdd]); rfl)
      refine lin_det (v := ?_) (F' := ?_) (by rfl) (fun _ => by rfl) ?_ ?_ ?_
      rotate_left 2
      focus (intro xs X hX hdep; clear hdep; (try dsimp only); go_simp; (try (first | with_reducible rfl | exact ⟨rfl, rfl⟩ | (fail))))
      focus (intro xs; (try simp only [Act.put, List.setIfInBounds_toArray, List.set_cons_zero, List.set_cons_succ, Nat.reduceAdd]); rfl)
      refine lin_det (v := ?_) (F' := ?_) (by rfl) (fun _ => by rfl) ?_ ?_ ?_
      rotate_left 2
      focus (intro xs X hX hdep; clear hdep; (try dsimp only); go_simp; (try (first | with_reducible rfl | exact ⟨rfl, rfl⟩ | (fail))))
      focus (intro xs; (try simp only [Act.put, List.setIfInBounds_toArray, List.set_cons_zero, List.set_cons_succ, Nat.reduceAdd]); rfl)
      refine lin_det (v := ?_) (F' := ?_) (by rfl) (fun _ => by rfl) ?_ ?_ ?_
      rotate_left 2
      focus (intro xs X hX hdep; clear hdep; (try dsimp only); go_simp; (try (first | with_reducible rfl | exact ⟨rfl, rfl⟩ | (fail))))
      focus (intro xs; (try simp only [Act.put, List.setIfInBounds_toArray, List.set_cons_zero, List.set_cons_succ, Nat.reduceAdd]); rfl)
      refine lin_det (v := ?_) (F' := ?_) (by rfl) (fun _ => by rfl) ?_ ?_ ?_
      rotate_left 2
      focus (intro xs X hX hdep; clear hdep; (try dsimp only); go_simp; (try (first | with_reducible rfl | exact ⟨rfl, rfl⟩ | (fail))))
      focus (intro xs; (try simp only [Act.put, List.setIfInBounds_toArray, List.set_cons_zero, List.set_cons_succ, Nat.reduceAdd]); rfl)
      refine lin_det (v := ?_) (F' := ?_) (by rfl) (fun _ => by rfl) ?_ ?_ ?_
      rotate_left 2
      focus (intro xs X hX hdep; clear hdep; (try dsimp only); go_simp; (try (first | with_reducible rfl | exact ⟨rfl, rfl⟩ | (fail))))
      focus (intro xs; (try simp only [Act.put, List.setIfInBounds_toArray, List.set_cons_zero, List.set_cons_succ, Nat.reduceAdd]); rfl)
      refine lin_det (v := ?_) (F' := ?_) (by rfl) (fun _ => by rfl) ?_ ?_ ?_
      rotate_left 2
      focus (intro xs X hX hdep; clear hdep; (try dsimp only); go_simp; (try (first | with_reducible rfl | exact ⟨rfl, rfl⟩ | (exact to10_calls _ _ X))))
      focus (intro xs; (try simp only [Act.put, List.setIfInBounds_toArray, List.set_cons_zero, List.set_cons_succ, Nat.reduceAdd]); rfl)
      refine lin_det (v := ?_) (F' := ?_) (by rfl) (fun _ => by rfl) ?_ ?_ ?_
      rotate_left 2
      focus (intro xs X hX hdep; clear hdep; (try dsimp only); go_simp; (try (first | with_reducible rfl | exact ⟨rfl, rfl⟩ | (fail))))
      focus (intro xs; (try simp only [Act.put, List.setIfInBounds_toArray, List.set_cons_zero, List.set_cons_succ, Nat.reduceAdd]); rfl)
      refine lin_det (v := ?_) (F' := ?_) (by rfl) (fun _ => by rfl) ?_ ?_ ?_
      rotate_left 2
      focus (intro xs X hX hdep; clear hdep; (try dsimp only); go_simp; (try (first | with_reducible rfl | exact ⟨rfl, rfl⟩ | (fail))))
      focus (intro xs; (try simp only [Act.put, List.setIfInBounds_toArray, List.set_cons_zero, List.set_cons_succ, Nat.reduceAdd]); rfl)
      refine lin_det (v := ?_) (F' := ?_) (by rfl) (fun _ => by rfl) ?_ ?_ ?_
      rotate_left 2
      focus (intro xs X hX hdep; clear hdep; (try dsimp only); go_simp; (try (first | with_reducible rfl | exact ⟨rfl, rfl⟩ | (fail))))
      focus (intro xs; (try simp only [Act.put, List.setIfInBounds_toArray, List.set_cons_zero, List.set_cons_succ, Nat.reduceAdd]); rfl)
      refine lin_det (v := ?_) (F' := ?_) (by rfl) (fun _ => by rfl) ?_ ?_ ?_
      rotate_left 2
      focus (intro xs X hX hdep; clear hdep; (try dsimp only); go_simp; (try (first | with_reducible rfl | exact ⟨rfl, rfl⟩ | (fail))))
      focus (intro xs; (try simp only [Act.put, List.setIfInBounds_toArray, List.set_cons_zero, List.set_cons_succ, Nat.reduceAdd]); rfl)
      refine lin_det (v := ?_) (F' := ?_) (by rfl) (fun _ => by rfl) ?_ ?_ ?_
      rotate_left 2
      focus (intro xs X hX hdep; clear hdep; (try dsimp only); go_simp; (try (first | with_reducible rfl | exact ⟨rfl, rfl⟩ | (fail))))
      focus (intro xs; (try simp only [Act.put, List.setIfInBounds_toArray, List.set_cons_zero, List.set_cons_succ, Nat.reduceAdd]); rfl)
      refine lin_det (v := ?_) (F' := ?_) (by rfl) (fun _ => by rfl) ?_ ?_ ?_
      rotate_left 2
      focus (intro xs X hX hdep; clear hdep; (try dsimp only); go_simp; (try (first | with_reducible rfl | exact ⟨rfl, rfl⟩ | (fail))))
      focus (intro xs; (try simp only [Act.put, List.setIfInBounds_toArray, List.set_cons_zero, List.set_cons_succ, Nat.reduceAdd]); rfl)
      refine lin_det (v := ?_) (F' := ?_) (by rfl) (fun _ => by rfl) ?_ ?_ ?_
      rotate_left 2
      focus (intro xs X hX hdep; clear hdep; (try dsimp only); go_simp; (try (first | with_reducible rfl | exact ⟨rfl, rfl⟩ | (fail))))
      focus (intro xs; (try simp only [Act.put, List.setIfInBounds_toArray, List.set_cons_zero, List.set_cons_succ, Nat.reduceAdd]); rfl)
      refine lin_det (v := ?_) (F' := ?_) (by rfl) (fun _ => by rfl) ?_ ?_ ?_
      rotate_left 2
      focus (intro xs X hX hdep; clear hdep; (try dsimp only); go_simp; (try (first | with_reducible rfl | exact ⟨rfl, rfl⟩ | (fail))))
      focus (intro xs; (try simp only [Act.put, List.setIfInBounds_toArray, List.set_cons_zero, List.set_cons_succ, Nat.reduceAdd]); rfl)
      refine lin_det (v := ?_) (F' := ?_) (by rfl) (fun _ => by rfl) ?_ ?_ ?_
      rotate_left 2
      focus (intro xs X hX hdep; clear hdep; (try dsimp only); go_simp; (try (first | with_reducible rfl | exact ⟨rfl, rfl⟩ | (fail))))
      focus (intro xs; (try simp only [Act.put, List.setIfInBounds_toArray, List.set_cons_zero, List.set_cons_succ, Nat.reduceAdd]); rfl)
      refine lin_det (v := ?_) (F' := ?_) (by rfl) (fun _ => by rfl) ?_ ?_ ?_
      rotate_left 2
      focus (intro xs X hX hdep; clear hdep; (try dsimp only); go_simp; (try (first | with_reducible rfl | exact ⟨rfl, rfl⟩ | (fail))))
      focus (intro xs; (try simp only [Act.put, List.setIfInBounds_toArray, List.set_cons_zero, List.set_cons_succ, Nat.reduceAdd]); rfl)
      refine lin_det (v := ?_) (F' := ?_) (by rfl) (fun _ => by rfl) ?_ ?_ ?_
      rotate_left 2
      focus (intro xs X hX hdep; clear hdep; (try dsimp only); go_simp; (try (first | with_reducible rfl | exact ⟨rfl, rfl⟩ | (fail))))
      focus (intro xs; (try simp only [Act.put, List.setIfInBounds_toArray, List.set_cons_zero, List.set_cons_succ, Nat.reduceAdd]); rfl)
      refine lin_det (v := ?_) (F' := ?_) (by rfl) (fun _ => by rfl) ?_ ?_ ?_
      rotate_left 2
      focus (intro xs X hX hdep; clear hdep; (try dsimp only); go_simp; (try (first | with_reducible rfl | exact ⟨rfl, rfl⟩ | (fail))))
      focus (intro xs; (try simp only [Act.put, List.setIfInBounds_toArray, List.set_cons_zero, List.set_cons_succ, Nat.reduceAdd]); rfl)
      refine lin_det (v := ?_) (F' := ?_) (by rfl) (fun _ => by rfl) ?_ ?_ ?_
      rotate_left 2
      focus (intro xs X hX hdep; clear hdep; (try dsimp only); go_simp; (try (first | with_reducible rfl | exact ⟨rfl, rfl⟩ | (fail))))
      focus (intro xs; (try simp only [Act.put, List.setIfInBounds_toArray, List.set_cons_zero, List.set_cons_succ, Nat.reduceAdd]); rfl)
      refine lin_any (IsNew 70 [.int .i64 0, .int .i64 0, .int .i64 x.lo, .int .i64 x.hi, .int .i64 x.wet, .int .i64 x.grace]) false (fun v W W' k h => IsNew.later h k) (F' := ?_) (by rfl) (fun _ => by rfl) ?_ ?_ ?_
      rotate_left 1
      focus (intro xs X hX hdep; skip; clear hdep; intro K hK; (try dsimp only); go_simp; (exact hK.out _ _ rfl (later_alloc (later_refl _) _) ⟨_, rfl, Blk.new _ _ _⟩ (fun h => by cases h)))
      focus (intro xs; (try simp only [Act.put, List.setIfInBounds_toArray, List.set_cons_zero, List.set_cons_succ, Nat.reduceAdd]); rfl)
      refine lin_end_last (j := 22) ?_ (by kernel_rfl)
      intro xs W hW hE
      obtain ⟨g, hx9, hbn⟩ := (show IsNew _ _ _ _ from hE)
      simp only [hx9, Nat.reduceAdd, Nat.zero_add]
      clear hE hx9
      have hown4 := own_laterb Hown.out (Later.trans hL4 hW)
      have hbk4 := Hbk.out.later (Later.trans hL4 hW)
      have hLW := Later.trans hL (Later.trans hL4 hW)
      have hK4 := hK.later (Later.trans hL4 hW)
      go_wp2_with (at_builtin; refine appG rfl w2.heap.size _ _ 49 rfl 70 (.agg #[.int .i64 0, .int .i64 0, .int .i64 0, .int .i64 0, .int .i64 0, .int .i64 0]) 6 48 Try.underlying49 mwoman_info rfl (by omega) (.slice Av t kv) t (womV (hs.take t)) rfl hK4.1 hown4 ⟨g, 0, none⟩ 1 1 [.int .i64 0, .int .i64 0, .int .i64 x.lo, .int .i64 x.hi, .int .i64 x.wet, .int .i64 x.grace] rfl rfl hbn.one (by simp [Value.oneCell']) (by omega) (by omega) (by omega) ?_)
      intro v' w5 hap
      obtain ⟨A', c', hv', _⟩ := own_slice (w0 := w2) hap.own
      subst hv'
      have hr4 : ∀ g, (Value.slice Av t kv).ownBlock = some g → w2.heap.size ≤ g := fun g hg => (hown4.lt g hg).1
      have hL5 := Later.grown hLW hap.grown fun g hg => Nat.le_trans hL2.size (hr4 g hg)
      have hK5 := hK4.grown hap.grown hr4
      have hb4' := Blk.of_eq (hap.grown.block g3 hbk4.lt (fun e => by have := hr4 g3 e.symm; omega)) hbk4
      have c24 := hb4'.cell 2
      have f24 := hb4'.frozen 2
      simp only [List.getElem?_toArray, List.getElem?_cons_zero, List.getElem?_cons_succ] at c24
      have hS6 := later_set hL5 ⟨g3, 2, none⟩ hlo (.slice A' (t + 1) c')
      have hK6 := hK5.setCell 2 (.slice A' (t + 1) c')
      have hb6 := hb4'.set_ 2 (.slice A' (t + 1) c')
      have ho6 := own_block (W' := w5.setCell ⟨g3, 2, none⟩ (.slice A' (t + 1) c')) hap.own fun g hg => Below.heap_setCell w5 _ _ g (by have := (hap.own.lt g hg).1; show g ≠ g3; omega)
      rw [← Hv.out] at ho6
      have Hb6 := hide hb6
      have Ho6 := hide ho6
      have HS6 := hide hS6
      have HK6 := hide hK6
      clear hb6 ho6 hown4 hK4 hbk4 hr4 hap hb4' hS6 hK6 hL5 hK5 hLW z0 z1 z2 z3 u0 u1 u2 u8 hS Hk hbn
      go_wp2_with fail
      go_roundw
      case rel => exact ⟨t + 1, A', c', by omega, by go_num, HS6.out, HK6.out, Hb6, Ho6⟩
      case measure => simp [intOf]; omega
    · have hnt : nw = t := by omega
      subst hnt
      obtain ⟨hr1, hf1⟩ : Reads wr wr.heap.size 6 Av nw (womV hs) ∧ Fresh w2 wr Av := by
        have ho := Hown.out
        rw [List.take_of_length_le (by rw [← hm1.len]; exact Nat.le_refl _)] at ho
        obtain ⟨A', c', e, hr⟩ := own_slice (w0 := w2) ho
        injection e with e1 e2 e3
        subst e1
        exact ⟨hr, own_fresh (w0 := w2) ho⟩
      have Hr1 := hide hr1
      have Hf1 := hide hf1
      have hkr := R1.out.later hL
      have hke := hkr.row #[.int .i64 k, .int .i64 close, .slice Av nw kv]
      have Hkr := hide hkr
      have Hke := hide hke
      have HK := hide hK
      have Hm1 := hide hm1
      clear hkr hke hr1 hf1 Hown hK hm1
      go_wp2_with (first | (refine wpList_load_row rfl _ _ rfl g3 rfl _ _ _ _ Hbk.out Try.underlying51 rfl (by kernel_rfl) ?_) | (refine wpList_store_row rfl _ _ _ rfl gr _ rfl rfl _ _ Hkr.out (by kernel_rfl) rfl (by simp [Value.oneCell']) ?_))
      have hk6 := ((Kept.refl gr wr).setRow #[.int .i64 k, .int .i64 close, .slice Av nw kv])
      refine bodyPost_ret (results_cell_row (P := Try.prog) (fn := Try.f10) (p := 2) (ty := 51) (by kernel_rfl) _ _ gr _ _ _ _ rfl Hke.out Try.underlying51 (by kernel_rfl) (by kernel_rfl)) rfl ⟨_, _, rfl, later_setRow (Later.trans hLa hL) hgrl _, ?_⟩
      exact Reads.kept Hr1.out (by omega) (fun b o e => by have := (Hf1.out b o e).1; have := hL2.size; omega) hk6
end Go.Proofs.Ytnlbgaippnjmiaa

/- The example of the Mondays: the maps' keys, the work's memory, the list of bits: walks. -/
namespace Go.Proofs.Ytnlbgaippnjmiaa
open Go Go.RowKit Go.Maps
/-- the example's horse -/
def hA : Horse := ⟨9, 9, 1, 0⟩
/-- when a round of some women (by bits) is done -/
def aftE (women minute : Int) : Int := if women = 3 then minute + 10 else minute + 9
/-- when some women are done at the earliest -/
def earE (women _rounds : Int) : Int := if women = 3 then 10 else 9
theorem exA_best : bestOut (rndC 2 40 [hA, hA]) = ([0, 1], 10, 0) := by decide
theorem exA_one : bestOut (rndC 2 40 [hA]) = ([0], 9, 0) := by decide
theorem exA_two : bestOut (rndC 2 31 [hA]) = ([0], 9, 0) := by decide
theorem exA_f1 : fault (rndC 2 40 [hA, hA]) = 0 := by decide
theorem exA_f2 : fault (rndC 2 40 [hA]) = 0 := by decide
theorem exA_f3 : fault (rndC 2 31 [hA]) = 0 := by decide
theorem exA_ok : OkM 2 40 [hA, hA] := ⟨by decide, by decide, by decide, by decide, by decide, by decide⟩
/-! ### the keys -/
theorem row_mspot : (97 : TypeId) < Try.prog.types.size := of_decide_eq_true (by kernel_rfl)
theorem cells_mspot : Try.prog.cellsOf 97 = 2 := by kernel_rfl
theorem wide_mspot : (match Try.prog.underlying 97 with | some (.array _ _) | some (.struct _) => true | _ => false) = true := by kernel_rfl
theorem deep_mspot : Try.prog.keyTypeAt 2 97 = true := by kernel_rfl
set_option maxRecDepth 100000 in
theorem law_mspot : Keyed Try.prog 97 := Keyed.of_law (deep_law_laid (P := Try.prog) laidOut_ (m := 2) (Nat.le_of_ble_eq_true rfl) row_mspot deep_mspot wide_mspot)
theorem keyOf_mspot {h m : Int} (wh : (Lit.int .i64 h).wf = true) (wm : (Lit.int .i64 m).wf = true) : keyOf Try.prog 97 (.agg #[.int .i64 h, .int .i64 m]) = some (kl h m) := by
  have hkt : Try.prog.keyType 97 = true := by kernel_rfl
  have hi : Try.prog.underlying 3 = some (.int .i64) := by kernel_rfl
  have hci : Try.prog.cellsOf 3 = 1 := by kernel_rfl
  obtain ⟨k, hk⟩ := size_succ
  unfold keyOf
  simp only [Try.underlying97]
  rw [if_pos (by simp [hkt, Value.formed, Try.underlying97, cells_mspot]), hk]
  unfold Program.keyLits
  simp only [Try.underlying97, Value.cells]
  rw [if_pos (by rw [cells_mspot]; exact ⟨rfl, by kernel_rfl⟩)]
  simp [List.mapM_cons, hci, Program.keyLits, hi, wh, wm, kl]
theorem row_visit : (145 : TypeId) < Try.prog.types.size := of_decide_eq_true (by kernel_rfl)
theorem cells_visit : Try.prog.cellsOf 145 = 2 := by kernel_rfl
theorem wide_visit : (match Try.prog.underlying 145 with | some (.array _ _) | some (.struct _) => true | _ => false) = true := by kernel_rfl
theorem deep_visit : Try.prog.keyTypeAt 2 145 = true := by kernel_rfl
set_option maxRecDepth 100000 in
theorem law_visit : Keyed Try.prog 145 := Keyed.of_law (deep_law_laid (P := Try.prog) laidOut_ (m := 2) (Nat.le_of_ble_eq_true rfl) row_visit deep_visit wide_visit)
theorem keyOf_visit {h m : Int} (wh : (Lit.int .i64 h).wf = true) (wm : (Lit.int .i64 m).wf = true) : keyOf Try.prog 145 (.agg #[.int .i64 h, .int .i64 m]) = some (kl h m) := by
  have hkt : Try.prog.keyType 145 = true := by kernel_rfl
  have hi : Try.prog.underlying 3 = some (.int .i64) := by kernel_rfl
  have hci : Try.prog.cellsOf 3 = 1 := by kernel_rfl
  obtain ⟨k, hk⟩ := size_succ
  unfold keyOf
  simp only [Try.underlying145]
  rw [if_pos (by simp [hkt, Value.formed, Try.underlying145, cells_visit]), hk]
  unfold Program.keyLits
  simp only [Try.underlying145, Value.cells]
  rw [if_pos (by rw [cells_visit]; exact ⟨rfl, by kernel_rfl⟩)]
  simp [List.mapM_cons, hci, Program.keyLits, hi, wh, wm, kl]
theorem und_mspot : Try.prog.underlying 122 = some (.map 97 3) := by kernel_rfl
theorem und_visit : Try.prog.underlying 123 = some (.map 145 3) := by kernel_rfl
/-- a map of known numbers: what it holds is f's -/
structure MapF (t : TypeId) (f : Int → Int → Int) (w : World) (bm n : Nat) (D : DataW Unit) : Prop where
  own : w.ownsMap Try.prog t (plainElem Try.prog 3) bm n D
  val : ∀ a b : Nat, a ≤ 1000 → b ≤ 1000 → Maps.has D (kl a b) = true → ∀ z, D.atKey (kl a b) z = .lit (.int .i64 (f a b))
section
variable {t : TypeId} {f : Int → Int → Int} {w W : World} {bm n : Nat} {D : DataW Unit}
theorem MapF.heap (h : MapF t f w bm n D) : ∃ es cl, w.heap[bm]? = some (.map es cl) := by
  obtain ⟨es, cl, hb, _⟩ := h.own
  exact ⟨es, cl, hb⟩
theorem MapF.of_eq (h : MapF t f w bm n D) (k : W.heap[bm]? = w.heap[bm]?) : MapF t f W bm n D := by
  obtain ⟨⟨es, cl, hb, rest⟩, hv⟩ := h
  exact ⟨⟨es, cl, k.trans hb, rest⟩, hv⟩
theorem MapF.later (h : MapF t f w bm n D) (k : Later w W) : MapF t f W bm n D := by
  obtain ⟨es, cl, hb⟩ := h.heap
  exact h.of_eq (k.block bm (Array.getElem?_eq_some_iff.1 hb).1)
theorem MapF.mono {n' : Nat} (h : MapF t f w bm n D) (k : n ≤ n') : MapF t f w bm n' D := ⟨h.own.mono k, h.val⟩
theorem MapF.made {g : Nat} (hg : g = w.heap.size) : MapF t f (w.alloc (.map #[] 0)) g 0 (.map []) := by
  subst hg
  exact ⟨World.ownsMap_made (H := Unit) w Try.prog t (plainElem Try.prog 3), fun _ _ _ _ h => by cases h⟩
theorem MapF.put {W : World} (h : MapF t f w bm n D) {a b : Nat} (ha : a ≤ 1000) (hb : b ≤ 1000) {v : Int} (hv : v = f a b) (ho : W.ownsMap Try.prog t (plainElem Try.prog 3) bm (n + 1) (D.put (kl a b) (.lit (.int .i64 v)))) : MapF t f W bm (n + 1) (D.put (kl a b) (.lit (.int .i64 v))) := by
  refine ⟨ho, fun x y hx hy hh z => ?_⟩
  by_cases e : kl (x : Int) (y : Int) = kl (a : Int) (b : Int)
  · have := kl_inj (WalkArith.wf_i64 (by omega)) (WalkArith.wf_i64 (by omega)) (WalkArith.wf_i64 (by omega)) (WalkArith.wf_i64 (by omega)) e
    obtain ⟨e1, e2⟩ := this
    rw [e, e1, e2, atKey_put_same h.own.isMap (show WideAt.IsKeyLit (kl (a : Int) (b : Int)) from trivial), hv]
  · rw [atKey_put_other e]
    rw [has_put_other e] at hh
    exact h.val x y hx hy hh z
/-- what a look into it gives -/
theorem MapF.look {mt : TypeId} {key : Value} (h : MapF t f w bm n D) (K : Keyed Try.prog t) (hu : Try.prog.underlying mt = some (.map t 3)) {a b : Nat} (ha : a ≤ 1000) (hb : b ≤ 1000) (hk : keyOf Try.prog t key = some (kl a b)) :
    (Instr.lookup mt (.map (some bm)) key true).run Try.prog w = .ok (.tuple #[.int .i64 (if Maps.has D (kl a b) = true then f a b else 0), .bool (Maps.has D (kl a b))]) w := by
  obtain ⟨v, ps, hrun, hv⟩ := World.ownsMap.look_ok h.own K hu (zero_int w) (plainElem_int und_int (by decide)) hk
  rw [hrun]
  obtain ⟨c, rfl, hc, _⟩ := plainElem_int_inv und_int hv
  simp only [Prod.mk.injEq, and_true] at hc
  cases hh : Maps.has D (kl a b) with
  | true =>
    rw [h.val a b ha hb hh] at hc
    simp only [DataW.lit.injEq, Lit.int.injEq, true_and] at hc
    rw [if_pos rfl, hc.1]
  | false =>
    rw [atKey_of_not_has hh] at hc
    simp only [DataW.lit.injEq, Lit.int.injEq, true_and] at hc
    rw [if_neg (by decide), hc.1]
end
/-- the example's work: its block, its two maps -/
structure MSt (W : World) (bw bk bd : Nat) (A : Option Addr) (kw n : Nat) : Prop where
  blk : Blk W bw 125 #[.int .i64 2, .int .i64 40, .slice A 2 kw, .map (some bk), .map (some bd)]
  rm : RM W A 2 [hA, hA]
  kn : ∃ D, MapF 97 earE W bk n D
  dn : ∃ D, MapF 145 aftE W bd n D
  ne : bk ≠ bd
abbrev MBut (bk bd : Nat) : World → World → Prop := ButS (fun b => b = bk ∨ b = bd)
theorem notMap {W : World} {g bm : Nat} {t : TypeId} {cs : Array Value} {es : Array MapEntry} {cl : Nat} (h : Blk W g t cs) (k : W.heap[bm]? = some (.map es cl)) : g ≠ bm := by
  rintro rfl
  have := h.symm.trans k
  injection this with this
  cases this
section
variable {W X : World} {bw bk bd kw n : Nat} {A : Option Addr}
theorem MSt.later (h : MSt W bw bk bd A kw n) (k : Later W X) : MSt X bw bk bd A kw n :=
  ⟨h.blk.later k, h.rm.later k, let ⟨D, d⟩ := h.kn; ⟨D, d.later k⟩, let ⟨D, d⟩ := h.dn; ⟨D, d.later k⟩, h.ne⟩
theorem MSt.mono {n' : Nat} (h : MSt W bw bk bd A kw n) (k : n ≤ n') : MSt W bw bk bd A kw n' := ⟨h.blk, h.rm, let ⟨D, d⟩ := h.kn; ⟨D, d.mono k⟩, let ⟨D, d⟩ := h.dn; ⟨D, d.mono k⟩, h.ne⟩
theorem MSt.far (h : MSt W bw bk bd A kw n) {g : Nat} {t : TypeId} {cs : Array Value} (k : Blk W g t cs) : ¬ (g = bk ∨ g = bd) := by
  obtain ⟨D, d⟩ := h.kn
  obtain ⟨D', d'⟩ := h.dn
  obtain ⟨es, cl, hb⟩ := d.heap
  obtain ⟨es', cl', hb'⟩ := d'.heap
  rintro (e | e)
  · exact notMap k hb e
  · exact notMap k hb' e
theorem MSt.keep (h : MSt W bw bk bd A kw n) (k : MBut bk bd W X) {g : Nat} {t : TypeId} {cs : Array Value} (hb : Blk W g t cs) : Blk X g t cs := Blk.of_eq (k.block g hb.lt (h.far hb)) hb
theorem MSt.rows (h : MSt W bw bk bd A kw n) (k : MBut bk bd W X) : RM X A 2 [hA, hA] := by
  refine ⟨h.rm.1, fun hn => ?_⟩
  obtain ⟨b, o, rfl, hb, hc⟩ := Reads.lit h.rm (by omega) hn
  have hne : ¬ (b = bk ∨ b = bd) := by
    have h0 := hc 0 _ rfl
    obtain ⟨D, d⟩ := h.kn
    obtain ⟨D', d'⟩ := h.dn
    obtain ⟨es, cl, hb1⟩ := d.heap
    obtain ⟨es', cl', hb2⟩ := d'.heap
    rintro (e | e)
    · subst e; unfold World.cell? at h0; simp only [hb1] at h0; cases h0
    · subst e; unfold World.cell? at h0; simp only [hb2] at h0; cases h0
  refine ⟨_, rfl, Nat.lt_of_lt_of_le hb k.size, fun j u hu => ?_⟩
  rw [add_lit]
  exact (World.cell?_of_block (a := ⟨b, o + j, none⟩) (k.block b hb hne)).trans (hc j u hu)
/-- behind an update of the first map -/
theorem MSt.put1 {D : DataW Unit} (h : MSt W bw bk bd A kw n) {a b : Nat} (d : MapF 97 earE W bk n D) (ha : a ≤ 1000) (hb : b ≤ 1000) {v : Int} (hv : v = earE a b) (ho : X.ownsMap Try.prog 97 (plainElem Try.prog 3) bk (n + 1) (D.put (kl a b) (.lit (.int .i64 v)))) (hg : W.grownBy X (some bk)) :
    MSt X bw bk bd A kw (n + 1) ∧ MBut bk bd W X := by
  have hB : MBut bk bd W X := ⟨hg.os, hg.tape, hg.output, hg.size, fun b hb hne => hg.block b hb fun e => hne (.inl (by injection e))⟩
  refine ⟨⟨h.keep hB h.blk, h.rows hB, ⟨_, d.put ha hb hv ho⟩, ?_, h.ne⟩, hB⟩
  obtain ⟨D', d'⟩ := h.dn
  obtain ⟨es', cl', hb2⟩ := d'.heap
  exact ⟨D', (d'.of_eq (hg.block bd (Array.getElem?_eq_some_iff.1 hb2).1 fun e => h.ne (by injection e with e; exact e.symm))).mono (Nat.le_succ _)⟩
theorem MSt.put2 {D : DataW Unit} (h : MSt W bw bk bd A kw n) {a b : Nat} (d : MapF 145 aftE W bd n D) (ha : a ≤ 1000) (hb : b ≤ 1000) {v : Int} (hv : v = aftE a b) (ho : X.ownsMap Try.prog 145 (plainElem Try.prog 3) bd (n + 1) (D.put (kl a b) (.lit (.int .i64 v)))) (hg : W.grownBy X (some bd)) :
    MSt X bw bk bd A kw (n + 1) ∧ MBut bk bd W X := by
  have hB : MBut bk bd W X := ⟨hg.os, hg.tape, hg.output, hg.size, fun b hb hne => hg.block b hb fun e => hne (.inr (by injection e))⟩
  refine ⟨⟨h.keep hB h.blk, h.rows hB, ?_, ⟨_, d.put ha hb hv ho⟩, h.ne⟩, hB⟩
  obtain ⟨D', d'⟩ := h.kn
  obtain ⟨es', cl', hb2⟩ := d'.heap
  exact ⟨D', (d'.of_eq (hg.block bk (Array.getElem?_eq_some_iff.1 hb2).1 fun e => h.ne (by injection e))).mono (Nat.le_succ _)⟩
end
end Go.Proofs.Ytnlbgaippnjmiaa

/- The example of the Mondays: the list of bits, the small functions: walks. -/
namespace Go.Proofs.Ytnlbgaippnjmiaa
open Go Go.RowKit Go.Maps
attribute [local go_sem] later_alloc2 later_alloc3 later_alloc4
set_option maxRecDepth 100000 in
set_option maxHeartbeats 2000000 in
theorem listed3_calls (w : World) : Calls Try.prog 51 #[.int .i64 3] w fun e w' => ∃ A k, e = .returned (.slice A 2 k) ∧ Later w w' ∧ RI w' A 2 [0, 1] := by
  go_enter Try.func51, Try.ntmps51
  go_wp2_with fail
  go_loopw [3, 2] (fun i v wr => (i = .int .i64 0 ∧ v = .slice none 0 0 ∧ Later w wr ∧ Hid (wr.ownsRow w.heap.size 3 1 v 0 (ints []))) ∨ (i = .int .i64 1 ∧ (∃ g k, v = .slice (some ⟨g, 0, none⟩) 1 k) ∧ Later w wr ∧ Hid (wr.ownsRow w.heap.size 3 1 v 1 (ints [0]))) ∨ (i = .int .i64 2 ∧ (∃ g k, v = .slice (some ⟨g, 0, none⟩) 2 k) ∧ Later w wr ∧ Hid (wr.ownsRow w.heap.size 3 1 v 2 (ints [0, 1])))) (fun i _ _ => 2 - (intOf i).toNat)
  case atStart => exact .inl ⟨rfl, rfl, later_refl _, World.ownsRow_nil _ _ _ _⟩
  case round =>
    rcases hrel with ⟨rfl, rfl, hL, Ho⟩ | ⟨rfl, ⟨g, k, rfl⟩, hL, Ho⟩ | ⟨rfl, ⟨g, k, rfl⟩, hL, Ho⟩
    · skip
      have hsz := hL.size
      go_wp2_with (at_builtin; refine appG rfl w.heap.size _ _ 23 rfl 3 (.int .i64 0) 1 8 Try.underlying23 int_info rfl (by omega) _ 0 (ints []) rfl (by simp; omega) (own_laterb Ho.out (later_alloc (later_refl _) _)) ⟨wr.heap.size, 0, none⟩ 1 1 [.int .i64 0] rfl rfl (blk_one (Blk.new wr 3 #[.int .i64 0])) (by simp [Value.oneCell']) (by omega) (by omega) (by omega) ?_)
      intro v' w5 hap
      have hL5 := Later.grown (later_alloc hL (.cells #[.int .i64 0] 3)) hap.grown fun g hg => ((own_laterb Ho.out (later_alloc (later_refl _) (.cells #[.int .i64 0] 3))).lt g hg).1
      have Ho5 : Hid (w5.ownsRow w.heap.size 3 1 v' (0 + 1) (ints ([] ++ [0]))) := by rw [ints_snoc]; exact hap.own
      clear Ho hap
      go_wp2_with fail
      go_roundw
      case rel => exact .inr (.inl ⟨by go_num, own_form Ho5.out (by omega), hL5, Ho5⟩)
      case measure => simp [intOf]
    · skip
      have hsz := hL.size
      go_wp2_with (at_builtin; refine appG rfl w.heap.size _ _ 23 rfl 3 (.int .i64 0) 1 8 Try.underlying23 int_info rfl (by omega) _ 1 (ints [0]) rfl (by simp; omega) (own_laterb Ho.out (later_alloc (later_refl _) _)) ⟨wr.heap.size, 0, none⟩ 1 1 [.int .i64 1] rfl rfl (blk_one (Blk.new wr 3 #[.int .i64 1])) (by simp [Value.oneCell']) (by omega) (by omega) (by omega) ?_)
      intro v' w5 hap
      have hL5 := Later.grown (later_alloc hL (.cells #[.int .i64 1] 3)) hap.grown fun g hg => ((own_laterb Ho.out (later_alloc (later_refl _) (.cells #[.int .i64 1] 3))).lt g hg).1
      have Ho5 : Hid (w5.ownsRow w.heap.size 3 1 v' (1 + 1) (ints ([0] ++ [1]))) := by rw [ints_snoc]; exact hap.own
      clear Ho hap
      go_wp2_with fail
      go_roundw
      case rel => exact .inr (.inr ⟨by go_num, own_form Ho5.out (by omega), hL5, Ho5⟩)
      case measure => simp [intOf]
    · go_wp2_with fail
      go_ret
      exact ⟨_, _, rfl, hL, Reads.of_own Ho.out⟩
set_option maxRecDepth 100000 in
set_option maxHeartbeats 2000000 in
theorem listed1_calls (w : World) : Calls Try.prog 51 #[.int .i64 1] w fun e w' => ∃ A k, e = .returned (.slice A 1 k) ∧ Later w w' ∧ RI w' A 1 [0] := by
  go_enter Try.func51, Try.ntmps51
  go_wp2_with fail
  go_loopw [3, 2] (fun i v wr => (i = .int .i64 0 ∧ v = .slice none 0 0 ∧ Later w wr ∧ Hid (wr.ownsRow w.heap.size 3 1 v 0 (ints []))) ∨ (i = .int .i64 1 ∧ (∃ g k, v = .slice (some ⟨g, 0, none⟩) 1 k) ∧ Later w wr ∧ Hid (wr.ownsRow w.heap.size 3 1 v 1 (ints [0])))) (fun i _ _ => 2 - (intOf i).toNat)
  case atStart => exact .inl ⟨rfl, rfl, later_refl _, World.ownsRow_nil _ _ _ _⟩
  case round =>
    rcases hrel with ⟨rfl, rfl, hL, Ho⟩ | ⟨rfl, ⟨g, k, rfl⟩, hL, Ho⟩
    · skip
      have hsz := hL.size
      go_wp2_with (at_builtin; refine appG rfl w.heap.size _ _ 23 rfl 3 (.int .i64 0) 1 8 Try.underlying23 int_info rfl (by omega) _ 0 (ints []) rfl (by simp; omega) (own_laterb Ho.out (later_alloc (later_refl _) _)) ⟨wr.heap.size, 0, none⟩ 1 1 [.int .i64 0] rfl rfl (blk_one (Blk.new wr 3 #[.int .i64 0])) (by simp [Value.oneCell']) (by omega) (by omega) (by omega) ?_)
      intro v' w5 hap
      have hL5 := Later.grown (later_alloc hL (.cells #[.int .i64 0] 3)) hap.grown fun g hg => ((own_laterb Ho.out (later_alloc (later_refl _) (.cells #[.int .i64 0] 3))).lt g hg).1
      have Ho5 : Hid (w5.ownsRow w.heap.size 3 1 v' (0 + 1) (ints ([] ++ [0]))) := by rw [ints_snoc]; exact hap.own
      clear Ho hap
      go_wp2_with fail
      go_roundw
      case rel => exact .inr ⟨by go_num, own_form Ho5.out (by omega), hL5, Ho5⟩
      case measure => simp [intOf]
    · go_wp2_with fail
      go_ret
      exact ⟨_, _, rfl, hL, Reads.of_own Ho.out⟩
set_option maxRecDepth 100000 in
set_option maxHeartbeats 2000000 in
theorem listed2_calls (w : World) : Calls Try.prog 51 #[.int .i64 2] w fun e w' => ∃ A k, e = .returned (.slice A 1 k) ∧ Later w w' ∧ RI w' A 1 [1] := by
  go_enter Try.func51, Try.ntmps51
  go_wp2_with fail
  go_loopw [3, 2] (fun i v wr => (i = .int .i64 0 ∧ v = .slice none 0 0 ∧ Later w wr ∧ Hid (wr.ownsRow w.heap.size 3 1 v 0 (ints []))) ∨ (i = .int .i64 1 ∧ v = .slice none 0 0 ∧ Later w wr ∧ Hid (wr.ownsRow w.heap.size 3 1 v 0 (ints []))) ∨ (i = .int .i64 2 ∧ (∃ g k, v = .slice (some ⟨g, 0, none⟩) 1 k) ∧ Later w wr ∧ Hid (wr.ownsRow w.heap.size 3 1 v 1 (ints [1])))) (fun i _ _ => 2 - (intOf i).toNat)
  case atStart => exact .inl ⟨rfl, rfl, later_refl _, World.ownsRow_nil _ _ _ _⟩
  case round =>
    rcases hrel with ⟨rfl, rfl, hL, Ho⟩ | ⟨rfl, rfl, hL, Ho⟩ | ⟨rfl, ⟨g, k, rfl⟩, hL, Ho⟩
    · go_wp2_with fail
      go_roundw
      case rel => exact .inr (.inl ⟨by go_num, rfl, hL, Ho⟩)
      case measure => simp [intOf]
    · skip
      have hsz := hL.size
      go_wp2_with (at_builtin; refine appG rfl w.heap.size _ _ 23 rfl 3 (.int .i64 0) 1 8 Try.underlying23 int_info rfl (by omega) _ 0 (ints []) rfl (by simp; omega) (own_laterb Ho.out (later_alloc (later_refl _) _)) ⟨wr.heap.size, 0, none⟩ 1 1 [.int .i64 1] rfl rfl (blk_one (Blk.new wr 3 #[.int .i64 1])) (by simp [Value.oneCell']) (by omega) (by omega) (by omega) ?_)
      intro v' w5 hap
      have hL5 := Later.grown (later_alloc hL (.cells #[.int .i64 1] 3)) hap.grown fun g hg => ((own_laterb Ho.out (later_alloc (later_refl _) (.cells #[.int .i64 1] 3))).lt g hg).1
      have Ho5 : Hid (w5.ownsRow w.heap.size 3 1 v' (0 + 1) (ints ([] ++ [1]))) := by rw [ints_snoc]; exact hap.own
      clear Ho hap
      go_wp2_with fail
      go_roundw
      case rel => exact .inr (.inr ⟨by go_num, own_form Ho5.out (by omega), hL5, Ho5⟩)
      case measure => simp [intOf]
    · go_wp2_with fail
      go_ret
      exact ⟨_, _, rfl, hL, Reads.of_own Ho.out⟩
end Go.Proofs.Ytnlbgaippnjmiaa

/- The example of the Mondays: after: walk. -/
namespace Go.Proofs.Ytnlbgaippnjmiaa
open Go Go.RowKit Go.Maps
attribute [local go_sem] later_alloc2 later_alloc3 later_alloc4
/-- v is a round's answer that is done in the minute d -/
def IsDone (d : Int) (v : Value) (_ : World) : Prop := ∃ a Ap np kp Am nm km, v = .tuple #[.agg #[.int .i64 a, .int .i64 d, .slice Ap np kp, .slice Am nm km], .bool true]
def IsHung (d : Int) (v : Value) (_ : World) : Prop := ∃ a Ap np kp Am nm km, v = .agg #[.int .i64 a, .int .i64 d, .slice Ap np kp, .slice Am nm km]
def AftPost (bw bk bd : Nat) (A : Option Addr) (kw n : Nat) (v : Int) (w : World) (e : Ending) (w' : World) : Prop := e = .returned (.int .i64 v) ∧ MBut bk bd w w' ∧ MSt w' bw bk bd A kw n
set_option maxRecDepth 100000 in
set_option maxHeartbeats 4000000 in
theorem after_calls {bw bk bd kw n bits mi nl : Nat} {A : Option Addr} {li : List Nat} {p : List Int} (w : World) (hs : MSt w bw bk bd A kw n) (hn : n ≤ 1000) (hb : bits ≤ 3) (hm : mi ≤ 9)
    (hli : ∀ X : World, Calls Try.prog 51 #[.int .i64 (bits : Int)] X fun e w' => ∃ A k, e = .returned (.slice A nl k) ∧ Later X w' ∧ RI w' A nl (natI li)) (hl2 : li.length ≤ 2) (hin : ∀ i ∈ li, i < 2)
    (hbest : bestOut (rndC 2 (40 - (mi : Int)) (pickH [hA, hA] li)) = (p, aftE bits mi - mi, 0)) (hf : fault (rndC 2 (40 - (mi : Int)) (pickH [hA, hA] li)) = 0) :
    Calls Try.prog 50 #[.pointer (some ⟨bw, 0, none⟩), .int .i64 (bits : Int), .int .i64 (mi : Int)] w (AftPost bw bk bd A kw (n + 1) (aftE bits mi) w) := by
  have hl3 : ∀ X : World, Later w X → ∀ Al kl, RI X Al nl (natI li) → Calls Try.prog 41 #[.agg #[.int .i64 2, .int .i64 40, .slice A 2 kw], .slice Al nl kl, .int .i64 (mi : Int)] X fun e w' => Later X w' ∧ ∃ v, e = .returned v ∧ IsDone (aftE bits mi) v w' := fun X hX Al kl hr => by
    have := round_calls (k := 2) (close := 40) (kw := kw) (kl := kl) (after := (mi : Int)) (li := li) X (hs.rm.later hX) hr hin ⟨by omega, by omega⟩ (by omega) (by omega) (by omega) hf
    refine this.mono ?_
    rintro e w' (⟨h1, _⟩ | ⟨_, Ap, np, kp, Am, km, rfl, hL, _⟩)
    · rw [hbest] at h1; exact absurd rfl h1
    · refine ⟨hL, _, rfl, (mi : Int), Ap, np, kp, Am, nl, km, ?_⟩
      rw [hbest, show (mi : Int) + (aftE bits mi - mi) = aftE bits mi by omega]
  have he : (0 : Int) ≤ aftE bits mi ∧ aftE bits mi ≤ 100 := by unfold aftE; split <;> omega
  obtain ⟨v, hv⟩ : ∃ v, aftE bits mi = v := ⟨_, rfl⟩
  rw [hv] at hl3 he ⊢
  have wfb : (Lit.int .i64 (bits : Int)).wf = true := WalkArith.wf_i64 (by omega)
  have wfm : (Lit.int .i64 (mi : Int)).wf = true := WalkArith.wf_i64 (by omega)
  have wfv : (Lit.int .i64 v).wf = true := WalkArith.wf_i64 (by omega)
  obtain ⟨w0, hw0⟩ : ∃ X, X = w.alloc (.cells #[.int .i64 (bits : Int), .int .i64 (mi : Int)] 145) := ⟨_, rfl⟩
  obtain ⟨gx, hgx⟩ : ∃ g, g = w.heap.size := ⟨_, rfl⟩
  have kx : Blk w0 gx 145 #[.int .i64 (bits : Int), .int .i64 (mi : Int)] := by rw [hw0, hgx]; exact Blk.new _ _ _
  have hL0 : Later w w0 := by rw [hw0]; exact later_alloc (later_refl _) _
  have hs0 := hs.later hL0
  obtain ⟨D, hD⟩ := hs0.dn
  have hlook := fun W (hW : Later w0 W) => (hD.later hW).look law_visit und_visit (a := bits) (b := mi) (by omega) (by omega) (keyOf_visit wfb wfm)
  rw [hv] at hlook
  obtain ⟨is, his⟩ : ∃ b, Maps.has D (kl (bits : Int) (mi : Int)) = b := ⟨_, rfl⟩
  rw [his] at hlook
  have x0 := fun W (hW : Later w0 W) => ((kx.later hW).cell 0).trans (show _ = some (Value.int .i64 (bits : Int)) from rfl)
  have x1 := fun W (hW : Later w0 W) => ((kx.later hW).cell 1).trans (show _ = some (Value.int .i64 (mi : Int)) from rfl)
  have m0 := fun W (hW : Later w0 W) => ((hs0.blk.later hW).cell 0).trans (show _ = some (Value.int .i64 2) from rfl)
  have m1 := fun W (hW : Later w0 W) => ((hs0.blk.later hW).cell 1).trans (show _ = some (Value.int .i64 40) from rfl)
  have m2 := fun W (hW : Later w0 W) => ((hs0.blk.later hW).cell 2).trans (show _ = some (Value.slice A 2 kw) from rfl)
  have m4 := fun W (hW : Later w0 W) => ((hs0.blk.later hW).cell 4).trans (show _ = some (Value.map (some bd)) from rfl)
  have Hw0 := hide hw0
  have Hgx := hide hgx
  have Hs0 := hide hs0
  have HD := hide hD
  have Hl3 := hide hl3
  have Hli := hide hli
  have Kx := hide kx
  have Hv := hide hv
  clear hw0 hgx hs0 hD hl3 hli kx hs hbest hf hin hl2 his hv
  go_enter Try.func50, Try.ntmps50
  go_upto_region 2 with fail
  rw [← Hw0.out, ← Hgx.out]
  refine wp_region_ext (w0 := w0) (by kernel_rfl) (by kernel_rfl) (later_refl _) ?_; (repeat (first | go_big_quiet_step (((fail))) | quiet_step (((fail))))); refine wpQuiet_nil ?_; rintro w1 ⟨⟨_, hL1⟩, rfl⟩; (try dsimp only)
  cases is with
  | true =>
    go_wp2_with fail
    go_ret
    exact ⟨rfl, ButS.of_later (Later.trans hL0 hL1), (Hs0.out.later hL1).mono (Nat.le_succ _)⟩
  | false =>
    clear hlook
    go_upto_region 5 with fail
    have hS : Later w1 w1.drew := later_drew (later_refl _)
    have n0 := fun W (hW : Later w1 W) => m0 W (Later.trans hL1 hW)
    have n1 := fun W (hW : Later w1 W) => m1 W (Later.trans hL1 hW)
    have n2 := fun W (hW : Later w1 W) => m2 W (Later.trans hL1 hW)
    have hL01 := Later.trans hL0 hL1
    refine wp_region_lin (w0 := w1) 12 [10] rely_later (by kernel_rfl) (by kernel_rfl) (by kernel_rfl) (by kernel_rfl) (hS) (.inr (by intro _ _ _ _ _ h; first | exact h | exact absurd h.1 (by simp))) ?_
    simp only [List.take_succ_cons, List.take_zero, List.drop_succ_cons, List.drop_zero]
    refine lin_det (v := ?_) (F' := ?_) (by rfl) (fun _ => by rfl) ?_ ?_ ?_
    rotate_left 2
    focus (intro xs X hX hdep; clear hdep; (try dsimp only); go_simp; (try (first | with_reducible rfl | exact ⟨rfl, rfl⟩ | (fail))))
    focus (intro xs; (try simp only [Act.put, List.setIfInBounds_toArray, List.set_cons_zero, List.set_cons_succ, Nat.reduceAdd]); rfl)
    refine lin_det (v := ?_) (F' := ?_) (by rfl) (fun _ => by rfl) ?_ ?_ ?_
    rotate_left 2
    focus (intro xs X hX hdep; clear hdep; (try dsimp only); go_simp; (try (first | with_reducible rfl | exact ⟨rfl, rfl⟩ | (fail))))
    focus (intro xs; (try simp only [Act.put, List.setIfInBounds_toArray, List.set_cons_zero, List.set_cons_succ, Nat.reduceAdd]); rfl)
    refine lin_det (v := ?_) (F' := ?_) (by rfl) (fun _ => by rfl) ?_ ?_ ?_
    rotate_left 2
    focus (intro xs X hX hdep; clear hdep; (try dsimp only); go_simp; (try (first | with_reducible rfl | exact ⟨rfl, rfl⟩ | (fail))))
    focus (intro xs; (try simp only [Act.put, List.setIfInBounds_toArray, List.set_cons_zero, List.set_cons_succ, Nat.reduceAdd]); rfl)
    refine lin_det (v := ?_) (F' := ?_) (by rfl) (fun _ => by rfl) ?_ ?_ ?_
    rotate_left 2
    focus (intro xs X hX hdep; clear hdep; (try dsimp only); go_simp; (try (first | with_reducible rfl | exact ⟨rfl, rfl⟩ | (fail))))
    focus (intro xs; (try simp only [Act.put, List.setIfInBounds_toArray, List.set_cons_zero, List.set_cons_succ, Nat.reduceAdd]); rfl)
    refine lin_det (v := ?_) (F' := ?_) (by rfl) (fun _ => by rfl) ?_ ?_ ?_
    rotate_left 2
    focus (intro xs X hX hdep; clear hdep; (try dsimp only); go_simp; (try (first | with_reducible rfl | exact ⟨rfl, rfl⟩ | (fail))))
    focus (intro xs; (try simp only [Act.put, List.setIfInBounds_toArray, List.set_cons_zero, List.set_cons_succ, Nat.reduceAdd]); rfl)
    refine lin_any (IsR nl (natI li)) false (fun v W W' k h => IsR.later h k) (F' := ?_) (by rfl) (fun _ => by rfl) ?_ ?_ ?_
    rotate_left 1
    focus (intro xs X hX hdep; skip; clear hdep; intro K hK; (try dsimp only); go_simp; (refine (Hli.out X).mono ?_; rintro e W' ⟨A', k', rfl, hL, hr⟩; exact hK.out _ _ rfl hL ⟨A', k', rfl, hr⟩ (fun h => by cases h)))
    focus (intro xs; (try simp only [Act.put, List.setIfInBounds_toArray, List.set_cons_zero, List.set_cons_succ, Nat.reduceAdd]); rfl)
    refine lin_det (v := ?_) (F' := ?_) (by rfl) (fun _ => by rfl) ?_ ?_ ?_
    rotate_left 2
    focus (intro xs X hX hdep; clear hdep; (try dsimp only); go_simp; (try (first | with_reducible rfl | exact ⟨rfl, rfl⟩ | (fail))))
    focus (intro xs; (try simp only [Act.put, List.setIfInBounds_toArray, List.set_cons_zero, List.set_cons_succ, Nat.reduceAdd]); rfl)
    refine lin_any (IsDone v) false (fun _ _ _ _ h => h) (F' := ?_) (by rfl) (fun _ => by rfl) ?_ ?_ ?_
    rotate_left 1
    focus (intro xs X hX hdep; obtain ⟨A5, k5, e5, r5⟩ := (show IsR nl (natI li) (xs 5) X from hdep 5 1 (by kernel_rfl)); clear hdep; intro K hK; (try dsimp only); go_simp; (refine (Hl3.out X (Later.trans hL01 hX) A5 k5 r5).mono ?_; rintro e W' ⟨hL, v', rfl, hd⟩; exact hK.out _ _ rfl hL hd (fun h => by cases h)))
    focus (intro xs; (try simp only [Act.put, List.setIfInBounds_toArray, List.set_cons_zero, List.set_cons_succ, Nat.reduceAdd]); rfl)
    refine lin_any (IsDone v) false (fun _ _ _ _ h => h) (F' := ?_) (by rfl) (fun _ => by rfl) ?_ ?_ ?_
    rotate_left 1
    focus (intro xs X hX hdep; obtain ⟨a7, Ap7, np7, kp7, Am7, nm7, km7, e7⟩ := (show IsDone v (xs 7) X from hdep 7 1 (by kernel_rfl)); clear hdep; intro K hK; (try dsimp only); go_simp; (exact hK.out _ _ rfl (later_refl _) ⟨_, _, _, _, _, _, _, rfl⟩ (fun h => by cases h)))
    focus (intro xs; (try simp only [Act.put, List.setIfInBounds_toArray, List.set_cons_zero, List.set_cons_succ, Nat.reduceAdd]); rfl)
    refine lin_any (IsHung v) false (fun _ _ _ _ h => h) (F' := ?_) (by rfl) (fun _ => by rfl) ?_ ?_ ?_
    rotate_left 1
    focus (intro xs X hX hdep; obtain ⟨a7, Ap7, np7, kp7, Am7, nm7, km7, e7⟩ := (show IsDone v (xs 8) X from hdep 8 1 (by kernel_rfl)); clear hdep; intro K hK; (try dsimp only); go_simp; (exact hK.out _ _ rfl (later_refl _) ⟨_, _, _, _, _, _, _, rfl⟩ (fun h => by cases h)))
    focus (intro xs; (try simp only [Act.put, List.setIfInBounds_toArray, List.set_cons_zero, List.set_cons_succ, Nat.reduceAdd]); rfl)
    refine lin_pure (v := ?_) (F' := ?_) (fun _ => by rfl) ?_ ?_ ?_
    rotate_left 2
    focus (intro xs X hX hdep; obtain ⟨a7, Ap7, np7, kp7, Am7, nm7, km7, e7⟩ := (show IsDone v (xs 8) X from hdep 8 1 (by kernel_rfl)); clear hdep hX; intro X; (try dsimp only); go_simp; (try (first | with_reducible rfl | rfl)))
    focus (intro xs; (try simp only [Act.put, List.setIfInBounds_toArray, List.set_cons_zero, List.set_cons_succ, Nat.reduceAdd]); rfl)
    refine lin_any (IsBox 85 [.int .i64 0, .int .i64 0, .slice none 0 0, .slice none 0 0]) true (fun v W W' k h => IsBox.later h k) (F' := ?_) (by rfl) (fun _ => by rfl) ?_ ?_ ?_
    rotate_left 1
    focus (intro xs X hX hdep; skip; clear hdep; intro K hK; (try dsimp only); go_simp; (exact hK.out _ _ rfl (later_alloc (later_refl _) _) ⟨_, rfl, Blk.new _ _ _⟩ (fun _ => ⟨_, rfl, Nat.le_refl _, by simp⟩)))
    focus (intro xs; (try simp only [Act.put, List.setIfInBounds_toArray, List.set_cons_zero, List.set_cons_succ, Nat.reduceAdd]); rfl)
    intro xs w5 hW hf hfr hfb
    obtain ⟨a9, Ap, np, kp, Am, nm, km, hx9⟩ := (show IsHung v (xs 9) w5 from hf 9)
    obtain ⟨gh, hx11, hbk⟩ := (show IsBox 85 [.int .i64 0, .int .i64 0, .slice none 0 0, .slice none 0 0] (xs 11) w5 from hf 11)
    obtain ⟨b', hb1', hb2', _⟩ := hfb 11 rfl
    rw [hx11] at hb1'
    obtain rfl : gh = b' := by injection hb1'
    simp only [hx9, hx11, Nat.reduceAdd, Nat.zero_add]
    clear hf hfr hfb hx9 hx11 hb1'
    have q0 := (hbk.cell 0).trans (show _ = some (Value.int .i64 0) from rfl)
    have q1 := (hbk.cell 1).trans (show _ = some (Value.int .i64 0) from rfl)
    have q2 := (hbk.cell 2).trans (show _ = some (Value.slice none 0 0) from rfl)
    have q3 := (hbk.cell 3).trans (show _ = some (Value.slice none 0 0) from rfl)
    have f0 := hbk.frozen 0
    have f1 := hbk.frozen 1
    have f2 := hbk.frozen 2
    have f3 := hbk.frozen 3
    clear n0 n1 n2 hS
    go_upto_region 6 with fail
    obtain ⟨w6, hw6⟩ : ∃ X, X = (((w5.setCell ⟨gh, 0, none⟩ (.int .i64 a9)).setCell ⟨gh, 1, none⟩ (.int .i64 v)).setCell ⟨gh, 2, none⟩ (.slice Ap np kp)).setCell ⟨gh, 3, none⟩ (.slice Am nm km) := ⟨_, rfl⟩
    have kh6 : Blk w6 gh 85 #[.int .i64 a9, .int .i64 v, .slice Ap np kp, .slice Am nm km] := by rw [hw6]; exact (((hbk.set_ 0 _).set_ 1 _).set_ 2 _).set_ 3 _
    have hL6 : Later w1 w6 := by rw [hw6]; exact later_set (later_set (later_set (later_set hW _ hb2' _) _ hb2' _) _ hb2' _) _ hb2' _
    rw [← hw6]
    have z1 := (kh6.cell 1).trans (show _ = some (Value.int .i64 v) from rfl)
    have hL06 := Later.trans hL1 hL6
    have y0 := fun W (hW : Later w6 W) => x0 W (Later.trans hL06 hW)
    have y1 := fun W (hW : Later w6 W) => x1 W (Later.trans hL06 hW)
    have y4 := fun W (hW : Later w6 W) => m4 W (Later.trans hL06 hW)
    clear hw6 q0 q1 q2 q3 f0 f1 f2 f3 hbk kh6 x0 x1 m0 m1 m2 m4
    go_upto_region 8 with fail
    clear z1
    refine wp_region_ext_tail (w0 := w6) 6 (by kernel_rfl) (by kernel_rfl) (later_refl _) ?_; simp only [List.take_succ_cons, List.take_zero, List.drop_succ_cons, List.drop_zero]; (repeat (first | go_big_quiet_step (((fail))) | quiet_step (((fail))))); refine wpQuiet_nil ?_; rintro w8 ⟨⟨_, hL8⟩, rfl⟩; (try dsimp only)
    have hs8 := (Hs0.out.later hL06).later hL8
    have hD8 := (HD.out.later hL06).later hL8
    have Hs8 := hide hs8
    have HD8 := hide hD8
    clear y0 y1 y4 hs8 hD8
    refine wpList_mapUpdate_own _ rfl _ _ _ 123 rfl 145 3 law_visit und_visit _ bd n _ rfl HD8.out.own (by unfold maxLen; omega) _ _ _ rfl rfl (keyOf_visit wfb wfm) _ [] (plainElem_int und_int wfv) ?_
    intro w9 hown9 hgrow9
    have h9 := Hs8.out.put2 HD8.out (by omega) (by omega) Hv.out.symm hown9 hgrow9
    have H9 := hide h9
    clear h9 hown9 hgrow9
    go_wp2_with fail
    go_ret
    exact ⟨rfl, (ButS.of_later (Later.trans (Later.trans hL01 hL6) hL8)).trans H9.out.2, H9.out.1⟩
end Go.Proofs.Ytnlbgaippnjmiaa

/- The example of the Mondays: earliest: walks. -/
namespace Go.Proofs.Ytnlbgaippnjmiaa
open Go Go.RowKit Go.Maps
attribute [local go_sem] later_alloc2 later_alloc3 later_alloc4
section
variable {bw bk bd kw n : Nat} {A : Option Addr}
theorem aft_1_0 (X : World) (hs : MSt X bw bk bd A kw n) (hn : n ≤ 1000) : Calls Try.prog 50 #[.pointer (some ⟨bw, 0, none⟩), .int .i64 1, .int .i64 0] X (AftPost bw bk bd A kw (n + 1) 9 X) := by
  have := after_calls (bits := 1) (mi := 0) (nl := 1) (li := [0]) X hs hn (by omega) (by omega) (fun X => listed1_calls X) (by decide) (by decide) (p := [0]) (by decide) (by decide)
  exact this
theorem aft_2_0 (X : World) (hs : MSt X bw bk bd A kw n) (hn : n ≤ 1000) : Calls Try.prog 50 #[.pointer (some ⟨bw, 0, none⟩), .int .i64 2, .int .i64 0] X (AftPost bw bk bd A kw (n + 1) 9 X) := by
  have := after_calls (bits := 2) (mi := 0) (nl := 1) (li := [1]) X hs hn (by omega) (by omega) (fun X => listed2_calls X) (by decide) (by decide) (p := [0]) (by decide) (by decide)
  exact this
theorem aft_1_9 (X : World) (hs : MSt X bw bk bd A kw n) (hn : n ≤ 1000) : Calls Try.prog 50 #[.pointer (some ⟨bw, 0, none⟩), .int .i64 1, .int .i64 9] X (AftPost bw bk bd A kw (n + 1) 18 X) := by
  have := after_calls (bits := 1) (mi := 9) (nl := 1) (li := [0]) X hs hn (by omega) (by omega) (fun X => listed1_calls X) (by decide) (by decide) (p := [0]) (by decide) (by decide)
  exact this
theorem aft_2_9 (X : World) (hs : MSt X bw bk bd A kw n) (hn : n ≤ 1000) : Calls Try.prog 50 #[.pointer (some ⟨bw, 0, none⟩), .int .i64 2, .int .i64 9] X (AftPost bw bk bd A kw (n + 1) 18 X) := by
  have := after_calls (bits := 2) (mi := 9) (nl := 1) (li := [1]) X hs hn (by omega) (by omega) (fun X => listed2_calls X) (by decide) (by decide) (p := [0]) (by decide) (by decide)
  exact this
theorem aft_3_0 (X : World) (hs : MSt X bw bk bd A kw n) (hn : n ≤ 1000) : Calls Try.prog 50 #[.pointer (some ⟨bw, 0, none⟩), .int .i64 3, .int .i64 0] X (AftPost bw bk bd A kw (n + 1) 10 X) := by
  have := after_calls (bits := 3) (mi := 0) (nl := 2) (li := [0, 1]) X hs hn (by omega) (by omega) (fun X => listed3_calls X) (by decide) (by decide) (p := [0, 1]) (by decide) (by decide)
  exact this
set_option maxRecDepth 100000 in
set_option maxHeartbeats 2000000 in
theorem ear0_calls {r : Int} (w : World) (hs : MSt w bw bk bd A kw n) : Calls Try.prog 32 #[.pointer (some ⟨bw, 0, none⟩), .agg #[.int .i64 0, .int .i64 r]] w (AftPost bw bk bd A kw n 0 w) := by
  go_enter Try.func32, Try.ntmps32
  go_wp2_with fail
  go_ret
  exact ⟨rfl, ButS.of_later (later_alloc (later_refl _) _), hs.later (later_alloc (later_refl _) _)⟩
set_option maxRecDepth 100000 in
set_option maxHeartbeats 4000000 in
theorem ear1_calls (w : World) (hs : MSt w bw bk bd A kw n) (hn : n ≤ 900) : Calls Try.prog 32 #[.pointer (some ⟨bw, 0, none⟩), .agg #[.int .i64 1, .int .i64 2]] w (AftPost bw bk bd A kw (n + 2) 9 w) := by
  obtain ⟨w0, hw0⟩ : ∃ X, X = w.alloc (.cells #[.int .i64 1, .int .i64 2] 97) := ⟨_, rfl⟩
  obtain ⟨gx, hgx⟩ : ∃ g, g = w.heap.size := ⟨_, rfl⟩
  have kx : Blk w0 gx 97 #[.int .i64 1, .int .i64 2] := by rw [hw0, hgx]; exact Blk.new _ _ _
  have hL0 : Later w w0 := by rw [hw0]; exact later_alloc (later_refl _) _
  have hs0 := hs.later hL0
  obtain ⟨D, hD⟩ := hs0.kn
  have hlook : ∀ W, Later w0 W → (Instr.lookup 122 (.map (some bk)) (.agg #[.int .i64 1, .int .i64 2]) true).run Try.prog W = .ok (.tuple #[.int .i64 (if Maps.has D (kl ((1 : Nat) : Int) ((2 : Nat) : Int)) = true then 9 else 0), .bool (Maps.has D (kl ((1 : Nat) : Int) ((2 : Nat) : Int)))]) W := fun W hW => (hD.later hW).look law_mspot und_mspot (a := 1) (b := 2) (by omega) (by omega) (keyOf_mspot (h := 1) (m := 2) (by decide) (by decide))
  obtain ⟨is, his⟩ : ∃ b, Maps.has D (kl ((1 : Nat) : Int) ((2 : Nat) : Int)) = b := ⟨_, rfl⟩
  rw [his] at hlook
  have x0 := fun W (hW : Later w0 W) => ((kx.later hW).cell 0).trans (show _ = some (Value.int .i64 1) from rfl)
  have x1 := fun W (hW : Later w0 W) => ((kx.later hW).cell 1).trans (show _ = some (Value.int .i64 2) from rfl)
  have m3 := fun W (hW : Later w0 W) => ((hs0.blk.later hW).cell 3).trans (show _ = some (Value.map (some bk)) from rfl)
  have x00 := x0 w0 (later_refl _)
  have x10 := x1 w0 (later_refl _)
  have Hw0 := hide hw0
  have Hgx := hide hgx
  have Hs0 := hide hs0
  have Kx := hide kx
  clear hw0 hgx hs0 hD kx hs his
  go_enter Try.func32, Try.ntmps32
  go_upto_region 1 with fail
  rw [← Hw0.out, ← Hgx.out]
  go_upto_region 5 with fail
  clear x00 x10
  refine wp_region_ext (w0 := w0) (by kernel_rfl) (by kernel_rfl) (later_refl _) ?_; (repeat (first | go_big_quiet_step (((fail))) | quiet_step (((fail))))); refine wpQuiet_nil ?_; rintro w1 ⟨⟨_, hL1⟩, rfl⟩; (try dsimp only)
  have hL01 := Later.trans hL0 hL1
  have y0 := x0 w1 hL1
  cases is with
  | true =>
    go_wp2_with fail
    go_ret
    exact ⟨rfl, ButS.of_later hL01, (Hs0.out.later hL1).mono (by omega)⟩
  | false =>
    clear hlook
    have Hs1 := hide (Hs0.out.later hL1)
    have Kx1 := hide (Kx.out.later hL1)
    clear x0 x1 m3
    go_wp2_with fail
    clear y0
    go_loopw [7, 5] (fun a v wr => (a = .int .i64 1 ∧ v = .int .i64 199 ∧ wr = w1) ∨ (a = .int .i64 0 ∧ v = .int .i64 9 ∧ Hid (MBut bk bd w1 wr) ∧ Hid (MSt wr bw bk bd A kw (n + 1)))) (fun a _ _ => (intOf a).toNat)
    case atStart => exact .inl ⟨rfl, rfl, rfl⟩
    case round =>
      rcases hrel with ⟨rfl, rfl, rfl⟩ | ⟨rfl, rfl, HB, HS⟩
      · have kx2 := Kx1.out
        have a0 := (kx2.cell 0).trans (show _ = some (Value.int .i64 1) from rfl)
        have a1 := (kx2.cell 1).trans (show _ = some (Value.int .i64 2) from rfl)
        have hbef : Calls Try.prog 32 #[.pointer (some ⟨bw, 0, none⟩), .agg #[.int .i64 0, .int .i64 1]] wr (AftPost bw bk bd A kw (n + 0) 0 wr) := ear0_calls wr Hs1.out
        have Hbef := hide hbef
        have Kx2 := hide kx2
        clear hbef kx2
        go_wp2_with fail
        refine Hbef.out.mono ?_
        rintro e w5 ⟨rfl, hB5, hs5⟩
        have haft := aft_1_0 w5 hs5 (by omega)
        have Haft := hide haft
        have HB5 := hide hB5
        have Hs5 := hide hs5
        clear haft hB5 hs5 a0 a1
        go_wp2_with fail
        refine Haft.out.mono ?_
        rintro e w6 ⟨rfl, hB6, hs6⟩
        have HB6 := hide hB6
        have Hs6 := hide hs6
        clear hB6 hs6
        go_wp2_with fail
        refine (mmin2_calls 199 9 2 _ _ (by simp [go_sem]) (by simp [go_sem])).mono ?_
        rintro e w7 ⟨rfl, rfl⟩
        rw [show min (199 : Int) 9 = 9 by decide]
        have hL7 := later_alloc (later_refl w6) (.cells #[.int .i64 199, .int .i64 9] 3)
        have hB7 := (HB5.out.trans HB6.out).trans (ButS.of_later hL7)
        have kx7 := ((Hs1.out).keep hB7 Kx2.out)
        have a0 := (kx7.cell 0).trans (show _ = some (Value.int .i64 1) from rfl)
        have HB7 := hide hB7
        have Hs7 := hide (Hs6.out.later hL7)
        clear hB7 kx7 hL7
        go_wp2_with fail
        go_roundw
        case rel => exact .inr (⟨by go_num, rfl, HB7, Hs7⟩)
        case measure => simp [intOf] <;> decide
      · have kx2 := Hs1.out.keep HB.out Kx1.out
        have hsr := HS.out
        obtain ⟨D2, hD2⟩ := hsr.kn
        have x0 := fun W (hW : Later wr W) => ((kx2.later hW).cell 0).trans (show _ = some (Value.int .i64 1) from rfl)
        have x1 := fun W (hW : Later wr W) => ((kx2.later hW).cell 1).trans (show _ = some (Value.int .i64 2) from rfl)
        have m3 := fun W (hW : Later wr W) => ((hsr.blk.later hW).cell 3).trans (show _ = some (Value.map (some bk)) from rfl)
        have HD2 := hide hD2
        clear kx2 hsr hD2
        go_wp2_with fail
        refine wp_region_ext_tail (w0 := wr) 6 (by kernel_rfl) (by kernel_rfl) (later_refl _) ?_; simp only [List.take_succ_cons, List.take_zero, List.drop_succ_cons, List.drop_zero]; (repeat (first | go_big_quiet_step (((fail))) | quiet_step (((fail))))); refine wpQuiet_nil ?_; rintro w8 ⟨⟨_, hL8⟩, rfl⟩; (try dsimp only)
        have Hs8 := hide (HS.out.later hL8)
        have HD8 := hide (HD2.out.later hL8)
        clear x0 x1 m3
        refine wpList_mapUpdate_own _ rfl _ _ _ 122 rfl 97 3 law_mspot und_mspot _ bk (n + 1) _ rfl HD8.out.own (by unfold maxLen; omega) _ _ _ rfl rfl (keyOf_mspot (h := 1) (m := 2) (by decide) (by decide)) _ [] (plainElem_int und_int (by decide)) ?_
        intro w9 hown9 hgrow9
        have h9 := Hs8.out.put1 (a := 1) (b := 2) HD8.out (by omega) (by omega) (show _ = earE _ _ by decide) hown9 hgrow9
        have H9 := hide h9
        clear h9 hown9 hgrow9
        go_wp2_with fail
        go_ret
        exact ⟨rfl, (((ButS.of_later hL01).trans HB.out).trans (ButS.of_later hL8)).trans H9.out.2, H9.out.1⟩
set_option maxRecDepth 100000 in
set_option maxHeartbeats 4000000 in
theorem ear2_calls (w : World) (hs : MSt w bw bk bd A kw n) (hn : n ≤ 900) : Calls Try.prog 32 #[.pointer (some ⟨bw, 0, none⟩), .agg #[.int .i64 2, .int .i64 2]] w (AftPost bw bk bd A kw (n + 2) 9 w) := by
  obtain ⟨w0, hw0⟩ : ∃ X, X = w.alloc (.cells #[.int .i64 2, .int .i64 2] 97) := ⟨_, rfl⟩
  obtain ⟨gx, hgx⟩ : ∃ g, g = w.heap.size := ⟨_, rfl⟩
  have kx : Blk w0 gx 97 #[.int .i64 2, .int .i64 2] := by rw [hw0, hgx]; exact Blk.new _ _ _
  have hL0 : Later w w0 := by rw [hw0]; exact later_alloc (later_refl _) _
  have hs0 := hs.later hL0
  obtain ⟨D, hD⟩ := hs0.kn
  have hlook : ∀ W, Later w0 W → (Instr.lookup 122 (.map (some bk)) (.agg #[.int .i64 2, .int .i64 2]) true).run Try.prog W = .ok (.tuple #[.int .i64 (if Maps.has D (kl ((2 : Nat) : Int) ((2 : Nat) : Int)) = true then 9 else 0), .bool (Maps.has D (kl ((2 : Nat) : Int) ((2 : Nat) : Int)))]) W := fun W hW => (hD.later hW).look law_mspot und_mspot (a := 2) (b := 2) (by omega) (by omega) (keyOf_mspot (h := 2) (m := 2) (by decide) (by decide))
  obtain ⟨is, his⟩ : ∃ b, Maps.has D (kl ((2 : Nat) : Int) ((2 : Nat) : Int)) = b := ⟨_, rfl⟩
  rw [his] at hlook
  have x0 := fun W (hW : Later w0 W) => ((kx.later hW).cell 0).trans (show _ = some (Value.int .i64 2) from rfl)
  have x1 := fun W (hW : Later w0 W) => ((kx.later hW).cell 1).trans (show _ = some (Value.int .i64 2) from rfl)
  have m3 := fun W (hW : Later w0 W) => ((hs0.blk.later hW).cell 3).trans (show _ = some (Value.map (some bk)) from rfl)
  have x00 := x0 w0 (later_refl _)
  have x10 := x1 w0 (later_refl _)
  have Hw0 := hide hw0
  have Hgx := hide hgx
  have Hs0 := hide hs0
  have Kx := hide kx
  clear hw0 hgx hs0 hD kx hs his
  go_enter Try.func32, Try.ntmps32
  go_upto_region 1 with fail
  rw [← Hw0.out, ← Hgx.out]
  go_upto_region 5 with fail
  clear x00 x10
  refine wp_region_ext (w0 := w0) (by kernel_rfl) (by kernel_rfl) (later_refl _) ?_; (repeat (first | go_big_quiet_step (((fail))) | quiet_step (((fail))))); refine wpQuiet_nil ?_; rintro w1 ⟨⟨_, hL1⟩, rfl⟩; (try dsimp only)
  have hL01 := Later.trans hL0 hL1
  have y0 := x0 w1 hL1
  cases is with
  | true =>
    go_wp2_with fail
    go_ret
    exact ⟨rfl, ButS.of_later hL01, (Hs0.out.later hL1).mono (by omega)⟩
  | false =>
    clear hlook
    have Hs1 := hide (Hs0.out.later hL1)
    have Kx1 := hide (Kx.out.later hL1)
    clear x0 x1 m3
    go_wp2_with fail
    clear y0
    go_loopw [7, 5] (fun a v wr => (a = .int .i64 2 ∧ v = .int .i64 199 ∧ wr = w1) ∨ (a = .int .i64 0 ∧ v = .int .i64 9 ∧ Hid (MBut bk bd w1 wr) ∧ Hid (MSt wr bw bk bd A kw (n + 1)))) (fun a _ _ => (intOf a).toNat)
    case atStart => exact .inl ⟨rfl, rfl, rfl⟩
    case round =>
      rcases hrel with ⟨rfl, rfl, rfl⟩ | ⟨rfl, rfl, HB, HS⟩
      · have kx2 := Kx1.out
        have a0 := (kx2.cell 0).trans (show _ = some (Value.int .i64 2) from rfl)
        have a1 := (kx2.cell 1).trans (show _ = some (Value.int .i64 2) from rfl)
        have hbef : Calls Try.prog 32 #[.pointer (some ⟨bw, 0, none⟩), .agg #[.int .i64 0, .int .i64 1]] wr (AftPost bw bk bd A kw (n + 0) 0 wr) := ear0_calls wr Hs1.out
        have Hbef := hide hbef
        have Kx2 := hide kx2
        clear hbef kx2
        go_wp2_with fail
        refine Hbef.out.mono ?_
        rintro e w5 ⟨rfl, hB5, hs5⟩
        have haft := aft_2_0 w5 hs5 (by omega)
        have Haft := hide haft
        have HB5 := hide hB5
        have Hs5 := hide hs5
        clear haft hB5 hs5 a0 a1
        go_wp2_with fail
        refine Haft.out.mono ?_
        rintro e w6 ⟨rfl, hB6, hs6⟩
        have HB6 := hide hB6
        have Hs6 := hide hs6
        clear hB6 hs6
        go_wp2_with fail
        refine (mmin2_calls 199 9 2 _ _ (by simp [go_sem]) (by simp [go_sem])).mono ?_
        rintro e w7 ⟨rfl, rfl⟩
        rw [show min (199 : Int) 9 = 9 by decide]
        have hL7 := later_alloc (later_refl w6) (.cells #[.int .i64 199, .int .i64 9] 3)
        have hB7 := (HB5.out.trans HB6.out).trans (ButS.of_later hL7)
        have kx7 := ((Hs1.out).keep hB7 Kx2.out)
        have a0 := (kx7.cell 0).trans (show _ = some (Value.int .i64 2) from rfl)
        have HB7 := hide hB7
        have Hs7 := hide (Hs6.out.later hL7)
        clear hB7 kx7 hL7
        go_wp2_with fail
        go_roundw
        case rel => exact .inr (⟨by go_num, rfl, HB7, Hs7⟩)
        case measure => simp [intOf] <;> decide
      · have kx2 := Hs1.out.keep HB.out Kx1.out
        have hsr := HS.out
        obtain ⟨D2, hD2⟩ := hsr.kn
        have x0 := fun W (hW : Later wr W) => ((kx2.later hW).cell 0).trans (show _ = some (Value.int .i64 2) from rfl)
        have x1 := fun W (hW : Later wr W) => ((kx2.later hW).cell 1).trans (show _ = some (Value.int .i64 2) from rfl)
        have m3 := fun W (hW : Later wr W) => ((hsr.blk.later hW).cell 3).trans (show _ = some (Value.map (some bk)) from rfl)
        have HD2 := hide hD2
        clear kx2 hsr hD2
        go_wp2_with fail
        refine wp_region_ext_tail (w0 := wr) 6 (by kernel_rfl) (by kernel_rfl) (later_refl _) ?_; simp only [List.take_succ_cons, List.take_zero, List.drop_succ_cons, List.drop_zero]; (repeat (first | go_big_quiet_step (((fail))) | quiet_step (((fail))))); refine wpQuiet_nil ?_; rintro w8 ⟨⟨_, hL8⟩, rfl⟩; (try dsimp only)
        have Hs8 := hide (HS.out.later hL8)
        have HD8 := hide (HD2.out.later hL8)
        clear x0 x1 m3
        refine wpList_mapUpdate_own _ rfl _ _ _ 122 rfl 97 3 law_mspot und_mspot _ bk (n + 1) _ rfl HD8.out.own (by unfold maxLen; omega) _ _ _ rfl rfl (keyOf_mspot (h := 2) (m := 2) (by decide) (by decide)) _ [] (plainElem_int und_int (by decide)) ?_
        intro w9 hown9 hgrow9
        have h9 := Hs8.out.put1 (a := 2) (b := 2) HD8.out (by omega) (by omega) (show _ = earE _ _ by decide) hown9 hgrow9
        have H9 := hide h9
        clear h9 hown9 hgrow9
        go_wp2_with fail
        go_ret
        exact ⟨rfl, (((ButS.of_later hL01).trans HB.out).trans (ButS.of_later hL8)).trans H9.out.2, H9.out.1⟩
set_option maxRecDepth 100000 in
set_option maxHeartbeats 4000000 in
theorem ear3_calls (w : World) (hs : MSt w bw bk bd A kw n) (hn : n ≤ 800) : Calls Try.prog 32 #[.pointer (some ⟨bw, 0, none⟩), .agg #[.int .i64 3, .int .i64 3]] w (AftPost bw bk bd A kw (n + 8) 10 w) := by
  obtain ⟨w0, hw0⟩ : ∃ X, X = w.alloc (.cells #[.int .i64 3, .int .i64 3] 97) := ⟨_, rfl⟩
  obtain ⟨gx, hgx⟩ : ∃ g, g = w.heap.size := ⟨_, rfl⟩
  have kx : Blk w0 gx 97 #[.int .i64 3, .int .i64 3] := by rw [hw0, hgx]; exact Blk.new _ _ _
  have hL0 : Later w w0 := by rw [hw0]; exact later_alloc (later_refl _) _
  have hs0 := hs.later hL0
  obtain ⟨D, hD⟩ := hs0.kn
  have hlook : ∀ W, Later w0 W → (Instr.lookup 122 (.map (some bk)) (.agg #[.int .i64 3, .int .i64 3]) true).run Try.prog W = .ok (.tuple #[.int .i64 (if Maps.has D (kl ((3 : Nat) : Int) ((3 : Nat) : Int)) = true then 10 else 0), .bool (Maps.has D (kl ((3 : Nat) : Int) ((3 : Nat) : Int)))]) W := fun W hW => (hD.later hW).look law_mspot und_mspot (a := 3) (b := 3) (by omega) (by omega) (keyOf_mspot (h := 3) (m := 3) (by decide) (by decide))
  obtain ⟨is, his⟩ : ∃ b, Maps.has D (kl ((3 : Nat) : Int) ((3 : Nat) : Int)) = b := ⟨_, rfl⟩
  rw [his] at hlook
  have x0 := fun W (hW : Later w0 W) => ((kx.later hW).cell 0).trans (show _ = some (Value.int .i64 3) from rfl)
  have x1 := fun W (hW : Later w0 W) => ((kx.later hW).cell 1).trans (show _ = some (Value.int .i64 3) from rfl)
  have m3 := fun W (hW : Later w0 W) => ((hs0.blk.later hW).cell 3).trans (show _ = some (Value.map (some bk)) from rfl)
  have x00 := x0 w0 (later_refl _)
  have x10 := x1 w0 (later_refl _)
  have Hw0 := hide hw0
  have Hgx := hide hgx
  have Hs0 := hide hs0
  have Kx := hide kx
  clear hw0 hgx hs0 hD kx hs his
  go_enter Try.func32, Try.ntmps32
  go_upto_region 1 with fail
  rw [← Hw0.out, ← Hgx.out]
  go_upto_region 5 with fail
  clear x00 x10
  refine wp_region_ext (w0 := w0) (by kernel_rfl) (by kernel_rfl) (later_refl _) ?_; (repeat (first | go_big_quiet_step (((fail))) | quiet_step (((fail))))); refine wpQuiet_nil ?_; rintro w1 ⟨⟨_, hL1⟩, rfl⟩; (try dsimp only)
  have hL01 := Later.trans hL0 hL1
  have y0 := x0 w1 hL1
  cases is with
  | true =>
    go_wp2_with fail
    go_ret
    exact ⟨rfl, ButS.of_later hL01, (Hs0.out.later hL1).mono (by omega)⟩
  | false =>
    clear hlook
    have Hs1 := hide (Hs0.out.later hL1)
    have Kx1 := hide (Kx.out.later hL1)
    clear x0 x1 m3
    go_wp2_with fail
    clear y0
    go_loopw [7, 5] (fun a v wr => (a = .int .i64 3 ∧ v = .int .i64 199 ∧ wr = w1) ∨ (a = .int .i64 2 ∧ v = .int .i64 10 ∧ Hid (MBut bk bd w1 wr) ∧ Hid (MSt wr bw bk bd A kw (n + 1))) ∨ (a = .int .i64 1 ∧ v = .int .i64 10 ∧ Hid (MBut bk bd w1 wr) ∧ Hid (MSt wr bw bk bd A kw (n + 4))) ∨ (a = .int .i64 0 ∧ v = .int .i64 10 ∧ Hid (MBut bk bd w1 wr) ∧ Hid (MSt wr bw bk bd A kw (n + 7)))) (fun a _ _ => (intOf a).toNat)
    case atStart => exact .inl ⟨rfl, rfl, rfl⟩
    case round =>
      rcases hrel with ⟨rfl, rfl, rfl⟩ | ⟨rfl, rfl, HB, HS⟩ | ⟨rfl, rfl, HB, HS⟩ | ⟨rfl, rfl, HB, HS⟩
      · have kx2 := Kx1.out
        have a0 := (kx2.cell 0).trans (show _ = some (Value.int .i64 3) from rfl)
        have a1 := (kx2.cell 1).trans (show _ = some (Value.int .i64 3) from rfl)
        have hbef : Calls Try.prog 32 #[.pointer (some ⟨bw, 0, none⟩), .agg #[.int .i64 0, .int .i64 2]] wr (AftPost bw bk bd A kw (n + 0) 0 wr) := ear0_calls wr Hs1.out
        have Hbef := hide hbef
        have Kx2 := hide kx2
        clear hbef kx2
        go_wp2_with fail
        refine Hbef.out.mono ?_
        rintro e w5 ⟨rfl, hB5, hs5⟩
        have haft := aft_3_0 w5 hs5 (by omega)
        have Haft := hide haft
        have HB5 := hide hB5
        have Hs5 := hide hs5
        clear haft hB5 hs5 a0 a1
        go_wp2_with fail
        refine Haft.out.mono ?_
        rintro e w6 ⟨rfl, hB6, hs6⟩
        have HB6 := hide hB6
        have Hs6 := hide hs6
        clear hB6 hs6
        go_wp2_with fail
        refine (mmin2_calls 199 10 2 _ _ (by simp [go_sem]) (by simp [go_sem])).mono ?_
        rintro e w7 ⟨rfl, rfl⟩
        rw [show min (199 : Int) 10 = 10 by decide]
        have hL7 := later_alloc (later_refl w6) (.cells #[.int .i64 199, .int .i64 10] 3)
        have hB7 := (HB5.out.trans HB6.out).trans (ButS.of_later hL7)
        have kx7 := ((Hs1.out).keep hB7 Kx2.out)
        have a0 := (kx7.cell 0).trans (show _ = some (Value.int .i64 3) from rfl)
        have HB7 := hide hB7
        have Hs7 := hide (Hs6.out.later hL7)
        clear hB7 kx7 hL7
        go_wp2_with fail
        go_roundw
        case rel => exact .inr (.inl ⟨by go_num, rfl, HB7, Hs7⟩)
        case measure => simp [intOf] <;> decide
      · have kx2 := Hs1.out.keep HB.out Kx1.out
        have a0 := (kx2.cell 0).trans (show _ = some (Value.int .i64 3) from rfl)
        have a1 := (kx2.cell 1).trans (show _ = some (Value.int .i64 3) from rfl)
        have hbef : Calls Try.prog 32 #[.pointer (some ⟨bw, 0, none⟩), .agg #[.int .i64 1, .int .i64 2]] wr (AftPost bw bk bd A kw (n + 3) 9 wr) := ear1_calls wr HS.out (by omega)
        have Hbef := hide hbef
        have Kx2 := hide kx2
        clear hbef kx2
        go_wp2_with fail
        refine Hbef.out.mono ?_
        rintro e w5 ⟨rfl, hB5, hs5⟩
        have haft := aft_2_9 w5 hs5 (by omega)
        have Haft := hide haft
        have HB5 := hide hB5
        have Hs5 := hide hs5
        clear haft hB5 hs5 a0 a1
        go_wp2_with fail
        refine Haft.out.mono ?_
        rintro e w6 ⟨rfl, hB6, hs6⟩
        have HB6 := hide hB6
        have Hs6 := hide hs6
        clear hB6 hs6
        go_wp2_with fail
        refine (mmin2_calls 10 18 2 _ _ (by simp [go_sem]) (by simp [go_sem])).mono ?_
        rintro e w7 ⟨rfl, rfl⟩
        rw [show min (10 : Int) 18 = 10 by decide]
        have hL7 := later_alloc (later_refl w6) (.cells #[.int .i64 10, .int .i64 18] 3)
        have hB7 := (HB5.out.trans HB6.out).trans (ButS.of_later hL7)
        have kx7 := ((HS.out).keep hB7 Kx2.out)
        have a0 := (kx7.cell 0).trans (show _ = some (Value.int .i64 3) from rfl)
        have HB7 := hide hB7
        have Hs7 := hide (Hs6.out.later hL7)
        clear hB7 kx7 hL7
        go_wp2_with fail
        go_roundw
        case rel => exact .inr (.inr (.inl ⟨by go_num, rfl, HB.out.trans HB7.out, Hs7⟩))
        case measure => simp [intOf] <;> decide
      · have kx2 := Hs1.out.keep HB.out Kx1.out
        have a0 := (kx2.cell 0).trans (show _ = some (Value.int .i64 3) from rfl)
        have a1 := (kx2.cell 1).trans (show _ = some (Value.int .i64 3) from rfl)
        have hbef : Calls Try.prog 32 #[.pointer (some ⟨bw, 0, none⟩), .agg #[.int .i64 2, .int .i64 2]] wr (AftPost bw bk bd A kw (n + 6) 9 wr) := ear2_calls wr HS.out (by omega)
        have Hbef := hide hbef
        have Kx2 := hide kx2
        clear hbef kx2
        go_wp2_with fail
        refine Hbef.out.mono ?_
        rintro e w5 ⟨rfl, hB5, hs5⟩
        have haft := aft_1_9 w5 hs5 (by omega)
        have Haft := hide haft
        have HB5 := hide hB5
        have Hs5 := hide hs5
        clear haft hB5 hs5 a0 a1
        go_wp2_with fail
        refine Haft.out.mono ?_
        rintro e w6 ⟨rfl, hB6, hs6⟩
        have HB6 := hide hB6
        have Hs6 := hide hs6
        clear hB6 hs6
        go_wp2_with fail
        refine (mmin2_calls 10 18 2 _ _ (by simp [go_sem]) (by simp [go_sem])).mono ?_
        rintro e w7 ⟨rfl, rfl⟩
        rw [show min (10 : Int) 18 = 10 by decide]
        have hL7 := later_alloc (later_refl w6) (.cells #[.int .i64 10, .int .i64 18] 3)
        have hB7 := (HB5.out.trans HB6.out).trans (ButS.of_later hL7)
        have kx7 := ((HS.out).keep hB7 Kx2.out)
        have a0 := (kx7.cell 0).trans (show _ = some (Value.int .i64 3) from rfl)
        have HB7 := hide hB7
        have Hs7 := hide (Hs6.out.later hL7)
        clear hB7 kx7 hL7
        go_wp2_with fail
        go_roundw
        case rel => exact .inr (.inr (.inr (⟨by go_num, rfl, HB.out.trans HB7.out, Hs7⟩)))
        case measure => simp [intOf] <;> decide
      · have kx2 := Hs1.out.keep HB.out Kx1.out
        have hsr := HS.out
        obtain ⟨D2, hD2⟩ := hsr.kn
        have x0 := fun W (hW : Later wr W) => ((kx2.later hW).cell 0).trans (show _ = some (Value.int .i64 3) from rfl)
        have x1 := fun W (hW : Later wr W) => ((kx2.later hW).cell 1).trans (show _ = some (Value.int .i64 3) from rfl)
        have m3 := fun W (hW : Later wr W) => ((hsr.blk.later hW).cell 3).trans (show _ = some (Value.map (some bk)) from rfl)
        have HD2 := hide hD2
        clear kx2 hsr hD2
        go_wp2_with fail
        refine wp_region_ext_tail (w0 := wr) 6 (by kernel_rfl) (by kernel_rfl) (later_refl _) ?_; simp only [List.take_succ_cons, List.take_zero, List.drop_succ_cons, List.drop_zero]; (repeat (first | go_big_quiet_step (((fail))) | quiet_step (((fail))))); refine wpQuiet_nil ?_; rintro w8 ⟨⟨_, hL8⟩, rfl⟩; (try dsimp only)
        have Hs8 := hide (HS.out.later hL8)
        have HD8 := hide (HD2.out.later hL8)
        clear x0 x1 m3
        refine wpList_mapUpdate_own _ rfl _ _ _ 122 rfl 97 3 law_mspot und_mspot _ bk (n + 7) _ rfl HD8.out.own (by unfold maxLen; omega) _ _ _ rfl rfl (keyOf_mspot (h := 3) (m := 3) (by decide) (by decide)) _ [] (plainElem_int und_int (by decide)) ?_
        intro w9 hown9 hgrow9
        have h9 := Hs8.out.put1 (a := 3) (b := 3) HD8.out (by omega) (by omega) (show _ = earE _ _ by decide) hown9 hgrow9
        have H9 := hide h9
        clear h9 hown9 hgrow9
        go_wp2_with fail
        go_ret
        exact ⟨rfl, (((ButS.of_later hL01).trans HB.out).trans (ButS.of_later hL8)).trans H9.out.2, H9.out.1⟩
end
end Go.Proofs.Ytnlbgaippnjmiaa

/- The example of the Mondays: the work, the plan: walks. -/
namespace Go.Proofs.Ytnlbgaippnjmiaa
open Go Go.RowKit Go.Maps
attribute [local go_sem] later_alloc2 later_alloc3 later_alloc4
theorem rowI_info : (Try.prog.info? 23).map (fun i => (i.zero, i.size, i.bytes)) = some (some (.slice none 0 0), 1, 24) := by kernel_rfl
theorem reverse1_calls {A : Option Addr} {k : Nat} (w : World) : Calls Try.prog 52 #[.slice A 1 k] w fun e w' => (∃ v, e = .returned v) ∧ w = w' := by
  go_enter Try.func52, Try.ntmps52
  go_wp2_with fail
  go_loopw [2, 3] (fun a b wr => a = .int .i64 0 ∧ b = .int .i64 0 ∧ wr = w) (fun _ _ _ => 0)
  case atStart => exact ⟨rfl, rfl, rfl⟩
  case round =>
    obtain ⟨rfl, rfl, rfl⟩ := hrel
    go_wp2_with fail
    go_end0
    exact ⟨⟨_, rfl⟩, rfl⟩
theorem every_calls {bw bk bd kw n : Nat} {A : Option Addr} (w : World) (hs : MSt w bw bk bd A kw n) : Calls Try.prog 33 #[.pointer (some ⟨bw, 0, none⟩)] w fun e w' => e = .returned (.int .i64 3) ∧ w = w' := by
  have m2 := (hs.blk.cell 2).trans (show _ = some (Value.slice A 2 kw) from rfl)
  clear hs
  go_enter Try.func33, Try.ntmps33
  go_wp2_with fail
  go_ret
  exact ⟨rfl, rfl⟩
def WorkPost (A : Option Addr) (kw : Nat) (w : World) (e : Ending) (w' : World) : Prop :=
  ∃ bw bk bd, e = .returned (.tuple #[.pointer (some ⟨bw, 0, none⟩), .int .i64 0]) ∧ Later w w' ∧ MSt w' bw bk bd A kw 0 ∧ w.heap.size ≤ bk ∧ w.heap.size ≤ bd
set_option maxRecDepth 100000 in
set_option maxHeartbeats 2000000 in
theorem work_calls {A : Option Addr} {kw : Nat} (w : World) (hm : RM w A 2 [hA, hA]) : Calls Try.prog 31 #[.agg #[.int .i64 2, .int .i64 40, .slice A 2 kw], .bool true] w (WorkPost A kw w) := by
  obtain ⟨w0, hw0⟩ : ∃ X, X = w.alloc (.cells #[.int .i64 2, .int .i64 40, .slice A 2 kw] 51) := ⟨_, rfl⟩
  obtain ⟨gx, hgx⟩ : ∃ g, g = w.heap.size := ⟨_, rfl⟩
  have kx : Blk w0 gx 51 #[.int .i64 2, .int .i64 40, .slice A 2 kw] := by rw [hw0, hgx]; exact Blk.new _ _ _
  have hL0 : Later w w0 := by rw [hw0]; exact later_alloc (later_refl _) _
  have hchk := CheckMonday_calls (kw := kw) w0 (hm.later hL0) exA_ok
  have b0 := fun X (hX : Later w0 X) => ((kx.later hX).cell 0).trans (show _ = some (Value.int .i64 2) from rfl)
  have b1 := fun X (hX : Later w0 X) => ((kx.later hX).cell 1).trans (show _ = some (Value.int .i64 40) from rfl)
  have b2 := fun X (hX : Later w0 X) => ((kx.later hX).cell 2).trans (show _ = some (Value.slice A 2 kw) from rfl)
  have c0 := b0 w0 (later_refl _)
  have c1 := b1 w0 (later_refl _)
  have c2 := b2 w0 (later_refl _)
  have Hw0 := hide hw0
  have Hgx := hide hgx
  have Hm := hide hm
  clear hw0 hgx hm kx
  go_enter Try.func31, Try.ntmps31
  go_upto_region 1 with fail
  rw [← Hw0.out, ← Hgx.out]
  go_wp2_with fail
  refine hchk.mono ?_
  rintro e w1 ⟨rfl, hL1⟩
  have d0 := b0 w1 hL1
  have d1 := b1 w1 hL1
  have d2 := b2 w1 hL1
  clear b0 b1 b2 c0 c1 c2 hchk
  have hmm := @run_makeMap Try.prog
  go_upto_region 6 with fail
  clear hmm
  have hmm := @run_makeMap Try.prog
  go_wp2_with fail
  refine bodyPost_ret (v := .tuple #[.pointer (some ⟨w1.heap.size + 1 + 1, 0, none⟩), .int .i64 0]) (by simp [results, Try.results31, go_sem]) rfl ?_
  have hLw := Later.trans hL0 hL1
  have hs1 := hLw.size
  refine ⟨_, w1.heap.size, w1.heap.size + 1, rfl, later_alloc3 hLw _ _ _, ⟨Blk.newAt (by simp) _ _, Hm.out.later (later_alloc3 hLw _ _ _), ⟨_, ((MapF.made rfl).later (later_alloc2 (later_refl _) _ _))⟩, ⟨_, ((MapF.made (by simp)).later (later_alloc (later_refl _) _))⟩, by omega⟩, hs1, by omega⟩
set_option maxRecDepth 100000 in
set_option maxHeartbeats 4000000 in
theorem plan_calls {bw bk bd kw n : Nat} {A : Option Addr} (w : World) (hs : MSt w bw bk bd A kw n) (hn : n ≤ 700) : Calls Try.prog 34 #[.pointer (some ⟨bw, 0, none⟩), .int .i64 3] w fun e w' => (∃ Ap k, e = .returned (.slice Ap 1 k)) ∧ MBut bk bd w w' := by
  obtain ⟨w0, hw0⟩ : ∃ X, X = w.alloc (.cells #[.int .i64 3, .int .i64 3] 97) := ⟨_, rfl⟩
  obtain ⟨gx, hgx⟩ : ∃ g, g = w.heap.size := ⟨_, rfl⟩
  have kx : Blk w0 gx 97 #[.int .i64 3, .int .i64 3] := by rw [hw0, hgx]; exact Blk.new _ _ _
  have hL0 : Later w w0 := by rw [hw0]; exact later_alloc (later_refl _) _
  have hs0 := hs.later hL0
  have Hw0 := hide hw0
  have Hgx := hide hgx
  have Kx := hide kx
  have Hs0 := hide hs0
  clear hw0 hgx kx hs0 hs
  go_enter Try.func34, Try.ntmps34
  go_wp2_with fail
  go_step3
  go_wp2_with fail
  rw [← Hw0.out, ← Hgx.out]
  go_step3
  go_wp2_with fail
  go_loopw [4] (fun v wr => (v = .slice none 0 0 ∧ wr = w0) ∨ ((∃ A' k', v = .slice A' 1 k') ∧ Hid (MBut bk bd w wr) ∧ Hid (Blk wr gx 97 #[.int .i64 0, .int .i64 2]))) (fun v _ => match v with | .slice _ n _ => 1 - n | _ => 0)
  case atStart => exact .inl ⟨rfl, rfl⟩
  case round =>
    rcases hrel with ⟨rfl, rfl⟩ | ⟨⟨A', k', rfl⟩, HB, HX⟩
    · have x0 := (Kx.out.cell 0).trans (show _ = some (Value.int .i64 3) from rfl)
      have x1 := (Kx.out.cell 1).trans (show _ = some (Value.int .i64 3) from rfl)
      go_wp2_with fail
      go_loopw [6, 4] (fun v u wi => v = .int .i64 3 ∧ u = .slice none 0 0 ∧ wi = wr) (fun _ _ _ => 0)
      case atStart => exact ⟨rfl, rfl, rfl⟩
      case round =>
        obtain ⟨rfl, rfl, rfl⟩ := hrel
        have hbn : bits .andNot .i64 3 3 = 0 := by decide
        obtain ⟨w3, hw3⟩ : ∃ X, X = wr.alloc (.cells #[.int .i64 0, .int .i64 2] 97) := ⟨_, rfl⟩
        obtain ⟨gy, hgy⟩ : ∃ g, g = wr.heap.size := ⟨_, rfl⟩
        have ky3 : Blk w3 gy 97 #[.int .i64 0, .int .i64 2] := by rw [hw3, hgy]; exact Blk.new _ _ _
        have hL3 : Later wr w3 := by rw [hw3]; exact later_alloc (later_refl _) _
        have hxy : gx ≠ gy := by rw [hgy]; exact Nat.ne_of_lt Kx.out.lt
        have Hw3 := hide hw3
        have Hgy := hide hgy
        have Kx3 := hide (Kx.out.later hL3)
        have Ky3 := hide ky3
        have Hs3 := hide (Hs0.out.later hL3)
        have y0 := (ky3.cell 0).trans (show _ = some (Value.int .i64 0) from rfl)
        have y1 := (ky3.cell 1).trans (show _ = some (Value.int .i64 2) from rfl)
        clear hw3 hgy ky3
        go_upto_region 7 with fail
        rw [← Hw3.out, ← Hgy.out]
        clear x0 x1 hbn
        go_wp2_with fail
        refine (ear0_calls w3 Hs3.out).mono ?_
        rintro e w4 ⟨rfl, hB4, hs4⟩
        have Kx4 := hide (Hs3.out.keep hB4 Kx3.out)
        have Ky4 := hide (Hs3.out.keep hB4 Ky3.out)
        have HB4 := hide hB4
        have Hs4 := hide hs4
        clear hB4 hs4 y0 y1
        go_upto_region 8 with fail
        obtain ⟨W0, hW0⟩ : ∃ X, X = w4.drew := ⟨_, rfl⟩
        have Kx5 : Hid (Blk W0 gx 97 #[.int .i64 3, .int .i64 3]) := by rw [hW0]; exact Kx4.out.drew
        have Ky5 : Hid (Blk W0 gy 97 #[.int .i64 0, .int .i64 2]) := by rw [hW0]; exact Ky4.out.drew
        have Hs5 : Hid (MSt W0 bw bk bd A kw n) := by rw [hW0]; exact Hs4.out.later (later_drew (later_refl _))
        have HB5 : Hid (MBut bk bd w W0) := by rw [hW0]; exact (((ButS.of_later (Later.trans hL0 hL3)).trans HB4.out).trans (ButS.of_later (later_drew (later_refl _))))
        have hSl : ∀ X, Blk X gx 97 #[.int .i64 3, .int .i64 3] → (X.cell? ⟨gx, 0, none⟩ = some (.int .i64 3) ∧ X.cell? ⟨gx, 1, none⟩ = some (.int .i64 3)) := fun X h => ⟨(h.cell 0).trans rfl, (h.cell 1).trans rfl⟩
        have hS0 := hSl _ Kx5.out
        refine wp_region_held_drew (S := fun X => X.cell? ⟨gx, 0, none⟩ = some (.int .i64 3) ∧ X.cell? ⟨gx, 1, none⟩ = some (.int .i64 3)) (by kernel_rfl) (by rw [← hW0]; exact hS0) (fun _ => ?_)
        rw [← hW0]
        clear hW0
        refine wpAnyH_take (i := 0) (v := ?_) rfl (by kernel_rfl) (by kernel_rfl) (by kernel_rfl) (by intro _ _ _ h; first | exact h | exact absurd h.1 (by simp)) (Or.inl ⟨by rfl, ?_⟩) hS0 ?_; rotate_left; (focus (intro X hSX; (try dsimp only at hSX); go_simp; (try with_reducible rfl))); (try simp only [List.getElem_toArray, List.getElem_cons_zero, List.getElem_cons_succ, Act.put, List.setIfInBounds_toArray, List.set_cons_zero, List.set_cons_succ])
        refine wpAnyH_take (i := 1) (v := ?_) rfl (by kernel_rfl) (by kernel_rfl) (by kernel_rfl) (by intro _ _ _ h; first | exact h | exact absurd h.1 (by simp)) (Or.inl ⟨by rfl, ?_⟩) hS0 ?_; rotate_left; (focus (intro X hSX; (try dsimp only at hSX); go_simp; (try with_reducible rfl))); (try simp only [List.getElem_toArray, List.getElem_cons_zero, List.getElem_cons_succ, Act.put, List.setIfInBounds_toArray, List.set_cons_zero, List.set_cons_succ])
        refine wpAnyH_take (i := 2) (v := ?_) rfl (by kernel_rfl) (by kernel_rfl) (by kernel_rfl) (by intro _ _ _ h; first | exact h | exact absurd h.1 (by simp)) (Or.inl ⟨by rfl, ?_⟩) hS0 ?_; rotate_left; (focus (intro X hSX; (try dsimp only at hSX); go_simp; (try with_reducible rfl))); (try simp only [List.getElem_toArray, List.getElem_cons_zero, List.getElem_cons_succ, Act.put, List.setIfInBounds_toArray, List.set_cons_zero, List.set_cons_succ])
        refine wpAnyH_take (i := 3) (v := ?_) rfl (by kernel_rfl) (by kernel_rfl) (by kernel_rfl) (by intro _ _ _ h; first | exact h | exact absurd h.1 (by simp)) (Or.inl ⟨by rfl, ?_⟩) hS0 ?_; rotate_left; (focus (intro X hSX; (try dsimp only at hSX); go_simp; (try with_reducible rfl))); (try simp only [List.getElem_toArray, List.getElem_cons_zero, List.getElem_cons_succ, Act.put, List.setIfInBounds_toArray, List.set_cons_zero, List.set_cons_succ])
        refine wpAnyH_take (i := 4) (v := ?_) rfl (by kernel_rfl) (by kernel_rfl) (by kernel_rfl) (by intro _ _ _ h; first | exact h | exact absurd h.1 (by simp)) (Or.inl ⟨by rfl, ?_⟩) hS0 ?_; rotate_left; (focus (intro X hSX; (try dsimp only at hSX); go_simp; (try with_reducible rfl))); (try simp only [List.getElem_toArray, List.getElem_cons_zero, List.getElem_cons_succ, Act.put, List.setIfInBounds_toArray, List.set_cons_zero, List.set_cons_succ])
        refine wpAnyH_take (i := 5) (v := ?_) rfl (by kernel_rfl) (by kernel_rfl) (by kernel_rfl) (by intro _ _ _ h; first | exact h | exact absurd h.1 (by simp)) (Or.inl ⟨by rfl, ?_⟩) hS0 ?_; rotate_left; (focus (intro X hSX; (try dsimp only at hSX); go_simp; (try with_reducible rfl))); (try simp only [List.getElem_toArray, List.getElem_cons_zero, List.getElem_cons_succ, Act.put, List.setIfInBounds_toArray, List.set_cons_zero, List.set_cons_succ])
        refine wpAnyH_take (i := 7) (v := ?_) rfl (by kernel_rfl) (by kernel_rfl) (by kernel_rfl) (by intro _ _ _ h; first | exact h | exact absurd h.1 (by simp)) (Or.inl ⟨by rfl, ?_⟩) hS0 ?_; rotate_left; (focus (intro X hSX; (try dsimp only at hSX); go_simp; (try with_reducible rfl))); (try simp only [List.getElem_toArray, List.getElem_cons_zero, List.getElem_cons_succ, Act.put, List.setIfInBounds_toArray, List.set_cons_zero, List.set_cons_succ])
        refine wpAnyH_take (i := 8) (v := ?_) rfl (by kernel_rfl) (by kernel_rfl) (by kernel_rfl) (by intro _ _ _ h; first | exact h | exact absurd h.1 (by simp)) (Or.inl ⟨by rfl, ?_⟩) hS0 ?_; rotate_left; (focus (intro X hSX; (try dsimp only at hSX); go_simp; (try with_reducible rfl))); (try simp only [List.getElem_toArray, List.getElem_cons_zero, List.getElem_cons_succ, Act.put, List.setIfInBounds_toArray, List.set_cons_zero, List.set_cons_succ])
        refine wpAnyH_ready (rs := [6]) (by kernel_rfl) (by simp) ?_
        refine AllReadyH.cons rfl (fun K hK => ?_) AllReadyH.nil
        try simp only [List.getElem_toArray, List.getElem_cons_zero, List.getElem_cons_succ]
        go_simp
        refine (aft_3_0 W0 Hs5.out (by omega)).mono ?_
        rintro e W1 ⟨rfl, hB1, hs1⟩
        have Kx6 := hide (Hs5.out.keep hB1 Kx5.out)
        have Ky6 := hide (Hs5.out.keep hB1 Ky5.out)
        have Hs6 := hide hs1
        have HB6 := hide (HB5.out.trans hB1)
        clear hB1 hs1
        have hS1 := hSl _ Kx6.out
        refine hK.out _ _ hS1 (fun _ => ?_)
        clear hK K
        try simp only [List.getElem_toArray, List.getElem_cons_zero, List.getElem_cons_succ, Act.put, List.setIfInBounds_toArray, List.set_cons_zero, List.set_cons_succ]
        refine wpAnyH_ready (rs := [9]) (by kernel_rfl) (by simp) ?_
        refine AllReadyH.cons rfl (fun K hK => ?_) AllReadyH.nil
        try simp only [List.getElem_toArray, List.getElem_cons_zero, List.getElem_cons_succ]
        go_simp
        refine (ear3_calls W1 Hs6.out (by omega)).mono ?_
        rintro e W2 ⟨rfl, hB1, hs1⟩
        have Kx7 := hide (Hs6.out.keep hB1 Kx6.out)
        have Ky7 := hide (Hs6.out.keep hB1 Ky6.out)
        have HB7 := hide (HB6.out.trans hB1)
        clear hB1 hs1
        have hS2 := hSl _ Kx7.out
        refine hK.out _ _ hS2 (fun _ => ?_)
        clear hK K
        try simp only [List.getElem_toArray, List.getElem_cons_zero, List.getElem_cons_succ, Act.put, List.setIfInBounds_toArray, List.set_cons_zero, List.set_cons_succ]
        refine wpAnyH_take (i := 10) (v := ?_) rfl (by kernel_rfl) (by kernel_rfl) (by kernel_rfl) (by intro _ _ _ h; first | exact h | exact absurd h.1 (by simp)) (Or.inl ⟨by rfl, ?_⟩) hS2 ?_; rotate_left; (focus (intro X hSX; (try dsimp only at hSX); go_simp; (try with_reducible rfl))); (try simp only [List.getElem_toArray, List.getElem_cons_zero, List.getElem_cons_succ, Act.put, List.setIfInBounds_toArray, List.set_cons_zero, List.set_cons_succ])
        refine wpAnyH_take (i := 11) (v := ?_) rfl (by kernel_rfl) (by kernel_rfl) (by kernel_rfl) (by intro _ _ _ h; first | exact h | exact absurd h.1 (by simp)) (Or.inl ⟨by rfl, ?_⟩) hS2 ?_; rotate_left; (focus (intro X hSX; (try dsimp only at hSX); go_simp; (try with_reducible rfl))); (try simp only [List.getElem_toArray, List.getElem_cons_zero, List.getElem_cons_succ, Act.put, List.setIfInBounds_toArray, List.set_cons_zero, List.set_cons_succ])
        refine wpAnyH_done (by kernel_rfl) ?_ _
        clear hS0 hS1 hS2 hSl
        go_upto_region 9 with fail
        obtain ⟨W3, hW3⟩ : ∃ X, X = W2.drew := ⟨_, rfl⟩
        have kx3 : Blk W3 gx 97 #[.int .i64 3, .int .i64 3] := by rw [hW3]; exact Kx7.out.drew
        have ky3 : Blk W3 gy 97 #[.int .i64 0, .int .i64 2] := by rw [hW3]; exact Ky7.out.drew
        have hB3 : MBut bk bd w W3 := by rw [hW3]; exact HB7.out.trans (ButS.of_later (later_drew (later_refl _)))
        have hSl : ∀ X, Blk X gy 97 #[.int .i64 0, .int .i64 2] → (X.cell? ⟨gy, 0, none⟩ = some (.int .i64 0) ∧ X.cell? ⟨gy, 1, none⟩ = some (.int .i64 2)) := fun X h => ⟨(h.cell 0).trans rfl, (h.cell 1).trans rfl⟩
        have HSl := hide hSl
        have hS0 := hSl _ ky3
        have KX3 := hide kx3
        have KY3 := hide ky3
        have HB3 := hide hB3
        refine wp_region_held_drew (S := fun X => X.cell? ⟨gy, 0, none⟩ = some (.int .i64 0) ∧ X.cell? ⟨gy, 1, none⟩ = some (.int .i64 2)) (by kernel_rfl) (by rw [← hW3]; exact hS0) (fun _ => ?_)
        rw [← hW3]
        clear hW3 hSl kx3 ky3 hB3
        refine wpAnyH_take (i := 0) (v := ?_) rfl (by kernel_rfl) (by kernel_rfl) (by kernel_rfl) (by intro _ _ _ h; first | exact h | exact absurd h.1 (by simp)) (Or.inl ⟨by rfl, ?_⟩) hS0 ?_; rotate_left; (focus (intro X hSX; (try dsimp only at hSX); go_simp; (try with_reducible rfl))); (try simp only [List.getElem_toArray, List.getElem_cons_zero, List.getElem_cons_succ, Act.put, List.setIfInBounds_toArray, List.set_cons_zero, List.set_cons_succ])
        refine wpAnyH_take (i := 1) (v := ?_) rfl (by kernel_rfl) (by kernel_rfl) (by kernel_rfl) (by intro _ _ _ h; first | exact h | exact absurd h.1 (by simp)) (Or.inl ⟨by rfl, ?_⟩) hS0 ?_; rotate_left; (focus (intro X hSX; (try dsimp only at hSX); go_simp; (try with_reducible rfl))); (try simp only [List.getElem_toArray, List.getElem_cons_zero, List.getElem_cons_succ, Act.put, List.setIfInBounds_toArray, List.set_cons_zero, List.set_cons_succ])
        refine wpAnyH_take (i := 5) (v := ?_) rfl (by kernel_rfl) (by kernel_rfl) (by kernel_rfl) (by intro _ _ _ h; first | exact h | exact absurd h.1 (by simp)) (Or.inl ⟨by rfl, ?_⟩) hS0 ?_; rotate_left; (focus (intro X hSX; (try dsimp only at hSX); go_simp; (try with_reducible rfl))); (try simp only [List.getElem_toArray, List.getElem_cons_zero, List.getElem_cons_succ, Act.put, List.setIfInBounds_toArray, List.set_cons_zero, List.set_cons_succ])
        refine wpAnyH_ready (rs := [2]) (by kernel_rfl) (by simp) ?_
        refine AllReadyH.cons rfl (fun K hK => ?_) AllReadyH.nil
        try simp only [List.getElem_toArray, List.getElem_cons_zero, List.getElem_cons_succ]
        go_simp
        refine (listed3_calls W3).mono ?_
        rintro e W4 ⟨Al, kl, rfl, hL4, _⟩
        refine hK.out _ _ (HSl.out _ (KY3.out.later hL4)) (fun _ => ?_)
        clear hK K hS0
        try simp only [List.getElem_toArray, List.getElem_cons_zero, List.getElem_cons_succ, Act.put, List.setIfInBounds_toArray, List.set_cons_zero, List.set_cons_succ]
        refine wpAnyH_ready (rs := [3]) (by kernel_rfl) (by simp) ?_
        refine AllReadyH.cons rfl (fun K hK => ?_) AllReadyH.nil
        try simp only [List.getElem_toArray, List.getElem_cons_zero, List.getElem_cons_succ]
        go_simp
        obtain ⟨W5, hW5⟩ : ∃ X, X = W4.alloc (.cells #[.slice Al 2 kl] 23) := ⟨_, rfl⟩
        obtain ⟨gn, hgn⟩ : ∃ g, g = W4.heap.size := ⟨_, rfl⟩
        have kn5 : Blk W5 gn 23 [Value.slice Al 2 kl].toArray := by rw [hW5, hgn]; exact Blk.new _ _ _
        have hL5 : Later W3 W5 := by rw [hW5]; exact later_alloc hL4 _
        rw [← hW5, ← hgn]
        clear hW5 hgn
        refine hK.out _ _ (HSl.out _ (KY3.out.later hL5)) (fun _ => ?_)
        clear hK K
        try simp only [List.getElem_toArray, List.getElem_cons_zero, List.getElem_cons_succ, Act.put, List.setIfInBounds_toArray, List.set_cons_zero, List.set_cons_succ]
        refine wpAnyH_ready (rs := [4]) (by kernel_rfl) (by simp) ?_
        refine AllReadyH.cons rfl (fun K hK => ?_) AllReadyH.nil
        try simp only [List.getElem_toArray, List.getElem_cons_zero, List.getElem_cons_succ]
        refine appG_wp W5.heap.size (.tmp 46) (.tmp 49) 53 rfl 23 (.slice none 0 0) 1 24 Try.underlying53 rowI_info rfl (by omega) (.slice none 0 0) 0 [] rfl (Nat.le_refl _) (World.ownsRow_nil _ _ _ _) ⟨gn, 0, none⟩ 1 1 [Value.slice Al 2 kl] rfl rfl (blk_one kn5) (by simp [Value.oneCell']) (by omega) (by omega) (by omega) ?_
        intro v2 W6 hap
        have hL6 : Later W5 W6 := Later.grown (later_refl _) hap.grown fun g hg => by cases hg
        obtain ⟨g2, k2, rfl⟩ := own_form hap.own (by omega)
        have hL36 := Later.trans hL5 hL6
        clear hap
        have hS6 := HSl.out _ (KY3.out.later hL36)
        refine hK.out _ _ hS6 (fun _ => ?_)
        clear hK K
        try simp only [List.getElem_toArray, List.getElem_cons_zero, List.getElem_cons_succ, Act.put, List.setIfInBounds_toArray, List.set_cons_zero, List.set_cons_succ]
        refine wpAnyH_take (i := 6) (v := ?_) rfl (by kernel_rfl) (by kernel_rfl) (by kernel_rfl) (by intro _ _ _ h; first | exact h | exact absurd h.1 (by simp)) (Or.inl ⟨by rfl, ?_⟩) hS6 ?_; rotate_left; (focus (intro X hSX; (try dsimp only at hSX); go_simp; (try with_reducible rfl))); (try simp only [List.getElem_toArray, List.getElem_cons_zero, List.getElem_cons_succ, Act.put, List.setIfInBounds_toArray, List.set_cons_zero, List.set_cons_succ])
        have kx6 := KX3.out.later hL36
        have e0 := (kx6.cell 0).trans (show _ = some (Value.int .i64 3) from rfl)
        have e1 := (kx6.cell 1).trans (show _ = some (Value.int .i64 3) from rfl)
        have f0 := kx6.frozen 0
        have f1 := kx6.frozen 1
        have kx7 := (kx6.set_ 0 (.int .i64 0)).set_ 1 (.int .i64 2)
        obtain ⟨W7, hW7⟩ : ∃ X, X = (W6.setCell ⟨gx, 0, none⟩ (.int .i64 0)).setCell ⟨gx, 1, none⟩ (.int .i64 2) := ⟨_, rfl⟩
        rw [← hW7] at kx7
        have hgw : w.heap.size ≤ gx := by rw [Hgx.out]; exact Nat.le_refl _
        have h6 : MBut bk bd w W6 := HB3.out.trans (ButS.of_later hL36)
        have hB7 : MBut bk bd w W7 := by
          rw [hW7]
          exact ⟨h6.os, h6.tape, h6.output, by simpa using h6.size, fun b hb hne => (Below.heap_setCell _ _ _ b (by show b ≠ gx; omega)).trans ((Below.heap_setCell _ _ _ b (by show b ≠ gx; omega)).trans (h6.block b hb hne))⟩
        have ky7 : Blk W7 gy 97 #[.int .i64 0, .int .i64 2] := by rw [hW7]; exact ((KY3.out.later hL36).far (fun e => hxy e.symm) _).far (fun e => hxy e.symm) _
        have HB8 := hide hB7
        have KX7 : Hid (Blk W7 gx 97 #[.int .i64 0, .int .i64 2]) := kx7
        have KY7 := hide ky7
        clear kx6 kx7 hB7 ky7
        refine wpAnyH_ready (rs := [7]) (by kernel_rfl) (by simp) ?_
        refine AllReadyH.cons rfl (fun K hK => ?_) AllReadyH.nil
        try simp only [List.getElem_toArray, List.getElem_cons_zero, List.getElem_cons_succ]
        go_simp
        rw [← hW7]
        refine hK.out _ _ (HSl.out _ KY7.out) (fun _ => ?_)
        clear hK K e0 e1 f0 f1 hW7
        try simp only [List.getElem_toArray, List.getElem_cons_zero, List.getElem_cons_succ, Act.put, List.setIfInBounds_toArray, List.set_cons_zero, List.set_cons_succ]
        refine wpAnyH_done (by kernel_rfl) ?_ _
        clear h6
        go_wp2_with fail
        exact ⟨.inr ⟨⟨_, _, rfl⟩, HB8, KX7⟩, by simp⟩
    · have x0 := (HX.out.cell 0).trans (show _ = some (Value.int .i64 0) from rfl)
      go_wp2_with fail
      refine (reverse1_calls _).mono ?_
      rintro e w5 ⟨⟨v, rfl⟩, rfl⟩
      go_wp2_with fail
      rw [Exit.noGoto_ret]
      go_ret
      exact ⟨⟨_, _, rfl⟩, HB.out⟩
end Go.Proofs.Ytnlbgaippnjmiaa

/- The example of the Mondays: Best, aired: walks. -/
namespace Go.Proofs.Ytnlbgaippnjmiaa
open Go Go.RowKit Go.Maps
attribute [local go_sem] later_alloc2 later_alloc3 later_alloc4
set_option maxRecDepth 100000 in
set_option maxHeartbeats 2000000 in
theorem MBest_calls {A : Option Addr} {kw : Nat} (w : World) (hm : RM w A 2 [hA, hA]) : Calls Try.prog 16 #[.agg #[.int .i64 2, .int .i64 40, .slice A 2 kw]] w fun e w' => (∃ Ap k, e = .returned (.tuple #[.slice Ap 1 k, .int .i64 10, .int .i64 0])) ∧ Later w w' := by
  obtain ⟨w0, hw0⟩ : ∃ X, X = w.alloc (.cells #[.int .i64 2, .int .i64 40, .slice A 2 kw] 51) := ⟨_, rfl⟩
  obtain ⟨gx, hgx⟩ : ∃ g, g = w.heap.size := ⟨_, rfl⟩
  have kx : Blk w0 gx 51 #[.int .i64 2, .int .i64 40, .slice A 2 kw] := by rw [hw0, hgx]; exact Blk.new _ _ _
  have hL0 : Later w w0 := by rw [hw0]; exact later_alloc (later_refl _) _
  have hwk := work_calls (kw := kw) w0 (hm.later hL0)
  have c0 := (kx.cell 0).trans (show _ = some (Value.int .i64 2) from rfl)
  have c1 := (kx.cell 1).trans (show _ = some (Value.int .i64 40) from rfl)
  have c2 := (kx.cell 2).trans (show _ = some (Value.slice A 2 kw) from rfl)
  have Hw0 := hide hw0
  have Hgx := hide hgx
  have Hwk := hide hwk
  clear hw0 hgx hwk kx hm
  go_enter Try.func16, Try.ntmps16
  go_upto_region 1 with fail
  rw [← Hw0.out, ← Hgx.out]
  go_wp2_with fail
  refine Hwk.out.mono ?_
  rintro e w1 ⟨bw, bk, bd, rfl, hL1, hs1, hk1, hd1⟩
  clear c0 c1 c2
  have Hs1 := hide hs1
  clear hs1
  go_upto_region 4 with fail
  go_wp2_with fail
  refine (every_calls w1 Hs1.out).mono ?_
  rintro e w2 ⟨rfl, rfl⟩
  go_wp2_with fail
  refine (ear3_calls w1 Hs1.out (by omega)).mono ?_
  rintro e w3 ⟨rfl, hB3, hs3⟩
  have HB3 := hide hB3
  have Hs3 := hide hs3
  clear hB3 hs3
  go_wp2_with fail
  refine (every_calls w3 Hs3.out).mono ?_
  rintro e w4 ⟨rfl, rfl⟩
  go_wp2_with fail
  refine (plan_calls w3 Hs3.out (by omega)).mono ?_
  rintro e w5 ⟨⟨Ap, k, rfl⟩, hB5⟩
  go_wp2_with fail
  refine bodyPost_ret (v := .tuple #[.slice Ap 1 k, .int .i64 10, .int .i64 0]) (by simp [results, Try.results16, go_sem]) rfl ⟨⟨_, _, rfl⟩, ?_⟩
  have hz := hL0.size
  exact (HB3.out.trans hB5).later (Later.trans hL0 hL1) (fun b hb => by rcases hb with rfl | rfl <;> omega)
set_option maxRecDepth 100000 in
set_option maxHeartbeats 2000000 in
theorem aired_calls (w : World) : Calls Try.prog 6 #[] w fun e w' => e = .returned (.bool true) ∧ Later w w' := by
  go_enter Try.func6, Try.ntmps6
  go_upto_region 2 with fail
  go_upto_region 3 with fail
  obtain ⟨g, hg⟩ : ∃ g, g = w.heap.size := ⟨_, rfl⟩
  obtain ⟨w1, hw1⟩ : ∃ X, X = w.alloc (.cells #[.int .i64 9, .int .i64 9, .int .i64 1, .int .i64 0] 66) := ⟨_, rfl⟩
  obtain ⟨w2, hw2⟩ : ∃ X, X = w1.alloc (.cells #[.int .i64 9, .int .i64 9, .int .i64 1, .int .i64 0, .int .i64 9, .int .i64 9, .int .i64 1, .int .i64 0] 66) := ⟨_, rfl⟩
  obtain ⟨w3, hw3⟩ : ∃ X, X = w2.alloc (.cells #[.int .i64 0, .int .i64 1] 3) := ⟨_, rfl⟩
  obtain ⟨w4, hw4⟩ : ∃ X, X = w3.alloc (.cells #[.int .i64 2, .int .i64 40, .slice (some ⟨g + 1, 0, none⟩) 2 2, .slice (some ⟨g + 1 + 1, 0, none⟩) 2 2, .slice none 0 0] 45) := ⟨_, rfl⟩
  have s1 : w1.heap.size = g + 1 := by rw [hw1, hg]; simp
  have s2 : w2.heap.size = g + 1 + 1 := by rw [hw2]; simp [s1]
  have s3 : w3.heap.size = g + 1 + 1 + 1 := by rw [hw3]; simp [s2]
  have hL1 : Later w w1 := by rw [hw1]; exact later_alloc (later_refl _) _
  have hL2 : Later w1 w2 := by rw [hw2]; exact later_alloc (later_refl _) _
  have hL3 : Later w2 w3 := by rw [hw3]; exact later_alloc (later_refl _) _
  have hL4 : Later w3 w4 := by rw [hw4]; exact later_alloc (later_refl _) _
  have hLw := Later.trans hL1 (Later.trans hL2 (Later.trans hL3 hL4))
  have k1 : Blk w4 g 66 #[.int .i64 9, .int .i64 9, .int .i64 1, .int .i64 0] := Blk.later (by rw [hw1]; exact Blk.newAt hg _ _) (Later.trans hL2 (Later.trans hL3 hL4))
  have k2 : Blk w4 (g + 1) 66 #[.int .i64 9, .int .i64 9, .int .i64 1, .int .i64 0, .int .i64 9, .int .i64 9, .int .i64 1, .int .i64 0] := Blk.later (by rw [hw2]; exact Blk.newAt s1.symm _ _) (Later.trans hL3 hL4)
  have k3 : Blk w4 (g + 1 + 1) 3 #[.int .i64 0, .int .i64 1] := Blk.later (by rw [hw3]; exact Blk.newAt s2.symm _ _) hL4
  have k4 : Blk w4 (g + 1 + 1 + 1) 45 #[.int .i64 2, .int .i64 40, .slice (some ⟨g + 1, 0, none⟩) 2 2, .slice (some ⟨g + 1 + 1, 0, none⟩) 2 2, .slice none 0 0] := by rw [hw4]; exact Blk.newAt s3.symm _ _
  have hbest : Calls Try.prog 7 #[.agg #[.int .i64 2, .int .i64 40, .slice (some ⟨g + 1, 0, none⟩) 2 2, .slice (some ⟨g + 1 + 1, 0, none⟩) 2 2, .slice none 0 0]] w4 (BestPost (rndC 2 40 [hA, hA]) w4) :=
    BestP_calls (c := rndC 2 40 [hA, hA]) w4 ⟨blk_reads k2 rfl (fun j u hu => by rw [← List.getElem?_toArray] at hu; exact hu), blk_reads k3 rfl (fun j u hu => by rw [← List.getElem?_toArray] at hu; exact hu), Reads.none_⟩ (by show i64 2; unfold i64; omega) (by omega) (by omega) (by omega) (by omega)
  rw [← hg, ← hw1, ← hw2, ← hw3, ← hw4]
  have e0 := (k4.cell 0).trans (show _ = some (Value.int .i64 2) from rfl)
  have e1 := (k4.cell 1).trans (show _ = some (Value.int .i64 40) from rfl)
  have e2 := (k4.cell 2).trans (show _ = some (Value.slice (some ⟨g + 1, 0, none⟩) 2 2) from rfl)
  have e3 := (k4.cell 3).trans (show _ = some (Value.slice (some ⟨g + 1 + 1, 0, none⟩) 2 2) from rfl)
  have e4 := (k4.cell 4).trans (show _ = some (Value.slice none 0 0) from rfl)
  have Hb := hide hbest
  have K1 := hide k1
  clear hg hw1 hw2 hw3 hw4 s1 s2 s3 hL1 hL2 hL3 hL4 k1 k2 k3 k4 hbest
  go_wp2_with fail
  refine Hb.out.mono ?_
  rintro e w5 ⟨Ap, np, kp, rfl, hL5, _⟩
  rw [exA_best]
  dsimp only
  have k1 := K1.out.later hL5
  have q0 := (k1.cell 0).trans (show _ = some (Value.int .i64 9) from rfl)
  have q1 := (k1.cell 1).trans (show _ = some (Value.int .i64 9) from rfl)
  have q2 := (k1.cell 2).trans (show _ = some (Value.int .i64 1) from rfl)
  have q3 := (k1.cell 3).trans (show _ = some (Value.int .i64 0) from rfl)
  clear e0 e1 e2 e3 e4 k1
  obtain ⟨w6, hw6⟩ : ∃ X, X = w5.alloc (.cells #[.int .i64 0, .int .i64 0, .int .i64 9, .int .i64 9, .int .i64 1, .int .i64 0, .int .i64 0, .int .i64 0, .int .i64 9, .int .i64 9, .int .i64 1, .int .i64 0] 70) := ⟨_, rfl⟩
  have k6 : Blk w6 w5.heap.size 70 #[.int .i64 0, .int .i64 0, .int .i64 9, .int .i64 9, .int .i64 1, .int .i64 0, .int .i64 0, .int .i64 0, .int .i64 9, .int .i64 9, .int .i64 1, .int .i64 0] := by rw [hw6]; exact Blk.new _ _ _
  have hL6 : Later w5 w6 := by rw [hw6]; exact later_alloc (later_refl _) _
  have hmb := MBest_calls (kw := 2) w6 (A := some ⟨w5.heap.size, 0, none⟩) (blk_reads k6 rfl (fun j u hu => by simpa [womV, womC, hA] using hu))
  have Hmb := hide hmb
  have Hw6 := hide hw6
  clear hmb hw6 k6
  go_wp2_with fail
  rw [← Hw6.out]
  refine Hmb.out.mono ?_
  rintro e w7 ⟨⟨Am, km, rfl⟩, hL7⟩
  clear q0 q1 q2 q3
  go_wp2_with fail
  go_ret
  exact ⟨rfl, Later.trans hLw (Later.trans hL5 (Later.trans hL6 hL7))⟩
end Go.Proofs.Ytnlbgaippnjmiaa
