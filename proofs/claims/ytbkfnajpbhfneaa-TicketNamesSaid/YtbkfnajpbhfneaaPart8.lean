/- Part 8 of the proof: joined from the texts TrG, TrH, TrK, TlA. -/
import Derived.Test.YtbkfnajpbhfneaaPart7
import Derived.Test.YtbkfnajpbhfneaaPart6
import Derived.Test.YtbkfnajpbhfneaaPart3
set_option linter.unusedSimpArgs false
set_option linter.unusedVariables false
/- The reference's DoClash: walk. -/
namespace Go.Proofs.Ytbkfnajpbhfneaa
open Go Go.RowKit

set_option maxRecDepth 100000 in
set_option maxHeartbeats 8000000 in
theorem DoClash_calls {A1 A2 A3 : Option Addr} {n1 k1 n2 k2 n3 k3 : Nat} {c : Hou} {Ad : Option Addr} {nd kd : Nat} {d : List Int} {a b : Nat} (w : World) (hc : CV w c A1 n1 A2 n2 A3 n3) (hd : RI w Ad nd d) (ok : OkH c) (he : IsErr c d) (ha : a < n2) (hb : b < n2) :
    Calls Try.prog 60 #[(.agg #[.int .i64 c.hour, .int .i64 c.grace, .slice A1 n1 k1, .slice A2 n2 k2, .slice A3 n3 k3]), .slice Ad nd kd, .int .i64 (a : Int), .int .i64 (b : Int)] w fun e w' => e = .returned (.bool (clashB c d a b)) ∧ Later w w' := by
  have hl3 := hc.cp.len
  have hn3 := ok.n3
  have hm3 : n3 ≤ 1000 := by omega
  clear hl3 hn3
  obtain ⟨w0, hw0⟩ : ∃ W, W = (w.alloc (.cells #[.int .i64 c.hour, .int .i64 c.grace, .slice A1 n1 k1, .slice A2 n2 k2, .slice A3 n3 k3] 26)) := ⟨_, rfl⟩; have hbox : ∀ W, Later w0 W → ∀ i, W.cell? ⟨w.heap.size, i, none⟩ = #[.int .i64 c.hour, .int .i64 c.grace, .slice A1 n1 k1, .slice A2 n2 k2, .slice A3 n3 k3][i]? := (by rw [hw0]; exact box_cells w #[.int .i64 c.hour, .int .i64 c.grace, .slice A1 n1 k1, .slice A2 n2 k2, .slice A3 n3 k3] 26); have hL0 : Later w w0 := (by rw [hw0]; simp); have hc0 := hc.later hL0; have Hw0 := hide hw0; clear hw0
  have hd0 := hd.later hL0
  obtain ⟨bt, ot, x, rfl, _, hx, hx0, hx1⟩ := hc0.tk.get ha
  obtain ⟨y, hy, hy0, hy1⟩ := hc0.tk.at_ hb
  have ha1 : (a : Int) < n2 := by omega
  have hb1 : (b : Int) < n2 := by omega
  have Hcl : Hid (clashB c d a b = (decide (x.1 = y.1) && !(ofR c a).isEmpty && !(ofR c b).isEmpty && cameB c d a b && cameB c d b a)) := by
    show _ = _; unfold clashB; rw [tickAt_of hx, tickAt_of hy]
  have hS0 : Later w0 w0.drew := later_drew (later_refl _)
  clear hx hy hx1 hy1
  by_cases hxy : x.1 = y.1
  · have hnb : (x.1 != y.1) = false := by simpa using hxy
    rw [decide_eq_true hxy, Bool.true_and] at Hcl
    clear hxy
    by_cases hla : (ofR c a).length = 0
    · have Hf : Hid (clashB c d a b = false) := by
        show _ = _; rw [Hcl.out, List.isEmpty_iff.2 (List.eq_nil_of_length_eq_zero hla)]; rfl
      have hlb : ((((ofR c a).length : Nat) : Int) == 0) = true := by simp [hla]
      clear Hcl hla
      go_enter Try.func60, Try.ntmps60
      go_upto_region 1 with fail
      rw [← Hw0.out]; clear Hw0
      refine wp_region_lin (w0 := w0) 27 [] rely_later (by kernel_rfl) (by kernel_rfl) (by kernel_rfl) (by kernel_rfl) (hS0) (.inl rfl) ?_
      simp only [List.take_succ_cons, List.take_zero, List.drop_succ_cons, List.drop_zero]
      refine lin_det (v := ?_) (F' := ?_) (by rfl) (fun _ => by rfl) ?_ ?_ ?_
      rotate_left 2
      focus (intro xs X hX hdep; clear hdep; (try dsimp only); go_simp; (try (first | with_reducible rfl | exact ⟨rfl, rfl⟩ | (fail))))
      focus (intro xs; (try simp only [Act.put, List.setIfInBounds_toArray, List.set_cons_zero, List.set_cons_succ, Nat.reduceAdd]); rfl)
      refine lin_det (v := ?_) (F' := ?_) (by rfl) (fun _ => by rfl) ?_ ?_ ?_
      rotate_left 2
      focus (intro xs X hX hdep; clear hdep; (try dsimp only); go_simp; (try (first | with_reducible rfl | exact ⟨rfl, rfl⟩ | (fail))))
      focus (intro xs; (try simp only [Act.put, List.setIfInBounds_toArray, List.set_cons_zero, List.set_cons_succ, Nat.reduceAdd]); rfl)
      refine lin_det (v := ?_) (F' := ?_) (by rfl) (fun _ => by rfl) ?_ ?_ ?_
      rotate_left 2
      focus (intro xs X hX hdep; clear hdep; (try dsimp only); go_simp; (try (first | with_reducible rfl | exact ⟨rfl, rfl⟩ | (fail))))
      focus (intro xs; (try simp only [Act.put, List.setIfInBounds_toArray, List.set_cons_zero, List.set_cons_succ, Nat.reduceAdd]); rfl)
      refine lin_det (v := ?_) (F' := ?_) (by rfl) (fun _ => by rfl) ?_ ?_ ?_
      rotate_left 2
      focus (intro xs X hX hdep; clear hdep; (try dsimp only); go_simp; (try (first | with_reducible rfl | exact ⟨rfl, rfl⟩ | (fail))))
      focus (intro xs; (try simp only [Act.put, List.setIfInBounds_toArray, List.set_cons_zero, List.set_cons_succ, Nat.reduceAdd]); rfl)
      refine lin_det (v := ?_) (F' := ?_) (by rfl) (fun _ => by rfl) ?_ ?_ ?_
      rotate_left 2
      focus (intro xs X hX hdep; clear hdep; (try dsimp only); go_simp; (try (first | with_reducible rfl | exact ⟨rfl, rfl⟩ | (fail))))
      focus (intro xs; (try simp only [Act.put, List.setIfInBounds_toArray, List.set_cons_zero, List.set_cons_succ, Nat.reduceAdd]); rfl)
      refine lin_det (v := ?_) (F' := ?_) (by rfl) (fun _ => by rfl) ?_ ?_ ?_
      rotate_left 2
      focus (intro xs X hX hdep; clear hdep; (try dsimp only); go_simp; (try (first | with_reducible rfl | exact ⟨rfl, rfl⟩ | (fail))))
      focus (intro xs; (try simp only [Act.put, List.setIfInBounds_toArray, List.set_cons_zero, List.set_cons_succ, Nat.reduceAdd]); rfl)
      refine lin_det (v := ?_) (F' := ?_) (by rfl) (fun _ => by rfl) ?_ ?_ ?_
      rotate_left 2
      focus (intro xs X hX hdep; clear hdep; (try dsimp only); go_simp; (try (first | with_reducible rfl | exact ⟨rfl, rfl⟩ | (fail))))
      focus (intro xs; (try simp only [Act.put, List.setIfInBounds_toArray, List.set_cons_zero, List.set_cons_succ, Nat.reduceAdd]); rfl)
      refine lin_det (v := ?_) (F' := ?_) (by rfl) (fun _ => by rfl) ?_ ?_ ?_
      rotate_left 2
      focus (intro xs X hX hdep; clear hdep; (try dsimp only); go_simp; (try (first | with_reducible rfl | exact ⟨rfl, rfl⟩ | (fail))))
      focus (intro xs; (try simp only [Act.put, List.setIfInBounds_toArray, List.set_cons_zero, List.set_cons_succ, Nat.reduceAdd]); rfl)
      refine lin_det (v := ?_) (F' := ?_) (by rfl) (fun _ => by rfl) ?_ ?_ ?_
      rotate_left 2
      focus (intro xs X hX hdep; clear hdep; (try dsimp only); go_simp; (try (first | with_reducible rfl | exact ⟨rfl, rfl⟩ | (fail))))
      focus (intro xs; (try simp only [Act.put, List.setIfInBounds_toArray, List.set_cons_zero, List.set_cons_succ, Nat.reduceAdd]); rfl)
      refine lin_det (v := ?_) (F' := ?_) (by rfl) (fun _ => by rfl) ?_ ?_ ?_
      rotate_left 2
      focus (intro xs X hX hdep; clear hdep; (try dsimp only); go_simp; (try (first | with_reducible rfl | exact ⟨rfl, rfl⟩ | (fail))))
      focus (intro xs; (try simp only [Act.put, List.setIfInBounds_toArray, List.set_cons_zero, List.set_cons_succ, Nat.reduceAdd]); rfl)
      refine lin_det (v := ?_) (F' := ?_) (by rfl) (fun _ => by rfl) ?_ ?_ ?_
      rotate_left 2
      focus (intro xs X hX hdep; clear hdep; (try dsimp only); go_simp; (try (first | with_reducible rfl | exact ⟨rfl, rfl⟩ | (fail))))
      focus (intro xs; (try simp only [Act.put, List.setIfInBounds_toArray, List.set_cons_zero, List.set_cons_succ, Nat.reduceAdd]); rfl)
      refine lin_det (v := ?_) (F' := ?_) (by rfl) (fun _ => by rfl) ?_ ?_ ?_
      rotate_left 2
      focus (intro xs X hX hdep; clear hdep; (try dsimp only); go_simp; (try (first | with_reducible rfl | exact ⟨rfl, rfl⟩ | (fail))))
      focus (intro xs; (try simp only [Act.put, List.setIfInBounds_toArray, List.set_cons_zero, List.set_cons_succ, Nat.reduceAdd]); rfl)
      refine lin_det (v := ?_) (F' := ?_) (by rfl) (fun _ => by rfl) ?_ ?_ ?_
      rotate_left 2
      focus (intro xs X hX hdep; clear hdep; (try dsimp only); go_simp; (try (first | with_reducible rfl | exact ⟨rfl, rfl⟩ | (fail))))
      focus (intro xs; (try simp only [Act.put, List.setIfInBounds_toArray, List.set_cons_zero, List.set_cons_succ, Nat.reduceAdd]); rfl)
      refine lin_det (v := ?_) (F' := ?_) (by rfl) (fun _ => by rfl) ?_ ?_ ?_
      rotate_left 2
      focus (intro xs X hX hdep; clear hdep; (try dsimp only); go_simp; (try (first | with_reducible rfl | exact ⟨rfl, rfl⟩ | (fail))))
      focus (intro xs; (try simp only [Act.put, List.setIfInBounds_toArray, List.set_cons_zero, List.set_cons_succ, Nat.reduceAdd]); rfl)
      refine lin_det (v := ?_) (F' := ?_) (by rfl) (fun _ => by rfl) ?_ ?_ ?_
      rotate_left 2
      focus (intro xs X hX hdep; clear hdep; (try dsimp only); go_simp; (try (first | with_reducible rfl | exact ⟨rfl, rfl⟩ | (fail))))
      focus (intro xs; (try simp only [Act.put, List.setIfInBounds_toArray, List.set_cons_zero, List.set_cons_succ, Nat.reduceAdd]); rfl)
      refine lin_det (v := ?_) (F' := ?_) (by rfl) (fun _ => by rfl) ?_ ?_ ?_
      rotate_left 2
      focus (intro xs X hX hdep; clear hdep; (try dsimp only); go_simp; (try (first | with_reducible rfl | exact ⟨rfl, rfl⟩ | (fail))))
      focus (intro xs; (try simp only [Act.put, List.setIfInBounds_toArray, List.set_cons_zero, List.set_cons_succ, Nat.reduceAdd]); rfl)
      skip
      refine lin_any (IsR (ofR c (a : Int)).length (nats (ofR c (a : Int)))) false (fun v W W' k h => IsR.later h k) (F' := ?_) (by rfl) (fun _ => by rfl) ?_ ?_ ?_
      rotate_left 1
      focus (intro xs X hX hdep; skip; clear hdep; intro K hK; (try dsimp only); go_simp; (refine (Of_calls (k1 := k1) (k2 := k2) (k3 := k3) X (hc0.later hX) hm3).mono ?_; rintro e W' ⟨A, k, rfl, hL, hri⟩; exact hK.out _ _ rfl hL ⟨A, k, rfl, hri⟩ (fun h => by cases h)))
      focus (intro xs; (try simp only [Act.put, List.setIfInBounds_toArray, List.set_cons_zero, List.set_cons_succ, Nat.reduceAdd]); rfl)
      skip
      refine lin_det_last (j := 16) (v := ?_) (F' := ?_) (by rfl) (fun _ => by rfl) (by kernel_rfl) (by kernel_rfl) ?_ ?_ ?_
      rotate_left 2
      focus (intro xs X hX hs; obtain ⟨A, k, e, hr⟩ := (show IsR _ _ _ _ from hs); (try dsimp only); go_simp; (try (first | with_reducible rfl | exact ⟨rfl, rfl⟩ | (fail))))
      focus (intro xs; (try simp only [Act.put, List.setIfInBounds_toArray, List.set_cons_zero, List.set_cons_succ, Nat.reduceAdd]); rfl)
      refine lin_det (v := ?_) (F' := ?_) (by rfl) (fun _ => by rfl) ?_ ?_ ?_
      rotate_left 2
      focus (intro xs X hX hdep; clear hdep; (try dsimp only); go_simp; (try (first | with_reducible rfl | exact ⟨rfl, rfl⟩ | (fail))))
      focus (intro xs; (try simp only [Act.put, List.setIfInBounds_toArray, List.set_cons_zero, List.set_cons_succ, Nat.reduceAdd]); rfl)
      refine lin_det (v := ?_) (F' := ?_) (by rfl) (fun _ => by rfl) ?_ ?_ ?_
      rotate_left 2
      focus (intro xs X hX hdep; clear hdep; (try dsimp only); go_simp; (try (first | with_reducible rfl | exact ⟨rfl, rfl⟩ | (fail))))
      focus (intro xs; (try simp only [Act.put, List.setIfInBounds_toArray, List.set_cons_zero, List.set_cons_succ, Nat.reduceAdd]); rfl)
      refine lin_det (v := ?_) (F' := ?_) (by rfl) (fun _ => by rfl) ?_ ?_ ?_
      rotate_left 2
      focus (intro xs X hX hdep; clear hdep; (try dsimp only); go_simp; (try (first | with_reducible rfl | exact ⟨rfl, rfl⟩ | (fail))))
      focus (intro xs; (try simp only [Act.put, List.setIfInBounds_toArray, List.set_cons_zero, List.set_cons_succ, Nat.reduceAdd]); rfl)
      refine lin_skip (F' := ?_) (by rfl) (fun _ => by rfl) ?_ ?_
      rotate_left 1
      focus (intro xs; (try simp only [Act.put, List.setIfInBounds_toArray, List.set_cons_zero, List.set_cons_succ, Nat.reduceAdd]); rfl)
      refine lin_skip (F' := ?_) (by rfl) (fun _ => by rfl) ?_ ?_
      rotate_left 1
      focus (intro xs; (try simp only [Act.put, List.setIfInBounds_toArray, List.set_cons_zero, List.set_cons_succ, Nat.reduceAdd]); rfl)
      refine lin_skip (F' := ?_) (by rfl) (fun _ => by rfl) ?_ ?_
      rotate_left 1
      focus (intro xs; (try simp only [Act.put, List.setIfInBounds_toArray, List.set_cons_zero, List.set_cons_succ, Nat.reduceAdd]); rfl)
      refine lin_skip (F' := ?_) (by rfl) (fun _ => by rfl) ?_ ?_
      rotate_left 1
      focus (intro xs; (try simp only [Act.put, List.setIfInBounds_toArray, List.set_cons_zero, List.set_cons_succ, Nat.reduceAdd]); rfl)
      refine lin_skip (F' := ?_) (by rfl) (fun _ => by rfl) ?_ ?_
      rotate_left 1
      focus (intro xs; (try simp only [Act.put, List.setIfInBounds_toArray, List.set_cons_zero, List.set_cons_succ, Nat.reduceAdd]); rfl)
      refine lin_det (v := ?_) (F' := ?_) (by rfl) (fun _ => by rfl) ?_ ?_ ?_
      rotate_left 2
      focus (intro xs X hX hdep; clear hdep; (try dsimp only); go_simp; (try (first | with_reducible rfl | exact ⟨rfl, rfl⟩ | (fail))))
      focus (intro xs; (try simp only [Act.put, List.setIfInBounds_toArray, List.set_cons_zero, List.set_cons_succ, Nat.reduceAdd]); rfl)
      intro xs w1 hW hf hfr hfb
      clear hf hfr hfb
      go_wp2_with fail
      go_ret
      exact ⟨by rw [Hf.out]; rfl, Later.trans hL0 hW⟩
    · have hla2 : ofR c a ≠ [] := fun e => hla (by rw [e]; rfl)
      have hlab : ((((ofR c a).length : Nat) : Int) == 0) = false := by simp; exact hla2
      have hea : (ofR c a).isEmpty = false := by simpa using hla2
      rw [hea, Bool.not_false, Bool.true_and] at Hcl
      clear hla hea
      by_cases hlb : (ofR c b).length = 0
      · have Hf : Hid (clashB c d a b = false) := by
          show _ = _; rw [Hcl.out, List.isEmpty_iff.2 (List.eq_nil_of_length_eq_zero hlb)]; rfl
        have hlbb : ((((ofR c b).length : Nat) : Int) == 0) = true := by simp [hlb]
        have Hla := hide hla2
        clear Hcl hlb hla2
        go_enter Try.func60, Try.ntmps60
        go_upto_region 1 with fail
        rw [← Hw0.out]; clear Hw0
        refine wp_region_lin (w0 := w0) 27 [] rely_later (by kernel_rfl) (by kernel_rfl) (by kernel_rfl) (by kernel_rfl) (hS0) (.inl rfl) ?_
        simp only [List.take_succ_cons, List.take_zero, List.drop_succ_cons, List.drop_zero]
        refine lin_det (v := ?_) (F' := ?_) (by rfl) (fun _ => by rfl) ?_ ?_ ?_
        rotate_left 2
        focus (intro xs X hX hdep; clear hdep; (try dsimp only); go_simp; (try (first | with_reducible rfl | exact ⟨rfl, rfl⟩ | (fail))))
        focus (intro xs; (try simp only [Act.put, List.setIfInBounds_toArray, List.set_cons_zero, List.set_cons_succ, Nat.reduceAdd]); rfl)
        refine lin_det (v := ?_) (F' := ?_) (by rfl) (fun _ => by rfl) ?_ ?_ ?_
        rotate_left 2
        focus (intro xs X hX hdep; clear hdep; (try dsimp only); go_simp; (try (first | with_reducible rfl | exact ⟨rfl, rfl⟩ | (fail))))
        focus (intro xs; (try simp only [Act.put, List.setIfInBounds_toArray, List.set_cons_zero, List.set_cons_succ, Nat.reduceAdd]); rfl)
        refine lin_det (v := ?_) (F' := ?_) (by rfl) (fun _ => by rfl) ?_ ?_ ?_
        rotate_left 2
        focus (intro xs X hX hdep; clear hdep; (try dsimp only); go_simp; (try (first | with_reducible rfl | exact ⟨rfl, rfl⟩ | (fail))))
        focus (intro xs; (try simp only [Act.put, List.setIfInBounds_toArray, List.set_cons_zero, List.set_cons_succ, Nat.reduceAdd]); rfl)
        refine lin_det (v := ?_) (F' := ?_) (by rfl) (fun _ => by rfl) ?_ ?_ ?_
        rotate_left 2
        focus (intro xs X hX hdep; clear hdep; (try dsimp only); go_simp; (try (first | with_reducible rfl | exact ⟨rfl, rfl⟩ | (fail))))
        focus (intro xs; (try simp only [Act.put, List.setIfInBounds_toArray, List.set_cons_zero, List.set_cons_succ, Nat.reduceAdd]); rfl)
        refine lin_det (v := ?_) (F' := ?_) (by rfl) (fun _ => by rfl) ?_ ?_ ?_
        rotate_left 2
        focus (intro xs X hX hdep; clear hdep; (try dsimp only); go_simp; (try (first | with_reducible rfl | exact ⟨rfl, rfl⟩ | (fail))))
        focus (intro xs; (try simp only [Act.put, List.setIfInBounds_toArray, List.set_cons_zero, List.set_cons_succ, Nat.reduceAdd]); rfl)
        refine lin_det (v := ?_) (F' := ?_) (by rfl) (fun _ => by rfl) ?_ ?_ ?_
        rotate_left 2
        focus (intro xs X hX hdep; clear hdep; (try dsimp only); go_simp; (try (first | with_reducible rfl | exact ⟨rfl, rfl⟩ | (fail))))
        focus (intro xs; (try simp only [Act.put, List.setIfInBounds_toArray, List.set_cons_zero, List.set_cons_succ, Nat.reduceAdd]); rfl)
        refine lin_det (v := ?_) (F' := ?_) (by rfl) (fun _ => by rfl) ?_ ?_ ?_
        rotate_left 2
        focus (intro xs X hX hdep; clear hdep; (try dsimp only); go_simp; (try (first | with_reducible rfl | exact ⟨rfl, rfl⟩ | (fail))))
        focus (intro xs; (try simp only [Act.put, List.setIfInBounds_toArray, List.set_cons_zero, List.set_cons_succ, Nat.reduceAdd]); rfl)
        refine lin_det (v := ?_) (F' := ?_) (by rfl) (fun _ => by rfl) ?_ ?_ ?_
        rotate_left 2
        focus (intro xs X hX hdep; clear hdep; (try dsimp only); go_simp; (try (first | with_reducible rfl | exact ⟨rfl, rfl⟩ | (fail))))
        focus (intro xs; (try simp only [Act.put, List.setIfInBounds_toArray, List.set_cons_zero, List.set_cons_succ, Nat.reduceAdd]); rfl)
        refine lin_det (v := ?_) (F' := ?_) (by rfl) (fun _ => by rfl) ?_ ?_ ?_
        rotate_left 2
        focus (intro xs X hX hdep; clear hdep; (try dsimp only); go_simp; (try (first | with_reducible rfl | exact ⟨rfl, rfl⟩ | (fail))))
        focus (intro xs; (try simp only [Act.put, List.setIfInBounds_toArray, List.set_cons_zero, List.set_cons_succ, Nat.reduceAdd]); rfl)
        refine lin_det (v := ?_) (F' := ?_) (by rfl) (fun _ => by rfl) ?_ ?_ ?_
        rotate_left 2
        focus (intro xs X hX hdep; clear hdep; (try dsimp only); go_simp; (try (first | with_reducible rfl | exact ⟨rfl, rfl⟩ | (fail))))
        focus (intro xs; (try simp only [Act.put, List.setIfInBounds_toArray, List.set_cons_zero, List.set_cons_succ, Nat.reduceAdd]); rfl)
        refine lin_det (v := ?_) (F' := ?_) (by rfl) (fun _ => by rfl) ?_ ?_ ?_
        rotate_left 2
        focus (intro xs X hX hdep; clear hdep; (try dsimp only); go_simp; (try (first | with_reducible rfl | exact ⟨rfl, rfl⟩ | (fail))))
        focus (intro xs; (try simp only [Act.put, List.setIfInBounds_toArray, List.set_cons_zero, List.set_cons_succ, Nat.reduceAdd]); rfl)
        refine lin_det (v := ?_) (F' := ?_) (by rfl) (fun _ => by rfl) ?_ ?_ ?_
        rotate_left 2
        focus (intro xs X hX hdep; clear hdep; (try dsimp only); go_simp; (try (first | with_reducible rfl | exact ⟨rfl, rfl⟩ | (fail))))
        focus (intro xs; (try simp only [Act.put, List.setIfInBounds_toArray, List.set_cons_zero, List.set_cons_succ, Nat.reduceAdd]); rfl)
        refine lin_det (v := ?_) (F' := ?_) (by rfl) (fun _ => by rfl) ?_ ?_ ?_
        rotate_left 2
        focus (intro xs X hX hdep; clear hdep; (try dsimp only); go_simp; (try (first | with_reducible rfl | exact ⟨rfl, rfl⟩ | (fail))))
        focus (intro xs; (try simp only [Act.put, List.setIfInBounds_toArray, List.set_cons_zero, List.set_cons_succ, Nat.reduceAdd]); rfl)
        refine lin_det (v := ?_) (F' := ?_) (by rfl) (fun _ => by rfl) ?_ ?_ ?_
        rotate_left 2
        focus (intro xs X hX hdep; clear hdep; (try dsimp only); go_simp; (try (first | with_reducible rfl | exact ⟨rfl, rfl⟩ | (fail))))
        focus (intro xs; (try simp only [Act.put, List.setIfInBounds_toArray, List.set_cons_zero, List.set_cons_succ, Nat.reduceAdd]); rfl)
        refine lin_det (v := ?_) (F' := ?_) (by rfl) (fun _ => by rfl) ?_ ?_ ?_
        rotate_left 2
        focus (intro xs X hX hdep; clear hdep; (try dsimp only); go_simp; (try (first | with_reducible rfl | exact ⟨rfl, rfl⟩ | (fail))))
        focus (intro xs; (try simp only [Act.put, List.setIfInBounds_toArray, List.set_cons_zero, List.set_cons_succ, Nat.reduceAdd]); rfl)
        refine lin_det (v := ?_) (F' := ?_) (by rfl) (fun _ => by rfl) ?_ ?_ ?_
        rotate_left 2
        focus (intro xs X hX hdep; clear hdep; (try dsimp only); go_simp; (try (first | with_reducible rfl | exact ⟨rfl, rfl⟩ | (fail))))
        focus (intro xs; (try simp only [Act.put, List.setIfInBounds_toArray, List.set_cons_zero, List.set_cons_succ, Nat.reduceAdd]); rfl)
        skip
        refine lin_any (IsR (ofR c (a : Int)).length (nats (ofR c (a : Int)))) false (fun v W W' k h => IsR.later h k) (F' := ?_) (by rfl) (fun _ => by rfl) ?_ ?_ ?_
        rotate_left 1
        focus (intro xs X hX hdep; skip; clear hdep; intro K hK; (try dsimp only); go_simp; (refine (Of_calls (k1 := k1) (k2 := k2) (k3 := k3) X (hc0.later hX) hm3).mono ?_; rintro e W' ⟨A, k, rfl, hL, hri⟩; exact hK.out _ _ rfl hL ⟨A, k, rfl, hri⟩ (fun h => by cases h)))
        focus (intro xs; (try simp only [Act.put, List.setIfInBounds_toArray, List.set_cons_zero, List.set_cons_succ, Nat.reduceAdd]); rfl)
        skip
        refine lin_det_last (j := 16) (v := ?_) (F' := ?_) (by rfl) (fun _ => by rfl) (by kernel_rfl) (by kernel_rfl) ?_ ?_ ?_
        rotate_left 2
        focus (intro xs X hX hs; obtain ⟨A, k, e, hr⟩ := (show IsR _ _ _ _ from hs); (try dsimp only); go_simp; (try (first | with_reducible rfl | exact ⟨rfl, rfl⟩ | (fail))))
        focus (intro xs; (try simp only [Act.put, List.setIfInBounds_toArray, List.set_cons_zero, List.set_cons_succ, Nat.reduceAdd]); rfl)
        refine lin_det (v := ?_) (F' := ?_) (by rfl) (fun _ => by rfl) ?_ ?_ ?_
        rotate_left 2
        focus (intro xs X hX hdep; clear hdep; (try dsimp only); go_simp; (try (first | with_reducible rfl | exact ⟨rfl, rfl⟩ | (fail))))
        focus (intro xs; (try simp only [Act.put, List.setIfInBounds_toArray, List.set_cons_zero, List.set_cons_succ, Nat.reduceAdd]); rfl)
        refine lin_det (v := ?_) (F' := ?_) (by rfl) (fun _ => by rfl) ?_ ?_ ?_
        rotate_left 2
        focus (intro xs X hX hdep; clear hdep; (try dsimp only); go_simp; (try (first | with_reducible rfl | exact ⟨rfl, rfl⟩ | (fail))))
        focus (intro xs; (try simp only [Act.put, List.setIfInBounds_toArray, List.set_cons_zero, List.set_cons_succ, Nat.reduceAdd]); rfl)
        refine lin_det (v := ?_) (F' := ?_) (by rfl) (fun _ => by rfl) ?_ ?_ ?_
        rotate_left 2
        focus (intro xs X hX hdep; clear hdep; (try dsimp only); go_simp; (try (first | with_reducible rfl | exact ⟨rfl, rfl⟩ | (fail))))
        focus (intro xs; (try simp only [Act.put, List.setIfInBounds_toArray, List.set_cons_zero, List.set_cons_succ, Nat.reduceAdd]); rfl)
        refine lin_det (v := ?_) (F' := ?_) (by rfl) (fun _ => by rfl) ?_ ?_ ?_
        rotate_left 2
        focus (intro xs X hX hdep; clear hdep; (try dsimp only); go_simp; (try (first | with_reducible rfl | exact ⟨rfl, rfl⟩ | (fail))))
        focus (intro xs; (try simp only [Act.put, List.setIfInBounds_toArray, List.set_cons_zero, List.set_cons_succ, Nat.reduceAdd]); rfl)
        refine lin_det (v := ?_) (F' := ?_) (by rfl) (fun _ => by rfl) ?_ ?_ ?_
        rotate_left 2
        focus (intro xs X hX hdep; clear hdep; (try dsimp only); go_simp; (try (first | with_reducible rfl | exact ⟨rfl, rfl⟩ | (fail))))
        focus (intro xs; (try simp only [Act.put, List.setIfInBounds_toArray, List.set_cons_zero, List.set_cons_succ, Nat.reduceAdd]); rfl)
        skip
        refine lin_any (IsR (ofR c (b : Int)).length (nats (ofR c (b : Int)))) false (fun v W W' k h => IsR.later h k) (F' := ?_) (by rfl) (fun _ => by rfl) ?_ ?_ ?_
        rotate_left 1
        focus (intro xs X hX hdep; skip; clear hdep; intro K hK; (try dsimp only); go_simp; (refine (Of_calls (k1 := k1) (k2 := k2) (k3 := k3) X (hc0.later hX) hm3).mono ?_; rintro e W' ⟨A, k, rfl, hL, hri⟩; exact hK.out _ _ rfl hL ⟨A, k, rfl, hri⟩ (fun h => by cases h)))
        focus (intro xs; (try simp only [Act.put, List.setIfInBounds_toArray, List.set_cons_zero, List.set_cons_succ, Nat.reduceAdd]); rfl)
        skip
        refine lin_det_last (j := 23) (v := ?_) (F' := ?_) (by rfl) (fun _ => by rfl) (by kernel_rfl) (by kernel_rfl) ?_ ?_ ?_
        rotate_left 2
        focus (intro xs X hX hs; obtain ⟨A, k, e, hr⟩ := (show IsR _ _ _ _ from hs); (try dsimp only); go_simp; (try (first | with_reducible rfl | exact ⟨rfl, rfl⟩ | (fail))))
        focus (intro xs; (try simp only [Act.put, List.setIfInBounds_toArray, List.set_cons_zero, List.set_cons_succ, Nat.reduceAdd]); rfl)
        refine lin_det (v := ?_) (F' := ?_) (by rfl) (fun _ => by rfl) ?_ ?_ ?_
        rotate_left 2
        focus (intro xs X hX hdep; clear hdep; (try dsimp only); go_simp; (try (first | with_reducible rfl | exact ⟨rfl, rfl⟩ | (fail))))
        focus (intro xs; (try simp only [Act.put, List.setIfInBounds_toArray, List.set_cons_zero, List.set_cons_succ, Nat.reduceAdd]); rfl)
        refine lin_det (v := ?_) (F' := ?_) (by rfl) (fun _ => by rfl) ?_ ?_ ?_
        rotate_left 2
        focus (intro xs X hX hdep; clear hdep; (try dsimp only); go_simp; (try (first | with_reducible rfl | exact ⟨rfl, rfl⟩ | (fail))))
        focus (intro xs; (try simp only [Act.put, List.setIfInBounds_toArray, List.set_cons_zero, List.set_cons_succ, Nat.reduceAdd]); rfl)
        intro xs w1 hW hf hfr hfb
        clear hf hfr hfb
        go_wp2_with fail
        go_ret
        exact ⟨by rw [Hf.out]; rfl, Later.trans hL0 hW⟩
      · have hlb2 : ofR c b ≠ [] := fun e => hlb (by rw [e]; rfl)
        have hlbb : ((((ofR c b).length : Nat) : Int) == 0) = false := by simp; exact hlb2
        have heb : (ofR c b).isEmpty = false := by simpa using hlb2
        rw [heb, Bool.not_false, Bool.true_and] at Hcl
        have HC := hide (fun (W : World) (h : Later w0 W) (t o : Int) (hn : ofR c t ≠ []) (q : Bool) (hq : cameB c d t o = q) => CameBefore_eq (k1 := k1) (k2 := k2) (k3 := k3) (kd := kd) hq W (hc0.later h) (hd0.later h) ok he hn)
        have Hla := hide hla2
        have Hlb := hide hlb2
        clear hlb heb hla2 hlb2
        go_enter Try.func60, Try.ntmps60
        go_upto_region 1 with fail
        rw [← Hw0.out]; clear Hw0
        refine wp_region_lin (w0 := w0) 27 [] rely_later (by kernel_rfl) (by kernel_rfl) (by kernel_rfl) (by kernel_rfl) (hS0) (.inl rfl) ?_
        simp only [List.take_succ_cons, List.take_zero, List.drop_succ_cons, List.drop_zero]
        refine lin_det (v := ?_) (F' := ?_) (by rfl) (fun _ => by rfl) ?_ ?_ ?_
        rotate_left 2
        focus (intro xs X hX hdep; clear hdep; (try dsimp only); go_simp; (try (first | with_reducible rfl | exact ⟨rfl, rfl⟩ | (fail))))
        focus (intro xs; (try simp only [Act.put, List.setIfInBounds_toArray, List.set_cons_zero, List.set_cons_succ, Nat.reduceAdd]); rfl)
        refine lin_det (v := ?_) (F' := ?_) (by rfl) (fun _ => by rfl) ?_ ?_ ?_
        rotate_left 2
        focus (intro xs X hX hdep; clear hdep; (try dsimp only); go_simp; (try (first | with_reducible rfl | exact ⟨rfl, rfl⟩ | (fail))))
        focus (intro xs; (try simp only [Act.put, List.setIfInBounds_toArray, List.set_cons_zero, List.set_cons_succ, Nat.reduceAdd]); rfl)
        refine lin_det (v := ?_) (F' := ?_) (by rfl) (fun _ => by rfl) ?_ ?_ ?_
        rotate_left 2
        focus (intro xs X hX hdep; clear hdep; (try dsimp only); go_simp; (try (first | with_reducible rfl | exact ⟨rfl, rfl⟩ | (fail))))
        focus (intro xs; (try simp only [Act.put, List.setIfInBounds_toArray, List.set_cons_zero, List.set_cons_succ, Nat.reduceAdd]); rfl)
        refine lin_det (v := ?_) (F' := ?_) (by rfl) (fun _ => by rfl) ?_ ?_ ?_
        rotate_left 2
        focus (intro xs X hX hdep; clear hdep; (try dsimp only); go_simp; (try (first | with_reducible rfl | exact ⟨rfl, rfl⟩ | (fail))))
        focus (intro xs; (try simp only [Act.put, List.setIfInBounds_toArray, List.set_cons_zero, List.set_cons_succ, Nat.reduceAdd]); rfl)
        refine lin_det (v := ?_) (F' := ?_) (by rfl) (fun _ => by rfl) ?_ ?_ ?_
        rotate_left 2
        focus (intro xs X hX hdep; clear hdep; (try dsimp only); go_simp; (try (first | with_reducible rfl | exact ⟨rfl, rfl⟩ | (fail))))
        focus (intro xs; (try simp only [Act.put, List.setIfInBounds_toArray, List.set_cons_zero, List.set_cons_succ, Nat.reduceAdd]); rfl)
        refine lin_det (v := ?_) (F' := ?_) (by rfl) (fun _ => by rfl) ?_ ?_ ?_
        rotate_left 2
        focus (intro xs X hX hdep; clear hdep; (try dsimp only); go_simp; (try (first | with_reducible rfl | exact ⟨rfl, rfl⟩ | (fail))))
        focus (intro xs; (try simp only [Act.put, List.setIfInBounds_toArray, List.set_cons_zero, List.set_cons_succ, Nat.reduceAdd]); rfl)
        refine lin_det (v := ?_) (F' := ?_) (by rfl) (fun _ => by rfl) ?_ ?_ ?_
        rotate_left 2
        focus (intro xs X hX hdep; clear hdep; (try dsimp only); go_simp; (try (first | with_reducible rfl | exact ⟨rfl, rfl⟩ | (fail))))
        focus (intro xs; (try simp only [Act.put, List.setIfInBounds_toArray, List.set_cons_zero, List.set_cons_succ, Nat.reduceAdd]); rfl)
        refine lin_det (v := ?_) (F' := ?_) (by rfl) (fun _ => by rfl) ?_ ?_ ?_
        rotate_left 2
        focus (intro xs X hX hdep; clear hdep; (try dsimp only); go_simp; (try (first | with_reducible rfl | exact ⟨rfl, rfl⟩ | (fail))))
        focus (intro xs; (try simp only [Act.put, List.setIfInBounds_toArray, List.set_cons_zero, List.set_cons_succ, Nat.reduceAdd]); rfl)
        refine lin_det (v := ?_) (F' := ?_) (by rfl) (fun _ => by rfl) ?_ ?_ ?_
        rotate_left 2
        focus (intro xs X hX hdep; clear hdep; (try dsimp only); go_simp; (try (first | with_reducible rfl | exact ⟨rfl, rfl⟩ | (fail))))
        focus (intro xs; (try simp only [Act.put, List.setIfInBounds_toArray, List.set_cons_zero, List.set_cons_succ, Nat.reduceAdd]); rfl)
        refine lin_det (v := ?_) (F' := ?_) (by rfl) (fun _ => by rfl) ?_ ?_ ?_
        rotate_left 2
        focus (intro xs X hX hdep; clear hdep; (try dsimp only); go_simp; (try (first | with_reducible rfl | exact ⟨rfl, rfl⟩ | (fail))))
        focus (intro xs; (try simp only [Act.put, List.setIfInBounds_toArray, List.set_cons_zero, List.set_cons_succ, Nat.reduceAdd]); rfl)
        refine lin_det (v := ?_) (F' := ?_) (by rfl) (fun _ => by rfl) ?_ ?_ ?_
        rotate_left 2
        focus (intro xs X hX hdep; clear hdep; (try dsimp only); go_simp; (try (first | with_reducible rfl | exact ⟨rfl, rfl⟩ | (fail))))
        focus (intro xs; (try simp only [Act.put, List.setIfInBounds_toArray, List.set_cons_zero, List.set_cons_succ, Nat.reduceAdd]); rfl)
        refine lin_det (v := ?_) (F' := ?_) (by rfl) (fun _ => by rfl) ?_ ?_ ?_
        rotate_left 2
        focus (intro xs X hX hdep; clear hdep; (try dsimp only); go_simp; (try (first | with_reducible rfl | exact ⟨rfl, rfl⟩ | (fail))))
        focus (intro xs; (try simp only [Act.put, List.setIfInBounds_toArray, List.set_cons_zero, List.set_cons_succ, Nat.reduceAdd]); rfl)
        refine lin_det (v := ?_) (F' := ?_) (by rfl) (fun _ => by rfl) ?_ ?_ ?_
        rotate_left 2
        focus (intro xs X hX hdep; clear hdep; (try dsimp only); go_simp; (try (first | with_reducible rfl | exact ⟨rfl, rfl⟩ | (fail))))
        focus (intro xs; (try simp only [Act.put, List.setIfInBounds_toArray, List.set_cons_zero, List.set_cons_succ, Nat.reduceAdd]); rfl)
        refine lin_det (v := ?_) (F' := ?_) (by rfl) (fun _ => by rfl) ?_ ?_ ?_
        rotate_left 2
        focus (intro xs X hX hdep; clear hdep; (try dsimp only); go_simp; (try (first | with_reducible rfl | exact ⟨rfl, rfl⟩ | (fail))))
        focus (intro xs; (try simp only [Act.put, List.setIfInBounds_toArray, List.set_cons_zero, List.set_cons_succ, Nat.reduceAdd]); rfl)
        refine lin_det (v := ?_) (F' := ?_) (by rfl) (fun _ => by rfl) ?_ ?_ ?_
        rotate_left 2
        focus (intro xs X hX hdep; clear hdep; (try dsimp only); go_simp; (try (first | with_reducible rfl | exact ⟨rfl, rfl⟩ | (fail))))
        focus (intro xs; (try simp only [Act.put, List.setIfInBounds_toArray, List.set_cons_zero, List.set_cons_succ, Nat.reduceAdd]); rfl)
        refine lin_det (v := ?_) (F' := ?_) (by rfl) (fun _ => by rfl) ?_ ?_ ?_
        rotate_left 2
        focus (intro xs X hX hdep; clear hdep; (try dsimp only); go_simp; (try (first | with_reducible rfl | exact ⟨rfl, rfl⟩ | (fail))))
        focus (intro xs; (try simp only [Act.put, List.setIfInBounds_toArray, List.set_cons_zero, List.set_cons_succ, Nat.reduceAdd]); rfl)
        skip
        refine lin_any (IsR (ofR c (a : Int)).length (nats (ofR c (a : Int)))) false (fun v W W' k h => IsR.later h k) (F' := ?_) (by rfl) (fun _ => by rfl) ?_ ?_ ?_
        rotate_left 1
        focus (intro xs X hX hdep; skip; clear hdep; intro K hK; (try dsimp only); go_simp; (refine (Of_calls (k1 := k1) (k2 := k2) (k3 := k3) X (hc0.later hX) hm3).mono ?_; rintro e W' ⟨A, k, rfl, hL, hri⟩; exact hK.out _ _ rfl hL ⟨A, k, rfl, hri⟩ (fun h => by cases h)))
        focus (intro xs; (try simp only [Act.put, List.setIfInBounds_toArray, List.set_cons_zero, List.set_cons_succ, Nat.reduceAdd]); rfl)
        skip
        refine lin_det_last (j := 16) (v := ?_) (F' := ?_) (by rfl) (fun _ => by rfl) (by kernel_rfl) (by kernel_rfl) ?_ ?_ ?_
        rotate_left 2
        focus (intro xs X hX hs; obtain ⟨A, k, e, hr⟩ := (show IsR _ _ _ _ from hs); (try dsimp only); go_simp; (try (first | with_reducible rfl | exact ⟨rfl, rfl⟩ | (fail))))
        focus (intro xs; (try simp only [Act.put, List.setIfInBounds_toArray, List.set_cons_zero, List.set_cons_succ, Nat.reduceAdd]); rfl)
        refine lin_det (v := ?_) (F' := ?_) (by rfl) (fun _ => by rfl) ?_ ?_ ?_
        rotate_left 2
        focus (intro xs X hX hdep; clear hdep; (try dsimp only); go_simp; (try (first | with_reducible rfl | exact ⟨rfl, rfl⟩ | (fail))))
        focus (intro xs; (try simp only [Act.put, List.setIfInBounds_toArray, List.set_cons_zero, List.set_cons_succ, Nat.reduceAdd]); rfl)
        refine lin_det (v := ?_) (F' := ?_) (by rfl) (fun _ => by rfl) ?_ ?_ ?_
        rotate_left 2
        focus (intro xs X hX hdep; clear hdep; (try dsimp only); go_simp; (try (first | with_reducible rfl | exact ⟨rfl, rfl⟩ | (fail))))
        focus (intro xs; (try simp only [Act.put, List.setIfInBounds_toArray, List.set_cons_zero, List.set_cons_succ, Nat.reduceAdd]); rfl)
        refine lin_det (v := ?_) (F' := ?_) (by rfl) (fun _ => by rfl) ?_ ?_ ?_
        rotate_left 2
        focus (intro xs X hX hdep; clear hdep; (try dsimp only); go_simp; (try (first | with_reducible rfl | exact ⟨rfl, rfl⟩ | (fail))))
        focus (intro xs; (try simp only [Act.put, List.setIfInBounds_toArray, List.set_cons_zero, List.set_cons_succ, Nat.reduceAdd]); rfl)
        refine lin_det (v := ?_) (F' := ?_) (by rfl) (fun _ => by rfl) ?_ ?_ ?_
        rotate_left 2
        focus (intro xs X hX hdep; clear hdep; (try dsimp only); go_simp; (try (first | with_reducible rfl | exact ⟨rfl, rfl⟩ | (fail))))
        focus (intro xs; (try simp only [Act.put, List.setIfInBounds_toArray, List.set_cons_zero, List.set_cons_succ, Nat.reduceAdd]); rfl)
        refine lin_det (v := ?_) (F' := ?_) (by rfl) (fun _ => by rfl) ?_ ?_ ?_
        rotate_left 2
        focus (intro xs X hX hdep; clear hdep; (try dsimp only); go_simp; (try (first | with_reducible rfl | exact ⟨rfl, rfl⟩ | (fail))))
        focus (intro xs; (try simp only [Act.put, List.setIfInBounds_toArray, List.set_cons_zero, List.set_cons_succ, Nat.reduceAdd]); rfl)
        skip
        refine lin_any (IsR (ofR c (b : Int)).length (nats (ofR c (b : Int)))) false (fun v W W' k h => IsR.later h k) (F' := ?_) (by rfl) (fun _ => by rfl) ?_ ?_ ?_
        rotate_left 1
        focus (intro xs X hX hdep; skip; clear hdep; intro K hK; (try dsimp only); go_simp; (refine (Of_calls (k1 := k1) (k2 := k2) (k3 := k3) X (hc0.later hX) hm3).mono ?_; rintro e W' ⟨A, k, rfl, hL, hri⟩; exact hK.out _ _ rfl hL ⟨A, k, rfl, hri⟩ (fun h => by cases h)))
        focus (intro xs; (try simp only [Act.put, List.setIfInBounds_toArray, List.set_cons_zero, List.set_cons_succ, Nat.reduceAdd]); rfl)
        skip
        refine lin_det_last (j := 23) (v := ?_) (F' := ?_) (by rfl) (fun _ => by rfl) (by kernel_rfl) (by kernel_rfl) ?_ ?_ ?_
        rotate_left 2
        focus (intro xs X hX hs; obtain ⟨A, k, e, hr⟩ := (show IsR _ _ _ _ from hs); (try dsimp only); go_simp; (try (first | with_reducible rfl | exact ⟨rfl, rfl⟩ | (fail))))
        focus (intro xs; (try simp only [Act.put, List.setIfInBounds_toArray, List.set_cons_zero, List.set_cons_succ, Nat.reduceAdd]); rfl)
        refine lin_det (v := ?_) (F' := ?_) (by rfl) (fun _ => by rfl) ?_ ?_ ?_
        rotate_left 2
        focus (intro xs X hX hdep; clear hdep; (try dsimp only); go_simp; (try (first | with_reducible rfl | exact ⟨rfl, rfl⟩ | (fail))))
        focus (intro xs; (try simp only [Act.put, List.setIfInBounds_toArray, List.set_cons_zero, List.set_cons_succ, Nat.reduceAdd]); rfl)
        refine lin_det (v := ?_) (F' := ?_) (by rfl) (fun _ => by rfl) ?_ ?_ ?_
        rotate_left 2
        focus (intro xs X hX hdep; clear hdep; (try dsimp only); go_simp; (try (first | with_reducible rfl | exact ⟨rfl, rfl⟩ | (fail))))
        focus (intro xs; (try simp only [Act.put, List.setIfInBounds_toArray, List.set_cons_zero, List.set_cons_succ, Nat.reduceAdd]); rfl)
        intro xs w1 hW hf hfr hfb
        clear hf hfr hfb
        have hbox1 := fun W (hh : Later w1 W) => hbox W (Later.trans hW hh)
        cases hq : cameB c d a b with
        | false =>
          rw [hq, Bool.false_and] at Hcl
          have Hq := hide hq
          clear hq hlab hlbb
          go_wp2_with fail
          refine (HC.out _ (by assumption) _ _ Hla.out _ Hq.out).mono ?_
          rintro e w2 ⟨rfl, hL2⟩
          go_wp2_with fail
          go_ret
          exact ⟨by rw [Hcl.out]; rfl, Later.trans hL0 (Later.trans hW hL2)⟩
        | true =>
          rw [hq, Bool.true_and] at Hcl
          have Hq := hide hq
          obtain ⟨r, hr⟩ : ∃ r, cameB c d b a = r := ⟨_, rfl⟩
          rw [hr] at Hcl
          have Hr := hide hr
          clear hq hlab hlbb hr
          go_wp2_with fail
          refine (HC.out _ (by assumption) _ _ Hla.out _ Hq.out).mono ?_
          rintro e w2 ⟨rfl, hL2⟩
          have hbox2 := fun W (hh : Later w2 W) => hbox1 W (Later.trans hL2 hh)
          have hL02 := Later.trans hW hL2
          go_wp2_with fail
          refine (HC.out _ (by assumption) _ _ Hlb.out _ Hr.out).mono ?_
          rintro e w3 ⟨rfl, hL3⟩
          go_wp2_with fail
          go_ret
          exact ⟨by rw [Hcl.out]; rfl, Later.trans hL0 (Later.trans hL02 hL3)⟩
  · have hnb : (x.1 != y.1) = true := by simpa using hxy
    have Hf : Hid (clashB c d a b = false) := by show _ = _; rw [Hcl.out, decide_eq_false hxy]; rfl
    clear hxy Hcl
    go_enter Try.func60, Try.ntmps60
    go_upto_region 1 with fail
    rw [← Hw0.out]; clear Hw0
    refine wp_region_lin (w0 := w0) 27 [] rely_later (by kernel_rfl) (by kernel_rfl) (by kernel_rfl) (by kernel_rfl) (hS0) (.inl rfl) ?_
    simp only [List.take_succ_cons, List.take_zero, List.drop_succ_cons, List.drop_zero]
    refine lin_det (v := ?_) (F' := ?_) (by rfl) (fun _ => by rfl) ?_ ?_ ?_
    rotate_left 2
    focus (intro xs X hX hdep; clear hdep; (try dsimp only); go_simp; (try (first | with_reducible rfl | exact ⟨rfl, rfl⟩ | (fail))))
    focus (intro xs; (try simp only [Act.put, List.setIfInBounds_toArray, List.set_cons_zero, List.set_cons_succ, Nat.reduceAdd]); rfl)
    refine lin_det (v := ?_) (F' := ?_) (by rfl) (fun _ => by rfl) ?_ ?_ ?_
    rotate_left 2
    focus (intro xs X hX hdep; clear hdep; (try dsimp only); go_simp; (try (first | with_reducible rfl | exact ⟨rfl, rfl⟩ | (fail))))
    focus (intro xs; (try simp only [Act.put, List.setIfInBounds_toArray, List.set_cons_zero, List.set_cons_succ, Nat.reduceAdd]); rfl)
    refine lin_det (v := ?_) (F' := ?_) (by rfl) (fun _ => by rfl) ?_ ?_ ?_
    rotate_left 2
    focus (intro xs X hX hdep; clear hdep; (try dsimp only); go_simp; (try (first | with_reducible rfl | exact ⟨rfl, rfl⟩ | (fail))))
    focus (intro xs; (try simp only [Act.put, List.setIfInBounds_toArray, List.set_cons_zero, List.set_cons_succ, Nat.reduceAdd]); rfl)
    refine lin_det (v := ?_) (F' := ?_) (by rfl) (fun _ => by rfl) ?_ ?_ ?_
    rotate_left 2
    focus (intro xs X hX hdep; clear hdep; (try dsimp only); go_simp; (try (first | with_reducible rfl | exact ⟨rfl, rfl⟩ | (fail))))
    focus (intro xs; (try simp only [Act.put, List.setIfInBounds_toArray, List.set_cons_zero, List.set_cons_succ, Nat.reduceAdd]); rfl)
    refine lin_det (v := ?_) (F' := ?_) (by rfl) (fun _ => by rfl) ?_ ?_ ?_
    rotate_left 2
    focus (intro xs X hX hdep; clear hdep; (try dsimp only); go_simp; (try (first | with_reducible rfl | exact ⟨rfl, rfl⟩ | (fail))))
    focus (intro xs; (try simp only [Act.put, List.setIfInBounds_toArray, List.set_cons_zero, List.set_cons_succ, Nat.reduceAdd]); rfl)
    refine lin_det (v := ?_) (F' := ?_) (by rfl) (fun _ => by rfl) ?_ ?_ ?_
    rotate_left 2
    focus (intro xs X hX hdep; clear hdep; (try dsimp only); go_simp; (try (first | with_reducible rfl | exact ⟨rfl, rfl⟩ | (fail))))
    focus (intro xs; (try simp only [Act.put, List.setIfInBounds_toArray, List.set_cons_zero, List.set_cons_succ, Nat.reduceAdd]); rfl)
    refine lin_det (v := ?_) (F' := ?_) (by rfl) (fun _ => by rfl) ?_ ?_ ?_
    rotate_left 2
    focus (intro xs X hX hdep; clear hdep; (try dsimp only); go_simp; (try (first | with_reducible rfl | exact ⟨rfl, rfl⟩ | (fail))))
    focus (intro xs; (try simp only [Act.put, List.setIfInBounds_toArray, List.set_cons_zero, List.set_cons_succ, Nat.reduceAdd]); rfl)
    refine lin_det (v := ?_) (F' := ?_) (by rfl) (fun _ => by rfl) ?_ ?_ ?_
    rotate_left 2
    focus (intro xs X hX hdep; clear hdep; (try dsimp only); go_simp; (try (first | with_reducible rfl | exact ⟨rfl, rfl⟩ | (fail))))
    focus (intro xs; (try simp only [Act.put, List.setIfInBounds_toArray, List.set_cons_zero, List.set_cons_succ, Nat.reduceAdd]); rfl)
    refine lin_det (v := ?_) (F' := ?_) (by rfl) (fun _ => by rfl) ?_ ?_ ?_
    rotate_left 2
    focus (intro xs X hX hdep; clear hdep; (try dsimp only); go_simp; (try (first | with_reducible rfl | exact ⟨rfl, rfl⟩ | (fail))))
    focus (intro xs; (try simp only [Act.put, List.setIfInBounds_toArray, List.set_cons_zero, List.set_cons_succ, Nat.reduceAdd]); rfl)
    refine lin_det (v := ?_) (F' := ?_) (by rfl) (fun _ => by rfl) ?_ ?_ ?_
    rotate_left 2
    focus (intro xs X hX hdep; clear hdep; (try dsimp only); go_simp; (try (first | with_reducible rfl | exact ⟨rfl, rfl⟩ | (fail))))
    focus (intro xs; (try simp only [Act.put, List.setIfInBounds_toArray, List.set_cons_zero, List.set_cons_succ, Nat.reduceAdd]); rfl)
    refine lin_det (v := ?_) (F' := ?_) (by rfl) (fun _ => by rfl) ?_ ?_ ?_
    rotate_left 2
    focus (intro xs X hX hdep; clear hdep; (try dsimp only); go_simp; (try (first | with_reducible rfl | exact ⟨rfl, rfl⟩ | (fail))))
    focus (intro xs; (try simp only [Act.put, List.setIfInBounds_toArray, List.set_cons_zero, List.set_cons_succ, Nat.reduceAdd]); rfl)
    refine lin_det (v := ?_) (F' := ?_) (by rfl) (fun _ => by rfl) ?_ ?_ ?_
    rotate_left 2
    focus (intro xs X hX hdep; clear hdep; (try dsimp only); go_simp; (try (first | with_reducible rfl | exact ⟨rfl, rfl⟩ | (fail))))
    focus (intro xs; (try simp only [Act.put, List.setIfInBounds_toArray, List.set_cons_zero, List.set_cons_succ, Nat.reduceAdd]); rfl)
    refine lin_det (v := ?_) (F' := ?_) (by rfl) (fun _ => by rfl) ?_ ?_ ?_
    rotate_left 2
    focus (intro xs X hX hdep; clear hdep; (try dsimp only); go_simp; (try (first | with_reducible rfl | exact ⟨rfl, rfl⟩ | (fail))))
    focus (intro xs; (try simp only [Act.put, List.setIfInBounds_toArray, List.set_cons_zero, List.set_cons_succ, Nat.reduceAdd]); rfl)
    refine lin_det (v := ?_) (F' := ?_) (by rfl) (fun _ => by rfl) ?_ ?_ ?_
    rotate_left 2
    focus (intro xs X hX hdep; clear hdep; (try dsimp only); go_simp; (try (first | with_reducible rfl | exact ⟨rfl, rfl⟩ | (fail))))
    focus (intro xs; (try simp only [Act.put, List.setIfInBounds_toArray, List.set_cons_zero, List.set_cons_succ, Nat.reduceAdd]); rfl)
    refine lin_skip (F' := ?_) (by rfl) (fun _ => by rfl) ?_ ?_
    rotate_left 1
    focus (intro xs; (try simp only [Act.put, List.setIfInBounds_toArray, List.set_cons_zero, List.set_cons_succ, Nat.reduceAdd]); rfl)
    refine lin_skip (F' := ?_) (by rfl) (fun _ => by rfl) ?_ ?_
    rotate_left 1
    focus (intro xs; (try simp only [Act.put, List.setIfInBounds_toArray, List.set_cons_zero, List.set_cons_succ, Nat.reduceAdd]); rfl)
    refine lin_skip (F' := ?_) (by rfl) (fun _ => by rfl) ?_ ?_
    rotate_left 1
    focus (intro xs; (try simp only [Act.put, List.setIfInBounds_toArray, List.set_cons_zero, List.set_cons_succ, Nat.reduceAdd]); rfl)
    refine lin_skip (F' := ?_) (by rfl) (fun _ => by rfl) ?_ ?_
    rotate_left 1
    focus (intro xs; (try simp only [Act.put, List.setIfInBounds_toArray, List.set_cons_zero, List.set_cons_succ, Nat.reduceAdd]); rfl)
    refine lin_skip (F' := ?_) (by rfl) (fun _ => by rfl) ?_ ?_
    rotate_left 1
    focus (intro xs; (try simp only [Act.put, List.setIfInBounds_toArray, List.set_cons_zero, List.set_cons_succ, Nat.reduceAdd]); rfl)
    refine lin_det (v := ?_) (F' := ?_) (by rfl) (fun _ => by rfl) ?_ ?_ ?_
    rotate_left 2
    focus (intro xs X hX hdep; clear hdep; (try dsimp only); go_simp; (try (first | with_reducible rfl | exact ⟨rfl, rfl⟩ | (fail))))
    focus (intro xs; (try simp only [Act.put, List.setIfInBounds_toArray, List.set_cons_zero, List.set_cons_succ, Nat.reduceAdd]); rfl)
    refine lin_det (v := ?_) (F' := ?_) (by rfl) (fun _ => by rfl) ?_ ?_ ?_
    rotate_left 2
    focus (intro xs X hX hdep; clear hdep; (try dsimp only); go_simp; (try (first | with_reducible rfl | exact ⟨rfl, rfl⟩ | (fail))))
    focus (intro xs; (try simp only [Act.put, List.setIfInBounds_toArray, List.set_cons_zero, List.set_cons_succ, Nat.reduceAdd]); rfl)
    refine lin_skip (F' := ?_) (by rfl) (fun _ => by rfl) ?_ ?_
    rotate_left 1
    focus (intro xs; (try simp only [Act.put, List.setIfInBounds_toArray, List.set_cons_zero, List.set_cons_succ, Nat.reduceAdd]); rfl)
    refine lin_skip (F' := ?_) (by rfl) (fun _ => by rfl) ?_ ?_
    rotate_left 1
    focus (intro xs; (try simp only [Act.put, List.setIfInBounds_toArray, List.set_cons_zero, List.set_cons_succ, Nat.reduceAdd]); rfl)
    refine lin_skip (F' := ?_) (by rfl) (fun _ => by rfl) ?_ ?_
    rotate_left 1
    focus (intro xs; (try simp only [Act.put, List.setIfInBounds_toArray, List.set_cons_zero, List.set_cons_succ, Nat.reduceAdd]); rfl)
    refine lin_skip (F' := ?_) (by rfl) (fun _ => by rfl) ?_ ?_
    rotate_left 1
    focus (intro xs; (try simp only [Act.put, List.setIfInBounds_toArray, List.set_cons_zero, List.set_cons_succ, Nat.reduceAdd]); rfl)
    refine lin_skip (F' := ?_) (by rfl) (fun _ => by rfl) ?_ ?_
    rotate_left 1
    focus (intro xs; (try simp only [Act.put, List.setIfInBounds_toArray, List.set_cons_zero, List.set_cons_succ, Nat.reduceAdd]); rfl)
    refine lin_det (v := ?_) (F' := ?_) (by rfl) (fun _ => by rfl) ?_ ?_ ?_
    rotate_left 2
    focus (intro xs X hX hdep; clear hdep; (try dsimp only); go_simp; (try (first | with_reducible rfl | exact ⟨rfl, rfl⟩ | (fail))))
    focus (intro xs; (try simp only [Act.put, List.setIfInBounds_toArray, List.set_cons_zero, List.set_cons_succ, Nat.reduceAdd]); rfl)
    intro xs w1 hW hf hfr hfb
    clear hf hfr hfb
    go_wp2_with fail
    go_ret
    exact ⟨by rw [Hf.out]; rfl, Later.trans hL0 hW⟩
theorem DoClash_eq {A1 A2 A3 : Option Addr} {n1 k1 n2 k2 n3 k3 : Nat} {c : Hou} {Ad : Option Addr} {nd kd : Nat} {d : List Int} {a b : Nat} {q : Bool} (hq : clashB c d a b = q) (w : World) (hc : CV w c A1 n1 A2 n2 A3 n3) (hd : RI w Ad nd d) (ok : OkH c) (he : IsErr c d) (ha : a < n2) (hb : b < n2) :
    Calls Try.prog 60 #[(.agg #[.int .i64 c.hour, .int .i64 c.grace, .slice A1 n1 k1, .slice A2 n2 k2, .slice A3 n3 k3]), .slice Ad nd kd, .int .i64 (a : Int), .int .i64 (b : Int)] w fun e w' => e = .returned (.bool q) ∧ Later w w' := by
  rw [← hq]; exact DoClash_calls w hc hd ok he ha hb
end Go.Proofs.Ytbkfnajpbhfneaa

/- The reference's IsPaid, IsOpen: walks. -/
namespace Go.Proofs.Ytbkfnajpbhfneaa
open Go Go.RowKit

theorem IsLong_eq {A1 A2 A3 : Option Addr} {n1 k1 n2 k2 n3 k3 : Nat} {c : Hou} {Ad : Option Addr} {nd kd : Nat} {d : List Int} {i : Nat} {q : Bool} (hq : isLong c d i = q) (w : World) (hc : CV w c A1 n1 A2 n2 A3 n3) (hd : RI w Ad nd d) (ok : OkH c) (he : IsErr c d) (hi : i < n2) :
    Calls Try.prog 75 #[(.agg #[.int .i64 c.hour, .int .i64 c.grace, .slice A1 n1 k1, .slice A2 n2 k2, .slice A3 n3 k3]), .slice Ad nd kd, .int .i64 (i : Int)] w fun e w' => e = .returned (.bool q) ∧ Later w w' := by
  rw [← hq]; exact IsLong_calls w hc hd ok he hi
def paidRow (c : Hou) (d : List Int) (a : Nat) : Bool := !isLong c d a && (List.range a).all fun b => !clashB c d a b
theorem isPaid_rows (c : Hou) (d : List Int) : isPaid c d = (List.range c.tickets.length).all (paidRow c d) := rfl
set_option maxRecDepth 100000 in
set_option maxHeartbeats 1000000 in
theorem IsPaid_calls {A1 A2 A3 : Option Addr} {n1 k1 n2 k2 n3 k3 : Nat} {c : Hou} {Ad : Option Addr} {nd kd : Nat} {d : List Int} (w : World) (hc : CV w c A1 n1 A2 n2 A3 n3) (hd : RI w Ad nd d) (ok : OkH c) (he : IsErr c d) :
    Calls Try.prog 74 #[(.agg #[.int .i64 c.hour, .int .i64 c.grace, .slice A1 n1 k1, .slice A2 n2 k2, .slice A3 n3 k3]), .slice Ad nd kd] w fun e w' => e = .returned (.bool (isPaid c d)) ∧ Later w w' := by
  have hl2 := hc.tk.len
  have hn2 := ok.n2
  have hn26 : n2 ≤ 6 := by omega
  have hrr := isPaid_rows c d
  rw [← hl2] at hrr
  have Hrr := hide hrr
  clear hl2 hn2 hrr
  obtain ⟨w0, hw0⟩ : ∃ W, W = (w.alloc (.cells #[.int .i64 c.hour, .int .i64 c.grace, .slice A1 n1 k1, .slice A2 n2 k2, .slice A3 n3 k3] 26)) := ⟨_, rfl⟩; have hbox : ∀ W, Later w0 W → ∀ i, W.cell? ⟨w.heap.size, i, none⟩ = #[.int .i64 c.hour, .int .i64 c.grace, .slice A1 n1 k1, .slice A2 n2 k2, .slice A3 n3 k3][i]? := (by rw [hw0]; exact box_cells w #[.int .i64 c.hour, .int .i64 c.grace, .slice A1 n1 k1, .slice A2 n2 k2, .slice A3 n3 k3] 26); have hL0 : Later w w0 := (by rw [hw0]; simp); have hc0 := hc.later hL0; have Hw0 := hide hw0; clear hw0
  have hd0 := hd.later hL0
  have HL := hide (fun (W : World) (h : Later w0 W) i (hi : i < n2) q (hq : isLong c d i = q) => IsLong_eq (k1 := k1) (k2 := k2) (k3 := k3) (kd := kd) hq W (hc0.later h) (hd0.later h) ok he hi)
  have HC := hide (fun (W : World) (h : Later w0 W) a b (ha : a < n2) (hb : b < n2) q (hq : clashB c d a b = q) => DoClash_eq (k1 := k1) (k2 := k2) (k3 := k3) (kd := kd) hq W (hc0.later h) (hd0.later h) ok he ha hb)
  go_enter Try.func74, Try.ntmps74
  go_wp2_with fail
  rw [← Hw0.out]; clear Hw0
  go_loopw [5, 6] (fun u _ wr => ∃ i : Nat, i ≤ n2 ∧ u = .int .i64 i ∧ Later w0 wr ∧ Hid ((List.range i).all (paidRow c d) = true)) (fun u _ _ => n2 - (intOf u).toNat)
  case atStart => exact ⟨0, Nat.zero_le _, rfl, later_refl _, rfl⟩
  case round =>
    obtain ⟨i, hi, rfl, hL, Hall⟩ := hrel
    by_cases hlt : i < n2
    · have hi1 : (i : Int) < n2 := by omega
      have hia := range_all_succ (paidRow c d) i
      rw [Hall.out, Bool.true_and] at hia
      have Hia := hide hia
      clear hia Hall
      cases hlg : isLong c d i with
      | true =>
        have Hf : Hid (isPaid c d = false) := by
          show _ = _
          rw [Hrr.out]; exact range_all_false hlt (by unfold paidRow; rw [hlg]; rfl)
        have Hlg := hide hlg
        clear hlg Hia
        go_wp2_with fail
        refine (HL.out _ hL _ hlt _ Hlg.out).mono ?_
        rintro e w1 ⟨rfl, hL1⟩
        go_wp2_with fail
        go_ret
        exact ⟨by rw [Hf.out]; rfl, Later.trans hL0 (Later.trans hL hL1)⟩
      | false =>
        have Hrow : Hid (paidRow c d i = (List.range i).all fun b => !clashB c d i b) := by show _ = _; unfold paidRow; rw [hlg]; rfl
        have Hlg := hide hlg
        clear hlg
        go_wp2_with fail
        refine (HL.out _ hL _ hlt _ Hlg.out).mono ?_
        rintro e w1 ⟨rfl, hL1⟩
        have hLn := Later.trans hL hL1
        clear hL hL1
        go_wp2_with fail
        go_loopw [6] (fun u wr => ∃ k : Nat, k ≤ i ∧ u = .int .i64 k ∧ Later w0 wr ∧ Hid (((List.range k).all fun b => !clashB c d i b) = true)) (fun u _ => i - (intOf u).toNat)
        case atStart => exact ⟨0, Nat.zero_le _, rfl, hLn, rfl⟩
        case round =>
          obtain ⟨k, hk, rfl, hLk, Hk⟩ := hrel
          by_cases hltk : k < i
          · have hk1 : (k : Int) < i := by omega
            have hka := range_all_succ (fun b => !clashB c d i b) k
            rw [Hk.out, Bool.true_and] at hka
            have Hka := hide hka
            clear hka Hk
            cases hcl : clashB c d i k with
            | true =>
              have Hf : Hid (isPaid c d = false) := by
                show _ = _
                rw [Hrr.out]; exact range_all_false hlt (by rw [Hrow.out]; exact range_all_false hltk (by rw [hcl]; rfl))
              have Hcl := hide hcl
              clear hcl Hka Hrow
              go_wp2_with fail
              refine (HC.out _ hLk _ _ hlt (by omega) _ Hcl.out).mono ?_
              rintro e w3 ⟨rfl, hL3⟩
              go_wp2_with fail
              go_ret
              exact ⟨by rw [Hf.out]; rfl, Later.trans hL0 (Later.trans hLk hL3)⟩
            | false =>
              have Hka2 : Hid (((List.range (k + 1)).all fun b => !clashB c d i b) = true) := by show _ = _; rw [Hka.out, hcl]; rfl
              have Hcl := hide hcl
              clear hcl Hka
              go_wp2_with fail
              refine (HC.out _ hLk _ _ hlt (by omega) _ Hcl.out).mono ?_
              rintro e w3 ⟨rfl, hL3⟩
              go_wp2_with fail
              go_roundw
              case rel => exact ⟨k + 1, hltk, by go_num, Later.trans hLk hL3, Hka2⟩
              case measure => simp [intOf]; omega
          · have hki : k = i := by omega
            subst hki
            have Hia2 : Hid ((List.range (k + 1)).all (paidRow c d) = true) := by show _ = _; rw [Hia.out, Hrow.out]; exact Hk.out
            clear Hia Hk
            go_wp2_with fail
            go_roundw
            case rel => exact ⟨k + 1, hlt, by go_num, hLk, Hia2⟩
            case measure => simp [intOf]; omega
    · have hin : i = n2 := by omega
      subst hin
      have Hf : Hid (isPaid c d = true) := by show _ = _; rw [Hrr.out]; exact Hall.out
      clear Hall
      go_wp2_with fail
      go_ret
      exact ⟨by rw [Hf.out]; rfl, Later.trans hL0 hL⟩

def openRow (c : Hou) (tub : Int) (i : Nat) : Bool := decide ((tickAt c i).1 = tub) && decide ((ofR c i).length = 1)
set_option maxRecDepth 100000 in
theorem IsOpen_calls {A1 A2 A3 : Option Addr} {n1 k1 n2 k2 n3 k3 : Nat} {c : Hou} {tub : Int} (w : World) (hc : CV w c A1 n1 A2 n2 A3 n3) (hm3 : n3 ≤ 1000) (hm2 : n2 ≤ 1000) :
    Calls Try.prog 40 #[(.agg #[.int .i64 c.hour, .int .i64 c.grace, .slice A1 n1 k1, .slice A2 n2 k2, .slice A3 n3 k3]), .int .i64 tub] w fun e w' => e = .returned (.bool (isOpen c tub)) ∧ Later w w' := by
  have hl2 := hc.tk.len
  have hrr : isOpen c tub = (List.range n2).any (openRow c tub) := by rw [hl2]; rfl
  have Hrr := hide hrr
  clear hl2 hrr
  obtain ⟨w0, hw0⟩ : ∃ W, W = (w.alloc (.cells #[.int .i64 c.hour, .int .i64 c.grace, .slice A1 n1 k1, .slice A2 n2 k2, .slice A3 n3 k3] 26)) := ⟨_, rfl⟩; have hbox : ∀ W, Later w0 W → ∀ i, W.cell? ⟨w.heap.size, i, none⟩ = #[.int .i64 c.hour, .int .i64 c.grace, .slice A1 n1 k1, .slice A2 n2 k2, .slice A3 n3 k3][i]? := (by rw [hw0]; exact box_cells w #[.int .i64 c.hour, .int .i64 c.grace, .slice A1 n1 k1, .slice A2 n2 k2, .slice A3 n3 k3] 26); have hL0 : Later w w0 := (by rw [hw0]; simp); have hc0 := hc.later hL0; have Hw0 := hide hw0; clear hw0
  go_enter Try.func40, Try.ntmps40
  go_wp2_with fail
  rw [← Hw0.out]; clear Hw0
  go_loopw [5] (fun u wr => ∃ i : Nat, i ≤ n2 ∧ u = .int .i64 i ∧ Later w0 wr ∧ Hid ((List.range i).any (openRow c tub) = false)) (fun u _ => n2 - (intOf u).toNat)
  case atStart => exact ⟨0, Nat.zero_le _, rfl, later_refl _, rfl⟩
  case round =>
    obtain ⟨i, hi, rfl, hL, Hall⟩ := hrel
    by_cases hlt : i < n2
    · have hi1 : (i : Int) < n2 := by omega
      obtain ⟨b, o, x, rfl, _, hx, hx0, hx1⟩ := hc0.tk.get hlt
      have hia := range_any_succ (openRow c tub) i
      rw [Hall.out, Bool.false_or] at hia
      have hrow : openRow c tub i = (decide (x.1 = tub) && decide ((ofR c i).length = 1)) := by unfold openRow; rw [tickAt_of hx]
      rw [hrow] at hia
      have hbad : openRow c tub i = true → isOpen c tub = true := fun h => by rw [Hrr.out]; exact range_any_true hlt h
      rw [hrow] at hbad
      have Hia := hide hia
      have Hbad := hide hbad
      have hx0 := hx0 _ hL
      clear hia Hall hrow hbad hx hx1
      by_cases h1 : x.1 = tub
      · have hb1 : (x.1 == tub) = true := by simpa using h1
        rw [decide_eq_true h1, Bool.true_and] at Hia Hbad
        have Hlen := hide (show (ofR c i).length = 1 ∨ (ofR c i).length ≠ 1 by omega)
        clear h1
        go_wp2_with fail
        refine (Of_calls (k1 := k1) (k2 := k2) (k3 := k3) _ (hc0.later hL) hm3).mono ?_
        rintro e w1 ⟨A, k, rfl, hL1, hri⟩
        rcases Hlen.out with h2 | h2
        · have hb2 : ((((ofR c i).length : Nat) : Int) == 1) = true := by simp [h2]
          have Hf : Hid (isOpen c tub = true) := Hbad.out (decide_eq_true h2)
          clear h2 Hia Hbad
          go_wp2_with fail
          go_ret
          exact ⟨by rw [Hf.out]; rfl, Later.trans hL0 (Later.trans hL hL1)⟩
        · have hb2 : ((((ofR c i).length : Nat) : Int) == 1) = false := by simp; omega
          rw [decide_eq_false h2] at Hia
          clear h2 Hbad
          go_wp2_with fail
          go_roundw
          case rel => exact ⟨i + 1, hlt, by go_num, Later.trans hL hL1, Hia.out⟩
          case measure => simp [intOf]; omega
      · have hb1 : (x.1 == tub) = false := by simpa using h1
        rw [decide_eq_false h1, Bool.false_and] at Hia
        clear h1 Hbad
        go_wp2_with fail
        go_roundw
        case rel => exact ⟨i + 1, hlt, by go_num, hL, Hia.out⟩
        case measure => simp [intOf]; omega
    · have hin : i = n2 := by omega
      subst hin
      have Hf : Hid (isOpen c tub = false) := by show _ = _; rw [Hrr.out]; exact Hall.out
      clear Hall
      go_wp2_with fail
      go_ret
      exact ⟨by rw [Hf.out]; rfl, Later.trans hL0 hL⟩
end Go.Proofs.Ytbkfnajpbhfneaa

/- The reference's Verdict, Long, Clash, Paid: walks. -/
namespace Go.Proofs.Ytbkfnajpbhfneaa
open Go Go.RowKit

def clashF (c : Hou) (a b : Nat) (d : List Int) : Bool := clashB c d a b
theorem Verdict_calls (yes many : Nat) (w : World) : Calls Try.prog 88 #[.int .i64 (yes : Int), .int .i64 (many : Int)] w fun e w' => e = .returned (.int .i64 (verdictN yes many)) ∧ Later w w' := by
  by_cases h1 : yes = many
  · have hb : ((yes : Int) == (many : Int)) = true := by simp [h1]
    have Hf : Hid (verdictN yes many = 1) := by show _ = _; unfold verdictN; rw [if_pos h1]
    clear h1
    go_enter Try.func88, Try.ntmps88
    go_wp2_with fail
    go_ret
    exact ⟨by rw [Hf.out]; rfl, later_refl _⟩
  · have hb : ((yes : Int) == (many : Int)) = false := by simp; omega
    by_cases h2 : yes = 0
    · have hb2 : ((yes : Int) == 0) = true := by simp [h2]
      have Hf : Hid (verdictN yes many = 2) := by show _ = _; unfold verdictN; rw [if_neg h1, if_pos h2]
      clear h1 h2
      go_enter Try.func88, Try.ntmps88
      go_wp2_with fail
      go_ret
      exact ⟨by rw [Hf.out]; rfl, later_refl _⟩
    · have hb2 : ((yes : Int) == 0) = false := by simp; omega
      have Hf : Hid (verdictN yes many = 3) := by show _ = _; unfold verdictN; rw [if_neg h1, if_neg h2]
      clear h1 h2
      go_enter Try.func88, Try.ntmps88
      go_wp2_with fail
      go_ret
      exact ⟨by rw [Hf.out]; rfl, later_refl _⟩
theorem IsPaid_eq {A1 A2 A3 : Option Addr} {n1 k1 n2 k2 n3 k3 : Nat} {c : Hou} {Ad : Option Addr} {nd kd : Nat} {d : List Int} {q : Bool} (hq : isPaid c d = q) (w : World) (hc : CV w c A1 n1 A2 n2 A3 n3) (hd : RI w Ad nd d) (ok : OkH c) (he : IsErr c d) :
    Calls Try.prog 74 #[(.agg #[.int .i64 c.hour, .int .i64 c.grace, .slice A1 n1 k1, .slice A2 n2 k2, .slice A3 n3 k3]), .slice Ad nd kd] w fun e w' => e = .returned (.bool q) ∧ Later w w' := by
  rw [← hq]; exact IsPaid_calls w hc hd ok he

set_option maxRecDepth 100000 in
set_option maxHeartbeats 1000000 in
theorem Long_calls {A1 A2 A3 : Option Addr} {n1 k1 n2 k2 n3 k3 : Nat} {c : Hou} {Al : Option Addr} {nl kl : Nat} {ll : List (List Int)} {t : Nat} (w : World) (hc : CV w c A1 n1 A2 n2 A3 n3) (hl : RRI w Al nl ll) (ok : OkH c) (hdry : ∀ d ∈ ll, IsErr c d) (hn : nl ≤ 1000000) (ht : t < n2) :
    Calls Try.prog 34 #[(.agg #[.int .i64 c.hour, .int .i64 c.grace, .slice A1 n1 k1, .slice A2 n2 k2, .slice A3 n3 k3]), .slice Al nl kl, .int .i64 (t : Int)] w fun e w' => e = .returned (.int .i64 (vR (longF c t) ll)) ∧ Later w w' := by
  have hnl := hl.len
  have Hnl := hide hnl
  clear hnl
  obtain ⟨w0, hw0⟩ : ∃ W, W = (w.alloc (.cells #[.int .i64 c.hour, .int .i64 c.grace, .slice A1 n1 k1, .slice A2 n2 k2, .slice A3 n3 k3] 26)) := ⟨_, rfl⟩; have hbox : ∀ W, Later w0 W → ∀ i, W.cell? ⟨w.heap.size, i, none⟩ = #[.int .i64 c.hour, .int .i64 c.grace, .slice A1 n1 k1, .slice A2 n2 k2, .slice A3 n3 k3][i]? := (by rw [hw0]; exact box_cells w #[.int .i64 c.hour, .int .i64 c.grace, .slice A1 n1 k1, .slice A2 n2 k2, .slice A3 n3 k3] 26); have hL0 : Later w w0 := (by rw [hw0]; simp); have hc0 := hc.later hL0; have Hw0 := hide hw0; clear hw0
  have hl0 := hl.later hL0
  go_enter Try.func34, Try.ntmps34
  go_wp2_with fail
  rw [← Hw0.out]; clear Hw0
  go_loopw [7, 8] (fun y i wr => ∃ j : Nat, j ≤ nl ∧ i = .int .i64 j ∧ y = .int .i64 ((ll.take j).countP (longF c t)) ∧ Later w0 wr) (fun _ i _ => nl - (intOf i).toNat)
  case atStart => exact ⟨0, Nat.zero_le _, rfl, by simp, later_refl _⟩
  case round =>
    obtain ⟨j, hj, rfl, rfl, hL⟩ := hrel
    by_cases hlt : j < nl
    · obtain ⟨b1, o1, d, Ad, nd, kd, rfl, hx, hrd, hcx⟩ := hl0.get hlt
      have hdr := hdry d (List.mem_of_getElem? hx)
      have hct := countP_take (longF c t) ll j d hx
      have hcl := countP_take_le (longF c t) ll j
      have hi1 : (j : Int) < nl := by omega
      obtain ⟨q, hq⟩ : ∃ q, (longF c t) d = q := ⟨_, rfl⟩
      rw [hq] at hct
      have Hct := hide hct
      have Hq := hide hq
      generalize (ll.take j).countP (longF c t) = y at *
      clear hct hq hx
      cases q with
      | true =>
        have Hc2 : Hid ((ll.take (j + 1)).countP (longF c t) = y + 1) := by show _ = _; rw [Hct.out]; simp
        clear Hct
        go_wp2_with fail
        refine wp_region_ext (w0 := w0) (by kernel_rfl) (by kernel_rfl) hL ?_; (repeat (first | go_big_quiet_step (((go_at_call 75; exact calls_ext (by (repeat (first | assumption | exact Ext.h _ | refine later_drew ?_ | refine later_alloc ?_ _ | refine later_set ?_ _ (Nat.le_add_right _ _) _ | refine later_set ?_ _ (Nat.le_refl _) _)); done) (IsLong_eq Hq.out _ (hc0.later (by (repeat (first | assumption | exact Ext.h _ | refine later_drew ?_ | refine later_alloc ?_ _ | refine later_set ?_ _ (Nat.le_add_right _ _) _ | refine later_set ?_ _ (Nat.le_refl _) _)); done)) (hrd.later (by (repeat (first | assumption | exact Ext.h _ | refine later_drew ?_ | refine later_alloc ?_ _ | refine later_set ?_ _ (Nat.le_add_right _ _) _ | refine later_set ?_ _ (Nat.le_refl _) _)); done)) ok hdr ht)))) | quiet_step (((go_at_call 75; exact calls_ext (by (repeat (first | assumption | exact Ext.h _ | refine later_drew ?_ | refine later_alloc ?_ _ | refine later_set ?_ _ (Nat.le_add_right _ _) _ | refine later_set ?_ _ (Nat.le_refl _) _)); done) (IsLong_eq Hq.out _ (hc0.later (by (repeat (first | assumption | exact Ext.h _ | refine later_drew ?_ | refine later_alloc ?_ _ | refine later_set ?_ _ (Nat.le_add_right _ _) _ | refine later_set ?_ _ (Nat.le_refl _) _)); done)) (hrd.later (by (repeat (first | assumption | exact Ext.h _ | refine later_drew ?_ | refine later_alloc ?_ _ | refine later_set ?_ _ (Nat.le_add_right _ _) _ | refine later_set ?_ _ (Nat.le_refl _) _)); done)) ok hdr ht)))))); refine wpQuiet_nil ?_; rintro w3 ⟨⟨_, hL3⟩, rfl⟩; (try dsimp only)
        go_wp2_with fail
        go_roundw
        case rel => exact ⟨j + 1, hlt, by go_num, by rw [Hc2.out]; rfl, hL3⟩
        case measure => simp [intOf]; omega
      | false =>
        have Hc2 : Hid ((ll.take (j + 1)).countP (longF c t) = y) := by show _ = _; rw [Hct.out]; simp
        clear Hct
        go_wp2_with fail
        refine wp_region_ext (w0 := w0) (by kernel_rfl) (by kernel_rfl) hL ?_; (repeat (first | go_big_quiet_step (((go_at_call 75; exact calls_ext (by (repeat (first | assumption | exact Ext.h _ | refine later_drew ?_ | refine later_alloc ?_ _ | refine later_set ?_ _ (Nat.le_add_right _ _) _ | refine later_set ?_ _ (Nat.le_refl _) _)); done) (IsLong_eq Hq.out _ (hc0.later (by (repeat (first | assumption | exact Ext.h _ | refine later_drew ?_ | refine later_alloc ?_ _ | refine later_set ?_ _ (Nat.le_add_right _ _) _ | refine later_set ?_ _ (Nat.le_refl _) _)); done)) (hrd.later (by (repeat (first | assumption | exact Ext.h _ | refine later_drew ?_ | refine later_alloc ?_ _ | refine later_set ?_ _ (Nat.le_add_right _ _) _ | refine later_set ?_ _ (Nat.le_refl _) _)); done)) ok hdr ht)))) | quiet_step (((go_at_call 75; exact calls_ext (by (repeat (first | assumption | exact Ext.h _ | refine later_drew ?_ | refine later_alloc ?_ _ | refine later_set ?_ _ (Nat.le_add_right _ _) _ | refine later_set ?_ _ (Nat.le_refl _) _)); done) (IsLong_eq Hq.out _ (hc0.later (by (repeat (first | assumption | exact Ext.h _ | refine later_drew ?_ | refine later_alloc ?_ _ | refine later_set ?_ _ (Nat.le_add_right _ _) _ | refine later_set ?_ _ (Nat.le_refl _) _)); done)) (hrd.later (by (repeat (first | assumption | exact Ext.h _ | refine later_drew ?_ | refine later_alloc ?_ _ | refine later_set ?_ _ (Nat.le_add_right _ _) _ | refine later_set ?_ _ (Nat.le_refl _) _)); done)) ok hdr ht)))))); refine wpQuiet_nil ?_; rintro w3 ⟨⟨_, hL3⟩, rfl⟩; (try dsimp only)
        go_wp2_with fail
        go_roundw
        case rel => exact ⟨j + 1, hlt, by go_num, by rw [Hc2.out], hL3⟩
        case measure => simp [intOf]; omega
    · have Hv : Hid (verdictN ((ll.take j).countP (longF c t)) nl = vR (longF c t) ll) := by
        show _ = _
        have := Hnl.out
        unfold vR; rw [List.take_of_length_le (by omega), this]
      generalize (ll.take j).countP (longF c t) = y at *
      go_wp2_with fail
      refine (Verdict_calls y nl _).mono ?_
      rintro e w3 ⟨rfl, hL3⟩
      go_wp2_with fail
      go_ret
      exact ⟨ret_int Hv.out, Later.trans hL0 (Later.trans hL hL3)⟩

set_option maxRecDepth 100000 in
set_option maxHeartbeats 1000000 in
theorem Clash_calls {A1 A2 A3 : Option Addr} {n1 k1 n2 k2 n3 k3 : Nat} {c : Hou} {Al : Option Addr} {nl kl : Nat} {ll : List (List Int)} {a b : Nat} (w : World) (hc : CV w c A1 n1 A2 n2 A3 n3) (hl : RRI w Al nl ll) (ok : OkH c) (hdry : ∀ d ∈ ll, IsErr c d) (hn : nl ≤ 1000000) (ha : a < n2) (hb : b < n2) :
    Calls Try.prog 38 #[(.agg #[.int .i64 c.hour, .int .i64 c.grace, .slice A1 n1 k1, .slice A2 n2 k2, .slice A3 n3 k3]), .slice Al nl kl, .int .i64 (a : Int), .int .i64 (b : Int)] w fun e w' => e = .returned (.int .i64 (vR (clashF c a b) ll)) ∧ Later w w' := by
  have hnl := hl.len
  have Hnl := hide hnl
  clear hnl
  obtain ⟨w0, hw0⟩ : ∃ W, W = (w.alloc (.cells #[.int .i64 c.hour, .int .i64 c.grace, .slice A1 n1 k1, .slice A2 n2 k2, .slice A3 n3 k3] 26)) := ⟨_, rfl⟩; have hbox : ∀ W, Later w0 W → ∀ i, W.cell? ⟨w.heap.size, i, none⟩ = #[.int .i64 c.hour, .int .i64 c.grace, .slice A1 n1 k1, .slice A2 n2 k2, .slice A3 n3 k3][i]? := (by rw [hw0]; exact box_cells w #[.int .i64 c.hour, .int .i64 c.grace, .slice A1 n1 k1, .slice A2 n2 k2, .slice A3 n3 k3] 26); have hL0 : Later w w0 := (by rw [hw0]; simp); have hc0 := hc.later hL0; have Hw0 := hide hw0; clear hw0
  have hl0 := hl.later hL0
  go_enter Try.func38, Try.ntmps38
  go_wp2_with fail
  rw [← Hw0.out]; clear Hw0
  go_loopw [9, 10] (fun y i wr => ∃ j : Nat, j ≤ nl ∧ i = .int .i64 j ∧ y = .int .i64 ((ll.take j).countP (clashF c a b)) ∧ Later w0 wr) (fun _ i _ => nl - (intOf i).toNat)
  case atStart => exact ⟨0, Nat.zero_le _, rfl, by simp, later_refl _⟩
  case round =>
    obtain ⟨j, hj, rfl, rfl, hL⟩ := hrel
    by_cases hlt : j < nl
    · obtain ⟨b1, o1, d, Ad, nd, kd, rfl, hx, hrd, hcx⟩ := hl0.get hlt
      have hdr := hdry d (List.mem_of_getElem? hx)
      have hct := countP_take (clashF c a b) ll j d hx
      have hcl := countP_take_le (clashF c a b) ll j
      have hi1 : (j : Int) < nl := by omega
      obtain ⟨q, hq⟩ : ∃ q, (clashF c a b) d = q := ⟨_, rfl⟩
      rw [hq] at hct
      have Hct := hide hct
      have Hq := hide hq
      generalize (ll.take j).countP (clashF c a b) = y at *
      clear hct hq hx
      cases q with
      | true =>
        have Hc2 : Hid ((ll.take (j + 1)).countP (clashF c a b) = y + 1) := by show _ = _; rw [Hct.out]; simp
        clear Hct
        go_wp2_with fail
        refine wp_region_ext (w0 := w0) (by kernel_rfl) (by kernel_rfl) hL ?_; (repeat (first | go_big_quiet_step (((go_at_call 60; exact calls_ext (by (repeat (first | assumption | exact Ext.h _ | refine later_drew ?_ | refine later_alloc ?_ _ | refine later_set ?_ _ (Nat.le_add_right _ _) _ | refine later_set ?_ _ (Nat.le_refl _) _)); done) (DoClash_eq Hq.out _ (hc0.later (by (repeat (first | assumption | exact Ext.h _ | refine later_drew ?_ | refine later_alloc ?_ _ | refine later_set ?_ _ (Nat.le_add_right _ _) _ | refine later_set ?_ _ (Nat.le_refl _) _)); done)) (hrd.later (by (repeat (first | assumption | exact Ext.h _ | refine later_drew ?_ | refine later_alloc ?_ _ | refine later_set ?_ _ (Nat.le_add_right _ _) _ | refine later_set ?_ _ (Nat.le_refl _) _)); done)) ok hdr ha hb)))) | quiet_step (((go_at_call 60; exact calls_ext (by (repeat (first | assumption | exact Ext.h _ | refine later_drew ?_ | refine later_alloc ?_ _ | refine later_set ?_ _ (Nat.le_add_right _ _) _ | refine later_set ?_ _ (Nat.le_refl _) _)); done) (DoClash_eq Hq.out _ (hc0.later (by (repeat (first | assumption | exact Ext.h _ | refine later_drew ?_ | refine later_alloc ?_ _ | refine later_set ?_ _ (Nat.le_add_right _ _) _ | refine later_set ?_ _ (Nat.le_refl _) _)); done)) (hrd.later (by (repeat (first | assumption | exact Ext.h _ | refine later_drew ?_ | refine later_alloc ?_ _ | refine later_set ?_ _ (Nat.le_add_right _ _) _ | refine later_set ?_ _ (Nat.le_refl _) _)); done)) ok hdr ha hb)))))); refine wpQuiet_nil ?_; rintro w3 ⟨⟨_, hL3⟩, rfl⟩; (try dsimp only)
        go_wp2_with fail
        go_roundw
        case rel => exact ⟨j + 1, hlt, by go_num, by rw [Hc2.out]; rfl, hL3⟩
        case measure => simp [intOf]; omega
      | false =>
        have Hc2 : Hid ((ll.take (j + 1)).countP (clashF c a b) = y) := by show _ = _; rw [Hct.out]; simp
        clear Hct
        go_wp2_with fail
        refine wp_region_ext (w0 := w0) (by kernel_rfl) (by kernel_rfl) hL ?_; (repeat (first | go_big_quiet_step (((go_at_call 60; exact calls_ext (by (repeat (first | assumption | exact Ext.h _ | refine later_drew ?_ | refine later_alloc ?_ _ | refine later_set ?_ _ (Nat.le_add_right _ _) _ | refine later_set ?_ _ (Nat.le_refl _) _)); done) (DoClash_eq Hq.out _ (hc0.later (by (repeat (first | assumption | exact Ext.h _ | refine later_drew ?_ | refine later_alloc ?_ _ | refine later_set ?_ _ (Nat.le_add_right _ _) _ | refine later_set ?_ _ (Nat.le_refl _) _)); done)) (hrd.later (by (repeat (first | assumption | exact Ext.h _ | refine later_drew ?_ | refine later_alloc ?_ _ | refine later_set ?_ _ (Nat.le_add_right _ _) _ | refine later_set ?_ _ (Nat.le_refl _) _)); done)) ok hdr ha hb)))) | quiet_step (((go_at_call 60; exact calls_ext (by (repeat (first | assumption | exact Ext.h _ | refine later_drew ?_ | refine later_alloc ?_ _ | refine later_set ?_ _ (Nat.le_add_right _ _) _ | refine later_set ?_ _ (Nat.le_refl _) _)); done) (DoClash_eq Hq.out _ (hc0.later (by (repeat (first | assumption | exact Ext.h _ | refine later_drew ?_ | refine later_alloc ?_ _ | refine later_set ?_ _ (Nat.le_add_right _ _) _ | refine later_set ?_ _ (Nat.le_refl _) _)); done)) (hrd.later (by (repeat (first | assumption | exact Ext.h _ | refine later_drew ?_ | refine later_alloc ?_ _ | refine later_set ?_ _ (Nat.le_add_right _ _) _ | refine later_set ?_ _ (Nat.le_refl _) _)); done)) ok hdr ha hb)))))); refine wpQuiet_nil ?_; rintro w3 ⟨⟨_, hL3⟩, rfl⟩; (try dsimp only)
        go_wp2_with fail
        go_roundw
        case rel => exact ⟨j + 1, hlt, by go_num, by rw [Hc2.out], hL3⟩
        case measure => simp [intOf]; omega
    · have Hv : Hid (verdictN ((ll.take j).countP (clashF c a b)) nl = vR (clashF c a b) ll) := by
        show _ = _
        have := Hnl.out
        unfold vR; rw [List.take_of_length_le (by omega), this]
      generalize (ll.take j).countP (clashF c a b) = y at *
      go_wp2_with fail
      refine (Verdict_calls y nl _).mono ?_
      rintro e w3 ⟨rfl, hL3⟩
      go_wp2_with fail
      go_ret
      exact ⟨ret_int Hv.out, Later.trans hL0 (Later.trans hL hL3)⟩

set_option maxRecDepth 100000 in
set_option maxHeartbeats 1000000 in
theorem Paid_calls {A1 A2 A3 : Option Addr} {n1 k1 n2 k2 n3 k3 : Nat} {c : Hou} {Al : Option Addr} {nl kl : Nat} {ll : List (List Int)} (w : World) (hc : CV w c A1 n1 A2 n2 A3 n3) (hl : RRI w Al nl ll) (ok : OkH c) (hdry : ∀ d ∈ ll, IsErr c d) (hn : nl ≤ 1000000) :
    Calls Try.prog 33 #[(.agg #[.int .i64 c.hour, .int .i64 c.grace, .slice A1 n1 k1, .slice A2 n2 k2, .slice A3 n3 k3]), .slice Al nl kl] w fun e w' => e = .returned (.int .i64 (vR (isPaid c) ll)) ∧ Later w w' := by
  have hnl := hl.len
  have Hnl := hide hnl
  clear hnl
  obtain ⟨w0, hw0⟩ : ∃ W, W = (w.alloc (.cells #[.int .i64 c.hour, .int .i64 c.grace, .slice A1 n1 k1, .slice A2 n2 k2, .slice A3 n3 k3] 26)) := ⟨_, rfl⟩; have hbox : ∀ W, Later w0 W → ∀ i, W.cell? ⟨w.heap.size, i, none⟩ = #[.int .i64 c.hour, .int .i64 c.grace, .slice A1 n1 k1, .slice A2 n2 k2, .slice A3 n3 k3][i]? := (by rw [hw0]; exact box_cells w #[.int .i64 c.hour, .int .i64 c.grace, .slice A1 n1 k1, .slice A2 n2 k2, .slice A3 n3 k3] 26); have hL0 : Later w w0 := (by rw [hw0]; simp); have hc0 := hc.later hL0; have Hw0 := hide hw0; clear hw0
  have hl0 := hl.later hL0
  go_enter Try.func33, Try.ntmps33
  go_wp2_with fail
  rw [← Hw0.out]; clear Hw0
  go_loopw [5, 6] (fun y i wr => ∃ j : Nat, j ≤ nl ∧ i = .int .i64 j ∧ y = .int .i64 ((ll.take j).countP (isPaid c)) ∧ Later w0 wr) (fun _ i _ => nl - (intOf i).toNat)
  case atStart => exact ⟨0, Nat.zero_le _, rfl, by simp, later_refl _⟩
  case round =>
    obtain ⟨j, hj, rfl, rfl, hL⟩ := hrel
    by_cases hlt : j < nl
    · obtain ⟨b1, o1, d, Ad, nd, kd, rfl, hx, hrd, hcx⟩ := hl0.get hlt
      have hdr := hdry d (List.mem_of_getElem? hx)
      have hct := countP_take (isPaid c) ll j d hx
      have hcl := countP_take_le (isPaid c) ll j
      have hi1 : (j : Int) < nl := by omega
      obtain ⟨q, hq⟩ : ∃ q, (isPaid c) d = q := ⟨_, rfl⟩
      rw [hq] at hct
      have Hct := hide hct
      have Hq := hide hq
      generalize (ll.take j).countP (isPaid c) = y at *
      clear hct hq hx
      cases q with
      | true =>
        have Hc2 : Hid ((ll.take (j + 1)).countP (isPaid c) = y + 1) := by show _ = _; rw [Hct.out]; simp
        clear Hct
        go_wp2_with fail
        refine wp_region_ext (w0 := w0) (by kernel_rfl) (by kernel_rfl) hL ?_; (repeat (first | go_big_quiet_step (((go_at_call 74; exact calls_ext (by (repeat (first | assumption | exact Ext.h _ | refine later_drew ?_ | refine later_alloc ?_ _ | refine later_set ?_ _ (Nat.le_add_right _ _) _ | refine later_set ?_ _ (Nat.le_refl _) _)); done) (IsPaid_eq Hq.out _ (hc0.later (by (repeat (first | assumption | exact Ext.h _ | refine later_drew ?_ | refine later_alloc ?_ _ | refine later_set ?_ _ (Nat.le_add_right _ _) _ | refine later_set ?_ _ (Nat.le_refl _) _)); done)) (hrd.later (by (repeat (first | assumption | exact Ext.h _ | refine later_drew ?_ | refine later_alloc ?_ _ | refine later_set ?_ _ (Nat.le_add_right _ _) _ | refine later_set ?_ _ (Nat.le_refl _) _)); done)) ok hdr)))) | quiet_step (((go_at_call 74; exact calls_ext (by (repeat (first | assumption | exact Ext.h _ | refine later_drew ?_ | refine later_alloc ?_ _ | refine later_set ?_ _ (Nat.le_add_right _ _) _ | refine later_set ?_ _ (Nat.le_refl _) _)); done) (IsPaid_eq Hq.out _ (hc0.later (by (repeat (first | assumption | exact Ext.h _ | refine later_drew ?_ | refine later_alloc ?_ _ | refine later_set ?_ _ (Nat.le_add_right _ _) _ | refine later_set ?_ _ (Nat.le_refl _) _)); done)) (hrd.later (by (repeat (first | assumption | exact Ext.h _ | refine later_drew ?_ | refine later_alloc ?_ _ | refine later_set ?_ _ (Nat.le_add_right _ _) _ | refine later_set ?_ _ (Nat.le_refl _) _)); done)) ok hdr)))))); refine wpQuiet_nil ?_; rintro w3 ⟨⟨_, hL3⟩, rfl⟩; (try dsimp only)
        go_wp2_with fail
        go_roundw
        case rel => exact ⟨j + 1, hlt, by go_num, by rw [Hc2.out]; rfl, hL3⟩
        case measure => simp [intOf]; omega
      | false =>
        have Hc2 : Hid ((ll.take (j + 1)).countP (isPaid c) = y) := by show _ = _; rw [Hct.out]; simp
        clear Hct
        go_wp2_with fail
        refine wp_region_ext (w0 := w0) (by kernel_rfl) (by kernel_rfl) hL ?_; (repeat (first | go_big_quiet_step (((go_at_call 74; exact calls_ext (by (repeat (first | assumption | exact Ext.h _ | refine later_drew ?_ | refine later_alloc ?_ _ | refine later_set ?_ _ (Nat.le_add_right _ _) _ | refine later_set ?_ _ (Nat.le_refl _) _)); done) (IsPaid_eq Hq.out _ (hc0.later (by (repeat (first | assumption | exact Ext.h _ | refine later_drew ?_ | refine later_alloc ?_ _ | refine later_set ?_ _ (Nat.le_add_right _ _) _ | refine later_set ?_ _ (Nat.le_refl _) _)); done)) (hrd.later (by (repeat (first | assumption | exact Ext.h _ | refine later_drew ?_ | refine later_alloc ?_ _ | refine later_set ?_ _ (Nat.le_add_right _ _) _ | refine later_set ?_ _ (Nat.le_refl _) _)); done)) ok hdr)))) | quiet_step (((go_at_call 74; exact calls_ext (by (repeat (first | assumption | exact Ext.h _ | refine later_drew ?_ | refine later_alloc ?_ _ | refine later_set ?_ _ (Nat.le_add_right _ _) _ | refine later_set ?_ _ (Nat.le_refl _) _)); done) (IsPaid_eq Hq.out _ (hc0.later (by (repeat (first | assumption | exact Ext.h _ | refine later_drew ?_ | refine later_alloc ?_ _ | refine later_set ?_ _ (Nat.le_add_right _ _) _ | refine later_set ?_ _ (Nat.le_refl _) _)); done)) (hrd.later (by (repeat (first | assumption | exact Ext.h _ | refine later_drew ?_ | refine later_alloc ?_ _ | refine later_set ?_ _ (Nat.le_add_right _ _) _ | refine later_set ?_ _ (Nat.le_refl _) _)); done)) ok hdr)))))); refine wpQuiet_nil ?_; rintro w3 ⟨⟨_, hL3⟩, rfl⟩; (try dsimp only)
        go_wp2_with fail
        go_roundw
        case rel => exact ⟨j + 1, hlt, by go_num, by rw [Hc2.out], hL3⟩
        case measure => simp [intOf]; omega
    · have Hv : Hid (verdictN ((ll.take j).countP (isPaid c)) nl = vR (isPaid c) ll) := by
        show _ = _
        have := Hnl.out
        unfold vR; rw [List.take_of_length_le (by omega), this]
      generalize (ll.take j).countP (isPaid c) = y at *
      go_wp2_with fail
      refine (Verdict_calls y nl _).mono ?_
      rintro e w3 ⟨rfl, hL3⟩
      go_wp2_with fail
      go_ret
      exact ⟨ret_int Hv.out, Later.trans hL0 (Later.trans hL hL3)⟩
end Go.Proofs.Ytbkfnajpbhfneaa

/- The helpers of the laws of chapter 01: walks. -/
namespace Go.Proofs.Ytbkfnajpbhfneaa
open Go Go.RowKit

theorem run_app_nil {P : Program} {w : World} {base : Nat} (t ty e : TypeId) (i : TypeInfo) (size : Nat) (ht : P.underlying t = some (.slice e)) (hi : P.info? e = some i)
    (v : Value) (n : Nat) (xs : List Value) (hown : w.ownsRow base e size v n xs) (c : Nat) : (Builtin.append_ #[t, t] ty #[v, .slice none 0 c]).run P w = .ok v w := by
  rcases hown.2 with ⟨rfl, rfl⟩ | ⟨g, cap, cur, rfl, _, _, hle, _⟩ <;> simp [Builtin.append_, run_underlying ht, sizeOf, typeInfo, hi, Builtin.lenOf, Builtin.firstCells, storeCells, *]
theorem appG_nil {P : Program} {ops : Array Oper} {rest : List Oper} {o : Oper} {a : Act} {Q : Exit → Act → World → Prop} {W : World} (hgd : o.guard = none) (base : Nat) (s x : Operand) (t : TypeId)
    (ho : o.op = .call { callee := .builtin .append, args := #[s, x], argTypes := #[t, t] }) (e : TypeId) (z : Value) (size bytes : Nat)
    (ht : P.underlying t = some (.slice e)) (hinfo : (P.info? e).map (fun i => (i.zero, i.size, i.bytes)) = some (some z, size, bytes))
    (v : Value) (n : Nat) (xs : List Value) (hs : a.eval s = v) (hown : W.ownsRow base e size v n xs) (c : Nat) (hx : a.eval x = .slice none 0 c)
    (h : wpList P ops Q rest (a.put o.dst v) W) :
    wpList P ops Q (o :: rest) a W := by
  refine wpList_plain hgd fun _ hK => ?_
  obtain ⟨i, hi, hz, h2, h3⟩ := info_parts hinfo
  have hr := run_app_nil (P := P) (w := W) t o.type e i size ht hi v n xs hown c
  unfold Oper.wp execOp
  simp only [ho, resolve, invoke, builtin, Sem.run_bind, Sem.run_pure, Result.andThen_ok, List.map_toArray, List.map_cons, List.map_nil, hs, hx, hr]
  exact hK _ _ h

/-- what list returns -/
def ListPost (l : List Int) (w : World) (e : Ending) (w' : World) : Prop :=
  ∃ A n k, e = .returned (.slice A n k) ∧ Later w w' ∧ RI w' A n l ∧ n ≤ k ∧ Fresh w w' A
set_option maxRecDepth 100000 in
theorem list_calls {A : Option Addr} {n k : Nat} {l : List Int} (w : World) (h : RI w A n l) (hn : n ≤ 1000000) :
    Calls Try.prog 58 #[.slice A n k] w (ListPost l w) := by
  have hlen := h.len
  cases A with
  | none =>
    have h0 : n = 0 := by
      rcases Nat.eq_zero_or_pos n with h0 | h0
      · exact h0
      · obtain ⟨ad, e, _⟩ := h.2 h0; cases e
    have hl : l = [] := List.eq_nil_of_length_eq_zero (by omega)
    subst h0 hl
    clear hlen
    go_enter Try.func58, Try.ntmps58
    go_wp2_with (at_builtin; refine appG_nil rfl w.heap.size _ _ 47 rfl 3 (.int .i64 0) 1 8 Try.underlying47 int_info _ 0 [] rfl (World.ownsRow_nil _ _ _ _) k rfl ?_)
    go_wp2_with fail
    go_ret
    exact ⟨_, 0, _, rfl, later_refl _, RI.nil, Nat.le_refl _, fun b o e => by cases e⟩
  | some ad =>
    have hc := fun (W : World) (hL : Later w W) => ints_cells (h.later hL)
    have hl2 : (ints l).length = n * 1 := by rw [ints_length]; omega
    have Hl := hide hlen
    clear hlen
    go_enter Try.func58, Try.ntmps58
    go_wp2_with (at_builtin; refine appG rfl w.heap.size _ _ 47 rfl 3 (.int .i64 0) 1 8 Try.underlying47 int_info rfl (by omega) _ 0 [] rfl ?hb (World.ownsRow_nil _ _ _ _) ad n k (ints l) rfl hl2 (hc _ (later_refl _)) (ints_one l) (by omega) hn (by omega) ?_; case hb => simp)
    intro v' w' hap
    obtain ⟨A', k', hv', hrd⟩ := own_slice hap.own
    subst hv'
    have hcp := own_cap hap.own
    have hfr := own_fresh (w0 := w) hap.own
    have hL := hap.later (later_refl _) (World.ownsRow_nil _ _ _ _)
    rw [Nat.zero_add] at hcp hrd
    rw [List.nil_append] at hrd
    simp only [Nat.zero_add]
    go_wp2_with fail
    go_ret
    exact ⟨_, _, _, rfl, hL, hrd, hcp, hfr⟩

theorem lawInts_calls {A B : Option Addr} {n k m j : Nat} {a b : List Int} (w : World) (ha : RI w A n a) (hb : RI w B m b) (hn : n ≤ 1000000) (hm : m ≤ 1000000) :
    Calls Try.prog 46 #[.slice A n k, .slice B m j] w fun e w' => e = .returned (.bool (decide (a = b))) ∧ Later w w' := by
  have hna := ha.len
  have hmb := hb.len
  by_cases hne : n = m
  · subst hne
    have hb1 : ((n : Int) != (n : Int)) = false := by simp
    have Hna := hide hna
    have Hmb := hide hmb
    clear hna hmb
    go_enter Try.func46, Try.ntmps46
    go_wp2_with fail
    go_loopw [5] (fun i wr => ∃ t : Nat, t ≤ n ∧ i = .int .i64 t ∧ Later w wr ∧ Hid (a.take t = b.take t)) (fun i _ => n - (intOf i).toNat)
    case atStart => exact ⟨0, Nat.zero_le _, rfl, later_refl _, rfl⟩
    case round =>
      obtain ⟨t, ht, rfl, hL, Heq⟩ := hrel
      by_cases hlt : t < n
      · obtain ⟨b1, o1, x, rfl, _, hx, hx0⟩ := ha.get hlt
        obtain ⟨b2, o2, y, rfl, _, hy, hy0⟩ := hb.get hlt
        have hi1 : (t : Int) < n := by omega
        have hx0' := fun W (hW : Later wr W) => hx0 W (Later.trans hL hW)
        have hy0' := fun W (hW : Later wr W) => hy0 W (Later.trans hL hW)
        have Hx := hide hx
        have Hy := hide hy
        clear hx hy hx0 hy0
        by_cases hxy : x = y
        · have hb2 : (x != y) = false := by simpa using hxy
          have Hxy := hide hxy
          clear hxy
          go_wp2_with fail
          refine wp_region_ext (w0 := wr) (by kernel_rfl) (by kernel_rfl) (later_refl _) ?_; (repeat (first | go_big_quiet_step (((fail))) | quiet_step (((fail))))); refine wpQuiet_nil ?_; rintro w3 ⟨⟨_, hL3⟩, rfl⟩; (try dsimp only)
          go_wp2_with fail
          go_roundw
          case rel =>
            refine ⟨t + 1, hlt, by go_num, Later.trans hL hL3, ?_⟩
            show a.take (t + 1) = b.take (t + 1)
            rw [List.take_add_one, List.take_add_one, Heq.out, Hx.out, Hy.out, Hxy.out]
          case measure => simp [intOf]; omega
        · have hb2 : (x != y) = true := by simpa using hxy
          have hno : decide (a = b) = false := by
            rw [decide_eq_false_iff_not]
            intro e
            have := Hx.out
            rw [e, Hy.out] at this
            injection this with this
            exact hxy this.symm
          have Hno := hide hno
          clear hxy hno
          go_wp2_with fail
          refine wp_region_ext (w0 := wr) (by kernel_rfl) (by kernel_rfl) (later_refl _) ?_; (repeat (first | go_big_quiet_step (((fail))) | quiet_step (((fail))))); refine wpQuiet_nil ?_; rintro w3 ⟨⟨_, hL3⟩, rfl⟩; (try dsimp only)
          go_wp2_with fail
          go_ret
          exact ⟨by rw [Hno.out]; rfl, Later.trans hL hL3⟩
      · have hyes : decide (a = b) = true := by
          rw [decide_eq_true_eq]
          have h1 : a.take t = a := List.take_of_length_le (by have := Hna.out; omega)
          have h2 : b.take t = b := List.take_of_length_le (by have := Hmb.out; omega)
          rw [← h1, ← h2]; exact Heq.out
        have Hyes := hide hyes
        clear hyes
        go_wp2_with fail
        go_ret
        exact ⟨by rw [Hyes.out]; rfl, hL⟩
  · have hb1 : ((n : Int) != (m : Int)) = true := by simp; omega
    have hno : decide (a = b) = false := by
      rw [decide_eq_false_iff_not]
      intro e
      rw [e] at hna
      omega
    have Hno := hide hno
    clear hno hne hna hmb
    go_enter Try.func46, Try.ntmps46
    go_wp2_with fail
    go_ret
    exact ⟨by rw [Hno.out]; rfl, later_refl _⟩

theorem lawBetween_calls (a b : Int) (w : World) : Calls Try.prog 51 #[.int .i64 a, .int .i64 b] w fun e w' => e = .returned (.agg #[.int .i64 a, .int .i64 b]) ∧ Later w w' := by
  go_enter Try.func51, Try.ntmps51
  go_wp2_with fail
  refine bodyPost_ret (v := .agg #[.int .i64 a, .int .i64 b]) ?_ rfl ⟨rfl, ?_⟩
  · simp [results, Try.results51, go_sem]
  · (((repeat (first | exact (later_refl _) | refine later_drew ?_ | refine later_alloc ?_ _ | refine later_set ?_ _ (Nat.le_add_right _ _) _ | refine later_set ?_ _ (Nat.le_refl _) _)); done))

theorem lawFault_calls {A1 A2 A3 : Option Addr} {n1 k1 n2 k2 n3 k3 : Nat} {c : Hou} (w : World) (hc : CV w c A1 n1 A2 n2 A3 n3) (hn1 : n1 ≤ 1000) (hn2 : n2 ≤ 1000) (hn3 : n3 ≤ 1000) :
    Calls Try.prog 36 #[(.agg #[.int .i64 c.hour, .int .i64 c.grace, .slice A1 n1 k1, .slice A2 n2 k2, .slice A3 n3 k3])] w fun e w' => e = .returned (.int .i64 (fault c)) ∧ Later w w' := by
  obtain ⟨w0, hw0⟩ : ∃ W, W = (w.alloc (.cells #[.int .i64 c.hour, .int .i64 c.grace, .slice A1 n1 k1, .slice A2 n2 k2, .slice A3 n3 k3] 26)) := ⟨_, rfl⟩; have hbox : ∀ W, Later w0 W → ∀ i, W.cell? ⟨w.heap.size, i, none⟩ = #[.int .i64 c.hour, .int .i64 c.grace, .slice A1 n1 k1, .slice A2 n2 k2, .slice A3 n3 k3][i]? := (by rw [hw0]; exact box_cells w #[.int .i64 c.hour, .int .i64 c.grace, .slice A1 n1 k1, .slice A2 n2 k2, .slice A3 n3 k3] 26); have hL0 : Later w w0 := (by rw [hw0]; simp); have hc0 := hc.later hL0; have Hw0 := hide hw0; clear hw0
  go_enter Try.func36, Try.ntmps36
  go_wp2_with fail
  rw [← Hw0.out]; clear Hw0
  refine (Fault_calls _ hc0 hn1 hn2 hn3).mono ?_
  rintro e w1 ⟨rfl, hL1⟩
  have hfr := fault_cases c
  have hf0 : 0 ≤ fault c := by omega
  have hf3 : fault c ≤ 3 := by omega
  clear hfr
  go_wp2_with fail
  go_ret
  exact ⟨rfl, Later.trans hL0 hL1⟩

/-- Thin, in plain words -/
def thinB (c : Hou) : Bool := decide (c.clocks.length ≤ 6) && decide (c.tickets.length ≤ 8) && decide (c.clips.length ≤ 12) && (decide (fault c ≠ 0) || (decide (c.clips.length ≤ 8) && decide (many c ≤ 60)))
theorem Thin_calls {A1 A2 A3 : Option Addr} {n1 k1 n2 k2 n3 k3 : Nat} {c : Hou} (w : World) (hc : CV w c A1 n1 A2 n2 A3 n3) (b1 : n1 ≤ 9223372036854775807) (b2 : n2 ≤ 9223372036854775807) (b3 : n3 ≤ 9223372036854775807) :
    Calls Try.prog 22 #[(.agg #[.int .i64 c.hour, .int .i64 c.grace, .slice A1 n1 k1, .slice A2 n2 k2, .slice A3 n3 k3])] w fun e w' => e = .returned (.bool (thinB c)) ∧ Later w w' := by
  have h1 := hc.ck.len
  have h2 := hc.tk.len
  have h3 := hc.cp.len
  obtain ⟨w0, hw0⟩ : ∃ W, W = (w.alloc (.cells #[.int .i64 c.hour, .int .i64 c.grace, .slice A1 n1 k1, .slice A2 n2 k2, .slice A3 n3 k3] 26)) := ⟨_, rfl⟩; have hbox : ∀ W, Later w0 W → ∀ i, W.cell? ⟨w.heap.size, i, none⟩ = #[.int .i64 c.hour, .int .i64 c.grace, .slice A1 n1 k1, .slice A2 n2 k2, .slice A3 n3 k3][i]? := (by rw [hw0]; exact box_cells w #[.int .i64 c.hour, .int .i64 c.grace, .slice A1 n1 k1, .slice A2 n2 k2, .slice A3 n3 k3] 26); have hL0 : Later w w0 := (by rw [hw0]; simp); have hc0 := hc.later hL0; have Hw0 := hide hw0; clear hw0
  by_cases hb : n1 ≤ 6 ∧ n2 ≤ 8 ∧ n3 ≤ 12
  · obtain ⟨l1, l2, l3⟩ := hb
    have t1 : ¬ (6 : Int) < (n1 : Int) := by omega
    have t2 : ¬ (8 : Int) < (n2 : Int) := by omega
    have t3 : ¬ (12 : Int) < (n3 : Int) := by omega
    obtain ⟨q, hq⟩ : ∃ q, fault c = q := ⟨_, rfl⟩
    have hfc := Fault_calls (k1 := k1) (k2 := k2) (k3 := k3) w0 hc0 (by omega) (by omega) (by omega)
    rw [hq] at hfc
    by_cases hq0 : q = 0
    · subst hq0
      have ok := okH_of_fault hq
      have okh : ∀ h ∈ c.clocks, -30 ≤ h.1 ∧ h.1 ≤ h.2 ∧ h.2 ≤ 30 := fun h hh => ok.clock h hh
      by_cases h8 : n3 ≤ 8
      · have h8b := decide_eq_true (show (n3 : Int) ≤ 8 by omega)
        have Htb : Hid (thinB c = decide (many c ≤ 60)) := by
          show _ = _
          unfold thinB
          rw [hq, ← h1, ← h2, ← h3, decide_eq_true l1, decide_eq_true l2, decide_eq_true l3, decide_eq_true h8]
          simp
        have hmr := many_range okh
        generalize hm : many c = m at *
        have Hm := hide hm
        have Hq := hide hq
        have Hfc := hide hfc
        have hbx4 := fun W (hW : Later w0 W) => hbox W hW 4
        simp only [List.getElem?_toArray, List.getElem?_cons_zero, List.getElem?_cons_succ] at hbx4
        clear hm hq hfc h1 h2 h3
        go_enter Try.func22, Try.ntmps22
        go_wp2_with fail
        rw [← Hw0.out]; clear Hw0
        refine Hfc.out.mono ?_
        rintro e w1 ⟨rfl, hL1⟩
        have hb4 := hbx4 _ hL1
        go_wp2_with fail
        refine (Many_calls _ (hc0.later hL1) okh (by omega)).mono ?_
        rw [Hm.out]
        rintro e w2 ⟨rfl, hL2⟩
        go_wp2_with fail
        go_ret
        exact ⟨by rw [Htb.out]; rfl, Later.trans hL0 (Later.trans hL1 hL2)⟩
      · have h8b : ¬ (n3 : Int) ≤ 8 := by omega
        have h8c := decide_eq_false h8b
        have Htb : Hid (thinB c = false) := by
          show _ = _
          unfold thinB
          rw [hq, ← h1, ← h2, ← h3, decide_eq_false h8]
          simp
        have Hfc := hide hfc
        have hbx4 := fun W (hW : Later w0 W) => hbox W hW 4
        simp only [List.getElem?_toArray, List.getElem?_cons_zero, List.getElem?_cons_succ] at hbx4
        clear hq hfc h1 h2 h3
        go_enter Try.func22, Try.ntmps22
        go_wp2_with fail
        rw [← Hw0.out]; clear Hw0
        refine Hfc.out.mono ?_
        rintro e w1 ⟨rfl, hL1⟩
        have hb4 := hbx4 _ hL1
        go_wp2_with fail
        go_ret
        exact ⟨by rw [Htb.out]; rfl, Later.trans hL0 hL1⟩
    · have Htb : Hid (thinB c = true) := by
        show _ = _
        unfold thinB
        rw [hq, ← h1, ← h2, ← h3, decide_eq_true l1, decide_eq_true l2, decide_eq_true l3]
        simp [hq0]
      have hqb : (q != 0) = true := by simpa using hq0
      have Hfc := hide hfc
      clear hfc hq hq0 h1 h2 h3
      go_enter Try.func22, Try.ntmps22
      go_wp2_with fail
      rw [← Hw0.out]; clear Hw0
      refine Hfc.out.mono ?_
      rintro e w1 ⟨rfl, hL1⟩
      go_wp2_with fail
      go_ret
      exact ⟨by rw [Htb.out]; rfl, Later.trans hL0 hL1⟩
  · have Htb : Hid (thinB c = false) := by
      show _ = _
      unfold thinB
      rw [← h1, ← h2, ← h3]
      simp
      omega
    clear h1 h2 h3
    by_cases l1 : n1 ≤ 6
    · have t1 : ¬ (6 : Int) < (n1 : Int) := by omega
      by_cases l2 : n2 ≤ 8
      · have t2 : ¬ (8 : Int) < (n2 : Int) := by omega
        have t3 : (12 : Int) < (n3 : Int) := by omega
        clear hb
        go_enter Try.func22, Try.ntmps22
        go_wp2_with fail
        go_ret
        exact ⟨by rw [Htb.out]; rfl, by rw [← Hw0.out]; exact hL0⟩
      · have t2 : (8 : Int) < (n2 : Int) := by omega
        clear hb
        go_enter Try.func22, Try.ntmps22
        go_wp2_with fail
        go_ret
        exact ⟨by rw [Htb.out]; rfl, by rw [← Hw0.out]; exact hL0⟩
    · have t1 : (6 : Int) < (n1 : Int) := by omega
      clear hb
      go_enter Try.func22, Try.ntmps22
      go_wp2_with fail
      go_ret
      exact ⟨by rw [Htb.out]; rfl, by rw [← Hw0.out]; exact hL0⟩

set_option maxRecDepth 100000 in
theorem lawTo_calls (lo hi : Int) (w : World) : Calls Try.prog 28 #[.agg #[.int .i64 lo, .int .i64 hi]] w fun e w' => e = .returned (.agg #[.int .i64 lo, .int .i64 hi]) ∧ Later w w' := by
  go_enter Try.func28, Try.ntmps28
  go_wp2_with fail
  refine bodyPost_ret (v := .agg #[.int .i64 lo, .int .i64 hi]) ?_ rfl ⟨rfl, ?_⟩
  · simp [results, Try.results28, go_sem]
  · (((repeat (first | exact (later_refl _) | refine later_drew ?_ | refine later_alloc ?_ _ | refine later_set ?_ _ (Nat.le_add_right _ _) _ | refine later_set ?_ _ (Nat.le_refl _) _)); done))
theorem RRI.nil {w : World} {A : Option Addr} : RRI w A 0 [] := ⟨[], ⟨rfl, fun h => absurd h (by omega)⟩, rfl, fun i l h => by simp at h⟩
/-- what sure returns -/
def SurePost (c : Hou) (w : World) (e : Ending) (w' : World) : Prop :=
  ∃ A n k, e = .returned (.tuple #[.slice A n k, .int .i64 (askedErr c 0)]) ∧ Later w w' ∧ (askedErr c 0 = 0 → RRI w' A n (truths c))
set_option maxRecDepth 100000 in
theorem sure_calls {A1 A2 A3 : Option Addr} {n1 k1 n2 k2 n3 k3 : Nat} {c : Hou} (w : World) (hc : CV w c A1 n1 A2 n2 A3 n3) (hn1 : n1 ≤ 1000) (hn2 : n2 ≤ 1000) (hn3 : n3 ≤ 1000) :
    Calls Try.prog 27 #[(.agg #[.int .i64 c.hour, .int .i64 c.grace, .slice A1 n1 k1, .slice A2 n2 k2, .slice A3 n3 k3])] w (SurePost c w) := by
  obtain ⟨w0, hw0⟩ : ∃ W, W = (w.alloc (.cells #[.int .i64 c.hour, .int .i64 c.grace, .slice A1 n1 k1, .slice A2 n2 k2, .slice A3 n3 k3] 26)) := ⟨_, rfl⟩; have hbox : ∀ W, Later w0 W → ∀ i, W.cell? ⟨w.heap.size, i, none⟩ = #[.int .i64 c.hour, .int .i64 c.grace, .slice A1 n1 k1, .slice A2 n2 k2, .slice A3 n3 k3][i]? := (by rw [hw0]; exact box_cells w #[.int .i64 c.hour, .int .i64 c.grace, .slice A1 n1 k1, .slice A2 n2 k2, .slice A3 n3 k3] 26); have hL0 : Later w w0 := (by rw [hw0]; simp); have hc0 := hc.later hL0; have Hw0 := hide hw0; clear hw0
  obtain ⟨q, hq⟩ : ∃ q, fault c = q := ⟨_, rfl⟩
  have hfc := lawFault_calls (k1 := k1) (k2 := k2) (k3 := k3) w0 hc0 hn1 hn2 hn3
  rw [hq] at hfc
  have Hfc := hide hfc
  clear hfc
  by_cases hq0 : q = 0
  · subst hq0
    have ok := okH_of_fault hq
    have hmr := many_le hq
    have Hb := hide hbox
    by_cases htn : truths c = []
    · have He : Hid (askedErr c 0 = 11) := askedErr_none hq ((truths_nil hq).2 htn)
      have Htn := hide htn
      have hbw := hbox
      clear hq htn
      go_enter Try.func27, Try.ntmps27
      go_wp2_with fail
      rw [← Hw0.out]; clear Hw0
      refine Hfc.out.mono ?_
      rintro e w1 ⟨rfl, hL1⟩
      have e2 := hbw w1 hL1
      have c0 := e2 0
      have c1 := e2 1
      have c2 := e2 2
      have c3 := e2 3
      have c4 := e2 4
      simp only [List.getElem?_toArray, List.getElem?_cons_zero, List.getElem?_cons_succ] at c0 c1 c2 c3 c4
      clear e2
      go_wp2_with fail
      refine (Truths_calls _ (hc0.later hL1) ok (by omega)).mono ?_
      rintro e w2 ⟨A, m, k, rfl, hL2, hr⟩
      rw [Htn.out] at hr
      have hm0 := hr.len
      simp only [List.length_nil] at hm0
      subst hm0
      go_wp2_with fail
      refine bodyPost_ret (v := .tuple #[.slice none 0 0, .int .i64 11]) ?_ rfl ⟨none, 0, 0, by rw [He.out], Later.trans hL0 (Later.trans hL1 hL2), fun h => by rw [He.out] at h; omega⟩
      simp [results, Try.results27, go_sem]
    · have He : Hid (askedErr c 0 = 0) := askedErr_ok hq ((truths_ne hq).2 htn)
      have Htn := hide htn
      have hbw := hbox
      clear hq htn
      go_enter Try.func27, Try.ntmps27
      go_wp2_with fail
      rw [← Hw0.out]; clear Hw0
      refine Hfc.out.mono ?_
      rintro e w1 ⟨rfl, hL1⟩
      have e2 := hbw w1 hL1
      have c0 := e2 0
      have c1 := e2 1
      have c2 := e2 2
      have c3 := e2 3
      have c4 := e2 4
      simp only [List.getElem?_toArray, List.getElem?_cons_zero, List.getElem?_cons_succ] at c0 c1 c2 c3 c4
      clear e2
      go_wp2_with fail
      refine (Truths_calls _ (hc0.later hL1) ok (by omega)).mono ?_
      rintro e w2 ⟨A, m, k, rfl, hL2, hr⟩
      have hml := hr.len
      have hm0 : ((m : Int) == 0) = false := by
        have : m ≠ 0 := fun e => Htn.out (List.eq_nil_of_length_eq_zero (by omega))
        simp; omega
      clear hml
      go_wp2_with fail
      refine bodyPost_ret (v := .tuple #[.slice A m k, .int .i64 0]) ?_ rfl ⟨A, m, k, by rw [He.out], Later.trans hL0 (Later.trans hL1 hL2), fun _ => hr⟩
      simp [results, Try.results27, go_sem]
  · have He : Hid (askedErr c 0 = q) := by show _ = _; rw [askedErr_bad (by omega), hq]
    have hqb : (q != 0) = true := by simpa using hq0
    clear hq
    go_enter Try.func27, Try.ntmps27
    go_wp2_with fail
    rw [← Hw0.out]; clear Hw0
    refine Hfc.out.mono ?_
    rintro e w1 ⟨rfl, hL1⟩
    go_wp2_with fail
    refine bodyPost_ret (v := .tuple #[.slice none 0 0, .int .i64 q]) ?_ rfl ⟨none, 0, 0, by rw [He.out], Later.trans hL0 hL1, fun h => by rw [He.out] at h; exact absurd h hq0⟩
    simp [results, Try.results27, go_sem]
end Go.Proofs.Ytbkfnajpbhfneaa
