/- Part 9 of the proof: joined from the texts UnE, UnF, UnG, UnB, UnH, UnR, UnI, UnM, UnN, Rset, TailC, UmD. -/
import Derived.Test.YtcffgjhmpgdfpaaPart8
import Derived.Test.YtcffgjhmpgdfpaaPart6
import Derived.Test.YtcffgjhmpgdfpaaPart2
import Derived.Test.YtcffgjhmpgdfpaaPart7
import Derived.Test.YtcffgjhmpgdfpaaPart1
import Derived.Laws.CopyOwn
set_option linter.unusedSimpArgs false
set_option linter.unusedVariables false
/- The tubs' asked: walk. -/
namespace Go.Proofs.Ytcffgjhmpgdfpaa
open Go Go.RowKit
theorem build_work (a b : Int) (A1 A2 A3 Aq : Option Addr) (n1 k1 n2 k2 n3 k3 nq kq : Nat) (x y z : Int) (W : World) :
    (Instr.build 81 #[(0, .agg #[.int .i64 a, .int .i64 b, .slice A1 n1 k1, .slice A2 n2 k2, .slice A3 n3 k3, .int .i64 x, .int .i64 y, .int .i64 z, .slice Aq nq kq])]).run Try.prog W = .ok (.agg #[.int .i64 a, .int .i64 b, .slice A1 n1 k1, .slice A2 n2 k2, .slice A3 n3 k3, .int .i64 x, .int .i64 y, .int .i64 z, .slice Aq nq kq, .slice none 0 0, .slice none 0 0]) W :=
  run_build W _ _ _ (by kernel_rfl)
attribute [local go_sem] later_alloc2 later_alloc3 later_alloc4 build_work
theorem urange_info : (Try.prog.info? 53).map (fun i => (i.zero, i.size, i.bytes)) = some (some (.agg #[.int .i64 0, .int .i64 0]), 2, 16) := by kernel_rfl
def AskPost (f : Flo) (A1 : Option Addr) (n1 k1 : Nat) (A2 : Option Addr) (n2 k2 : Nat) (A3 : Option Addr) (n3 k3 : Nat) (Aq : Option Addr) (nq kq : Nat) (w : World) (e : Ending) (w' : World) : Prop :=
  (askF f ≠ 0 ∧ e = .returned (.tuple #[.pointer none, .int .i64 (askF f)]) ∧ Later w w') ∨
  (askF f = 0 ∧ ∃ bw At kt Af kf m, e = .returned (.tuple #[.pointer (some ⟨bw, 0, none⟩), .int .i64 0]) ∧ Later w w' ∧ w.heap.size ≤ bw ∧ Blk w' bw 81 #[.int .i64 f.house.hour, .int .i64 f.house.grace, .slice A1 n1 k1, .slice A2 n2 k2, .slice A3 n3 k3, .int .i64 f.tubs, .int .i64 f.opn, .int .i64 f.closing, .slice Aq nq kq, .slice At m kt, .slice Af m kf] ∧ RI w' At m (nats (givenT f)) ∧ RP w' Af m (givenR f))
set_option maxRecDepth 100000 in
set_option maxHeartbeats 4000000 in
theorem asked_u {A1 A2 A3 Aq : Option Addr} {n1 k1 n2 k2 n3 k3 nq kq : Nat} {f : Flo} (w : World) (hc : FV w f A1 n1 A2 n2 A3 n3 Aq nq) (hn1 : n1 ≤ 1000) (hn2 : n2 ≤ 1000) (hn3 : n3 ≤ 1000) (hnq : nq ≤ 1000) :
    Calls Try.prog 24 #[(.agg #[.int .i64 f.house.hour, .int .i64 f.house.grace, .slice A1 n1 k1, .slice A2 n2 k2, .slice A3 n3 k3, .int .i64 f.tubs, .int .i64 f.opn, .int .i64 f.closing, .slice Aq nq kq])] w (AskPost f A1 n1 k1 A2 n2 k2 A3 n3 k3 Aq nq kq w) := by
  by_cases hf : faultF f = 0
  · have ok := faultF_zero.1 hf
    have okt := ok.tubs
    have oko := ok.opn
    obtain ⟨w0, hw0⟩ : ∃ W, W = w.alloc (.cells #[.int .i64 f.house.hour, .int .i64 f.house.grace, .slice A1 n1 k1, .slice A2 n2 k2, .slice A3 n3 k3, .int .i64 f.tubs, .int .i64 f.opn, .int .i64 f.closing, .slice Aq nq kq] 48) := ⟨_, rfl⟩
    have hbox : ∀ W, Later w0 W → ∀ i, W.cell? ⟨w.heap.size, i, none⟩ = #[.int .i64 f.house.hour, .int .i64 f.house.grace, .slice A1 n1 k1, .slice A2 n2 k2, .slice A3 n3 k3, .int .i64 f.tubs, .int .i64 f.opn, .int .i64 f.closing, .slice Aq nq kq][i]? := (by rw [hw0]; exact box_cells w #[.int .i64 f.house.hour, .int .i64 f.house.grace, .slice A1 n1 k1, .slice A2 n2 k2, .slice A3 n3 k3, .int .i64 f.tubs, .int .i64 f.opn, .int .i64 f.closing, .slice Aq nq kq] 48)
    have hL0 : Later w w0 := (by rw [hw0]; simp)
    have hc0 := hc.later hL0
    have Hw0 := hide hw0
    clear hw0
    have b0 := fun W (h : Later w0 W) => hbox W h 0
    have b1 := fun W (h : Later w0 W) => hbox W h 1
    have b2 := fun W (h : Later w0 W) => hbox W h 2
    have b3 := fun W (h : Later w0 W) => hbox W h 3
    have b4 := fun W (h : Later w0 W) => hbox W h 4
    have b5 := fun W (h : Later w0 W) => hbox W h 5
    have b6 := fun W (h : Later w0 W) => hbox W h 6
    have b7 := fun W (h : Later w0 W) => hbox W h 7
    have b8 := fun W (h : Later w0 W) => hbox W h 8
    simp only [List.getElem?_toArray, List.getElem?_cons_zero, List.getElem?_cons_succ] at b0 b1 b2 b3 b4 b5 b6 b7 b8
    clear hbox
    have HF := hide hf
    have Hok := hide ok
    clear hf ok
    go_enter Try.func24, Try.ntmps24
    go_upto_region 1 with fail
    rw [← Hw0.out]
    clear Hw0
    have hLs := later_refl w0
    go_wp2_with fail
    refine (CheckFloor_eq (k1 := k1) (k2 := k2) (k3 := k3) (kq := kq) _ hc0 HF.out hn1 hn2 hn3 hnq).mono ?_
    rintro e w1 ⟨rfl, hL1⟩
    obtain ⟨w2, hw2⟩ : ∃ X, X = w1.alloc (.cells #[.int .i64 f.house.hour, .int .i64 f.house.grace, .slice A1 n1 k1, .slice A2 n2 k2, .slice A3 n3 k3, .int .i64 f.tubs, .int .i64 f.opn, .int .i64 f.closing, .slice Aq nq kq, .slice none 0 0, .slice none 0 0] 81) := ⟨_, rfl⟩
    obtain ⟨bw, hbw⟩ : ∃ g, g = w1.heap.size := ⟨_, rfl⟩
    have hst : AskSt w1 w2 bw [.int .i64 f.house.hour, .int .i64 f.house.grace, .slice A1 n1 k1, .slice A2 n2 k2, .slice A3 n3 k3, .int .i64 f.tubs, .int .i64 f.opn, .int .i64 f.closing, .slice Aq nq kq] 0 0 (.slice none 0 0) (.slice none 0 0) [] [] :=
      ⟨by rw [hw2]; exact later_alloc (later_refl _) _, by rw [hbw]; omega, rfl, by rw [hw2, hbw]; exact Blk.new _ _ _, World.ownsRow_nil _ _ _ _, World.ownsRow_nil _ _ _ _⟩
    have Hw2 := hide hw2
    have Hbw := hide hbw
    have Hst := hide hst
    clear hw2 hbw hst
    go_upto_region 5 with fail
    rw [← Hw2.out, ← Hbw.out]
    have hL2 : Later w1 w2 := Hst.out.later
    have hL02 := Later.trans hL1 hL2
    go_wp2_with fail
    go_loopw [19] (fun i wr => ∃ j : Nat, (j : Int) ≤ f.tubs ∧ i = .int .i64 j ∧ ∃ At kt Af kf, AskSt w1 wr bw [.int .i64 f.house.hour, .int .i64 f.house.grace, .slice A1 n1 k1, .slice A2 n2 k2, .slice A3 n3 k3, .int .i64 f.tubs, .int .i64 f.opn, .int .i64 f.closing, .slice Aq nq kq] (givenTo f j).length (givenTo f j).length (.slice At (givenTo f j).length kt) (.slice Af (givenTo f j).length kf) (nats (givenTo f j)) ((givenTo f j).map (fromOf f))) (fun i _ => (f.tubs - intOf i).toNat)
    case atStart => exact ⟨0, by omega, rfl, none, 0, none, 0, Hst.out⟩
    case round =>
      obtain ⟨j, hj, rfl, At, kt, Af, kf, hst⟩ := hrel
      have hLr := hst.later
      have hL0r := Later.trans hL1 hLr
      by_cases hlt : (j : Int) < f.tubs
      · have hfr := free_tub Hok.out hlt
        have hcall := FreeP_calls (k1 := k1) (k2 := k2) (k3 := k3) (c := f.house) (tub := (j : Int)) wr (hc0.cv.later hL0r) hn1 hn2 hn3
        rw [hfr.1] at hcall
        have hgs := givenTo_succ f j
        have hgl := givenTo_len f j
        cases ho : isOpen f.house j with
        | true =>
          rw [ho, if_pos rfl] at hcall
          rw [ho, if_pos rfl, List.append_nil] at hgs
          have Hcall := hide hcall
          have Hgs := hide hgs
          have Hst := hide hst
          clear hcall hgs hfr hst
          generalize freeOut f.house j = fo at *
          go_wp2_with fail
          refine Hcall.out.mono ?_
          rintro e w5 ⟨rfl, hL5⟩
          go_wp2_with fail
          go_roundw
          case rel => exact ⟨j + 1, by omega, by go_num, At, kt, Af, kf, by rw [Hgs.out]; exact (Hst.out.lat hL5).lat (later_alloc (later_refl _) _)⟩
          case measure => simp [intOf]; omega
        | false =>
          have hfo := hfr.2 ho
          rw [ho, if_neg (by simp)] at hcall
          rw [ho, if_neg (by simp)] at hgs
          rw [hfo] at hcall
          have hfrom : fromOf f j = (max f.opn (bR (freeF f.house j) (truths f.house)).1, max f.opn (bR (freeF f.house j) (truths f.house)).2) := rfl
          generalize bR (freeF f.house j) (truths f.house) = r at *
          have Hcall := hide hcall
          have Hgs := hide hgs
          have Hst := hide hst
          have Hfrom := hide hfrom
          have Hgl := hide hgl
          clear hcall hgs hfr hst hfo hfrom hgl
          generalize hG : givenTo f j = G at *
          have HG := hide hG
          clear hG
          go_wp2_with fail
          refine Hcall.out.mono ?_
          rintro e w5 ⟨rfl, hL5⟩
          obtain ⟨w6, hw6⟩ : ∃ X, X = w5.alloc (.cells #[.int .i64 r.1, .int .i64 r.2] 65) := ⟨_, rfl⟩
          have hr6 : Blk w6 w5.heap.size 65 #[.int .i64 r.1, .int .i64 r.2] := by rw [hw6]; exact Blk.new _ _ _
          obtain ⟨gr, hgr⟩ : ∃ g, g = w5.heap.size := ⟨_, rfl⟩
          rw [← hgr] at hr6
          have hst6 := (Hst.out.lat hL5).lat (show Later w5 w6 by rw [hw6]; exact later_alloc (later_refl _) _)
          have c9 := (hst6.blk.cell 9).trans rfl
          have Hw6 := hide hw6
          have Hgr := hide hgr
          have Hst6 := hide hst6
          have Hr6 := hide hr6
          clear hw6 hgr hst6 hr6
          go_upto_region 9 with fail
          rw [← Hw6.out, ← Hgr.out]
          have hL6 := Hst6.out.later
          have ho6 := Hst6.out.own1
          have hG6 : G.length ≤ 1000000 := by have := Hgl.out; omega
          go_wp2_with (at_builtin; refine own_append (w0 := w1) (W := w6) (te := 3) rfl _ _ 35 rfl 3 (.int .i64 0) 1 8 Try.underlying35 int_info rfl (by omega) (.slice At G.length kt) G.length (ints (nats G)) rfl hL6 ho6 [.int .i64 j] rfl rfl (by simp [Value.oneCell']) hG6 (by omega) ?_)
          intro v' w7 hap
          have hb7 := Blk.of_eq (hap.keep bw Hst6.out.blk.lt (own_blk_ne Hst6.out.own1 Hst6.out.blk (by decide))) Hst6.out.blk
          have f9 := hb7.frozen 9
          have d9 := (hb7.cell 9).trans (show _ = some (Value.slice At G.length kt) from rfl)
          have hst8 := Hst6.out.put9 hap.own hap.later hap.keep
          have hr7 := Blk.of_eq (hap.keep gr Hr6.out.lt (own_blk_ne Hst6.out.own1 Hr6.out (by decide))) Hr6.out
          obtain ⟨A', k', rfl, _⟩ := own_slice hap.own
          have hr8 := Blk.far (p := (⟨bw, 9, none⟩ : Addr)) hr7 (blk_ne hr7 hb7 (by decide)) (.slice A' (G.length + 1) k')
          have Hst8 := hide hst8
          have Hr8 := hide hr8
          clear hst8 hap hb7 ho6 hL6 c9 hr7 hr8
          go_upto_region 11 with fail
          obtain ⟨w8, hw8⟩ : ∃ X, X = w7.setCell ⟨bw, 9, none⟩ (.slice A' (G.length + 1) k') := ⟨_, rfl⟩
          rw [← hw8]
          have hst8 := Hst8.out
          rw [← hw8] at hst8
          have hr8 := Hr8.out
          rw [← hw8] at hr8
          clear hw8 f9 d9
          have hS8 : Later w8 w8.drew := later_drew (later_refl _)
          have hL8 := Later.trans hL1 hst8.later
          have q6 := fun X (h : Later w1 X) => b6 X (Later.trans hL1 h)
          have m1 : (if f.opn < r.1 then r.1 else f.opn) = max f.opn r.1 := by split <;> omega
          have m2 : (if f.opn < r.2 then r.2 else f.opn) = max f.opn r.2 := by split <;> omega
          have q10 : w8.drew.cell? ⟨bw, 10, none⟩ = some (.slice Af G.length kf) := (hst8.blk.drew.cell 10).trans rfl
          have q10b : (w8.alloc (.cells #[.int .i64 (max f.opn r.1), .int .i64 (max f.opn r.2)] 53)).cell? ⟨bw, 10, none⟩ = some (.slice Af G.length kf) := ((hst8.blk.alloc _).cell 10).trans rfl
          have hS0 : Later w1 w8.drew ∧ w8.drew.cell? ⟨gr, 0, none⟩ = some (.int .i64 r.1) ∧ w8.drew.cell? ⟨gr, 1, none⟩ = some (.int .i64 r.2) := ⟨later_drew hst8.later, (hr8.drew.cell 0).trans rfl, (hr8.drew.cell 1).trans rfl⟩
          have Hst8' := hide hst8
          have Hr8' := hide hr8
          clear hst8 hr8 hS8 hL8
          refine wp_region_held_drew (S := fun X => Later w1 X ∧ X.cell? ⟨gr, 0, none⟩ = some (.int .i64 r.1) ∧ X.cell? ⟨gr, 1, none⟩ = some (.int .i64 r.2)) (by kernel_rfl) hS0 (fun hS => ?_)
          refine wpAnyH_take (i := 0) (v := ?_) rfl (by kernel_rfl) (by kernel_rfl) (by kernel_rfl) (by intro _ _ _ h; first | exact h | exact absurd h.1 (by simp)) (Or.inl ⟨by rfl, ?_⟩) hS ?_; rotate_left; (focus (intro X hSX; (try dsimp only at hSX); go_simp; (try with_reducible rfl))); (try simp only [Act.put, List.setIfInBounds_toArray, List.set_cons_zero, List.set_cons_succ])
          refine wpAnyH_take (i := 1) (v := ?_) rfl (by kernel_rfl) (by kernel_rfl) (by kernel_rfl) (by intro _ _ _ h; first | exact h | exact absurd h.1 (by simp)) (Or.inl ⟨by rfl, ?_⟩) hS ?_; rotate_left; (focus (intro X hSX; (try dsimp only at hSX); go_simp; (try with_reducible rfl))); (try simp only [Act.put, List.setIfInBounds_toArray, List.set_cons_zero, List.set_cons_succ])
          refine wpAnyH_take (i := 2) (v := ?_) rfl (by kernel_rfl) (by kernel_rfl) (by kernel_rfl) (by intro _ _ _ h; first | exact h | exact absurd h.1 (by simp)) (Or.inl ⟨by rfl, ?_⟩) hS ?_; rotate_left; (focus (intro X hSX; (try dsimp only at hSX); go_simp; (try with_reducible rfl))); (try simp only [Act.put, List.setIfInBounds_toArray, List.set_cons_zero, List.set_cons_succ])
          refine wpAnyH_take (i := 3) (v := ?_) rfl (by kernel_rfl) (by kernel_rfl) (by kernel_rfl) (by intro _ _ _ h; first | exact h | exact absurd h.1 (by simp)) (Or.inl ⟨by rfl, ?_⟩) hS ?_; rotate_left; (focus (intro X hSX; (try dsimp only at hSX); go_simp; (try with_reducible rfl))); (try simp only [Act.put, List.setIfInBounds_toArray, List.set_cons_zero, List.set_cons_succ])
          refine wpAnyH_take (i := 5) (v := ?_) rfl (by kernel_rfl) (by kernel_rfl) (by kernel_rfl) (by intro _ _ _ h; first | exact h | exact absurd h.1 (by simp)) (Or.inl ⟨by rfl, ?_⟩) hS ?_; rotate_left; (focus (intro X hSX; (try dsimp only at hSX); go_simp; (try with_reducible rfl))); (try simp only [Act.put, List.setIfInBounds_toArray, List.set_cons_zero, List.set_cons_succ])
          refine wpAnyH_take (i := 6) (v := ?_) rfl (by kernel_rfl) (by kernel_rfl) (by kernel_rfl) (by intro _ _ _ h; first | exact h | exact absurd h.1 (by simp)) (Or.inl ⟨by rfl, ?_⟩) hS ?_; rotate_left; (focus (intro X hSX; (try dsimp only at hSX); go_simp; (try with_reducible rfl))); (try simp only [Act.put, List.setIfInBounds_toArray, List.set_cons_zero, List.set_cons_succ])
          refine wpAnyH_take (i := 7) (v := ?_) rfl (by kernel_rfl) (by kernel_rfl) (by kernel_rfl) (by intro _ _ _ h; first | exact h | exact absurd h.1 (by simp)) (Or.inl ⟨by rfl, ?_⟩) hS ?_; rotate_left; (focus (intro X hSX; (try dsimp only at hSX); go_simp; (try with_reducible rfl))); (try simp only [Act.put, List.setIfInBounds_toArray, List.set_cons_zero, List.set_cons_succ])
          refine wpAnyH_take (i := 8) (v := ?_) rfl (by kernel_rfl) (by kernel_rfl) (by kernel_rfl) (by intro _ _ _ h; first | exact h | exact absurd h.1 (by simp)) (Or.inl ⟨by rfl, ?_⟩) hS ?_; rotate_left; (focus (intro X hSX; (try dsimp only at hSX); go_simp; (try with_reducible rfl))); (try simp only [Act.put, List.setIfInBounds_toArray, List.set_cons_zero, List.set_cons_succ])
          refine wpAnyH_take (i := 9) (v := ?_) rfl (by kernel_rfl) (by kernel_rfl) (by kernel_rfl) (by intro _ _ _ h; first | exact h | exact absurd h.1 (by simp)) (Or.inl ⟨by rfl, ?_⟩) hS ?_; rotate_left; (focus (intro X hSX; (try dsimp only at hSX); go_simp; (try with_reducible rfl))); (try simp only [Act.put, List.setIfInBounds_toArray, List.set_cons_zero, List.set_cons_succ])
          refine wpAnyH_take (i := 10) (v := ?_) rfl (by kernel_rfl) (by kernel_rfl) (by kernel_rfl) (by intro _ _ _ h; first | exact h | exact absurd h.1 (by simp)) (Or.inl ⟨by rfl, ?_⟩) hS ?_; rotate_left; (focus (intro X hSX; (try dsimp only at hSX); go_simp; (try with_reducible rfl))); (try simp only [Act.put, List.setIfInBounds_toArray, List.set_cons_zero, List.set_cons_succ])
          refine wpAnyH_take (i := 11) (v := ?_) rfl (by kernel_rfl) (by kernel_rfl) (by kernel_rfl) (by intro _ _ _ h; first | exact h | exact absurd h.1 (by simp)) (Or.inl ⟨by rfl, ?_⟩) hS ?_; rotate_left; (focus (intro X hSX; (try dsimp only at hSX); go_simp; (try with_reducible rfl))); (try simp only [Act.put, List.setIfInBounds_toArray, List.set_cons_zero, List.set_cons_succ])
          refine wpAnyH_take (i := 12) (v := ?_) rfl (by kernel_rfl) (by kernel_rfl) (by kernel_rfl) (by intro _ _ _ h; first | exact h | exact absurd h.1 (by simp)) (Or.inl ⟨by rfl, ?_⟩) hS ?_; rotate_left; (focus (intro X hSX; (try dsimp only at hSX); go_simp; (try with_reducible rfl))); (try simp only [Act.put, List.setIfInBounds_toArray, List.set_cons_zero, List.set_cons_succ])
          refine wpAnyH_take (i := 13) (v := ?_) rfl (by kernel_rfl) (by kernel_rfl) (by kernel_rfl) (by intro _ _ _ h; first | exact h | exact absurd h.1 (by simp)) (Or.inl ⟨by rfl, ?_⟩) hS ?_; rotate_left; (focus (intro X hSX; (try dsimp only at hSX); go_simp; (try with_reducible rfl))); (try simp only [Act.put, List.setIfInBounds_toArray, List.set_cons_zero, List.set_cons_succ])
          refine wpAnyH_take (i := 14) (v := ?_) rfl (by kernel_rfl) (by kernel_rfl) (by kernel_rfl) (by intro _ _ _ h; first | exact h | exact absurd h.1 (by simp)) (Or.inl ⟨by rfl, ?_⟩) hS ?_; rotate_left; (focus (intro X hSX; (try dsimp only at hSX); go_simp; (try with_reducible rfl))); (try simp only [Act.put, List.setIfInBounds_toArray, List.set_cons_zero, List.set_cons_succ])
          refine wpAnyH_take (i := 15) (v := ?_) rfl (by kernel_rfl) (by kernel_rfl) (by kernel_rfl) (by intro _ _ _ h; first | exact h | exact absurd h.1 (by simp)) (Or.inl ⟨by rfl, ?_⟩) hS ?_; rotate_left; (focus (intro X hSX; (try dsimp only at hSX); go_simp; (try with_reducible rfl))); (try simp only [Act.put, List.setIfInBounds_toArray, List.set_cons_zero, List.set_cons_succ])
          refine wpAnyH_ready (rs := [4, 16]) (by kernel_rfl) (by simp) ?_
          refine AllReadyH.cons rfl (fun K hK => ?_) (AllReadyH.cons rfl (fun K hK => ?_) AllReadyH.nil)
          · go_simp
            refine hK.out _ _ hS (fun _ => ?_)
            clear hK K; (try simp only [Act.put, List.setIfInBounds_toArray, List.set_cons_zero, List.set_cons_succ])
            refine wpAnyH_ready (rs := [16]) (by kernel_rfl) (by simp) ?_; refine AllReadyH.cons rfl (fun K hK => ?_) AllReadyH.nil
            go_simp
            refine hK.out _ _ ⟨later_alloc hS.1 _, ((Hr8'.out.drew.alloc _).cell 0).trans rfl, ((Hr8'.out.drew.alloc _).cell 1).trans rfl⟩ (fun hS3 => ?_)
            clear hK K; (try simp only [Act.put, List.setIfInBounds_toArray, List.set_cons_zero, List.set_cons_succ])
            obtain ⟨w9, hw9⟩ : ∃ X, X = (w8.alloc (.cells #[.int .i64 (max f.opn r.1), .int .i64 (max f.opn r.2)] 53)).drew := ⟨_, rfl⟩
            rw [← hw9] at hS3 ⊢
            have hbn : Blk w9 w8.heap.size 53 [Value.int .i64 (max f.opn r.1), .int .i64 (max f.opn r.2)].toArray := by rw [hw9]; exact (Blk.new _ _ _).drew
            have hL9 : Later w8 w9 := by rw [hw9]; exact later_drew (later_alloc (later_refl _) _)
            have hst9 := Hst8'.out.lat hL9
            have hr9 := Hr8'.out.later hL9
            have hsz9 := hst9.later.size
            clear hw9
            refine wpAnyH_ready (rs := [17]) (by kernel_rfl) (by simp) ?_; refine AllReadyH.cons rfl (fun K hK => ?_) AllReadyH.nil
            skip
            refine appG_wp w1.heap.size (.tmp 45) (.tmp 57) 38 rfl 53 (.agg #[.int .i64 0, .int .i64 0]) 2 16 Try.underlying38 urange_info rfl (by omega) (.slice Af G.length kf) G.length (pairsV (G.map (fromOf f))) rfl hsz9 hst9.own2 ⟨w8.heap.size, 0, none⟩ 1 1 [.int .i64 (max f.opn r.1), .int .i64 (max f.opn r.2)] rfl rfl hbn.one (by simp [Value.oneCell']) hG6 (by omega) (by omega) ?_
            intro v2 w10 hap
            have hkk : ∀ b, b < w9.heap.size → (Value.slice Af G.length kf).ownBlock ≠ some b → w10.heap[b]? = w9.heap[b]? := fun b hb hne => hap.grown.block b hb (fun e => hne e.symm)
            have hb10 := Blk.of_eq (hkk bw hst9.blk.lt (own_blk_ne hst9.own2 hst9.blk (by decide))) hst9.blk
            have hr10 := Blk.of_eq (hkk gr hr9.lt (own_blk_ne hst9.own2 hr9 (by decide))) hr9
            have f10 := hb10.frozen 10
            have d10 := (hb10.cell 10).trans (show _ = some (Value.slice Af G.length kf) from rfl)
            obtain ⟨A2', k2', rfl, _⟩ := own_slice (w0 := w1) hap.own
            have hL10 := hap.later hst9.later hst9.own2
            have hst11 := hst9.put10 (j := (max f.opn r.1, max f.opn r.2)) hap.own hL10 hkk
            have hr11 := Blk.far (p := (⟨bw, 10, none⟩ : Addr)) hr10 (blk_ne hr10 hb10 (by decide)) (.slice A2' (G.length + 1) k2')
            refine hK.out _ _ ⟨hL10, (hr10.cell 0).trans rfl, (hr10.cell 1).trans rfl⟩ (fun hS5 => ?_)
            clear hK K; (try simp only [Act.put, List.setIfInBounds_toArray, List.set_cons_zero, List.set_cons_succ])
            have Hst11 := hide hst11
            have Hr11 := hide hr11
            clear hst11 hst9 hap hb10 hr10 hr9 hr11 hbn hkk hS hS0 hS3 hL10 hL9 q6 q10 q10b m1 m2
            refine wpAnyH_ready (rs := [18]) (by kernel_rfl) (by simp) ?_; refine AllReadyH.cons rfl (fun K hK => ?_) AllReadyH.nil
            go_simp
            refine hK.out _ _ hS5 (fun _ => ?_)
            clear hK K; (try simp only [Act.put, List.setIfInBounds_toArray, List.set_cons_zero, List.set_cons_succ])
            refine wpAnyH_ready (rs := [19]) (by kernel_rfl) (by simp) ?_; refine AllReadyH.cons rfl (fun K hK => ?_) AllReadyH.nil
            go_simp
            refine hK.out _ _ hS5 (fun _ => ?_)
            clear hK K; (try simp only [Act.put, List.setIfInBounds_toArray, List.set_cons_zero, List.set_cons_succ])
            skip
            refine wpAnyH_ready (rs := [20]) (by kernel_rfl) (by simp) ?_; refine AllReadyH.cons rfl (fun K hK => ?_) AllReadyH.nil
            go_simp
            refine hK.out _ _ ⟨Hst11.out.later, (Hr11.out.cell 0).trans rfl, (Hr11.out.cell 1).trans rfl⟩ (fun _ => ?_)
            clear hK K; (try simp only [Act.put, List.setIfInBounds_toArray, List.set_cons_zero, List.set_cons_succ])
            refine wpAnyH_done (by kernel_rfl) ?_ _
            go_wp2_with fail
            go_roundw
            case rel =>
              refine ⟨j + 1, by omega, by go_num, A', k', A2', k2', ?_⟩
              rw [Hgs.out, show (G ++ [j]).length = G.length + 1 by simp, show nats (G ++ [j]) = nats G ++ [(j : Int)] by simp [nats], show (G ++ [j]).map (fromOf f) = G.map (fromOf f) ++ [fromOf f j] by simp, Hfrom.out]
              exact Hst11.out
            case measure => simp [intOf]; omega
          · go_simp
            refine hK.out _ _ ⟨later_alloc hS.1 _, ((Hr8'.out.drew.alloc _).cell 0).trans rfl, ((Hr8'.out.drew.alloc _).cell 1).trans rfl⟩ (fun hS3 => ?_)
            clear hK K; (try simp only [Act.put, List.setIfInBounds_toArray, List.set_cons_zero, List.set_cons_succ])
            refine wpAnyH_ready (rs := [4]) (by kernel_rfl) (by simp) ?_; refine AllReadyH.cons rfl (fun K hK => ?_) AllReadyH.nil
            go_simp
            refine hK.out _ _ hS3 (fun _ => ?_)
            clear hK K; (try simp only [Act.put, List.setIfInBounds_toArray, List.set_cons_zero, List.set_cons_succ])
            obtain ⟨w9, hw9⟩ : ∃ X, X = (w8.alloc (.cells #[.int .i64 (max f.opn r.1), .int .i64 (max f.opn r.2)] 53)).drew := ⟨_, rfl⟩
            rw [← hw9] at hS3 ⊢
            have hbn : Blk w9 w8.heap.size 53 [Value.int .i64 (max f.opn r.1), .int .i64 (max f.opn r.2)].toArray := by rw [hw9]; exact (Blk.new _ _ _).drew
            have hL9 : Later w8 w9 := by rw [hw9]; exact later_drew (later_alloc (later_refl _) _)
            have hst9 := Hst8'.out.lat hL9
            have hr9 := Hr8'.out.later hL9
            have hsz9 := hst9.later.size
            clear hw9
            refine wpAnyH_ready (rs := [17]) (by kernel_rfl) (by simp) ?_; refine AllReadyH.cons rfl (fun K hK => ?_) AllReadyH.nil
            skip
            refine appG_wp w1.heap.size (.tmp 45) (.tmp 57) 38 rfl 53 (.agg #[.int .i64 0, .int .i64 0]) 2 16 Try.underlying38 urange_info rfl (by omega) (.slice Af G.length kf) G.length (pairsV (G.map (fromOf f))) rfl hsz9 hst9.own2 ⟨w8.heap.size, 0, none⟩ 1 1 [.int .i64 (max f.opn r.1), .int .i64 (max f.opn r.2)] rfl rfl hbn.one (by simp [Value.oneCell']) hG6 (by omega) (by omega) ?_
            intro v2 w10 hap
            have hkk : ∀ b, b < w9.heap.size → (Value.slice Af G.length kf).ownBlock ≠ some b → w10.heap[b]? = w9.heap[b]? := fun b hb hne => hap.grown.block b hb (fun e => hne e.symm)
            have hb10 := Blk.of_eq (hkk bw hst9.blk.lt (own_blk_ne hst9.own2 hst9.blk (by decide))) hst9.blk
            have hr10 := Blk.of_eq (hkk gr hr9.lt (own_blk_ne hst9.own2 hr9 (by decide))) hr9
            have f10 := hb10.frozen 10
            have d10 := (hb10.cell 10).trans (show _ = some (Value.slice Af G.length kf) from rfl)
            obtain ⟨A2', k2', rfl, _⟩ := own_slice (w0 := w1) hap.own
            have hL10 := hap.later hst9.later hst9.own2
            have hst11 := hst9.put10 (j := (max f.opn r.1, max f.opn r.2)) hap.own hL10 hkk
            have hr11 := Blk.far (p := (⟨bw, 10, none⟩ : Addr)) hr10 (blk_ne hr10 hb10 (by decide)) (.slice A2' (G.length + 1) k2')
            refine hK.out _ _ ⟨hL10, (hr10.cell 0).trans rfl, (hr10.cell 1).trans rfl⟩ (fun hS5 => ?_)
            clear hK K; (try simp only [Act.put, List.setIfInBounds_toArray, List.set_cons_zero, List.set_cons_succ])
            have Hst11 := hide hst11
            have Hr11 := hide hr11
            clear hst11 hst9 hap hb10 hr10 hr9 hr11 hbn hkk hS hS0 hS3 hL10 hL9 q6 q10 q10b m1 m2
            refine wpAnyH_ready (rs := [18]) (by kernel_rfl) (by simp) ?_; refine AllReadyH.cons rfl (fun K hK => ?_) AllReadyH.nil
            go_simp
            refine hK.out _ _ hS5 (fun _ => ?_)
            clear hK K; (try simp only [Act.put, List.setIfInBounds_toArray, List.set_cons_zero, List.set_cons_succ])
            refine wpAnyH_ready (rs := [19]) (by kernel_rfl) (by simp) ?_; refine AllReadyH.cons rfl (fun K hK => ?_) AllReadyH.nil
            go_simp
            refine hK.out _ _ hS5 (fun _ => ?_)
            clear hK K; (try simp only [Act.put, List.setIfInBounds_toArray, List.set_cons_zero, List.set_cons_succ])
            skip
            refine wpAnyH_ready (rs := [20]) (by kernel_rfl) (by simp) ?_; refine AllReadyH.cons rfl (fun K hK => ?_) AllReadyH.nil
            go_simp
            refine hK.out _ _ ⟨Hst11.out.later, (Hr11.out.cell 0).trans rfl, (Hr11.out.cell 1).trans rfl⟩ (fun _ => ?_)
            clear hK K; (try simp only [Act.put, List.setIfInBounds_toArray, List.set_cons_zero, List.set_cons_succ])
            refine wpAnyH_done (by kernel_rfl) ?_ _
            go_wp2_with fail
            go_roundw
            case rel =>
              refine ⟨j + 1, by omega, by go_num, A', k', A2', k2', ?_⟩
              rw [Hgs.out, show (G ++ [j]).length = G.length + 1 by simp, show nats (G ++ [j]) = nats G ++ [(j : Int)] by simp [nats], show (G ++ [j]).map (fromOf f) = G.map (fromOf f) ++ [fromOf f j] by simp, Hfrom.out]
              exact Hst11.out
            case measure => simp [intOf]; omega
      · have hjt : j = f.tubs.toNat := by omega
        have hG : givenTo f j = givenT f := by rw [hjt]; rfl
        have hR : (givenT f).map (fromOf f) = givenR f := rfl
        rw [hG, hR] at hst
        obtain ⟨B1, c1, e1, hrd1⟩ := own_slice (w0 := w1) hst.own1
        obtain ⟨B2, c2, e2, hrd2⟩ := own_slice (w0 := w1) hst.own2
        injection e1 with e1 _ e1'
        injection e2 with e2 _ e2'
        subst e1 e1' e2 e2'
        have c9 := (hst.blk.cell 9).trans (show _ = some (Value.slice At (givenT f).length kt) from rfl)
        have hLw := Later.trans hL0 hL0r
        have hlo := Nat.le_trans (Later.trans hL0 hL1).size hst.lo
        have Hb := hide hst.blk
        have H1 := hide hrd1
        have H2 := hide hrd2
        have Hl := hide (show (givenT f).length = 0 ↔ givenT f = [] from List.length_eq_zero_iff)
        clear hst hrd1 hrd2 hG hR hjt
        by_cases hm : (givenT f).length = 0
        · have Hask : Hid (askF f = 8) := by show askF f = 8; unfold askF; rw [if_neg (by rw [HF.out]; simp), if_pos (Hl.out.1 hm)]
          have hmb : (((givenT f).length : Int) == 0) = true := by simp [hm]
          generalize (givenT f).length = m at *
          go_wp2_with fail
          refine bodyPost_ret (v := .tuple #[.pointer none, .int .i64 8]) ?_ rfl (.inl ⟨by rw [Hask.out]; decide, by rw [Hask.out], hLw⟩)
          simp [results, Try.results24, go_sem]
        · have Hask : Hid (askF f = 0) := by show askF f = 0; unfold askF; rw [if_neg (by rw [HF.out]; simp), if_neg (fun h => hm (Hl.out.2 h))]
          have hmb : (((givenT f).length : Int) == 0) = false := by rw [beq_eq_false_iff_ne]; omega
          generalize (givenT f).length = m at *
          go_wp2_with fail
          refine bodyPost_ret (v := .tuple #[.pointer (some ⟨bw, 0, none⟩), .int .i64 0]) ?_ rfl (.inr ⟨Hask.out, bw, At, kt, Af, kf, m, rfl, hLw, hlo, Hb.out, H1.out, H2.out⟩)
          simp [results, Try.results24, go_sem]
  · obtain ⟨q, hq⟩ : ∃ q, faultF f = q := ⟨_, rfl⟩
    rw [hq] at hf
    have hask : askF f = q := by unfold askF; rw [if_pos (by rw [hq]; exact hf), hq]
    have hpb : (q != 0) = true := by simpa using hf
    obtain ⟨w0, hw0⟩ : ∃ W, W = w.alloc (.cells #[.int .i64 f.house.hour, .int .i64 f.house.grace, .slice A1 n1 k1, .slice A2 n2 k2, .slice A3 n3 k3, .int .i64 f.tubs, .int .i64 f.opn, .int .i64 f.closing, .slice Aq nq kq] 48) := ⟨_, rfl⟩
    have hbox : ∀ W, Later w0 W → ∀ i, W.cell? ⟨w.heap.size, i, none⟩ = #[.int .i64 f.house.hour, .int .i64 f.house.grace, .slice A1 n1 k1, .slice A2 n2 k2, .slice A3 n3 k3, .int .i64 f.tubs, .int .i64 f.opn, .int .i64 f.closing, .slice Aq nq kq][i]? := (by rw [hw0]; exact box_cells w #[.int .i64 f.house.hour, .int .i64 f.house.grace, .slice A1 n1 k1, .slice A2 n2 k2, .slice A3 n3 k3, .int .i64 f.tubs, .int .i64 f.opn, .int .i64 f.closing, .slice Aq nq kq] 48)
    have hL0 : Later w w0 := (by rw [hw0]; simp)
    have hc0 := hc.later hL0
    have Hw0 := hide hw0
    clear hw0
    have b0 := fun W (h : Later w0 W) => hbox W h 0
    have b1 := fun W (h : Later w0 W) => hbox W h 1
    have b2 := fun W (h : Later w0 W) => hbox W h 2
    have b3 := fun W (h : Later w0 W) => hbox W h 3
    have b4 := fun W (h : Later w0 W) => hbox W h 4
    have b5 := fun W (h : Later w0 W) => hbox W h 5
    have b6 := fun W (h : Later w0 W) => hbox W h 6
    have b7 := fun W (h : Later w0 W) => hbox W h 7
    have b8 := fun W (h : Later w0 W) => hbox W h 8
    simp only [List.getElem?_toArray, List.getElem?_cons_zero, List.getElem?_cons_succ] at b0 b1 b2 b3 b4 b5 b6 b7 b8
    clear hbox
    have HQ := hide hq
    have Hask := hide hask
    clear hq hask
    go_enter Try.func24, Try.ntmps24
    go_upto_region 1 with fail
    rw [← Hw0.out]
    clear Hw0
    have hLs := later_refl w0
    go_wp2_with fail
    refine (CheckFloor_eq (k1 := k1) (k2 := k2) (k3 := k3) (kq := kq) _ hc0 HQ.out hn1 hn2 hn3 hnq).mono ?_
    rintro e w1 ⟨rfl, hL1⟩
    go_wp2_with fail
    refine bodyPost_ret (v := .tuple #[.pointer none, .int .i64 q]) ?_ rfl (.inl ⟨by rw [Hask.out]; exact hf, by rw [Hask.out], Later.trans hL0 hL1⟩)
    simp [results, Try.results24, go_sem]
end Go.Proofs.Ytcffgjhmpgdfpaa

/- The tubs' Given; an order, a list in ranges: walks. -/
namespace Go.Proofs.Ytcffgjhmpgdfpaa
open Go Go.RowKit
attribute [local go_sem] later_alloc2 later_alloc3 later_alloc4
/-- the tubs that are given out, their ranges, and the error -/
def GivenPost (f : Flo) (w : World) (e : Ending) (w' : World) : Prop :=
  (askF f ≠ 0 ∧ e = .returned (.tuple #[.slice none 0 0, .slice none 0 0, .int .i64 (askF f)]) ∧ Later w w') ∨
  (askF f = 0 ∧ ∃ At kt Af kf m, e = .returned (.tuple #[.slice At m kt, .slice Af m kf, .int .i64 0]) ∧ Later w w' ∧ RI w' At m (nats (givenT f)) ∧ RP w' Af m (givenR f))
set_option maxRecDepth 100000 in
set_option maxHeartbeats 1000000 in
theorem Given_u {A1 A2 A3 Aq : Option Addr} {n1 k1 n2 k2 n3 k3 nq kq : Nat} {f : Flo} (w : World) (hc : FV w f A1 n1 A2 n2 A3 n3 Aq nq) (hn1 : n1 ≤ 1000) (hn2 : n2 ≤ 1000) (hn3 : n3 ≤ 1000) (hnq : nq ≤ 1000) :
    Calls Try.prog 10 #[(.agg #[.int .i64 f.house.hour, .int .i64 f.house.grace, .slice A1 n1 k1, .slice A2 n2 k2, .slice A3 n3 k3, .int .i64 f.tubs, .int .i64 f.opn, .int .i64 f.closing, .slice Aq nq kq])] w (GivenPost f w) := by
  obtain ⟨w0, hw0⟩ : ∃ W, W = w.alloc (.cells #[.int .i64 f.house.hour, .int .i64 f.house.grace, .slice A1 n1 k1, .slice A2 n2 k2, .slice A3 n3 k3, .int .i64 f.tubs, .int .i64 f.opn, .int .i64 f.closing, .slice Aq nq kq] 48) := ⟨_, rfl⟩
  have hbox : ∀ W, Later w0 W → ∀ i, W.cell? ⟨w.heap.size, i, none⟩ = #[.int .i64 f.house.hour, .int .i64 f.house.grace, .slice A1 n1 k1, .slice A2 n2 k2, .slice A3 n3 k3, .int .i64 f.tubs, .int .i64 f.opn, .int .i64 f.closing, .slice Aq nq kq][i]? := (by rw [hw0]; exact box_cells w #[.int .i64 f.house.hour, .int .i64 f.house.grace, .slice A1 n1 k1, .slice A2 n2 k2, .slice A3 n3 k3, .int .i64 f.tubs, .int .i64 f.opn, .int .i64 f.closing, .slice Aq nq kq] 48)
  have hL0 : Later w w0 := (by rw [hw0]; simp)
  have hc0 := hc.later hL0
  have Hw0 := hide hw0
  clear hw0
  have b0 := fun W (h : Later w0 W) => hbox W h 0
  have b1 := fun W (h : Later w0 W) => hbox W h 1
  have b2 := fun W (h : Later w0 W) => hbox W h 2
  have b3 := fun W (h : Later w0 W) => hbox W h 3
  have b4 := fun W (h : Later w0 W) => hbox W h 4
  have b5 := fun W (h : Later w0 W) => hbox W h 5
  have b6 := fun W (h : Later w0 W) => hbox W h 6
  have b7 := fun W (h : Later w0 W) => hbox W h 7
  have b8 := fun W (h : Later w0 W) => hbox W h 8
  simp only [List.getElem?_toArray, List.getElem?_cons_zero, List.getElem?_cons_succ] at b0 b1 b2 b3 b4 b5 b6 b7 b8
  clear hbox
  go_enter Try.func10, Try.ntmps10
  go_upto_region 1 with fail
  rw [← Hw0.out]
  clear Hw0
  have hLs := later_refl w0
  go_wp2_with fail
  refine (asked_u (k1 := k1) (k2 := k2) (k3 := k3) (kq := kq) _ hc0 hn1 hn2 hn3 hnq).mono ?_
  rintro e w1 (⟨h0, rfl, hL1⟩ | ⟨h0, bw, At, kt, Af, kf, m, rfl, hL1, hlo, hb, hr1, hr2⟩)
  · generalize hq : askF f = q at *
    have Hq := hide hq
    have hqb : (q != 0) = true := by simpa using h0
    clear hq
    go_wp2_with fail
    refine bodyPost_ret (v := .tuple #[.slice none 0 0, .slice none 0 0, .int .i64 q]) ?_ rfl (.inl ⟨by rw [Hq.out]; exact h0, by rw [Hq.out], Later.trans hL0 hL1⟩)
    simp [results, Try.results10, go_sem]
  · have Hb := hide hb
    have H1 := hide hr1
    have H2 := hide hr2
    have H0 := hide h0
    have c9 := fun X (h : Later w1 X) => ((hb.later h).cell 9).trans (show _ = some (Value.slice At m kt) from rfl)
    have c10 := fun X (h : Later w1 X) => ((hb.later h).cell 10).trans (show _ = some (Value.slice Af m kf) from rfl)
    clear hb hr1 hr2 h0 b0 b1 b2 b3 b4 b5 b6 b7 b8
    have hLw := Later.trans hL0 hL1
    clear hL1
    go_wp2_with fail
    refine wp_region_ext (w0 := w1) (by kernel_rfl) (by kernel_rfl) (later_refl _) ?_; (repeat (first | go_big_quiet_step (((fail))) | quiet_step (((fail))))); refine wpQuiet_nil ?_; rintro w2 ⟨⟨_, hL2⟩, rfl⟩; (try dsimp only)
    go_wp2_with fail
    refine bodyPost_ret (v := .tuple #[.slice At m kt, .slice Af m kf, .int .i64 0]) ?_ rfl (.inr ⟨H0.out, At, kt, Af, kf, m, rfl, Later.trans hLw hL2, H1.out.later hL2, H2.out.later hL2⟩)
    simp [results, Try.results10, go_sem]
end Go.Proofs.Ytcffgjhmpgdfpaa

/- The tubs' are, order: walks. -/
namespace Go.Proofs.Ytcffgjhmpgdfpaa
open Go Go.RowKit
attribute [local go_sem] later_alloc2 later_alloc3 later_alloc4
set_option maxRecDepth 100000 in
set_option maxHeartbeats 1000000 in
theorem are_true {A B : Option Addr} {n k m q : Nat} {l : List Int} {r : List (Int × Int)} (w : World) (hl : RI w A n l) (hr : RP w B m r) (hn : n ≤ 1000) (h : areErrors r l = true) :
    Calls Try.prog 26 #[.slice A n k, .slice B m q] w fun e w' => e = .returned (.bool true) ∧ Later w w' := by
  obtain ⟨h1, h2⟩ := (areErrors_iff r l).1 h
  have hnm : n = m := by have := hl.len; have := hr.len; omega
  subst hnm
  have H2 := hide h2
  have hw0 := later_refl w
  clear h h1 h2
  go_enter Try.func26, Try.ntmps26
  go_wp2_with fail
  go_loopw [14] (fun v wr => ∃ j : Nat, j ≤ n ∧ v = .int .i64 j ∧ Later w wr) (fun v _ => n - (intOf v).toNat)
  case atStart => exact ⟨0, Nat.zero_le _, rfl, later_refl _⟩
  case round =>
    obtain ⟨j, hj, rfl, hL⟩ := hrel
    by_cases hlt : j < n
    · obtain ⟨b, o, x, rfl, _, hx, hx0⟩ := hl.get hlt
      obtain ⟨b', o', y, rfl, _, hy, hy0, hy1⟩ := hr.get hlt
      have hi1 : (j : Int) < n := by omega
      have hin := H2.out j y x hy hx
      have hin2 : inB x y.1 y.2 = true := by unfold inB; simp; omega
      have Hin := hide hin2
      have e0 := hy0 _ hL
      have e1 := hy1 _ hL
      obtain ⟨w5, hw5⟩ : ∃ X, X = wr.alloc (.cells #[.int .i64 y.1, .int .i64 y.2] 53) := ⟨_, rfl⟩
      have hL5 : Later wr w5 := by rw [hw5]; exact later_alloc (later_refl _) _
      have hb5 : Blk w5 wr.heap.size 53 #[.int .i64 y.1, .int .i64 y.2] := by rw [hw5]; exact Blk.new _ _ _
      have c0 := fun X (h : Later w5 X) => ((hb5.later h).cell 0).trans (show _ = some (Value.int .i64 y.1) from rfl)
      have c1 := fun X (h : Later w5 X) => ((hb5.later h).cell 1).trans (show _ = some (Value.int .i64 y.2) from rfl)
      have hLw5 := Later.trans hL hL5
      have cx := fun X (h : Later w5 X) => hx0 X (Later.trans hLw5 h)
      have Hw5 := hide hw5
      clear hx hy hin hin2 hw5 hb5 hx0 hy0 hy1
      go_upto_region 6 with fail
      rw [← Hw5.out]
      clear e0 e1
      refine wp_region_ext (w0 := w5) (by kernel_rfl) (by kernel_rfl) (later_refl _) ?_; (repeat (first | go_big_quiet_step (((go_at_call 45; exact calls_ext (by simp) (uhas_eq Hin.out _)))) | quiet_step (((go_at_call 45; exact calls_ext (by simp) (uhas_eq Hin.out _)))))); refine wpQuiet_nil ?_; rintro w6 ⟨⟨_, hL6⟩, rfl⟩; (try dsimp only)
      have hLw6 := Later.trans hLw5 hL6
      go_wp2_with fail
      go_roundw
      case rel => exact ⟨j + 1, by omega, by go_num, hLw6⟩
      case measure => simp [intOf]; omega
    · have hi1 : ¬ (j : Int) < n := by omega
      go_wp2_with fail
      go_ret
      exact ⟨rfl, hL⟩
/-- the order of the first woman alone -/
theorem order_one {A1 A2 A3 Aq : Option Addr} {n1 k1 n2 k2 n3 k3 nq kq : Nat} {f : Flo} {A : Option Addr} {k : Nat} (w : World) (hc : FV w f A1 n1 A2 n2 A3 n3 Aq nq) (hl : RI w A 1 [0]) (hq : 0 < nq) (hnq : nq ≤ 1000) :
    Calls Try.prog 27 #[(.agg #[.int .i64 f.house.hour, .int .i64 f.house.grace, .slice A1 n1 k1, .slice A2 n2 k2, .slice A3 n3 k3, .int .i64 f.tubs, .int .i64 f.opn, .int .i64 f.closing, .slice Aq nq kq]), .slice A 1 k] w fun e w' => e = .returned (.bool true) ∧ Later w w' := by
  obtain ⟨w0, hw0⟩ : ∃ W, W = w.alloc (.cells #[.int .i64 f.house.hour, .int .i64 f.house.grace, .slice A1 n1 k1, .slice A2 n2 k2, .slice A3 n3 k3, .int .i64 f.tubs, .int .i64 f.opn, .int .i64 f.closing, .slice Aq nq kq] 48) := ⟨_, rfl⟩
  have hbox : ∀ W, Later w0 W → ∀ i, W.cell? ⟨w.heap.size, i, none⟩ = #[.int .i64 f.house.hour, .int .i64 f.house.grace, .slice A1 n1 k1, .slice A2 n2 k2, .slice A3 n3 k3, .int .i64 f.tubs, .int .i64 f.opn, .int .i64 f.closing, .slice Aq nq kq][i]? := (by rw [hw0]; exact box_cells w #[.int .i64 f.house.hour, .int .i64 f.house.grace, .slice A1 n1 k1, .slice A2 n2 k2, .slice A3 n3 k3, .int .i64 f.tubs, .int .i64 f.opn, .int .i64 f.closing, .slice Aq nq kq] 48)
  have hL0 : Later w w0 := (by rw [hw0]; simp)
  have hc0 := hc.later hL0
  have Hw0 := hide hw0
  clear hw0
  have b0 := fun W (h : Later w0 W) => hbox W h 0
  have b1 := fun W (h : Later w0 W) => hbox W h 1
  have b2 := fun W (h : Later w0 W) => hbox W h 2
  have b3 := fun W (h : Later w0 W) => hbox W h 3
  have b4 := fun W (h : Later w0 W) => hbox W h 4
  have b5 := fun W (h : Later w0 W) => hbox W h 5
  have b6 := fun W (h : Later w0 W) => hbox W h 6
  have b7 := fun W (h : Later w0 W) => hbox W h 7
  have b8 := fun W (h : Later w0 W) => hbox W h 8
  simp only [List.getElem?_toArray, List.getElem?_cons_zero, List.getElem?_cons_succ] at b0 b1 b2 b3 b4 b5 b6 b7 b8
  clear hbox
  have hl0 := hl.later hL0
  have hin : inB 0 0 ((nq : Int) - 1) = true := by unfold inB; simp; omega
  have Hin := hide hin
  have hw1 : IntKind.i64.wrap ((nq : Int) - 1) = (nq : Int) - 1 := IntWalk.i64_in _ (by omega)
  clear hin
  obtain ⟨b, o, x, rfl, _, hx, hx0⟩ := hl0.get (k := 0) (by omega)
  simp only [List.getElem?_cons_zero, Option.some.injEq] at hx
  subst hx
  simp only [Nat.add_zero, Nat.zero_mul] at hx0
  have hLs := later_refl w0
  have hcon : RI w0 (some ⟨b, o, none⟩) 0 [] := ⟨rfl, fun h => absurd h (by omega)⟩
  go_enter Try.func27, Try.ntmps27
  go_upto_region 1 with fail
  rw [← Hw0.out]
  clear Hw0
  go_wp2_with fail
  go_loopw [9] (fun v wr => ∃ j : Nat, j ≤ 1 ∧ v = .int .i64 j ∧ Later w0 wr) (fun v _ => 1 - (intOf v).toNat)
  case atStart => exact ⟨0, Nat.zero_le _, rfl, later_refl _⟩
  case round =>
    obtain ⟨j, hj, rfl, hL⟩ := hrel
    rcases (by omega : j = 0 ∨ j = 1) with rfl | rfl
    · have c0 := hx0 _ hL
      go_wp2_with (go_at_call 46; refine (uwithin_eq Hin.out _).mono ?_; rintro e w' ⟨rfl, rfl⟩)
      refine (Contains_eq (p := []) (b := false) rfl _ (hcon.later hL) (by omega)).mono ?_
      rintro e w' ⟨rfl, rfl⟩
      go_wp2_with fail
      go_roundw
      case rel => exact ⟨1, by omega, by go_num, hL⟩
      case measure => simp [intOf]
    · go_wp2_with fail
      go_ret
      exact ⟨rfl, Later.trans hL0 hL⟩
end Go.Proofs.Ytcffgjhmpgdfpaa

/- The least of some numbers; who is free first: walks. -/
namespace Go.Proofs.Ytcffgjhmpgdfpaa
open Go Go.RowKit
theorem minL_take {p : List Int} {j : Nat} {x : Int} (h1 : 1 ≤ j) (hx : p[j]? = some x) : minL (p.take (j + 1)) = min (minL (p.take j)) x := by
  rw [List.take_add_one, hx]
  cases p with
  | nil => cases hx
  | cons y l =>
    obtain ⟨i, rfl⟩ : ∃ i, j = i + 1 := ⟨j - 1, by omega⟩
    show ((y :: l.take i) ++ [x]).tail.foldl min y = _
    rw [List.cons_append, List.tail_cons, List.foldl_append]
    rfl
theorem minL_one {p : List Int} {x : Int} (hx : p[0]? = some x) : minL (p.take 1) = x := by
  cases p with
  | nil => cases hx
  | cons y l => injection hx with hx
theorem atFrom_idx : ∀ {l : List Int} {x : Int}, x ∈ l → ∀ j : Int, atFrom l x j = j + (l.idxOf x : Int)
  | y :: l, x, h, j => by
    rw [atFrom_cons, List.idxOf_cons]
    by_cases he : y = x
    · subst he
      simp
    · rw [if_neg he]
      have hm : x ∈ l := by
        rcases List.mem_cons.1 h with h | h
        · exact absurd h.symm he
        · exact h
      rw [atFrom_idx hm]
      have hb : (y == x) = false := by simpa using he
      rw [hb]
      simp only [cond_false]
      omega
set_option maxRecDepth 100000 in
theorem MinN_calls {A : Option Addr} {n k : Nat} {p : List Int} (w : World) (h : RI w A n p) (h1 : 0 < n) (hn : n ≤ 1000) :
    Calls Try.prog 74 #[.slice A n k] w fun e w' => e = .returned (.int .i64 (minL p)) ∧ w = w' := by
  obtain ⟨b, o, y, rfl, _, hy, hc⟩ := h.get h1
  replace hc := hc w (later_refl w)
  simp only [Nat.add_zero, Nat.zero_mul] at hc
  have Hl := hide h.len
  have H1 := hide (minL_one hy)
  have hn0 : ¬ (n : Int) < 1 := by omega
  go_enter Try.func74, Try.ntmps74
  go_wp2_with fail
  go_loopw [4, 3] (fun i m wr => ∃ j : Nat, 1 ≤ j ∧ j ≤ n ∧ i = .int .i64 j ∧ m = .int .i64 (minL (p.take j)) ∧ w = wr) (fun i _ _ => n - (intOf i).toNat)
  case atStart => exact ⟨1, Nat.le_refl _, h1, rfl, by rw [H1.out], rfl⟩
  case round =>
    obtain ⟨j, hj1, hj, rfl, rfl, rfl⟩ := hrel
    by_cases hlt : j < n
    · obtain ⟨b', o', x, e', _, hx, hc'⟩ := h.get hlt
      obtain ⟨rfl, rfl⟩ := some_lit e'
      replace hc' := hc' w (later_refl w)
      have Hm := hide (minL_take hj1 hx)
      have hi1 : (j : Int) < n := by omega
      generalize minL (p.take j) = q at *
      clear hx hy
      go_wp2_with fail
      go_roundw
      case rel => exact ⟨j + 1, by omega, by omega, by go_num, by rw [Hm.out]; congr 1; rw [Int.min_def]; split <;> split <;> omega, by first | trivial | rfl⟩
      case measure => simp [intOf]; omega
    · have hf : p.take j = p := List.take_of_length_le (by have := Hl.out; omega)
      rw [hf]
      have hi1 : ¬ (j : Int) < n := by omega
      go_wp2_with fail
      go_ret
      exact ⟨rfl, rfl⟩
theorem umin_calls {A : Option Addr} {n k : Nat} {p : List Int} (w : World) (h : RI w A n p) (h1 : 0 < n) (hn : n ≤ 1000) :
    Calls Try.prog 60 #[.slice A n k] w fun e w' => e = .returned (.int .i64 (minL p)) ∧ w = w' := by
  go_enter Try.func60, Try.ntmps60
  go_wp2_with fail
  refine (MinN_calls _ h h1 hn).mono ?_
  rintro e w1 ⟨rfl, rfl⟩
  go_wp2_with fail
  go_ret
  exact ⟨rfl, rfl⟩
end Go.Proofs.Ytcffgjhmpgdfpaa

/- The minutes from which tubs are free; who is free first: walks. -/
namespace Go.Proofs.Ytcffgjhmpgdfpaa
open Go Go.RowKit
attribute [local go_sem] later_alloc2 later_alloc3 later_alloc4
theorem ureads {w : World} {g : Nat} {t : TypeId} {cs : Array Value} (h : Blk w g t cs) {size n : Nat} {xs : List Value} (hl : xs.length = n * size) (hx : ∀ (j : Nat) (u : Value), xs[j]? = some u → cs[j]? = some u) : Reads w w.heap.size size (some ⟨g, 0, none⟩) n xs :=
  ⟨hl, fun _ => ⟨_, rfl, h.lt, fun j u hu => by rw [add_lit, Nat.zero_add, h.cell]; exact hx j u hu⟩⟩
theorem padN_len {p : List Int} (h : p.length ≤ 5) : (padN p).length = 5 := by unfold padN; simp; omega
theorem five_of {l : List Int} (h : l.length = 5) : ∃ x0 x1 x2 x3 x4, l = [x0, x1, x2, x3, x4] := by
  match l, h with
  | [x0, x1, x2, x3, x4], _ => exact ⟨x0, x1, x2, x3, x4, rfl⟩
theorem umin_later {A : Option Addr} {n k : Nat} {p : List Int} (w : World) (h : RI w A n p) (h1 : 0 < n) (hn : n ≤ 1000) :
    Calls Try.prog 60 #[.slice A n k] w fun e w' => e = .returned (.int .i64 (minL p)) ∧ Later w w' :=
  (umin_calls w h h1 hn).mono fun _ _ ⟨e, h⟩ => ⟨e, h ▸ later_refl _⟩
theorem index_later {A : Option Addr} {n k : Nat} {p : List Int} (x : Int) (w : World) (h : RI w A n p) (hn : n ≤ 1000000) :
    Calls Try.prog 59 #[.slice A n k, .int .i64 x] w fun e w' => e = .returned (.int .i64 (atFrom p x 0)) ∧ Later w w' :=
  (Index_calls x w h hn).mono fun _ _ ⟨e, h⟩ => ⟨e, h ▸ later_refl _⟩
set_option maxRecDepth 100000 in
set_option maxHeartbeats 1000000 in
theorem first_u (x0 x1 x2 x3 x4 : Int) (w : World) :
    Calls Try.prog 48 #[.agg #[.int .i64 x0, .int .i64 x1, .int .i64 x2, .int .i64 x3, .int .i64 x4]] w fun e w' => e = .returned (.int .i64 (argMin [x0, x1, x2, x3, x4])) ∧ Later w w' := by
  obtain ⟨w0, hw0⟩ : ∃ X, X = w.alloc (.cells #[.int .i64 x0, .int .i64 x1, .int .i64 x2, .int .i64 x3, .int .i64 x4] 87) := ⟨_, rfl⟩
  have hb0 : Blk w0 w.heap.size 87 #[.int .i64 x0, .int .i64 x1, .int .i64 x2, .int .i64 x3, .int .i64 x4] := by rw [hw0]; exact Blk.new _ _ _
  have hL0 : Later w w0 := by rw [hw0]; exact later_alloc (later_refl _) _
  have hri : RI w0 (some ⟨w.heap.size, 0, none⟩) 5 [x0, x1, x2, x3, x4] := ureads hb0 (xs := ints [x0, x1, x2, x3, x4]) rfl fun j u hu => by simpa [ints] using hu
  have hidx : atFrom [x0, x1, x2, x3, x4] (minL [x0, x1, x2, x3, x4]) 0 = (argMin [x0, x1, x2, x3, x4] : Int) := by
    rw [atFrom_idx (minL_mem (by simp)), Int.zero_add]; rfl
  have Hidx := hide hidx
  have Hw0 := hide hw0
  clear hw0 hidx hb0
  generalize hl : [x0, x1, x2, x3, x4] = l at *
  have Hl := hide hl
  clear hl
  go_enter Try.func48, Try.ntmps48
  go_upto_region 1 with fail
  rw [← Hw0.out]
  clear Hw0
  refine wp_region_ext (w0 := w0) (by kernel_rfl) (by kernel_rfl) (later_refl _) ?_; (repeat (first | go_big_quiet_step (((first | (go_at_call 60; exact calls_ext (by simp) (umin_later _ (hri.later (by (repeat (first | assumption | exact Ext.h _ | refine later_drew ?_ | refine later_alloc ?_ _ | refine later_set ?_ _ (Nat.le_add_right _ _) _ | refine later_set ?_ _ (Nat.le_refl _) _)); done)) (by omega) (by omega))) | (go_at_call 59; exact calls_ext (by simp) (index_later _ _ (hri.later (by (repeat (first | assumption | exact Ext.h _ | refine later_drew ?_ | refine later_alloc ?_ _ | refine later_set ?_ _ (Nat.le_add_right _ _) _ | refine later_set ?_ _ (Nat.le_refl _) _)); done)) (by omega)))))) | quiet_step (((first | (go_at_call 60; exact calls_ext (by simp) (umin_later _ (hri.later (by (repeat (first | assumption | exact Ext.h _ | refine later_drew ?_ | refine later_alloc ?_ _ | refine later_set ?_ _ (Nat.le_add_right _ _) _ | refine later_set ?_ _ (Nat.le_refl _) _)); done)) (by omega) (by omega))) | (go_at_call 59; exact calls_ext (by simp) (index_later _ _ (hri.later (by (repeat (first | assumption | exact Ext.h _ | refine later_drew ?_ | refine later_alloc ?_ _ | refine later_set ?_ _ (Nat.le_add_right _ _) _ | refine later_set ?_ _ (Nat.le_refl _) _)); done)) (by omega)))))))); refine wpQuiet_nil ?_; rintro w1 ⟨⟨_, hL1⟩, rfl⟩; (try dsimp only)
  go_wp2_with fail
  go_ret
  exact ⟨ret_int Hidx.out, Later.trans hL0 hL1⟩
end Go.Proofs.Ytcffgjhmpgdfpaa

/- The law's example: walk. -/
namespace Go.Proofs.Ytcffgjhmpgdfpaa
open Go Go.RowKit
def exH : Hou := ⟨60, 5, [(0, 0), (3, 3)], [(0, 1), (0, 1)], [⟨0, 0, 300⟩, ⟨0, 1, 366⟩, ⟨1, 0, 363⟩, ⟨1, 1, 396⟩]⟩
set_option maxRecDepth 100000 in
theorem ex_asked : askedErr exH 0 = 0 := by kernel_rfl
theorem ex_hours : hoursOut exH = [(1, 1), (1, 1)] := by kernel_rfl
theorem ex_clash : clashOut exH 0 1 = 2 := by kernel_rfl
theorem ex_clashE : askedErr exH (clashDue exH 0 1) = 0 := by kernel_rfl
theorem ex_free : freeOut exH 0 = (393, 393) := by kernel_rfl
theorem ex_freeE : askedErr exH (freeDue exH 0) = 0 := by kernel_rfl
theorem own_of_blk {W : World} {base g : Nat} {e : TypeId} {size n : Nat} {cs : Array Value} (hb : Blk W g e cs) (hlo : base ≤ g) (hn : n ≤ maxLen) (hs : cs.size = n * size) : W.ownsRow base e size (.slice (some ⟨g, 0, none⟩) n n) n cs.toList :=
  ⟨by simpa using hs, .inr ⟨g, n, cs, rfl, hlo, hb, Nat.le_refl _, hn, hs, List.take_of_length_le (by rw [Array.length_toList, hs]; exact Nat.le_refl _)⟩⟩
theorem field_house (a b c d e f g h i : Value) (w : World) : (Instr.field 48 (.agg #[a, b, c, d, e, f, g, h, i]) 0).run Try.prog w = .ok (.agg #[a, b, c, d, e]) w := by kernel_rfl
attribute [local go_sem] later_alloc2 later_alloc3 later_alloc4 field_house
set_option maxRecDepth 100000 in
set_option maxHeartbeats 2000000 in
theorem washed_calls (w : World) : Calls Try.prog 6 #[] w fun e w' => e = .returned (.bool true) ∧ Later w w' := by
  go_enter Try.func6, Try.ntmps6
  go_wp2_with fail
  refine (twoTubs_calls 3 3 _).mono ?_
  rintro e w1 ⟨g1, g2, g3, gq, rfl, hL1, hlo2, hlo3, k1, k2, k3⟩
  obtain ⟨W2, hW2⟩ : ∃ X, X = w1.alloc (.cells #[.int .i64 60, .int .i64 5, .slice (some ⟨g1, 0, none⟩) 2 2, .slice (some ⟨g2, 0, none⟩) 1 1, .slice (some ⟨g3, 0, none⟩) 2 2] 46) := ⟨_, rfl⟩
  obtain ⟨gh, hgh⟩ : ∃ g, g = w1.heap.size := ⟨_, rfl⟩
  have kh : Blk W2 gh 46 #[.int .i64 60, .int .i64 5, .slice (some ⟨g1, 0, none⟩) 2 2, .slice (some ⟨g2, 0, none⟩) 1 1, .slice (some ⟨g3, 0, none⟩) 2 2] := by rw [hW2, hgh]; exact Blk.new _ _ _
  have hL2 : Later w1 W2 := by rw [hW2]; exact later_alloc (later_refl _) _
  have hlo : w.heap.size ≤ gh := by have := hL1.size; omega
  have HW2 := hide hW2
  have Hgh := hide hgh
  have K1 := hide k1
  have K2 := hide k2
  have K3 := hide k3
  have Kh := hide kh
  clear hW2 hgh k1 k2 k3 kh
  go_upto_region 2 with fail
  rw [← HW2.out, ← Hgh.out]
  have c3 := (Kh.out.cell 3).trans (show _ = some (Value.slice (some ⟨g2, 0, none⟩) 1 1) from rfl)
  have hbn := Blk.new W2 73 [Value.int .i64 0, .int .i64 1].toArray
  have hL13 : Later w1 (W2.alloc (.cells #[.int .i64 0, .int .i64 1] 73)) := later_alloc hL2 _
  have hLw3 := Later.trans hL1 hL13
  have ho2 := own_of_blk (base := w.heap.size) (size := 2) (n := 1) (K2.out.later hL13) hlo2 (by unfold maxLen; omega) rfl
  have Hbn := hide hbn
  have Ho2 := hide ho2
  clear hbn ho2
  go_wp2_with (at_builtin; refine appG rfl w.heap.size _ _ 43 rfl 73 (.agg #[.int .i64 0, .int .i64 0]) 2 16 Try.underlying43 ticket_info rfl (by omega) (.slice (some ⟨g2, 0, none⟩) 1 1) 1 [.int .i64 0, .int .i64 1] rfl hLw3.size Ho2.out ⟨W2.heap.size, 0, none⟩ 1 1 [.int .i64 0, .int .i64 1] rfl rfl Hbn.out.one (by simp [Value.oneCell']) (by omega) (by omega) (by omega) ?_)
  intro v4 w4 hap
  have hr : w4.ownsRow w.heap.size 73 2 v4 2 (pairsV [(0, 1), (0, 1)]) := hap.own
  obtain ⟨ga, ka, rfl⟩ := own_form hr (by omega)
  have hLw4 : Later w w4 := Later.grown hLw3 hap.grown (fun g hg => by injection hg with hg; have e2 : g2 = g := hg; omega)
  have q1 := K1.out.later hL13
  have q2 := K2.out.later hL13
  have q3 := K3.out.later hL13
  have qh := Kh.out.alloc (.cells #[.int .i64 0, .int .i64 1] 73)
  have p1 := Blk.of_eq (hap.grown.block g1 q1.lt (fun e => by injection e with e; exact blk_ne q1 q2 (by decide) e)) q1
  have p3 := Blk.of_eq (hap.grown.block g3 q3.lt (fun e => by injection e with e; exact blk_ne q3 q2 (by decide) e)) q3
  have ph := Blk.of_eq (hap.grown.block gh qh.lt (fun e => by injection e with e; exact blk_ne qh q2 (by decide) e)) qh
  have c3 := (ph.cell 3).trans (show _ = some (Value.slice (some ⟨g2, 0, none⟩) 1 1) from rfl)
  have f3 := ph.frozen 3
  obtain ⟨w5, hw5⟩ : ∃ X, X = w4.setCell ⟨gh, 3, none⟩ (.slice (some ⟨ga, 0, none⟩) 2 ka) := ⟨_, rfl⟩
  have k1 : Blk w5 g1 65 #[.int .i64 0, .int .i64 0, .int .i64 3, .int .i64 3] := by rw [hw5]; exact Blk.far (p := (⟨gh, 3, none⟩ : Addr)) p1 (blk_ne p1 ph (by decide)) _
  have k3 : Blk w5 g3 74 #[.int .i64 0, .int .i64 0, .int .i64 300, .int .i64 0, .int .i64 1, .int .i64 366] := by rw [hw5]; exact Blk.far (p := (⟨gh, 3, none⟩ : Addr)) p3 (blk_ne p3 ph (by decide)) _
  have kh : Blk w5 gh 46 #[.int .i64 60, .int .i64 5, .slice (some ⟨g1, 0, none⟩) 2 2, .slice (some ⟨ga, 0, none⟩) 2 ka, .slice (some ⟨g3, 0, none⟩) 2 2] := by rw [hw5]; exact ph.set_ 3 _
  have hgah : ga ≠ gh := fun e => own_blk_ne hr ph (by decide) (by rw [e]; rfl)
  have hr5 : w5.ownsRow w.heap.size 73 2 (.slice (some ⟨ga, 0, none⟩) 2 ka) 2 (pairsV [(0, 1), (0, 1)]) := by
    rw [hw5]; exact own_block hr (fun g hg => Below.heap_setCell _ _ _ g (by injection hg with hg; show g ≠ gh; exact fun e => hgah (e ▸ hg)))
  have hLw5 : Later w w5 := by rw [hw5]; exact later_set hLw4 _ hlo _
  have Hw5 := hide hw5
  have Hr5 := hide hr5
  have L1 := hide k1
  have L3 := hide k3
  have Lh := hide kh
  clear hap hr q1 q2 q3 qh p1 p3 ph hw5 k1 k3 kh hr5 Ho2 Hbn
  go_upto_region 3 with fail
  rw [← Hw5.out]
  clear c3 f3 hLw3 hL13 Hw5
  have c4 := (Lh.out.cell 4).trans (show _ = some (Value.slice (some ⟨g3, 0, none⟩) 2 2) from rfl)
  have hbn := Blk.new w5 74 [Value.int .i64 1, .int .i64 0, .int .i64 363, .int .i64 1, .int .i64 1, .int .i64 396].toArray
  have hLw6 := later_alloc hLw5 (.cells #[.int .i64 1, .int .i64 0, .int .i64 363, .int .i64 1, .int .i64 1, .int .i64 396] 74)
  have hM6 := later_alloc (later_refl w5) (.cells #[.int .i64 1, .int .i64 0, .int .i64 363, .int .i64 1, .int .i64 1, .int .i64 396] 74)
  have ho3 := own_of_blk (base := w.heap.size) (size := 3) (n := 2) (L3.out.later hM6) hlo3 (by unfold maxLen; omega) rfl
  have Hbn := hide hbn
  have Ho3 := hide ho3
  clear hbn ho3
  go_wp2_with (at_builtin; refine appG rfl w.heap.size _ _ 44 rfl 74 (.agg #[.int .i64 0, .int .i64 0, .int .i64 0]) 3 24 Try.underlying44 clip_info rfl (by omega) (.slice (some ⟨g3, 0, none⟩) 2 2) 2 [.int .i64 0, .int .i64 0, .int .i64 300, .int .i64 0, .int .i64 1, .int .i64 366] rfl hLw6.size Ho3.out ⟨w5.heap.size, 0, none⟩ 2 2 [.int .i64 1, .int .i64 0, .int .i64 363, .int .i64 1, .int .i64 1, .int .i64 396] rfl rfl Hbn.out.one (by simp [Value.oneCell']) (by omega) (by omega) (by omega) ?_)
  intro v7 w7 hap
  have hr : w7.ownsRow w.heap.size 74 3 v7 4 (clipsV exH.clips) := hap.own
  obtain ⟨gc, kc, rfl⟩ := own_form hr (by omega)
  have hLw7 : Later w w7 := Later.grown hLw6 hap.grown (fun g hg => by injection hg with hg; have e2 : g3 = g := hg; omega)
  have q1 := L1.out.later hM6
  have q3 := L3.out.later hM6
  have qh := Lh.out.later hM6
  have qr := own_laterb Hr5.out hM6
  have p1 := Blk.of_eq (hap.grown.block g1 q1.lt (fun e => by injection e with e; exact blk_ne q1 q3 (by decide) e)) q1
  have ph := Blk.of_eq (hap.grown.block gh qh.lt (fun e => by injection e with e; exact blk_ne qh q3 (by decide) e)) qh
  have hga3 : ga ≠ g3 := fun e => own_blk_ne qr q3 (by decide) (by rw [e]; rfl)
  have pr := own_block qr (fun g hg => hap.grown.block g (qr.lt g hg).2 (fun e => by injection e with e; injection hg with hg; exact hga3 (hg.trans e)))
  have c4 := (ph.cell 4).trans (show _ = some (Value.slice (some ⟨g3, 0, none⟩) 2 2) from rfl)
  have f4 := ph.frozen 4
  have hgch : gc ≠ gh := fun e => own_blk_ne hr ph (by decide) (by rw [e]; rfl)
  obtain ⟨w8, hw8⟩ : ∃ X, X = w7.setCell ⟨gh, 4, none⟩ (.slice (some ⟨gc, 0, none⟩) 4 kc) := ⟨_, rfl⟩
  have k1 : Blk w8 g1 65 #[.int .i64 0, .int .i64 0, .int .i64 3, .int .i64 3] := by rw [hw8]; exact Blk.far (p := (⟨gh, 4, none⟩ : Addr)) p1 (blk_ne p1 ph (by decide)) _
  have kh : Blk w8 gh 46 #[.int .i64 60, .int .i64 5, .slice (some ⟨g1, 0, none⟩) 2 2, .slice (some ⟨ga, 0, none⟩) 2 ka, .slice (some ⟨gc, 0, none⟩) 4 kc] := by rw [hw8]; exact ph.set_ 4 _
  have hrt : RP w8 (some ⟨ga, 0, none⟩) 2 exH.tickets := by
    rw [hw8]; exact Reads.of_own (own_block pr (fun g hg => Below.heap_setCell _ _ _ g (by injection hg with hg; show g ≠ gh; exact fun e => hgah (e ▸ hg))))
  have hrc : RC w8 (some ⟨gc, 0, none⟩) 4 exH.clips := by
    rw [hw8]; exact Reads.of_own (own_block hr (fun g hg => Below.heap_setCell _ _ _ g (by injection hg with hg; show g ≠ gh; exact fun e => hgch (e ▸ hg))))
  have hrk : RP w8 (some ⟨g1, 0, none⟩) 2 exH.clocks := ureads k1 (xs := pairsV exH.clocks) rfl fun j u hu => by simpa [pairsV, pairC, exH] using hu
  have hcv : CV w8 exH (some ⟨g1, 0, none⟩) 2 (some ⟨ga, 0, none⟩) 2 (some ⟨gc, 0, none⟩) 4 := ⟨hrk, hrt, hrc⟩
  have hLw8 : Later w w8 := by rw [hw8]; exact later_set hLw7 _ hlo _
  have d0 := fun X (h : Later w8 X) => ((kh.later h).cell 0).trans (show _ = some (Value.int .i64 60) from rfl)
  have d1 := fun X (h : Later w8 X) => ((kh.later h).cell 1).trans (show _ = some (Value.int .i64 5) from rfl)
  have d2 := fun X (h : Later w8 X) => ((kh.later h).cell 2).trans (show _ = some (Value.slice (some ⟨g1, 0, none⟩) 2 2) from rfl)
  have d3 := fun X (h : Later w8 X) => ((kh.later h).cell 3).trans (show _ = some (Value.slice (some ⟨ga, 0, none⟩) 2 ka) from rfl)
  have d4 := fun X (h : Later w8 X) => ((kh.later h).cell 4).trans (show _ = some (Value.slice (some ⟨gc, 0, none⟩) 4 kc) from rfl)
  have Hw8 := hide hw8
  have Hcv := hide hcv
  clear hap hr q1 q3 qh p1 ph hw8 k1 kh Ho3 Hbn hrt hrc hrk hcv pr qr hM6
  go_upto_region 4 with fail
  rw [← Hw8.out]
  clear c4 f4 Hw8 L1 L3 Lh Hr5 K1 K2 K3 Kh HW2 Hgh hLw4 hLw5 hLw6 hLw7
  have hh := HoursP_calls (k1 := 2) (k2 := ka) (k3 := kc) w8 Hcv.out (by omega) (by omega) (by omega)
  rw [ex_hours, ex_asked] at hh
  have Hh := hide hh
  clear hh
  have hl8 := later_refl w8
  go_wp2_with fail
  refine Hh.out.mono ?_
  rintro e w9 ⟨Ah, nh, kkh, rfl, hL9, hrh⟩
  obtain rfl : nh = 2 := hrh.len
  have hcl := ClashP_calls (k1 := 2) (k2 := ka) (k3 := kc) (a := 0) (b := 1) w9 (Hcv.out.later hL9) (by omega) (by omega) (by omega)
  rw [ex_clash, ex_clashE] at hcl
  have Hcl := hide hcl
  obtain ⟨br, orr, y, rfl, _, hy, hy0, hy1⟩ := hrh.get (k := 1) (by omega)
  simp only [List.getElem?_cons_succ, List.getElem?_cons_zero, Option.some.injEq] at hy
  subst hy
  simp only [Nat.reduceMul, Nat.reduceAdd] at hy0 hy1
  clear hcl Hh hrh
  go_wp2_with fail
  refine Hcl.out.mono ?_
  rintro e w10 ⟨rfl, hL10⟩
  have hL810 := Later.trans hL9 hL10
  have hfr := FreeP_calls (k1 := 2) (k2 := ka) (k3 := kc) (tub := 0) w10 (Hcv.out.later hL810) (by omega) (by omega) (by omega)
  rw [ex_free, ex_freeE] at hfr
  have Hfr := hide hfr
  clear hfr Hcl
  go_wp2_with fail
  refine Hfr.out.mono ?_
  rintro e w11 ⟨rfl, hL11⟩
  have hL911 := Later.trans hL10 hL11
  have hLw11 := Later.trans hLw8 (Later.trans hL9 hL911)
  obtain ⟨w12, hw12⟩ : ∃ X, X = w11.alloc (.cells #[.int .i64 393, .int .i64 393] 65) := ⟨_, rfl⟩
  obtain ⟨gz, hgz⟩ : ∃ g, g = w11.heap.size := ⟨_, rfl⟩
  have hbz : Blk w12 gz 65 #[.int .i64 393, .int .i64 393] := by rw [hw12, hgz]; exact Blk.new _ _ _
  have hL12 : Later w11 w12 := by rw [hw12]; exact later_alloc (later_refl _) _
  have y0 := hy0 w12 (Later.trans hL911 hL12)
  have y1 := hy1 w12 (Later.trans hL911 hL12)
  have z0 := (hbz.cell 0).trans (show _ = some (Value.int .i64 393) from rfl)
  have z1 := (hbz.cell 1).trans (show _ = some (Value.int .i64 393) from rfl)
  have Hw12 := hide hw12
  have Hgz := hide hgz
  clear Hfr Hcv hy0 hy1 d0 d1 d2 d3 d4 hw12 hgz hbz
  go_upto_region 7 with fail
  rw [← Hw12.out, ← Hgz.out]
  have hLw12 := Later.trans hLw11 hL12
  clear hL1 hL2 hLw8 hL9 hL10 hL11 hL810 hL911 hLw11 hL12 Hw12 Hgz hl8
  go_wp2_with fail
  go_ret
  exact ⟨rfl, hLw12⟩
end Go.Proofs.Ytcffgjhmpgdfpaa

/- The tubs' freed: walk. -/
namespace Go.Proofs.Ytcffgjhmpgdfpaa
open Go Go.RowKit
attribute [local go_sem] later_alloc2 later_alloc3 later_alloc4
theorem urow {w : World} {g : Nat} {t : TypeId} {old : Array Value} (h : Blk w g t old) (cs : Array Value) : Blk (w.setRow g cs) g t cs := setRow_heap w g old cs t (0, 0) h
def fillA (j : Nat) : Array Value := (List.replicate j (Value.int .i64 1099511627776) ++ List.replicate (5 - j) (Value.int .i64 0)).toArray
theorem splice_pad {p : List Int} (h : p.length ≤ 5) : splice (List.replicate 5 (Value.int .i64 1099511627776)) 0 (ints p) = ints (padN p) := by
  unfold splice padN
  rw [List.take_zero, List.nil_append, Nat.zero_add, ints_length, List.drop_replicate]
  simp [ints]
set_option maxRecDepth 100000 in
set_option maxHeartbeats 1000000 in
theorem freed_u {A : Option Addr} {n k : Nat} {p : List Int} (w : World) (h : RI w A n p) (hn : n ≤ 5) :
    Calls Try.prog 28 #[.slice A n k] w fun e w' => ∃ x0 x1 x2 x3 x4, padN p = [x0, x1, x2, x3, x4] ∧ e = .returned (.agg #[.int .i64 x0, .int .i64 x1, .int .i64 x2, .int .i64 x3, .int .i64 x4]) ∧ Later w w' := by
  have hpl := h.len
  obtain ⟨w0, hw0⟩ : ∃ X, X = w.alloc (.cells #[.int .i64 0, .int .i64 0, .int .i64 0, .int .i64 0, .int .i64 0] 87) := ⟨_, rfl⟩
  have hb0 : Blk w0 w.heap.size 87 (fillA 0) := by rw [hw0]; exact Blk.new _ _ _
  have hL0 : Later w w0 := by rw [hw0]; exact later_alloc (later_refl _) _
  obtain ⟨g, hg⟩ : ∃ g, g = w.heap.size := ⟨_, rfl⟩
  rw [← hg] at hb0
  have Hw0 := hide hw0
  have Hg := hide hg
  have Hb0 := hide hb0
  have Hpl := hide hpl
  clear hw0 hg hb0 hpl
  go_enter Try.func28, Try.ntmps28
  go_upto_region 1 with fail
  rw [← Hw0.out, ← Hg.out]
  go_wp2_with fail
  go_loopw [4] (fun v wr => ∃ j : Nat, j ≤ 5 ∧ v = .int .i64 j ∧ Later w wr ∧ Hid (Blk wr g 87 (fillA j))) (fun v _ => 5 - (intOf v).toNat)
  case atStart => exact ⟨0, by omega, rfl, hL0, Hb0⟩
  case round =>
    obtain ⟨j, hj, rfl, hL, Hb⟩ := hrel
    have hlo : w.heap.size ≤ g := Nat.le_of_eq Hg.out.symm
    rcases (by omega : j = 0 ∨ j = 1 ∨ j = 2 ∨ j = 3 ∨ j = 4 ∨ j = 5) with rfl | rfl | rfl | rfl | rfl | rfl
    · have cb := (Hb.out.cell 0).trans (show _ = some (Value.int .i64 0) from rfl)
      have cf := Hb.out.frozen 0
      go_wp2_with fail
      go_roundw
      case rel => exact ⟨1, by omega, rfl, later_set hL (⟨g, 0, none⟩ : Addr) hlo _, show Blk _ _ _ _ from Hb.out.set_ 0 (.int .i64 1099511627776)⟩
      case measure => simp [intOf]
    · have cb := (Hb.out.cell 1).trans (show _ = some (Value.int .i64 0) from rfl)
      have cf := Hb.out.frozen 1
      go_wp2_with fail
      go_roundw
      case rel => exact ⟨2, by omega, rfl, later_set hL (⟨g, 1, none⟩ : Addr) hlo _, show Blk _ _ _ _ from Hb.out.set_ 1 (.int .i64 1099511627776)⟩
      case measure => simp [intOf]
    · have cb := (Hb.out.cell 2).trans (show _ = some (Value.int .i64 0) from rfl)
      have cf := Hb.out.frozen 2
      go_wp2_with fail
      go_roundw
      case rel => exact ⟨3, by omega, rfl, later_set hL (⟨g, 2, none⟩ : Addr) hlo _, show Blk _ _ _ _ from Hb.out.set_ 2 (.int .i64 1099511627776)⟩
      case measure => simp [intOf]
    · have cb := (Hb.out.cell 3).trans (show _ = some (Value.int .i64 0) from rfl)
      have cf := Hb.out.frozen 3
      go_wp2_with fail
      go_roundw
      case rel => exact ⟨4, by omega, rfl, later_set hL (⟨g, 3, none⟩ : Addr) hlo _, show Blk _ _ _ _ from Hb.out.set_ 3 (.int .i64 1099511627776)⟩
      case measure => simp [intOf]
    · have cb := (Hb.out.cell 4).trans (show _ = some (Value.int .i64 0) from rfl)
      have cf := Hb.out.frozen 4
      go_wp2_with fail
      go_roundw
      case rel => exact ⟨5, by omega, rfl, later_set hL (⟨g, 4, none⟩ : Addr) hlo _, show Blk _ _ _ _ from Hb.out.set_ 4 (.int .i64 1099511627776)⟩
      case measure => simp [intOf]
    · have hb5 : Blk wr g 87 (List.replicate 5 (Value.int .i64 1099511627776)).toArray := Hb.out
      have hlr := h.later hL
      have hl5 : p.length ≤ 5 := by have := Hpl.out; omega
      obtain ⟨x0, x1, x2, x3, x4, hpd⟩ := five_of (padN_len hl5)
      have hA1 : (ints p).length = Nat.min n 5 := by rw [ints_length, ← Hpl.out]; exact (Nat.min_eq_left hn).symm
      have hA2 : 0 < (ints p).length → ∃ ad, A = some ad ∧ ∀ (j : Nat) (v : Value), (ints p)[j]? = some v → wr.cell? (ad.add j) = some v := fun h0 => by
        obtain ⟨ad, e, _⟩ := hlr.2 (by rw [ints_length] at h0; have := Hpl.out; omega)
        subst e
        exact ⟨ad, rfl, ints_cells hlr⟩
      have hA3 : 0 + (ints p).length ≤ (List.replicate 5 (Value.int .i64 1099511627776)).length := by rw [ints_length, List.length_replicate]; omega
      have HA1 := hide hA1
      have HA2 := hide hA2
      have HA3 := hide hA3
      have Hpd := hide hpd
      have Hb5 := hide hb5
      have Hl5 := hide hl5
      clear hA1 hA2 hA3 hpd hb5 hlr hl5 Hb
      go_upto_region 6 with fail
      go_wp2_with (refine wpList_copy_splice rfl _ _ 35 35 rfl 3 Try.underlying35 (by kernel_rfl) (some ⟨g, 0, none⟩) A 5 5 n k rfl rfl g 0 (List.replicate 5 (.int .i64 1099511627776)) 87 Hb5.out (ints p) HA1.out (fun h0 => ⟨rfl, HA2.out h0⟩) HA3.out (ints_one p) w.heap.size w hL hlo ?_)
      intro w2 HG2 hL2
      have hb2 : Blk w2 g 87 #[.int .i64 x0, .int .i64 x1, .int .i64 x2, .int .i64 x3, .int .i64 x4] := by
        have := HG2.out
        rw [show splice [Value.int .i64 1099511627776, Value.int .i64 1099511627776, Value.int .i64 1099511627776, Value.int .i64 1099511627776, Value.int .i64 1099511627776] 0 (ints p) = ints [x0, x1, x2, x3, x4] from by rw [← Hpd.out]; exact splice_pad Hl5.out] at this
        exact this
      have hke := urow hb2 #[.int .i64 x0, .int .i64 x1, .int .i64 x2, .int .i64 x3, .int .i64 x4]
      have Hb2 := hide hb2
      have Hke := hide hke
      clear hb2 hke HG2
      go_wp2_with (first | (refine wpList_load_row rfl _ _ rfl g rfl _ _ _ _ Hb2.out Try.underlying87 rfl (by kernel_rfl) ?_) | (refine wpList_store_row rfl _ _ _ rfl g _ rfl rfl _ _ Hb2.out (by kernel_rfl) rfl (by simp [Value.oneCell']) ?_))
      refine bodyPost_ret (results_cell_row (P := Try.prog) (fn := Try.f28) (p := 2) (ty := 87) (by kernel_rfl) _ _ g _ _ _ _ rfl Hke.out Try.underlying87 (by kernel_rfl) (by kernel_rfl)) rfl ⟨x0, x1, x2, x3, x4, Hpd.out, rfl, ?_⟩
      exact ⟨hL2.os, hL2.tape, hL2.output, by simpa using hL2.size, fun b hb => (setRow_other w2 g b _ (by omega)).trans (hL2.block b hb)⟩
end Go.Proofs.Ytcffgjhmpgdfpaa

/- The tubs' done for the order of the first woman alone: walk. -/
namespace Go.Proofs.Ytcffgjhmpgdfpaa
open Go Go.RowKit
attribute [local go_sem] later_alloc2 later_alloc3 later_alloc4
/-- a number appended onto no list at all -/
theorem app_one {o : Oper} {a : Act} {K : Act → World → Prop} {Q : Exit → Act → World → Prop} {W : World} (base : Nat) (s x : Operand) (ho : o.op = .call { callee := .builtin .append, args := #[s, x], argTypes := #[35, 35] })
    (hs : a.eval s = .slice none 0 0) (hb : base ≤ W.heap.size) (gn : Nat) (z : Int) (hx : a.eval x = .slice (some ⟨gn, 0, none⟩) 1 1) (hbn : Blk W gn 3 [Value.int .i64 z].toArray)
    (h : ∀ g k w', Later W w' → W.heap.size ≤ g → g < w'.heap.size → w'.ownsRow base 3 1 (.slice (some ⟨g, 0, none⟩) 1 k) 1 [.int .i64 z] → K (a.put o.dst (.slice (some ⟨g, 0, none⟩) 1 k)) w') : o.wp Try.prog a W K Q := by
  refine appG_wp base s x 35 ho 3 (.int .i64 0) 1 8 Try.underlying35 int_info rfl (by omega) (.slice none 0 0) 0 [] hs hb (World.ownsRow_nil _ _ _ _) ⟨gn, 0, none⟩ 1 1 [.int .i64 z] hx rfl hbn.one (by simp [Value.oneCell']) (by omega) (by omega) (by omega) ?_
  intro v' w' hap
  have hown : w'.ownsRow base 3 1 v' 1 [.int .i64 z] := hap.own
  obtain ⟨g, k, rfl⟩ := own_form hown (by omega)
  have hg : g = W.heap.size := by
    rcases hap.at_ with e | e
    · cases e
    · injection e
  exact h g k w' (Later.grown (later_refl _) hap.grown (fun g hg => by cases hg)) (by omega) (hown.lt g rfl).2 hown
/-- two rows of one number, each the call's own -/
def TwoRows (base : Nat) (a b : Int) (u v : Value) (W : World) : Prop :=
  ∃ ga ka gb kb, u = .slice (some ⟨ga, 0, none⟩) 1 ka ∧ v = .slice (some ⟨gb, 0, none⟩) 1 kb ∧ ga ≠ gb ∧ W.ownsRow base 3 1 u 1 [.int .i64 a] ∧ W.ownsRow base 3 1 v 1 [.int .i64 b]
def DonePost (a b : Int) (w : World) (e : Ending) (w' : World) : Prop :=
  ∃ u v, e = .returned (.tuple #[u, v]) ∧ Later w w' ∧ TwoRows w.heap.size a b u v w'
set_option maxRecDepth 100000 in
set_option maxHeartbeats 2000000 in
theorem done_one {Am Ao : Option Addr} {nm km ko : Nat} {m : List Int} {m0 : Int} (x0 x1 x2 x3 x4 : Int) (w : World) (hm : RI w Am nm m) (ho : RI w Ao 1 [0]) (h0 : m[0]? = some m0) (hn : nm ≤ 1000)
    (b1 : 0 ≤ m0 ∧ m0 ≤ 1000000) (b2 : 0 ≤ minL [x0, x1, x2, x3, x4] ∧ minL [x0, x1, x2, x3, x4] ≤ 1000000) :
    Calls Try.prog 29 #[.agg #[.int .i64 x0, .int .i64 x1, .int .i64 x2, .int .i64 x3, .int .i64 x4], .slice Am nm km, .slice Ao 1 ko] w (DonePost (argMin [x0, x1, x2, x3, x4]) (minL [x0, x1, x2, x3, x4] + m0) w) := by
  obtain ⟨w0, hw0⟩ : ∃ X, X = w.alloc (.cells #[.int .i64 x0, .int .i64 x1, .int .i64 x2, .int .i64 x3, .int .i64 x4] 87) := ⟨_, rfl⟩
  have hb0 : Blk w0 w.heap.size 87 #[.int .i64 x0, .int .i64 x1, .int .i64 x2, .int .i64 x3, .int .i64 x4] := by rw [hw0]; exact Blk.new _ _ _
  have hL0 : Later w w0 := by rw [hw0]; exact later_alloc (later_refl _) _
  obtain ⟨g, hg⟩ : ∃ g, g = w.heap.size := ⟨_, rfl⟩
  rw [← hg] at hb0
  have hne : [x0, x1, x2, x3, x4] ≠ [] := by simp
  have hal := argMin_lt hne
  have hag := argMin_get hne
  have hfc := fun W => first_u x0 x1 x2 x3 x4 W
  obtain ⟨a, ha⟩ : ∃ a, argMin [x0, x1, x2, x3, x4] = a := ⟨_, rfl⟩
  obtain ⟨q, hq⟩ : ∃ q, minL [x0, x1, x2, x3, x4] = q := ⟨_, rfl⟩
  rw [ha] at hal hag hfc ⊢
  rw [hq] at hag b2 ⊢
  simp only [List.length_cons, List.length_nil, Nat.zero_add, Nat.reduceAdd] at hal
  have hcs : (#[Value.int .i64 x0, .int .i64 x1, .int .i64 x2, .int .i64 x3, .int .i64 x4])[a]? = some (.int .i64 q) := by
    show (ints [x0, x1, x2, x3, x4]).toArray[a]? = _
    rw [List.getElem?_toArray]; unfold ints; rw [List.getElem?_map, hag]; rfl
  have hal2 : (a : Int) < 5 := by omega
  have hwq : IntKind.i64.wrap (q + m0) = q + m0 := IntWalk.i64_in _ (by omega)
  obtain ⟨bo, oo, x, rfl, _, hx, hx0⟩ := (ho.later hL0).get (k := 0) (by omega)
  simp only [List.getElem?_cons_zero, Option.some.injEq] at hx
  subst hx
  have hnm : 0 < nm := by have := hm.len; have := (List.getElem?_eq_some_iff.1 h0).1; omega
  have hnm2 : (0 : Int) < nm := by omega
  obtain ⟨bm, om, y, rfl, _, hy, hy0⟩ := (hm.later hL0).get (k := 0) hnm
  rw [h0] at hy
  obtain rfl : m0 = y := by injection hy
  simp only [Nat.add_zero, Nat.zero_mul] at hx0 hy0
  have Hw0 := hide hw0
  have Hg := hide hg
  have Hb0 := hide hb0
  have Hfc := hide hfc
  have Hcs := hide hcs
  clear hw0 hg hb0 hfc hcs ha hq hag hne h0 hy hm ho
  go_enter Try.func29, Try.ntmps29
  go_upto_region 1 with fail
  rw [← Hw0.out, ← Hg.out]
  go_wp2_with fail
  go_loopw [6, 7, 13] (fun u v i wr => (i = .int .i64 0 ∧ u = .slice none 0 0 ∧ v = .slice none 0 0 ∧ w0 = wr) ∨ (i = .int .i64 1 ∧ Later w wr ∧ TwoRows w.heap.size a (q + m0) u v wr)) (fun _ _ i _ => 1 - (intOf i).toNat)
  case atStart => exact .inl ⟨rfl, rfl, rfl, rfl⟩
  case round =>
    rcases hrel with ⟨rfl, rfl, rfl, rfl⟩ | ⟨rfl, hL, ga, ka, gb, kb, rfl, rfl, hgg, h1, h2⟩
    · have c0 := hx0 _ (later_refl _)
      go_wp2_with (first | (refine wpList_load_row rfl _ _ rfl g rfl _ _ _ _ Hb0.out Try.underlying87 rfl (by kernel_rfl) ?_) | (go_at_call 48; refine (Hfc.out _).mono ?_; rintro e w3 ⟨rfl, hL3⟩))
      have hb3 := Hb0.out.later hL3
      have ca := fun X (h : Later w3 X) => ((hb3.later h).cell a).trans Hcs.out
      have cm := fun X (h : Later w3 X) => hy0 X (Later.trans hL3 h)
      have Hb3 := hide hb3
      clear hb3
      refine wp_region_ext_tail (w0 := w3) 9 (by kernel_rfl) (by kernel_rfl) (later_refl _) ?_; simp only [List.take_succ_cons, List.take_zero, List.drop_succ_cons, List.drop_zero]; (repeat (first | go_big_quiet_step (((fail))) | quiet_step (((fail))))); refine wpQuiet_nil ?_; rintro w5 ⟨⟨_, hL5⟩, rfl⟩; (try dsimp only)
      have hb5 := Hb3.out.later hL5
      have k5 := (hb5.cell a).trans Hcs.out
      have f5 := hb5.frozen a
      have Hb5 := hide hb5
      clear hb5 ca cm
      go_upto_region 6 with fail
      obtain ⟨w6, hw6⟩ : ∃ X, X = w5.setCell ⟨g, a, none⟩ (.int .i64 (q + m0)) := ⟨_, rfl⟩
      have hb6 := Hb5.out.set_ a (.int .i64 (q + m0))
      have hsz : a < (#[Value.int .i64 x0, .int .i64 x1, .int .i64 x2, .int .i64 x3, .int .i64 x4]).size := hal
      have hL06 : Later w w6 := by rw [hw6]; exact later_set (Later.trans hL0 (Later.trans hL3 hL5)) _ (show w.heap.size ≤ g from Nat.le_of_eq Hg.out.symm) _
      rw [← hw6] at hb6 ⊢
      have c6 := fun X (h : Later w6 X) => ((hb6.later h).cell a).trans (Array.getElem?_setIfInBounds_self_of_lt hsz)
      have hlo := hL06.size
      have hS6 : Later w6 w6.drew := later_drew (later_refl _)
      clear hw6 hb6 k5 f5 hsz
      refine wp_region_lin (w0 := w6) 10 [] rely_later (by kernel_rfl) (by kernel_rfl) (by kernel_rfl) (by kernel_rfl) (hS6) (.inl rfl) ?_
      simp only [List.take_succ_cons, List.take_zero, List.drop_succ_cons, List.drop_zero]
      refine lin_det (v := ?_) (F' := ?_) (by rfl) (fun _ => by rfl) ?_ ?_ ?_
      rotate_left 2
      focus (intro xs X hX hdep; clear hdep; (try dsimp only); go_simp; (try (first | with_reducible rfl | exact ⟨rfl, rfl⟩ | (fail))))
      focus (intro xs; (try simp only [Act.put, List.setIfInBounds_toArray, List.set_cons_zero, List.set_cons_succ, Nat.reduceAdd]); rfl)
      refine lin_det (v := ?_) (F' := ?_) (by rfl) (fun _ => by rfl) ?_ ?_ ?_
      rotate_left 2
      focus (intro xs X hX hdep; clear hdep; (try dsimp only); go_simp; (try (first | with_reducible rfl | exact ⟨rfl, rfl⟩ | (fail))))
      focus (intro xs; (try simp only [Act.put, List.setIfInBounds_toArray, List.set_cons_zero, List.set_cons_succ, Nat.reduceAdd]); rfl)
      refine lin_any (IsNew 3 [.int .i64 a]) false (fun v W W' k h => IsNew.later h k) (F' := ?_) (by rfl) (fun _ => by rfl) ?_ ?_ ?_
      rotate_left 1
      focus (intro xs X hX hdep; skip; clear hdep; intro K hK; (try dsimp only); go_simp; (exact hK.out _ _ rfl (later_alloc (later_refl _) _) ⟨_, rfl, Blk.new _ _ _⟩ (fun h => by cases h)))
      focus (intro xs; (try simp only [Act.put, List.setIfInBounds_toArray, List.set_cons_zero, List.set_cons_succ, Nat.reduceAdd]); rfl)
      refine lin_any (fun v W => ∃ g k, v = .slice (some ⟨g, 0, none⟩) 1 k ∧ W.ownsRow w.heap.size 3 1 v 1 [.int .i64 a]) true (fun v W W' h ⟨g, k, e, ho⟩ => ⟨g, k, e, own_laterb ho h⟩) (F' := ?_) (by rfl) (fun _ => by rfl) ?_ ?_ ?_
      rotate_left 1
      focus (intro xs X hX hdep; obtain ⟨gn, e0, hbn⟩ := (show IsNew _ _ _ _ from hdep 2 1 (by kernel_rfl)); clear hdep; intro K hK; (try dsimp only); (refine app_one w.heap.size _ _ rfl rfl (Nat.le_trans hlo hX.size) gn a (by exact e0) hbn (fun g' k' w' hL hlo' hlt hown => ?_); exact hK.out _ _ rfl hL ⟨g', k', rfl, hown⟩ (fun _ => ⟨g', rfl, hlo', hlt⟩)))
      focus (intro xs; (try simp only [Act.put, List.setIfInBounds_toArray, List.set_cons_zero, List.set_cons_succ, Nat.reduceAdd]); rfl)
      refine lin_det (v := ?_) (F' := ?_) (by rfl) (fun _ => by rfl) ?_ ?_ ?_
      rotate_left 2
      focus (intro xs X hX hdep; clear hdep; (try dsimp only); go_simp; (try (first | with_reducible rfl | exact ⟨rfl, rfl⟩ | (fail))))
      focus (intro xs; (try simp only [Act.put, List.setIfInBounds_toArray, List.set_cons_zero, List.set_cons_succ, Nat.reduceAdd]); rfl)
      refine lin_det (v := ?_) (F' := ?_) (by rfl) (fun _ => by rfl) ?_ ?_ ?_
      rotate_left 2
      focus (intro xs X hX hdep; clear hdep; (try dsimp only); go_simp; (try (first | with_reducible rfl | exact ⟨rfl, rfl⟩ | (fail))))
      focus (intro xs; (try simp only [Act.put, List.setIfInBounds_toArray, List.set_cons_zero, List.set_cons_succ, Nat.reduceAdd]); rfl)
      refine lin_det (v := ?_) (F' := ?_) (by rfl) (fun _ => by rfl) ?_ ?_ ?_
      rotate_left 2
      focus (intro xs X hX hdep; clear hdep; (try dsimp only); go_simp; (try (first | with_reducible rfl | exact ⟨rfl, rfl⟩ | (fail))))
      focus (intro xs; (try simp only [Act.put, List.setIfInBounds_toArray, List.set_cons_zero, List.set_cons_succ, Nat.reduceAdd]); rfl)
      refine lin_det (v := ?_) (F' := ?_) (by rfl) (fun _ => by rfl) ?_ ?_ ?_
      rotate_left 2
      focus (intro xs X hX hdep; clear hdep; (try dsimp only); go_simp; (try (first | with_reducible rfl | exact ⟨rfl, rfl⟩ | (fail))))
      focus (intro xs; (try simp only [Act.put, List.setIfInBounds_toArray, List.set_cons_zero, List.set_cons_succ, Nat.reduceAdd]); rfl)
      refine lin_any (IsNew 3 [.int .i64 (q + m0)]) false (fun v W W' k h => IsNew.later h k) (F' := ?_) (by rfl) (fun _ => by rfl) ?_ ?_ ?_
      rotate_left 1
      focus (intro xs X hX hdep; skip; clear hdep; intro K hK; (try dsimp only); go_simp; (exact hK.out _ _ rfl (later_alloc (later_refl _) _) ⟨_, rfl, Blk.new _ _ _⟩ (fun h => by cases h)))
      focus (intro xs; (try simp only [Act.put, List.setIfInBounds_toArray, List.set_cons_zero, List.set_cons_succ, Nat.reduceAdd]); rfl)
      refine lin_any (fun v W => ∃ g k, v = .slice (some ⟨g, 0, none⟩) 1 k ∧ W.ownsRow w.heap.size 3 1 v 1 [.int .i64 (q + m0)]) true (fun v W W' h ⟨g, k, e, ho⟩ => ⟨g, k, e, own_laterb ho h⟩) (F' := ?_) (by rfl) (fun _ => by rfl) ?_ ?_ ?_
      rotate_left 1
      focus (intro xs X hX hdep; obtain ⟨gn, e0, hbn⟩ := (show IsNew _ _ _ _ from hdep 8 1 (by kernel_rfl)); clear hdep; intro K hK; (try dsimp only); (refine app_one w.heap.size _ _ rfl rfl (Nat.le_trans hlo hX.size) gn (q + m0) (by exact e0) hbn (fun g' k' w' hL hlo' hlt hown => ?_); exact hK.out _ _ rfl hL ⟨g', k', rfl, hown⟩ (fun _ => ⟨g', rfl, hlo', hlt⟩)))
      focus (intro xs; (try simp only [Act.put, List.setIfInBounds_toArray, List.set_cons_zero, List.set_cons_succ, Nat.reduceAdd]); rfl)
      intro xs w7 hW hf hfr hfb
      obtain ⟨ga, ka, hx3, h1⟩ := (show ∃ g k, xs 3 = .slice (some ⟨g, 0, none⟩) 1 k ∧ w7.ownsRow w.heap.size 3 1 (xs 3) 1 [.int .i64 a] from hf 3)
      obtain ⟨gb, kb, hx9, h2⟩ := (show ∃ g k, xs 9 = .slice (some ⟨g, 0, none⟩) 1 k ∧ w7.ownsRow w.heap.size 3 1 (xs 9) 1 [.int .i64 (q + m0)] from hf 9)
      have hgg := hfr 3 9 (by omega) rfl rfl
      rw [hx3, hx9] at hgg
      rw [hx3] at h1
      rw [hx9] at h2
      have hgg2 : ga ≠ gb := fun e => hgg (by rw [e]; rfl)
      simp only [hx3, hx9, Nat.reduceAdd, Nat.zero_add]
      have hL7 := Later.trans hL06 hW
      clear hf hfr hfb hx3 hx9 hgg c6
      go_wp2_with fail
      go_roundw
      case rel => exact .inr ⟨rfl, hL7, ga, ka, gb, kb, rfl, rfl, hgg2, h1, h2⟩
      case measure => simp [intOf]
    · go_wp2_with fail
      refine bodyPost_ret (v := .tuple #[.slice (some ⟨ga, 0, none⟩) 1 ka, .slice (some ⟨gb, 0, none⟩) 1 kb]) ?_ rfl ⟨_, _, rfl, hL, ga, ka, gb, kb, rfl, rfl, hgg, h1, h2⟩
      simp [results, Try.results29, go_sem]
end Go.Proofs.Ytcffgjhmpgdfpaa

/- The tubs' Play for the order of the first woman alone: walk. -/
namespace Go.Proofs.Ytcffgjhmpgdfpaa
open Go Go.RowKit
attribute [local go_sem] later_alloc2 later_alloc3 later_alloc4
theorem TwoRows.mono {base base' : Nat} {a b : Int} {u v : Value} {W : World} (h : TwoRows base a b u v W) (k : base' ≤ base) : TwoRows base' a b u v W :=
  let ⟨ga, ka, gb, kb, e1, e2, hn, h1, h2⟩ := h; ⟨ga, ka, gb, kb, e1, e2, hn, World.ownsRow.mono h1 k, World.ownsRow.mono h2 k⟩
/-- the tub of the first woman, and when she is done -/
def PlayOne (f : Flo) (frm : List Int) (m0 : Int) (w : World) (e : Ending) (w' : World) : Prop :=
  ∃ A k B j, e = .returned (.tuple #[.slice A 1 k, .slice B 1 j, .int .i64 0]) ∧ Later w w' ∧ RI w' A 1 [((givenT f).getD (argMin frm) 0 : Int)] ∧ RI w' B 1 [minL frm + m0]
theorem askF_zero {f : Flo} (h : askF f = 0) : OkF f ∧ givenT f ≠ [] := by
  unfold askF at h
  by_cases h1 : faultF f = 0
  · rw [if_neg (by simp [h1])] at h
    refine ⟨faultF_zero.1 h1, fun e => ?_⟩
    rw [if_pos e] at h; omega
  · rw [if_pos h1] at h; exact absurd h h1
set_option maxRecDepth 100000 in
set_option maxHeartbeats 4000000 in
theorem Play_one {A1 A2 A3 Aq : Option Addr} {n1 k1 n2 k2 n3 k3 nq kq : Nat} {f : Flo} {Au Am Ao : Option Addr} {nu ku nm km ko : Nat} {frm mins : List Int} {m0 : Int} (w : World) (hc : FV w f A1 n1 A2 n2 A3 n3 Aq nq) (hn1 : n1 ≤ 1000) (hn2 : n2 ≤ 1000) (hn3 : n3 ≤ 1000) (hnq : nq ≤ 1000) (hq : 0 < nq)
    (hu : RI w Au nu frm) (hm : RI w Am nm mins) (ho : RI w Ao 1 [0]) (hask : askF f = 0) (ha1 : areErrors (givenR f) frm = true) (ha2 : areErrors f.queue mins = true) (h0 : mins[0]? = some m0) :
    Calls Try.prog 12 #[(.agg #[.int .i64 f.house.hour, .int .i64 f.house.grace, .slice A1 n1 k1, .slice A2 n2 k2, .slice A3 n3 k3, .int .i64 f.tubs, .int .i64 f.opn, .int .i64 f.closing, .slice Aq nq kq]), .agg #[.slice Au nu ku, .slice Am nm km], .slice Ao 1 ko] w (PlayOne f frm m0 w) := by
  obtain ⟨ok, hgt⟩ := askF_zero hask
  obtain ⟨hl1, hr1⟩ := (areErrors_iff _ _).1 ha1
  obtain ⟨hl2, hr2⟩ := (areErrors_iff _ _).1 ha2
  have hgl : (givenR f).length = (givenT f).length := by unfold givenR; simp
  have hg4 := givenT_len ok
  have hfr : ∀ x ∈ frm, 0 ≤ x ∧ x ≤ 1469 := fun x hx => by
    obtain ⟨i, hi, rfl⟩ := List.mem_iff_getElem.1 hx
    have hi2 : i < (givenR f).length := by omega
    have := hr1 i _ _ (List.getElem?_eq_getElem hi2) (List.getElem?_eq_getElem hi)
    have := givenR_range ok _ (List.getElem_mem hi2)
    omega
  have hfne : frm ≠ [] := fun e => hgt (List.eq_nil_of_length_eq_zero (by rw [e] at hl1; simp at hl1; omega))
  have hap := argMin_pad hfne (fun x hx => by have := hfr x hx; omega)
  have hmp := minL_pad hfne (fun x hx => by have := hfr x hx; omega)
  have hmr := hfr _ (minL_mem hfne)
  have hal := argMin_lt hfne
  have hqr : 0 ≤ m0 ∧ m0 ≤ 240 := by
    have hi : 0 < f.queue.length := by have := hc.q.len; omega
    have := hr2 0 _ _ (List.getElem?_eq_getElem hi) h0
    have := ok.wash _ (List.getElem_mem hi)
    omega
  have hul := hu.len
  have hml := hm.len
  have hp5 : (padN frm).length = 5 := padN_len (by omega)
  obtain ⟨y0, y1, y2, y3, y4, hpd⟩ := five_of hp5
  rw [hpd] at hap hmp
  have hfd : ∀ (W : World) (h : RI W Au nu frm), Calls Try.prog 28 #[.slice Au nu ku] W fun e w' => e = .returned (.agg #[.int .i64 y0, .int .i64 y1, .int .i64 y2, .int .i64 y3, .int .i64 y4]) ∧ Later W w' := fun W h => by
    refine (freed_u (k := ku) W h (by omega)).mono ?_
    rintro e w' ⟨x0, x1, x2, x3, x4, hx, rfl, hL⟩
    rw [hpd] at hx
    simp only [List.cons.injEq, and_true] at hx
    obtain ⟨rfl, rfl, rfl, rfl, rfl⟩ := hx
    exact ⟨rfl, hL⟩
  have hdn : ∀ (W : World) (h1 : RI W Am nm mins) (h2 : RI W Ao 1 [0]), Calls Try.prog 29 #[.agg #[.int .i64 y0, .int .i64 y1, .int .i64 y2, .int .i64 y3, .int .i64 y4], .slice Am nm km, .slice Ao 1 ko] W (DonePost (argMin frm) (minL frm + m0) W) := fun W h1 h2 => by
    have := done_one (km := km) (ko := ko) y0 y1 y2 y3 y4 W h1 h2 h0 (by have := hc.q.len; omega) (by omega) (by rw [hmp]; omega)
    rwa [hap, hmp] at this
  obtain ⟨a, ha⟩ : ∃ a, argMin frm = a := ⟨_, rfl⟩
  obtain ⟨q, hqe⟩ : ∃ q, minL frm = q := ⟨_, rfl⟩
  unfold PlayOne
  rw [ha] at hdn hal ⊢
  rw [hqe] at hdn ⊢
  have hag : a < (givenT f).length := by omega
  obtain ⟨tn, htn⟩ : ∃ tn, (givenT f)[a]? = some tn := ⟨_, List.getElem?_eq_getElem hag⟩
  have hgd : (givenT f).getD a 0 = tn := by rw [List.getD_eq_getElem?_getD, htn]; rfl
  rw [hgd]
  have hnt : (nats (givenT f))[a]? = some (tn : Int) := by unfold nats; rw [List.getElem?_map, htn]; rfl
  obtain ⟨w0, hw0⟩ : ∃ W, W = w.alloc (.cells #[.int .i64 f.house.hour, .int .i64 f.house.grace, .slice A1 n1 k1, .slice A2 n2 k2, .slice A3 n3 k3, .int .i64 f.tubs, .int .i64 f.opn, .int .i64 f.closing, .slice Aq nq kq] 48) := ⟨_, rfl⟩
  have hbox : ∀ W, Later w0 W → ∀ i, W.cell? ⟨w.heap.size, i, none⟩ = #[.int .i64 f.house.hour, .int .i64 f.house.grace, .slice A1 n1 k1, .slice A2 n2 k2, .slice A3 n3 k3, .int .i64 f.tubs, .int .i64 f.opn, .int .i64 f.closing, .slice Aq nq kq][i]? := (by rw [hw0]; exact box_cells w #[.int .i64 f.house.hour, .int .i64 f.house.grace, .slice A1 n1 k1, .slice A2 n2 k2, .slice A3 n3 k3, .int .i64 f.tubs, .int .i64 f.opn, .int .i64 f.closing, .slice Aq nq kq] 48)
  have hL0 : Later w w0 := (by rw [hw0]; simp)
  have hc0 := hc.later hL0
  have Hw0 := hide hw0
  clear hw0
  have b0 := fun W (h : Later w0 W) => hbox W h 0
  have b1 := fun W (h : Later w0 W) => hbox W h 1
  have b2 := fun W (h : Later w0 W) => hbox W h 2
  have b3 := fun W (h : Later w0 W) => hbox W h 3
  have b4 := fun W (h : Later w0 W) => hbox W h 4
  have b5 := fun W (h : Later w0 W) => hbox W h 5
  have b6 := fun W (h : Later w0 W) => hbox W h 6
  have b7 := fun W (h : Later w0 W) => hbox W h 7
  have b8 := fun W (h : Later w0 W) => hbox W h 8
  simp only [List.getElem?_toArray, List.getElem?_cons_zero, List.getElem?_cons_succ] at b0 b1 b2 b3 b4 b5 b6 b7 b8
  clear hbox
  obtain ⟨w1, hw1⟩ : ∃ X, X = w0.alloc (.cells #[.slice Au nu ku, .slice Am nm km] 51) := ⟨_, rfl⟩
  have hs0 : w0.heap.size = w.heap.size + 1 := by rw [Hw0.out]; simp
  obtain ⟨gt, hgte⟩ : ∃ g, g = w.heap.size + 1 := ⟨_, rfl⟩
  have hb1 : Blk w1 gt 51 #[.slice Au nu ku, .slice Am nm km] := by rw [hw1, hgte, ← hs0]; exact Blk.new _ _ _
  have hL1 : Later w0 w1 := by rw [hw1]; exact later_alloc (later_refl _) _
  have hL01 := Later.trans hL0 hL1
  have t0 := fun X (h : Later w1 X) => ((hb1.later h).cell 0).trans (show _ = some (Value.slice Au nu ku) from rfl)
  have t1 := fun X (h : Later w1 X) => ((hb1.later h).cell 1).trans (show _ = some (Value.slice Am nm km) from rfl)
  have hu1 := hu.later hL01
  have hm1 := hm.later hL01
  have ho1 := ho.later hL01
  have hc1 := hc0.later hL1
  have Hw1 := hide hw1
  have Hgt := hide hgte
  have Hfd := hide hfd
  have Hdn := hide hdn
  have Hnt := hide hnt
  have Ha1 := hide ha1
  have Ha2 := hide ha2
  have Hask := hide hask
  have hnu : nu ≤ 1000 := by omega
  have hnm : nm ≤ 1000 := by have := hc.q.len; omega
  have hLs := later_refl w1
  clear hs0 hw1 hgte hfd hdn hnt ha1 ha2 hask hb1 hu hm ho hc hc0 hr1 hr2 hfr hap hmp hpd ha hqe htn hgd hgl hl1 hl2 hul hml hp5 hfne hgt h0
  go_enter Try.func12, Try.ntmps12
  go_upto_region 1 with fail
  rw [← Hw0.out, ← Hgt.out, ← Hw1.out]
  clear Hw0 Hw1 Hgt
  replace b0 := fun X (h : Later w1 X) => b0 X (Later.trans hL1 h)
  replace b1 := fun X (h : Later w1 X) => b1 X (Later.trans hL1 h)
  replace b2 := fun X (h : Later w1 X) => b2 X (Later.trans hL1 h)
  replace b3 := fun X (h : Later w1 X) => b3 X (Later.trans hL1 h)
  replace b4 := fun X (h : Later w1 X) => b4 X (Later.trans hL1 h)
  replace b5 := fun X (h : Later w1 X) => b5 X (Later.trans hL1 h)
  replace b6 := fun X (h : Later w1 X) => b6 X (Later.trans hL1 h)
  replace b7 := fun X (h : Later w1 X) => b7 X (Later.trans hL1 h)
  replace b8 := fun X (h : Later w1 X) => b8 X (Later.trans hL1 h)
  go_wp2_with fail
  refine (asked_u (k1 := k1) (k2 := k2) (k3 := k3) (kq := kq) _ hc1 hn1 hn2 hn3 hnq).mono ?_
  rintro e w2 (⟨h0, _, _⟩ | ⟨_, bw, At, kt, Af, kf, mm, rfl, hL2, hlo, hb, hrt, hrf⟩)
  · exact absurd Hask.out h0
  have c9 := fun X (h : Later w2 X) => ((hb.later h).cell 9).trans (show _ = some (Value.slice At mm kt) from rfl)
  have c10 := fun X (h : Later w2 X) => ((hb.later h).cell 10).trans (show _ = some (Value.slice Af mm kf) from rfl)
  have t0 := fun X (h : Later w2 X) => t0 X (Later.trans hL2 h)
  have t1 := fun X (h : Later w2 X) => t1 X (Later.trans hL2 h)
  replace b0 := fun X (h : Later w2 X) => b0 X (Later.trans hL2 h)
  replace b1 := fun X (h : Later w2 X) => b1 X (Later.trans hL2 h)
  replace b2 := fun X (h : Later w2 X) => b2 X (Later.trans hL2 h)
  replace b3 := fun X (h : Later w2 X) => b3 X (Later.trans hL2 h)
  replace b4 := fun X (h : Later w2 X) => b4 X (Later.trans hL2 h)
  replace b5 := fun X (h : Later w2 X) => b5 X (Later.trans hL2 h)
  replace b6 := fun X (h : Later w2 X) => b6 X (Later.trans hL2 h)
  replace b7 := fun X (h : Later w2 X) => b7 X (Later.trans hL2 h)
  replace b8 := fun X (h : Later w2 X) => b8 X (Later.trans hL2 h)
  have hu2 := hu1.later hL2
  have hm2 := hm1.later hL2
  have ho2 := ho1.later hL2
  have hc2 := hc1.later hL2
  have hL02 := Later.trans hL01 hL2
  clear hb hu1 hm1 ho1 hc1 Hask hL0 hL1 hLs
  go_upto_region 4 with fail
  refine wp_region_ext (w0 := w2) (by kernel_rfl) (by kernel_rfl) (later_refl _) ?_; (repeat (first | go_big_quiet_step (((first | (go_at_call 26; exact calls_ext (by simp) (are_true _ (by first | exact hu2.later (by (repeat (first | assumption | exact Ext.h _ | refine later_drew ?_ | refine later_alloc ?_ _ | refine later_set ?_ _ (Nat.le_add_right _ _) _ | refine later_set ?_ _ (Nat.le_refl _) _)); done) | exact hm2.later (by (repeat (first | assumption | exact Ext.h _ | refine later_drew ?_ | refine later_alloc ?_ _ | refine later_set ?_ _ (Nat.le_add_right _ _) _ | refine later_set ?_ _ (Nat.le_refl _) _)); done)) (by first | exact hrf.later (by (repeat (first | assumption | exact Ext.h _ | refine later_drew ?_ | refine later_alloc ?_ _ | refine later_set ?_ _ (Nat.le_add_right _ _) _ | refine later_set ?_ _ (Nat.le_refl _) _)); done) | exact (hc2.later (by (repeat (first | assumption | exact Ext.h _ | refine later_drew ?_ | refine later_alloc ?_ _ | refine later_set ?_ _ (Nat.le_add_right _ _) _ | refine later_set ?_ _ (Nat.le_refl _) _)); done)).q) (by assumption) (by first | exact Ha1.out | exact Ha2.out))) | (go_at_call 27; exact calls_ext (by simp) (order_one _ (hc2.later (by (repeat (first | assumption | exact Ext.h _ | refine later_drew ?_ | refine later_alloc ?_ _ | refine later_set ?_ _ (Nat.le_add_right _ _) _ | refine later_set ?_ _ (Nat.le_refl _) _)); done)) (ho2.later (by (repeat (first | assumption | exact Ext.h _ | refine later_drew ?_ | refine later_alloc ?_ _ | refine later_set ?_ _ (Nat.le_add_right _ _) _ | refine later_set ?_ _ (Nat.le_refl _) _)); done)) hq hnq))))) | quiet_step (((first | (go_at_call 26; exact calls_ext (by simp) (are_true _ (by first | exact hu2.later (by (repeat (first | assumption | exact Ext.h _ | refine later_drew ?_ | refine later_alloc ?_ _ | refine later_set ?_ _ (Nat.le_add_right _ _) _ | refine later_set ?_ _ (Nat.le_refl _) _)); done) | exact hm2.later (by (repeat (first | assumption | exact Ext.h _ | refine later_drew ?_ | refine later_alloc ?_ _ | refine later_set ?_ _ (Nat.le_add_right _ _) _ | refine later_set ?_ _ (Nat.le_refl _) _)); done)) (by first | exact hrf.later (by (repeat (first | assumption | exact Ext.h _ | refine later_drew ?_ | refine later_alloc ?_ _ | refine later_set ?_ _ (Nat.le_add_right _ _) _ | refine later_set ?_ _ (Nat.le_refl _) _)); done) | exact (hc2.later (by (repeat (first | assumption | exact Ext.h _ | refine later_drew ?_ | refine later_alloc ?_ _ | refine later_set ?_ _ (Nat.le_add_right _ _) _ | refine later_set ?_ _ (Nat.le_refl _) _)); done)).q) (by assumption) (by first | exact Ha1.out | exact Ha2.out))) | (go_at_call 27; exact calls_ext (by simp) (order_one _ (hc2.later (by (repeat (first | assumption | exact Ext.h _ | refine later_drew ?_ | refine later_alloc ?_ _ | refine later_set ?_ _ (Nat.le_add_right _ _) _ | refine later_set ?_ _ (Nat.le_refl _) _)); done)) (ho2.later (by (repeat (first | assumption | exact Ext.h _ | refine later_drew ?_ | refine later_alloc ?_ _ | refine later_set ?_ _ (Nat.le_add_right _ _) _ | refine later_set ?_ _ (Nat.le_refl _) _)); done)) hq hnq))))))); refine wpQuiet_nil ?_; rintro w3 ⟨⟨_, hL3⟩, rfl⟩; (try dsimp only)
  have hu3 := hu2.later hL3
  have hm3 := hm2.later hL3
  have ho3 := ho2.later hL3
  have hL03 := Later.trans hL02 hL3
  replace t0 := fun X (h : Later w3 X) => t0 X (Later.trans hL3 h)
  replace t1 := fun X (h : Later w3 X) => t1 X (Later.trans hL3 h)
  replace c9 := fun X (h : Later w3 X) => c9 X (Later.trans hL3 h)
  have hrt3 := hrt.later hL3
  clear b0 b1 b2 b3 b4 b5 b6 b7 b8 c10 hu2 hm2 ho2 hc2 hrt hrf Ha1 Ha2
  go_upto_region 6 with fail
  have hS3 : Later w3 w3.drew := later_drew (later_refl _)
  go_cut [6, 7, 9] (fun (v6 v7 v9 : Value) (W : World) => v9 = .pointer (some ⟨bw, 0, none⟩) ∧ Later w3 W ∧ TwoRows w.heap.size a (q + m0) v6 v7 W)
  case first =>
    go_region_held3 (fun W => Later w3 W) ((((repeat (first | assumption | refine later_drew ?_ | refine later_alloc ?_ _ | refine later_set ?_ _ (Nat.le_add_right _ _) _ | refine later_set ?_ _ (Nat.le_refl _) _)); done)))
      (first
        | (go_at_call 29; go_must (refine (Hdn.out _ (hm3.later hK4) (ho3.later hK4)).mono ?_; rintro e w5 ⟨u, v, rfl, hL5, hrows⟩; have hK5 := Later.trans hK4 hL5))
        | (go_at_call 28; go_must (refine (Hfd.out _ (hu3.later (by (((repeat (first | assumption | refine later_drew ?_ | refine later_alloc ?_ _ | refine later_set ?_ _ (Nat.le_add_right _ _) _ | refine later_set ?_ _ (Nat.le_refl _) _)); done))))).mono ?_; rintro e w4 ⟨rfl, hL4⟩; have hK4 : Later w3 w4 := Later.trans (by (((repeat (first | assumption | refine later_drew ?_ | refine later_alloc ?_ _ | refine later_set ?_ _ (Nat.le_add_right _ _) _ | refine later_set ?_ _ (Nat.le_refl _) _)); done))) hL4)))
    all_goals
      go_wp2_with fail
      go_meet
      case rel => exact ⟨rfl, hK5, hrows.mono (Later.trans hL03 hK4).size⟩
  case rest =>
    obtain ⟨rfl, hK5, ga, ka, gb, kb, rfl, rfl, hgg, h1, h2⟩ := hcut
    obtain ⟨w5, rfl⟩ : ∃ W : World, W = wc := ⟨_, rfl⟩
    have hL05 := Later.trans hL03 hK5
    clear t0 t1 hS3 Hfd Hdn
    have hml := hrt3.len
    have hmm : a < mm := by unfold nats at hml; rw [List.length_map] at hml; omega
    have hmi : (a : Int) < mm := by omega
    obtain ⟨bt, ot, x, rfl, _, hx, hx0⟩ := hrt3.get hmm
    rw [Hnt.out] at hx
    obtain rfl : (tn : Int) = x := by injection hx
    have x1 := h1.cellAt 0 (by omega)
    have f1 := h1.frozenAt 0
    simp only [List.getElem?_cons_zero] at x1
    have hs1 := (h1.stored 0 (.int .i64 (tn : Int))).1
    simp only [List.set_cons_zero] at hs1
    have hs2 := own_block (W' := w5.setCell ⟨ga, 0, none⟩ (.int .i64 (tn : Int))) h2 (fun g hg => Below.heap_setCell _ _ _ g (by injection hg with hg; show g ≠ ga; exact fun e => hgg (e.symm.trans hg.symm)))
    have hlo5 : w.heap.size ≤ ga := (h1.lt ga rfl).1
    have r1 : RI (w5.setCell ⟨ga, 0, none⟩ (.int .i64 (tn : Int))) (some ⟨ga, 0, none⟩) 1 [(tn : Int)] := Reads.of_own hs1
    have r2 : RI (w5.setCell ⟨ga, 0, none⟩ (.int .i64 (tn : Int))) (some ⟨gb, 0, none⟩) 1 [q + m0] := Reads.of_own hs2
    have hL6 := later_set hL05 ⟨ga, 0, none⟩ hlo5 (.int .i64 (tn : Int))
    have xt := hx0 w5 hK5
    have x9 := c9 w5 hK5
    have R1 := hide r1
    have R2 := hide r2
    clear hml hrt3 hx hx0 hs1 hs2 h1 h2 r1 r2 c9 Hnt
    go_upto_region 8 with fail
    go_loopw [54] (fun i wr => (i = .int .i64 0 ∧ w5 = wr) ∨ (i = .int .i64 1 ∧ Later w wr ∧ Hid (RI wr (some ⟨ga, 0, none⟩) 1 [(tn : Int)]) ∧ Hid (RI wr (some ⟨gb, 0, none⟩) 1 [q + m0]))) (fun i _ => 1 - (intOf i).toNat)
    case atStart => exact .inl ⟨rfl, rfl⟩
    case round =>
      rcases hrel with ⟨rfl, rfl⟩ | ⟨rfl, hL, k1, k2⟩
      · go_wp2_with fail
        go_roundw
        case rel => exact .inr ⟨rfl, hL6, R1, R2⟩
        case measure => simp [intOf]
      · clear R1 R2 hL6 x1 f1 xt x9
        go_wp2_with fail
        refine bodyPost_ret (v := .tuple #[.slice (some ⟨ga, 0, none⟩) 1 ka, .slice (some ⟨gb, 0, none⟩) 1 kb, .int .i64 0]) ?_ rfl ⟨_, _, _, _, rfl, hL, k1.out, k2.out⟩
        simp [results, Try.results12, go_sem]
end Go.Proofs.Ytcffgjhmpgdfpaa

/- Rows of blocks of one type: a store changes one of them. -/
namespace Go.Proofs.Ytcffgjhmpgdfpaa
open Go Go.RowKit
theorem Blk.apart {w : World} {g g' : Nat} {t t' : TypeId} {cs cs' : Array Value} (h : Blk w g t cs) (h' : Blk w g' t' cs') (ht : t ≠ t') : g ≠ g' := fun e => by
  subst e
  unfold Blk at h h'
  rw [h] at h'
  injection h' with h'
  injection h' with _ h'
  exact ht h'
/-- blocks of one type, the elder ones first -/
structure Rows (W : World) (t : TypeId) (l : List (Nat × Array Value)) : Prop where
  inc : l.Pairwise fun x y => x.1 < y.1
  blk : ∀ x ∈ l, Blk W x.1 t x.2
section
variable {W X : World} {t t' : TypeId} {l : List (Nat × Array Value)} {b : Nat} {cs : Array Value}
theorem Rows.nil (W : World) (t : TypeId) : Rows W t [] := ⟨List.Pairwise.nil, fun x hx => by cases hx⟩
theorem Rows.get (h : Rows W t l) (j : Nat) (hj : l[j]? = some (b, cs)) : Blk W b t cs := h.blk _ (List.mem_of_getElem? hj)
theorem Rows.later (h : Rows W t l) (k : Later W X) : Rows X t l := ⟨h.inc, fun x hx => (h.blk x hx).later k⟩
theorem Rows.grow (h : Rows W t l) (k : Later W X) (hb : Blk X b t cs) (hlo : W.heap.size ≤ b) : Rows X t (l ++ [(b, cs)]) :=
  ⟨List.pairwise_append.2 ⟨h.inc, List.pairwise_singleton _ _, fun x hx y hy => by
    have := (h.blk x hx).lt
    rw [List.mem_singleton.1 hy]
    exact Nat.lt_of_lt_of_le this hlo⟩, fun x hx => by
    rcases List.mem_append.1 hx with hx | hx
    · exact (h.blk x hx).later k
    · rw [List.mem_singleton.1 hx]; exact hb⟩
theorem Rows.other (h : Rows W t l) (hb : Blk W b t' cs) (ht : t ≠ t') (i : Nat) (u : Value) : Rows (W.setCell ⟨b, i, Option.none⟩ u) t l :=
  ⟨h.inc, fun x hx => Blk.far (p := (⟨b, i, Option.none⟩ : Addr)) (h.blk x hx) ((h.blk x hx).apart hb ht) u⟩
theorem Rows.store (h : Rows W t l) (j : Nat) (hj : l[j]? = some (b, cs)) (i : Nat) (u : Value) : Rows (W.setCell ⟨b, i, Option.none⟩ u) t (l.set j (b, cs.setIfInBounds i u)) := by
  have hjl := (List.getElem?_eq_some_iff.1 hj).1
  have hk := List.pairwise_iff_getElem.1 h.inc
  have hb := h.get j hj
  refine ⟨?_, fun x hx => ?_⟩
  · rw [List.pairwise_iff_getElem]
    intro p q hp hq hpq
    have hp' : p < l.length := by simpa using hp
    have hq' : q < l.length := by simpa using hq
    have key : ∀ (m : Nat) (hm : m < (l.set j (b, cs.setIfInBounds i u)).length), ((l.set j (b, cs.setIfInBounds i u))[m]).1 = (l[m]'(by simpa using hm)).1 := fun m hm => by
      rw [List.getElem_set]
      split
      · rename_i e
        subst e
        have := (List.getElem?_eq_some_iff.1 hj).2
        rw [this]
      · rfl
    rw [key p hp, key q hq]
    exact hk p q hp' hq' hpq
  · obtain ⟨m, hm, rfl⟩ := List.mem_iff_getElem.1 hx
    rw [List.getElem_set]
    have hm' : m < l.length := by simpa using hm
    split
    · exact hb.set_ i u
    · rename_i hne
      have hx := h.get m (List.getElem?_eq_getElem hm')
      refine Blk.far (p := (⟨b, i, Option.none⟩ : Addr)) hx ?_ u
      have he := (List.getElem?_eq_some_iff.1 hj).2
      rcases Nat.lt_or_gt_of_ne hne with hlt | hlt
      · have := hk j m hjl hm' hlt
        rw [he] at this
        exact fun e => by have e' : (l[m]'hm').1 = b := e; rw [e'] at this; exact Nat.lt_irrefl _ this
      · have := hk m j hm' hjl hlt
        rw [he] at this
        exact fun e => by have e' : (l[m]'hm').1 = b := e; rw [e'] at this; exact Nat.lt_irrefl _ this
end
end Go.Proofs.Ytcffgjhmpgdfpaa

/- A function's text from one of its regions on: what stands there, and what follows. -/
namespace Go.Proofs.Ytcffgjhmpgdfpaa
open Go
def startsC (n : Nat) : Code → Bool
  | .region m _ _ => m == n
  | .seq a _ => startsC n a
  | _ => false
def splitC (n : Nat) : Code → Option (Code × Code)
  | .seq a b => if startsC n a then some (a, b) else splitC n b
  | _ => none
def headC (n : Nat) (f : Func) : Code := match f.body with
  | some c => match splitC n c with
    | some p => p.1
    | none => .skip
  | none => .skip
def restC (n : Nat) (f : Func) : Code := match f.body with
  | some c => match splitC n c with
    | some p => p.2
    | none => .skip
  | none => .skip
end Go.Proofs.Ytcffgjhmpgdfpaa

/- Plain: what holds of the house with the ticket of the first woman. -/
namespace Go.Proofs.Ytcffgjhmpgdfpaa
/-- what is to be shown of the house with the ticket -/
def WashFacts (Y : Hou) (n : Nat) (T hv D : Int) : Prop :=
  askedErr Y 0 = 0 ∧ (hoursOut Y).length = n + 1 ∧ (hoursOut Y)[n]? = some (hv, hv) ∧ askedErr Y (freeDue Y T) = 0 ∧ freeOut Y T = (D, D) ∧ ∀ j : Nat, j < n → askedErr Y (clashDue Y j n) = 0 ∧ clashOut Y j n = 2
def hoursV (h : Hou) (L : Int) : Int := (max 0 (L - h.grace) + h.hour - 1) / h.hour
theorem lows_setF {f : Flo} {t : List Int} (ok : OkF f) (ht : t ∈ truths f.house) : lows (givenR (setF f t)) = (givenT f).map fun (n : Nat) => max f.opn (fromR f.house t n) := by
  rw [setF_lows ok ht]; unfold lows; rw [List.map_map]; rfl
theorem wash_plain {f : Flo} {t : List Int} (ok : OkF f) (ht : t ∈ truths f.house) (hg : givenT f ≠ []) (hM : ∀ i, i < f.house.clips.length → trueM f.house t i ≤ f.opn) {M L tk : Int} {k tn : Nat} (hMe : minL (lows (givenR (setF f t))) = M)
    (htn : (givenT f).getD (argMin (lows (givenR (setF f t)))) 0 = tn) (hL : 0 ≤ L) (htk : t.getD k 0 = tk) (hy : fault (washH f.house t tn k (M + tk) (M + L + tk)) = 0) :
    WashFacts (washH f.house t tn k (M + tk) (M + L + tk)) f.house.tickets.length tn (hoursV f.house L) (M + L) := by
  have hl := lows_setF ok ht
  have hne : lows (givenR (setF f t)) ≠ [] := fun e => hg (by rw [e] at hl; exact List.map_eq_nil_iff.1 hl.symm)
  have hlt := argMin_lt hne
  have hgt := argMin_get hne
  rw [hMe] at hgt
  generalize argMin (lows (givenR (setF f t))) = a at *
  rw [hl] at hlt hgt
  rw [List.length_map] at hlt
  rw [List.getElem?_map, List.getElem?_eq_getElem hlt, Option.map_some] at hgt
  have e1 : (givenT f)[a] = tn := by rw [← htn, List.getD_eq_getElem?_getD, List.getElem?_eq_getElem hlt]; rfl
  rw [e1] at hgt
  have e2 : max f.opn (fromR f.house t (tn : Int)) = M := by injection hgt
  have hmem : tn ∈ givenT f := by rw [← e1]; exact List.getElem_mem hlt
  obtain ⟨h1, h2⟩ := givenT_lt hmem
  have := ok.tubs
  exact wash_law (h := f.house) (t := t) (tub := (tn : Int)) (M := M) (L := L) (tk := tk) (k := k) ok.house ht (fun i hi => by have := hM i hi; omega) (by omega) h2 (by omega) hL htk hy
theorem askF_setF {f : Flo} {t : List Int} (ok : OkF f) (ht : t ∈ truths f.house) : askF (setF f t) = if givenT f = [] then 8 else 0 := by
  unfold askF
  rw [if_neg (by rw [faultF_zero.2 (setF_ok ok ht)]; simp)]
  rfl
theorem areErrors_lows (l : List (Int × Int)) (h : ∀ r ∈ l, r.1 ≤ r.2) : areErrors l (lows l) = true := by
  rw [areErrors_iff]
  refine ⟨by unfold lows; simp, fun i r x hr hx => ?_⟩
  unfold lows at hx
  rw [List.getElem?_map, hr] at hx
  injection hx with hx
  have := h r (List.mem_of_getElem? hr)
  dsimp only at hx
  omega
end Go.Proofs.Ytcffgjhmpgdfpaa
