/- ClosetEnds: the plain law and the walk. -/
import Derived.Test.YtjilckjhdlabaaaPart13
import Derived.Test.YtjilckjhdlabaaaPart9
set_option linter.unusedSimpArgs false
set_option linter.unusedVariables false
namespace Go.Proofs.Ytjilckjhdlabaaa
open Go Go.RowKit
attribute [local go_sem] later_alloc2 later_alloc3 later_alloc4

theorem ends_law {c : Clo} (h : askedErr c true = 0) (p : List Int) (k : Nat) :
    (∃ d ∈ truths c, minuteR c p d k = (boundP c p k).1) ∧ (∃ d ∈ truths c, minuteR c p d k = (boundP c p k).2) := by
  obtain ⟨hf, _, hne⟩ := askedErr_zero h
  obtain ⟨_, ⟨d1, h1, e1⟩, ⟨d2, h2, e2⟩⟩ := bP_spec (fun d => minuteR c p d k) hne
  exact ⟨⟨d1, ((truthsP_perm hf).mem_iff).1 h1, e1⟩, ⟨d2, ((truthsP_perm hf).mem_iff).1 h2, e2⟩⟩
def hitTo (f : List Int → Int) (x : Int) (l : List (List Int)) (j : Nat) : Bool := (l.take j).any fun d => f d == x
theorem hitTo_succ {f : List Int → Int} {x : Int} {l : List (List Int)} {j : Nat} {d : List Int} (h : l[j]? = some d) : hitTo f x l (j + 1) = (hitTo f x l j || (f d == x)) := by
  unfold hitTo
  rw [List.take_add_one, h]
  simp
theorem hitTo_all {f : List Int → Int} {x : Int} {l : List (List Int)} {j : Nat} (hj : l.length ≤ j) (h : ∃ d ∈ l, f d = x) : hitTo f x l j = true := by
  unfold hitTo
  rw [List.take_of_length_le hj, List.any_eq_true]
  obtain ⟨d, hd, e⟩ := h
  exact ⟨d, hd, by simpa using e⟩

set_option maxRecDepth 100000 in
set_option maxHeartbeats 8000000 in
theorem lawEnds_calls {A1 A2 A3 : Option Addr} {n1 k1 n2 k2 n3 k3 : Nat} {c : Clo} {Aw : Option Addr} {nw kw : Nat} {l : List Nat} {x : Nat} (w : World) (hc : CV w c A1 n1 A2 n2 A3 n3) (hcl : i64 c.closets) (b1 : n1 ≤ 9223372036854775807) (b2 : n2 ≤ 9223372036854775807) (b3 : n3 ≤ 9223372036854775807)
    (hw : RW w Aw nw l) (hnw : nw ≤ 9223372036854775807) (hx : x < 256) :
    Calls Try.prog 16 #[(.agg #[.int .i64 c.closets, .int .i64 c.close, .slice A1 n1 k1, .slice A2 n2 k2, .slice A3 n3 k3]), .slice Aw nw kw, .int .u8 x] w fun e w' => e = .returned (.bool true) ∧ Later w w' := by
  obtain ⟨w0, hw0⟩ : ∃ W, W = (w.alloc (.cells #[.int .i64 c.closets, .int .i64 c.close, .slice A1 n1 k1, .slice A2 n2 k2, .slice A3 n3 k3] 26)) := ⟨_, rfl⟩; have hbox : ∀ W, Later w0 W → ∀ i, W.cell? ⟨w.heap.size, i, none⟩ = #[.int .i64 c.closets, .int .i64 c.close, .slice A1 n1 k1, .slice A2 n2 k2, .slice A3 n3 k3][i]? := (by rw [hw0]; exact box_cells w #[.int .i64 c.closets, .int .i64 c.close, .slice A1 n1 k1, .slice A2 n2 k2, .slice A3 n3 k3] 26); have hL0 : Later w w0 := (by rw [hw0]; simp); have hc0 := hc.later hL0; have Hw0 := hide hw0; clear hw0
  have hw0' := hw.later hL0
  have hrdy := ready_calls (k1 := k1) (k2 := k2) (k3 := k3) w0 hc0 hcl b1 b2 b3
  cases hth : readyB c with
  | false =>
    rw [hth] at hrdy
    have Hrdy := hide hrdy
    clear hth hrdy
    go_enter Try.func16, Try.ntmps16
    go_wp2_with fail
    rw [← Hw0.out]; clear Hw0
    refine Hrdy.out.mono ?_
    rintro e w1 ⟨rfl, hL1⟩
    go_wp2_with fail
    refine (awake_calls _).mono ?_
    rintro e w2 ⟨rfl, hL2⟩
    go_wp2_with fail
    go_ret
    exact ⟨rfl, Later.trans hL0 (Later.trans hL1 hL2)⟩
  | true =>
    rw [hth] at hrdy
    have hn1 := hc.hs.len
    have hn2 := hc.hu.len
    have hn3 := hc.lk.len
    have hf := (readyB_true hth).2
    have ok := okC_of_fault hf
    have l1 : n1 ≤ 4 := by have := ok.len; omega
    have l2 : n2 ≤ 4 := by have := ok.len; have := ok.hung.len; omega
    have l3 : n3 ≤ 5 := by have := ok.nlooks; omega
    have Hn1 := hide hn1
    have Hn2 := hide hn2
    have Hn3 := hide hn3
    have Hf := hide hf
    have Hrdy := hide hrdy
    clear hth hrdy hn1 hn2 hn3 hf
    by_cases hn0 : n1 = 0
    · have hz : ((n1 : Int) == 0) = true := by simp [hn0]
      clear hn0
      go_enter Try.func16, Try.ntmps16
      go_wp2_with fail
      rw [← Hw0.out]; clear Hw0
      refine Hrdy.out.mono ?_
      rintro e w1 ⟨rfl, hL1⟩
      go_wp2_with fail
      refine (awake_calls _).mono ?_
      rintro e wa ⟨rfl, hLa⟩
      go_wp2_with fail
      go_ret
      exact ⟨rfl, Later.trans hL0 (Later.trans hL1 hLa)⟩
    · have hz : ((n1 : Int) == 0) = false := by simp; omega
      have hz1 : ¬ (n1 : Int) = 0 := by omega
      obtain ⟨k, hk⟩ : ∃ k, x % n1 = k := ⟨_, rfl⟩
      have hkn : k < n1 := by rw [← hk]; exact Nat.mod_lt _ (by omega)
      have hz2 : (x : Int).tmod (n1 : Int) = (k : Int) := by rw [← hk, Int.tmod_eq_emod_of_nonneg (by omega)]; norm_cast
      have hz3 : IntKind.i64.wrap (k : Int) = (k : Int) := IntWalk.i64_in _ (by omega)
      have hz4 : (x : Int) % (n1 : Int) = (k : Int) := by rw [← hk]; norm_cast
      have hz5 : ¬ n1 = 0 := hn0
      have hz6 : IntKind.i64.wrap (x : Int) = (x : Int) := IntWalk.i64_in _ (by omega)
      have hmr := (fault_zero Hf.out).2.2.2.2.2.2
      have hkc : (k : Int) < c.horses.length := by have := Hn1.out; omega
      have Hmr := hide hmr
      have Hkc := hide hkc
      clear hn0 hk hmr hkc
      go_enter Try.func16, Try.ntmps16
      go_wp2_with fail
      rw [← Hw0.out]; clear Hw0
      refine Hrdy.out.mono ?_
      rintro e w1 ⟨rfl, hL1⟩
      have hS1 : Later w0 w1.drew := later_drew hL1
      go_wp2_with fail
      go_region_held3 (fun W => Later w0 W) ((((repeat (first | assumption | refine later_drew ?_ | refine later_alloc ?_ _ | refine later_set ?_ _ (Nat.le_add_right _ _) _ | refine later_set ?_ _ (Nat.le_refl _) _)); done)))
        (first | (go_at_call 42; go_must (refine (Placed_calls (k1 := k1) (k2 := k2) (k3 := k3) (kw := kw) _ (hc0.later hS1) ok (hw0'.later hS1) hnw).mono ?_; rintro e w2 ⟨Ap, kp, p, rfl, hL2, hrp, hkp, hpl⟩; have hL02 := Later.trans hS1 hL2)))
      clear hz2 hz3 hz4 hz5 hz6
      rw [← Hn1.out] at hrp hkp ⊢
      go_wp2_with fail
      refine (lawCloset_calls (k1 := k1) (k2 := k2) (k3 := k3) w2 (hc0.later hL02) (by omega) (by omega) (by omega)).mono ?_
      rintro e wa ⟨B1a, j1a, B2a, j2a, B3a, j3a, rfl, hMa, hca, hj1a, hj2a, hj3a⟩
      have hLa := Later.trans hL02 hMa
      go_wp2_with fail
      refine (list_calls _ (hrp.later hMa) (by omega)).mono ?_
      rintro e w4 ⟨Aq, nq, kq, rfl, hM4, hrq, hkq, _⟩
      have hnq := hrq.len
      rw [← hrp.len] at hnq
      subst nq
      have hL4 := Later.trans hLa hM4
      have hbp : isPlaceB c p = true := (isPlaceB_iff ok.cl1 ok.cl4 p).2 hpl
      have hbc := BoundsP_calls (k1 := j1a) (k2 := j2a) (k3 := j3a) (kp := kq) w4 (hca.later hM4) hcl (by omega) (by omega) (by omega) hj2a hrq hkq (by omega)
      unfold BoundsPost at hbc
      rw [hbp] at hbc
      have htc := fun (W : World) (h : Later w0 W) => Truths_calls (k1 := k1) (k2 := k2) (k3 := k3) W (hc0.later h) ok Hmr.out
      have hbo : askedErr c true = 0 → boundsOut c p = boundsTo2 c p n1 := fun h => by unfold boundsOut; rw [hbp, if_neg (by simp [h]), ← Hn1.out]
      have hrp4 := hrp.later (Later.trans hMa hM4)
      rcases askedErr_ii Hf.out with h0 | ⟨h0, ht0⟩
      · have hlaw := ends_law h0 p k
        have hdry := truths_isDry ok.toOkH
        have hne : truths c ≠ [] := fun e => (askedErr_zero h0).2.2 ((truths_nil Hf.out).1 e)
        have htl : (truths c).length ≤ 2000 := by rw [← (truthsP_perm Hf.out).length_eq]; exact truthsP_len Hf.out
        rw [hbo h0, h0] at hbc
        have Hlaw := hide hlaw
        have Hdry := hide hdry
        have Hne := hide hne
        have Htl := hide htl
        have Hbc := hide hbc
        have Htc := hide htc
        clear hlaw hdry hne htl hbc htc hbo hbp h0 hca hrq
        go_wp2_with fail
        refine (Hbc.out).mono ?_
        rintro e w5 ⟨Ab, nb, kb, rfl, hM5, hrb⟩
        have hL5 := Later.trans hL4 hM5
        have hnb := hrb.len
        simp only [boundsTo2, List.length_map, List.length_range] at hnb
        subst nb
        go_wp2_with fail
        refine (Htc.out w5 hL5).mono ?_
        rintro e w6 ⟨At, nt, kt, rfl, hM6, hrt⟩
        have hL6 := Later.trans hL5 hM6
        have hnt := hrt.len
        have hnt0 : nt ≠ 0 := fun e => Hne.out (List.eq_nil_of_length_eq_zero (by omega))
        have hnt1 : ((nt : Int) == 0) = false := by simp; omega
        have hnt2 : nt ≤ 2000 := by have := Htl.out; omega
        have hnn : ((n1 : Int) != (n1 : Int)) = false := by simp
        have hrb6 := hrb.later hM6
        have hrp6 := hrp4.later (Later.trans hM5 hM6)
        obtain ⟨bb, ob, g, rfl, _, hg, hg0, hg1⟩ := hrb6.get hkn
        have hgk : g = boundP c p k := by
          unfold boundsTo2 at hg
          rw [List.getElem?_map, List.getElem?_range hkn] at hg
          injection hg with hg
          exact hg.symm
        rw [← hgk] at Hlaw
        obtain ⟨g1, g2⟩ := g
        dsimp only at hg0 hg1
        have Hnt := hide hnt
        clear hnt hnt0 hg hgk hrb
        go_wp2_with fail
        go_loopw [12, 13, 14] (fun u v i wr => ∃ j : Nat, j ≤ nt ∧ i = .int .i64 j ∧ u = .bool (hitTo (fun d => minuteR c p d k) g1 (truths c) j) ∧ v = .bool (hitTo (fun d => minuteR c p d k) g2 (truths c) j) ∧ Later w6 wr) (fun _ _ i _ => nt - (intOf i).toNat)
        case atStart => exact ⟨0, Nat.zero_le _, rfl, rfl, rfl, later_refl _⟩
        case round =>
          obtain ⟨j, hj, rfl, rfl, rfl, hL⟩ := hrel
          have hL0r := Later.trans hL6 hL
          by_cases hlt : j < nt
          · have hi1 : (j : Int) < nt := by omega
            obtain ⟨bt, ot, d, Ad, nd, kd, rfl, hd, hrd, hcx⟩ := hrt.get hlt
            have hdr := Hdry.out d (List.mem_of_getElem? hd)
            have hs1 := hitTo_succ (f := fun d => minuteR c p d k) (x := g1) hd
            have hs2 := hitTo_succ (f := fun d => minuteR c p d k) (x := g2) hd
            have hmc := fun (W : World) (h : Later w6 W) => Minute_calls (k1 := k1) (k2 := k2) (k3 := k3) (kp := kp) (kd := kd) (h := (k : Int)) W (hc0.later (Later.trans hL6 h)) (hrp6.later h) (hrd.later h) ok.toOkH hpl.len hdr.len (by omega) Hkc.out (hpl.bound ok.toOkH) (hdr.bound ok.toOkH)
            simp only [Int.toNat_natCast] at hmc
            obtain ⟨z, hz⟩ : ∃ z, minuteR c p d k = z := ⟨_, rfl⟩
            rw [hz] at hmc hs1 hs2
            generalize hitTo (fun d => minuteR c p d k) g1 (truths c) j = q1 at *
            generalize hitTo (fun d => minuteR c p d k) g2 (truths c) j = q2 at *
            have Hmc := hide hmc
            have Hs1 := hide hs1
            have Hs2 := hide hs2
            have hT : ∀ e : Ext wr, Later w6 e.W := fun e => Later.trans hL e.h
            have hbx := fun W (hW : Later wr W) => hbox W (Later.trans hL0r hW)
            have hcx' := fun W (hW : Later wr W) => hcx W (Later.trans hL hW)
            have hg0' := fun W (hW : Later wr W) => hg0 W (Later.trans hL hW)
            have hg1' := fun W (hW : Later wr W) => hg1 W (Later.trans hL hW)
            have hk1 : (k : Int) < n1 := by omega
            clear hmc hd hdr hrd hs1 hs2 hz hbox hcx hg0 hg1
            cases q1 <;> cases q2
            all_goals
              go_wp2_with fail
              refine wp_region_ext (w0 := wr) (by kernel_rfl) (by kernel_rfl) (later_refl _) ?_; (repeat (first | go_big_quiet_step (((go_at_call 55; exact calls_ext (by simp) (Hmc.out _ (hT _))))) | quiet_step (((go_at_call 55; exact calls_ext (by simp) (Hmc.out _ (hT _))))))); refine wpQuiet_nil ?_; rintro w9 ⟨⟨_, hM9⟩, rfl⟩; (try dsimp only)
              have hg0'' := fun W (hW : Later w9 W) => hg0' W (Later.trans hM9 hW)
              have hg1'' := fun W (hW : Later w9 W) => hg1' W (Later.trans hM9 hW)
              go_wp2_with fail
              refine wp_region_ext (w0 := w9) (by kernel_rfl) (by kernel_rfl) (later_refl _) ?_; (repeat (first | go_big_quiet_step (((fail))) | quiet_step (((fail))))); refine wpQuiet_nil ?_; rintro w10 ⟨⟨_, hM10⟩, rfl⟩; (try dsimp only)
              go_wp2_with fail
              go_roundw
              case rel => exact ⟨j + 1, hlt, by go_num, by rw [Hs1.out]; first | rfl | simp, by rw [Hs2.out]; first | rfl | simp, Later.trans hL (Later.trans hM9 hM10)⟩
              case measure => simp [intOf]; omega
          · have hi1 : ¬ (j : Int) < nt := by omega
            have hr1 := hitTo_all (f := fun d => minuteR c p d k) (x := g1) (l := truths c) (j := j) (by have := Hnt.out; omega) Hlaw.out.1
            have hr2 := hitTo_all (f := fun d => minuteR c p d k) (x := g2) (l := truths c) (j := j) (by have := Hnt.out; omega) Hlaw.out.2
            rw [hr1, hr2]
            clear hlt hr1 hr2
            go_wp2_with fail
            refine (awake_calls _).mono ?_
            rintro e wa ⟨rfl, hLa⟩
            go_wp2_with fail
            go_ret
            exact ⟨rfl, Later.trans hL0 (Later.trans hL0r hLa)⟩
      · rw [h0] at hbc
        have htr := (truths_nil Hf.out).2 ht0
        have Hbc := hide hbc
        have Htc := hide htc
        have Htr := hide htr
        clear hbc htc htr h0 ht0 hbo hbp hca hrq
        go_wp2_with fail
        refine (Hbc.out).mono ?_
        rintro e w5 ⟨Ab, nb, kb, rfl, hM5, hrb⟩
        have hL5 := Later.trans hL4 hM5
        go_wp2_with fail
        refine (Htc.out w5 hL5).mono ?_
        rintro e w6 ⟨At, nt, kt, rfl, hM6, hrt⟩
        have hL6 := Later.trans hL5 hM6
        have hnt := hrt.len
        rw [Htr.out] at hnt
        simp only [List.length_nil] at hnt
        subst nt
        clear hrt hrb
        go_wp2_with fail
        refine (awake_calls _).mono ?_
        rintro e wa ⟨rfl, hLa⟩
        go_wp2_with fail
        go_ret
        exact ⟨rfl, Later.trans hL0 (Later.trans hL6 hLa)⟩
end Go.Proofs.Ytjilckjhdlabaaa
