/- ClosetRoom: the walk. -/
import Derived.Test.YtjilckjhdlabaaaPart22
import Derived.Test.YtjilckjhdlabaaaPart19
import Derived.Test.YtjilckjhdlabaaaPart11
set_option linter.unusedSimpArgs false
set_option linter.unusedVariables false
namespace Go.Proofs.Ytjilckjhdlabaaa
open Go Go.RowKit
attribute [local go_sem] later_alloc2 later_alloc3 later_alloc4

theorem RH.take {w : World} {A : Option Addr} {n : Nat} {l : List Horse} (h : RH w A n l) (i : Nat) (hi : i ≤ n) : RH w A i (l.take i) := by
  have hn := h.len
  refine ⟨by rw [horsesV_length, List.length_take]; omega, fun h0 => ?_⟩
  obtain ⟨ad, e, hb, hc⟩ := h.2 (by omega)
  refine ⟨ad, e, hb, fun j u hu => hc j u ?_⟩
  have : horsesV l = horsesV (l.take i) ++ horsesV (l.drop i) := by unfold horsesV; rw [← List.flatMap_append, List.take_append_drop]
  rw [this, List.getElem?_append_left (List.getElem?_eq_some_iff.1 hu).1]; exact hu
set_option maxRecDepth 100000 in
set_option maxHeartbeats 16000000 in
theorem lawRoom_calls {A1 A2 A3 : Option Addr} {n1 k1 n2 k2 n3 k3 : Nat} {c : Clo} (w : World) (hc : CV w c A1 n1 A2 n2 A3 n3) (hcl : i64 c.closets) (b1 : n1 ≤ 9223372036854775807) (b2 : n2 ≤ 9223372036854775807) (b3 : n3 ≤ 9223372036854775807)
    (kc1 : n1 ≤ k1) (kc2 : n2 ≤ k2) (kc3 : n3 ≤ k3) :
    Calls Try.prog 11 #[(.agg #[.int .i64 c.closets, .int .i64 c.close, .slice A1 n1 k1, .slice A2 n2 k2, .slice A3 n3 k3])] w fun e w' => e = .returned (.bool true) ∧ Later w w' := by
  obtain ⟨w0, hw0⟩ : ∃ W, W = (w.alloc (.cells #[.int .i64 c.closets, .int .i64 c.close, .slice A1 n1 k1, .slice A2 n2 k2, .slice A3 n3 k3] 26)) := ⟨_, rfl⟩; have hbox : ∀ W, Later w0 W → ∀ i, W.cell? ⟨w.heap.size, i, none⟩ = #[.int .i64 c.closets, .int .i64 c.close, .slice A1 n1 k1, .slice A2 n2 k2, .slice A3 n3 k3][i]? := (by rw [hw0]; exact box_cells w #[.int .i64 c.closets, .int .i64 c.close, .slice A1 n1 k1, .slice A2 n2 k2, .slice A3 n3 k3] 26); have hL0 : Later w w0 := (by rw [hw0]; simp); have hc0 := hc.later hL0; have Hw0 := hide hw0; clear hw0
  have hrdy := ready_calls (k1 := k1) (k2 := k2) (k3 := k3) w0 hc0 hcl b1 b2 b3
  cases hth : readyB c with
  | false =>
    rw [hth] at hrdy
    have Hrdy := hide hrdy
    clear hth hrdy
    go_enter Try.func11, Try.ntmps11
    go_wp2_with fail
    rw [← Hw0.out]; clear Hw0
    refine Hrdy.out.mono ?_
    rintro e w1 ⟨rfl, hL1⟩
    go_wp2_with fail
    refine (awake_calls _).mono ?_
    rintro e w2 ⟨rfl, hL2⟩
    go_wp2_with fail
    go_ret
    exact ⟨rfl, Later.trans hL0 (Later.trans hL1 hL2)⟩
  | true =>
    rw [hth] at hrdy
    have hn1 := hc.hs.len
    have hn2 := hc.hu.len
    have hn3 := hc.lk.len
    have hf := (readyB_true hth).2
    have ok := okC_of_fault hf
    have l1 : n1 ≤ 4 := by have := ok.len; omega
    have l2 : n2 ≤ 4 := by have := ok.len; have := ok.hung.len; omega
    have l3 : n3 ≤ 5 := by have := ok.nlooks; omega
    have Hn1 := hide hn1
    have Hn2 := hide hn2
    have Hn3 := hide hn3
    have Hf := hide hf
    have Hrdy := hide hrdy
    clear hth hrdy hn1 hn2 hn3 hf
    have hmr := (fault_zero Hf.out).2.2.2.2.2.2
    have Hmr := hide hmr
    have htc := fun (W : World) (h : Later w0 W) => Truths_calls (k1 := k1) (k2 := k2) (k3 := k3) W (hc0.later h) ok Hmr.out
    have Htc := hide htc
    clear hmr htc
    go_enter Try.func11, Try.ntmps11
    go_wp2_with fail
    rw [← Hw0.out]; clear Hw0
    refine Hrdy.out.mono ?_
    rintro e w1 ⟨rfl, hL1⟩
    go_wp2_with fail
    refine (Htc.out w1 hL1).mono ?_
    rintro e w3 ⟨At, nt, kt, rfl, hM3, hrt⟩
    have hL3 := Later.trans hL1 hM3
    have hnt := hrt.len
    by_cases hne : truthsP c = []
    · have htr := (truths_nil Hf.out).2 hne
      rw [htr] at hnt
      simp only [List.length_nil] at hnt
      subst nt
      have hbo : (bestOut c).2.2 = 11 := by
        have e : askedErr c true = 11 := by unfold askedErr; rw [if_neg (by simp [Hf.out]), if_neg (by simp), if_pos hne]
        unfold bestOut; rw [if_pos (by rw [e]; decide), e]
      have hbp := fun (B1 B2 B3 : Option Addr) (j1 j2 j3 : Nat) (W : World) (h : CV W c B1 n1 B2 n2 B3 n3) (h2 : n2 ≤ j2) =>
        BestP_calls (k1 := j1) (k2 := j2) (k3 := j3) W h hcl (by omega) (by omega) (by omega) h2
      unfold BestPost at hbp
      rw [hbo] at hbp
      have Hbp := hide hbp
      clear hbp hbo htr hne hrt
      go_wp2_with fail
      refine (lawCloset_calls (k1 := k1) (k2 := k2) (k3 := k3) w3 (hc0.later hL3) (by omega) (by omega) (by omega)).mono ?_
      rintro e wa ⟨B1a, j1a, B2a, j2a, B3a, j3a, rfl, hMa, hca, hj1a, hj2a, hj3a⟩
      have hLa := Later.trans hL3 hMa
      go_wp2_with fail
      refine (Hbp.out _ _ _ _ _ _ wa hca hj2a).mono ?_
      rintro e w6 ⟨Ax, nx, kx, rfl, hM6, _⟩
      have hL6 := Later.trans hLa hM6
      go_wp2_with fail
      refine (awake_calls _).mono ?_
      rintro e wa ⟨rfl, hLa⟩
      go_wp2_with fail
      go_ret
      exact ⟨rfl, Later.trans hL0 (Later.trans hL6 hLa)⟩
    · have htr : truths c ≠ [] := fun e => hne ((truths_nil Hf.out).1 e)
      have hn0 : nt ≠ 0 := fun e => htr (List.eq_nil_of_length_eq_zero (by omega))
      have hnb : ((nt : Int) == 0) = false := by simp; omega
      have law1 := room_law Hf.out hne
      have hfx := roomC_fault Hf.out
      have Law1 := hide law1
      clear law1 hn0 hnt hrt htr hne
      go_upto_region 7 with fail
      obtain ⟨w5, hw5⟩ : ∃ W, W = w3.alloc (.cells #[.int .i64 c.closets, .int .i64 c.close, .slice A1 n1 k1, .slice A2 n2 k2, .slice A3 n3 k3] 26) := ⟨_, rfl⟩
      obtain ⟨g5, hg5⟩ : ∃ g, g = w3.heap.size := ⟨_, rfl⟩
      have hb5 : Blk w5 g5 26 #[.int .i64 c.closets, .int .i64 c.close, .slice A1 n1 k1, .slice A2 n2 k2, .slice A3 n3 k3] := by rw [hw5, hg5]; exact Blk.new _ _ _
      have hM5 : Later w3 w5 := by rw [hw5]; exact later_alloc (later_refl _) _
      have hlo5 : w3.heap.size ≤ g5 := Nat.le_of_eq hg5.symm
      rw [← hw5, ← hg5]
      have hbx5 := fun W (hW : Later w5 W) => hbox W (Later.trans hL3 (Later.trans hM5 hW))
      have hK5 : Later w5 w5 := later_refl _
      have hcl4 := ok.cl4
      have hcl1 := ok.cl1
      have hk0 := hb5.cell 0
      have hkf := hb5.frozen 0
      simp only [List.getElem?_toArray, List.getElem?_cons_zero] at hk0
      clear hw5 hg5
      go_cut [] (fun (W : World) => Later w3 W ∧ Blk W g5 26 #[.int .i64 (roomC c).closets, .int .i64 c.close, .slice A1 n1 k1, .slice A2 n2 k2, .slice A3 n3 k3])
      case first =>
        clear hbox
        by_cases hlt : c.closets + 1 < 4
        · have hm : (roomC c).closets = c.closets + 1 := by show min 4 (c.closets + 1) = _; omega
          have Hm := hide hm
          clear hm
          go_wp2_with fail
          go_meet
          case rel => rw [Hm.out]; exact ⟨later_set hM5 _ hlo5 _, hb5.set_ 0 _⟩
        · have hm : (roomC c).closets = 4 := by show min 4 (c.closets + 1) = _; omega
          have Hm := hide hm
          clear hm
          go_wp2_with fail
          go_meet
          case rel => rw [Hm.out]; exact ⟨later_set hM5 _ hlo5 _, hb5.set_ 0 _⟩
      case rest =>
        obtain ⟨hM6, hb6⟩ := hcut
        obtain ⟨w6, rfl⟩ : ∃ W : World, W = wc := ⟨_, rfl⟩
        clear hK5 hk0 hkf hb5 hbx5 hM5
        have hL6 := Later.trans hL3 hM6
        have hcx : CV w6 (roomC c) A1 n1 A2 n2 A3 n3 := ⟨(hc0.later hL6).hs, (hc0.later hL6).hu, (hc0.later hL6).lk⟩
        have hxl : i64 (roomC c).closets := by have := (okC_of_fault hfx).cl1; have := (okC_of_fault hfx).cl4; unfold i64; omega
        have hsc := sooner_calls (k1 := k1) (k2 := k2) (k3 := k3) (i1 := k1) (i2 := k2) (i3 := k3) w6 (hc0.later hL6) hcl hcx hxl (by omega) (by omega) (by omega) (by omega) (by omega) (by omega) Law1.out
        have Hsc := hide hsc
        have hy0 := hb6.cell 0
        have hy1 := hb6.cell 1
        have hy2 := hb6.cell 2
        have hy3 := hb6.cell 3
        have hy4 := hb6.cell 4
        simp only [List.getElem?_toArray, List.getElem?_cons_zero, List.getElem?_cons_succ] at hy0 hy1 hy2 hy3 hy4
        clear hsc hcx
        go_wp2_with fail
        refine (Hsc.out).mono ?_
        rintro e w7 ⟨rfl, hM7⟩
        have hL7 := Later.trans hL6 hM7
        clear hy0 hy1 hy2 hy3 hy4 Hsc hb6
        by_cases hz0 : n1 = 0
        · have hz : ((n1 : Int) == 0) = true := by simp [hz0]
          clear hz0
          go_wp2_with fail
          refine (awake_calls _).mono ?_
          rintro e wa ⟨rfl, hLa⟩
          go_wp2_with fail
          go_ret
          exact ⟨rfl, Later.trans hL0 (Later.trans hL7 hLa)⟩
        · have hz : ((n1 : Int) == 0) = false := by simp; omega
          have law2 := less_law Hf.out (n := n1 - 1) (by have := Hn1.out; omega)
          have hfz := lessC_fault Hf.out (n := n1 - 1) (by have := Hn1.out; omega)
          have Law2 := hide law2
          have Hz0 := hide hz0
          have hbx7 := fun W (hW : Later w7 W) => hbox W (Later.trans hL7 hW)
          clear law2 hz0 hbox
          go_upto_region 13 with fail
          have hS7 : Later w7 w7.drew := later_drew (later_refl _)
          have hK7 : Later w7 w7 := later_refl _
          go_cut [8, 9] (fun (v8 v9 : Value) (W : World) => ∃ ga gb, v8 = .pointer (some ⟨ga, 0, none⟩) ∧ v9 = .pointer (some ⟨gb, 0, none⟩) ∧ ga ≠ gb ∧ w7.heap.size ≤ ga ∧ w7.heap.size ≤ gb ∧ Later w7 W ∧ Blk W ga 26 #[.int .i64 c.closets, .int .i64 c.close, .slice A1 n1 k1, .slice A2 n2 k2, .slice A3 n3 k3] ∧ Blk W gb 26 #[.int .i64 c.closets, .int .i64 c.close, .slice A1 n1 k1, .slice A2 n2 k2, .slice A3 n3 k3])
          case first =>
            go_region_held3 (fun W => Later w7 W) ((((repeat (first | assumption | refine later_drew ?_ | refine later_alloc ?_ _ | refine later_set ?_ _ (Nat.le_add_right _ _) _ | refine later_set ?_ _ (Nat.le_refl _) _)); done))) (fail)
            · go_wp2_with fail
              go_meet
              case rel => exact ⟨_, _, rfl, rfl, by omega, by omega, by omega, later_drew (later_alloc (later_alloc (later_refl _) _) _), (((Blk.new w7 _ _).alloc _).drew), (Blk.newAt (by simp) _ _).drew⟩
            · go_wp2_with fail
              go_meet
              case rel => exact ⟨_, _, rfl, rfl, by omega, by omega, by omega, later_drew (later_alloc (later_alloc (later_refl _) _) _), (Blk.newAt (by simp) _ _).drew, (((Blk.new w7 _ _).alloc _).drew)⟩
          case rest =>
            obtain ⟨ga, gb, rfl, rfl, hgab, hga, hgb, hM8, hba, hbb⟩ := hcut
            obtain ⟨w8, rfl⟩ : ∃ W : World, W = wc := ⟨_, rfl⟩
            have hka := hba.cell 4
            have hkaf := hba.frozen 4
            have hkb := hbb.cell 4
            have hkbf := hbb.frozen 4
            simp only [List.getElem?_toArray, List.getElem?_cons_zero, List.getElem?_cons_succ] at hka hkb
            go_upto_region 15 with fail
            obtain ⟨w9, hw9⟩ : ∃ W, W = (w8.setCell ⟨ga, 4, none⟩ (.slice none 0 0)).setCell ⟨gb, 4, none⟩ (.slice none 0 0) := ⟨_, rfl⟩
            have hba9 : Blk w9 ga 26 #[.int .i64 c.closets, .int .i64 c.close, .slice A1 n1 k1, .slice A2 n2 k2, .slice none 0 0] := by rw [hw9]; exact (hba.set_ 4 _).far hgab _
            have hbb9 : Blk w9 gb 26 #[.int .i64 c.closets, .int .i64 c.close, .slice A1 n1 k1, .slice A2 n2 k2, .slice none 0 0] := by rw [hw9]; exact (hbb.far (fun e => hgab e.symm) _).set_ 4 _
            have hM9 : Later w7 w9 := by rw [hw9]; exact later_set (later_set hM8 _ hga _) _ hgb _
            rw [← hw9]
            have hz0 := Hz0.out
            have hn21 : n2 = n1 := by have := Hn1.out; have := Hn2.out; have := ok.hung.len; omega
            obtain ⟨d1, o1, e1, _⟩ := Reads.lit hc0.hs (by omega) (by omega)
            obtain ⟨d2, o2, e2, _⟩ := Reads.lit hc0.hu (by omega) (by omega)
            subst e1 e2
            have hn11 : ((n1 - 1 : Nat) : Int) = (n1 : Int) - 1 := by omega
            have hv1 : IntKind.i64.wrap ((n1 : Int) - 1) = (n1 : Int) - 1 := IntWalk.i64_in _ (by omega)
            have hv2 : (0 : Int) ≤ (n1 : Int) - 1 := by omega
            have hv5 : (1 : Int) ≤ (n1 : Int) := by omega
            have hv6 : (n1 : Int) ≤ (k1 : Int) + 1 := by omega
            have hv7 : (n1 : Int) ≤ (k2 : Int) + 1 := by omega
            have hv3 : (n1 : Int) - 1 ≤ (k1 : Int) := by omega
            have hv4 : (n1 : Int) - 1 ≤ (k2 : Int) := by omega
            have hkb2 := hbb9.cell 2
            have hkb3 := hbb9.cell 3
            have hkf2 := hbb9.frozen 2
            have hkf3 := hbb9.frozen 3
            simp only [List.getElem?_toArray, List.getElem?_cons_zero, List.getElem?_cons_succ] at hkb2 hkb3
            have Hhn21 := hide hn21
            clear hw9 hka hkaf hkb hkbf hba hbb hM8 hz0 hn21
            have hbx9 := fun W (hW : Later w9 W) => hbx7 W (Later.trans hM9 hW)
            have hK9 : Later w9 w9 := later_refl _
            go_cut [] (fun (W : World) => Later w7 W ∧ Blk W ga 26 #[.int .i64 c.closets, .int .i64 c.close, .slice (some ⟨d1, o1, none⟩) n1 k1, .slice (some ⟨d2, o2, none⟩) n2 k2, .slice none 0 0] ∧ Blk W gb 26 #[.int .i64 c.closets, .int .i64 c.close, .slice (some ⟨d1, o1, none⟩) (n1 - 1) k1, .slice (some ⟨d2, o2, none⟩) (n1 - 1) k2, .slice none 0 0])
            case first =>
              go_region_held3 (fun W => Later w7 W) ((((repeat (first | assumption | refine later_drew ?_ | refine later_alloc ?_ _ | refine later_set ?_ _ hgb _)); done))) (fail)
              all_goals
                go_wp2_with fail
                go_meet
                case rel => exact ⟨later_drew (later_set (later_set hM9 _ hgb _) _ hgb _), ((hba9.far hgab _).far hgab _).drew, ((hbb9.set_ 2 _).set_ 3 _).drew⟩
            case rest =>
              obtain ⟨hM10, hba10, hbb10⟩ := hcut
              obtain ⟨w10, rfl⟩ : ∃ W : World, W = wc := ⟨_, rfl⟩
              have hL10 := Later.trans hL7 hM10
              have hc10 := hc0.later hL10
              have hcy : CV w10 (bareC c) (some ⟨d1, o1, none⟩) n1 (some ⟨d2, o2, none⟩) n2 none 0 := ⟨hc10.hs, hc10.hu, ⟨rfl, fun h => absurd h (by omega)⟩⟩
              have hcz : CV w10 (lessC c (n1 - 1)) (some ⟨d1, o1, none⟩) (n1 - 1) (some ⟨d2, o2, none⟩) (n1 - 1) none 0 := ⟨hc10.hs.take _ (by omega), hc10.hu.take _ (by have := Hhn21.out; omega), ⟨rfl, fun h => absurd h (by omega)⟩⟩
              have hsc := sooner_calls (k1 := k1) (k2 := k2) (k3 := 0) (i1 := k1) (i2 := k2) (i3 := 0) w10 hcy hcl hcz hcl (by omega) (by omega) (by omega) (by omega) (by omega) (by omega) Law2.out
              have Hsc := hide hsc
              have hy0 := hba10.cell 0
              have hy1 := hba10.cell 1
              have hy2 := hba10.cell 2
              have hy3 := hba10.cell 3
              have hy4 := hba10.cell 4
              have hz0 := hbb10.cell 0
              have hz1 := hbb10.cell 1
              have hz2 := hbb10.cell 2
              have hz3 := hbb10.cell 3
              have hz4 := hbb10.cell 4
              simp only [List.getElem?_toArray, List.getElem?_cons_zero, List.getElem?_cons_succ] at hy0 hy1 hy2 hy3 hy4 hz0 hz1 hz2 hz3 hz4
              clear hsc hcy hcz hc10 hba9 hbb9 hkb2 hkb3 hkf2 hkf3 hv1 hv2 hv3 hv4 hv5 hv6 hv7 hn11
              go_wp2_with fail
              refine (Hsc.out).mono ?_
              rintro e w11 ⟨rfl, hM11⟩
              have hL11 := Later.trans hL10 hM11
              go_wp2_with fail
              refine (awake_calls _).mono ?_
              rintro e wa ⟨rfl, hLa⟩
              go_wp2_with fail
              go_ret
              exact ⟨rfl, Later.trans hL0 (Later.trans hL11 hLa)⟩
end Go.Proofs.Ytjilckjhdlabaaa
