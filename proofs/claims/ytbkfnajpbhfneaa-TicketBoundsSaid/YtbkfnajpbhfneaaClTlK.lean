/- The law TicketBounds: walk. -/
import Derived.Test.YtbkfnajpbhfneaaPart10
import Derived.Test.YtbkfnajpbhfneaaPart11
set_option linter.unusedSimpArgs false
set_option linter.unusedVariables false
namespace Go.Proofs.Ytbkfnajpbhfneaa
open Go Go.RowKit

theorem ClockR_eq {Al : Option Addr} {nl kl : Nat} {ll : List (List Int)} {k : Nat} {r : Int × Int} (w : World) (hl : RRI w Al nl ll) (hk : ∀ d ∈ ll, k < d.length) (hn : nl ≤ 1000000) (hv : bR (offF k) ll = r) :
    Calls Try.prog 29 #[.slice Al nl kl, .int .i64 (k : Int)] w fun e w' => e = .returned (.agg #[.int .i64 r.1, .int .i64 r.2]) ∧ Later w w' := by
  rw [← hv]; exact Clock_calls k w hl hk hn
theorem HoursR_eq {A1 A2 A3 : Option Addr} {n1 k1 n2 k2 n3 k3 : Nat} {c : Hou} {Al : Option Addr} {nl kl : Nat} {ll : List (List Int)} {t : Nat} {r : Int × Int} (w : World) (hc : CV w c A1 n1 A2 n2 A3 n3) (hl : RRI w Al nl ll) (ok : OkH c) (hd : ∀ d ∈ ll, IsErr c d) (hn : nl ≤ 1000000) (hv : bR (hoursF c t) ll = r) :
    Calls Try.prog 30 #[(.agg #[.int .i64 c.hour, .int .i64 c.grace, .slice A1 n1 k1, .slice A2 n2 k2, .slice A3 n3 k3]), .slice Al nl kl, .int .i64 (t : Int)] w fun e w' => e = .returned (.agg #[.int .i64 r.1, .int .i64 r.2]) ∧ Later w w' := by
  rw [← hv]; exact HoursOf_calls t w hc hl ok hd hn
set_option maxRecDepth 100000 in
set_option maxHeartbeats 4000000 in
theorem lawBounds_calls {A1 A2 A3 : Option Addr} {n1 k1 n2 k2 n3 k3 : Nat} {c : Hou} (w : World) (hc : CV w c A1 n1 A2 n2 A3 n3) (b1 : n1 ≤ 9223372036854775807) (b2 : n2 ≤ 9223372036854775807) (b3 : n3 ≤ 9223372036854775807) :
    Calls Try.prog 3 #[(.agg #[.int .i64 c.hour, .int .i64 c.grace, .slice A1 n1 k1, .slice A2 n2 k2, .slice A3 n3 k3])] w fun e w' => e = .returned (.bool true) ∧ Later w w' := by
  obtain ⟨w0, hw0⟩ : ∃ W, W = (w.alloc (.cells #[.int .i64 c.hour, .int .i64 c.grace, .slice A1 n1 k1, .slice A2 n2 k2, .slice A3 n3 k3] 26)) := ⟨_, rfl⟩; have hbox : ∀ W, Later w0 W → ∀ i, W.cell? ⟨w.heap.size, i, none⟩ = #[.int .i64 c.hour, .int .i64 c.grace, .slice A1 n1 k1, .slice A2 n2 k2, .slice A3 n3 k3][i]? := (by rw [hw0]; exact box_cells w #[.int .i64 c.hour, .int .i64 c.grace, .slice A1 n1 k1, .slice A2 n2 k2, .slice A3 n3 k3] 26); have hL0 : Later w w0 := (by rw [hw0]; simp); have hc0 := hc.later hL0; have Hw0 := hide hw0; clear hw0
  have hthin := Thin_calls (k1 := k1) (k2 := k2) (k3 := k3) w0 hc0 b1 b2 b3
  cases hth : thinB c with
  | false =>
    rw [hth] at hthin
    have Hthin := hide hthin
    clear hth hthin
    go_enter Try.func3, Try.ntmps3
    go_wp2_with fail
    rw [← Hw0.out]; clear Hw0
    refine Hthin.out.mono ?_
    rintro e w1 ⟨rfl, hL1⟩
    go_wp2_with fail
    refine (awake_calls _).mono ?_
    rintro e w2 ⟨rfl, hL2⟩
    go_wp2_with fail
    go_ret
    exact ⟨rfl, Later.trans hL0 (Later.trans hL1 hL2)⟩
  | true =>
    rw [hth] at hthin
    have hn := And.intro hc.ck.len (And.intro hc.tk.len hc.cp.len)
    unfold thinB at hth
    simp only [Bool.and_eq_true, decide_eq_true_eq] at hth
    have l1 : n1 ≤ 6 := by omega
    have l2 : n2 ≤ 8 := by omega
    have l3 : n3 ≤ 12 := by omega
    have Hthin := hide hthin
    clear hth hthin hn
    obtain ⟨s, hs⟩ : ∃ s, askedErr c 0 = s := ⟨_, rfl⟩
    have hcl := fun (B1 B2 B3 : Option Addr) (j1 j2 j3 : Nat) (W : World) (h : CV W c B1 n1 B2 n2 B3 n3) => ClocksP_calls (k1 := j1) (k2 := j2) (k3 := j3) W h (by omega) (by omega) (by omega)
    have hcp := fun (B1 B2 B3 : Option Addr) (j1 j2 j3 : Nat) (W : World) (h : CV W c B1 n1 B2 n2 B3 n3) => HoursP_calls (k1 := j1) (k2 := j2) (k3 := j3) W h (by omega) (by omega) (by omega)
    rw [hs] at hcl hcp
    have Hcl := hide hcl
    have Hcp := hide hcp
    have hnl := hc.tk.len
    have hnk := hc.ck.len
    clear hcl hcp
    by_cases hs0 : s = 0
    · subst hs0
      obtain ⟨hf0, _, htn⟩ := askedErr_zero hs
      have ok := okH_of_fault hf0
      have htr : ∀ d ∈ truths c, IsErr c d := truths_isErr ok
      have hlen : (truths c).length ≤ 2000 := by rw [← (truthsP_perm hf0).length_eq]; exact truthsP_len hf0
      have Hs := hide hs
      have hco : clocksOut c = (List.range n1).map fun i => bR (offF i) (truths c) := by
        unfold clocksOut; rw [if_pos hs, hnk]
        exact List.map_congr_left fun i _ => clock_bR hf0 htn i
      have hho : hoursOut c = (List.range n2).map fun i => bR (hoursF c i) (truths c) := by
        unfold hoursOut; rw [if_pos hs, hnl]
        exact List.map_congr_left fun i _ => hours_bR hf0 htn i
      have Hco := hide hco
      have Hho := hide hho
      have Hnk := hide hnk
      clear hs hnl hnk htn hf0 hco hho
      go_enter Try.func3, Try.ntmps3
      go_wp2_with fail
      rw [← Hw0.out]; clear Hw0
      refine Hthin.out.mono ?_
      rintro e w1 ⟨rfl, hL1⟩
      go_wp2_with fail
      refine (lawHouse_calls (k1 := k1) (k2 := k2) (k3 := k3) w1 (hc0.later hL1) (by omega) (by omega) (by omega)).mono ?_
      rintro e w2 ⟨B1, j1, B2, j2, B3, j3, rfl, hL2, hcv, _⟩
      have hL02 := Later.trans hL1 hL2
      go_wp2_with fail
      refine (Hcl.out B1 B2 B3 j1 j2 j3 w2 hcv).mono ?_
      rintro e w3 ⟨Ag, ng, kg, rfl, hL3, hgl⟩
      have hL03 := Later.trans hL02 hL3
      have hgn := hgl.len
      have hng : ng = n1 := by rw [hgn, Hco.out]; simp
      subst hng
      have Hgl := hide hgl
      clear hgn hgl
      go_wp2_with fail
      refine (lawHouse_calls (k1 := k1) (k2 := k2) (k3 := k3) w3 (hc0.later hL03) (by omega) (by omega) (by omega)).mono ?_
      rintro e w4 ⟨C1, i1, C2, i2, C3, i3, rfl, hL4, hcv4, _⟩
      have hL04 := Later.trans hL03 hL4
      go_wp2_with fail
      refine (Hcp.out C1 C2 C3 i1 i2 i3 w4 hcv4).mono ?_
      rintro e w5 ⟨Ah, nh, kh, rfl, hL5, hhl⟩
      have hL05 := Later.trans hL04 hL5
      have hhn := hhl.len
      have hnh : nh = n2 := by rw [hhn, Hho.out]; simp
      subst hnh
      have Hhl := hide hhl
      clear hhn hhl
      go_wp2_with fail
      refine (sure_calls (k1 := k1) (k2 := k2) (k3 := k3) w5 (hc0.later hL05) (by omega) (by omega) (by omega)).mono ?_
      rintro e w6 ⟨As, ns, ks, rfl, hL6, hall⟩
      have hL06 := Later.trans hL05 hL6
      have hL36 := Later.trans hL4 (Later.trans hL5 hL6)
      rw [Hs.out]
      have hrr := hall Hs.out
      have hnl2 := hrr.len
      have hns : ns ≤ 1000000 := by omega
      have Hcr := hide (fun (W : World) (h : Later w6 W) (i : Nat) (hi : i < ng) (r : Int × Int) (hv : bR (offF i) (truths c) = r) => ClockR_eq (kl := ks) (k := i) W (hrr.later h) (fun d hd => by have := (htr d hd).len; have := Hnk.out; omega) hns hv)
      have Hhr := hide (fun (W : World) (h : Later w6 W) (i : Nat) (r : Int × Int) (hv : bR (hoursF c i) (truths c) = r) => HoursR_eq (k1 := k1) (k2 := k2) (k3 := k3) (kl := ks) (t := i) W (hc0.later (Later.trans hL06 h)) (hrr.later h) ok htr hns hv)
      have hx6 := hbox w6 hL06
      have x2 := hx6 2
      have x3 := hx6 3
      simp only [List.getElem?_toArray, List.getElem?_cons_zero, List.getElem?_cons_succ] at x2 x3
      clear hnl2 hrr hx6
      go_wp2_with fail
      clear x2 x3
      go_loopw [9] (fun i wr => ∃ j : Nat, j ≤ ng ∧ i = .int .i64 j ∧ Later w6 wr) (fun i _ => ng - (intOf i).toNat)
      case atStart => exact ⟨0, Nat.zero_le _, rfl, later_refl _⟩
      case round =>
        obtain ⟨j, hj, rfl, hL⟩ := hrel
        have hL0r := Later.trans hL06 hL
        by_cases hlt : j < ng
        · have hi1 : (j : Int) < ng := by omega
          obtain ⟨bb, oo, x, rfl, _, hx, hx0, hx1⟩ := Hgl.out.get hlt
          have hL3r := Later.trans hL36 hL
          have hx0' := fun W (hW : Later wr W) => hx0 W (Later.trans hL3r hW)
          have hx1' := fun W (hW : Later wr W) => hx1 W (Later.trans hL3r hW)
          have hv : bR (offF j) (truths c) = x := by
            rw [Hco.out, List.getElem?_map, List.getElem?_range hlt] at hx
            simpa using hx
          have Hl := hide (fun (W : World) (hW : Later wr W) => Hcr.out W (Later.trans hL hW) j hlt x hv)
          clear hx hx0 hx1 hv
          go_wp2_with fail
          refine wp_region_ext (w0 := wr) (by kernel_rfl) (by kernel_rfl) (later_refl _) ?_; (repeat (first | go_big_quiet_step ((first | (go_at_call 29; exact calls_ext (by simp) (Hl.out _ (by simp))) | (go_at_call 28; exact calls_ext (by simp) (lawTo_calls _ _ _)))) | quiet_step ((first | (go_at_call 29; exact calls_ext (by simp) (Hl.out _ (by simp))) | (go_at_call 28; exact calls_ext (by simp) (lawTo_calls _ _ _)))))); refine wpQuiet_nil ?_; rintro w8 ⟨⟨_, hL8⟩, rfl⟩; (try dsimp only)
          go_wp2_with fail
          go_roundw
          case rel => exact ⟨j + 1, hlt, by go_num, Later.trans hL hL8⟩
          case measure => simp [intOf]; omega
        · have hjn : j = ng := by omega
          obtain ⟨wm, rfl⟩ : ∃ x, x = wr := ⟨wr, rfl⟩
          have hLm := hL
          have hL0m := hL0r
          clear hL hL0r
          go_wp2_with fail
          go_loopw [10] (fun i wr => ∃ j : Nat, j ≤ nh ∧ i = .int .i64 j ∧ Later wm wr) (fun i _ => nh - (intOf i).toNat)
          case atStart => exact ⟨0, Nat.zero_le _, rfl, later_refl _⟩
          case round =>
            obtain ⟨k, hk, rfl, hL⟩ := hrel
            have hL0r := Later.trans hL0m hL
            by_cases hltk : k < nh
            · have hi1 : (k : Int) < nh := by omega
              obtain ⟨bb, oo, x, rfl, _, hx, hx0, hx1⟩ := Hhl.out.get hltk
              have hL5r := Later.trans hL6 (Later.trans hLm hL)
              have hx0' := fun W (hW : Later wr W) => hx0 W (Later.trans hL5r hW)
              have hx1' := fun W (hW : Later wr W) => hx1 W (Later.trans hL5r hW)
              have hv : bR (hoursF c k) (truths c) = x := by
                rw [Hho.out, List.getElem?_map, List.getElem?_range hltk] at hx
                simpa using hx
              have hbx := fun W (hW : Later wr W) => hbox W (Later.trans hL0r hW)
              have Hl := hide (fun (W : World) (hW : Later wr W) => Hhr.out W (Later.trans hLm (Later.trans hL hW)) k x hv)
              clear hx hx0 hx1 hv hbox
              go_wp2_with fail
              refine wp_region_ext (w0 := wr) (by kernel_rfl) (by kernel_rfl) (later_refl _) ?_; (repeat (first | go_big_quiet_step ((first | (go_at_call 30; exact calls_ext (by simp) (Hl.out _ (by simp))) | (go_at_call 28; exact calls_ext (by simp) (lawTo_calls _ _ _)))) | quiet_step ((first | (go_at_call 30; exact calls_ext (by simp) (Hl.out _ (by simp))) | (go_at_call 28; exact calls_ext (by simp) (lawTo_calls _ _ _)))))); refine wpQuiet_nil ?_; rintro w8 ⟨⟨_, hL8⟩, rfl⟩; (try dsimp only)
              go_wp2_with fail
              go_roundw
              case rel => exact ⟨k + 1, hltk, by go_num, Later.trans hL hL8⟩
              case measure => simp [intOf]; omega
            · have hkn : k = nh := by omega
              go_wp2_with fail
              refine (awake_calls _).mono ?_
              rintro e w9 ⟨rfl, hL9⟩
              go_wp2_with fail
              go_ret
              exact ⟨rfl, Later.trans hL0 (Later.trans hL0r hL9)⟩
    · have hlo : clocksOut c = [] := by unfold clocksOut; rw [if_neg (by rw [hs]; exact hs0)]
      have hho : hoursOut c = [] := by unfold hoursOut; rw [if_neg (by rw [hs]; exact hs0)]
      have Hlo := hide hlo
      have Hho := hide hho
      have hqb : (s != 0) = true := by simpa using hs0
      have hqb2 : (s == 0) = false := by simpa using hs0
      have Hs := hide hs
      clear hs hnl hnk hlo hho
      go_enter Try.func3, Try.ntmps3
      go_wp2_with fail
      rw [← Hw0.out]; clear Hw0
      refine Hthin.out.mono ?_
      rintro e w1 ⟨rfl, hL1⟩
      go_wp2_with fail
      refine (lawHouse_calls (k1 := k1) (k2 := k2) (k3 := k3) w1 (hc0.later hL1) (by omega) (by omega) (by omega)).mono ?_
      rintro e w2 ⟨B1, j1, B2, j2, B3, j3, rfl, hL2, hcv, _⟩
      have hL02 := Later.trans hL1 hL2
      go_wp2_with fail
      refine (Hcl.out B1 B2 B3 j1 j2 j3 w2 hcv).mono ?_
      rintro e w3 ⟨Ag, ng, kg, rfl, hL3, hgl⟩
      have hL03 := Later.trans hL02 hL3
      have hgn := hgl.len
      have hng : ng = 0 := by rw [hgn, Hlo.out]; rfl
      subst hng
      clear hgn hgl
      go_wp2_with fail
      refine (lawHouse_calls (k1 := k1) (k2 := k2) (k3 := k3) w3 (hc0.later hL03) (by omega) (by omega) (by omega)).mono ?_
      rintro e w4 ⟨C1, i1, C2, i2, C3, i3, rfl, hL4, hcv4, _⟩
      have hL04 := Later.trans hL03 hL4
      go_wp2_with fail
      refine (Hcp.out C1 C2 C3 i1 i2 i3 w4 hcv4).mono ?_
      rintro e w5 ⟨Ah, nh, kh, rfl, hL5, hhl⟩
      have hL05 := Later.trans hL04 hL5
      have hhn := hhl.len
      have hnh : nh = 0 := by rw [hhn, Hho.out]; rfl
      subst hnh
      clear hhn hhl
      go_wp2_with fail
      refine (sure_calls (k1 := k1) (k2 := k2) (k3 := k3) w5 (hc0.later hL05) (by omega) (by omega) (by omega)).mono ?_
      rintro e w6 ⟨As, ns, ks, rfl, hL6, hall⟩
      have hL06 := Later.trans hL05 hL6
      have hL36 := Later.trans hL4 (Later.trans hL5 hL6)
      rw [Hs.out]
      go_wp2_with fail
      refine (awake_calls _).mono ?_
      rintro e w9 ⟨rfl, hL9⟩
      go_wp2_with fail
      go_ret
      exact ⟨rfl, Later.trans hL0 (Later.trans hL06 hL9)⟩
end Go.Proofs.Ytbkfnajpbhfneaa
