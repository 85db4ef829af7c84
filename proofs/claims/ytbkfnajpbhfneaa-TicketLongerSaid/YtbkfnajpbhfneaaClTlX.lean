/- The law TicketLonger: walk. -/
import Derived.Test.YtbkfnajpbhfneaaPart14
import Derived.Test.YtbkfnajpbhfneaaPart15
import Derived.RegionTactic
set_option linter.unusedSimpArgs false
set_option linter.unusedVariables false
namespace Go.Proofs.Ytbkfnajpbhfneaa
open Go Go.RowKit
attribute [local go_sem] later_alloc2 later_alloc3 later_alloc4

set_option maxRecDepth 100000 in
set_option maxHeartbeats 16000000 in
theorem lawLonger_calls {A1 A2 A3 : Option Addr} {n1 k1 n2 k2 n3 k3 : Nat} {c : Hou} {x y : Nat} (w : World) (hc : CV w c A1 n1 A2 n2 A3 n3) (b1 : n1 ≤ 9223372036854775807) (b2 : n2 ≤ 9223372036854775807) (b3 : n3 ≤ 9223372036854775807) (hx : x < 256) (hy : y < 256) :
    Calls Try.prog 14 #[(.agg #[.int .i64 c.hour, .int .i64 c.grace, .slice A1 n1 k1, .slice A2 n2 k2, .slice A3 n3 k3]), .int .u8 x, .int .u8 y] w fun e w' => e = .returned (.bool true) ∧ Later w w' := by
  obtain ⟨w0, hw0⟩ : ∃ W, W = (w.alloc (.cells #[.int .i64 c.hour, .int .i64 c.grace, .slice A1 n1 k1, .slice A2 n2 k2, .slice A3 n3 k3] 26)) := ⟨_, rfl⟩; have hbox : ∀ W, Later w0 W → ∀ i, W.cell? ⟨w.heap.size, i, none⟩ = #[.int .i64 c.hour, .int .i64 c.grace, .slice A1 n1 k1, .slice A2 n2 k2, .slice A3 n3 k3][i]? := (by rw [hw0]; exact box_cells w #[.int .i64 c.hour, .int .i64 c.grace, .slice A1 n1 k1, .slice A2 n2 k2, .slice A3 n3 k3] 26); have hL0 : Later w w0 := (by rw [hw0]; simp); have hc0 := hc.later hL0; have Hw0 := hide hw0; clear hw0
  have hrdy := ready_calls (k1 := k1) (k2 := k2) (k3 := k3) w0 hc0 b1 b2 b3
  cases hth : readyB c with
  | false =>
    rw [hth] at hrdy
    have Hrdy := hide hrdy
    clear hth hrdy
    go_enter Try.func14, Try.ntmps14
    go_wp2_with fail
    rw [← Hw0.out]; clear Hw0
    refine Hrdy.out.mono ?_
    rintro e w1 ⟨rfl, hL1⟩
    go_wp2_with fail
    refine (awake_calls _).mono ?_
    rintro e w2 ⟨rfl, hL2⟩
    go_wp2_with fail
    go_ret
    exact ⟨rfl, Later.trans hL0 (Later.trans hL1 hL2)⟩
  | true =>
    rw [hth] at hrdy
    have hn1 := hc.ck.len
    have hn2 := hc.tk.len
    have hn3 := hc.cp.len
    have hf := (readyB_true hth).2
    have ok := okH_of_fault hf
    have hmy := many_le hf
    have l1 : n1 ≤ 4 := by have := ok.n1; omega
    have l2 : n2 ≤ 6 := by have := ok.n2; omega
    have l3 : n3 ≤ 10 := by have := ok.n3; omega
    have Hn1 := hide hn1
    have Hn2 := hide hn2
    have Hn3 := hide hn3
    have Hf := hide hf
    have Hmy := hide hmy
    have Hrdy := hide hrdy
    clear hth hrdy hn1 hn2 hn3 hf hmy
    have hbxa := fun W (hW : Later w0 W) => hbox W hW 3
    simp only [List.getElem?_toArray, List.getElem?_cons_zero, List.getElem?_cons_succ] at hbxa
    have hl2 : (pairsV c.tickets).length = n2 * 2 := by rw [pairsV_length, ← Hn2.out]
    obtain ⟨s, hs⟩ : ∃ s : Int, (y : Int) % 20 = s := ⟨_, rfl⟩
    obtain ⟨t, ht⟩ : ∃ t : Int, s % 3 = t := ⟨_, rfl⟩
    have hs0 : 0 ≤ s ∧ s ≤ 19 := by omega
    have ht0 : 0 ≤ t ∧ t ≤ 2 := by omega
    have hs1 : (y : Int).tmod 20 = s := by rw [← hs, Int.tmod_eq_emod_of_nonneg (by omega)]
    have ht1 : s.tmod 3 = t := by rw [← ht, Int.tmod_eq_emod_of_nonneg (by omega)]
    have hs2 : IntKind.i64.wrap s = s := IntWalk.i64_in _ (by omega)
    have ht2 : IntKind.i64.wrap t = t := IntWalk.i64_in _ (by omega)
    obtain ⟨m, hm⟩ : ∃ m : Int, (x : Int) % 3 = m := ⟨_, rfl⟩
    have hm0 : m = 0 ∨ m = 1 ∨ m = 2 := by omega
    have hm1 : (x : Int).tmod 3 = m := by rw [← hm, Int.tmod_eq_emod_of_nonneg (by omega)]
    have hm2 : IntKind.u8.wrap m = m := by rcases hm0 with rfl | rfl | rfl <;> rfl
    have hy2 : IntKind.i64.wrap (y : Int) = (y : Int) := IntWalk.i64_in _ (by omega)
    go_enter Try.func14, Try.ntmps14
    go_wp2_with fail
    rw [← Hw0.out]; clear Hw0
    refine Hrdy.out.mono ?_
    rintro e w1 ⟨rfl, hL1⟩
    have hx1 := hbxa w1 hL1
    have hb9 := Blk.new w1 26 #[.int .i64 c.hour, .int .i64 c.grace, .slice A1 n1 k1, .slice A2 n2 k2, .slice A3 n3 k3]
    have hL39 : Later w0 (w1.alloc (.cells #[.int .i64 c.hour, .int .i64 c.grace, .slice A1 n1 k1, .slice A2 n2 k2, .slice A3 n3 k3] 26)) := later_alloc hL1 _
    have hLz9 := later_alloc (later_refl (w1.alloc (.cells #[.int .i64 c.hour, .int .i64 c.grace, .slice A1 n1 k1, .slice A2 n2 k2, .slice A3 n3 k3] 26))) (.cells #[] 80)
    have hnew9 : Blk ((w1.alloc (.cells #[.int .i64 c.hour, .int .i64 c.grace, .slice A1 n1 k1, .slice A2 n2 k2, .slice A3 n3 k3] 26)).alloc (.cells #[] 80)) (w1.heap.size + 1) 80 #[] := by have := Blk.new (w1.alloc (.cells #[.int .i64 c.hour, .int .i64 c.grace, .slice A1 n1 k1, .slice A2 n2 k2, .slice A3 n3 k3] 26)) 80 #[]; rwa [World.size_alloc] at this
    have hsb9 : (w1.alloc (.cells #[.int .i64 c.hour, .int .i64 c.grace, .slice A1 n1 k1, .slice A2 n2 k2, .slice A3 n3 k3] 26)).heap.size ≤ w1.heap.size + 1 := Nat.le_of_eq (World.size_alloc _ _)
    have HL39 := hide hL39
    have HLz9 := hide hLz9
    have Hnew9 := hide hnew9
    have Hsb9 := hide hsb9
    have Hb9 := hide hb9
    clear hb9 hL39 hLz9 hnew9 hsb9
    go_wp2_with (at_builtin; go_loud (refine app0 rfl (w1.alloc (.cells #[.int .i64 c.hour, .int .i64 c.grace, .slice A1 n1 k1, .slice A2 n2 k2, .slice A3 n3 k3] 26)).heap.size _ _ 23 rfl 80 (.agg #[.int .i64 0, .int .i64 0]) 2 16 Try.underlying23 rticket_info rfl (by omega) (w1.heap.size + 1) rfl Hnew9.out Hsb9.out A2 n2 k2 (pairsV c.tickets) rfl hl2 (reads_cells (hc0.later (Later.trans HL39.out HLz9.out)).tk) (reads_none hc0.tk) (pairs_one _) (by unfold maxLen; omega) (by omega) ?_))
    intro v9 w9 hM9 hown9
    have hLw9 := Later.trans HLz9.out hM9
    have hL9a : Later w1 w9 := Later.trans (later_alloc (later_refl _) _) hLw9
    have hb9b := Hb9.out.later hLw9
    have hw9o := World.size_alloc w1 (.cells #[.int .i64 c.hour, .int .i64 c.grace, .slice A1 n1 k1, .slice A2 n2 k2, .slice A3 n3 k3] 26)
    try rw [hw9o] at hown9
    have hlo9 : w1.heap.size ≤ w1.heap.size := Nat.le_refl _
    clear hM9 hLw9 hw9o Hb9 Hnew9 HLz9 HL39 Hsb9
    generalize hg9 : w1.heap.size = g9 at *
    have hlo9 : w1.heap.size ≤ g9 := Nat.le_of_eq hg9
    have Hg9 := hide hg9
    clear hg9
    have hwg : w0.heap.size ≤ g9 := by have := hL1.size; omega
    obtain ⟨At, kt, rfl, _⟩ := own_slice (w0 := w0) (own_base hown9 (by omega))
    have hx0 := hb9b.cell 0
    have hx1 := hb9b.cell 1
    have hx2 := hb9b.cell 2
    have hx3 := hb9b.cell 3
    have hx4 := hb9b.cell 4
    have hf3 := hb9b.frozen 3
    simp only [List.getElem?_toArray, List.getElem?_cons_zero, List.getElem?_cons_succ] at hx0 hx1 hx2 hx3 hx4
    go_upto_if 34 with fail
    obtain ⟨wA, hwA⟩ : ∃ W, W = w9.setCell ⟨g9, 3, none⟩ (.slice At n2 kt) := ⟨_, rfl⟩
    have hbA : Blk wA g9 26 #[.int .i64 c.hour, .int .i64 c.grace, .slice A1 n1 k1, .slice At n2 kt, .slice A3 n3 k3] := by rw [hwA]; exact hb9b.set_ 3 _
    have hLA : Later w1 wA := by rw [hwA]; exact later_set hL9a _ hlo9 _
    have hoA : wA.ownsRow (g9 + 1) 80 2 (.slice At n2 kt) n2 (pairsV c.tickets) := by
      rw [hwA]
      exact own_block hown9 (fun g hg => Below.heap_setCell w9 _ _ g (by have := (hown9.lt g hg).1; show g ≠ g9; omega))
    rw [← hwA]
    clear hwA hb9b hown9 hL9a hx0 hx1 hx2 hx3 hx4 hf3 hs hm
    go_cut [] (fun (W : World) => ∃ xc : Hou, Longer c xc ∧ Later w1 W ∧ CV W xc A1 n1 At n2 A3 n3 ∧ Blk W g9 26 #[.int .i64 xc.hour, .int .i64 xc.grace, .slice A1 n1 k1, .slice At n2 kt, .slice A3 n3 k3])
    case first =>
      rcases hm0 with rfl | rfl | rfl
      · clear hbox hbxa
        go_wp2_with fail
        go_loopw [9] (fun v wr => ∃ i : Nat, i ≤ n2 ∧ v = .int .i64 i ∧ Later w1 wr ∧ wr.ownsRow (g9 + 1) 80 2 (.slice At n2 kt) n2 (pairsV (mapTo (fun t' : Int × Int => (t'.1, min 9 (t'.2 + t))) c.tickets i)) ∧ Blk wr g9 26 #[.int .i64 c.hour, .int .i64 c.grace, .slice A1 n1 k1, .slice At n2 kt, .slice A3 n3 k3]) (fun v _ => n2 - (intOf v).toNat)
        case atStart => exact ⟨0, Nat.zero_le _, rfl, hLA, by rw [mapTo_zero]; exact hoA, hbA⟩
        case round =>
          obtain ⟨i, hi, rfl, hL, hor, hbr⟩ := hrel
          have hxr := fun W (hW : Later wr W) => (hbr.later hW).cell 3
          simp only [List.getElem?_toArray, List.getElem?_cons_zero, List.getElem?_cons_succ] at hxr
          have hxr1 := hxr wr (later_refl _)
          by_cases hlt : i < n2
          · have hi1 : (i : Int) < n2 := by omega
            obtain ⟨g, k', e⟩ := own_form hor (by omega)
            injection e with e1 _ e3
            subst e1 e3
            obtain ⟨yt, hyt⟩ : ∃ yt, c.tickets[i]? = some yt := ⟨_, List.getElem?_eq_getElem (by rw [← Hn2.out]; exact hlt)⟩
            have hgy := ok.tick yt (List.mem_of_getElem? hyt)
            have hmg := mapTo_get (fun t' : Int × Int => (t'.1, min 9 (t'.2 + t))) c.tickets hyt
            have hms := mapTo_succ (fun t' : Int × Int => (t'.1, min 9 (t'.2 + t))) c.tickets hyt
            have hml := mapTo_len (fun t' : Int × Int => (t'.1, min 9 (t'.2 + t))) c.tickets i
            obtain ⟨ml, hmq⟩ : ∃ q, mapTo (fun t' : Int × Int => (t'.1, min 9 (t'.2 + t))) c.tickets i = q := ⟨_, rfl⟩
            rw [hmq] at hor hmg hms hml
            have hpl : (pairsV ml).length = n2 * 2 := by rw [pairsV_length, hml, ← Hn2.out]
            have hv1 := (pairsV_at hmg).2
            have hxh : ∀ W, Later wr W → W.cell? ⟨g, i * 2 + 1, none⟩ = some (.int .i64 yt.2) := fun W hW => by
              have h1 := (own_laterb hor hW).cellAt (i * 2 + 1) (by omega)
              rwa [hv1] at h1
            have hfh := hor.frozenAt (i * 2 + 1)
            have hgl := (hor.lt g rfl).1
            have hwt : wrap64 (yt.2 + t) = yt.2 + t := by unfold wrap64; omega
            obtain ⟨q, hq⟩ : ∃ q : Int, min 9 (yt.2 + t) = q := ⟨_, rfl⟩
            rw [hq] at hms
            have hpv : pairsV (mapTo (fun t' : Int × Int => (t'.1, min 9 (t'.2 + t))) c.tickets (i + 1)) = (pairsV ml).set (i * 2 + 1) (.int .i64 q) := by rw [hms, pairsV_second ml i yt q hmg]
            have Hpv := hide hpv
            have Hor := hide hor
            have Hq := hide hq
            clear hmg hms hml hmq hpl hv1 hpv hor hq hyt hxr1
            go_wp2_with fail
            refine wp_region_ext_tail (w0 := wr) 15 (by kernel_rfl) (by kernel_rfl) (later_refl _) ?_; simp only [List.take_succ_cons, List.take_zero, List.drop_succ_cons, List.drop_zero]; (repeat (first | go_big_quiet_step ((fail)) | quiet_step ((fail)))); refine wpQuiet_nil ?_; rintro w3 ⟨⟨_, hM3⟩, rfl⟩; (try dsimp only)
            have hbr3 := hbr.later hM3
            have hor3 := own_laterb Hor.out hM3
            have hL3 := Later.trans hL hM3
            have hc3 := hxh w3 hM3
            have hf3 := hor3.frozenAt (i * 2 + 1)
            have hst := fun u => (hor3.stored (i * 2 + 1) u).1
            have Hst := hide hst
            clear hxh hfh hor3 hst
            go_wp2_with fail
            all_goals
              go_roundw
              case rel =>
                have key : ∀ a : Int, a = q → ∃ i' : Nat, i' ≤ n2 ∧ (i : Int) + 1 = (i' : Int) ∧ Later w1 (w3.setCell ⟨g, i * 2 + 1, none⟩ (.int .i64 a)) ∧ (w3.setCell ⟨g, i * 2 + 1, none⟩ (.int .i64 a)).ownsRow (g9 + 1) 80 2 (.slice (some ⟨g, 0, none⟩) n2 kt) n2 (pairsV (mapTo (fun t' : Int × Int => (t'.1, min 9 (t'.2 + t))) c.tickets i')) ∧ Blk (w3.setCell ⟨g, i * 2 + 1, none⟩ (.int .i64 a)) g9 26 #[.int .i64 c.hour, .int .i64 c.grace, .slice A1 n1 k1, .slice (some ⟨g, 0, none⟩) n2 kt, .slice A3 n3 k3] := fun a ea => by
                  subst ea
                  have hgne : g9 ≠ g := by omega
                  refine ⟨i + 1, hlt, by omega, later_set hL3 _ (by show w1.heap.size ≤ g; omega) _, ?_, hbr3.far hgne _⟩
                  rw [Hpv.out]
                  exact Hst.out _
                exact key _ (by have := Hq.out; omega)
              case measure => simp [intOf]; omega
          · have hi1 : ¬ (i : Int) < n2 := by omega
            rw [mapTo_all _ _ (by rw [← Hn2.out]; omega)] at hor
            clear hlt
            go_wp2_with fail
            go_meet
            case rel =>
              have hc2 := hc0.later (Later.trans hL1 hL)
              exact ⟨paidMore c t, paidMore_law Hf.out ht0.1, hL, ⟨hc2.ck, Reads.of_own hor, hc2.cp⟩, hbr⟩
      · have hxb1 := hbox wA (Later.trans hL1 hLA) 1
        have hg1 := hbA.frozen 1
        have hk1 := hbA.cell 1
        simp only [List.getElem?_toArray, List.getElem?_cons_zero, List.getElem?_cons_succ] at hxb1 hk1
        have hwt : wrap64 (c.grace + s) = c.grace + s := by have := ok.grace; unfold wrap64; omega
        have hlw := graceMore_law (m := s) Hf.out hs0.1
        obtain ⟨q, hq⟩ : ∃ q : Int, min 60 (c.grace + s) = q := ⟨_, rfl⟩
        have hbq : (graceMore c s).grace = q := hq
        have Hq := hide hq
        have Hbq := hide hbq
        have Hlw := hide hlw
        clear hq hbq hlw hbox hbxa
        go_wp2_with fail
        all_goals
          go_meet
          case rel =>
            have key : ∀ a : Int, a = q → ∃ xc : Hou, Longer c xc ∧ Later w1 (wA.setCell ⟨g9, 1, none⟩ (.int .i64 a)) ∧ CV (wA.setCell ⟨g9, 1, none⟩ (.int .i64 a)) xc A1 n1 At n2 A3 n3 ∧ Blk (wA.setCell ⟨g9, 1, none⟩ (.int .i64 a)) g9 26 #[.int .i64 xc.hour, .int .i64 xc.grace, .slice A1 n1 k1, .slice At n2 kt, .slice A3 n3 k3] := fun a ea => by
              subst ea
              have hL := later_set hLA ⟨g9, 1, none⟩ hlo9 (.int .i64 a)
              have hc2 := hc0.later (Later.trans hL1 hL)
              have ho2 := own_block (W' := wA.setCell ⟨g9, 1, none⟩ (.int .i64 a)) hoA (fun g hg => Below.heap_setCell wA _ _ g (by have := (hoA.lt g hg).1; show g ≠ g9; omega))
              refine ⟨graceMore c s, Hlw.out, hL, ⟨hc2.ck, Reads.of_own ho2, hc2.cp⟩, ?_⟩
              rw [Hbq.out]
              exact hbA.set_ 1 _
            exact key _ (by have := Hq.out; omega)
      · have hxb0 := hbox wA (Later.trans hL1 hLA) 0
        have hg0 := hbA.frozen 0
        have hk0 := hbA.cell 0
        simp only [List.getElem?_toArray, List.getElem?_cons_zero, List.getElem?_cons_succ] at hxb0 hk0
        have hwt : wrap64 (c.hour + s) = c.hour + s := by have := ok.hour; unfold wrap64; omega
        have hlw := hourMore_law (m := s) Hf.out hs0.1
        obtain ⟨q, hq⟩ : ∃ q : Int, min 120 (c.hour + s) = q := ⟨_, rfl⟩
        have hbq : (hourMore c s).hour = q := hq
        have Hq := hide hq
        have Hbq := hide hbq
        have Hlw := hide hlw
        clear hq hbq hlw hbox hbxa
        go_wp2_with fail
        all_goals
          go_meet
          case rel =>
            have key : ∀ a : Int, a = q → ∃ xc : Hou, Longer c xc ∧ Later w1 (wA.setCell ⟨g9, 0, none⟩ (.int .i64 a)) ∧ CV (wA.setCell ⟨g9, 0, none⟩ (.int .i64 a)) xc A1 n1 At n2 A3 n3 ∧ Blk (wA.setCell ⟨g9, 0, none⟩ (.int .i64 a)) g9 26 #[.int .i64 xc.hour, .int .i64 xc.grace, .slice A1 n1 k1, .slice At n2 kt, .slice A3 n3 k3] := fun a ea => by
              subst ea
              have hL := later_set hLA ⟨g9, 0, none⟩ hlo9 (.int .i64 a)
              have hc2 := hc0.later (Later.trans hL1 hL)
              have ho2 := own_block (W' := wA.setCell ⟨g9, 0, none⟩ (.int .i64 a)) hoA (fun g hg => Below.heap_setCell wA _ _ g (by have := (hoA.lt g hg).1; show g ≠ g9; omega))
              refine ⟨hourMore c s, Hlw.out, hL, ⟨hc2.ck, Reads.of_own ho2, hc2.cp⟩, ?_⟩
              rw [Hbq.out]
              exact hbA.set_ 0 _
            exact key _ (by have := Hq.out; omega)
    case rest =>
      obtain ⟨xc, hlg, hK10, hcx, hbx⟩ := hcut
      obtain ⟨w10, rfl⟩ : ∃ W : World, W = wc := ⟨_, rfl⟩
      have hL10 := Later.trans hL1 hK10
      have hbxx := fun W (hW : Later w10 W) => (hbx.later hW).cell
      have hz0 := fun W hW => hbxx W hW 0
      have hz1 := fun W hW => hbxx W hW 1
      have hz2 := fun W hW => hbxx W hW 2
      have hz3 := fun W hW => hbxx W hW 3
      have hz4 := fun W hW => hbxx W hW 4
      simp only [List.getElem?_toArray, List.getElem?_cons_zero, List.getElem?_cons_succ] at hz0 hz1 hz2 hz3 hz4
      have hT10 : Later w10 w10 := later_refl _
      have hbx0 := fun W (hW : Later w10 W) => hbox W (Later.trans hL10 hW)
      have hea := hlg.asked
      have hlaw := hlg.law
      have hhc := fun (B1 B2 B3 : Option Addr) (j1 j2 j3 : Nat) (W : World) (h : CV W c B1 n1 B2 n2 B3 n3) => HoursP_calls (k1 := j1) (k2 := j2) (k3 := j3) W h (by omega) (by omega) (by omega)
      have hhx := fun (B1 B2 B3 : Option Addr) (j1 j2 j3 : Nat) (W : World) (h : CV W xc B1 n1 B2 n2 B3 n3) => HoursP_calls (k1 := j1) (k2 := j2) (k3 := j3) W h (by omega) (by omega) (by omega)
      have hgc := fun (B1 B2 B3 : Option Addr) (j1 j2 j3 : Nat) (W : World) (h : CV W c B1 n1 B2 n2 B3 n3) => LongP_calls (k1 := j1) (k2 := j2) (k3 := j3) W h (by omega) (by omega) (by omega)
      have hgx := fun (B1 B2 B3 : Option Addr) (j1 j2 j3 : Nat) (W : World) (h : CV W xc B1 n1 B2 n2 B3 n3) => LongP_calls (k1 := j1) (k2 := j2) (k3 := j3) W h (by omega) (by omega) (by omega)
      unfold PairsPost at hhc hhx
      unfold IntsPost at hgc hgx
      rw [hea] at hhx hgx
      clear hea hbxx hbx hlg hoA hbA hLA hbox hbxa
      have hcases : (askedErr c 0 = 0 ∨ askedErr c 0 = 11) := by rcases asked_cases Hf.out with ⟨h, _⟩ | ⟨h, _⟩ <;> simp [h]
      have Hlaw := hide hlaw
      clear hlaw
      rcases hcases with he | he
      · rw [he] at hhc hhx hgc hgx
        obtain ⟨lh1, lh2, lv1, lv2, hordh, hordv⟩ := Hlaw.out he
        have Hhc := hide hhc
        have Hhx := hide hhx
        have Hgc := hide hgc
        have Hgx := hide hgx
        have Hordh := hide hordh
        have Hordv := hide hordv
        have Hlh1 := hide lh1
        have Hlh2 := hide lh2
        have Hlv1 := hide lv1
        have Hlv2 := hide lv2
        clear hhc hhx hgc hgx hordh hordv lh1 lh2 lv1 lv2 he
        go_wp2_with fail
        refine (lawHouse_calls (k1 := k1) (k2 := k2) (k3 := k3) w10 (hc0.later hL10) (by omega) (by omega) (by omega)).mono ?_
        rintro e wa ⟨B1a, j1a, B2a, j2a, B3a, j3a, rfl, hMa, hca, hj1a, hj2a, hj3a⟩
        have hLa := Later.trans hL10 hMa
        go_wp2_with fail
        refine (Hhc.out _ _ _ _ _ _ wa hca).mono ?_
        rintro e w17 ⟨Ah, nh, kh, rfl, hM17, hrh⟩
        have hK17 := Later.trans hMa hM17
        have hL17 := Later.trans hL10 hK17
        clear hca hj1a hj2a hj3a hMa hLa hM17
        go_wp2_with fail
        refine (lawHouse_calls (k1 := k1) (k2 := kt) (k3 := k3) w17 (hcx.later hK17) (by omega) (by omega) (by omega)).mono ?_
        rintro e wa ⟨B1a, j1a, B2a, j2a, B3a, j3a, rfl, hMa, hca, hj1a, hj2a, hj3a⟩
        have hLa := Later.trans hL17 hMa
        go_wp2_with fail
        refine (Hhx.out _ _ _ _ _ _ wa hca).mono ?_
        rintro e w18 ⟨Ai, ni, ki, rfl, hM18, hri⟩
        have hQ18 := Later.trans hMa hM18
        have hK18 := Later.trans hK17 hQ18
        have hL18 := Later.trans hL10 hK18
        have hrh18 := hrh.later hQ18
        clear hca hj1a hj2a hj3a hMa hLa hM18 hrh
        go_wp2_with fail
        refine (lawHouse_calls (k1 := k1) (k2 := k2) (k3 := k3) w18 (hc0.later hL18) (by omega) (by omega) (by omega)).mono ?_
        rintro e wa ⟨B1a, j1a, B2a, j2a, B3a, j3a, rfl, hMa, hca, hj1a, hj2a, hj3a⟩
        have hLa := Later.trans hL18 hMa
        go_wp2_with fail
        refine (Hgc.out _ _ _ _ _ _ wa hca).mono ?_
        rintro e w19 ⟨Ag, ng, kg, rfl, hM19, hrg⟩
        have hQ19 := Later.trans hMa hM19
        have hK19 := Later.trans hK18 hQ19
        have hL19 := Later.trans hL10 hK19
        clear hca hj1a hj2a hj3a hMa hLa hM19
        go_wp2_with fail
        refine (lawHouse_calls (k1 := k1) (k2 := kt) (k3 := k3) w19 (hcx.later hK19) (by omega) (by omega) (by omega)).mono ?_
        rintro e wa ⟨B1a, j1a, B2a, j2a, B3a, j3a, rfl, hMa, hca, hj1a, hj2a, hj3a⟩
        have hLa := Later.trans hL19 hMa
        go_wp2_with fail
        refine (Hgx.out _ _ _ _ _ _ wa hca).mono ?_
        rintro e w20 ⟨Av, nv, kv, rfl, hM20, hrv⟩
        have hQ20 := Later.trans hMa hM20
        have hK20 := Later.trans hK19 hQ20
        have hL20 := Later.trans hL10 hK20
        have hrg20 := hrg.later hQ20
        have hQ1820 := Later.trans hQ19 hQ20
        have hrh20 := hrh18.later hQ1820
        have hri20 := hri.later hQ1820
        have hnh := hrh20.len
        have hni := hri20.len
        have hng := hrg20.len
        have hnv := hrv.len
        rw [Hlh1.out, ← Hn2.out] at hnh
        rw [Hlh2.out, ← Hn2.out] at hni
        rw [Hlv1.out, ← Hn2.out] at hng
        rw [Hlv2.out, ← Hn2.out] at hnv
        subst nh ni ng nv
        have hne2 : ((n2 : Int) != (n2 : Int)) = false := by simp
        have hx20 := hbx0 w20 hK20 3
        simp only [List.getElem?_toArray, List.getElem?_cons_zero, List.getElem?_cons_succ] at hx20
        clear hca hj1a hj2a hj3a hMa hLa hM20 hrg hrh18 hri hQ18 hQ19 hQ20 hQ1820
        go_wp2_with fail
        clear hx20
        go_loopw [18] (fun v wr => ∃ i : Nat, i ≤ n2 ∧ v = .int .i64 i ∧ Later w20 wr) (fun v _ => n2 - (intOf v).toNat)
        case atStart => exact ⟨0, Nat.zero_le _, rfl, later_refl _⟩
        case round =>
          obtain ⟨i, hi, rfl, hL⟩ := hrel
          have hL0r := Later.trans hL20 hL
          by_cases hlt : i < n2
          · have hi1 : (i : Int) < n2 := by omega
            obtain ⟨ba, oa, ⟨a1, a2⟩, rfl, _, ha, ha1, ha2⟩ := hrh20.get hlt
            obtain ⟨bb, ob, ⟨d1, d2⟩, rfl, _, hb, hb1, hb2⟩ := hri20.get hlt
            obtain ⟨bu, ou, u, rfl, _, hu, hu0⟩ := hrg20.get hlt
            obtain ⟨bv, ov, v, rfl, _, hv, hv0⟩ := hrv.get hlt
            obtain ⟨q1, q2⟩ := Hordh.out i _ _ ha hb
            obtain ⟨q3, q4⟩ := Hordv.out i _ _ hu hv
            dsimp only at q1 q2 ha1 ha2 hb1 hb2
            have hd1 : decide (a1 < d1) = false := decide_eq_false (by omega)
            have hd2 : decide (a2 < d2) = false := decide_eq_false (by omega)
            have c1 := fun W (hW : Later wr W) => ha1 W (Later.trans hL hW)
            have c2 := fun W (hW : Later wr W) => ha2 W (Later.trans hL hW)
            have c3 := fun W (hW : Later wr W) => hb1 W (Later.trans hL hW)
            have c4 := fun W (hW : Later wr W) => hb2 W (Later.trans hL hW)
            have c5 := fun W (hW : Later wr W) => hu0 W (Later.trans hL hW)
            have c6 := fun W (hW : Later wr W) => hv0 W (Later.trans hL hW)
            clear ha hb hu hv ha1 ha2 hb1 hb2 hu0 hv0 q1 q2
            by_cases h2 : u = 2
            · obtain rfl := q3 h2
              subst h2
              clear q3 q4
              go_wp2_with fail
              refine wp_region_ext (w0 := wr) (by kernel_rfl) (by kernel_rfl) (later_refl _) ?_; (repeat (first | go_big_quiet_step ((fail)) | quiet_step ((fail)))); refine wpQuiet_nil ?_; rintro w1x ⟨⟨_, hM1⟩, rfl⟩; (try dsimp only)
              go_wp2_with fail
              go_roundw
              case rel => exact ⟨i + 1, hlt, by go_num, Later.trans hL hM1⟩
              case measure => simp [intOf]; omega
            · have h2b : (u == 2) = false := by simpa using h2
              by_cases h1 : v = 1
              · obtain rfl := q4 h1
                subst h1
                clear q3 q4 h2
                go_wp2_with fail
                refine wp_region_ext (w0 := wr) (by kernel_rfl) (by kernel_rfl) (later_refl _) ?_; (repeat (first | go_big_quiet_step ((fail)) | quiet_step ((fail)))); refine wpQuiet_nil ?_; rintro w1x ⟨⟨_, hM1⟩, rfl⟩; (try dsimp only)
                go_wp2_with fail
                go_roundw
                case rel => exact ⟨i + 1, hlt, by go_num, Later.trans hL hM1⟩
                case measure => simp [intOf]; omega
              · have h1b : (v == 1) = false := by simpa using h1
                clear q3 q4 h2 h1
                go_wp2_with fail
                refine wp_region_ext (w0 := wr) (by kernel_rfl) (by kernel_rfl) (later_refl _) ?_; (repeat (first | go_big_quiet_step ((fail)) | quiet_step ((fail)))); refine wpQuiet_nil ?_; rintro w1x ⟨⟨_, hM1⟩, rfl⟩; (try dsimp only)
                go_wp2_with fail
                go_roundw
                case rel => exact ⟨i + 1, hlt, by go_num, Later.trans hL hM1⟩
                case measure => simp [intOf]; omega
          · have hi1 : ¬ (i : Int) < n2 := by omega
            clear hlt
            go_wp2_with fail
            refine (awake_calls _).mono ?_
            rintro e wa ⟨rfl, hLa⟩
            go_wp2_with fail
            go_ret
            exact ⟨rfl, Later.trans hL0 (Later.trans hL0r hLa)⟩
      · rw [he] at hhc hhx hgc hgx
        have Hhc := hide hhc
        have Hhx := hide hhx
        have Hgc := hide hgc
        have Hgx := hide hgx
        clear hhc hhx hgc hgx he
        go_wp2_with fail
        refine (lawHouse_calls (k1 := k1) (k2 := k2) (k3 := k3) w10 (hc0.later hL10) (by omega) (by omega) (by omega)).mono ?_
        rintro e wa ⟨B1a, j1a, B2a, j2a, B3a, j3a, rfl, hMa, hca, hj1a, hj2a, hj3a⟩
        have hLa := Later.trans hL10 hMa
        go_wp2_with fail
        refine (Hhc.out _ _ _ _ _ _ wa hca).mono ?_
        rintro e w17 ⟨Ah, nh, kh, rfl, hM17, _⟩
        have hK17 := Later.trans hMa hM17
        have hL17 := Later.trans hL10 hK17
        clear hca hj1a hj2a hj3a hMa hLa hM17
        go_wp2_with fail
        refine (lawHouse_calls (k1 := k1) (k2 := kt) (k3 := k3) w17 (hcx.later hK17) (by omega) (by omega) (by omega)).mono ?_
        rintro e wa ⟨B1a, j1a, B2a, j2a, B3a, j3a, rfl, hMa, hca, hj1a, hj2a, hj3a⟩
        have hLa := Later.trans hL17 hMa
        go_wp2_with fail
        refine (Hhx.out _ _ _ _ _ _ wa hca).mono ?_
        rintro e w18 ⟨Ai, ni, ki, rfl, hM18, _⟩
        have hK18 := Later.trans hK17 (Later.trans hMa hM18)
        have hL18 := Later.trans hL10 hK18
        clear hca hj1a hj2a hj3a hMa hLa hM18
        go_wp2_with fail
        refine (lawHouse_calls (k1 := k1) (k2 := k2) (k3 := k3) w18 (hc0.later hL18) (by omega) (by omega) (by omega)).mono ?_
        rintro e wa ⟨B1a, j1a, B2a, j2a, B3a, j3a, rfl, hMa, hca, hj1a, hj2a, hj3a⟩
        have hLa := Later.trans hL18 hMa
        go_wp2_with fail
        refine (Hgc.out _ _ _ _ _ _ wa hca).mono ?_
        rintro e w19 ⟨Ag, ng, kg, rfl, hM19, _⟩
        have hK19 := Later.trans hK18 (Later.trans hMa hM19)
        have hL19 := Later.trans hL10 hK19
        clear hca hj1a hj2a hj3a hMa hLa hM19
        go_wp2_with fail
        refine (lawHouse_calls (k1 := k1) (k2 := kt) (k3 := k3) w19 (hcx.later hK19) (by omega) (by omega) (by omega)).mono ?_
        rintro e wa ⟨B1a, j1a, B2a, j2a, B3a, j3a, rfl, hMa, hca, hj1a, hj2a, hj3a⟩
        have hLa := Later.trans hL19 hMa
        go_wp2_with fail
        refine (Hgx.out _ _ _ _ _ _ wa hca).mono ?_
        rintro e w20 ⟨Av, nv, kv, rfl, hM20, _⟩
        have hK20 := Later.trans hK19 (Later.trans hMa hM20)
        have hL20 := Later.trans hL10 hK20
        clear hca hj1a hj2a hj3a hMa hLa hM20
        go_wp2_with fail
        refine (awake_calls _).mono ?_
        rintro e wa ⟨rfl, hLa⟩
        go_wp2_with fail
        go_ret
        exact ⟨rfl, Later.trans hL0 (Later.trans hL20 hLa)⟩
end Go.Proofs.Ytbkfnajpbhfneaa
