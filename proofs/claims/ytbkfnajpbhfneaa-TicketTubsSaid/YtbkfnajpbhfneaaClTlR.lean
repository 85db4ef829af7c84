/- The law TicketTubs: walk. -/
import Derived.Test.YtbkfnajpbhfneaaPart14
import Derived.Test.YtbkfnajpbhfneaaPart13
set_option linter.unusedSimpArgs false
set_option linter.unusedVariables false
namespace Go.Proofs.Ytbkfnajpbhfneaa
open Go Go.RowKit
attribute [local go_sem] later_alloc2 later_alloc3 later_alloc4

set_option maxRecDepth 100000 in
set_option maxHeartbeats 8000000 in
theorem lawTubs_calls {A1 A2 A3 : Option Addr} {n1 k1 n2 k2 n3 k3 : Nat} {c : Hou} {p q z : Nat} (w : World) (hc : CV w c A1 n1 A2 n2 A3 n3) (b1 : n1 ≤ 9223372036854775807) (b2 : n2 ≤ 9223372036854775807) (b3 : n3 ≤ 9223372036854775807) (hp : p < 256) (hq : q < 256) (hz : z < 65536) :
    Calls Try.prog 16 #[(.agg #[.int .i64 c.hour, .int .i64 c.grace, .slice A1 n1 k1, .slice A2 n2 k2, .slice A3 n3 k3]), .int .u8 p, .int .u8 q, .int .u16 z] w fun e w' => e = .returned (.bool true) ∧ Later w w' := by
  obtain ⟨w0, hw0⟩ : ∃ W, W = (w.alloc (.cells #[.int .i64 c.hour, .int .i64 c.grace, .slice A1 n1 k1, .slice A2 n2 k2, .slice A3 n3 k3] 26)) := ⟨_, rfl⟩; have hbox : ∀ W, Later w0 W → ∀ i, W.cell? ⟨w.heap.size, i, none⟩ = #[.int .i64 c.hour, .int .i64 c.grace, .slice A1 n1 k1, .slice A2 n2 k2, .slice A3 n3 k3][i]? := (by rw [hw0]; exact box_cells w #[.int .i64 c.hour, .int .i64 c.grace, .slice A1 n1 k1, .slice A2 n2 k2, .slice A3 n3 k3] 26); have hL0 : Later w w0 := (by rw [hw0]; simp); have hc0 := hc.later hL0; have Hw0 := hide hw0; clear hw0
  have hrdy := ready_calls (k1 := k1) (k2 := k2) (k3 := k3) w0 hc0 b1 b2 b3
  cases hth : readyB c with
  | false =>
    rw [hth] at hrdy
    have Hrdy := hide hrdy
    clear hth hrdy
    go_enter Try.func16, Try.ntmps16
    go_wp2_with fail
    rw [← Hw0.out]; clear Hw0
    refine Hrdy.out.mono ?_
    rintro e w1 ⟨rfl, hL1⟩
    go_wp2_with fail
    refine (awake_calls _).mono ?_
    rintro e w2 ⟨rfl, hL2⟩
    go_wp2_with fail
    go_ret
    exact ⟨rfl, Later.trans hL0 (Later.trans hL1 hL2)⟩
  | true =>
    rw [hth] at hrdy
    have hn1 := hc.ck.len
    have hn2 := hc.tk.len
    have hn3 := hc.cp.len
    have hf := (readyB_true hth).2
    have ok := okH_of_fault hf
    have hmy := many_le hf
    have l1 : n1 ≤ 4 := by have := ok.n1; omega
    have l2 : n2 ≤ 6 := by have := ok.n2; omega
    have l3 : n3 ≤ 10 := by have := ok.n3; omega
    have Hn1 := hide hn1
    have Hn2 := hide hn2
    have Hn3 := hide hn3
    have Hf := hide hf
    have Hmy := hide hmy
    have Hrdy := hide hrdy
    clear hth hrdy hn1 hn2 hn3 hf hmy
    have hbx2 := fun W (hW : Later w0 W) => hbox W hW 3
    simp only [List.getElem?_toArray, List.getElem?_cons_zero, List.getElem?_cons_succ] at hbx2
    by_cases hn : n2 < 2
    · have hnb : (n2 : Int) < 2 := by omega
      go_enter Try.func16, Try.ntmps16
      go_wp2_with fail
      rw [← Hw0.out]; clear Hw0
      refine Hrdy.out.mono ?_
      rintro e w1 ⟨rfl, hL1⟩
      have hx1 := hbx2 w1 hL1
      go_wp2_with fail
      refine (awake_calls _).mono ?_
      rintro e wa ⟨rfl, hLa⟩
      go_wp2_with fail
      go_ret
      exact ⟨rfl, Later.trans hL0 (Later.trans hL1 hLa)⟩
    · have hnb : ¬ (n2 : Int) < 2 := by omega
      obtain ⟨a, gza⟩ : ∃ k, p % n2 = k := ⟨_, rfl⟩
      have za1 : (p : Int).tmod (n2 : Int) = (a : Int) := by rw [← gza, Int.tmod_eq_emod_of_nonneg (by omega)]; norm_cast
      have za2 : (p : Int) % (n2 : Int) = (a : Int) := by rw [← gza]; norm_cast
      have hza : a < n2 := by rw [← gza]; exact Nat.mod_lt _ (by omega)
      have za3 : IntKind.i64.wrap (a : Int) = (a : Int) := IntWalk.i64_in _ (by omega)
      have za4 : ¬ n2 = 0 := by omega
      have za5 : ¬ (n2 : Int) = 0 := by omega
      have za6 : IntKind.i64.wrap (p : Int) = (p : Int) := IntWalk.i64_in _ (by omega)
      clear gza
      obtain ⟨b, gzb⟩ : ∃ k, q % n2 = k := ⟨_, rfl⟩
      have zb1 : (q : Int).tmod (n2 : Int) = (b : Int) := by rw [← gzb, Int.tmod_eq_emod_of_nonneg (by omega)]; norm_cast
      have zb2 : (q : Int) % (n2 : Int) = (b : Int) := by rw [← gzb]; norm_cast
      have hzb : b < n2 := by rw [← gzb]; exact Nat.mod_lt _ (by omega)
      have zb3 : IntKind.i64.wrap (b : Int) = (b : Int) := IntWalk.i64_in _ (by omega)
      have zb4 : ¬ n2 = 0 := by omega
      have zb5 : ¬ (n2 : Int) = 0 := by omega
      have zb6 : IntKind.i64.wrap (q : Int) = (q : Int) := IntWalk.i64_in _ (by omega)
      clear gzb
      clear hn
      by_cases hab : a = b
      · subst hab
        have hxx : ((a : Int) == (a : Int)) = true := by simp
        go_enter Try.func16, Try.ntmps16
        go_wp2_with fail
        rw [← Hw0.out]; clear Hw0
        refine Hrdy.out.mono ?_
        rintro e w1 ⟨rfl, hL1⟩
        have hbx1 := fun W (hW : Later w1 W) => hbx2 W (Later.trans hL1 hW)
        have hx1 := hbx1 w1 (later_refl _)
        go_wp2_with fail
        refine wp_region_ext (w0 := w1) (by kernel_rfl) (by kernel_rfl) (later_refl _) ?_; (repeat (first | go_big_quiet_step ((fail)) | quiet_step ((fail)))); refine wpQuiet_nil ?_; rintro w2 ⟨⟨_, hM2⟩, rfl⟩; (try dsimp only)
        go_wp2_with fail
        refine (awake_calls _).mono ?_
        rintro e wa ⟨rfl, hLa⟩
        go_wp2_with fail
        go_ret
        exact ⟨rfl, Later.trans hL0 (Later.trans (Later.trans hL1 hM2) hLa)⟩
      · have hxx : ((a : Int) == (b : Int)) = false := by simp; omega
        have hcp := fun (s t : Int) (B1 B2 B3 : Option Addr) (j1 j2 j3 : Nat) (W : World) (h : CV W c B1 n1 B2 n2 B3 n3) => ClashP_calls (a := s) (b := t) (k1 := j1) (k2 := j2) (k3 := j3) W h (by omega) (by omega) (by omega)
        have hfp := fun (t : Int) (B1 B2 B3 : Option Addr) (j1 j2 j3 : Nat) (W : World) (h : CV W c B1 n1 B2 n2 B3 n3) => FreeP_calls (tub := t) (k1 := j1) (k2 := j2) (k3 := j3) W h (by omega) (by omega) (by omega)
        have hpk := fun (W : World) (h : Later w0 W) => pick_calls (k1 := k1) (k2 := k2) (k3 := k3) (z := z) W (hc0.later h) Hf.out hz
        have hda : clashDue c a b = 0 := clashDue_nat (by have := Hn2.out; omega) (by have := Hn2.out; omega) hab
        have hdb : clashDue c b a = 0 := clashDue_nat (by have := Hn2.out; omega) (by have := Hn2.out; omega) (Ne.symm hab)
        have hca1 := hcp a b
        have hcb1 := hcp b a
        rw [hda] at hca1
        rw [hdb] at hcb1
        clear hcp hda hdb
        rcases asked_cases Hf.out with ⟨he, hne, htn⟩ | ⟨he, _, htn⟩
        · have hvc := clashOut_comm he (a := a) (b := b) (by have := Hn2.out; omega) (by have := Hn2.out; omega) hab
          have hvt := clash_tubs he (a := a) (b := b) (by have := Hn2.out; omega) (by have := Hn2.out; omega) hab
          have hvf := fun d (hd : d ∈ truths c) => clash_fits he (a := a) (b := b) (by have := Hn2.out; omega) (by have := Hn2.out; omega) hab hd
          rw [he, ] at hca1 hcb1
          rw [← hvc] at hcb1
          obtain ⟨v, hv⟩ : ∃ v, clashOut c a b = v := ⟨_, rfl⟩
          rw [hv] at hca1 hcb1 hvt
          simp only [hv] at hvf
          have hvv : (v != v) = false := by simp
          obtain ⟨ba, oa, x, rfl, _, hx, hx0, hx1⟩ := hc0.tk.get hza
          obtain ⟨bb, ob, y, ey, _, hy, hy0, hy1⟩ := hc0.tk.get hzb
          obtain ⟨rfl, rfl⟩ := some_lit ey
          obtain ⟨x1, x2⟩ := x
          obtain ⟨y1, y2⟩ := y
          dsimp only at hx0 hy0
          have htx : (tickAt c a).1 = x1 := by rw [tickAt_of hx]
          have hty : (tickAt c b).1 = y1 := by rw [tickAt_of hy]
          rw [htx, hty] at hvt
          have hff := fun d (hd : d ∈ truths c) (ho : isOpen c x1 = false) => free_fits (a := a) Hf.out hd (by have := Hn2.out; omega) (by rw [htx]; exact ho)
          have hfo := fun (ho : isOpen c x1 = true) => free_open (a := a) Hf.out (by have := Hn2.out; omega) (by rw [htx]; exact ho)
          rw [htx] at hfo
          simp only [htx] at hff
          have hop := fun (W : World) (h : Later w0 W) => IsOpen_calls (tub := x1) (k1 := k1) (k2 := k2) (k3 := k3) W (hc0.later h) (by omega) (by omega)
          have hpl := fun d (hd : d ∈ truths c) (B1 B2 B3 : Option Addr) (j1 j2 j3 : Nat) (W : World) (h : CV W c B1 n1 B2 n2 B3 n3) (Ad : Option Addr) (nd kd : Nat) (hr : RI W Ad nd d) =>
            PlayP_calls (k1 := j1) (k2 := j2) (k3 := j3) (kl := kd) W h hr (by omega) (by omega) (by omega) (by have h1 := hr.len; have h2 := (truths_isErr ok d hd).len; have h3 := Hn1.out; omega)
          unfold PlayPost at hpl
          have Hca := hide hca1
          have Hcb := hide hcb1
          have Hfp := hide (hfp x1)
          have Hpk := hide hpk
          have Hvt := hide hvt
          have Hvf := hide hvf
          have Hff := hide hff
          have Hfo := hide hfo
          have Hop := hide hop
          have Hpl := hide hpl
          have Hne := hide htn
          have hza2 : (a : Int) < n2 := by omega
          have hzb2 : (b : Int) < n2 := by omega
          clear hca1 hcb1 hfp hpk hvt hvf hff hfo hop hpl htn hne he hvc hv hx hy hx1 hy1 htx hty ey hab hza hzb
          go_enter Try.func16, Try.ntmps16
          go_wp2_with fail
          rw [← Hw0.out]; clear Hw0
          refine Hrdy.out.mono ?_
          rintro e w1 ⟨rfl, hL1⟩
          have hbx1 := fun W (hW : Later w1 W) => hbx2 W (Later.trans hL1 hW)
          have hx1 := hbx1 w1 (later_refl _)
          clear hbx2
          go_wp2_with fail
          refine wp_region_ext (w0 := w1) (by kernel_rfl) (by kernel_rfl) (later_refl _) ?_; (repeat (first | go_big_quiet_step ((fail)) | quiet_step ((fail)))); refine wpQuiet_nil ?_; rintro w2 ⟨⟨_, hM2⟩, rfl⟩; (try dsimp only)
          have hL2 := Later.trans hL1 hM2
          go_wp2_with fail
          refine (lawHouse_calls (k1 := k1) (k2 := k2) (k3 := k3) w2 (hc0.later hL2) (by omega) (by omega) (by omega)).mono ?_
          rintro e wd ⟨B1d, j1d, B2d, j2d, B3d, j3d, rfl, hMd, hcd, hj1d, hj2d, hj3d⟩
          have hLd := Later.trans hL2 hMd
          go_wp2_with fail
          refine (Hca.out _ _ _ _ _ _ wd hcd).mono ?_
          rintro e w3 ⟨rfl, hM3⟩
          have hL3 := Later.trans hLd hM3
          clear hcd hj1d hj2d hj3d hMd hLd hM3
          go_wp2_with fail
          refine (lawHouse_calls (k1 := k1) (k2 := k2) (k3 := k3) w3 (hc0.later hL3) (by omega) (by omega) (by omega)).mono ?_
          rintro e wd ⟨B1d, j1d, B2d, j2d, B3d, j3d, rfl, hMd, hcd, hj1d, hj2d, hj3d⟩
          have hLd := Later.trans hL3 hMd
          go_wp2_with fail
          refine (Hcb.out _ _ _ _ _ _ wd hcd).mono ?_
          rintro e w4 ⟨rfl, hM4⟩
          have hL4 := Later.trans hLd hM4
          clear hcd hj1d hj2d hj3d hMd hLd hM4
          go_wp2_with fail
          refine (Hpk.out w4 hL4).mono ?_
          rintro e w5 ⟨At, nt, kt, is, rfl, hM5, hpk⟩
          have hL5 := Later.trans hL4 hM5
          rcases hpk with ⟨rfl, h0⟩ | ⟨rfl, d, hd, hrt⟩
          · exact absurd h0 Hne.out
          · have hvf := Hvf.out d hd
            have hff := Hff.out d hd
            have hdr := truths_isErr ok d hd
            have hnt := hrt.len
            have hnt4 : nt ≤ 4 := by have := hdr.len; have := ok.n1; omega
            have hpl := Hpl.out d hd
            have hpf := play_fits Hf.out hd
            rw [hpf.1] at hpl
            have hpn : (playL c d).length = n3 := by rw [hpf.2, List.length_map, Hn3.out]
            rw [hpn] at hpl
            have hpm := hpf.2
            obtain ⟨ml, hml⟩ : ∃ m, playL c d = m := ⟨_, rfl⟩
            rw [hml] at hpl hpm
            have hdc := fun (W : World) (h : Later w5 W) (o : Bool) (ho : clashB c d a b = o) => DoClash_eq (k1 := k1) (k2 := k2) (k3 := k3) (kd := kt) ho W (hc0.later (Later.trans hL5 h)) (hrt.later h) ok hdr (by omega) (by omega)
            have Hff := hide hff
            have Hvf := hide hvf
            have Hdc := hide hdc
            have Hpl := hide hpl
            have Hpm := hide hpm
            have Hdr := hide hdr
            have Hd := hide hd
            clear hvf hff hdc hpl hpf hpn hpm hml hdr hnt hd
            have hyz := fun W (hW : Later w5 W) => hy0 W (Later.trans hL5 hW)
            have hxz := hx0 w5 hL5
            have hb5 := hbox w5 hL5 3
            simp only [List.getElem?_toArray, List.getElem?_cons_zero, List.getElem?_cons_succ] at hb5
            have hb6 := fun W (hW : Later w5 W) => hbox W (Later.trans hL5 hW)
            have hfp := Hfp.out
            have hop := Hop.out
            obtain ⟨f1, hf1⟩ : ∃ q, (freeOut c x1).1 = q := ⟨_, rfl⟩
            obtain ⟨f2, hf2⟩ : ∃ q, (freeOut c x1).2 = q := ⟨_, rfl⟩
            rw [hf1, hf2] at hfp
            cases ho : isOpen c x1 with
            | true =>
              have hfo := Hfo.out ho
              rw [hfo] at hfp
              rw [ho] at hop
              have Hfp2 := hide hfp
              have Hop2 := hide hop
              clear hfp hop hfo ho Hfo Hff hf1 hf2
              go_upto_region 12 with fail
              go_wp2_with fail
              refine (lawHouse_calls (k1 := k1) (k2 := k2) (k3 := k3) w5 (hc0.later hL5) (by omega) (by omega) (by omega)).mono ?_
              rintro e we ⟨B1e, j1e, B2e, j2e, B3e, j3e, rfl, hMe, hce, hj1e, hj2e, hj3e⟩
              have hLe := Later.trans hL5 hMe
              go_wp2_with fail
              refine (Hfp2.out _ _ _ _ _ _ we hce).mono ?_
              rintro e w6 ⟨rfl, hM6⟩
              have hL6 := Later.trans hLe hM6
              obtain ⟨w7, hw7⟩ : ∃ W, W = w6.alloc (.cells #[.int .i64 f1, .int .i64 f2] 42) := ⟨_, rfl⟩
              obtain ⟨g7, hg7⟩ : ∃ g, g = w6.heap.size := ⟨_, rfl⟩
              have hb7 : Blk w7 g7 42 #[.int .i64 f1, .int .i64 f2] := by rw [hw7, hg7]; exact Blk.new _ _ _
              have hM7 : Later w6 w7 := by rw [hw7]; exact later_alloc (later_refl _) _
              have Hw7 := hide hw7
              have Hg7 := hide hg7
              have hK7 := Later.trans hMe (Later.trans hM6 hM7)
              have hL7 := Later.trans hL6 hM7
              clear hw7 hg7 hce hj1e hj2e hj3e hMe hLe hM6
              go_upto_region 13 with fail
              rw [← Hw7.out, ← Hg7.out]
              clear Hw7 Hg7
              go_wp2_with fail
              refine (lawHouse_calls (k1 := k1) (k2 := k2) (k3 := k3) w7 (hc0.later hL7) (by omega) (by omega) (by omega)).mono ?_
              rintro e we ⟨B1e, j1e, B2e, j2e, B3e, j3e, rfl, hMe, hce, hj1e, hj2e, hj3e⟩
              have hLe := Later.trans hL7 hMe
              have hrt8 := hrt.later (Later.trans hK7 hMe)
              go_wp2_with fail
              refine (list_calls _ hrt8 (by omega)).mono ?_
              rintro e w8 ⟨Ab, nb, kb, rfl, hM8, hrb, _, _⟩
              have hL8 := Later.trans hLe hM8
              go_wp2_with fail
              refine (Hpl.out _ _ _ _ _ _ w8 (hce.later hM8) _ _ _ hrb).mono ?_
              rintro e w9 ⟨Am, km, rfl, hM9, hrm⟩
              have hL9 := Later.trans hL8 hM9
              have hK79 := Later.trans hMe (Later.trans hM8 hM9)
              have hK9 := Later.trans hK7 hK79
              have hy9 := hyz w9 hK9
              have hc93 := hbox w9 hL9 3
              have hc94 := hbox w9 hL9 4
              simp only [List.getElem?_toArray, List.getElem?_cons_zero, List.getElem?_cons_succ] at hc93 hc94
              have hne3 : ((n3 : Int) != (n3 : Int)) = false := by simp
              have Hst : SteadyP v (clashB c d a b) := Hvf.out
              obtain ⟨cl, hcl⟩ : ∃ q, clashB c d a b = q := ⟨_, rfl⟩
              have hdc9 := Hdc.out w9 hK9 cl hcl
              rw [hcl] at Hst
              have Hst2 : Hid (SteadyP v cl) := Hst
              have Hdc9 := hide hdc9
              clear hce hj1e hj2e hj3e hMe hLe hM8 hrb hrt8 hdc9 Hst hcl
              by_cases hyx : y1 = x1
              · have hyb : (y1 != x1) = false := by simp [hyx]
                clear hyx
                go_wp2_with fail
                refine Hdc9.out.mono ?_
                rintro e w10 ⟨rfl, hM10⟩
                go_wp2_with fail
                refine (steady_calls w10 Hst2.out).mono ?_
                rintro e w11 ⟨rfl, hM11⟩
                have hM911 := Later.trans hM10 hM11
                have hL11 := Later.trans hL9 hM911
                clear hM10 hM11 hc93 hc94 hy9
                go_wp2_with fail
                refine (Hop2.out w11 hL11).mono ?_
                rintro e w12 ⟨rfl, hM12⟩
                have hL12 := Later.trans hL11 hM12
                go_wp2_with fail
                refine (awake_calls _).mono ?_
                rintro e wa ⟨rfl, hLa⟩
                go_wp2_with fail
                go_ret
                exact ⟨rfl, Later.trans hL0 (Later.trans hL12 hLa)⟩
              · have hyb : (y1 != x1) = true := by simpa using hyx
                obtain rfl := Hvt.out hyx
                clear hyx
                go_wp2_with fail
                refine Hdc9.out.mono ?_
                rintro e w10 ⟨rfl, hM10⟩
                go_wp2_with fail
                refine (steady_calls w10 Hst2.out).mono ?_
                rintro e w11 ⟨rfl, hM11⟩
                have hM911 := Later.trans hM10 hM11
                have hL11 := Later.trans hL9 hM911
                clear hM10 hM11 hc93 hc94 hy9
                go_wp2_with fail
                refine (Hop2.out w11 hL11).mono ?_
                rintro e w12 ⟨rfl, hM12⟩
                have hL12 := Later.trans hL11 hM12
                go_wp2_with fail
                refine (awake_calls _).mono ?_
                rintro e wa ⟨rfl, hLa⟩
                go_wp2_with fail
                go_ret
                exact ⟨rfl, Later.trans hL0 (Later.trans hL12 hLa)⟩
            | false =>
              obtain ⟨hfe, hfi⟩ := Hff.out ho
              rw [hfe] at hfp
              rw [hf1, hf2] at hfi
              have Hfi := hide hfi
              have Hfp2 := hide hfp
              clear hfp hop hfe hfi ho Hfo Hff hf1 hf2
              go_upto_region 12 with fail
              go_wp2_with fail
              refine (lawHouse_calls (k1 := k1) (k2 := k2) (k3 := k3) w5 (hc0.later hL5) (by omega) (by omega) (by omega)).mono ?_
              rintro e we ⟨B1e, j1e, B2e, j2e, B3e, j3e, rfl, hMe, hce, hj1e, hj2e, hj3e⟩
              have hLe := Later.trans hL5 hMe
              go_wp2_with fail
              refine (Hfp2.out _ _ _ _ _ _ we hce).mono ?_
              rintro e w6 ⟨rfl, hM6⟩
              have hL6 := Later.trans hLe hM6
              obtain ⟨w7, hw7⟩ : ∃ W, W = w6.alloc (.cells #[.int .i64 f1, .int .i64 f2] 42) := ⟨_, rfl⟩
              obtain ⟨g7, hg7⟩ : ∃ g, g = w6.heap.size := ⟨_, rfl⟩
              have hb7 : Blk w7 g7 42 #[.int .i64 f1, .int .i64 f2] := by rw [hw7, hg7]; exact Blk.new _ _ _
              have hM7 : Later w6 w7 := by rw [hw7]; exact later_alloc (later_refl _) _
              have Hw7 := hide hw7
              have Hg7 := hide hg7
              have hK7 := Later.trans hMe (Later.trans hM6 hM7)
              have hL7 := Later.trans hL6 hM7
              clear hw7 hg7 hce hj1e hj2e hj3e hMe hLe hM6
              go_upto_region 13 with fail
              rw [← Hw7.out, ← Hg7.out]
              clear Hw7 Hg7
              go_wp2_with fail
              refine (lawHouse_calls (k1 := k1) (k2 := k2) (k3 := k3) w7 (hc0.later hL7) (by omega) (by omega) (by omega)).mono ?_
              rintro e we ⟨B1e, j1e, B2e, j2e, B3e, j3e, rfl, hMe, hce, hj1e, hj2e, hj3e⟩
              have hLe := Later.trans hL7 hMe
              have hrt8 := hrt.later (Later.trans hK7 hMe)
              go_wp2_with fail
              refine (list_calls _ hrt8 (by omega)).mono ?_
              rintro e w8 ⟨Ab, nb, kb, rfl, hM8, hrb, _, _⟩
              have hL8 := Later.trans hLe hM8
              go_wp2_with fail
              refine (Hpl.out _ _ _ _ _ _ w8 (hce.later hM8) _ _ _ hrb).mono ?_
              rintro e w9 ⟨Am, km, rfl, hM9, hrm⟩
              have hL9 := Later.trans hL8 hM9
              have hK79 := Later.trans hMe (Later.trans hM8 hM9)
              have hK9 := Later.trans hK7 hK79
              have hy9 := hyz w9 hK9
              have hc93 := hbox w9 hL9 3
              have hc94 := hbox w9 hL9 4
              simp only [List.getElem?_toArray, List.getElem?_cons_zero, List.getElem?_cons_succ] at hc93 hc94
              have hne3 : ((n3 : Int) != (n3 : Int)) = false := by simp
              have Hst : SteadyP v (clashB c d a b) := Hvf.out
              obtain ⟨cl, hcl⟩ : ∃ q, clashB c d a b = q := ⟨_, rfl⟩
              have hdc9 := Hdc.out w9 hK9 cl hcl
              rw [hcl] at Hst
              have Hst2 : Hid (SteadyP v cl) := Hst
              have Hdc9 := hide hdc9
              clear hce hj1e hj2e hj3e hMe hLe hM8 hrb hrt8 hdc9 Hst hcl
              by_cases hyx : y1 = x1
              · have hyb : (y1 != x1) = false := by simp [hyx]
                clear hyx
                go_wp2_with fail
                refine Hdc9.out.mono ?_
                rintro e w10 ⟨rfl, hM10⟩
                go_wp2_with fail
                refine (steady_calls w10 Hst2.out).mono ?_
                rintro e w11 ⟨rfl, hM11⟩
                have hM911 := Later.trans hM10 hM11
                have hL11 := Later.trans hL9 hM911
                clear hM10 hM11 hc93 hc94 hy9
                go_wp2_with fail
                go_loopw [22, 23] (fun m u wr => ∃ i : Nat, i ≤ n3 ∧ u = .int .i64 i ∧ m = .int .i64 (nTo c d x1 i) ∧ Later w11 wr) (fun _ u _ => n3 - (intOf u).toNat)
                case atStart => exact ⟨0, Nat.zero_le _, rfl, rfl, later_refl _⟩
                case round =>
                  obtain ⟨i, hi, rfl, rfl, hL⟩ := hrel
                  have hL0r := Later.trans hL11 hL
                  by_cases hlt : i < n3
                  · have hi1 : (i : Int) < n3 := by omega
                    obtain ⟨bc, oc, zc, hA3, _, hzc, hz0, _, _⟩ := hc0.cp.get hlt
                    have hgz := ok.clip zc (List.mem_of_getElem? hzc)
                    obtain ⟨tt, htt⟩ : ∃ tt : Nat, zc.ticket = (tt : Int) := ⟨zc.ticket.toNat, by omega⟩
                    have htl : tt < n2 := by have := Hn2.out; omega
                    have htl2 : (tt : Int) < n2 := by omega
                    obtain ⟨bq, oq, xt, eq, _, hxt, hxt0, _⟩ := hc0.tk.get htl
                    obtain ⟨rfl, rfl⟩ := some_lit eq
                    obtain ⟨bm, om, mm, rfl, _, hmm, hmm0⟩ := hrm.get hlt
                    rw [Hpm.out, List.getElem?_map, hzc] at hmm
                    simp only [Option.map_some, Option.some.injEq] at hmm
                    have hns := nTo_succ c d x1 i
                    unfold nStep trueM at hns
                    rw [clipAt_of hzc, hmm, htt, Int.toNat_natCast, tickAt_of hxt] at hns
                    rw [htt] at hz0
                    have d0 := fun W (hW : Later wr W) => hz0 W (Later.trans hL0r hW)
                    have d1 := fun W (hW : Later wr W) => hxt0 W (Later.trans hL0r hW)
                    have d2 := fun W (hW : Later wr W) => hmm0 W (Later.trans (Later.trans hM911 hL) hW)
                    have d3 := fun W (hW : Later wr W) => hbox W (Later.trans hL0r hW) 3
                    have d4 := fun W (hW : Later wr W) => hbox W (Later.trans hL0r hW) 4
                    simp only [List.getElem?_toArray, List.getElem?_cons_zero, List.getElem?_cons_succ, hA3] at d3 d4
                    obtain ⟨cur, hcur⟩ : ∃ q, nTo c d x1 i = q := ⟨_, rfl⟩
                    rw [hcur] at hns ⊢
                    have Hns := hide hns
                    have Hbx := hide hbox
                    clear hz0 hxt0 hmm0 hmm hns hcur hbox hA3 hzc hxt
                    by_cases hxe : xt.1 = x1
                    · have hxb : (xt.1 == x1) = true := by simp [hxe]
                      have hns := Hns.out
                      rw [if_pos hxe] at hns
                      have Hns2 := hide hns
                      clear hns hxe
                      go_wp2_with fail
                      refine wp_region_ext (w0 := wr) (by kernel_rfl) (by kernel_rfl) (later_refl _) ?_; (repeat (first | go_big_quiet_step ((fail)) | quiet_step ((fail)))); refine wpQuiet_nil ?_; rintro w12 ⟨⟨_, hM12⟩, rfl⟩; (try dsimp only)
                      have d2b := d2 w12 hM12
                      go_wp2_with fail
                      all_goals
                        go_roundw
                        case rel => exact ⟨i + 1, hlt, by go_num, by rw [Hns2.out]; congr 1; omega, Later.trans hL hM12⟩
                        case measure => simp [intOf]; omega
                    · have hxb : (xt.1 == x1) = false := by simpa using hxe
                      have hns := Hns.out
                      rw [if_neg hxe] at hns
                      have Hns2 := hide hns
                      clear hns hxe
                      go_wp2_with fail
                      refine wp_region_ext (w0 := wr) (by kernel_rfl) (by kernel_rfl) (later_refl _) ?_; (repeat (first | go_big_quiet_step ((fail)) | quiet_step ((fail)))); refine wpQuiet_nil ?_; rintro w12 ⟨⟨_, hM12⟩, rfl⟩; (try dsimp only)
                      go_wp2_with fail
                      go_roundw
                      case rel => exact ⟨i + 1, hlt, by go_num, by rw [Hns2.out], Later.trans hL hM12⟩
                      case measure => simp [intOf]; omega
                  · have hi1 : ¬ (i : Int) < n3 := by omega
                    have hin : i = n3 := by omega
                    subst hin
                    have hfi := Hfi.out
                    rw [← Hn3.out] at hfi
                    obtain ⟨cur, hcur⟩ : ∃ q, nTo c d x1 i = q := ⟨_, rfl⟩
                    rw [hcur] at hfi ⊢
                    have hic := fun W => in_calls cur f1 f2 W
                    rw [hfi] at hic
                    have Hic := hide hic
                    have hb8 := hb7.later (Later.trans hK79 (Later.trans hM911 hL))
                    have e0 := hb8.cell 0
                    have e1 := hb8.cell 1
                    simp only [List.getElem?_toArray, List.getElem?_cons_zero, List.getElem?_cons_succ] at e0 e1
                    clear hlt hfi hcur hic
                    go_wp2_with fail
                    refine (Hic.out _).mono ?_
                    rintro e w13 ⟨rfl, hM13⟩
                    have hL13 := Later.trans hL0r hM13
                    go_wp2_with fail
                    refine (awake_calls _).mono ?_
                    rintro e wa ⟨rfl, hLa⟩
                    go_wp2_with fail
                    go_ret
                    exact ⟨rfl, Later.trans hL0 (Later.trans hL13 hLa)⟩
              · have hyb : (y1 != x1) = true := by simpa using hyx
                obtain rfl := Hvt.out hyx
                clear hyx
                go_wp2_with fail
                refine Hdc9.out.mono ?_
                rintro e w10 ⟨rfl, hM10⟩
                go_wp2_with fail
                refine (steady_calls w10 Hst2.out).mono ?_
                rintro e w11 ⟨rfl, hM11⟩
                have hM911 := Later.trans hM10 hM11
                have hL11 := Later.trans hL9 hM911
                clear hM10 hM11 hc93 hc94 hy9
                go_wp2_with fail
                go_loopw [22, 23] (fun m u wr => ∃ i : Nat, i ≤ n3 ∧ u = .int .i64 i ∧ m = .int .i64 (nTo c d x1 i) ∧ Later w11 wr) (fun _ u _ => n3 - (intOf u).toNat)
                case atStart => exact ⟨0, Nat.zero_le _, rfl, rfl, later_refl _⟩
                case round =>
                  obtain ⟨i, hi, rfl, rfl, hL⟩ := hrel
                  have hL0r := Later.trans hL11 hL
                  by_cases hlt : i < n3
                  · have hi1 : (i : Int) < n3 := by omega
                    obtain ⟨bc, oc, zc, hA3, _, hzc, hz0, _, _⟩ := hc0.cp.get hlt
                    have hgz := ok.clip zc (List.mem_of_getElem? hzc)
                    obtain ⟨tt, htt⟩ : ∃ tt : Nat, zc.ticket = (tt : Int) := ⟨zc.ticket.toNat, by omega⟩
                    have htl : tt < n2 := by have := Hn2.out; omega
                    have htl2 : (tt : Int) < n2 := by omega
                    obtain ⟨bq, oq, xt, eq, _, hxt, hxt0, _⟩ := hc0.tk.get htl
                    obtain ⟨rfl, rfl⟩ := some_lit eq
                    obtain ⟨bm, om, mm, rfl, _, hmm, hmm0⟩ := hrm.get hlt
                    rw [Hpm.out, List.getElem?_map, hzc] at hmm
                    simp only [Option.map_some, Option.some.injEq] at hmm
                    have hns := nTo_succ c d x1 i
                    unfold nStep trueM at hns
                    rw [clipAt_of hzc, hmm, htt, Int.toNat_natCast, tickAt_of hxt] at hns
                    rw [htt] at hz0
                    have d0 := fun W (hW : Later wr W) => hz0 W (Later.trans hL0r hW)
                    have d1 := fun W (hW : Later wr W) => hxt0 W (Later.trans hL0r hW)
                    have d2 := fun W (hW : Later wr W) => hmm0 W (Later.trans (Later.trans hM911 hL) hW)
                    have d3 := fun W (hW : Later wr W) => hbox W (Later.trans hL0r hW) 3
                    have d4 := fun W (hW : Later wr W) => hbox W (Later.trans hL0r hW) 4
                    simp only [List.getElem?_toArray, List.getElem?_cons_zero, List.getElem?_cons_succ, hA3] at d3 d4
                    obtain ⟨cur, hcur⟩ : ∃ q, nTo c d x1 i = q := ⟨_, rfl⟩
                    rw [hcur] at hns ⊢
                    have Hns := hide hns
                    have Hbx := hide hbox
                    clear hz0 hxt0 hmm0 hmm hns hcur hbox hA3 hzc hxt
                    by_cases hxe : xt.1 = x1
                    · have hxb : (xt.1 == x1) = true := by simp [hxe]
                      have hns := Hns.out
                      rw [if_pos hxe] at hns
                      have Hns2 := hide hns
                      clear hns hxe
                      go_wp2_with fail
                      refine wp_region_ext (w0 := wr) (by kernel_rfl) (by kernel_rfl) (later_refl _) ?_; (repeat (first | go_big_quiet_step ((fail)) | quiet_step ((fail)))); refine wpQuiet_nil ?_; rintro w12 ⟨⟨_, hM12⟩, rfl⟩; (try dsimp only)
                      have d2b := d2 w12 hM12
                      go_wp2_with fail
                      all_goals
                        go_roundw
                        case rel => exact ⟨i + 1, hlt, by go_num, by rw [Hns2.out]; congr 1; omega, Later.trans hL hM12⟩
                        case measure => simp [intOf]; omega
                    · have hxb : (xt.1 == x1) = false := by simpa using hxe
                      have hns := Hns.out
                      rw [if_neg hxe] at hns
                      have Hns2 := hide hns
                      clear hns hxe
                      go_wp2_with fail
                      refine wp_region_ext (w0 := wr) (by kernel_rfl) (by kernel_rfl) (later_refl _) ?_; (repeat (first | go_big_quiet_step ((fail)) | quiet_step ((fail)))); refine wpQuiet_nil ?_; rintro w12 ⟨⟨_, hM12⟩, rfl⟩; (try dsimp only)
                      go_wp2_with fail
                      go_roundw
                      case rel => exact ⟨i + 1, hlt, by go_num, by rw [Hns2.out], Later.trans hL hM12⟩
                      case measure => simp [intOf]; omega
                  · have hi1 : ¬ (i : Int) < n3 := by omega
                    have hin : i = n3 := by omega
                    subst hin
                    have hfi := Hfi.out
                    rw [← Hn3.out] at hfi
                    obtain ⟨cur, hcur⟩ : ∃ q, nTo c d x1 i = q := ⟨_, rfl⟩
                    rw [hcur] at hfi ⊢
                    have hic := fun W => in_calls cur f1 f2 W
                    rw [hfi] at hic
                    have Hic := hide hic
                    have hb8 := hb7.later (Later.trans hK79 (Later.trans hM911 hL))
                    have e0 := hb8.cell 0
                    have e1 := hb8.cell 1
                    simp only [List.getElem?_toArray, List.getElem?_cons_zero, List.getElem?_cons_succ] at e0 e1
                    clear hlt hfi hcur hic
                    go_wp2_with fail
                    refine (Hic.out _).mono ?_
                    rintro e w13 ⟨rfl, hM13⟩
                    have hL13 := Later.trans hL0r hM13
                    go_wp2_with fail
                    refine (awake_calls _).mono ?_
                    rintro e wa ⟨rfl, hLa⟩
                    go_wp2_with fail
                    go_ret
                    exact ⟨rfl, Later.trans hL0 (Later.trans hL13 hLa)⟩
        · have hpt : ∀ (u : Int), True := fun _ => trivial
          rw [he] at hca1 hcb1
          have Hca := hide hca1
          have Hcb := hide hcb1
          have Hpk := hide hpk
          have Hno := hide htn
          clear hca1 hcb1 hpk hfp htn he hab hpt
          go_enter Try.func16, Try.ntmps16
          go_wp2_with fail
          rw [← Hw0.out]; clear Hw0
          refine Hrdy.out.mono ?_
          rintro e w1 ⟨rfl, hL1⟩
          have hbx1 := fun W (hW : Later w1 W) => hbx2 W (Later.trans hL1 hW)
          have hx1 := hbx1 w1 (later_refl _)
          clear hbx2
          go_wp2_with fail
          refine wp_region_ext (w0 := w1) (by kernel_rfl) (by kernel_rfl) (later_refl _) ?_; (repeat (first | go_big_quiet_step ((fail)) | quiet_step ((fail)))); refine wpQuiet_nil ?_; rintro w2 ⟨⟨_, hM2⟩, rfl⟩; (try dsimp only)
          have hL2 := Later.trans hL1 hM2
          go_wp2_with fail
          refine (lawHouse_calls (k1 := k1) (k2 := k2) (k3 := k3) w2 (hc0.later hL2) (by omega) (by omega) (by omega)).mono ?_
          rintro e wd ⟨B1d, j1d, B2d, j2d, B3d, j3d, rfl, hMd, hcd, hj1d, hj2d, hj3d⟩
          have hLd := Later.trans hL2 hMd
          go_wp2_with fail
          refine (Hca.out _ _ _ _ _ _ wd hcd).mono ?_
          rintro e w3 ⟨rfl, hM3⟩
          have hL3 := Later.trans hLd hM3
          clear hcd hj1d hj2d hj3d hMd hLd hM3
          go_wp2_with fail
          refine (lawHouse_calls (k1 := k1) (k2 := k2) (k3 := k3) w3 (hc0.later hL3) (by omega) (by omega) (by omega)).mono ?_
          rintro e wd ⟨B1d, j1d, B2d, j2d, B3d, j3d, rfl, hMd, hcd, hj1d, hj2d, hj3d⟩
          have hLd := Later.trans hL3 hMd
          go_wp2_with fail
          refine (Hcb.out _ _ _ _ _ _ wd hcd).mono ?_
          rintro e w4 ⟨rfl, hM4⟩
          have hL4 := Later.trans hLd hM4
          clear hcd hj1d hj2d hj3d hMd hLd hM4
          go_wp2_with fail
          refine (Hpk.out w4 hL4).mono ?_
          rintro e w5 ⟨At, nt, kt, is, rfl, hM5, hpk⟩
          have hL5 := Later.trans hL4 hM5
          rcases hpk with ⟨rfl, h0⟩ | ⟨rfl, d, hd, hrt⟩
          · clear h0
            go_wp2_with fail
            refine (awake_calls _).mono ?_
            rintro e wa ⟨rfl, hLa⟩
            go_wp2_with fail
            go_ret
            exact ⟨rfl, Later.trans hL0 (Later.trans hL5 hLa)⟩
          · rw [Hno.out] at hd; cases hd
end Go.Proofs.Ytbkfnajpbhfneaa
