/- ClosetTruth: the walk. -/
import Derived.Test.YtjilckjhdlabaaaPart24
set_option linter.unusedSimpArgs false
set_option linter.unusedVariables false
namespace Go.Proofs.Ytjilckjhdlabaaa
open Go Go.RowKit
attribute [local go_sem] later_alloc2 later_alloc3 later_alloc4

theorem in_calls (n lo hi : Int) (w : World) : Calls Try.prog 77 #[.int .i64 n, .agg #[.int .i64 lo, .int .i64 hi]] w fun e w' => e = .returned (.bool (inB n lo hi)) ∧ Later w w' := by
  by_cases h1 : lo ≤ n
  · by_cases h2 : n ≤ hi
    · go_enter Try.func77, Try.ntmps77
      go_wp2_with fail
      go_ret
      exact ⟨ret_bool (by unfold inB; simp [h1, h2]), later_alloc (later_refl _) _⟩
    · go_enter Try.func77, Try.ntmps77
      go_wp2_with fail
      go_ret
      exact ⟨ret_bool (by unfold inB; simp [h1, h2]), later_alloc (later_refl _) _⟩
  · go_enter Try.func77, Try.ntmps77
    go_wp2_with fail
    go_ret
    exact ⟨ret_bool (by unfold inB; rw [decide_eq_false (show ¬ lo ≤ n by omega)]; simp), later_alloc (later_refl _) _⟩
set_option maxRecDepth 100000 in
set_option maxHeartbeats 16000000 in
theorem lawTruth_calls {A1 A2 A3 : Option Addr} {n1 k1 n2 k2 n3 k3 : Nat} {c : Clo} {Aw Ah : Option Addr} {nw kw nh kh : Nat} {l l2 : List Nat} {q y : Nat} (w : World) (hc : CV w c A1 n1 A2 n2 A3 n3) (hcl : i64 c.closets) (b1 : n1 ≤ 9223372036854775807) (b2 : n2 ≤ 9223372036854775807) (b3 : n3 ≤ 9223372036854775807)
    (hq : q < 65536) (hw : RW w Aw nw l) (hnw : nw ≤ 9223372036854775807) (hh : RW w Ah nh l2) (hnh : nh ≤ 9223372036854775807) (hy : y < 256) :
    Calls Try.prog 20 #[(.agg #[.int .i64 c.closets, .int .i64 c.close, .slice A1 n1 k1, .slice A2 n2 k2, .slice A3 n3 k3]), .int .u16 q, .slice Aw nw kw, .slice Ah nh kh, .int .u8 y] w fun e w' => e = .returned (.bool true) ∧ Later w w' := by
  obtain ⟨w0, hw0⟩ : ∃ W, W = (w.alloc (.cells #[.int .i64 c.closets, .int .i64 c.close, .slice A1 n1 k1, .slice A2 n2 k2, .slice A3 n3 k3] 26)) := ⟨_, rfl⟩; have hbox : ∀ W, Later w0 W → ∀ i, W.cell? ⟨w.heap.size, i, none⟩ = #[.int .i64 c.closets, .int .i64 c.close, .slice A1 n1 k1, .slice A2 n2 k2, .slice A3 n3 k3][i]? := (by rw [hw0]; exact box_cells w #[.int .i64 c.closets, .int .i64 c.close, .slice A1 n1 k1, .slice A2 n2 k2, .slice A3 n3 k3] 26); have hL0 : Later w w0 := (by rw [hw0]; simp); have hc0 := hc.later hL0; have Hw0 := hide hw0; clear hw0
  have hw0' := hw.later hL0
  have hh0 := hh.later hL0
  have hrdy := ready_calls (k1 := k1) (k2 := k2) (k3 := k3) w0 hc0 hcl b1 b2 b3
  cases hth : readyB c with
  | false =>
    rw [hth] at hrdy
    have Hrdy := hide hrdy
    clear hth hrdy
    go_enter Try.func20, Try.ntmps20
    go_wp2_with fail
    rw [← Hw0.out]; clear Hw0
    refine Hrdy.out.mono ?_
    rintro e w1 ⟨rfl, hL1⟩
    go_wp2_with fail
    refine (awake_calls _).mono ?_
    rintro e w2 ⟨rfl, hL2⟩
    go_wp2_with fail
    go_ret
    exact ⟨rfl, Later.trans hL0 (Later.trans hL1 hL2)⟩
  | true =>
    rw [hth] at hrdy
    have hn1 := hc.hs.len
    have hn2 := hc.hu.len
    have hn3 := hc.lk.len
    have hf := (readyB_true hth).2
    have ok := okC_of_fault hf
    have l1 : n1 ≤ 4 := by have := ok.len; omega
    have l2 : n2 ≤ 4 := by have := ok.len; have := ok.hung.len; omega
    have l3 : n3 ≤ 5 := by have := ok.nlooks; omega
    have Hn1 := hide hn1
    have Hn2 := hide hn2
    have Hn3 := hide hn3
    have Hf := hide hf
    have Hrdy := hide hrdy
    clear hth hrdy hn1 hn2 hn3 hf
    have hmr := (fault_zero Hf.out).2.2.2.2.2.2
    have okh : ∀ h ∈ c.horses, 1 ≤ h.lo ∧ h.lo ≤ h.hi ∧ h.hi ≤ 60 := fun h hh => by have := ok.horse h hh; omega
    have Hmr := hide hmr
    clear hmr
    go_enter Try.func20, Try.ntmps20
    go_wp2_with fail
    rw [← Hw0.out]; clear Hw0
    refine Hrdy.out.mono ?_
    rintro e w1 ⟨rfl, hL1⟩
    have hlk := Looked_calls (k1 := k1) (k2 := k2) (k3 := k3) (kw := kw) w1 (hc0.later hL1) ok Hmr.out hq (hw0'.later hL1) hnw
    obtain ⟨t, htn⟩ : ∃ t, nth c.horses ((q : Int) % many c) = t := ⟨_, rfl⟩
    have htd := nth_dry c.horses ((q : Int) % many c) okh
    rw [htn] at hlk htd
    have Hlk := hide hlk
    have Htd := hide htd
    clear hlk htd htn
    go_wp2_with fail
    refine (Hlk.out).mono ?_
    rintro e w2 ⟨Ax, mx, kx, At, kt, L, rfl, hM2, hrx, hkx, hrt, hgl⟩
    have hL2 := Later.trans hL1 hM2
    have htru := isTru_of Hf.out Htd.out hgl
    have hmx := hrx.len
    have hmx5 : mx ≤ 5 := by have := hgl.1; omega
    have hcx : CV w2 (withLooks c L) A1 n1 A2 n2 Ax mx := ⟨(hc0.later hL2).hs, (hc0.later hL2).hu, hrx⟩
    have hxi : i64 (withLooks c L).closets := hcl
    have Htru := hide htru
    have Hmx := hide hmx
    have hbx2 := fun W (hW : Later w2 W) => hbox W (Later.trans hL2 hW)
    have hK2 : Later w2 w2 := later_refl _
    clear hgl hmx htru hbox Hlk Hrdy
    go_upto_region 4 with fail
    obtain ⟨w3, hw3⟩ : ∃ W, W = w2.alloc (.cells #[.int .i64 c.closets, .int .i64 c.close, .slice A1 n1 k1, .slice A2 n2 k2, .slice Ax mx kx] 26) := ⟨_, rfl⟩
    obtain ⟨g3, hg3⟩ : ∃ g, g = w2.heap.size := ⟨_, rfl⟩
    have hM3 : Later w2 w3 := by rw [hw3]; exact later_alloc (later_refl _) _
    have hb3 : Blk w3 g3 26 #[.int .i64 c.closets, .int .i64 c.close, .slice A1 n1 k1, .slice A2 n2 k2, .slice Ax mx kx] := by rw [hw3, hg3]; exact Blk.new _ _ _
    rw [← hw3, ← hg3]
    have hL3 := Later.trans hL2 hM3
    have hcx3 := hcx.later hM3
    have hrt3 := hrt.later hM3
    have hx3 := fun W (hW : Later w3 W) => (hb3.later hW).cell
    have hy0 := fun W hW => hx3 W hW 0
    have hy1 := fun W hW => hx3 W hW 1
    have hy2 := fun W hW => hx3 W hW 2
    have hy3 := fun W hW => hx3 W hW 3
    have hy4 := fun W hW => hx3 W hW 4
    simp only [List.getElem?_toArray, List.getElem?_cons_zero, List.getElem?_cons_succ] at hy0 hy1 hy2 hy3 hy4
    have hbx3 := fun W (hW : Later w3 W) => hbx2 W (Later.trans hM3 hW)
    have hK3 : Later w3 w3 := later_refl _
    clear hw3 hg3 hx3 hbx2 hcx hrt hrx hM3 hK2
    go_wp2_with fail
    refine (Placed_calls (k1 := k1) (k2 := k2) (k3 := k3) (kw := kh) w3 (hc0.later hL3) ok (hh0.later hL3) hnh).mono ?_
    rintro e w4 ⟨Ap, kp, p, rfl, hM4, hrp, hkp, hpl⟩
    rw [← Hn1.out] at hrp hkp ⊢
    have hL4 := Later.trans hL3 hM4
    obtain ⟨m, hm⟩ : ∃ m : Int, (y : Int) % 100 = m := ⟨_, rfl⟩
    have hm9 : 0 ≤ m ∧ m ≤ 99 := by omega
    have hplx : IsPl (withLooks c L) p := ⟨hpl.len, hpl.mem, hpl.nodup⟩
    have hat := fun (i : Nat) (hi : i < n1) => Htru.out.at_ hplx (i := i) (by show i < c.horses.length; have := Hn1.out; omega) hm9.1 hm9.2
    have hfx := Htru.out.f
    have hpx := playL_eq hfx hplx Htru.out.dry
    have hplc : isPlaceB (withLooks c L) p = true := (isPlaceB_iff (c := withLooks c L) ok.cl1 ok.cl4 p).2 hplx
    have hbl : (boundsOut (withLooks c L) p).length = n1 := by
      unfold boundsOut; rw [hplc, if_neg (by simp [Htru.out.e])]; simp only [boundsTo2, List.length_map, List.length_range]; exact Hn1.out.symm
    have hll : (playL (withLooks c L) p t).length = n1 := by rw [hpx.2, List.length_map, List.length_range]; exact Hn1.out.symm
    have hbc := fun (B1 B2 B3 : Option Addr) (j1 j2 j3 : Nat) (W : World) (h : CV W (withLooks c L) B1 n1 B2 n2 B3 mx) (h2 : n2 ≤ j2) (Aq : Option Addr) (kq : Nat) (hq : RI W Aq n1 p) (hk : n1 ≤ kq) =>
      BoundsP_calls (k1 := j1) (k2 := j2) (k3 := j3) (kp := kq) W h hxi (by omega) (by omega) (by omega) h2 hq hk (by omega)
    unfold BoundsPost at hbc
    rw [hplc, Htru.out.e] at hbc
    have hpc := fun (B1 B2 B3 : Option Addr) (j1 j2 j3 : Nat) (W : World) (h : CV W (withLooks c L) B1 n1 B2 n2 B3 mx) (h2 : n2 ≤ j2) (Aq Ar : Option Addr) (kq kr : Nat) (hq : RI W Aq n1 p) (hk : n1 ≤ kq) (hr : RI W Ar n1 t) =>
      PlayP_calls (k1 := j1) (k2 := j2) (k3 := j3) (kp := kq) (kd := kr) W h hxi (by omega) (by omega) (by omega) h2 hq hk (by omega) hr (by omega)
    unfold PlayPost at hpc
    rw [hpx.1] at hpc
    have hlc := fun (B1 B2 B3 : Option Addr) (j1 j2 j3 : Nat) (W : World) (h : CV W (withLooks c L) B1 n1 B2 n2 B3 mx) (h2 : n2 ≤ j2) =>
      LeaveP_calls (k1 := j1) (k2 := j2) (k3 := j3) W h hxi (by omega) (by omega) (by omega) h2
    unfold LeavePost at hlc
    rw [hfx, Htru.out.leave] at hlc
    have hfc := fun (B1 B2 B3 : Option Addr) (j1 j2 j3 : Nat) (W : World) (h : CV W (withLooks c L) B1 n1 B2 n2 B3 mx) (h2 : n2 ≤ j2) (h3 : mx ≤ j3) =>
      FirstP_calls (k1 := j1) (k2 := j2) (k3 := j3) W h hxi (by omega) (by omega) (by omega) h2 h3
    rw [Htru.out.first] at hfc
    have htc := fun (B1 B2 B3 : Option Addr) (j1 j2 j3 : Nat) (W : World) (h : CV W (withLooks c L) B1 n1 B2 n2 B3 mx) (h2 : n2 ≤ j2) (Aq : Option Addr) (kq : Nat) (hq : RI W Aq n1 t) =>
      ProveTruth_calls (k1 := j1) (k2 := j2) (k3 := j3) (kd := kq) W h hxi (by omega) (by omega) (by omega) h2 hq (by omega)
    rw [Htru.out.truth] at htc
    have hrc := fun (i : Nat) (B1 B2 B3 : Option Addr) (j1 j2 j3 : Nat) (W : World) (h : CV W (withLooks c L) B1 n1 B2 n2 B3 mx) (h2 : n2 ≤ j2) (Aq : Option Addr) (kq : Nat) (hq : RI W Aq n1 p) (hk : n1 ≤ kq) =>
      RightP_calls (k1 := j1) (k2 := j2) (k3 := j3) (kp := kq) (h := (i : Int)) (m := m) W h hxi (by omega) (by omega) (by omega) h2 hq hk (by omega)
    have hgc := fun (i : Nat) (hi : i < n1) (W : World) (hW : Later w3 W) (hr : RI W Ap n1 p) =>
      lawGood_calls (k1 := k1) (k2 := k2) (k3 := kx) (kp := kp) (i := i) W (hcx3.later hW) hxi Htru.out.e hr hplx (by show i < c.horses.length; have := Hn1.out; omega)
    have Hat := hide hat
    have Hbl := hide hbl
    have Hll := hide hll
    have Hbc := hide hbc
    have Hpc := hide hpc
    have Hlc := hide hlc
    have Hfc := hide hfc
    have Htc := hide htc
    have Hrc := hide hrc
    have Hgc := hide hgc
    clear hat hbl hll hbc hpc hlc hfc htc hrc hgc hfx hpx hplc hpl okh
    go_wp2_with fail
    refine (lawCloset_calls (k1 := k1) (k2 := k2) (k3 := kx) w4 (hcx3.later hM4) (by omega) (by omega) (by omega)).mono ?_
    rintro e wa ⟨B1a, j1a, B2a, j2a, B3a, j3a, rfl, hMa, hca, hj1a, hj2a, hj3a⟩
    have hLa := Later.trans hL4 hMa
    go_wp2_with fail
    refine (list_calls _ (hrp.later hMa) (by omega)).mono ?_
    rintro e wb ⟨Ab, nb, kb, rfl, hMb, hrb, hkb, _⟩
    have hLb := Later.trans hMa hMb
    have hnb := hrb.len
    rw [← hrp.len] at hnb
    subst nb
    go_wp2_with fail
    refine (Hbc.out _ _ _ _ _ _ wb (hca.later hMb) hj2a _ _ hrb hkb).mono ?_
    rintro e w5 ⟨Ar, nr, kr, rfl, hM5, hrg⟩
    have hQ5 := Later.trans hLb hM5
    have hK5 := Later.trans hM4 hQ5
    have hL5 := Later.trans hL3 hK5
    clear hca hrb hj1a hj2a hj3a hMa hMb hLa hLb hM5
    go_wp2_with fail
    refine (lawCloset_calls (k1 := k1) (k2 := k2) (k3 := kx) w5 (hcx3.later hK5) (by omega) (by omega) (by omega)).mono ?_
    rintro e wa ⟨B1a, j1a, B2a, j2a, B3a, j3a, rfl, hMa, hca, hj1a, hj2a, hj3a⟩
    have hLa := Later.trans hL5 hMa
    go_wp2_with fail
    refine (list_calls _ (hrp.later (Later.trans hQ5 hMa)) (by omega)).mono ?_
    rintro e wb ⟨Ab, nb, kb, rfl, hMb, hrb, hkb, _⟩
    have hLb := Later.trans (Later.trans hQ5 hMa) hMb
    have hnb := hrb.len
    rw [← hrp.len] at hnb
    subst nb
    go_wp2_with fail
    refine (list_calls _ (hrt3.later (Later.trans hK5 (Later.trans hMa hMb))) (by omega)).mono ?_
    rintro e we ⟨Ae, ne, ke, rfl, hMe, hre, hke, _⟩
    have hLe := Later.trans (Later.trans hK5 (Later.trans hMa hMb)) hMe
    have hne := hre.len
    rw [← hrt3.len] at hne
    subst ne
    go_wp2_with fail
    refine (Hpc.out _ _ _ _ _ _ we (hca.later (Later.trans hMb hMe)) hj2a _ _ _ _ (hrb.later hMe) hkb hre).mono ?_
    rintro e w6 ⟨Al, nl, kl, rfl, hM6, hrl, _⟩
    have hQ56 := Later.trans hMa (Later.trans hMb (Later.trans hMe hM6))
    have hQ6 := Later.trans hQ5 hQ56
    have hK6 := Later.trans hM4 hQ6
    have hL6 := Later.trans hL3 hK6
    have hrg6 := hrg.later hQ56
    clear hca hrb hre hj1a hj2a hj3a hMa hMb hMe hLa hLb hLe hM6 hrg hQ56
    go_wp2_with fail
    refine (lawCloset_calls (k1 := k1) (k2 := k2) (k3 := kx) w6 (hcx3.later hK6) (by omega) (by omega) (by omega)).mono ?_
    rintro e wa ⟨B1a, j1a, B2a, j2a, B3a, j3a, rfl, hMa, hca, hj1a, hj2a, hj3a⟩
    have hLa := Later.trans hL6 hMa
    go_wp2_with fail
    refine (Hlc.out _ _ _ _ _ _ wa hca hj2a).mono ?_
    rintro e w7 ⟨Ao, no, ko, rfl, hM7, hro, _⟩
    have hno := hro.len
    simp only [List.length_nil] at hno
    subst no
    have hQ67 := Later.trans hMa hM7
    have hQ7 := Later.trans hQ6 hQ67
    have hK7 := Later.trans hM4 hQ7
    have hL7 := Later.trans hL3 hK7
    clear hca hj1a hj2a hj3a hMa hLa hM7 hro
    go_wp2_with fail
    refine (lawCloset_calls (k1 := k1) (k2 := k2) (k3 := kx) w7 (hcx3.later hK7) (by omega) (by omega) (by omega)).mono ?_
    rintro e wa ⟨B1a, j1a, B2a, j2a, B3a, j3a, rfl, hMa, hca, hj1a, hj2a, hj3a⟩
    have hLa := Later.trans hL7 hMa
    go_wp2_with fail
    refine (Hfc.out _ _ _ _ _ _ wa hca hj2a hj3a).mono ?_
    rintro e w8 ⟨rfl, hM8⟩
    have hQ68 := Later.trans hQ67 (Later.trans hMa hM8)
    have hQ8 := Later.trans hQ6 hQ68
    have hK8 := Later.trans hM4 hQ8
    have hL8 := Later.trans hL3 hK8
    clear hca hj1a hj2a hj3a hMa hLa hM8
    have hnr := hrg6.len
    have hnl := hrl.len
    rw [Hbl.out] at hnr
    rw [Hll.out] at hnl
    subst nr nl
    have hnn : ((n1 : Int) != (n1 : Int)) = false := by simp
    go_wp2_with fail
    refine (lawCloset_calls (k1 := k1) (k2 := k2) (k3 := kx) w8 (hcx3.later hK8) (by omega) (by omega) (by omega)).mono ?_
    rintro e wa ⟨B1a, j1a, B2a, j2a, B3a, j3a, rfl, hMa, hca, hj1a, hj2a, hj3a⟩
    have hLa := Later.trans hL8 hMa
    go_wp2_with fail
    refine (list_calls _ (hrt3.later (Later.trans hK8 hMa)) (by omega)).mono ?_
    rintro e wb ⟨Ab, nb, kb, rfl, hMb, hrb, hkb, _⟩
    have hLb := Later.trans (Later.trans hK8 hMa) hMb
    have hnb := hrb.len
    rw [← hrt3.len] at hnb
    subst nb
    go_wp2_with fail
    refine (Htc.out _ _ _ _ _ _ wb (hca.later hMb) hj2a _ _ hrb).mono ?_
    rintro e w9 ⟨rfl, hM9⟩
    have hQ89 := Later.trans hMa (Later.trans hMb hM9)
    have hQ9 := Later.trans hQ8 hQ89
    have hK9 := Later.trans hM4 hQ9
    have hL9 := Later.trans hL3 hK9
    have hrg9 := hrg6.later (Later.trans hQ68 hQ89)
    have hrl9 := hrl.later (Later.trans hQ68 hQ89)
    have hrp9 := hrp.later hQ9
    have hT9 : Later w9 w9 := later_refl _
    have hxx := fun W (hW : Later w9 W) => hy0 W (Later.trans hK9 hW)
    have hxx1 := fun W (hW : Later w9 W) => hy1 W (Later.trans hK9 hW)
    have hxx2 := fun W (hW : Later w9 W) => hy2 W (Later.trans hK9 hW)
    have hxx3 := fun W (hW : Later w9 W) => hy3 W (Later.trans hK9 hW)
    have hxx4 := fun W (hW : Later w9 W) => hy4 W (Later.trans hK9 hW)
    clear hca hrb hj1a hj2a hj3a hMa hMb hLa hLb hM9 hrg6 hrl hQ67 hQ68 hQ89 hy0 hy1 hy2 hy3 hy4 hbx3
    go_wp2_with fail
    go_loopw [23] (fun v wr => ∃ i : Nat, i ≤ n1 ∧ v = .int .i64 i ∧ Later w9 wr) (fun v _ => n1 - (intOf v).toNat)
    case atStart => exact ⟨0, Nat.zero_le _, rfl, later_refl _⟩
    case round =>
      obtain ⟨i, hi, rfl, hL⟩ := hrel
      have hL0r := Later.trans hL9 hL
      have hK3r := Later.trans hK9 hL
      by_cases hlt : i < n1
      · have hi1 : (i : Int) < n1 := by omega
        obtain ⟨li, b1', b2', v, r1, r2, g, hmi, hpi, hli1, hli78, hbi, hbl1, hbl2, hri, hgi, hgr, hcase, hgd⟩ := Hat.out i hlt
        have hrci := Hrc.out i
        rw [hri] at hrci
        have hgci := fun (W : World) (hW : Later w9 W) => Hgc.out i hlt W (Later.trans hK9 hW) (hrp9.later hW)
        rw [hgi] at hgci
        have Hrci := hide hrci
        have Hgci := hide hgci
        have Hpi := hide hpi
        have Hbi := hide hbi
        have Hcase := hide hcase
        have Hgd := hide hgd
        have Hgr := hide hgr
        have hx0r := fun W (hW : Later wr W) => hxx W (Later.trans hL hW)
        have hx1r := fun W (hW : Later wr W) => hxx1 W (Later.trans hL hW)
        have hx2r := fun W (hW : Later wr W) => hxx2 W (Later.trans hL hW)
        have hx3r := fun W (hW : Later wr W) => hxx3 W (Later.trans hL hW)
        have hx4r := fun W (hW : Later wr W) => hxx4 W (Later.trans hL hW)
        have hTr : Later wr wr := later_refl _
        clear hmi hpi hbi hri hgi hgr hcase hgd hrci hgci hxx hxx1 hxx2 hxx3 hxx4
        go_wp2_with fail
        refine (lawCloset_calls (k1 := k1) (k2 := k2) (k3 := kx) wr (hcx3.later hK3r) (by omega) (by omega) (by omega)).mono ?_
        rintro e wa ⟨B1a, j1a, B2a, j2a, B3a, j3a, rfl, hMa, hca, hj1a, hj2a, hj3a⟩
        have hLa := Later.trans hL0r hMa
        go_wp2_with fail
        refine (list_calls _ (hrp9.later (Later.trans hL hMa)) (by omega)).mono ?_
        rintro e wb ⟨Ab, nb, kb, rfl, hMb, hrb, hkb, _⟩
        have hLb := Later.trans (Later.trans hL hMa) hMb
        have hnb := hrb.len
        rw [← hrp9.len] at hnb
        subst nb
        go_wp2_with fail
        refine (Hrci.out _ _ _ _ _ _ wb (hca.later hMb) hj2a _ _ hrb hkb).mono ?_
        rintro e w10 ⟨rfl, hM10⟩
        have hP10 := Later.trans hMa (Later.trans hMb hM10)
        clear hca hrb hj1a hj2a hj3a hMa hMb hLa hLb hM10
        go_wp2_with fail
        refine (Hgci.out w10 (Later.trans hL hP10)).mono ?_
        rintro e w11 ⟨rfl, hM11⟩
        have hP11 := Later.trans hP10 hM11
        go_upto_region 16 with fail
        obtain ⟨w12, hw12⟩ : ∃ W, W = w11.alloc (.cells #[.int .i64 r1, .int .i64 r2] 61) := ⟨_, rfl⟩
        obtain ⟨gr, hgr⟩ : ∃ x, x = w11.heap.size := ⟨_, rfl⟩
        have hbr : Blk w12 gr 61 #[.int .i64 r1, .int .i64 r2] := by rw [hw12, hgr]; exact Blk.new _ _ _
        have hP12 : Later wr w12 := by rw [hw12]; exact later_alloc hP11 _
        rw [← hw12, ← hgr]
        have hL12 := Later.trans hL0r hP12
        obtain ⟨bl, ol, li2, rfl, _, hli2, cl⟩ := hrl9.get hlt
        rw [Hpi.out] at hli2
        injection hli2 with hli2
        subst hli2
        obtain ⟨bb, ob, ⟨x1, x2⟩, rfl, _, hb2, cb1, cb2⟩ := hrg9.get hlt
        rw [Hbi.out] at hb2
        injection hb2 with hb2
        injection hb2 with hb2 hb3
        subst hb2 hb3
        obtain ⟨bh, oh, yk, hAe, _, hyk, _, _, _, ch⟩ := (hc0.later hL12).hs.get hlt
        have hgy := ok.horse yk (List.mem_of_getElem? hyk)
        have hgk : g = yk.grace := by rw [← Hgr.out]; show (c.horses.getD i default).grace = _; rw [List.getD_eq_getElem?_getD, hyk]; rfl
        subst hgk
        subst hAe
        have hcl := fun W (hW : Later w12 W) => cl W (Later.trans hL (Later.trans hP12 hW))
        have hcb1 := fun W (hW : Later w12 W) => cb1 W (Later.trans hL (Later.trans hP12 hW))
        have hcb2 := fun W (hW : Later w12 W) => cb2 W (Later.trans hL (Later.trans hP12 hW))
        have hx1s := fun W (hW : Later w12 W) => hx1r W (Later.trans hP12 hW)
        have hx2s := fun W (hW : Later w12 W) => hx2r W (Later.trans hP12 hW)
        dsimp only at hcb1 hcb2
        have hbrc := fun W (hW : Later w12 W) => (hbr.later hW).cell
        have hr0 := fun W hW => hbrc W hW 0
        have hr1 := fun W hW => hbrc W hW 1
        simp only [List.getElem?_toArray, List.getElem?_cons_zero, List.getElem?_cons_succ] at hr0 hr1
        have hwg : IntKind.i64.wrap (li + yk.grace) = li + yk.grace := IntWalk.i64_in _ (by omega)
        have hS12 : Later w12 w12.drew := later_drew (later_refl _)
        obtain ⟨rt, hrt2⟩ : ∃ b, (decide (li ≤ m) && decide (m ≤ li + yk.grace)) = b := ⟨_, rfl⟩
        have Hrt := hide hrt2
        clear hw12 hgr hyk cl cb1 cb2 hbr hbrc hrt2 hx0r hx1r hx2r hx3r hx4r
        go_cut [28] (fun (v28 : Value) (W : World) => v28 = .bool rt ∧ Later w12 W)
        case first =>
          by_cases hm1 : li ≤ m
          · by_cases hm2 : m ≤ li + yk.grace
            · have hd1 : decide (li ≤ m) = true := decide_eq_true hm1
              have hd2 : decide (m ≤ li + yk.grace) = true := decide_eq_true hm2
              obtain rfl : rt = true := by rw [← Hrt.out, hd1, hd2]; rfl
              refine wp_region_ext (w0 := w12) (by kernel_rfl) (by kernel_rfl) (later_refl _) ?_; (repeat (first | go_big_quiet_step ((fail)) | quiet_step ((fail)))); refine wpQuiet_nil ?_; rintro w13 ⟨⟨_, hM13⟩, rfl⟩; (try dsimp only)
              go_wp2_with fail
              go_meet
              case rel => exact ⟨rfl, hM13⟩
            · have hd1 : decide (li ≤ m) = true := decide_eq_true hm1
              have hd2 : decide (m ≤ li + yk.grace) = false := decide_eq_false hm2
              obtain rfl : rt = false := by rw [← Hrt.out, hd1, hd2]; rfl
              refine wp_region_ext (w0 := w12) (by kernel_rfl) (by kernel_rfl) (later_refl _) ?_; (repeat (first | go_big_quiet_step ((fail)) | quiet_step ((fail)))); refine wpQuiet_nil ?_; rintro w13 ⟨⟨_, hM13⟩, rfl⟩; (try dsimp only)
              go_wp2_with fail
              go_meet
              case rel => exact ⟨rfl, hM13⟩
          · have hd1 : decide (li ≤ m) = false := decide_eq_false hm1
            obtain rfl : rt = false := by rw [← Hrt.out, hd1]; rfl
            refine wp_region_ext (w0 := w12) (by kernel_rfl) (by kernel_rfl) (later_refl _) ?_; (repeat (first | go_big_quiet_step ((fail)) | quiet_step ((fail)))); refine wpQuiet_nil ?_; rintro w13 ⟨⟨_, hM13⟩, rfl⟩; (try dsimp only)
            go_wp2_with fail
            go_meet
            case rel => exact ⟨rfl, hM13⟩
        case rest =>
          obtain ⟨rfl, hM13⟩ := hcut
          obtain ⟨w13, rfl⟩ : ∃ W : World, W = wc := ⟨_, rfl⟩
          have hP13 := Later.trans hP12 hM13
          have hin1 : inB li b1' b2' = true := by unfold inB; simp; omega
          have hi1c := fun W => in_calls li b1' b2' W
          rw [hin1] at hi1c
          obtain ⟨cl, hclq⟩ : ∃ b, inB m r1 r2 = b := ⟨_, rfl⟩
          have hi3c := fun W => in_calls m r1 r2 W
          rw [hclq] at hi3c
          have hcs := Hcase.out
          rw [hclq] at hcs
          have hcl3 := fun W (hW : Later w13 W) => hcl W (Later.trans hM13 hW)
          have hcb3 := fun W (hW : Later w13 W) => hcb1 W (Later.trans hM13 hW)
          have hcb4 := fun W (hW : Later w13 W) => hcb2 W (Later.trans hM13 hW)
          have hx13 := fun W (hW : Later w13 W) => hx1s W (Later.trans hM13 hW)
          have hx23 := fun W (hW : Later w13 W) => hx2s W (Later.trans hM13 hW)
          have hr03 := fun W (hW : Later w13 W) => hr0 W (Later.trans hM13 hW)
          have hr13 := fun W (hW : Later w13 W) => hr1 W (Later.trans hM13 hW)
          have hch3 := fun W (hW : Later w13 W) => ch W (Later.trans hM13 hW)
          have Hin1 := hide hi1c
          have Hin3 := hide hi3c
          have hS13 : Later w13 w13.drew := later_drew (later_refl _)
          clear hin1 hi1c hi3c hclq hcl hcb1 hcb2 hx1s hx2s hr0 hr1 ch hS12
          go_upto_region 17 with fail
          go_cut [212] (fun (v212 : Value) (W : World) => v212 = .bool false ∧ Later w13 W)
          case first =>
            rcases hcs with ⟨rfl, hm1, hm2, hcq⟩ | ⟨rfl, hnm, hcq⟩ | ⟨rfl, hcq⟩
            · as_aux_lemma =>
                obtain rfl : rt = true := by rw [← Hrt.out, decide_eq_true hm1, decide_eq_true hm2]; rfl
                have hcq2 : decide (m ≤ c.close) = cl := hcq.symm
                have hi2c := fun (X : World) (hX : Later w13 X) => (In_calls 1 1 3 X).mono fun e w' (h : e = .returned (.bool (inB 1 1 3)) ∧ X = w') => (⟨h.1, h.2 ▸ later_refl X⟩ : e = .returned (.bool true) ∧ Later X w')
                have Hin2 := hide hi2c
                have hne : (cl != cl) = false := by simp
                clear hi2c hcq hm1 hm2
                refine wp_region_lin (w0 := w13) 52 [] rely_later (by kernel_rfl) (by kernel_rfl) (by kernel_rfl) (by kernel_rfl) (hS13) (.inl rfl) ?_
                simp only [List.take_succ_cons, List.take_zero, List.drop_succ_cons, List.drop_zero]
                refine lin_det (v := ?_) (F' := ?_) (by rfl) (fun _ => by rfl) ?_ ?_ ?_
                rotate_left 2
                focus (intro xs X hX hdep; clear hdep; (try dsimp only); go_simp; (try (first | with_reducible rfl | exact ⟨rfl, rfl⟩ | (fail))))
                focus (intro xs; (try simp only [Act.put, List.setIfInBounds_toArray, List.set_cons_zero, List.set_cons_succ, Nat.reduceAdd]); rfl)
                refine lin_det (v := ?_) (F' := ?_) (by rfl) (fun _ => by rfl) ?_ ?_ ?_
                rotate_left 2
                focus (intro xs X hX hdep; clear hdep; (try dsimp only); go_simp; (try (first | with_reducible rfl | exact ⟨rfl, rfl⟩ | (fail))))
                focus (intro xs; (try simp only [Act.put, List.setIfInBounds_toArray, List.set_cons_zero, List.set_cons_succ, Nat.reduceAdd]); rfl)
                refine lin_det (v := ?_) (F' := ?_) (by rfl) (fun _ => by rfl) ?_ ?_ ?_
                rotate_left 2
                focus (intro xs X hX hdep; clear hdep; (try dsimp only); go_simp; (try (first | with_reducible rfl | exact ⟨rfl, rfl⟩ | (fail))))
                focus (intro xs; (try simp only [Act.put, List.setIfInBounds_toArray, List.set_cons_zero, List.set_cons_succ, Nat.reduceAdd]); rfl)
                refine lin_det (v := ?_) (F' := ?_) (by rfl) (fun _ => by rfl) ?_ ?_ ?_
                rotate_left 2
                focus (intro xs X hX hdep; clear hdep; (try dsimp only); go_simp; (try (first | with_reducible rfl | exact ⟨rfl, rfl⟩ | (fail))))
                focus (intro xs; (try simp only [Act.put, List.setIfInBounds_toArray, List.set_cons_zero, List.set_cons_succ, Nat.reduceAdd]); rfl)
                refine lin_det (v := ?_) (F' := ?_) (by rfl) (fun _ => by rfl) ?_ ?_ ?_
                rotate_left 2
                focus (intro xs X hX hdep; clear hdep; (try dsimp only); go_simp; (try (first | with_reducible rfl | exact ⟨rfl, rfl⟩ | (fail))))
                focus (intro xs; (try simp only [Act.put, List.setIfInBounds_toArray, List.set_cons_zero, List.set_cons_succ, Nat.reduceAdd]); rfl)
                refine lin_det (v := ?_) (F' := ?_) (by rfl) (fun _ => by rfl) ?_ ?_ ?_
                rotate_left 2
                focus (intro xs X hX hdep; clear hdep; (try dsimp only); go_simp; (try (first | with_reducible rfl | exact ⟨rfl, rfl⟩ | (fail))))
                focus (intro xs; (try simp only [Act.put, List.setIfInBounds_toArray, List.set_cons_zero, List.set_cons_succ, Nat.reduceAdd]); rfl)
                refine lin_det (v := ?_) (F' := ?_) (by rfl) (fun _ => by rfl) ?_ ?_ ?_
                rotate_left 2
                focus (intro xs X hX hdep; clear hdep; (try dsimp only); go_simp; (try (first | with_reducible rfl | exact ⟨rfl, rfl⟩ | (fail))))
                focus (intro xs; (try simp only [Act.put, List.setIfInBounds_toArray, List.set_cons_zero, List.set_cons_succ, Nat.reduceAdd]); rfl)
                refine lin_det (v := ?_) (F' := ?_) (by rfl) (fun _ => by rfl) ?_ ?_ ?_
                rotate_left 2
                focus (intro xs X hX hdep; clear hdep; (try dsimp only); go_simp; (try (first | with_reducible rfl | exact ⟨rfl, rfl⟩ | (fail))))
                focus (intro xs; (try simp only [Act.put, List.setIfInBounds_toArray, List.set_cons_zero, List.set_cons_succ, Nat.reduceAdd]); rfl)
                refine lin_det (v := ?_) (F' := ?_) (by rfl) (fun _ => by rfl) ?_ ?_ ?_
                rotate_left 2
                focus (intro xs X hX hdep; clear hdep; (try dsimp only); go_simp; (try (first | with_reducible rfl | exact ⟨rfl, rfl⟩ | (exact Hin1.out X))))
                focus (intro xs; (try simp only [Act.put, List.setIfInBounds_toArray, List.set_cons_zero, List.set_cons_succ, Nat.reduceAdd]); rfl)
                refine lin_det (v := ?_) (F' := ?_) (by rfl) (fun _ => by rfl) ?_ ?_ ?_
                rotate_left 2
                focus (intro xs X hX hdep; clear hdep; (try dsimp only); go_simp; (try (first | with_reducible rfl | exact ⟨rfl, rfl⟩ | (fail))))
                focus (intro xs; (try simp only [Act.put, List.setIfInBounds_toArray, List.set_cons_zero, List.set_cons_succ, Nat.reduceAdd]); rfl)
                refine lin_det (v := ?_) (F' := ?_) (by rfl) (fun _ => by rfl) ?_ ?_ ?_
                rotate_left 2
                focus (intro xs X hX hdep; clear hdep; (try dsimp only); go_simp; (try (first | with_reducible rfl | exact ⟨rfl, rfl⟩ | (fail))))
                focus (intro xs; (try simp only [Act.put, List.setIfInBounds_toArray, List.set_cons_zero, List.set_cons_succ, Nat.reduceAdd]); rfl)
                refine lin_det (v := ?_) (F' := ?_) (by rfl) (fun _ => by rfl) ?_ ?_ ?_
                rotate_left 2
                focus (intro xs X hX hdep; clear hdep; (try dsimp only); go_simp; (try (first | with_reducible rfl | exact ⟨rfl, rfl⟩ | (fail))))
                focus (intro xs; (try simp only [Act.put, List.setIfInBounds_toArray, List.set_cons_zero, List.set_cons_succ, Nat.reduceAdd]); rfl)
                refine lin_det (v := ?_) (F' := ?_) (by rfl) (fun _ => by rfl) ?_ ?_ ?_
                rotate_left 2
                focus (intro xs X hX hdep; clear hdep; (try dsimp only); go_simp; (try (first | with_reducible rfl | exact ⟨rfl, rfl⟩ | (fail))))
                focus (intro xs; (try simp only [Act.put, List.setIfInBounds_toArray, List.set_cons_zero, List.set_cons_succ, Nat.reduceAdd]); rfl)
                refine lin_det (v := ?_) (F' := ?_) (by rfl) (fun _ => by rfl) ?_ ?_ ?_
                rotate_left 2
                focus (intro xs X hX hdep; clear hdep; (try dsimp only); go_simp; (try (first | with_reducible rfl | exact ⟨rfl, rfl⟩ | (fail))))
                focus (intro xs; (try simp only [Act.put, List.setIfInBounds_toArray, List.set_cons_zero, List.set_cons_succ, Nat.reduceAdd]); rfl)
                refine lin_det (v := ?_) (F' := ?_) (by rfl) (fun _ => by rfl) ?_ ?_ ?_
                rotate_left 2
                focus (intro xs X hX hdep; clear hdep; (try dsimp only); go_simp; (try (first | with_reducible rfl | exact ⟨rfl, rfl⟩ | (fail))))
                focus (intro xs; (try simp only [Act.put, List.setIfInBounds_toArray, List.set_cons_zero, List.set_cons_succ, Nat.reduceAdd]); rfl)
                refine lin_det (v := ?_) (F' := ?_) (by rfl) (fun _ => by rfl) ?_ ?_ ?_
                rotate_left 2
                focus (intro xs X hX hdep; clear hdep; (try dsimp only); go_simp; (try (first | with_reducible rfl | exact ⟨rfl, rfl⟩ | (fail))))
                focus (intro xs; (try simp only [Act.put, List.setIfInBounds_toArray, List.set_cons_zero, List.set_cons_succ, Nat.reduceAdd]); rfl)
                refine lin_det (v := ?_) (F' := ?_) (by rfl) (fun _ => by rfl) ?_ ?_ ?_
                rotate_left 2
                focus (intro xs X hX hdep; clear hdep; (try dsimp only); go_simp; (try (first | with_reducible rfl | exact ⟨rfl, rfl⟩ | ((exact Hin2.out X hX)))))
                focus (intro xs; (try simp only [Act.put, List.setIfInBounds_toArray, List.set_cons_zero, List.set_cons_succ, Nat.reduceAdd]); rfl)
                refine lin_det (v := ?_) (F' := ?_) (by rfl) (fun _ => by rfl) ?_ ?_ ?_
                rotate_left 2
                focus (intro xs X hX hdep; clear hdep; (try dsimp only); go_simp; (try (first | with_reducible rfl | exact ⟨rfl, rfl⟩ | (fail))))
                focus (intro xs; (try simp only [Act.put, List.setIfInBounds_toArray, List.set_cons_zero, List.set_cons_succ, Nat.reduceAdd]); rfl)
                refine lin_det (v := ?_) (F' := ?_) (by rfl) (fun _ => by rfl) ?_ ?_ ?_
                rotate_left 2
                focus (intro xs X hX hdep; clear hdep; (try dsimp only); go_simp; (try (first | with_reducible rfl | exact ⟨rfl, rfl⟩ | (fail))))
                focus (intro xs; (try simp only [Act.put, List.setIfInBounds_toArray, List.set_cons_zero, List.set_cons_succ, Nat.reduceAdd]); rfl)
                refine lin_det (v := ?_) (F' := ?_) (by rfl) (fun _ => by rfl) ?_ ?_ ?_
                rotate_left 2
                focus (intro xs X hX hdep; clear hdep; (try dsimp only); go_simp; (try (first | with_reducible rfl | exact ⟨rfl, rfl⟩ | (fail))))
                focus (intro xs; (try simp only [Act.put, List.setIfInBounds_toArray, List.set_cons_zero, List.set_cons_succ, Nat.reduceAdd]); rfl)
                refine lin_det (v := ?_) (F' := ?_) (by rfl) (fun _ => by rfl) ?_ ?_ ?_
                rotate_left 2
                focus (intro xs X hX hdep; clear hdep; (try dsimp only); go_simp; (try (first | with_reducible rfl | exact ⟨rfl, rfl⟩ | (fail))))
                focus (intro xs; (try simp only [Act.put, List.setIfInBounds_toArray, List.set_cons_zero, List.set_cons_succ, Nat.reduceAdd]); rfl)
                refine lin_det (v := ?_) (F' := ?_) (by rfl) (fun _ => by rfl) ?_ ?_ ?_
                rotate_left 2
                focus (intro xs X hX hdep; clear hdep; (try dsimp only); go_simp; (try (first | with_reducible rfl | exact ⟨rfl, rfl⟩ | (fail))))
                focus (intro xs; (try simp only [Act.put, List.setIfInBounds_toArray, List.set_cons_zero, List.set_cons_succ, Nat.reduceAdd]); rfl)
                refine lin_det (v := ?_) (F' := ?_) (by rfl) (fun _ => by rfl) ?_ ?_ ?_
                rotate_left 2
                focus (intro xs X hX hdep; clear hdep; (try dsimp only); go_simp; (try (first | with_reducible rfl | exact ⟨rfl, rfl⟩ | (fail))))
                focus (intro xs; (try simp only [Act.put, List.setIfInBounds_toArray, List.set_cons_zero, List.set_cons_succ, Nat.reduceAdd]); rfl)
                refine lin_det (v := ?_) (F' := ?_) (by rfl) (fun _ => by rfl) ?_ ?_ ?_
                rotate_left 2
                focus (intro xs X hX hdep; clear hdep; (try dsimp only); go_simp; (try (first | with_reducible rfl | exact ⟨rfl, rfl⟩ | (fail))))
                focus (intro xs; (try simp only [Act.put, List.setIfInBounds_toArray, List.set_cons_zero, List.set_cons_succ, Nat.reduceAdd]); rfl)
                refine lin_det (v := ?_) (F' := ?_) (by rfl) (fun _ => by rfl) ?_ ?_ ?_
                rotate_left 2
                focus (intro xs X hX hdep; clear hdep; (try dsimp only); go_simp; (try (first | with_reducible rfl | exact ⟨rfl, rfl⟩ | (fail))))
                focus (intro xs; (try simp only [Act.put, List.setIfInBounds_toArray, List.set_cons_zero, List.set_cons_succ, Nat.reduceAdd]); rfl)
                refine lin_det (v := ?_) (F' := ?_) (by rfl) (fun _ => by rfl) ?_ ?_ ?_
                rotate_left 2
                focus (intro xs X hX hdep; clear hdep; (try dsimp only); go_simp; (try (first | with_reducible rfl | exact ⟨rfl, rfl⟩ | (fail))))
                focus (intro xs; (try simp only [Act.put, List.setIfInBounds_toArray, List.set_cons_zero, List.set_cons_succ, Nat.reduceAdd]); rfl)
                refine lin_det (v := ?_) (F' := ?_) (by rfl) (fun _ => by rfl) ?_ ?_ ?_
                rotate_left 2
                focus (intro xs X hX hdep; clear hdep; (try dsimp only); go_simp; (try (first | with_reducible rfl | exact ⟨rfl, rfl⟩ | (fail))))
                focus (intro xs; (try simp only [Act.put, List.setIfInBounds_toArray, List.set_cons_zero, List.set_cons_succ, Nat.reduceAdd]); rfl)
                refine lin_det (v := ?_) (F' := ?_) (by rfl) (fun _ => by rfl) ?_ ?_ ?_
                rotate_left 2
                focus (intro xs X hX hdep; clear hdep; (try dsimp only); go_simp; (try (first | with_reducible rfl | exact ⟨rfl, rfl⟩ | (fail))))
                focus (intro xs; (try simp only [Act.put, List.setIfInBounds_toArray, List.set_cons_zero, List.set_cons_succ, Nat.reduceAdd]); rfl)
                refine lin_det (v := ?_) (F' := ?_) (by rfl) (fun _ => by rfl) ?_ ?_ ?_
                rotate_left 2
                focus (intro xs X hX hdep; clear hdep; (try dsimp only); go_simp; (try (first | with_reducible rfl | exact ⟨rfl, rfl⟩ | (fail))))
                focus (intro xs; (try simp only [Act.put, List.setIfInBounds_toArray, List.set_cons_zero, List.set_cons_succ, Nat.reduceAdd]); rfl)
                refine lin_det (v := ?_) (F' := ?_) (by rfl) (fun _ => by rfl) ?_ ?_ ?_
                rotate_left 2
                focus (intro xs X hX hdep; clear hdep; (try dsimp only); go_simp; (try (first | with_reducible rfl | exact ⟨rfl, rfl⟩ | (fail))))
                focus (intro xs; (try simp only [Act.put, List.setIfInBounds_toArray, List.set_cons_zero, List.set_cons_succ, Nat.reduceAdd]); rfl)
                refine lin_det (v := ?_) (F' := ?_) (by rfl) (fun _ => by rfl) ?_ ?_ ?_
                rotate_left 2
                focus (intro xs X hX hdep; clear hdep; (try dsimp only); go_simp; (try (first | with_reducible rfl | exact ⟨rfl, rfl⟩ | (fail))))
                focus (intro xs; (try simp only [Act.put, List.setIfInBounds_toArray, List.set_cons_zero, List.set_cons_succ, Nat.reduceAdd]); rfl)
                refine lin_det (v := ?_) (F' := ?_) (by rfl) (fun _ => by rfl) ?_ ?_ ?_
                rotate_left 2
                focus (intro xs X hX hdep; clear hdep; (try dsimp only); go_simp; (try (first | with_reducible rfl | exact ⟨rfl, rfl⟩ | (fail))))
                focus (intro xs; (try simp only [Act.put, List.setIfInBounds_toArray, List.set_cons_zero, List.set_cons_succ, Nat.reduceAdd]); rfl)
                refine lin_det (v := ?_) (F' := ?_) (by rfl) (fun _ => by rfl) ?_ ?_ ?_
                rotate_left 2
                focus (intro xs X hX hdep; clear hdep; (try dsimp only); go_simp; (try (first | with_reducible rfl | exact ⟨rfl, rfl⟩ | (fail))))
                focus (intro xs; (try simp only [Act.put, List.setIfInBounds_toArray, List.set_cons_zero, List.set_cons_succ, Nat.reduceAdd]); rfl)
                refine lin_det (v := ?_) (F' := ?_) (by rfl) (fun _ => by rfl) ?_ ?_ ?_
                rotate_left 2
                focus (intro xs X hX hdep; clear hdep; (try dsimp only); go_simp; (try (first | with_reducible rfl | exact ⟨rfl, rfl⟩ | (fail))))
                focus (intro xs; (try simp only [Act.put, List.setIfInBounds_toArray, List.set_cons_zero, List.set_cons_succ, Nat.reduceAdd]); rfl)
                refine lin_det (v := ?_) (F' := ?_) (by rfl) (fun _ => by rfl) ?_ ?_ ?_
                rotate_left 2
                focus (intro xs X hX hdep; clear hdep; (try dsimp only); go_simp; (try (first | with_reducible rfl | exact ⟨rfl, rfl⟩ | (fail))))
                focus (intro xs; (try simp only [Act.put, List.setIfInBounds_toArray, List.set_cons_zero, List.set_cons_succ, Nat.reduceAdd]); rfl)
                refine lin_skip (F' := ?_) (by rfl) (fun _ => by rfl) ?_ ?_
                rotate_left 1
                focus (intro xs; (try simp only [Act.put, List.setIfInBounds_toArray, List.set_cons_zero, List.set_cons_succ, Nat.reduceAdd]); rfl)
                refine lin_det (v := ?_) (F' := ?_) (by rfl) (fun _ => by rfl) ?_ ?_ ?_
                rotate_left 2
                focus (intro xs X hX hdep; clear hdep; (try dsimp only); go_simp; (try (first | with_reducible rfl | exact ⟨rfl, rfl⟩ | (fail))))
                focus (intro xs; (try simp only [Act.put, List.setIfInBounds_toArray, List.set_cons_zero, List.set_cons_succ, Nat.reduceAdd]); rfl)
                refine lin_det (v := ?_) (F' := ?_) (by rfl) (fun _ => by rfl) ?_ ?_ ?_
                rotate_left 2
                focus (intro xs X hX hdep; clear hdep; (try dsimp only); go_simp; (try (first | with_reducible rfl | exact ⟨rfl, rfl⟩ | (fail))))
                focus (intro xs; (try simp only [Act.put, List.setIfInBounds_toArray, List.set_cons_zero, List.set_cons_succ, Nat.reduceAdd]); rfl)
                refine lin_det (v := ?_) (F' := ?_) (by rfl) (fun _ => by rfl) ?_ ?_ ?_
                rotate_left 2
                focus (intro xs X hX hdep; clear hdep; (try dsimp only); go_simp; (try (first | with_reducible rfl | exact ⟨rfl, rfl⟩ | (fail))))
                focus (intro xs; (try simp only [Act.put, List.setIfInBounds_toArray, List.set_cons_zero, List.set_cons_succ, Nat.reduceAdd]); rfl)
                refine lin_det (v := ?_) (F' := ?_) (by rfl) (fun _ => by rfl) ?_ ?_ ?_
                rotate_left 2
                focus (intro xs X hX hdep; clear hdep; (try dsimp only); go_simp; (try (first | with_reducible rfl | exact ⟨rfl, rfl⟩ | (fail))))
                focus (intro xs; (try simp only [Act.put, List.setIfInBounds_toArray, List.set_cons_zero, List.set_cons_succ, Nat.reduceAdd]); rfl)
                refine lin_det (v := ?_) (F' := ?_) (by rfl) (fun _ => by rfl) ?_ ?_ ?_
                rotate_left 2
                focus (intro xs X hX hdep; clear hdep; (try dsimp only); go_simp; (try (first | with_reducible rfl | exact ⟨rfl, rfl⟩ | (fail))))
                focus (intro xs; (try simp only [Act.put, List.setIfInBounds_toArray, List.set_cons_zero, List.set_cons_succ, Nat.reduceAdd]); rfl)
                refine lin_det (v := ?_) (F' := ?_) (by rfl) (fun _ => by rfl) ?_ ?_ ?_
                rotate_left 2
                focus (intro xs X hX hdep; clear hdep; (try dsimp only); go_simp; (try (first | with_reducible rfl | exact ⟨rfl, rfl⟩ | (exact Hin3.out X))))
                focus (intro xs; (try simp only [Act.put, List.setIfInBounds_toArray, List.set_cons_zero, List.set_cons_succ, Nat.reduceAdd]); rfl)
                refine lin_det (v := ?_) (F' := ?_) (by rfl) (fun _ => by rfl) ?_ ?_ ?_
                rotate_left 2
                focus (intro xs X hX hdep; clear hdep; (try dsimp only); go_simp; (try (first | with_reducible rfl | exact ⟨rfl, rfl⟩ | (fail))))
                focus (intro xs; (try simp only [Act.put, List.setIfInBounds_toArray, List.set_cons_zero, List.set_cons_succ, Nat.reduceAdd]); rfl)
                refine lin_det (v := ?_) (F' := ?_) (by rfl) (fun _ => by rfl) ?_ ?_ ?_
                rotate_left 2
                focus (intro xs X hX hdep; clear hdep; (try dsimp only); go_simp; (try (first | with_reducible rfl | exact ⟨rfl, rfl⟩ | (fail))))
                focus (intro xs; (try simp only [Act.put, List.setIfInBounds_toArray, List.set_cons_zero, List.set_cons_succ, Nat.reduceAdd]); rfl)
                refine lin_det (v := ?_) (F' := ?_) (by rfl) (fun _ => by rfl) ?_ ?_ ?_
                rotate_left 2
                focus (intro xs X hX hdep; clear hdep; (try dsimp only); go_simp; (try (first | with_reducible rfl | exact ⟨rfl, rfl⟩ | (fail))))
                focus (intro xs; (try simp only [Act.put, List.setIfInBounds_toArray, List.set_cons_zero, List.set_cons_succ, Nat.reduceAdd]); rfl)
                refine lin_det (v := ?_) (F' := ?_) (by rfl) (fun _ => by rfl) ?_ ?_ ?_
                rotate_left 2
                focus (intro xs X hX hdep; clear hdep; (try dsimp only); go_simp; (try (first | with_reducible rfl | exact ⟨rfl, rfl⟩ | (fail))))
                focus (intro xs; (try simp only [Act.put, List.setIfInBounds_toArray, List.set_cons_zero, List.set_cons_succ, Nat.reduceAdd]); rfl)
                refine lin_det (v := ?_) (F' := ?_) (by rfl) (fun _ => by rfl) ?_ ?_ ?_
                rotate_left 2
                focus (intro xs X hX hdep; clear hdep; (try dsimp only); go_simp; (try (first | with_reducible rfl | exact ⟨rfl, rfl⟩ | (fail))))
                focus (intro xs; (try simp only [Act.put, List.setIfInBounds_toArray, List.set_cons_zero, List.set_cons_succ, Nat.reduceAdd]); rfl)
                refine lin_det (v := ?_) (F' := ?_) (by rfl) (fun _ => by rfl) ?_ ?_ ?_
                rotate_left 2
                focus (intro xs X hX hdep; clear hdep; (try dsimp only); go_simp; (try (first | with_reducible rfl | exact ⟨rfl, rfl⟩ | (fail))))
                focus (intro xs; (try simp only [Act.put, List.setIfInBounds_toArray, List.set_cons_zero, List.set_cons_succ, Nat.reduceAdd]); rfl)
                refine lin_det (v := ?_) (F' := ?_) (by rfl) (fun _ => by rfl) ?_ ?_ ?_
                rotate_left 2
                focus (intro xs X hX hdep; clear hdep; (try dsimp only); go_simp; (try (first | with_reducible rfl | exact ⟨rfl, rfl⟩ | (fail))))
                focus (intro xs; (try simp only [Act.put, List.setIfInBounds_toArray, List.set_cons_zero, List.set_cons_succ, Nat.reduceAdd]); rfl)
                refine lin_det (v := ?_) (F' := ?_) (by rfl) (fun _ => by rfl) ?_ ?_ ?_
                rotate_left 2
                focus (intro xs X hX hdep; clear hdep; (try dsimp only); go_simp; (try (first | with_reducible rfl | exact ⟨rfl, rfl⟩ | (fail))))
                focus (intro xs; (try simp only [Act.put, List.setIfInBounds_toArray, List.set_cons_zero, List.set_cons_succ, Nat.reduceAdd]); rfl)
                refine lin_det (v := ?_) (F' := ?_) (by rfl) (fun _ => by rfl) ?_ ?_ ?_
                rotate_left 2
                focus (intro xs X hX hdep; clear hdep; (try dsimp only); go_simp; (try (first | with_reducible rfl | exact ⟨rfl, rfl⟩ | (fail))))
                focus (intro xs; (try simp only [Act.put, List.setIfInBounds_toArray, List.set_cons_zero, List.set_cons_succ, Nat.reduceAdd]); rfl)
                refine lin_det (v := ?_) (F' := ?_) (by rfl) (fun _ => by rfl) ?_ ?_ ?_
                rotate_left 2
                focus (intro xs X hX hdep; clear hdep; (try dsimp only); go_simp; (try (first | with_reducible rfl | exact ⟨rfl, rfl⟩ | (fail))))
                focus (intro xs; (try simp only [Act.put, List.setIfInBounds_toArray, List.set_cons_zero, List.set_cons_succ, Nat.reduceAdd]); rfl)
                intro xs W hW hf hfr hfb
                clear hf hfr hfb
                go_wp2_with fail
                go_meet
                case rel => exact ⟨rfl, hW⟩
            · as_aux_lemma =>
                obtain rfl : rt = false := by
                  rw [← Hrt.out]
                  cases h1 : decide (li ≤ m) with
                  | false => rfl
                  | true =>
                    cases h2 : decide (m ≤ li + yk.grace) with
                    | false => rfl
                    | true => exact absurd ⟨of_decide_eq_true h1, of_decide_eq_true h2⟩ hnm
                subst hcq
                have hi2c := fun (X : World) (hX : Later w13 X) => (In_calls 2 1 3 X).mono fun e w' (h : e = .returned (.bool (inB 2 1 3)) ∧ X = w') => (⟨h.1, h.2 ▸ later_refl X⟩ : e = .returned (.bool true) ∧ Later X w')
                have Hin2 := hide hi2c
                clear hi2c hnm
                refine wp_region_lin (w0 := w13) 52 [] rely_later (by kernel_rfl) (by kernel_rfl) (by kernel_rfl) (by kernel_rfl) (hS13) (.inl rfl) ?_
                simp only [List.take_succ_cons, List.take_zero, List.drop_succ_cons, List.drop_zero]
                refine lin_det (v := ?_) (F' := ?_) (by rfl) (fun _ => by rfl) ?_ ?_ ?_
                rotate_left 2
                focus (intro xs X hX hdep; clear hdep; (try dsimp only); go_simp; (try (first | with_reducible rfl | exact ⟨rfl, rfl⟩ | (fail))))
                focus (intro xs; (try simp only [Act.put, List.setIfInBounds_toArray, List.set_cons_zero, List.set_cons_succ, Nat.reduceAdd]); rfl)
                refine lin_det (v := ?_) (F' := ?_) (by rfl) (fun _ => by rfl) ?_ ?_ ?_
                rotate_left 2
                focus (intro xs X hX hdep; clear hdep; (try dsimp only); go_simp; (try (first | with_reducible rfl | exact ⟨rfl, rfl⟩ | (fail))))
                focus (intro xs; (try simp only [Act.put, List.setIfInBounds_toArray, List.set_cons_zero, List.set_cons_succ, Nat.reduceAdd]); rfl)
                refine lin_det (v := ?_) (F' := ?_) (by rfl) (fun _ => by rfl) ?_ ?_ ?_
                rotate_left 2
                focus (intro xs X hX hdep; clear hdep; (try dsimp only); go_simp; (try (first | with_reducible rfl | exact ⟨rfl, rfl⟩ | (fail))))
                focus (intro xs; (try simp only [Act.put, List.setIfInBounds_toArray, List.set_cons_zero, List.set_cons_succ, Nat.reduceAdd]); rfl)
                refine lin_det (v := ?_) (F' := ?_) (by rfl) (fun _ => by rfl) ?_ ?_ ?_
                rotate_left 2
                focus (intro xs X hX hdep; clear hdep; (try dsimp only); go_simp; (try (first | with_reducible rfl | exact ⟨rfl, rfl⟩ | (fail))))
                focus (intro xs; (try simp only [Act.put, List.setIfInBounds_toArray, List.set_cons_zero, List.set_cons_succ, Nat.reduceAdd]); rfl)
                refine lin_det (v := ?_) (F' := ?_) (by rfl) (fun _ => by rfl) ?_ ?_ ?_
                rotate_left 2
                focus (intro xs X hX hdep; clear hdep; (try dsimp only); go_simp; (try (first | with_reducible rfl | exact ⟨rfl, rfl⟩ | (fail))))
                focus (intro xs; (try simp only [Act.put, List.setIfInBounds_toArray, List.set_cons_zero, List.set_cons_succ, Nat.reduceAdd]); rfl)
                refine lin_det (v := ?_) (F' := ?_) (by rfl) (fun _ => by rfl) ?_ ?_ ?_
                rotate_left 2
                focus (intro xs X hX hdep; clear hdep; (try dsimp only); go_simp; (try (first | with_reducible rfl | exact ⟨rfl, rfl⟩ | (fail))))
                focus (intro xs; (try simp only [Act.put, List.setIfInBounds_toArray, List.set_cons_zero, List.set_cons_succ, Nat.reduceAdd]); rfl)
                refine lin_det (v := ?_) (F' := ?_) (by rfl) (fun _ => by rfl) ?_ ?_ ?_
                rotate_left 2
                focus (intro xs X hX hdep; clear hdep; (try dsimp only); go_simp; (try (first | with_reducible rfl | exact ⟨rfl, rfl⟩ | (fail))))
                focus (intro xs; (try simp only [Act.put, List.setIfInBounds_toArray, List.set_cons_zero, List.set_cons_succ, Nat.reduceAdd]); rfl)
                refine lin_det (v := ?_) (F' := ?_) (by rfl) (fun _ => by rfl) ?_ ?_ ?_
                rotate_left 2
                focus (intro xs X hX hdep; clear hdep; (try dsimp only); go_simp; (try (first | with_reducible rfl | exact ⟨rfl, rfl⟩ | (fail))))
                focus (intro xs; (try simp only [Act.put, List.setIfInBounds_toArray, List.set_cons_zero, List.set_cons_succ, Nat.reduceAdd]); rfl)
                refine lin_det (v := ?_) (F' := ?_) (by rfl) (fun _ => by rfl) ?_ ?_ ?_
                rotate_left 2
                focus (intro xs X hX hdep; clear hdep; (try dsimp only); go_simp; (try (first | with_reducible rfl | exact ⟨rfl, rfl⟩ | (exact Hin1.out X))))
                focus (intro xs; (try simp only [Act.put, List.setIfInBounds_toArray, List.set_cons_zero, List.set_cons_succ, Nat.reduceAdd]); rfl)
                refine lin_det (v := ?_) (F' := ?_) (by rfl) (fun _ => by rfl) ?_ ?_ ?_
                rotate_left 2
                focus (intro xs X hX hdep; clear hdep; (try dsimp only); go_simp; (try (first | with_reducible rfl | exact ⟨rfl, rfl⟩ | (fail))))
                focus (intro xs; (try simp only [Act.put, List.setIfInBounds_toArray, List.set_cons_zero, List.set_cons_succ, Nat.reduceAdd]); rfl)
                refine lin_det (v := ?_) (F' := ?_) (by rfl) (fun _ => by rfl) ?_ ?_ ?_
                rotate_left 2
                focus (intro xs X hX hdep; clear hdep; (try dsimp only); go_simp; (try (first | with_reducible rfl | exact ⟨rfl, rfl⟩ | (fail))))
                focus (intro xs; (try simp only [Act.put, List.setIfInBounds_toArray, List.set_cons_zero, List.set_cons_succ, Nat.reduceAdd]); rfl)
                refine lin_det (v := ?_) (F' := ?_) (by rfl) (fun _ => by rfl) ?_ ?_ ?_
                rotate_left 2
                focus (intro xs X hX hdep; clear hdep; (try dsimp only); go_simp; (try (first | with_reducible rfl | exact ⟨rfl, rfl⟩ | (fail))))
                focus (intro xs; (try simp only [Act.put, List.setIfInBounds_toArray, List.set_cons_zero, List.set_cons_succ, Nat.reduceAdd]); rfl)
                refine lin_det (v := ?_) (F' := ?_) (by rfl) (fun _ => by rfl) ?_ ?_ ?_
                rotate_left 2
                focus (intro xs X hX hdep; clear hdep; (try dsimp only); go_simp; (try (first | with_reducible rfl | exact ⟨rfl, rfl⟩ | (fail))))
                focus (intro xs; (try simp only [Act.put, List.setIfInBounds_toArray, List.set_cons_zero, List.set_cons_succ, Nat.reduceAdd]); rfl)
                refine lin_det (v := ?_) (F' := ?_) (by rfl) (fun _ => by rfl) ?_ ?_ ?_
                rotate_left 2
                focus (intro xs X hX hdep; clear hdep; (try dsimp only); go_simp; (try (first | with_reducible rfl | exact ⟨rfl, rfl⟩ | (fail))))
                focus (intro xs; (try simp only [Act.put, List.setIfInBounds_toArray, List.set_cons_zero, List.set_cons_succ, Nat.reduceAdd]); rfl)
                refine lin_det (v := ?_) (F' := ?_) (by rfl) (fun _ => by rfl) ?_ ?_ ?_
                rotate_left 2
                focus (intro xs X hX hdep; clear hdep; (try dsimp only); go_simp; (try (first | with_reducible rfl | exact ⟨rfl, rfl⟩ | (fail))))
                focus (intro xs; (try simp only [Act.put, List.setIfInBounds_toArray, List.set_cons_zero, List.set_cons_succ, Nat.reduceAdd]); rfl)
                refine lin_det (v := ?_) (F' := ?_) (by rfl) (fun _ => by rfl) ?_ ?_ ?_
                rotate_left 2
                focus (intro xs X hX hdep; clear hdep; (try dsimp only); go_simp; (try (first | with_reducible rfl | exact ⟨rfl, rfl⟩ | (fail))))
                focus (intro xs; (try simp only [Act.put, List.setIfInBounds_toArray, List.set_cons_zero, List.set_cons_succ, Nat.reduceAdd]); rfl)
                refine lin_det (v := ?_) (F' := ?_) (by rfl) (fun _ => by rfl) ?_ ?_ ?_
                rotate_left 2
                focus (intro xs X hX hdep; clear hdep; (try dsimp only); go_simp; (try (first | with_reducible rfl | exact ⟨rfl, rfl⟩ | ((exact Hin2.out X hX)))))
                focus (intro xs; (try simp only [Act.put, List.setIfInBounds_toArray, List.set_cons_zero, List.set_cons_succ, Nat.reduceAdd]); rfl)
                refine lin_det (v := ?_) (F' := ?_) (by rfl) (fun _ => by rfl) ?_ ?_ ?_
                rotate_left 2
                focus (intro xs X hX hdep; clear hdep; (try dsimp only); go_simp; (try (first | with_reducible rfl | exact ⟨rfl, rfl⟩ | (fail))))
                focus (intro xs; (try simp only [Act.put, List.setIfInBounds_toArray, List.set_cons_zero, List.set_cons_succ, Nat.reduceAdd]); rfl)
                refine lin_det (v := ?_) (F' := ?_) (by rfl) (fun _ => by rfl) ?_ ?_ ?_
                rotate_left 2
                focus (intro xs X hX hdep; clear hdep; (try dsimp only); go_simp; (try (first | with_reducible rfl | exact ⟨rfl, rfl⟩ | (fail))))
                focus (intro xs; (try simp only [Act.put, List.setIfInBounds_toArray, List.set_cons_zero, List.set_cons_succ, Nat.reduceAdd]); rfl)
                refine lin_det (v := ?_) (F' := ?_) (by rfl) (fun _ => by rfl) ?_ ?_ ?_
                rotate_left 2
                focus (intro xs X hX hdep; clear hdep; (try dsimp only); go_simp; (try (first | with_reducible rfl | exact ⟨rfl, rfl⟩ | (fail))))
                focus (intro xs; (try simp only [Act.put, List.setIfInBounds_toArray, List.set_cons_zero, List.set_cons_succ, Nat.reduceAdd]); rfl)
                refine lin_det (v := ?_) (F' := ?_) (by rfl) (fun _ => by rfl) ?_ ?_ ?_
                rotate_left 2
                focus (intro xs X hX hdep; clear hdep; (try dsimp only); go_simp; (try (first | with_reducible rfl | exact ⟨rfl, rfl⟩ | (fail))))
                focus (intro xs; (try simp only [Act.put, List.setIfInBounds_toArray, List.set_cons_zero, List.set_cons_succ, Nat.reduceAdd]); rfl)
                refine lin_det (v := ?_) (F' := ?_) (by rfl) (fun _ => by rfl) ?_ ?_ ?_
                rotate_left 2
                focus (intro xs X hX hdep; clear hdep; (try dsimp only); go_simp; (try (first | with_reducible rfl | exact ⟨rfl, rfl⟩ | (fail))))
                focus (intro xs; (try simp only [Act.put, List.setIfInBounds_toArray, List.set_cons_zero, List.set_cons_succ, Nat.reduceAdd]); rfl)
                refine lin_det (v := ?_) (F' := ?_) (by rfl) (fun _ => by rfl) ?_ ?_ ?_
                rotate_left 2
                focus (intro xs X hX hdep; clear hdep; (try dsimp only); go_simp; (try (first | with_reducible rfl | exact ⟨rfl, rfl⟩ | (fail))))
                focus (intro xs; (try simp only [Act.put, List.setIfInBounds_toArray, List.set_cons_zero, List.set_cons_succ, Nat.reduceAdd]); rfl)
                refine lin_det (v := ?_) (F' := ?_) (by rfl) (fun _ => by rfl) ?_ ?_ ?_
                rotate_left 2
                focus (intro xs X hX hdep; clear hdep; (try dsimp only); go_simp; (try (first | with_reducible rfl | exact ⟨rfl, rfl⟩ | (fail))))
                focus (intro xs; (try simp only [Act.put, List.setIfInBounds_toArray, List.set_cons_zero, List.set_cons_succ, Nat.reduceAdd]); rfl)
                refine lin_det (v := ?_) (F' := ?_) (by rfl) (fun _ => by rfl) ?_ ?_ ?_
                rotate_left 2
                focus (intro xs X hX hdep; clear hdep; (try dsimp only); go_simp; (try (first | with_reducible rfl | exact ⟨rfl, rfl⟩ | (fail))))
                focus (intro xs; (try simp only [Act.put, List.setIfInBounds_toArray, List.set_cons_zero, List.set_cons_succ, Nat.reduceAdd]); rfl)
                refine lin_det (v := ?_) (F' := ?_) (by rfl) (fun _ => by rfl) ?_ ?_ ?_
                rotate_left 2
                focus (intro xs X hX hdep; clear hdep; (try dsimp only); go_simp; (try (first | with_reducible rfl | exact ⟨rfl, rfl⟩ | (fail))))
                focus (intro xs; (try simp only [Act.put, List.setIfInBounds_toArray, List.set_cons_zero, List.set_cons_succ, Nat.reduceAdd]); rfl)
                refine lin_det (v := ?_) (F' := ?_) (by rfl) (fun _ => by rfl) ?_ ?_ ?_
                rotate_left 2
                focus (intro xs X hX hdep; clear hdep; (try dsimp only); go_simp; (try (first | with_reducible rfl | exact ⟨rfl, rfl⟩ | (fail))))
                focus (intro xs; (try simp only [Act.put, List.setIfInBounds_toArray, List.set_cons_zero, List.set_cons_succ, Nat.reduceAdd]); rfl)
                refine lin_skip (F' := ?_) (by rfl) (fun _ => by rfl) ?_ ?_
                rotate_left 1
                focus (intro xs; (try simp only [Act.put, List.setIfInBounds_toArray, List.set_cons_zero, List.set_cons_succ, Nat.reduceAdd]); rfl)
                refine lin_skip (F' := ?_) (by rfl) (fun _ => by rfl) ?_ ?_
                rotate_left 1
                focus (intro xs; (try simp only [Act.put, List.setIfInBounds_toArray, List.set_cons_zero, List.set_cons_succ, Nat.reduceAdd]); rfl)
                refine lin_det (v := ?_) (F' := ?_) (by rfl) (fun _ => by rfl) ?_ ?_ ?_
                rotate_left 2
                focus (intro xs X hX hdep; clear hdep; (try dsimp only); go_simp; (try (first | with_reducible rfl | exact ⟨rfl, rfl⟩ | (fail))))
                focus (intro xs; (try simp only [Act.put, List.setIfInBounds_toArray, List.set_cons_zero, List.set_cons_succ, Nat.reduceAdd]); rfl)
                refine lin_det (v := ?_) (F' := ?_) (by rfl) (fun _ => by rfl) ?_ ?_ ?_
                rotate_left 2
                focus (intro xs X hX hdep; clear hdep; (try dsimp only); go_simp; (try (first | with_reducible rfl | exact ⟨rfl, rfl⟩ | (fail))))
                focus (intro xs; (try simp only [Act.put, List.setIfInBounds_toArray, List.set_cons_zero, List.set_cons_succ, Nat.reduceAdd]); rfl)
                refine lin_det (v := ?_) (F' := ?_) (by rfl) (fun _ => by rfl) ?_ ?_ ?_
                rotate_left 2
                focus (intro xs X hX hdep; clear hdep; (try dsimp only); go_simp; (try (first | with_reducible rfl | exact ⟨rfl, rfl⟩ | (fail))))
                focus (intro xs; (try simp only [Act.put, List.setIfInBounds_toArray, List.set_cons_zero, List.set_cons_succ, Nat.reduceAdd]); rfl)
                refine lin_det (v := ?_) (F' := ?_) (by rfl) (fun _ => by rfl) ?_ ?_ ?_
                rotate_left 2
                focus (intro xs X hX hdep; clear hdep; (try dsimp only); go_simp; (try (first | with_reducible rfl | exact ⟨rfl, rfl⟩ | (fail))))
                focus (intro xs; (try simp only [Act.put, List.setIfInBounds_toArray, List.set_cons_zero, List.set_cons_succ, Nat.reduceAdd]); rfl)
                refine lin_det (v := ?_) (F' := ?_) (by rfl) (fun _ => by rfl) ?_ ?_ ?_
                rotate_left 2
                focus (intro xs X hX hdep; clear hdep; (try dsimp only); go_simp; (try (first | with_reducible rfl | exact ⟨rfl, rfl⟩ | (fail))))
                focus (intro xs; (try simp only [Act.put, List.setIfInBounds_toArray, List.set_cons_zero, List.set_cons_succ, Nat.reduceAdd]); rfl)
                refine lin_det (v := ?_) (F' := ?_) (by rfl) (fun _ => by rfl) ?_ ?_ ?_
                rotate_left 2
                focus (intro xs X hX hdep; clear hdep; (try dsimp only); go_simp; (try (first | with_reducible rfl | exact ⟨rfl, rfl⟩ | (fail))))
                focus (intro xs; (try simp only [Act.put, List.setIfInBounds_toArray, List.set_cons_zero, List.set_cons_succ, Nat.reduceAdd]); rfl)
                refine lin_det (v := ?_) (F' := ?_) (by rfl) (fun _ => by rfl) ?_ ?_ ?_
                rotate_left 2
                focus (intro xs X hX hdep; clear hdep; (try dsimp only); go_simp; (try (first | with_reducible rfl | exact ⟨rfl, rfl⟩ | (fail))))
                focus (intro xs; (try simp only [Act.put, List.setIfInBounds_toArray, List.set_cons_zero, List.set_cons_succ, Nat.reduceAdd]); rfl)
                refine lin_det (v := ?_) (F' := ?_) (by rfl) (fun _ => by rfl) ?_ ?_ ?_
                rotate_left 2
                focus (intro xs X hX hdep; clear hdep; (try dsimp only); go_simp; (try (first | with_reducible rfl | exact ⟨rfl, rfl⟩ | (fail))))
                focus (intro xs; (try simp only [Act.put, List.setIfInBounds_toArray, List.set_cons_zero, List.set_cons_succ, Nat.reduceAdd]); rfl)
                refine lin_det (v := ?_) (F' := ?_) (by rfl) (fun _ => by rfl) ?_ ?_ ?_
                rotate_left 2
                focus (intro xs X hX hdep; clear hdep; (try dsimp only); go_simp; (try (first | with_reducible rfl | exact ⟨rfl, rfl⟩ | (fail))))
                focus (intro xs; (try simp only [Act.put, List.setIfInBounds_toArray, List.set_cons_zero, List.set_cons_succ, Nat.reduceAdd]); rfl)
                refine lin_det (v := ?_) (F' := ?_) (by rfl) (fun _ => by rfl) ?_ ?_ ?_
                rotate_left 2
                focus (intro xs X hX hdep; clear hdep; (try dsimp only); go_simp; (try (first | with_reducible rfl | exact ⟨rfl, rfl⟩ | (fail))))
                focus (intro xs; (try simp only [Act.put, List.setIfInBounds_toArray, List.set_cons_zero, List.set_cons_succ, Nat.reduceAdd]); rfl)
                refine lin_det (v := ?_) (F' := ?_) (by rfl) (fun _ => by rfl) ?_ ?_ ?_
                rotate_left 2
                focus (intro xs X hX hdep; clear hdep; (try dsimp only); go_simp; (try (first | with_reducible rfl | exact ⟨rfl, rfl⟩ | (fail))))
                focus (intro xs; (try simp only [Act.put, List.setIfInBounds_toArray, List.set_cons_zero, List.set_cons_succ, Nat.reduceAdd]); rfl)
                refine lin_det (v := ?_) (F' := ?_) (by rfl) (fun _ => by rfl) ?_ ?_ ?_
                rotate_left 2
                focus (intro xs X hX hdep; clear hdep; (try dsimp only); go_simp; (try (first | with_reducible rfl | exact ⟨rfl, rfl⟩ | (fail))))
                focus (intro xs; (try simp only [Act.put, List.setIfInBounds_toArray, List.set_cons_zero, List.set_cons_succ, Nat.reduceAdd]); rfl)
                refine lin_det (v := ?_) (F' := ?_) (by rfl) (fun _ => by rfl) ?_ ?_ ?_
                rotate_left 2
                focus (intro xs X hX hdep; clear hdep; (try dsimp only); go_simp; (try (first | with_reducible rfl | exact ⟨rfl, rfl⟩ | (exact Hin3.out X))))
                focus (intro xs; (try simp only [Act.put, List.setIfInBounds_toArray, List.set_cons_zero, List.set_cons_succ, Nat.reduceAdd]); rfl)
                refine lin_det (v := ?_) (F' := ?_) (by rfl) (fun _ => by rfl) ?_ ?_ ?_
                rotate_left 2
                focus (intro xs X hX hdep; clear hdep; (try dsimp only); go_simp; (try (first | with_reducible rfl | exact ⟨rfl, rfl⟩ | (fail))))
                focus (intro xs; (try simp only [Act.put, List.setIfInBounds_toArray, List.set_cons_zero, List.set_cons_succ, Nat.reduceAdd]); rfl)
                refine lin_det (v := ?_) (F' := ?_) (by rfl) (fun _ => by rfl) ?_ ?_ ?_
                rotate_left 2
                focus (intro xs X hX hdep; clear hdep; (try dsimp only); go_simp; (try (first | with_reducible rfl | exact ⟨rfl, rfl⟩ | (fail))))
                focus (intro xs; (try simp only [Act.put, List.setIfInBounds_toArray, List.set_cons_zero, List.set_cons_succ, Nat.reduceAdd]); rfl)
                refine lin_det (v := ?_) (F' := ?_) (by rfl) (fun _ => by rfl) ?_ ?_ ?_
                rotate_left 2
                focus (intro xs X hX hdep; clear hdep; (try dsimp only); go_simp; (try (first | with_reducible rfl | exact ⟨rfl, rfl⟩ | (fail))))
                focus (intro xs; (try simp only [Act.put, List.setIfInBounds_toArray, List.set_cons_zero, List.set_cons_succ, Nat.reduceAdd]); rfl)
                refine lin_skip (F' := ?_) (by rfl) (fun _ => by rfl) ?_ ?_
                rotate_left 1
                focus (intro xs; (try simp only [Act.put, List.setIfInBounds_toArray, List.set_cons_zero, List.set_cons_succ, Nat.reduceAdd]); rfl)
                refine lin_skip (F' := ?_) (by rfl) (fun _ => by rfl) ?_ ?_
                rotate_left 1
                focus (intro xs; (try simp only [Act.put, List.setIfInBounds_toArray, List.set_cons_zero, List.set_cons_succ, Nat.reduceAdd]); rfl)
                refine lin_skip (F' := ?_) (by rfl) (fun _ => by rfl) ?_ ?_
                rotate_left 1
                focus (intro xs; (try simp only [Act.put, List.setIfInBounds_toArray, List.set_cons_zero, List.set_cons_succ, Nat.reduceAdd]); rfl)
                refine lin_skip (F' := ?_) (by rfl) (fun _ => by rfl) ?_ ?_
                rotate_left 1
                focus (intro xs; (try simp only [Act.put, List.setIfInBounds_toArray, List.set_cons_zero, List.set_cons_succ, Nat.reduceAdd]); rfl)
                refine lin_det (v := ?_) (F' := ?_) (by rfl) (fun _ => by rfl) ?_ ?_ ?_
                rotate_left 2
                focus (intro xs X hX hdep; clear hdep; (try dsimp only); go_simp; (try (first | with_reducible rfl | exact ⟨rfl, rfl⟩ | (fail))))
                focus (intro xs; (try simp only [Act.put, List.setIfInBounds_toArray, List.set_cons_zero, List.set_cons_succ, Nat.reduceAdd]); rfl)
                refine lin_det (v := ?_) (F' := ?_) (by rfl) (fun _ => by rfl) ?_ ?_ ?_
                rotate_left 2
                focus (intro xs X hX hdep; clear hdep; (try dsimp only); go_simp; (try (first | with_reducible rfl | exact ⟨rfl, rfl⟩ | (fail))))
                focus (intro xs; (try simp only [Act.put, List.setIfInBounds_toArray, List.set_cons_zero, List.set_cons_succ, Nat.reduceAdd]); rfl)
                refine lin_det (v := ?_) (F' := ?_) (by rfl) (fun _ => by rfl) ?_ ?_ ?_
                rotate_left 2
                focus (intro xs X hX hdep; clear hdep; (try dsimp only); go_simp; (try (first | with_reducible rfl | exact ⟨rfl, rfl⟩ | (fail))))
                focus (intro xs; (try simp only [Act.put, List.setIfInBounds_toArray, List.set_cons_zero, List.set_cons_succ, Nat.reduceAdd]); rfl)
                intro xs W hW hf hfr hfb
                clear hf hfr hfb
                go_wp2_with fail
                go_meet
                case rel => exact ⟨rfl, hW⟩
            · as_aux_lemma =>
                subst hcq
                have hi2c := fun (X : World) (hX : Later w13 X) => (In_calls 3 1 3 X).mono fun e w' (h : e = .returned (.bool (inB 3 1 3)) ∧ X = w') => (⟨h.1, h.2 ▸ later_refl X⟩ : e = .returned (.bool true) ∧ Later X w')
                have Hin2 := hide hi2c
                clear hi2c
                refine wp_region_lin (w0 := w13) 52 [] rely_later (by kernel_rfl) (by kernel_rfl) (by kernel_rfl) (by kernel_rfl) (hS13) (.inl rfl) ?_
                simp only [List.take_succ_cons, List.take_zero, List.drop_succ_cons, List.drop_zero]
                refine lin_det (v := ?_) (F' := ?_) (by rfl) (fun _ => by rfl) ?_ ?_ ?_
                rotate_left 2
                focus (intro xs X hX hdep; clear hdep; (try dsimp only); go_simp; (try (first | with_reducible rfl | exact ⟨rfl, rfl⟩ | (fail))))
                focus (intro xs; (try simp only [Act.put, List.setIfInBounds_toArray, List.set_cons_zero, List.set_cons_succ, Nat.reduceAdd]); rfl)
                refine lin_det (v := ?_) (F' := ?_) (by rfl) (fun _ => by rfl) ?_ ?_ ?_
                rotate_left 2
                focus (intro xs X hX hdep; clear hdep; (try dsimp only); go_simp; (try (first | with_reducible rfl | exact ⟨rfl, rfl⟩ | (fail))))
                focus (intro xs; (try simp only [Act.put, List.setIfInBounds_toArray, List.set_cons_zero, List.set_cons_succ, Nat.reduceAdd]); rfl)
                refine lin_det (v := ?_) (F' := ?_) (by rfl) (fun _ => by rfl) ?_ ?_ ?_
                rotate_left 2
                focus (intro xs X hX hdep; clear hdep; (try dsimp only); go_simp; (try (first | with_reducible rfl | exact ⟨rfl, rfl⟩ | (fail))))
                focus (intro xs; (try simp only [Act.put, List.setIfInBounds_toArray, List.set_cons_zero, List.set_cons_succ, Nat.reduceAdd]); rfl)
                refine lin_det (v := ?_) (F' := ?_) (by rfl) (fun _ => by rfl) ?_ ?_ ?_
                rotate_left 2
                focus (intro xs X hX hdep; clear hdep; (try dsimp only); go_simp; (try (first | with_reducible rfl | exact ⟨rfl, rfl⟩ | (fail))))
                focus (intro xs; (try simp only [Act.put, List.setIfInBounds_toArray, List.set_cons_zero, List.set_cons_succ, Nat.reduceAdd]); rfl)
                refine lin_det (v := ?_) (F' := ?_) (by rfl) (fun _ => by rfl) ?_ ?_ ?_
                rotate_left 2
                focus (intro xs X hX hdep; clear hdep; (try dsimp only); go_simp; (try (first | with_reducible rfl | exact ⟨rfl, rfl⟩ | (fail))))
                focus (intro xs; (try simp only [Act.put, List.setIfInBounds_toArray, List.set_cons_zero, List.set_cons_succ, Nat.reduceAdd]); rfl)
                refine lin_det (v := ?_) (F' := ?_) (by rfl) (fun _ => by rfl) ?_ ?_ ?_
                rotate_left 2
                focus (intro xs X hX hdep; clear hdep; (try dsimp only); go_simp; (try (first | with_reducible rfl | exact ⟨rfl, rfl⟩ | (fail))))
                focus (intro xs; (try simp only [Act.put, List.setIfInBounds_toArray, List.set_cons_zero, List.set_cons_succ, Nat.reduceAdd]); rfl)
                refine lin_det (v := ?_) (F' := ?_) (by rfl) (fun _ => by rfl) ?_ ?_ ?_
                rotate_left 2
                focus (intro xs X hX hdep; clear hdep; (try dsimp only); go_simp; (try (first | with_reducible rfl | exact ⟨rfl, rfl⟩ | (fail))))
                focus (intro xs; (try simp only [Act.put, List.setIfInBounds_toArray, List.set_cons_zero, List.set_cons_succ, Nat.reduceAdd]); rfl)
                refine lin_det (v := ?_) (F' := ?_) (by rfl) (fun _ => by rfl) ?_ ?_ ?_
                rotate_left 2
                focus (intro xs X hX hdep; clear hdep; (try dsimp only); go_simp; (try (first | with_reducible rfl | exact ⟨rfl, rfl⟩ | (fail))))
                focus (intro xs; (try simp only [Act.put, List.setIfInBounds_toArray, List.set_cons_zero, List.set_cons_succ, Nat.reduceAdd]); rfl)
                refine lin_det (v := ?_) (F' := ?_) (by rfl) (fun _ => by rfl) ?_ ?_ ?_
                rotate_left 2
                focus (intro xs X hX hdep; clear hdep; (try dsimp only); go_simp; (try (first | with_reducible rfl | exact ⟨rfl, rfl⟩ | (exact Hin1.out X))))
                focus (intro xs; (try simp only [Act.put, List.setIfInBounds_toArray, List.set_cons_zero, List.set_cons_succ, Nat.reduceAdd]); rfl)
                refine lin_det (v := ?_) (F' := ?_) (by rfl) (fun _ => by rfl) ?_ ?_ ?_
                rotate_left 2
                focus (intro xs X hX hdep; clear hdep; (try dsimp only); go_simp; (try (first | with_reducible rfl | exact ⟨rfl, rfl⟩ | (fail))))
                focus (intro xs; (try simp only [Act.put, List.setIfInBounds_toArray, List.set_cons_zero, List.set_cons_succ, Nat.reduceAdd]); rfl)
                refine lin_det (v := ?_) (F' := ?_) (by rfl) (fun _ => by rfl) ?_ ?_ ?_
                rotate_left 2
                focus (intro xs X hX hdep; clear hdep; (try dsimp only); go_simp; (try (first | with_reducible rfl | exact ⟨rfl, rfl⟩ | (fail))))
                focus (intro xs; (try simp only [Act.put, List.setIfInBounds_toArray, List.set_cons_zero, List.set_cons_succ, Nat.reduceAdd]); rfl)
                refine lin_det (v := ?_) (F' := ?_) (by rfl) (fun _ => by rfl) ?_ ?_ ?_
                rotate_left 2
                focus (intro xs X hX hdep; clear hdep; (try dsimp only); go_simp; (try (first | with_reducible rfl | exact ⟨rfl, rfl⟩ | (fail))))
                focus (intro xs; (try simp only [Act.put, List.setIfInBounds_toArray, List.set_cons_zero, List.set_cons_succ, Nat.reduceAdd]); rfl)
                refine lin_det (v := ?_) (F' := ?_) (by rfl) (fun _ => by rfl) ?_ ?_ ?_
                rotate_left 2
                focus (intro xs X hX hdep; clear hdep; (try dsimp only); go_simp; (try (first | with_reducible rfl | exact ⟨rfl, rfl⟩ | (fail))))
                focus (intro xs; (try simp only [Act.put, List.setIfInBounds_toArray, List.set_cons_zero, List.set_cons_succ, Nat.reduceAdd]); rfl)
                refine lin_det (v := ?_) (F' := ?_) (by rfl) (fun _ => by rfl) ?_ ?_ ?_
                rotate_left 2
                focus (intro xs X hX hdep; clear hdep; (try dsimp only); go_simp; (try (first | with_reducible rfl | exact ⟨rfl, rfl⟩ | (fail))))
                focus (intro xs; (try simp only [Act.put, List.setIfInBounds_toArray, List.set_cons_zero, List.set_cons_succ, Nat.reduceAdd]); rfl)
                refine lin_det (v := ?_) (F' := ?_) (by rfl) (fun _ => by rfl) ?_ ?_ ?_
                rotate_left 2
                focus (intro xs X hX hdep; clear hdep; (try dsimp only); go_simp; (try (first | with_reducible rfl | exact ⟨rfl, rfl⟩ | (fail))))
                focus (intro xs; (try simp only [Act.put, List.setIfInBounds_toArray, List.set_cons_zero, List.set_cons_succ, Nat.reduceAdd]); rfl)
                refine lin_det (v := ?_) (F' := ?_) (by rfl) (fun _ => by rfl) ?_ ?_ ?_
                rotate_left 2
                focus (intro xs X hX hdep; clear hdep; (try dsimp only); go_simp; (try (first | with_reducible rfl | exact ⟨rfl, rfl⟩ | (fail))))
                focus (intro xs; (try simp only [Act.put, List.setIfInBounds_toArray, List.set_cons_zero, List.set_cons_succ, Nat.reduceAdd]); rfl)
                refine lin_det (v := ?_) (F' := ?_) (by rfl) (fun _ => by rfl) ?_ ?_ ?_
                rotate_left 2
                focus (intro xs X hX hdep; clear hdep; (try dsimp only); go_simp; (try (first | with_reducible rfl | exact ⟨rfl, rfl⟩ | ((exact Hin2.out X hX)))))
                focus (intro xs; (try simp only [Act.put, List.setIfInBounds_toArray, List.set_cons_zero, List.set_cons_succ, Nat.reduceAdd]); rfl)
                refine lin_det (v := ?_) (F' := ?_) (by rfl) (fun _ => by rfl) ?_ ?_ ?_
                rotate_left 2
                focus (intro xs X hX hdep; clear hdep; (try dsimp only); go_simp; (try (first | with_reducible rfl | exact ⟨rfl, rfl⟩ | (fail))))
                focus (intro xs; (try simp only [Act.put, List.setIfInBounds_toArray, List.set_cons_zero, List.set_cons_succ, Nat.reduceAdd]); rfl)
                refine lin_det (v := ?_) (F' := ?_) (by rfl) (fun _ => by rfl) ?_ ?_ ?_
                rotate_left 2
                focus (intro xs X hX hdep; clear hdep; (try dsimp only); go_simp; (try (first | with_reducible rfl | exact ⟨rfl, rfl⟩ | (fail))))
                focus (intro xs; (try simp only [Act.put, List.setIfInBounds_toArray, List.set_cons_zero, List.set_cons_succ, Nat.reduceAdd]); rfl)
                refine lin_det (v := ?_) (F' := ?_) (by rfl) (fun _ => by rfl) ?_ ?_ ?_
                rotate_left 2
                focus (intro xs X hX hdep; clear hdep; (try dsimp only); go_simp; (try (first | with_reducible rfl | exact ⟨rfl, rfl⟩ | (fail))))
                focus (intro xs; (try simp only [Act.put, List.setIfInBounds_toArray, List.set_cons_zero, List.set_cons_succ, Nat.reduceAdd]); rfl)
                refine lin_det (v := ?_) (F' := ?_) (by rfl) (fun _ => by rfl) ?_ ?_ ?_
                rotate_left 2
                focus (intro xs X hX hdep; clear hdep; (try dsimp only); go_simp; (try (first | with_reducible rfl | exact ⟨rfl, rfl⟩ | (fail))))
                focus (intro xs; (try simp only [Act.put, List.setIfInBounds_toArray, List.set_cons_zero, List.set_cons_succ, Nat.reduceAdd]); rfl)
                refine lin_det (v := ?_) (F' := ?_) (by rfl) (fun _ => by rfl) ?_ ?_ ?_
                rotate_left 2
                focus (intro xs X hX hdep; clear hdep; (try dsimp only); go_simp; (try (first | with_reducible rfl | exact ⟨rfl, rfl⟩ | (fail))))
                focus (intro xs; (try simp only [Act.put, List.setIfInBounds_toArray, List.set_cons_zero, List.set_cons_succ, Nat.reduceAdd]); rfl)
                refine lin_det (v := ?_) (F' := ?_) (by rfl) (fun _ => by rfl) ?_ ?_ ?_
                rotate_left 2
                focus (intro xs X hX hdep; clear hdep; (try dsimp only); go_simp; (try (first | with_reducible rfl | exact ⟨rfl, rfl⟩ | (fail))))
                focus (intro xs; (try simp only [Act.put, List.setIfInBounds_toArray, List.set_cons_zero, List.set_cons_succ, Nat.reduceAdd]); rfl)
                refine lin_det (v := ?_) (F' := ?_) (by rfl) (fun _ => by rfl) ?_ ?_ ?_
                rotate_left 2
                focus (intro xs X hX hdep; clear hdep; (try dsimp only); go_simp; (try (first | with_reducible rfl | exact ⟨rfl, rfl⟩ | (fail))))
                focus (intro xs; (try simp only [Act.put, List.setIfInBounds_toArray, List.set_cons_zero, List.set_cons_succ, Nat.reduceAdd]); rfl)
                refine lin_det (v := ?_) (F' := ?_) (by rfl) (fun _ => by rfl) ?_ ?_ ?_
                rotate_left 2
                focus (intro xs X hX hdep; clear hdep; (try dsimp only); go_simp; (try (first | with_reducible rfl | exact ⟨rfl, rfl⟩ | (fail))))
                focus (intro xs; (try simp only [Act.put, List.setIfInBounds_toArray, List.set_cons_zero, List.set_cons_succ, Nat.reduceAdd]); rfl)
                refine lin_det (v := ?_) (F' := ?_) (by rfl) (fun _ => by rfl) ?_ ?_ ?_
                rotate_left 2
                focus (intro xs X hX hdep; clear hdep; (try dsimp only); go_simp; (try (first | with_reducible rfl | exact ⟨rfl, rfl⟩ | (fail))))
                focus (intro xs; (try simp only [Act.put, List.setIfInBounds_toArray, List.set_cons_zero, List.set_cons_succ, Nat.reduceAdd]); rfl)
                refine lin_det (v := ?_) (F' := ?_) (by rfl) (fun _ => by rfl) ?_ ?_ ?_
                rotate_left 2
                focus (intro xs X hX hdep; clear hdep; (try dsimp only); go_simp; (try (first | with_reducible rfl | exact ⟨rfl, rfl⟩ | (fail))))
                focus (intro xs; (try simp only [Act.put, List.setIfInBounds_toArray, List.set_cons_zero, List.set_cons_succ, Nat.reduceAdd]); rfl)
                refine lin_skip (F' := ?_) (by rfl) (fun _ => by rfl) ?_ ?_
                rotate_left 1
                focus (intro xs; (try simp only [Act.put, List.setIfInBounds_toArray, List.set_cons_zero, List.set_cons_succ, Nat.reduceAdd]); rfl)
                refine lin_skip (F' := ?_) (by rfl) (fun _ => by rfl) ?_ ?_
                rotate_left 1
                focus (intro xs; (try simp only [Act.put, List.setIfInBounds_toArray, List.set_cons_zero, List.set_cons_succ, Nat.reduceAdd]); rfl)
                refine lin_det (v := ?_) (F' := ?_) (by rfl) (fun _ => by rfl) ?_ ?_ ?_
                rotate_left 2
                focus (intro xs X hX hdep; clear hdep; (try dsimp only); go_simp; (try (first | with_reducible rfl | exact ⟨rfl, rfl⟩ | (fail))))
                focus (intro xs; (try simp only [Act.put, List.setIfInBounds_toArray, List.set_cons_zero, List.set_cons_succ, Nat.reduceAdd]); rfl)
                refine lin_det (v := ?_) (F' := ?_) (by rfl) (fun _ => by rfl) ?_ ?_ ?_
                rotate_left 2
                focus (intro xs X hX hdep; clear hdep; (try dsimp only); go_simp; (try (first | with_reducible rfl | exact ⟨rfl, rfl⟩ | (fail))))
                focus (intro xs; (try simp only [Act.put, List.setIfInBounds_toArray, List.set_cons_zero, List.set_cons_succ, Nat.reduceAdd]); rfl)
                refine lin_det (v := ?_) (F' := ?_) (by rfl) (fun _ => by rfl) ?_ ?_ ?_
                rotate_left 2
                focus (intro xs X hX hdep; clear hdep; (try dsimp only); go_simp; (try (first | with_reducible rfl | exact ⟨rfl, rfl⟩ | (fail))))
                focus (intro xs; (try simp only [Act.put, List.setIfInBounds_toArray, List.set_cons_zero, List.set_cons_succ, Nat.reduceAdd]); rfl)
                refine lin_det (v := ?_) (F' := ?_) (by rfl) (fun _ => by rfl) ?_ ?_ ?_
                rotate_left 2
                focus (intro xs X hX hdep; clear hdep; (try dsimp only); go_simp; (try (first | with_reducible rfl | exact ⟨rfl, rfl⟩ | (fail))))
                focus (intro xs; (try simp only [Act.put, List.setIfInBounds_toArray, List.set_cons_zero, List.set_cons_succ, Nat.reduceAdd]); rfl)
                refine lin_det (v := ?_) (F' := ?_) (by rfl) (fun _ => by rfl) ?_ ?_ ?_
                rotate_left 2
                focus (intro xs X hX hdep; clear hdep; (try dsimp only); go_simp; (try (first | with_reducible rfl | exact ⟨rfl, rfl⟩ | (fail))))
                focus (intro xs; (try simp only [Act.put, List.setIfInBounds_toArray, List.set_cons_zero, List.set_cons_succ, Nat.reduceAdd]); rfl)
                refine lin_det (v := ?_) (F' := ?_) (by rfl) (fun _ => by rfl) ?_ ?_ ?_
                rotate_left 2
                focus (intro xs X hX hdep; clear hdep; (try dsimp only); go_simp; (try (first | with_reducible rfl | exact ⟨rfl, rfl⟩ | (fail))))
                focus (intro xs; (try simp only [Act.put, List.setIfInBounds_toArray, List.set_cons_zero, List.set_cons_succ, Nat.reduceAdd]); rfl)
                refine lin_skip (F' := ?_) (by rfl) (fun _ => by rfl) ?_ ?_
                rotate_left 1
                focus (intro xs; (try simp only [Act.put, List.setIfInBounds_toArray, List.set_cons_zero, List.set_cons_succ, Nat.reduceAdd]); rfl)
                refine lin_det (v := ?_) (F' := ?_) (by rfl) (fun _ => by rfl) ?_ ?_ ?_
                rotate_left 2
                focus (intro xs X hX hdep; clear hdep; (try dsimp only); go_simp; (try (first | with_reducible rfl | exact ⟨rfl, rfl⟩ | (fail))))
                focus (intro xs; (try simp only [Act.put, List.setIfInBounds_toArray, List.set_cons_zero, List.set_cons_succ, Nat.reduceAdd]); rfl)
                refine lin_det (v := ?_) (F' := ?_) (by rfl) (fun _ => by rfl) ?_ ?_ ?_
                rotate_left 2
                focus (intro xs X hX hdep; clear hdep; (try dsimp only); go_simp; (try (first | with_reducible rfl | exact ⟨rfl, rfl⟩ | (fail))))
                focus (intro xs; (try simp only [Act.put, List.setIfInBounds_toArray, List.set_cons_zero, List.set_cons_succ, Nat.reduceAdd]); rfl)
                refine lin_det (v := ?_) (F' := ?_) (by rfl) (fun _ => by rfl) ?_ ?_ ?_
                rotate_left 2
                focus (intro xs X hX hdep; clear hdep; (try dsimp only); go_simp; (try (first | with_reducible rfl | exact ⟨rfl, rfl⟩ | (fail))))
                focus (intro xs; (try simp only [Act.put, List.setIfInBounds_toArray, List.set_cons_zero, List.set_cons_succ, Nat.reduceAdd]); rfl)
                refine lin_det (v := ?_) (F' := ?_) (by rfl) (fun _ => by rfl) ?_ ?_ ?_
                rotate_left 2
                focus (intro xs X hX hdep; clear hdep; (try dsimp only); go_simp; (try (first | with_reducible rfl | exact ⟨rfl, rfl⟩ | (fail))))
                focus (intro xs; (try simp only [Act.put, List.setIfInBounds_toArray, List.set_cons_zero, List.set_cons_succ, Nat.reduceAdd]); rfl)
                refine lin_det (v := ?_) (F' := ?_) (by rfl) (fun _ => by rfl) ?_ ?_ ?_
                rotate_left 2
                focus (intro xs X hX hdep; clear hdep; (try dsimp only); go_simp; (try (first | with_reducible rfl | exact ⟨rfl, rfl⟩ | (fail))))
                focus (intro xs; (try simp only [Act.put, List.setIfInBounds_toArray, List.set_cons_zero, List.set_cons_succ, Nat.reduceAdd]); rfl)
                refine lin_det (v := ?_) (F' := ?_) (by rfl) (fun _ => by rfl) ?_ ?_ ?_
                rotate_left 2
                focus (intro xs X hX hdep; clear hdep; (try dsimp only); go_simp; (try (first | with_reducible rfl | exact ⟨rfl, rfl⟩ | (exact Hin3.out X))))
                focus (intro xs; (try simp only [Act.put, List.setIfInBounds_toArray, List.set_cons_zero, List.set_cons_succ, Nat.reduceAdd]); rfl)
                refine lin_det (v := ?_) (F' := ?_) (by rfl) (fun _ => by rfl) ?_ ?_ ?_
                rotate_left 2
                focus (intro xs X hX hdep; clear hdep; (try dsimp only); go_simp; (try (first | with_reducible rfl | exact ⟨rfl, rfl⟩ | (fail))))
                focus (intro xs; (try simp only [Act.put, List.setIfInBounds_toArray, List.set_cons_zero, List.set_cons_succ, Nat.reduceAdd]); rfl)
                refine lin_det (v := ?_) (F' := ?_) (by rfl) (fun _ => by rfl) ?_ ?_ ?_
                rotate_left 2
                focus (intro xs X hX hdep; clear hdep; (try dsimp only); go_simp; (try (first | with_reducible rfl | exact ⟨rfl, rfl⟩ | (fail))))
                focus (intro xs; (try simp only [Act.put, List.setIfInBounds_toArray, List.set_cons_zero, List.set_cons_succ, Nat.reduceAdd]); rfl)
                refine lin_det (v := ?_) (F' := ?_) (by rfl) (fun _ => by rfl) ?_ ?_ ?_
                rotate_left 2
                focus (intro xs X hX hdep; clear hdep; (try dsimp only); go_simp; (try (first | with_reducible rfl | exact ⟨rfl, rfl⟩ | (fail))))
                focus (intro xs; (try simp only [Act.put, List.setIfInBounds_toArray, List.set_cons_zero, List.set_cons_succ, Nat.reduceAdd]); rfl)
                refine lin_skip (F' := ?_) (by rfl) (fun _ => by rfl) ?_ ?_
                rotate_left 1
                focus (intro xs; (try simp only [Act.put, List.setIfInBounds_toArray, List.set_cons_zero, List.set_cons_succ, Nat.reduceAdd]); rfl)
                refine lin_skip (F' := ?_) (by rfl) (fun _ => by rfl) ?_ ?_
                rotate_left 1
                focus (intro xs; (try simp only [Act.put, List.setIfInBounds_toArray, List.set_cons_zero, List.set_cons_succ, Nat.reduceAdd]); rfl)
                refine lin_skip (F' := ?_) (by rfl) (fun _ => by rfl) ?_ ?_
                rotate_left 1
                focus (intro xs; (try simp only [Act.put, List.setIfInBounds_toArray, List.set_cons_zero, List.set_cons_succ, Nat.reduceAdd]); rfl)
                refine lin_skip (F' := ?_) (by rfl) (fun _ => by rfl) ?_ ?_
                rotate_left 1
                focus (intro xs; (try simp only [Act.put, List.setIfInBounds_toArray, List.set_cons_zero, List.set_cons_succ, Nat.reduceAdd]); rfl)
                refine lin_det (v := ?_) (F' := ?_) (by rfl) (fun _ => by rfl) ?_ ?_ ?_
                rotate_left 2
                focus (intro xs X hX hdep; clear hdep; (try dsimp only); go_simp; (try (first | with_reducible rfl | exact ⟨rfl, rfl⟩ | (fail))))
                focus (intro xs; (try simp only [Act.put, List.setIfInBounds_toArray, List.set_cons_zero, List.set_cons_succ, Nat.reduceAdd]); rfl)
                refine lin_det (v := ?_) (F' := ?_) (by rfl) (fun _ => by rfl) ?_ ?_ ?_
                rotate_left 2
                focus (intro xs X hX hdep; clear hdep; (try dsimp only); go_simp; (try (first | with_reducible rfl | exact ⟨rfl, rfl⟩ | (fail))))
                focus (intro xs; (try simp only [Act.put, List.setIfInBounds_toArray, List.set_cons_zero, List.set_cons_succ, Nat.reduceAdd]); rfl)
                refine lin_det (v := ?_) (F' := ?_) (by rfl) (fun _ => by rfl) ?_ ?_ ?_
                rotate_left 2
                focus (intro xs X hX hdep; clear hdep; (try dsimp only); go_simp; (try (first | with_reducible rfl | exact ⟨rfl, rfl⟩ | (fail))))
                focus (intro xs; (try simp only [Act.put, List.setIfInBounds_toArray, List.set_cons_zero, List.set_cons_succ, Nat.reduceAdd]); rfl)
                intro xs W hW hf hfr hfb
                clear hf hfr hfb
                go_wp2_with fail
                go_meet
                case rel => exact ⟨rfl, hW⟩
          case rest =>
            obtain ⟨rfl, hM14⟩ := hcut
            obtain ⟨w14, rfl⟩ : ∃ W : World, W = wc := ⟨_, rfl⟩
            have hP14 := Later.trans hP13 hM14
            have hcl4 := fun W (hW : Later w14 W) => hcl3 W (Later.trans hM14 hW)
            have hx24 := fun W (hW : Later w14 W) => hx23 W (Later.trans hM14 hW)
            have hr04 := fun W (hW : Later w14 W) => hr03 W (Later.trans hM14 hW)
            have hr14 := fun W (hW : Later w14 W) => hr13 W (Later.trans hM14 hW)
            have hch4 := fun W (hW : Later w14 W) => hch3 W (Later.trans hM14 hW)
            have hL15 := Later.trans hL hP14
            have hT14 : Later w14 w14 := later_refl _
            clear hcl3 hx13 hx23 hr03 hr13 hch3 hcb3 hcb4 hcs Hin1 Hin3
            by_cases hle : r1 ≤ r2
            · obtain ⟨q1, q2⟩ := Hgd.out hle
              have hd1 : decide (r1 ≤ r2) = true := decide_eq_true hle
              have hd2 : decide (r1 < li) = false := decide_eq_false (by omega)
              have hd3 : decide (li + yk.grace < r2) = false := decide_eq_false (by omega)
              go_wp2_with fail
              refine wp_region_ext (w0 := w14) (by kernel_rfl) (by kernel_rfl) (later_refl _) ?_; (repeat (first | go_big_quiet_step ((fail)) | quiet_step ((fail)))); refine wpQuiet_nil ?_; rintro w15 ⟨⟨_, hM15⟩, rfl⟩; (try dsimp only)
              go_wp2_with fail
              go_roundw
              case rel => exact ⟨i + 1, hlt, by go_num, Later.trans hL15 hM15⟩
              case measure => simp [intOf]; omega
            · have hd1 : decide (r1 ≤ r2) = false := decide_eq_false hle
              go_wp2_with fail
              refine wp_region_ext (w0 := w14) (by kernel_rfl) (by kernel_rfl) (later_refl _) ?_; (repeat (first | go_big_quiet_step ((fail)) | quiet_step ((fail)))); refine wpQuiet_nil ?_; rintro w15 ⟨⟨_, hM15⟩, rfl⟩; (try dsimp only)
              go_wp2_with fail
              go_roundw
              case rel => exact ⟨i + 1, hlt, by go_num, Later.trans hL15 hM15⟩
              case measure => simp [intOf]; omega
      · have hi1 : ¬ (i : Int) < n1 := by omega
        clear hlt
        go_wp2_with fail
        refine (awake_calls _).mono ?_
        rintro e wa ⟨rfl, hLa⟩
        go_wp2_with fail
        go_ret
        exact ⟨rfl, Later.trans hL0 (Later.trans hL0r hLa)⟩
end Go.Proofs.Ytjilckjhdlabaaa
