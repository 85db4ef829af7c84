/- The law TicketLeft: walk. -/
import Derived.Test.YtbkfnajpbhfneaaPart14
import Derived.Test.YtbkfnajpbhfneaaPart13
set_option linter.unusedSimpArgs false
set_option linter.unusedVariables false
namespace Go.Proofs.Ytbkfnajpbhfneaa
open Go Go.RowKit
attribute [local go_sem] later_alloc2 later_alloc3 later_alloc4

theorem or_step {q x : Nat} (hq : q < 1000000) (hx : x ≤ 9) : bits .or .i64 (q : Int) (wrap64 (2 ^ x)) = ((q ||| 2 ^ x : Nat) : Int) := by
  rw [wrap_pow (by omega)]
  exact i64_or_nat q (2 ^ x) (by omega) (by have := pow_le20 (show x ≤ 20 by omega); omega)
set_option maxRecDepth 100000 in
set_option maxHeartbeats 8000000 in
theorem lawLeft_calls {A1 A2 A3 : Option Addr} {n1 k1 n2 k2 n3 k3 : Nat} {c : Hou} {x : Nat} (w : World) (hc : CV w c A1 n1 A2 n2 A3 n3) (b1 : n1 ≤ 9223372036854775807) (b2 : n2 ≤ 9223372036854775807) (b3 : n3 ≤ 9223372036854775807) (hx : x < 65536) :
    Calls Try.prog 18 #[(.agg #[.int .i64 c.hour, .int .i64 c.grace, .slice A1 n1 k1, .slice A2 n2 k2, .slice A3 n3 k3]), .int .u16 x] w fun e w' => e = .returned (.bool true) ∧ Later w w' := by
  obtain ⟨w0, hw0⟩ : ∃ W, W = (w.alloc (.cells #[.int .i64 c.hour, .int .i64 c.grace, .slice A1 n1 k1, .slice A2 n2 k2, .slice A3 n3 k3] 26)) := ⟨_, rfl⟩; have hbox : ∀ W, Later w0 W → ∀ i, W.cell? ⟨w.heap.size, i, none⟩ = #[.int .i64 c.hour, .int .i64 c.grace, .slice A1 n1 k1, .slice A2 n2 k2, .slice A3 n3 k3][i]? := (by rw [hw0]; exact box_cells w #[.int .i64 c.hour, .int .i64 c.grace, .slice A1 n1 k1, .slice A2 n2 k2, .slice A3 n3 k3] 26); have hL0 : Later w w0 := (by rw [hw0]; simp); have hc0 := hc.later hL0; have Hw0 := hide hw0; clear hw0
  have hrdy := ready_calls (k1 := k1) (k2 := k2) (k3 := k3) w0 hc0 b1 b2 b3
  cases hth : readyB c with
  | false =>
    rw [hth] at hrdy
    have Hrdy := hide hrdy
    clear hth hrdy
    go_enter Try.func18, Try.ntmps18
    go_wp2_with fail
    rw [← Hw0.out]; clear Hw0
    refine Hrdy.out.mono ?_
    rintro e w1 ⟨rfl, hL1⟩
    go_wp2_with fail
    refine (awake_calls _).mono ?_
    rintro e w2 ⟨rfl, hL2⟩
    go_wp2_with fail
    go_ret
    exact ⟨rfl, Later.trans hL0 (Later.trans hL1 hL2)⟩
  | true =>
    rw [hth] at hrdy
    have hn1 := hc.ck.len
    have hn2 := hc.tk.len
    have hn3 := hc.cp.len
    have hf := (readyB_true hth).2
    have ok := okH_of_fault hf
    have hmy := many_le hf
    have l1 : n1 ≤ 4 := by have := ok.n1; omega
    have l2 : n2 ≤ 6 := by have := ok.n2; omega
    have l3 : n3 ≤ 10 := by have := ok.n3; omega
    have Hn1 := hide hn1
    have Hn2 := hide hn2
    have Hn3 := hide hn3
    have Hf := hide hf
    have Hmy := hide hmy
    have Hrdy := hide hrdy
    clear hth hrdy hn1 hn2 hn3 hf hmy
    have hlp := fun (B1 B2 B3 : Option Addr) (j1 j2 j3 : Nat) (W : World) (h : CV W c B1 n1 B2 n2 B3 n3) =>
      LeaveP_calls (k1 := j1) (k2 := j2) (k3 := j3) W h (by omega) (by omega) (by omega)
    have hbd := fun (x : Hou) (m : Nat) (hm : m ≤ 10) (B1 B2 B3 : Option Addr) (j1 j2 j3 : Nat) (W : World) (h : CV W x B1 n1 B2 n2 B3 m) =>
      ClocksP_calls (k1 := j1) (k2 := j2) (k3 := j3) W h (by omega) (by omega) (by omega)
    unfold PairsPost at hbd
    have hfull := fun (W : World) (h : Later w0 W) => Full_calls (k1 := k1) (k2 := k2) (k3 := k3) W (hc0.later h) (by omega)
    obtain ⟨B, hB, hlo, hck, hor, he1, he2⟩ := leftLaw Hf.out
    have hfl := full_lt c
    have hp5 := pow_le_of (show c.clips.length ≤ 10 by have := Hn3.out; omega)
    unfold LeavePost at hlp
    rw [Hf.out, hlo] at hlp
    obtain ⟨F, hF⟩ : ∃ f, full c = f := ⟨_, rfl⟩
    have hF31 : F ≤ 1023 := by omega
    have hm := he2 (x &&& F) (by rw [hF]; exact Nat.and_le_right)
    rw [hF] at hB he1 hm
    simp only [hF] at hfull
    have han := andNot_full (c := c) (by have := Hn3.out; omega) hF hB
    have han2 := andNot_full (c := c) (j := x &&& F) (by have := Hn3.out; omega) hF Nat.and_le_right
    have hand : bits .and .i64 (x : Int) (F : Int) = ((x &&& F : Nat) : Int) := i64_and_nat x F (by omega) (by omega)
    have hmF : x &&& F ≤ F := Nat.and_le_right
    obtain ⟨M, hM⟩ : ∃ m, x &&& F = m := ⟨_, rfl⟩
    rw [hM] at hm han2 hand hmF
    obtain ⟨D, hD⟩ : ∃ m, F - B = m := ⟨_, rfl⟩
    obtain ⟨E, hE⟩ : ∃ m, F - M = m := ⟨_, rfl⟩
    rw [hD] at he1 han
    rw [hE] at hm han2
    have hD6 : D ≤ 1000000 := by omega
    have hE6 : E ≤ 1000000 := by omega
    have hM6 : M ≤ 1000000 := by omega
    have hlenB : (bitsR B).length ≤ 1000000 := by have := bitsR_len B; omega
    have hsm := fun (bits : Nat) (hb : bits ≤ 1000000) (W : World) (h : Later w0 W) => some_calls (bits := bits) (k1 := k1) (k2 := k2) (k3 := k3) W (hc0.later h) l3 hb
    obtain ⟨lv, hlv⟩ : ∃ l, bitsR B = l := ⟨_, rfl⟩
    rw [hlv] at hlp hck hor hm hlenB
    have hgx := fun (i : Nat) (hi : i < lv.length) => chkB_get hck hi
    have horl := fun j => orTo_lt (l := lv) (n := 10) (fun y hy => by
      obtain ⟨i, hi⟩ := List.getElem?_of_mem hy
      obtain ⟨z, hz, hz2, _⟩ := hgx i (List.getElem?_eq_some_iff.1 hi).1
      rw [hi] at hz
      injection hz with hz
      have := Hn3.out
      omega) j
    have Hsm := hide hsm
    have Hlp := hide hlp
    have Hbd := hide hbd
    have Hfull := hide hfull
    have He1 := hide he1
    have Hm := hide hm
    have Hor := hide hor
    have Hgx := hide hgx
    have Horl := hide horl
    have Han := hide han
    have Han2 := hide han2
    clear hsm hlp hbd hfull he1 he2 hm hor hgx horl hck hlo hfl hp5 hF hD hE hM hlv han han2 hB hmF
    go_enter Try.func18, Try.ntmps18
    go_wp2_with fail
    rw [← Hw0.out]; clear Hw0
    refine Hrdy.out.mono ?_
    rintro e w1 ⟨rfl, hL1⟩
    go_wp2_with fail
    refine (lawHouse_calls (k1 := k1) (k2 := k2) (k3 := k3) w1 (hc0.later hL1) (by omega) (by omega) (by omega)).mono ?_
    rintro e wa ⟨B1a, j1a, B2a, j2a, B3a, j3a, rfl, hMa, hca, hj1a, hj2a, hj3a⟩
    have hLa := Later.trans hL1 hMa
    go_wp2_with fail
    refine (Hlp.out _ _ _ _ _ _ wa hca).mono ?_
    rintro e w2 ⟨Al, nl, kl, rfl, hM2, hrl, hkl⟩
    have hL2 := Later.trans hLa hM2
    have hnl := hrl.len
    have Hnl := hide hnl
    have hnl6 : nl ≤ 1000000 := by omega
    clear hca hj1a hj2a hj3a hMa hLa hnl
    go_wp2_with fail
    go_loopw [7, 8] (fun v i wr => ∃ j : Nat, j ≤ nl ∧ i = .int .i64 j ∧ v = .int .i64 (orTo lv j : Nat) ∧ Later w2 wr) (fun _ i _ => nl - (intOf i).toNat)
    case atStart => exact ⟨0, Nat.zero_le _, rfl, rfl, later_refl _⟩
    case round =>
      obtain ⟨j, hj, rfl, rfl, hL⟩ := hrel
      have hL0r := Later.trans hL2 hL
      by_cases hlt : j < nl
      · have hi1 : (j : Int) < nl := by omega
        obtain ⟨y, hy, hy2, hpre⟩ := Hgx.out j (by have := Hnl.out; omega)
        obtain ⟨b, o, y', rfl, _, hyy, hy0⟩ := hrl.get hlt
        rw [hy] at hyy
        injection hyy with hyy
        subst y'
        have hy3 : y < n3 := by have := Hn3.out; omega
        have hsu := orTo_succ hy
        rw [Int.toNat_natCast] at hsu
        have hq := Horl.out j
        have hst := or_step (q := orTo lv j) (x := y) (by omega) (by omega)
        rw [← hsu] at hst
        have hin := fun W => In_eq (n := (y : Int)) (lo := 0) (hi := (n3 : Int) - 1) (b := true) (by unfold inB; simp; omega) W
        have Hin := hide hin
        have Hst := hide hst
        have hbx := fun W (hW : Later wr W) => hbox W (Later.trans hL0r hW)
        have hy0' := fun W (hW : Later wr W) => hy0 W (Later.trans hL hW)
        generalize orTo lv j = q at *
        cases j with
        | zero =>
          have h0 : decide ((0 : Int) < ((0 : Nat) : Int)) = false := by simp
          have h0b : ((0 : Nat) : Int) = 0 := rfl
          rw [h0b] at *
          simp only [Nat.add_zero] at hy0'
          clear hin hst hsu hy hy0 hpre hbox
          go_wp2_with fail
          refine wp_region_ext (w0 := wr) (by kernel_rfl) (by kernel_rfl) (later_refl _) ?_; (repeat (first | go_big_quiet_step (((go_at_call 37; exact calls_ext_same (by simp) (Hin.out _)))) | quiet_step (((go_at_call 37; exact calls_ext_same (by simp) (Hin.out _)))))); refine wpQuiet_nil ?_; rintro w4 ⟨⟨_, hM4⟩, rfl⟩; (try dsimp only)
          have hy0'' := fun W (hW : Later w4 W) => hy0' W (Later.trans hM4 hW)
          have hLr4 := Later.trans hL hM4
          go_wp2_with fail
          go_roundw
          case rel => exact ⟨1, by omega, by go_num, by rw [← Hst.out], hLr4⟩
          case measure => simp [intOf]; omega
        | succ t =>
          obtain ⟨z, hz, hzy⟩ := hpre (by omega)
          rw [show t + 1 - 1 = t by omega] at hz
          obtain ⟨b', o', z', e', _, hzz, hz0⟩ := hrl.get (k := t) (by omega)
          obtain ⟨rfl, rfl⟩ := some_lit e'
          rw [hz] at hzz
          injection hzz with hzz
          subst z'
          have hz0' := fun W (hW : Later wr W) => hz0 W (Later.trans hL hW)
          have e1 : ((t + 1 : Nat) : Int) = (t : Int) + 1 := by simp
          have hle : ¬ (y : Int) ≤ (z : Int) := by omega
          have e2 : IntKind.i64.wrap ((t : Int) + 1 - 1) = (t : Int) := by rw [show (t : Int) + 1 - 1 = t by omega]; exact IntWalk.i64_in _ (by omega)
          have e3 : IntKind.i64.wrap (t : Int) = (t : Int) := IntWalk.i64_in _ (by omega)
          have e4 : 0 < (t : Int) + 1 := by omega
          have e5 : (t : Int) < nl := by omega
          have e6 : (t : Int) + 1 < nl := by omega
          have e7 : ((t : Int) + 1).toNat = t + 1 := by omega
          have e8 : 0 ≤ (t : Int) + 1 := by omega
          rw [e1]
          clear hin hst hsu hy hy0 hz hz0 hbox e1 hi1 e'
          go_wp2_with fail
          refine wp_region_ext (w0 := wr) (by kernel_rfl) (by kernel_rfl) (later_refl _) ?_; (repeat (first | go_big_quiet_step (((go_at_call 37; exact calls_ext_same (by simp) (Hin.out _)))) | quiet_step (((go_at_call 37; exact calls_ext_same (by simp) (Hin.out _)))))); refine wpQuiet_nil ?_; rintro w4 ⟨⟨_, hM4⟩, rfl⟩; (try dsimp only)
          have hy0'' := fun W (hW : Later w4 W) => hy0' W (Later.trans hM4 hW)
          have hLr4 := Later.trans hL hM4
          go_wp2_with fail
          go_roundw
          case rel => exact ⟨t + 1 + 1, by omega, by go_num, by rw [← Hst.out], hLr4⟩
          case measure => simp [intOf]; omega
      · have hjn : j = nl := by omega
        subst j
        have ho : orTo lv nl = B := by rw [Hnl.out]; exact Hor.out
        rw [ho]
        have hS : Later w0 wr := hL0r
        clear ho hlt
        go_wp2_with fail
        refine (Hfull.out wr hS).mono ?_
        rintro e w3 ⟨rfl, hM3⟩
        have hL3 := Later.trans hS hM3
        have hS3 : Later w0 w3.drew := later_drew hL3
        go_wp2_with fail
        have han := Han.out
        go_region_held3 (fun W => Later w0 W) ((((repeat (first | assumption | refine later_drew ?_ | refine later_alloc ?_ _ | refine later_set ?_ _ (Nat.le_add_right _ _) _ | refine later_set ?_ _ (Nat.le_refl _) _)); done)))
          (first
            | (go_at_call 24; go_must (refine (Hbd.out (someH c D) msa hmsa _ _ _ _ _ _ w4a hc4a).mono ?_; rintro e w6a ⟨Aba, nba, kba, rfl, hM6a, _⟩; have hL6a := Later.trans hL4a hM6a))
            | (go_at_call 25; go_must (refine (lawHouse_calls (c := someH c D) (k1 := k1) (k2 := k2) (k3 := ksa) _ ⟨(hc0.later hL3a).ck, (hc0.later hL3a).tk, hrsa⟩ (by omega) (by omega) (by omega)).mono ?_; rintro e w4a ⟨B1a, j1a, B2a, j2a, B3a, j3a, rfl, hM4a, hc4a, hj1a, hj2a, hj3a⟩; have hL4a := Later.trans hL3a hM4a))
            | (go_at_call 62; go_must (refine (Hsm.out D hD6 _ hL2a).mono ?_; rintro e w3a ⟨Asa, msa, ksa, rfl, hM3a, hrsa⟩; have hL3a := Later.trans hL2a hM3a; have hmsa : msa ≤ 10 := (by have h1 := hrsa.len; have h2 := someTo_len c D c.clips.length; have h3 := Hn3.out; simp only [someH, withClips] at h1; omega)))
            | (go_at_call 63; go_must (refine (Hfull.out _ hS3).mono ?_; rintro e w2a ⟨rfl, hM2a⟩; have hL2a := Later.trans hS3 hM2a)))
        have hSb : Later w0 w6a.drew := later_drew hL6a
        clear han
        have han2 := Han2.out
        go_wp2_with fail
        go_region_held3 (fun W => Later w0 W) ((((repeat (first | assumption | refine later_drew ?_ | refine later_alloc ?_ _ | refine later_set ?_ _ (Nat.le_add_right _ _) _ | refine later_set ?_ _ (Nat.le_refl _) _)); done)))
          (first
            | (go_at_call 24; go_must (refine (Hbd.out (someH c E) msb hmsb _ _ _ _ _ _ w4b hc4b).mono ?_; rintro e w6b ⟨Abb, nbb, kbb, rfl, hM6b, _⟩; have hL6b := Later.trans hL4b hM6b))
            | (go_at_call 25; go_must (refine (lawHouse_calls (c := someH c E) (k1 := k1) (k2 := k2) (k3 := ksb) _ ⟨(hc0.later hL3b).ck, (hc0.later hL3b).tk, hrsb⟩ (by omega) (by omega) (by omega)).mono ?_; rintro e w4b ⟨B1b, j1b, B2b, j2b, B3b, j3b, rfl, hM4b, hc4b, hj1b, hj2b, hj3b⟩; have hL4b := Later.trans hL3b hM4b))
            | (go_at_call 62; go_must (refine (Hsm.out E hE6 _ hL2b).mono ?_; rintro e w3b ⟨Asb, msb, ksb, rfl, hM3b, hrsb⟩; have hL3b := Later.trans hL2b hM3b; have hmsb : msb ≤ 10 := (by have h1 := hrsb.len; have h2 := someTo_len c E c.clips.length; have h3 := Hn3.out; simp only [someH, withClips] at h1; omega)))
            | (go_at_call 63; go_must (refine (Hfull.out _ hSb).mono ?_; rintro e w2b ⟨rfl, hM2b⟩; have hL2b := Later.trans hSb hM2b)))
        clear han2
        have hE1 : askedErr (someH c D) 0 = 0 := He1.out
        rw [hE1]
        clear hE1
        rcases Hm.out with hE2 | ⟨hE2, hsh⟩
        · have hE3 : askedErr (someH c E) 0 = 11 := hE2
          rw [hE3]
          clear hE2 hE3
          go_wp2_with fail
          refine (awake_calls _).mono ?_
          rintro e wa ⟨rfl, hLa⟩
          go_wp2_with fail
          go_ret
          exact ⟨rfl, Later.trans hL0 (Later.trans hL6b hLa)⟩
        · have hE3 : askedErr (someH c E) 0 = 0 := hE2
          rw [hE3]
          have Hsh := hide hsh
          clear hE2 hE3 hsh
          have hLra := later_undrew (Later.trans hM2a (Later.trans hM3a (Later.trans hM4a hM6a)))
          have hLab := later_undrew (Later.trans hM2b (Later.trans hM3b (Later.trans hM4b hM6b)))
          have hrlb := hrl.later (Later.trans hL (Later.trans hM3 (Later.trans hLra hLab)))
          clear hrl
          go_wp2_with fail
          refine (Bits_calls w6b hM6).mono ?_
          rintro e w7 ⟨Ax, nx, kx, rfl, hM7, hrx, hkx, _⟩
          have hL7 := Later.trans hL6b hM7
          have hnx := hrx.len
          have hnx2 := bitsR_len M
          have hsc := Shorter_calls (k := kx) (j := kl) w7 hrx (hrlb.later hM7) (by omega) hnl6
          rw [Hsh.out] at hsc
          have Hsc := hide hsc
          clear hsc hnx hnx2
          go_wp2_with fail
          refine (Hsc.out).mono ?_
          rintro e w8 ⟨rfl, hM8⟩
          have hL8 := Later.trans hL7 hM8
          go_wp2_with fail
          refine (awake_calls _).mono ?_
          rintro e wa ⟨rfl, hLa⟩
          go_wp2_with fail
          go_ret
          exact ⟨rfl, Later.trans hL0 (Later.trans hL8 hLa)⟩
end Go.Proofs.Ytbkfnajpbhfneaa
