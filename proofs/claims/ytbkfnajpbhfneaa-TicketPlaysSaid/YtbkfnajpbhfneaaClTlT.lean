/- The law TicketPlays: the plain law and the walk. -/
import Derived.Test.YtbkfnajpbhfneaaPart14
import Derived.Test.YtbkfnajpbhfneaaPart7
set_option linter.unusedSimpArgs false
set_option linter.unusedVariables false
namespace Go.Proofs.Ytbkfnajpbhfneaa
open Go Go.RowKit
attribute [local go_sem] later_alloc2 later_alloc3 later_alloc4

theorem plays_law (c : Hou) (d : List Int) :
    (fault c ≠ 0 ∧ playErr c d = fault c ∧ playL c d = [] ∧ truthOut c d = false) ∨
    (fault c = 0 ∧ truthOut c d = isTruth c d ∧ ((areErrors c.clocks d = true ∧ playErr c d = 0 ∧ (playL c d).length = c.clips.length ∧ ∀ (i : Nat) (v : Int), (playL c d)[i]? = some v → trueM c d i = v) ∨
      (areErrors c.clocks d = false ∧ playErr c d = 2 ∧ playL c d = []))) := by
  by_cases hf : fault c = 0
  · refine .inr ⟨hf, by unfold truthOut; rw [decide_eq_true hf, Bool.true_and], ?_⟩
    cases hb : areErrors c.clocks d with
    | true =>
      have he : playErr c d = 0 := by unfold playErr; rw [if_neg (by simp [hf]), if_neg (by simp [hb])]
      refine .inl ⟨rfl, he, by unfold playL; rw [if_pos he, List.length_map], fun i v hv => ?_⟩
      unfold playL at hv
      rw [if_pos he, List.getElem?_map] at hv
      cases hx : c.clips[i]? with
      | none => rw [hx] at hv; cases hv
      | some x =>
        rw [hx] at hv
        injection hv with hv
        unfold trueM
        rw [clipAt_of hx, hv]
    | false =>
      have he : playErr c d = 2 := by unfold playErr; rw [if_neg (by simp [hf]), if_pos hb]
      exact .inr ⟨rfl, he, by unfold playL; rw [if_neg (by rw [he]; decide)]⟩
  · have he : playErr c d = fault c := by unfold playErr; rw [if_pos hf]
    exact .inl ⟨hf, he, by unfold playL; rw [if_neg (by rw [he]; exact hf)], by unfold truthOut; rw [decide_eq_false hf, Bool.false_and]⟩

set_option maxRecDepth 100000 in
set_option maxHeartbeats 8000000 in
theorem lawPlays_calls {A1 A2 A3 : Option Addr} {n1 k1 n2 k2 n3 k3 : Nat} {c : Hou} {Ad : Option Addr} {nd kd : Nat} {d : List Int} (w : World) (hc : CV w c A1 n1 A2 n2 A3 n3) (b1 : n1 ≤ 9223372036854775807) (b2 : n2 ≤ 9223372036854775807) (b3 : n3 ≤ 9223372036854775807)
    (hd : RI w Ad nd d) (bd : nd ≤ 9223372036854775807) : Calls Try.prog 19 #[(.agg #[.int .i64 c.hour, .int .i64 c.grace, .slice A1 n1 k1, .slice A2 n2 k2, .slice A3 n3 k3]), .slice Ad nd kd] w fun e w' => e = .returned (.bool true) ∧ Later w w' := by
  obtain ⟨w0, hw0⟩ : ∃ W, W = (w.alloc (.cells #[.int .i64 c.hour, .int .i64 c.grace, .slice A1 n1 k1, .slice A2 n2 k2, .slice A3 n3 k3] 26)) := ⟨_, rfl⟩; have hbox : ∀ W, Later w0 W → ∀ i, W.cell? ⟨w.heap.size, i, none⟩ = #[.int .i64 c.hour, .int .i64 c.grace, .slice A1 n1 k1, .slice A2 n2 k2, .slice A3 n3 k3][i]? := (by rw [hw0]; exact box_cells w #[.int .i64 c.hour, .int .i64 c.grace, .slice A1 n1 k1, .slice A2 n2 k2, .slice A3 n3 k3] 26); have hL0 : Later w w0 := (by rw [hw0]; simp); have hc0 := hc.later hL0; have Hw0 := hide hw0; clear hw0
  have hd0 := hd.later hL0
  have hthin := Thin_calls (k1 := k1) (k2 := k2) (k3 := k3) w0 hc0 b1 b2 b3
  cases hth : thinB c with
  | false =>
    rw [hth] at hthin
    have Hthin := hide hthin
    clear hth hthin
    go_enter Try.func19, Try.ntmps19
    go_wp2_with fail
    rw [← Hw0.out]; clear Hw0
    refine Hthin.out.mono ?_
    rintro e w1 ⟨rfl, hL1⟩
    go_wp2_with fail
    refine (awake_calls _).mono ?_
    rintro e w2 ⟨rfl, hL2⟩
    go_wp2_with fail
    go_ret
    exact ⟨rfl, Later.trans hL0 (Later.trans hL1 hL2)⟩
  | true =>
    rw [hth] at hthin
    have hn := And.intro hc.ck.len (And.intro hc.tk.len hc.cp.len)
    unfold thinB at hth
    simp only [Bool.and_eq_true, decide_eq_true_eq] at hth
    have l1 : n1 ≤ 6 := by omega
    have l2 : n2 ≤ 8 := by omega
    have l3 : n3 ≤ 12 := by omega
    have Hthin := hide hthin
    clear hth hthin hn
    by_cases hd9 : (8 : Int) < (nd : Int)
    · go_enter Try.func19, Try.ntmps19
      go_wp2_with fail
      rw [← Hw0.out]; clear Hw0
      refine Hthin.out.mono ?_
      rintro e w1 ⟨rfl, hL1⟩
      go_wp2_with fail
      refine (awake_calls _).mono ?_
      rintro e wa ⟨rfl, hLa⟩
      go_wp2_with fail
      go_ret
      exact ⟨rfl, Later.trans hL0 (Later.trans hL1 hLa)⟩
    · have hn3 := hc.cp.len
      have law := plays_law c d
      obtain ⟨q, hq⟩ : ∃ q, fault c = q := ⟨_, rfl⟩
      have hfc := fun (W : World) (h : Later w0 W) => lawFault_calls (k1 := k1) (k2 := k2) (k3 := k3) W (hc0.later h) (by omega) (by omega) (by omega)
      have hck := fun (B1 B2 B3 : Option Addr) (j1 j2 j3 : Nat) (W : World) (h : CV W c B1 n1 B2 n2 B3 n3) =>
        CheckHouse_eq (k1 := j1) (k2 := j2) (k3 := j3) W h hq (by omega) (by omega) (by omega)
      obtain ⟨t, ht⟩ : ∃ t, truthOut c d = t := ⟨_, rfl⟩
      obtain ⟨r, hr⟩ : ∃ r, playErr c d = r := ⟨_, rfl⟩
      have htc := fun (B1 B2 B3 : Option Addr) (j1 j2 j3 : Nat) (W : World) (h : CV W c B1 n1 B2 n2 B3 n3) (Aq : Option Addr) (kq : Nat) (hq : RI W Aq nd d) =>
        ProveTruth_calls (k1 := j1) (k2 := j2) (k3 := j3) (kl := kq) W h hq (by omega) (by omega) (by omega) (by omega)
      have hpc := fun (B1 B2 B3 : Option Addr) (j1 j2 j3 : Nat) (W : World) (h : CV W c B1 n1 B2 n2 B3 n3) (Aq : Option Addr) (kq : Nat) (hq : RI W Aq nd d) =>
        PlayP_calls (k1 := j1) (k2 := j2) (k3 := j3) (kl := kq) W h hq (by omega) (by omega) (by omega) (by omega)
      unfold PlayPost at hpc
      rw [hq] at hfc law
      rw [ht] at htc law
      rw [hr] at hpc law
      obtain ⟨m, hm⟩ : ∃ m, playL c d = m := ⟨_, rfl⟩
      rw [hm] at hpc law
      have Hn3 := hide hn3
      have Hq := hide hq
      have Hfc := hide hfc
      have Hck := hide hck
      have Htc := hide htc
      have Hpc := hide hpc
      have Hlaw := hide law
      clear hn3 law hq hfc hck htc hpc ht hr hm
      go_enter Try.func19, Try.ntmps19
      go_wp2_with fail
      rw [← Hw0.out]; clear Hw0
      refine Hthin.out.mono ?_
      rintro e w1 ⟨rfl, hL1⟩
      go_wp2_with fail
      refine (lawHouse_calls (k1 := k1) (k2 := k2) (k3 := k3) w1 (hc0.later hL1) (by omega) (by omega) (by omega)).mono ?_
      rintro e wa ⟨B1a, j1a, B2a, j2a, B3a, j3a, rfl, hMa, hca, hj1a, hj2a, hj3a⟩
      have hLa := Later.trans hL1 hMa
      go_wp2_with fail
      refine (list_calls _ (hd0.later hLa) (by omega)).mono ?_
      rintro e wb ⟨Ab, nb, kb, rfl, hMb, hrb, hkb, _⟩
      have hLb := Later.trans hLa hMb
      have hnb := hrb.len
      rw [← hd0.len] at hnb
      subst nb
      go_wp2_with fail
      refine (Hpc.out _ _ _ _ _ _ wb (hca.later hMb) _ _ hrb).mono ?_
      rintro e w2 ⟨Al, kl, rfl, hM2, hrl⟩
      have hL2 := Later.trans hLb hM2
      clear hca hrb hj1a hj2a hj3a hMa hMb hLa hLb
      go_wp2_with fail
      refine (lawHouse_calls (k1 := k1) (k2 := k2) (k3 := k3) w2 (hc0.later hL2) (by omega) (by omega) (by omega)).mono ?_
      rintro e wa ⟨B1a, j1a, B2a, j2a, B3a, j3a, rfl, hMa, hca, hj1a, hj2a, hj3a⟩
      have hLa := Later.trans hL2 hMa
      go_wp2_with fail
      refine (list_calls _ (hd0.later hLa) (by omega)).mono ?_
      rintro e wb ⟨Ab, nb, kb, rfl, hMb, hrb, hkb, _⟩
      have hLb := Later.trans hLa hMb
      have hnb := hrb.len
      rw [← hd0.len] at hnb
      subst nb
      go_wp2_with fail
      refine (Htc.out _ _ _ _ _ _ wb (hca.later hMb) _ _ hrb).mono ?_
      rintro e w3 ⟨rfl, hM3⟩
      have hL3 := Later.trans hLb hM3
      have hM23 := Later.trans hMa (Later.trans hMb hM3)
      clear hca hrb hj1a hj2a hj3a hMa hMb hLa hLb hM3
      go_wp2_with fail
      refine (Hfc.out w3 hL3).mono ?_
      rintro e w4 ⟨rfl, hM4⟩
      have hL4 := Later.trans hL3 hM4
      go_wp2_with fail
      refine (lawHouse_calls (k1 := k1) (k2 := k2) (k3 := k3) w4 (hc0.later hL4) (by omega) (by omega) (by omega)).mono ?_
      rintro e wa ⟨B1a, j1a, B2a, j2a, B3a, j3a, rfl, hMa, hca, hj1a, hj2a, hj3a⟩
      have hLa := Later.trans hL4 hMa
      go_wp2_with fail
      refine (Hck.out _ _ _ _ _ _ wa hca).mono ?_
      rintro e w5 ⟨rfl, hM5⟩
      have hL5 := Later.trans hLa hM5
      have hrl5 := hrl.later (Later.trans hM23 (Later.trans hM4 (Later.trans hMa hM5)))
      clear hca hj1a hj2a hj3a hMa hLa hM5 hM23 hM4 hrl
      rcases Hlaw.out with ⟨h0, hrq, hpL, rfl⟩ | ⟨rfl, rfl, hor⟩
      · subst r hpL
        have h0b : (q == 0) = false := by simpa using h0
        have h0c : (q != 0) = true := by simpa using h0
        clear h0
        simp only [List.length_nil]
        go_wp2_with fail
        refine (awake_calls _).mono ?_
        rintro e wa ⟨rfl, hLa⟩
        go_wp2_with fail
        go_ret
        exact ⟨rfl, Later.trans hL0 (Later.trans hL5 hLa)⟩
      · have hf := Hq.out
        have ok := okH_of_fault hf
        have hit := IsTruth_calls (k1 := k1) (k2 := k2) (k3 := k3) (kd := kd) w5 (hc0.later hL5) (hd0.later hL5) ok (by omega)
        obtain ⟨t, ht⟩ : ∃ t, isTruth c d = t := ⟨_, rfl⟩
        rw [ht] at hit ⊢
        have Hit := hide hit
        have Hok := hide ok
        clear hit ht ok hf
        have htt : (t != t) = false := by simp
        rcases hor with ⟨ha, hr0, hml, hget⟩ | ⟨ha, hr2, hml⟩
        · subst r
          have hip := fun (W : World) (h : Later w0 W) => AreErrors_eq (kp := kd) (k1 := k1) (k2 := k2) (k3 := k3) ha W (hc0.later h) (hd0.later h) (by omega) (by omega)
          have hdr := (isErr_iff c d).1 ha
          rw [← Hn3.out] at hml
          rw [hml]
          rw [hml] at hrl5
          have hnn : ((n3 : Int) != (n3 : Int)) = false := by simp
          have Hip := hide hip
          have Hget := hide hget
          have Hdr := hide hdr
          have Hml := hide hml
          have hx4 := fun W (hW : Later w0 W) => hbox W hW 4
          simp only [List.getElem?_toArray, List.getElem?_cons_zero, List.getElem?_cons_succ] at hx4
          clear hip ha hget hdr hml
          go_wp2_with fail
          refine (Hit.out).mono ?_
          rintro e w6 ⟨rfl, hM6⟩
          have hL6 := Later.trans hL5 hM6
          go_wp2_with fail
          refine (Hip.out w6 hL6).mono ?_
          rintro e w7 ⟨rfl, hM7⟩
          have hL7 := Later.trans hL6 hM7
          have hrl7 := hrl5.later (Later.trans hM6 hM7)
          have hx7 := hx4 w7 hL7
          clear hx4
          go_wp2_with fail
          go_loopw [9] (fun v wr => ∃ i : Nat, i ≤ n3 ∧ v = .int .i64 i ∧ Later w7 wr) (fun v _ => n3 - (intOf v).toNat)
          case atStart => exact ⟨0, Nat.zero_le _, rfl, later_refl _⟩
          case round =>
            obtain ⟨i, hi, rfl, hL⟩ := hrel
            have hL0r := Later.trans hL7 hL
            by_cases hlt : i < n3
            · have hi1 : (i : Int) < n3 := by omega
              obtain ⟨b, o, x, rfl, _, hx, hx0⟩ := hrl7.get hlt
              have hx0' := fun W (hW : Later wr W) => hx0 W (Later.trans hL hW)
              have hxm := Hget.out i x hx
              have hmc := fun (W : World) (h : Later w0 W) => True_eq (k1 := k1) (k2 := k2) (k3 := k3) (kd := kd) hxm W (hc0.later h) (hd0.later h) Hok.out Hdr.out hlt
              have Hmc := hide hmc
              have hxx : (x != x) = false := by simp
              have hT : ∀ e : Ext wr, Later w0 e.W := fun e => Later.trans hL0r e.h
              have hbx := fun W (hW : Later wr W) => hbox W (Later.trans hL0r hW)
              clear hmc hx hx0 hxm hbox hx7
              go_wp2_with fail
              refine wp_region_ext (w0 := wr) (by kernel_rfl) (by kernel_rfl) (later_refl _) ?_; (repeat (first | go_big_quiet_step (((go_at_call 70; exact calls_ext (by simp) (Hmc.out _ (hT _))))) | quiet_step (((go_at_call 70; exact calls_ext (by simp) (Hmc.out _ (hT _))))))); refine wpQuiet_nil ?_; rintro w9 ⟨⟨_, hM9⟩, rfl⟩; (try dsimp only)
              go_wp2_with fail
              go_roundw
              case rel => exact ⟨i + 1, hlt, by go_num, Later.trans hL hM9⟩
              case measure => simp [intOf]; omega
            · have hi1 : ¬ (i : Int) < n3 := by omega
              clear hlt
              go_wp2_with fail
              refine (awake_calls _).mono ?_
              rintro e wa ⟨rfl, hLa⟩
              go_wp2_with fail
              go_ret
              exact ⟨rfl, Later.trans hL0 (Later.trans hL0r hLa)⟩
        · subst r hml
          have hip := fun (W : World) (h : Later w0 W) => AreErrors_eq (kp := kd) (k1 := k1) (k2 := k2) (k3 := k3) ha W (hc0.later h) (hd0.later h) (by omega) (by omega)
          have Hip := hide hip
          clear hip ha
          simp only [List.length_nil]
          go_wp2_with fail
          refine (Hit.out).mono ?_
          rintro e w6 ⟨rfl, hM6⟩
          have hL6 := Later.trans hL5 hM6
          go_wp2_with fail
          refine (Hip.out w6 hL6).mono ?_
          rintro e w7 ⟨rfl, hM7⟩
          have hL7 := Later.trans hL6 hM7
          go_wp2_with fail
          refine (awake_calls _).mono ?_
          rintro e wa ⟨rfl, hLa⟩
          go_wp2_with fail
          go_ret
          exact ⟨rfl, Later.trans hL0 (Later.trans hL7 hLa)⟩
end Go.Proofs.Ytbkfnajpbhfneaa
