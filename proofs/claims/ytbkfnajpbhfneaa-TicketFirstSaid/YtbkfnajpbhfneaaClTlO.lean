/- The law TicketFirst: walk. -/
import Derived.Test.YtbkfnajpbhfneaaPart14
import Derived.Test.YtbkfnajpbhfneaaPart12
set_option linter.unusedSimpArgs false
set_option linter.unusedVariables false
namespace Go.Proofs.Ytbkfnajpbhfneaa
open Go Go.RowKit
attribute [local go_sem] later_alloc2 later_alloc3 later_alloc4

theorem shl_one : ∀ j : Nat, j < 10 → wrap64 (wrap64 (2 ^ j) - 1) = ((2 ^ j - 1 : Nat) : Int) := by decide +kernel
theorem shl_two : ∀ j : Nat, j < 10 → wrap64 (wrap64 (2 * 2 ^ j) - 1) = ((2 ^ (j + 1) - 1 : Nat) : Int) := by decide +kernel
set_option maxRecDepth 100000 in
set_option maxHeartbeats 8000000 in
theorem lawFirst_calls {A1 A2 A3 : Option Addr} {n1 k1 n2 k2 n3 k3 : Nat} {c : Hou} (w : World) (hc : CV w c A1 n1 A2 n2 A3 n3) (b1 : n1 ≤ 9223372036854775807) (b2 : n2 ≤ 9223372036854775807) (b3 : n3 ≤ 9223372036854775807) :
    Calls Try.prog 17 #[(.agg #[.int .i64 c.hour, .int .i64 c.grace, .slice A1 n1 k1, .slice A2 n2 k2, .slice A3 n3 k3])] w fun e w' => e = .returned (.bool true) ∧ Later w w' := by
  obtain ⟨w0, hw0⟩ : ∃ W, W = (w.alloc (.cells #[.int .i64 c.hour, .int .i64 c.grace, .slice A1 n1 k1, .slice A2 n2 k2, .slice A3 n3 k3] 26)) := ⟨_, rfl⟩; have hbox : ∀ W, Later w0 W → ∀ i, W.cell? ⟨w.heap.size, i, none⟩ = #[.int .i64 c.hour, .int .i64 c.grace, .slice A1 n1 k1, .slice A2 n2 k2, .slice A3 n3 k3][i]? := (by rw [hw0]; exact box_cells w #[.int .i64 c.hour, .int .i64 c.grace, .slice A1 n1 k1, .slice A2 n2 k2, .slice A3 n3 k3] 26); have hL0 : Later w w0 := (by rw [hw0]; simp); have hc0 := hc.later hL0; have Hw0 := hide hw0; clear hw0
  have hrdy := ready_calls (k1 := k1) (k2 := k2) (k3 := k3) w0 hc0 b1 b2 b3
  cases hth : readyB c with
  | false =>
    rw [hth] at hrdy
    have Hrdy := hide hrdy
    clear hth hrdy
    go_enter Try.func17, Try.ntmps17
    go_wp2_with fail
    rw [← Hw0.out]; clear Hw0
    refine Hrdy.out.mono ?_
    rintro e w1 ⟨rfl, hL1⟩
    go_wp2_with fail
    refine (awake_calls _).mono ?_
    rintro e w2 ⟨rfl, hL2⟩
    go_wp2_with fail
    go_ret
    exact ⟨rfl, Later.trans hL0 (Later.trans hL1 hL2)⟩
  | true =>
    rw [hth] at hrdy
    have hn1 := hc.ck.len
    have hn2 := hc.tk.len
    have hn3 := hc.cp.len
    have hf := (readyB_true hth).2
    have ok := okH_of_fault hf
    have hmy := many_le hf
    have l1 : n1 ≤ 4 := by have := ok.n1; omega
    have l2 : n2 ≤ 6 := by have := ok.n2; omega
    have l3 : n3 ≤ 10 := by have := ok.n3; omega
    have Hn1 := hide hn1
    have Hn2 := hide hn2
    have Hn3 := hide hn3
    have Hf := hide hf
    have Hmy := hide hmy
    have Hrdy := hide hrdy
    clear hth hrdy hn1 hn2 hn3 hf hmy
    have hfp := fun (B1 B2 B3 : Option Addr) (j1 j2 j3 : Nat) (W : World) (h : CV W c B1 n1 B2 n2 B3 n3) (h3 : n3 ≤ j3) =>
      FirstP_calls (k1 := j1) (k2 := j2) (k3 := j3) W h (by omega) (by omega) (by omega) h3
    have hbd := fun (x : Hou) (m : Nat) (hm : m ≤ 10) (B1 B2 B3 : Option Addr) (j1 j2 j3 : Nat) (W : World) (h : CV W x B1 n1 B2 n2 B3 m) =>
      ClocksP_calls (k1 := j1) (k2 := j2) (k3 := j3) W h (by omega) (by omega) (by omega)
    unfold PairsPost at hbd
    have law := firstLaw Hf.out
    have Hfp := hide hfp
    have Hbd := hide hbd
    clear hfp hbd
    rcases law with ⟨ho, he⟩ | ⟨j, hj, ho, he1, he2⟩
    · have hfp := Hfp.out
      rw [ho] at hfp
      have Hfp := hide hfp
      have He := hide he
      clear hfp ho he
      go_enter Try.func17, Try.ntmps17
      go_wp2_with fail
      rw [← Hw0.out]; clear Hw0
      refine Hrdy.out.mono ?_
      rintro e w1 ⟨rfl, hL1⟩
      go_wp2_with fail
      refine (lawHouse_calls (k1 := k1) (k2 := k2) (k3 := k3) w1 (hc0.later hL1) (by omega) (by omega) (by omega)).mono ?_
      rintro e wa ⟨B1a, j1a, B2a, j2a, B3a, j3a, rfl, hMa, hca, hj1a, hj2a, hj3a⟩
      have hLa := Later.trans hL1 hMa
      go_wp2_with fail
      refine (Hfp.out _ _ _ _ _ _ wa hca hj3a).mono ?_
      rintro e w2 ⟨rfl, hM2⟩
      have hL2 := Later.trans hLa hM2
      clear hca hj1a hj2a hj3a hMa hLa
      go_wp2_with fail
      refine (lawHouse_calls (k1 := k1) (k2 := k2) (k3 := k3) w2 (hc0.later hL2) (by omega) (by omega) (by omega)).mono ?_
      rintro e wb ⟨B1b, j1b, B2b, j2b, B3b, j3b, rfl, hMb, hcb, hj1b, hj2b, hj3b⟩
      have hLb := Later.trans hL2 hMb
      go_wp2_with fail
      refine (Hbd.out c n3 l3 _ _ _ _ _ _ wb hcb).mono ?_
      rintro e w3 ⟨Ab, nb, kb, rfl, hM3, _⟩
      have hL3 := Later.trans hLb hM3
      rw [He.out]
      go_wp2_with fail
      refine (awake_calls _).mono ?_
      rintro e wa ⟨rfl, hLa⟩
      go_wp2_with fail
      go_ret
      exact ⟨rfl, Later.trans hL0 (Later.trans hL3 hLa)⟩
    · have hfp := Hfp.out
      rw [ho] at hfp
      have Hfp := hide hfp
      have He1 := hide he1
      have He2 := hide he2
      have hin := fun W => In_eq (n := (j : Int)) (lo := 0) (hi := (n3 : Int) - 1) (b := true) (by have := Hn3.out; unfold inB; simp; omega) W
      have Hin := hide hin
      have hj5 : j < 10 := by have := Hn3.out; omega
      have hv1 := shl_one j hj5
      have hv2 := shl_two j hj5
      have hp1 := pow_le_of (show j ≤ 10 by omega)
      have hp2 := pow_le_of (show j + 1 ≤ 10 by omega)
      obtain ⟨p1, hp1e⟩ : ∃ b, 2 ^ j - 1 = b := ⟨_, rfl⟩
      obtain ⟨p2, hp2e⟩ : ∃ b, 2 ^ (j + 1) - 1 = b := ⟨_, rfl⟩
      rw [hp1e] at He1 hv1
      rw [hp2e] at He2 hv2
      have hb1 : p1 ≤ 1000000 := by omega
      have hb2 : p2 ≤ 1000000 := by omega
      have Hv1 := hide hv1
      have Hv2 := hide hv2
      clear hp1 hp2 hp1e hp2e hv1 hv2
      have hsm := fun (bits : Nat) (hb : bits ≤ 1000000) (W : World) (h : Later w0 W) => some_calls (bits := bits) (k1 := k1) (k2 := k2) (k3 := k3) W (hc0.later h) l3 hb
      have Hsm := hide hsm
      clear hsm hfp ho he1 he2 hin hj
      go_enter Try.func17, Try.ntmps17
      go_wp2_with fail
      rw [← Hw0.out]; clear Hw0
      refine Hrdy.out.mono ?_
      rintro e w1 ⟨rfl, hL1⟩
      go_wp2_with fail
      refine (lawHouse_calls (k1 := k1) (k2 := k2) (k3 := k3) w1 (hc0.later hL1) (by omega) (by omega) (by omega)).mono ?_
      rintro e wa ⟨B1a, j1a, B2a, j2a, B3a, j3a, rfl, hMa, hca, hj1a, hj2a, hj3a⟩
      have hLa := Later.trans hL1 hMa
      go_wp2_with fail
      refine (Hfp.out _ _ _ _ _ _ wa hca hj3a).mono ?_
      rintro e w2 ⟨rfl, hM2⟩
      have hL2 := Later.trans hLa hM2
      clear hca hj1a hj2a hj3a hMa hLa
      go_wp2_with fail
      refine (Hin.out w2).mono ?_
      rintro e w2' ⟨rfl, rfl⟩
      go_wp2_with fail
      rw [Hv1.out]
      refine (Hsm.out p1 hb1 _ hL2).mono ?_
      rintro e w3a ⟨Asa, msa, ksa, rfl, hM3a, hrsa⟩
      have hL3a := Later.trans hL2 hM3a
      have hmsa : msa ≤ 10 := by have h1 := hrsa.len; have h2 := someTo_len c p1 c.clips.length; have h3 := Hn3.out; simp only [someH, withClips] at h1; omega
      go_wp2_with fail
      refine (lawHouse_calls (c := someH c p1) (k1 := k1) (k2 := k2) (k3 := ksa) _ ⟨(hc0.later hL3a).ck, (hc0.later hL3a).tk, hrsa⟩ (by omega) (by omega) (by omega)).mono ?_
      rintro e w4a ⟨B1a, j1a, B2a, j2a, B3a, j3a, rfl, hM4a, hc4a, hj1a, hj2a, hj3a⟩
      have hL4a := Later.trans hL3a hM4a
      go_wp2_with fail
      refine (Hbd.out (someH c p1) msa hmsa _ _ _ _ _ _ w4a hc4a).mono ?_
      rintro e w6a ⟨Aba, nba, kba, rfl, hM6a, _⟩
      have hL6a := Later.trans hL4a hM6a
      go_wp2_with fail
      rw [Hv2.out]
      refine (Hsm.out p2 hb2 _ hL6a).mono ?_
      rintro e w3b ⟨Asb, msb, ksb, rfl, hM3b, hrsb⟩
      have hL3b := Later.trans hL6a hM3b
      have hmsb : msb ≤ 10 := by have h1 := hrsb.len; have h2 := someTo_len c p2 c.clips.length; have h3 := Hn3.out; simp only [someH, withClips] at h1; omega
      go_wp2_with fail
      refine (lawHouse_calls (c := someH c p2) (k1 := k1) (k2 := k2) (k3 := ksb) _ ⟨(hc0.later hL3b).ck, (hc0.later hL3b).tk, hrsb⟩ (by omega) (by omega) (by omega)).mono ?_
      rintro e w4b ⟨B1b, j1b, B2b, j2b, B3b, j3b, rfl, hM4b, hc4b, hj1b, hj2b, hj3b⟩
      have hL4b := Later.trans hL3b hM4b
      go_wp2_with fail
      refine (Hbd.out (someH c p2) msb hmsb _ _ _ _ _ _ w4b hc4b).mono ?_
      rintro e w6b ⟨Abb, nbb, kbb, rfl, hM6b, _⟩
      have hL6b := Later.trans hL4b hM6b
      have hE1 : askedErr (someH c p1) 0 = 0 := He1.out
      have hE2 : askedErr (someH c p2) 0 = 11 := He2.out
      rw [hE1, hE2]
      clear hE1 hE2
      go_wp2_with fail
      refine (awake_calls _).mono ?_
      rintro e wa ⟨rfl, hLa⟩
      go_wp2_with fail
      go_ret
      exact ⟨rfl, Later.trans hL0 (Later.trans hL6b hLa)⟩
end Go.Proofs.Ytbkfnajpbhfneaa
