/- The law TicketLeaves: walk. -/
import Derived.Test.YtbkfnajpbhfneaaPart10
import Derived.Test.YtbkfnajpbhfneaaPart13
set_option linter.unusedSimpArgs false
set_option linter.unusedVariables false
namespace Go.Proofs.Ytbkfnajpbhfneaa
open Go Go.RowKit

theorem ints_same {A B : Option Addr} {n k m j : Nat} {l : List Int} {w : World} (h : RI w A n l) (h2 : RI w B m l) (hn : l.length ≤ 1023) :
    Calls Try.prog 46 #[.slice A n k, .slice B m j] w fun e w' => e = .returned (.bool true) ∧ Later w w' := by
  have h1 := h.len
  have h3 := h2.len
  refine (lawInts_calls _ h h2 (by omega) (by omega)).mono fun e w' h => ?_
  rw [decide_eq_true rfl] at h
  exact h
set_option maxRecDepth 100000 in
set_option maxHeartbeats 4000000 in
theorem lawLeaves_calls {A1 A2 A3 : Option Addr} {n1 k1 n2 k2 n3 k3 : Nat} {c : Hou} (w : World) (hc : CV w c A1 n1 A2 n2 A3 n3) (b1 : n1 ≤ 9223372036854775807) (b2 : n2 ≤ 9223372036854775807) (b3 : n3 ≤ 9223372036854775807) :
    Calls Try.prog 8 #[(.agg #[.int .i64 c.hour, .int .i64 c.grace, .slice A1 n1 k1, .slice A2 n2 k2, .slice A3 n3 k3])] w fun e w' => e = .returned (.bool true) ∧ Later w w' := by
  obtain ⟨w0, hw0⟩ : ∃ W, W = (w.alloc (.cells #[.int .i64 c.hour, .int .i64 c.grace, .slice A1 n1 k1, .slice A2 n2 k2, .slice A3 n3 k3] 26)) := ⟨_, rfl⟩; have hbox : ∀ W, Later w0 W → ∀ i, W.cell? ⟨w.heap.size, i, none⟩ = #[.int .i64 c.hour, .int .i64 c.grace, .slice A1 n1 k1, .slice A2 n2 k2, .slice A3 n3 k3][i]? := (by rw [hw0]; exact box_cells w #[.int .i64 c.hour, .int .i64 c.grace, .slice A1 n1 k1, .slice A2 n2 k2, .slice A3 n3 k3] 26); have hL0 : Later w w0 := (by rw [hw0]; simp); have hc0 := hc.later hL0; have Hw0 := hide hw0; clear hw0
  have hthin := Thin_calls (k1 := k1) (k2 := k2) (k3 := k3) w0 hc0 b1 b2 b3
  cases hth : thinB c with
  | false =>
    rw [hth] at hthin
    have Hthin := hide hthin
    clear hth hthin
    go_enter Try.func8, Try.ntmps8
    go_wp2_with fail
    rw [← Hw0.out]; clear Hw0
    refine Hthin.out.mono ?_
    rintro e w1 ⟨rfl, hL1⟩
    go_wp2_with fail
    refine (awake_calls _).mono ?_
    rintro e w2 ⟨rfl, hL2⟩
    go_wp2_with fail
    go_ret
    exact ⟨rfl, Later.trans hL0 (Later.trans hL1 hL2)⟩
  | true =>
    rw [hth] at hthin
    have hn := And.intro hc.ck.len (And.intro hc.tk.len hc.cp.len)
    unfold thinB at hth
    simp only [Bool.and_eq_true, decide_eq_true_eq] at hth
    have l1 : n1 ≤ 6 := by omega
    have l2 : n2 ≤ 8 := by omega
    have l3 : n3 ≤ 12 := by omega
    have Hthin := hide hthin
    clear hth hthin hn
    have hcl := fun (B1 B2 B3 : Option Addr) (j1 j2 j3 : Nat) (W : World) (h : CV W c B1 n1 B2 n2 B3 n3) (hj : n3 ≤ j3) => FirstP_calls (k1 := j1) (k2 := j2) (k3 := j3) W h (by omega) (by omega) (by omega) hj
    have hcp := fun (B1 B2 B3 : Option Addr) (j1 j2 j3 : Nat) (W : World) (h : CV W c B1 n1 B2 n2 B3 n3) => LeaveP_calls (k1 := j1) (k2 := j2) (k3 := j3) W h (by omega) (by omega) (by omega)
    unfold LeavePost at hcp
    have hfc := fun (W : World) (h : Later w0 W) => lawFault_calls (k1 := k1) (k2 := k2) (k3 := k3) W (hc0.later h) (by omega) (by omega) (by omega)
    rcases first_law c with ⟨hf0, hfo⟩ | ⟨hf0, hfo⟩
    · have hlo : leaveOut c = [] := by unfold leaveOut; rw [if_neg hf0]
      obtain ⟨f, hf⟩ : ∃ f, fault c = f := ⟨_, rfl⟩
      rw [hf] at hf0 hfo hcp hfc
      rw [hfo] at hcl
      have hqb : (f != 0) = true := by simpa using hf0
      have hqb2 : (f == 0) = false := by simpa using hf0
      have Hlo := hide hlo
      have Hcl := hide hcl
      have Hcp := hide hcp
      have Hfc := hide hfc
      clear hlo hcl hcp hfc hf hfo
      go_enter Try.func8, Try.ntmps8
      go_wp2_with fail
      rw [← Hw0.out]; clear Hw0
      refine Hthin.out.mono ?_
      rintro e w1 ⟨rfl, hL1⟩
      go_wp2_with fail
      refine (lawHouse_calls (k1 := k1) (k2 := k2) (k3 := k3) w1 (hc0.later hL1) (by omega) (by omega) (by omega)).mono ?_
      rintro e w2 ⟨B1, j1, B2, j2, B3, j3, rfl, hL2, hcv, _, _, hj3⟩
      have hL02 := Later.trans hL1 hL2
      go_wp2_with fail
      refine (Hcl.out B1 B2 B3 j1 j2 j3 w2 hcv hj3).mono ?_
      rintro e w3 ⟨rfl, hL3⟩
      have hL03 := Later.trans hL02 hL3
      go_wp2_with fail
      refine (lawHouse_calls (k1 := k1) (k2 := k2) (k3 := k3) w3 (hc0.later hL03) (by omega) (by omega) (by omega)).mono ?_
      rintro e w4 ⟨C1, i1, C2, i2, C3, i3, rfl, hL4, hcv4, _⟩
      have hL04 := Later.trans hL03 hL4
      go_wp2_with fail
      refine (Hcp.out C1 C2 C3 i1 i2 i3 w4 hcv4).mono ?_
      rintro e w5 ⟨Av, nv, kv, rfl, hL5, hvl, _⟩
      have hL05 := Later.trans hL04 hL5
      have hvn := hvl.len
      have hnv : nv = 0 := by rw [hvn, Hlo.out]; rfl
      subst hnv
      clear hvn hvl
      go_wp2_with fail
      refine (Hfc.out w5 hL05).mono ?_
      rintro e w6 ⟨rfl, hL6⟩
      have hL06 := Later.trans hL05 hL6
      go_wp2_with fail
      refine (awake_calls _).mono ?_
      rintro e w9 ⟨rfl, hL9⟩
      go_wp2_with fail
      go_ret
      exact ⟨rfl, Later.trans hL0 (Later.trans hL06 hL9)⟩
    · have ok := okH_of_fault hf0
      have hmy := many_le hf0
      have hlv := leave_law hf0
      have hll : (leaveR c).length ≤ 1023 := leaveR_len2 (by have := ok.n3; omega)
      have hlr := fun (W : World) (h : Later w0 W) => Leave_calls (k1 := k1) (k2 := k2) (k3 := k3) W (hc0.later h) ok (by omega)
      have hfr := fun (W : World) (h : Later w0 W) => First_calls (k1 := k1) (k2 := k2) (k3 := k3) W (hc0.later h) ok (by omega)
      unfold LeaveRPost at hlr
      obtain ⟨lr, hl0⟩ : ∃ l, leaveR c = l := ⟨_, rfl⟩
      obtain ⟨fr, hf1⟩ : ∃ l, firstR c = l := ⟨_, rfl⟩
      rw [hl0] at hlv hll hlr
      rw [hf1] at hfr
      rw [hlv] at hcp
      rw [hf0] at hcp hfc
      have Hll := hide hll
      have Hcp := hide hcp
      have Hfc := hide hfc
      have Hlr := hide hlr
      have Hfr := hide hfr
      clear hlv hll hl0 hcp hfc hf0 hlr hfr hmy ok
      have hcase : ∃ (q e : Int), firstOut c = (q, e) ∧ ((e = 0 ∧ q = fr ∧ 0 ≤ q) ∨ (e = 7 ∧ q = 0 ∧ fr = -1)) := by
        rcases hfo with ⟨j, hj, hfr, hfo⟩ | ⟨hfr, hfo⟩
        · exact ⟨_, _, hfo, .inl ⟨rfl, by rw [← hf1, hfr], by omega⟩⟩
        · exact ⟨_, _, hfo, .inr ⟨rfl, rfl, by rw [← hf1, hfr]⟩⟩
      obtain ⟨q, e', hqe, hcs⟩ := hcase
      rw [hqe] at hcl
      have Hcl := hide hcl
      clear hcl hqe hfo hf1
      rcases hcs with ⟨rfl, rfl, hq0⟩ | ⟨rfl, rfl, rfl⟩
      · go_enter Try.func8, Try.ntmps8
        go_wp2_with fail
        rw [← Hw0.out]; clear Hw0
        refine Hthin.out.mono ?_
        rintro e w1 ⟨rfl, hL1⟩
        go_wp2_with fail
        refine (lawHouse_calls (k1 := k1) (k2 := k2) (k3 := k3) w1 (hc0.later hL1) (by omega) (by omega) (by omega)).mono ?_
        rintro e wa ⟨B1a, j1a, B2a, j2a, B3a, j3a, rfl, hMa, hca, hj1a, hj2a, hj3a⟩
        have hLa := Later.trans hL1 hMa
        go_wp2_with fail
        refine (Hcl.out _ _ _ _ _ _ wa hca hj3a).mono ?_
        rintro e w3 ⟨rfl, hM3⟩
        have hL3 := Later.trans hLa hM3
        clear hca hj1a hj2a hj3a hMa hLa hM3
        go_wp2_with fail
        refine (lawHouse_calls (k1 := k1) (k2 := k2) (k3 := k3) w3 (hc0.later hL3) (by omega) (by omega) (by omega)).mono ?_
        rintro e wa ⟨B1a, j1a, B2a, j2a, B3a, j3a, rfl, hMa, hca, hj1a, hj2a, hj3a⟩
        have hLa := Later.trans hL3 hMa
        go_wp2_with fail
        refine (Hcp.out _ _ _ _ _ _ wa hca).mono ?_
        rintro e w5 ⟨Av, nv, kv, rfl, hM5, hvl, _⟩
        have hL5 := Later.trans hLa hM5
        clear hca hj1a hj2a hj3a hMa hLa hM5
        go_wp2_with fail
        refine (Hfc.out w5 hL5).mono ?_
        rintro e w6 ⟨rfl, hM6⟩
        have hL6 := Later.trans hL5 hM6
        go_wp2_with fail
        refine (Hlr.out w6 hL6).mono ?_
        rintro e w7 ⟨Al, nl, kl, rfl, hM7, hlr, _⟩
        have hL7 := Later.trans hL6 hM7
        have his := ints_same (k := kv) (j := kl) (hvl.later (Later.trans hM6 hM7)) hlr Hll.out
        have His := hide his
        clear hvl hlr his hM6 hM7
        go_wp2_with fail
        refine (His.out).mono ?_
        rintro e w8 ⟨rfl, hM8⟩
        have hL8 := Later.trans hL7 hM8
        go_wp2_with fail
        refine (Hfr.out w8 hL8).mono ?_
        rintro e w9 ⟨rfl, hM9⟩
        have hL9 := Later.trans hL8 hM9
        go_wp2_with fail
        refine (awake_calls _).mono ?_
        rintro e wa ⟨rfl, hLa⟩
        go_wp2_with fail
        go_ret
        exact ⟨rfl, Later.trans hL0 (Later.trans hL9 hLa)⟩
      · go_enter Try.func8, Try.ntmps8
        go_wp2_with fail
        rw [← Hw0.out]; clear Hw0
        refine Hthin.out.mono ?_
        rintro e w1 ⟨rfl, hL1⟩
        go_wp2_with fail
        refine (lawHouse_calls (k1 := k1) (k2 := k2) (k3 := k3) w1 (hc0.later hL1) (by omega) (by omega) (by omega)).mono ?_
        rintro e wa ⟨B1a, j1a, B2a, j2a, B3a, j3a, rfl, hMa, hca, hj1a, hj2a, hj3a⟩
        have hLa := Later.trans hL1 hMa
        go_wp2_with fail
        refine (Hcl.out _ _ _ _ _ _ wa hca hj3a).mono ?_
        rintro e w3 ⟨rfl, hM3⟩
        have hL3 := Later.trans hLa hM3
        clear hca hj1a hj2a hj3a hMa hLa hM3
        go_wp2_with fail
        refine (lawHouse_calls (k1 := k1) (k2 := k2) (k3 := k3) w3 (hc0.later hL3) (by omega) (by omega) (by omega)).mono ?_
        rintro e wa ⟨B1a, j1a, B2a, j2a, B3a, j3a, rfl, hMa, hca, hj1a, hj2a, hj3a⟩
        have hLa := Later.trans hL3 hMa
        go_wp2_with fail
        refine (Hcp.out _ _ _ _ _ _ wa hca).mono ?_
        rintro e w5 ⟨Av, nv, kv, rfl, hM5, hvl, _⟩
        have hL5 := Later.trans hLa hM5
        clear hca hj1a hj2a hj3a hMa hLa hM5
        go_wp2_with fail
        refine (Hfc.out w5 hL5).mono ?_
        rintro e w6 ⟨rfl, hM6⟩
        have hL6 := Later.trans hL5 hM6
        go_wp2_with fail
        refine (Hlr.out w6 hL6).mono ?_
        rintro e w7 ⟨Al, nl, kl, rfl, hM7, hlr, _⟩
        have hL7 := Later.trans hL6 hM7
        have his := ints_same (k := kv) (j := kl) (hvl.later (Later.trans hM6 hM7)) hlr Hll.out
        have His := hide his
        clear hvl hlr his hM6 hM7
        go_wp2_with fail
        refine (His.out).mono ?_
        rintro e w8 ⟨rfl, hM8⟩
        have hL8 := Later.trans hL7 hM8
        go_wp2_with fail
        refine (Hfr.out w8 hL8).mono ?_
        rintro e w9 ⟨rfl, hM9⟩
        have hL9 := Later.trans hL8 hM9
        go_wp2_with fail
        refine (awake_calls _).mono ?_
        rintro e wa ⟨rfl, hLa⟩
        go_wp2_with fail
        go_ret
        exact ⟨rfl, Later.trans hL0 (Later.trans hL9 hLa)⟩
end Go.Proofs.Ytbkfnajpbhfneaa
