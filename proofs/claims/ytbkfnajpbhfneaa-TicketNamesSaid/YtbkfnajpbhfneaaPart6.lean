/- Part 6 of the proof: joined from the texts TcU, TcW, TcX, TcY, TcZ, TrA, TrB, Bits, TrC, TrQ. -/
import Derived.Test.YtbkfnajpbhfneaaPart5
import Derived.Test.YtbkfnajpbhfneaaPart1
import Derived.Laws.BitsAllLaws
import Derived.Laws.BitsLemmas
import Derived.RowKit
set_option linter.unusedSimpArgs false
set_option linter.unusedVariables false
/- The program's verdict: walk. -/
namespace Go.Proofs.Ytbkfnajpbhfneaa
open Go Go.RowKit

theorem any_take {p : List Int → Bool} {l : List (List Int)} {j : Nat} {d : List Int} (h : l[j]? = some d) : (l.take (j + 1)).any p = ((l.take j).any p || p d) := by
  rw [List.take_add_one, h, Option.toList_some, List.any_append]; simp
section
variable {A1 A2 A3 At : Option Addr} {n1 k1 n2 k2 n3 k3 nt kt bw bm : Nat} {c : Hou} {tr : List (List Int)}
set_option maxRecDepth 100000 in
set_option maxHeartbeats 1000000 in
theorem verdict_long_calls {q1 q2 : Nat} (p : List Int → Bool) (w : World) (hw : WK w bw c A1 n1 k1 A2 n2 k2 A3 n3 k3 At nt kt tr bm) (hnt : nt ≤ 1000000)
    (Hfn : ∀ W, Later w W → ∀ d ∈ tr, ∀ e0 e1 e2 e3, Hid (pad4 d = [e0, e1, e2, e3]) → Calls Try.prog 85 #[.agg #[.int .i64 e0, .int .i64 e1, .int .i64 e2, .int .i64 e3], .pointer (some ⟨q1, 0, none⟩), .pointer (some ⟨q2, 0, none⟩)] W fun e w' => e = .returned (.bool (p d)) ∧ Later W w') :
    Calls Try.prog 84 #[.pointer (some ⟨bw, 0, none⟩), .func (.func 85) #[] #[.pointer (some ⟨q1, 0, none⟩), .pointer (some ⟨q2, 0, none⟩)]] w fun e w' => e = .returned (.int .i64 (vP p tr)) ∧ Later w w' := by
  have hl := hw.rd.len
  subst hl
  have t5 := hw.cells 5
  simp only [List.getElem?_toArray, List.getElem?_cons_zero, List.getElem?_cons_succ] at t5
  have HW := hide hw
  have HF := hide Hfn
  have Hvp : Hid (vP p tr = if tr.any (fun d => !p d) = false then 1 else if tr.any p = false then 2 else 3) := rfl
  clear hw Hfn
  go_enter Try.func84, Try.ntmps84
  go_wp2_with fail
  clear t5
  go_loopw [5, 6, 8, 9, 15] (fun v u _ _ i wr => ∃ j : Nat, j ≤ tr.length ∧ i = .int .i64 j ∧ v = .bool ((tr.take j).any p) ∧ u = .bool ((tr.take j).any fun d => !p d) ∧ Later w wr) (fun _ _ _ _ i _ => tr.length - (intOf i).toNat)
  case atStart => exact ⟨0, Nat.zero_le _, rfl, by simp, by simp, later_refl _⟩
  case round =>
    obtain ⟨j, hj, rfl, rfl, rfl, hL⟩ := hrel
    by_cases hlt : j < tr.length
    · obtain ⟨bb, oo, d, f0, f1, f2, f3, rfl, _, hd, Hp, y0, y1, y2, y3⟩ := HW.out.rd.get hlt
      have hdm := List.mem_of_getElem? hd
      have Ha := hide (any_take (p := p) hd)
      have Hb := hide (any_take (p := fun d => !p d) hd)
      have hi1 : (j : Int) < tr.length := by omega
      have y0 := y0 _ hL
      have y1 := y1 _ hL
      have y2 := y2 _ hL
      have y3 := y3 _ hL
      obtain ⟨Wb, hWb⟩ : ∃ X, X = wr.alloc (.cells #[.int .i64 f0, .int .i64 f1, .int .i64 f2, .int .i64 f3] 117) := ⟨_, rfl⟩
      have hbd := box_cells wr #[.int .i64 f0, .int .i64 f1, .int .i64 f2, .int .i64 f3] 117
      have hLb : Later wr Wb := by rw [hWb]; exact later_alloc (later_refl _) _
      rw [← hWb] at hbd
      have HWb := hide hWb
      have d0' := hbd _ (later_refl _) 0
      have d1' := hbd _ (later_refl _) 1
      have d2' := hbd _ (later_refl _) 2
      have d3' := hbd _ (later_refl _) 3
      simp only [List.getElem?_toArray, List.getElem?_cons_zero, List.getElem?_cons_succ] at d0' d1' d2' d3'
      have hLw := Later.trans hL hLb
      have Hc := hide (HF.out Wb hLw d hdm _ _ _ _ Hp)
      generalize p d = b at *
      generalize (tr.take j).any p = s at *
      generalize ((tr.take j).any fun d => !p d) = u at *
      clear hWb hbd hd
      go_upto_region 5 with fail
      rw [← HWb.out]
      clear HWb y0 y1 y2 y3
      go_wp2_with fail
      refine Hc.out.mono ?_
      rintro e w3 ⟨rfl, hL3⟩
      have hL03 := Later.trans hLw hL3
      clear d0' d1' d2' d3' Hc hLb hLw hL3 hL
      cases b <;> cases s <;> cases u <;>
        (go_wp2_with fail
         go_roundw
         case rel => exact ⟨j + 1, by omega, by go_num, by rw [Ha.out]; rfl, by rw [Hb.out]; rfl, hL03⟩
         case measure => simp [intOf]; omega)
    · have hfin : tr.take j = tr := List.take_of_length_le (by omega)
      rw [hfin]
      generalize tr.any p = s at *
      generalize (tr.any fun d => !p d) = u at *
      clear hfin
      cases u with
      | false =>
        have Hv : Hid (vP p tr = 1) := Hvp.out
        clear Hvp
        go_wp2_with fail
        go_ret
        exact ⟨ret_int Hv.out.symm, hL⟩
      | true =>
        cases s with
        | false =>
          have Hv : Hid (vP p tr = 2) := Hvp.out
          clear Hvp
          go_wp2_with fail
          go_ret
          exact ⟨ret_int Hv.out.symm, hL⟩
        | true =>
          have Hv : Hid (vP p tr = 3) := Hvp.out
          clear Hvp
          go_wp2_with fail
          go_ret
          exact ⟨ret_int Hv.out.symm, hL⟩
set_option maxRecDepth 100000 in
set_option maxHeartbeats 1000000 in
theorem verdict_clash_calls {q1 q2 q3 : Nat} (p : List Int → Bool) (w : World) (hw : WK w bw c A1 n1 k1 A2 n2 k2 A3 n3 k3 At nt kt tr bm) (hnt : nt ≤ 1000000)
    (Hfn : ∀ W, Later w W → ∀ d ∈ tr, ∀ e0 e1 e2 e3, Hid (pad4 d = [e0, e1, e2, e3]) → Calls Try.prog 90 #[.agg #[.int .i64 e0, .int .i64 e1, .int .i64 e2, .int .i64 e3], .pointer (some ⟨q1, 0, none⟩), .pointer (some ⟨q2, 0, none⟩), .pointer (some ⟨q3, 0, none⟩)] W fun e w' => e = .returned (.bool (p d)) ∧ Later W w') :
    Calls Try.prog 84 #[.pointer (some ⟨bw, 0, none⟩), .func (.func 90) #[] #[.pointer (some ⟨q1, 0, none⟩), .pointer (some ⟨q2, 0, none⟩), .pointer (some ⟨q3, 0, none⟩)]] w fun e w' => e = .returned (.int .i64 (vP p tr)) ∧ Later w w' := by
  have hl := hw.rd.len
  subst hl
  have t5 := hw.cells 5
  simp only [List.getElem?_toArray, List.getElem?_cons_zero, List.getElem?_cons_succ] at t5
  have HW := hide hw
  have HF := hide Hfn
  have Hvp : Hid (vP p tr = if tr.any (fun d => !p d) = false then 1 else if tr.any p = false then 2 else 3) := rfl
  clear hw Hfn
  go_enter Try.func84, Try.ntmps84
  go_wp2_with fail
  clear t5
  go_loopw [5, 6, 8, 9, 15] (fun v u _ _ i wr => ∃ j : Nat, j ≤ tr.length ∧ i = .int .i64 j ∧ v = .bool ((tr.take j).any p) ∧ u = .bool ((tr.take j).any fun d => !p d) ∧ Later w wr) (fun _ _ _ _ i _ => tr.length - (intOf i).toNat)
  case atStart => exact ⟨0, Nat.zero_le _, rfl, by simp, by simp, later_refl _⟩
  case round =>
    obtain ⟨j, hj, rfl, rfl, rfl, hL⟩ := hrel
    by_cases hlt : j < tr.length
    · obtain ⟨bb, oo, d, f0, f1, f2, f3, rfl, _, hd, Hp, y0, y1, y2, y3⟩ := HW.out.rd.get hlt
      have hdm := List.mem_of_getElem? hd
      have Ha := hide (any_take (p := p) hd)
      have Hb := hide (any_take (p := fun d => !p d) hd)
      have hi1 : (j : Int) < tr.length := by omega
      have y0 := y0 _ hL
      have y1 := y1 _ hL
      have y2 := y2 _ hL
      have y3 := y3 _ hL
      obtain ⟨Wb, hWb⟩ : ∃ X, X = wr.alloc (.cells #[.int .i64 f0, .int .i64 f1, .int .i64 f2, .int .i64 f3] 117) := ⟨_, rfl⟩
      have hbd := box_cells wr #[.int .i64 f0, .int .i64 f1, .int .i64 f2, .int .i64 f3] 117
      have hLb : Later wr Wb := by rw [hWb]; exact later_alloc (later_refl _) _
      rw [← hWb] at hbd
      have HWb := hide hWb
      have d0' := hbd _ (later_refl _) 0
      have d1' := hbd _ (later_refl _) 1
      have d2' := hbd _ (later_refl _) 2
      have d3' := hbd _ (later_refl _) 3
      simp only [List.getElem?_toArray, List.getElem?_cons_zero, List.getElem?_cons_succ] at d0' d1' d2' d3'
      have hLw := Later.trans hL hLb
      have Hc := hide (HF.out Wb hLw d hdm _ _ _ _ Hp)
      generalize p d = b at *
      generalize (tr.take j).any p = s at *
      generalize ((tr.take j).any fun d => !p d) = u at *
      clear hWb hbd hd
      go_upto_region 5 with fail
      rw [← HWb.out]
      clear HWb y0 y1 y2 y3
      go_wp2_with fail
      refine Hc.out.mono ?_
      rintro e w3 ⟨rfl, hL3⟩
      have hL03 := Later.trans hLw hL3
      clear d0' d1' d2' d3' Hc hLb hLw hL3 hL
      cases b <;> cases s <;> cases u <;>
        (go_wp2_with fail
         go_roundw
         case rel => exact ⟨j + 1, by omega, by go_num, by rw [Ha.out]; rfl, by rw [Hb.out]; rfl, hL03⟩
         case measure => simp [intOf]; omega)
    · have hfin : tr.take j = tr := List.take_of_length_le (by omega)
      rw [hfin]
      generalize tr.any p = s at *
      generalize (tr.any fun d => !p d) = u at *
      clear hfin
      cases u with
      | false =>
        have Hv : Hid (vP p tr = 1) := Hvp.out
        clear Hvp
        go_wp2_with fail
        go_ret
        exact ⟨ret_int Hv.out.symm, hL⟩
      | true =>
        cases s with
        | false =>
          have Hv : Hid (vP p tr = 2) := Hvp.out
          clear Hvp
          go_wp2_with fail
          go_ret
          exact ⟨ret_int Hv.out.symm, hL⟩
        | true =>
          have Hv : Hid (vP p tr = 3) := Hvp.out
          clear Hvp
          go_wp2_with fail
          go_ret
          exact ⟨ret_int Hv.out.symm, hL⟩
set_option maxRecDepth 100000 in
set_option maxHeartbeats 1000000 in
theorem verdict_paid_calls (p : List Int → Bool) (w : World) (hw : WK w bw c A1 n1 k1 A2 n2 k2 A3 n3 k3 At nt kt tr bm) (hnt : nt ≤ 1000000)
    (Hfn : ∀ W, Later w W → ∀ d ∈ tr, ∀ e0 e1 e2 e3, Hid (pad4 d = [e0, e1, e2, e3]) → Calls Try.prog 87 #[.pointer (some ⟨bw, 0, none⟩), .agg #[.int .i64 e0, .int .i64 e1, .int .i64 e2, .int .i64 e3]] W fun e w' => e = .returned (.bool (p d)) ∧ Later W w') :
    Calls Try.prog 84 #[.pointer (some ⟨bw, 0, none⟩), .func (.func 87) #[.pointer (some ⟨bw, 0, none⟩)] #[]] w fun e w' => e = .returned (.int .i64 (vP p tr)) ∧ Later w w' := by
  have hl := hw.rd.len
  subst hl
  have t5 := hw.cells 5
  simp only [List.getElem?_toArray, List.getElem?_cons_zero, List.getElem?_cons_succ] at t5
  have HW := hide hw
  have HF := hide Hfn
  have Hvp : Hid (vP p tr = if tr.any (fun d => !p d) = false then 1 else if tr.any p = false then 2 else 3) := rfl
  clear hw Hfn
  go_enter Try.func84, Try.ntmps84
  go_wp2_with fail
  clear t5
  go_loopw [5, 6, 8, 9, 15] (fun v u _ _ i wr => ∃ j : Nat, j ≤ tr.length ∧ i = .int .i64 j ∧ v = .bool ((tr.take j).any p) ∧ u = .bool ((tr.take j).any fun d => !p d) ∧ Later w wr) (fun _ _ _ _ i _ => tr.length - (intOf i).toNat)
  case atStart => exact ⟨0, Nat.zero_le _, rfl, by simp, by simp, later_refl _⟩
  case round =>
    obtain ⟨j, hj, rfl, rfl, rfl, hL⟩ := hrel
    by_cases hlt : j < tr.length
    · obtain ⟨bb, oo, d, f0, f1, f2, f3, rfl, _, hd, Hp, y0, y1, y2, y3⟩ := HW.out.rd.get hlt
      have hdm := List.mem_of_getElem? hd
      have Ha := hide (any_take (p := p) hd)
      have Hb := hide (any_take (p := fun d => !p d) hd)
      have hi1 : (j : Int) < tr.length := by omega
      have y0 := y0 _ hL
      have y1 := y1 _ hL
      have y2 := y2 _ hL
      have y3 := y3 _ hL
      obtain ⟨Wb, hWb⟩ : ∃ X, X = wr.alloc (.cells #[.int .i64 f0, .int .i64 f1, .int .i64 f2, .int .i64 f3] 117) := ⟨_, rfl⟩
      have hbd := box_cells wr #[.int .i64 f0, .int .i64 f1, .int .i64 f2, .int .i64 f3] 117
      have hLb : Later wr Wb := by rw [hWb]; exact later_alloc (later_refl _) _
      rw [← hWb] at hbd
      have HWb := hide hWb
      have d0' := hbd _ (later_refl _) 0
      have d1' := hbd _ (later_refl _) 1
      have d2' := hbd _ (later_refl _) 2
      have d3' := hbd _ (later_refl _) 3
      simp only [List.getElem?_toArray, List.getElem?_cons_zero, List.getElem?_cons_succ] at d0' d1' d2' d3'
      have hLw := Later.trans hL hLb
      have Hc := hide (HF.out Wb hLw d hdm _ _ _ _ Hp)
      generalize p d = b at *
      generalize (tr.take j).any p = s at *
      generalize ((tr.take j).any fun d => !p d) = u at *
      clear hWb hbd hd
      go_upto_region 5 with fail
      rw [← HWb.out]
      clear HWb y0 y1 y2 y3
      go_wp2_with fail
      refine Hc.out.mono ?_
      rintro e w3 ⟨rfl, hL3⟩
      have hL03 := Later.trans hLw hL3
      clear d0' d1' d2' d3' Hc hLb hLw hL3 hL
      cases b <;> cases s <;> cases u <;>
        (go_wp2_with fail
         go_roundw
         case rel => exact ⟨j + 1, by omega, by go_num, by rw [Ha.out]; rfl, by rw [Hb.out]; rfl, hL03⟩
         case measure => simp [intOf]; omega)
    · have hfin : tr.take j = tr := List.take_of_length_le (by omega)
      rw [hfin]
      generalize tr.any p = s at *
      generalize (tr.any fun d => !p d) = u at *
      clear hfin
      cases u with
      | false =>
        have Hv : Hid (vP p tr = 1) := Hvp.out
        clear Hvp
        go_wp2_with fail
        go_ret
        exact ⟨ret_int Hv.out.symm, hL⟩
      | true =>
        cases s with
        | false =>
          have Hv : Hid (vP p tr = 2) := Hvp.out
          clear Hvp
          go_wp2_with fail
          go_ret
          exact ⟨ret_int Hv.out.symm, hL⟩
        | true =>
          have Hv : Hid (vP p tr = 3) := Hvp.out
          clear Hvp
          go_wp2_with fail
          go_ret
          exact ⟨ret_int Hv.out.symm, hL⟩
end
end Go.Proofs.Ytbkfnajpbhfneaa

/- The program's Long, Clash, Paid: walks. -/
namespace Go.Proofs.Ytbkfnajpbhfneaa
open Go Go.RowKit
attribute [local go_sem] later_alloc2 later_alloc3 later_alloc4

section
variable {A1 A2 A3 At : Option Addr} {n1 k1 n2 k2 n3 k3 nt kt bw bm : Nat} {c : Hou} {tr : List (List Int)}
set_option maxRecDepth 100000 in
theorem Long1_calls {d : List Int} {e0 e1 e2 e3 : Int} {q1 q2 i : Nat} (w : World) (hw : WK w bw c A1 n1 k1 A2 n2 k2 A3 n3 k3 At nt kt tr bm) (ok : OkH c) (hd : IsErr c d) (hp : pad4 d = [e0, e1, e2, e3]) (hi : i < n2)
    (h1 : w.cell? ⟨q1, 0, none⟩ = some (.pointer (some ⟨bw, 0, none⟩))) (h2 : w.cell? ⟨q2, 0, none⟩ = some (.int .i64 (i : Int))) :
    Calls Try.prog 85 #[.agg #[.int .i64 e0, .int .i64 e1, .int .i64 e2, .int .i64 e3], .pointer (some ⟨q1, 0, none⟩), .pointer (some ⟨q2, 0, none⟩)] w fun e w' => e = .returned (.bool (isLong c d i)) ∧ Later w w' := by
  obtain ⟨b, hb⟩ : ∃ b, isLong c d i = b := ⟨_, rfl⟩
  have hl := fun W (h : Later w W) => long_eq hb W (hw.later h) ok hd hp hi
  have Hl := hide hl
  have Hb := hide hb
  clear hl hb
  obtain ⟨w0, hw0⟩ : ∃ X, X = w.alloc (.cells #[.int .i64 e0, .int .i64 e1, .int .i64 e2, .int .i64 e3] 117) := ⟨_, rfl⟩
  have hbx := box_cells w #[.int .i64 e0, .int .i64 e1, .int .i64 e2, .int .i64 e3] 117
  rw [← hw0] at hbx
  have hL0 : Later w w0 := by rw [hw0]; exact later_alloc (later_refl _) _
  have b0 := hbx _ (later_refl _) 0
  have b1 := hbx _ (later_refl _) 1
  have b2 := hbx _ (later_refl _) 2
  have b3 := hbx _ (later_refl _) 3
  simp only [List.getElem?_toArray, List.getElem?_cons_zero, List.getElem?_cons_succ] at b0 b1 b2 b3
  have Hw0 := hide hw0
  have h1' := (Below.cell hL0 (p := ⟨q1, 0, none⟩) (World.block_lt_of_cell? _ _ h1)).trans h1
  have h2' := (Below.cell hL0 (p := ⟨q2, 0, none⟩) (World.block_lt_of_cell? _ _ h2)).trans h2
  clear hw0 hbx h1 h2
  go_enter Try.func85, Try.ntmps85
  go_upto_region 1 with fail
  rw [← Hw0.out]; clear Hw0
  go_wp2_with fail
  refine (Hl.out _ hL0).mono ?_
  rintro e w1 ⟨rfl, hL1⟩
  go_wp2_with fail
  go_ret
  exact ⟨ret_bool Hb.out.symm, Later.trans hL0 hL1⟩
set_option maxRecDepth 100000 in
theorem Clash1_calls {d : List Int} {e0 e1 e2 e3 : Int} {q1 q2 q3 i o : Nat} (w : World) (hw : WK w bw c A1 n1 k1 A2 n2 k2 A3 n3 k3 At nt kt tr bm) (ok : OkH c) (hd : IsErr c d) (hp : pad4 d = [e0, e1, e2, e3]) (hi : i < n2) (ho : o < n2)
    (h1 : w.cell? ⟨q1, 0, none⟩ = some (.pointer (some ⟨bw, 0, none⟩))) (h2 : w.cell? ⟨q2, 0, none⟩ = some (.int .i64 (i : Int))) (h3 : w.cell? ⟨q3, 0, none⟩ = some (.int .i64 (o : Int))) :
    Calls Try.prog 90 #[.agg #[.int .i64 e0, .int .i64 e1, .int .i64 e2, .int .i64 e3], .pointer (some ⟨q1, 0, none⟩), .pointer (some ⟨q2, 0, none⟩), .pointer (some ⟨q3, 0, none⟩)] w fun e w' => e = .returned (.bool (clashB c d i o)) ∧ Later w w' := by
  obtain ⟨b, hb⟩ : ∃ b, clashB c d i o = b := ⟨_, rfl⟩
  have hl := fun W (h : Later w W) => clash_eq hb W (hw.later h) ok hd hp hi ho
  have Hl := hide hl
  have Hb := hide hb
  clear hl hb
  obtain ⟨w0, hw0⟩ : ∃ X, X = w.alloc (.cells #[.int .i64 e0, .int .i64 e1, .int .i64 e2, .int .i64 e3] 117) := ⟨_, rfl⟩
  have hbx := box_cells w #[.int .i64 e0, .int .i64 e1, .int .i64 e2, .int .i64 e3] 117
  rw [← hw0] at hbx
  have hL0 : Later w w0 := by rw [hw0]; exact later_alloc (later_refl _) _
  have b0 := hbx _ (later_refl _) 0
  have b1 := hbx _ (later_refl _) 1
  have b2 := hbx _ (later_refl _) 2
  have b3 := hbx _ (later_refl _) 3
  simp only [List.getElem?_toArray, List.getElem?_cons_zero, List.getElem?_cons_succ] at b0 b1 b2 b3
  have Hw0 := hide hw0
  have h1' := (Below.cell hL0 (p := ⟨q1, 0, none⟩) (World.block_lt_of_cell? _ _ h1)).trans h1
  have h2' := (Below.cell hL0 (p := ⟨q2, 0, none⟩) (World.block_lt_of_cell? _ _ h2)).trans h2
  have h3' := (Below.cell hL0 (p := ⟨q3, 0, none⟩) (World.block_lt_of_cell? _ _ h3)).trans h3
  clear hw0 hbx h1 h2 h3
  go_enter Try.func90, Try.ntmps90
  go_upto_region 1 with fail
  rw [← Hw0.out]; clear Hw0
  go_wp2_with fail
  refine (Hl.out _ hL0).mono ?_
  rintro e w1 ⟨rfl, hL1⟩
  go_wp2_with fail
  go_ret
  exact ⟨ret_bool Hb.out.symm, Later.trans hL0 hL1⟩
end
/-- a list of numbers, and an error -/
def IntsPost (l : List Int) (q : Int) (w : World) (e : Ending) (w' : World) : Prop :=
  ∃ A n k, e = .returned (.tuple #[.slice A n k, .int .i64 q]) ∧ Later w w' ∧ RI w' A n l
set_option maxRecDepth 100000 in
set_option maxHeartbeats 1000000 in
theorem LongP_calls {A1 A2 A3 : Option Addr} {n1 k1 n2 k2 n3 k3 : Nat} {c : Hou} (w : World) (hc : CV w c A1 n1 A2 n2 A3 n3) (hn1 : n1 ≤ 1000) (hn2 : n2 ≤ 1000) (hn3 : n3 ≤ 1000) :
    Calls Try.prog 31 #[(.agg #[.int .i64 c.hour, .int .i64 c.grace, .slice A1 n1 k1, .slice A2 n2 k2, .slice A3 n3 k3])] w (IntsPost (longOut c) (askedErr c 0) w) := by
  obtain ⟨w0, hw0⟩ : ∃ W, W = (w.alloc (.cells #[.int .i64 c.hour, .int .i64 c.grace, .slice A1 n1 k1, .slice A2 n2 k2, .slice A3 n3 k3] 36)) := ⟨_, rfl⟩; have hbox : ∀ W, Later w0 W → ∀ i, W.cell? ⟨w.heap.size, i, none⟩ = #[.int .i64 c.hour, .int .i64 c.grace, .slice A1 n1 k1, .slice A2 n2 k2, .slice A3 n3 k3][i]? := (by rw [hw0]; exact box_cells w #[.int .i64 c.hour, .int .i64 c.grace, .slice A1 n1 k1, .slice A2 n2 k2, .slice A3 n3 k3] 36); have hL0 : Later w w0 := (by rw [hw0]; simp); have hc0 := hc.later hL0; have Hw0 := hide hw0; clear hw0
  by_cases he : askedErr c 0 = 0
  · obtain ⟨hf, _, htn⟩ := askedErr_zero he
    have ok := okH_of_fault hf
    have htl := truthsP_len hf
    have herr := truthsP_isErr ok
    have hnl := hc.tk.len
    have hn6 : n2 ≤ 6 := by have := ok.n2; omega
    have Hso : Hid (longOut c = (List.range n2).map fun i => vP (longF c i) (truthsP c)) := by show _ = _; unfold longOut; rw [if_pos he, hnl]
    rw [he]
    have Hhe := hide he
    clear hf he hnl
    go_enter Try.func31, Try.ntmps31
    go_wp2_with fail
    rw [← Hw0.out]; clear Hw0
    refine (asked_ok w0 hc0 hn1 hn2 hn3 Hhe.out).mono ?_
    rintro e w1 ⟨bw, bm, At, kt, rfl, hL1, hWK1⟩
    obtain ⟨w2, hw2⟩ : ∃ X, X = w1.alloc (.cells #[.pointer (some ⟨bw, 0, none⟩)] 105) := ⟨_, rfl⟩
    have hb2 := box_cells w1 #[.pointer (some ⟨bw, 0, none⟩)] 105
    rw [← hw2] at hb2
    have hL12 : Later w1 w2 := by rw [hw2]; exact later_alloc (later_refl _) _
    have hWK := hWK1.later hL12
    have hL2 := Later.trans hL1 hL12
    have hb20 := fun W (h : Later w2 W) => hb2 W h 0
    have Hbf := hide (fun (W : World) (h : Later w2 W) (i : Nat) (hi : i < n2) (q2 : Nat) (hq2 : ∀ W', Later W W' → W'.cell? ⟨q2, 0, none⟩ = some (.int .i64 (i : Int))) => verdict_long_calls (q1 := w1.heap.size) (q2 := q2) (longF c i) W (hWK.later h) (by omega) (fun W' hW' d hd e0 e1 e2 e3 hp => Long1_calls W' (hWK.later (Later.trans h hW')) ok (herr d hd) hp.out hi (hb20 W' (Later.trans h hW')) (hq2 W' hW')))
    have b3 := fun W (h : Later w2 W) => hbox W (Later.trans hL2 h) 3
    simp only [List.getElem?_toArray, List.getElem?_cons_zero, List.getElem?_cons_succ] at b3 hb20
    have Hw2 := hide hw2
    clear hw2 hb2
    go_upto_region 2 with fail
    rw [← Hw2.out]
    go_wp2_with fail
    go_loopw [19, 6, 7] (fun i v _ wr => ∃ j : Nat, j ≤ n2 ∧ i = .int .i64 j ∧ wr.ownsRow w2.heap.size 3 1 v j (ints ((List.range j).map fun i => vP (longF c i) (truthsP c))) ∧ Later w2 wr) (fun i _ _ _ => n2 - (intOf i).toNat)
    case atStart => exact ⟨0, Nat.zero_le _, rfl, World.ownsRow_nil _ _ _ _, later_refl _⟩
    case round =>
      obtain ⟨j, hj, rfl, hown, hL⟩ := hrel
      by_cases hlt : j < n2
      · have hi1 : (j : Int) < n2 := by omega
        obtain ⟨w3, hw3⟩ : ∃ X, X = wr.alloc (.cells #[.int .i64 (j : Int)] 3) := ⟨_, rfl⟩
        have hb3 := box_cells wr #[.int .i64 (j : Int)] 3
        rw [← hw3] at hb3
        have hLr3 : Later wr w3 := by rw [hw3]; exact later_alloc (later_refl _) _
        have hL03 := Later.trans hL hLr3
        have hbc := Hbf.out w3 hL03 j hlt wr.heap.size (fun W h => hb3 W h 0)
        have hbw := hb20 _ hL03
        have hsu : ((List.range (j + 1)).map fun i => vP (longF c i) (truthsP c)) = ((List.range j).map fun i => vP (longF c i) (truthsP c)) ++ [vP (longF c j) (truthsP c)] := range_map_succ _ j
        obtain ⟨g, hg⟩ : ∃ q, vP (longF c j) (truthsP c) = q := ⟨_, rfl⟩
        rw [hg] at hbc hsu
        generalize ((List.range j).map fun i => vP (longF c i) (truthsP c)) = ls at *
        have Hbc := hide hbc
        have Hsu := hide hsu
        have Hw3 := hide hw3
        have hown3 := own_later2 hown hLr3
        clear hbc hsu hg hw3 hb3
        go_upto_region 8 with fail
        rw [← Hw3.out]
        go_wp2_with fail
        refine Hbc.out.mono ?_
        rintro e w4 ⟨rfl, hL4⟩
        have hown4 := own_later2 hown3 hL4
        have hL24 := Later.trans hL03 hL4
        have hj6 : j ≤ 1000000 := by omega
        go_wp2_with (at_builtin; go_must (refine own_append (w0 := w2) (W := w4) (te := 3) rfl _ _ 47 rfl 3 (.int .i64 0) 1 8 Try.underlying47 int_info rfl (by omega) u6 j (ints ls) rfl hL24 hown4 [.int .i64 g] rfl rfl ?_ hj6 (by omega) ?_; (simp [Value.oneCell']); intro v' w5 hap; have hown5 := hap.own; have hL5 := hap.later; clear hap))
        go_roundw
        case rel =>
          refine ⟨j + 1, by omega, by go_num, ?_, hL5⟩
          rw [Hsu.out, ints_snoc_]; exact hown5
        case measure => simp [intOf]; omega
      · have hj1 : j = n2 := by omega
        subst hj1
        obtain ⟨A, k, rfl, hrd⟩ := own_slice hown
        go_wp2_with fail
        refine bodyPost_ret (v := .tuple #[.slice A j k, .int .i64 0]) ?_ rfl ⟨A, j, k, rfl, Later.trans hL0 (Later.trans hL2 hL), by rw [Hso.out]; exact hrd⟩
        simp [results, Try.results31, go_sem]
  · have Hso : Hid (longOut c = []) := by show _ = _; unfold longOut; rw [if_neg he]
    obtain ⟨q, hq⟩ : ∃ q, askedErr c 0 = q := ⟨_, rfl⟩
    rw [hq] at he ⊢
    have hqb : (q != 0) = true := by simpa using he
    have hqb2 : (q == 0) = false := by simpa using he
    have Hq := hide hq
    clear hq
    go_enter Try.func31, Try.ntmps31
    go_wp2_with fail
    rw [← Hw0.out]; clear Hw0
    refine (asked_err w0 hc0 hn1 hn2 hn3 Hq.out he).mono ?_
    rintro e w1 ⟨rfl, hL1⟩
    go_wp2_with fail
    refine bodyPost_ret (v := .tuple #[.slice none 0 0, .int .i64 q]) ?_ rfl ⟨none, 0, 0, rfl, Later.trans hL0 (later_alloc hL1 _), by rw [Hso.out]; exact RI.nil⟩
    simp [results, Try.results31, go_sem]
set_option maxRecDepth 100000 in
set_option maxHeartbeats 1000000 in
theorem PaidP_calls {A1 A2 A3 : Option Addr} {n1 k1 n2 k2 n3 k3 : Nat} {c : Hou} (w : World) (hc : CV w c A1 n1 A2 n2 A3 n3) (hn1 : n1 ≤ 1000) (hn2 : n2 ≤ 1000) (hn3 : n3 ≤ 1000) :
    Calls Try.prog 32 #[(.agg #[.int .i64 c.hour, .int .i64 c.grace, .slice A1 n1 k1, .slice A2 n2 k2, .slice A3 n3 k3])] w fun e w' => e = .returned (.tuple #[.int .i64 (paidOut c), .int .i64 (askedErr c 0)]) ∧ Later w w' := by
  obtain ⟨w0, hw0⟩ : ∃ W, W = (w.alloc (.cells #[.int .i64 c.hour, .int .i64 c.grace, .slice A1 n1 k1, .slice A2 n2 k2, .slice A3 n3 k3] 36)) := ⟨_, rfl⟩; have hbox : ∀ W, Later w0 W → ∀ i, W.cell? ⟨w.heap.size, i, none⟩ = #[.int .i64 c.hour, .int .i64 c.grace, .slice A1 n1 k1, .slice A2 n2 k2, .slice A3 n3 k3][i]? := (by rw [hw0]; exact box_cells w #[.int .i64 c.hour, .int .i64 c.grace, .slice A1 n1 k1, .slice A2 n2 k2, .slice A3 n3 k3] 36); have hL0 : Later w w0 := (by rw [hw0]; simp); have hc0 := hc.later hL0; have Hw0 := hide hw0; clear hw0
  by_cases he : askedErr c 0 = 0
  · obtain ⟨hf, _, htn⟩ := askedErr_zero he
    have ok := okH_of_fault hf
    have htl := truthsP_len hf
    have herr := truthsP_isErr ok
    obtain ⟨g, hg⟩ : ∃ g, vP (isPaid c) (truthsP c) = g := ⟨_, rfl⟩
    have Hso : Hid (paidOut c = g) := by show _ = _; unfold paidOut; rw [if_pos he, hg]
    rw [he]
    have Hhe := hide he
    have Hg := hide hg
    clear hf he hg
    go_enter Try.func32, Try.ntmps32
    go_wp2_with fail
    rw [← Hw0.out]; clear Hw0
    refine (asked_ok w0 hc0 hn1 hn2 hn3 Hhe.out).mono ?_
    rintro e w1 ⟨bw, bm, At, kt, rfl, hL1, hWK⟩
    have hv := verdict_paid_calls (isPaid c) w1 hWK (by omega) (fun W' hW' d hd e0 e1 e2 e3 hp => paid_calls W' (hWK.later hW') ok (herr d hd) hp.out)
    rw [Hg.out] at hv
    have Hv := hide hv
    clear hv Hg
    go_wp2_with fail
    refine Hv.out.mono ?_
    rintro e w2 ⟨rfl, hL2⟩
    go_wp2_with fail
    refine bodyPost_ret (v := .tuple #[.int .i64 g, .int .i64 0]) ?_ rfl ⟨by rw [Hso.out], Later.trans hL0 (Later.trans hL1 hL2)⟩
    simp [results, Try.results32, go_sem]
  · have Hso : Hid (paidOut c = 0) := by show _ = _; unfold paidOut; rw [if_neg he]
    obtain ⟨q, hq⟩ : ∃ q, askedErr c 0 = q := ⟨_, rfl⟩
    rw [hq] at he ⊢
    have hqb : (q != 0) = true := by simpa using he
    have hqb2 : (q == 0) = false := by simpa using he
    have Hq := hide hq
    clear hq
    go_enter Try.func32, Try.ntmps32
    go_wp2_with fail
    rw [← Hw0.out]; clear Hw0
    refine (asked_err w0 hc0 hn1 hn2 hn3 Hq.out he).mono ?_
    rintro e w1 ⟨rfl, hL1⟩
    go_wp2_with fail
    refine bodyPost_ret (v := .tuple #[.int .i64 0, .int .i64 q]) ?_ rfl ⟨by rw [Hso.out], Later.trans hL0 hL1⟩
    simp [results, Try.results32, go_sem]
end Go.Proofs.Ytbkfnajpbhfneaa

/- The program's Clash: walk. -/
namespace Go.Proofs.Ytbkfnajpbhfneaa
open Go Go.RowKit
attribute [local go_sem] later_alloc2 later_alloc3 later_alloc4

theorem askedErr_ne {c : Hou} {due : Int} (h : due ≠ 0) : askedErr c due ≠ 0 := fun e => h (askedErr_zero e).2.1
set_option maxRecDepth 100000 in
set_option maxHeartbeats 1000000 in
theorem ClashP_calls {A1 A2 A3 : Option Addr} {n1 k1 n2 k2 n3 k3 : Nat} {c : Hou} {a b : Int} (w : World) (hc : CV w c A1 n1 A2 n2 A3 n3) (hn1 : n1 ≤ 1000) (hn2 : n2 ≤ 1000) (hn3 : n3 ≤ 1000) :
    Calls Try.prog 35 #[(.agg #[.int .i64 c.hour, .int .i64 c.grace, .slice A1 n1 k1, .slice A2 n2 k2, .slice A3 n3 k3]), .int .i64 a, .int .i64 b] w fun e w' => e = .returned (.tuple #[.int .i64 (clashOut c a b), .int .i64 (askedErr c (clashDue c a b))]) ∧ Later w w' := by
  obtain ⟨w0, hw0⟩ : ∃ X, X = (((w.alloc (.cells #[.int .i64 c.hour, .int .i64 c.grace, .slice A1 n1 k1, .slice A2 n2 k2, .slice A3 n3 k3] 36))).alloc (.cells #[.int .i64 a] 3)).alloc (.cells #[.int .i64 b] 3) := ⟨_, rfl⟩
  have hL0 : Later w w0 := by rw [hw0]; exact later_alloc (later_alloc (later_alloc (later_refl _) _) _) _
  have k0 : Blk w0 w.heap.size 36 #[.int .i64 c.hour, .int .i64 c.grace, .slice A1 n1 k1, .slice A2 n2 k2, .slice A3 n3 k3] := by rw [hw0]; exact ((Blk.new _ _ _).alloc _).alloc _
  have k1' : Blk w0 (w.heap.size + 1) 3 #[.int .i64 a] := by
    have := Blk.new (w.alloc (.cells #[.int .i64 c.hour, .int .i64 c.grace, .slice A1 n1 k1, .slice A2 n2 k2, .slice A3 n3 k3] 36)) 3 #[.int .i64 a]
    rw [World.size_alloc] at this
    rw [hw0]; exact this.alloc _
  have k2' : Blk w0 (w.heap.size + 2) 3 #[.int .i64 b] := by
    have := Blk.new (((w.alloc (.cells #[.int .i64 c.hour, .int .i64 c.grace, .slice A1 n1 k1, .slice A2 n2 k2, .slice A3 n3 k3] 36))).alloc (.cells #[.int .i64 a] 3)) 3 #[.int .i64 b]
    rw [World.size_alloc, World.size_alloc] at this
    rw [hw0]; exact this
  have hbox := fun W (hW : Later w0 W) => (k0.later hW).cell
  have ha0 := fun W (hW : Later w0 W) => (k1'.later hW).cell 0
  have hb0 := fun W (hW : Later w0 W) => (k2'.later hW).cell 0
  simp only [List.getElem?_toArray, List.getElem?_cons_zero, List.getElem?_cons_succ] at ha0 hb0
  have hc0 := hc.later hL0
  have hnl := hc.tk.len
  have hta : isTick c a = inB a 0 ((n2 : Int) - 1) := by unfold isTick; rw [hnl]
  have htb : isTick c b = inB b 0 ((n2 : Int) - 1) := by unfold isTick; rw [hnl]
  have Hw0 := hide hw0
  clear hw0 k0 k1' k2' hnl
  cases h1 : isTick c a with
  | false =>
    have hd : clashDue c a b = 2 := by unfold clashDue; rw [if_pos (.inl h1)]
    have Hso : Hid (clashOut c a b = 0) := by show _ = _; unfold clashOut; rw [hd, if_neg (askedErr_ne (by omega))]
    rw [hd]
    have Ha := hide (hta.symm.trans h1)
    clear hd h1 hta htb
    have hne := askedErr_ne (c := c) (due := 2) (by omega)
    obtain ⟨q, hq⟩ : ∃ q, askedErr c 2 = q := ⟨_, rfl⟩
    rw [hq] at hne ⊢
    have hqb : (q != 0) = true := by simpa using hne
    have hqb2 : (q == 0) = false := by simpa using hne
    have Hq := hide hq
    clear hq
    go_enter Try.func35, Try.ntmps35
    go_upto_region 2 with fail
    rw [← Hw0.out]
    have e1 := hbox w0 (later_refl _)
    have c0 := e1 0
    have c1 := e1 1
    have c2 := e1 2
    have c3 := e1 3
    have c4 := e1 4
    simp only [List.getElem?_toArray, List.getElem?_cons_zero, List.getElem?_cons_succ] at c0 c1 c2 c3 c4
    have a0 := ha0 w0 (later_refl _)
    clear e1
    go_wp2_with fail
    refine (ticket_eq (k1 := k1) (k2 := k2) (k3 := k3) (A1 := A1) (A2 := A2) (A3 := A3) (n1 := n1) (n3 := n3) (c := c) Ha.out w0 (by omega)).mono ?_
    rintro e w1 ⟨rfl, hL1⟩
    have e2 := hbox w1 hL1
    have c0' := e2 0
    have c1' := e2 1
    have c2' := e2 2
    have c3' := e2 3
    have c4' := e2 4
    simp only [List.getElem?_toArray, List.getElem?_cons_zero, List.getElem?_cons_succ] at c0' c1' c2' c3' c4'
    have a1 := ha0 w1 hL1
    have b1 := hb0 w1 hL1
    clear e2
    go_wp2_with fail
    refine (asked_err (k1 := k1) (k2 := k2) (k3 := k3) _ (hc0.later hL1) hn1 hn2 hn3 Hq.out hne).mono ?_
    rintro e w5 ⟨rfl, hL5⟩
    go_wp2_with fail
    refine bodyPost_ret (v := .tuple #[.int .i64 0, .int .i64 q]) ?_ rfl ⟨by rw [Hso.out], Later.trans hL0 (Later.trans hL1 (later_alloc hL5 _))⟩
    simp [results, Try.results35, go_sem]
  | true =>
    have Ha := hide (hta.symm.trans h1)
    cases h2 : isTick c b with
    | false =>
      have hd : clashDue c a b = 2 := by unfold clashDue; rw [if_pos (.inr h2)]
      have Hso : Hid (clashOut c a b = 0) := by show _ = _; unfold clashOut; rw [hd, if_neg (askedErr_ne (by omega))]
      rw [hd]
      have Hb := hide (htb.symm.trans h2)
      clear hd h1 h2 hta htb
      have hne := askedErr_ne (c := c) (due := 2) (by omega)
      obtain ⟨q, hq⟩ : ∃ q, askedErr c 2 = q := ⟨_, rfl⟩
      rw [hq] at hne ⊢
      have hqb : (q != 0) = true := by simpa using hne
      have hqb2 : (q == 0) = false := by simpa using hne
      have Hq := hide hq
      clear hq
      go_enter Try.func35, Try.ntmps35
      go_upto_region 2 with fail
      rw [← Hw0.out]
      have e1 := hbox w0 (later_refl _)
      have c0 := e1 0
      have c1 := e1 1
      have c2 := e1 2
      have c3 := e1 3
      have c4 := e1 4
      simp only [List.getElem?_toArray, List.getElem?_cons_zero, List.getElem?_cons_succ] at c0 c1 c2 c3 c4
      have a0 := ha0 w0 (later_refl _)
      clear e1
      go_wp2_with fail
      refine (ticket_eq (k1 := k1) (k2 := k2) (k3 := k3) (A1 := A1) (A2 := A2) (A3 := A3) (n1 := n1) (n3 := n3) (c := c) Ha.out w0 (by omega)).mono ?_
      rintro e w1 ⟨rfl, hL1⟩
      have e2 := hbox w1 hL1
      have c0' := e2 0
      have c1' := e2 1
      have c2' := e2 2
      have c3' := e2 3
      have c4' := e2 4
      simp only [List.getElem?_toArray, List.getElem?_cons_zero, List.getElem?_cons_succ] at c0' c1' c2' c3' c4'
      have a1 := ha0 w1 hL1
      have b1 := hb0 w1 hL1
      clear e2
      go_wp2_with fail
      refine (ticket_eq (k1 := k1) (k2 := k2) (k3 := k3) (A1 := A1) (A2 := A2) (A3 := A3) (n1 := n1) (n3 := n3) (c := c) Hb.out w1 (by omega)).mono ?_
      rintro e w2 ⟨rfl, hL2⟩
      have hL02 := Later.trans hL1 hL2
      clear c0' c1' c2' c3' c4' a1 b1
      have e2 := hbox w2 hL02
      have c0' := e2 0
      have c1' := e2 1
      have c2' := e2 2
      have c3' := e2 3
      have c4' := e2 4
      simp only [List.getElem?_toArray, List.getElem?_cons_zero, List.getElem?_cons_succ] at c0' c1' c2' c3' c4'
      have a1 := ha0 w2 hL02
      have b1 := hb0 w2 hL02
      clear e2
      go_wp2_with fail
      refine (asked_err (k1 := k1) (k2 := k2) (k3 := k3) _ (hc0.later hL02) hn1 hn2 hn3 Hq.out hne).mono ?_
      rintro e w5 ⟨rfl, hL5⟩
      go_wp2_with fail
      refine bodyPost_ret (v := .tuple #[.int .i64 0, .int .i64 q]) ?_ rfl ⟨by rw [Hso.out], Later.trans hL0 (Later.trans hL02 (later_alloc hL5 _))⟩
      simp [results, Try.results35, go_sem]
    | true =>
      have Hb := hide (htb.symm.trans h2)
      by_cases hab : a = b
      · have hd : clashDue c a b = 6 := by unfold clashDue; rw [if_neg (by rw [h1, h2]; simp), if_pos hab]
        have Hso : Hid (clashOut c a b = 0) := by show _ = _; unfold clashOut; rw [hd, if_neg (askedErr_ne (by omega))]
        rw [hd]
        have hbb : (a == b) = true := by simpa using hab
        clear hd h1 h2 hta htb hab
        have hne := askedErr_ne (c := c) (due := 6) (by omega)
        obtain ⟨q, hq⟩ : ∃ q, askedErr c 6 = q := ⟨_, rfl⟩
        rw [hq] at hne ⊢
        have hqb : (q != 0) = true := by simpa using hne
        have hqb2 : (q == 0) = false := by simpa using hne
        have Hq := hide hq
        clear hq
        go_enter Try.func35, Try.ntmps35
        go_upto_region 2 with fail
        rw [← Hw0.out]
        have e1 := hbox w0 (later_refl _)
        have c0 := e1 0
        have c1 := e1 1
        have c2 := e1 2
        have c3 := e1 3
        have c4 := e1 4
        simp only [List.getElem?_toArray, List.getElem?_cons_zero, List.getElem?_cons_succ] at c0 c1 c2 c3 c4
        have a0 := ha0 w0 (later_refl _)
        clear e1
        go_wp2_with fail
        refine (ticket_eq (k1 := k1) (k2 := k2) (k3 := k3) (A1 := A1) (A2 := A2) (A3 := A3) (n1 := n1) (n3 := n3) (c := c) Ha.out w0 (by omega)).mono ?_
        rintro e w1 ⟨rfl, hL1⟩
        have e2 := hbox w1 hL1
        have c0' := e2 0
        have c1' := e2 1
        have c2' := e2 2
        have c3' := e2 3
        have c4' := e2 4
        simp only [List.getElem?_toArray, List.getElem?_cons_zero, List.getElem?_cons_succ] at c0' c1' c2' c3' c4'
        have a1 := ha0 w1 hL1
        have b1 := hb0 w1 hL1
        clear e2
        go_wp2_with fail
        refine (ticket_eq (k1 := k1) (k2 := k2) (k3 := k3) (A1 := A1) (A2 := A2) (A3 := A3) (n1 := n1) (n3 := n3) (c := c) Hb.out w1 (by omega)).mono ?_
        rintro e w2 ⟨rfl, hL2⟩
        have hL02 := Later.trans hL1 hL2
        clear c0' c1' c2' c3' c4' a1 b1
        have e2 := hbox w2 hL02
        have c0' := e2 0
        have c1' := e2 1
        have c2' := e2 2
        have c3' := e2 3
        have c4' := e2 4
        simp only [List.getElem?_toArray, List.getElem?_cons_zero, List.getElem?_cons_succ] at c0' c1' c2' c3' c4'
        have a1 := ha0 w2 hL02
        have b1 := hb0 w2 hL02
        clear e2
        go_wp2_with fail
        refine (asked_err (k1 := k1) (k2 := k2) (k3 := k3) _ (hc0.later hL02) hn1 hn2 hn3 Hq.out hne).mono ?_
        rintro e w5 ⟨rfl, hL5⟩
        go_wp2_with fail
        refine bodyPost_ret (v := .tuple #[.int .i64 0, .int .i64 q]) ?_ rfl ⟨by rw [Hso.out], Later.trans hL0 (Later.trans hL02 (later_alloc hL5 _))⟩
        simp [results, Try.results35, go_sem]
      · have hd : clashDue c a b = 0 := by unfold clashDue; rw [if_neg (by rw [h1, h2]; simp), if_neg hab]
        have hbb : (a == b) = false := by simpa using hab
        have hta2 : 0 ≤ a ∧ a ≤ (n2 : Int) - 1 := by have := Ha.out; unfold inB at this; simpa using this
        have htb2 : 0 ≤ b ∧ b ≤ (n2 : Int) - 1 := by have := Hb.out; unfold inB at this; simpa using this
        rw [hd]
        clear h1 h2 hta htb
        by_cases he : askedErr c 0 = 0
        · obtain ⟨hf, _, htn⟩ := askedErr_zero he
          have ok := okH_of_fault hf
          have htl := truthsP_len hf
          have herr := truthsP_isErr ok
          obtain ⟨g, hg⟩ : ∃ g, vP (fun d => clashB c d a.toNat b.toNat) (truthsP c) = g := ⟨_, rfl⟩
          have Hso : Hid (clashOut c a b = g) := by show _ = _; unfold clashOut; rw [hd, if_pos he, hg]
          rw [he]
          have Hhe := hide he
          have Hg := hide hg
          clear hf he hg hd hab
          go_enter Try.func35, Try.ntmps35
          go_upto_region 2 with fail
          rw [← Hw0.out]
          have e1 := hbox w0 (later_refl _)
          have c0 := e1 0
          have c1 := e1 1
          have c2 := e1 2
          have c3 := e1 3
          have c4 := e1 4
          simp only [List.getElem?_toArray, List.getElem?_cons_zero, List.getElem?_cons_succ] at c0 c1 c2 c3 c4
          have a0 := ha0 w0 (later_refl _)
          clear e1
          go_wp2_with fail
          refine (ticket_eq (k1 := k1) (k2 := k2) (k3 := k3) (A1 := A1) (A2 := A2) (A3 := A3) (n1 := n1) (n3 := n3) (c := c) Ha.out w0 (by omega)).mono ?_
          rintro e w1 ⟨rfl, hL1⟩
          have e2 := hbox w1 hL1
          have c0' := e2 0
          have c1' := e2 1
          have c2' := e2 2
          have c3' := e2 3
          have c4' := e2 4
          simp only [List.getElem?_toArray, List.getElem?_cons_zero, List.getElem?_cons_succ] at c0' c1' c2' c3' c4'
          have a1 := ha0 w1 hL1
          have b1 := hb0 w1 hL1
          clear e2
          go_wp2_with fail
          refine (ticket_eq (k1 := k1) (k2 := k2) (k3 := k3) (A1 := A1) (A2 := A2) (A3 := A3) (n1 := n1) (n3 := n3) (c := c) Hb.out w1 (by omega)).mono ?_
          rintro e w2 ⟨rfl, hL2⟩
          have hL02 := Later.trans hL1 hL2
          clear c0' c1' c2' c3' c4' a1 b1
          have e2 := hbox w2 hL02
          have c0' := e2 0
          have c1' := e2 1
          have c2' := e2 2
          have c3' := e2 3
          have c4' := e2 4
          simp only [List.getElem?_toArray, List.getElem?_cons_zero, List.getElem?_cons_succ] at c0' c1' c2' c3' c4'
          have a1 := ha0 w2 hL02
          have b1 := hb0 w2 hL02
          clear e2
          go_wp2_with fail
          refine (asked_ok (k1 := k1) (k2 := k2) (k3 := k3) _ (hc0.later hL02) hn1 hn2 hn3 Hhe.out).mono ?_
          rintro e w5 ⟨bw, bm, At, kt, rfl, hL5, hWK5⟩
          obtain ⟨w6, hw6⟩ : ∃ X, X = w5.alloc (.cells #[.pointer (some ⟨bw, 0, none⟩)] 105) := ⟨_, rfl⟩
          have hb6 := box_cells w5 #[.pointer (some ⟨bw, 0, none⟩)] 105
          rw [← hw6] at hb6
          have hL56 : Later w5 w6 := by rw [hw6]; exact later_alloc (later_refl _) _
          have hWK := hWK5.later hL56
          have hL06 := Later.trans hL02 (Later.trans hL5 hL56)
          have hb60 := fun W (h : Later w6 W) => hb6 W h 0
          simp only [List.getElem?_toArray, List.getElem?_cons_zero, List.getElem?_cons_succ] at hb60
          have hb61 := hb60 w6 (later_refl _)
          have hai : ((a.toNat : Nat) : Int) = a := by omega
          have hbi : ((b.toNat : Nat) : Int) = b := by omega
          have hv := verdict_clash_calls (q1 := w5.heap.size) (q2 := w.heap.size + 1) (q3 := w.heap.size + 1 + 1) (fun d => clashB c d a.toNat b.toNat) w6 hWK (by omega) (fun W' hW' d hd e0 e1 e2 e3 hp => Clash1_calls W' (hWK.later hW') ok (herr d hd) hp.out (by omega) (by omega) (hb60 W' hW') (by rw [hai]; exact ha0 W' (Later.trans hL06 hW')) (by rw [hbi]; exact hb0 W' (Later.trans hL06 hW')))
          rw [Hg.out] at hv
          have Hv := hide hv
          have Hw6 := hide hw6
          clear hv Hg hw6 hb6 hai hbi hWK5 c0' c1' c2' c3' c4' c0 c1 c2 c3 c4
          go_upto_region 7 with fail
          rw [← Hw6.out]
          go_wp2_with fail
          refine Hv.out.mono ?_
          rintro e w7 ⟨rfl, hL7⟩
          go_wp2_with fail
          refine bodyPost_ret (v := .tuple #[.int .i64 g, .int .i64 0]) ?_ rfl ⟨by rw [Hso.out], Later.trans hL0 (Later.trans hL06 hL7)⟩
          simp [results, Try.results35, go_sem]
        · have Hso : Hid (clashOut c a b = 0) := by show _ = _; unfold clashOut; rw [hd, if_neg he]
          obtain ⟨q, hq⟩ : ∃ q, askedErr c 0 = q := ⟨_, rfl⟩
          rw [hq] at he ⊢
          have hqb : (q != 0) = true := by simpa using he
          have hqb2 : (q == 0) = false := by simpa using he
          have Hq := hide hq
          clear hq hd hab
          go_enter Try.func35, Try.ntmps35
          go_upto_region 2 with fail
          rw [← Hw0.out]
          have e1 := hbox w0 (later_refl _)
          have c0 := e1 0
          have c1 := e1 1
          have c2 := e1 2
          have c3 := e1 3
          have c4 := e1 4
          simp only [List.getElem?_toArray, List.getElem?_cons_zero, List.getElem?_cons_succ] at c0 c1 c2 c3 c4
          have a0 := ha0 w0 (later_refl _)
          clear e1
          go_wp2_with fail
          refine (ticket_eq (k1 := k1) (k2 := k2) (k3 := k3) (A1 := A1) (A2 := A2) (A3 := A3) (n1 := n1) (n3 := n3) (c := c) Ha.out w0 (by omega)).mono ?_
          rintro e w1 ⟨rfl, hL1⟩
          have e2 := hbox w1 hL1
          have c0' := e2 0
          have c1' := e2 1
          have c2' := e2 2
          have c3' := e2 3
          have c4' := e2 4
          simp only [List.getElem?_toArray, List.getElem?_cons_zero, List.getElem?_cons_succ] at c0' c1' c2' c3' c4'
          have a1 := ha0 w1 hL1
          have b1 := hb0 w1 hL1
          clear e2
          go_wp2_with fail
          refine (ticket_eq (k1 := k1) (k2 := k2) (k3 := k3) (A1 := A1) (A2 := A2) (A3 := A3) (n1 := n1) (n3 := n3) (c := c) Hb.out w1 (by omega)).mono ?_
          rintro e w2 ⟨rfl, hL2⟩
          have hL02 := Later.trans hL1 hL2
          clear c0' c1' c2' c3' c4' a1 b1
          have e2 := hbox w2 hL02
          have c0' := e2 0
          have c1' := e2 1
          have c2' := e2 2
          have c3' := e2 3
          have c4' := e2 4
          simp only [List.getElem?_toArray, List.getElem?_cons_zero, List.getElem?_cons_succ] at c0' c1' c2' c3' c4'
          have a1 := ha0 w2 hL02
          have b1 := hb0 w2 hL02
          clear e2
          go_wp2_with fail
          refine (asked_err (k1 := k1) (k2 := k2) (k3 := k3) _ (hc0.later hL02) hn1 hn2 hn3 Hq.out he).mono ?_
          rintro e w5 ⟨rfl, hL5⟩
          go_wp2_with fail
          refine bodyPost_ret (v := .tuple #[.int .i64 0, .int .i64 q]) ?_ rfl ⟨by rw [Hso.out], Later.trans hL0 (Later.trans hL02 (later_alloc hL5 _))⟩
          simp [results, Try.results35, go_sem]
end Go.Proofs.Ytbkfnajpbhfneaa

/- The program's Free: walk. -/
namespace Go.Proofs.Ytbkfnajpbhfneaa
open Go Go.RowKit
attribute [local go_sem] later_alloc2 later_alloc3 later_alloc4

theorem open_eq {A1 A2 A3 : Option Addr} {n1 k1 n2 k2 n3 k3 : Nat} {c : Hou} {tub : Int} {b : Bool} (hb : isOpen c tub = b) (w : World) (hc : CV w c A1 n1 A2 n2 A3 n3) (hm3 : n3 ≤ 1000) (hm2 : n2 ≤ 1000) :
    Calls Try.prog 93 #[(.agg #[.int .i64 c.hour, .int .i64 c.grace, .slice A1 n1 k1, .slice A2 n2 k2, .slice A3 n3 k3]), .int .i64 tub] w fun e w' => e = .returned (.bool b) ∧ Later w w' := by
  rw [← hb]; exact open_calls w hc hm3 hm2
set_option maxRecDepth 100000 in
set_option maxHeartbeats 1000000 in
theorem FreeP_calls {A1 A2 A3 : Option Addr} {n1 k1 n2 k2 n3 k3 : Nat} {c : Hou} {tub : Int} (w : World) (hc : CV w c A1 n1 A2 n2 A3 n3) (hn1 : n1 ≤ 1000) (hn2 : n2 ≤ 1000) (hn3 : n3 ≤ 1000) :
    Calls Try.prog 39 #[(.agg #[.int .i64 c.hour, .int .i64 c.grace, .slice A1 n1 k1, .slice A2 n2 k2, .slice A3 n3 k3]), .int .i64 tub] w fun e w' => e = .returned (.tuple #[.agg #[.int .i64 (freeOut c tub).1, .int .i64 (freeOut c tub).2], .int .i64 (askedErr c (freeDue c tub))]) ∧ Later w w' := by
  obtain ⟨w0, hw0⟩ : ∃ X, X = ((w.alloc (.cells #[.int .i64 c.hour, .int .i64 c.grace, .slice A1 n1 k1, .slice A2 n2 k2, .slice A3 n3 k3] 36))).alloc (.cells #[.int .i64 0, .int .i64 0] 42) := ⟨_, rfl⟩
  have hL0 : Later w w0 := by rw [hw0]; exact later_alloc (later_alloc (later_refl _) _) _
  have k0 : Blk w0 w.heap.size 36 #[.int .i64 c.hour, .int .i64 c.grace, .slice A1 n1 k1, .slice A2 n2 k2, .slice A3 n3 k3] := by rw [hw0]; exact (Blk.new _ _ _).alloc _
  have k1' : Blk w0 (w.heap.size + 1) 42 #[.int .i64 0, .int .i64 0] := by
    have := Blk.new (w.alloc (.cells #[.int .i64 c.hour, .int .i64 c.grace, .slice A1 n1 k1, .slice A2 n2 k2, .slice A3 n3 k3] 36)) 42 #[.int .i64 0, .int .i64 0]
    rw [World.size_alloc] at this
    rw [hw0]; exact this
  have hbox := fun W (hW : Later w0 W) => (k0.later hW).cell
  have hr := fun W (hW : Later w0 W) => k1'.later hW
  have hc0 := hc.later hL0
  have Hw0 := hide hw0
  have Hr := hide hr
  clear hw0 k0 k1' hr
  cases h1 : inB tub 0 8 with
  | false =>
    have hd : freeDue c tub = 2 := by unfold freeDue; rw [if_pos h1]
    have Hso : Hid (freeOut c tub = (0, 0)) := by show _ = _; unfold freeOut; rw [hd, if_neg (askedErr_ne (by omega))]
    rw [hd]
    have Ht := hide h1
    clear hd h1
    have hne := askedErr_ne (c := c) (due := 2) (by omega)
    obtain ⟨q, hq⟩ : ∃ q, askedErr c 2 = q := ⟨_, rfl⟩
    rw [hq] at hne ⊢
    have hqb : (q != 0) = true := by simpa using hne
    have hqb2 : (q == 0) = false := by simpa using hne
    have Hq := hide hq
    clear hq
    go_enter Try.func39, Try.ntmps39
    go_upto_region 2 with fail
    rw [← Hw0.out]
    have e1 := hbox w0 (later_refl _)
    have c0 := e1 0
    have c1 := e1 1
    have c2 := e1 2
    have c3 := e1 3
    have c4 := e1 4
    simp only [List.getElem?_toArray, List.getElem?_cons_zero, List.getElem?_cons_succ] at c0 c1 c2 c3 c4
    clear e1
    go_wp2_with (go_at_call 92; refine (tub_eq Ht.out _).mono ?_; rintro e w' ⟨rfl, rfl⟩)
    refine (asked_err (k1 := k1) (k2 := k2) (k3 := k3) _ (hc0.later (later_refl _)) hn1 hn2 hn3 Hq.out hne).mono ?_
    rintro e w5 ⟨rfl, hL5⟩
    have hL05 := Later.trans (later_refl _) hL5
    have hb5 := Hr.out w5 hL05
    have f0 := hb5.frozen 0
    have f1 := hb5.frozen 1
    have g0 := hb5.cell 0
    have g1 := hb5.cell 1
    simp only [List.getElem?_toArray, List.getElem?_cons_zero, List.getElem?_cons_succ] at g0 g1
    have hLf := later_drop (later_drop (Later.trans hL0 hL05) (a := ⟨w.heap.size + 1, 0, none⟩) (u := .int .i64 0) (Nat.le_succ _)) (a := ⟨w.heap.size + 1, 1, none⟩) (u := .int .i64 0) (Nat.le_succ _)
    have HLf := hide hLf
    clear hb5 hLf
    go_wp2_with fail
    refine bodyPost_ret (v := .tuple #[.agg #[.int .i64 0, .int .i64 0], .int .i64 q]) ?_ rfl ⟨by rw [Hso.out], HLf.out⟩
    simp [results, Try.results39, go_sem, *]
  | true =>
    have Ht := hide h1
    cases h2 : isOpen c tub with
    | true =>
      have hd : freeDue c tub = 8 := by unfold freeDue; rw [if_neg (by simp [h1]), if_pos h2]
      have Hso : Hid (freeOut c tub = (0, 0)) := by show _ = _; unfold freeOut; rw [hd, if_neg (askedErr_ne (by omega))]
      rw [hd]
      have Ho := hide h2
      clear hd h1 h2
      have hne := askedErr_ne (c := c) (due := 8) (by omega)
      obtain ⟨q, hq⟩ : ∃ q, askedErr c 8 = q := ⟨_, rfl⟩
      rw [hq] at hne ⊢
      have hqb : (q != 0) = true := by simpa using hne
      have hqb2 : (q == 0) = false := by simpa using hne
      have Hq := hide hq
      clear hq
      go_enter Try.func39, Try.ntmps39
      go_upto_region 2 with fail
      rw [← Hw0.out]
      have e1 := hbox w0 (later_refl _)
      have c0 := e1 0
      have c1 := e1 1
      have c2 := e1 2
      have c3 := e1 3
      have c4 := e1 4
      simp only [List.getElem?_toArray, List.getElem?_cons_zero, List.getElem?_cons_succ] at c0 c1 c2 c3 c4
      clear e1
      go_wp2_with (go_at_call 92; refine (tub_eq Ht.out _).mono ?_; rintro e w' ⟨rfl, rfl⟩)
      refine (open_eq (k1 := k1) (k2 := k2) (k3 := k3) Ho.out w0 hc0 hn3 hn2).mono ?_
      rintro e w1 ⟨rfl, hL1⟩
      have e2 := hbox w1 hL1
      have c0' := e2 0
      have c1' := e2 1
      have c2' := e2 2
      have c3' := e2 3
      have c4' := e2 4
      simp only [List.getElem?_toArray, List.getElem?_cons_zero, List.getElem?_cons_succ] at c0' c1' c2' c3' c4'
      clear e2
      go_wp2_with fail
      refine (asked_err (k1 := k1) (k2 := k2) (k3 := k3) _ (hc0.later hL1) hn1 hn2 hn3 Hq.out hne).mono ?_
      rintro e w5 ⟨rfl, hL5⟩
      have hL05 := Later.trans hL1 hL5
      have hb5 := Hr.out w5 hL05
      have f0 := hb5.frozen 0
      have f1 := hb5.frozen 1
      have g0 := hb5.cell 0
      have g1 := hb5.cell 1
      simp only [List.getElem?_toArray, List.getElem?_cons_zero, List.getElem?_cons_succ] at g0 g1
      have hLf := later_drop (later_drop (Later.trans hL0 hL05) (a := ⟨w.heap.size + 1, 0, none⟩) (u := .int .i64 0) (Nat.le_succ _)) (a := ⟨w.heap.size + 1, 1, none⟩) (u := .int .i64 0) (Nat.le_succ _)
      have HLf := hide hLf
      clear hb5 hLf
      go_wp2_with fail
      refine bodyPost_ret (v := .tuple #[.agg #[.int .i64 0, .int .i64 0], .int .i64 q]) ?_ rfl ⟨by rw [Hso.out], HLf.out⟩
      simp [results, Try.results39, go_sem, *]
    | false =>
      have hd : freeDue c tub = 0 := by unfold freeDue; rw [if_neg (by simp [h1]), if_neg (by simp [h2])]
      have Ho := hide h2
      rw [hd]
      clear h1 h2
      by_cases he : askedErr c 0 = 0
      · obtain ⟨hf, _, htn⟩ := askedErr_zero he
        have ok := okH_of_fault hf
        have htl := truthsP_len hf
        have herr := truthsP_isErr ok
        obtain ⟨⟨r1, r2⟩, hg⟩ : ∃ g, bP (freeF c tub) (truthsP c) = g := ⟨_, rfl⟩
        have Hso : Hid (freeOut c tub = (r1, r2)) := by show _ = _; unfold freeOut; rw [hd, if_pos he, hg]
        rw [he]
        have Hhe := hide he
        have Hg := hide hg
        clear hf he hg hd
        go_enter Try.func39, Try.ntmps39
        go_upto_region 2 with fail
        rw [← Hw0.out]
        have e1 := hbox w0 (later_refl _)
        have c0 := e1 0
        have c1 := e1 1
        have c2 := e1 2
        have c3 := e1 3
        have c4 := e1 4
        simp only [List.getElem?_toArray, List.getElem?_cons_zero, List.getElem?_cons_succ] at c0 c1 c2 c3 c4
        clear e1
        go_wp2_with (go_at_call 92; refine (tub_eq Ht.out _).mono ?_; rintro e w' ⟨rfl, rfl⟩)
        refine (open_eq (k1 := k1) (k2 := k2) (k3 := k3) Ho.out w0 hc0 hn3 hn2).mono ?_
        rintro e w1 ⟨rfl, hL1⟩
        have e2 := hbox w1 hL1
        have c0' := e2 0
        have c1' := e2 1
        have c2' := e2 2
        have c3' := e2 3
        have c4' := e2 4
        simp only [List.getElem?_toArray, List.getElem?_cons_zero, List.getElem?_cons_succ] at c0' c1' c2' c3' c4'
        clear e2
        go_wp2_with fail
        refine (asked_ok (k1 := k1) (k2 := k2) (k3 := k3) _ (hc0.later hL1) hn1 hn2 hn3 Hhe.out).mono ?_
        rintro e w5 ⟨bw, bm, At, kt, rfl, hL5, hWK⟩
        have hL05 := Later.trans hL1 hL5
        have hv := bounds_from_calls (freeF c tub) (x := tub) w5 hWK htn (by omega) (fun W' hW' d hd e0 e1 e2 e3 hp => from_calls W' (hWK.later hW') ok (herr d hd) hp.out)
        rw [Hg.out] at hv
        have Hv := hide hv
        clear hv Hg c0' c1' c2' c3' c4' c0 c1 c2 c3 c4
        go_wp2_with fail
        refine Hv.out.mono ?_
        rintro e w7 ⟨rfl, hL7⟩
        have hL07 := Later.trans hL05 hL7
        have hb5 := Hr.out w7 hL07
        have f0 := hb5.frozen 0
        have f1 := hb5.frozen 1
        have g0 := hb5.cell 0
        have g1 := hb5.cell 1
        simp only [List.getElem?_toArray, List.getElem?_cons_zero, List.getElem?_cons_succ] at g0 g1
        have hLf := later_drop (later_drop (Later.trans hL0 hL07) (a := ⟨w.heap.size + 1, 0, none⟩) (u := .int .i64 r1) (Nat.le_succ _)) (a := ⟨w.heap.size + 1, 1, none⟩) (u := .int .i64 r2) (Nat.le_succ _)
        have HLf := hide hLf
        clear hb5 hLf
        go_wp2_with fail
        refine bodyPost_ret (v := .tuple #[.agg #[.int .i64 r1, .int .i64 r2], .int .i64 0]) ?_ rfl ⟨by rw [Hso.out], HLf.out⟩
        simp [results, Try.results39, go_sem, *]
      · have Hso : Hid (freeOut c tub = (0, 0)) := by show _ = _; unfold freeOut; rw [hd, if_neg he]
        obtain ⟨q, hq⟩ : ∃ q, askedErr c 0 = q := ⟨_, rfl⟩
        rw [hq] at he ⊢
        have hqb : (q != 0) = true := by simpa using he
        have hqb2 : (q == 0) = false := by simpa using he
        have Hq := hide hq
        clear hq hd
        go_enter Try.func39, Try.ntmps39
        go_upto_region 2 with fail
        rw [← Hw0.out]
        have e1 := hbox w0 (later_refl _)
        have c0 := e1 0
        have c1 := e1 1
        have c2 := e1 2
        have c3 := e1 3
        have c4 := e1 4
        simp only [List.getElem?_toArray, List.getElem?_cons_zero, List.getElem?_cons_succ] at c0 c1 c2 c3 c4
        clear e1
        go_wp2_with (go_at_call 92; refine (tub_eq Ht.out _).mono ?_; rintro e w' ⟨rfl, rfl⟩)
        refine (open_eq (k1 := k1) (k2 := k2) (k3 := k3) Ho.out w0 hc0 hn3 hn2).mono ?_
        rintro e w1 ⟨rfl, hL1⟩
        have e2 := hbox w1 hL1
        have c0' := e2 0
        have c1' := e2 1
        have c2' := e2 2
        have c3' := e2 3
        have c4' := e2 4
        simp only [List.getElem?_toArray, List.getElem?_cons_zero, List.getElem?_cons_succ] at c0' c1' c2' c3' c4'
        clear e2
        go_wp2_with fail
        refine (asked_err (k1 := k1) (k2 := k2) (k3 := k3) _ (hc0.later hL1) hn1 hn2 hn3 Hq.out he).mono ?_
        rintro e w5 ⟨rfl, hL5⟩
        have hL05 := Later.trans hL1 hL5
        have hb5 := Hr.out w5 hL05
        have f0 := hb5.frozen 0
        have f1 := hb5.frozen 1
        have g0 := hb5.cell 0
        have g1 := hb5.cell 1
        simp only [List.getElem?_toArray, List.getElem?_cons_zero, List.getElem?_cons_succ] at g0 g1
        have hLf := later_drop (later_drop (Later.trans hL0 hL05) (a := ⟨w.heap.size + 1, 0, none⟩) (u := .int .i64 0) (Nat.le_succ _)) (a := ⟨w.heap.size + 1, 1, none⟩) (u := .int .i64 0) (Nat.le_succ _)
        have HLf := hide hLf
        clear hb5 hLf
        go_wp2_with fail
        refine bodyPost_ret (v := .tuple #[.agg #[.int .i64 0, .int .i64 0], .int .i64 q]) ?_ rfl ⟨by rw [Hso.out], HLf.out⟩
        simp [results, Try.results39, go_sem, *]
end Go.Proofs.Ytbkfnajpbhfneaa

/- The program's Look: walk. -/
namespace Go.Proofs.Ytbkfnajpbhfneaa
open Go Go.RowKit
attribute [local go_sem] later_alloc2 later_alloc3 later_alloc4

theorem lookTo_succ (f : Nat → Int) (m : Int) (i : Nat) : lookTo f m (i + 1) = if f i < (lookTo f m i).2 then (i, f i) else lookTo f m i := rfl
theorem mostP_succ (l : List (List Int)) (k : Nat) (lo : Int) (n : Nat) : mostP l k lo (n + 1) = max (mostP l k lo n) (cnt l k (lo + n) : Int) := rfl
set_option maxRecDepth 100000 in
set_option maxHeartbeats 1000000 in
theorem LookP_calls {A1 A2 A3 : Option Addr} {n1 k1 n2 k2 n3 k3 : Nat} {c : Hou} (w : World) (hc : CV w c A1 n1 A2 n2 A3 n3) (hn1 : n1 ≤ 1000) (hn2 : n2 ≤ 1000) (hn3 : n3 ≤ 1000) :
    Calls Try.prog 42 #[(.agg #[.int .i64 c.hour, .int .i64 c.grace, .slice A1 n1 k1, .slice A2 n2 k2, .slice A3 n3 k3])] w fun e w' => e = .returned (.tuple #[.int .i64 ((lookOut c).1 : Int), .int .i64 (lookOut c).2, .int .i64 (lookErr c)]) ∧ Later w w' := by
  obtain ⟨w0, hw0⟩ : ∃ W, W = (w.alloc (.cells #[.int .i64 c.hour, .int .i64 c.grace, .slice A1 n1 k1, .slice A2 n2 k2, .slice A3 n3 k3] 36)) := ⟨_, rfl⟩; have hbox : ∀ W, Later w0 W → ∀ i, W.cell? ⟨w.heap.size, i, none⟩ = #[.int .i64 c.hour, .int .i64 c.grace, .slice A1 n1 k1, .slice A2 n2 k2, .slice A3 n3 k3][i]? := (by rw [hw0]; exact box_cells w #[.int .i64 c.hour, .int .i64 c.grace, .slice A1 n1 k1, .slice A2 n2 k2, .slice A3 n3 k3] 36); have hL0 : Later w w0 := (by rw [hw0]; simp); have hc0 := hc.later hL0; have Hw0 := hide hw0; clear hw0
  by_cases he : askedErr c 0 = 0
  · obtain ⟨hf, _, htn⟩ := askedErr_zero he
    have ok := okH_of_fault hf
    have htl := truthsP_len hf
    have hnl := hc.ck.len
    have hl4 := ok.n1
    have hn4 : n1 ≤ 4 := by omega
    have Hnl := hide hnl
    by_cases h0 : n1 = 0
    · have Hle : Hid (lookErr c = 7) := by show _ = _; unfold lookErr; rw [if_neg (by simp [he]), if_pos (by omega)]
      have Hlo : Hid (lookOut c = (0, 0)) := by show _ = _; unfold lookOut; rw [Hle.out, if_neg (by omega)]
      have hnb : ((n1 : Int) == 0) = true := by simp [h0]
      have Hhe := hide he
      clear hf he hnl h0 hl4
      go_enter Try.func42, Try.ntmps42
      go_wp2_with fail
      rw [← Hw0.out]; clear Hw0
      refine (asked_ok w0 hc0 hn1 hn2 hn3 Hhe.out).mono ?_
      rintro e w1 ⟨bw, bm, At, kt, rfl, hL1, hWK⟩
      have b2 := hbox w1 hL1 2
      simp only [List.getElem?_toArray, List.getElem?_cons_zero, List.getElem?_cons_succ] at b2
      go_wp2_with fail
      refine bodyPost_ret (v := .tuple #[.int .i64 0, .int .i64 0, .int .i64 7]) ?_ rfl ⟨by rw [Hle.out, Hlo.out]; rfl, Later.trans hL0 hL1⟩
      simp [results, Try.results42, go_sem]
    · have Hle : Hid (lookErr c = 0) := by show _ = _; unfold lookErr; rw [if_neg (by simp [he]), if_neg (by omega)]
      have Hlo : Hid (lookOut c = lookTo (mostC c) ((truthsP c).length + 1) n1) := by show _ = _; unfold lookOut; rw [Hle.out, if_pos rfl, hnl]
      have hnb : ((n1 : Int) == 0) = false := by simp [h0]
      have Hhe := hide he
      clear hf he hnl h0 hl4
      go_enter Try.func42, Try.ntmps42
      go_wp2_with fail
      rw [← Hw0.out]; clear Hw0
      refine (asked_ok w0 hc0 hn1 hn2 hn3 Hhe.out).mono ?_
      rintro e w1 ⟨bw, bm, At, kt, rfl, hL1, hWK⟩
      have b2 := hbox w1 hL1 2
      have t5 := hWK.cells 5
      have t6 := fun W (hW : Later w1 W) => (hWK.later hW).cells 6
      simp only [List.getElem?_toArray, List.getElem?_cons_zero, List.getElem?_cons_succ] at b2 t5 t6
      obtain ⟨nm, hmany⟩ := hWK.many
      have Hmany := hide hmany
      have hmc : ∀ i, mostC c i = mostP (truthsP c) i (clockAt c i).1 (sizeR (clockAt c i)).toNat := fun _ => rfl
      have Hmc := hide hmc
      generalize hm : (truthsP c).length = m at *
      have hwm : IntKind.i64.wrap ((m : Int) + 1) = (m : Int) + 1 := IntWalk.i64_in _ (by omega)
      have Hm := hide hm
      clear hmany hmc hm
      go_wp2_with fail
      clear b2 t5
      go_loopw [2, 3, 6, 7, 8, 9, 31] (fun v2 v3 _ _ _ _ u wr => ∃ i : Nat, i ≤ n1 ∧ u = .int .i64 i ∧ v2 = .int .i64 ((lookTo (mostC c) ((m : Int) + 1) i).1 : Int) ∧ v3 = .int .i64 (lookTo (mostC c) ((m : Int) + 1) i).2 ∧ Later w1 wr) (fun _ _ _ _ _ _ u _ => n1 - (intOf u).toNat)
      case atStart => exact ⟨0, Nat.zero_le _, rfl, rfl, rfl, later_refl _⟩
      case round =>
        obtain ⟨i, hi, rfl, rfl, rfl, hL⟩ := hrel
        by_cases hlt : i < n1
        · have hi1 : (i : Int) < n1 := by omega
          obtain ⟨b, o, x, rfl, _, hx, hx0, hx1⟩ := hc0.ck.get hlt
          have hxr := ok.clock x (List.mem_of_getElem? hx)
          have hmi := Hmc.out i
          rw [clockAt_of hx] at hmi
          have hls := lookTo_succ (mostC c) ((m : Int) + 1) i
          have Hls := hide hls
          have Hmi := hide hmi
          have hL01 := Later.trans hL1 hL
          have hx0 := hx0 _ hL01
          have hx1 := hx1 _ hL01
          obtain ⟨w2, hw2⟩ : ∃ X, X = wr.alloc (.cells #[.int .i64 x.1, .int .i64 x.2] 42) := ⟨_, rfl⟩
          have hb2 := Blk.new wr 42 #[.int .i64 x.1, .int .i64 x.2]
          rw [← hw2] at hb2
          have hLr2 : Later wr w2 := by rw [hw2]; exact later_alloc (later_refl _) _
          have hL2 := Later.trans hL hLr2
          have hbc := fun W (hW : Later w2 W) => (hb2.later hW).cell 0
          have hbc0 := hb2.cell 0
          have hbc1 := hb2.cell 1
          simp only [List.getElem?_toArray, List.getElem?_cons_zero, List.getElem?_cons_succ] at hbc hbc0 hbc1
          have Hw2 := hide hw2
          obtain ⟨⟨p1, p2⟩, hp⟩ : ∃ p, lookTo (mostC c) ((m : Int) + 1) i = p := ⟨_, rfl⟩
          rw [hp] at Hls ⊢
          clear hx hmi hls hw2 hp
          go_upto_region 11 with fail
          rw [← Hw2.out]
          go_wp2_with fail
          refine (size_calls (h := x) _ (by omega) (by omega)).mono ?_
          rintro e w3 ⟨rfl, hL3⟩
          have hL13 := Later.trans hL2 hL3
          have hsz : 0 ≤ sizeR x ∧ sizeR x ≤ 100 := by unfold sizeR; omega
          clear hbc0 hbc1 hx0 hx1
          go_wp2_with fail
          go_loopw [8, 9, 38] (fun v8 _ u wr => ∃ k : Nat, (k : Int) ≤ sizeR x ∧ u = .int .i64 k ∧ v8 = .int .i64 (mostP (truthsP c) i x.1 k) ∧ Later w3 wr) (fun _ _ u _ => (sizeR x - intOf u).toNat)
          case atStart => exact ⟨0, by omega, rfl, rfl, later_refl _⟩
          case round =>
            obtain ⟨k, hk, rfl, rfl, hLk⟩ := hrel
            by_cases hltk : (k : Int) < sizeR x
            · have hms := mostP_succ (truthsP c) i x.1 k
              have hL1k := Later.trans hL13 hLk
              have hwv : IntKind.i64.wrap (x.1 + (k : Int)) = x.1 + (k : Int) := IntWalk.i64_in _ (by omega)
              have hlk := fun W (hW : Later wr W) => ((Hmany.out.later hL1k).later hW).look (i := i) (v := x.1 + k) (by omega) (wfi_of (by omega))
              have hcf : cntF n1 (truthsP c) i (x.1 + k) = cnt (truthsP c) i (x.1 + k) := by unfold cntF; rw [if_pos hlt]
              simp only [hcf] at hlk
              generalize mostP (truthsP c) i x.1 k = q at *
              generalize cnt (truthsP c) i (x.1 + k) = z at *
              have Hms := hide hms
              have hbk := fun W (hW : Later wr W) => hbc W (Later.trans hL3 (Later.trans hLk hW))
              have t6k := fun W (hW : Later wr W) => t6 W (Later.trans hL1k hW)
              clear hms hcf t6 hbc
              go_upto_region 14 with fail
              refine wp_region_ext (w0 := wr) (by kernel_rfl) (by kernel_rfl) (later_refl _) ?_; (repeat (first | go_big_quiet_step (((fail))) | quiet_step (((fail))))); refine wpQuiet_nil ?_; rintro w5 ⟨⟨_, hL5⟩, rfl⟩; (try dsimp only)
              go_wp2_with fail
              go_roundw
              case rel => exact ⟨k + 1, by omega, by go_num, by rw [Hms.out]; first | rfl | (congr 1; rw [Int.max_def]; split <;> split <;> omega), Later.trans hLk hL5⟩
              case measure => simp [intOf]; omega
            · have hke : k = (sizeR x).toNat := by omega
              subst hke
              rw [← Hmi.out]
              have hLn := Later.trans hL13 hLk
              generalize mostC c i = q at *
              by_cases hq : q < p2
              · have Hl2 : Hid (lookTo (mostC c) ((m : Int) + 1) (i + 1) = (i, q)) := by show _ = _; rw [Hls.out, if_pos hq]
                clear Hls Hmi hltk
                go_wp2_with fail
                go_roundw
                case rel => exact ⟨i + 1, hlt, by go_num, by rw [Hl2.out], by rw [Hl2.out], hLn⟩
                case measure => simp [intOf]; omega
              · have Hl2 : Hid (lookTo (mostC c) ((m : Int) + 1) (i + 1) = (p1, p2)) := by show _ = _; rw [Hls.out, if_neg hq]
                clear Hls Hmi hltk
                go_wp2_with fail
                go_roundw
                case rel => exact ⟨i + 1, hlt, by go_num, by rw [Hl2.out], by rw [Hl2.out], hLn⟩
                case measure => simp [intOf]; omega
        · have hin : i = n1 := by omega
          subst hin
          obtain ⟨⟨p1, p2⟩, hp⟩ : ∃ p, lookTo (mostC c) ((m : Int) + 1) i = p := ⟨_, rfl⟩
          have Hlo2 : Hid (lookOut c = (p1, p2)) := by show _ = _; rw [Hlo.out, hp]
          rw [hp]
          clear hp Hlo t6
          go_wp2_with fail
          refine bodyPost_ret (v := .tuple #[.int .i64 (p1 : Int), .int .i64 p2, .int .i64 0]) ?_ rfl ⟨by rw [Hle.out, Hlo2.out], Later.trans hL0 (Later.trans hL1 hL)⟩
          simp [results, Try.results42, go_sem]
  · obtain ⟨q, hq⟩ : ∃ q, askedErr c 0 = q := ⟨_, rfl⟩
    have Hle : Hid (lookErr c = q) := by show _ = _; unfold lookErr; rw [if_pos he, hq]
    rw [hq] at he
    have Hlo : Hid (lookOut c = (0, 0)) := by show _ = _; unfold lookOut; rw [Hle.out, if_neg he]
    have hqb : (q != 0) = true := by simpa using he
    have hqb2 : (q == 0) = false := by simpa using he
    have Hq := hide hq
    clear hq
    go_enter Try.func42, Try.ntmps42
    go_wp2_with fail
    rw [← Hw0.out]; clear Hw0
    refine (asked_err w0 hc0 hn1 hn2 hn3 Hq.out he).mono ?_
    rintro e w1 ⟨rfl, hL1⟩
    go_wp2_with fail
    refine bodyPost_ret (v := .tuple #[.int .i64 0, .int .i64 0, .int .i64 q]) ?_ rfl ⟨by rw [Hle.out, Hlo.out]; rfl, Later.trans hL0 hL1⟩
    simp [results, Try.results42, go_sem]
end Go.Proofs.Ytbkfnajpbhfneaa

/- The reference's In, Size, Is, Many, AreErrors: walks. -/
namespace Go.Proofs.Ytbkfnajpbhfneaa
open Go Go.RowKit

theorem In_calls (n lo hi : Int) (w : World) :
    Calls Try.prog 37 #[.int .i64 n, .int .i64 lo, .int .i64 hi] w fun e w' => e = .returned (.bool (inB n lo hi)) ∧ w = w' := by
  go_enter Try.func37, Try.ntmps37
  by_cases h1 : lo ≤ n <;> by_cases h2 : n ≤ hi <;> go_wp2 <;> go_ret <;> exact ⟨by simp [inB, *], rfl⟩

theorem In_eq {n lo hi : Int} {b : Bool} (h : inB n lo hi = b) (w : World) :
    Calls Try.prog 37 #[.int .i64 n, .int .i64 lo, .int .i64 hi] w fun e w' => e = .returned (.bool b) ∧ w = w' := by
  have := In_calls n lo hi w; rw [h] at this; exact this
theorem Size_calls {h : Int × Int} (w : World) (b1 : -1000000 ≤ h.1 ∧ h.1 ≤ 1000000) (b2 : -1000000 ≤ h.2 ∧ h.2 ≤ 1000000) :
    Calls Try.prog 119 #[.agg #[.int .i64 h.1, .int .i64 h.2]] w fun e w' => e = .returned (.int .i64 (sizeR h)) ∧ Later w w' := by
  go_enter Try.func119, Try.ntmps119
  go_wp2_with fail
  go_ret
  exact ⟨rfl, by simp⟩

theorem Is_calls (n lo hi : Int) (w : World) :
    Calls Try.prog 118 #[.int .i64 n, .agg #[.int .i64 lo, .int .i64 hi]] w fun e w' => e = .returned (.bool (inB n lo hi)) ∧ Later w w' := by
  go_enter Try.func118, Try.ntmps118
  go_wp2_with (go_at_call 37; refine (In_calls _ _ _ _).mono ?_; rintro e w' ⟨rfl, rfl⟩)
  go_ret
  exact ⟨rfl, by simp⟩

theorem sizeR_range {h : Int × Int} (k : -30 ≤ h.1 ∧ h.1 ≤ h.2 ∧ h.2 ≤ 30) : 1 ≤ sizeR h ∧ sizeR h ≤ 61 := by unfold sizeR; omega
theorem many_aux {l : List (Int × Int)} (ok : ∀ h ∈ l, -30 ≤ h.1 ∧ h.1 ≤ h.2 ∧ h.2 ≤ 30) (a : Int) (ha : 1 ≤ a ∧ a ≤ 3000) :
    1 ≤ l.foldl (fun n h => min 3000 (n * sizeR h)) a ∧ l.foldl (fun n h => min 3000 (n * sizeR h)) a ≤ 3000 := by
  induction l generalizing a with
  | nil => exact ha
  | cons h l ih =>
    refine ih (fun x hx => ok x (List.mem_cons_of_mem _ hx)) _ ?_
    have := sizeR_range (ok h List.mem_cons_self)
    have h1 : 1 * 1 ≤ a * sizeR h := Int.mul_le_mul (by omega) (by omega) (by omega) (by omega)
    show 1 ≤ min 3000 (a * sizeR h) ∧ min 3000 (a * sizeR h) ≤ 3000
    omega
theorem many_range {c : Hou} (ok : ∀ h ∈ c.clocks, -30 ≤ h.1 ∧ h.1 ≤ h.2 ∧ h.2 ≤ 30) : 1 ≤ many c ∧ many c ≤ 3000 := many_aux ok 1 (by omega)

def manyTo (c : Hou) (j : Nat) : Int := (c.clocks.take j).foldl (fun n h => min 3000 (n * sizeR h)) 1

theorem Many_calls {A1 A2 A3 : Option Addr} {n1 k1 n2 k2 n3 k3 : Nat} {c : Hou} (w : World) (hc : CV w c A1 n1 A2 n2 A3 n3) (ok : ∀ h ∈ c.clocks, -30 ≤ h.1 ∧ h.1 ≤ h.2 ∧ h.2 ≤ 30) (hl : n1 ≤ 1000000) :
    Calls Try.prog 77 #[(.agg #[.int .i64 c.hour, .int .i64 c.grace, .slice A1 n1 k1, .slice A2 n2 k2, .slice A3 n3 k3])] w fun e w' => e = .returned (.int .i64 (many c)) ∧ Later w w' := by
  have hn1 := hc.ck.len
  have hbox := box_cells w #[.int .i64 c.hour, .int .i64 c.grace, .slice A1 n1 k1, .slice A2 n2 k2, .slice A3 n3 k3] 26
  have Hn1 := hide hn1
  clear hn1
  go_enter Try.func77, Try.ntmps77
  go_wp2_with fail
  go_loopw [3, 4] (fun a i wr => ∃ j : Nat, j ≤ n1 ∧ i = .int .i64 j ∧ a = .int .i64 (manyTo c j) ∧ Later (w.alloc (.cells #[.int .i64 c.hour, .int .i64 c.grace, .slice A1 n1 k1, .slice A2 n2 k2, .slice A3 n3 k3] 26)) wr) (fun _ i _ => n1 - (intOf i).toNat)
  case atStart => exact ⟨0, Nat.zero_le _, rfl, rfl, later_refl _⟩
  case round =>
    obtain ⟨j, hj, rfl, rfl, hL⟩ := hrel
    by_cases hlt : j < n1
    · obtain ⟨b, o, x, rfl, _, hx, h0, h1⟩ := (hc.ck.later (later_alloc (later_refl w) (.cells #[.int .i64 c.hour, .int .i64 c.grace, .slice A1 n1 k1, .slice A2 n2 k2, .slice A3 n3 k3] 26))).get hlt
      have okx := ok x (List.mem_of_getElem? hx)
      have hs := sizeR_range okx
      have hm := many_aux (l := c.clocks.take j) (fun h hh => ok h (List.mem_of_mem_take hh)) 1 (by omega)
      have hmt : 1 ≤ manyTo c j ∧ manyTo c j ≤ 3000 := hm
      have hnext : manyTo c (j + 1) = min 3000 (manyTo c j * sizeR x) := by
        unfold manyTo; rw [List.take_add_one, hx]; simp [List.foldl_append]
      have hp1 : 0 ≤ manyTo c j * sizeR x := Int.mul_nonneg (by omega) (by omega)
      have hp2 : manyTo c j * sizeR x ≤ 3000 * 61 := Int.mul_le_mul (by omega) (by omega) (by omega) (by omega)
      have Hx := hide hx
      have Hnext := hide hnext
      clear hx hnext hm
      go_wp2_with fail
      refine (Size_calls _ (by omega) (by omega)).mono ?_
      rintro e w1 ⟨rfl, hL1⟩
      have hL2 := Later.trans hL hL1
      go_wp2_with fail
      go_roundw
      case rel => exact ⟨j + 1, by omega, by go_num, by rw [Hnext.out]; congr 1; split <;> omega, hL2⟩
      case measure => simp [intOf]; omega
    · have hjn : manyTo c j = many c := by
        unfold manyTo many; rw [List.take_of_length_le (by have := Hn1.out; omega)]
      have Hjn := hide hjn
      clear hjn
      go_wp2_with fail
      go_ret
      exact ⟨ret_int Hjn.out, Later.trans (by simp) hL⟩

theorem areErrors_len : ∀ (l : List (Int × Int)) (d : List Int), areErrors l d = true → d.length = l.length
  | [], [], _ => rfl
  | h :: l, x :: d, k => by
    simp only [areErrors, Bool.and_eq_true] at k
    simp [areErrors_len l d k.2]

theorem AreErrors_calls {A1 A2 A3 : Option Addr} {n1 k1 n2 k2 n3 k3 : Nat} {c : Hou} {Ap : Option Addr} {np kp : Nat} {p : List Int} (w : World) (hc : CV w c A1 n1 A2 n2 A3 n3) (hp : RI w Ap np p) (hl : n1 ≤ 1000000) (hm : np ≤ 1000000) :
    Calls Try.prog 69 #[(.agg #[.int .i64 c.hour, .int .i64 c.grace, .slice A1 n1 k1, .slice A2 n2 k2, .slice A3 n3 k3]), .slice Ap np kp] w fun e w' => e = .returned (.bool (areErrors c.clocks p)) ∧ Later w w' := by
  have hnp := hp.len
  have hn1 := hc.ck.len
  obtain ⟨w0, hw0⟩ : ∃ W, W = (w.alloc (.cells #[.int .i64 c.hour, .int .i64 c.grace, .slice A1 n1 k1, .slice A2 n2 k2, .slice A3 n3 k3] 26)) := ⟨_, rfl⟩; have hbox : ∀ W, Later w0 W → ∀ i, W.cell? ⟨w.heap.size, i, none⟩ = #[.int .i64 c.hour, .int .i64 c.grace, .slice A1 n1 k1, .slice A2 n2 k2, .slice A3 n3 k3][i]? := (by rw [hw0]; exact box_cells w #[.int .i64 c.hour, .int .i64 c.grace, .slice A1 n1 k1, .slice A2 n2 k2, .slice A3 n3 k3] 26); have hL0 : Later w w0 := (by rw [hw0]; simp); have hc0 := hc.later hL0; have Hw0 := hide hw0; clear hw0
  have hp0 := hp.later hL0
  have Hnp := hide hnp
  have Hn1 := hide hn1
  by_cases hne : np = n1
  · have hneb : ((np : Int) != (n1 : Int)) = false := by rw [bne_eq_false_iff_eq]; omega
    have Hn := hide hne
    clear hne hnp hn1
    go_enter Try.func69, Try.ntmps69
    go_wp2_with fail
    rw [← Hw0.out]; clear Hw0
    go_loopw [5] (fun i wr => ∃ j : Nat, j ≤ np ∧ i = .int .i64 j ∧ areErrors c.clocks p = areErrors (c.clocks.drop j) (p.drop j) ∧ Later w0 wr) (fun i _ => np - (intOf i).toNat)
    case atStart => exact ⟨0, Nat.zero_le _, rfl, rfl, later_refl _⟩
    case round =>
      obtain ⟨j, hj, rfl, hrec, hL⟩ := hrel
      by_cases hlt : j < np
      · have hlt1 : j < n1 := by have := Hn.out; omega
        obtain ⟨b, o, x, rfl, _, hx, hcx⟩ := hp0.get hlt
        obtain ⟨b', o', y, rfl, _, hy, h0, h1⟩ := hc0.ck.get hlt1
        have hi1 : (j : Int) < np := by omega
        have hi2 : (j : Int) < n1 := by omega
        obtain ⟨hpj, e1⟩ := List.getElem?_eq_some_iff.1 hx
        obtain ⟨hpj2, e2⟩ := List.getElem?_eq_some_iff.1 hy
        rw [List.drop_eq_getElem_cons hpj, List.drop_eq_getElem_cons hpj2, e1, e2] at hrec
        have hrec2 : areErrors c.clocks p = (inB x y.1 y.2 && areErrors (c.clocks.drop (j + 1)) (p.drop (j + 1))) := hrec
        have Hrec := hide hrec2
        clear hrec hrec2 hx hy e1 e2
        by_cases hin : inB x y.1 y.2 = true
        · rw [hin, Bool.true_and] at Hrec
          go_wp2_with fail
          go_region_held3 (fun W => Later w0 W) (simp [*]) (first | (go_at_call 118; refine (Is_calls _ _ _ _).mono ?_; rintro e w1 ⟨rfl, hL1⟩; have hL2 := Later.trans (show Later w0 _ by assumption) hL1))
          go_wp2_with fail
          go_roundw
          case rel => exact ⟨j + 1, by omega, by go_num, Hrec.out, hL2⟩
          case measure => simp [intOf]; omega
        · have hin' : inB x y.1 y.2 = false := by simpa using hin
          rw [hin', Bool.false_and] at Hrec
          clear hin
          go_wp2_with fail
          go_region_held3 (fun W => Later w0 W) (simp [*]) (first | (go_at_call 118; refine (Is_calls _ _ _ _).mono ?_; rintro e w1 ⟨rfl, hL1⟩; have hL2 := Later.trans (show Later w0 _ by assumption) hL1))
          go_wp2_with fail
          go_ret
          exact ⟨by rw [Hrec.out]; rfl, Later.trans hL0 hL2⟩
      · have hjn : j = np := by omega
        have hd : p.drop j = [] := List.drop_eq_nil_of_le (by have := Hnp.out; omega)
        have hd2 : c.clocks.drop j = [] := List.drop_eq_nil_of_le (by have := Hn1.out; have := Hn.out; omega)
        rw [hd, hd2] at hrec
        have Hrec := hide hrec
        clear hrec hd hd2 hjn
        go_wp2_with fail
        go_ret
        exact ⟨by rw [Hrec.out]; rfl, Later.trans hL0 hL⟩
  · have hfin : areErrors c.clocks p = false := by
      rw [← Bool.not_eq_true]; intro h; have := areErrors_len _ _ h; omega
    have Hfin := hide hfin
    have hneb : ((np : Int) != (n1 : Int)) = true := by rw [bne_iff_ne]; omega
    clear hne hnp hn1 hfin
    go_enter Try.func69, Try.ntmps69
    go_wp2_with fail
    rw [← Hw0.out]; clear Hw0
    go_ret
    exact ⟨by rw [Hfin.out]; rfl, hL0⟩
end Go.Proofs.Ytbkfnajpbhfneaa

/- The reference's Nth: walk. -/
namespace Go.Proofs.Ytbkfnajpbhfneaa
open Go Go.RowKit

def nthRest : List (Int × Int) → Int → Int
  | [], n => n
  | h :: hs, n => nthRest hs (n / sizeR h)
theorem nth_snoc (l : List (Int × Int)) (h : Int × Int) (n : Int) : nth (l ++ [h]) n = nth l n ++ [h.1 + nthRest l n % sizeR h] := by
  induction l generalizing n with
  | nil => simp [nth, nthRest]
  | cons x l ih => simp [nth, nthRest, ih]
theorem nthRest_snoc (l : List (Int × Int)) (h : Int × Int) (n : Int) : nthRest (l ++ [h]) n = nthRest l n / sizeR h := by
  induction l generalizing n with
  | nil => rfl
  | cons x l ih => simp [nthRest, ih]
theorem nthRest_range {l : List (Int × Int)} (ok : ∀ h ∈ l, -30 ≤ h.1 ∧ h.1 ≤ h.2 ∧ h.2 ≤ 30) (n : Int) (h0 : 0 ≤ n) (h1 : n ≤ 1000000) : 0 ≤ nthRest l n ∧ nthRest l n ≤ 1000000 := by
  induction l generalizing n with
  | nil => exact ⟨h0, h1⟩
  | cons x l ih =>
    have := sizeR_range (ok x List.mem_cons_self)
    exact ih (fun h hh => ok h (List.mem_cons_of_mem _ hh)) _ (Int.ediv_nonneg h0 (by omega)) (Int.le_trans (Int.ediv_le_self _ h0) h1)
theorem ints_snoc (l : List Int) (x : Int) : ints (l ++ [x]) = ints l ++ [Value.int .i64 x] := by simp [ints]

set_option maxRecDepth 100000 in
theorem Nth_calls {A1 A2 A3 : Option Addr} {n1 k1 n2 k2 n3 k3 : Nat} {c : Hou} {n : Int} (w : World) (hc : CV w c A1 n1 A2 n2 A3 n3) (ok : ∀ h ∈ c.clocks, -30 ≤ h.1 ∧ h.1 ≤ h.2 ∧ h.2 ≤ 30) (hl : n1 ≤ 1000) (h0 : 0 ≤ n) (h1 : n ≤ 1000000) :
    Calls Try.prog 102 #[(.agg #[.int .i64 c.hour, .int .i64 c.grace, .slice A1 n1 k1, .slice A2 n2 k2, .slice A3 n3 k3]), .int .i64 n] w fun e w' => ∃ A m k, e = .returned (.slice A m k) ∧ Later w w' ∧ RI w' A m (nth c.clocks n) ∧ Fresh w w' A := by
  have hn1 := hc.ck.len
  have Hn1 := hide hn1
  clear hn1
  obtain ⟨w0, hw0⟩ : ∃ W, W = (w.alloc (.cells #[.int .i64 c.hour, .int .i64 c.grace, .slice A1 n1 k1, .slice A2 n2 k2, .slice A3 n3 k3] 26)) := ⟨_, rfl⟩; have hbox : ∀ W, Later w0 W → ∀ i, W.cell? ⟨w.heap.size, i, none⟩ = #[.int .i64 c.hour, .int .i64 c.grace, .slice A1 n1 k1, .slice A2 n2 k2, .slice A3 n3 k3][i]? := (by rw [hw0]; exact box_cells w #[.int .i64 c.hour, .int .i64 c.grace, .slice A1 n1 k1, .slice A2 n2 k2, .slice A3 n3 k3] 26); have hL0 : Later w w0 := (by rw [hw0]; simp); have hc0 := hc.later hL0; have Hw0 := hide hw0; clear hw0
  go_enter Try.func102, Try.ntmps102
  go_wp2_with fail
  rw [← Hw0.out]; clear Hw0
  go_loopw [1, 5, 6] (fun m v i wr => ∃ j : Nat, j ≤ n1 ∧ i = .int .i64 j ∧ m = .int .i64 (nthRest (c.clocks.take j) n) ∧ wr.ownsRow w0.heap.size 3 1 v j (ints (nth (c.clocks.take j) n)) ∧ Later w0 wr) (fun _ _ i _ => n1 - (intOf i).toNat)
  case atStart => exact ⟨0, Nat.zero_le _, rfl, rfl, World.ownsRow_nil _ _ _ _, later_refl _⟩
  case round =>
    obtain ⟨j, hj, rfl, rfl, hown, hL⟩ := hrel
    by_cases hlt : j < n1
    · obtain ⟨b, o, x, rfl, _, hx, hx0, hx1⟩ := hc0.ck.get hlt
      have okx := ok x (List.mem_of_getElem? hx)
      have hs := sizeR_range okx
      have ht : c.clocks.take (j + 1) = c.clocks.take j ++ [x] := by rw [List.take_add_one, hx]; rfl
      have hr := nthRest_range (l := c.clocks.take j) (fun h hh => ok h (List.mem_of_mem_take hh)) n h0 h1
      have hi1 : (j : Int) < n1 := by omega
      have hs1 := nth_snoc (c.clocks.take j) x n
      have hs2 := nthRest_snoc (c.clocks.take j) x n
      rw [← ht] at hs1 hs2
      have Hs1 := hide hs1
      have Hs2 := hide hs2
      generalize nthRest (c.clocks.take j) n = q at *
      have hq1 := Int.emod_nonneg q (b := sizeR x) (by omega)
      have hq2 := Int.emod_lt_of_pos q (b := sizeR x) (by omega)
      clear hs1 hs2 ht hx
      go_wp2_with fail
      have hbx := box_cells wr #[.int .i64 x.1, .int .i64 x.2] 44
      have hcl := hbx _ (later_refl _) 0
      have hch := hbx _ (later_refl _) 1
      simp only [List.getElem?_toArray, List.getElem?_cons_zero, List.getElem?_cons_succ] at hcl hch
      have hLa : Later w0 (wr.alloc (.cells #[.int .i64 x.1, .int .i64 x.2] 44)) := later_alloc hL _
      have hne : ∀ g, (u5 : Value).ownBlock = some g → g < wr.heap.size := fun g hg => (hown.lt g hg).2
      clear hbx hx0 hx1
      have Hne := hide hne
      clear hne
      have hw1 : IntKind.i64.wrap (x.1 + q % sizeR x) = x.1 + q % sizeR x := IntWalk.i64_in _ (by omega)
      have hz1 : ¬ sizeR x = 0 := by omega
      have hz2 : q.tmod (sizeR x) = q % sizeR x := Int.tmod_eq_emod_of_nonneg hr.1
      have hw2 : IntKind.i64.wrap (q % sizeR x) = q % sizeR x := IntWalk.i64_in _ (by omega)
      have hdv : q / sizeR x = q.tdiv (sizeR x) := (Int.tdiv_eq_ediv_of_nonneg hr.1).symm
      have hq3' := Int.ediv_nonneg (a := q) (b := sizeR x) hr.1 (by omega)
      have hq4 := Int.ediv_le_self (a := q) (sizeR x) hr.1
      have Hdv : Hid (IntKind.i64.wrap (q.tdiv (sizeR x)) = q / sizeR x) := by show IntKind.i64.wrap (q.tdiv (sizeR x)) = _; rw [← hdv]; exact IntWalk.i64_in _ (by omega)
      clear hdv hq3' hq4
      go_region_held3 (fun W => Later w0 W ∧ W.cell? ⟨wr.heap.size, 0, none⟩ = some (.int .i64 x.1) ∧ W.cell? ⟨wr.heap.size, 1, none⟩ = some (.int .i64 x.2)) ((refine ⟨by simp [*], ?_, ?_⟩ <;> first | assumption | (simp [*]; done) | (rw [World.cell?_alloc_lt _ _ _ (by (show wr.heap.size < _); omega)]; assumption)))
        (first
          | (go_at_call 119; (have hq3 := hL3); refine (Size_calls (h := x) _ (by omega) (by omega)).mono ?_; rintro e w3 ⟨rfl, hL4⟩; have hown3 := own_later hown2 hL4; have hL5 := Later.trans hL3 hL4; have hc6 := cell_later hc4 hL4 hsz2; have hc7 := cell_later hc5 hL4 hsz2)
          | (go_at_call 119; go_must (refine (Size_calls (h := x) _ (by omega) (by omega)).mono ?_; rintro e w1 ⟨rfl, hL1⟩; have hown1 := own_later (own_later hown (later_drew (later_alloc (later_refl _) _))) hL1; have hL2 := Later.trans (later_drew hLa) hL1; have hc1 := fun (i : Nat) (v : Value) (h : ((wr.alloc (.cells #[.int .i64 x.1, .int .i64 x.2] 44)).drew).cell? ⟨wr.heap.size, i, none⟩ = some v) => cell_later h hL1 (by simp); have hc2 := hc1 0 _ hcl; have hc3 := hc1 1 _ hch; clear hc1; have hsz1 : wr.heap.size < w1.heap.size := (by have := later_size hL1; simp at this; omega)))
          | (refine own_append_step (w0 := w0) (W := w1) (te := 3) rfl (.tmp 20) (.tmp 28) 47 rfl 3 (.int .i64 0) 1 8 Try.underlying47 int_info rfl (by omega) u5 j (ints (nth (List.take j c.clocks) n)) rfl hL2 hown1 [.int .i64 (x.1 + q % sizeR x)] rfl rfl ?_ ?_ (by omega) ?_; (simp [Value.oneCell']); omega; intro v' w2 hap; have hown2 := hap.own; have hL3 := hap.later; have hsz2 : wr.heap.size < w2.heap.size := (by have := hap.size; omega); have hk0 := hap.cell (b := wr.heap.size) (by have := later_size hL1; simp at this; omega) (fun h => by have := Hne.out _ h; omega); have hc4 := (hk0 0).trans hc2; have hc5 := (hk0 1).trans hc3; clear hk0 hap))
      go_wp2_with fail
      go_roundw
      case rel =>
        refine ⟨j + 1, by omega, by go_num, by rw [Hs2.out, Hdv.out], ?_, hL5⟩
        rw [Hs1.out, ints_snoc]; exact hown3
      case measure => simp [intOf]; omega
    · have hf : nth (c.clocks.take j) n = nth c.clocks n := by rw [List.take_of_length_le (by have := Hn1.out; omega)]
      rw [hf] at hown
      obtain ⟨A, k, rfl, hrd, hfr⟩ := own_slice2 hown
      clear hf
      go_wp2_with fail
      go_ret
      exact ⟨A, j, k, rfl, Later.trans hL0 hL, hrd, hfr.le hL0.size⟩
end Go.Proofs.Ytbkfnajpbhfneaa

/- Bits of small numbers, as the machine has them. -/
namespace Go.Proofs.Ytbkfnajpbhfneaa
open Go Go.RowKit
theorem ofInt_i64 (a : Nat) (ha : a < 9223372036854775808) : (BitVec.ofInt 64 (a : Int)).toNat = a := by
  rw [BitVec.ofInt_natCast, BitVec.toNat_ofNat]; exact Nat.mod_eq_of_lt (by omega)
theorem i64_and_nat (a b : Nat) (ha : a < 9223372036854775808) (hb : b < 9223372036854775808) : bits .and .i64 (a : Int) (b : Int) = ((a &&& b : Nat) : Int) := by
  have hx : a &&& b < 2 ^ 63 := Nat.and_lt_two_pow _ (by omega)
  show IntKind.i64.wrap ((BitVec.ofInt 64 (a : Int) &&& BitVec.ofInt 64 (b : Int)).toNat : Int) = _
  rw [BitVec.toNat_and, ofInt_i64 a ha, ofInt_i64 b hb, IntKind.wrap_i64]
  omega
theorem i64_or_nat (a b : Nat) (ha : a < 9223372036854775808) (hb : b < 9223372036854775808) : bits .or .i64 (a : Int) (b : Int) = ((a ||| b : Nat) : Int) := by
  have hx : a ||| b < 2 ^ 63 := Nat.or_lt_two_pow (by omega) (by omega)
  show IntKind.i64.wrap ((BitVec.ofInt 64 (a : Int) ||| BitVec.ofInt 64 (b : Int)).toNat : Int) = _
  rw [BitVec.toNat_or, ofInt_i64 a ha, ofInt_i64 b hb, IntKind.wrap_i64]
  omega
theorem pow_le20 {j : Nat} (hj : j ≤ 20) : 2 ^ j ≤ 1048576 := by
  have : (2 : Nat) ^ j ≤ 2 ^ 20 := Nat.pow_le_pow_right (by omega) hj
  omega
theorem pow_int (j : Nat) : ((2 : Int) ^ j) = ((2 ^ j : Nat) : Int) := by norm_cast
theorem wrap_pow {j : Nat} (hj : j ≤ 20) : wrap64 (2 ^ j) = ((2 ^ j : Nat) : Int) := by
  rw [pow_int]; have h := pow_le20 hj; generalize 2 ^ j = m at h ⊢; unfold wrap64; omega
theorem or_pow (a k : Nat) (h : a < 2 ^ k) : a ||| 2 ^ k = a + 2 ^ k := by
  have := Nat.two_pow_add_eq_or_of_lt h 1
  simp only [Nat.mul_one] at this
  rw [Nat.or_comm, ← this, Nat.add_comm]
theorem testBit_shr (a p : Nat) : ((a : Int) / (2 : Int) ^ p) % 2 = if a.testBit p then 1 else 0 := by
  have e : (a : Int) / (2 : Int) ^ p = ((a / 2 ^ p : Nat) : Int) := by norm_cast
  rw [e]
  have h := Nat.testBit_eq_decide_div_mod_eq (x := a) (i := p)
  rw [h]
  by_cases hm : a / 2 ^ p % 2 = 1
  · rw [if_pos (by simpa using hm)]; omega
  · rw [if_neg (by simpa using hm)]; omega
theorem andNot_all : ∀ n : Nat, n < 11 → ∀ j : Nat, j < 2 ^ n → bits .andNot .i64 ((2 ^ n - 1 : Nat) : Int) (j : Int) = ((2 ^ n - 1 - j : Nat) : Int) := by decide +kernel
end Go.Proofs.Ytbkfnajpbhfneaa

/- The reference's Of, True, Full, Rising, IsTruth: walks. -/
namespace Go.Proofs.Ytbkfnajpbhfneaa
open Go Go.RowKit

def ofTo (c : Hou) (t : Int) (j : Nat) : List Nat := (List.range j).filter fun i => decide ((clipAt c i).ticket = t)
theorem ofTo_succ (c : Hou) (t : Int) (j : Nat) : ofTo c t (j + 1) = ofTo c t j ++ (if (clipAt c j).ticket = t then [j] else []) := by
  unfold ofTo
  rw [List.range_succ, List.filter_append]
  congr 1
  by_cases h : (clipAt c j).ticket = t <;> simp [h]
theorem nats_snoc (l : List Nat) (j : Nat) : ints (nats (l ++ [j])) = ints (nats l) ++ [.int .i64 (j : Int)] := by simp [nats, ints]
theorem nats_length (l : List Nat) : (nats l).length = l.length := by simp [nats]
/-- what Of returns -/
def OfRPost (c : Hou) (t : Int) (w : World) (e : Ending) (w' : World) : Prop := ∃ A k, e = .returned (.slice A (ofR c t).length k) ∧ Later w w' ∧ RI w' A (ofR c t).length (nats (ofR c t))
set_option maxRecDepth 100000 in
theorem Of_calls {A1 A2 A3 : Option Addr} {n1 k1 n2 k2 n3 k3 : Nat} {c : Hou} {t : Int} (w : World) (hc : CV w c A1 n1 A2 n2 A3 n3) (hn : n3 ≤ 1000) : Calls Try.prog 95 #[(.agg #[.int .i64 c.hour, .int .i64 c.grace, .slice A1 n1 k1, .slice A2 n2 k2, .slice A3 n3 k3]), .int .i64 t] w (OfRPost c t w) := by
  have hl3 := hc.cp.len
  have Hl3 := hide hl3
  clear hl3
  obtain ⟨w0, hw0⟩ : ∃ W, W = (w.alloc (.cells #[.int .i64 c.hour, .int .i64 c.grace, .slice A1 n1 k1, .slice A2 n2 k2, .slice A3 n3 k3] 26)) := ⟨_, rfl⟩; have hbox : ∀ W, Later w0 W → ∀ i, W.cell? ⟨w.heap.size, i, none⟩ = #[.int .i64 c.hour, .int .i64 c.grace, .slice A1 n1 k1, .slice A2 n2 k2, .slice A3 n3 k3][i]? := (by rw [hw0]; exact box_cells w #[.int .i64 c.hour, .int .i64 c.grace, .slice A1 n1 k1, .slice A2 n2 k2, .slice A3 n3 k3] 26); have hL0 : Later w w0 := (by rw [hw0]; simp); have hc0 := hc.later hL0; have Hw0 := hide hw0; clear hw0
  go_enter Try.func95, Try.ntmps95
  go_wp2_with fail
  rw [← Hw0.out]; clear Hw0
  go_loopw [5, 6] (fun v i wr => ∃ j : Nat, j ≤ n3 ∧ i = .int .i64 j ∧ wr.ownsRow w0.heap.size 3 1 v (ofTo c t j).length (ints (nats (ofTo c t j))) ∧ Later w0 wr) (fun _ i _ => n3 - (intOf i).toNat)
  case atStart => exact ⟨0, Nat.zero_le _, rfl, World.ownsRow_nil _ _ _ _, later_refl _⟩
  case round =>
    obtain ⟨j, hj, rfl, hown, hL⟩ := hrel
    by_cases hlt : j < n3
    · obtain ⟨b, o, x, rfl, _, hx, hx0, hx1, hx2⟩ := hc0.cp.get hlt
      have hi1 : (j : Int) < n3 := by omega
      have ht := ofTo_succ c t j
      rw [clipAt_of hx] at ht
      have hfl : (ofTo c t j).length ≤ 1000000 := by
        have := List.length_filter_le (fun i => decide ((clipAt c i).ticket = t)) (List.range j)
        rw [List.length_range] at this
        unfold ofTo; omega
      have hx0 := hx0 _ hL
      generalize ofTo c t j = fl at *
      clear hx hx1 hx2
      by_cases he : x.ticket = t
      · have heb : (x.ticket == t) = true := by simp [he]
        rw [if_pos he] at ht
        have Ht := hide ht
        clear ht he
        go_wp2_with (at_builtin; go_must (refine own_append (w0 := w0) (W := wr) (te := 3) rfl _ _ 47 rfl 3 (.int .i64 0) 1 8 Try.underlying47 int_info rfl (by omega) u5 fl.length (ints (nats fl)) rfl hL hown [.int .i64 j] rfl rfl ?_ hfl (by omega) ?_; (simp [Value.oneCell']); intro v' w4 hap; have hown4 := hap.own; have hL4 := hap.later; clear hap))
        go_roundw
        case rel =>
          refine ⟨j + 1, hlt, by go_num, ?_, hL4⟩
          rw [Ht.out, List.length_append, nats_snoc]; exact hown4
        case measure => simp [intOf]; omega
      · have heb : (x.ticket == t) = false := by simp [he]
        rw [if_neg he, List.append_nil] at ht
        have Ht := hide ht
        clear ht he
        go_wp2_with fail
        go_roundw
        case rel => exact ⟨j + 1, hlt, by go_num, by rw [Ht.out]; exact hown, hL⟩
        case measure => simp [intOf]; omega
    · have hfin : ofTo c t j = ofR c t := by
        rw [show j = c.clips.length by have := Hl3.out; omega]; rfl
      rw [hfin] at hown
      obtain ⟨A, k, rfl, hrd⟩ := own_slice hown
      generalize hq : ofR c t = q at *
      have Hq := hide hq
      clear hfin hq hown
      go_wp2_with fail
      go_ret
      exact ⟨A, k, by rw [Hq.out]; rfl, Later.trans hL0 hL, by rw [Hq.out]; exact hrd⟩

set_option maxRecDepth 100000 in
theorem True_calls {A1 A2 A3 : Option Addr} {n1 k1 n2 k2 n3 k3 : Nat} {c : Hou} {Ad : Option Addr} {nd kd : Nat} {d : List Int} {i : Nat} (w : World) (hc : CV w c A1 n1 A2 n2 A3 n3) (hd : RI w Ad nd d) (ok : OkH c) (he : IsErr c d) (hi : i < n3) :
    Calls Try.prog 70 #[(.agg #[.int .i64 c.hour, .int .i64 c.grace, .slice A1 n1 k1, .slice A2 n2 k2, .slice A3 n3 k3]), .slice Ad nd kd, .int .i64 (i : Int)] w fun e w' => e = .returned (.int .i64 (trueM c d i)) ∧ Later w w' := by
  have hl3 := hc.cp.len
  have hld := hd.len
  have hle := he.len
  have htr := trueM_range ok he (i := i) (by omega)
  obtain ⟨w0, hw0⟩ : ∃ W, W = (w.alloc (.cells #[.int .i64 c.hour, .int .i64 c.grace, .slice A1 n1 k1, .slice A2 n2 k2, .slice A3 n3 k3] 26)) := ⟨_, rfl⟩; have hbox : ∀ W, Later w0 W → ∀ i, W.cell? ⟨w.heap.size, i, none⟩ = #[.int .i64 c.hour, .int .i64 c.grace, .slice A1 n1 k1, .slice A2 n2 k2, .slice A3 n3 k3][i]? := (by rw [hw0]; exact box_cells w #[.int .i64 c.hour, .int .i64 c.grace, .slice A1 n1 k1, .slice A2 n2 k2, .slice A3 n3 k3] 26); have hL0 : Later w w0 := (by rw [hw0]; simp); have hc0 := hc.later hL0; have Hw0 := hide hw0; clear hw0
  have hd0 := hd.later hL0
  obtain ⟨b, o, x, rfl, _, hx, hx0, hx1, hx2⟩ := hc0.cp.get hi
  have okx := ok.clip x (List.mem_of_getElem? hx)
  have hck : x.clock.toNat < nd := by omega
  obtain ⟨bd, od, y, rfl, _, hy, hy0⟩ := hd0.get hck
  have hk0 : 0 ≤ x.clock := okx.2.2.1
  have hkd : x.clock < nd := by omega
  have hm : trueM c d i = x.minute - y := by
    unfold trueM minuteC
    rw [clipAt_of hx, List.getD_eq_getElem?_getD, hy, Option.getD_some]
  have hyr := he.range ok x.clock.toNat
  rw [List.getD_eq_getElem?_getD, hy, Option.getD_some] at hyr
  have hw1 : IntKind.i64.wrap (x.minute - y) = x.minute - y := IntWalk.i64_in _ (by omega)
  have hi1 : (i : Int) < n3 := by omega
  obtain ⟨w2, hw2⟩ : ∃ W, W = w0.alloc (.cells #[.int .i64 x.ticket, .int .i64 x.clock, .int .i64 x.minute] 74) := ⟨_, rfl⟩
  have hb2 := Blk.new w0 74 #[.int .i64 x.ticket, .int .i64 x.clock, .int .i64 x.minute]
  rw [← hw2] at hb2
  have hL2 : Later w0 w2 := by rw [hw2]; exact later_alloc (later_refl _) _
  have c1 := fun W (hW : Later w2 W) => (hb2.later hW).cell 1
  have c2 := fun W (hW : Later w2 W) => (hb2.later hW).cell 2
  simp only [List.getElem?_toArray, List.getElem?_cons_zero, List.getElem?_cons_succ] at c1 c2
  have hy0' := fun W (hW : Later w2 W) => hy0 W (Later.trans hL2 hW)
  have hx0 := hx0 _ (later_refl _)
  have hx1 := hx1 _ (later_refl _)
  have hx2 := hx2 _ (later_refl _)
  have Hw2 := hide hw2
  have Hm := hide hm
  have Hy := hide hy
  clear hx hy hl3 hld hle hw2 hm htr hyr hy0
  go_enter Try.func70, Try.ntmps70
  go_upto_region 1 with fail
  rw [← Hw0.out]; clear Hw0
  go_upto_region 2 with fail
  rw [← Hw2.out]
  refine wp_region_ext (w0 := w2) (by kernel_rfl) (by kernel_rfl) (later_refl _) ?_; (repeat (first | go_big_quiet_step (((fail))) | quiet_step (((fail))))); refine wpQuiet_nil ?_; rintro w3 ⟨⟨_, hL3⟩, rfl⟩; (try dsimp only)
  go_wp2_with fail
  go_ret
  exact ⟨by rw [Hm.out]; rfl, Later.trans hL0 (Later.trans hL2 hL3)⟩
theorem True_eq {A1 A2 A3 : Option Addr} {n1 k1 n2 k2 n3 k3 : Nat} {c : Hou} {Ad : Option Addr} {nd kd : Nat} {d : List Int} {i : Nat} {v : Int} (hv : trueM c d i = v) (w : World) (hc : CV w c A1 n1 A2 n2 A3 n3) (hd : RI w Ad nd d) (ok : OkH c) (he : IsErr c d) (hi : i < n3) :
    Calls Try.prog 70 #[(.agg #[.int .i64 c.hour, .int .i64 c.grace, .slice A1 n1 k1, .slice A2 n2 k2, .slice A3 n3 k3]), .slice Ad nd kd, .int .i64 (i : Int)] w fun e w' => e = .returned (.int .i64 v) ∧ Later w w' := by
  rw [← hv]; exact True_calls w hc hd ok he hi

theorem Full_calls {A1 A2 A3 : Option Addr} {n1 k1 n2 k2 n3 k3 : Nat} {c : Hou} (w : World) (hc : CV w c A1 n1 A2 n2 A3 n3) (hn : n3 ≤ 20) :
    Calls Try.prog 63 #[(.agg #[.int .i64 c.hour, .int .i64 c.grace, .slice A1 n1 k1, .slice A2 n2 k2, .slice A3 n3 k3])] w fun e w' => e = .returned (.int .i64 (full c : Nat)) ∧ Later w w' := by
  have hn3 := hc.cp.len
  have Hn3 := hide hn3
  clear hn3
  go_enter Try.func63, Try.ntmps63
  go_wp2_with fail
  go_ret
  refine ⟨ret_int ?_, by simp⟩
  rw [wrap_pow hn]
  have := pow_le20 hn
  have h0 : 0 < 2 ^ n3 := Nat.two_pow_pos _
  unfold full
  rw [← Hn3.out]
  generalize 2 ^ n3 = m at *
  (try unfold wrap64)
  omega
end Go.Proofs.Ytbkfnajpbhfneaa

/- The reference's Fault: walk. -/
namespace Go.Proofs.Ytbkfnajpbhfneaa
open Go Go.RowKit

theorem take_all_succ {α : Type} {p : α → Bool} {l : List α} {j : Nat} {x : α} (hx : l[j]? = some x) (h : (l.take j).all p = true) (hp : p x = true) : (l.take (j + 1)).all p = true := by
  rw [List.take_add_one, hx, Option.toList_some, List.all_append, h]
  simp [hp]
theorem all_bad {α : Type} {p : α → Bool} {l : List α} {j : Nat} {x : α} (hx : l[j]? = some x) (hp : p x = false) : l.all p = false := by
  rw [← Bool.not_eq_true, List.all_eq_true]
  intro h
  rw [h x (List.mem_of_getElem? hx)] at hp; cases hp
set_option maxRecDepth 100000 in
set_option maxHeartbeats 2000000 in
theorem Fault_calls {A1 A2 A3 : Option Addr} {n1 k1 n2 k2 n3 k3 : Nat} {c : Hou} (w : World) (hc : CV w c A1 n1 A2 n2 A3 n3) (hn1 : n1 ≤ 1000) (hn2 : n2 ≤ 1000) (hn3 : n3 ≤ 1000) :
    Calls Try.prog 76 #[(.agg #[.int .i64 c.hour, .int .i64 c.grace, .slice A1 n1 k1, .slice A2 n2 k2, .slice A3 n3 k3])] w fun e w' => e = .returned (.int .i64 (fault c)) ∧ Later w w' := by
  have hl1 := hc.ck.len
  have hl2 := hc.tk.len
  have hl3 := hc.cp.len
  by_cases hA : 4 < n1
  · have Hf : Hid (fault c = 3) := fault_lim (by unfold LimB; omega)
    have hA' : (4 : Int) < n1 := by omega
    clear hl1 hl2 hl3
    go_enter Try.func76, Try.ntmps76
    go_wp2_with fail
    go_ret
    exact ⟨ret_int Hf.out.symm, by simp⟩
  by_cases hB : 6 < n2
  · have Hf : Hid (fault c = 3) := fault_lim (by unfold LimB; omega)
    have hA' : ¬ (4 : Int) < n1 := by omega
    have hB' : (6 : Int) < n2 := by omega
    clear hl1 hl2 hl3
    go_enter Try.func76, Try.ntmps76
    go_wp2_with fail
    go_ret
    exact ⟨ret_int Hf.out.symm, by simp⟩
  by_cases hC : 10 < n3
  · have Hf : Hid (fault c = 3) := fault_lim (by unfold LimB; omega)
    have hA' : ¬ (4 : Int) < n1 := by omega
    have hB' : ¬ (6 : Int) < n2 := by omega
    have hC' : (10 : Int) < n3 := by omega
    clear hl1 hl2 hl3
    go_enter Try.func76, Try.ntmps76
    go_wp2_with fail
    go_ret
    exact ⟨ret_int Hf.out.symm, by simp⟩
  have hA' : ¬ (4 : Int) < n1 := by omega
  have hB' : ¬ (6 : Int) < n2 := by omega
  have hC' : ¬ (10 : Int) < n3 := by omega
  have Hlim : Hid (¬ LimB c) := by show ¬ LimB c; unfold LimB; omega
  have Hl1 := hide hl1
  have Hl2 := hide hl2
  have Hl3 := hide hl3
  clear hl1 hl2 hl3
  have hw1 : IntKind.i64.wrap ((n1 : Int) - 1) = (n1 : Int) - 1 := IntWalk.i64_in _ (by omega)
  have hw2 : IntKind.i64.wrap ((n2 : Int) - 1) = (n2 : Int) - 1 := IntWalk.i64_in _ (by omega)
  obtain ⟨w0, hw0⟩ : ∃ W, W = (w.alloc (.cells #[.int .i64 c.hour, .int .i64 c.grace, .slice A1 n1 k1, .slice A2 n2 k2, .slice A3 n3 k3] 26)) := ⟨_, rfl⟩; have hbox : ∀ W, Later w0 W → ∀ i, W.cell? ⟨w.heap.size, i, none⟩ = #[.int .i64 c.hour, .int .i64 c.grace, .slice A1 n1 k1, .slice A2 n2 k2, .slice A3 n3 k3][i]? := (by rw [hw0]; exact box_cells w #[.int .i64 c.hour, .int .i64 c.grace, .slice A1 n1 k1, .slice A2 n2 k2, .slice A3 n3 k3] 26); have hL0 : Later w w0 := (by rw [hw0]; simp); have hc0 := hc.later hL0; have Hw0 := hide hw0; clear hw0
  cases hD : inB c.hour 1 120 with
  | false =>
    have Hf : Hid (fault c = 1) := fault_one Hlim.out (Or.inl hD)
    go_enter Try.func76, Try.ntmps76
    go_wp2_with (go_at_call 37; refine (In_calls _ _ _ _).mono ?_; rintro e w' ⟨rfl, rfl⟩)
    rw [← Hw0.out]; clear Hw0
    go_ret
    exact ⟨ret_int Hf.out.symm, hL0⟩
  | true =>
  cases hE : inB c.grace 0 60 with
  | false =>
    have Hf : Hid (fault c = 1) := fault_one Hlim.out (Or.inr (Or.inl hE))
    go_enter Try.func76, Try.ntmps76
    go_wp2_with (go_at_call 37; refine (In_calls _ _ _ _).mono ?_; rintro e w' ⟨rfl, rfl⟩)
    rw [← Hw0.out]; clear Hw0
    go_ret
    exact ⟨ret_int Hf.out.symm, hL0⟩
  | true =>
  go_enter Try.func76, Try.ntmps76
  go_wp2_with (go_at_call 37; refine (In_calls _ _ _ _).mono ?_; rintro e w' ⟨rfl, rfl⟩)
  rw [← Hw0.out]; clear Hw0
  go_loopw [3, 4] (fun i _ wr => ∃ j : Nat, j ≤ n1 ∧ i = .int .i64 j ∧ Later w0 wr ∧ Hid ((c.clocks.take j).all clockOk = true)) (fun i _ _ => n1 - (intOf i).toNat)
  case atStart => exact ⟨0, Nat.zero_le _, rfl, later_refl _, rfl⟩
  case round =>
    obtain ⟨j, hj, rfl, hL, Hall⟩ := hrel
    by_cases hlt : j < n1
    · obtain ⟨b, o, x, rfl, _, hx, hx0, hx1⟩ := hc0.ck.get hlt
      have hi1 : (j : Int) < n1 := by omega
      cases hok : clockOk x with
      | true =>
        have o1 := clockOk_range hok
        obtain ⟨o1, o2, o3⟩ := o1
        have Hall2 : Hid ((c.clocks.take (j + 1)).all clockOk = true) := take_all_succ hx Hall.out hok
        clear hx hok Hall
        go_wp2_with fail
        go_roundw
        case rel => exact ⟨j + 1, by omega, by go_num, by simp [hL], Hall2⟩
        case measure => simp [intOf]; omega
      | false =>
        have Hf : Hid (fault c = 1) := fault_one Hlim.out (Or.inr (Or.inr (Or.inl (all_bad hx hok))))
        by_cases o1 : x.1 < -30
        · clear hok hx
          go_wp2_with fail
          go_ret
          exact ⟨ret_int Hf.out.symm, Later.trans hL0 (by simp [hL])⟩
        by_cases o2 : x.2 < x.1
        · clear hok hx
          go_wp2_with fail
          go_ret
          exact ⟨ret_int Hf.out.symm, Later.trans hL0 (by simp [hL])⟩
        by_cases o3 : 30 < x.2
        · clear hok hx
          go_wp2_with fail
          go_ret
          exact ⟨ret_int Hf.out.symm, Later.trans hL0 (by simp [hL])⟩
        exfalso
        simp [clockOk] at hok
        omega
    · have hall1 : c.clocks.all clockOk = true := by
        have := Hall.out
        rw [List.take_of_length_le (by have := Hl1.out; omega)] at this; exact this
      have okh : ∀ h ∈ c.clocks, -30 ≤ h.1 ∧ h.1 ≤ h.2 ∧ h.2 ≤ 30 := fun h hh => clockOk_range (List.all_eq_true.1 hall1 h hh)
      have Hall1 := hide hall1
      clear hall1 Hall
      go_wp2_with fail
      obtain ⟨wo, hwo⟩ : ∃ W, W = wr := ⟨_, rfl⟩
      rw [← hwo] at hL
      rw [← hwo]
      clear hwo
      go_loopw [5, 6] (fun i _ wr => ∃ j : Nat, j ≤ n3 ∧ i = .int .i64 j ∧ Later w0 wr ∧ Hid ((c.clips.take j).all (clipOk c.clocks.length c.tickets.length) = true)) (fun i _ _ => n3 - (intOf i).toNat)
      case atStart => exact ⟨0, Nat.zero_le _, rfl, hL, rfl⟩
      case round =>
        obtain ⟨q, hq, rfl, hLq, Hall⟩ := hrel
        by_cases hltq : q < n3
        · obtain ⟨b, o, x, rfl, _, hx, hx0, hx1, hx2⟩ := hc0.cp.get hltq
          have hi1 : (q : Int) < n3 := by omega
          have hlk : clipOk c.clocks.length c.tickets.length x = (inB x.ticket 0 ((n2 : Int) - 1) && inB x.clock 0 ((n1 : Int) - 1) && inB x.minute 0 1439) := by rw [Hl1.out, Hl2.out]; rfl
          cases p1 : inB x.ticket 0 ((n2 : Int) - 1) with
          | false =>
            have Hf : Hid (fault c = 1) := fault_one Hlim.out (Or.inr (Or.inr (Or.inr (Or.inr (Or.inl (all_bad hx (by rw [hlk, p1]; rfl)))))))
            clear hx hlk Hall
            go_wp2_with (go_at_call 37; refine (In_calls _ _ _ _).mono ?_; rintro e w' ⟨rfl, rfl⟩)
            go_ret
            exact ⟨ret_int Hf.out.symm, Later.trans hL0 (by simp [hLq])⟩
          | true =>
          cases p2 : inB x.clock 0 ((n1 : Int) - 1) with
          | false =>
            have Hf : Hid (fault c = 1) := fault_one Hlim.out (Or.inr (Or.inr (Or.inr (Or.inr (Or.inl (all_bad hx (by rw [hlk, p1, p2]; rfl)))))))
            clear hx hlk Hall
            go_wp2_with (go_at_call 37; refine (In_calls _ _ _ _).mono ?_; rintro e w' ⟨rfl, rfl⟩)
            go_ret
            exact ⟨ret_int Hf.out.symm, Later.trans hL0 (by simp [hLq])⟩
          | true =>
          cases p3 : inB x.minute 0 1439 with
          | false =>
            have Hf : Hid (fault c = 1) := fault_one Hlim.out (Or.inr (Or.inr (Or.inr (Or.inr (Or.inl (all_bad hx (by rw [hlk, p1, p2, p3]; rfl)))))))
            clear hx hlk Hall
            go_wp2_with (go_at_call 37; refine (In_calls _ _ _ _).mono ?_; rintro e w' ⟨rfl, rfl⟩)
            go_ret
            exact ⟨ret_int Hf.out.symm, Later.trans hL0 (by simp [hLq])⟩
          | true =>
            have Hall2 : Hid ((c.clips.take (q + 1)).all (clipOk c.clocks.length c.tickets.length) = true) := take_all_succ hx Hall.out (by rw [hlk, p1, p2, p3]; rfl)
            clear hx hlk Hall
            go_wp2_with (go_at_call 37; refine (In_calls _ _ _ _).mono ?_; rintro e w' ⟨rfl, rfl⟩)
            go_roundw
            case rel => exact ⟨q + 1, by omega, by go_num, by simp [hLq], Hall2⟩
            case measure => simp [intOf]; omega
        · have Hall3 : Hid (c.clips.all (clipOk c.clocks.length c.tickets.length) = true) := by
            have := Hall.out
            rw [List.take_of_length_le (by have := Hl3.out; omega)] at this; exact this
          clear Hall
          go_wp2_with fail
          obtain ⟨wo2, hwo2⟩ : ∃ W, W = wr := ⟨_, rfl⟩
          rw [← hwo2] at hLq
          rw [← hwo2]
          clear hwo2
          go_loopw [7] (fun i wr => ∃ j : Nat, j ≤ n2 ∧ i = .int .i64 j ∧ Later w0 wr ∧ Hid ((List.range j).all (fun i => tickOk (tickAt c i) && ofOk c i) = true)) (fun i _ => n2 - (intOf i).toNat)
          case atStart => exact ⟨0, Nat.zero_le _, rfl, hLq, rfl⟩
          case round =>
            obtain ⟨s, hs, rfl, hLs, Hall⟩ := hrel
            by_cases hlts : s < n2
            · obtain ⟨b, o, x, rfl, _, hx, hx0, hx1⟩ := hc0.tk.get hlts
              have hi1 : (s : Int) < n2 := by omega
              have hrow : (tickOk (tickAt c s) && ofOk c s) = (inB x.1 0 8 && inB x.2 0 9 && decide ((ofR c s).length ≤ 2)) := by rw [tickAt_of hx]; rfl
              have hia := range_all_succ (fun i => tickOk (tickAt c i) && ofOk c i) s
              rw [Hall.out, Bool.true_and, hrow] at hia
              have hbad : (inB x.1 0 8 && inB x.2 0 9 && decide ((ofR c s).length ≤ 2)) = false → fault c = 1 := fun h => by
                have h2 : (List.range c.tickets.length).all (fun i => tickOk (tickAt c i) && ofOk c i) = false := range_all_false (j := s) (by have := Hl2.out; omega) (by rw [hrow]; exact h)
                rw [ticks_all, Bool.and_eq_false_iff] at h2
                rcases h2 with h2 | h2
                · exact fault_one Hlim.out (Or.inr (Or.inr (Or.inr (Or.inl h2))))
                · exact fault_one Hlim.out (Or.inr (Or.inr (Or.inr (Or.inr (Or.inr h2)))))
              have Hia := hide hia
              have Hbad := hide hbad
              clear hia hbad hrow hx Hall
              cases p1 : inB x.1 0 8 with
              | false =>
                have Hf : Hid (fault c = 1) := Hbad.out (by rw [p1]; rfl)
                clear Hia Hbad
                go_wp2_with (go_at_call 37; refine (In_calls _ _ _ _).mono ?_; rintro e w' ⟨rfl, rfl⟩)
                go_ret
                exact ⟨ret_int Hf.out.symm, Later.trans hL0 (by simp [hLs])⟩
              | true =>
              cases p2 : inB x.2 0 9 with
              | false =>
                have Hf : Hid (fault c = 1) := Hbad.out (by rw [p1, p2]; rfl)
                clear Hia Hbad
                go_wp2_with (go_at_call 37; refine (In_calls _ _ _ _).mono ?_; rintro e w' ⟨rfl, rfl⟩)
                go_ret
                exact ⟨ret_int Hf.out.symm, Later.trans hL0 (by simp [hLs])⟩
              | true =>
                rw [p1, p2, Bool.true_and, Bool.true_and] at Hia Hbad
                go_wp2_with (go_at_call 37; refine (In_calls _ _ _ _).mono ?_; rintro e w' ⟨rfl, rfl⟩)
                refine (Of_calls (k1 := k1) (k2 := k2) (k3 := k3) _ (hc0.later hLs) hn3).mono ?_
                rintro e w1 ⟨A, k, rfl, hL1, hri⟩
                clear hri
                generalize (ofR c s).length = m at *
                by_cases p3 : m ≤ 2
                · rw [decide_eq_true p3] at Hia
                  have p4 : ¬ (2 : Int) < m := by omega
                  go_wp2_with fail
                  go_roundw
                  case rel => exact ⟨s + 1, by omega, by go_num, Later.trans hLs hL1, Hia.out⟩
                  case measure => simp [intOf]; omega
                · have Hf : Hid (fault c = 1) := Hbad.out (decide_eq_false p3)
                  have p4 : (2 : Int) < m := by omega
                  clear Hia Hbad
                  go_wp2_with fail
                  go_ret
                  exact ⟨ret_int Hf.out.symm, Later.trans hL0 (Later.trans hLs hL1)⟩
            · have hall4 := Hall.out
              rw [show s = c.tickets.length by have := Hl2.out; omega, ticks_all, Bool.and_eq_true] at hall4
              have Hf : Hid (fault c = if 2000 < many c then 3 else 0) := fault_many Hlim.out hD hE Hall1.out hall4.1 Hall3.out hall4.2
              clear hall4 Hall Hall1 Hall3
              go_wp2_with fail
              refine (Many_calls _ (hc0.later hLs) okh (by omega)).mono ?_
              rintro e w3 ⟨rfl, hL3⟩
              by_cases hm : 2000 < many c
              · rw [if_pos hm] at Hf
                go_wp2_with fail
                go_ret
                exact ⟨ret_int Hf.out.symm, Later.trans hL0 (Later.trans hLs hL3)⟩
              · rw [if_neg hm] at Hf
                go_wp2_with fail
                go_ret
                exact ⟨ret_int Hf.out.symm, Later.trans hL0 (Later.trans hLs hL3)⟩
end Go.Proofs.Ytbkfnajpbhfneaa
