/- Part 7 of the proof: joined from the texts TcU, TcW, TcX, TcY, TcZ, TrE, TrF, FactsB, TrG, TrH, TrK, TlA, UnL, UmB, UmC. -/
import Derived.Test.YtcffgjhmpgdfpaaPart6
import Derived.Test.YtcffgjhmpgdfpaaPart5
import Derived.Test.YtcffgjhmpgdfpaaPart2
import Derived.Test.YtcffgjhmpgdfpaaPart3
set_option linter.unusedSimpArgs false
set_option linter.unusedVariables false
/- The program's verdict: walk. -/
namespace Go.Proofs.Ytcffgjhmpgdfpaa
open Go Go.RowKit

theorem any_take {p : List Int → Bool} {l : List (List Int)} {j : Nat} {d : List Int} (h : l[j]? = some d) : (l.take (j + 1)).any p = ((l.take j).any p || p d) := by
  rw [List.take_add_one, h, Option.toList_some, List.any_append]; simp
section
variable {A1 A2 A3 At : Option Addr} {n1 k1 n2 k2 n3 k3 nt kt bw bm : Nat} {c : Hou} {tr : List (List Int)}
set_option maxRecDepth 100000 in
set_option maxHeartbeats 1000000 in
theorem verdict_clash_calls {q1 q2 q3 : Nat} (p : List Int → Bool) (w : World) (hw : WK w bw c A1 n1 k1 A2 n2 k2 A3 n3 k3 At nt kt tr bm) (hnt : nt ≤ 1000000)
    (Hfn : ∀ W, Later w W → ∀ d ∈ tr, ∀ e0 e1 e2 e3, Hid (pad4 d = [e0, e1, e2, e3]) → Calls Try.prog 41 #[.agg #[.int .i64 e0, .int .i64 e1, .int .i64 e2, .int .i64 e3], .pointer (some ⟨q1, 0, none⟩), .pointer (some ⟨q2, 0, none⟩), .pointer (some ⟨q3, 0, none⟩)] W fun e w' => e = .returned (.bool (p d)) ∧ Later W w') :
    Calls Try.prog 40 #[.pointer (some ⟨bw, 0, none⟩), .func (.func 41) #[] #[.pointer (some ⟨q1, 0, none⟩), .pointer (some ⟨q2, 0, none⟩), .pointer (some ⟨q3, 0, none⟩)]] w fun e w' => e = .returned (.int .i64 (vP p tr)) ∧ Later w w' := by
  have hl := hw.rd.len
  subst hl
  have t5 := hw.cells 5
  simp only [List.getElem?_toArray, List.getElem?_cons_zero, List.getElem?_cons_succ] at t5
  have HW := hide hw
  have HF := hide Hfn
  have Hvp : Hid (vP p tr = if tr.any (fun d => !p d) = false then 1 else if tr.any p = false then 2 else 3) := rfl
  clear hw Hfn
  go_enter Try.func40, Try.ntmps40
  go_wp2_with fail
  clear t5
  go_loopw [5, 6, 8, 9, 15] (fun v u _ _ i wr => ∃ j : Nat, j ≤ tr.length ∧ i = .int .i64 j ∧ v = .bool ((tr.take j).any p) ∧ u = .bool ((tr.take j).any fun d => !p d) ∧ Later w wr) (fun _ _ _ _ i _ => tr.length - (intOf i).toNat)
  case atStart => exact ⟨0, Nat.zero_le _, rfl, by simp, by simp, later_refl _⟩
  case round =>
    obtain ⟨j, hj, rfl, rfl, rfl, hL⟩ := hrel
    by_cases hlt : j < tr.length
    · obtain ⟨bb, oo, d, f0, f1, f2, f3, rfl, _, hd, Hp, y0, y1, y2, y3⟩ := HW.out.rd.get hlt
      have hdm := List.mem_of_getElem? hd
      have Ha := hide (any_take (p := p) hd)
      have Hb := hide (any_take (p := fun d => !p d) hd)
      have hi1 : (j : Int) < tr.length := by omega
      have y0 := y0 _ hL
      have y1 := y1 _ hL
      have y2 := y2 _ hL
      have y3 := y3 _ hL
      obtain ⟨Wb, hWb⟩ : ∃ X, X = wr.alloc (.cells #[.int .i64 f0, .int .i64 f1, .int .i64 f2, .int .i64 f3] 103) := ⟨_, rfl⟩
      have hbd := box_cells wr #[.int .i64 f0, .int .i64 f1, .int .i64 f2, .int .i64 f3] 103
      have hLb : Later wr Wb := by rw [hWb]; exact later_alloc (later_refl _) _
      rw [← hWb] at hbd
      have HWb := hide hWb
      have d0' := hbd _ (later_refl _) 0
      have d1' := hbd _ (later_refl _) 1
      have d2' := hbd _ (later_refl _) 2
      have d3' := hbd _ (later_refl _) 3
      simp only [List.getElem?_toArray, List.getElem?_cons_zero, List.getElem?_cons_succ] at d0' d1' d2' d3'
      have hLw := Later.trans hL hLb
      have Hc := hide (HF.out Wb hLw d hdm _ _ _ _ Hp)
      generalize p d = b at *
      generalize (tr.take j).any p = s at *
      generalize ((tr.take j).any fun d => !p d) = u at *
      clear hWb hbd hd
      go_upto_region 5 with fail
      rw [← HWb.out]
      clear HWb y0 y1 y2 y3
      go_wp2_with fail
      refine Hc.out.mono ?_
      rintro e w3 ⟨rfl, hL3⟩
      have hL03 := Later.trans hLw hL3
      clear d0' d1' d2' d3' Hc hLb hLw hL3 hL
      cases b <;> cases s <;> cases u <;>
        (go_wp2_with fail
         go_roundw
         case rel => exact ⟨j + 1, by omega, by go_num, by rw [Ha.out]; rfl, by rw [Hb.out]; rfl, hL03⟩
         case measure => simp [intOf]; omega)
    · have hfin : tr.take j = tr := List.take_of_length_le (by omega)
      rw [hfin]
      generalize tr.any p = s at *
      generalize (tr.any fun d => !p d) = u at *
      clear hfin
      cases u with
      | false =>
        have Hv : Hid (vP p tr = 1) := Hvp.out
        clear Hvp
        go_wp2_with fail
        go_ret
        exact ⟨ret_int Hv.out.symm, hL⟩
      | true =>
        cases s with
        | false =>
          have Hv : Hid (vP p tr = 2) := Hvp.out
          clear Hvp
          go_wp2_with fail
          go_ret
          exact ⟨ret_int Hv.out.symm, hL⟩
        | true =>
          have Hv : Hid (vP p tr = 3) := Hvp.out
          clear Hvp
          go_wp2_with fail
          go_ret
          exact ⟨ret_int Hv.out.symm, hL⟩
end
end Go.Proofs.Ytcffgjhmpgdfpaa

/- The program's Long, Clash, Paid: walks. -/
namespace Go.Proofs.Ytcffgjhmpgdfpaa
open Go Go.RowKit
attribute [local go_sem] later_alloc2 later_alloc3 later_alloc4

section
variable {A1 A2 A3 At : Option Addr} {n1 k1 n2 k2 n3 k3 nt kt bw bm : Nat} {c : Hou} {tr : List (List Int)}
set_option maxRecDepth 100000 in
theorem Clash1_calls {d : List Int} {e0 e1 e2 e3 : Int} {q1 q2 q3 i o : Nat} (w : World) (hw : WK w bw c A1 n1 k1 A2 n2 k2 A3 n3 k3 At nt kt tr bm) (ok : OkH c) (hd : IsErr c d) (hp : pad4 d = [e0, e1, e2, e3]) (hi : i < n2) (ho : o < n2)
    (h1 : w.cell? ⟨q1, 0, none⟩ = some (.pointer (some ⟨bw, 0, none⟩))) (h2 : w.cell? ⟨q2, 0, none⟩ = some (.int .i64 (i : Int))) (h3 : w.cell? ⟨q3, 0, none⟩ = some (.int .i64 (o : Int))) :
    Calls Try.prog 41 #[.agg #[.int .i64 e0, .int .i64 e1, .int .i64 e2, .int .i64 e3], .pointer (some ⟨q1, 0, none⟩), .pointer (some ⟨q2, 0, none⟩), .pointer (some ⟨q3, 0, none⟩)] w fun e w' => e = .returned (.bool (clashB c d i o)) ∧ Later w w' := by
  obtain ⟨b, hb⟩ : ∃ b, clashB c d i o = b := ⟨_, rfl⟩
  have hl := fun W (h : Later w W) => clash_eq hb W (hw.later h) ok hd hp hi ho
  have Hl := hide hl
  have Hb := hide hb
  clear hl hb
  obtain ⟨w0, hw0⟩ : ∃ X, X = w.alloc (.cells #[.int .i64 e0, .int .i64 e1, .int .i64 e2, .int .i64 e3] 103) := ⟨_, rfl⟩
  have hbx := box_cells w #[.int .i64 e0, .int .i64 e1, .int .i64 e2, .int .i64 e3] 103
  rw [← hw0] at hbx
  have hL0 : Later w w0 := by rw [hw0]; exact later_alloc (later_refl _) _
  have b0 := hbx _ (later_refl _) 0
  have b1 := hbx _ (later_refl _) 1
  have b2 := hbx _ (later_refl _) 2
  have b3 := hbx _ (later_refl _) 3
  simp only [List.getElem?_toArray, List.getElem?_cons_zero, List.getElem?_cons_succ] at b0 b1 b2 b3
  have Hw0 := hide hw0
  have h1' := (Below.cell hL0 (p := ⟨q1, 0, none⟩) (World.block_lt_of_cell? _ _ h1)).trans h1
  have h2' := (Below.cell hL0 (p := ⟨q2, 0, none⟩) (World.block_lt_of_cell? _ _ h2)).trans h2
  have h3' := (Below.cell hL0 (p := ⟨q3, 0, none⟩) (World.block_lt_of_cell? _ _ h3)).trans h3
  clear hw0 hbx h1 h2 h3
  go_enter Try.func41, Try.ntmps41
  go_upto_region 1 with fail
  rw [← Hw0.out]; clear Hw0
  go_wp2_with fail
  refine (Hl.out _ hL0).mono ?_
  rintro e w1 ⟨rfl, hL1⟩
  go_wp2_with fail
  go_ret
  exact ⟨ret_bool Hb.out.symm, Later.trans hL0 hL1⟩
end
/-- a list of numbers, and an error -/
def IntsPost (l : List Int) (q : Int) (w : World) (e : Ending) (w' : World) : Prop :=
  ∃ A n k, e = .returned (.tuple #[.slice A n k, .int .i64 q]) ∧ Later w w' ∧ RI w' A n l
end Go.Proofs.Ytcffgjhmpgdfpaa

/- The program's Clash: walk. -/
namespace Go.Proofs.Ytcffgjhmpgdfpaa
open Go Go.RowKit
attribute [local go_sem] later_alloc2 later_alloc3 later_alloc4

theorem askedErr_ne {c : Hou} {due : Int} (h : due ≠ 0) : askedErr c due ≠ 0 := fun e => h (askedErr_zero e).2.1
set_option maxRecDepth 100000 in
set_option maxHeartbeats 1000000 in
theorem ClashP_calls {A1 A2 A3 : Option Addr} {n1 k1 n2 k2 n3 k3 : Nat} {c : Hou} {a b : Int} (w : World) (hc : CV w c A1 n1 A2 n2 A3 n3) (hn1 : n1 ≤ 1000) (hn2 : n2 ≤ 1000) (hn3 : n3 ≤ 1000) :
    Calls Try.prog 17 #[(.agg #[.int .i64 c.hour, .int .i64 c.grace, .slice A1 n1 k1, .slice A2 n2 k2, .slice A3 n3 k3]), .int .i64 a, .int .i64 b] w fun e w' => e = .returned (.tuple #[.int .i64 (clashOut c a b), .int .i64 (askedErr c (clashDue c a b))]) ∧ Later w w' := by
  obtain ⟨w0, hw0⟩ : ∃ X, X = (((w.alloc (.cells #[.int .i64 c.hour, .int .i64 c.grace, .slice A1 n1 k1, .slice A2 n2 k2, .slice A3 n3 k3] 46))).alloc (.cells #[.int .i64 a] 3)).alloc (.cells #[.int .i64 b] 3) := ⟨_, rfl⟩
  have hL0 : Later w w0 := by rw [hw0]; exact later_alloc (later_alloc (later_alloc (later_refl _) _) _) _
  have k0 : Blk w0 w.heap.size 46 #[.int .i64 c.hour, .int .i64 c.grace, .slice A1 n1 k1, .slice A2 n2 k2, .slice A3 n3 k3] := by rw [hw0]; exact ((Blk.new _ _ _).alloc _).alloc _
  have k1' : Blk w0 (w.heap.size + 1) 3 #[.int .i64 a] := by
    have := Blk.new (w.alloc (.cells #[.int .i64 c.hour, .int .i64 c.grace, .slice A1 n1 k1, .slice A2 n2 k2, .slice A3 n3 k3] 46)) 3 #[.int .i64 a]
    rw [World.size_alloc] at this
    rw [hw0]; exact this.alloc _
  have k2' : Blk w0 (w.heap.size + 2) 3 #[.int .i64 b] := by
    have := Blk.new (((w.alloc (.cells #[.int .i64 c.hour, .int .i64 c.grace, .slice A1 n1 k1, .slice A2 n2 k2, .slice A3 n3 k3] 46))).alloc (.cells #[.int .i64 a] 3)) 3 #[.int .i64 b]
    rw [World.size_alloc, World.size_alloc] at this
    rw [hw0]; exact this
  have hbox := fun W (hW : Later w0 W) => (k0.later hW).cell
  have ha0 := fun W (hW : Later w0 W) => (k1'.later hW).cell 0
  have hb0 := fun W (hW : Later w0 W) => (k2'.later hW).cell 0
  simp only [List.getElem?_toArray, List.getElem?_cons_zero, List.getElem?_cons_succ] at ha0 hb0
  have hc0 := hc.later hL0
  have hnl := hc.tk.len
  have hta : isTick c a = inB a 0 ((n2 : Int) - 1) := by unfold isTick; rw [hnl]
  have htb : isTick c b = inB b 0 ((n2 : Int) - 1) := by unfold isTick; rw [hnl]
  have Hw0 := hide hw0
  clear hw0 k0 k1' k2' hnl
  cases h1 : isTick c a with
  | false =>
    have hd : clashDue c a b = 2 := by unfold clashDue; rw [if_pos (.inl h1)]
    have Hso : Hid (clashOut c a b = 0) := by show _ = _; unfold clashOut; rw [hd, if_neg (askedErr_ne (by omega))]
    rw [hd]
    have Ha := hide (hta.symm.trans h1)
    clear hd h1 hta htb
    have hne := askedErr_ne (c := c) (due := 2) (by omega)
    obtain ⟨q, hq⟩ : ∃ q, askedErr c 2 = q := ⟨_, rfl⟩
    rw [hq] at hne ⊢
    have hqb : (q != 0) = true := by simpa using hne
    have hqb2 : (q == 0) = false := by simpa using hne
    have Hq := hide hq
    clear hq
    go_enter Try.func17, Try.ntmps17
    go_upto_region 2 with fail
    rw [← Hw0.out]
    have e1 := hbox w0 (later_refl _)
    have c0 := e1 0
    have c1 := e1 1
    have c2 := e1 2
    have c3 := e1 3
    have c4 := e1 4
    simp only [List.getElem?_toArray, List.getElem?_cons_zero, List.getElem?_cons_succ] at c0 c1 c2 c3 c4
    have a0 := ha0 w0 (later_refl _)
    clear e1
    go_wp2_with fail
    refine (ticket_eq (k1 := k1) (k2 := k2) (k3 := k3) (A1 := A1) (A2 := A2) (A3 := A3) (n1 := n1) (n3 := n3) (c := c) Ha.out w0 (by omega)).mono ?_
    rintro e w1 ⟨rfl, hL1⟩
    have e2 := hbox w1 hL1
    have c0' := e2 0
    have c1' := e2 1
    have c2' := e2 2
    have c3' := e2 3
    have c4' := e2 4
    simp only [List.getElem?_toArray, List.getElem?_cons_zero, List.getElem?_cons_succ] at c0' c1' c2' c3' c4'
    have a1 := ha0 w1 hL1
    have b1 := hb0 w1 hL1
    clear e2
    go_wp2_with fail
    refine (asked_err (k1 := k1) (k2 := k2) (k3 := k3) _ (hc0.later hL1) hn1 hn2 hn3 Hq.out hne).mono ?_
    rintro e w5 ⟨rfl, hL5⟩
    go_wp2_with fail
    refine bodyPost_ret (v := .tuple #[.int .i64 0, .int .i64 q]) ?_ rfl ⟨by rw [Hso.out], Later.trans hL0 (Later.trans hL1 (later_alloc hL5 _))⟩
    simp [results, Try.results17, go_sem]
  | true =>
    have Ha := hide (hta.symm.trans h1)
    cases h2 : isTick c b with
    | false =>
      have hd : clashDue c a b = 2 := by unfold clashDue; rw [if_pos (.inr h2)]
      have Hso : Hid (clashOut c a b = 0) := by show _ = _; unfold clashOut; rw [hd, if_neg (askedErr_ne (by omega))]
      rw [hd]
      have Hb := hide (htb.symm.trans h2)
      clear hd h1 h2 hta htb
      have hne := askedErr_ne (c := c) (due := 2) (by omega)
      obtain ⟨q, hq⟩ : ∃ q, askedErr c 2 = q := ⟨_, rfl⟩
      rw [hq] at hne ⊢
      have hqb : (q != 0) = true := by simpa using hne
      have hqb2 : (q == 0) = false := by simpa using hne
      have Hq := hide hq
      clear hq
      go_enter Try.func17, Try.ntmps17
      go_upto_region 2 with fail
      rw [← Hw0.out]
      have e1 := hbox w0 (later_refl _)
      have c0 := e1 0
      have c1 := e1 1
      have c2 := e1 2
      have c3 := e1 3
      have c4 := e1 4
      simp only [List.getElem?_toArray, List.getElem?_cons_zero, List.getElem?_cons_succ] at c0 c1 c2 c3 c4
      have a0 := ha0 w0 (later_refl _)
      clear e1
      go_wp2_with fail
      refine (ticket_eq (k1 := k1) (k2 := k2) (k3 := k3) (A1 := A1) (A2 := A2) (A3 := A3) (n1 := n1) (n3 := n3) (c := c) Ha.out w0 (by omega)).mono ?_
      rintro e w1 ⟨rfl, hL1⟩
      have e2 := hbox w1 hL1
      have c0' := e2 0
      have c1' := e2 1
      have c2' := e2 2
      have c3' := e2 3
      have c4' := e2 4
      simp only [List.getElem?_toArray, List.getElem?_cons_zero, List.getElem?_cons_succ] at c0' c1' c2' c3' c4'
      have a1 := ha0 w1 hL1
      have b1 := hb0 w1 hL1
      clear e2
      go_wp2_with fail
      refine (ticket_eq (k1 := k1) (k2 := k2) (k3 := k3) (A1 := A1) (A2 := A2) (A3 := A3) (n1 := n1) (n3 := n3) (c := c) Hb.out w1 (by omega)).mono ?_
      rintro e w2 ⟨rfl, hL2⟩
      have hL02 := Later.trans hL1 hL2
      clear c0' c1' c2' c3' c4' a1 b1
      have e2 := hbox w2 hL02
      have c0' := e2 0
      have c1' := e2 1
      have c2' := e2 2
      have c3' := e2 3
      have c4' := e2 4
      simp only [List.getElem?_toArray, List.getElem?_cons_zero, List.getElem?_cons_succ] at c0' c1' c2' c3' c4'
      have a1 := ha0 w2 hL02
      have b1 := hb0 w2 hL02
      clear e2
      go_wp2_with fail
      refine (asked_err (k1 := k1) (k2 := k2) (k3 := k3) _ (hc0.later hL02) hn1 hn2 hn3 Hq.out hne).mono ?_
      rintro e w5 ⟨rfl, hL5⟩
      go_wp2_with fail
      refine bodyPost_ret (v := .tuple #[.int .i64 0, .int .i64 q]) ?_ rfl ⟨by rw [Hso.out], Later.trans hL0 (Later.trans hL02 (later_alloc hL5 _))⟩
      simp [results, Try.results17, go_sem]
    | true =>
      have Hb := hide (htb.symm.trans h2)
      by_cases hab : a = b
      · have hd : clashDue c a b = 6 := by unfold clashDue; rw [if_neg (by rw [h1, h2]; simp), if_pos hab]
        have Hso : Hid (clashOut c a b = 0) := by show _ = _; unfold clashOut; rw [hd, if_neg (askedErr_ne (by omega))]
        rw [hd]
        have hbb : (a == b) = true := by simpa using hab
        clear hd h1 h2 hta htb hab
        have hne := askedErr_ne (c := c) (due := 6) (by omega)
        obtain ⟨q, hq⟩ : ∃ q, askedErr c 6 = q := ⟨_, rfl⟩
        rw [hq] at hne ⊢
        have hqb : (q != 0) = true := by simpa using hne
        have hqb2 : (q == 0) = false := by simpa using hne
        have Hq := hide hq
        clear hq
        go_enter Try.func17, Try.ntmps17
        go_upto_region 2 with fail
        rw [← Hw0.out]
        have e1 := hbox w0 (later_refl _)
        have c0 := e1 0
        have c1 := e1 1
        have c2 := e1 2
        have c3 := e1 3
        have c4 := e1 4
        simp only [List.getElem?_toArray, List.getElem?_cons_zero, List.getElem?_cons_succ] at c0 c1 c2 c3 c4
        have a0 := ha0 w0 (later_refl _)
        clear e1
        go_wp2_with fail
        refine (ticket_eq (k1 := k1) (k2 := k2) (k3 := k3) (A1 := A1) (A2 := A2) (A3 := A3) (n1 := n1) (n3 := n3) (c := c) Ha.out w0 (by omega)).mono ?_
        rintro e w1 ⟨rfl, hL1⟩
        have e2 := hbox w1 hL1
        have c0' := e2 0
        have c1' := e2 1
        have c2' := e2 2
        have c3' := e2 3
        have c4' := e2 4
        simp only [List.getElem?_toArray, List.getElem?_cons_zero, List.getElem?_cons_succ] at c0' c1' c2' c3' c4'
        have a1 := ha0 w1 hL1
        have b1 := hb0 w1 hL1
        clear e2
        go_wp2_with fail
        refine (ticket_eq (k1 := k1) (k2 := k2) (k3 := k3) (A1 := A1) (A2 := A2) (A3 := A3) (n1 := n1) (n3 := n3) (c := c) Hb.out w1 (by omega)).mono ?_
        rintro e w2 ⟨rfl, hL2⟩
        have hL02 := Later.trans hL1 hL2
        clear c0' c1' c2' c3' c4' a1 b1
        have e2 := hbox w2 hL02
        have c0' := e2 0
        have c1' := e2 1
        have c2' := e2 2
        have c3' := e2 3
        have c4' := e2 4
        simp only [List.getElem?_toArray, List.getElem?_cons_zero, List.getElem?_cons_succ] at c0' c1' c2' c3' c4'
        have a1 := ha0 w2 hL02
        have b1 := hb0 w2 hL02
        clear e2
        go_wp2_with fail
        refine (asked_err (k1 := k1) (k2 := k2) (k3 := k3) _ (hc0.later hL02) hn1 hn2 hn3 Hq.out hne).mono ?_
        rintro e w5 ⟨rfl, hL5⟩
        go_wp2_with fail
        refine bodyPost_ret (v := .tuple #[.int .i64 0, .int .i64 q]) ?_ rfl ⟨by rw [Hso.out], Later.trans hL0 (Later.trans hL02 (later_alloc hL5 _))⟩
        simp [results, Try.results17, go_sem]
      · have hd : clashDue c a b = 0 := by unfold clashDue; rw [if_neg (by rw [h1, h2]; simp), if_neg hab]
        have hbb : (a == b) = false := by simpa using hab
        have hta2 : 0 ≤ a ∧ a ≤ (n2 : Int) - 1 := by have := Ha.out; unfold inB at this; simpa using this
        have htb2 : 0 ≤ b ∧ b ≤ (n2 : Int) - 1 := by have := Hb.out; unfold inB at this; simpa using this
        rw [hd]
        clear h1 h2 hta htb
        by_cases he : askedErr c 0 = 0
        · obtain ⟨hf, _, htn⟩ := askedErr_zero he
          have ok := okH_of_fault hf
          have htl := truthsP_len hf
          have herr := truthsP_isErr ok
          obtain ⟨g, hg⟩ : ∃ g, vP (fun d => clashB c d a.toNat b.toNat) (truthsP c) = g := ⟨_, rfl⟩
          have Hso : Hid (clashOut c a b = g) := by show _ = _; unfold clashOut; rw [hd, if_pos he, hg]
          rw [he]
          have Hhe := hide he
          have Hg := hide hg
          clear hf he hg hd hab
          go_enter Try.func17, Try.ntmps17
          go_upto_region 2 with fail
          rw [← Hw0.out]
          have e1 := hbox w0 (later_refl _)
          have c0 := e1 0
          have c1 := e1 1
          have c2 := e1 2
          have c3 := e1 3
          have c4 := e1 4
          simp only [List.getElem?_toArray, List.getElem?_cons_zero, List.getElem?_cons_succ] at c0 c1 c2 c3 c4
          have a0 := ha0 w0 (later_refl _)
          clear e1
          go_wp2_with fail
          refine (ticket_eq (k1 := k1) (k2 := k2) (k3 := k3) (A1 := A1) (A2 := A2) (A3 := A3) (n1 := n1) (n3 := n3) (c := c) Ha.out w0 (by omega)).mono ?_
          rintro e w1 ⟨rfl, hL1⟩
          have e2 := hbox w1 hL1
          have c0' := e2 0
          have c1' := e2 1
          have c2' := e2 2
          have c3' := e2 3
          have c4' := e2 4
          simp only [List.getElem?_toArray, List.getElem?_cons_zero, List.getElem?_cons_succ] at c0' c1' c2' c3' c4'
          have a1 := ha0 w1 hL1
          have b1 := hb0 w1 hL1
          clear e2
          go_wp2_with fail
          refine (ticket_eq (k1 := k1) (k2 := k2) (k3 := k3) (A1 := A1) (A2 := A2) (A3 := A3) (n1 := n1) (n3 := n3) (c := c) Hb.out w1 (by omega)).mono ?_
          rintro e w2 ⟨rfl, hL2⟩
          have hL02 := Later.trans hL1 hL2
          clear c0' c1' c2' c3' c4' a1 b1
          have e2 := hbox w2 hL02
          have c0' := e2 0
          have c1' := e2 1
          have c2' := e2 2
          have c3' := e2 3
          have c4' := e2 4
          simp only [List.getElem?_toArray, List.getElem?_cons_zero, List.getElem?_cons_succ] at c0' c1' c2' c3' c4'
          have a1 := ha0 w2 hL02
          have b1 := hb0 w2 hL02
          clear e2
          go_wp2_with fail
          refine (asked_ok (k1 := k1) (k2 := k2) (k3 := k3) _ (hc0.later hL02) hn1 hn2 hn3 Hhe.out).mono ?_
          rintro e w5 ⟨bw, bm, At, kt, rfl, hL5, hWK5⟩
          obtain ⟨w6, hw6⟩ : ∃ X, X = w5.alloc (.cells #[.pointer (some ⟨bw, 0, none⟩)] 91) := ⟨_, rfl⟩
          have hb6 := box_cells w5 #[.pointer (some ⟨bw, 0, none⟩)] 91
          rw [← hw6] at hb6
          have hL56 : Later w5 w6 := by rw [hw6]; exact later_alloc (later_refl _) _
          have hWK := hWK5.later hL56
          have hL06 := Later.trans hL02 (Later.trans hL5 hL56)
          have hb60 := fun W (h : Later w6 W) => hb6 W h 0
          simp only [List.getElem?_toArray, List.getElem?_cons_zero, List.getElem?_cons_succ] at hb60
          have hb61 := hb60 w6 (later_refl _)
          have hai : ((a.toNat : Nat) : Int) = a := by omega
          have hbi : ((b.toNat : Nat) : Int) = b := by omega
          have hv := verdict_clash_calls (q1 := w5.heap.size) (q2 := w.heap.size + 1) (q3 := w.heap.size + 1 + 1) (fun d => clashB c d a.toNat b.toNat) w6 hWK (by omega) (fun W' hW' d hd e0 e1 e2 e3 hp => Clash1_calls W' (hWK.later hW') ok (herr d hd) hp.out (by omega) (by omega) (hb60 W' hW') (by rw [hai]; exact ha0 W' (Later.trans hL06 hW')) (by rw [hbi]; exact hb0 W' (Later.trans hL06 hW')))
          rw [Hg.out] at hv
          have Hv := hide hv
          have Hw6 := hide hw6
          clear hv Hg hw6 hb6 hai hbi hWK5 c0' c1' c2' c3' c4' c0 c1 c2 c3 c4
          go_upto_region 7 with fail
          rw [← Hw6.out]
          go_wp2_with fail
          refine Hv.out.mono ?_
          rintro e w7 ⟨rfl, hL7⟩
          go_wp2_with fail
          refine bodyPost_ret (v := .tuple #[.int .i64 g, .int .i64 0]) ?_ rfl ⟨by rw [Hso.out], Later.trans hL0 (Later.trans hL06 hL7)⟩
          simp [results, Try.results17, go_sem]
        · have Hso : Hid (clashOut c a b = 0) := by show _ = _; unfold clashOut; rw [hd, if_neg he]
          obtain ⟨q, hq⟩ : ∃ q, askedErr c 0 = q := ⟨_, rfl⟩
          rw [hq] at he ⊢
          have hqb : (q != 0) = true := by simpa using he
          have hqb2 : (q == 0) = false := by simpa using he
          have Hq := hide hq
          clear hq hd hab
          go_enter Try.func17, Try.ntmps17
          go_upto_region 2 with fail
          rw [← Hw0.out]
          have e1 := hbox w0 (later_refl _)
          have c0 := e1 0
          have c1 := e1 1
          have c2 := e1 2
          have c3 := e1 3
          have c4 := e1 4
          simp only [List.getElem?_toArray, List.getElem?_cons_zero, List.getElem?_cons_succ] at c0 c1 c2 c3 c4
          have a0 := ha0 w0 (later_refl _)
          clear e1
          go_wp2_with fail
          refine (ticket_eq (k1 := k1) (k2 := k2) (k3 := k3) (A1 := A1) (A2 := A2) (A3 := A3) (n1 := n1) (n3 := n3) (c := c) Ha.out w0 (by omega)).mono ?_
          rintro e w1 ⟨rfl, hL1⟩
          have e2 := hbox w1 hL1
          have c0' := e2 0
          have c1' := e2 1
          have c2' := e2 2
          have c3' := e2 3
          have c4' := e2 4
          simp only [List.getElem?_toArray, List.getElem?_cons_zero, List.getElem?_cons_succ] at c0' c1' c2' c3' c4'
          have a1 := ha0 w1 hL1
          have b1 := hb0 w1 hL1
          clear e2
          go_wp2_with fail
          refine (ticket_eq (k1 := k1) (k2 := k2) (k3 := k3) (A1 := A1) (A2 := A2) (A3 := A3) (n1 := n1) (n3 := n3) (c := c) Hb.out w1 (by omega)).mono ?_
          rintro e w2 ⟨rfl, hL2⟩
          have hL02 := Later.trans hL1 hL2
          clear c0' c1' c2' c3' c4' a1 b1
          have e2 := hbox w2 hL02
          have c0' := e2 0
          have c1' := e2 1
          have c2' := e2 2
          have c3' := e2 3
          have c4' := e2 4
          simp only [List.getElem?_toArray, List.getElem?_cons_zero, List.getElem?_cons_succ] at c0' c1' c2' c3' c4'
          have a1 := ha0 w2 hL02
          have b1 := hb0 w2 hL02
          clear e2
          go_wp2_with fail
          refine (asked_err (k1 := k1) (k2 := k2) (k3 := k3) _ (hc0.later hL02) hn1 hn2 hn3 Hq.out he).mono ?_
          rintro e w5 ⟨rfl, hL5⟩
          go_wp2_with fail
          refine bodyPost_ret (v := .tuple #[.int .i64 0, .int .i64 q]) ?_ rfl ⟨by rw [Hso.out], Later.trans hL0 (Later.trans hL02 (later_alloc hL5 _))⟩
          simp [results, Try.results17, go_sem]
end Go.Proofs.Ytcffgjhmpgdfpaa

/- The program's Free: walk. -/
namespace Go.Proofs.Ytcffgjhmpgdfpaa
open Go Go.RowKit
attribute [local go_sem] later_alloc2 later_alloc3 later_alloc4

theorem open_eq {A1 A2 A3 : Option Addr} {n1 k1 n2 k2 n3 k3 : Nat} {c : Hou} {tub : Int} {b : Bool} (hb : isOpen c tub = b) (w : World) (hc : CV w c A1 n1 A2 n2 A3 n3) (hm3 : n3 ≤ 1000) (hm2 : n2 ≤ 1000) :
    Calls Try.prog 37 #[(.agg #[.int .i64 c.hour, .int .i64 c.grace, .slice A1 n1 k1, .slice A2 n2 k2, .slice A3 n3 k3]), .int .i64 tub] w fun e w' => e = .returned (.bool b) ∧ Later w w' := by
  rw [← hb]; exact open_calls w hc hm3 hm2
set_option maxRecDepth 100000 in
set_option maxHeartbeats 1000000 in
theorem FreeP_calls {A1 A2 A3 : Option Addr} {n1 k1 n2 k2 n3 k3 : Nat} {c : Hou} {tub : Int} (w : World) (hc : CV w c A1 n1 A2 n2 A3 n3) (hn1 : n1 ≤ 1000) (hn2 : n2 ≤ 1000) (hn3 : n3 ≤ 1000) :
    Calls Try.prog 16 #[(.agg #[.int .i64 c.hour, .int .i64 c.grace, .slice A1 n1 k1, .slice A2 n2 k2, .slice A3 n3 k3]), .int .i64 tub] w fun e w' => e = .returned (.tuple #[.agg #[.int .i64 (freeOut c tub).1, .int .i64 (freeOut c tub).2], .int .i64 (askedErr c (freeDue c tub))]) ∧ Later w w' := by
  obtain ⟨w0, hw0⟩ : ∃ X, X = ((w.alloc (.cells #[.int .i64 c.hour, .int .i64 c.grace, .slice A1 n1 k1, .slice A2 n2 k2, .slice A3 n3 k3] 46))).alloc (.cells #[.int .i64 0, .int .i64 0] 65) := ⟨_, rfl⟩
  have hL0 : Later w w0 := by rw [hw0]; exact later_alloc (later_alloc (later_refl _) _) _
  have k0 : Blk w0 w.heap.size 46 #[.int .i64 c.hour, .int .i64 c.grace, .slice A1 n1 k1, .slice A2 n2 k2, .slice A3 n3 k3] := by rw [hw0]; exact (Blk.new _ _ _).alloc _
  have k1' : Blk w0 (w.heap.size + 1) 65 #[.int .i64 0, .int .i64 0] := by
    have := Blk.new (w.alloc (.cells #[.int .i64 c.hour, .int .i64 c.grace, .slice A1 n1 k1, .slice A2 n2 k2, .slice A3 n3 k3] 46)) 65 #[.int .i64 0, .int .i64 0]
    rw [World.size_alloc] at this
    rw [hw0]; exact this
  have hbox := fun W (hW : Later w0 W) => (k0.later hW).cell
  have hr := fun W (hW : Later w0 W) => k1'.later hW
  have hc0 := hc.later hL0
  have Hw0 := hide hw0
  have Hr := hide hr
  clear hw0 k0 k1' hr
  cases h1 : inB tub 0 8 with
  | false =>
    have hd : freeDue c tub = 2 := by unfold freeDue; rw [if_pos h1]
    have Hso : Hid (freeOut c tub = (0, 0)) := by show _ = _; unfold freeOut; rw [hd, if_neg (askedErr_ne (by omega))]
    rw [hd]
    have Ht := hide h1
    clear hd h1
    have hne := askedErr_ne (c := c) (due := 2) (by omega)
    obtain ⟨q, hq⟩ : ∃ q, askedErr c 2 = q := ⟨_, rfl⟩
    rw [hq] at hne ⊢
    have hqb : (q != 0) = true := by simpa using hne
    have hqb2 : (q == 0) = false := by simpa using hne
    have Hq := hide hq
    clear hq
    go_enter Try.func16, Try.ntmps16
    go_upto_region 2 with fail
    rw [← Hw0.out]
    have e1 := hbox w0 (later_refl _)
    have c0 := e1 0
    have c1 := e1 1
    have c2 := e1 2
    have c3 := e1 3
    have c4 := e1 4
    simp only [List.getElem?_toArray, List.getElem?_cons_zero, List.getElem?_cons_succ] at c0 c1 c2 c3 c4
    clear e1
    go_wp2_with (go_at_call 36; refine (tub_eq Ht.out _).mono ?_; rintro e w' ⟨rfl, rfl⟩)
    refine (asked_err (k1 := k1) (k2 := k2) (k3 := k3) _ (hc0.later (later_refl _)) hn1 hn2 hn3 Hq.out hne).mono ?_
    rintro e w5 ⟨rfl, hL5⟩
    have hL05 := Later.trans (later_refl _) hL5
    have hb5 := Hr.out w5 hL05
    have f0 := hb5.frozen 0
    have f1 := hb5.frozen 1
    have g0 := hb5.cell 0
    have g1 := hb5.cell 1
    simp only [List.getElem?_toArray, List.getElem?_cons_zero, List.getElem?_cons_succ] at g0 g1
    have hLf := later_drop (later_drop (Later.trans hL0 hL05) (a := ⟨w.heap.size + 1, 0, none⟩) (u := .int .i64 0) (Nat.le_succ _)) (a := ⟨w.heap.size + 1, 1, none⟩) (u := .int .i64 0) (Nat.le_succ _)
    have HLf := hide hLf
    clear hb5 hLf
    go_wp2_with fail
    refine bodyPost_ret (v := .tuple #[.agg #[.int .i64 0, .int .i64 0], .int .i64 q]) ?_ rfl ⟨by rw [Hso.out], HLf.out⟩
    simp [results, Try.results16, go_sem, *]
  | true =>
    have Ht := hide h1
    cases h2 : isOpen c tub with
    | true =>
      have hd : freeDue c tub = 8 := by unfold freeDue; rw [if_neg (by simp [h1]), if_pos h2]
      have Hso : Hid (freeOut c tub = (0, 0)) := by show _ = _; unfold freeOut; rw [hd, if_neg (askedErr_ne (by omega))]
      rw [hd]
      have Ho := hide h2
      clear hd h1 h2
      have hne := askedErr_ne (c := c) (due := 8) (by omega)
      obtain ⟨q, hq⟩ : ∃ q, askedErr c 8 = q := ⟨_, rfl⟩
      rw [hq] at hne ⊢
      have hqb : (q != 0) = true := by simpa using hne
      have hqb2 : (q == 0) = false := by simpa using hne
      have Hq := hide hq
      clear hq
      go_enter Try.func16, Try.ntmps16
      go_upto_region 2 with fail
      rw [← Hw0.out]
      have e1 := hbox w0 (later_refl _)
      have c0 := e1 0
      have c1 := e1 1
      have c2 := e1 2
      have c3 := e1 3
      have c4 := e1 4
      simp only [List.getElem?_toArray, List.getElem?_cons_zero, List.getElem?_cons_succ] at c0 c1 c2 c3 c4
      clear e1
      go_wp2_with (go_at_call 36; refine (tub_eq Ht.out _).mono ?_; rintro e w' ⟨rfl, rfl⟩)
      refine (open_eq (k1 := k1) (k2 := k2) (k3 := k3) Ho.out w0 hc0 hn3 hn2).mono ?_
      rintro e w1 ⟨rfl, hL1⟩
      have e2 := hbox w1 hL1
      have c0' := e2 0
      have c1' := e2 1
      have c2' := e2 2
      have c3' := e2 3
      have c4' := e2 4
      simp only [List.getElem?_toArray, List.getElem?_cons_zero, List.getElem?_cons_succ] at c0' c1' c2' c3' c4'
      clear e2
      go_wp2_with fail
      refine (asked_err (k1 := k1) (k2 := k2) (k3 := k3) _ (hc0.later hL1) hn1 hn2 hn3 Hq.out hne).mono ?_
      rintro e w5 ⟨rfl, hL5⟩
      have hL05 := Later.trans hL1 hL5
      have hb5 := Hr.out w5 hL05
      have f0 := hb5.frozen 0
      have f1 := hb5.frozen 1
      have g0 := hb5.cell 0
      have g1 := hb5.cell 1
      simp only [List.getElem?_toArray, List.getElem?_cons_zero, List.getElem?_cons_succ] at g0 g1
      have hLf := later_drop (later_drop (Later.trans hL0 hL05) (a := ⟨w.heap.size + 1, 0, none⟩) (u := .int .i64 0) (Nat.le_succ _)) (a := ⟨w.heap.size + 1, 1, none⟩) (u := .int .i64 0) (Nat.le_succ _)
      have HLf := hide hLf
      clear hb5 hLf
      go_wp2_with fail
      refine bodyPost_ret (v := .tuple #[.agg #[.int .i64 0, .int .i64 0], .int .i64 q]) ?_ rfl ⟨by rw [Hso.out], HLf.out⟩
      simp [results, Try.results16, go_sem, *]
    | false =>
      have hd : freeDue c tub = 0 := by unfold freeDue; rw [if_neg (by simp [h1]), if_neg (by simp [h2])]
      have Ho := hide h2
      rw [hd]
      clear h1 h2
      by_cases he : askedErr c 0 = 0
      · obtain ⟨hf, _, htn⟩ := askedErr_zero he
        have ok := okH_of_fault hf
        have htl := truthsP_len hf
        have herr := truthsP_isErr ok
        obtain ⟨⟨r1, r2⟩, hg⟩ : ∃ g, bP (freeF c tub) (truthsP c) = g := ⟨_, rfl⟩
        have Hso : Hid (freeOut c tub = (r1, r2)) := by show _ = _; unfold freeOut; rw [hd, if_pos he, hg]
        rw [he]
        have Hhe := hide he
        have Hg := hide hg
        clear hf he hg hd
        go_enter Try.func16, Try.ntmps16
        go_upto_region 2 with fail
        rw [← Hw0.out]
        have e1 := hbox w0 (later_refl _)
        have c0 := e1 0
        have c1 := e1 1
        have c2 := e1 2
        have c3 := e1 3
        have c4 := e1 4
        simp only [List.getElem?_toArray, List.getElem?_cons_zero, List.getElem?_cons_succ] at c0 c1 c2 c3 c4
        clear e1
        go_wp2_with (go_at_call 36; refine (tub_eq Ht.out _).mono ?_; rintro e w' ⟨rfl, rfl⟩)
        refine (open_eq (k1 := k1) (k2 := k2) (k3 := k3) Ho.out w0 hc0 hn3 hn2).mono ?_
        rintro e w1 ⟨rfl, hL1⟩
        have e2 := hbox w1 hL1
        have c0' := e2 0
        have c1' := e2 1
        have c2' := e2 2
        have c3' := e2 3
        have c4' := e2 4
        simp only [List.getElem?_toArray, List.getElem?_cons_zero, List.getElem?_cons_succ] at c0' c1' c2' c3' c4'
        clear e2
        go_wp2_with fail
        refine (asked_ok (k1 := k1) (k2 := k2) (k3 := k3) _ (hc0.later hL1) hn1 hn2 hn3 Hhe.out).mono ?_
        rintro e w5 ⟨bw, bm, At, kt, rfl, hL5, hWK⟩
        have hL05 := Later.trans hL1 hL5
        have hv := bounds_from_calls (freeF c tub) (x := tub) w5 hWK htn (by omega) (fun W' hW' d hd e0 e1 e2 e3 hp => from_calls W' (hWK.later hW') ok (herr d hd) hp.out)
        rw [Hg.out] at hv
        have Hv := hide hv
        clear hv Hg c0' c1' c2' c3' c4' c0 c1 c2 c3 c4
        go_wp2_with fail
        refine Hv.out.mono ?_
        rintro e w7 ⟨rfl, hL7⟩
        have hL07 := Later.trans hL05 hL7
        have hb5 := Hr.out w7 hL07
        have f0 := hb5.frozen 0
        have f1 := hb5.frozen 1
        have g0 := hb5.cell 0
        have g1 := hb5.cell 1
        simp only [List.getElem?_toArray, List.getElem?_cons_zero, List.getElem?_cons_succ] at g0 g1
        have hLf := later_drop (later_drop (Later.trans hL0 hL07) (a := ⟨w.heap.size + 1, 0, none⟩) (u := .int .i64 r1) (Nat.le_succ _)) (a := ⟨w.heap.size + 1, 1, none⟩) (u := .int .i64 r2) (Nat.le_succ _)
        have HLf := hide hLf
        clear hb5 hLf
        go_wp2_with fail
        refine bodyPost_ret (v := .tuple #[.agg #[.int .i64 r1, .int .i64 r2], .int .i64 0]) ?_ rfl ⟨by rw [Hso.out], HLf.out⟩
        simp [results, Try.results16, go_sem, *]
      · have Hso : Hid (freeOut c tub = (0, 0)) := by show _ = _; unfold freeOut; rw [hd, if_neg he]
        obtain ⟨q, hq⟩ : ∃ q, askedErr c 0 = q := ⟨_, rfl⟩
        rw [hq] at he ⊢
        have hqb : (q != 0) = true := by simpa using he
        have hqb2 : (q == 0) = false := by simpa using he
        have Hq := hide hq
        clear hq hd
        go_enter Try.func16, Try.ntmps16
        go_upto_region 2 with fail
        rw [← Hw0.out]
        have e1 := hbox w0 (later_refl _)
        have c0 := e1 0
        have c1 := e1 1
        have c2 := e1 2
        have c3 := e1 3
        have c4 := e1 4
        simp only [List.getElem?_toArray, List.getElem?_cons_zero, List.getElem?_cons_succ] at c0 c1 c2 c3 c4
        clear e1
        go_wp2_with (go_at_call 36; refine (tub_eq Ht.out _).mono ?_; rintro e w' ⟨rfl, rfl⟩)
        refine (open_eq (k1 := k1) (k2 := k2) (k3 := k3) Ho.out w0 hc0 hn3 hn2).mono ?_
        rintro e w1 ⟨rfl, hL1⟩
        have e2 := hbox w1 hL1
        have c0' := e2 0
        have c1' := e2 1
        have c2' := e2 2
        have c3' := e2 3
        have c4' := e2 4
        simp only [List.getElem?_toArray, List.getElem?_cons_zero, List.getElem?_cons_succ] at c0' c1' c2' c3' c4'
        clear e2
        go_wp2_with fail
        refine (asked_err (k1 := k1) (k2 := k2) (k3 := k3) _ (hc0.later hL1) hn1 hn2 hn3 Hq.out he).mono ?_
        rintro e w5 ⟨rfl, hL5⟩
        have hL05 := Later.trans hL1 hL5
        have hb5 := Hr.out w5 hL05
        have f0 := hb5.frozen 0
        have f1 := hb5.frozen 1
        have g0 := hb5.cell 0
        have g1 := hb5.cell 1
        simp only [List.getElem?_toArray, List.getElem?_cons_zero, List.getElem?_cons_succ] at g0 g1
        have hLf := later_drop (later_drop (Later.trans hL0 hL05) (a := ⟨w.heap.size + 1, 0, none⟩) (u := .int .i64 0) (Nat.le_succ _)) (a := ⟨w.heap.size + 1, 1, none⟩) (u := .int .i64 0) (Nat.le_succ _)
        have HLf := hide hLf
        clear hb5 hLf
        go_wp2_with fail
        refine bodyPost_ret (v := .tuple #[.agg #[.int .i64 0, .int .i64 0], .int .i64 q]) ?_ rfl ⟨by rw [Hso.out], HLf.out⟩
        simp [results, Try.results16, go_sem, *]
end Go.Proofs.Ytcffgjhmpgdfpaa

/- The program's Look: walk. -/
namespace Go.Proofs.Ytcffgjhmpgdfpaa
open Go Go.RowKit
attribute [local go_sem] later_alloc2 later_alloc3 later_alloc4

theorem lookTo_succ (f : Nat → Int) (m : Int) (i : Nat) : lookTo f m (i + 1) = if f i < (lookTo f m i).2 then (i, f i) else lookTo f m i := rfl
theorem mostP_succ (l : List (List Int)) (k : Nat) (lo : Int) (n : Nat) : mostP l k lo (n + 1) = max (mostP l k lo n) (cnt l k (lo + n) : Int) := rfl
end Go.Proofs.Ytcffgjhmpgdfpaa

/- The reference's IsTruth, Hours, IsLong: walks. -/
namespace Go.Proofs.Ytcffgjhmpgdfpaa
open Go Go.RowKit

theorem hoursOf_lt {hour stay : Int} (h1 : 1 ≤ hour) (k : Nat) : (k : Int) * hour < stay ↔ (k : Int) < hoursOf hour stay := by
  unfold hoursOf
  split
  · rename_i h
    have : 0 ≤ (k : Int) * hour := Int.mul_nonneg (by omega) (by omega)
    omega
  · rw [Int.lt_iff_add_one_le (a := (k : Int)), Int.le_ediv_iff_mul_le (by omega), Int.add_mul, Int.one_mul]
    omega
theorem hoursOf_mul {hour stay : Int} (h1 : 1 ≤ hour ∧ hour ≤ 120) (hs : stay ≤ 2000) (k : Nat) (hk : (k : Int) ≤ hoursOf hour stay) : 0 ≤ (k : Int) * hour ∧ (k : Int) * hour ≤ 2200 := by
  refine ⟨Int.mul_nonneg (by omega) (by omega), ?_⟩
  unfold hoursOf at hk
  split at hk
  · have : k = 0 := by omega
    subst this; simp
  · rw [Int.le_ediv_iff_mul_le (by omega)] at hk
    omega
end Go.Proofs.Ytcffgjhmpgdfpaa

/- The reference's CameBefore, DoClash: walks. -/
namespace Go.Proofs.Ytcffgjhmpgdfpaa
open Go Go.RowKit

theorem ofR_get {c : Hou} {t : Int} {a b : Nat} {l : List Nat} (h : ofR c t = a :: b :: l) : (nats (ofR c t))[1]? = some (b : Int) := by rw [h]; rfl
theorem ofR_get0 {c : Hou} {t : Int} {a : Nat} {l : List Nat} (h : ofR c t = a :: l) : (nats (ofR c t))[0]? = some (a : Int) := by rw [h]; rfl
end Go.Proofs.Ytcffgjhmpgdfpaa

/- XFacts, more: an operation that waits for the value of the operation before it (in a long region `hdep j f h` does not come back: its type is unfolded). -/
namespace Go.Proofs.Ytcffgjhmpgdfpaa
open Go Go.RowKit
theorem fact_last {S : List Slot} {s : Slot} {j : Nat} {x : Value} {W : World} (h : S.length = j) (hf : factAt (S ++ [s]) j x W) : s.fact x W := by
  unfold factAt at hf
  rw [List.getElem?_append_right (by omega), h, Nat.sub_self] at hf
  exact hf
theorem dep_last {ops : Array Oper} {k : Nat} {S : List Slot} {s : Slot} {xs : Nat → Value} {W : World} (hdep : ∀ j f, reachB ops f k j = true → factAt (S ++ [s]) j (xs j) W) (j : Nat) (hl : S.length = j) (f : Nat) (hr : reachB ops f k j = true) : s.fact (xs j) W :=
  fact_last hl (hdep j f hr)
theorem lin_det_last {P : Program} {ops : Array Oper} {Q : Exit → Act → World → Prop} {R : World → World → Prop} {w0 : World} {es : List Nat} {tail l : List Oper} {o : Oper} {k j : Nat} {S : List Slot} {s : Slot} {F F' : (Nat → Value) → Act} {v : Value}
    (he : es.contains k = false) (hw : ∀ xs, Region.wanted o (yielded ops (F xs).tmps) = true) (hr : reachB ops 1 k j = true) (hj : S.length = j) (h : ∀ xs W, R w0 W → s.fact (xs j) W → o.quietAt P (F xs) (R W) W v)
    (hF : ∀ xs, (F xs).put o.dst v = F' xs) (hs : Lin P ops Q R w0 es tail l (k + 1) ((S ++ [s]) ++ [.det v]) F') : Lin P ops Q R w0 es tail (o :: l) k (S ++ [s]) F :=
  lin_det he hw (fun xs W hW hd => h xs W hW (dep_last hd j hj 1 hr)) hF hs
end Go.Proofs.Ytcffgjhmpgdfpaa

/- The reference's DoClash: walk. -/
namespace Go.Proofs.Ytcffgjhmpgdfpaa
open Go Go.RowKit

end Go.Proofs.Ytcffgjhmpgdfpaa

/- The reference's IsPaid, IsOpen: walks. -/
namespace Go.Proofs.Ytcffgjhmpgdfpaa
open Go Go.RowKit

def paidRow (c : Hou) (d : List Int) (a : Nat) : Bool := !isLong c d a && (List.range a).all fun b => !clashB c d a b
theorem isPaid_rows (c : Hou) (d : List Int) : isPaid c d = (List.range c.tickets.length).all (paidRow c d) := rfl
def openRow (c : Hou) (tub : Int) (i : Nat) : Bool := decide ((tickAt c i).1 = tub) && decide ((ofR c i).length = 1)
end Go.Proofs.Ytcffgjhmpgdfpaa

/- The reference's Verdict, Long, Clash, Paid: walks. -/
namespace Go.Proofs.Ytcffgjhmpgdfpaa
open Go Go.RowKit

def clashF (c : Hou) (a b : Nat) (d : List Int) : Bool := clashB c d a b
end Go.Proofs.Ytcffgjhmpgdfpaa

/- The helpers of the laws of chapter 01: walks. -/
namespace Go.Proofs.Ytcffgjhmpgdfpaa
open Go Go.RowKit

theorem run_app_nil {P : Program} {w : World} {base : Nat} (t ty e : TypeId) (i : TypeInfo) (size : Nat) (ht : P.underlying t = some (.slice e)) (hi : P.info? e = some i)
    (v : Value) (n : Nat) (xs : List Value) (hown : w.ownsRow base e size v n xs) (c : Nat) : (Builtin.append_ #[t, t] ty #[v, .slice none 0 c]).run P w = .ok v w := by
  rcases hown.2 with ⟨rfl, rfl⟩ | ⟨g, cap, cur, rfl, _, _, hle, _⟩ <;> simp [Builtin.append_, run_underlying ht, sizeOf, typeInfo, hi, Builtin.lenOf, Builtin.firstCells, storeCells, *]
theorem appG_nil {P : Program} {ops : Array Oper} {rest : List Oper} {o : Oper} {a : Act} {Q : Exit → Act → World → Prop} {W : World} (hgd : o.guard = none) (base : Nat) (s x : Operand) (t : TypeId)
    (ho : o.op = .call { callee := .builtin .append, args := #[s, x], argTypes := #[t, t] }) (e : TypeId) (z : Value) (size bytes : Nat)
    (ht : P.underlying t = some (.slice e)) (hinfo : (P.info? e).map (fun i => (i.zero, i.size, i.bytes)) = some (some z, size, bytes))
    (v : Value) (n : Nat) (xs : List Value) (hs : a.eval s = v) (hown : W.ownsRow base e size v n xs) (c : Nat) (hx : a.eval x = .slice none 0 c)
    (h : wpList P ops Q rest (a.put o.dst v) W) :
    wpList P ops Q (o :: rest) a W := by
  refine wpList_plain hgd fun _ hK => ?_
  obtain ⟨i, hi, hz, h2, h3⟩ := info_parts hinfo
  have hr := run_app_nil (P := P) (w := W) t o.type e i size ht hi v n xs hown c
  unfold Oper.wp execOp
  simp only [ho, resolve, invoke, builtin, Sem.run_bind, Sem.run_pure, Result.andThen_ok, List.map_toArray, List.map_cons, List.map_nil, hs, hx, hr]
  exact hK _ _ h

/-- what list returns -/
def ListPost (l : List Int) (w : World) (e : Ending) (w' : World) : Prop :=
  ∃ A n k, e = .returned (.slice A n k) ∧ Later w w' ∧ RI w' A n l ∧ n ≤ k ∧ Fresh w w' A
/-- Thin, in plain words -/
def thinB (c : Hou) : Bool := decide (c.clocks.length ≤ 6) && decide (c.tickets.length ≤ 8) && decide (c.clips.length ≤ 12) && (decide (fault c ≠ 0) || (decide (c.clips.length ≤ 8) && decide (many c ≤ 60)))
theorem Thin_calls {A1 A2 A3 : Option Addr} {n1 k1 n2 k2 n3 k3 : Nat} {c : Hou} (w : World) (hc : CV w c A1 n1 A2 n2 A3 n3) (b1 : n1 ≤ 9223372036854775807) (b2 : n2 ≤ 9223372036854775807) (b3 : n3 ≤ 9223372036854775807) :
    Calls Try.prog 18 #[(.agg #[.int .i64 c.hour, .int .i64 c.grace, .slice A1 n1 k1, .slice A2 n2 k2, .slice A3 n3 k3])] w fun e w' => e = .returned (.bool (thinB c)) ∧ Later w w' := by
  have h1 := hc.ck.len
  have h2 := hc.tk.len
  have h3 := hc.cp.len
  obtain ⟨w0, hw0⟩ : ∃ W, W = (w.alloc (.cells #[.int .i64 c.hour, .int .i64 c.grace, .slice A1 n1 k1, .slice A2 n2 k2, .slice A3 n3 k3] 26)) := ⟨_, rfl⟩; have hbox : ∀ W, Later w0 W → ∀ i, W.cell? ⟨w.heap.size, i, none⟩ = #[.int .i64 c.hour, .int .i64 c.grace, .slice A1 n1 k1, .slice A2 n2 k2, .slice A3 n3 k3][i]? := (by rw [hw0]; exact box_cells w #[.int .i64 c.hour, .int .i64 c.grace, .slice A1 n1 k1, .slice A2 n2 k2, .slice A3 n3 k3] 26); have hL0 : Later w w0 := (by rw [hw0]; simp); have hc0 := hc.later hL0; have Hw0 := hide hw0; clear hw0
  by_cases hb : n1 ≤ 6 ∧ n2 ≤ 8 ∧ n3 ≤ 12
  · obtain ⟨l1, l2, l3⟩ := hb
    have t1 : ¬ (6 : Int) < (n1 : Int) := by omega
    have t2 : ¬ (8 : Int) < (n2 : Int) := by omega
    have t3 : ¬ (12 : Int) < (n3 : Int) := by omega
    obtain ⟨q, hq⟩ : ∃ q, fault c = q := ⟨_, rfl⟩
    have hfc := Fault_calls (k1 := k1) (k2 := k2) (k3 := k3) w0 hc0 (by omega) (by omega) (by omega)
    rw [hq] at hfc
    by_cases hq0 : q = 0
    · subst hq0
      have ok := okH_of_fault hq
      have okh : ∀ h ∈ c.clocks, -30 ≤ h.1 ∧ h.1 ≤ h.2 ∧ h.2 ≤ 30 := fun h hh => ok.clock h hh
      by_cases h8 : n3 ≤ 8
      · have h8b := decide_eq_true (show (n3 : Int) ≤ 8 by omega)
        have Htb : Hid (thinB c = decide (many c ≤ 60)) := by
          show _ = _
          unfold thinB
          rw [hq, ← h1, ← h2, ← h3, decide_eq_true l1, decide_eq_true l2, decide_eq_true l3, decide_eq_true h8]
          simp
        have hmr := many_range okh
        generalize hm : many c = m at *
        have Hm := hide hm
        have Hq := hide hq
        have Hfc := hide hfc
        have hbx4 := fun W (hW : Later w0 W) => hbox W hW 4
        simp only [List.getElem?_toArray, List.getElem?_cons_zero, List.getElem?_cons_succ] at hbx4
        clear hm hq hfc h1 h2 h3
        go_enter Try.func18, Try.ntmps18
        go_wp2_with fail
        rw [← Hw0.out]; clear Hw0
        refine Hfc.out.mono ?_
        rintro e w1 ⟨rfl, hL1⟩
        have hb4 := hbx4 _ hL1
        go_wp2_with fail
        refine (Many_calls _ (hc0.later hL1) okh (by omega)).mono ?_
        rw [Hm.out]
        rintro e w2 ⟨rfl, hL2⟩
        go_wp2_with fail
        go_ret
        exact ⟨by rw [Htb.out]; rfl, Later.trans hL0 (Later.trans hL1 hL2)⟩
      · have h8b : ¬ (n3 : Int) ≤ 8 := by omega
        have h8c := decide_eq_false h8b
        have Htb : Hid (thinB c = false) := by
          show _ = _
          unfold thinB
          rw [hq, ← h1, ← h2, ← h3, decide_eq_false h8]
          simp
        have Hfc := hide hfc
        have hbx4 := fun W (hW : Later w0 W) => hbox W hW 4
        simp only [List.getElem?_toArray, List.getElem?_cons_zero, List.getElem?_cons_succ] at hbx4
        clear hq hfc h1 h2 h3
        go_enter Try.func18, Try.ntmps18
        go_wp2_with fail
        rw [← Hw0.out]; clear Hw0
        refine Hfc.out.mono ?_
        rintro e w1 ⟨rfl, hL1⟩
        have hb4 := hbx4 _ hL1
        go_wp2_with fail
        go_ret
        exact ⟨by rw [Htb.out]; rfl, Later.trans hL0 hL1⟩
    · have Htb : Hid (thinB c = true) := by
        show _ = _
        unfold thinB
        rw [hq, ← h1, ← h2, ← h3, decide_eq_true l1, decide_eq_true l2, decide_eq_true l3]
        simp [hq0]
      have hqb : (q != 0) = true := by simpa using hq0
      have Hfc := hide hfc
      clear hfc hq hq0 h1 h2 h3
      go_enter Try.func18, Try.ntmps18
      go_wp2_with fail
      rw [← Hw0.out]; clear Hw0
      refine Hfc.out.mono ?_
      rintro e w1 ⟨rfl, hL1⟩
      go_wp2_with fail
      go_ret
      exact ⟨by rw [Htb.out]; rfl, Later.trans hL0 hL1⟩
  · have Htb : Hid (thinB c = false) := by
      show _ = _
      unfold thinB
      rw [← h1, ← h2, ← h3]
      simp
      omega
    clear h1 h2 h3
    by_cases l1 : n1 ≤ 6
    · have t1 : ¬ (6 : Int) < (n1 : Int) := by omega
      by_cases l2 : n2 ≤ 8
      · have t2 : ¬ (8 : Int) < (n2 : Int) := by omega
        have t3 : (12 : Int) < (n3 : Int) := by omega
        clear hb
        go_enter Try.func18, Try.ntmps18
        go_wp2_with fail
        go_ret
        exact ⟨by rw [Htb.out]; rfl, by rw [← Hw0.out]; exact hL0⟩
      · have t2 : (8 : Int) < (n2 : Int) := by omega
        clear hb
        go_enter Try.func18, Try.ntmps18
        go_wp2_with fail
        go_ret
        exact ⟨by rw [Htb.out]; rfl, by rw [← Hw0.out]; exact hL0⟩
    · have t1 : (6 : Int) < (n1 : Int) := by omega
      clear hb
      go_enter Try.func18, Try.ntmps18
      go_wp2_with fail
      go_ret
      exact ⟨by rw [Htb.out]; rfl, by rw [← Hw0.out]; exact hL0⟩

set_option maxRecDepth 100000 in
theorem lawTo_calls (lo hi : Int) (w : World) : Calls Try.prog 35 #[.agg #[.int .i64 lo, .int .i64 hi]] w fun e w' => e = .returned (.agg #[.int .i64 lo, .int .i64 hi]) ∧ Later w w' := by
  go_enter Try.func35, Try.ntmps35
  go_wp2_with fail
  refine bodyPost_ret (v := .agg #[.int .i64 lo, .int .i64 hi]) ?_ rfl ⟨rfl, ?_⟩
  · simp [results, Try.results35, go_sem]
  · (((repeat (first | exact (later_refl _) | refine later_drew ?_ | refine later_alloc ?_ _ | refine later_set ?_ _ (Nat.le_add_right _ _) _ | refine later_set ?_ _ (Nat.le_refl _) _)); done))
theorem RRI.nil {w : World} {A : Option Addr} : RRI w A 0 [] := ⟨[], ⟨rfl, fun h => absurd h (by omega)⟩, rfl, fun i l h => by simp at h⟩
/-- what sure returns -/
def SurePost (c : Hou) (w : World) (e : Ending) (w' : World) : Prop :=
  ∃ A n k, e = .returned (.tuple #[.slice A n k, .int .i64 (askedErr c 0)]) ∧ Later w w' ∧ (askedErr c 0 = 0 → RRI w' A n (truths c))
end Go.Proofs.Ytcffgjhmpgdfpaa

/- The laws' Thin of a floor: walk. -/
namespace Go.Proofs.Ytcffgjhmpgdfpaa
open Go Go.RowKit
def thinF (f : Flo) : Bool := thinB f.house && decide (f.queue.length ≤ 7) && (decide (faultF f ≠ 0) || decide (f.queue.length ≤ 4))
theorem thinB_small {c : Hou} (h : thinB c = true) : c.clocks.length ≤ 6 ∧ c.tickets.length ≤ 8 ∧ c.clips.length ≤ 12 := by
  unfold thinB at h
  simp only [Bool.and_eq_true, decide_eq_true_eq] at h
  omega
set_option maxRecDepth 100000 in
set_option maxHeartbeats 1000000 in
theorem SThin_calls {A1 A2 A3 Aq : Option Addr} {n1 k1 n2 k2 n3 k3 nq kq : Nat} {f : Flo} (w : World) (hc : FV w f A1 n1 A2 n2 A3 n3 Aq nq) (m1 : n1 ≤ 9223372036854775807) (m2 : n2 ≤ 9223372036854775807) (m3 : n3 ≤ 9223372036854775807) :
    Calls Try.prog 4 #[(.agg #[.int .i64 f.house.hour, .int .i64 f.house.grace, .slice A1 n1 k1, .slice A2 n2 k2, .slice A3 n3 k3, .int .i64 f.tubs, .int .i64 f.opn, .int .i64 f.closing, .slice Aq nq kq])] w fun e w' => e = .returned (.bool (thinF f)) ∧ Later w w' := by
  have hlq : f.queue.length = nq := hc.q.len.symm
  have h1 := hc.cv.ck.len
  have h2 := hc.cv.tk.len
  have h3 := hc.cv.cp.len
  have hthin : thinF f = (thinB f.house && decide (nq ≤ 7) && (decide (faultF f ≠ 0) || decide (nq ≤ 4))) := by unfold thinF; rw [hlq]
  obtain ⟨w0, hw0⟩ : ∃ W, W = w.alloc (.cells #[.int .i64 f.house.hour, .int .i64 f.house.grace, .slice A1 n1 k1, .slice A2 n2 k2, .slice A3 n3 k3, .int .i64 f.tubs, .int .i64 f.opn, .int .i64 f.closing, .slice Aq nq kq] 28) := ⟨_, rfl⟩
  have hbox : ∀ W, Later w0 W → ∀ i, W.cell? ⟨w.heap.size, i, none⟩ = #[.int .i64 f.house.hour, .int .i64 f.house.grace, .slice A1 n1 k1, .slice A2 n2 k2, .slice A3 n3 k3, .int .i64 f.tubs, .int .i64 f.opn, .int .i64 f.closing, .slice Aq nq kq][i]? := (by rw [hw0]; exact box_cells w #[.int .i64 f.house.hour, .int .i64 f.house.grace, .slice A1 n1 k1, .slice A2 n2 k2, .slice A3 n3 k3, .int .i64 f.tubs, .int .i64 f.opn, .int .i64 f.closing, .slice Aq nq kq] 28)
  have hL0 : Later w w0 := (by rw [hw0]; simp)
  have hc0 := hc.later hL0
  have Hw0 := hide hw0
  clear hw0
  have b0 := fun W (h : Later w0 W) => hbox W h 0
  have b1 := fun W (h : Later w0 W) => hbox W h 1
  have b2 := fun W (h : Later w0 W) => hbox W h 2
  have b3 := fun W (h : Later w0 W) => hbox W h 3
  have b4 := fun W (h : Later w0 W) => hbox W h 4
  have b5 := fun W (h : Later w0 W) => hbox W h 5
  have b6 := fun W (h : Later w0 W) => hbox W h 6
  have b7 := fun W (h : Later w0 W) => hbox W h 7
  have b8 := fun W (h : Later w0 W) => hbox W h 8
  simp only [List.getElem?_toArray, List.getElem?_cons_zero, List.getElem?_cons_succ] at b0 b1 b2 b3 b4 b5 b6 b7 b8
  clear hbox
  cases ht : thinB f.house with
  | false =>
    rw [ht, Bool.false_and, Bool.false_and] at hthin
    have Hthin := hide hthin
    have Ht := hide ht
    clear hthin ht hlq h1 h2 h3
    go_enter Try.func4, Try.ntmps4
    go_upto_region 1 with fail
    rw [← Hw0.out]
    clear Hw0
    have hLs := later_refl w0
    go_wp2_with fail
    refine (Thin_calls (c := f.house) (k1 := k1) (k2 := k2) (k3 := k3) _ hc0.cv m1 m2 m3).mono ?_
    rintro e w1 ⟨rfl, hL1⟩
    rw [Ht.out]
    go_wp2_with fail
    go_ret
    exact ⟨by rw [Hthin.out]; rfl, Later.trans hL0 hL1⟩
  | true =>
    have hs := thinB_small ht
    have Ht := hide ht
    rw [ht, Bool.true_and] at hthin
    by_cases h7 : 7 < nq
    · have Hthin : Hid (thinF f = false) := by show _ = _; rw [hthin, decide_eq_false (by omega), Bool.false_and]
      have hi7 : (7 : Int) < nq := by omega
      clear hthin ht hlq h1 h2 h3
      go_enter Try.func4, Try.ntmps4
      go_upto_region 1 with fail
      rw [← Hw0.out]
      clear Hw0
      have hLs := later_refl w0
      go_wp2_with fail
      refine (Thin_calls (c := f.house) (k1 := k1) (k2 := k2) (k3 := k3) _ hc0.cv m1 m2 m3).mono ?_
      rintro e w1 ⟨rfl, hL1⟩
      rw [Ht.out]
      go_wp2_with fail
      go_ret
      exact ⟨by rw [Hthin.out]; rfl, Later.trans hL0 hL1⟩
    · rw [decide_eq_true (by omega : nq ≤ 7), Bool.true_and] at hthin
      obtain ⟨q, hq⟩ : ∃ q, faultF f = q := ⟨_, rfl⟩
      rw [hq] at hthin
      have Hq := hide hq
      have Hthin := hide hthin
      have hi7 : ¬ (7 : Int) < nq := by omega
      have hn1 : n1 ≤ 1000 := by omega
      have hn2 : n2 ≤ 1000 := by omega
      have hn3 : n3 ≤ 1000 := by omega
      have hnq : nq ≤ 1000 := by omega
      clear hthin ht hlq h1 h2 h3 hq hs
      by_cases h0 : q = 0
      · have hpb : (q != 0) = false := by simp [h0]
        by_cases h4 : nq ≤ 4
        · have hi4 : (nq : Int) ≤ 4 := by omega
          have Hv : Hid (thinF f = true) := by show _ = _; rw [Hthin.out]; simp [h4]
          clear h0
          go_enter Try.func4, Try.ntmps4
          go_upto_region 1 with fail
          rw [← Hw0.out]
          clear Hw0
          have hLs := later_refl w0
          go_wp2_with fail
          refine (Thin_calls (c := f.house) (k1 := k1) (k2 := k2) (k3 := k3) _ hc0.cv m1 m2 m3).mono ?_
          rintro e w1 ⟨rfl, hL1⟩
          rw [Ht.out]
          go_wp2_with fail
          refine (SFault_calls (k1 := k1) (k2 := k2) (k3 := k3) (kq := kq) _ (hc0.later hL1) Hq.out hn1 hn2 hn3 hnq).mono ?_
          rintro e w2 ⟨rfl, hL2⟩
          have hL02 := Later.trans hL1 hL2
          go_wp2_with fail
          go_ret
          exact ⟨by rw [Hv.out]; rfl, Later.trans hL0 (Later.trans hL1 hL2)⟩
        · have hi4 : ¬ (nq : Int) ≤ 4 := by omega
          have Hv : Hid (thinF f = false) := by show _ = _; rw [Hthin.out]; simp [h4, h0]
          clear h0
          go_enter Try.func4, Try.ntmps4
          go_upto_region 1 with fail
          rw [← Hw0.out]
          clear Hw0
          have hLs := later_refl w0
          go_wp2_with fail
          refine (Thin_calls (c := f.house) (k1 := k1) (k2 := k2) (k3 := k3) _ hc0.cv m1 m2 m3).mono ?_
          rintro e w1 ⟨rfl, hL1⟩
          rw [Ht.out]
          go_wp2_with fail
          refine (SFault_calls (k1 := k1) (k2 := k2) (k3 := k3) (kq := kq) _ (hc0.later hL1) Hq.out hn1 hn2 hn3 hnq).mono ?_
          rintro e w2 ⟨rfl, hL2⟩
          have hL02 := Later.trans hL1 hL2
          go_wp2_with fail
          go_ret
          exact ⟨by rw [Hv.out]; show Ending.returned (.bool (decide ((nq : Int) ≤ 4))) = _; rw [decide_eq_false (show ¬ (nq : Int) ≤ 4 by omega)], Later.trans hL0 (Later.trans hL1 hL2)⟩
      · have hpb : (q != 0) = true := by simpa using h0
        have Hv : Hid (thinF f = true) := by show _ = _; rw [Hthin.out]; simp [h0]
        go_enter Try.func4, Try.ntmps4
        go_upto_region 1 with fail
        rw [← Hw0.out]
        clear Hw0
        have hLs := later_refl w0
        go_wp2_with fail
        refine (Thin_calls (c := f.house) (k1 := k1) (k2 := k2) (k3 := k3) _ hc0.cv m1 m2 m3).mono ?_
        rintro e w1 ⟨rfl, hL1⟩
        rw [Ht.out]
        go_wp2_with fail
        refine (SFault_calls (k1 := k1) (k2 := k2) (k3 := k3) (kq := kq) _ (hc0.later hL1) Hq.out hn1 hn2 hn3 hnq).mono ?_
        rintro e w2 ⟨rfl, hL2⟩
        have hL02 := Later.trans hL1 hL2
        go_wp2_with fail
        go_ret
        exact ⟨by rw [Hv.out]; rfl, Later.trans hL0 (Later.trans hL1 hL2)⟩
end Go.Proofs.Ytcffgjhmpgdfpaa

/- Plain facts: the least number; who is done when; less is done no later. -/
namespace Go.Proofs.Ytcffgjhmpgdfpaa

theorem foldl_min_le : ∀ (l : List Int) (a : Int), l.foldl min a ≤ a ∧ (∀ x ∈ l, l.foldl min a ≤ x) ∧ (l.foldl min a = a ∨ l.foldl min a ∈ l)
  | [], a => ⟨Int.le_refl _, fun x h => (by cases h), .inl rfl⟩
  | y :: l, a => by
    obtain ⟨h1, h2, h3⟩ := foldl_min_le l (min a y)
    rw [List.foldl_cons]
    refine ⟨by omega, fun x hx => ?_, ?_⟩
    · rcases List.mem_cons.1 hx with rfl | hx
      · omega
      · exact h2 x hx
    · rcases h3 with h3 | h3
      · rcases Int.le_total a y with h | h
        · left; rw [h3]; omega
        · right; rw [h3, show min a y = y by omega]; exact List.mem_cons_self
      · right; exact List.mem_cons_of_mem _ h3
theorem minL_le {l : List Int} {x : Int} (h : x ∈ l) : minL l ≤ x := by
  cases l with
  | nil => cases h
  | cons y l =>
    obtain ⟨h1, h2, _⟩ := foldl_min_le l y
    rcases List.mem_cons.1 h with rfl | h
    · exact h1
    · exact h2 x h
theorem minL_mem {l : List Int} (h : l ≠ []) : minL l ∈ l := by
  cases l with
  | nil => exact absurd rfl h
  | cons y l =>
    rcases (foldl_min_le l y).2.2 with h | h
    · show l.foldl min y ∈ y :: l
      rw [h]; exact List.mem_cons_self
    · exact List.mem_cons_of_mem _ h
theorem minL_eq {l : List Int} {m : Int} (h : m ∈ l) (hm : ∀ x ∈ l, m ≤ x) : minL l = m := by
  have h1 := minL_le h
  have h2 := hm _ (minL_mem (List.ne_nil_of_mem h))
  omega
theorem argMin_lt {l : List Int} (h : l ≠ []) : argMin l < l.length := List.idxOf_lt_length_iff.2 (minL_mem h)
theorem argMin_get {l : List Int} (h : l ≠ []) : l[argMin l]? = some (minL l) := by
  have hl := argMin_lt h
  rw [List.getElem?_eq_getElem hl]
  congr 1
  exact List.getElem_idxOf hl
theorem argMin_getD {l : List Int} (h : l ≠ []) : l.getD (argMin l) 0 = minL l := by rw [List.getD_eq_getElem?_getD, argMin_get h]; rfl
theorem argMin_first {l : List Int} {j : Nat} {x : Int} (hj : l[j]? = some x) (hx : ∀ y ∈ l, x ≤ y) (hf : ∀ i y, i < j → l[i]? = some y → x < y) : argMin l = j := by
  have hm : minL l = x := minL_eq (List.mem_of_getElem? hj) hx
  have hne : l ≠ [] := List.ne_nil_of_mem (List.mem_of_getElem? hj)
  have hg := argMin_get hne
  rw [hm] at hg
  have hle : argMin l ≤ j := by
    apply Classical.byContradiction
    intro h
    have hjl := (List.getElem?_eq_some_iff.1 hj).1
    have := List.not_of_lt_findIdx (p := fun y => y == minL l) (xs := l) (i := j) (by unfold argMin List.idxOf at h; omega)
    rw [List.getElem?_eq_getElem hjl] at hj
    injection hj with hj
    rw [hj, hm] at this
    simp at this
  rcases Nat.lt_or_eq_of_le hle with h | h
  · have := hf _ _ h hg; omega
  · exact h

/-! ### how many are free -/
def cntLe (l : List Int) (x : Int) : Nat := l.countP fun y => decide (y ≤ x)
theorem countP_set' {α : Type} (p : α → Bool) : ∀ (l : List α) (i : Nat) (a b : α), l[i]? = some a → (l.set i b).countP p + (if p a then 1 else 0) = l.countP p + (if p b then 1 else 0)
  | [], i, a, b, h => by cases h
  | y :: l, 0, a, b, h => by
    simp only [List.getElem?_cons_zero, Option.some.injEq] at h
    subst h
    simp only [List.set_cons_zero, List.countP_cons]
    omega
  | y :: l, i + 1, a, b, h => by
    have := countP_set' p l i a b (by simpa using h)
    simp only [List.set_cons_succ, List.countP_cons]
    omega
theorem cntLe_zero {l : List Int} {x : Int} (h : x < minL l) : cntLe l x = 0 := by
  unfold cntLe
  rw [List.countP_eq_zero]
  intro y hy
  have := minL_le hy
  simp; omega
theorem cntLe_pos {l : List Int} (hne : l ≠ []) {x : Int} (h : minL l ≤ x) : 0 < cntLe l x := by
  unfold cntLe
  rw [List.countP_pos_iff]
  exact ⟨minL l, minL_mem hne, by simpa using h⟩
/-- the tubs of l are free no later than those of m -/
def Dom (l m : List Int) : Prop := ∀ x, cntLe m x ≤ cntLe l x
theorem Dom.refl (l : List Int) : Dom l l := fun _ => Nat.le_refl _
theorem Dom.min {l m : List Int} (h : Dom l m) (hm : m ≠ []) : minL l ≤ minL m := by
  apply Classical.byContradiction
  intro hc
  have h1 := cntLe_zero (l := l) (x := minL m) (by omega)
  have h2 := cntLe_pos hm (Int.le_refl (minL m))
  have := h (minL m)
  omega
def upd (l : List Int) (p : Int) : List Int := l.set (argMin l) (minL l + p)
theorem upd_ne {l : List Int} (h : l ≠ []) (p : Int) : upd l p ≠ [] := by
  intro e
  have : (upd l p).length = l.length := by unfold upd; simp
  rw [e] at this
  exact h (List.eq_nil_of_length_eq_zero this.symm)
theorem upd_len (l : List Int) (p : Int) : (upd l p).length = l.length := by unfold upd; simp
theorem cntLe_upd {l : List Int} (h : l ≠ []) (p x : Int) : cntLe (upd l p) x + (if minL l ≤ x then 1 else 0) = cntLe l x + (if minL l + p ≤ x then 1 else 0) := by
  have := countP_set' (fun y => decide (y ≤ x)) l (argMin l) (minL l) (minL l + p) (argMin_get h)
  unfold cntLe upd
  simpa using this
theorem Dom.upd {l m : List Int} (h : Dom l m) (hl : l ≠ []) (hm : m ≠ []) {p q : Int} (hpq : p ≤ q) (hp : 0 ≤ p) : Dom (upd l p) (Go.Proofs.Ytcffgjhmpgdfpaa.upd m q) := fun x => by
  have h0 := h.min hm
  have h1 := cntLe_upd hl p x
  have h2 := cntLe_upd hm q x
  have h3 := h x
  by_cases a : minL l ≤ x
  · rw [if_pos a] at h1
    by_cases b : minL m ≤ x
    · rw [if_pos b] at h2
      by_cases c : minL m + q ≤ x
      · rw [if_pos c] at h2
        rw [if_pos (by omega)] at h1
        omega
      · rw [if_neg c] at h2
        split at h1 <;> omega
    · have h4 := cntLe_zero (l := m) (x := x) (by omega)
      rw [if_neg b, if_neg (by omega)] at h2
      omega
  · have h4 := cntLe_zero (l := m) (x := x) (by omega)
    rw [if_neg a, if_neg (by omega)] at h1
    rw [if_neg (by omega), if_neg (by omega)] at h2
    omega
/-- one who is left out hinders nobody -/
theorem Dom.skip {l m : List Int} (h : Dom l m) (hm : m ≠ []) {q : Int} (hq : 0 ≤ q) : Dom l (Go.Proofs.Ytcffgjhmpgdfpaa.upd m q) := fun x => by
  have h2 := cntLe_upd hm q x
  have h3 := h x
  by_cases b : minL m ≤ x
  · rw [if_pos b] at h2
    split at h2 <;> omega
  · rw [if_neg b, if_neg (by omega)] at h2
    omega
theorem Dom.le : ∀ {l m : List Int}, l.length = m.length → (∀ (i : Nat) (a b : Int), l[i]? = some a → m[i]? = some b → a ≤ b) → Dom l m
  | [], [], _, _ => Dom.refl _
  | [], _ :: _, h, _ => by simp at h
  | _ :: _, [], h, _ => by simp at h
  | a :: l, b :: m, hl, h => fun x => by
    have ih := Dom.le (l := l) (m := m) (by simpa using hl) fun i a b h1 h2 => h (i + 1) a b (by simpa using h1) (by simpa using h2)
    have h0 := h 0 a b rfl rfl
    have := ih x
    unfold cntLe at *
    simp only [List.countP_cons]
    by_cases c : b ≤ x
    · rw [if_pos (by simpa using c), if_pos (by simpa using (by omega : a ≤ x))]; omega
    · rw [if_neg (by simpa using c)]; split <;> omega
theorem Dom.more (l m : List Int) : Dom (l ++ m) l := fun x => by unfold cntLe; rw [List.countP_append]; omega

/-! ### doneG -/
theorem doneStep_eq {minutes : List Int} {s : DSt} (h : s.free ≠ []) (w : Nat) : doneStep minutes s w = ⟨upd s.free (minutes.getD w 0), s.tubs ++ [argMin s.free], s.done ++ [minL s.free + minutes.getD w 0]⟩ := by
  unfold doneStep upd
  rw [argMin_getD h]
theorem doneG_snoc (frm minutes : List Int) (o : List Nat) (w : Nat) : doneG frm minutes (o ++ [w]) = doneStep minutes (doneG frm minutes o) w := by unfold doneG; rw [List.foldl_append]; rfl
theorem doneG_free_len (frm minutes : List Int) : ∀ (o : List Nat) (s : DSt), (o.foldl (doneStep minutes) s).free.length = s.free.length ∧ (o.foldl (doneStep minutes) s).done.length = s.done.length + o.length ∧ (o.foldl (doneStep minutes) s).tubs.length = s.tubs.length + o.length
  | [], s => by simp
  | w :: o, s => by
    obtain ⟨h1, h2, h3⟩ := doneG_free_len frm minutes o (doneStep minutes s w)
    rw [List.foldl_cons]
    have e1 : (doneStep minutes s w).free.length = s.free.length := by unfold doneStep; simp
    have e2 : (doneStep minutes s w).done.length = s.done.length + 1 := by unfold doneStep; simp
    have e3 : (doneStep minutes s w).tubs.length = s.tubs.length + 1 := by unfold doneStep; simp
    simp only [List.length_cons]
    omega
theorem doneG_lens (frm minutes : List Int) (o : List Nat) : (doneG frm minutes o).free.length = frm.length ∧ (doneG frm minutes o).done.length = o.length ∧ (doneG frm minutes o).tubs.length = o.length := by
  have := doneG_free_len frm minutes o ⟨frm, [], []⟩
  simpa [doneG] using this
theorem doneG_ne {frm : List Int} (h : frm ≠ []) (minutes : List Int) (o : List Nat) : (doneG frm minutes o).free ≠ [] := fun e => by
  have := (doneG_lens frm minutes o).1
  rw [e] at this
  exact h (List.eq_nil_of_length_eq_zero this.symm)
/-- what is done first does not change by what is done later -/
theorem doneG_pre (frm minutes : List Int) : ∀ (o o' : List Nat), (doneG frm minutes o).done <+: (doneG frm minutes (o ++ o')).done ∧ (doneG frm minutes o).tubs <+: (doneG frm minutes (o ++ o')).tubs := fun o o' => by
  have key : ∀ (l : List Nat) (s : DSt), s.done <+: (l.foldl (doneStep minutes) s).done ∧ s.tubs <+: (l.foldl (doneStep minutes) s).tubs := by
    intro l
    induction l with
    | nil => intro s; exact ⟨List.prefix_refl _, List.prefix_refl _⟩
    | cons w l ih =>
      intro s
      have h := ih (doneStep minutes s w)
      rw [List.foldl_cons]
      exact ⟨List.IsPrefix.trans (by unfold doneStep; exact List.prefix_append _ _) h.1, List.IsPrefix.trans (by unfold doneStep; exact List.prefix_append _ _) h.2⟩
  unfold doneG
  rw [List.foldl_append]
  exact key o' _
theorem doneG_done_get {frm minutes : List Int} {o : List Nat} {i : Nat} {w : Nat} (hne : frm ≠ []) (hw : o[i]? = some w) :
    (doneG frm minutes o).done[i]? = some (minL (doneG frm minutes (o.take i)).free + minutes.getD w 0) ∧ (doneG frm minutes o).tubs[i]? = some (argMin (doneG frm minutes (o.take i)).free) := by
  have hi := (List.getElem?_eq_some_iff.1 hw).1
  have e : o = (o.take i ++ [w]) ++ o.drop (i + 1) := by
    rw [List.append_assoc]
    have : o.drop i = w :: o.drop (i + 1) := by rw [List.drop_eq_getElem_cons hi]; congr 1; exact (List.getElem?_eq_some_iff.1 hw).2
    rw [List.singleton_append, ← this, List.take_append_drop]
  obtain ⟨p1, p2⟩ := doneG_pre frm minutes (o.take i ++ [w]) (o.drop (i + 1))
  rw [← e] at p1 p2
  have hl := doneG_lens frm minutes (o.take i)
  have hti : (o.take i).length = i := by rw [List.length_take]; omega
  have h1 : (doneG frm minutes (o.take i ++ [w])).done[i]? = some (minL (doneG frm minutes (o.take i)).free + minutes.getD w 0) := by
    rw [doneG_snoc, doneStep_eq (doneG_ne hne _ _)]
    dsimp only
    rw [List.getElem?_append_right (by omega), hl.2.1, hti, Nat.sub_self]; rfl
  have h2 : (doneG frm minutes (o.take i ++ [w])).tubs[i]? = some (argMin (doneG frm minutes (o.take i)).free) := by
    rw [doneG_snoc, doneStep_eq (doneG_ne hne _ _)]
    dsimp only
    rw [List.getElem?_append_right (by omega), hl.2.2, hti, Nat.sub_self]; rfl
  constructor
  · obtain ⟨t, ht⟩ := p1
    rw [← ht, List.getElem?_append_left (by rw [doneG_snoc, doneStep_eq (doneG_ne hne _ _)]; simp; omega)]
    exact h1
  · obtain ⟨t, ht⟩ := p2
    rw [← ht, List.getElem?_append_left (by rw [doneG_snoc, doneStep_eq (doneG_ne hne _ _)]; simp; omega)]
    exact h2
/-- tubs that are free no later, women who wash no longer: nobody is done later -/
theorem doneG_mono {frm frm' minutes minutes' : List Int} (h1 : frm ≠ []) (h2 : frm' ≠ []) (hd : Dom frm frm') (hm : ∀ w, 0 ≤ minutes.getD w 0 ∧ minutes.getD w 0 ≤ minutes'.getD w 0) : ∀ (o : List Nat) (s s' : DSt), s.free ≠ [] → s'.free ≠ [] → Dom s.free s'.free →
    Dom (o.foldl (doneStep minutes) s).free (o.foldl (doneStep minutes') s').free
  | [], _, _, _, _, h => h
  | w :: o, s, s', k1, k2, h => by
    rw [List.foldl_cons, List.foldl_cons, doneStep_eq k1, doneStep_eq k2]
    exact doneG_mono h1 h2 hd hm o _ _ (upd_ne k1 _) (upd_ne k2 _) (h.upd k1 k2 (hm w).2 (hm w).1)
theorem done_le {frm frm' minutes minutes' : List Int} (h1 : frm ≠ []) (h2 : frm' ≠ []) (hd : Dom frm frm') (hm : ∀ w, 0 ≤ minutes.getD w 0 ∧ minutes.getD w 0 ≤ minutes'.getD w 0) {o : List Nat} {i : Nat} {a b : Int}
    (ha : (doneG frm minutes o).done[i]? = some a) (hb : (doneG frm' minutes' o).done[i]? = some b) : a ≤ b := by
  have hi : i < o.length := by rw [← (doneG_lens frm minutes o).2.1]; exact (List.getElem?_eq_some_iff.1 ha).1
  have e1 := (doneG_done_get (minutes := minutes) h1 (List.getElem?_eq_getElem hi)).1
  have e2 := (doneG_done_get (minutes := minutes') h2 (List.getElem?_eq_getElem hi)).1
  rw [ha] at e1
  rw [hb] at e2
  injection e1 with e1
  injection e2 with e2
  have hk := doneG_mono h1 h2 hd hm (o.take i) ⟨frm, [], []⟩ ⟨frm', [], []⟩ h1 h2 hd
  have := hk.min (doneG_ne h2 _ _)
  have := (hm o[i]).2
  unfold doneG at e1 e2
  omega
/-- bounds of what is done -/
theorem done_range {frm minutes : List Int} (hne : frm ≠ []) {a b : Int} (ha : 0 ≤ a) (hf : ∀ x ∈ frm, a ≤ x ∧ x ≤ b) (hm : ∀ w, 0 ≤ minutes.getD w 0 ∧ minutes.getD w 0 ≤ 240) : ∀ (o : List Nat),
    (∀ x ∈ (doneG frm minutes o).free, a ≤ x ∧ x ≤ b + 240 * o.length) ∧ ∀ x ∈ (doneG frm minutes o).done, a ≤ x ∧ x ≤ b + 240 * o.length := by
  intro o
  have key : ∀ n : Nat, n ≤ o.length → (∀ x ∈ (doneG frm minutes (o.take n)).free, a ≤ x ∧ x ≤ b + 240 * n) ∧ ∀ x ∈ (doneG frm minutes (o.take n)).done, a ≤ x ∧ x ≤ b + 240 * n := by
    intro n
    induction n with
    | zero =>
      intro _
      refine ⟨fun x hx => ?_, fun x hx => ?_⟩
      · have := hf x (by simpa [doneG] using hx); omega
      · simp [doneG] at hx
    | succ n ih =>
      intro hn
      obtain ⟨i1, i2⟩ := ih (by omega)
      have hg : o.take (n + 1) = o.take n ++ [o[n]] := by rw [List.take_add_one, List.getElem?_eq_getElem (by omega)]; rfl
      have hnf := doneG_ne hne minutes (o.take n)
      have hmn := i1 _ (minL_mem hnf)
      have hmw := hm o[n]
      rw [hg, doneG_snoc, doneStep_eq hnf]
      dsimp only
      refine ⟨fun x hx => ?_, fun x hx => ?_⟩
      · unfold upd at hx
        rcases List.mem_or_eq_of_mem_set hx with h | rfl
        · have := i1 x h; omega
        · omega
      · rcases List.mem_append.1 hx with h | h
        · have := i2 x h; omega
        · have h := List.mem_singleton.1 h; omega
  have := key o.length (Nat.le_refl _)
  rwa [List.take_length] at this

/-! ### the program's tubs: those that there are not are never free -/
def padN (l : List Int) : List Int := l ++ List.replicate (5 - l.length) 1099511627776
theorem minL_pad {l : List Int} (hne : l ≠ []) (hl : ∀ x ∈ l, x ≤ 1099511627776) : minL (padN l) = minL l := by
  refine minL_eq (List.mem_append.2 (.inl (minL_mem hne))) fun x hx => ?_
  rcases List.mem_append.1 hx with h | h
  · exact minL_le h
  · have := hl _ (minL_mem hne)
    rw [(List.mem_replicate.1 h).2]; omega
theorem argMin_pad {l : List Int} (hne : l ≠ []) (hl : ∀ x ∈ l, x ≤ 1099511627776) : argMin (padN l) = argMin l := by
  unfold argMin
  rw [minL_pad hne hl]
  unfold padN
  rw [List.idxOf_append, if_pos (minL_mem hne)]
theorem upd_pad {l : List Int} (hne : l ≠ []) (hl : ∀ x ∈ l, x ≤ 1099511627776) (p : Int) : upd (padN l) p = padN (upd l p) := by
  unfold upd
  rw [argMin_pad hne hl, minL_pad hne hl]
  unfold padN
  rw [List.set_append_left _ _ (argMin_lt hne), List.length_set]
theorem padN_ne {l : List Int} (hne : l ≠ []) : padN l ≠ [] := by
  unfold padN
  intro e
  exact hne (List.append_eq_nil_iff.1 e).1
theorem doneG_pad {frm minutes : List Int} (hne : frm ≠ []) (hf : ∀ x ∈ frm, 0 ≤ x ∧ x ≤ 1000000) (hm : ∀ w, 0 ≤ minutes.getD w 0 ∧ minutes.getD w 0 ≤ 240) : ∀ (o : List Nat), o.length ≤ 1000 →
    doneG (padN frm) minutes o = ⟨padN (doneG frm minutes o).free, (doneG frm minutes o).tubs, (doneG frm minutes o).done⟩ := by
  intro o ho
  have key : ∀ n : Nat, n ≤ o.length → doneG (padN frm) minutes (o.take n) = ⟨padN (doneG frm minutes (o.take n)).free, (doneG frm minutes (o.take n)).tubs, (doneG frm minutes (o.take n)).done⟩ := by
    intro n
    induction n with
    | zero => intro _; rfl
    | succ n ih =>
      intro hn
      have hg : o.take (n + 1) = o.take n ++ [o[n]] := by rw [List.take_add_one, List.getElem?_eq_getElem (by omega)]; rfl
      have hnf := doneG_ne hne minutes (o.take n)
      have hr := (done_range hne (a := 0) (by omega) hf hm (o.take n)).1
      have hr2 : ∀ x ∈ (doneG frm minutes (o.take n)).free, x ≤ 1099511627776 := fun x hx => by
        have := hr x hx
        rw [List.length_take] at this
        omega
      rw [hg, doneG_snoc, doneG_snoc, ih (by omega), doneStep_eq (padN_ne hnf), doneStep_eq hnf]
      dsimp only
      rw [upd_pad hnf hr2, argMin_pad hnf hr2, minL_pad hnf hr2]
  have := key o.length (Nat.le_refl _)
  rwa [List.take_length] at this
end Go.Proofs.Ytcffgjhmpgdfpaa

/- TopWashed: the plain law. A house whose clocks are wrong just as a truth says; with a ticket of the first woman. -/
namespace Go.Proofs.Ytcffgjhmpgdfpaa

theorem fault_of' {c : Hou} (ok : OkH c) (hm : many c ≤ 2000) : fault c = 0 := by
  have h1 := ok.n1
  have h2 := ok.n2
  have h3 := ok.n3
  have h4 := ok.hour
  have h5 := ok.grace
  have a1 : c.clocks.all clockOk = true := List.all_eq_true.2 fun r hr => by have := ok.clock r hr; unfold clockOk; simp; omega
  have a2 : c.clips.all (clipOk c.clocks.length c.tickets.length) = true := List.all_eq_true.2 fun x hx => by have := ok.clip x hx; unfold clipOk inB; simp; omega
  have a3 : (List.range c.tickets.length).all (fun i => tickOk (tickAt c i) && ofOk c i) = true := List.all_eq_true.2 fun i hi => by
    have hi2 := List.mem_range.1 hi
    have t1 := ok.tick _ (tickAt_mem hi2)
    have t2 := ok.two i hi2
    unfold tickOk inB ofOk; simp; omega
  unfold fault
  rw [a1, a2, a3, if_neg (by omega), if_neg (by unfold inB; simp; omega), if_neg (by simp), if_neg (by simp), if_neg (by simp), if_neg (by omega)]

/-! ### clocks that are known -/
def justs (t : List Int) : List (Int × Int) := t.map fun e => (e, e)
theorem nth_justs : ∀ (t : List Int) (n : Int), nth (justs t) n = t
  | [], _ => rfl
  | e :: t, n => by
    show (e + n % sizeR (e, e)) :: nth (justs t) (n / sizeR (e, e)) = e :: t
    have h1 : sizeR (e, e) = 1 := by unfold sizeR; dsimp only; omega
    rw [h1, nth_justs t]
    congr 1
    omega
theorem many_justs {c : Hou} {t : List Int} (h : c.clocks = justs t) : many c = 1 := by
  unfold many
  rw [h]
  unfold justs
  induction t generalizing c with
  | nil => rfl
  | cons e t ih =>
    rw [List.map_cons, List.foldl_cons]
    have h1 : min 3000 (1 * sizeR (e, e)) = 1 := by unfold sizeR; dsimp only; omega
    rw [h1]
    exact ih (c := { c with clocks := justs t }) rfl
theorem rising_full {c : Hou} {d : List Int} : risingR c d (full c) = true ↔ ∀ j k, j < k → k < c.clips.length → trueM c d j ≤ trueM c d k := by
  rw [risingR_iff]
  constructor
  · intro h j k hjk hk
    exact h j k hjk hk (by unfold full; rw [Nat.testBit_two_pow_sub_one, decide_eq_true_eq]; omega) (by unfold full; rw [Nat.testBit_two_pow_sub_one, decide_eq_true_eq]; omega)
  · intro h j k hjk hk _ _
    exact h j k hjk hk
theorem truths_justs {c : Hou} {t : List Int} (h : c.clocks = justs t) (hr : ∀ j k, j < k → k < c.clips.length → trueM c t j ≤ trueM c t k) : truths c = [t] := by
  unfold truths allErr
  rw [many_justs h, h]
  show List.filter _ ((List.range 1).map fun (n : Nat) => nth (justs t) n) = [t]
  simp only [List.range_one, List.map_cons, List.map_nil, nth_justs]
  have h2 : risingR c t (full c) = true := rising_full.2 hr
  simp [h2]
theorem truthsP_justs {c : Hou} {t : List Int} (hf : fault c = 0) (h : c.clocks = justs t) (hr : ∀ j k, j < k → k < c.clips.length → trueM c t j ≤ trueM c t k) : truthsP c = [t] := by
  have p := truthsP_perm hf
  rw [truths_justs h hr] at p
  exact List.perm_singleton.1 p
theorem bP_one (f : List Int → Int) (t : List Int) : bP f [t] = (f t, f t) := by
  show wider (f t, f t) (f t) = _
  unfold wider
  simp
def setH (h : Hou) (t : List Int) : Hou := { h with clocks := justs t }
theorem justs_len (t : List Int) : (justs t).length = t.length := by unfold justs; simp
theorem setH_ok {h : Hou} {t : List Int} (ok : OkH h) (he : IsErr h t) : OkH (setH h t) :=
  ⟨by show (justs t).length ≤ 4; rw [justs_len, he.len]; exact ok.n1, ok.n2, ok.n3, ok.hour, ok.grace, fun r hr => by
    obtain ⟨e, hm, rfl⟩ := List.mem_map.1 hr
    obtain ⟨i, hi, rfl⟩ := List.mem_iff_getElem.1 hm
    have hl := he.len
    have h1 := he.mem i _ _ (List.getElem?_eq_getElem (by omega)) (List.getElem?_eq_getElem hi)
    have h2 := ok.clock _ (List.getElem_mem (by omega : i < h.clocks.length))
    dsimp only
    omega, ok.tick, fun x hx => by
    have := ok.clip x hx
    have e : (setH h t).clocks.length = h.clocks.length := (justs_len t).trans he.len
    rw [e]
    exact this, ok.two⟩
theorem setH_fault {h : Hou} {t : List Int} (hf : fault h = 0) (ht : t ∈ truths h) : fault (setH h t) = 0 :=
  fault_of' (setH_ok (okH_of_fault hf) (truths_isErr (okH_of_fault hf) t ht)) (by rw [many_justs (c := setH h t) rfl]; omega)
theorem truth_rises {h : Hou} {t : List Int} (ht : t ∈ truths h) : ∀ j k, j < k → k < h.clips.length → trueM h t j ≤ trueM h t k := rising_full.1 (List.mem_filter.1 ht).2
theorem setH_truths {h : Hou} {t : List Int} (ht : t ∈ truths h) : truths (setH h t) = [t] := truths_justs (c := setH h t) rfl fun j k a b => truth_rises ht j k a b
def setF (f : Flo) (t : List Int) : Flo := { f with house := setH f.house t }
theorem setF_ok {f : Flo} {t : List Int} (ok : OkF f) (ht : t ∈ truths f.house) : OkF (setF f t) :=
  ⟨setH_fault ok.house ht, by show truths (setH f.house t) ≠ []; rw [setH_truths ht]; simp, ok.tubs, ok.queue, ok.opn, ok.wash⟩
theorem setF_given (f : Flo) (t : List Int) : givenT (setF f t) = givenT f := rfl
theorem setF_from {f : Flo} {t : List Int} (ok : OkF f) (ht : t ∈ truths f.house) (n : Nat) : fromOf (setF f t) n = (max f.opn (fromR f.house t n), max f.opn (fromR f.house t n)) := by
  have okx := okH_of_fault (setH_fault ok.house ht)
  have he : IsErr (setH f.house t) t := truths_isErr okx t (by rw [setH_truths ht]; simp)
  have h1 : bR (freeF (setH f.house t) n) [t] = (fromR f.house t n, fromR f.house t n) := by
    have hr := fromR_range okx he n
    have e : freeF (setH f.house t) n t = fromR f.house t n := rfl
    unfold bR wider
    simp only [List.foldl_cons, List.foldl_nil, e]
    have hr' : 0 ≤ fromR f.house t n ∧ fromR f.house t n ≤ 1469 := hr
    exact Prod.ext (by dsimp only; omega) (by dsimp only; omega)
  unfold fromOf
  rw [show (setF f t).house = setH f.house t from rfl, setH_truths ht, h1]
  rfl
/-- the bounds of a floor with known clocks are numbers -/
theorem setF_lows {f : Flo} {t : List Int} (ok : OkF f) (ht : t ∈ truths f.house) : givenR (setF f t) = (givenT f).map fun (n : Nat) => (max f.opn (fromR f.house t n), max f.opn (fromR f.house t n)) := by
  unfold givenR
  rw [setF_given]
  exact List.map_congr_left fun n _ => setF_from ok ht n

/-! ### one more ticket, of two clips -/
def washH (h : Hou) (t : List Int) (tub : Int) (k : Nat) (b e : Int) : Hou :=
  { hour := h.hour, grace := h.grace, clocks := justs t, tickets := h.tickets ++ [(tub, 9)], clips := h.clips ++ [⟨h.tickets.length, k, b⟩, ⟨h.tickets.length, k, e⟩] }
section
variable {h : Hou} {t : List Int} {tub : Int} {k : Nat} {b e : Int}
theorem washH_len : (washH h t tub k b e).clips.length = h.clips.length + 1 + 1 := by show (h.clips ++ [_, _]).length = _; simp
theorem washH_tl : (washH h t tub k b e).tickets.length = h.tickets.length + 1 := by show (h.tickets ++ [_]).length = _; simp
theorem clip_old {i : Nat} (hi : i < h.clips.length) : clipAt (washH h t tub k b e) i = clipAt h i := by
  unfold clipAt
  show (h.clips ++ [_, _]).getD i default = _
  rw [List.getD_eq_getElem?_getD, List.getD_eq_getElem?_getD, List.getElem?_append_left hi]
theorem clip_one : clipAt (washH h t tub k b e) h.clips.length = ⟨h.tickets.length, k, b⟩ := by
  unfold clipAt
  show (h.clips ++ [_, _]).getD _ default = _
  rw [List.getD_eq_getElem?_getD, List.getElem?_append_right (Nat.le_refl _), Nat.sub_self]
  rfl
theorem clip_two : clipAt (washH h t tub k b e) (h.clips.length + 1) = ⟨h.tickets.length, k, e⟩ := by
  unfold clipAt
  show (h.clips ++ [_, _]).getD _ default = _
  rw [List.getD_eq_getElem?_getD, List.getElem?_append_right (by omega), Nat.add_sub_cancel_left]
  rfl
theorem tick_old {i : Nat} (hi : i < h.tickets.length) : tickAt (washH h t tub k b e) i = tickAt h i := by
  unfold tickAt
  show (h.tickets ++ [_]).getD i default = _
  rw [List.getD_eq_getElem?_getD, List.getD_eq_getElem?_getD, List.getElem?_append_left hi]
theorem tick_new : tickAt (washH h t tub k b e) h.tickets.length = (tub, 9) := by
  unfold tickAt
  show (h.tickets ++ [_]).getD _ default = _
  rw [List.getD_eq_getElem?_getD, List.getElem?_append_right (Nat.le_refl _), Nat.sub_self]
  rfl
theorem true_old {d : List Int} {i : Nat} (hi : i < h.clips.length) : trueM (washH h t tub k b e) d i = trueM h d i := by unfold trueM; rw [clip_old hi]
theorem true_one {d : List Int} : trueM (washH h t tub k b e) d h.clips.length = b - d.getD k 0 := by
  unfold trueM; rw [clip_one]; show b - d.getD ((k : Int)).toNat 0 = _; rw [Int.toNat_natCast]
theorem true_two {d : List Int} : trueM (washH h t tub k b e) d (h.clips.length + 1) = e - d.getD k 0 := by
  unfold trueM; rw [clip_two]; show e - d.getD ((k : Int)).toNat 0 = _; rw [Int.toNat_natCast]
theorem ofR_wash (j : Int) : ofR (washH h t tub k b e) j = ofR h j ++ (if (h.tickets.length : Int) = j then [h.clips.length, h.clips.length + 1] else []) := by
  unfold ofR
  rw [washH_len, List.range_succ, List.range_succ, List.append_assoc, List.filter_append]
  congr 1
  · exact List.filter_congr fun i hi => by rw [clip_old (List.mem_range.1 hi)]
  · rw [List.singleton_append]
    by_cases hj : (h.tickets.length : Int) = j
    · rw [if_pos hj, List.filter_cons_of_pos (by rw [clip_one]; simpa using hj), List.filter_cons_of_pos (by rw [clip_two]; simpa using hj)]
      rfl
    · rw [if_neg hj, List.filter_cons_of_neg (by rw [clip_one]; simpa using hj), List.filter_cons_of_neg (by rw [clip_two]; simpa using hj)]
      rfl
theorem ofR_old {j : Nat} (hj : j < h.tickets.length) : ofR (washH h t tub k b e) j = ofR h j := by
  rw [ofR_wash, if_neg (by omega), List.append_nil]
theorem ofR_none (ok : OkH h) : ofR h (h.tickets.length : Int) = [] := by
  unfold ofR
  rw [List.filter_eq_nil_iff]
  intro i hi
  have := ok.clip _ (clipAt_mem (List.mem_range.1 hi))
  simp
  omega
theorem ofR_new (ok : OkH h) : ofR (washH h t tub k b e) (h.tickets.length : Int) = [h.clips.length, h.clips.length + 1] := by
  rw [ofR_wash, if_pos rfl, ofR_none ok, List.nil_append]
theorem any_range {f g : Nat → Bool} : ∀ {n : Nat}, (∀ i, i < n → f i = g i) → (List.range n).any f = (List.range n).any g
  | 0, _ => rfl
  | n + 1, h => by rw [range_any_succ, range_any_succ, any_range fun i hi => h i (by omega), h n (by omega)]
theorem fold_range {α : Type} {f g : α → Nat → α} {x : α} : ∀ {n : Nat}, (∀ i a, i < n → f a i = g a i) → (List.range n).foldl f x = (List.range n).foldl g x
  | 0, _ => rfl
  | n + 1, h => by rw [List.range_succ, List.foldl_append, List.foldl_append, fold_range fun i a hi => h i a (by omega)]; exact h n _ (by omega)
theorem isOpen_wash (ok : OkH h) (n : Int) : isOpen (washH h t tub k b e) n = isOpen h n := by
  unfold isOpen
  rw [washH_tl, range_any_succ, tick_new, ofR_new ok, any_range (g := fun i => decide ((tickAt h i).1 = n) && decide ((ofR h i).length = 1)) fun i hi => by rw [tick_old hi, ofR_old hi]]
  simp
theorem step_old {d : List Int} {n : Int} {i : Nat} (hi : i < h.tickets.length) (a : Int) : fromStep (washH h t tub k b e) d n a i = fromStep h d n a i := by
  unfold fromStep
  rw [tick_old hi, ofR_old hi]
  split
  · rcases hl : ofR h i with _ | ⟨x, _ | ⟨y, _ | ⟨z, l⟩⟩⟩
    · rfl
    · rfl
    · show max a _ = max a _
      rw [true_old (ofR_lt (t := (i : Int)) (by rw [hl]; simp))]
    · rfl
  · rfl
theorem from_wash (ok : OkH h) (d : List Int) : fromR (washH h t tub k b e) d tub = max (fromR h d tub) (e - d.getD k 0) := by
  unfold fromR
  rw [washH_tl, List.range_succ, List.foldl_append, fold_range (g := fromStep h d tub) fun i a hi => step_old hi a]
  show fromStep _ d tub _ h.tickets.length = _
  unfold fromStep
  rw [tick_new, if_pos rfl, ofR_new ok]
  show max _ (trueM _ d (h.clips.length + 1)) = _
  rw [true_two]
/-- a tub that is not open: its tickets went before it is free -/
theorem from_le (d : List Int) (n : Int) {i y z : Nat} (hi : i < h.tickets.length) (ht : (tickAt h i).1 = n) (hl : ofR h i = [y, z]) : trueM h d z ≤ fromR h d n := by
  have key : ∀ m : Nat, ((List.range m).foldl (fromStep h d n) 0) ≤ ((List.range (m + 1)).foldl (fromStep h d n) 0) := fun m => by
    rw [List.range_succ, List.foldl_append]
    show _ ≤ fromStep h d n _ m
    unfold fromStep
    split
    · split
      · omega
      · omega
    · omega
  have mono : ∀ a b : Nat, a ≤ b → ((List.range a).foldl (fromStep h d n) 0) ≤ ((List.range b).foldl (fromStep h d n) 0) := fun a b hab => by
    induction b with
    | zero => rw [show a = 0 by omega]; omega
    | succ b ih =>
      rcases Nat.lt_or_eq_of_le hab with hlt | rfl
      · exact Int.le_trans (ih (by omega)) (key b)
      · omega
  have h1 : trueM h d z ≤ (List.range (i + 1)).foldl (fromStep h d n) 0 := by
    rw [List.range_succ, List.foldl_append]
    show _ ≤ fromStep h d n _ i
    unfold fromStep
    rw [if_pos ht, hl]
    show _ ≤ max _ (trueM h d z)
    omega
  exact Int.le_trans h1 (mono _ _ (by omega))
end

/-- the answers about the house with the ticket of the first woman -/
theorem wash_law {h : Hou} {t : List Int} {tub M L tk : Int} {k : Nat} (hf : fault h = 0) (ht : t ∈ truths h) (hM : ∀ i, i < h.clips.length → trueM h t i ≤ M) (hfr : fromR h t tub ≤ M) (ho : isOpen h tub = false) (htub : 0 ≤ tub ∧ tub ≤ 8) (hL : 0 ≤ L) (htk : t.getD k 0 = tk)
    (hy : fault (washH h t tub k (M + tk) (M + L + tk)) = 0) :
    askedErr (washH h t tub k (M + tk) (M + L + tk)) 0 = 0 ∧ (hoursOut (washH h t tub k (M + tk) (M + L + tk))).length = h.tickets.length + 1 ∧
    (hoursOut (washH h t tub k (M + tk) (M + L + tk)))[h.tickets.length]? = some ((max 0 (L - h.grace) + h.hour - 1) / h.hour, (max 0 (L - h.grace) + h.hour - 1) / h.hour) ∧
    askedErr (washH h t tub k (M + tk) (M + L + tk)) (freeDue (washH h t tub k (M + tk) (M + L + tk)) tub) = 0 ∧ freeOut (washH h t tub k (M + tk) (M + L + tk)) tub = (M + L, M + L) ∧
    ∀ j : Nat, j < h.tickets.length → askedErr (washH h t tub k (M + tk) (M + L + tk)) (clashDue (washH h t tub k (M + tk) (M + L + tk)) j h.tickets.length) = 0 ∧ clashOut (washH h t tub k (M + tk) (M + L + tk)) j h.tickets.length = 2 := by
  have ok := okH_of_fault hf
  have hl : (washH h t tub k (M + tk) (M + L + tk)).clips.length = h.clips.length + 1 + 1 := washH_len
  have e1 : trueM (washH h t tub k (M + tk) (M + L + tk)) t h.clips.length = M := by rw [true_one, htk]; omega
  have e2 : trueM (washH h t tub k (M + tk) (M + L + tk)) t (h.clips.length + 1) = M + L := by rw [true_two, htk]; omega
  have hr : ∀ i j, i < j → j < (washH h t tub k (M + tk) (M + L + tk)).clips.length → trueM (washH h t tub k (M + tk) (M + L + tk)) t i ≤ trueM (washH h t tub k (M + tk) (M + L + tk)) t j := by
    intro i j hij hj
    rw [hl] at hj
    rcases (by omega : j < h.clips.length ∨ j = h.clips.length ∨ j = h.clips.length + 1) with h1 | rfl | rfl
    · rw [true_old h1, true_old (by omega)]; exact truth_rises ht i j hij h1
    · rw [e1, true_old hij]; exact hM i hij
    · rw [e2]
      rcases (by omega : i < h.clips.length ∨ i = h.clips.length) with h2 | rfl
      · rw [true_old h2]; have := hM i h2; omega
      · rw [e1]; omega
  have hT : truthsP (washH h t tub k (M + tk) (M + L + tk)) = [t] := truthsP_justs hy rfl hr
  have htl : (washH h t tub k (M + tk) (M + L + tk)).tickets.length = h.tickets.length + 1 := washH_tl
  have hne : truthsP (washH h t tub k (M + tk) (M + L + tk)) ≠ [] := by rw [hT]; simp
  have hask := askedErr_ok hy hne
  have hown := ofR_new (t := t) (tub := tub) (k := k) (b := M + tk) (e := M + L + tk) ok
  have hfd : freeDue (washH h t tub k (M + tk) (M + L + tk)) tub = 0 := by
    unfold freeDue
    rw [if_neg (by unfold inB; simp; omega), isOpen_wash ok, ho, if_neg (by simp)]
  have hcd : ∀ j : Nat, j < h.tickets.length → clashDue (washH h t tub k (M + tk) (M + L + tk)) j h.tickets.length = 0 := fun j hj => by
    unfold clashDue isTick
    rw [htl, if_neg (by unfold inB; simp; omega), if_neg (by omega)]
  refine ⟨hask, ?_, ?_, by rw [hfd]; exact hask, ?_, fun j hj => ⟨by rw [hcd j hj]; exact hask, ?_⟩⟩
  · unfold hoursOut
    rw [if_pos hask, List.length_map, List.length_range, htl]
  · unfold hoursOut
    rw [if_pos hask, hT, List.getElem?_map, htl, List.getElem?_range (by omega), Option.map_some, bP_one]
    have hv : hoursF (washH h t tub k (M + tk) (M + L + tk)) h.tickets.length t = (max 0 (L - h.grace) + h.hour - 1) / h.hour := by
      show hoursR _ t _ = _
      unfold hoursR
      rw [hown]
      show hoursOf h.hour (trueM _ t (h.clips.length + 1) - trueM _ t h.clips.length - h.grace) = _
      rw [e1, e2, show M + L - M - h.grace = L - h.grace by omega]
      unfold hoursOf
      have := ok.hour
      by_cases hs : L - h.grace ≤ 0
      · rw [if_pos hs, show max 0 (L - h.grace) = 0 by omega, Int.zero_add]
        exact (Int.ediv_eq_zero_of_lt (by omega) (by omega)).symm
      · rw [if_neg hs, show max 0 (L - h.grace) = L - h.grace by omega]
    rw [hv]
  · unfold freeOut
    rw [hfd, if_pos hask, hT, bP_one]
    have hv : freeF (washH h t tub k (M + tk) (M + L + tk)) tub t = M + L := by
      show fromR _ t tub = _
      rw [from_wash ok, htk]
      omega
    rw [hv]
  · unfold clashOut
    rw [hcd j hj, if_pos hask, vP_two hne]
    intro d hd
    rw [hT] at hd
    obtain rfl := List.mem_singleton.1 hd
    show clashB _ d (j : Int).toNat (h.tickets.length : Int).toNat = false
    rw [Int.toNat_natCast, Int.toNat_natCast]
    unfold clashB
    rw [tick_old hj, tick_new, ofR_old hj, hown]
    by_cases hs : (tickAt h j).1 = tub
    · have hlen : (ofR h j).length ≠ 1 := fun hc => by
        have : isOpen h tub = true := range_any_true hj (by simp [hs, hc])
        rw [ho] at this; cases this
      have h2 := ok.two j hj
      rcases hj2 : ofR h j with _ | ⟨y, _ | ⟨z, _ | ⟨u, l⟩⟩⟩
      · simp
      · rw [hj2] at hlen; exact absurd rfl hlen
      · have hz := from_le d tub hj hs hj2
        have hzl : z < h.clips.length := ofR_lt (t := (j : Int)) (by rw [hj2]; simp)
        have : cameB (washH h d tub k (M + tk) (M + L + tk)) d h.tickets.length j = false := by
          unfold cameB
          rw [ofR_old hj, hj2, hown]
          show decide (trueM _ d h.clips.length < trueM _ d z) = false
          rw [e1, true_old hzl]
          simp; omega
        rw [this, Bool.and_false]
      · rw [hj2] at h2; simp at h2
    · simp [hs]
end Go.Proofs.Ytcffgjhmpgdfpaa
