/- Part 15 of the proof: joined from the texts RefQ, RefR. -/
import Derived.Test.YtjilckjhdlabaaaPart3
import Derived.Test.YtjilckjhdlabaaaPart1
import Derived.Test.YtjilckjhdlabaaaPart12
import Derived.Test.YtjilckjhdlabaaaPart9
set_option linter.unusedSimpArgs false
set_option linter.unusedVariables false
/- The reference's Places, Place: walks. -/
namespace Go.Proofs.Ytjilckjhdlabaaa
open Go Go.RowKit

theorem pow_le256 {m : Int} (h1 : 1 ≤ m) (h4 : m ≤ 4) : ∀ j : Nat, j ≤ 4 → 1 ≤ m ^ j ∧ m ^ j ≤ 256 := by
  have hm : m = 1 ∨ m = 2 ∨ m = 3 ∨ m = 4 := by omega
  intro j hj
  have hj' : j = 0 ∨ j = 1 ∨ j = 2 ∨ j = 3 ∨ j = 4 := by omega
  rcases hm with rfl | rfl | rfl | rfl <;> rcases hj' with rfl | rfl | rfl | rfl | rfl <;> decide
theorem Places_calls {A1 A2 A3 : Option Addr} {n1 k1 n2 k2 n3 k3 : Nat} {c : Clo} (w : World) (hc : CV w c A1 n1 A2 n2 A3 n3) (ok : OkH c) :
    Calls Try.prog 109 #[(.agg #[.int .i64 c.closets, .int .i64 c.close, .slice A1 n1 k1, .slice A2 n2 k2, .slice A3 n3 k3])] w fun e w' => e = .returned (.int .i64 (places c)) ∧ Later w w' := by
  have hn1 := hc.hs.len
  have hn14 : n1 ≤ 4 := by have := ok.len; omega
  have hpw := pow_le256 ok.cl1 ok.cl4
  have hc1 := ok.cl1
  have hc4 := ok.cl4
  have hend : places c = c.closets ^ n1 := by unfold places; rw [hn1]
  have Hend := hide hend
  have Hpw := hide hpw
  clear hn1 hend hpw
  obtain ⟨w0, hw0⟩ : ∃ W, W = (w.alloc (.cells #[.int .i64 c.closets, .int .i64 c.close, .slice A1 n1 k1, .slice A2 n2 k2, .slice A3 n3 k3] 26)) := ⟨_, rfl⟩; have hbox : ∀ W, Later w0 W → ∀ i, W.cell? ⟨w.heap.size, i, none⟩ = #[.int .i64 c.closets, .int .i64 c.close, .slice A1 n1 k1, .slice A2 n2 k2, .slice A3 n3 k3][i]? := (by rw [hw0]; exact box_cells w #[.int .i64 c.closets, .int .i64 c.close, .slice A1 n1 k1, .slice A2 n2 k2, .slice A3 n3 k3] 26); have hL0 : Later w w0 := (by rw [hw0]; simp); have hc0 := hc.later hL0; have Hw0 := hide hw0; clear hw0
  go_enter Try.func109, Try.ntmps109
  go_wp2_with fail
  rw [← Hw0.out]; clear Hw0
  go_loopw [3, 4] (fun v i wr => ∃ j : Nat, j ≤ n1 ∧ i = .int .i64 j ∧ v = .int .i64 (c.closets ^ j) ∧ Later w0 wr) (fun _ i _ => n1 - (intOf i).toNat)
  case atStart => exact ⟨0, Nat.zero_le _, rfl, by simp, later_refl _⟩
  case round =>
    obtain ⟨j, hj, rfl, rfl, hL⟩ := hrel
    by_cases hlt : j < n1
    · have hi1 : (j : Int) < n1 := by omega
      have h1 := Hpw.out j (by omega)
      have h2 := Hpw.out (j + 1) (by omega)
      rw [Int.pow_succ] at h2
      have hs : c.closets ^ (j + 1) = c.closets ^ j * c.closets := Int.pow_succ _ _
      generalize hq : c.closets ^ j = q at *
      have Hs := hide hs
      have hw : IntKind.i64.wrap (q * c.closets) = q * c.closets := IntWalk.i64_in _ (by omega)
      have hw2 : wrap64 (q * c.closets) = q * c.closets := by unfold wrap64; omega
      clear hs hq
      go_wp2_with fail
      go_roundw
      case rel => exact ⟨j + 1, hlt, by go_num, by rw [Hs.out], hL⟩
      case measure => simp [intOf]; omega
    · have hi1 : ¬ (j : Int) < n1 := by omega
      have hjn : j = n1 := by omega
      subst j
      rw [← Hend.out]
      go_wp2_with fail
      go_ret
      exact ⟨rfl, Later.trans hL0 hL⟩

theorem ints_zero (k : Nat) : ints (List.replicate k 0) = List.replicate k (Value.int .i64 0) := by simp [ints]
theorem make_ints0 (W : World) : (Instr.makeSlice 23 (.int .i64 ((0 : Nat) : Int)) (.int .i64 ((0 : Nat) : Int))).run Try.prog W = .ok (.slice (some ⟨W.heap.size, 0, none⟩) 0 0) (W.alloc (.cells (ints (List.replicate 0 0)).toArray 3)) := by kernel_rfl
theorem make_ints1 (W : World) : (Instr.makeSlice 23 (.int .i64 ((1 : Nat) : Int)) (.int .i64 ((1 : Nat) : Int))).run Try.prog W = .ok (.slice (some ⟨W.heap.size, 0, none⟩) 1 1) (W.alloc (.cells (ints (List.replicate 1 0)).toArray 3)) := by kernel_rfl
theorem make_ints2 (W : World) : (Instr.makeSlice 23 (.int .i64 ((2 : Nat) : Int)) (.int .i64 ((2 : Nat) : Int))).run Try.prog W = .ok (.slice (some ⟨W.heap.size, 0, none⟩) 2 2) (W.alloc (.cells (ints (List.replicate 2 0)).toArray 3)) := by kernel_rfl
theorem make_ints3 (W : World) : (Instr.makeSlice 23 (.int .i64 ((3 : Nat) : Int)) (.int .i64 ((3 : Nat) : Int))).run Try.prog W = .ok (.slice (some ⟨W.heap.size, 0, none⟩) 3 3) (W.alloc (.cells (ints (List.replicate 3 0)).toArray 3)) := by kernel_rfl
theorem make_ints4 (W : World) : (Instr.makeSlice 23 (.int .i64 ((4 : Nat) : Int)) (.int .i64 ((4 : Nat) : Int))).run Try.prog W = .ok (.slice (some ⟨W.heap.size, 0, none⟩) 4 4) (W.alloc (.cells (ints (List.replicate 4 0)).toArray 3)) := by kernel_rfl
theorem make_ints (n : Nat) (hn : n ≤ 4) (W : World) : (Instr.makeSlice 23 (.int .i64 (n : Int)) (.int .i64 (n : Int))).run Try.prog W = .ok (.slice (some ⟨W.heap.size, 0, none⟩) n n) (W.alloc (.cells (ints (List.replicate n 0)).toArray 3)) := by
  have : n = 0 ∨ n = 1 ∨ n = 2 ∨ n = 3 ∨ n = 4 := by omega
  rcases this with rfl | rfl | rfl | rfl | rfl
  · exact make_ints0 W
  · exact make_ints1 W
  · exact make_ints2 W
  · exact make_ints3 W
  · exact make_ints4 W
theorem ints_set_ (D : List Int) (k : Nat) (x : Int) : (ints D).toArray.setIfInBounds k (.int .i64 x) = (ints (D.set k x)).toArray := by
  simp [ints]
theorem rep_set (k : Nat) (acc : List Int) (x : Int) : (List.replicate (k + 1) 0 ++ acc).set k x = List.replicate k 0 ++ x :: acc := by
  rw [List.replicate_succ', List.append_assoc, List.set_append_right _ _ (by simp)]
  simp
def PlacePost (c : Clo) (n : Int) (w : World) (e : Ending) (w' : World) : Prop := ∃ A k, e = .returned (.slice A c.horses.length k) ∧ Later w w' ∧ RI w' A c.horses.length (placeN c n) ∧ c.horses.length ≤ k
set_option maxRecDepth 100000 in
theorem Place_calls {A1 A2 A3 : Option Addr} {n1 k1 n2 k2 n3 k3 : Nat} {c : Clo} {n : Int} (w : World) (hc : CV w c A1 n1 A2 n2 A3 n3) (ok : OkH c) (h0 : 0 ≤ n) (h1 : n ≤ 1000000) :
    Calls Try.prog 110 #[(.agg #[.int .i64 c.closets, .int .i64 c.close, .slice A1 n1 k1, .slice A2 n2 k2, .slice A3 n3 k3]), .int .i64 n] w (PlacePost c n w) := by
  have hn1 := hc.hs.len
  have hn14 : n1 ≤ 4 := by have := ok.len; omega
  have hc1 := ok.cl1
  have hc4 := ok.cl4
  have Hn1 := hide hn1
  clear hn1
  obtain ⟨w0, hw0⟩ : ∃ W, W = (w.alloc (.cells #[.int .i64 c.closets, .int .i64 c.close, .slice A1 n1 k1, .slice A2 n2 k2, .slice A3 n3 k3] 26)) := ⟨_, rfl⟩; have hbox : ∀ W, Later w0 W → ∀ i, W.cell? ⟨w.heap.size, i, none⟩ = #[.int .i64 c.closets, .int .i64 c.close, .slice A1 n1 k1, .slice A2 n2 k2, .slice A3 n3 k3][i]? := (by rw [hw0]; exact box_cells w #[.int .i64 c.closets, .int .i64 c.close, .slice A1 n1 k1, .slice A2 n2 k2, .slice A3 n3 k3] 26); have hL0 : Later w w0 := (by rw [hw0]; simp); have hc0 := hc.later hL0; have Hw0 := hide hw0; clear hw0
  have hs0 : w0.heap.size = w.heap.size + 1 := by rw [Hw0.out]; simp
  have hmk := make_ints n1 hn14
  obtain ⟨w1, hw1⟩ : ∃ W, W = w0.alloc (.cells (ints (List.replicate n1 0)).toArray 3) := ⟨_, rfl⟩
  have hL1 : Later w0 w1 := by rw [hw1]; exact later_alloc (later_refl _) _
  have hb1 : Blk w1 (w.heap.size + 1) 3 (ints (List.replicate n1 0)).toArray := by rw [hw1, ← hs0]; exact Blk.new _ _ _
  have hsub : IntKind.i64.wrap ((n1 : Int) - 1) = (n1 : Int) - 1 := IntWalk.i64_in _ (by omega)
  have hend : placeAux c.closets n1 n [] = placeN c n := by unfold placeN; rw [Hn1.out]
  have hbx1 := fun W (hW : Later w1 W) => hbox W (Later.trans hL1 hW)
  have Hend := hide hend
  have Hw1 := hide hw1
  have Hb1' := hide hb1
  have Hs0 := hide hs0
  clear hend hw1 hb1 hs0
  go_enter Try.func110, Try.ntmps110
  go_wp2_with fail
  rw [← Hw0.out, ← Hw1.out]
  clear hmk Hw0 Hw1 hbx1
  obtain ⟨g, hg⟩ : ∃ g, g = w.heap.size + 1 := ⟨_, rfl⟩
  have hgl : w0.heap.size ≤ g := by have := Hs0.out; omega
  rw [← hg]
  have Hb1 : Hid (Blk w1 g 3 (ints (List.replicate n1 0)).toArray) := by rw [hg]; exact Hb1'
  clear hg Hb1' Hs0
  go_loopw [1, 6] (fun v i wr => ∃ (k : Nat) (q : Int) (acc : List Int), i = .int .i64 ((k : Int) - 1) ∧ v = .int .i64 q ∧ 0 ≤ q ∧ q ≤ 1000000 ∧ acc.length + k = n1 ∧ Hid (placeAux c.closets k q acc = placeN c n) ∧ Blk wr g 3 (ints (List.replicate k 0 ++ acc)).toArray ∧ Later w0 wr) (fun _ i _ => (intOf i + 1).toNat)
  case atStart => exact ⟨n1, n, [], rfl, rfl, h0, h1, by simp, Hend.out, by rw [List.append_nil]; exact Hb1.out, hL1⟩
  case round =>
    obtain ⟨k, q, acc, rfl, rfl, hq0, hq1, hlen, Hpl, hbk, hL⟩ := hrel
    cases k with
    | zero =>
      have e0 : ((0 : Nat) : Int) - 1 = -1 := rfl
      rw [e0]
      have hrd : RI wr (some ⟨g, 0, none⟩) n1 acc := by
        refine ⟨by rw [ints_length]; omega, fun _ => ⟨_, rfl, hbk.lt, fun j u hu => ?_⟩⟩
        rw [add_lit, Nat.zero_add, hbk.cell, List.getElem?_toArray]
        exact hu
      have hacc : acc = placeN c n := Hpl.out
      rw [hacc] at hrd
      clear hbk hlen hacc
      go_wp2_with fail
      go_ret
      rw [PlacePost, ← Hn1.out]
      exact ⟨_, n1, rfl, Later.trans hL0 hL, hrd, Nat.le_refl _⟩
    | succ t =>
      have e1 : ((t + 1 : Nat) : Int) - 1 = (t : Int) := by omega
      rw [e1]
      have ht0 : 0 ≤ (t : Int) := by omega
      have htn : (t : Int) < n1 := by omega
      have hz1 : ¬ c.closets = 0 := by omega
      have hem1 : 0 ≤ q % c.closets := Int.emod_nonneg _ (by omega)
      have hem2 : q % c.closets < c.closets := Int.emod_lt_of_pos _ (by omega)
      have hdv1 : 0 ≤ q / c.closets := Int.ediv_nonneg hq0 (by omega)
      have hdv2 : q / c.closets ≤ 1000000 := Int.le_trans (Int.ediv_le_self _ hq0) hq1
      have hz2 : q.tmod c.closets = q % c.closets := Int.tmod_eq_emod_of_nonneg hq0
      have hz3 : q.tdiv c.closets = q / c.closets := Int.tdiv_eq_ediv_of_nonneg hq0
      have hw2 : IntKind.i64.wrap (q % c.closets) = q % c.closets := IntWalk.i64_in _ (by omega)
      have hw3 : IntKind.i64.wrap (q / c.closets) = q / c.closets := IntWalk.i64_in _ (by omega)
      have hcel := hbk.cell t
      have hfr := hbk.frozen t
      have hsz := hbk.lt
      have hct : (ints (List.replicate (t + 1) 0 ++ acc)).toArray[t]? = some (.int .i64 0) := by
        rw [List.getElem?_toArray]
        simp [ints, List.getElem?_append_left, List.replicate_succ']
      rw [hct] at hcel
      have Hbk := hide hbk
      have hset : ∀ X u, Later w0 X → Later w0 (X.setCell ⟨g, t, none⟩ u) := fun X u h => later_set h ⟨g, t, none⟩ hgl u
      clear hct hbk e1
      go_wp2_with fail
      go_region_held3 (fun X => Later w0 X) (((repeat (first | assumption | refine later_drew ?_ | refine hset _ _ ?_)); done)) (fail)
      have hLf : Later w0 ((wr.setCell ⟨g, t, none⟩ (.int .i64 (q % c.closets))).drew) := later_drew (hset _ _ hL)
      have hbf : Blk ((wr.setCell ⟨g, t, none⟩ (.int .i64 (q % c.closets))).drew) g 3 (ints (List.replicate t 0 ++ (q % c.closets) :: acc)).toArray := by
        have h1 := Hbk.out.set_ t (.int .i64 (q % c.closets))
        rw [ints_set_, rep_set] at h1
        exact h1
      go_wp2_with fail
      go_roundw
      case rel => exact ⟨t, q / c.closets, (q % c.closets) :: acc, rfl, rfl, hdv1, hdv2, by simp; omega, Hpl.out, hbf, hLf⟩
      case measure => simp [intOf] <;> omega
end Go.Proofs.Ytjilckjhdlabaaa

/- The reference's Best: walk. -/
namespace Go.Proofs.Ytjilckjhdlabaaa
open Go Go.RowKit

def bestTo (c : Clo) (l : List (List Int)) (j : Nat) : Option (List Int × Int) := (List.range j).foldl (bestStep c l) none
theorem bestTo_succ (c : Clo) (l : List (List Int)) (j : Nat) : bestTo c l (j + 1) = bestStep c l (bestTo c l j) j := by
  unfold bestTo; rw [List.range_succ, List.foldl_append]; rfl
/-- the slots that hold what has been found -/
def BestIs (w : World) (b : Option (List Int × Int)) (v d f : Value) : Prop :=
  match b with
  | none => v = .slice none 0 0 ∧ d = .int .i64 0 ∧ f = .bool false
  | some q => (∃ A n k, v = .slice A n k ∧ RI w A n q.1 ∧ n ≤ k) ∧ d = .int .i64 q.2 ∧ f = .bool true
theorem BestIs.later {w W : World} {b : Option (List Int × Int)} {v d f : Value} (h : BestIs w b v d f) (k : Later w W) : BestIs W b v d f := by
  cases b with
  | none => exact h
  | some q => obtain ⟨⟨A, n, k', e, hr, hk⟩, h2, h3⟩ := h; exact ⟨⟨A, n, k', e, hr.later k, hk⟩, h2, h3⟩
def BestRPost (c : Clo) (l : List (List Int)) (w : World) (e : Ending) (w' : World) : Prop :=
  ∃ v d f, e = .returned (.tuple #[v, d, f]) ∧ Later w w' ∧ BestIs w' (bestR c l) v d f
set_option maxRecDepth 100000 in
set_option maxHeartbeats 2000000 in
theorem BestR_calls {A1 A2 A3 : Option Addr} {n1 k1 n2 k2 n3 k3 : Nat} {c : Clo} {Al : Option Addr} {nl kl : Nat} {ll : List (List Int)} (w : World) (hc : CV w c A1 n1 A2 n2 A3 n3) (hcl : i64 c.closets) (hl : RRI w Al nl ll) (ok : OkC c) (hdry : ∀ d ∈ ll, IsDry c d) (hn : nl ≤ 1000000) :
    Calls Try.prog 63 #[(.agg #[.int .i64 c.closets, .int .i64 c.close, .slice A1 n1 k1, .slice A2 n2 k2, .slice A3 n3 k3]), .slice Al nl kl] w (BestRPost c ll w) := by
  have hn1 := hc.hs.len
  have hn14 : n1 ≤ 4 := by have := ok.len; omega
  have hpw := pow_le256 ok.cl1 ok.cl4 c.horses.length ok.len
  have hpl : places c = c.closets ^ c.horses.length := rfl
  rw [← hpl] at hpw
  have hend : bestR c ll = bestTo c ll (places c).toNat := rfl
  have Hn1 := hide hn1
  have Hend := hide hend
  clear hn1 hpl hend
  obtain ⟨w0, hw0⟩ : ∃ W, W = (w.alloc (.cells #[.int .i64 c.closets, .int .i64 c.close, .slice A1 n1 k1, .slice A2 n2 k2, .slice A3 n3 k3] 26)) := ⟨_, rfl⟩; have hbox : ∀ W, Later w0 W → ∀ i, W.cell? ⟨w.heap.size, i, none⟩ = #[.int .i64 c.closets, .int .i64 c.close, .slice A1 n1 k1, .slice A2 n2 k2, .slice A3 n3 k3][i]? := (by rw [hw0]; exact box_cells w #[.int .i64 c.closets, .int .i64 c.close, .slice A1 n1 k1, .slice A2 n2 k2, .slice A3 n3 k3] 26); have hL0 : Later w w0 := (by rw [hw0]; simp); have hc0 := hc.later hL0; have Hw0 := hide hw0; clear hw0
  have hl0 := hl.later hL0
  go_enter Try.func63, Try.ntmps63
  go_wp2_with fail
  rw [← Hw0.out]; clear Hw0
  go_loopw [7, 8, 9, 10] (fun v d f i wr => ∃ j : Nat, (j : Int) ≤ places c ∧ i = .int .i64 j ∧ BestIs wr (bestTo c ll j) v d f ∧ Later w0 wr) (fun _ _ _ i _ => (places c - intOf i).toNat)
  case atStart => exact ⟨0, by omega, rfl, ⟨rfl, rfl, rfl⟩, later_refl _⟩
  case round =>
    obtain ⟨j, hj, rfl, hbi, hL⟩ := hrel
    have hpc := Places_calls (k1 := k1) (k2 := k2) (k3 := k3) wr (hc0.later hL) ok.toOkH
    obtain ⟨N, hN⟩ : ∃ N, places c = N := ⟨_, rfl⟩
    rw [hN] at hpc hj hpw
    have Hpc := hide hpc
    have HN := hide hN
    have Hbi := hide hbi
    clear hpc hN hbi
    by_cases hlt : (j : Int) < N
    · have hst := bestTo_succ c ll j
      have hst2 : bestTo c ll (j + 1) = if isPlaceB c (placeN c j) = false ∨ 0 ≤ stuckR c ll (placeN c j) then bestTo c ll j else
          match bestTo c ll j with
          | none => some (placeN c j, doneR c ll (placeN c j))
          | some q => if doneR c ll (placeN c j) < q.2 then some (placeN c j, doneR c ll (placeN c j)) else bestTo c ll j := by
        rw [hst]; unfold bestStep
        cases bestTo c ll j <;> rfl
      obtain ⟨p, hp⟩ : ∃ p, placeN c (j : Int) = p := ⟨_, rfl⟩
      have hplc := fun (W : World) (hW : Later w0 W) => Place_calls (k1 := k1) (k2 := k2) (k3 := k3) (n := (j : Int)) W (hc0.later hW) ok.toOkH (by omega) (by omega)
      unfold PlacePost at hplc
      rw [hp] at hplc hst2
      rw [← Hn1.out] at hplc
      have Hplc := hide hplc
      have Hst := hide hst2
      clear hplc hst hst2 hp
      obtain ⟨b, hb⟩ : ∃ b, isPlaceB c p = b := ⟨_, rfl⟩
      have hip := fun (W : World) (hW : Later w0 W) (A : Option Addr) (k : Nat) (hr : RI W A n1 p) => IsPlace_calls (kp := k) (k1 := k1) (k2 := k2) (k3 := k3) W (hc0.later hW) hr hcl (by omega) (by omega)
      rw [hb] at hip Hst
      have Hip := hide hip
      have Hb := hide hb
      clear hip hb
      go_wp2_with fail
      refine Hpc.out.mono ?_
      rintro e w2 ⟨rfl, hM2⟩
      have hL2 := Later.trans hL hM2
      go_wp2_with fail
      refine (Hplc.out w2 hL2).mono ?_
      rintro e w3 ⟨Ap, kp, rfl, hM3, hrp, hkp⟩
      have hL3 := Later.trans hL2 hM3
      have hbi3 := Hbi.out.later (Later.trans hM2 hM3)
      cases b with
      | false =>
        rw [if_pos (.inl rfl)] at Hst
        go_wp2_with fail
        refine (Hip.out w3 hL3 _ _ hrp).mono ?_
        rintro e w4 ⟨rfl, hM4⟩
        have hL4 := Later.trans hL3 hM4
        have hbi4 := hbi3.later hM4
        have Hbi4 := hide hbi4
        clear hbi3 hbi4
        go_wp2_with fail
        go_roundw
        case rel => exact ⟨j + 1, by rw [HN.out]; omega, by go_num, by rw [Hst.out]; exact Hbi4.out, hL4⟩
        case measure => simp [intOf]; have := HN.out; omega
      | true =>
        have hplp : IsPl c p := (isPlaceB_iff ok.cl1 ok.cl4 p).1 Hb.out
        have hsc := fun (W : World) (hW : Later w0 W) (A : Option Addr) (k : Nat) (hr : RI W A n1 p) => Stuck_calls (k1 := k1) (k2 := k2) (k3 := k3) (kl := kl) (kp := k) W (hc0.later hW) (hl0.later hW) hr ok hplp hdry hn
        have hdc := fun (W : World) (hW : Later w0 W) (A : Option Addr) (k : Nat) (hr : RI W A n1 p) => Done_calls (k1 := k1) (k2 := k2) (k3 := k3) (kl := kl) (kp := k) W (hc0.later hW) (hl0.later hW) hr ok hplp hdry hn
        obtain ⟨s, hs⟩ : ∃ s, stuckR c ll p = s := ⟨_, rfl⟩
        obtain ⟨m, hm⟩ : ∃ m, doneR c ll p = m := ⟨_, rfl⟩
        rw [hs] at hsc Hst
        rw [hm] at hdc Hst
        have Hsc := hide hsc
        have Hdc := hide hdc
        clear hsc hdc hs hm hplp
        by_cases h0 : 0 ≤ s
        · rw [if_pos (.inr h0)] at Hst
          go_wp2_with fail
          refine (Hip.out w3 hL3 _ _ hrp).mono ?_
          rintro e w4 ⟨rfl, hM4⟩
          have hL4 := Later.trans hL3 hM4
          go_wp2_with fail
          refine (Hsc.out w4 hL4 _ _ (hrp.later hM4)).mono ?_
          rintro e w5 ⟨rfl, hM5⟩
          have hL5 := Later.trans hL4 hM5
          have hbi5 := hbi3.later (Later.trans hM4 hM5)
          have Hbi5 := hide hbi5
          clear hbi3 hbi5
          go_wp2_with fail
          go_roundw
          case rel => exact ⟨j + 1, by rw [HN.out]; omega, by go_num, by rw [Hst.out]; exact Hbi5.out, hL5⟩
          case measure => simp [intOf]; have := HN.out; omega
        · rw [if_neg (by simp; omega)] at Hst
          have h0' : s < 0 := by omega
          cases hbt : bestTo c ll j with
          | none =>
            rw [hbt] at Hst hbi3
            obtain ⟨rfl, rfl, rfl⟩ := hbi3
            clear hbt
            go_wp2_with fail
            refine (Hip.out w3 hL3 _ _ hrp).mono ?_
            rintro e w4 ⟨rfl, hM4⟩
            have hL4 := Later.trans hL3 hM4
            go_wp2_with fail
            refine (Hsc.out w4 hL4 _ _ (hrp.later hM4)).mono ?_
            rintro e w5 ⟨rfl, hM5⟩
            have hL5 := Later.trans hL4 hM5
            go_wp2_with fail
            refine (Hdc.out w5 hL5 _ _ (hrp.later (Later.trans hM4 hM5))).mono ?_
            rintro e w6 ⟨rfl, hM6⟩
            have hL6 := Later.trans hL5 hM6
            have hrp6 := hrp.later (Later.trans hM4 (Later.trans hM5 hM6))
            clear hrp
            go_wp2_with fail
            go_roundw
            case rel => exact ⟨j + 1, by rw [HN.out]; omega, by go_num, by rw [Hst.out]; exact ⟨⟨Ap, n1, kp, rfl, hrp6, hkp⟩, rfl, rfl⟩, hL6⟩
            case measure => simp [intOf]; have := HN.out; omega
          | some q =>
            rw [hbt] at Hst hbi3
            obtain ⟨⟨Ax, nx, kx, rfl, hrx, hkx⟩, rfl, rfl⟩ := hbi3
            obtain ⟨q1, q2⟩ := q
            clear hbt
            by_cases hlt2 : m < q2
            · have Hst2 : Hid (bestTo c ll (j + 1) = some (p, m)) := by have := Hst.out; dsimp only at this; rw [if_pos hlt2] at this; exact this
              clear Hst
              go_wp2_with fail
              refine (Hip.out w3 hL3 _ _ hrp).mono ?_
              rintro e w4 ⟨rfl, hM4⟩
              have hL4 := Later.trans hL3 hM4
              go_wp2_with fail
              refine (Hsc.out w4 hL4 _ _ (hrp.later hM4)).mono ?_
              rintro e w5 ⟨rfl, hM5⟩
              have hL5 := Later.trans hL4 hM5
              go_wp2_with fail
              refine (Hdc.out w5 hL5 _ _ (hrp.later (Later.trans hM4 hM5))).mono ?_
              rintro e w6 ⟨rfl, hM6⟩
              have hL6 := Later.trans hL5 hM6
              have hrp6 := hrp.later (Later.trans hM4 (Later.trans hM5 hM6))
              clear hrp hrx
              go_wp2_with fail
              go_roundw
              case rel => exact ⟨j + 1, by rw [HN.out]; omega, by go_num, by rw [Hst2.out]; exact ⟨⟨Ap, n1, kp, rfl, hrp6, hkp⟩, rfl, rfl⟩, hL6⟩
              case measure => simp [intOf]; have := HN.out; omega
            · have Hst2 : Hid (bestTo c ll (j + 1) = some (q1, q2)) := by have := Hst.out; dsimp only at this; rw [if_neg hlt2] at this; exact this
              clear Hst
              go_wp2_with fail
              refine (Hip.out w3 hL3 _ _ hrp).mono ?_
              rintro e w4 ⟨rfl, hM4⟩
              have hL4 := Later.trans hL3 hM4
              go_wp2_with fail
              refine (Hsc.out w4 hL4 _ _ (hrp.later hM4)).mono ?_
              rintro e w5 ⟨rfl, hM5⟩
              have hL5 := Later.trans hL4 hM5
              go_wp2_with fail
              refine (Hdc.out w5 hL5 _ _ (hrp.later (Later.trans hM4 hM5))).mono ?_
              rintro e w6 ⟨rfl, hM6⟩
              have hL6 := Later.trans hL5 hM6
              have hrx6 := hrx.later (Later.trans hM4 (Later.trans hM5 hM6))
              clear hrp hrx
              go_wp2_with fail
              go_roundw
              case rel => exact ⟨j + 1, by rw [HN.out]; omega, by go_num, by rw [Hst2.out]; exact ⟨⟨Ax, nx, kx, rfl, hrx6, hkx⟩, rfl, rfl⟩, hL6⟩
              case measure => simp [intOf]; have := HN.out; omega
    · have hjn : j = N.toNat := by omega
      have Hend2 : Hid (bestTo c ll j = bestR c ll) := by show _ = _; rw [Hend.out, HN.out, hjn]
      go_wp2_with fail
      refine Hpc.out.mono ?_
      rintro e w2 ⟨rfl, hM2⟩
      have hbi2 := Hbi.out.later hM2
      rw [Hend2.out] at hbi2
      have Hbi2 := hide hbi2
      have hL2 := Later.trans hL hM2
      clear hbi2
      go_wp2_with fail
      refine bodyPost_ret (v := .tuple #[u7, u8, u9]) ?_ rfl ⟨u7, u8, u9, rfl, Later.trans hL0 hL2, Hbi2.out⟩
      simp [results, Try.results63, go_sem]
end Go.Proofs.Ytjilckjhdlabaaa
