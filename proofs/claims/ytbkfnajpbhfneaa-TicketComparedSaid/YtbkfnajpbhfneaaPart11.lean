/- Part 11 of the proof: joined from the texts TrI, TrJ. -/
import Derived.Test.YtbkfnajpbhfneaaPart7
set_option linter.unusedSimpArgs false
set_option linter.unusedVariables false
/- The reference's From: walk. -/
namespace Go.Proofs.Ytbkfnajpbhfneaa
open Go Go.RowKit

def fromTo (c : Hou) (d : List Int) (tub : Int) (j : Nat) : Int := (List.range j).foldl (fromStep c d tub) 0
theorem fromTo_succ (c : Hou) (d : List Int) (tub : Int) (j : Nat) : fromTo c d tub (j + 1) = fromStep c d tub (fromTo c d tub j) j := by
  unfold fromTo; rw [List.range_succ, List.foldl_append]; rfl
theorem fromTo_range {c : Hou} (ok : OkH c) {d : List Int} (hd : IsErr c d) (tub : Int) (j : Nat) : 0 ≤ fromTo c d tub j ∧ fromTo c d tub j ≤ 1469 := from_fold ok hd tub _ 0 (by omega)
set_option maxRecDepth 100000 in
set_option maxHeartbeats 1000000 in
theorem From_calls {A1 A2 A3 : Option Addr} {n1 k1 n2 k2 n3 k3 : Nat} {c : Hou} {Ad : Option Addr} {nd kd : Nat} {d : List Int} {tub : Int} (w : World) (hc : CV w c A1 n1 A2 n2 A3 n3) (hd : RI w Ad nd d) (ok : OkH c) (he : IsErr c d) :
    Calls Try.prog 96 #[(.agg #[.int .i64 c.hour, .int .i64 c.grace, .slice A1 n1 k1, .slice A2 n2 k2, .slice A3 n3 k3]), .slice Ad nd kd, .int .i64 tub] w fun e w' => e = .returned (.int .i64 (fromR c d tub)) ∧ Later w w' := by
  have hl2 := hc.tk.len
  have hn2 := ok.n2
  have hn26 : n2 ≤ 6 := by omega
  have hl3 := hc.cp.len
  have hn3 := ok.n3
  have hm3 : n3 ≤ 1000 := by omega
  have hend : fromTo c d tub n2 = fromR c d tub := by rw [hl2]; rfl
  have hlt3 : ∀ t i, i ∈ ofR c t → i < n3 := fun t i hi => by rw [hl3]; exact ofR_lt hi
  have Hlt := hide hlt3
  have Hend := hide hend
  clear hl2 hn2 hl3 hn3 hlt3 hend
  obtain ⟨w0, hw0⟩ : ∃ W, W = (w.alloc (.cells #[.int .i64 c.hour, .int .i64 c.grace, .slice A1 n1 k1, .slice A2 n2 k2, .slice A3 n3 k3] 26)) := ⟨_, rfl⟩; have hbox : ∀ W, Later w0 W → ∀ i, W.cell? ⟨w.heap.size, i, none⟩ = #[.int .i64 c.hour, .int .i64 c.grace, .slice A1 n1 k1, .slice A2 n2 k2, .slice A3 n3 k3][i]? := (by rw [hw0]; exact box_cells w #[.int .i64 c.hour, .int .i64 c.grace, .slice A1 n1 k1, .slice A2 n2 k2, .slice A3 n3 k3] 26); have hL0 : Later w w0 := (by rw [hw0]; simp); have hc0 := hc.later hL0; have Hw0 := hide hw0; clear hw0
  have hd0 := hd.later hL0
  have HT := hide (fun (W : World) (h : Later w0 W) i (hi : i < n3) => True_calls (k1 := k1) (k2 := k2) (k3 := k3) (kd := kd) W (hc0.later h) (hd0.later h) ok he hi)
  go_enter Try.func96, Try.ntmps96
  go_wp2_with fail
  rw [← Hw0.out]; clear Hw0
  go_loopw [7, 8, 9] (fun v u _ wr => ∃ i : Nat, i ≤ n2 ∧ u = .int .i64 i ∧ v = .int .i64 (fromTo c d tub i) ∧ Later w0 wr) (fun _ u _ _ => n2 - (intOf u).toNat)
  case atStart => exact ⟨0, Nat.zero_le _, rfl, rfl, later_refl _⟩
  case round =>
    obtain ⟨i, hi, rfl, rfl, hL⟩ := hrel
    by_cases hlt : i < n2
    · have hi1 : (i : Int) < n2 := by omega
      obtain ⟨b, o, x, rfl, _, hx, hx0, hx1⟩ := hc0.tk.get hlt
      have hs := fromTo_succ c d tub i
      unfold fromStep at hs
      rw [tickAt_of hx] at hs
      have hfr := fromTo_range ok he tub i
      have Hs := hide hs
      generalize fromTo c d tub i = q at *
      clear hx hx1 hs
      go_wp2_with fail
      refine (Of_calls (k1 := k1) (k2 := k2) (k3 := k3) _ (hc0.later hL) hm3).mono ?_
      rintro e w1 ⟨A, k, rfl, hL1, hri⟩
      have hL2 := Later.trans hL hL1
      have hx0 := hx0 _ hL2
      by_cases h1 : x.1 = tub
      · have hb1 : (x.1 == tub) = true := by simpa using h1
        rw [if_pos h1] at Hs
        clear h1
        by_cases h2 : (ofR c i).length = 2
        · obtain ⟨a, b', hof⟩ : ∃ a b, ofR c i = [a, b] := by
            match h : ofR c i with
            | [] => rw [h] at h2; simp at h2
            | [_] => rw [h] at h2; simp at h2
            | [a, b] => exact ⟨a, b, rfl⟩
            | _ :: _ :: _ :: l => rw [h] at h2; simp at h2
          rw [hof] at Hs hri
          have hb3 : b' < n3 := Hlt.out i b' (by rw [hof]; simp)
          rw [hof] at h2 ⊢
          have Hof := hide hof
          obtain ⟨b2, p2, z, rfl, _, hz, hz0⟩ := hri.get (k := 1) (by simp)
          simp only [nats, List.map_cons, List.map_nil, List.getElem?_cons_succ, List.getElem?_cons_zero, Option.some.injEq] at hz
          subst hz
          have hm1 : (1 : Int) < (([a, b'] : List Nat).length : Nat) := by simp
          have hb2 : (((([a, b'] : List Nat).length : Nat) : Int) == 2) = true := by simp
          have Hs2 : Hid (fromTo c d tub (i + 1) = max q (trueM c d b')) := Hs.out
          have htr := trueM_range ok he (i := b') (by have := hc.cp.len; omega)
          generalize ([a, b'] : List Nat).length = m at *
          have hbox1 := fun W (hh : Later w1 W) => hbox W (Later.trans hL2 hh)
          clear hof h2 Hs hri hbox
          go_wp2_with fail
          refine wp_region_ext (w0 := w1) (by kernel_rfl) (by kernel_rfl) (later_refl _) ?_; (repeat (first | go_big_quiet_step (((go_at_call 70; exact calls_ext (by (repeat (first | assumption | exact Ext.h _ | refine later_drew ?_ | refine later_alloc ?_ _ | refine later_set ?_ _ (Nat.le_add_right _ _) _ | refine later_set ?_ _ (Nat.le_refl _) _)); done) (HT.out _ (Later.trans hL2 (by (repeat (first | assumption | exact Ext.h _ | refine later_drew ?_ | refine later_alloc ?_ _ | refine later_set ?_ _ (Nat.le_add_right _ _) _ | refine later_set ?_ _ (Nat.le_refl _) _)); done)) _ (by assumption))))) | quiet_step (((go_at_call 70; exact calls_ext (by (repeat (first | assumption | exact Ext.h _ | refine later_drew ?_ | refine later_alloc ?_ _ | refine later_set ?_ _ (Nat.le_add_right _ _) _ | refine later_set ?_ _ (Nat.le_refl _) _)); done) (HT.out _ (Later.trans hL2 (by (repeat (first | assumption | exact Ext.h _ | refine later_drew ?_ | refine later_alloc ?_ _ | refine later_set ?_ _ (Nat.le_add_right _ _) _ | refine later_set ?_ _ (Nat.le_refl _) _)); done)) _ (by assumption))))))); refine wpQuiet_nil ?_; rintro w3 ⟨⟨_, hL3⟩, rfl⟩; (try dsimp only)
          go_wp2_with fail
          go_roundw
          case rel => exact ⟨i + 1, hlt, by go_num, by rw [Hs2.out]; first | rfl | (congr 1; rw [Int.max_def]; split <;> split <;> omega), Later.trans hL2 hL3⟩
          case measure => simp [intOf]; omega
        · have hb2 : ((((ofR c i).length : Nat) : Int) == 2) = false := by simp; omega
          have Hs2 : Hid (fromTo c d tub (i + 1) = q) := by
            show _ = _
            rw [Hs.out]
            match h : ofR c i with
            | [] => rfl
            | [_] => rfl
            | [a, b] => rw [h] at h2; simp at h2
            | _ :: _ :: _ :: l => rfl
          clear h2 Hs hri
          go_wp2_with fail
          go_roundw
          case rel => exact ⟨i + 1, hlt, by go_num, by rw [Hs2.out], hL2⟩
          case measure => simp [intOf]; omega
      · have hb1 : (x.1 == tub) = false := by simpa using h1
        rw [if_neg h1] at Hs
        clear h1 hri
        go_wp2_with fail
        go_roundw
        case rel => exact ⟨i + 1, hlt, by go_num, by rw [Hs.out], hL2⟩
        case measure => simp [intOf]; omega
    · have hin : i = n2 := by omega
      subst hin
      generalize fromTo c d tub i = q at *
      go_wp2_with fail
      go_ret
      exact ⟨ret_int Hend.out, Later.trans hL0 hL⟩
end Go.Proofs.Ytbkfnajpbhfneaa

/- The reference's Empty, Wider, Clock, HoursOf, Free: walks. -/
namespace Go.Proofs.Ytbkfnajpbhfneaa
open Go Go.RowKit

theorem Empty_calls (w : World) : Calls Try.prog 82 #[] w fun e w' => e = .returned (.agg #[.int .i64 1099511627776, .int .i64 (-1099511627776)]) ∧ Later w w' := by
  go_enter Try.func82, Try.ntmps82
  go_wp2_with fail
  exact bodyPost_ret (v := .agg #[.int .i64 1099511627776, .int .i64 (-1099511627776)]) (by simp [results, Try.results82, go_sem]) rfl ⟨rfl, by simp⟩

theorem Wider_calls (r : Int × Int) (n : Int) (w : World) : Calls Try.prog 83 #[.agg #[.int .i64 r.1, .int .i64 r.2], .int .i64 n] w fun e w' =>
    e = .returned (.agg #[.int .i64 (wider r n).1, .int .i64 (wider r n).2]) ∧ Later w w' := by
  obtain ⟨lo, hi⟩ := r
  dsimp only
  by_cases h1 : lo ≤ n <;> by_cases h2 : n ≤ hi
  all_goals
    go_enter Try.func83, Try.ntmps83
    go_wp2_with fail
    refine bodyPost_ret (v := .agg #[.int .i64 (wider (lo, hi) n).1, .int .i64 (wider (lo, hi) n).2]) ?_ rfl ⟨rfl, by simp⟩
    simp [results, Try.results83, go_sem, wider]
    omega


def bTo (f : List Int → Int) (l : List (List Int)) (j : Nat) : Int × Int := (l.take j).foldl (fun r d => wider r (f d)) (1099511627776, -1099511627776)
theorem bTo_succ (f : List Int → Int) {l : List (List Int)} {j : Nat} {d : List Int} (hx : l[j]? = some d) : bTo f l (j + 1) = wider (bTo f l j) (f d) := by
  unfold bTo; rw [List.take_add_one, hx, Option.toList_some, List.foldl_append]; rfl
theorem bTo_all (f : List Int → Int) {l : List (List Int)} {j : Nat} (h : l.length ≤ j) : bTo f l j = bR f l := by
  unfold bTo bR; rw [List.take_of_length_le h]

set_option maxRecDepth 100000 in
set_option maxHeartbeats 1000000 in
theorem Clock_calls {Al : Option Addr} {nl kl : Nat} {ll : List (List Int)} (k : Nat) (w : World) (hl : RRI w Al nl ll) (hk : ∀ d ∈ ll, k < d.length) (hn : nl ≤ 1000000) :
    Calls Try.prog 29 #[.slice Al nl kl, .int .i64 (k : Int)] w fun e w' => e = .returned (.agg #[.int .i64 (bR (offF k) ll).1, .int .i64 (bR (offF k) ll).2]) ∧ Later w w' := by
  have hnl := hl.len
  have Hnl := hide hnl
  clear hnl
  obtain ⟨w0, hw0⟩ : ∃ W, W = w := ⟨_, rfl⟩
  have hL0 : Later w w0 := by rw [hw0]; exact later_refl _
  have Hs0 : Hid (w0.heap.size = w.heap.size) := by show _ = _; rw [hw0]
  rw [← hw0] at hl ⊢
  have hL00 : Later w0 w0 := later_refl _
  clear hw0
  go_enter Try.func29, Try.ntmps29
  go_wp2_with fail
  refine (Empty_calls _).mono ?_
  rintro e w1 ⟨rfl, hL1⟩
  have hlt1 : w.heap.size < w1.heap.size := by have := later_size hL1; have := Hs0.out; simp at *; omega
  have hLw := Later.trans (later_alloc (later_refl w0) _) hL1
  have hBr : Blk w1 (w.heap.size) 44 #[.int .i64 0, .int .i64 0] := by
    have := Blk.new w0 44 #[.int .i64 0, .int .i64 0]
    rw [Hs0.out] at this
    exact this.later hL1
  rw [Hs0.out]
  go_wp2_with fail
  go_loopw [6] (fun i wr => ∃ j : Nat, j ≤ nl ∧ i = .int .i64 j ∧ Later w1 wr ∧ Blk wr w1.heap.size 44 #[.int .i64 (bTo (offF k) ll j).1, .int .i64 (bTo (offF k) ll j).2]) (fun i _ => nl - (intOf i).toNat)
  case atStart => exact ⟨0, Nat.zero_le _, rfl, later_alloc (later_refl _) _, Blk.new _ _ _⟩
  case round =>
    obtain ⟨j, hj, rfl, hL, hbk⟩ := hrel
    have hLr := Later.trans hLw hL
    by_cases hlt : j < nl
    · obtain ⟨b, o, d, Ad, nd, kd, rfl, hx, hrd, hcx⟩ := hl.get hlt
      have hstep := bTo_succ (offF k) hx
      have hkd := hk d (List.mem_of_getElem? hx)
      have hnd := hrd.len
      obtain ⟨be, oe, vd, rfl, _, hve, hce⟩ := hrd.get (k := k) (by omega)
      have hvd : offF k d = vd := by unfold offF; rw [List.getD_eq_getElem?_getD, hve]; rfl
      rw [hvd] at hstep
      have hk1 : (k : Int) < nd := by omega
      have hcx := fun W (hW : Later wr W) => hcx W (Later.trans hLr hW)
      have hce := fun W (hW : Later wr W) => hce W (Later.trans hLr hW)
      clear hvd hve hnd
      generalize bTo (offF k) ll j = r at *
      obtain ⟨r1, r2⟩ := r
      dsimp only at hbk
      have hi1 : (j : Int) < nl := by omega
      have hT : ∀ e : Ext wr, Later w0 e.W := fun e => Later.trans hLr e.h
      have hk0 := hbk.cells_later
      have hf := hbk.frozen_later
      have hsz := hbk.lt
      have Hb := hide hbk
      have Hstep := hide hstep
      clear hstep hbk hx hL1
      go_wp2_with fail
      refine wp_region_ext_tail (w0 := wr) 9 (by kernel_rfl) (by kernel_rfl) (later_refl _) ?_; simp only [List.take_succ_cons, List.take_zero, List.drop_succ_cons, List.drop_zero]; (repeat (first | go_big_quiet_step ((first | fail | (go_at_call 83; exact calls_ext (by simp) (Wider_calls (r1, r2) _ _)))) | quiet_step ((first | fail | (go_at_call 83; exact calls_ext (by simp) (Wider_calls (r1, r2) _ _)))))); refine wpQuiet_nil ?_; rintro w1 ⟨⟨_, hL1⟩, rfl⟩; (try dsimp only)
      go_wp2_with fail
      go_roundw
      case rel =>
        refine ⟨j + 1, by omega, by go_num, later_set (later_set (Later.trans hL hL1) _ (Nat.le_refl _) _) _ (Nat.le_refl _) _, ?_⟩
        rw [Hstep.out]
        exact ((Hb.out.later hL1).set_ 0 _).set_ 1 _
      case measure => simp [intOf]; omega
    · have hfin : bTo (offF k) ll j = bR (offF k) ll := bTo_all _ (by have := Hnl.out; omega)
      rw [hfin] at hbk
      clear hfin
      obtain ⟨⟨r1, r2⟩, hr⟩ : ∃ q, bR (offF k) ll = q := ⟨_, rfl⟩
      rw [hr] at hbk
      have Hr := hide hr
      clear hr
      dsimp only at hbk
      have hk0 := hbk.cell 0
      have hk1 := hbk.cell 1
      simp only [List.getElem?_toArray, List.getElem?_cons_zero, List.getElem?_cons_succ] at hk0 hk1
      have hbr := hBr.later hL
      have hr0 := hbr.cell 0
      have hr1 := hbr.cell 1
      have hf0 := hbr.frozen 0
      have hf1 := hbr.frozen 1
      simp only [List.getElem?_toArray, List.getElem?_cons_zero, List.getElem?_cons_succ] at hr0 hr1
      have hsz := hbk.lt
      clear hbk hbr hBr
      go_wp2_with fail
      refine bodyPost_ret (v := .agg #[.int .i64 r1, .int .i64 r2]) ?_ rfl ⟨by rw [Hr.out], ?_⟩
      · simp [results, Try.results29, go_sem, *]
      · have := Later.trans hL0 hLr
        first | (simp [*]; done) | exact later_set (later_set hLr _ (Nat.le_of_eq Hs0.out) _) _ (Nat.le_of_eq Hs0.out) _

set_option maxRecDepth 100000 in
set_option maxHeartbeats 1000000 in
theorem From_eq {A1 A2 A3 : Option Addr} {n1 k1 n2 k2 n3 k3 : Nat} {c : Hou} {Ad : Option Addr} {nd kd : Nat} {d : List Int} {tub v : Int} (hv : fromR c d tub = v) (w : World) (hc : CV w c A1 n1 A2 n2 A3 n3) (hd : RI w Ad nd d) (ok : OkH c) (he : IsErr c d) :
    Calls Try.prog 96 #[(.agg #[.int .i64 c.hour, .int .i64 c.grace, .slice A1 n1 k1, .slice A2 n2 k2, .slice A3 n3 k3]), .slice Ad nd kd, .int .i64 tub] w fun e w' => e = .returned (.int .i64 v) ∧ Later w w' := by
  rw [← hv]; exact From_calls w hc hd ok he
set_option maxRecDepth 100000 in
set_option maxHeartbeats 1000000 in
theorem HoursOf_calls {A1 A2 A3 : Option Addr} {n1 k1 n2 k2 n3 k3 : Nat} {c : Hou} {Al : Option Addr} {nl kl : Nat} {ll : List (List Int)} (t : Nat) (w : World) (hc : CV w c A1 n1 A2 n2 A3 n3) (hl : RRI w Al nl ll) (ok : OkH c) (hdry : ∀ d ∈ ll, IsErr c d) (hn : nl ≤ 1000000) :
    Calls Try.prog 30 #[(.agg #[.int .i64 c.hour, .int .i64 c.grace, .slice A1 n1 k1, .slice A2 n2 k2, .slice A3 n3 k3]), .slice Al nl kl, .int .i64 (t : Int)] w fun e w' => e = .returned (.agg #[.int .i64 (bR (hoursF c t) ll).1, .int .i64 (bR (hoursF c t) ll).2]) ∧ Later w w' := by
  have hnl := hl.len
  have Hnl := hide hnl
  clear hnl
  obtain ⟨w0, hw0⟩ : ∃ W, W = (w.alloc (.cells #[.int .i64 c.hour, .int .i64 c.grace, .slice A1 n1 k1, .slice A2 n2 k2, .slice A3 n3 k3] 26)) := ⟨_, rfl⟩; have hbox : ∀ W, Later w0 W → ∀ i, W.cell? ⟨w.heap.size, i, none⟩ = #[.int .i64 c.hour, .int .i64 c.grace, .slice A1 n1 k1, .slice A2 n2 k2, .slice A3 n3 k3][i]? := (by rw [hw0]; exact box_cells w #[.int .i64 c.hour, .int .i64 c.grace, .slice A1 n1 k1, .slice A2 n2 k2, .slice A3 n3 k3] 26); have hL0 : Later w w0 := (by rw [hw0]; simp); have hc0 := hc.later hL0; have Hw0 := hide hw0; clear hw0
  have hs0 : w0.heap.size = w.heap.size + 1 := by rw [Hw0.out]; simp
  have Hs0 := hide hs0
  clear hs0
  go_enter Try.func30, Try.ntmps30
  go_wp2_with fail
  rw [← Hw0.out]
  refine (Empty_calls _).mono ?_
  rintro e w1 ⟨rfl, hL1⟩
  have hlt1 : w.heap.size + 1 < w1.heap.size := by have := later_size hL1; have := Hs0.out; simp at *; omega
  have hLw := Later.trans (later_alloc (later_refl w0) _) hL1
  have hBr : Blk w1 (w.heap.size + 1) 44 #[.int .i64 0, .int .i64 0] := by
    have := Blk.new w0 44 #[.int .i64 0, .int .i64 0]
    rw [Hs0.out] at this
    exact this.later hL1
  clear Hw0
  go_wp2_with fail
  go_loopw [8] (fun i wr => ∃ j : Nat, j ≤ nl ∧ i = .int .i64 j ∧ Later w1 wr ∧ Blk wr w1.heap.size 44 #[.int .i64 (bTo (hoursF c t) ll j).1, .int .i64 (bTo (hoursF c t) ll j).2]) (fun i _ => nl - (intOf i).toNat)
  case atStart => exact ⟨0, Nat.zero_le _, rfl, later_alloc (later_refl _) _, Blk.new _ _ _⟩
  case round =>
    obtain ⟨j, hj, rfl, hL, hbk⟩ := hrel
    have hLr := Later.trans hLw hL
    by_cases hlt : j < nl
    · obtain ⟨b, o, d, Ad, nd, kd, rfl, hx, hrd, hcx⟩ := (hl.later hL0).get hlt
      have hstep := bTo_succ (hoursF c t) hx
      have hdr := hdry d (List.mem_of_getElem? hx)
      obtain ⟨vd, hvd⟩ : ∃ v, (hoursF c t) d = v := ⟨_, rfl⟩
      rw [hvd] at hstep
      have hvd := hide hvd
      generalize bTo (hoursF c t) ll j = r at *
      obtain ⟨r1, r2⟩ := r
      dsimp only at hbk
      have hi1 : (j : Int) < nl := by omega
      have hT : ∀ e : Ext wr, Later w0 e.W := fun e => Later.trans hLr e.h
      have hk0 := hbk.cells_later
      have hf := hbk.frozen_later
      have hsz := hbk.lt
      have Hb := hide hbk
      have Hstep := hide hstep
      clear hstep hbk hx hL1
      go_wp2_with fail
      refine wp_region_ext_tail (w0 := wr) 9 (by kernel_rfl) (by kernel_rfl) (later_refl _) ?_; simp only [List.take_succ_cons, List.take_zero, List.drop_succ_cons, List.drop_zero]; (repeat (first | go_big_quiet_step ((first | (go_at_call 50; exact calls_ext (by simp) (Hours_eq hvd.out _ (hc0.later (hT _)) (hrd.later (hT _)) ok hdr)) | (go_at_call 83; exact calls_ext (by simp) (Wider_calls (r1, r2) _ _)))) | quiet_step ((first | (go_at_call 50; exact calls_ext (by simp) (Hours_eq hvd.out _ (hc0.later (hT _)) (hrd.later (hT _)) ok hdr)) | (go_at_call 83; exact calls_ext (by simp) (Wider_calls (r1, r2) _ _)))))); refine wpQuiet_nil ?_; rintro w1 ⟨⟨_, hL1⟩, rfl⟩; (try dsimp only)
      go_wp2_with fail
      go_roundw
      case rel =>
        refine ⟨j + 1, by omega, by go_num, later_set (later_set (Later.trans hL hL1) _ (Nat.le_refl _) _) _ (Nat.le_refl _) _, ?_⟩
        rw [Hstep.out]
        exact ((Hb.out.later hL1).set_ 0 _).set_ 1 _
      case measure => simp [intOf]; omega
    · have hfin : bTo (hoursF c t) ll j = bR (hoursF c t) ll := bTo_all _ (by have := Hnl.out; omega)
      rw [hfin] at hbk
      clear hfin
      obtain ⟨⟨r1, r2⟩, hr⟩ : ∃ q, bR (hoursF c t) ll = q := ⟨_, rfl⟩
      rw [hr] at hbk
      have Hr := hide hr
      clear hr
      dsimp only at hbk
      have hk0 := hbk.cell 0
      have hk1 := hbk.cell 1
      simp only [List.getElem?_toArray, List.getElem?_cons_zero, List.getElem?_cons_succ] at hk0 hk1
      have hbr := hBr.later hL
      have hr0 := hbr.cell 0
      have hr1 := hbr.cell 1
      have hf0 := hbr.frozen 0
      have hf1 := hbr.frozen 1
      simp only [List.getElem?_toArray, List.getElem?_cons_zero, List.getElem?_cons_succ] at hr0 hr1
      have hsz := hbk.lt
      clear hbk hbr hBr
      go_wp2_with fail
      refine bodyPost_ret (v := .agg #[.int .i64 r1, .int .i64 r2]) ?_ rfl ⟨by rw [Hr.out], ?_⟩
      · simp [results, Try.results30, go_sem, *]
      · have := Later.trans hL0 hLr
        first | (simp [*]; done) | exact later_set (later_set hLr _ (Nat.le_of_eq Hs0.out) _) _ (Nat.le_of_eq Hs0.out) _

set_option maxRecDepth 100000 in
set_option maxHeartbeats 1000000 in
theorem Free_calls {A1 A2 A3 : Option Addr} {n1 k1 n2 k2 n3 k3 : Nat} {c : Hou} {Al : Option Addr} {nl kl : Nat} {ll : List (List Int)} (t : Int) (w : World) (hc : CV w c A1 n1 A2 n2 A3 n3) (hl : RRI w Al nl ll) (ok : OkH c) (hdry : ∀ d ∈ ll, IsErr c d) (hn : nl ≤ 1000000) :
    Calls Try.prog 41 #[(.agg #[.int .i64 c.hour, .int .i64 c.grace, .slice A1 n1 k1, .slice A2 n2 k2, .slice A3 n3 k3]), .slice Al nl kl, .int .i64 t] w fun e w' => e = .returned (.agg #[.int .i64 (bR (freeF c t) ll).1, .int .i64 (bR (freeF c t) ll).2]) ∧ Later w w' := by
  have hnl := hl.len
  have Hnl := hide hnl
  clear hnl
  obtain ⟨w0, hw0⟩ : ∃ W, W = (w.alloc (.cells #[.int .i64 c.hour, .int .i64 c.grace, .slice A1 n1 k1, .slice A2 n2 k2, .slice A3 n3 k3] 26)) := ⟨_, rfl⟩; have hbox : ∀ W, Later w0 W → ∀ i, W.cell? ⟨w.heap.size, i, none⟩ = #[.int .i64 c.hour, .int .i64 c.grace, .slice A1 n1 k1, .slice A2 n2 k2, .slice A3 n3 k3][i]? := (by rw [hw0]; exact box_cells w #[.int .i64 c.hour, .int .i64 c.grace, .slice A1 n1 k1, .slice A2 n2 k2, .slice A3 n3 k3] 26); have hL0 : Later w w0 := (by rw [hw0]; simp); have hc0 := hc.later hL0; have Hw0 := hide hw0; clear hw0
  have hs0 : w0.heap.size = w.heap.size + 1 := by rw [Hw0.out]; simp
  have Hs0 := hide hs0
  clear hs0
  go_enter Try.func41, Try.ntmps41
  go_wp2_with fail
  rw [← Hw0.out]
  refine (Empty_calls _).mono ?_
  rintro e w1 ⟨rfl, hL1⟩
  have hlt1 : w.heap.size + 1 < w1.heap.size := by have := later_size hL1; have := Hs0.out; simp at *; omega
  have hLw := Later.trans (later_alloc (later_refl w0) _) hL1
  have hBr : Blk w1 (w.heap.size + 1) 44 #[.int .i64 0, .int .i64 0] := by
    have := Blk.new w0 44 #[.int .i64 0, .int .i64 0]
    rw [Hs0.out] at this
    exact this.later hL1
  clear Hw0
  go_wp2_with fail
  go_loopw [8] (fun i wr => ∃ j : Nat, j ≤ nl ∧ i = .int .i64 j ∧ Later w1 wr ∧ Blk wr w1.heap.size 44 #[.int .i64 (bTo (freeF c t) ll j).1, .int .i64 (bTo (freeF c t) ll j).2]) (fun i _ => nl - (intOf i).toNat)
  case atStart => exact ⟨0, Nat.zero_le _, rfl, later_alloc (later_refl _) _, Blk.new _ _ _⟩
  case round =>
    obtain ⟨j, hj, rfl, hL, hbk⟩ := hrel
    have hLr := Later.trans hLw hL
    by_cases hlt : j < nl
    · obtain ⟨b, o, d, Ad, nd, kd, rfl, hx, hrd, hcx⟩ := (hl.later hL0).get hlt
      have hstep := bTo_succ (freeF c t) hx
      have hdr := hdry d (List.mem_of_getElem? hx)
      obtain ⟨vd, hvd⟩ : ∃ v, (freeF c t) d = v := ⟨_, rfl⟩
      rw [hvd] at hstep
      have hvd := hide hvd
      generalize bTo (freeF c t) ll j = r at *
      obtain ⟨r1, r2⟩ := r
      dsimp only at hbk
      have hi1 : (j : Int) < nl := by omega
      have hT : ∀ e : Ext wr, Later w0 e.W := fun e => Later.trans hLr e.h
      have hk0 := hbk.cells_later
      have hf := hbk.frozen_later
      have hsz := hbk.lt
      have Hb := hide hbk
      have Hstep := hide hstep
      clear hstep hbk hx hL1
      go_wp2_with fail
      refine wp_region_ext_tail (w0 := wr) 9 (by kernel_rfl) (by kernel_rfl) (later_refl _) ?_; simp only [List.take_succ_cons, List.take_zero, List.drop_succ_cons, List.drop_zero]; (repeat (first | go_big_quiet_step ((first | (go_at_call 96; exact calls_ext (by simp) (From_eq hvd.out _ (hc0.later (hT _)) (hrd.later (hT _)) ok hdr)) | (go_at_call 83; exact calls_ext (by simp) (Wider_calls (r1, r2) _ _)))) | quiet_step ((first | (go_at_call 96; exact calls_ext (by simp) (From_eq hvd.out _ (hc0.later (hT _)) (hrd.later (hT _)) ok hdr)) | (go_at_call 83; exact calls_ext (by simp) (Wider_calls (r1, r2) _ _)))))); refine wpQuiet_nil ?_; rintro w1 ⟨⟨_, hL1⟩, rfl⟩; (try dsimp only)
      go_wp2_with fail
      go_roundw
      case rel =>
        refine ⟨j + 1, by omega, by go_num, later_set (later_set (Later.trans hL hL1) _ (Nat.le_refl _) _) _ (Nat.le_refl _) _, ?_⟩
        rw [Hstep.out]
        exact ((Hb.out.later hL1).set_ 0 _).set_ 1 _
      case measure => simp [intOf]; omega
    · have hfin : bTo (freeF c t) ll j = bR (freeF c t) ll := bTo_all _ (by have := Hnl.out; omega)
      rw [hfin] at hbk
      clear hfin
      obtain ⟨⟨r1, r2⟩, hr⟩ : ∃ q, bR (freeF c t) ll = q := ⟨_, rfl⟩
      rw [hr] at hbk
      have Hr := hide hr
      clear hr
      dsimp only at hbk
      have hk0 := hbk.cell 0
      have hk1 := hbk.cell 1
      simp only [List.getElem?_toArray, List.getElem?_cons_zero, List.getElem?_cons_succ] at hk0 hk1
      have hbr := hBr.later hL
      have hr0 := hbr.cell 0
      have hr1 := hbr.cell 1
      have hf0 := hbr.frozen 0
      have hf1 := hbr.frozen 1
      simp only [List.getElem?_toArray, List.getElem?_cons_zero, List.getElem?_cons_succ] at hr0 hr1
      have hsz := hbk.lt
      clear hbk hbr hBr
      go_wp2_with fail
      refine bodyPost_ret (v := .agg #[.int .i64 r1, .int .i64 r2]) ?_ rfl ⟨by rw [Hr.out], ?_⟩
      · simp [results, Try.results41, go_sem, *]
      · have := Later.trans hL0 hLr
        first | (simp [*]; done) | exact later_set (later_set hLr _ (Nat.le_of_eq Hs0.out) _) _ (Nat.le_of_eq Hs0.out) _
end Go.Proofs.Ytbkfnajpbhfneaa
