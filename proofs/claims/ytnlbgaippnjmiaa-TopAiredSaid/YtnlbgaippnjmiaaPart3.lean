/- Part 3 of the proof: joined from the texts RefC, RefJ, CloC, RegionIn, CloJ, CloK. -/
import Derived.Test.YtnlbgaippnjmiaaPart2
import Derived.Test.YtnlbgaippnjmiaaPart1
import Derived.OrdersIn
import Derived.RangeFuncCalls
import Derived.Carry
import Derived.Laws.StructEq
set_option linter.unusedSimpArgs false
set_option linter.unusedVariables false
/- The reference's Size, Is, Many, AreNumbers: walks. -/
namespace Go.Proofs.Ytnlbgaippnjmiaa
open Go Go.RowKit

theorem Size_calls {h : Horse} (w : World) (b1 : -1000000 ≤ h.lo ∧ h.lo ≤ 1000000) (b2 : -1000000 ≤ h.hi ∧ h.hi ≤ 1000000) :
    Calls Try.prog 30 #[.agg #[.int .i64 h.lo, .int .i64 h.hi]] w fun e w' => e = .returned (.int .i64 (sizeH h)) ∧ Later w w' := by
  go_enter Try.func30, Try.ntmps30
  go_wp2_with fail
  go_ret
  exact ⟨rfl, by simp⟩

theorem sizeH_range {h : Horse} (k : 1 ≤ h.lo ∧ h.lo ≤ h.hi ∧ h.hi ≤ 60) : 1 ≤ sizeH h ∧ sizeH h ≤ 60 := by unfold sizeH; omega
theorem many_aux {l : List Horse} (ok : ∀ h ∈ l, 1 ≤ h.lo ∧ h.lo ≤ h.hi ∧ h.hi ≤ 60) (a : Int) (ha : 1 ≤ a ∧ a ≤ 3000) :
    1 ≤ l.foldl (fun n h => min 3000 (n * sizeH h)) a ∧ l.foldl (fun n h => min 3000 (n * sizeH h)) a ≤ 3000 := by
  induction l generalizing a with
  | nil => exact ha
  | cons h l ih =>
    refine ih (fun x hx => ok x (List.mem_cons_of_mem _ hx)) _ ?_
    have := sizeH_range (ok h List.mem_cons_self)
    have h1 : 1 * 1 ≤ a * sizeH h := Int.mul_le_mul (by omega) (by omega) (by omega) (by omega)
    show 1 ≤ min 3000 (a * sizeH h) ∧ min 3000 (a * sizeH h) ≤ 3000
    omega
theorem many_range {c : Clo} (ok : ∀ h ∈ c.horses, 1 ≤ h.lo ∧ h.lo ≤ h.hi ∧ h.hi ≤ 60) : 1 ≤ many c ∧ many c ≤ 3000 := many_aux ok 1 (by omega)

def manyTo (c : Clo) (j : Nat) : Int := (c.horses.take j).foldl (fun n h => min 3000 (n * sizeH h)) 1

theorem Many_calls {A1 A2 A3 : Option Addr} {n1 k1 n2 k2 n3 k3 : Nat} {c : Clo} (w : World) (hc : CV w c A1 n1 A2 n2 A3 n3) (ok : ∀ h ∈ c.horses, 1 ≤ h.lo ∧ h.lo ≤ h.hi ∧ h.hi ≤ 60) (hl : n1 ≤ 1000000) :
    Calls Try.prog 13 #[(.agg #[.int .i64 c.closets, .int .i64 c.close, .slice A1 n1 k1, .slice A2 n2 k2, .slice A3 n3 k3])] w fun e w' => e = .returned (.int .i64 (many c)) ∧ Later w w' := by
  have hn1 := hc.hs.len
  have hbox := box_cells w #[.int .i64 c.closets, .int .i64 c.close, .slice A1 n1 k1, .slice A2 n2 k2, .slice A3 n3 k3] 26
  have Hn1 := hide hn1
  clear hn1
  go_enter Try.func13, Try.ntmps13
  go_wp2_with fail
  go_loopw [3, 4] (fun a i wr => ∃ j : Nat, j ≤ n1 ∧ i = .int .i64 j ∧ a = .int .i64 (manyTo c j) ∧ Later (w.alloc (.cells #[.int .i64 c.closets, .int .i64 c.close, .slice A1 n1 k1, .slice A2 n2 k2, .slice A3 n3 k3] 26)) wr) (fun _ i _ => n1 - (intOf i).toNat)
  case atStart => exact ⟨0, Nat.zero_le _, rfl, rfl, later_refl _⟩
  case round =>
    obtain ⟨j, hj, rfl, rfl, hL⟩ := hrel
    by_cases hlt : j < n1
    · obtain ⟨b, o, x, rfl, _, hx, h0, h1, h2, h3⟩ := (hc.hs.later (later_alloc (later_refl w) (.cells #[.int .i64 c.closets, .int .i64 c.close, .slice A1 n1 k1, .slice A2 n2 k2, .slice A3 n3 k3] 26))).get hlt
      have okx := ok x (List.mem_of_getElem? hx)
      have hs := sizeH_range okx
      have hm := many_aux (l := c.horses.take j) (fun h hh => ok h (List.mem_of_mem_take hh)) 1 (by omega)
      have hmt : 1 ≤ manyTo c j ∧ manyTo c j ≤ 3000 := hm
      have hnext : manyTo c (j + 1) = min 3000 (manyTo c j * sizeH x) := by
        unfold manyTo; rw [List.take_add_one, hx]; simp [List.foldl_append]
      have hp1 : 0 ≤ manyTo c j * sizeH x := Int.mul_nonneg (by omega) (by omega)
      have hp2 : manyTo c j * sizeH x ≤ 3000 * 60 := Int.mul_le_mul (by omega) (by omega) (by omega) (by omega)
      have Hx := hide hx
      have Hnext := hide hnext
      clear hx hnext h2 h3 hm
      go_wp2_with fail
      refine (Size_calls _ (by omega) (by omega)).mono ?_
      rintro e w1 ⟨rfl, hL1⟩
      have hL2 := Later.trans hL hL1
      go_wp2_with fail
      go_roundw
      case rel => exact ⟨j + 1, by omega, by go_num, by rw [Hnext.out]; congr 1; split <;> omega, hL2⟩
      case measure => simp [intOf]; omega
    · have hjn : manyTo c j = many c := by
        unfold manyTo many; rw [List.take_of_length_le (by have := Hn1.out; omega)]
      have Hjn := hide hjn
      clear hjn
      go_wp2_with fail
      go_ret
      exact ⟨ret_int Hjn.out, Later.trans (by simp) hL⟩

theorem areNumbers_len : ∀ (l : List Horse) (d : List Int), areNumbers l d = true → d.length = l.length
  | [], [], _ => rfl
  | h :: l, x :: d, k => by
    simp only [areNumbers, Bool.and_eq_true] at k
    simp [areNumbers_len l d k.2]

end Go.Proofs.Ytnlbgaippnjmiaa

/- The reference's Fault: walk. -/
namespace Go.Proofs.Ytnlbgaippnjmiaa
open Go Go.RowKit

theorem In_eq {n lo hi : Int} {b : Bool} (h : inB n lo hi = b) (w : World) :
    Calls Try.prog 14 #[.int .i64 n, .int .i64 lo, .int .i64 hi] w fun e w' => e = .returned (.bool b) ∧ w = w' := by
  have := In_calls n lo hi w; rw [h] at this; exact this
theorem horseOk_true {x : Horse} (h : horseOk x = true) : 1 ≤ x.lo ∧ x.lo ≤ x.hi ∧ x.hi ≤ 60 ∧ inB x.wet 0 9 = true ∧ inB x.grace 0 30 = true := by
  simpa [horseOk, and_assoc] using h
theorem horseOk_range {x : Horse} (h : horseOk x = true) : 1 ≤ x.lo ∧ x.lo ≤ x.hi ∧ x.hi ≤ 60 := ⟨(horseOk_true h).1, (horseOk_true h).2.1, (horseOk_true h).2.2.1⟩

set_option maxRecDepth 100000 in
set_option maxHeartbeats 1000000 in
theorem Fault_calls {A1 A2 A3 : Option Addr} {n1 k1 n2 k2 n3 k3 : Nat} {c : Clo} (w : World) (hc : CV w c A1 n1 A2 n2 A3 n3) (hcl : i64 c.closets) (hn1 : n1 ≤ 1000) (hn2 : n2 ≤ 1000) (hn3 : n3 ≤ 1000) :
    Calls Try.prog 5 #[(.agg #[.int .i64 c.closets, .int .i64 c.close, .slice A1 n1 k1, .slice A2 n2 k2, .slice A3 n3 k3])] w fun e w' => e = .returned (.int .i64 (fault c)) ∧ Later w w' := by
  have hl1 := hc.hs.len
  have hl3 := hc.lk.len
  by_cases hA : 4 < c.closets
  · have Hf : Hid (fault c = 3) := by unfold fault; rw [if_pos (by omega)]; rfl
    go_enter Try.func5, Try.ntmps5
    go_wp2_with fail
    go_ret
    exact ⟨ret_int Hf.out.symm, by simp⟩
  by_cases hB : 4 < n1
  · have Hf : Hid (fault c = 3) := by unfold fault; rw [if_pos (by omega)]; rfl
    have hB' : (4 : Int) < n1 := by omega
    clear hl1 hl3
    go_enter Try.func5, Try.ntmps5
    go_wp2_with fail
    go_ret
    exact ⟨ret_int Hf.out.symm, by simp⟩
  by_cases hC : 5 < n3
  · have Hf : Hid (fault c = 3) := by unfold fault; rw [if_pos (by omega)]; rfl
    have hB' : ¬ (4 : Int) < n1 := by omega
    have hC' : (5 : Int) < n3 := by omega
    clear hl1 hl3
    go_enter Try.func5, Try.ntmps5
    go_wp2_with fail
    go_ret
    exact ⟨ret_int Hf.out.symm, by simp⟩
  have hB' : ¬ (4 : Int) < n1 := by omega
  have hC' : ¬ (5 : Int) < n3 := by omega
  have Hf0 : Hid (fault c = if c.closets < 1 ∨ inB c.close 0 99 = false ∨ isPlaceB c c.hung = false then 1
    else if c.horses.all horseOk = false then 1 else if c.looks.all (lookOk c.horses.length) = false then 1 else if 2000 < many c then 3 else 0) := by
    unfold fault; rw [if_neg (by omega)]; rfl
  have Hl1 := hide hl1
  have Hl3 := hide hl3
  clear hl1 hl3
  obtain ⟨w0, hw0⟩ : ∃ W, W = (w.alloc (.cells #[.int .i64 c.closets, .int .i64 c.close, .slice A1 n1 k1, .slice A2 n2 k2, .slice A3 n3 k3] 26)) := ⟨_, rfl⟩; have hbox : ∀ W, Later w0 W → ∀ i, W.cell? ⟨w.heap.size, i, none⟩ = #[.int .i64 c.closets, .int .i64 c.close, .slice A1 n1 k1, .slice A2 n2 k2, .slice A3 n3 k3][i]? := (by rw [hw0]; exact box_cells w #[.int .i64 c.closets, .int .i64 c.close, .slice A1 n1 k1, .slice A2 n2 k2, .slice A3 n3 k3] 26); have hL0 : Later w w0 := (by rw [hw0]; simp); have hc0 := hc.later hL0; have Hw0 := hide hw0; clear hw0
  by_cases hD : c.closets < 1
  · rw [if_pos (Or.inl hD)] at Hf0
    go_enter Try.func5, Try.ntmps5
    go_wp2_with fail
    rw [← Hw0.out]; clear Hw0
    go_ret
    exact ⟨ret_int Hf0.out.symm, hL0⟩
  cases hE : inB c.close 0 99 with
  | false =>
    rw [if_pos (Or.inr (Or.inl hE))] at Hf0
    go_enter Try.func5, Try.ntmps5
    go_wp2_with (go_at_call 14; refine (In_calls _ _ _ _).mono ?_; rintro e w' ⟨rfl, rfl⟩)
    rw [← Hw0.out]; clear Hw0
    go_ret
    exact ⟨ret_int Hf0.out.symm, hL0⟩
  | true =>
  cases hF : isPlaceB c c.hung with
  | false =>
    rw [if_pos (Or.inr (Or.inr hF))] at Hf0
    go_enter Try.func5, Try.ntmps5
    go_wp2_with (go_at_call 14; refine (In_calls _ _ _ _).mono ?_; rintro e w' ⟨rfl, rfl⟩)
    rw [← Hw0.out]; clear Hw0
    refine (IsPlace_calls _ hc0 hc0.hu hcl (by omega) (by omega)).mono ?_
    rintro e w1 ⟨rfl, hL1⟩
    go_wp2_with fail
    go_ret
    exact ⟨ret_int Hf0.out.symm, Later.trans hL0 hL1⟩
  | true =>
  rw [if_neg (by simp [hE, hF]; omega)] at Hf0
  go_enter Try.func5, Try.ntmps5
  go_wp2_with (go_at_call 14; refine (In_calls _ _ _ _).mono ?_; rintro e w' ⟨rfl, rfl⟩)
  rw [← Hw0.out]; clear Hw0
  refine (IsPlace_calls _ hc0 hc0.hu hcl (by omega) (by omega)).mono ?_
  rintro e w1 ⟨rfl, hL1⟩
  go_wp2_with fail
  go_loopw [3] (fun i wr => ∃ j : Nat, j ≤ n1 ∧ i = .int .i64 j ∧ Later w0 wr ∧ (c.horses.take j).all horseOk = true) (fun i _ => n1 - (intOf i).toNat)
  case atStart => exact ⟨0, Nat.zero_le _, rfl, hL1, rfl⟩
  case round =>
    obtain ⟨j, hj, rfl, hL, hall⟩ := hrel
    by_cases hlt : j < n1
    · obtain ⟨b, o, x, rfl, _, hx, hx0, hx1, hx2, hx3⟩ := hc0.hs.get hlt
      have hi1 : (j : Int) < n1 := by omega
      have Hall := hide hall
      cases hok : horseOk x with
      | true =>
        obtain ⟨o1, o2, o3, o4, o5⟩ := horseOk_true hok
        have Hx := hide hx
        have Hok := hide hok
        clear hx hok hall
        go_wp2_with (go_at_call 14; refine (In_calls _ _ _ _).mono ?_; rintro e w' ⟨rfl, rfl⟩)
        go_roundw
        case rel =>
          refine ⟨j + 1, by omega, by go_num, by simp [hL], ?_⟩
          rw [List.take_add_one, Hx.out]
          simp only [Option.toList_some, List.all_append, Hall.out, Hok.out, List.all_cons, List.all_nil, Bool.true_and, Bool.and_true]
        case measure => simp [intOf]; omega
      | false =>
        have hbad : c.horses.all horseOk = false := by
          rw [← Bool.not_eq_true, List.all_eq_true]
          intro h
          rw [h x (List.mem_of_getElem? hx)] at hok; cases hok
        rw [if_pos hbad] at Hf0
        clear hbad hx hall
        by_cases o1 : x.lo < 1
        · clear hok
          go_wp2_with fail
          go_ret
          exact ⟨ret_int Hf0.out.symm, Later.trans hL0 (by simp [hL])⟩
        by_cases o2 : x.hi < x.lo
        · clear hok
          go_wp2_with fail
          go_ret
          exact ⟨ret_int Hf0.out.symm, Later.trans hL0 (by simp [hL])⟩
        by_cases o3 : 60 < x.hi
        · clear hok
          go_wp2_with fail
          go_ret
          exact ⟨ret_int Hf0.out.symm, Later.trans hL0 (by simp [hL])⟩
        cases o4 : inB x.wet 0 9 with
        | false =>
          clear hok
          go_wp2_with (go_at_call 14; refine (In_calls _ _ _ _).mono ?_; rintro e w' ⟨rfl, rfl⟩)
          go_ret
          exact ⟨ret_int Hf0.out.symm, Later.trans hL0 (by simp [hL])⟩
        | true =>
        cases o5 : inB x.grace 0 30 with
        | false =>
          clear hok
          go_wp2_with (go_at_call 14; refine (In_calls _ _ _ _).mono ?_; rintro e w' ⟨rfl, rfl⟩)
          go_ret
          exact ⟨ret_int Hf0.out.symm, Later.trans hL0 (by simp [hL])⟩
        | true =>
          exfalso
          simp [horseOk, o4, o5] at hok
          omega
    · have hall2 : c.horses.all horseOk = true := by
        rw [List.take_of_length_le (by have := Hl1.out; omega)] at hall; exact hall
      have okh : ∀ h ∈ c.horses, 1 ≤ h.lo ∧ h.lo ≤ h.hi ∧ h.hi ≤ 60 := fun h hh => horseOk_range (List.all_eq_true.1 hall2 h hh)
      rw [if_neg (by simp [hall2])] at Hf0
      clear hall hall2
      go_wp2_with fail
      obtain ⟨wo, hwo⟩ : ∃ W, W = wr := ⟨_, rfl⟩
      rw [← hwo] at hL
      rw [← hwo]
      clear hwo
      go_loopw [5] (fun i wr => ∃ j : Nat, j ≤ n3 ∧ i = .int .i64 j ∧ Later w0 wr ∧ (c.looks.take j).all (lookOk c.horses.length) = true) (fun i _ => n3 - (intOf i).toNat)
      case atStart => exact ⟨0, Nat.zero_le _, rfl, hL, rfl⟩
      case round =>
        obtain ⟨q, hq, rfl, hLq, hall⟩ := hrel
        by_cases hltq : q < n3
        · obtain ⟨b, o, x, rfl, _, hx, hx0, hx1, hx2⟩ := hc0.lk.get hltq
          have hi1 : (q : Int) < n3 := by omega
          have hT : ∀ e : Ext w0, Later w0 e.W := fun e => e.h
          have hw1 : IntKind.i64.wrap ((n1 : Int) - 1) = (n1 : Int) - 1 := IntWalk.i64_in _ (by omega)
          have hlk : lookOk c.horses.length x = (inB x.horse 0 ((n1 : Int) - 1) && inB x.minute 0 99) := by rw [Hl1.out]; rfl
          cases p1 : inB x.horse 0 ((n1 : Int) - 1) with
          | false =>
            have hbad : c.looks.all (lookOk c.horses.length) = false := by
              rw [← Bool.not_eq_true, List.all_eq_true]
              intro h
              have := h x (List.mem_of_getElem? hx)
              rw [hlk, p1] at this; cases this
            rw [if_pos hbad] at Hf0
            clear hbad hx hall hlk
            go_wp2_with fail
            refine wp_region_ext (w0 := w0) (by kernel_rfl) (by kernel_rfl) hLq ?_; (repeat (first | go_big_quiet_step (((go_at_call 14; exact calls_ext_same (by simp) (In_eq (by assumption) _)))) | quiet_step (((go_at_call 14; exact calls_ext_same (by simp) (In_eq (by assumption) _)))))); refine wpQuiet_nil ?_; rintro w3 ⟨⟨_, hL3⟩, rfl⟩; (try dsimp only)
            go_wp2_with fail
            go_ret
            exact ⟨ret_int Hf0.out.symm, Later.trans hL0 hL3⟩
          | true =>
          cases p2 : inB x.minute 0 99 with
          | false =>
            have hbad : c.looks.all (lookOk c.horses.length) = false := by
              rw [← Bool.not_eq_true, List.all_eq_true]
              intro h
              have := h x (List.mem_of_getElem? hx)
              rw [hlk, p1, p2] at this; cases this
            rw [if_pos hbad] at Hf0
            clear hbad hx hall hlk
            go_wp2_with fail
            refine wp_region_ext (w0 := w0) (by kernel_rfl) (by kernel_rfl) hLq ?_; (repeat (first | go_big_quiet_step (((go_at_call 14; exact calls_ext_same (by simp) (In_eq (by assumption) _)))) | quiet_step (((go_at_call 14; exact calls_ext_same (by simp) (In_eq (by assumption) _)))))); refine wpQuiet_nil ?_; rintro w3 ⟨⟨_, hL3⟩, rfl⟩; (try dsimp only)
            go_wp2_with fail
            go_ret
            exact ⟨ret_int Hf0.out.symm, Later.trans hL0 hL3⟩
          | true =>
            have hall2 : (c.looks.take (q + 1)).all (lookOk c.horses.length) = true := by
              rw [List.take_add_one, hx]
              simp only [Option.toList_some, List.all_append, hall, hlk, p1, p2, List.all_cons, List.all_nil, Bool.true_and, Bool.and_true]
            have Hall2 := hide hall2
            clear hall2 hx hall hlk
            go_wp2_with fail
            refine wp_region_ext (w0 := w0) (by kernel_rfl) (by kernel_rfl) hLq ?_; (repeat (first | go_big_quiet_step (((go_at_call 14; exact calls_ext_same (by simp) (In_eq (by assumption) _)))) | quiet_step (((go_at_call 14; exact calls_ext_same (by simp) (In_eq (by assumption) _)))))); refine wpQuiet_nil ?_; rintro w3 ⟨⟨_, hL3⟩, rfl⟩; (try dsimp only)
            go_wp2_with fail
            go_roundw
            case rel => exact ⟨q + 1, by omega, by go_num, hL3, Hall2.out⟩
            case measure => simp [intOf]; omega
        · have hall2 : c.looks.all (lookOk c.horses.length) = true := by
            rw [List.take_of_length_le (by have := Hl3.out; omega)] at hall; exact hall
          rw [if_neg (by simp [hall2])] at Hf0
          clear hall hall2
          go_wp2_with fail
          refine (Many_calls _ (hc0.later hLq) okh (by omega)).mono ?_
          rintro e w3 ⟨rfl, hL3⟩
          by_cases hm : 2000 < many c
          · rw [if_pos hm] at Hf0
            go_wp2_with fail
            go_ret
            exact ⟨ret_int Hf0.out.symm, Later.trans hL0 (Later.trans hLq hL3)⟩
          · rw [if_neg hm] at Hf0
            go_wp2_with fail
            go_ret
            exact ⟨ret_int Hf0.out.symm, Later.trans hL0 (Later.trans hLq hL3)⟩
end Go.Proofs.Ytnlbgaippnjmiaa

/- The program's all (looks), CheckCloset: walks. -/
namespace Go.Proofs.Ytnlbgaippnjmiaa
open Go Go.RowKit

theorem allL1_calls {A1 A2 A3 : Option Addr} {n1 k1 n2 k2 n3 k3 : Nat} {c : Clo} {bp : Nat} (x : Look) (w : World) (hn : n1 ≤ 1000000) (h : w.cell? ⟨bp, 0, none⟩ = some (.func (.func 53) #[(.agg #[.int .i64 c.closets, .int .i64 c.close, .slice A1 n1 k1, .slice A2 n2 k2, .slice A3 n3 k3])] #[])) :
    Calls Try.prog 72 #[.agg #[.int .i64 x.horse, .int .i64 x.minute, .bool x.dry], .pointer (some ⟨bp, 0, none⟩)] w fun e w' =>
      e = .returned (.bool (!lookOk n1 x)) ∧ Later w w' := by
  have hb : bp < w.heap.size := World.block_lt_of_cell? w ⟨bp, 0, none⟩ h
  have h2 := fun W k => cell_later (W := W) h k hb
  go_enter Try.func72, Try.ntmps72
  go_wp2_with fail
  refine (look_calls (c := c) x _ hn).mono ?_
  rintro e w1 ⟨rfl, hL1⟩
  go_wp2_with fail
  go_ret
  exact ⟨rfl, Later.trans (by simp) hL1⟩

theorem IndexFuncL_calls {A1 A2 A3 : Option Addr} {n1 k1 n2 k2 n3 k3 : Nat} {c : Clo} {A : Option Addr} {n k bp : Nat} {l : List Look} (w : World) (h : RL w A n l) (hn : n ≤ 1000000) (hm : n1 ≤ 1000000) (hb : w.cell? ⟨bp, 0, none⟩ = some (.func (.func 53) #[(.agg #[.int .i64 c.closets, .int .i64 c.close, .slice A1 n1 k1, .slice A2 n2 k2, .slice A3 n3 k3])] #[])) :
    Calls Try.prog 76 #[.slice A n k, .func (.func 72) #[] #[.pointer (some ⟨bp, 0, none⟩)]] w fun e w' =>
      e = .returned (.int .i64 (idxB (fun x => !lookOk n1 x) l 0)) ∧ Later w w' := by
  have hl := h.len
  have hbl : bp < w.heap.size := World.block_lt_of_cell? w ⟨bp, 0, none⟩ hb
  have hb2 := fun W k => cell_later (W := W) hb k hbl
  have Hl := hide hl
  clear hl
  go_enter Try.func76, Try.ntmps76
  go_wp2_with fail
  go_loopw [8] (fun i wr => ∃ j : Nat, j ≤ n ∧ i = .int .i64 j ∧ idxB (fun x => !lookOk n1 x) (l.drop j) j = idxB (fun x => !lookOk n1 x) l 0 ∧ Later w wr) (fun i _ => n - (intOf i).toNat)
  case atStart => exact ⟨0, Nat.zero_le _, rfl, rfl, later_refl _⟩
  case round =>
    obtain ⟨j, hj, rfl, hno, hL⟩ := hrel
    by_cases hlt : j < n
    · obtain ⟨b, o, y, rfl, _, hx, hc0, hc1, hc2⟩ := h.get hlt
      obtain ⟨hp, e1⟩ := List.getElem?_eq_some_iff.1 hx
      rw [List.drop_eq_getElem_cons hp, e1] at hno
      simp only [idxB] at hno
      have hi1 : (j : Int) < n := by omega
      have hcc := allL1_calls (c := c) y wr hm (hb2 _ hL)
      cases hok : lookOk n1 y with
      | true =>
        rw [hok] at hcc
        simp only [hok, Bool.not_true, Bool.false_eq_true, if_false] at hno
        have Hno := hide hno
        have Hcc := hide hcc
        clear hno hx hcc e1 hok
        go_wp2_with fail
        refine Hcc.out.mono ?_
        rintro e w1 ⟨rfl, hL1⟩
        have hL2 := Later.trans hL hL1
        go_wp2_with fail
        go_roundw
        case rel => exact ⟨j + 1, by omega, by go_num, by rw [← Hno.out]; rfl, hL2⟩
        case measure => simp [intOf]; omega
      | false =>
        rw [hok] at hcc
        simp only [hok, Bool.not_false, if_true] at hno
        have Hno := hide hno
        have Hcc := hide hcc
        clear hno hx hcc e1 hok
        go_wp2_with fail
        refine Hcc.out.mono ?_
        rintro e w1 ⟨rfl, hL1⟩
        go_wp2_with fail
        go_ret
        exact ⟨ret_int Hno.out, Later.trans hL hL1⟩
    · rw [List.drop_of_length_le (by have := Hl.out; omega)] at hno
      have Hno := hide hno
      clear hno
      go_wp2_with fail
      go_ret
      exact ⟨ret_int Hno.out, hL⟩

theorem allL_calls {A1 A2 A3 : Option Addr} {n1 k1 n2 k2 n3 k3 : Nat} {c : Clo} {A : Option Addr} {n k : Nat} {l : List Look} (w : World) (h : RL w A n l) (hn : n ≤ 1000000) (hm : n1 ≤ 1000000) :
    Calls Try.prog 57 #[.slice A n k, .func (.func 53) #[(.agg #[.int .i64 c.closets, .int .i64 c.close, .slice A1 n1 k1, .slice A2 n2 k2, .slice A3 n3 k3])] #[]] w fun e w' => e = .returned (.bool (l.all (lookOk n1))) ∧ Later w w' := by
  have hw : Later w (w.alloc (.cells #[.func (.func 53) #[(.agg #[.int .i64 c.closets, .int .i64 c.close, .slice A1 n1 k1, .slice A2 n2 k2, .slice A3 n3 k3])] #[]] 130)) := later_alloc (later_refl _) _
  have hb := box_cells w #[.func (.func 53) #[(.agg #[.int .i64 c.closets, .int .i64 c.close, .slice A1 n1 k1, .slice A2 n2 k2, .slice A3 n3 k3])] #[]] 130 _ (later_refl _) 0
  have hf := idxB_any (fun x => !lookOk n1 x) l 0 (by omega)
  have hf2 := not_any_not (lookOk n1) l
  rw [← hf] at hf2
  have Hf := hide hf2
  clear hf hf2
  go_enter Try.func57, Try.ntmps57
  go_wp2_with fail
  go_enter Try.func71, Try.ntmps71
  go_wp2_with fail
  refine (IndexFuncL_calls (c := c) _ (h.later hw) hn hm hb).mono ?_
  rintro e w1 ⟨rfl, hL1⟩
  generalize idxB (fun x => !lookOk n1 x) l 0 = q at *
  go_wp2_with fail
  go_ret
  exact ⟨by rw [← Hf.out]; rfl, Later.trans hw hL1⟩

theorem allH_eq {A : Option Addr} {n k : Nat} {l : List Horse} {b : Bool} (hb : l.all horseOk = b) (w : World) (h : RH w A n l) (hn : n ≤ 1000000) :
    Calls Try.prog 55 #[.slice A n k, .func (.func 56) #[] #[]] w fun e w' => e = .returned (.bool b) ∧ Later w w' := by
  have := allH_calls (k := k) w h hn; rw [hb] at this; exact this
theorem isPlace_eq {A1 A2 A3 : Option Addr} {n1 k1 n2 k2 n3 k3 : Nat} {c : Clo} {Ap : Option Addr} {np kp : Nat} {p : List Int} {b : Bool} (hb : isPlaceB c p = b) (w : World) (hc : CV w c A1 n1 A2 n2 A3 n3) (hp : RI w Ap np p) (hcap : np ≤ kp)
    (hmp : np ≤ 1000000) (hmh : n1 ≤ 1000000) :
    Calls Try.prog 26 #[(.agg #[.int .i64 c.closets, .int .i64 c.close, .slice A1 n1 k1, .slice A2 n2 k2, .slice A3 n3 k3]), .slice Ap np kp] w fun e w' => e = .returned (.bool b) ∧ Later w w' := by
  have := isPlace_calls (k1 := k1) (k2 := k2) (k3 := k3) w hc hp hcap hmp hmh; rw [hb] at this; exact this
theorem allL_eq {A1 A2 A3 : Option Addr} {n1 k1 n2 k2 n3 k3 : Nat} {c : Clo} {A : Option Addr} {n k : Nat} {l : List Look} {b : Bool} (hb : l.all (lookOk n1) = b) (w : World) (h : RL w A n l) (hn : n ≤ 1000000) (hm : n1 ≤ 1000000) :
    Calls Try.prog 57 #[.slice A n k, .func (.func 53) #[(.agg #[.int .i64 c.closets, .int .i64 c.close, .slice A1 n1 k1, .slice A2 n2 k2, .slice A3 n3 k3])] #[]] w fun e w' => e = .returned (.bool b) ∧ Later w w' := by
  have := allL_calls (c := c) (A1 := A1) (A2 := A2) (A3 := A3) (k1 := k1) (n2 := n2) (k2 := k2) (n3 := n3) (k3 := k3) (k := k) w h hn hm; rw [hb] at this; exact this

theorem prodTo_take {l : List Horse} {j : Nat} {x : Horse} (hx : l[j]? = some x) : prodTo (l.take (j + 1)) = prodTo (l.take j) * sizeH x := by
  unfold prodTo
  rw [List.take_add_one, hx, Option.toList_some, List.foldl_append]; rfl

set_option maxRecDepth 100000 in
set_option maxHeartbeats 1000000 in
theorem CheckCloset_calls {A1 A2 A3 : Option Addr} {n1 k1 n2 k2 n3 k3 : Nat} {c : Clo} (w : World) (hc : CV w c A1 n1 A2 n2 A3 n3) (hcl : i64 c.closets) (hn1 : n1 ≤ 1000) (hn2 : n2 ≤ 1000) (hn3 : n3 ≤ 1000) (hk2 : n2 ≤ k2) :
    Calls Try.prog 35 #[(.agg #[.int .i64 c.closets, .int .i64 c.close, .slice A1 n1 k1, .slice A2 n2 k2, .slice A3 n3 k3])] w fun e w' => e = .returned (.int .i64 (fault c)) ∧ Later w w' := by
  have hl1 := hc.hs.len
  have hl3 := hc.lk.len
  by_cases hA : 4 < c.closets
  · have Hf : Hid (fault c = 3) := fault_lim (by omega)
    clear hl1 hl3
    go_enter Try.func35, Try.ntmps35
    go_wp2_with fail
    go_ret
    exact ⟨ret_int Hf.out.symm, by simp⟩
  by_cases hB : 4 < n1
  · have Hf : Hid (fault c = 3) := fault_lim (by omega)
    have hB' : (4 : Int) < n1 := by omega
    clear hl1 hl3
    go_enter Try.func35, Try.ntmps35
    go_wp2_with fail
    go_ret
    exact ⟨ret_int Hf.out.symm, by simp⟩
  by_cases hC : 5 < n3
  · have Hf : Hid (fault c = 3) := fault_lim (by omega)
    have hB' : ¬ (4 : Int) < n1 := by omega
    have hC' : (5 : Int) < n3 := by omega
    clear hl1 hl3
    go_enter Try.func35, Try.ntmps35
    go_wp2_with fail
    go_ret
    exact ⟨ret_int Hf.out.symm, by simp⟩
  have hB' : ¬ (4 : Int) < n1 := by omega
  have hC' : ¬ (5 : Int) < n3 := by omega
  have hlim : ¬ (4 < c.closets ∨ 4 < c.horses.length ∨ 5 < c.looks.length) := by omega
  have Hl1 := hide hl1
  have Hl3 := hide hl3
  have Hlim := hide hlim
  clear hl1 hl3 hlim
  obtain ⟨w0, hw0⟩ : ∃ W, W = (w.alloc (.cells #[.int .i64 c.closets, .int .i64 c.close, .slice A1 n1 k1, .slice A2 n2 k2, .slice A3 n3 k3] 45)) := ⟨_, rfl⟩; have hbox : ∀ W, Later w0 W → ∀ i, W.cell? ⟨w.heap.size, i, none⟩ = #[.int .i64 c.closets, .int .i64 c.close, .slice A1 n1 k1, .slice A2 n2 k2, .slice A3 n3 k3][i]? := (by rw [hw0]; exact box_cells w #[.int .i64 c.closets, .int .i64 c.close, .slice A1 n1 k1, .slice A2 n2 k2, .slice A3 n3 k3] 45); have hL0 : Later w w0 := (by rw [hw0]; simp); have hc0 := hc.later hL0; have Hw0 := hide hw0; clear hw0
  by_cases hD : c.closets < 1
  · have Hf : Hid (fault c = 1) := fault_one Hlim.out (Or.inl hD)
    go_enter Try.func35, Try.ntmps35
    go_wp2_with fail
    rw [← Hw0.out]; clear Hw0
    go_ret
    exact ⟨ret_int Hf.out.symm, hL0⟩
  cases hE : inB c.close 0 99 with
  | false =>
    have Hf : Hid (fault c = 1) := fault_one Hlim.out (Or.inr (Or.inl hE))
    go_enter Try.func35, Try.ntmps35
    go_wp2_with (go_at_call 54; refine (minute_eq (by assumption) _).mono ?_; rintro e w' ⟨rfl, rfl⟩)
    rw [← Hw0.out]; clear Hw0
    go_ret
    exact ⟨ret_int Hf.out.symm, hL0⟩
  | true =>
  cases hF : c.horses.all horseOk with
  | false =>
    have Hf : Hid (fault c = 1) := fault_one Hlim.out (Or.inr (Or.inr (Or.inl hF)))
    go_enter Try.func35, Try.ntmps35
    go_wp2_with (go_at_call 54; refine (minute_eq (by assumption) _).mono ?_; rintro e w' ⟨rfl, rfl⟩)
    rw [← Hw0.out]; clear Hw0
    refine (allH_eq hF _ hc0.hs (by omega)).mono ?_
    rintro e w1 ⟨rfl, hL1⟩
    go_wp2_with fail
    go_ret
    exact ⟨ret_int Hf.out.symm, Later.trans hL0 hL1⟩
  | true =>
  cases hG : isPlaceB c c.hung with
  | false =>
    have Hf : Hid (fault c = 1) := fault_one Hlim.out (Or.inr (Or.inr (Or.inr (Or.inl hG))))
    go_enter Try.func35, Try.ntmps35
    go_wp2_with (go_at_call 54; refine (minute_eq (by assumption) _).mono ?_; rintro e w' ⟨rfl, rfl⟩)
    rw [← Hw0.out]; clear Hw0
    refine (allH_eq hF _ hc0.hs (by omega)).mono ?_
    rintro e w1 ⟨rfl, hL1⟩
    go_wp2_with fail
    refine (isPlace_eq hG _ (hc0.later hL1) (hc0.later hL1).hu hk2 (by omega) (by omega)).mono ?_
    rintro e w2 ⟨rfl, hL2⟩
    have hL2' := Later.trans hL1 hL2
    go_wp2_with fail
    go_ret
    exact ⟨ret_int Hf.out.symm, Later.trans hL0 hL2'⟩
  | true =>
  cases hH : c.looks.all (lookOk n1) with
  | false =>
    have Hf : Hid (fault c = 1) := fault_one Hlim.out (Or.inr (Or.inr (Or.inr (Or.inr (by rw [← Hl1.out]; exact hH)))))
    go_enter Try.func35, Try.ntmps35
    go_wp2_with (go_at_call 54; refine (minute_eq (by assumption) _).mono ?_; rintro e w' ⟨rfl, rfl⟩)
    rw [← Hw0.out]; clear Hw0
    refine (allH_eq hF _ hc0.hs (by omega)).mono ?_
    rintro e w1 ⟨rfl, hL1⟩
    go_wp2_with fail
    refine (isPlace_eq hG _ (hc0.later hL1) (hc0.later hL1).hu hk2 (by omega) (by omega)).mono ?_
    rintro e w2 ⟨rfl, hL2⟩
    have hL2' := Later.trans hL1 hL2
    go_wp2_with fail
    refine (allL_eq hH _ (hc0.later hL2').lk (by omega) (by omega)).mono ?_
    rintro e w3 ⟨rfl, hL3⟩
    have hL3' := Later.trans hL2' hL3
    go_wp2_with fail
    go_ret
    exact ⟨ret_int Hf.out.symm, Later.trans hL0 hL3'⟩
  | true =>
  have Hf : Hid (fault c = if 2000 < many c then 3 else 0) := fault_many Hlim.out hD hE hF hG (by rw [← Hl1.out]; exact hH)
  have okh : ∀ h ∈ c.horses, 1 ≤ h.lo ∧ h.lo ≤ h.hi ∧ h.hi ≤ 60 := fun h hh => horseOk_range (List.all_eq_true.1 hF h hh)
  have Hmany := hide (many_prod okh)
  have hpr : ∀ j : Nat, 1 ≤ prodTo (c.horses.take j) ∧ prodTo (c.horses.take j) ≤ 12960000 := fun j => by
    have := prodTo_range (l := c.horses.take j) (fun h hh => okh h (List.mem_of_mem_take hh)) 4 (by have := Hlim.out; rw [List.length_take]; omega)
    exact this
  go_enter Try.func35, Try.ntmps35
  go_wp2_with (go_at_call 54; refine (minute_eq (by assumption) _).mono ?_; rintro e w' ⟨rfl, rfl⟩)
  rw [← Hw0.out]; clear Hw0
  refine (allH_eq hF _ hc0.hs (by omega)).mono ?_
  rintro e w1 ⟨rfl, hL1⟩
  go_wp2_with fail
  refine (isPlace_eq hG _ (hc0.later hL1) (hc0.later hL1).hu hk2 (by omega) (by omega)).mono ?_
  rintro e w2 ⟨rfl, hL2⟩
  have hL2' := Later.trans hL1 hL2
  go_wp2_with fail
  refine (allL_eq hH _ (hc0.later hL2').lk (by omega) (by omega)).mono ?_
  rintro e w3 ⟨rfl, hL3⟩
  have hL3' := Later.trans hL2' hL3
  go_wp2_with fail
  go_loopw [58, 4] (fun i m wr => ∃ j : Nat, j ≤ n1 ∧ i = .int .i64 j ∧ m = .int .i64 (prodTo (c.horses.take j)) ∧ Later w0 wr) (fun i _ _ => n1 - (intOf i).toNat)
  case atStart => exact ⟨0, Nat.zero_le _, rfl, rfl, hL3'⟩
  case round =>
    obtain ⟨j, hj, rfl, rfl, hL⟩ := hrel
    by_cases hlt : j < n1
    · obtain ⟨b, o, x, rfl, _, hx, hx0, hx1, hx2, hx3⟩ := hc0.hs.get hlt
      have hi1 : (j : Int) < n1 := by omega
      have Hp := hide (prodTo_take hx)
      have hp1 := hpr j
      have hp2 := hpr (j + 1)
      have hok := okh x (List.mem_of_getElem? hx)
      rw [Hp.out] at hp2
      have hx0 := hx0 _ hL
      have hx1 := hx1 _ hL
      have hx2 := hx2 _ hL
      have hx3 := hx3 _ hL
      have Hx := hide hx
      clear hx
      generalize prodTo (c.horses.take j) = pj at *
      go_wp2_with fail
      refine (size_calls (h := x) _ (by omega) (by omega)).mono ?_
      rintro e w5 ⟨rfl, hL5⟩
      have hw5 : IntKind.i64.wrap (pj * sizeH x) = pj * sizeH x := IntWalk.i64_in _ (by omega)
      go_wp2_with fail
      go_roundw
      case rel => exact ⟨j + 1, by omega, by go_num, by rw [Hp.out], Later.trans (by simp [hL]) hL5⟩
      case measure => simp [intOf]; omega
    · have hfull : c.horses.take j = c.horses := List.take_of_length_le (by have := Hl1.out; omega)
      rw [hfull]
      have hpf := hpr j
      rw [hfull] at hpf
      by_cases hbig : 2000 < prodTo c.horses
      · have Hf2 : Hid (fault c = 3) := by show fault c = 3; rw [Hf.out, if_pos (by have := Hmany.out; omega)]
        clear hfull
        generalize prodTo c.horses = q at *
        go_wp2_with fail
        go_ret
        exact ⟨ret_int Hf2.out.symm, Later.trans hL0 hL⟩
      · have Hf2 : Hid (fault c = 0) := by show fault c = 0; rw [Hf.out, if_neg (by have := Hmany.out; omega)]
        clear hfull
        generalize prodTo c.horses = q at *
        go_wp2_with fail
        go_ret
        exact ⟨ret_int Hf2.out.symm, Later.trans hL0 hL⟩
end Go.Proofs.Ytnlbgaippnjmiaa

/- A drawn region within a round of a range over a function: from what is shown outside of a round. -/
namespace Go.Proofs.Ytnlbgaippnjmiaa
open Go Go.RowKit
section
variable {P : Program} {ops : Array Oper} {md : Region.Mode} {Q : Exit → Act → World → Prop} {l n : Nat}
theorem oper_round {o : Oper} {a : Act} {w : World} {K : Act → World → Prop} (hd : ∀ c, o.op ≠ .defer c) (h : o.wp P a w K Q) : o.wpIn (Fence.wide.inRound l) n P a w K Q := by
  refine ⟨fun _ _ => trivial, ?_⟩
  unfold Oper.wp at h
  rw [Oper.semAt_eq _ _ _ hd]
  generalize (execOp a.eval o).run P w = r at *
  have hdep : (Fence.wide.inRound l).depth.isSome = true → 1 ≤ n := fun h => by simp [Fence.wide, Fence.inRound] at h
  cases r with
  | ok x w' =>
    cases x <;> simp only [Oper.upon, Oper.uponIn] at h ⊢ <;>
      first
        | exact h
        | exact ⟨hdep, CallsIn.inRound l (callsIn_wide.2 h)⟩
        | exact ⟨hdep, fun c cs _ => let ⟨v, w1, hk, hs⟩ := h c cs; ⟨v, w1, hk, stepsIn_wide.2 hs⟩⟩
        | exact ⟨hdep, fun c cs => let ⟨v, w1, hk, hs⟩ := h c cs; ⟨v, w1, hk, stepsIn_wide.2 hs⟩⟩
        | exact h.elim
  | halt x w' => cases x <;> simp only [Oper.upon, Oper.uponIn] at h ⊢ <;> exact h

theorem op_round {i : Nat} {a : Act} {w : World} {K : Act → World → Prop} (hd : ∀ (j : Nat) (o : Oper) c, ops[j]? = some o → o.op ≠ .defer c) (hQ : ¬ LetsOut Q) (h : wpOp P ops Q i K a w) : wpOpIn (Fence.wide.inRound l) n P ops Q i K a w := by
  unfold wpOp at h
  unfold wpOpIn
  split
  · simpa [*] using h
  · rename_i o ho
    simp only [ho] at h
    split
    · rename_i hw
      simp only [hw, if_true] at h
      exact oper_round (hd i o · ho) (h.resolve_right fun k => hQ k.2)
    · rename_i hw
      simp only [hw] at h
      exact ⟨fun _ _ => trivial, h⟩
theorem wpOp_mono_ {i : Nat} {a : Act} {w : World} {K K' : Act → World → Prop} (h : ∀ a w, K a w → K' a w) (hh : wpOpIn (Fence.wide.inRound l) n P ops Q i K a w) : wpOpIn (Fence.wide.inRound l) n P ops Q i K' a w := wpOpIn_mono h hh
theorem any_round (hd : ∀ (j : Nat) (o : Oper) c, ops[j]? = some o → o.op ≠ .defer c) (hQ : ¬ LetsOut Q) : ∀ (fuel : Nat) (listed : Array Bool) (a : Act) (w : World), wpAny P md ops Q fuel listed a w → wpAnyIn (Fence.wide.inRound l) n P md ops Q fuel listed a w
  | 0, _, _, _, h => h
  | fuel + 1, _, _, _, h => ⟨h.1, fun i hi => wpOpIn_mono (fun a w => any_round hd hQ fuel _ a w) (op_round hd hQ (h.2 i hi))⟩
/-- what is shown of a drawn region outside of a round serves within -/
theorem region_round {id : Nat} {a : Act} {w : World} (hm : P.follows .mixedOrders = true) (hd : ops.all (fun o => match o.op with | .defer _ => false | _ => true) = true) (hQ : ¬ LetsOut Q)
    (h : wpAny P .any ops Q ops.size (Array.replicate ops.size false) a w.drew) : (Code.region id ops true).wpIn (Fence.wide.inRound l) n P Q a w := by
  refine wpIn_region_any hm (any_round (fun j o c hj e => ?_) hQ _ _ _ _ h)
  have := (Array.all_eq_true.1 hd) j (Array.getElem?_eq_some_iff.1 hj).1
  rw [(Array.getElem?_eq_some_iff.1 hj).2, e] at this
  cases this
theorem region_round_quiet {id : Nat} {a : Act} {w w0 : World} {ls : List Oper} (hm : P.follows .mixedOrders = true) (hB : Region.lexB .any ls.toArray = true)
    (hd : ls.toArray.all (fun o => match o.op with | .defer _ => false | _ => true) = true) (hQ : ¬ LetsOut Q) (hL : Later w0 w)
    (h : wpQuiet P ls.toArray (fun W => ∃ e : Ext w0, W = e.W) (fun a' => ∀ W, (∃ e : Ext w0, W = e.W) → Q .normal a' W) ls a) : (Code.region id ls.toArray true).wpIn (Fence.wide.inRound l) n P Q a w := by
  simp only [Region.lexB, Bool.and_eq_true] at hB
  refine region_round hm hd hQ (wpAny_of_quiet (C := fun W => ∃ e : Ext w0, W = e.W) (Q := fun a' => ∀ w', (∃ e : Ext w0, w' = e.W) → Q .normal a' w') (fun _ w' hw' h => h w' hw') _ _ _ _ ⟨⟨w.drew, later_drew hL⟩, rfl⟩ ?_)
  have := wpAnyQ_lex (C := fun W => ∃ e : Ext w0, W = e.W) (md := .any) hB.1 ls 0 (Array.replicate ls.length false) a (by simp) (by simpa using hB.2) h
  simpa using this
end
end Go.Proofs.Ytnlbgaippnjmiaa

/- The program's asked: walk. -/
namespace Go.Proofs.Ytnlbgaippnjmiaa
open Go Go.RowKit Go.Shelf
attribute [local go_sem] Oper.semAt_some
/- simp settles conditions two deep: three and four new blocks in one step -/
theorem later_alloc3 {w W : World} (h : Later w W) (a b c : Obj) : Later w (((W.alloc a).alloc b).alloc c) := later_alloc (later_alloc (later_alloc h a) b) c
theorem later_alloc4 {w W : World} (h : Later w W) (a b c d : Obj) : Later w ((((W.alloc a).alloc b).alloc c).alloc d) := later_alloc (later_alloc3 h a b c) d
attribute [local go_sem] later_alloc3 later_alloc4

theorem CheckCloset_eq {A1 A2 A3 : Option Addr} {n1 k1 n2 k2 n3 k3 : Nat} {c : Clo} {b : Int} (w : World) (hc : CV w c A1 n1 A2 n2 A3 n3) (hb : fault c = b) (hcl : i64 c.closets) (hn1 : n1 ≤ 1000) (hn2 : n2 ≤ 1000) (hn3 : n3 ≤ 1000) (hk2 : n2 ≤ k2) :
    Calls Try.prog 35 #[(.agg #[.int .i64 c.closets, .int .i64 c.close, .slice A1 n1 k1, .slice A2 n2 k2, .slice A3 n3 k3])] w fun e w' => e = .returned (.int .i64 b) ∧ Later w w' := by
  have := CheckCloset_calls (k1 := k1) (k2 := k2) (k3 := k3) w hc hcl hn1 hn2 hn3 hk2; rw [hb] at this; exact this

theorem asked_bad {A1 A2 A3 : Option Addr} {n1 k1 n2 k2 n3 k3 : Nat} {c : Clo} {fine : Bool} (w : World) (hc : CV w c A1 n1 A2 n2 A3 n3) (hcl : i64 c.closets) (hn1 : n1 ≤ 1000) (hn2 : n2 ≤ 1000) (hn3 : n3 ≤ 1000) (hk2 : n2 ≤ k2) (hf : fault c ≠ 0) :
    Calls Try.prog 17 #[(.agg #[.int .i64 c.closets, .int .i64 c.close, .slice A1 n1 k1, .slice A2 n2 k2, .slice A3 n3 k3]), .bool fine] w fun e w' => e = .returned (.tuple #[.pointer none, .int .i64 (fault c)]) ∧ Later w w' := by
  obtain ⟨f, hf2⟩ : ∃ f, fault c = f := ⟨_, rfl⟩
  rw [hf2] at hf ⊢
  have hfb : (f != 0) = true := by simpa using hf
  have hfb2 : (f == 0) = false := by simpa using hf
  obtain ⟨w0, hw0⟩ : ∃ W, W = (w.alloc (.cells #[.int .i64 c.closets, .int .i64 c.close, .slice A1 n1 k1, .slice A2 n2 k2, .slice A3 n3 k3] 45)) := ⟨_, rfl⟩; have hbox : ∀ W, Later w0 W → ∀ i, W.cell? ⟨w.heap.size, i, none⟩ = #[.int .i64 c.closets, .int .i64 c.close, .slice A1 n1 k1, .slice A2 n2 k2, .slice A3 n3 k3][i]? := (by rw [hw0]; exact box_cells w #[.int .i64 c.closets, .int .i64 c.close, .slice A1 n1 k1, .slice A2 n2 k2, .slice A3 n3 k3] 45); have hL0 : Later w w0 := (by rw [hw0]; simp); have hc0 := hc.later hL0; have Hw0 := hide hw0; clear hw0
  go_enter Try.func17, Try.ntmps17
  go_wp2_with fail
  rw [← Hw0.out]; clear Hw0
  refine (CheckCloset_eq _ hc0 hf2 hcl hn1 hn2 hn3 hk2).mono ?_
  rintro e w1 ⟨rfl, hL1⟩
  go_wp2_with fail
  refine bodyPost_ret (v := .tuple #[.pointer none, .int .i64 f]) ?_ rfl ⟨rfl, Later.trans hL0 hL1⟩
  simp [results, Try.results17, go_sem]
theorem asked_unfine {A1 A2 A3 : Option Addr} {n1 k1 n2 k2 n3 k3 : Nat} {c : Clo} (w : World) (hc : CV w c A1 n1 A2 n2 A3 n3) (hcl : i64 c.closets) (hn1 : n1 ≤ 1000) (hn2 : n2 ≤ 1000) (hn3 : n3 ≤ 1000) (hk2 : n2 ≤ k2) (hf : fault c = 0) :
    Calls Try.prog 17 #[(.agg #[.int .i64 c.closets, .int .i64 c.close, .slice A1 n1 k1, .slice A2 n2 k2, .slice A3 n3 k3]), .bool false] w fun e w' => e = .returned (.tuple #[.pointer none, .int .i64 2]) ∧ Later w w' := by
  obtain ⟨w0, hw0⟩ : ∃ W, W = (w.alloc (.cells #[.int .i64 c.closets, .int .i64 c.close, .slice A1 n1 k1, .slice A2 n2 k2, .slice A3 n3 k3] 45)) := ⟨_, rfl⟩; have hbox : ∀ W, Later w0 W → ∀ i, W.cell? ⟨w.heap.size, i, none⟩ = #[.int .i64 c.closets, .int .i64 c.close, .slice A1 n1 k1, .slice A2 n2 k2, .slice A3 n3 k3][i]? := (by rw [hw0]; exact box_cells w #[.int .i64 c.closets, .int .i64 c.close, .slice A1 n1 k1, .slice A2 n2 k2, .slice A3 n3 k3] 45); have hL0 : Later w w0 := (by rw [hw0]; simp); have hc0 := hc.later hL0; have Hw0 := hide hw0; clear hw0
  go_enter Try.func17, Try.ntmps17
  go_wp2_with fail
  rw [← Hw0.out]; clear Hw0
  refine (CheckCloset_eq _ hc0 hf hcl hn1 hn2 hn3 hk2).mono ?_
  rintro e w1 ⟨rfl, hL1⟩
  go_wp2_with fail
  refine bodyPost_ret (v := .tuple #[.pointer none, .int .i64 2]) ?_ rfl ⟨rfl, Later.trans hL0 hL1⟩
  simp [results, Try.results17, go_sem]
theorem truths_fn {A1 A2 A3 : Option Addr} {n1 k1 n2 k2 n3 k3 : Nat} {c : Clo} (w : World) : Calls Try.prog 36 #[(.agg #[.int .i64 c.closets, .int .i64 c.close, .slice A1 n1 k1, .slice A2 n2 k2, .slice A3 n3 k3])] w fun e w' => e = .returned (.func (.func 59) #[] #[.pointer (some ⟨w.heap.size, 0, none⟩)]) ∧ w' = w.alloc (.cells #[.int .i64 c.closets, .int .i64 c.close, .slice A1 n1 k1, .slice A2 n2 k2, .slice A3 n3 k3] 45) := by
  go_enter Try.func36, Try.ntmps36
  go_wp2_with fail
  go_ret
  exact ⟨rfl, rfl⟩

theorem eq4 (a0 a1 a2 a3 b0 b1 b2 b3 : Int) (X : World) : (Op.equalIn 10000 108 (.agg #[.int .i64 a0, .int .i64 a1, .int .i64 a2, .int .i64 a3]) (.agg #[.int .i64 b0, .int .i64 b1, .int .i64 b2, .int .i64 b3])).run Try.prog X = .ok (a0 == b0 && (a1 == b1 && (a2 == b2 && a3 == b3))) X := by
  have hu : Try.prog.underlying 108 = some (.array 4 3) := by kernel_rfl
  have hi : Try.prog.underlying 3 = some (.int .i64) := by kernel_rfl
  have hs : ∀ X, (sizeOf 3).run Try.prog X = .ok 1 X := fun _ => by kernel_rfl
  have p0 : ∀ (x y z u : Int) X, (part 3 #[.int .i64 x, .int .i64 y, .int .i64 z, .int .i64 u] 0).run Try.prog X = .ok (.int .i64 x) X := fun _ _ _ _ _ => by kernel_rfl
  have p1 : ∀ (x y z u : Int) X, (part 3 #[.int .i64 x, .int .i64 y, .int .i64 z, .int .i64 u] 1).run Try.prog X = .ok (.int .i64 y) X := fun _ _ _ _ _ => by kernel_rfl
  have p2 : ∀ (x y z u : Int) X, (part 3 #[.int .i64 x, .int .i64 y, .int .i64 z, .int .i64 u] 2).run Try.prog X = .ok (.int .i64 z) X := fun _ _ _ _ _ => by kernel_rfl
  have p3 : ∀ (x y z u : Int) X, (part 3 #[.int .i64 x, .int .i64 y, .int .i64 z, .int .i64 u] 3).run Try.prog X = .ok (.int .i64 u) X := fun _ _ _ _ _ => by kernel_rfl
  have hq : ∀ (x y : Int) X, (Op.equalIn 9999 3 (.int .i64 x) (.int .i64 y)).run Try.prog X = .ok (x == y) X := fun x y X => run_equalIn_int (w := X) 9998 3 .i64 .i64 x y hi
  rw [show (10000 : Nat) = 9999 + 1 from rfl, Op.equalIn]
  simp only [Sem.run_bind, run_underlying hu, Result.andThen_ok, hs]
  rw [show ([0:4] : Std.Legacy.Range) = ⟨0, 4, 1, by decide⟩ from rfl]
  simp only [Std.Legacy.Range.forIn_eq_forIn_range']
  by_cases h0 : a0 = b0
  · by_cases h1 : a1 = b1
    · by_cases h2 : a2 = b2
      · by_cases h3 : a3 = b3 <;> simp [Std.Legacy.Range.size, List.range', Sem.run_bind, p0, p1, p2, p3, hq, Result.andThen, h0, h1, h2, h3]
      · simp [Std.Legacy.Range.size, List.range', Sem.run_bind, p0, p1, p2, p3, hq, Result.andThen, h0, h1, h2]
    · simp [Std.Legacy.Range.size, List.range', Sem.run_bind, p0, p1, p2, p3, hq, Result.andThen, h0, h1]
  · simp [Std.Legacy.Range.size, List.range', Sem.run_bind, p0, p1, p2, p3, hq, Result.andThen, h0]
theorem neq4 (a0 a1 a2 a3 b0 b1 b2 b3 : Int) (b : Bool) (hb : (a0 == b0 && (a1 == b1 && (a2 == b2 && a3 == b3))) = b) (X : World) : (binOp .neq 108 (.agg #[.int .i64 a0, .int .i64 a1, .int .i64 a2, .int .i64 a3]) (.agg #[.int .i64 b0, .int .i64 b1, .int .i64 b2, .int .i64 b3])).run Try.prog X = .ok (.bool !b) X := by
  rw [run_neq_struct, eq4, hb]; rfl
theorem numbers_info : (Try.prog.info? 108).map (fun i => (i.zero, i.size, i.bytes)) = some (some (.agg #[.int .i64 0, .int .i64 0, .int .i64 0, .int .i64 0]), 4, 32) := by kernel_rfl
/-- the truths kept so far -/
def keep (c : Clo) (pre : List (List Int)) : List (List Int) := pre.foldl (keepStep c) []
theorem keep_snoc (c : Clo) (pre : List (List Int)) (x : List Int) : keep c (pre ++ [x]) = keepStep c (keep c pre) x := by simp [keep, List.foldl_append]
theorem heap_put (W : World) (l : Nat) (o : Obj) (b : Nat) (h : b ≠ l) : (W.putObj l o).heap[b]? = W.heap[b]? := World.putObj_heap_other h
theorem own_block {W W' : World} {base : Nat} {e : TypeId} {size : Nat} {v : Value} {n : Nat} {xs : List Value} (h : W.ownsRow base e size v n xs) (hk : ∀ g, v.ownBlock = some g → W'.heap[g]? = W.heap[g]?) : W'.ownsRow base e size v n xs := by
  refine ⟨h.1, ?_⟩
  rcases h.2 with hn | ⟨g, cap, cur, rfl, hb, hgg, rest⟩
  · exact .inl hn
  · exact .inr ⟨g, cap, cur, rfl, hb, (hk g rfl).trans hgg, rest⟩
/-- what holds between the rounds: E: the heap's size where the range begins -/
structure AskI (c : Clo) (A1 : Option Addr) (n1 k1 : Nat) (A2 : Option Addr) (n2 k2 : Nat) (A3 : Option Addr) (n3 k3 : Nat) (E bw bm : Nat) (w0 wE : World) (pre : List (List Int)) (W : World) : Prop where
  size : E + 5 ≤ W.heap.size
  os : W.os = w0.os
  tape : W.tape = w0.tape
  out : W.output = w0.output
  old : ∀ b, b < E → b ≠ bw → W.heap[b]? = wE.heap[b]?
  row : ∃ At kt, Blk W bw 103 #[.int .i64 c.closets, .int .i64 c.close, .slice A1 n1 k1, .slice A2 n2 k2, .slice A3 n3 k3, .slice At (keep c pre).length kt, .map (some bm)] ∧
    W.ownsRow (E + 5) 108 4 (.slice At (keep c pre).length kt) (keep c pre).length (drysV (keep c pre))
section
variable {c : Clo} {A1 A2 A3 : Option Addr} {n1 k1 n2 k2 n3 k3 E bw bm : Nat} {w0 wE W W' : World} {pre : List (List Int)}
theorem AskI.same (h : AskI c A1 n1 k1 A2 n2 k2 A3 n3 k3 E bw bm w0 wE pre W) (hbw : bw < E) (hs : W.heap.size ≤ W'.heap.size) (ho : W'.os = W.os) (ht : W'.tape = W.tape) (hu : W'.output = W.output)
    (hb : ∀ b, b < W.heap.size → (b < E ∨ E + 5 ≤ b) → W'.heap[b]? = W.heap[b]?) : AskI c A1 n1 k1 A2 n2 k2 A3 n3 k3 E bw bm w0 wE pre W' := by
  have hsz := h.size
  obtain ⟨At, kt, hk, hown⟩ := h.row
  refine ⟨by omega, ho.trans h.os, ht.trans h.tape, hu.trans h.out, fun b h1 h2 => (hb b (by omega) (.inl h1)).trans (h.old b h1 h2), At, kt, (hb bw (by omega) (.inl hbw)).trans hk, own_block hown fun g hg => ?_⟩
  have := hown.lt g hg
  exact hb g this.2 (.inr this.1)
theorem AskI.later (h : AskI c A1 n1 k1 A2 n2 k2 A3 n3 k3 E bw bm w0 wE pre W) (hbw : bw < E) (hL : Later W W') : AskI c A1 n1 k1 A2 n2 k2 A3 n3 k3 E bw bm w0 wE pre W' :=
  h.same hbw hL.size hL.os hL.tape hL.output fun b hb _ => hL.block b hb
theorem AskI.stands (hbw : bw < E) : Stands (E + 3) (fun pre W => AskI c A1 n1 k1 A2 n2 k2 A3 n3 k3 E bw bm w0 wE pre W) :=
  ⟨fun s A o h => h.later hbw (later_alloc (later_refl _) _), fun s A i u h => h.same hbw (by simp) rfl rfl rfl fun b _ hb => Below.heap_setCell A _ u b (by show b ≠ E + 3; omega)⟩
theorem AskI.put (h : AskI c A1 n1 k1 A2 n2 k2 A3 n3 k3 E bw bm w0 wE pre W) (hbw : bw < E) (o : Obj) : AskI c A1 n1 k1 A2 n2 k2 A3 n3 k3 E bw bm w0 wE pre (W.putObj (E + 1) o) :=
  h.same hbw (by simp) rfl rfl rfl fun b _ hb => heap_put W _ o b (by omega)
end
theorem pad_four {x : List Int} (h : x.length ≤ 4) : ∃ e0 e1 e2 e3, pad x = [e0, e1, e2, e3] := by
  have : (pad x).length = 4 := by unfold pad; simp; omega
  match hp : pad x, this with
  | [a, b, c, d], _ => exact ⟨a, b, c, d, rfl⟩
theorem AskI.base {c : Clo} {A1 A2 A3 : Option Addr} {n1 k1 n2 k2 n3 k3 E bw bm : Nat} {w0 wE W : World} {pre : List (List Int)} (h : AskI c A1 n1 k1 A2 n2 k2 A3 n3 k3 E bw bm w0 wE pre W) (hL : Later w0 wE) (hbw : w0.heap.size ≤ bw) (hE : w0.heap.size ≤ E) : Later w0 W :=
  ⟨h.os, h.tape, h.out, by have := h.size; omega, fun b hb => (h.old b (by omega) (by omega)).trans (hL.block b hb)⟩
theorem AskI.skip {c : Clo} {A1 A2 A3 : Option Addr} {n1 k1 n2 k2 n3 k3 E bw bm : Nat} {w0 wE W : World} {pre pre' : List (List Int)} (h : AskI c A1 n1 k1 A2 n2 k2 A3 n3 k3 E bw bm w0 wE pre W) (e : keep c pre' = keep c pre) : AskI c A1 n1 k1 A2 n2 k2 A3 n3 k3 E bw bm w0 wE pre' W :=
  ⟨h.size, h.os, h.tape, h.out, h.old, by rw [e]; exact h.row⟩
theorem pad_eq {x : List Int} (h : x.length ≤ 4) : pad x = pad4 x := by
  match x, h with
  | [], _ => rfl
  | [_], _ => rfl
  | [_, _], _ => rfl
  | [_, _, _], _ => rfl
  | [_, _, _, _], _ => rfl
theorem KeepsOthers.of_later {W W' : World} (h : Later W W') : KeepsOthers W W' :=
  ⟨h.size, fun k o hk _ => (h.block k (Array.getElem?_eq_some_iff.1 hk).1).trans hk⟩
theorem keepStep_len (c : Clo) (acc : List (List Int)) (d : List Int) : (keepStep c acc d).length ≤ acc.length + 1 := by
  unfold keepStep; split <;> simp
theorem keep_len {c : Clo} (ok : OkC c) (hf : fault c = 0) {pre : List (List Int)} (h : pre <+: dryAll c.horses) : (keep c pre).length ≤ 1000000 := by
  have h1 : ∀ (l acc : List (List Int)), (l.foldl (keepStep c) acc).length ≤ acc.length + l.length := by
    intro l
    induction l with
    | nil => intro acc; simp
    | cons d l ih => intro acc; have := ih (keepStep c acc d); have := keepStep_len c acc d; simp only [List.foldl_cons, List.length_cons]; omega
  have h2 := h1 pre []
  have h3 := h.length_le
  have h4 := (allDry_perm hf).length_eq
  have h5 : (allDry c).length = (many c).toNat := by simp [allDry]
  have h6 := (fault_zero hf).2.2.2.2.2.2
  unfold keep
  simp only [List.length_nil] at h2
  omega
theorem own_later2 {W W' : World} {base : Nat} {e : TypeId} {size : Nat} {v : Value} {n : Nat} {xs : List Value} (h : W.ownsRow base e size v n xs) (hL : Later W W') : W'.ownsRow base e size v n xs :=
  own_block h fun g hg => hL.block g (h.lt g hg).2
theorem own_rebase {W : World} {base base' : Nat} {e : TypeId} {size : Nat} {v : Value} {n : Nat} {xs : List Value} (h : W.ownsRow base e size v n xs) (hb : ∀ g, v.ownBlock = some g → base' ≤ g) : W.ownsRow base' e size v n xs := by
  refine ⟨h.1, ?_⟩
  rcases h.2 with hn | ⟨g, cap, cur, rfl, _, hgg, rest⟩
  · exact .inl hn
  · exact .inr ⟨g, cap, cur, rfl, hb g rfl, hgg, rest⟩
theorem Appended.others {w0 W w' : World} {e : TypeId} {size n : Nat} {v v' : Value} {xs news : List Value} (h : Appended w0 W w' e size v v' n xs news) (hown : W.ownsRow w0.heap.size e size v n xs) : KeepsOthers W w' := by
  refine ⟨Nat.le_of_lt h.size, fun k o hk ho => ?_⟩
  have hlt := (Array.getElem?_eq_some_iff.1 hk).1
  rw [h.keep k hlt]
  · exact hk
  · intro e
    rcases hown.2 with ⟨rfl, _⟩ | ⟨g, cap, cur, rfl, _, hgg, _⟩
    · cases e
    · have : g = k := by simpa [Value.ownBlock] using e
      subst this
      rw [hk] at hgg
      injection hgg with hgg
      subst hgg
      cases ho
theorem later_put {w W : World} (h : Later w W) {l : Nat} (hl : w.heap.size ≤ l) (o : Obj) : Later w (W.putObj l o) :=
  ⟨h.os, h.tape, h.output, by simpa using h.size, fun b hb => (heap_put W l o b (by omega)).trans (h.block b hb)⟩
/-- what asked returns of valid closets -/
def AskedPost (c : Clo) (A1 : Option Addr) (n1 k1 : Nat) (A2 : Option Addr) (n2 k2 : Nat) (A3 : Option Addr) (n3 k3 : Nat) (w : World) (e : Ending) (w' : World) : Prop :=
  (truthsP c = [] ∧ e = .returned (.tuple #[.pointer none, .int .i64 11]) ∧ Later w w') ∨
  (truthsP c ≠ [] ∧ ∃ bw bm At kt, e = .returned (.tuple #[.pointer (some ⟨bw, 0, none⟩), .int .i64 0]) ∧ Later w w' ∧ WK w' bw c A1 n1 k1 A2 n2 k2 A3 n3 k3 At (truthsP c).length kt (truthsP c) (.map (some bm)) ∧
    w'.heap[bm]? = some (.map #[] 0) ∧ w.heap.size ≤ bm ∧ w.heap.size ≤ bw ∧ bm ≠ bw ∧ ∀ b o, At = some ⟨b, o, none⟩ → w.heap.size ≤ b)
theorem Blk.of_eq {w w' : World} {g : Nat} {t : TypeId} {cs : Array Value} (h : w'.heap[g]? = w.heap[g]?) (k : Blk w g t cs) : Blk w' g t cs := h.trans k
theorem ask_end {c : Clo} {A1 A2 A3 : Option Addr} {n1 k1 n2 k2 n3 k3 E bw bm : Nat} {w0 wE W w3 w4 : World} {pre : List (List Int)} (hI : AskI c A1 n1 k1 A2 n2 k2 A3 n3 k3 E bw bm w0 wE pre W) (hbw : bw < E) (hL : Later W w3)
    {At A' : Option Addr} {kt c' : Nat} {ks : List (List Int)} {x : List Int} {e0 e1 e2 e3 : Int} (hk2 : keep c (pre ++ [x]) = ks ++ [x]) (hp4 : pad4 x = [e0, e1, e2, e3]) (hw0 : w0.heap.size ≤ E)
    (hbk : Blk W bw 103 #[.int .i64 c.closets, .int .i64 c.close, .slice A1 n1 k1, .slice A2 n2 k2, .slice A3 n3 k3, .slice At ks.length kt, .map (some bm)])
    (hown : W.ownsRow (E + 5) 108 4 (.slice At ks.length kt) ks.length (drysV ks))
    (hap : Appended w0 w3.drew w4 108 4 (.slice At ks.length kt) (.slice A' (ks.length + 1) c') ks.length (drysV ks) [.int .i64 e0, .int .i64 e1, .int .i64 e2, .int .i64 e3]) :
    KeepsOthers W (w4.setCell ⟨bw, 5, none⟩ (.slice A' (ks.length + 1) c')) ∧ KeepS (fun b => b < E + 5 ∧ b ≠ bw ∧ b ≠ E + 1) W (w4.setCell ⟨bw, 5, none⟩ (.slice A' (ks.length + 1) c')) ∧
      AskI c A1 n1 k1 A2 n2 k2 A3 n3 k3 E bw bm w0 wE (pre ++ [x]) (w4.setCell ⟨bw, 5, none⟩ (.slice A' (ks.length + 1) c')) := by
  have hsz := hI.size
  have hs3 := hL.size
  have h34 : w3.heap.size < w4.heap.size := hap.size
  have hno : ∀ b, b < E + 5 → (Value.slice At ks.length kt).ownBlock ≠ some b := fun b hb e => by have := (hown.lt b e).1; omega
  have hk4 : ∀ b, b < E + 5 → w4.heap[b]? = W.heap[b]? := fun b hb => (hap.keep b (by show b < w3.heap.size; omega) (hno b hb)).trans (hL.block b (by omega))
  have hset : ∀ b, b ≠ bw → (w4.setCell ⟨bw, 5, none⟩ (.slice A' (ks.length + 1) c')).heap[b]? = w4.heap[b]? := fun b hb => Below.heap_setCell w4 _ _ b hb
  have hown3 : w3.drew.ownsRow w0.heap.size 108 4 (.slice At ks.length kt) ks.length (drysV ks) := own_rebase (World.ownsRow.drew (own_later2 hown hL)) fun g e => by have := (hown.lt g e).1; omega
  have hnew : ∀ g, (Value.slice A' (ks.length + 1) c').ownBlock = some g → E + 5 ≤ g := fun g e => by
    rcases hap.at_ with h | ⟨g', h, hlt⟩
    · rw [h] at e; exact (hown.lt g e).1
    · rw [h] at e; injection e with e; subst e
      have : w3.heap.size < g' := hlt
      omega
  refine ⟨((KeepsOthers.of_later hL).trans ((KeepsOthers.drew w3).trans (hap.others hown3))).trans (KeepsOthers.setCell _ _ _), fun b hb => (hset b hb.2.1).trans (hk4 b hb.1), ?_⟩
  refine ⟨by simp; omega, hap.later.os, hap.later.tape, hap.later.output, fun b h1 h2 => (hset b h2).trans ((hk4 b (by omega)).trans (hI.old b h1 h2)), A', c', ?_, ?_⟩
  · rw [hk2]
    have h1 := (Blk.of_eq (hk4 bw (by omega)) hbk).set_ 5 (.slice A' (ks.length + 1) c')
    rw [List.length_append]
    exact h1
  · rw [hk2, drysV_snoc, hp4, List.length_append]
    exact own_block (own_rebase hap.own hnew) fun g e => hset g (by have := hnew g e; omega)
theorem nil_or_snoc {α : Type} (l : List α) : l = [] ∨ ∃ t x, l = t ++ [x] := by
  rcases List.eq_nil_or_concat l with h | ⟨t, x, h⟩
  · exact .inl h
  · exact .inr ⟨t, x, by rw [h, List.concat_eq_append]⟩
theorem encD_size (x : List Int) : (encD x).size = 1 := rfl

set_option maxRecDepth 100000 in
set_option maxHeartbeats 2000000 in
theorem asked_fine {A1 A2 A3 : Option Addr} {n1 k1 n2 k2 n3 k3 : Nat} {c : Clo} (w : World) (hc : CV w c A1 n1 A2 n2 A3 n3) (hcl : i64 c.closets) (hn1 : n1 ≤ 1000) (hn2 : n2 ≤ 1000) (hn3 : n3 ≤ 1000) (hk2 : n2 ≤ k2) (hf : fault c = 0) :
    Calls Try.prog 17 #[(.agg #[.int .i64 c.closets, .int .i64 c.close, .slice A1 n1 k1, .slice A2 n2 k2, .slice A3 n3 k3]), .bool true] w fun e w' => AskedPost c A1 n1 k1 A2 n2 k2 A3 n3 k3 w e w' := by
  have hmm := @run_makeMap Try.prog
  have ok := okC_of_fault hf
  obtain ⟨w0, hw0⟩ : ∃ W, W = (w.alloc (.cells #[.int .i64 c.closets, .int .i64 c.close, .slice A1 n1 k1, .slice A2 n2 k2, .slice A3 n3 k3] 45)) := ⟨_, rfl⟩; have hbox : ∀ W, Later w0 W → ∀ i, W.cell? ⟨w.heap.size, i, none⟩ = #[.int .i64 c.closets, .int .i64 c.close, .slice A1 n1 k1, .slice A2 n2 k2, .slice A3 n3 k3][i]? := (by rw [hw0]; exact box_cells w #[.int .i64 c.closets, .int .i64 c.close, .slice A1 n1 k1, .slice A2 n2 k2, .slice A3 n3 k3] 45); have hL0 : Later w w0 := (by rw [hw0]; simp); have hc0 := hc.later hL0; have Hw0 := hide hw0; clear hw0
  have hcc := (callsIn_wide (n := 5)).2 (CheckCloset_eq w0 hc0 hf hcl hn1 hn2 hn3 hk2 (k1 := k1) (k3 := k3))
  refine (callsIn_wide (n := 6)).1 ?_
  refine callsIn_of_wp_marks Try.func17 rfl trivial ?_ rfl
  simp only [Try.ntmps17, List.size_toArray, List.length_cons, List.length_nil, Nat.reduceAdd, Nat.reduceSub, Array.replicate_succ, Array.replicate_zero, List.push_toArray, List.append_toArray, List.nil_append, List.cons_append]
  gi_wp2_with fail
  rw [← Hw0.out]
  refine ⟨trivial, hcc.mono ?_⟩
  rintro e w1 ⟨rfl, hL1⟩
  have hs1 : w.heap.size < w1.heap.size := by have := hL1.size; have := hL0.size; have h3 : w0.heap.size = w.heap.size + 1 := (by rw [Hw0.out]; simp); omega
  have htf := fun W => (callsIn_wide (n := 5)).2 (truths_fn (c := c) (A1 := A1) (A2 := A2) (A3 := A3) (n1 := n1) (n2 := n2) (n3 := n3) (k1 := k1) (k2 := k2) (k3 := k3) W)
  clear hcc
  gi_wp2_with fail
  refine ⟨trivial, (htf _).mono ?_⟩
  rintro e w2 ⟨rfl, rfl⟩
  gi_wp2_with fail
  obtain ⟨bm, hbm⟩ : ∃ b, b = w1.heap.size := ⟨_, rfl⟩
  simp only [← hbm, World.size_alloc]
  generalize hwE : ((((w1.alloc _).alloc _).alloc _).alloc _) = wE
  have hE : wE.heap.size = bm + 4 := by rw [← hwE]; simp [← hbm]
  have hLE : Later w1 wE := by rw [← hwE]; exact later_alloc4 (later_refl _) _ _ _ _
  have hL0E : Later w0 wE := Later.trans hL1 hLE
  have kb : Blk wE w.heap.size 45 #[.int .i64 c.closets, .int .i64 c.close, .slice A1 n1 k1, .slice A2 n2 k2, .slice A3 n3 k3] := by
    have : Blk w0 w.heap.size 45 #[.int .i64 c.closets, .int .i64 c.close, .slice A1 n1 k1, .slice A2 n2 k2, .slice A3 n3 k3] := by rw [Hw0.out]; exact Blk.new _ _ _
    exact this.later hL0E
  have km : wE.heap[bm]? = some (.map #[] 0) := by rw [← hwE, hbm]; exact (Below.heap_alloc _ _ _ (by simp; omega)).trans ((Below.heap_alloc _ _ _ (by simp; omega)).trans ((Below.heap_alloc _ _ _ (by simp)).trans (heap_alloc_new _ _)))
  have kw : Blk wE (bm + 1) 103 #[.int .i64 c.closets, .int .i64 c.close, .slice A1 n1 k1, .slice A2 n2 k2, .slice A3 n3 k3, .slice none 0 0, .map (some bm)] := by
    rw [← hwE, hbm]
    have := Blk.new (w1.alloc (.map #[] 0)) 103 #[.int .i64 c.closets, .int .i64 c.close, .slice A1 n1 k1, .slice A2 n2 k2, .slice A3 n3 k3, .slice none 0 0, .map (some w1.heap.size)]
    rw [World.size_alloc] at this
    exact (this.alloc _).alloc _
  have kt : Blk wE (bm + 1 + 1) 71 #[.pointer (some ⟨bm + 1, 0, none⟩)] := by
    rw [← hwE, hbm]
    have := Blk.new ((w1.alloc (.map #[] 0)).alloc (.cells #[.int .i64 c.closets, .int .i64 c.close, .slice A1 n1 k1, .slice A2 n2 k2, .slice A3 n3 k3, .slice none 0 0, .map (some w1.heap.size)] 103)) 71 #[.pointer (some ⟨w1.heap.size + 1, 0, none⟩)]
    simp only [World.size_alloc] at this
    exact this.alloc _
  have kc : Blk wE (bm + 1 + 1 + 1) 45 #[.int .i64 c.closets, .int .i64 c.close, .slice A1 n1 k1, .slice A2 n2 k2, .slice A3 n3 k3] := by
    rw [← hwE, hbm]
    have := Blk.new (((w1.alloc (.map #[] 0)).alloc (.cells #[.int .i64 c.closets, .int .i64 c.close, .slice A1 n1 k1, .slice A2 n2 k2, .slice A3 n3 k3, .slice none 0 0, .map (some w1.heap.size)] 103)).alloc (.cells #[.pointer (some ⟨w1.heap.size + 1, 0, none⟩)] 71)) 45 #[.int .i64 c.closets, .int .i64 c.close, .slice A1 n1 k1, .slice A2 n2 k2, .slice A3 n3 k3]
    simp only [World.size_alloc] at this
    exact this
  have hw1 : w.heap.size < bm := by omega
  have hw0s : w0.heap.size ≤ bm := by have := hL1.size; omega
  have hcE := hc.later (Later.trans hL0 hL0E)
  clear hwE hbm htf hs1
  refine wpIn_iter (α := List Int) (gf := 59) (lb := #[.pointer (some ⟨bm + 1 + 1 + 1, 0, none⟩)]) (encs := encD) (xs := dryAll c.horses) (Kp := KeepS fun b => b < bm + 9 ∧ b ≠ bm + 1 ∧ b ≠ bm + 5) rfl (by omega) rfl trivial (enters_of Try.func59 (by kernel_rfl) rfl) ?_ (fun h k => h.trans k) ?_ encD_size
    (fun pre W => AskI c A1 n1 k1 A2 n2 k2 A3 n3 k3 (bm + 4) (bm + 1) bm w0 wE pre W) (fun _ _ _ => False) ?_ ?_ (fun _ _ _ _ h _ => h) ?_ (fun pre x a' W => ∃ (g : Nat) (e0 e1 e2 e3 : Int), a' = { tmps := #[(.agg #[.int .i64 c.closets, .int .i64 c.close, .slice A1 n1 k1, .slice A2 n2 k2, .slice A3 n3 k3]), .bool true, .pointer (some ⟨w.heap.size, 0, none⟩), undef, .pointer none, .int .i64 0, .int .i64 0, .pointer (some ⟨bm + 1 + 1, 0, none⟩), .pointer (some ⟨g, 0, none⟩), (.agg #[.int .i64 c.closets, .int .i64 c.close, .slice A1 n1 k1, .slice A2 n2 k2, .slice A3 n3 k3]), .int .i64 0, .int .i64 0, .bool false, undef, .bool true, .bool false, (.agg #[.int .i64 c.closets, .int .i64 c.close, .slice A1 n1 k1, .slice A2 n2 k2, .slice A3 n3 k3]), .map (some bm), .agg #[.int .i64 c.closets, .int .i64 c.close, .slice A1 n1 k1, .slice A2 n2 k2, .slice A3 n3 k3, .slice none 0 0, .map (some bm)], .pointer (some ⟨bm + 1, 0, none⟩), (.agg #[.int .i64 c.closets, .int .i64 c.close, .slice A1 n1 k1, .slice A2 n2 k2, .slice A3 n3 k3]), .func (.func 59) #[] #[.pointer (some ⟨bm + 1 + 1 + 1, 0, none⟩)], .agg #[.int .i64 e0, .int .i64 e1, .int .i64 e2, .int .i64 e3], undef, undef, undef, undef, undef, undef, undef, undef, undef, undef, undef, undef, undef, undef, undef, undef, undef, undef, undef, undef, undef, undef, undef, undef, undef, undef, undef, undef, undef, undef, undef, undef, undef, undef, undef, undef, undef, undef, undef, undef, undef, undef, undef, undef], defers := [] } ∧ pad x = [e0, e1, e2, e3] ∧ bm + 9 ≤ g ∧ (∀ v, W.cell? ⟨bm + 1, 5, none⟩ = some v → v.ownBlock ≠ some g) ∧ Blk W g 108 #[.int .i64 e0, .int .i64 e1, .int .i64 e2, .int .i64 e3] ∧ AskI c A1 n1 k1 A2 n2 k2 A3 n3 k3 (bm + 4) (bm + 1) bm w0 wE pre W) ?assign ?_ ?body ?done ?stop
  case assign =>
    intro l pre x W K hI hpx hK
    obtain ⟨e0, e1, e2, e3, hpad⟩ := pad_four (x := x) (by
      have := dryAll_isDry c x (hpx.subset (by simp))
      rw [this.len]; exact ok.len)
    have henc : encD x = #[.agg #[.int .i64 e0, .int .i64 e1, .int .i64 e2, .int .i64 e3]] := by unfold encD; rw [hpad]; rfl
    rw [henc]
    have Hpad := hide hpad
    clear hpad henc
    gi_wp2_with fail
    refine hK _ _ (KeepsOthers.alloc _ _) ((KeepS.refl _).alloc _ fun b hb => by have := hI.size; omega) ⟨_, e0, e1, e2, e3, rfl, Hpad.out, ?_, ?_, ?_, ?_⟩
    · have := hI.size; omega
    · intro v hv e
      obtain ⟨At, kt', hbk, hown⟩ := hI.row
      have h5 := (Blk.alloc hbk (.cells #[.int .i64 e0, .int .i64 e1, .int .i64 e2, .int .i64 e3] 108)).cell 5
      rw [hv] at h5
      injection h5 with h5
      rw [h5] at e
      exact absurd (hown.lt _ e).2 (Nat.lt_irrefl _)
    · exact Blk.new _ _ _
    · exact hI.later (by omega) (later_alloc (later_refl _) _)
  case body =>
    rintro l pre x a' W ⟨g, e0, e1, e2, e3, rfl, hpad, hg, hgo, hBd, hI⟩ hpx hsz
    have hdx := dryAll_isDry c x (hpx.subset (by simp))
    have hp4 : pad4 x = [e0, e1, e2, e3] := by rw [← hpad]; exact (pad_eq (by rw [hdx.len]; exact ok.len)).symm
    obtain ⟨At, kt', hbk, hown⟩ := hI.row
    have hgo2 : ∀ n k, (Value.slice At n k).ownBlock ≠ some g := fun n k e => hgo _ (hbk.cell 5) (by cases At <;> exact e)
    clear hgo
    have hIs := hI.size
    have kbW : Blk W w.heap.size 45 #[.int .i64 c.closets, .int .i64 c.close, .slice A1 n1 k1, .slice A2 n2 k2, .slice A3 n3 k3] := (hI.old _ (by omega) (by omega)).trans kb
    have ktW : Blk W (bm + 1 + 1) 71 #[.pointer (some ⟨bm + 1, 0, none⟩)] := (hI.old _ (by omega) (by omega)).trans kt
    have hLW : Later w0 W := hI.base hL0E (by omega) (by omega)
    have hcW := hc0.later hLW
    have hr4 := pad4_range ok.toOkH hdx
    rw [hp4] at hr4
    have hnil := fun X => RI.nil (w := X) (A := none)
    have q0 := kbW.cells_later
    have q1 := ktW.cells_later
    have q2 := hbk.cells_later
    have q3 := hBd.cells_later
    have hksn := keep_snoc c pre x
    have Hgo := hide hgo2
    clear hgo2
    have Hown := hide hown
    have Hbk := hide hbk
    have HI := hide hI
    clear hown hbk hI kbW ktW hBd
    cases hr : rightP c [e0, e1, e2, e3] [] with
    | false =>
      have hk2 : keep c (pre ++ [x]) = keep c pre := by rw [hksn]; unfold keepStep; rw [hp4, hr]; simp
      have hrc : ∀ X, Later W X → Calls Try.prog 37 #[(.agg #[.int .i64 c.closets, .int .i64 c.close, .slice A1 n1 k1, .slice A2 n2 k2, .slice A3 n3 k3]), .agg #[.int .i64 e0, .int .i64 e1, .int .i64 e2, .int .i64 e3], .slice none 0 0] X fun e w' => e = .returned (.bool false) ∧ Later X w' := fun X hX => by
        have := right_calls (k1 := k1) (k2 := k2) (k3 := k3) (ko := 0) X (hcW.later hX) ok (hnil X) (by omega) hr4
        rw [hr] at this; exact this
      clear hr hksn
      gi_wp2_with fail
      refine region_round_quiet (w0 := W) (by kernel_rfl) (by kernel_rfl) (by kernel_rfl) (fun ⟨_, _, h⟩ => h) (later_refl _) ?_; (repeat (first | go_big_quiet_step ((go_at_call 37; exact calls_ext (by simp) (hrc _ (by simp)))) | quiet_step ((go_at_call 37; exact calls_ext (by simp) (hrc _ (by simp)))))); refine wpQuiet_nil ?_; rintro w3 ⟨⟨_, hL3⟩, rfl⟩; (try dsimp only)
      gi_wp2_with fail
      exact ⟨KeepsOthers.of_later hL3, fun b hb => hL3.block b (by omega), (HI.out.later (by omega) hL3).skip hk2⟩
    | true =>
      have hrc : ∀ X, Later W X → Calls Try.prog 37 #[(.agg #[.int .i64 c.closets, .int .i64 c.close, .slice A1 n1 k1, .slice A2 n2 k2, .slice A3 n3 k3]), .agg #[.int .i64 e0, .int .i64 e1, .int .i64 e2, .int .i64 e3], .slice none 0 0] X fun e w' => e = .returned (.bool true) ∧ Later X w' := fun X hX => by
        have := right_calls (k1 := k1) (k2 := k2) (k3 := k3) (ko := 0) X (hcW.later hX) ok (hnil X) (by omega) hr4
        rw [hr] at this; exact this
      obtain ⟨ks, hks⟩ : ∃ k, keep c pre = k := ⟨_, rfl⟩
      have hlen : ks.length ≤ 1000000 := by rw [← hks]; exact keep_len ok hf ((List.prefix_append _ _).trans hpx)
      rw [hks] at hksn Hown Hbk q2
      rcases nil_or_snoc ks with rfl | ⟨l0, y, rfl⟩
      · have hk2 : keep c (pre ++ [x]) = [] ++ [x] := by rw [hksn]; unfold keepStep; rw [if_pos ⟨by rw [hp4]; exact hr, .inl rfl⟩]
        clear hr hksn
        gi_wp2_with fail
        refine region_round_quiet (w0 := W) (by kernel_rfl) (by kernel_rfl) (by kernel_rfl) (fun ⟨_, _, h⟩ => h) (later_refl _) ?_; (repeat (first | go_big_quiet_step ((go_at_call 37; exact calls_ext (by simp) (hrc _ (by simp)))) | quiet_step ((go_at_call 37; exact calls_ext (by simp) (hrc _ (by simp)))))); refine wpQuiet_nil ?_; rintro w3 ⟨⟨_, hL3⟩, rfl⟩; (try dsimp only)
        gi_wp2_with fail
        have hown3 := own_later2 Hown.out hL3
        have hbk3 := Hbk.out.later hL3
        have hLw3 : Later w0 w3.drew := later_drew (Later.trans hLW hL3)
        have hs3 := hL3.size
        have c5 : ∀ X, Later w3 X → X.cell? ⟨bm + 1, 5, none⟩ = some (.slice _ _ kt') := fun X hX => hbk3.cells_later X hX 5
        have hS0 : w3.drew.cell? ⟨bm + 1 + 1, 0, none⟩ = some (.pointer (some ⟨bm + 1, 0, none⟩)) ∧ w3.drew.cell? ⟨g, 0, none⟩ = some (.int .i64 e0) ∧ w3.drew.cell? ⟨g, 1, none⟩ = some (.int .i64 e1) ∧ w3.drew.cell? ⟨g, 2, none⟩ = some (.int .i64 e2) ∧ w3.drew.cell? ⟨g, 3, none⟩ = some (.int .i64 e3) :=
          ⟨q1 w3 hL3 0, q3 w3 hL3 0, q3 w3 hL3 1, q3 w3 hL3 2, q3 w3 hL3 3⟩
        have hbg : g < w3.drew.heap.size := World.block_lt_of_cell? _ _ hS0.2.1
        have hS1 : ∀ X : World, (∀ b, b < w3.drew.heap.size → (b < bm + 9 ∨ b = g) → b ≠ bm + 1 → X.heap[b]? = w3.drew.heap[b]?) → X.cell? ⟨bm + 1 + 1, 0, none⟩ = some (.pointer (some ⟨bm + 1, 0, none⟩)) ∧ X.cell? ⟨g, 0, none⟩ = some (.int .i64 e0) ∧ X.cell? ⟨g, 1, none⟩ = some (.int .i64 e1) ∧ X.cell? ⟨g, 2, none⟩ = some (.int .i64 e2) ∧ X.cell? ⟨g, 3, none⟩ = some (.int .i64 e3) := fun X hX => by
          have k1 := hX (bm + 1 + 1) (by show bm + 1 + 1 < w3.heap.size; omega) (.inl (by omega)) (by omega)
          have k2 := hX g hbg (.inr rfl) (by omega)
          exact ⟨(World.cell?_of_block (a := ⟨bm + 1 + 1, 0, none⟩) k1).trans hS0.1, (World.cell?_of_block (a := ⟨g, 0, none⟩) k2).trans hS0.2.1, (World.cell?_of_block (a := ⟨g, 1, none⟩) k2).trans hS0.2.2.1, (World.cell?_of_block (a := ⟨g, 2, none⟩) k2).trans hS0.2.2.2.1, (World.cell?_of_block (a := ⟨g, 3, none⟩) k2).trans hS0.2.2.2.2⟩
        have hSa := hS1 (w3.drew.alloc (.cells #[.int .i64 e0, .int .i64 e1, .int .i64 e2, .int .i64 e3] 108)) (fun b hb _ _ => Below.heap_alloc _ _ b hb)
        have hownS : w3.drew.ownsRow w0.heap.size 108 4 (.slice _ _ kt') _ (drysV _) := own_rebase (World.ownsRow.drew hown3) fun g e => by have := (hown3.lt g e).1; omega
        have hown9 : ∀ b, _ → bm + 4 + 5 ≤ b := fun b e => (hown3.lt b e).1
        have HS1 := hide hS1
        have Hbk3 := hide hbk3
        have Hown9 := hide hown9
        have HownS := hide hownS
        clear hown3 hS1 hbk3 hown9 hownS hrc q2
        refine region_round (by kernel_rfl) (by kernel_rfl) (fun ⟨_, _, h⟩ => h) (wpAny_of_held (S := fun X => X.cell? ⟨bm + 1 + 1, 0, none⟩ = some (.pointer (some ⟨bm + 1, 0, none⟩)) ∧ X.cell? ⟨g, 0, none⟩ = some (.int .i64 e0) ∧ X.cell? ⟨g, 1, none⟩ = some (.int .i64 e1) ∧ X.cell? ⟨g, 2, none⟩ = some (.int .i64 e2) ∧ X.cell? ⟨g, 3, none⟩ = some (.int .i64 e3)) _ _ _ _ ?_)
        refine wpAnyH_take (i := 0) (v := ?_) rfl (by kernel_rfl) (by kernel_rfl) (by kernel_rfl) (by intro _ _ _ h; first | exact h | exact absurd h.1 (by simp)) (Or.inl ⟨by rfl, ?_⟩) hS0 ?_; rotate_left; (focus (intro X hSX; (try dsimp only at hSX); go_simp; (try with_reducible rfl))); (try simp only [Act.put, List.setIfInBounds_toArray, List.set_cons_zero, List.set_cons_succ])
        refine wpAnyH_take (i := 1) (v := ?_) rfl (by kernel_rfl) (by kernel_rfl) (by kernel_rfl) (by intro _ _ _ h; first | exact h | exact absurd h.1 (by simp)) (Or.inl ⟨by rfl, ?_⟩) hS0 ?_; rotate_left; (focus (intro X hSX; (try dsimp only at hSX); go_simp; (try with_reducible rfl))); (try simp only [Act.put, List.setIfInBounds_toArray, List.set_cons_zero, List.set_cons_succ])
        refine wpAnyH_take (i := 2) (v := ?_) rfl (by kernel_rfl) (by kernel_rfl) (by kernel_rfl) (by intro _ _ _ h; first | exact h | exact absurd h.1 (by simp)) (Or.inl ⟨by rfl, ?_⟩) hS0 ?_; rotate_left; (focus (intro X hSX; (try dsimp only at hSX); go_simp; (try with_reducible rfl))); (try simp only [Act.put, List.setIfInBounds_toArray, List.set_cons_zero, List.set_cons_succ])
        refine wpAnyH_take (i := 3) (v := ?_) rfl (by kernel_rfl) (by kernel_rfl) (by kernel_rfl) (by intro _ _ _ h; first | exact h | exact absurd h.1 (by simp)) (Or.inl ⟨by rfl, ?_⟩) hS0 ?_; rotate_left; (focus (intro X hSX; (try dsimp only at hSX); go_simp; (try with_reducible rfl))); (try simp only [Act.put, List.setIfInBounds_toArray, List.set_cons_zero, List.set_cons_succ])
        refine wpAnyH_take (i := 5) (v := ?_) rfl (by kernel_rfl) (by kernel_rfl) (by kernel_rfl) (by intro _ _ _ h; first | exact h | exact absurd h.1 (by simp)) (Or.inl ⟨by rfl, ?_⟩) hS0 ?_; rotate_left; (focus (intro X hSX; (try dsimp only at hSX); go_simp; (try with_reducible rfl))); (try simp only [Act.put, List.setIfInBounds_toArray, List.set_cons_zero, List.set_cons_succ])
        refine wpAnyH_ready (rs := [4, 6]) (by kernel_rfl) (by simp) ?_
        refine AllReadyH.cons rfl (fun K hK => ?_) (AllReadyH.cons rfl (fun K hK => ?_) AllReadyH.nil)
        · go_simp
          refine hK.out _ _ hS0 (fun _ => ?_)
          clear hK K; (try simp only [Act.put, List.setIfInBounds_toArray, List.set_cons_zero, List.set_cons_succ])
          refine wpAnyH_ready (rs := [6]) (by kernel_rfl) (by simp) ?_; refine AllReadyH.cons rfl (fun K hK => ?_) AllReadyH.nil
          go_simp
          refine hK.out _ _ hSa (fun _ => ?_)
          clear hK K; (try simp only [Act.put, List.setIfInBounds_toArray, List.set_cons_zero, List.set_cons_succ])
          refine wpAnyH_ready (rs := [7]) (by kernel_rfl) (by simp) ?_; refine AllReadyH.cons (o := { dst := some 57, op := .call { callee := .builtin .append, args := #[.tmp 54, .tmp 56], argTypes := #[101, 101] }, type := 101, pos := "ask.go:30", after := #[{ on := 4, ground := .data }, { on := 6, ground := .data }], guard := none }) rfl (fun K hK => ?_) AllReadyH.nil
          refine own_append_step (w0 := w0) (W := w3.drew) (te := 108) rfl _ _ 101 rfl 108 (.agg #[.int .i64 0, .int .i64 0, .int .i64 0, .int .i64 0]) 4 32 Try.underlying101 numbers_info rfl (by omega) (.slice _ _ kt') _ _ rfl hLw3 HownS.out [.int .i64 e0, .int .i64 e1, .int .i64 e2, .int .i64 e3] rfl rfl (by simp [Value.oneCell']) hlen (by omega) ?_
          intro v' w4 hap
          obtain ⟨A', c', hv', _⟩ := own_slice hap.own
          subst hv'
          have hne : ∀ b, (b < bm + 9 ∨ b = g) → (Value.slice _ _ kt').ownBlock ≠ some b := fun b hb e => by
            rcases hb with hb | rfl
            · have := Hown9.out b e; omega
            · exact Hgo.out _ _ e
          refine hK.out _ _ (HS1.out _ fun b hb h9 _ => hap.keep b hb (hne b h9)) (fun hS4 => ?_)
          clear hK K; (try simp only [Act.put, List.setIfInBounds_toArray, List.set_cons_zero, List.set_cons_succ])
          refine wpAnyH_take (i := 8) (v := ?_) rfl (by kernel_rfl) (by kernel_rfl) (by kernel_rfl) (by intro _ _ _ h; first | exact h | exact absurd h.1 (by simp)) (Or.inl ⟨by rfl, ?_⟩) hS4 ?_; rotate_left; (focus (intro X hSX; (try dsimp only at hSX); go_simp; (try with_reducible rfl))); (try simp only [Act.put, List.setIfInBounds_toArray, List.set_cons_zero, List.set_cons_succ])
          refine wpAnyH_take (i := 9) (v := ?_) rfl (by kernel_rfl) (by kernel_rfl) (by kernel_rfl) (by intro _ _ _ h; first | exact h | exact absurd h.1 (by simp)) (Or.inl ⟨by rfl, ?_⟩) hS4 ?_; rotate_left; (focus (intro X hSX; (try dsimp only at hSX); go_simp; (try with_reducible rfl))); (try simp only [Act.put, List.setIfInBounds_toArray, List.set_cons_zero, List.set_cons_succ])
          have hk4 : w4.heap[bm + 1]? = w3.heap[bm + 1]? := hap.keep (bm + 1) (by show bm + 1 < w3.heap.size; omega) (hne _ (.inl (by omega)))
          have hb4 := Blk.of_eq hk4 Hbk3.out
          have c54 := hb4.cell 5
          have f54 := hb4.frozen 5
          simp only [List.getElem?_toArray, List.getElem?_cons_zero, List.getElem?_cons_succ] at c54
          refine wpAnyH_ready (rs := [10]) (by kernel_rfl) (by simp) ?_; refine AllReadyH.cons rfl (fun K hK => ?_) AllReadyH.nil
          go_simp
          refine hK.out _ _ ?_ (fun _ => ?_)
          · exact HS1.out _ fun b hb h9 hn1 => (Below.heap_setCell w4 _ _ b hn1).trans (hap.keep b hb (hne b h9))
          · clear hK K
            refine wpAnyH_done (by kernel_rfl) ?_ _
            gi_wp2_with fail
            exact ask_end HI.out (by omega) hL3 hk2 hp4 (by omega) Hbk.out Hown.out hap
        · go_simp
          refine hK.out _ _ hSa (fun _ => ?_)
          clear hK K; (try simp only [Act.put, List.setIfInBounds_toArray, List.set_cons_zero, List.set_cons_succ])
          refine wpAnyH_ready (rs := [4]) (by kernel_rfl) (by simp) ?_; refine AllReadyH.cons rfl (fun K hK => ?_) AllReadyH.nil
          go_simp
          refine hK.out _ _ hSa (fun _ => ?_)
          clear hK K; (try simp only [Act.put, List.setIfInBounds_toArray, List.set_cons_zero, List.set_cons_succ])
          refine wpAnyH_ready (rs := [7]) (by kernel_rfl) (by simp) ?_; refine AllReadyH.cons (o := { dst := some 57, op := .call { callee := .builtin .append, args := #[.tmp 54, .tmp 56], argTypes := #[101, 101] }, type := 101, pos := "ask.go:30", after := #[{ on := 4, ground := .data }, { on := 6, ground := .data }], guard := none }) rfl (fun K hK => ?_) AllReadyH.nil
          refine own_append_step (w0 := w0) (W := w3.drew) (te := 108) rfl _ _ 101 rfl 108 (.agg #[.int .i64 0, .int .i64 0, .int .i64 0, .int .i64 0]) 4 32 Try.underlying101 numbers_info rfl (by omega) (.slice _ _ kt') _ _ rfl hLw3 HownS.out [.int .i64 e0, .int .i64 e1, .int .i64 e2, .int .i64 e3] rfl rfl (by simp [Value.oneCell']) hlen (by omega) ?_
          intro v' w4 hap
          obtain ⟨A', c', hv', _⟩ := own_slice hap.own
          subst hv'
          have hne : ∀ b, (b < bm + 9 ∨ b = g) → (Value.slice _ _ kt').ownBlock ≠ some b := fun b hb e => by
            rcases hb with hb | rfl
            · have := Hown9.out b e; omega
            · exact Hgo.out _ _ e
          refine hK.out _ _ (HS1.out _ fun b hb h9 _ => hap.keep b hb (hne b h9)) (fun hS4 => ?_)
          clear hK K; (try simp only [Act.put, List.setIfInBounds_toArray, List.set_cons_zero, List.set_cons_succ])
          refine wpAnyH_take (i := 8) (v := ?_) rfl (by kernel_rfl) (by kernel_rfl) (by kernel_rfl) (by intro _ _ _ h; first | exact h | exact absurd h.1 (by simp)) (Or.inl ⟨by rfl, ?_⟩) hS4 ?_; rotate_left; (focus (intro X hSX; (try dsimp only at hSX); go_simp; (try with_reducible rfl))); (try simp only [Act.put, List.setIfInBounds_toArray, List.set_cons_zero, List.set_cons_succ])
          refine wpAnyH_take (i := 9) (v := ?_) rfl (by kernel_rfl) (by kernel_rfl) (by kernel_rfl) (by intro _ _ _ h; first | exact h | exact absurd h.1 (by simp)) (Or.inl ⟨by rfl, ?_⟩) hS4 ?_; rotate_left; (focus (intro X hSX; (try dsimp only at hSX); go_simp; (try with_reducible rfl))); (try simp only [Act.put, List.setIfInBounds_toArray, List.set_cons_zero, List.set_cons_succ])
          have hk4 : w4.heap[bm + 1]? = w3.heap[bm + 1]? := hap.keep (bm + 1) (by show bm + 1 < w3.heap.size; omega) (hne _ (.inl (by omega)))
          have hb4 := Blk.of_eq hk4 Hbk3.out
          have c54 := hb4.cell 5
          have f54 := hb4.frozen 5
          simp only [List.getElem?_toArray, List.getElem?_cons_zero, List.getElem?_cons_succ] at c54
          refine wpAnyH_ready (rs := [10]) (by kernel_rfl) (by simp) ?_; refine AllReadyH.cons rfl (fun K hK => ?_) AllReadyH.nil
          go_simp
          refine hK.out _ _ ?_ (fun _ => ?_)
          · exact HS1.out _ fun b hb h9 hn1 => (Below.heap_setCell w4 _ _ b hn1).trans (hap.keep b hb (hne b h9))
          · clear hK K
            refine wpAnyH_done (by kernel_rfl) ?_ _
            gi_wp2_with fail
            exact ask_end HI.out (by omega) hL3 hk2 hp4 (by omega) Hbk.out Hown.out hap
      · have hrd : RD W At (l0 ++ [y]).length (l0 ++ [y]) := Reads.of_own (c := kt') Hown.out
        obtain ⟨bt, ot, d, f0, f1, f2, f3, rfl, hbt, hd, hpd, r0, r1, r2, r3⟩ := RD.get hrd (k := l0.length) (by simp)
        have hdy : d = y := by
          rw [List.getElem?_append_right (Nat.le_refl _), Nat.sub_self] at hd
          simpa using hd.symm
        subst hdy
        have hlast : pad4 ((l0 ++ [d]).getLastD []) = [f0, f1, f2, f3] := by rw [List.getLastD_concat]; exact hpd.out
        have hm1 : l0.length ≤ 1000000 := by simp at hlen; omega
        have hwm : IntKind.i64.wrap (l0.length : Int) = l0.length := IntWalk.i64_in _ (by omega)
        have hll : (l0 ++ [d]).length = l0.length + 1 := by simp
        rw [hll] at q2
        have hz1 : ((l0.length : Int) + 1 == 0) = false := by simp; omega
        have hlt1 : (l0.length : Int) < (l0.length : Int) + 1 := by omega
        generalize hml : l0.length = m at *
        have Hml := hide hml
        have Hll := hide hll
        clear hd hrd hml hll
        cases heq : (f0 == e0 && (f1 == e1 && (f2 == e2 && f3 == e3))) with
        | true =>
          have hk2 : keep c (pre ++ [x]) = keep c pre := by
            rw [hksn, hks]; unfold keepStep
            rw [if_neg]
            rintro ⟨_, h | h⟩
            · simp at h
            · rw [hlast, hp4] at h
              simp only [Bool.and_eq_true, beq_iff_eq] at heq
              obtain ⟨rfl, rfl, rfl, rfl⟩ := heq
              exact h rfl
          have hne := fun X => neq4 f0 f1 f2 f3 e0 e1 e2 e3 true heq X
          clear hr hksn heq hlast
          gi_wp2_with fail
          refine region_round_quiet (w0 := W) (by kernel_rfl) (by kernel_rfl) (by kernel_rfl) (fun ⟨_, _, h⟩ => h) (later_refl _) ?_; (repeat (first | go_big_quiet_step ((go_at_call 37; exact calls_ext (by simp) (hrc _ (by simp)))) | quiet_step ((go_at_call 37; exact calls_ext (by simp) (hrc _ (by simp)))))); refine wpQuiet_nil ?_; rintro w3 ⟨⟨_, hL3⟩, rfl⟩; (try dsimp only)
          gi_wp2_with fail
          exact ⟨KeepsOthers.of_later hL3, fun b hb => hL3.block b (by omega), (HI.out.later (by omega) hL3).skip hk2⟩
        | false =>
          have hk2 : keep c (pre ++ [x]) = (l0 ++ [d]) ++ [x] := by
            rw [hksn]; unfold keepStep
            rw [if_pos]
            refine ⟨by rw [hp4]; exact hr, .inr fun h => ?_⟩
            rw [hlast, hp4] at h
            simp only [List.cons.injEq, and_true] at h
            obtain ⟨rfl, rfl, rfl, rfl⟩ := h
            simp at heq
          have hne0 := fun X => neq4 f0 f1 f2 f3 e0 e1 e2 e3 false heq X
          clear hr hksn heq hlast
          gi_wp2_with fail
          refine region_round_quiet (w0 := W) (by kernel_rfl) (by kernel_rfl) (by kernel_rfl) (fun ⟨_, _, h⟩ => h) (later_refl _) ?_; (repeat (first | go_big_quiet_step ((go_at_call 37; exact calls_ext (by simp) (hrc _ (by simp)))) | quiet_step ((go_at_call 37; exact calls_ext (by simp) (hrc _ (by simp)))))); refine wpQuiet_nil ?_; rintro w3 ⟨⟨_, hL3⟩, rfl⟩; (try dsimp only)
          gi_wp2_with fail
          generalize l0 ++ [d] = ks at *
          rw [← Hll.out]
          have hown3 := own_later2 Hown.out hL3
          have hbk3 := Hbk.out.later hL3
          have hLw3 : Later w0 w3.drew := later_drew (Later.trans hLW hL3)
          have hs3 := hL3.size
          have c5 : ∀ X, Later w3 X → X.cell? ⟨bm + 1, 5, none⟩ = some (.slice _ _ kt') := fun X hX => hbk3.cells_later X hX 5
          have hS0 : w3.drew.cell? ⟨bm + 1 + 1, 0, none⟩ = some (.pointer (some ⟨bm + 1, 0, none⟩)) ∧ w3.drew.cell? ⟨g, 0, none⟩ = some (.int .i64 e0) ∧ w3.drew.cell? ⟨g, 1, none⟩ = some (.int .i64 e1) ∧ w3.drew.cell? ⟨g, 2, none⟩ = some (.int .i64 e2) ∧ w3.drew.cell? ⟨g, 3, none⟩ = some (.int .i64 e3) :=
            ⟨q1 w3 hL3 0, q3 w3 hL3 0, q3 w3 hL3 1, q3 w3 hL3 2, q3 w3 hL3 3⟩
          have hbg : g < w3.drew.heap.size := World.block_lt_of_cell? _ _ hS0.2.1
          have hS1 : ∀ X : World, (∀ b, b < w3.drew.heap.size → (b < bm + 9 ∨ b = g) → b ≠ bm + 1 → X.heap[b]? = w3.drew.heap[b]?) → X.cell? ⟨bm + 1 + 1, 0, none⟩ = some (.pointer (some ⟨bm + 1, 0, none⟩)) ∧ X.cell? ⟨g, 0, none⟩ = some (.int .i64 e0) ∧ X.cell? ⟨g, 1, none⟩ = some (.int .i64 e1) ∧ X.cell? ⟨g, 2, none⟩ = some (.int .i64 e2) ∧ X.cell? ⟨g, 3, none⟩ = some (.int .i64 e3) := fun X hX => by
            have k1 := hX (bm + 1 + 1) (by show bm + 1 + 1 < w3.heap.size; omega) (.inl (by omega)) (by omega)
            have k2 := hX g hbg (.inr rfl) (by omega)
            exact ⟨(World.cell?_of_block (a := ⟨bm + 1 + 1, 0, none⟩) k1).trans hS0.1, (World.cell?_of_block (a := ⟨g, 0, none⟩) k2).trans hS0.2.1, (World.cell?_of_block (a := ⟨g, 1, none⟩) k2).trans hS0.2.2.1, (World.cell?_of_block (a := ⟨g, 2, none⟩) k2).trans hS0.2.2.2.1, (World.cell?_of_block (a := ⟨g, 3, none⟩) k2).trans hS0.2.2.2.2⟩
          have hSa := hS1 (w3.drew.alloc (.cells #[.int .i64 e0, .int .i64 e1, .int .i64 e2, .int .i64 e3] 108)) (fun b hb _ _ => Below.heap_alloc _ _ b hb)
          have hownS : w3.drew.ownsRow w0.heap.size 108 4 (.slice _ _ kt') _ (drysV _) := own_rebase (World.ownsRow.drew hown3) fun g e => by have := (hown3.lt g e).1; omega
          have hown9 : ∀ b, _ → bm + 4 + 5 ≤ b := fun b e => (hown3.lt b e).1
          have HS1 := hide hS1
          have Hbk3 := hide hbk3
          have Hown9 := hide hown9
          have HownS := hide hownS
          clear hown3 hS1 hbk3 hown9 hownS hrc q2
          refine region_round (by kernel_rfl) (by kernel_rfl) (fun ⟨_, _, h⟩ => h) (wpAny_of_held (S := fun X => X.cell? ⟨bm + 1 + 1, 0, none⟩ = some (.pointer (some ⟨bm + 1, 0, none⟩)) ∧ X.cell? ⟨g, 0, none⟩ = some (.int .i64 e0) ∧ X.cell? ⟨g, 1, none⟩ = some (.int .i64 e1) ∧ X.cell? ⟨g, 2, none⟩ = some (.int .i64 e2) ∧ X.cell? ⟨g, 3, none⟩ = some (.int .i64 e3)) _ _ _ _ ?_)
          refine wpAnyH_take (i := 0) (v := ?_) rfl (by kernel_rfl) (by kernel_rfl) (by kernel_rfl) (by intro _ _ _ h; first | exact h | exact absurd h.1 (by simp)) (Or.inl ⟨by rfl, ?_⟩) hS0 ?_; rotate_left; (focus (intro X hSX; (try dsimp only at hSX); go_simp; (try with_reducible rfl))); (try simp only [Act.put, List.setIfInBounds_toArray, List.set_cons_zero, List.set_cons_succ])
          refine wpAnyH_take (i := 1) (v := ?_) rfl (by kernel_rfl) (by kernel_rfl) (by kernel_rfl) (by intro _ _ _ h; first | exact h | exact absurd h.1 (by simp)) (Or.inl ⟨by rfl, ?_⟩) hS0 ?_; rotate_left; (focus (intro X hSX; (try dsimp only at hSX); go_simp; (try with_reducible rfl))); (try simp only [Act.put, List.setIfInBounds_toArray, List.set_cons_zero, List.set_cons_succ])
          refine wpAnyH_take (i := 2) (v := ?_) rfl (by kernel_rfl) (by kernel_rfl) (by kernel_rfl) (by intro _ _ _ h; first | exact h | exact absurd h.1 (by simp)) (Or.inl ⟨by rfl, ?_⟩) hS0 ?_; rotate_left; (focus (intro X hSX; (try dsimp only at hSX); go_simp; (try with_reducible rfl))); (try simp only [Act.put, List.setIfInBounds_toArray, List.set_cons_zero, List.set_cons_succ])
          refine wpAnyH_take (i := 3) (v := ?_) rfl (by kernel_rfl) (by kernel_rfl) (by kernel_rfl) (by intro _ _ _ h; first | exact h | exact absurd h.1 (by simp)) (Or.inl ⟨by rfl, ?_⟩) hS0 ?_; rotate_left; (focus (intro X hSX; (try dsimp only at hSX); go_simp; (try with_reducible rfl))); (try simp only [Act.put, List.setIfInBounds_toArray, List.set_cons_zero, List.set_cons_succ])
          refine wpAnyH_take (i := 5) (v := ?_) rfl (by kernel_rfl) (by kernel_rfl) (by kernel_rfl) (by intro _ _ _ h; first | exact h | exact absurd h.1 (by simp)) (Or.inl ⟨by rfl, ?_⟩) hS0 ?_; rotate_left; (focus (intro X hSX; (try dsimp only at hSX); go_simp; (try with_reducible rfl))); (try simp only [Act.put, List.setIfInBounds_toArray, List.set_cons_zero, List.set_cons_succ])
          refine wpAnyH_ready (rs := [4, 6]) (by kernel_rfl) (by simp) ?_
          refine AllReadyH.cons rfl (fun K hK => ?_) (AllReadyH.cons rfl (fun K hK => ?_) AllReadyH.nil)
          · go_simp
            refine hK.out _ _ hS0 (fun _ => ?_)
            clear hK K; (try simp only [Act.put, List.setIfInBounds_toArray, List.set_cons_zero, List.set_cons_succ])
            refine wpAnyH_ready (rs := [6]) (by kernel_rfl) (by simp) ?_; refine AllReadyH.cons rfl (fun K hK => ?_) AllReadyH.nil
            go_simp
            refine hK.out _ _ hSa (fun _ => ?_)
            clear hK K; (try simp only [Act.put, List.setIfInBounds_toArray, List.set_cons_zero, List.set_cons_succ])
            refine wpAnyH_ready (rs := [7]) (by kernel_rfl) (by simp) ?_; refine AllReadyH.cons (o := { dst := some 57, op := .call { callee := .builtin .append, args := #[.tmp 54, .tmp 56], argTypes := #[101, 101] }, type := 101, pos := "ask.go:30", after := #[{ on := 4, ground := .data }, { on := 6, ground := .data }], guard := none }) rfl (fun K hK => ?_) AllReadyH.nil
            refine own_append_step (w0 := w0) (W := w3.drew) (te := 108) rfl _ _ 101 rfl 108 (.agg #[.int .i64 0, .int .i64 0, .int .i64 0, .int .i64 0]) 4 32 Try.underlying101 numbers_info rfl (by omega) (.slice _ _ kt') _ _ rfl hLw3 HownS.out [.int .i64 e0, .int .i64 e1, .int .i64 e2, .int .i64 e3] rfl rfl (by simp [Value.oneCell']) hlen (by omega) ?_
            intro v' w4 hap
            obtain ⟨A', c', hv', _⟩ := own_slice hap.own
            subst hv'
            have hne : ∀ b, (b < bm + 9 ∨ b = g) → (Value.slice _ _ kt').ownBlock ≠ some b := fun b hb e => by
              rcases hb with hb | rfl
              · have := Hown9.out b e; omega
              · exact Hgo.out _ _ e
            refine hK.out _ _ (HS1.out _ fun b hb h9 _ => hap.keep b hb (hne b h9)) (fun hS4 => ?_)
            clear hK K; (try simp only [Act.put, List.setIfInBounds_toArray, List.set_cons_zero, List.set_cons_succ])
            refine wpAnyH_take (i := 8) (v := ?_) rfl (by kernel_rfl) (by kernel_rfl) (by kernel_rfl) (by intro _ _ _ h; first | exact h | exact absurd h.1 (by simp)) (Or.inl ⟨by rfl, ?_⟩) hS4 ?_; rotate_left; (focus (intro X hSX; (try dsimp only at hSX); go_simp; (try with_reducible rfl))); (try simp only [Act.put, List.setIfInBounds_toArray, List.set_cons_zero, List.set_cons_succ])
            refine wpAnyH_take (i := 9) (v := ?_) rfl (by kernel_rfl) (by kernel_rfl) (by kernel_rfl) (by intro _ _ _ h; first | exact h | exact absurd h.1 (by simp)) (Or.inl ⟨by rfl, ?_⟩) hS4 ?_; rotate_left; (focus (intro X hSX; (try dsimp only at hSX); go_simp; (try with_reducible rfl))); (try simp only [Act.put, List.setIfInBounds_toArray, List.set_cons_zero, List.set_cons_succ])
            have hk4 : w4.heap[bm + 1]? = w3.heap[bm + 1]? := hap.keep (bm + 1) (by show bm + 1 < w3.heap.size; omega) (hne _ (.inl (by omega)))
            have hb4 := Blk.of_eq hk4 Hbk3.out
            have c54 := hb4.cell 5
            have f54 := hb4.frozen 5
            simp only [List.getElem?_toArray, List.getElem?_cons_zero, List.getElem?_cons_succ] at c54
            refine wpAnyH_ready (rs := [10]) (by kernel_rfl) (by simp) ?_; refine AllReadyH.cons rfl (fun K hK => ?_) AllReadyH.nil
            go_simp
            refine hK.out _ _ ?_ (fun _ => ?_)
            · exact HS1.out _ fun b hb h9 hn1 => (Below.heap_setCell w4 _ _ b hn1).trans (hap.keep b hb (hne b h9))
            · clear hK K
              refine wpAnyH_done (by kernel_rfl) ?_ _
              gi_wp2_with fail
              exact ask_end HI.out (by omega) hL3 hk2 hp4 (by omega) Hbk.out Hown.out hap
          · go_simp
            refine hK.out _ _ hSa (fun _ => ?_)
            clear hK K; (try simp only [Act.put, List.setIfInBounds_toArray, List.set_cons_zero, List.set_cons_succ])
            refine wpAnyH_ready (rs := [4]) (by kernel_rfl) (by simp) ?_; refine AllReadyH.cons rfl (fun K hK => ?_) AllReadyH.nil
            go_simp
            refine hK.out _ _ hSa (fun _ => ?_)
            clear hK K; (try simp only [Act.put, List.setIfInBounds_toArray, List.set_cons_zero, List.set_cons_succ])
            refine wpAnyH_ready (rs := [7]) (by kernel_rfl) (by simp) ?_; refine AllReadyH.cons (o := { dst := some 57, op := .call { callee := .builtin .append, args := #[.tmp 54, .tmp 56], argTypes := #[101, 101] }, type := 101, pos := "ask.go:30", after := #[{ on := 4, ground := .data }, { on := 6, ground := .data }], guard := none }) rfl (fun K hK => ?_) AllReadyH.nil
            refine own_append_step (w0 := w0) (W := w3.drew) (te := 108) rfl _ _ 101 rfl 108 (.agg #[.int .i64 0, .int .i64 0, .int .i64 0, .int .i64 0]) 4 32 Try.underlying101 numbers_info rfl (by omega) (.slice _ _ kt') _ _ rfl hLw3 HownS.out [.int .i64 e0, .int .i64 e1, .int .i64 e2, .int .i64 e3] rfl rfl (by simp [Value.oneCell']) hlen (by omega) ?_
            intro v' w4 hap
            obtain ⟨A', c', hv', _⟩ := own_slice hap.own
            subst hv'
            have hne : ∀ b, (b < bm + 9 ∨ b = g) → (Value.slice _ _ kt').ownBlock ≠ some b := fun b hb e => by
              rcases hb with hb | rfl
              · have := Hown9.out b e; omega
              · exact Hgo.out _ _ e
            refine hK.out _ _ (HS1.out _ fun b hb h9 _ => hap.keep b hb (hne b h9)) (fun hS4 => ?_)
            clear hK K; (try simp only [Act.put, List.setIfInBounds_toArray, List.set_cons_zero, List.set_cons_succ])
            refine wpAnyH_take (i := 8) (v := ?_) rfl (by kernel_rfl) (by kernel_rfl) (by kernel_rfl) (by intro _ _ _ h; first | exact h | exact absurd h.1 (by simp)) (Or.inl ⟨by rfl, ?_⟩) hS4 ?_; rotate_left; (focus (intro X hSX; (try dsimp only at hSX); go_simp; (try with_reducible rfl))); (try simp only [Act.put, List.setIfInBounds_toArray, List.set_cons_zero, List.set_cons_succ])
            refine wpAnyH_take (i := 9) (v := ?_) rfl (by kernel_rfl) (by kernel_rfl) (by kernel_rfl) (by intro _ _ _ h; first | exact h | exact absurd h.1 (by simp)) (Or.inl ⟨by rfl, ?_⟩) hS4 ?_; rotate_left; (focus (intro X hSX; (try dsimp only at hSX); go_simp; (try with_reducible rfl))); (try simp only [Act.put, List.setIfInBounds_toArray, List.set_cons_zero, List.set_cons_succ])
            have hk4 : w4.heap[bm + 1]? = w3.heap[bm + 1]? := hap.keep (bm + 1) (by show bm + 1 < w3.heap.size; omega) (hne _ (.inl (by omega)))
            have hb4 := Blk.of_eq hk4 Hbk3.out
            have c54 := hb4.cell 5
            have f54 := hb4.frozen 5
            simp only [List.getElem?_toArray, List.getElem?_cons_zero, List.getElem?_cons_succ] at c54
            refine wpAnyH_ready (rs := [10]) (by kernel_rfl) (by simp) ?_; refine AllReadyH.cons rfl (fun K hK => ?_) AllReadyH.nil
            go_simp
            refine hK.out _ _ ?_ (fun _ => ?_)
            · exact HS1.out _ fun b hb h9 hn1 => (Below.heap_setCell w4 _ _ b hn1).trans (hap.keep b hb (hne b h9))
            · clear hK K
              refine wpAnyH_done (by kernel_rfl) ?_ _
              gi_wp2_with fail
              exact ask_end HI.out (by omega) hL3 hk2 hp4 (by omega) Hbk.out Hown.out hap
  case done =>
    intro W hI hK
    rw [hE] at hK ⊢
    obtain ⟨At, kt', hbk, hown⟩ := hI.row
    have ktW : Blk W (bm + 1 + 1) 71 #[.pointer (some ⟨bm + 1, 0, none⟩)] := (hI.old _ (by omega) (by omega)).trans kt
    have t0 := ktW.cell 0
    have d5 := hbk.cell 5
    simp only [List.getElem?_toArray, List.getElem?_cons_zero, List.getElem?_cons_succ] at t0 d5
    have hkeep : keep c (dryAll c.horses) = truthsP c := rfl
    rw [hkeep] at hown hbk d5
    obtain ⟨nt, hnt⟩ : ∃ n, (truthsP c).length = n := ⟨_, rfl⟩
    rw [hnt] at hown hbk d5
    have Hnt := hide hnt
    have Hbk := hide hbk
    clear hbk hnt hkeep
    have hLput : Later w (W.putObj (bm + 4) (.deferred none)) := Later.trans hL0 (later_put (hI.base hL0E (by omega) (by omega)) (by omega) _)
    cases hz : ((nt : Int) == 0) with
    | true =>
      gi_wp2_with fail
      refine ⟨by simp, .inl ⟨_, _, rfl, run_takeDeferred hK, ?_⟩⟩
      refine ⟨.tuple #[.pointer none, .int .i64 11], by simp [results, Try.results17, go_sem], .inl ⟨?_, rfl, hLput⟩⟩
      exact List.eq_nil_of_length_eq_zero (by have h0 : (nt : Int) = 0 := (by simpa using hz); have := Hnt.out; omega)
    | false =>
      gi_wp2_with fail
      refine ⟨by simp, .inl ⟨_, _, rfl, run_takeDeferred hK, ?_⟩⟩
      refine ⟨.tuple #[.pointer (some ⟨bm + 1, 0, none⟩), .int .i64 0], by simp [results, Try.results17, go_sem], .inr ⟨?_, bm + 1, bm, At, kt', rfl, hLput, ⟨?_, ?_, ?_, ?_⟩, ?_, by omega, by omega, by omega, fun b o e => by subst e; have := (hown.lt b rfl).1; omega⟩⟩
      · intro h0
        rw [h0] at Hnt
        have := Hnt.out
        simp only [List.length_nil] at this
        subst this
        cases hz
      · intro i
        rw [Hnt.out]
        exact (World.cell?_of_block (a := ⟨bm + 1, i, none⟩) (heap_put W (bm + 4) _ (bm + 1) (by omega))).trans (Hbk.out.cell i)
      · have := hI.size
        simp; omega
      · exact hc.later hLput
      · rw [Hnt.out]
        have := own_block (W' := W.putObj (bm + 4) (.deferred none)) hown fun g hg => heap_put W _ _ g (by have := (hown.lt g hg).1; omega)
        exact Reads.of_own (c := kt') this
      · exact (heap_put W (bm + 4) _ bm (by omega)).trans ((hI.old bm (by omega) (by omega)).trans km)
  case stop => exact fun _ _ _ _ h _ => h.elim
  · intro W hL hs
    rw [hE] at hs
    refine truths_iter (n2 := n2) (k2 := k2) (n3 := n3) (k3 := k3) (A2 := A2) (A3 := A3) (k1 := k1) ok.toOkH (hcE.hs.later hL) (kc.later hL) (by omega) (fun hn b o e => ?_) (by omega) (by omega) (by omega)
    obtain ⟨b', o', e3, hb', _⟩ := Reads.lit hc.hs (by omega) hn
    rw [e] at e3; obtain ⟨rfl, _⟩ := some_lit e3; omega
  · exact fun W o b hb => heap_put W _ o b (by rw [hE]; exact hb.2.2)
  · rw [hE]; exact AskI.stands (by omega)
  · intro s A o h _; rw [hE]; exact h.put (by omega) o
  · intro A hL hs
    rw [hE] at hs
    refine ⟨hs, (hL.os).trans hL0E.os, (hL.tape).trans hL0E.tape, (hL.output).trans hL0E.output, fun b hb _ => hL.block b (by omega), none, 0, kw.later hL, ?_⟩
    exact World.ownsRow_nil _ _ _ _
  · rintro pre x a' A o ⟨g, e0, e1, e2, e3, rfl, hpad, hg, hgo, hBd, hI⟩ _
    rw [hE]
    exact ⟨g, e0, e1, e2, e3, rfl, hpad, hg, fun v hv => hgo v ((World.cell?_of_block (a := ⟨bm + 1, 5, none⟩) (heap_put A (bm + 4 + 1) o (bm + 1) (by omega))).symm.trans hv), (heap_put A _ o g (by omega)).trans hBd, hI.put (by omega) o⟩
end Go.Proofs.Ytnlbgaippnjmiaa

/- The program's asked, by its error; Stuck: walks. -/
namespace Go.Proofs.Ytnlbgaippnjmiaa
open Go Go.RowKit

/-- the error of what is asked -/
def askedErr (c : Clo) (fine : Bool) : Int := if fault c ≠ 0 then fault c else if fine = false then 2 else if truthsP c = [] then 11 else 0
theorem asked_fail {A1 A2 A3 : Option Addr} {n1 k1 n2 k2 n3 k3 : Nat} {c : Clo} {fine : Bool} {b : Int} (w : World) (hc : CV w c A1 n1 A2 n2 A3 n3) (hcl : i64 c.closets) (hn1 : n1 ≤ 1000) (hn2 : n2 ≤ 1000) (hn3 : n3 ≤ 1000) (hk2 : n2 ≤ k2) (hb : askedErr c fine = b) (h0 : b ≠ 0) :
    Calls Try.prog 17 #[(.agg #[.int .i64 c.closets, .int .i64 c.close, .slice A1 n1 k1, .slice A2 n2 k2, .slice A3 n3 k3]), .bool fine] w fun e w' => e = .returned (.tuple #[.pointer none, .int .i64 b]) ∧ Later w w' := by
  unfold askedErr at hb
  by_cases hf : fault c = 0
  · rw [if_neg (by simp [hf])] at hb
    cases fine with
    | false =>
      rw [if_pos rfl] at hb
      subst hb
      exact asked_unfine w hc hcl hn1 hn2 hn3 hk2 hf
    | true =>
      rw [if_neg (by simp)] at hb
      by_cases ht : truthsP c = []
      · rw [if_pos ht] at hb
        subst hb
        refine (asked_fine w hc hcl hn1 hn2 hn3 hk2 hf).mono ?_
        rintro e w' (⟨_, rfl, hL⟩ | ⟨hne, _⟩)
        · exact ⟨rfl, hL⟩
        · exact absurd ht hne
      · rw [if_neg ht] at hb
        exact absurd hb.symm h0
  · rw [if_pos hf] at hb
    subst hb
    exact asked_bad w hc hcl hn1 hn2 hn3 hk2 hf
/-- what asked returns where there is no error -/
def AskedOk (c : Clo) (A1 : Option Addr) (n1 k1 : Nat) (A2 : Option Addr) (n2 k2 : Nat) (A3 : Option Addr) (n3 k3 : Nat) (w : World) (e : Ending) (w' : World) : Prop :=
  ∃ bw bm At kt, e = .returned (.tuple #[.pointer (some ⟨bw, 0, none⟩), .int .i64 0]) ∧ Later w w' ∧ WK w' bw c A1 n1 k1 A2 n2 k2 A3 n3 k3 At (truthsP c).length kt (truthsP c) (.map (some bm)) ∧
    w'.heap[bm]? = some (.map #[] 0) ∧ w.heap.size ≤ bm ∧ w.heap.size ≤ bw ∧ bm ≠ bw ∧ ∀ b o, At = some ⟨b, o, none⟩ → w.heap.size ≤ b
theorem askedErr_zero {c : Clo} {fine : Bool} (h : askedErr c fine = 0) : fault c = 0 ∧ fine = true ∧ truthsP c ≠ [] := by
  unfold askedErr at h
  by_cases hf : fault c = 0
  · rw [if_neg (by simp [hf])] at h
    cases fine with
    | false => rw [if_pos rfl] at h; exact absurd h (by decide)
    | true =>
      rw [if_neg (by simp)] at h
      by_cases ht : truthsP c = []
      · rw [if_pos ht] at h; exact absurd h (by decide)
      · exact ⟨hf, rfl, ht⟩
  · rw [if_pos hf] at h; exact absurd h hf
theorem asked_ok {A1 A2 A3 : Option Addr} {n1 k1 n2 k2 n3 k3 : Nat} {c : Clo} {fine : Bool} (w : World) (hc : CV w c A1 n1 A2 n2 A3 n3) (hcl : i64 c.closets) (hn1 : n1 ≤ 1000) (hn2 : n2 ≤ 1000) (hn3 : n3 ≤ 1000) (hk2 : n2 ≤ k2) (hb : askedErr c fine = 0) :
    Calls Try.prog 17 #[(.agg #[.int .i64 c.closets, .int .i64 c.close, .slice A1 n1 k1, .slice A2 n2 k2, .slice A3 n3 k3]), .bool fine] w fun e w' => AskedOk c A1 n1 k1 A2 n2 k2 A3 n3 k3 w e w' := by
  obtain ⟨hf, rfl, ht⟩ := askedErr_zero hb
  refine (asked_fine w hc hcl hn1 hn2 hn3 hk2 hf).mono ?_
  rintro e w' (⟨h, _⟩ | ⟨_, h⟩)
  · exact absurd h ht
  · exact h
theorem askedErr_range (c : Clo) (fine : Bool) : 0 ≤ askedErr c fine ∧ askedErr c fine ≤ 11 := by
  unfold askedErr
  rcases fault_cases c with h | h | h <;> rw [h] <;> (split <;> try split) <;> (try split) <;> omega
theorem truthsP_len {c : Clo} (hf : fault c = 0) : (truthsP c).length ≤ 2000 := by
  have h1 := (truthsP_perm hf).length_eq
  have h2 : (truths c).length ≤ (allDry c).length := List.length_filter_le _ _
  have h3 : (allDry c).length = (many c).toNat := by simp [allDry]
  have h4 := (fault_zero hf).2.2.2.2.2.2
  omega
theorem isPlaceB_isPl {c : Clo} (hf : fault c = 0) {p : List Int} (h : isPlaceB c p = true) : IsPl c p := (isPlaceB_iff (okC_of_fault hf).cl1 (okC_of_fault hf).cl4 p).1 h

/-- what Stuck returns -/
def stuckOut (c : Clo) (p : List Int) : Int × Int :=
  if askedErr c (isPlaceB c p) ≠ 0 then (0, askedErr c (isPlaceB c p)) else if (doneP c (truthsP c) p).2 = c.horses.length then (0, 7) else ((doneP c (truthsP c) p).2, 0)

end Go.Proofs.Ytnlbgaippnjmiaa
