/- Part 7 of the proof: joined from the texts LawA, LawB, LawC, LawD. -/
import Derived.Test.YtjilckjhdlabaaaPart6
import Derived.Test.YtjilckjhdlabaaaPart3
set_option linter.unusedSimpArgs false
set_option linter.unusedVariables false
/- The helpers of the laws of chapter 04: walks. -/
namespace Go.Proofs.Ytjilckjhdlabaaa
open Go Go.RowKit

theorem run_app_nil {P : Program} {w : World} {base : Nat} (t ty e : TypeId) (i : TypeInfo) (size : Nat) (ht : P.underlying t = some (.slice e)) (hi : P.info? e = some i)
    (v : Value) (n : Nat) (xs : List Value) (hown : w.ownsRow base e size v n xs) (c : Nat) : (Builtin.append_ #[t, t] ty #[v, .slice none 0 c]).run P w = .ok v w := by
  rcases hown.2 with ⟨rfl, rfl⟩ | ⟨g, cap, cur, rfl, _, _, hle, _⟩ <;> simp [Builtin.append_, run_underlying ht, sizeOf, typeInfo, hi, Builtin.lenOf, Builtin.firstCells, storeCells, *]
theorem appG_nil {P : Program} {ops : Array Oper} {rest : List Oper} {o : Oper} {a : Act} {Q : Exit → Act → World → Prop} {W : World} (hgd : o.guard = none) (base : Nat) (s x : Operand) (t : TypeId)
    (ho : o.op = .call { callee := .builtin .append, args := #[s, x], argTypes := #[t, t] }) (e : TypeId) (z : Value) (size bytes : Nat)
    (ht : P.underlying t = some (.slice e)) (hinfo : (P.info? e).map (fun i => (i.zero, i.size, i.bytes)) = some (some z, size, bytes))
    (v : Value) (n : Nat) (xs : List Value) (hs : a.eval s = v) (hown : W.ownsRow base e size v n xs) (c : Nat) (hx : a.eval x = .slice none 0 c)
    (h : wpList P ops Q rest (a.put o.dst v) W) :
    wpList P ops Q (o :: rest) a W := by
  refine wpList_plain hgd fun _ hK => ?_
  obtain ⟨i, hi, hz, h2, h3⟩ := info_parts hinfo
  have hr := run_app_nil (P := P) (w := W) t o.type e i size ht hi v n xs hown c
  unfold Oper.wp execOp
  simp only [ho, resolve, invoke, builtin, Sem.run_bind, Sem.run_pure, Result.andThen_ok, List.map_toArray, List.map_cons, List.map_nil, hs, hx, hr]
  exact hK _ _ h

/-- what list returns -/
def ListPost (l : List Int) (w : World) (e : Ending) (w' : World) : Prop :=
  ∃ A n k, e = .returned (.slice A n k) ∧ Later w w' ∧ RI w' A n l ∧ n ≤ k ∧ Fresh w w' A
set_option maxRecDepth 100000 in
theorem list_calls {A : Option Addr} {n k : Nat} {l : List Int} (w : World) (h : RI w A n l) (hn : n ≤ 1000000) :
    Calls Try.prog 27 #[.slice A n k] w (ListPost l w) := by
  have hlen := h.len
  cases A with
  | none =>
    have h0 : n = 0 := by
      rcases Nat.eq_zero_or_pos n with h0 | h0
      · exact h0
      · obtain ⟨ad, e, _⟩ := h.2 h0; cases e
    have hl : l = [] := List.eq_nil_of_length_eq_zero (by omega)
    subst h0 hl
    clear hlen
    go_enter Try.func27, Try.ntmps27
    go_wp2_with (at_builtin; refine appG_nil rfl w.heap.size _ _ 23 rfl 3 (.int .i64 0) 1 8 Try.underlying23 int_info _ 0 [] rfl (World.ownsRow_made w #[] 0 (Nat.le_refl _) (by unfold maxLen; omega) rfl) k rfl ?_)
    go_wp2_with fail
    go_ret
    exact ⟨_, 0, _, rfl, later_alloc (later_refl _) _, RI.nil, Nat.le_refl _, fun b o e => by injection e with e; injection e with e _; subst e; simp⟩
  | some ad =>
    have hc := fun (W : World) (hL : Later w W) => ints_cells (h.later hL)
    have hl2 : (ints l).length = n * 1 := by rw [ints_length]; omega
    have Hl := hide hlen
    clear hlen
    go_enter Try.func27, Try.ntmps27
    go_wp2_with (at_builtin; refine appG rfl w.heap.size _ _ 23 rfl 3 (.int .i64 0) 1 8 Try.underlying23 int_info rfl (by omega) _ 0 [] rfl ?hb (World.ownsRow_made w #[] 0 (Nat.le_refl _) (by unfold maxLen; omega) rfl) ad n k (ints l) rfl hl2 (hc _ (later_alloc (later_refl _) _)) (ints_one l) (by omega) hn (by omega) ?_; case hb => simp)
    intro v' w' hap
    obtain ⟨A', k', hv', hrd⟩ := own_slice hap.own
    subst hv'
    have hcp := own_cap hap.own
    have hfr := own_fresh (w0 := w) hap.own
    have hL := hap.later (later_alloc (later_refl _) _) (World.ownsRow_made w #[] 0 (Nat.le_refl _) (by unfold maxLen; omega) rfl)
    rw [Nat.zero_add] at hcp hrd
    rw [List.nil_append] at hrd
    simp only [Nat.zero_add]
    go_wp2_with fail
    go_ret
    exact ⟨_, _, _, rfl, hL, hrd, hcp, hfr⟩

theorem same_calls {A B : Option Addr} {n k m j : Nat} {a b : List Int} (w : World) (ha : RI w A n a) (hb : RI w B m b) (hn : n ≤ 1000000) (hm : m ≤ 1000000) :
    Calls Try.prog 38 #[.slice A n k, .slice B m j] w fun e w' => e = .returned (.bool (decide (a = b))) ∧ Later w w' := by
  have hna := ha.len
  have hmb := hb.len
  by_cases hne : n = m
  · subst hne
    have hb1 : ((n : Int) != (n : Int)) = false := by simp
    have Hna := hide hna
    have Hmb := hide hmb
    clear hna hmb
    go_enter Try.func38, Try.ntmps38
    go_wp2_with fail
    go_loopw [5] (fun i wr => ∃ t : Nat, t ≤ n ∧ i = .int .i64 t ∧ Later w wr ∧ Hid (a.take t = b.take t)) (fun i _ => n - (intOf i).toNat)
    case atStart => exact ⟨0, Nat.zero_le _, rfl, later_refl _, rfl⟩
    case round =>
      obtain ⟨t, ht, rfl, hL, Heq⟩ := hrel
      by_cases hlt : t < n
      · obtain ⟨b1, o1, x, rfl, _, hx, hx0⟩ := ha.get hlt
        obtain ⟨b2, o2, y, rfl, _, hy, hy0⟩ := hb.get hlt
        have hi1 : (t : Int) < n := by omega
        have hx0' := fun W (hW : Later wr W) => hx0 W (Later.trans hL hW)
        have hy0' := fun W (hW : Later wr W) => hy0 W (Later.trans hL hW)
        have Hx := hide hx
        have Hy := hide hy
        clear hx hy hx0 hy0
        by_cases hxy : x = y
        · have hb2 : (x != y) = false := by simpa using hxy
          have Hxy := hide hxy
          clear hxy
          go_wp2_with fail
          refine wp_region_ext (w0 := wr) (by kernel_rfl) (by kernel_rfl) (later_refl _) ?_; (repeat (first | go_big_quiet_step (((fail))) | quiet_step (((fail))))); refine wpQuiet_nil ?_; rintro w3 ⟨⟨_, hL3⟩, rfl⟩; (try dsimp only)
          go_wp2_with fail
          go_roundw
          case rel =>
            refine ⟨t + 1, hlt, by go_num, Later.trans hL hL3, ?_⟩
            show a.take (t + 1) = b.take (t + 1)
            rw [List.take_add_one, List.take_add_one, Heq.out, Hx.out, Hy.out, Hxy.out]
          case measure => simp [intOf]; omega
        · have hb2 : (x != y) = true := by simpa using hxy
          have hno : decide (a = b) = false := by
            rw [decide_eq_false_iff_not]
            intro e
            have := Hx.out
            rw [e, Hy.out] at this
            injection this with this
            exact hxy this.symm
          have Hno := hide hno
          clear hxy hno
          go_wp2_with fail
          refine wp_region_ext (w0 := wr) (by kernel_rfl) (by kernel_rfl) (later_refl _) ?_; (repeat (first | go_big_quiet_step (((fail))) | quiet_step (((fail))))); refine wpQuiet_nil ?_; rintro w3 ⟨⟨_, hL3⟩, rfl⟩; (try dsimp only)
          go_wp2_with fail
          go_ret
          exact ⟨by rw [Hno.out]; rfl, Later.trans hL hL3⟩
      · have hyes : decide (a = b) = true := by
          rw [decide_eq_true_eq]
          have h1 : a.take t = a := List.take_of_length_le (by have := Hna.out; omega)
          have h2 : b.take t = b := List.take_of_length_le (by have := Hmb.out; omega)
          rw [← h1, ← h2]; exact Heq.out
        have Hyes := hide hyes
        clear hyes
        go_wp2_with fail
        go_ret
        exact ⟨by rw [Hyes.out]; rfl, hL⟩
  · have hb1 : ((n : Int) != (m : Int)) = true := by simp; omega
    have hno : decide (a = b) = false := by
      rw [decide_eq_false_iff_not]
      intro e
      rw [e] at hna
      omega
    have Hno := hide hno
    clear hno hne hna hmb
    go_enter Try.func38, Try.ntmps38
    go_wp2_with fail
    go_ret
    exact ⟨by rw [Hno.out]; rfl, later_refl _⟩

theorem between_calls (a b : Int) (w : World) : Calls Try.prog 81 #[.int .i64 a, .int .i64 b] w fun e w' => e = .returned (.agg #[.int .i64 a, .int .i64 b]) ∧ Later w w' := by
  go_enter Try.func81, Try.ntmps81
  go_wp2_with fail
  refine bodyPost_ret (v := .agg #[.int .i64 a, .int .i64 b]) ?_ rfl ⟨rfl, ?_⟩
  · simp [results, Try.results81, go_sem]
  · (((repeat (first | exact (later_refl _) | refine later_drew ?_ | refine later_alloc ?_ _ | refine later_set ?_ _ (Nat.le_add_right _ _) _ | refine later_set ?_ _ (Nat.le_refl _) _)); done))

theorem fault_calls {A1 A2 A3 : Option Addr} {n1 k1 n2 k2 n3 k3 : Nat} {c : Clo} (w : World) (hc : CV w c A1 n1 A2 n2 A3 n3) (hcl : i64 c.closets) (hn1 : n1 ≤ 1000) (hn2 : n2 ≤ 1000) (hn3 : n3 ≤ 1000) :
    Calls Try.prog 36 #[(.agg #[.int .i64 c.closets, .int .i64 c.close, .slice A1 n1 k1, .slice A2 n2 k2, .slice A3 n3 k3])] w fun e w' => e = .returned (.int .i64 (fault c)) ∧ Later w w' := by
  obtain ⟨w0, hw0⟩ : ∃ W, W = (w.alloc (.cells #[.int .i64 c.closets, .int .i64 c.close, .slice A1 n1 k1, .slice A2 n2 k2, .slice A3 n3 k3] 26)) := ⟨_, rfl⟩; have hbox : ∀ W, Later w0 W → ∀ i, W.cell? ⟨w.heap.size, i, none⟩ = #[.int .i64 c.closets, .int .i64 c.close, .slice A1 n1 k1, .slice A2 n2 k2, .slice A3 n3 k3][i]? := (by rw [hw0]; exact box_cells w #[.int .i64 c.closets, .int .i64 c.close, .slice A1 n1 k1, .slice A2 n2 k2, .slice A3 n3 k3] 26); have hL0 : Later w w0 := (by rw [hw0]; simp); have hc0 := hc.later hL0; have Hw0 := hide hw0; clear hw0
  go_enter Try.func36, Try.ntmps36
  go_wp2_with fail
  rw [← Hw0.out]; clear Hw0
  refine (Fault_calls _ hc0 hcl hn1 hn2 hn3).mono ?_
  rintro e w1 ⟨rfl, hL1⟩
  have hfr := fault_cases c
  have hf0 : 0 ≤ fault c := by omega
  have hf3 : fault c ≤ 3 := by omega
  clear hfr
  go_wp2_with fail
  go_ret
  exact ⟨rfl, Later.trans hL0 hL1⟩

theorem isPlaceB_ref {c : Clo} (p : List Int) : isPlaceB c p = isPlaceB c p := rfl
/-- Thin, in plain words -/
def thinB (c : Clo) : Bool := decide (c.horses.length ≤ 6) && decide (c.hung.length ≤ 8) && decide (c.looks.length ≤ 7) && (decide (fault c ≠ 0) || decide (many c ≤ 60))
theorem Thin_calls {A1 A2 A3 : Option Addr} {n1 k1 n2 k2 n3 k3 : Nat} {c : Clo} (w : World) (hc : CV w c A1 n1 A2 n2 A3 n3) (hcl : i64 c.closets) (b1 : n1 ≤ 9223372036854775807) (b2 : n2 ≤ 9223372036854775807) (b3 : n3 ≤ 9223372036854775807) :
    Calls Try.prog 23 #[(.agg #[.int .i64 c.closets, .int .i64 c.close, .slice A1 n1 k1, .slice A2 n2 k2, .slice A3 n3 k3])] w fun e w' => e = .returned (.bool (thinB c)) ∧ Later w w' := by
  have h1 := hc.hs.len
  have h2 := hc.hu.len
  have h3 := hc.lk.len
  obtain ⟨w0, hw0⟩ : ∃ W, W = (w.alloc (.cells #[.int .i64 c.closets, .int .i64 c.close, .slice A1 n1 k1, .slice A2 n2 k2, .slice A3 n3 k3] 26)) := ⟨_, rfl⟩; have hbox : ∀ W, Later w0 W → ∀ i, W.cell? ⟨w.heap.size, i, none⟩ = #[.int .i64 c.closets, .int .i64 c.close, .slice A1 n1 k1, .slice A2 n2 k2, .slice A3 n3 k3][i]? := (by rw [hw0]; exact box_cells w #[.int .i64 c.closets, .int .i64 c.close, .slice A1 n1 k1, .slice A2 n2 k2, .slice A3 n3 k3] 26); have hL0 : Later w w0 := (by rw [hw0]; simp); have hc0 := hc.later hL0; have Hw0 := hide hw0; clear hw0
  by_cases hb : n1 ≤ 6 ∧ n2 ≤ 8 ∧ n3 ≤ 7
  · obtain ⟨l1, l2, l3⟩ := hb
    have t1 : ¬ (6 : Int) < (n1 : Int) := by omega
    have t2 : ¬ (8 : Int) < (n2 : Int) := by omega
    have t3 : ¬ (7 : Int) < (n3 : Int) := by omega
    obtain ⟨q, hq⟩ : ∃ q, fault c = q := ⟨_, rfl⟩
    have hfc := Fault_calls (k1 := k1) (k2 := k2) (k3 := k3) w0 hc0 hcl (by omega) (by omega) (by omega)
    rw [hq] at hfc
    by_cases hq0 : q = 0
    · subst hq0
      have ok := okC_of_fault hq
      have okh : ∀ h ∈ c.horses, 1 ≤ h.lo ∧ h.lo ≤ h.hi ∧ h.hi ≤ 60 := fun h hh => by have := ok.horse h hh; omega
      have Htb : Hid (thinB c = decide (many c ≤ 60)) := by
        show _ = _
        unfold thinB
        rw [hq]
        simp
        omega
      have hmr := many_range okh
      generalize hm : many c = m at *
      have Hm := hide hm
      have Hq := hide hq
      have Hfc := hide hfc
      clear hm hq hfc h1 h2 h3
      go_enter Try.func23, Try.ntmps23
      go_wp2_with fail
      rw [← Hw0.out]; clear Hw0
      refine Hfc.out.mono ?_
      rintro e w1 ⟨rfl, hL1⟩
      go_wp2_with fail
      refine (Many_calls _ (hc0.later hL1) okh (by omega)).mono ?_
      rw [Hm.out]
      rintro e w2 ⟨rfl, hL2⟩
      go_wp2_with fail
      go_ret
      exact ⟨by rw [Htb.out]; rfl, Later.trans hL0 (Later.trans hL1 hL2)⟩
    · have Htb : Hid (thinB c = true) := by
        show _ = _
        unfold thinB
        rw [hq]
        simp
        omega
      have hqb : (q != 0) = true := by simpa using hq0
      have Hfc := hide hfc
      clear hfc hq hq0 h1 h2 h3
      go_enter Try.func23, Try.ntmps23
      go_wp2_with fail
      rw [← Hw0.out]; clear Hw0
      refine Hfc.out.mono ?_
      rintro e w1 ⟨rfl, hL1⟩
      go_wp2_with fail
      go_ret
      exact ⟨by rw [Htb.out]; rfl, Later.trans hL0 hL1⟩
  · have Htb : Hid (thinB c = false) := by
      show _ = _
      unfold thinB
      simp
      omega
    clear h1 h2 h3
    by_cases l1 : n1 ≤ 6
    · have t1 : ¬ (6 : Int) < (n1 : Int) := by omega
      by_cases l2 : n2 ≤ 8
      · have t2 : ¬ (8 : Int) < (n2 : Int) := by omega
        have t3 : (7 : Int) < (n3 : Int) := by omega
        clear hb
        go_enter Try.func23, Try.ntmps23
        go_wp2_with fail
        go_ret
        exact ⟨by rw [Htb.out]; rfl, by rw [← Hw0.out]; exact hL0⟩
      · have t2 : (8 : Int) < (n2 : Int) := by omega
        clear hb
        go_enter Try.func23, Try.ntmps23
        go_wp2_with fail
        go_ret
        exact ⟨by rw [Htb.out]; rfl, by rw [← Hw0.out]; exact hL0⟩
    · have t1 : (6 : Int) < (n1 : Int) := by omega
      clear hb
      go_enter Try.func23, Try.ntmps23
      go_wp2_with fail
      go_ret
      exact ⟨by rw [Htb.out]; rfl, by rw [← Hw0.out]; exact hL0⟩
end Go.Proofs.Ytjilckjhdlabaaa

/- placed, sure: walks. -/
namespace Go.Proofs.Ytjilckjhdlabaaa
open Go Go.RowKit

theorem RRI.nil {w : World} {A : Option Addr} : RRI w A 0 [] := ⟨[], ⟨rfl, fun h => absurd h (by omega)⟩, rfl, fun i l h => by simp at h⟩
theorem truths_nil {c : Clo} (hf : fault c = 0) : truths c = [] ↔ truthsP c = [] := by
  have := (truthsP_perm hf).length_eq
  constructor
  · intro h; rw [h] at this; exact List.eq_nil_of_length_eq_zero this
  · intro h; rw [h] at this; exact List.eq_nil_of_length_eq_zero this.symm
def PlacedPost (c : Clo) (fine : Bool) (w : World) (e : Ending) (w' : World) : Prop :=
  ∃ A n k, e = .returned (.tuple #[.slice A n k, .int .i64 (askedErr c fine)]) ∧ Later w w' ∧ (askedErr c fine = 0 → RRI w' A n (truths c))
set_option maxRecDepth 100000 in
theorem placed_calls {A1 A2 A3 : Option Addr} {n1 k1 n2 k2 n3 k3 : Nat} {c : Clo} {fine : Bool} (w : World) (hc : CV w c A1 n1 A2 n2 A3 n3) (hcl : i64 c.closets) (hn1 : n1 ≤ 1000) (hn2 : n2 ≤ 1000) (hn3 : n3 ≤ 1000) :
    Calls Try.prog 28 #[(.agg #[.int .i64 c.closets, .int .i64 c.close, .slice A1 n1 k1, .slice A2 n2 k2, .slice A3 n3 k3]), .bool fine] w (PlacedPost c fine w) := by
  obtain ⟨w0, hw0⟩ : ∃ W, W = (w.alloc (.cells #[.int .i64 c.closets, .int .i64 c.close, .slice A1 n1 k1, .slice A2 n2 k2, .slice A3 n3 k3] 26)) := ⟨_, rfl⟩; have hbox : ∀ W, Later w0 W → ∀ i, W.cell? ⟨w.heap.size, i, none⟩ = #[.int .i64 c.closets, .int .i64 c.close, .slice A1 n1 k1, .slice A2 n2 k2, .slice A3 n3 k3][i]? := (by rw [hw0]; exact box_cells w #[.int .i64 c.closets, .int .i64 c.close, .slice A1 n1 k1, .slice A2 n2 k2, .slice A3 n3 k3] 26); have hL0 : Later w w0 := (by rw [hw0]; simp); have hc0 := hc.later hL0; have Hw0 := hide hw0; clear hw0
  obtain ⟨q, hq⟩ : ∃ q, fault c = q := ⟨_, rfl⟩
  have hfc := fault_calls (k1 := k1) (k2 := k2) (k3 := k3) w0 hc0 hcl hn1 hn2 hn3
  rw [hq] at hfc
  have Hfc := hide hfc
  clear hfc
  by_cases hq0 : q = 0
  · subst hq0
    have ok := okC_of_fault hq
    have hmr := (fault_zero hq).2.2.2.2.2.2
    cases fine with
    | false =>
      have he : askedErr c false = 2 := by unfold askedErr; rw [if_neg (by simp [hq]), if_pos rfl]
      have He := hide he
      clear he hq
      go_enter Try.func28, Try.ntmps28
      go_wp2_with fail
      rw [← Hw0.out]; clear Hw0
      refine Hfc.out.mono ?_
      rintro e w1 ⟨rfl, hL1⟩
      go_wp2_with fail
      refine bodyPost_ret (v := .tuple #[.slice none 0 0, .int .i64 2]) ?_ rfl ⟨none, 0, 0, by rw [He.out], Later.trans hL0 hL1, fun h => by rw [He.out] at h; exact absurd h (by decide)⟩
      simp [results, Try.results28, go_sem]
    | true =>
      have Hq := hide hq
      clear hq
      go_enter Try.func28, Try.ntmps28
      go_wp2_with fail
      rw [← Hw0.out]; clear Hw0
      refine Hfc.out.mono ?_
      rintro e w1 ⟨rfl, hL1⟩
      go_wp2_with fail
      refine (Truths_calls _ (hc0.later hL1) ok hmr).mono ?_
      rintro e w2 ⟨A, m, k, rfl, hL2, hrr⟩
      have hL2' := Later.trans hL0 (Later.trans hL1 hL2)
      have hml := hrr.len
      by_cases hm0 : m = 0
      · have ht : truths c = [] := List.eq_nil_of_length_eq_zero (by omega)
        have he : askedErr c true = 11 := by unfold askedErr; rw [if_neg (by simp [Hq.out]), if_neg (by simp), if_pos ((truths_nil Hq.out).1 ht)]
        have He := hide he
        subst hm0
        clear he ht hml
        go_wp2_with fail
        refine bodyPost_ret (v := .tuple #[.slice none 0 0, .int .i64 11]) ?_ rfl ⟨none, 0, 0, by rw [He.out], hL2', fun h => by rw [He.out] at h; exact absurd h (by decide)⟩
        simp [results, Try.results28, go_sem]
      · have hm1 : ((m : Int) == 0) = false := by simp; omega
        have he : askedErr c true = 0 := by
          unfold askedErr
          rw [if_neg (by simp [Hq.out]), if_neg (by simp), if_neg]
          intro h
          rw [(truths_nil Hq.out).2 h] at hml
          exact hm0 hml
        have He := hide he
        clear he hml hm0
        go_wp2_with fail
        refine bodyPost_ret (v := .tuple #[.slice A m k, .int .i64 0]) ?_ rfl ⟨A, m, k, by rw [He.out], hL2', fun _ => hrr⟩
        simp [results, Try.results28, go_sem]
  · have he : askedErr c fine = q := by unfold askedErr; rw [if_pos (by omega), hq]
    have hqb : (q != 0) = true := by simpa using hq0
    have He := hide he
    have Hq0 := hide hq0
    clear he hq hq0
    go_enter Try.func28, Try.ntmps28
    go_wp2_with fail
    rw [← Hw0.out]; clear Hw0
    refine Hfc.out.mono ?_
    rintro e w1 ⟨rfl, hL1⟩
    go_wp2_with fail
    refine bodyPost_ret (v := .tuple #[.slice none 0 0, .int .i64 q]) ?_ rfl ⟨none, 0, 0, by rw [He.out], Later.trans hL0 hL1, fun h => by rw [He.out] at h; exact absurd h Hq0.out⟩
    simp [results, Try.results28, go_sem]
theorem sure_calls {A1 A2 A3 : Option Addr} {n1 k1 n2 k2 n3 k3 : Nat} {c : Clo} (w : World) (hc : CV w c A1 n1 A2 n2 A3 n3) (hcl : i64 c.closets) (hn1 : n1 ≤ 1000) (hn2 : n2 ≤ 1000) (hn3 : n3 ≤ 1000) :
    Calls Try.prog 32 #[(.agg #[.int .i64 c.closets, .int .i64 c.close, .slice A1 n1 k1, .slice A2 n2 k2, .slice A3 n3 k3])] w (PlacedPost c true w) := by
  obtain ⟨w0, hw0⟩ : ∃ W, W = (w.alloc (.cells #[.int .i64 c.closets, .int .i64 c.close, .slice A1 n1 k1, .slice A2 n2 k2, .slice A3 n3 k3] 26)) := ⟨_, rfl⟩; have hbox : ∀ W, Later w0 W → ∀ i, W.cell? ⟨w.heap.size, i, none⟩ = #[.int .i64 c.closets, .int .i64 c.close, .slice A1 n1 k1, .slice A2 n2 k2, .slice A3 n3 k3][i]? := (by rw [hw0]; exact box_cells w #[.int .i64 c.closets, .int .i64 c.close, .slice A1 n1 k1, .slice A2 n2 k2, .slice A3 n3 k3] 26); have hL0 : Later w w0 := (by rw [hw0]; simp); have hc0 := hc.later hL0; have Hw0 := hide hw0; clear hw0
  have hpc := placed_calls (k1 := k1) (k2 := k2) (k3 := k3) (fine := true) w0 hc0 hcl hn1 hn2 hn3
  go_enter Try.func32, Try.ntmps32
  go_wp2_with fail
  rw [← Hw0.out]; clear Hw0
  refine hpc.mono ?_
  rintro e w1 ⟨A, n, k, rfl, hL1, hr⟩
  obtain ⟨q, hq⟩ : ∃ q, askedErr c true = q := ⟨_, rfl⟩
  rw [hq] at hr ⊢
  have Hq := hide hq
  clear hq
  go_wp2_with fail
  refine bodyPost_ret (v := .tuple #[.slice A n k, .int .i64 q]) ?_ rfl ⟨A, n, k, by rw [Hq.out], Later.trans hL0 hL1, fun h => hr (by rw [← Hq.out]; exact h)⟩
  simp [results, Try.results32, go_sem]
end Go.Proofs.Ytjilckjhdlabaaa

/- The document's examples: walks. -/
namespace Go.Proofs.Ytjilckjhdlabaaa
open Go Go.RowKit
attribute [local go_sem] later_alloc2 later_alloc3 later_alloc4

def twoLooks : List Look := [⟨1, 35, true⟩, ⟨1, 34, false⟩, ⟨1, 36, false⟩]
def twoC (looks : Nat) (grace : Int) : Clo := ⟨3, 60, [⟨20, 22, 3, 5⟩, ⟨30, 33, 4, grace⟩], [0, 1], twoLooks.take looks⟩
def TwoPost (looks : Nat) (grace : Int) (w : World) (e : Ending) (w' : World) : Prop :=
  ∃ A1 k1 A2 k2 A3 k3, e = .returned (.agg #[.int .i64 3, .int .i64 60, .slice A1 2 k1, .slice A2 2 k2, .slice A3 looks k3]) ∧ Later w w' ∧ CV w' (twoC looks grace) A1 2 A2 2 A3 looks ∧ 2 ≤ k2 ∧ looks ≤ k3
theorem build_closet (a b : Int) (A1 A2 A3 : Option Addr) (n1 k1 n2 k2 n3 k3 : Nat) (W : World) : (Instr.build 35 #[(0, .int .i64 a), (1, .int .i64 b), (2, .slice A1 n1 k1), (3, .slice A2 n2 k2), (4, .slice A3 n3 k3)]).run Try.prog W = .ok (.agg #[.int .i64 a, .int .i64 b, .slice A1 n1 k1, .slice A2 n2 k2, .slice A3 n3 k3]) W :=
  run_build W _ _ _ (by kernel_rfl)
attribute [local go_sem] build_closet
theorem store_row_step {P : Program} {ops : Array Oper} {o : Oper} {a : Act} {w : World} {K : Act → World → Prop} {Q : Exit → Act → World → Prop} {E : Prop} (hgd : o.guard = none) (ty : TypeId) (x y : Operand) (ho : o.op = .store ty x y)
    (g : Nat) (cells : Array Value) (hx : a.eval x = .pointer (some ⟨g, 0, none⟩)) (hy : a.eval y = .agg cells)
    (t : TypeId) (old : Array Value) (hg : w.heap[g]? = some (.cells old t (0, 0))) (hi : (P.info? ty).map (·.size) = some cells.size)
    (hold : old.size = cells.size) (h1 : cells.all (·.oneCell') = true)
    (h : K (a.put o.dst undef) (w.setRow g cells)) : if Region.wanted o (yielded ops a.tmps) = true then o.wp P a w K Q else E := by
  rw [if_pos (by simp [Region.wanted, hgd])]
  exact wp_store_row ty x y ho g cells hx hy t old hg hi hold h1 h
theorem later_setRow {w W : World} (h : Later w W) {g : Nat} (hg : w.heap.size ≤ g) (cs : Array Value) : Later w (W.setRow g cs) :=
  ⟨by simpa using h.os, by simpa using h.tape, by simpa using h.output, by simpa using h.size, fun k hk => (setRow_other W g k cs (by omega)).trans (h.block k hk)⟩
theorem Blk.row {w : World} {g : Nat} {t : TypeId} {old : Array Value} (h : Blk w g t old) (cs : Array Value) : Blk (w.setRow g cs) g t cs := setRow_heap w g old cs t (0, 0) h
theorem Blk.otherRow {w : World} {g k : Nat} {t : TypeId} {cs : Array Value} (h : Blk w k t cs) (hk : k ≠ g) (cs' : Array Value) : Blk (w.setRow g cs') k t cs := (setRow_other w g k cs' hk).trans h
theorem Blk.reads {w : World} {g : Nat} {t : TypeId} {cs : Array Value} (h : Blk w g t cs) {size n : Nat} {xs : List Value} (hl : xs.length = n * size) (hx : ∀ (j : Nat) (u : Value), xs[j]? = some u → cs[j]? = some u) : Reads w w.heap.size size (some ⟨g, 0, none⟩) n xs :=
  ⟨hl, fun _ => ⟨_, rfl, h.lt, fun j u hu => by rw [add_lit, Nat.zero_add, h.cell]; exact hx j u hu⟩⟩
theorem pre_get {α : Type} {xs ys : List α} {j : Nat} {u : α} (h : xs[j]? = some u) : (xs ++ ys)[j]? = some u := by
  have hj := (List.getElem?_eq_some_iff.1 h).1
  rw [List.getElem?_append_left hj]
  exact h
theorem Blk.newAt {w : World} {g : Nat} (h : g = w.heap.size) (t : TypeId) (cs : Array Value) : Blk (w.alloc (.cells cs t)) g t cs := h ▸ Blk.new w t cs
theorem Blk.ne {w : World} {g g' : Nat} {t t' : TypeId} {cs cs' : Array Value} (h : Blk w g t cs) (h' : Blk w g' t' cs') (ht : t ≠ t') : g ≠ g' := fun e => by
  subst e
  unfold Blk at h h'
  rw [h] at h'
  injection h' with h'
  injection h' with _ h'
  exact ht h'
theorem two_end {w W : World} {g g1 g2 looks : Nat} {grace : Int} {a : Act} {old : Array Value} (hl : looks ≤ 3) (hL : Later w W) (hg : g = w.heap.size) (kg : Blk W g 35 old)
    (kh : Blk W g1 119 #[.int .i64 20, .int .i64 22, .int .i64 3, .int .i64 5, .int .i64 30, .int .i64 33, .int .i64 4, .int .i64 grace]) (ki : Blk W g2 3 #[.int .i64 0, .int .i64 1])
    (kl : Blk W (g + 1) 120 (looksV twoLooks).toArray) (hp : a.tmps.getD 4 undef = .pointer (some ⟨g, 0, none⟩)) (hd : a.defers = []) :
    bodyPost Try.prog Try.f78 (TwoPost looks grace w) .ret a (W.setRow g #[.int .i64 3, .int .i64 60, .slice (some ⟨g1, 0, none⟩) 2 2, .slice (some ⟨g2, 0, none⟩) 2 2, .slice (some ⟨g + 1, 0, none⟩) looks 3]) := by
  have hr := results_cell_row (P := Try.prog) (fn := Try.f78) (p := 4) (ty := 35) (by kernel_rfl) a.tmps _ g _ _ _ _ hp (kg.row #[.int .i64 3, .int .i64 60, .slice (some ⟨g1, 0, none⟩) 2 2, .slice (some ⟨g2, 0, none⟩) 2 2, .slice (some ⟨g + 1, 0, none⟩) looks 3]) Try.underlying35 (by kernel_rfl) (by kernel_rfl)
  have hL' := later_setRow hL (g := g) (by omega) #[.int .i64 3, .int .i64 60, .slice (some ⟨g1, 0, none⟩) 2 2, .slice (some ⟨g2, 0, none⟩) 2 2, .slice (some ⟨g + 1, 0, none⟩) looks 3]
  refine bodyPost_ret hr hd ⟨_, 2, _, 2, _, 3, rfl, hL', ⟨?_, ?_, ?_⟩, Nat.le_refl _, hl⟩
  · exact (kh.otherRow (kh.ne kg (by decide)) _).reads (xs := horsesV (twoC looks grace).horses) rfl fun j u hu => by simpa [horsesV, twoC, Horse.cells] using hu
  · exact (ki.otherRow (ki.ne kg (by decide)) _).reads (xs := ints [0, 1]) rfl fun j u hu => by simpa [ints] using hu
  · refine (kl.otherRow (kl.ne kg (by decide)) _).reads (xs := looksV (twoLooks.take looks)) ?_ fun j u hu => ?_
    · match looks, hl with
      | 0, _ => rfl
      | 1, _ => rfl
      | 2, _ => rfl
      | 3, _ => rfl
    · rw [List.getElem?_toArray]
      match looks, hl, hu with
      | 0, _, hu => simp [looksV] at hu
      | 1, _, hu => exact pre_get (xs := looksV (twoLooks.take 1)) (ys := looksV (twoLooks.drop 1)) hu
      | 2, _, hu => exact pre_get (xs := looksV (twoLooks.take 2)) (ys := looksV (twoLooks.drop 2)) hu
      | 3, _, hu => exact hu
set_option maxRecDepth 100000 in
set_option maxHeartbeats 1000000 in
theorem two_calls (looks : Nat) (grace : Int) (w : World) (hl : looks ≤ 3) : Calls Try.prog 78 #[.int .i64 looks, .int .i64 grace] w (TwoPost looks grace w) := by
  have hl3 : (looks : Int) ≤ 3 := by omega
  go_enter Try.func78, Try.ntmps78
  go_wp2_with fail
  generalize hW1 : ((w.alloc _).alloc _) = W1
  have hL1 : Later w W1 := by rw [← hW1]; exact later_alloc2 (later_refl _) _ _
  have hs1 : W1.heap.size = w.heap.size + 1 + 1 := by rw [← hW1]; simp
  have kr : Blk W1 w.heap.size 35 #[.int .i64 0, .int .i64 0, .slice none 0 0, .slice none 0 0, .slice none 0 0] := by rw [← hW1]; exact (Blk.new _ _ _).alloc _
  have kl : Blk W1 (w.heap.size + 1) 120 (looksV twoLooks).toArray := by
    rw [← hW1]
    have := Blk.new (w.alloc (.cells #[.int .i64 0, .int .i64 0, .slice none 0 0, .slice none 0 0, .slice none 0 0] 35)) 120 (looksV twoLooks).toArray
    rw [World.size_alloc] at this; exact this
  clear hW1
  have Hkr := hide kr
  have Hkl := hide kl
  obtain ⟨g, hg⟩ : ∃ g, g = w.heap.size := ⟨_, rfl⟩
  rw [← hg] at kr kl hs1
  have hR : ∀ X, Later W1 X → X.cell? ⟨g, 0, none⟩ = some (.int .i64 0) ∧ X.cell? ⟨g, 1, none⟩ = some (.int .i64 0) ∧ X.cell? ⟨g, 2, none⟩ = some (.slice none 0 0) ∧ X.cell? ⟨g, 3, none⟩ = some (.slice none 0 0) ∧ X.cell? ⟨g, 4, none⟩ = some (.slice none 0 0) ∧
      X.frozen? ⟨g, 0, none⟩ = false ∧ X.frozen? ⟨g, 1, none⟩ = false ∧ X.frozen? ⟨g, 2, none⟩ = false ∧ X.frozen? ⟨g, 3, none⟩ = false ∧ X.frozen? ⟨g, 4, none⟩ = false := fun X hX =>
    ⟨kr.cells_later X hX 0, kr.cells_later X hX 1, kr.cells_later X hX 2, kr.cells_later X hX 3, kr.cells_later X hX 4, kr.frozen_later X hX 0, kr.frozen_later X hX 1, kr.frozen_later X hX 2, kr.frozen_later X hX 3, kr.frozen_later X hX 4⟩
  have HR := hide hR
  have Hs1 := hide hs1
  have Hkr := hide kr
  have Hkl := hide kl
  clear kr kl hs1 hR
  simp only [← hg]
  have Hg := hide hg
  clear hg
  have hL11 : Later W1 W1.drew := later_drew (later_refl _)
  have Hg0 : Later W1 W1.drew := hL11
  refine wp_region_held_drew (S := fun _ => True) (by kernel_rfl) trivial (fun _ => ?_)
  have tt : True := trivial
  refine wpAnyH_take (i := 3) (v := ?_) rfl (by kernel_rfl) (by kernel_rfl) (by kernel_rfl) (by intro _ _ _ h; first | exact h | exact absurd h.1 (by simp)) (Or.inl ⟨by rfl, ?_⟩) tt ?_; rotate_left; (focus (intro X hSX; (try dsimp only at hSX); go_simp; (try with_reducible rfl))); (try simp only [Act.put, List.setIfInBounds_toArray, List.set_cons_zero, List.set_cons_succ])
  refine wpAnyH_take (i := 7) (v := ?_) rfl (by kernel_rfl) (by kernel_rfl) (by kernel_rfl) (by intro _ _ _ h; first | exact h | exact absurd h.1 (by simp)) (Or.inl ⟨by rfl, ?_⟩) tt ?_; rotate_left; (focus (intro X hSX; (try dsimp only at hSX); go_simp; (try with_reducible rfl))); (try simp only [Act.put, List.setIfInBounds_toArray, List.set_cons_zero, List.set_cons_succ])
  refine wpAnyH_take (i := 8) (v := ?_) rfl (by kernel_rfl) (by kernel_rfl) (by kernel_rfl) (by intro _ _ _ h; first | exact h | exact absurd h.1 (by simp)) (Or.inl ⟨by rfl, ?_⟩) tt ?_; rotate_left; (focus (intro X hSX; (try dsimp only at hSX); go_simp; (try with_reducible rfl))); (try simp only [Act.put, List.setIfInBounds_toArray, List.set_cons_zero, List.set_cons_succ])
  refine wpAnyH_take (i := 9) (v := ?_) rfl (by kernel_rfl) (by kernel_rfl) (by kernel_rfl) (by intro _ _ _ h; first | exact h | exact absurd h.1 (by simp)) (Or.inl ⟨by rfl, ?_⟩) tt ?_; rotate_left; (focus (intro X hSX; (try dsimp only at hSX); go_simp; (try with_reducible rfl))); (try simp only [Act.put, List.setIfInBounds_toArray, List.set_cons_zero, List.set_cons_succ])
  refine wpAnyH_ready (rs := [0, 6]) (by kernel_rfl) (by simp) ?_
  refine AllReadyH.cons rfl (fun K hK => ?_) (AllReadyH.cons rfl (fun K hK => ?_) AllReadyH.nil)
  · go_simp
    refine (between_calls 20 22 _).mono ?_
    rintro e w2 ⟨rfl, hL2⟩
    refine hK.out _ _ trivial (fun _ => ?_)
    clear hK K; (try simp only [Act.put, List.setIfInBounds_toArray, List.set_cons_zero, List.set_cons_succ])
    refine wpAnyH_take (i := 1) (v := ?_) rfl (by kernel_rfl) (by kernel_rfl) (by kernel_rfl) (by intro _ _ _ h; first | exact h | exact absurd h.1 (by simp)) (Or.inl ⟨by rfl, ?_⟩) tt ?_; rotate_left; (focus (intro X hSX; (try dsimp only at hSX); go_simp; (try with_reducible rfl))); (try simp only [Act.put, List.setIfInBounds_toArray, List.set_cons_zero, List.set_cons_succ])
    refine wpAnyH_ready (rs := [2, 6]) (by kernel_rfl) (by simp) ?_
    refine AllReadyH.cons rfl (fun K hK => ?_) (AllReadyH.cons rfl (fun K hK => ?_) AllReadyH.nil)
    · go_simp
      refine (between_calls 30 33 _).mono ?_
      rintro e w3 ⟨rfl, hL3⟩
      refine hK.out _ _ trivial (fun _ => ?_)
      clear hK K; (try simp only [Act.put, List.setIfInBounds_toArray, List.set_cons_zero, List.set_cons_succ])
      refine wpAnyH_take (i := 4) (v := ?_) rfl (by kernel_rfl) (by kernel_rfl) (by kernel_rfl) (by intro _ _ _ h; first | exact h | exact absurd h.1 (by simp)) (Or.inl ⟨by rfl, ?_⟩) tt ?_; rotate_left; (focus (intro X hSX; (try dsimp only at hSX); go_simp; (try with_reducible rfl))); (try simp only [Act.put, List.setIfInBounds_toArray, List.set_cons_zero, List.set_cons_succ])
      refine wpAnyH_ready (rs := [5, 6]) (by kernel_rfl) (by simp) ?_
      refine AllReadyH.cons rfl (fun K hK => ?_) (AllReadyH.cons rfl (fun K hK => ?_) AllReadyH.nil)
      · go_simp
        refine hK.out _ _ trivial (fun _ => ?_)
        clear hK K; (try simp only [Act.put, List.setIfInBounds_toArray, List.set_cons_zero, List.set_cons_succ])
        refine wpAnyH_ready (rs := [6]) (by kernel_rfl) (by simp) ?_; refine AllReadyH.cons rfl (fun K hK => ?_) AllReadyH.nil
        go_simp
        refine hK.out _ _ trivial (fun _ => ?_)
        clear hK K; (try simp only [Act.put, List.setIfInBounds_toArray, List.set_cons_zero, List.set_cons_succ])
        refine wpAnyH_ready (rs := [10]) (by kernel_rfl) (by simp) ?_; refine AllReadyH.cons rfl (fun K hK => ?_) AllReadyH.nil
        go_simp
        refine hK.out _ _ trivial (fun _ => ?_)
        clear hK K; (try simp only [Act.put, List.setIfInBounds_toArray, List.set_cons_zero, List.set_cons_succ])
        refine wpAnyH_ready (rs := [11]) (by kernel_rfl) (by simp) ?_
        refine AllReadyH.cons (o := { dst := none, op := Op.store 35 (Operand.tmp 4) (Operand.tmp 20), type := 0, pos := "outright.go:16", after := #[{ on := 10, ground := Ground.data }, { on := 2, ground := Ground.chain }, { on := 0, ground := Ground.phase }, { on := 1, ground := Ground.phase }, { on := 2, ground := Ground.phase }, { on := 3, ground := Ground.phase }, { on := 4, ground := Ground.phase }, { on := 5, ground := Ground.phase }, { on := 6, ground := Ground.phase }, { on := 7, ground := Ground.phase }, { on := 8, ground := Ground.phase }, { on := 9, ground := Ground.phase }, { on := 10, ground := Ground.phase }], guard := none }) rfl (fun K hK => ?_) AllReadyH.nil
        refine store_row_step rfl _ _ _ rfl g _ rfl rfl 35 #[.int .i64 0, .int .i64 0, .slice none 0 0, .slice none 0 0, .slice none 0 0] (((Hkr.out.later (Later.trans hL11 (Later.trans hL2 hL3))).alloc _).alloc _) (by kernel_rfl) rfl (by simp [Value.oneCell']) ?_
        refine hK.out _ _ trivial (fun _ => ?_)
        clear hK K; (try simp only [Act.put, List.setIfInBounds_toArray, List.set_cons_zero, List.set_cons_succ])
        refine wpAnyH_done (by kernel_rfl) ?_ _
        have hLf := Later.trans hL1 (Later.trans hL11 (Later.trans hL2 hL3))
        gi_wp2_with fail
        (try simp only [Exit.inBlock, Exit.then])
        refine wp_ret ?_
        refine two_end hl ?_ Hg.out (((Hkr.out.later (Later.trans hL11 (Later.trans hL2 hL3))).alloc _).alloc _) ?_ ?_ ?_ ?_ ?_
        · simp [hLf]
        · exact (Blk.newAt rfl _ _).alloc _
        · exact Blk.newAt (by simp) _ _
        · exact ((Hkl.out.later (Later.trans hL11 (Later.trans hL2 hL3))).alloc _).alloc _
        · rfl
        · rfl
      · go_simp
        refine hK.out _ _ trivial (fun _ => ?_)
        clear hK K; (try simp only [Act.put, List.setIfInBounds_toArray, List.set_cons_zero, List.set_cons_succ])
        refine wpAnyH_ready (rs := [5]) (by kernel_rfl) (by simp) ?_; refine AllReadyH.cons rfl (fun K hK => ?_) AllReadyH.nil
        go_simp
        refine hK.out _ _ trivial (fun _ => ?_)
        clear hK K; (try simp only [Act.put, List.setIfInBounds_toArray, List.set_cons_zero, List.set_cons_succ])
        refine wpAnyH_ready (rs := [10]) (by kernel_rfl) (by simp) ?_; refine AllReadyH.cons rfl (fun K hK => ?_) AllReadyH.nil
        go_simp
        refine hK.out _ _ trivial (fun _ => ?_)
        clear hK K; (try simp only [Act.put, List.setIfInBounds_toArray, List.set_cons_zero, List.set_cons_succ])
        refine wpAnyH_ready (rs := [11]) (by kernel_rfl) (by simp) ?_
        refine AllReadyH.cons (o := { dst := none, op := Op.store 35 (Operand.tmp 4) (Operand.tmp 20), type := 0, pos := "outright.go:16", after := #[{ on := 10, ground := Ground.data }, { on := 2, ground := Ground.chain }, { on := 0, ground := Ground.phase }, { on := 1, ground := Ground.phase }, { on := 2, ground := Ground.phase }, { on := 3, ground := Ground.phase }, { on := 4, ground := Ground.phase }, { on := 5, ground := Ground.phase }, { on := 6, ground := Ground.phase }, { on := 7, ground := Ground.phase }, { on := 8, ground := Ground.phase }, { on := 9, ground := Ground.phase }, { on := 10, ground := Ground.phase }], guard := none }) rfl (fun K hK => ?_) AllReadyH.nil
        refine store_row_step rfl _ _ _ rfl g _ rfl rfl 35 #[.int .i64 0, .int .i64 0, .slice none 0 0, .slice none 0 0, .slice none 0 0] (((Hkr.out.later (Later.trans hL11 (Later.trans hL2 hL3))).alloc _).alloc _) (by kernel_rfl) rfl (by simp [Value.oneCell']) ?_
        refine hK.out _ _ trivial (fun _ => ?_)
        clear hK K; (try simp only [Act.put, List.setIfInBounds_toArray, List.set_cons_zero, List.set_cons_succ])
        refine wpAnyH_done (by kernel_rfl) ?_ _
        have hLf := Later.trans hL1 (Later.trans hL11 (Later.trans hL2 hL3))
        gi_wp2_with fail
        (try simp only [Exit.inBlock, Exit.then])
        refine wp_ret ?_
        refine two_end hl ?_ Hg.out (((Hkr.out.later (Later.trans hL11 (Later.trans hL2 hL3))).alloc _).alloc _) ?_ ?_ ?_ ?_ ?_
        · simp [hLf]
        · exact Blk.newAt (by simp) _ _
        · exact (Blk.newAt rfl _ _).alloc _
        · exact ((Hkl.out.later (Later.trans hL11 (Later.trans hL2 hL3))).alloc _).alloc _
        · rfl
        · rfl
    · go_simp
      refine hK.out _ _ trivial (fun _ => ?_)
      clear hK K; (try simp only [Act.put, List.setIfInBounds_toArray, List.set_cons_zero, List.set_cons_succ])
      refine wpAnyH_ready (rs := [2]) (by kernel_rfl) (by simp) ?_; refine AllReadyH.cons rfl (fun K hK => ?_) AllReadyH.nil
      go_simp
      refine (between_calls 30 33 _).mono ?_
      rintro e w3 ⟨rfl, hL3⟩
      refine hK.out _ _ trivial (fun _ => ?_)
      clear hK K; (try simp only [Act.put, List.setIfInBounds_toArray, List.set_cons_zero, List.set_cons_succ])
      refine wpAnyH_take (i := 4) (v := ?_) rfl (by kernel_rfl) (by kernel_rfl) (by kernel_rfl) (by intro _ _ _ h; first | exact h | exact absurd h.1 (by simp)) (Or.inl ⟨by rfl, ?_⟩) tt ?_; rotate_left; (focus (intro X hSX; (try dsimp only at hSX); go_simp; (try with_reducible rfl))); (try simp only [Act.put, List.setIfInBounds_toArray, List.set_cons_zero, List.set_cons_succ])
      refine wpAnyH_ready (rs := [5]) (by kernel_rfl) (by simp) ?_; refine AllReadyH.cons rfl (fun K hK => ?_) AllReadyH.nil
      go_simp
      refine hK.out _ _ trivial (fun _ => ?_)
      clear hK K; (try simp only [Act.put, List.setIfInBounds_toArray, List.set_cons_zero, List.set_cons_succ])
      refine wpAnyH_ready (rs := [10]) (by kernel_rfl) (by simp) ?_; refine AllReadyH.cons rfl (fun K hK => ?_) AllReadyH.nil
      go_simp
      refine hK.out _ _ trivial (fun _ => ?_)
      clear hK K; (try simp only [Act.put, List.setIfInBounds_toArray, List.set_cons_zero, List.set_cons_succ])
      refine wpAnyH_ready (rs := [11]) (by kernel_rfl) (by simp) ?_
      refine AllReadyH.cons (o := { dst := none, op := Op.store 35 (Operand.tmp 4) (Operand.tmp 20), type := 0, pos := "outright.go:16", after := #[{ on := 10, ground := Ground.data }, { on := 2, ground := Ground.chain }, { on := 0, ground := Ground.phase }, { on := 1, ground := Ground.phase }, { on := 2, ground := Ground.phase }, { on := 3, ground := Ground.phase }, { on := 4, ground := Ground.phase }, { on := 5, ground := Ground.phase }, { on := 6, ground := Ground.phase }, { on := 7, ground := Ground.phase }, { on := 8, ground := Ground.phase }, { on := 9, ground := Ground.phase }, { on := 10, ground := Ground.phase }], guard := none }) rfl (fun K hK => ?_) AllReadyH.nil
      refine store_row_step rfl _ _ _ rfl g _ rfl rfl 35 #[.int .i64 0, .int .i64 0, .slice none 0 0, .slice none 0 0, .slice none 0 0] (((Hkr.out.later (Later.trans hL11 (Later.trans hL2 (later_of_alloc hL3))))).alloc _) (by kernel_rfl) rfl (by simp [Value.oneCell']) ?_
      refine hK.out _ _ trivial (fun _ => ?_)
      clear hK K; (try simp only [Act.put, List.setIfInBounds_toArray, List.set_cons_zero, List.set_cons_succ])
      refine wpAnyH_done (by kernel_rfl) ?_ _
      have hLf := Later.trans hL1 (Later.trans hL11 (Later.trans hL2 (later_of_alloc hL3)))
      gi_wp2_with fail
      (try simp only [Exit.inBlock, Exit.then])
      refine wp_ret ?_
      refine two_end hl ?_ Hg.out (((Hkr.out.later (Later.trans hL11 (Later.trans hL2 (later_of_alloc hL3))))).alloc _) ?_ ?_ ?_ ?_ ?_
      · simp [hLf]
      · exact Blk.newAt rfl _ _
      · exact ((Blk.newAt rfl _ _).later hL3).alloc _
      · exact ((Hkl.out.later (Later.trans hL11 (Later.trans hL2 (later_of_alloc hL3))))).alloc _
      · rfl
      · rfl
  · go_simp
    refine hK.out _ _ trivial (fun _ => ?_)
    clear hK K; (try simp only [Act.put, List.setIfInBounds_toArray, List.set_cons_zero, List.set_cons_succ])
    refine wpAnyH_ready (rs := [0]) (by kernel_rfl) (by simp) ?_; refine AllReadyH.cons rfl (fun K hK => ?_) AllReadyH.nil
    go_simp
    refine (between_calls 20 22 _).mono ?_
    rintro e w2 ⟨rfl, hL2⟩
    refine hK.out _ _ trivial (fun _ => ?_)
    clear hK K; (try simp only [Act.put, List.setIfInBounds_toArray, List.set_cons_zero, List.set_cons_succ])
    refine wpAnyH_take (i := 1) (v := ?_) rfl (by kernel_rfl) (by kernel_rfl) (by kernel_rfl) (by intro _ _ _ h; first | exact h | exact absurd h.1 (by simp)) (Or.inl ⟨by rfl, ?_⟩) tt ?_; rotate_left; (focus (intro X hSX; (try dsimp only at hSX); go_simp; (try with_reducible rfl))); (try simp only [Act.put, List.setIfInBounds_toArray, List.set_cons_zero, List.set_cons_succ])
    refine wpAnyH_ready (rs := [2]) (by kernel_rfl) (by simp) ?_; refine AllReadyH.cons rfl (fun K hK => ?_) AllReadyH.nil
    go_simp
    refine (between_calls 30 33 _).mono ?_
    rintro e w3 ⟨rfl, hL3⟩
    refine hK.out _ _ trivial (fun _ => ?_)
    clear hK K; (try simp only [Act.put, List.setIfInBounds_toArray, List.set_cons_zero, List.set_cons_succ])
    refine wpAnyH_take (i := 4) (v := ?_) rfl (by kernel_rfl) (by kernel_rfl) (by kernel_rfl) (by intro _ _ _ h; first | exact h | exact absurd h.1 (by simp)) (Or.inl ⟨by rfl, ?_⟩) tt ?_; rotate_left; (focus (intro X hSX; (try dsimp only at hSX); go_simp; (try with_reducible rfl))); (try simp only [Act.put, List.setIfInBounds_toArray, List.set_cons_zero, List.set_cons_succ])
    refine wpAnyH_ready (rs := [5]) (by kernel_rfl) (by simp) ?_; refine AllReadyH.cons rfl (fun K hK => ?_) AllReadyH.nil
    go_simp
    refine hK.out _ _ trivial (fun _ => ?_)
    clear hK K; (try simp only [Act.put, List.setIfInBounds_toArray, List.set_cons_zero, List.set_cons_succ])
    have hL2' := Later.trans (later_drew (later_refl (W1.alloc (.cells #[.int .i64 0, .int .i64 1] 3)))) hL2
    refine wpAnyH_ready (rs := [10]) (by kernel_rfl) (by simp) ?_; refine AllReadyH.cons rfl (fun K hK => ?_) AllReadyH.nil
    go_simp
    refine hK.out _ _ trivial (fun _ => ?_)
    clear hK K; (try simp only [Act.put, List.setIfInBounds_toArray, List.set_cons_zero, List.set_cons_succ])
    refine wpAnyH_ready (rs := [11]) (by kernel_rfl) (by simp) ?_
    refine AllReadyH.cons (o := { dst := none, op := Op.store 35 (Operand.tmp 4) (Operand.tmp 20), type := 0, pos := "outright.go:16", after := #[{ on := 10, ground := Ground.data }, { on := 2, ground := Ground.chain }, { on := 0, ground := Ground.phase }, { on := 1, ground := Ground.phase }, { on := 2, ground := Ground.phase }, { on := 3, ground := Ground.phase }, { on := 4, ground := Ground.phase }, { on := 5, ground := Ground.phase }, { on := 6, ground := Ground.phase }, { on := 7, ground := Ground.phase }, { on := 8, ground := Ground.phase }, { on := 9, ground := Ground.phase }, { on := 10, ground := Ground.phase }], guard := none }) rfl (fun K hK => ?_) AllReadyH.nil
    refine store_row_step rfl _ _ _ rfl g _ rfl rfl 35 #[.int .i64 0, .int .i64 0, .slice none 0 0, .slice none 0 0, .slice none 0 0] (((Hkr.out.later (Later.trans (later_of_alloc hL2') hL3))).alloc _) (by kernel_rfl) rfl (by simp [Value.oneCell']) ?_
    refine hK.out _ _ trivial (fun _ => ?_)
    clear hK K; (try simp only [Act.put, List.setIfInBounds_toArray, List.set_cons_zero, List.set_cons_succ])
    refine wpAnyH_done (by kernel_rfl) ?_ _
    have hLf := Later.trans hL1 (Later.trans (later_of_alloc hL2') hL3)
    gi_wp2_with fail
    (try simp only [Exit.inBlock, Exit.then])
    refine wp_ret ?_
    refine two_end hl ?_ Hg.out (((Hkr.out.later (Later.trans (later_of_alloc hL2') hL3))).alloc _) ?_ ?_ ?_ ?_ ?_
    · simp [hLf]
    · exact Blk.newAt rfl _ _
    · exact ((Blk.newAt rfl _ _).later (Later.trans hL2' hL3)).alloc _
    · exact ((Hkl.out.later (Later.trans (later_of_alloc hL2') hL3))).alloc _
    · rfl
    · rfl
end Go.Proofs.Ytjilckjhdlabaaa

/- The laws' Closet: walks of its parts. -/
namespace Go.Proofs.Ytjilckjhdlabaaa
open Go Go.RowKit
attribute [local go_sem] later_alloc2 later_alloc3 later_alloc4

set_option maxRecDepth 100000 in
theorem beside_calls (w : World) : Calls Try.prog 80 #[] w (ListPost [0, 1] w) := by
  go_enter Try.func80, Try.ntmps80
  go_wp2_with fail
  go_ret
  exact ⟨_, 2, _, rfl, by simp, (Blk.newAt rfl _ _).reads (xs := ints [0, 1]) rfl fun j u hu => by simpa [ints] using hu, by omega, fun b o e => by injection e with e; injection e with e _; subst e; simp⟩
set_option maxRecDepth 100000 in
theorem apart_calls (w : World) : Calls Try.prog 79 #[] w (ListPost [0, 2] w) := by
  go_enter Try.func79, Try.ntmps79
  go_wp2_with fail
  go_ret
  exact ⟨_, 2, _, rfl, by simp, (Blk.newAt rfl _ _).reads (xs := ints [0, 2]) rfl fun j u hu => by simpa [ints] using hu, by omega, fun b o e => by injection e with e; injection e with e _; subst e; simp⟩
set_option maxRecDepth 100000 in
theorem lawTo_calls (lo hi : Int) (w : World) : Calls Try.prog 68 #[.agg #[.int .i64 lo, .int .i64 hi]] w fun e w' => e = .returned (.agg #[.int .i64 lo, .int .i64 hi]) ∧ Later w w' := by
  go_enter Try.func68, Try.ntmps68
  go_wp2_with fail
  refine bodyPost_ret (v := .agg #[.int .i64 lo, .int .i64 hi]) ?_ rfl ⟨rfl, ?_⟩
  · simp [results, Try.results68, go_sem]
  · (((repeat (first | exact (later_refl _) | refine later_drew ?_ | refine later_alloc ?_ _ | refine later_set ?_ _ (Nat.le_add_right _ _) _ | refine later_set ?_ _ (Nat.le_refl _) _)); done))
end Go.Proofs.Ytjilckjhdlabaaa
