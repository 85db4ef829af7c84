/- Part 5 of the proof: joined from the texts RefI, LawA, LawB, LawC, LawD, LawE, LawF, LawG, Open, Open2, Pig, LawI, LawJ, CloZ, CloZ2, LawK, LawL, RefM. -/
import Derived.Test.YtnlbgaippnjmiaaPart4
import Derived.Test.YtnlbgaippnjmiaaPart3
import Derived.Test.YtnlbgaippnjmiaaPart1
import Derived.Test.YtnlbgaippnjmiaaProg
import Derived.Deep.Slices
import Derived.Deep.Fields
import Derived.ChangeSame
import Derived.Lib.SmallJoins
import Derived.ProofKit
import Derived.ChangeSlices
import Derived.IntWalk
set_option linter.unusedSimpArgs false
set_option linter.unusedVariables false
/- The reference's Truths, All: walks. -/
namespace Go.Proofs.Ytnlbgaippnjmiaa
open Go Go.RowKit

/-- cells that hold slices, which read as lists of numbers -/
def Rows2 (w : World) (vs : List Value) (ls : List (List Int)) : Prop :=
  vs.length = ls.length ∧ ∀ (i : Nat) (l : List Int), ls[i]? = some l → ∃ A n k, vs[i]? = some (Value.slice A n k) ∧ RI w A n l
theorem Rows2.nil (w : World) : Rows2 w [] [] := ⟨rfl, fun i l h => by simp at h⟩
theorem Rows2.later {w W : World} {vs : List Value} {ls : List (List Int)} (h : Rows2 w vs ls) (k : Later w W) : Rows2 W vs ls :=
  ⟨h.1, fun i l hi => let ⟨A, n, k', e, hr⟩ := h.2 i l hi; ⟨A, n, k', e, hr.later k⟩⟩
theorem Rows2.snoc {w : World} {vs : List Value} {ls : List (List Int)} (h : Rows2 w vs ls) {A : Option Addr} {n k : Nat} {l : List Int} (hr : RI w A n l) : Rows2 w (vs ++ [.slice A n k]) (ls ++ [l]) := by
  refine ⟨by simp [h.1], fun i m hi => ?_⟩
  rcases Nat.lt_or_ge i ls.length with hlt | hge
  · rw [List.getElem?_append_left hlt] at hi
    obtain ⟨A', n', k', e, hr'⟩ := h.2 i m hi
    exact ⟨A', n', k', by rw [List.getElem?_append_left (by rw [h.1]; exact hlt)]; exact e, hr'⟩
  · rw [List.getElem?_append_right hge] at hi
    have : i - ls.length = 0 := by
      rcases Nat.eq_zero_or_pos (i - ls.length) with h | h
      · exact h
      · rw [List.getElem?_eq_none (by simp; omega)] at hi; cases hi
    rw [this] at hi
    simp at hi; subst hi
    exact ⟨A, n, k, by rw [List.getElem?_append_right (by rw [h.1]; exact hge), h.1, this]; rfl, hr⟩
/-- .. none of them in the block of v -/
def Rows3 (w : World) (v : Value) (vs : List Value) (ls : List (List Int)) : Prop :=
  vs.length = ls.length ∧ ∀ (i : Nat) (l : List Int), ls[i]? = some l → ∃ A n k, vs[i]? = some (Value.slice A n k) ∧ RI w A n l ∧ ∀ b o, A = some ⟨b, o, none⟩ → b < w.heap.size ∧ v.ownBlock ≠ some b
theorem Rows3.later {w W : World} {v : Value} {vs : List Value} {ls : List (List Int)} (h : Rows3 w v vs ls) (k : Later w W) : Rows3 W v vs ls :=
  ⟨h.1, fun i l hi => let ⟨A, n, k', e, hr, hb⟩ := h.2 i l hi; ⟨A, n, k', e, hr.later k, fun b o hA => ⟨Nat.lt_of_lt_of_le (hb b o hA).1 k.size, (hb b o hA).2⟩⟩⟩
theorem RRI.of_rows {w : World} {A : Option Addr} {n : Nat} {vs : List Value} {ls : List (List Int)} (h1 : Reads w w.heap.size 1 A n vs) (h2 : Rows2 w vs ls) : RRI w A n ls := ⟨vs, h1, h2.1, h2.2⟩

theorem row_info : (Try.prog.info? 23).map (fun i => (i.zero, i.size, i.bytes)) = some (some (.slice none 0 0), 1, 24) := by kernel_rfl

def allTo (c : Clo) (j : Nat) : List (List Int) := (List.range j).map fun (n : Nat) => nth c.horses n
theorem allTo_succ (c : Clo) (j : Nat) : allTo c (j + 1) = allTo c j ++ [nth c.horses j] := by simp [allTo, List.range_succ]

theorem Appended.rows {w0 W w' : World} {e : TypeId} {size n : Nat} {v v' : Value} {xs news : List Value} (h : Appended w0 W w' e size v v' n xs news) {vs : List Value} {ls : List (List Int)}
    (hr : Rows3 W v vs ls) : Rows3 w' v' vs ls :=
  ⟨hr.1, fun i l hi => by
    obtain ⟨A, m, k', e1, hri, hne⟩ := hr.2 i l hi
    refine ⟨A, m, k', e1, h.ri hri fun b o hA => (hne b o hA).2, fun b o hA => ?_⟩
    obtain ⟨h1, h2⟩ := hne b o hA
    refine ⟨Nat.lt_trans h1 h.size, ?_⟩
    rcases h.at_ with e2 | ⟨g, e2, hg⟩
    · rw [e2]; exact h2
    · rw [e2]; intro e3; injection e3 with e3; omega⟩
theorem Rows3.snoc {w : World} {v : Value} {vs : List Value} {ls : List (List Int)} (h : Rows3 w v vs ls) {A : Option Addr} {n k : Nat} {l : List Int} (hr : RI w A n l)
    (hf : ∀ b o, A = some ⟨b, o, none⟩ → b < w.heap.size ∧ v.ownBlock ≠ some b) : Rows3 w v (vs ++ [.slice A n k]) (ls ++ [l]) := by
  refine ⟨by simp [h.1], fun i m hi => ?_⟩
  rcases Nat.lt_or_ge i ls.length with hlt | hge
  · rw [List.getElem?_append_left hlt] at hi
    obtain ⟨A', n', k', e, hr'⟩ := h.2 i m hi
    exact ⟨A', n', k', by rw [List.getElem?_append_left (by rw [h.1]; exact hlt)]; exact e, hr'⟩
  · rw [List.getElem?_append_right hge] at hi
    have : i - ls.length = 0 := by
      rcases Nat.eq_zero_or_pos (i - ls.length) with h | h
      · exact h
      · rw [List.getElem?_eq_none (by simp; omega)] at hi; cases hi
    rw [this] at hi
    simp at hi; subst hi
    exact ⟨A, n, k, by rw [List.getElem?_append_right (by rw [h.1]; exact hge), h.1, this]; rfl, hr, hf⟩
theorem Rows3.rows {w : World} {v : Value} {vs : List Value} {ls : List (List Int)} (h : Rows3 w v vs ls) : Rows2 w vs ls :=
  ⟨h.1, fun i l hi => let ⟨A, n, k, e, hr, _⟩ := h.2 i l hi; ⟨A, n, k, e, hr⟩⟩

end Go.Proofs.Ytnlbgaippnjmiaa

/- The helpers of the laws of chapter 04: walks. -/
namespace Go.Proofs.Ytnlbgaippnjmiaa
open Go Go.RowKit

theorem run_app_nil {P : Program} {w : World} {base : Nat} (t ty e : TypeId) (i : TypeInfo) (size : Nat) (ht : P.underlying t = some (.slice e)) (hi : P.info? e = some i)
    (v : Value) (n : Nat) (xs : List Value) (hown : w.ownsRow base e size v n xs) (c : Nat) : (Builtin.append_ #[t, t] ty #[v, .slice none 0 c]).run P w = .ok v w := by
  rcases hown.2 with ⟨rfl, rfl⟩ | ⟨g, cap, cur, rfl, _, _, hle, _⟩ <;> simp [Builtin.append_, run_underlying ht, sizeOf, typeInfo, hi, Builtin.lenOf, Builtin.firstCells, storeCells, *]
theorem appG_nil {P : Program} {ops : Array Oper} {rest : List Oper} {o : Oper} {a : Act} {Q : Exit → Act → World → Prop} {W : World} (hgd : o.guard = none) (base : Nat) (s x : Operand) (t : TypeId)
    (ho : o.op = .call { callee := .builtin .append, args := #[s, x], argTypes := #[t, t] }) (e : TypeId) (z : Value) (size bytes : Nat)
    (ht : P.underlying t = some (.slice e)) (hinfo : (P.info? e).map (fun i => (i.zero, i.size, i.bytes)) = some (some z, size, bytes))
    (v : Value) (n : Nat) (xs : List Value) (hs : a.eval s = v) (hown : W.ownsRow base e size v n xs) (c : Nat) (hx : a.eval x = .slice none 0 c)
    (h : wpList P ops Q rest (a.put o.dst v) W) :
    wpList P ops Q (o :: rest) a W := by
  refine wpList_plain hgd fun _ hK => ?_
  obtain ⟨i, hi, hz, h2, h3⟩ := info_parts hinfo
  have hr := run_app_nil (P := P) (w := W) t o.type e i size ht hi v n xs hown c
  unfold Oper.wp execOp
  simp only [ho, resolve, invoke, builtin, Sem.run_bind, Sem.run_pure, Result.andThen_ok, List.map_toArray, List.map_cons, List.map_nil, hs, hx, hr]
  exact hK _ _ h

/-- what list returns -/
def ListPost (l : List Int) (w : World) (e : Ending) (w' : World) : Prop :=
  ∃ A n k, e = .returned (.slice A n k) ∧ Later w w' ∧ RI w' A n l ∧ n ≤ k ∧ Fresh w w' A
set_option maxRecDepth 100000 in
theorem list_calls {A : Option Addr} {n k : Nat} {l : List Int} (w : World) (h : RI w A n l) (hn : n ≤ 1000000) :
    Calls Try.prog 21 #[.slice A n k] w (ListPost l w) := by
  have hlen := h.len
  cases A with
  | none =>
    have h0 : n = 0 := by
      rcases Nat.eq_zero_or_pos n with h0 | h0
      · exact h0
      · obtain ⟨ad, e, _⟩ := h.2 h0; cases e
    have hl : l = [] := List.eq_nil_of_length_eq_zero (by omega)
    subst h0 hl
    clear hlen
    go_enter Try.func21, Try.ntmps21
    go_wp2_with (at_builtin; refine appG_nil rfl w.heap.size _ _ 23 rfl 3 (.int .i64 0) 1 8 Try.underlying23 int_info _ 0 [] rfl (World.ownsRow_made w #[] 0 (Nat.le_refl _) (by unfold maxLen; omega) rfl) k rfl ?_)
    go_wp2_with fail
    go_ret
    exact ⟨_, 0, _, rfl, later_alloc (later_refl _) _, RI.nil, Nat.le_refl _, fun b o e => by injection e with e; injection e with e _; subst e; simp⟩
  | some ad =>
    have hc := fun (W : World) (hL : Later w W) => ints_cells (h.later hL)
    have hl2 : (ints l).length = n * 1 := by rw [ints_length]; omega
    have Hl := hide hlen
    clear hlen
    go_enter Try.func21, Try.ntmps21
    go_wp2_with (at_builtin; refine appG rfl w.heap.size _ _ 23 rfl 3 (.int .i64 0) 1 8 Try.underlying23 int_info rfl (by omega) _ 0 [] rfl ?hb (World.ownsRow_made w #[] 0 (Nat.le_refl _) (by unfold maxLen; omega) rfl) ad n k (ints l) rfl hl2 (hc _ (later_alloc (later_refl _) _)) (ints_one l) (by omega) hn (by omega) ?_; case hb => simp)
    intro v' w' hap
    obtain ⟨A', k', hv', hrd⟩ := own_slice hap.own
    subst hv'
    have hcp := own_cap hap.own
    have hfr := own_fresh (w0 := w) hap.own
    have hL := hap.later (later_alloc (later_refl _) _) (World.ownsRow_made w #[] 0 (Nat.le_refl _) (by unfold maxLen; omega) rfl)
    rw [Nat.zero_add] at hcp hrd
    rw [List.nil_append] at hrd
    simp only [Nat.zero_add]
    go_wp2_with fail
    go_ret
    exact ⟨_, _, _, rfl, hL, hrd, hcp, hfr⟩

theorem isPlaceB_ref {c : Clo} (p : List Int) : isPlaceB c p = isPlaceB c p := rfl
/-- Thin, in plain words -/
def thinB (c : Clo) : Bool := decide (c.horses.length ≤ 6) && decide (c.hung.length ≤ 8) && decide (c.looks.length ≤ 7) && (decide (fault c ≠ 0) || decide (many c ≤ 60))
theorem Thin_calls {A1 A2 A3 : Option Addr} {n1 k1 n2 k2 n3 k3 : Nat} {c : Clo} (w : World) (hc : CV w c A1 n1 A2 n2 A3 n3) (hcl : i64 c.closets) (b1 : n1 ≤ 9223372036854775807) (b2 : n2 ≤ 9223372036854775807) (b3 : n3 ≤ 9223372036854775807) :
    Calls Try.prog 4 #[(.agg #[.int .i64 c.closets, .int .i64 c.close, .slice A1 n1 k1, .slice A2 n2 k2, .slice A3 n3 k3])] w fun e w' => e = .returned (.bool (thinB c)) ∧ Later w w' := by
  have h1 := hc.hs.len
  have h2 := hc.hu.len
  have h3 := hc.lk.len
  obtain ⟨w0, hw0⟩ : ∃ W, W = (w.alloc (.cells #[.int .i64 c.closets, .int .i64 c.close, .slice A1 n1 k1, .slice A2 n2 k2, .slice A3 n3 k3] 26)) := ⟨_, rfl⟩; have hbox : ∀ W, Later w0 W → ∀ i, W.cell? ⟨w.heap.size, i, none⟩ = #[.int .i64 c.closets, .int .i64 c.close, .slice A1 n1 k1, .slice A2 n2 k2, .slice A3 n3 k3][i]? := (by rw [hw0]; exact box_cells w #[.int .i64 c.closets, .int .i64 c.close, .slice A1 n1 k1, .slice A2 n2 k2, .slice A3 n3 k3] 26); have hL0 : Later w w0 := (by rw [hw0]; simp); have hc0 := hc.later hL0; have Hw0 := hide hw0; clear hw0
  by_cases hb : n1 ≤ 6 ∧ n2 ≤ 8 ∧ n3 ≤ 7
  · obtain ⟨l1, l2, l3⟩ := hb
    have t1 : ¬ (6 : Int) < (n1 : Int) := by omega
    have t2 : ¬ (8 : Int) < (n2 : Int) := by omega
    have t3 : ¬ (7 : Int) < (n3 : Int) := by omega
    obtain ⟨q, hq⟩ : ∃ q, fault c = q := ⟨_, rfl⟩
    have hfc := Fault_calls (k1 := k1) (k2 := k2) (k3 := k3) w0 hc0 hcl (by omega) (by omega) (by omega)
    rw [hq] at hfc
    by_cases hq0 : q = 0
    · subst hq0
      have ok := okC_of_fault hq
      have okh : ∀ h ∈ c.horses, 1 ≤ h.lo ∧ h.lo ≤ h.hi ∧ h.hi ≤ 60 := fun h hh => by have := ok.horse h hh; omega
      have Htb : Hid (thinB c = decide (many c ≤ 60)) := by
        show _ = _
        unfold thinB
        rw [hq]
        simp
        omega
      have hmr := many_range okh
      generalize hm : many c = m at *
      have Hm := hide hm
      have Hq := hide hq
      have Hfc := hide hfc
      clear hm hq hfc h1 h2 h3
      go_enter Try.func4, Try.ntmps4
      go_wp2_with fail
      rw [← Hw0.out]; clear Hw0
      refine Hfc.out.mono ?_
      rintro e w1 ⟨rfl, hL1⟩
      go_wp2_with fail
      refine (Many_calls _ (hc0.later hL1) okh (by omega)).mono ?_
      rw [Hm.out]
      rintro e w2 ⟨rfl, hL2⟩
      go_wp2_with fail
      go_ret
      exact ⟨by rw [Htb.out]; rfl, Later.trans hL0 (Later.trans hL1 hL2)⟩
    · have Htb : Hid (thinB c = true) := by
        show _ = _
        unfold thinB
        rw [hq]
        simp
        omega
      have hqb : (q != 0) = true := by simpa using hq0
      have Hfc := hide hfc
      clear hfc hq hq0 h1 h2 h3
      go_enter Try.func4, Try.ntmps4
      go_wp2_with fail
      rw [← Hw0.out]; clear Hw0
      refine Hfc.out.mono ?_
      rintro e w1 ⟨rfl, hL1⟩
      go_wp2_with fail
      go_ret
      exact ⟨by rw [Htb.out]; rfl, Later.trans hL0 hL1⟩
  · have Htb : Hid (thinB c = false) := by
      show _ = _
      unfold thinB
      simp
      omega
    clear h1 h2 h3
    by_cases l1 : n1 ≤ 6
    · have t1 : ¬ (6 : Int) < (n1 : Int) := by omega
      by_cases l2 : n2 ≤ 8
      · have t2 : ¬ (8 : Int) < (n2 : Int) := by omega
        have t3 : (7 : Int) < (n3 : Int) := by omega
        clear hb
        go_enter Try.func4, Try.ntmps4
        go_wp2_with fail
        go_ret
        exact ⟨by rw [Htb.out]; rfl, by rw [← Hw0.out]; exact hL0⟩
      · have t2 : (8 : Int) < (n2 : Int) := by omega
        clear hb
        go_enter Try.func4, Try.ntmps4
        go_wp2_with fail
        go_ret
        exact ⟨by rw [Htb.out]; rfl, by rw [← Hw0.out]; exact hL0⟩
    · have t1 : (6 : Int) < (n1 : Int) := by omega
      clear hb
      go_enter Try.func4, Try.ntmps4
      go_wp2_with fail
      go_ret
      exact ⟨by rw [Htb.out]; rfl, by rw [← Hw0.out]; exact hL0⟩
end Go.Proofs.Ytnlbgaippnjmiaa

/- placed, sure: walks. -/
namespace Go.Proofs.Ytnlbgaippnjmiaa
open Go Go.RowKit

theorem RRI.nil {w : World} {A : Option Addr} : RRI w A 0 [] := ⟨[], ⟨rfl, fun h => absurd h (by omega)⟩, rfl, fun i l h => by simp at h⟩
theorem truths_nil {c : Clo} (hf : fault c = 0) : truths c = [] ↔ truthsP c = [] := by
  have := (truthsP_perm hf).length_eq
  constructor
  · intro h; rw [h] at this; exact List.eq_nil_of_length_eq_zero this
  · intro h; rw [h] at this; exact List.eq_nil_of_length_eq_zero this.symm
def PlacedPost (c : Clo) (fine : Bool) (w : World) (e : Ending) (w' : World) : Prop :=
  ∃ A n k, e = .returned (.tuple #[.slice A n k, .int .i64 (askedErr c fine)]) ∧ Later w w' ∧ (askedErr c fine = 0 → RRI w' A n (truths c))
end Go.Proofs.Ytnlbgaippnjmiaa

/- The document's examples: walks. -/
namespace Go.Proofs.Ytnlbgaippnjmiaa
open Go Go.RowKit
attribute [local go_sem] later_alloc2 later_alloc3 later_alloc4

def twoLooks : List Look := [⟨1, 35, true⟩, ⟨1, 34, false⟩, ⟨1, 36, false⟩]
def twoC (looks : Nat) (grace : Int) : Clo := ⟨3, 60, [⟨20, 22, 3, 5⟩, ⟨30, 33, 4, grace⟩], [0, 1], twoLooks.take looks⟩
def TwoPost (looks : Nat) (grace : Int) (w : World) (e : Ending) (w' : World) : Prop :=
  ∃ A1 k1 A2 k2 A3 k3, e = .returned (.agg #[.int .i64 3, .int .i64 60, .slice A1 2 k1, .slice A2 2 k2, .slice A3 looks k3]) ∧ Later w w' ∧ CV w' (twoC looks grace) A1 2 A2 2 A3 looks ∧ 2 ≤ k2 ∧ looks ≤ k3
theorem build_closet (a b : Int) (A1 A2 A3 : Option Addr) (n1 k1 n2 k2 n3 k3 : Nat) (W : World) : (Instr.build 45 #[(0, .int .i64 a), (1, .int .i64 b), (2, .slice A1 n1 k1), (3, .slice A2 n2 k2), (4, .slice A3 n3 k3)]).run Try.prog W = .ok (.agg #[.int .i64 a, .int .i64 b, .slice A1 n1 k1, .slice A2 n2 k2, .slice A3 n3 k3]) W :=
  run_build W _ _ _ (by kernel_rfl)
attribute [local go_sem] build_closet
theorem store_row_step {P : Program} {ops : Array Oper} {o : Oper} {a : Act} {w : World} {K : Act → World → Prop} {Q : Exit → Act → World → Prop} {E : Prop} (hgd : o.guard = none) (ty : TypeId) (x y : Operand) (ho : o.op = .store ty x y)
    (g : Nat) (cells : Array Value) (hx : a.eval x = .pointer (some ⟨g, 0, none⟩)) (hy : a.eval y = .agg cells)
    (t : TypeId) (old : Array Value) (hg : w.heap[g]? = some (.cells old t (0, 0))) (hi : (P.info? ty).map (·.size) = some cells.size)
    (hold : old.size = cells.size) (h1 : cells.all (·.oneCell') = true)
    (h : K (a.put o.dst undef) (w.setRow g cells)) : if Region.wanted o (yielded ops a.tmps) = true then o.wp P a w K Q else E := by
  rw [if_pos (by simp [Region.wanted, hgd])]
  exact wp_store_row ty x y ho g cells hx hy t old hg hi hold h1 h
theorem later_setRow {w W : World} (h : Later w W) {g : Nat} (hg : w.heap.size ≤ g) (cs : Array Value) : Later w (W.setRow g cs) :=
  ⟨by simpa using h.os, by simpa using h.tape, by simpa using h.output, by simpa using h.size, fun k hk => (setRow_other W g k cs (by omega)).trans (h.block k hk)⟩
theorem Blk.row {w : World} {g : Nat} {t : TypeId} {old : Array Value} (h : Blk w g t old) (cs : Array Value) : Blk (w.setRow g cs) g t cs := setRow_heap w g old cs t (0, 0) h
theorem Blk.otherRow {w : World} {g k : Nat} {t : TypeId} {cs : Array Value} (h : Blk w k t cs) (hk : k ≠ g) (cs' : Array Value) : Blk (w.setRow g cs') k t cs := (setRow_other w g k cs' hk).trans h
theorem Blk.reads {w : World} {g : Nat} {t : TypeId} {cs : Array Value} (h : Blk w g t cs) {size n : Nat} {xs : List Value} (hl : xs.length = n * size) (hx : ∀ (j : Nat) (u : Value), xs[j]? = some u → cs[j]? = some u) : Reads w w.heap.size size (some ⟨g, 0, none⟩) n xs :=
  ⟨hl, fun _ => ⟨_, rfl, h.lt, fun j u hu => by rw [add_lit, Nat.zero_add, h.cell]; exact hx j u hu⟩⟩
theorem pre_get {α : Type} {xs ys : List α} {j : Nat} {u : α} (h : xs[j]? = some u) : (xs ++ ys)[j]? = some u := by
  have hj := (List.getElem?_eq_some_iff.1 h).1
  rw [List.getElem?_append_left hj]
  exact h
theorem Blk.newAt {w : World} {g : Nat} (h : g = w.heap.size) (t : TypeId) (cs : Array Value) : Blk (w.alloc (.cells cs t)) g t cs := h ▸ Blk.new w t cs
theorem Blk.ne {w : World} {g g' : Nat} {t t' : TypeId} {cs cs' : Array Value} (h : Blk w g t cs) (h' : Blk w g' t' cs') (ht : t ≠ t') : g ≠ g' := fun e => by
  subst e
  unfold Blk at h h'
  rw [h] at h'
  injection h' with h'
  injection h' with _ h'
  exact ht h'
end Go.Proofs.Ytnlbgaippnjmiaa

/- The laws' Closet: walks of its parts. -/
namespace Go.Proofs.Ytnlbgaippnjmiaa
open Go Go.RowKit
attribute [local go_sem] later_alloc2 later_alloc3 later_alloc4

set_option maxRecDepth 100000 in
theorem lawTo_calls (lo hi : Int) (w : World) : Calls Try.prog 22 #[.agg #[.int .i64 lo, .int .i64 hi]] w fun e w' => e = .returned (.agg #[.int .i64 lo, .int .i64 hi]) ∧ Later w w' := by
  go_enter Try.func22, Try.ntmps22
  go_wp2_with fail
  refine bodyPost_ret (v := .agg #[.int .i64 lo, .int .i64 hi]) ?_ rfl ⟨rfl, ?_⟩
  · simp [results, Try.results22, go_sem]
  · (((repeat (first | exact (later_refl _) | refine later_drew ?_ | refine later_alloc ?_ _ | refine later_set ?_ _ (Nat.le_add_right _ _) _ | refine later_set ?_ _ (Nat.le_refl _) _)); done))
end Go.Proofs.Ytnlbgaippnjmiaa

/- The laws' Closet: walk. -/
namespace Go.Proofs.Ytnlbgaippnjmiaa
open Go Go.RowKit
attribute [local go_sem] later_alloc2 later_alloc3 later_alloc4

/-- all blocks of W but g lie in X as they lay -/
def Kept (g : Nat) (W X : World) : Prop := W.heap.size ≤ X.heap.size ∧ ∀ b, b < W.heap.size → b ≠ g → X.heap[b]? = W.heap[b]?
theorem Kept.refl (g : Nat) (W : World) : Kept g W W := ⟨Nat.le_refl _, fun _ _ _ => rfl⟩
theorem Kept.trans {g : Nat} {A B C : World} (h : Kept g A B) (k : Kept g B C) : Kept g A C := ⟨Nat.le_trans h.1 k.1, fun b hb hn => (k.2 b (Nat.lt_of_lt_of_le hb h.1) hn).trans (h.2 b hb hn)⟩
theorem Kept.later {g : Nat} {W X Y : World} (h : Kept g W X) (k : Later X Y) : Kept g W Y := h.trans ⟨k.size, fun b hb _ => k.block b hb⟩
theorem Kept.setCell {g : Nat} {W X : World} (h : Kept g W X) (i : Nat) (u : Value) : Kept g W (X.setCell ⟨g, i, none⟩ u) := h.trans ⟨by simp, fun b _ hn => Below.heap_setCell X _ _ b hn⟩
theorem Kept.setRow {g : Nat} {W X : World} (h : Kept g W X) (cs : Array Value) : Kept g W (X.setRow g cs) := h.trans ⟨by simp, fun b _ hn => setRow_other X g b cs hn⟩
theorem Reads.kept {g : Nat} {W X : World} {A : Option Addr} {n size : Nat} {xs : List Value} (h : Reads W W.heap.size size A n xs) (hs : 0 < size) (hne : ∀ b o, A = some ⟨b, o, none⟩ → b ≠ g) (k : Kept g W X) : Reads X X.heap.size size A n xs := by
  refine ⟨h.1, fun hn => ?_⟩
  obtain ⟨b, o, e, hb, hc⟩ := Reads.lit h hs hn
  exact ⟨⟨b, o, none⟩, e, Nat.lt_of_lt_of_le hb k.1, fun j u hu => by rw [add_lit, World.cell?_of_block (a := ⟨b, o + j, none⟩) (k.2 b hb (hne b o e))]; exact hc j u hu⟩
theorem Blk.kept {g b : Nat} {W X : World} {t : TypeId} {cs : Array Value} (h : Blk W b t cs) (hb : b ≠ g) (k : Kept g W X) : Blk X b t cs := (k.2 b h.lt hb).trans h

theorem Kept.grown {g : Nat} {W X Y : World} {row : Option Nat} (h : Kept g W X) (k : X.grownBy Y row) (hr : ∀ b, row = some b → W.heap.size ≤ b) : Kept g W Y :=
  ⟨Nat.le_trans h.1 k.size, fun b hb hn => (k.block b (Nat.lt_of_lt_of_le hb h.1) (fun e => by have := hr b e.symm; omega)).trans (h.2 b hb hn)⟩
theorem horse_info : (Try.prog.info? 66).map (fun i => (i.zero, i.size, i.bytes)) = some (some (.agg #[.int .i64 0, .int .i64 0, .int .i64 0, .int .i64 0]), 4, 32) := by kernel_rfl
theorem look_info : (Try.prog.info? 79).map (fun i => (i.zero, i.size, i.bytes)) = some (some (.agg #[.int .i64 0, .int .i64 0, .bool false]), 3, 24) := by kernel_rfl
theorem horsesV_take {l : List Horse} {t : Nat} {x : Horse} (h : l[t]? = some x) : horsesV (l.take (t + 1)) = horsesV (l.take t) ++ [.int .i64 x.lo, .int .i64 x.hi, .int .i64 x.wet, .int .i64 x.grace] := by
  rw [List.take_add_one, h]; simp [horsesV, Horse.cells]
theorem looksV_take {l : List Look} {t : Nat} {x : Look} (h : l[t]? = some x) : looksV (l.take (t + 1)) = looksV (l.take t) ++ [.int .i64 x.horse, .int .i64 x.minute, .bool x.dry] := by
  rw [List.take_add_one, h]; simp [looksV, Look.cells]
def ClosetPost (c : Clo) (n1 n2 n3 : Nat) (w : World) (e : Ending) (w' : World) : Prop :=
  ∃ A1 k1 A2 k2 A3 k3, e = .returned (.agg #[.int .i64 c.closets, .int .i64 c.close, .slice A1 n1 k1, .slice A2 n2 k2, .slice A3 n3 k3]) ∧ Later w w' ∧ CV w' c A1 n1 A2 n2 A3 n3 ∧ n1 ≤ k1 ∧ n2 ≤ k2 ∧ n3 ≤ k3
theorem build_closet3 (a b : Int) (A2 : Option Addr) (n2 k2 : Nat) (W : World) : (Instr.build 45 #[(0, .int .i64 a), (1, .int .i64 b), (3, .slice A2 n2 k2)]).run Try.prog W = .ok (.agg #[.int .i64 a, .int .i64 b, .slice none 0 0, .slice A2 n2 k2, .slice none 0 0]) W :=
  run_build W _ _ _ (by kernel_rfl)
attribute [local go_sem] build_closet3
/-- behind region 1: the new closet lies in block g -/
structure ClMade (c : Clo) (n2 : Nat) (w1 : World) (g : Nat) (A : Option Addr) (k : Nat) (W : World) : Prop where
  later : Later w1 W
  lo : w1.heap.size ≤ g
  blk : Blk W g 45 #[.int .i64 c.closets, .int .i64 c.close, .slice none 0 0, .slice A n2 k, .slice none 0 0]
  hu : RI W A n2 c.hung
  cap : n2 ≤ k
  new : Fresh w1 W A
  apart : ∀ b o, A = some ⟨b, o, none⟩ → b ≠ g
theorem clMade {c : Clo} {n2 k g : Nat} {w1 W : World} {A : Option Addr} (hL : Later w1 W) (hg : w1.heap.size ≤ g) (kb : Blk W g 45 #[.int .i64 0, .int .i64 0, .slice none 0 0, .slice none 0 0, .slice none 0 0])
    (hu : RI W A n2 c.hung) (hcap : n2 ≤ k) (hnew : Fresh w1 W A) (hap : ∀ b o, A = some ⟨b, o, none⟩ → b ≠ g) : ClMade c n2 w1 g A k (W.setRow g #[.int .i64 c.closets, .int .i64 c.close, .slice none 0 0, .slice A n2 k, .slice none 0 0]) :=
  ⟨later_setRow hL hg _, hg, kb.row _, Reads.kept hu (by omega) hap ((Kept.refl g W).setRow _), hcap, fun b o e => ⟨(hnew b o e).1, by have := (hnew b o e).2; simpa using this⟩, hap⟩
set_option maxRecDepth 100000 in
set_option maxHeartbeats 1000000 in
theorem lawCloset_calls {A1 A2 A3 : Option Addr} {n1 k1 n2 k2 n3 k3 : Nat} {c : Clo} (w : World) (hc : CV w c A1 n1 A2 n2 A3 n3) (b1 : n1 ≤ 1000) (b2 : n2 ≤ 1000) (b3 : n3 ≤ 1000) :
    Calls Try.prog 8 #[(.agg #[.int .i64 c.closets, .int .i64 c.close, .slice A1 n1 k1, .slice A2 n2 k2, .slice A3 n3 k3])] w (ClosetPost c n1 n2 n3 w) := by
  obtain ⟨w0, hw0⟩ : ∃ W, W = (w.alloc (.cells #[.int .i64 c.closets, .int .i64 c.close, .slice A1 n1 k1, .slice A2 n2 k2, .slice A3 n3 k3] 26)) := ⟨_, rfl⟩; have hbox : ∀ W, Later w0 W → ∀ i, W.cell? ⟨w.heap.size, i, none⟩ = #[.int .i64 c.closets, .int .i64 c.close, .slice A1 n1 k1, .slice A2 n2 k2, .slice A3 n3 k3][i]? := (by rw [hw0]; exact box_cells w #[.int .i64 c.closets, .int .i64 c.close, .slice A1 n1 k1, .slice A2 n2 k2, .slice A3 n3 k3] 26); have hL0 : Later w w0 := (by rw [hw0]; simp); have hc0 := hc.later hL0; have Hw0 := hide hw0; clear hw0
  have hs0 : w0.heap.size = w.heap.size + 1 := by rw [Hw0.out]; simp
  go_enter Try.func8, Try.ntmps8
  go_wp2_with fail
  rw [← Hw0.out]; clear Hw0
  generalize hw1 : w0.alloc _ = w1
  have hL1 : Later w0 w1 := by rw [← hw1]; exact later_alloc (later_refl _) _
  have kres : Blk w1 w0.heap.size 45 #[.int .i64 0, .int .i64 0, .slice none 0 0, .slice none 0 0, .slice none 0 0] := by rw [← hw1]; exact Blk.new _ _ _
  have hs1 : w1.heap.size = w.heap.size + 1 + 1 := by rw [← hw1]; simp [hs0]
  clear hw1
  rw [hs0] at kres
  have hbox1 := fun W (h : Later w1 W) => hbox W (Later.trans hL1 h)
  have hc1 := hc0.later hL1
  have hLw := Later.trans hL0 hL1
  clear hbox hc0 hc hs0 hL0 hL1
  obtain ⟨gb, hgb⟩ : ∃ g, g = w.heap.size := ⟨_, rfl⟩
  rw [← hgb] at kres hbox1 hs1
  simp only [← hgb]
  have Hgb := hide hgb
  have Hres := hide kres
  have Hs1 := hide hs1
  clear hgb kres hs1
  refine Code.wp_mono (Q := fun e a W => e = .normal ∧ ∃ g A k, ClMade c n2 w1 g A k W ∧ a = ⟨#[(.agg #[.int .i64 c.closets, .int .i64 c.close, .slice A1 n1 k1, .slice A2 n2 k2, .slice A3 n3 k3]), .pointer (some ⟨gb, 0, none⟩), .pointer (some ⟨gb + 1, 0, none⟩), .pointer (some ⟨g, 0, none⟩), undef, undef, .pointer (some ⟨gb, 0, none⟩), .int .i64 c.closets, .pointer (some ⟨gb, 1, none⟩), .int .i64 c.close, .pointer (some ⟨gb, 3, none⟩), .slice A2 n2 k2, .slice A n2 k, .agg #[.int .i64 c.closets, .int .i64 c.close, .slice none 0 0, .slice A n2 k, .slice none 0 0], undef, undef, undef, undef, undef, undef, undef, undef, undef, undef, undef, undef, undef, undef, undef, undef, undef, undef, undef, undef, undef, undef, undef, undef, undef, undef, undef, undef, undef, undef, undef, undef, undef, undef, undef, undef, undef, undef, undef, undef, undef, undef, undef, undef, undef, undef, undef, undef, undef, undef, undef, undef, undef, undef, undef, undef, undef, undef, undef, undef, undef, undef, undef, undef], []⟩) ?_ ?_
  · rintro e a W2 ⟨rfl, g3, A2', k2', hm, rfl⟩
    have hn1 := hc1.hs.len
    have Hn1 := hide hn1
    have Hmu := hide hm.hu
    have Hma := hide hm.apart
    have Hmc := hide hm.cap
    have Hmn := hide hm.new
    have hmL := hm.later
    have hlo := hm.lo
    have hg3 : g3 < W2.heap.size := hm.blk.lt
    have Hmb := hide hm.blk
    have hb2 : ∀ X, Later w1 X → X.cell? ⟨gb, 2, none⟩ = some (.slice A1 n1 k1) := fun X hX => hbox1 X hX 2
    have hb4 : ∀ X, Later w1 X → X.cell? ⟨gb, 4, none⟩ = some (.slice A3 n3 k3) := fun X hX => hbox1 X hX 4
    clear hn1 hm hbox1
    gi_wp2_with fail
    go_wp2_with fail
    go_loopw [4] (fun i wr => ∃ (t : Nat) (Av : Option Addr) (kv : Nat), t ≤ n1 ∧ i = .int .i64 t ∧ Later w1 wr ∧ Kept g3 W2 wr ∧ Hid (Blk wr g3 45 #[.int .i64 c.closets, .int .i64 c.close, .slice Av t kv, .slice A2' n2 k2', .slice none 0 0]) ∧ Hid (wr.ownsRow W2.heap.size 66 4 (.slice Av t kv) t (horsesV (c.horses.take t)))) (fun i _ => n1 - (intOf i).toNat)
    case atStart => exact ⟨0, none, 0, Nat.zero_le _, rfl, hmL, Kept.refl _ _, Hmb, ⟨by simp [horsesV], .inl ⟨rfl, rfl⟩⟩⟩
    case round =>
      obtain ⟨t, Av, kv, ht, rfl, hL, hK, Hbk, Hown⟩ := hrel
      by_cases hlt : t < n1
      · obtain ⟨b, o, x, rfl, hbl, hx, hx0, hx1, hx2, hx3⟩ := hc1.hs.get hlt
        have hi1 : (t : Int) < n1 := by omega
        have hv := horsesV_take hx
        have Hv := hide hv
        have hc2 : ∀ X, Later wr X → X.cell? ⟨g3, 2, none⟩ = some (.slice Av t kv) := fun X hX => Hbk.out.cells_later X hX 2
        have hk4 : o + t * 4 + 1 + 1 = o + t * 4 + 2 := rfl
        clear hx hv
        go_wp2_with fail
        refine wp_region_held_drew (S := Later w1) (by kernel_rfl) (by simp [hL]) (fun hS => ?_)
        have hLr : Later wr wr.drew := later_drew (later_refl _)
        refine wpAnyH_take (i := 0) (v := ?_) rfl (by kernel_rfl) (by kernel_rfl) (by kernel_rfl) (by intro _ _ _ h; first | exact h | exact absurd h.1 (by simp)) (Or.inl ⟨by rfl, ?_⟩) hS ?_; rotate_left; (focus (intro X hSX; (try dsimp only at hSX); go_simp; (try with_reducible rfl))); (try simp only [Act.put, List.setIfInBounds_toArray, List.set_cons_zero, List.set_cons_succ])
        refine wpAnyH_take (i := 2) (v := ?_) rfl (by kernel_rfl) (by kernel_rfl) (by kernel_rfl) (by intro _ _ _ h; first | exact h | exact absurd h.1 (by simp)) (Or.inl ⟨by rfl, ?_⟩) hS ?_; rotate_left; (focus (intro X hSX; (try dsimp only at hSX); go_simp; (try with_reducible rfl))); (try simp only [Act.put, List.setIfInBounds_toArray, List.set_cons_zero, List.set_cons_succ])
        refine wpAnyH_take (i := 3) (v := ?_) rfl (by kernel_rfl) (by kernel_rfl) (by kernel_rfl) (by intro _ _ _ h; first | exact h | exact absurd h.1 (by simp)) (Or.inl ⟨by rfl, ?_⟩) hS ?_; rotate_left; (focus (intro X hSX; (try dsimp only at hSX); go_simp; (try with_reducible rfl))); (try simp only [Act.put, List.setIfInBounds_toArray, List.set_cons_zero, List.set_cons_succ])
        refine wpAnyH_take (i := 4) (v := ?_) rfl (by kernel_rfl) (by kernel_rfl) (by kernel_rfl) (by intro _ _ _ h; first | exact h | exact absurd h.1 (by simp)) (Or.inl ⟨by rfl, ?_⟩) hS ?_; rotate_left; (focus (intro X hSX; (try dsimp only at hSX); go_simp; (try with_reducible rfl))); (try simp only [Act.put, List.setIfInBounds_toArray, List.set_cons_zero, List.set_cons_succ])
        refine wpAnyH_take (i := 5) (v := ?_) rfl (by kernel_rfl) (by kernel_rfl) (by kernel_rfl) (by intro _ _ _ h; first | exact h | exact absurd h.1 (by simp)) (Or.inl ⟨by rfl, ?_⟩) hS ?_; rotate_left; (focus (intro X hSX; (try dsimp only at hSX); go_simp; (try with_reducible rfl))); (try simp only [Act.put, List.setIfInBounds_toArray, List.set_cons_zero, List.set_cons_succ])
        refine wpAnyH_take (i := 6) (v := ?_) rfl (by kernel_rfl) (by kernel_rfl) (by kernel_rfl) (by intro _ _ _ h; first | exact h | exact absurd h.1 (by simp)) (Or.inl ⟨by rfl, ?_⟩) hS ?_; rotate_left; (focus (intro X hSX; (try dsimp only at hSX); go_simp; (try with_reducible rfl))); (try simp only [Act.put, List.setIfInBounds_toArray, List.set_cons_zero, List.set_cons_succ])
        refine wpAnyH_take (i := 7) (v := ?_) rfl (by kernel_rfl) (by kernel_rfl) (by kernel_rfl) (by intro _ _ _ h; first | exact h | exact absurd h.1 (by simp)) (Or.inl ⟨by rfl, ?_⟩) hS ?_; rotate_left; (focus (intro X hSX; (try dsimp only at hSX); go_simp; (try with_reducible rfl))); (try simp only [Act.put, List.setIfInBounds_toArray, List.set_cons_zero, List.set_cons_succ])
        refine wpAnyH_take (i := 9) (v := ?_) rfl (by kernel_rfl) (by kernel_rfl) (by kernel_rfl) (by intro _ _ _ h; first | exact h | exact absurd h.1 (by simp)) (Or.inl ⟨by rfl, ?_⟩) hS ?_; rotate_left; (focus (intro X hSX; (try dsimp only at hSX); go_simp; (try with_reducible rfl))); (try simp only [Act.put, List.setIfInBounds_toArray, List.set_cons_zero, List.set_cons_succ])
        refine wpAnyH_take (i := 10) (v := ?_) rfl (by kernel_rfl) (by kernel_rfl) (by kernel_rfl) (by intro _ _ _ h; first | exact h | exact absurd h.1 (by simp)) (Or.inl ⟨by rfl, ?_⟩) hS ?_; rotate_left; (focus (intro X hSX; (try dsimp only at hSX); go_simp; (try with_reducible rfl))); (try simp only [Act.put, List.setIfInBounds_toArray, List.set_cons_zero, List.set_cons_succ])
        refine wpAnyH_take (i := 11) (v := ?_) rfl (by kernel_rfl) (by kernel_rfl) (by kernel_rfl) (by intro _ _ _ h; first | exact h | exact absurd h.1 (by simp)) (Or.inl ⟨by rfl, ?_⟩) hS ?_; rotate_left; (focus (intro X hSX; (try dsimp only at hSX); go_simp; (try with_reducible rfl))); (try simp only [Act.put, List.setIfInBounds_toArray, List.set_cons_zero, List.set_cons_succ])
        refine wpAnyH_take (i := 12) (v := ?_) rfl (by kernel_rfl) (by kernel_rfl) (by kernel_rfl) (by intro _ _ _ h; first | exact h | exact absurd h.1 (by simp)) (Or.inl ⟨by rfl, ?_⟩) hS ?_; rotate_left; (focus (intro X hSX; (try dsimp only at hSX); go_simp; (try with_reducible rfl))); (try simp only [Act.put, List.setIfInBounds_toArray, List.set_cons_zero, List.set_cons_succ])
        refine wpAnyH_take (i := 13) (v := ?_) rfl (by kernel_rfl) (by kernel_rfl) (by kernel_rfl) (by intro _ _ _ h; first | exact h | exact absurd h.1 (by simp)) (Or.inl ⟨by rfl, ?_⟩) hS ?_; rotate_left; (focus (intro X hSX; (try dsimp only at hSX); go_simp; (try with_reducible rfl))); (try simp only [Act.put, List.setIfInBounds_toArray, List.set_cons_zero, List.set_cons_succ])
        refine wpAnyH_take (i := 14) (v := ?_) rfl (by kernel_rfl) (by kernel_rfl) (by kernel_rfl) (by intro _ _ _ h; first | exact h | exact absurd h.1 (by simp)) (Or.inl ⟨by rfl, ?_⟩) hS ?_; rotate_left; (focus (intro X hSX; (try dsimp only at hSX); go_simp; (try with_reducible rfl))); (try simp only [Act.put, List.setIfInBounds_toArray, List.set_cons_zero, List.set_cons_succ])
        refine wpAnyH_take (i := 15) (v := ?_) rfl (by kernel_rfl) (by kernel_rfl) (by kernel_rfl) (by intro _ _ _ h; first | exact h | exact absurd h.1 (by simp)) (Or.inl ⟨by rfl, ?_⟩) hS ?_; rotate_left; (focus (intro X hSX; (try dsimp only at hSX); go_simp; (try with_reducible rfl))); (try simp only [Act.put, List.setIfInBounds_toArray, List.set_cons_zero, List.set_cons_succ])
        refine wpAnyH_take (i := 16) (v := ?_) rfl (by kernel_rfl) (by kernel_rfl) (by kernel_rfl) (by intro _ _ _ h; first | exact h | exact absurd h.1 (by simp)) (Or.inl ⟨by rfl, ?_⟩) hS ?_; rotate_left; (focus (intro X hSX; (try dsimp only at hSX); go_simp; (try with_reducible rfl))); (try simp only [Act.put, List.setIfInBounds_toArray, List.set_cons_zero, List.set_cons_succ])
        refine wpAnyH_take (i := 17) (v := ?_) rfl (by kernel_rfl) (by kernel_rfl) (by kernel_rfl) (by intro _ _ _ h; first | exact h | exact absurd h.1 (by simp)) (Or.inl ⟨by rfl, ?_⟩) hS ?_; rotate_left; (focus (intro X hSX; (try dsimp only at hSX); go_simp; (try with_reducible rfl))); (try simp only [Act.put, List.setIfInBounds_toArray, List.set_cons_zero, List.set_cons_succ])
        refine wpAnyH_take (i := 18) (v := ?_) rfl (by kernel_rfl) (by kernel_rfl) (by kernel_rfl) (by intro _ _ _ h; first | exact h | exact absurd h.1 (by simp)) (Or.inl ⟨by rfl, ?_⟩) hS ?_; rotate_left; (focus (intro X hSX; (try dsimp only at hSX); go_simp; (try with_reducible rfl))); (try simp only [Act.put, List.setIfInBounds_toArray, List.set_cons_zero, List.set_cons_succ])
        refine wpAnyH_take (i := 19) (v := ?_) rfl (by kernel_rfl) (by kernel_rfl) (by kernel_rfl) (by intro _ _ _ h; first | exact h | exact absurd h.1 (by simp)) (Or.inl ⟨by rfl, ?_⟩) hS ?_; rotate_left; (focus (intro X hSX; (try dsimp only at hSX); go_simp; (try with_reducible rfl))); (try simp only [Act.put, List.setIfInBounds_toArray, List.set_cons_zero, List.set_cons_succ])
        refine wpAnyH_take (i := 20) (v := ?_) rfl (by kernel_rfl) (by kernel_rfl) (by kernel_rfl) (by intro _ _ _ h; first | exact h | exact absurd h.1 (by simp)) (Or.inl ⟨by rfl, ?_⟩) hS ?_; rotate_left; (focus (intro X hSX; (try dsimp only at hSX); go_simp; (try with_reducible rfl))); (try simp only [Act.put, List.setIfInBounds_toArray, List.set_cons_zero, List.set_cons_succ])
        refine wpAnyH_ready (rs := [1, 8]) (by kernel_rfl) (by simp) ?_
        refine AllReadyH.cons rfl (fun K hK2 => ?_) (AllReadyH.cons rfl (fun K hK2 => ?_) AllReadyH.nil)
        · go_simp
          refine hK2.out _ _ hS (fun _ => ?_)
          clear hK2 K; (try simp only [Act.put, List.setIfInBounds_toArray, List.set_cons_zero, List.set_cons_succ])
          refine wpAnyH_ready (rs := [8]) (by kernel_rfl) (by simp) ?_; refine AllReadyH.cons rfl (fun K hK2 => ?_) AllReadyH.nil
          go_simp
          refine (lawTo_calls _ _ _).mono ?_
          rintro e w3 ⟨rfl, hL3⟩
          have hL3' := Later.trans hLr hL3
          refine hK2.out _ _ (Later.trans hS hL3) (fun hS3 => ?_)
          clear hK2 K; (try simp only [Act.put, List.setIfInBounds_toArray, List.set_cons_zero, List.set_cons_succ])
          refine wpAnyH_take (i := 21) (v := ?_) rfl (by kernel_rfl) (by kernel_rfl) (by kernel_rfl) (by intro _ _ _ h; first | exact h | exact absurd h.1 (by simp)) (Or.inl ⟨by rfl, ?_⟩) hS3 ?_; rotate_left; (focus (intro X hSX; (try dsimp only at hSX); go_simp; (try with_reducible rfl))); (try simp only [Act.put, List.setIfInBounds_toArray, List.set_cons_zero, List.set_cons_succ])
          refine wpAnyH_ready (rs := [22]) (by kernel_rfl) (by simp) ?_; refine AllReadyH.cons rfl (fun K hK2 => ?_) AllReadyH.nil
          go_simp
          refine hK2.out _ _ (later_alloc hS3 _) (fun hS4 => ?_)
          clear hK2 K; (try simp only [Act.put, List.setIfInBounds_toArray, List.set_cons_zero, List.set_cons_succ])
          refine wpAnyH_ready (rs := [23]) (by kernel_rfl) (by simp) ?_
          refine AllReadyH.cons (o := { dst := some 44, op := Op.call { callee := Callee.builtin Builtin.append, args := #[Operand.tmp 22, Operand.tmp 43], argTypes := #[42, 42] }, type := 42, pos := "law.go:19", after := #[{ on := 1, ground := Ground.data }, { on := 22, ground := Ground.data }, { on := 8, ground := Ground.chain }], guard := none }) rfl (fun K hK2 => ?_) AllReadyH.nil
          have hown4 := (own_later2 Hown.out hL3').alloc (.cells #[.int .i64 x.lo, .int .i64 x.hi, .int .i64 x.wet, .int .i64 x.grace] 66)
          have knew := Blk.new w3 66 #[.int .i64 x.lo, .int .i64 x.hi, .int .i64 x.wet, .int .i64 x.grace]
          have hK4 := (hK.later hL3').later (later_alloc (later_refl _) (.cells #[.int .i64 x.lo, .int .i64 x.hi, .int .i64 x.wet, .int .i64 x.grace] 66))
          have hbk4 := (Hbk.out.later hL3').alloc (.cells #[.int .i64 x.lo, .int .i64 x.hi, .int .i64 x.wet, .int .i64 x.grace] 66)
          refine appG_step rfl W2.heap.size _ _ 42 rfl 66 (.agg #[.int .i64 0, .int .i64 0, .int .i64 0, .int .i64 0]) 4 32 Try.underlying42 horse_info rfl (by omega) (.slice Av t kv) t (horsesV (c.horses.take t)) rfl hK4.1 hown4 ⟨w3.heap.size, 0, none⟩ 1 1 [.int .i64 x.lo, .int .i64 x.hi, .int .i64 x.wet, .int .i64 x.grace] rfl rfl (fun j u hu => by rw [add_lit, Nat.zero_add, knew.cell, List.getElem?_toArray]; exact hu) (by simp [Value.oneCell']) (by omega) (by omega) (by omega) ?_
          intro v' w4 hap
          obtain ⟨A', c', hv', _⟩ := own_slice hap.own
          subst hv'
          have hr4 : ∀ g, (Value.slice Av t kv).ownBlock = some g → W2.heap.size ≤ g := fun g hg => (hown4.lt g hg).1
          have hL4 := Later.grown hS4 hap.grown fun g hg => Nat.le_trans hmL.size (hr4 g hg)
          have hK5 := hK4.grown hap.grown hr4
          have hb4' := Blk.of_eq (hap.grown.block g3 hbk4.lt (fun e => by have := hr4 g3 e.symm; omega)) hbk4
          have c24 := hb4'.cell 2
          have f24 := hb4'.frozen 2
          simp only [List.getElem?_toArray, List.getElem?_cons_zero, List.getElem?_cons_succ] at c24
          have Hown5 := hide hap.own
          have Hb4 := hide hb4'
          clear hown4 knew hK4 hbk4 hr4 hap hb4'
          refine hK2.out _ _ hL4 (fun hS5 => ?_)
          clear hK2 K; (try simp only [Act.put, List.setIfInBounds_toArray, List.set_cons_zero, List.set_cons_succ])
          refine wpAnyH_take (i := 24) (v := ?_) rfl (by kernel_rfl) (by kernel_rfl) (by kernel_rfl) (by intro _ _ _ h; first | exact h | exact absurd h.1 (by simp)) (Or.inl ⟨by rfl, ?_⟩) hS5 ?_; rotate_left; (focus (intro X hSX; (try dsimp only at hSX); go_simp; (try with_reducible rfl))); (try simp only [Act.put, List.setIfInBounds_toArray, List.set_cons_zero, List.set_cons_succ])
          refine wpAnyH_ready (rs := [25]) (by kernel_rfl) (by simp) ?_; refine AllReadyH.cons rfl (fun K hK2 => ?_) AllReadyH.nil
          go_simp
          have hS6 := later_set hS5 ⟨g3, 2, none⟩ hlo (.slice A' (t + 1) c')
          have hK6 := hK5.setCell 2 (.slice A' (t + 1) c')
          have hb6 := Hb4.out.set_ 2 (.slice A' (t + 1) c')
          have ho6 := own_block (W' := w4.setCell ⟨g3, 2, none⟩ (.slice A' (t + 1) c')) Hown5.out fun g hg => Below.heap_setCell w4 _ _ g (by have := (Hown5.out.lt g hg).1; show g ≠ g3; omega)
          rw [← Hv.out] at ho6
          have Hb6 := hide hb6
          have Ho6 := hide ho6
          clear hb6 ho6
          refine hK2.out _ _ hS6 (fun _ => ?_)
          clear hK2 K
          refine wpAnyH_done (by kernel_rfl) ?_ _
          gi_wp2_with fail
          go_wp2_with fail
          go_roundw
          case rel => exact ⟨t + 1, A', c', by omega, by go_num, hS6, hK6, Hb6, Ho6⟩
          case measure => simp [intOf]; omega
        · go_simp
          refine (lawTo_calls _ _ _).mono ?_
          rintro e w3 ⟨rfl, hL3⟩
          have hL3' := Later.trans hLr hL3
          refine hK2.out _ _ (Later.trans hS hL3) (fun hS3 => ?_)
          clear hK2 K; (try simp only [Act.put, List.setIfInBounds_toArray, List.set_cons_zero, List.set_cons_succ])
          refine wpAnyH_take (i := 21) (v := ?_) rfl (by kernel_rfl) (by kernel_rfl) (by kernel_rfl) (by intro _ _ _ h; first | exact h | exact absurd h.1 (by simp)) (Or.inl ⟨by rfl, ?_⟩) hS3 ?_; rotate_left; (focus (intro X hSX; (try dsimp only at hSX); go_simp; (try with_reducible rfl))); (try simp only [Act.put, List.setIfInBounds_toArray, List.set_cons_zero, List.set_cons_succ])
          refine wpAnyH_ready (rs := [1, 22]) (by kernel_rfl) (by simp) ?_
          refine AllReadyH.cons rfl (fun K hK2 => ?_) (AllReadyH.cons rfl (fun K hK2 => ?_) AllReadyH.nil)
          · go_simp
            refine hK2.out _ _ hS3 (fun _ => ?_)
            clear hK2 K; (try simp only [Act.put, List.setIfInBounds_toArray, List.set_cons_zero, List.set_cons_succ])
            refine wpAnyH_ready (rs := [22]) (by kernel_rfl) (by simp) ?_; refine AllReadyH.cons rfl (fun K hK2 => ?_) AllReadyH.nil
            go_simp
            refine hK2.out _ _ (later_alloc hS3 _) (fun hS4 => ?_)
            clear hK2 K; (try simp only [Act.put, List.setIfInBounds_toArray, List.set_cons_zero, List.set_cons_succ])
            refine wpAnyH_ready (rs := [23]) (by kernel_rfl) (by simp) ?_
            refine AllReadyH.cons (o := { dst := some 44, op := Op.call { callee := Callee.builtin Builtin.append, args := #[Operand.tmp 22, Operand.tmp 43], argTypes := #[42, 42] }, type := 42, pos := "law.go:19", after := #[{ on := 1, ground := Ground.data }, { on := 22, ground := Ground.data }, { on := 8, ground := Ground.chain }], guard := none }) rfl (fun K hK2 => ?_) AllReadyH.nil
            have hown4 := (own_later2 Hown.out hL3').alloc (.cells #[.int .i64 x.lo, .int .i64 x.hi, .int .i64 x.wet, .int .i64 x.grace] 66)
            have knew := Blk.new w3 66 #[.int .i64 x.lo, .int .i64 x.hi, .int .i64 x.wet, .int .i64 x.grace]
            have hK4 := (hK.later hL3').later (later_alloc (later_refl _) (.cells #[.int .i64 x.lo, .int .i64 x.hi, .int .i64 x.wet, .int .i64 x.grace] 66))
            have hbk4 := (Hbk.out.later hL3').alloc (.cells #[.int .i64 x.lo, .int .i64 x.hi, .int .i64 x.wet, .int .i64 x.grace] 66)
            refine appG_step rfl W2.heap.size _ _ 42 rfl 66 (.agg #[.int .i64 0, .int .i64 0, .int .i64 0, .int .i64 0]) 4 32 Try.underlying42 horse_info rfl (by omega) (.slice Av t kv) t (horsesV (c.horses.take t)) rfl hK4.1 hown4 ⟨w3.heap.size, 0, none⟩ 1 1 [.int .i64 x.lo, .int .i64 x.hi, .int .i64 x.wet, .int .i64 x.grace] rfl rfl (fun j u hu => by rw [add_lit, Nat.zero_add, knew.cell, List.getElem?_toArray]; exact hu) (by simp [Value.oneCell']) (by omega) (by omega) (by omega) ?_
            intro v' w4 hap
            obtain ⟨A', c', hv', _⟩ := own_slice hap.own
            subst hv'
            have hr4 : ∀ g, (Value.slice Av t kv).ownBlock = some g → W2.heap.size ≤ g := fun g hg => (hown4.lt g hg).1
            have hL4 := Later.grown hS4 hap.grown fun g hg => Nat.le_trans hmL.size (hr4 g hg)
            have hK5 := hK4.grown hap.grown hr4
            have hb4' := Blk.of_eq (hap.grown.block g3 hbk4.lt (fun e => by have := hr4 g3 e.symm; omega)) hbk4
            have c24 := hb4'.cell 2
            have f24 := hb4'.frozen 2
            simp only [List.getElem?_toArray, List.getElem?_cons_zero, List.getElem?_cons_succ] at c24
            have Hown5 := hide hap.own
            have Hb4 := hide hb4'
            clear hown4 knew hK4 hbk4 hr4 hap hb4'
            refine hK2.out _ _ hL4 (fun hS5 => ?_)
            clear hK2 K; (try simp only [Act.put, List.setIfInBounds_toArray, List.set_cons_zero, List.set_cons_succ])
            refine wpAnyH_take (i := 24) (v := ?_) rfl (by kernel_rfl) (by kernel_rfl) (by kernel_rfl) (by intro _ _ _ h; first | exact h | exact absurd h.1 (by simp)) (Or.inl ⟨by rfl, ?_⟩) hS5 ?_; rotate_left; (focus (intro X hSX; (try dsimp only at hSX); go_simp; (try with_reducible rfl))); (try simp only [Act.put, List.setIfInBounds_toArray, List.set_cons_zero, List.set_cons_succ])
            refine wpAnyH_ready (rs := [25]) (by kernel_rfl) (by simp) ?_; refine AllReadyH.cons rfl (fun K hK2 => ?_) AllReadyH.nil
            go_simp
            have hS6 := later_set hS5 ⟨g3, 2, none⟩ hlo (.slice A' (t + 1) c')
            have hK6 := hK5.setCell 2 (.slice A' (t + 1) c')
            have hb6 := Hb4.out.set_ 2 (.slice A' (t + 1) c')
            have ho6 := own_block (W' := w4.setCell ⟨g3, 2, none⟩ (.slice A' (t + 1) c')) Hown5.out fun g hg => Below.heap_setCell w4 _ _ g (by have := (Hown5.out.lt g hg).1; show g ≠ g3; omega)
            rw [← Hv.out] at ho6
            have Hb6 := hide hb6
            have Ho6 := hide ho6
            clear hb6 ho6
            refine hK2.out _ _ hS6 (fun _ => ?_)
            clear hK2 K
            refine wpAnyH_done (by kernel_rfl) ?_ _
            gi_wp2_with fail
            go_wp2_with fail
            go_roundw
            case rel => exact ⟨t + 1, A', c', by omega, by go_num, hS6, hK6, Hb6, Ho6⟩
            case measure => simp [intOf]; omega
          · go_simp
            refine hK2.out _ _ (later_alloc hS3 _) (fun hS4 => ?_)
            clear hK2 K; (try simp only [Act.put, List.setIfInBounds_toArray, List.set_cons_zero, List.set_cons_succ])
            refine wpAnyH_ready (rs := [1]) (by kernel_rfl) (by simp) ?_; refine AllReadyH.cons rfl (fun K hK2 => ?_) AllReadyH.nil
            go_simp
            refine hK2.out _ _ hS4 (fun _ => ?_)
            clear hK2 K; (try simp only [Act.put, List.setIfInBounds_toArray, List.set_cons_zero, List.set_cons_succ])
            refine wpAnyH_ready (rs := [23]) (by kernel_rfl) (by simp) ?_
            refine AllReadyH.cons (o := { dst := some 44, op := Op.call { callee := Callee.builtin Builtin.append, args := #[Operand.tmp 22, Operand.tmp 43], argTypes := #[42, 42] }, type := 42, pos := "law.go:19", after := #[{ on := 1, ground := Ground.data }, { on := 22, ground := Ground.data }, { on := 8, ground := Ground.chain }], guard := none }) rfl (fun K hK2 => ?_) AllReadyH.nil
            have hown4 := (own_later2 Hown.out hL3').alloc (.cells #[.int .i64 x.lo, .int .i64 x.hi, .int .i64 x.wet, .int .i64 x.grace] 66)
            have knew := Blk.new w3 66 #[.int .i64 x.lo, .int .i64 x.hi, .int .i64 x.wet, .int .i64 x.grace]
            have hK4 := (hK.later hL3').later (later_alloc (later_refl _) (.cells #[.int .i64 x.lo, .int .i64 x.hi, .int .i64 x.wet, .int .i64 x.grace] 66))
            have hbk4 := (Hbk.out.later hL3').alloc (.cells #[.int .i64 x.lo, .int .i64 x.hi, .int .i64 x.wet, .int .i64 x.grace] 66)
            refine appG_step rfl W2.heap.size _ _ 42 rfl 66 (.agg #[.int .i64 0, .int .i64 0, .int .i64 0, .int .i64 0]) 4 32 Try.underlying42 horse_info rfl (by omega) (.slice Av t kv) t (horsesV (c.horses.take t)) rfl hK4.1 hown4 ⟨w3.heap.size, 0, none⟩ 1 1 [.int .i64 x.lo, .int .i64 x.hi, .int .i64 x.wet, .int .i64 x.grace] rfl rfl (fun j u hu => by rw [add_lit, Nat.zero_add, knew.cell, List.getElem?_toArray]; exact hu) (by simp [Value.oneCell']) (by omega) (by omega) (by omega) ?_
            intro v' w4 hap
            obtain ⟨A', c', hv', _⟩ := own_slice hap.own
            subst hv'
            have hr4 : ∀ g, (Value.slice Av t kv).ownBlock = some g → W2.heap.size ≤ g := fun g hg => (hown4.lt g hg).1
            have hL4 := Later.grown hS4 hap.grown fun g hg => Nat.le_trans hmL.size (hr4 g hg)
            have hK5 := hK4.grown hap.grown hr4
            have hb4' := Blk.of_eq (hap.grown.block g3 hbk4.lt (fun e => by have := hr4 g3 e.symm; omega)) hbk4
            have c24 := hb4'.cell 2
            have f24 := hb4'.frozen 2
            simp only [List.getElem?_toArray, List.getElem?_cons_zero, List.getElem?_cons_succ] at c24
            have Hown5 := hide hap.own
            have Hb4 := hide hb4'
            clear hown4 knew hK4 hbk4 hr4 hap hb4'
            refine hK2.out _ _ hL4 (fun hS5 => ?_)
            clear hK2 K; (try simp only [Act.put, List.setIfInBounds_toArray, List.set_cons_zero, List.set_cons_succ])
            refine wpAnyH_take (i := 24) (v := ?_) rfl (by kernel_rfl) (by kernel_rfl) (by kernel_rfl) (by intro _ _ _ h; first | exact h | exact absurd h.1 (by simp)) (Or.inl ⟨by rfl, ?_⟩) hS5 ?_; rotate_left; (focus (intro X hSX; (try dsimp only at hSX); go_simp; (try with_reducible rfl))); (try simp only [Act.put, List.setIfInBounds_toArray, List.set_cons_zero, List.set_cons_succ])
            refine wpAnyH_ready (rs := [25]) (by kernel_rfl) (by simp) ?_; refine AllReadyH.cons rfl (fun K hK2 => ?_) AllReadyH.nil
            go_simp
            have hS6 := later_set hS5 ⟨g3, 2, none⟩ hlo (.slice A' (t + 1) c')
            have hK6 := hK5.setCell 2 (.slice A' (t + 1) c')
            have hb6 := Hb4.out.set_ 2 (.slice A' (t + 1) c')
            have ho6 := own_block (W' := w4.setCell ⟨g3, 2, none⟩ (.slice A' (t + 1) c')) Hown5.out fun g hg => Below.heap_setCell w4 _ _ g (by have := (Hown5.out.lt g hg).1; show g ≠ g3; omega)
            rw [← Hv.out] at ho6
            have Hb6 := hide hb6
            have Ho6 := hide ho6
            clear hb6 ho6
            refine hK2.out _ _ hS6 (fun _ => ?_)
            clear hK2 K
            refine wpAnyH_done (by kernel_rfl) ?_ _
            gi_wp2_with fail
            go_wp2_with fail
            go_roundw
            case rel => exact ⟨t + 1, A', c', by omega, by go_num, hS6, hK6, Hb6, Ho6⟩
            case measure => simp [intOf]; omega
      · obtain ⟨w5, rfl⟩ : ∃ x, x = wr := ⟨wr, rfl⟩
        have hnt : n1 = t := by omega
        subst hnt
        have hcap1 := own_cap Hown.out
        obtain ⟨hr1, hf1⟩ : RH w5 Av n1 c.horses ∧ Fresh W2 w5 Av := by
          have ho := Hown.out
          rw [List.take_of_length_le (by rw [← Hn1.out]; exact Nat.le_refl _)] at ho
          obtain ⟨A', c', e, hr⟩ := own_slice ho
          injection e with e1 e2 e3
          subst e1
          exact ⟨hr, own_fresh ho⟩
        have hn3 := hc1.lk.len
        have Hn3 := hide hn3
        have Hr1 := hide hr1
        have Hf1 := hide hf1
        have Hcap1 := hide hcap1
        have hg5 : g3 < w5.heap.size := Hbk.out.lt
        have hsz5 := hK.1
        clear hn3 hr1 hf1 hcap1 Hown
        go_wp2_with fail
        go_loopw [5] (fun i wq => ∃ (s : Nat) (Aw : Option Addr) (kw : Nat), s ≤ n3 ∧ i = .int .i64 s ∧ Later w1 wq ∧ Kept g3 w5 wq ∧ Hid (Blk wq g3 45 #[.int .i64 c.closets, .int .i64 c.close, .slice Av n1 kv, .slice A2' n2 k2', .slice Aw s kw]) ∧ Hid (wq.ownsRow w5.heap.size 79 3 (.slice Aw s kw) s (looksV (c.looks.take s)))) (fun i _ => n3 - (intOf i).toNat)
        case atStart => exact ⟨0, none, 0, Nat.zero_le _, rfl, hL, Kept.refl _ _, Hbk, ⟨by simp [looksV], .inl ⟨rfl, rfl⟩⟩⟩
        case round =>
          obtain ⟨s, Aw, kw, hs, rfl, hLq, hKq, Hbq, Howq⟩ := hrel
          by_cases hlt2 : s < n3
          · obtain ⟨b, o, x, rfl, hbl, hx, hx0, hx1, hx2⟩ := hc1.lk.get hlt2
            have hi1 : (s : Int) < n3 := by omega
            have hv := looksV_take hx
            have Hv := hide hv
            have hc2 : ∀ X, Later wr X → X.cell? ⟨g3, 4, none⟩ = some (.slice Aw s kw) := fun X hX => Hbq.out.cells_later X hX 4
            have hk4 : o + s * 3 + 1 + 1 = o + s * 3 + 2 := rfl
            clear hx hv
            go_wp2_with fail
            refine wp_region_held_drew (S := Later w1) (by kernel_rfl) (by simp [hLq]) (fun hS => ?_)
            obtain ⟨w3, hw3⟩ : ∃ W, W = wr.drew := ⟨_, rfl⟩
            have hLr : Later wr w3 := by rw [hw3]; exact later_drew (later_refl _)
            rw [← hw3] at hS ⊢
            clear hw3
            refine wpAnyH_take (i := 0) (v := ?_) rfl (by kernel_rfl) (by kernel_rfl) (by kernel_rfl) (by intro _ _ _ h; first | exact h | exact absurd h.1 (by simp)) (Or.inl ⟨by rfl, ?_⟩) hS ?_; rotate_left; (focus (intro X hSX; (try dsimp only at hSX); go_simp; (try with_reducible rfl))); (try simp only [Act.put, List.setIfInBounds_toArray, List.set_cons_zero, List.set_cons_succ])
            refine wpAnyH_take (i := 2) (v := ?_) rfl (by kernel_rfl) (by kernel_rfl) (by kernel_rfl) (by intro _ _ _ h; first | exact h | exact absurd h.1 (by simp)) (Or.inl ⟨by rfl, ?_⟩) hS ?_; rotate_left; (focus (intro X hSX; (try dsimp only at hSX); go_simp; (try with_reducible rfl))); (try simp only [Act.put, List.setIfInBounds_toArray, List.set_cons_zero, List.set_cons_succ])
            refine wpAnyH_take (i := 3) (v := ?_) rfl (by kernel_rfl) (by kernel_rfl) (by kernel_rfl) (by intro _ _ _ h; first | exact h | exact absurd h.1 (by simp)) (Or.inl ⟨by rfl, ?_⟩) hS ?_; rotate_left; (focus (intro X hSX; (try dsimp only at hSX); go_simp; (try with_reducible rfl))); (try simp only [Act.put, List.setIfInBounds_toArray, List.set_cons_zero, List.set_cons_succ])
            refine wpAnyH_take (i := 4) (v := ?_) rfl (by kernel_rfl) (by kernel_rfl) (by kernel_rfl) (by intro _ _ _ h; first | exact h | exact absurd h.1 (by simp)) (Or.inl ⟨by rfl, ?_⟩) hS ?_; rotate_left; (focus (intro X hSX; (try dsimp only at hSX); go_simp; (try with_reducible rfl))); (try simp only [Act.put, List.setIfInBounds_toArray, List.set_cons_zero, List.set_cons_succ])
            refine wpAnyH_take (i := 5) (v := ?_) rfl (by kernel_rfl) (by kernel_rfl) (by kernel_rfl) (by intro _ _ _ h; first | exact h | exact absurd h.1 (by simp)) (Or.inl ⟨by rfl, ?_⟩) hS ?_; rotate_left; (focus (intro X hSX; (try dsimp only at hSX); go_simp; (try with_reducible rfl))); (try simp only [Act.put, List.setIfInBounds_toArray, List.set_cons_zero, List.set_cons_succ])
            refine wpAnyH_take (i := 6) (v := ?_) rfl (by kernel_rfl) (by kernel_rfl) (by kernel_rfl) (by intro _ _ _ h; first | exact h | exact absurd h.1 (by simp)) (Or.inl ⟨by rfl, ?_⟩) hS ?_; rotate_left; (focus (intro X hSX; (try dsimp only at hSX); go_simp; (try with_reducible rfl))); (try simp only [Act.put, List.setIfInBounds_toArray, List.set_cons_zero, List.set_cons_succ])
            refine wpAnyH_take (i := 7) (v := ?_) rfl (by kernel_rfl) (by kernel_rfl) (by kernel_rfl) (by intro _ _ _ h; first | exact h | exact absurd h.1 (by simp)) (Or.inl ⟨by rfl, ?_⟩) hS ?_; rotate_left; (focus (intro X hSX; (try dsimp only at hSX); go_simp; (try with_reducible rfl))); (try simp only [Act.put, List.setIfInBounds_toArray, List.set_cons_zero, List.set_cons_succ])
            refine wpAnyH_take (i := 8) (v := ?_) rfl (by kernel_rfl) (by kernel_rfl) (by kernel_rfl) (by intro _ _ _ h; first | exact h | exact absurd h.1 (by simp)) (Or.inl ⟨by rfl, ?_⟩) hS ?_; rotate_left; (focus (intro X hSX; (try dsimp only at hSX); go_simp; (try with_reducible rfl))); (try simp only [Act.put, List.setIfInBounds_toArray, List.set_cons_zero, List.set_cons_succ])
            refine wpAnyH_take (i := 9) (v := ?_) rfl (by kernel_rfl) (by kernel_rfl) (by kernel_rfl) (by intro _ _ _ h; first | exact h | exact absurd h.1 (by simp)) (Or.inl ⟨by rfl, ?_⟩) hS ?_; rotate_left; (focus (intro X hSX; (try dsimp only at hSX); go_simp; (try with_reducible rfl))); (try simp only [Act.put, List.setIfInBounds_toArray, List.set_cons_zero, List.set_cons_succ])
            refine wpAnyH_take (i := 10) (v := ?_) rfl (by kernel_rfl) (by kernel_rfl) (by kernel_rfl) (by intro _ _ _ h; first | exact h | exact absurd h.1 (by simp)) (Or.inl ⟨by rfl, ?_⟩) hS ?_; rotate_left; (focus (intro X hSX; (try dsimp only at hSX); go_simp; (try with_reducible rfl))); (try simp only [Act.put, List.setIfInBounds_toArray, List.set_cons_zero, List.set_cons_succ])
            refine wpAnyH_take (i := 11) (v := ?_) rfl (by kernel_rfl) (by kernel_rfl) (by kernel_rfl) (by intro _ _ _ h; first | exact h | exact absurd h.1 (by simp)) (Or.inl ⟨by rfl, ?_⟩) hS ?_; rotate_left; (focus (intro X hSX; (try dsimp only at hSX); go_simp; (try with_reducible rfl))); (try simp only [Act.put, List.setIfInBounds_toArray, List.set_cons_zero, List.set_cons_succ])
            refine wpAnyH_take (i := 12) (v := ?_) rfl (by kernel_rfl) (by kernel_rfl) (by kernel_rfl) (by intro _ _ _ h; first | exact h | exact absurd h.1 (by simp)) (Or.inl ⟨by rfl, ?_⟩) hS ?_; rotate_left; (focus (intro X hSX; (try dsimp only at hSX); go_simp; (try with_reducible rfl))); (try simp only [Act.put, List.setIfInBounds_toArray, List.set_cons_zero, List.set_cons_succ])
            refine wpAnyH_take (i := 13) (v := ?_) rfl (by kernel_rfl) (by kernel_rfl) (by kernel_rfl) (by intro _ _ _ h; first | exact h | exact absurd h.1 (by simp)) (Or.inl ⟨by rfl, ?_⟩) hS ?_; rotate_left; (focus (intro X hSX; (try dsimp only at hSX); go_simp; (try with_reducible rfl))); (try simp only [Act.put, List.setIfInBounds_toArray, List.set_cons_zero, List.set_cons_succ])
            refine wpAnyH_take (i := 14) (v := ?_) rfl (by kernel_rfl) (by kernel_rfl) (by kernel_rfl) (by intro _ _ _ h; first | exact h | exact absurd h.1 (by simp)) (Or.inl ⟨by rfl, ?_⟩) hS ?_; rotate_left; (focus (intro X hSX; (try dsimp only at hSX); go_simp; (try with_reducible rfl))); (try simp only [Act.put, List.setIfInBounds_toArray, List.set_cons_zero, List.set_cons_succ])
            refine wpAnyH_take (i := 15) (v := ?_) rfl (by kernel_rfl) (by kernel_rfl) (by kernel_rfl) (by intro _ _ _ h; first | exact h | exact absurd h.1 (by simp)) (Or.inl ⟨by rfl, ?_⟩) hS ?_; rotate_left; (focus (intro X hSX; (try dsimp only at hSX); go_simp; (try with_reducible rfl))); (try simp only [Act.put, List.setIfInBounds_toArray, List.set_cons_zero, List.set_cons_succ])
            refine wpAnyH_take (i := 16) (v := ?_) rfl (by kernel_rfl) (by kernel_rfl) (by kernel_rfl) (by intro _ _ _ h; first | exact h | exact absurd h.1 (by simp)) (Or.inl ⟨by rfl, ?_⟩) hS ?_; rotate_left; (focus (intro X hSX; (try dsimp only at hSX); go_simp; (try with_reducible rfl))); (try simp only [Act.put, List.setIfInBounds_toArray, List.set_cons_zero, List.set_cons_succ])
            refine wpAnyH_take (i := 17) (v := ?_) rfl (by kernel_rfl) (by kernel_rfl) (by kernel_rfl) (by intro _ _ _ h; first | exact h | exact absurd h.1 (by simp)) (Or.inl ⟨by rfl, ?_⟩) hS ?_; rotate_left; (focus (intro X hSX; (try dsimp only at hSX); go_simp; (try with_reducible rfl))); (try simp only [Act.put, List.setIfInBounds_toArray, List.set_cons_zero, List.set_cons_succ])
            refine wpAnyH_take (i := 18) (v := ?_) rfl (by kernel_rfl) (by kernel_rfl) (by kernel_rfl) (by intro _ _ _ h; first | exact h | exact absurd h.1 (by simp)) (Or.inl ⟨by rfl, ?_⟩) hS ?_; rotate_left; (focus (intro X hSX; (try dsimp only at hSX); go_simp; (try with_reducible rfl))); (try simp only [Act.put, List.setIfInBounds_toArray, List.set_cons_zero, List.set_cons_succ])
            refine wpAnyH_take (i := 19) (v := ?_) rfl (by kernel_rfl) (by kernel_rfl) (by kernel_rfl) (by intro _ _ _ h; first | exact h | exact absurd h.1 (by simp)) (Or.inl ⟨by rfl, ?_⟩) hS ?_; rotate_left; (focus (intro X hSX; (try dsimp only at hSX); go_simp; (try with_reducible rfl))); (try simp only [Act.put, List.setIfInBounds_toArray, List.set_cons_zero, List.set_cons_succ])
            refine wpAnyH_take (i := 20) (v := ?_) rfl (by kernel_rfl) (by kernel_rfl) (by kernel_rfl) (by intro _ _ _ h; first | exact h | exact absurd h.1 (by simp)) (Or.inl ⟨by rfl, ?_⟩) hS ?_; rotate_left; (focus (intro X hSX; (try dsimp only at hSX); go_simp; (try with_reducible rfl))); (try simp only [Act.put, List.setIfInBounds_toArray, List.set_cons_zero, List.set_cons_succ])
            refine wpAnyH_ready (rs := [1, 21]) (by kernel_rfl) (by simp) ?_
            refine AllReadyH.cons rfl (fun K hK2 => ?_) (AllReadyH.cons rfl (fun K hK2 => ?_) AllReadyH.nil)
            · go_simp
              refine hK2.out _ _ hS (fun _ => ?_)
              clear hK2 K; (try simp only [Act.put, List.setIfInBounds_toArray, List.set_cons_zero, List.set_cons_succ])
              refine wpAnyH_ready (rs := [21]) (by kernel_rfl) (by simp) ?_; refine AllReadyH.cons rfl (fun K hK2 => ?_) AllReadyH.nil
              go_simp
              refine hK2.out _ _ (later_alloc hS _) (fun hS4 => ?_)
              clear hK2 K; (try simp only [Act.put, List.setIfInBounds_toArray, List.set_cons_zero, List.set_cons_succ])
              refine wpAnyH_ready (rs := [22]) (by kernel_rfl) (by simp) ?_
              refine AllReadyH.cons (o := { dst := some 75, op := Op.call { callee := Callee.builtin Builtin.append, args := #[Operand.tmp 54, Operand.tmp 74], argTypes := #[43, 43] }, type := 43, pos := "law.go:22", after := #[{ on := 1, ground := Ground.data }, { on := 21, ground := Ground.data }], guard := none }) rfl (fun K hK2 => ?_) AllReadyH.nil
              have hown4 := (own_later2 Howq.out hLr).alloc (.cells #[.int .i64 x.horse, .int .i64 x.minute, .bool x.dry] 79)
              have knew := Blk.new w3 79 #[.int .i64 x.horse, .int .i64 x.minute, .bool x.dry]
              have hK4 := (hKq.later hLr).later (later_alloc (later_refl _) (.cells #[.int .i64 x.horse, .int .i64 x.minute, .bool x.dry] 79))
              have hbk4 := (Hbq.out.later hLr).alloc (.cells #[.int .i64 x.horse, .int .i64 x.minute, .bool x.dry] 79)
              refine appG_step rfl w5.heap.size _ _ 43 rfl 79 (.agg #[.int .i64 0, .int .i64 0, .bool false]) 3 24 Try.underlying43 look_info rfl (by omega) (.slice Aw s kw) s (looksV (c.looks.take s)) rfl hK4.1 hown4 ⟨w3.heap.size, 0, none⟩ 1 1 [.int .i64 x.horse, .int .i64 x.minute, .bool x.dry] rfl rfl (fun j u hu => by rw [add_lit, Nat.zero_add, knew.cell, List.getElem?_toArray]; exact hu) (by simp [Value.oneCell']) (by omega) (by omega) (by omega) ?_
              intro v' w4 hap
              obtain ⟨A', c', hv', _⟩ := own_slice hap.own
              subst hv'
              have hr4 : ∀ g, (Value.slice Aw s kw).ownBlock = some g → w5.heap.size ≤ g := fun g hg => (hown4.lt g hg).1
              have hL4 := Later.grown hS4 hap.grown fun g hg => Nat.le_trans hL.size (hr4 g hg)
              have hK5 := hK4.grown hap.grown hr4
              have hb4' := Blk.of_eq (hap.grown.block g3 hbk4.lt (fun e => by have := hr4 g3 e.symm; omega)) hbk4
              have c24 := hb4'.cell 4
              have f24 := hb4'.frozen 4
              simp only [List.getElem?_toArray, List.getElem?_cons_zero, List.getElem?_cons_succ] at c24
              have Hown5 := hide hap.own
              have Hb4 := hide hb4'
              clear hown4 knew hK4 hbk4 hr4 hap hb4'
              refine hK2.out _ _ hL4 (fun hS5 => ?_)
              clear hK2 K; (try simp only [Act.put, List.setIfInBounds_toArray, List.set_cons_zero, List.set_cons_succ])
              refine wpAnyH_take (i := 23) (v := ?_) rfl (by kernel_rfl) (by kernel_rfl) (by kernel_rfl) (by intro _ _ _ h; first | exact h | exact absurd h.1 (by simp)) (Or.inl ⟨by rfl, ?_⟩) hS5 ?_; rotate_left; (focus (intro X hSX; (try dsimp only at hSX); go_simp; (try with_reducible rfl))); (try simp only [Act.put, List.setIfInBounds_toArray, List.set_cons_zero, List.set_cons_succ])
              refine wpAnyH_ready (rs := [24]) (by kernel_rfl) (by simp) ?_; refine AllReadyH.cons rfl (fun K hK2 => ?_) AllReadyH.nil
              go_simp
              have hS6 := later_set hS5 ⟨g3, 4, none⟩ hlo (.slice A' (s + 1) c')
              have hK6 := hK5.setCell 4 (.slice A' (s + 1) c')
              have hb6 := Hb4.out.set_ 4 (.slice A' (s + 1) c')
              have ho6 := own_block (W' := w4.setCell ⟨g3, 4, none⟩ (.slice A' (s + 1) c')) Hown5.out fun g hg => Below.heap_setCell w4 _ _ g (by have := (Hown5.out.lt g hg).1; show g ≠ g3; omega)
              rw [← Hv.out] at ho6
              have Hb6 := hide hb6
              have Ho6 := hide ho6
              clear hb6 ho6
              refine hK2.out _ _ hS6 (fun _ => ?_)
              clear hK2 K
              refine wpAnyH_done (by kernel_rfl) ?_ _
              gi_wp2_with fail
              go_wp2_with fail
              go_roundw
              case rel => exact ⟨s + 1, A', c', by omega, by go_num, hS6, hK6, Hb6, Ho6⟩
              case measure => simp [intOf]; omega
            · go_simp
              refine hK2.out _ _ (later_alloc hS _) (fun hS4 => ?_)
              clear hK2 K; (try simp only [Act.put, List.setIfInBounds_toArray, List.set_cons_zero, List.set_cons_succ])
              refine wpAnyH_ready (rs := [1]) (by kernel_rfl) (by simp) ?_; refine AllReadyH.cons rfl (fun K hK2 => ?_) AllReadyH.nil
              go_simp
              refine hK2.out _ _ hS4 (fun _ => ?_)
              clear hK2 K; (try simp only [Act.put, List.setIfInBounds_toArray, List.set_cons_zero, List.set_cons_succ])
              refine wpAnyH_ready (rs := [22]) (by kernel_rfl) (by simp) ?_
              refine AllReadyH.cons (o := { dst := some 75, op := Op.call { callee := Callee.builtin Builtin.append, args := #[Operand.tmp 54, Operand.tmp 74], argTypes := #[43, 43] }, type := 43, pos := "law.go:22", after := #[{ on := 1, ground := Ground.data }, { on := 21, ground := Ground.data }], guard := none }) rfl (fun K hK2 => ?_) AllReadyH.nil
              have hown4 := (own_later2 Howq.out hLr).alloc (.cells #[.int .i64 x.horse, .int .i64 x.minute, .bool x.dry] 79)
              have knew := Blk.new w3 79 #[.int .i64 x.horse, .int .i64 x.minute, .bool x.dry]
              have hK4 := (hKq.later hLr).later (later_alloc (later_refl _) (.cells #[.int .i64 x.horse, .int .i64 x.minute, .bool x.dry] 79))
              have hbk4 := (Hbq.out.later hLr).alloc (.cells #[.int .i64 x.horse, .int .i64 x.minute, .bool x.dry] 79)
              refine appG_step rfl w5.heap.size _ _ 43 rfl 79 (.agg #[.int .i64 0, .int .i64 0, .bool false]) 3 24 Try.underlying43 look_info rfl (by omega) (.slice Aw s kw) s (looksV (c.looks.take s)) rfl hK4.1 hown4 ⟨w3.heap.size, 0, none⟩ 1 1 [.int .i64 x.horse, .int .i64 x.minute, .bool x.dry] rfl rfl (fun j u hu => by rw [add_lit, Nat.zero_add, knew.cell, List.getElem?_toArray]; exact hu) (by simp [Value.oneCell']) (by omega) (by omega) (by omega) ?_
              intro v' w4 hap
              obtain ⟨A', c', hv', _⟩ := own_slice hap.own
              subst hv'
              have hr4 : ∀ g, (Value.slice Aw s kw).ownBlock = some g → w5.heap.size ≤ g := fun g hg => (hown4.lt g hg).1
              have hL4 := Later.grown hS4 hap.grown fun g hg => Nat.le_trans hL.size (hr4 g hg)
              have hK5 := hK4.grown hap.grown hr4
              have hb4' := Blk.of_eq (hap.grown.block g3 hbk4.lt (fun e => by have := hr4 g3 e.symm; omega)) hbk4
              have c24 := hb4'.cell 4
              have f24 := hb4'.frozen 4
              simp only [List.getElem?_toArray, List.getElem?_cons_zero, List.getElem?_cons_succ] at c24
              have Hown5 := hide hap.own
              have Hb4 := hide hb4'
              clear hown4 knew hK4 hbk4 hr4 hap hb4'
              refine hK2.out _ _ hL4 (fun hS5 => ?_)
              clear hK2 K; (try simp only [Act.put, List.setIfInBounds_toArray, List.set_cons_zero, List.set_cons_succ])
              refine wpAnyH_take (i := 23) (v := ?_) rfl (by kernel_rfl) (by kernel_rfl) (by kernel_rfl) (by intro _ _ _ h; first | exact h | exact absurd h.1 (by simp)) (Or.inl ⟨by rfl, ?_⟩) hS5 ?_; rotate_left; (focus (intro X hSX; (try dsimp only at hSX); go_simp; (try with_reducible rfl))); (try simp only [Act.put, List.setIfInBounds_toArray, List.set_cons_zero, List.set_cons_succ])
              refine wpAnyH_ready (rs := [24]) (by kernel_rfl) (by simp) ?_; refine AllReadyH.cons rfl (fun K hK2 => ?_) AllReadyH.nil
              go_simp
              have hS6 := later_set hS5 ⟨g3, 4, none⟩ hlo (.slice A' (s + 1) c')
              have hK6 := hK5.setCell 4 (.slice A' (s + 1) c')
              have hb6 := Hb4.out.set_ 4 (.slice A' (s + 1) c')
              have ho6 := own_block (W' := w4.setCell ⟨g3, 4, none⟩ (.slice A' (s + 1) c')) Hown5.out fun g hg => Below.heap_setCell w4 _ _ g (by have := (Hown5.out.lt g hg).1; show g ≠ g3; omega)
              rw [← Hv.out] at ho6
              have Hb6 := hide hb6
              have Ho6 := hide ho6
              clear hb6 ho6
              refine hK2.out _ _ hS6 (fun _ => ?_)
              clear hK2 K
              refine wpAnyH_done (by kernel_rfl) ?_ _
              gi_wp2_with fail
              go_wp2_with fail
              go_roundw
              case rel => exact ⟨s + 1, A', c', by omega, by go_num, hS6, hK6, Hb6, Ho6⟩
              case measure => simp [intOf]; omega
          · have hst : n3 = s := by omega
            subst hst
            have hkr := (Hres.out.later hLq)
            have hke := hkr.row #[.int .i64 c.closets, .int .i64 c.close, .slice Av n1 kv, .slice A2' n2 k2', .slice Aw n3 kw]
            have Hkr := hide hkr
            have Hke := hide hke
            clear hkr hke
            go_wp2_with (first | (refine wpList_load_row rfl _ _ rfl g3 rfl _ _ _ _ Hbq.out Try.underlying45 rfl (by kernel_rfl) ?_) | (refine wpList_store_row rfl _ _ _ rfl (gb + 1) _ rfl rfl _ _ Hkr.out (by kernel_rfl) rfl (by simp [Value.oneCell']) ?_))
            have hs1 := Hs1.out
            have hgb := Hgb.out
            have hk6 := ((Kept.refl (gb + 1) wr).setRow #[.int .i64 c.closets, .int .i64 c.close, .slice Av n1 kv, .slice A2' n2 k2', .slice Aw n3 kw])
            obtain ⟨hr3, hf3⟩ : RL wr Aw n3 c.looks ∧ Fresh w5 wr Aw := by
              have ho := Howq.out
              rw [List.take_of_length_le (by rw [← Hn3.out]; exact Nat.le_refl _)] at ho
              obtain ⟨A', c', e, hr⟩ := own_slice ho
              injection e with e1 e2 e3
              subst e1
              exact ⟨hr, own_fresh ho⟩
            refine bodyPost_ret (results_cell_row (P := Try.prog) (fn := Try.f8) (p := 2) (ty := 45) (by kernel_rfl) _ _ (gb + 1) _ _ _ _ rfl Hke.out Try.underlying45 (by kernel_rfl) (by kernel_rfl)) rfl ⟨_, _, _, _, _, _, rfl, later_setRow (Later.trans hLw hLq) (by omega) _, ⟨?_, ?_, ?_⟩, Hcap1.out, Hmc.out, own_cap Howq.out⟩
            · exact Reads.kept (Reads.kept Hr1.out (by omega) (fun b o e => by have := (Hf1.out b o e).1; omega) hKq) (by omega) (fun b o e => by have := (Hf1.out b o e).1; have := hmL.size; omega) hk6
            · exact Reads.kept (Reads.kept (Reads.kept Hmu.out (by omega) Hma.out hK) (by omega) Hma.out hKq) (by omega) (fun b o e => by have := (Hmn.out b o e).1; omega) hk6
            · exact Reads.kept hr3 (by omega) (fun b o e => by have := (hf3 b o e).1; have := hmL.size; omega) hk6
  · have hbq : ∀ X, Later w1 X → X.cell? ⟨gb, 0, none⟩ = some (.int .i64 c.closets) ∧ X.cell? ⟨gb, 1, none⟩ = some (.int .i64 c.close) ∧ X.cell? ⟨gb, 3, none⟩ = some (.slice A2 n2 k2) := fun X hX => ⟨hbox1 X hX 0, hbox1 X hX 1, hbox1 X hX 3⟩
    clear hbox1
    refine wp_region_held_drew (S := Later w1) (by kernel_rfl) (by simp) (fun hS => ?_)
    refine wpAnyH_take (i := 0) (v := ?_) rfl (by kernel_rfl) (by kernel_rfl) (by kernel_rfl) (by intro _ _ _ h; first | exact h | exact absurd h.1 (by simp)) (Or.inl ⟨by rfl, ?_⟩) hS ?_; rotate_left; (focus (intro X hSX; (try dsimp only at hSX); go_simp; (try with_reducible rfl))); (try simp only [Act.put, List.setIfInBounds_toArray, List.set_cons_zero, List.set_cons_succ])
    refine wpAnyH_take (i := 1) (v := ?_) rfl (by kernel_rfl) (by kernel_rfl) (by kernel_rfl) (by intro _ _ _ h; first | exact h | exact absurd h.1 (by simp)) (Or.inl ⟨by rfl, ?_⟩) hS ?_; rotate_left; (focus (intro X hSX; (try dsimp only at hSX); go_simp; (try with_reducible rfl))); (try simp only [Act.put, List.setIfInBounds_toArray, List.set_cons_zero, List.set_cons_succ])
    refine wpAnyH_take (i := 2) (v := ?_) rfl (by kernel_rfl) (by kernel_rfl) (by kernel_rfl) (by intro _ _ _ h; first | exact h | exact absurd h.1 (by simp)) (Or.inl ⟨by rfl, ?_⟩) hS ?_; rotate_left; (focus (intro X hSX; (try dsimp only at hSX); go_simp; (try with_reducible rfl))); (try simp only [Act.put, List.setIfInBounds_toArray, List.set_cons_zero, List.set_cons_succ])
    refine wpAnyH_take (i := 3) (v := ?_) rfl (by kernel_rfl) (by kernel_rfl) (by kernel_rfl) (by intro _ _ _ h; first | exact h | exact absurd h.1 (by simp)) (Or.inl ⟨by rfl, ?_⟩) hS ?_; rotate_left; (focus (intro X hSX; (try dsimp only at hSX); go_simp; (try with_reducible rfl))); (try simp only [Act.put, List.setIfInBounds_toArray, List.set_cons_zero, List.set_cons_succ])
    refine wpAnyH_take (i := 4) (v := ?_) rfl (by kernel_rfl) (by kernel_rfl) (by kernel_rfl) (by intro _ _ _ h; first | exact h | exact absurd h.1 (by simp)) (Or.inl ⟨by rfl, ?_⟩) hS ?_; rotate_left; (focus (intro X hSX; (try dsimp only at hSX); go_simp; (try with_reducible rfl))); (try simp only [Act.put, List.setIfInBounds_toArray, List.set_cons_zero, List.set_cons_succ])
    refine wpAnyH_take (i := 5) (v := ?_) rfl (by kernel_rfl) (by kernel_rfl) (by kernel_rfl) (by intro _ _ _ h; first | exact h | exact absurd h.1 (by simp)) (Or.inl ⟨by rfl, ?_⟩) hS ?_; rotate_left; (focus (intro X hSX; (try dsimp only at hSX); go_simp; (try with_reducible rfl))); (try simp only [Act.put, List.setIfInBounds_toArray, List.set_cons_zero, List.set_cons_succ])
    refine wpAnyH_ready (rs := [6, 8]) (by kernel_rfl) (by simp) ?_
    refine AllReadyH.cons rfl (fun K hK => ?_) (AllReadyH.cons rfl (fun K hK => ?_) AllReadyH.nil)
    · go_simp
      refine (list_calls _ (hc1.hu.later hS) (by omega)).mono ?_
      rintro e w2 ⟨A, n, k, rfl, hL2, hu, hcap, hnew⟩
      have hn := hu.len
      rw [← hc1.hu.len] at hn
      subst hn
      refine hK.out _ _ (Later.trans hS hL2) (fun hS2 => ?_)
      clear hK K; (try simp only [Act.put, List.setIfInBounds_toArray, List.set_cons_zero, List.set_cons_succ])
      refine wpAnyH_take (i := 7) (v := ?_) rfl (by kernel_rfl) (by kernel_rfl) (by kernel_rfl) (by intro _ _ _ h; first | exact h | exact absurd h.1 (by simp)) (Or.inl ⟨by rfl, ?_⟩) hS2 ?_; rotate_left; (focus (intro X hSX; (try dsimp only at hSX); go_simp; (try with_reducible rfl))); (try simp only [Act.put, List.setIfInBounds_toArray, List.set_cons_zero, List.set_cons_succ])
      refine wpAnyH_ready (rs := [8]) (by kernel_rfl) (by simp) ?_; refine AllReadyH.cons rfl (fun K hK => ?_) AllReadyH.nil
      go_simp
      refine hK.out _ _ (later_alloc hS2 _) (fun hS3 => ?_)
      clear hK K; (try simp only [Act.put, List.setIfInBounds_toArray, List.set_cons_zero, List.set_cons_succ])
      have kb := Blk.new w2 45 #[.int .i64 0, .int .i64 0, .slice none 0 0, .slice none 0 0, .slice none 0 0]
      have hm := clMade (c := c) hS3 (by have := hS2.size; omega) kb (hu.later (later_alloc (later_refl _) _)) hcap (fun b o e => ⟨(hnew b o e).1, by have := (hnew b o e).2; simp; omega⟩) (fun b o e => by have := (hnew b o e).2; omega)
      refine wpAnyH_ready (rs := [9]) (by kernel_rfl) (by simp) ?_
      refine AllReadyH.cons (o := { dst := none, op := Op.store 45 (Operand.tmp 3) (Operand.tmp 13), type := 0, pos := "law.go:17", after := #[{ on := 8, ground := Ground.data }, { on := 7, ground := Ground.data }, { on := 6, ground := Ground.chain }, { on := 0, ground := Ground.phase }, { on := 1, ground := Ground.phase }, { on := 2, ground := Ground.phase }, { on := 3, ground := Ground.phase }, { on := 4, ground := Ground.phase }, { on := 5, ground := Ground.phase }, { on := 6, ground := Ground.phase }, { on := 7, ground := Ground.phase }, { on := 8, ground := Ground.phase }], guard := none }) rfl (fun K hK => ?_) AllReadyH.nil
      refine store_row_step rfl _ _ _ rfl _ _ rfl rfl 45 _ kb (by kernel_rfl) rfl (by simp [Value.oneCell']) ?_
      refine hK.out _ _ hm.later (fun _ => ?_)
      clear hK K; (try simp only [Act.put, List.setIfInBounds_toArray, List.set_cons_zero, List.set_cons_succ])
      refine wpAnyH_done (by kernel_rfl) ?_ _
      exact ⟨rfl, _, _, _, hm, rfl⟩
    · go_simp
      refine hK.out _ _ (later_alloc hS _) (fun hS2 => ?_)
      clear hK K; (try simp only [Act.put, List.setIfInBounds_toArray, List.set_cons_zero, List.set_cons_succ])
      refine wpAnyH_ready (rs := [6]) (by kernel_rfl) (by simp) ?_; refine AllReadyH.cons rfl (fun K hK => ?_) AllReadyH.nil
      go_simp
      refine (list_calls _ (hc1.hu.later hS2) (by omega)).mono ?_
      rintro e w2 ⟨A, n, k, rfl, hL2, hu, hcap, hnew⟩
      have hn := hu.len
      rw [← hc1.hu.len] at hn
      subst hn
      refine hK.out _ _ (Later.trans hS2 hL2) (fun hS3 => ?_)
      clear hK K; (try simp only [Act.put, List.setIfInBounds_toArray, List.set_cons_zero, List.set_cons_succ])
      refine wpAnyH_take (i := 7) (v := ?_) rfl (by kernel_rfl) (by kernel_rfl) (by kernel_rfl) (by intro _ _ _ h; first | exact h | exact absurd h.1 (by simp)) (Or.inl ⟨by rfl, ?_⟩) hS3 ?_; rotate_left; (focus (intro X hSX; (try dsimp only at hSX); go_simp; (try with_reducible rfl))); (try simp only [Act.put, List.setIfInBounds_toArray, List.set_cons_zero, List.set_cons_succ])
      have kb := (Blk.new w1 45 #[.int .i64 0, .int .i64 0, .slice none 0 0, .slice none 0 0, .slice none 0 0]).later (Later.trans (later_drew (later_refl _)) hL2)
      have hm := clMade (c := c) hS3 (Nat.le_refl _) kb hu hcap (fun b o e => ⟨by have := (hnew b o e).1; simp at this; omega, (hnew b o e).2⟩) (fun b o e => by have := (hnew b o e).1; simp at this; omega)
      refine wpAnyH_ready (rs := [9]) (by kernel_rfl) (by simp) ?_
      refine AllReadyH.cons (o := { dst := none, op := Op.store 45 (Operand.tmp 3) (Operand.tmp 13), type := 0, pos := "law.go:17", after := #[{ on := 8, ground := Ground.data }, { on := 7, ground := Ground.data }, { on := 6, ground := Ground.chain }, { on := 0, ground := Ground.phase }, { on := 1, ground := Ground.phase }, { on := 2, ground := Ground.phase }, { on := 3, ground := Ground.phase }, { on := 4, ground := Ground.phase }, { on := 5, ground := Ground.phase }, { on := 6, ground := Ground.phase }, { on := 7, ground := Ground.phase }, { on := 8, ground := Ground.phase }], guard := none }) rfl (fun K hK => ?_) AllReadyH.nil
      refine store_row_step rfl _ _ _ rfl _ _ rfl rfl 45 _ kb (by kernel_rfl) rfl (by simp [Value.oneCell']) ?_
      refine hK.out _ _ hm.later (fun _ => ?_)
      clear hK K; (try simp only [Act.put, List.setIfInBounds_toArray, List.set_cons_zero, List.set_cons_succ])
      refine wpAnyH_done (by kernel_rfl) ?_ _
      exact ⟨rfl, _, _, _, hm, rfl⟩
end Go.Proofs.Ytnlbgaippnjmiaa

/- awake: the law's examples run. -/
namespace Go.Proofs.Ytnlbgaippnjmiaa
open Go Go.RowKit
attribute [local go_sem] later_alloc2 later_alloc3 later_alloc4

theorem ex_playErr : playErr (twoC 0 4) [0, 1] [21, 33] = 0 := by kernel_rfl
theorem ex_playL : playL (twoC 0 4) [0, 1] [21, 33] = [25, 36] := by kernel_rfl
theorem ex_right : rightOut (twoC 0 4) [0, 1] 0 25 = (3, 0) := by kernel_rfl
theorem ex_good : goodOut (twoC 0 4) [0, 1] 1 = (36, 37, 0) := by kernel_rfl
theorem ex_stuck : stuckOut (twoC 0 2) [0, 2] = (1, 0) := by kernel_rfl
theorem ex_first : firstOut (twoC 3 4) = (2, 0) := by kernel_rfl
theorem ex_leave : leaveOut (twoC 3 4) = [2] := by kernel_rfl
theorem ex_fault : fault (twoC 3 4) = 0 := by kernel_rfl
theorem ex_best : bestOut (twoC 0 4) = ([0, 2], 33, 0) := by kernel_rfl
theorem ex_ask : askOut (twoC 0 4) = (1, 34, 6, 0) := by kernel_rfl

theorem two_i64 : i64 3 := by unfold i64; omega
/-- two's answer is the closet -/
def IsTwo (looks : Nat) (grace : Int) (W : World) (v : Value) : Prop :=
  ∃ A1 k1 A2 k2 A3 k3, v = .agg #[.int .i64 3, .int .i64 60, .slice A1 2 k1, .slice A2 2 k2, .slice A3 looks k3] ∧ CV W (twoC looks grace) A1 2 A2 2 A3 looks ∧ 2 ≤ k2 ∧ looks ≤ k3
/-- a list's answer -/
def IsList (l : List Int) (W : World) (v : Value) : Prop := ∃ A k, v = .slice A l.length k ∧ RI W A l.length l ∧ l.length ≤ k
theorem IsTwo.later {looks : Nat} {grace : Int} {W X : World} {v : Value} (h : IsTwo looks grace W v) (k : Later W X) : IsTwo looks grace X v := by
  obtain ⟨A1, k1, A2, k2, A3, k3, e, hc, h1, h2⟩ := h
  exact ⟨A1, k1, A2, k2, A3, k3, e, hc.later k, h1, h2⟩
theorem IsList.later {l : List Int} {W X : World} {v : Value} (h : IsList l W v) (k : Later W X) : IsList l X v := by
  obtain ⟨A, n, e, hr, h1⟩ := h
  exact ⟨A, n, e, hr.later k, h1⟩
theorem list_is {l : List Int} {w w' : World} {e : Ending} (h : ListPost l w e w') : ∃ v, e = .returned v ∧ Later w w' ∧ IsList l w' v := by
  obtain ⟨A, n, k, e, hL, hr, hk, _⟩ := h
  have hn : n = l.length := hr.len
  subst hn
  exact ⟨_, e, hL, A, k, rfl, hr, hk⟩
section
variable {W : World} {v p d : Value}
theorem good_is (h : IsTwo 0 4 W v) (hp : IsList [0, 1] W p) : Calls Try.prog 12 #[v, p, .int .i64 1] W fun e w' => e = .returned (.tuple #[.agg #[.int .i64 36, .int .i64 37], .int .i64 0]) ∧ Later W w' := by
  obtain ⟨A1, k1, A2, k2, A3, k3, rfl, hc, h1, h2⟩ := h
  obtain ⟨Ap, kp, rfl, hp, hkp⟩ := hp
  have := GoodP_calls (k1 := k1) (k2 := k2) (k3 := k3) (c := twoC 0 4) (h := 1) W hc two_i64 (by omega) (by omega) (by omega) h1 hp hkp (by simp)
  rw [ex_good] at this
  exact this
theorem best_is (h : IsTwo 0 4 W v) : Calls Try.prog 7 #[v] W fun e w' => ∃ r, e = .returned (.tuple #[r, .int .i64 33, .int .i64 0]) ∧ Later W w' ∧ IsList [0, 2] w' r := by
  obtain ⟨A1, k1, A2, k2, A3, k3, rfl, hc, h1, h2⟩ := h
  refine (BestP_calls (c := twoC 0 4) W hc two_i64 (by omega) (by omega) (by omega) h1).mono fun e w' h => ?_
  obtain ⟨A, n, k, e1, hL, hr, hk, _⟩ := h
  rw [ex_best] at hr e1
  have hn : n = 2 := hr.len
  subst hn
  exact ⟨_, e1, hL, A, k, rfl, hr, hk⟩
end
end Go.Proofs.Ytnlbgaippnjmiaa

/- awake: walk. -/
namespace Go.Proofs.Ytnlbgaippnjmiaa
open Go Go.RowKit
attribute [local go_sem] later_alloc2 later_alloc3 later_alloc4
theorem newList2 (w : World) (a b : Int) : IsList [a, b] (w.alloc (.cells #[.int .i64 a, .int .i64 b] 3)) (.slice (some ⟨w.heap.size, 0, none⟩) 2 2) :=
  ⟨_, _, rfl, (Blk.newAt rfl _ _).reads (xs := ints [a, b]) rfl fun j u hu => by simpa [ints] using hu, by simp⟩
theorem newList1 (w : World) (a : Int) : IsList [a] (w.alloc (.cells #[.int .i64 a] 3)) (.slice (some ⟨w.heap.size, 0, none⟩) 1 1) :=
  ⟨_, _, rfl, (Blk.newAt rfl _ _).reads (xs := ints [a]) rfl fun j u hu => by simpa [ints] using hu, by simp⟩
end Go.Proofs.Ytnlbgaippnjmiaa

/- The arguments of the laws of chapter 04, opened. -/
namespace Go.Proofs.Ytnlbgaippnjmiaa
open Go Go.RowKit Go.ChangeShapes Go.WideShapes Go.Deep Go.Joins

theorem list_of {α : Type} {P : Nat → α → Prop} : ∀ (n : Nat), (∀ i, i < n → ∃ x, P i x) → ∃ l : List α, l.length = n ∧ ∀ i x, l[i]? = some x → P i x
  | 0, _ => ⟨[], rfl, fun i x h => by simp at h⟩
  | n + 1, h => by
    obtain ⟨l, hl, hP⟩ := list_of n (fun i hi => h i (by omega))
    obtain ⟨x, hx⟩ := h n (by omega)
    refine ⟨l ++ [x], by simp [hl], fun i y hy => ?_⟩
    rcases Nat.lt_or_ge i n with hi | hi
    · rw [List.getElem?_append_left (by omega)] at hy; exact hP i y hy
    · have hin : i = n := by have := (List.getElem?_eq_some_iff.1 hy).1; simp at this; omega
      subst hin
      rw [← hl, List.getElem?_concat_length] at hy
      injection hy with hy; subst hy; exact hx
theorem reads_of {α : Type} {w : World} {a : Addr} {n size : Nat} (f : List α → List Value) (cells : α → List Value) (hs : 0 < size) (hf : ∀ l : List α, (f l).length = l.length * size) (hc : ∀ x, (cells x).length = size)
    (hg : ∀ (l : List α) (k j : Nat) (x : α), l[k]? = some x → j < size → (f l)[k * size + j]? = (cells x)[j]?)
    {l : List α} (hl : l.length = n) (h : ∀ i x, l[i]? = some x → ∀ j, j < size → w.cell? (a.add (i * size + j)) = (cells x)[j]?) : Reads w w.heap.size size (some a) n (f l) := by
  have hall : ∀ (j : Nat) (u : Value), (f l)[j]? = some u → w.cell? (a.add j) = some u := fun j u hu => by
    have hj := (List.getElem?_eq_some_iff.1 hu).1
    rw [hf] at hj
    have hdv : j / size < l.length := (Nat.div_lt_iff_lt_mul hs).2 hj
    have hm : j % size < size := Nat.mod_lt _ hs
    have he : j / size * size + j % size = j := by rw [Nat.mul_comm]; exact Nat.div_add_mod j size
    have h1 := hg l (j / size) (j % size) _ (List.getElem?_eq_getElem hdv) hm
    have h2 := h (j / size) _ (List.getElem?_eq_getElem hdv) (j % size) hm
    rw [he] at h1 h2
    rw [h2, ← h1, hu]
  refine ⟨by rw [hf, hl], fun hn => ⟨a, rfl, ?_, hall⟩⟩
  have hl0 : 0 < (f l).length := by rw [hf, hl]; exact Nat.mul_pos hn hs
  have h0 := hall 0 _ (List.getElem?_eq_getElem hl0)
  have := World.block_lt_of_cell? _ _ h0
  simpa [Addr.add] using this
section
variable {H : Type} {enc : TypeId × Value → H} {w : World}

theorem open_ints_ {v : Value} {fuel : Nat} {x : DataW H × List MemPlace} (h : DataW.trod enc Try.prog w 0 (fun _ => true) true fuel 23 [v] = some x) :
    ∃ A n k l, v = .slice A n k ∧ RI w A n l ∧ n ≤ maxLen := by
  rcases open_ints Try.underlying23 Try.underlying3 (by kernel_rfl) h with ⟨hc, _⟩ | ⟨a, len, cap, zs, hc, _, hl, hm, hz, _, hcell, _⟩
  · injection hc with hc
    exact ⟨none, 0, 0, [], hc, RI.nil, by simp [maxLen]⟩
  · injection hc with hc
    simp only [if_true] at hz
    refine ⟨some a, len, cap, zs.take len, hc, ⟨by simp [ints]; omega, fun hn => ⟨a, rfl, ?_, fun j u hu => ?_⟩⟩, Nat.le_trans hl hm⟩
    · have := World.block_lt_of_cell? _ _ (hcell 0 (by omega))
      simpa [Addr.add] using this
    · have hj := (List.getElem?_eq_some_iff.1 hu).1
      simp [ints] at hj
      rw [hcell j (by omega)]
      simp only [ints, List.getElem?_map, List.getElem?_take] at hu
      rw [if_pos (by omega), List.getElem?_eq_getElem (by omega)] at hu
      simp only [Option.map_some] at hu
      rw [← hu, List.getD_eq_getElem?_getD, List.getElem?_eq_getElem (by omega)]
      rfl
theorem cells_range : (Try.prog).cellsOf 34 = 2 := by kernel_rfl
theorem cells_horse : (Try.prog).cellsOf 36 = 4 := by kernel_rfl
theorem cells_look : (Try.prog).cellsOf 64 = 3 := by kernel_rfl
theorem cells_int : (Try.prog).cellsOf 3 = 1 := by kernel_rfl
theorem cells_bool : (Try.prog).cellsOf 4 = 1 := by kernel_rfl
set_option maxRecDepth 100000 in
theorem horse_cells {cs : List Value} {n : Nat} {x : DataW H × List MemPlace} (h : DataW.trod enc Try.prog w 0 (fun _ => true) true n 36 cs = some x) : ∃ r : Horse, cs = r.cells := by
  obtain ⟨xs, m, _, _, hlen, hxl, hf⟩ := DataW.trod_struct Try.underlying36 h
  rw [cells_horse] at hlen
  match cs, hlen with
  | [c0, c1, c2, c3], _ =>
    match xs, hxl with
    | [y0, y1, y2], _ =>
      have f0 := hf 0 _ rfl
      have f1 := hf 1 _ rfl
      have f2 := hf 2 _ rfl
      simp [cells_range, cells_int] at f0 f1 f2
      obtain ⟨xs', m', _, _, _, hxl', hf'⟩ := DataW.trod_struct Try.underlying34 f0
      match xs', hxl' with
      | [z0, z1], _ =>
        have g0 := hf' 0 _ rfl
        have g1 := hf' 1 _ rfl
        simp [cells_int] at g0 g1
        obtain ⟨a, ha, _⟩ := DataW.trod_int Try.underlying3 g0
        obtain ⟨b, hb, _⟩ := DataW.trod_int Try.underlying3 g1
        obtain ⟨d, hd, _⟩ := DataW.trod_int Try.underlying3 f1
        obtain ⟨e, he, _⟩ := DataW.trod_int Try.underlying3 f2
        injection ha with ha; injection hb with hb; injection hd with hd; injection he with he
        exact ⟨⟨a, b, d, e⟩, by simp [Horse.cells, ha, hb, hd, he]⟩
set_option maxRecDepth 100000 in
theorem look_cells {cs : List Value} {n : Nat} {x : DataW H × List MemPlace} (h : DataW.trod enc Try.prog w 0 (fun _ => true) true n 64 cs = some x) : ∃ r : Look, cs = r.cells := by
  obtain ⟨xs, m, _, _, hlen, hxl, hf⟩ := DataW.trod_struct Try.underlying64 h
  rw [cells_look] at hlen
  match cs, hlen with
  | [c0, c1, c2], _ =>
    match xs, hxl with
    | [y0, y1, y2], _ =>
      have f0 := hf 0 _ rfl
      have f1 := hf 1 _ rfl
      have f2 := hf 2 _ rfl
      simp [cells_bool, cells_int] at f0 f1 f2
      obtain ⟨a, ha, _⟩ := DataW.trod_int Try.underlying3 f0
      obtain ⟨b, hb, _⟩ := DataW.trod_int Try.underlying3 f1
      obtain ⟨d, hd, _⟩ := DataW.trod_bool Try.underlying4 f2
      injection ha with ha; injection hb with hb; injection hd with hd
      exact ⟨⟨a, b, d⟩, by simp [Look.cells, ha, hb, hd]⟩
set_option maxRecDepth 100000 in
theorem open_horses_ {v : Value} {fuel : Nat} {x : DataW H × List MemPlace} (h : DataW.trod enc Try.prog w 0 (fun _ => true) true fuel 22 [v] = some x) :
    ∃ A n k l, v = .slice A n k ∧ RH w A n l ∧ n ≤ maxLen := by
  rcases open_slice Try.underlying22 h with ⟨hc, _⟩ | ⟨a, len, cap, m, n, D, Pl, hc, _, hl, hm, hmm, _, hi⟩
  · injection hc with hc
    exact ⟨none, 0, 0, [], hc, ⟨rfl, fun h => absurd h (by omega)⟩, by simp [maxLen]⟩
  · injection hc with hc
    simp only [if_true] at hmm
    rw [cells_horse] at hi
    obtain ⟨l, hl1, hl2⟩ := list_of (P := fun i (r : Horse) => ∀ j, j < 4 → w.cell? (a.add (i * 4 + j)) = r.cells[j]?) len (fun i hi' => by
      obtain ⟨cs', hcs, ht⟩ := hi i (by omega)
      obtain ⟨r, rfl⟩ := horse_cells ht
      obtain ⟨_, _, hat⟩ := World.cells?_some hcs
      exact ⟨r, fun j hj => by rw [← Go.Deep.add_add]; exact hat j hj⟩)
    exact ⟨some a, len, cap, l, hc, reads_of horsesV Horse.cells (by omega) horsesV_length (fun x => rfl) (fun l k j x h hj => horsesV_get l k j x h hj) hl1 hl2, Nat.le_trans hl hm⟩
set_option maxRecDepth 100000 in
theorem open_looks_ {v : Value} {fuel : Nat} {x : DataW H × List MemPlace} (h : DataW.trod enc Try.prog w 0 (fun _ => true) true fuel 24 [v] = some x) :
    ∃ A n k l, v = .slice A n k ∧ RL w A n l ∧ n ≤ maxLen := by
  rcases open_slice Try.underlying24 h with ⟨hc, _⟩ | ⟨a, len, cap, m, n, D, Pl, hc, _, hl, hm, hmm, _, hi⟩
  · injection hc with hc
    exact ⟨none, 0, 0, [], hc, ⟨rfl, fun h => absurd h (by omega)⟩, by simp [maxLen]⟩
  · injection hc with hc
    simp only [if_true] at hmm
    rw [cells_look] at hi
    obtain ⟨l, hl1, hl2⟩ := list_of (P := fun i (r : Look) => ∀ j, j < 3 → w.cell? (a.add (i * 3 + j)) = r.cells[j]?) len (fun i hi' => by
      obtain ⟨cs', hcs, ht⟩ := hi i (by omega)
      obtain ⟨r, rfl⟩ := look_cells ht
      obtain ⟨_, _, hat⟩ := World.cells?_some hcs
      exact ⟨r, fun j hj => by rw [← Go.Deep.add_add]; exact hat j hj⟩)
    exact ⟨some a, len, cap, l, hc, reads_of looksV Look.cells (by omega) looksV_length (fun x => rfl) (fun l k j x h hj => looksV_get l k j x h hj) hl1 hl2, Nat.le_trans hl hm⟩
theorem cells_closet : (Try.prog).cellsOf 26 = 5 := by kernel_rfl
theorem cells_horses : (Try.prog).cellsOf 22 = 1 := by kernel_rfl
theorem cells_ints : (Try.prog).cellsOf 23 = 1 := by kernel_rfl
theorem cells_looks : (Try.prog).cellsOf 24 = 1 := by kernel_rfl
set_option maxRecDepth 100000 in
theorem open_closet_ {r : Reach} {b0 : Nat} {v : Value} {d : DataW H} {p : List MemPlace} (hv : Value.okWide Try.prog w r b0 26 v) (h : DataW.Trod enc Try.prog w 0 (fun _ => true) true 26 v d p) :
    ∃ (c : Clo) (A1 : Option Addr) (n1 k1 : Nat) (A2 : Option Addr) (n2 k2 : Nat) (A3 : Option Addr) (n3 k3 : Nat), v = (.agg #[.int .i64 c.closets, .int .i64 c.close, .slice A1 n1 k1, .slice A2 n2 k2, .slice A3 n3 k3]) ∧ CV w c A1 n1 A2 n2 A3 n3 ∧ i64 c.closets ∧ n1 ≤ maxLen ∧ n2 ≤ maxLen ∧ n3 ≤ maxLen := by
  obtain ⟨cs, rfl, hsz⟩ := okWide_struct Try.underlying26 hv
  rw [cells_closet] at hsz
  obtain ⟨fuel, hf0⟩ := h
  obtain ⟨cs⟩ := cs
  match cs, hsz with
  | [c0, c1, c2, c3, c4], _ =>
    obtain ⟨xs, m, _, _, _, hxl, hf⟩ := DataW.trod_struct Try.underlying26 hf0
    match xs, hxl with
    | [y0, y1, y2, y3, y4], _ =>
      have f0 := hf 0 _ rfl
      have f1 := hf 1 _ rfl
      have f2 := hf 2 _ rfl
      have f3 := hf 3 _ rfl
      have f4 := hf 4 _ rfl
      simp [Value.cells, cells_int, cells_horses, cells_ints, cells_looks] at f0 f1 f2 f3 f4
      obtain ⟨a, ha, _, wa⟩ := DataW.trod_int Try.underlying3 f0
      obtain ⟨b, hb, _, _⟩ := DataW.trod_int Try.underlying3 f1
      obtain ⟨A1, n1, k1, l1, rfl, h1, m1⟩ := open_horses_ f2
      obtain ⟨A2, n2, k2, l2, rfl, h2, m2⟩ := open_ints_ f3
      obtain ⟨A3, n3, k3, l3, rfl, h3, m3⟩ := open_looks_ f4
      injection ha with ha; injection hb with hb
      subst ha hb
      exact ⟨⟨a, b, l1, l2, l3⟩, A1, n1, k1, A2, n2, k2, A3, n3, k3, rfl, ⟨h1, h2, h3⟩, bounds_i64 wa, m1, m2, m3⟩
end
end Go.Proofs.Ytnlbgaippnjmiaa

/- More arguments, opened: lists, numbers, words. -/
namespace Go.Proofs.Ytnlbgaippnjmiaa
open Go Go.RowKit Go.ChangeShapes Go.WideShapes Go.Deep Go.Joins

set_option maxRecDepth 100000
/-- a list of words (uint16) -/
def RW (w : World) (A : Option Addr) (n : Nat) (l : List Nat) : Prop := Reads w w.heap.size 1 A n (l.map fun (x : Nat) => Value.int .u16 (x : Int)) ∧ ∀ x ∈ l, x < 65536
theorem RW.later {w W : World} {A : Option Addr} {n : Nat} {l : List Nat} (h : RW w A n l) (k : Later w W) : RW W A n l := ⟨Reads.later h.1 k, h.2⟩
theorem RW.len {w : World} {A : Option Addr} {n : Nat} {l : List Nat} (h : RW w A n l) : n = l.length := by have := h.1.1; simp at this; omega
theorem RW.get {w : World} {A : Option Addr} {n : Nat} {l : List Nat} (h : RW w A n l) {k : Nat} (hk : k < n) :
    ∃ b o x, A = some ⟨b, o, none⟩ ∧ b < w.heap.size ∧ x < 65536 ∧ ∀ W, Later w W → W.cell? ⟨b, o + k, none⟩ = some (.int .u16 (x : Nat)) := by
  obtain ⟨b, o, e, hb, hc⟩ := Reads.lit h.1 (by omega) (by omega)
  have hl : k < l.length := by have := h.len; omega
  exact ⟨b, o, l[k], e, hb, h.2 _ (List.getElem_mem hl), fun W k' => cell_later (hc k _ (by simp [List.getElem?_eq_getElem hl])) k' hb⟩
section
variable {H : Type} {enc : TypeId × Value → H} {w : World}
theorem open_list_ {r : Reach} {b0 : Nat} {v : Value} {d : DataW H} {p : List MemPlace} (hv : Value.okWide Try.prog w r b0 23 v) (h : DataW.Trod enc Try.prog w 0 (fun _ => true) true 23 v d p) :
    ∃ A n k l, v = .slice A n k ∧ RI w A n l ∧ n ≤ maxLen := by
  obtain ⟨A, n, k, rfl⟩ := okWide_slice Try.underlying23 hv
  obtain ⟨f, hf⟩ := h
  exact open_ints_ hf
theorem wf_lo {k : IntKind} {n : Int} (h : (Lit.int k n).wf = true) : k.min ≤ n ∧ n ≤ k.max := by
  simp [Lit.wf] at h; omega
theorem open_int_ {r : Reach} {b0 : Nat} {v : Value} {d : DataW H} {p : List MemPlace} (hv : Value.okWide Try.prog w r b0 3 v) (h : DataW.Trod enc Try.prog w 0 (fun _ => true) true 3 v d p) :
    ∃ n, v = .int .i64 n ∧ i64 n := by
  obtain ⟨n, rfl⟩ := okWide_int Try.underlying3 hv
  obtain ⟨f, hf⟩ := h
  obtain ⟨m, hm, _, hw⟩ := DataW.trod_int Try.underlying3 hf
  simp [Value.cells] at hm
  subst hm
  exact ⟨n, rfl, bounds_i64 hw⟩
theorem open_u8_ {r : Reach} {b0 : Nat} {v : Value} {d : DataW H} {p : List MemPlace} (hv : Value.okWide Try.prog w r b0 5 v) (h : DataW.Trod enc Try.prog w 0 (fun _ => true) true 5 v d p) :
    ∃ n : Nat, v = .int .u8 (n : Int) ∧ n < 256 := by
  obtain ⟨n, rfl⟩ := okWide_int Try.underlying5 hv
  obtain ⟨f, hf⟩ := h
  obtain ⟨m, hm, _, hw⟩ := DataW.trod_int Try.underlying5 hf
  simp [Value.cells] at hm
  subst hm
  have hw2 := wf_lo hw
  simp [IntKind.min, IntKind.max, IntKind.bits, IntKind.signed] at hw2
  exact ⟨n.toNat, by rw [Int.toNat_of_nonneg hw2.1], by omega⟩
set_option maxRecDepth 100000 in
theorem open_look_ {r : Reach} {b0 : Nat} {v : Value} {d : DataW H} {p : List MemPlace} (hv : Value.okWide Try.prog w r b0 64 v) (h : DataW.Trod enc Try.prog w 0 (fun _ => true) true 64 v d p) :
    ∃ x : Look, v = .agg #[.int .i64 x.horse, .int .i64 x.minute, .bool x.dry] := by
  obtain ⟨cs, rfl, hsz⟩ := okWide_struct Try.underlying64 hv
  obtain ⟨f, hf⟩ := h
  obtain ⟨x, hx⟩ := look_cells (cs := (Value.agg cs).cells.toList) hf
  refine ⟨x, ?_⟩
  obtain ⟨cs⟩ := cs
  simp [Value.cells, Look.cells] at hx
  rw [hx]
end
end Go.Proofs.Ytnlbgaippnjmiaa

/- Pigeons: plain lemmas on lists of distinct numbers. -/
namespace Go.Proofs.Ytnlbgaippnjmiaa
theorem erase_nodup {q : List Int} (h : q.Nodup) (x : Int) : (q.erase x).Nodup := List.Nodup.erase x h
theorem pigeon : ∀ (m : Nat) (q : List Int), q.Nodup → q.length < m → ∃ f : Nat, f < m ∧ (f : Int) ∉ q
  | 0, q, _, h => by omega
  | m + 1, q, hn, h => by
    by_cases hm : (m : Int) ∈ q
    · have hl := List.length_erase_of_mem hm
      have hpos := List.length_pos_of_mem hm
      obtain ⟨f, hf, hnf⟩ := pigeon m (q.erase (m : Int)) (erase_nodup hn _) (by omega)
      refine ⟨f, by omega, fun hq => hnf ?_⟩
      exact (List.mem_erase_of_ne (by omega)).2 hq
    · exact ⟨m, by omega, hm⟩
theorem pigeon_le : ∀ (m : Nat) (q : List Int), q.Nodup → (∀ x ∈ q, 0 ≤ x ∧ x < (m : Int)) → q.length ≤ m
  | 0, q, _, h => by
    cases q with
    | nil => simp
    | cons x q => have := h x List.mem_cons_self; omega
  | m + 1, q, hn, h => by
    by_cases hm : (m : Int) ∈ q
    · have hl := List.length_erase_of_mem hm
      have := pigeon_le m (q.erase (m : Int)) (erase_nodup hn _) (fun x hx => by
        have h1 := h x (List.mem_of_mem_erase hx)
        have h2 : x ≠ (m : Int) := fun e => by
          subst e
          exact absurd hx (List.Nodup.not_mem_erase hn)
        omega)
      omega
    · have := pigeon_le m q hn (fun x hx => by
        have h1 := h x hx
        have h2 : x ≠ (m : Int) := fun e => hm (e ▸ hx)
        omega)
      omega
/-- a placement needs as many closets as there are horses -/
theorem IsPl.many {c : Clo} {p : List Int} (h : IsPl c p) (h1 : 1 ≤ c.closets) : c.horses.length ≤ c.closets.toNat := by
  rw [← h.len]
  exact pigeon_le _ p h.nodup fun x hx => by have := h.mem x hx; omega
end Go.Proofs.Ytnlbgaippnjmiaa

/- Helpers of the laws: word, used, ready, Placed: walks. -/
namespace Go.Proofs.Ytnlbgaippnjmiaa
open Go Go.RowKit
attribute [local go_sem] later_alloc2 later_alloc3 later_alloc4

def WordPost (w : World) (e : Ending) (w' : World) : Prop := ∃ z : Nat, z < 65536 ∧ e = .returned (.int .i64 (z : Int)) ∧ w = w'
def readyB (c : Clo) : Bool := thinB c && decide (fault c = 0)
theorem readyB_true {c : Clo} (h : readyB c = true) : thinB c = true ∧ fault c = 0 := by
  unfold readyB at h
  rw [Bool.and_eq_true, decide_eq_true_eq] at h
  exact h

theorem turn_less {m f y : Int} (h1 : 1 ≤ m) (h4 : m ≤ 4) (hf : 0 ≤ f ∧ f < m) (hy : 0 ≤ y ∧ y < m) (hne : y ≠ f) : ((f - (y + 1) % m) % m).toNat < ((f - y) % m).toNat := by
  have : m = 1 ∨ m = 2 ∨ m = 3 ∨ m = 4 := by omega
  rcases this with rfl | rfl | rfl | rfl <;> omega
def PlacedP (c : Clo) (w : World) (e : Ending) (w' : World) : Prop := ∃ A k p, e = .returned (.slice A c.horses.length k) ∧ Later w w' ∧ RI w' A c.horses.length p ∧ c.horses.length ≤ k ∧ IsPl c p
end Go.Proofs.Ytnlbgaippnjmiaa

/- Helpers of the laws: good, sooner: walks. -/
namespace Go.Proofs.Ytnlbgaippnjmiaa
open Go Go.RowKit
attribute [local go_sem] later_alloc2 later_alloc3 later_alloc4

/-- the good minutes of a horse, 1 to 0 if there are none -/
def goodL (c : Clo) (p : List Int) (i : Nat) : Int × Int := if (goodP c (truthsP c) p i).2 < (goodP c (truthsP c) p i).1 then (1, 0) else goodP c (truthsP c) p i
theorem askedErr_fine {c : Clo} {b : Bool} (h : askedErr c true = 0) (hb : b = true) : askedErr c b = 0 := by rw [hb]; exact h
theorem goodP_range {c : Clo} (h : askedErr c true = 0) {p : List Int} (hpl : IsPl c p) {i : Nat} (hi : i < c.horses.length) : 1 ≤ (goodP c (truthsP c) p i).1 ∧ (goodP c (truthsP c) p i).2 ≤ c.close := by
  obtain ⟨hf, _, hne⟩ := askedErr_zero h
  have ok := okC_of_fault hf
  exact ⟨bP_nonneg ok.toOkH (truthsP_isDry ok.toOkH) hne hpl hi, by unfold goodP; dsimp only; omega⟩
theorem goodOut_of {c : Clo} (h : askedErr c true = 0) {p : List Int} (hpl : IsPl c p) {i : Nat} (hi : i < c.horses.length) :
    ((goodL c p i) = (1, 0) ∧ goodOut c p i = (0, 0, 10)) ∨ (∃ lo hi, goodL c p i = (lo, hi) ∧ goodOut c p i = (lo, hi, 0) ∧ 1 ≤ lo ∧ lo ≤ hi ∧ hi ≤ c.close) := by
  obtain ⟨hf, _, hne⟩ := askedErr_zero h
  have ok := okC_of_fault hf
  have hb : isPlaceB c p = true := (isPlaceB_iff ok.cl1 ok.cl4 p).2 hpl
  have hh : isHorse c i = true := by unfold isHorse inB; simp; omega
  have ha : askedErr c (isPlaceB c p && isHorse c i) = 0 := askedErr_fine h (by rw [hb, hh]; rfl)
  have hr := goodP_range h hpl hi
  unfold goodOut goodL
  rw [if_neg (show ¬ (askedErr c (isPlaceB c p && isHorse c i) ≠ 0) by simp [ha]), Int.toNat_natCast]
  by_cases hlt : (goodP c (truthsP c) p i).2 < (goodP c (truthsP c) p i).1
  · left; rw [if_pos hlt, if_pos hlt]; exact ⟨rfl, rfl⟩
  · right; rw [if_neg hlt, if_neg hlt]; exact ⟨(goodP c (truthsP c) p i).1, (goodP c (truthsP c) p i).2, rfl, rfl, hr.1, by omega, hr.2⟩
end Go.Proofs.Ytnlbgaippnjmiaa

/- The program's ProvePlace, ProveTruth, Bounds: walks. -/
namespace Go.Proofs.Ytnlbgaippnjmiaa
open Go Go.RowKit
attribute [local go_sem] later_alloc2 later_alloc3 later_alloc4

/-- what ProvePlace returns -/
def placeOut (c : Clo) (p : List Int) (n : Int) : Bool := decide (askedErr c (isPlaceB c p) = 0) && (decide ((doneP c (truthsP c) p).2 = c.horses.length) && decide ((doneP c (truthsP c) p).1 ≤ n))
/-- what ProveTruth returns -/
def truthOut (c : Clo) (d : List Int) : Bool := decide (fault c = 0) && (areNumbers c.horses d && rightP c (pad4 d) [])
end Go.Proofs.Ytnlbgaippnjmiaa

/- The program's Bounds: walk. -/
namespace Go.Proofs.Ytnlbgaippnjmiaa
open Go Go.RowKit
attribute [local go_sem] later_alloc2 later_alloc3 later_alloc4

/-- a list of ranges, as cells -/
def rangesV (l : List (Int × Int)) : List Value := l.flatMap fun r => [.int .i64 r.1, .int .i64 r.2]
theorem rangesV_length (l : List (Int × Int)) : (rangesV l).length = l.length * 2 := by
  induction l with
  | nil => rfl
  | cons h l ih => simp only [rangesV, List.flatMap_cons, List.length_append] at ih ⊢; rw [ih]; simp; omega
theorem rangesV_snoc (l : List (Int × Int)) (r : Int × Int) : rangesV (l ++ [r]) = rangesV l ++ [.int .i64 r.1, .int .i64 r.2] := by simp [rangesV]
theorem rangesV_get (l : List (Int × Int)) (k j : Nat) (x : Int × Int) (h : l[k]? = some x) (hj : j < 2) : (rangesV l)[k * 2 + j]? = [Value.int .i64 x.1, Value.int .i64 x.2][j]? := by
  induction l generalizing k with
  | nil => simp at h
  | cons y l ih =>
    cases k with
    | zero =>
      simp at h; subst h
      simp only [rangesV, List.flatMap_cons]
      rw [List.getElem?_append_left (by simp; omega)]; simp
    | succ k =>
      simp only [rangesV, List.flatMap_cons] at ih ⊢
      rw [List.getElem?_append_right (by simp; omega)]
      have : (k + 1) * 2 + j - [Value.int .i64 y.1, Value.int .i64 y.2].length = k * 2 + j := by simp; omega
      rw [this]
      exact ih k (by simpa using h)
def RG (w : World) (A : Option Addr) (n : Nat) (l : List (Int × Int)) : Prop := Reads w w.heap.size 2 A n (rangesV l)
theorem RG.later {w W : World} {A : Option Addr} {n : Nat} {l : List (Int × Int)} (h : RG w A n l) (k : Later w W) : RG W A n l := Reads.later h k
theorem RG.len {w : World} {A : Option Addr} {n : Nat} {l : List (Int × Int)} (h : RG w A n l) : n = l.length := by have := h.1; rw [rangesV_length] at this; omega
theorem RG.get {w : World} {A : Option Addr} {n : Nat} {l : List (Int × Int)} (h : RG w A n l) {k : Nat} (hk : k < n) :
    ∃ b o x, A = some ⟨b, o, none⟩ ∧ b < w.heap.size ∧ l[k]? = some x ∧ (∀ W, Later w W → W.cell? ⟨b, o + k * 2, none⟩ = some (.int .i64 x.1)) ∧ (∀ W, Later w W → W.cell? ⟨b, o + k * 2 + 1, none⟩ = some (.int .i64 x.2)) := by
  obtain ⟨b, o, e, hb, hc⟩ := Reads.lit h (by omega) (by omega)
  have hl : k < l.length := by have := h.len; omega
  have hx := List.getElem?_eq_getElem hl
  exact ⟨b, o, l[k], e, hb, hx, fun W k' => cell_later (hc _ _ (rangesV_get l k 0 _ hx (by omega))) k' hb, fun W k' => cell_later (hc _ _ (rangesV_get l k 1 _ hx (by omega))) k' hb⟩
theorem range_info : (Try.prog.info? 57).map (fun i => (i.zero, i.size, i.bytes)) = some (some (.agg #[.int .i64 0, .int .i64 0]), 2, 16) := by kernel_rfl

def boundP (c : Clo) (p : List Int) (i : Nat) : Int × Int := bP (fun d => minuteR c p d i) (truthsP c)
def boundsTo2 (c : Clo) (p : List Int) (j : Nat) : List (Int × Int) := (List.range j).map (boundP c p)
theorem boundsTo2_succ (c : Clo) (p : List Int) (j : Nat) : boundsTo2 c p (j + 1) = boundsTo2 c p j ++ [boundP c p j] := by simp [boundsTo2, List.range_succ]
/-- what Bounds returns -/
def boundsOut (c : Clo) (p : List Int) : List (Int × Int) := if askedErr c (isPlaceB c p) ≠ 0 then [] else boundsTo2 c p c.horses.length
def BoundsPost (c : Clo) (p : List Int) (w : World) (e : Ending) (w' : World) : Prop :=
  ∃ A n k, e = .returned (.tuple #[.slice A n k, .int .i64 (askedErr c (isPlaceB c p))]) ∧ Later w w' ∧ RG w' A n (boundsOut c p)
end Go.Proofs.Ytnlbgaippnjmiaa

/- Helpers of the laws: sooner, kept, inside, in, mirrored: walks. -/
namespace Go.Proofs.Ytnlbgaippnjmiaa
open Go Go.RowKit
attribute [local go_sem] later_alloc2 later_alloc3 later_alloc4

/-- the best placement of x is done no later than that of c -/
def SoonerP (c x : Clo) : Prop := ((bestOut c).2.2 = 10 ∧ ((bestOut x).2.2 = 0 ∨ (bestOut x).2.2 = 10)) ∨ ((bestOut c).2.2 = 0 ∧ (bestOut x).2.2 = 0 ∧ (bestOut x).2.1 ≤ (bestOut c).2.1)
/-- all good minutes stay good -/
def KeptP (c x : Clo) (p : List Int) : Prop := ∀ i, i < c.horses.length → (goodL c p i).1 ≤ (goodL c p i).2 → (goodL x p i).1 ≤ (goodL c p i).1 ∧ (goodL c p i).2 ≤ (goodL x p i).2
end Go.Proofs.Ytnlbgaippnjmiaa

/- Small plain facts on truths. -/
namespace Go.Proofs.Ytnlbgaippnjmiaa
theorem askedErr_ii {c : Clo} (hf : fault c = 0) : askedErr c true = 0 ∨ (askedErr c true = 11 ∧ truthsP c = []) := by
  unfold askedErr
  rw [if_neg (by simp [hf]), if_neg (by simp)]
  by_cases h : truthsP c = []
  · right; rw [if_pos h]; exact ⟨rfl, h⟩
  · left; rw [if_neg h]
end Go.Proofs.Ytnlbgaippnjmiaa

/- The reference's Bits, Before, Shorter: walks. -/
namespace Go.Proofs.Ytnlbgaippnjmiaa
open Go Go.RowKit

theorem before_take : ∀ (t : Nat) (a b : List Int), t ≤ a.length → t ≤ b.length → a.take t = b.take t → before a b = before (a.drop t) (b.drop t)
  | 0, a, b, _, _, _ => by simp
  | t + 1, [], b, h, _, _ => by simp at h
  | t + 1, x :: a, [], _, h, _ => by simp at h
  | t + 1, x :: a, y :: b, h1, h2, h => by
    simp only [List.take_succ_cons, List.cons.injEq] at h
    obtain ⟨rfl, h⟩ := h
    simp only [List.length_cons] at h1 h2
    show (if x = x then before a b else decide (x < x)) = _
    rw [if_pos rfl, List.drop_succ_cons, List.drop_succ_cons]
    exact before_take t a b (by omega) (by omega) h

theorem bitList_last : ∀ (j bits p : Nat), bitList (j + 1) bits p = bitList j bits p ++ (if bits / 2 ^ j % 2 = 1 then [((p + j : Nat) : Int)] else [])
  | 0, bits, p => by
    simp only [bitList, Nat.pow_zero, Nat.div_one, Nat.add_zero, List.nil_append]
  | j + 1, bits, p => by
    have ih := bitList_last j (bits / 2) (p + 1)
    have e : bits / 2 / 2 ^ j = bits / 2 ^ (j + 1) := by rw [Nat.div_div_eq_div_mul, Nat.pow_succ, Nat.mul_comm]
    rw [e] at ih
    rw [show p + 1 + j = p + (j + 1) by omega] at ih
    conv => lhs; unfold bitList
    conv => rhs; unfold bitList
    rw [ih]
    split <;> simp
theorem bitList_zero : ∀ (k p : Nat), bitList k 0 p = []
  | 0, _ => rfl
  | k + 1, p => by simp [bitList, bitList_zero k]
theorem bitList_stable : ∀ (k m bits p : Nat), bits < 2 ^ k → bits < 2 ^ m → bitList k bits p = bitList m bits p
  | 0, m, bits, p, h, _ => by
    have : bits = 0 := by simpa using h
    subst this
    rw [bitList_zero, bitList_zero]
  | k + 1, 0, bits, p, _, h => by
    have : bits = 0 := by simpa using h
    subst this
    rw [bitList_zero, bitList_zero]
  | k + 1, m + 1, bits, p, h1, h2 => by
    simp only [bitList]
    rw [bitList_stable k m (bits / 2) (p + 1) (by rw [Nat.pow_succ] at h1; omega) (by rw [Nat.pow_succ] at h2; omega)]
end Go.Proofs.Ytnlbgaippnjmiaa
