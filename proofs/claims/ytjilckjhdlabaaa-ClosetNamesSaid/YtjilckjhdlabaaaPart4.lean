/- Part 4 of the proof: joined from the texts CloJ, CloK, CloL, CloM. -/
import Derived.Test.YtjilckjhdlabaaaPart3
import Derived.Test.YtjilckjhdlabaaaPart2
import Derived.Carry
import Derived.Laws.StructEq
set_option linter.unusedSimpArgs false
set_option linter.unusedVariables false
/- The program's asked: walk. -/
namespace Go.Proofs.Ytjilckjhdlabaaa
open Go Go.RowKit Go.Shelf
attribute [local go_sem] Oper.semAt_some
/- simp settles conditions two deep: three and four new blocks in one step -/
theorem later_alloc3 {w W : World} (h : Later w W) (a b c : Obj) : Later w (((W.alloc a).alloc b).alloc c) := later_alloc (later_alloc (later_alloc h a) b) c
theorem later_alloc4 {w W : World} (h : Later w W) (a b c d : Obj) : Later w ((((W.alloc a).alloc b).alloc c).alloc d) := later_alloc (later_alloc3 h a b c) d
attribute [local go_sem] later_alloc3 later_alloc4

theorem CheckCloset_eq {A1 A2 A3 : Option Addr} {n1 k1 n2 k2 n3 k3 : Nat} {c : Clo} {b : Int} (w : World) (hc : CV w c A1 n1 A2 n2 A3 n3) (hb : fault c = b) (hcl : i64 c.closets) (hn1 : n1 ≤ 1000) (hn2 : n2 ≤ 1000) (hn3 : n3 ≤ 1000) (hk2 : n2 ≤ k2) :
    Calls Try.prog 58 #[(.agg #[.int .i64 c.closets, .int .i64 c.close, .slice A1 n1 k1, .slice A2 n2 k2, .slice A3 n3 k3])] w fun e w' => e = .returned (.int .i64 b) ∧ Later w w' := by
  have := CheckCloset_calls (k1 := k1) (k2 := k2) (k3 := k3) w hc hcl hn1 hn2 hn3 hk2; rw [hb] at this; exact this

theorem asked_bad {A1 A2 A3 : Option Addr} {n1 k1 n2 k2 n3 k3 : Nat} {c : Clo} {fine : Bool} (w : World) (hc : CV w c A1 n1 A2 n2 A3 n3) (hcl : i64 c.closets) (hn1 : n1 ≤ 1000) (hn2 : n2 ≤ 1000) (hn3 : n3 ≤ 1000) (hk2 : n2 ≤ k2) (hf : fault c ≠ 0) :
    Calls Try.prog 83 #[(.agg #[.int .i64 c.closets, .int .i64 c.close, .slice A1 n1 k1, .slice A2 n2 k2, .slice A3 n3 k3]), .bool fine] w fun e w' => e = .returned (.tuple #[.pointer none, .int .i64 (fault c)]) ∧ Later w w' := by
  obtain ⟨f, hf2⟩ : ∃ f, fault c = f := ⟨_, rfl⟩
  rw [hf2] at hf ⊢
  have hfb : (f != 0) = true := by simpa using hf
  have hfb2 : (f == 0) = false := by simpa using hf
  obtain ⟨w0, hw0⟩ : ∃ W, W = (w.alloc (.cells #[.int .i64 c.closets, .int .i64 c.close, .slice A1 n1 k1, .slice A2 n2 k2, .slice A3 n3 k3] 35)) := ⟨_, rfl⟩; have hbox : ∀ W, Later w0 W → ∀ i, W.cell? ⟨w.heap.size, i, none⟩ = #[.int .i64 c.closets, .int .i64 c.close, .slice A1 n1 k1, .slice A2 n2 k2, .slice A3 n3 k3][i]? := (by rw [hw0]; exact box_cells w #[.int .i64 c.closets, .int .i64 c.close, .slice A1 n1 k1, .slice A2 n2 k2, .slice A3 n3 k3] 35); have hL0 : Later w w0 := (by rw [hw0]; simp); have hc0 := hc.later hL0; have Hw0 := hide hw0; clear hw0
  go_enter Try.func83, Try.ntmps83
  go_wp2_with fail
  rw [← Hw0.out]; clear Hw0
  refine (CheckCloset_eq _ hc0 hf2 hcl hn1 hn2 hn3 hk2).mono ?_
  rintro e w1 ⟨rfl, hL1⟩
  go_wp2_with fail
  refine bodyPost_ret (v := .tuple #[.pointer none, .int .i64 f]) ?_ rfl ⟨rfl, Later.trans hL0 hL1⟩
  simp [results, Try.results83, go_sem]
theorem asked_unfine {A1 A2 A3 : Option Addr} {n1 k1 n2 k2 n3 k3 : Nat} {c : Clo} (w : World) (hc : CV w c A1 n1 A2 n2 A3 n3) (hcl : i64 c.closets) (hn1 : n1 ≤ 1000) (hn2 : n2 ≤ 1000) (hn3 : n3 ≤ 1000) (hk2 : n2 ≤ k2) (hf : fault c = 0) :
    Calls Try.prog 83 #[(.agg #[.int .i64 c.closets, .int .i64 c.close, .slice A1 n1 k1, .slice A2 n2 k2, .slice A3 n3 k3]), .bool false] w fun e w' => e = .returned (.tuple #[.pointer none, .int .i64 2]) ∧ Later w w' := by
  obtain ⟨w0, hw0⟩ : ∃ W, W = (w.alloc (.cells #[.int .i64 c.closets, .int .i64 c.close, .slice A1 n1 k1, .slice A2 n2 k2, .slice A3 n3 k3] 35)) := ⟨_, rfl⟩; have hbox : ∀ W, Later w0 W → ∀ i, W.cell? ⟨w.heap.size, i, none⟩ = #[.int .i64 c.closets, .int .i64 c.close, .slice A1 n1 k1, .slice A2 n2 k2, .slice A3 n3 k3][i]? := (by rw [hw0]; exact box_cells w #[.int .i64 c.closets, .int .i64 c.close, .slice A1 n1 k1, .slice A2 n2 k2, .slice A3 n3 k3] 35); have hL0 : Later w w0 := (by rw [hw0]; simp); have hc0 := hc.later hL0; have Hw0 := hide hw0; clear hw0
  go_enter Try.func83, Try.ntmps83
  go_wp2_with fail
  rw [← Hw0.out]; clear Hw0
  refine (CheckCloset_eq _ hc0 hf hcl hn1 hn2 hn3 hk2).mono ?_
  rintro e w1 ⟨rfl, hL1⟩
  go_wp2_with fail
  refine bodyPost_ret (v := .tuple #[.pointer none, .int .i64 2]) ?_ rfl ⟨rfl, Later.trans hL0 hL1⟩
  simp [results, Try.results83, go_sem]
theorem truths_fn {A1 A2 A3 : Option Addr} {n1 k1 n2 k2 n3 k3 : Nat} {c : Clo} (w : World) : Calls Try.prog 117 #[(.agg #[.int .i64 c.closets, .int .i64 c.close, .slice A1 n1 k1, .slice A2 n2 k2, .slice A3 n3 k3])] w fun e w' => e = .returned (.func (.func 128) #[] #[.pointer (some ⟨w.heap.size, 0, none⟩)]) ∧ w' = w.alloc (.cells #[.int .i64 c.closets, .int .i64 c.close, .slice A1 n1 k1, .slice A2 n2 k2, .slice A3 n3 k3] 35) := by
  go_enter Try.func117, Try.ntmps117
  go_wp2_with fail
  go_ret
  exact ⟨rfl, rfl⟩

theorem eq4 (a0 a1 a2 a3 b0 b1 b2 b3 : Int) (X : World) : (Op.equalIn 10000 138 (.agg #[.int .i64 a0, .int .i64 a1, .int .i64 a2, .int .i64 a3]) (.agg #[.int .i64 b0, .int .i64 b1, .int .i64 b2, .int .i64 b3])).run Try.prog X = .ok (a0 == b0 && (a1 == b1 && (a2 == b2 && a3 == b3))) X := by
  have hu : Try.prog.underlying 138 = some (.array 4 3) := by kernel_rfl
  have hi : Try.prog.underlying 3 = some (.int .i64) := by kernel_rfl
  have hs : ∀ X, (sizeOf 3).run Try.prog X = .ok 1 X := fun _ => by kernel_rfl
  have p0 : ∀ (x y z u : Int) X, (part 3 #[.int .i64 x, .int .i64 y, .int .i64 z, .int .i64 u] 0).run Try.prog X = .ok (.int .i64 x) X := fun _ _ _ _ _ => by kernel_rfl
  have p1 : ∀ (x y z u : Int) X, (part 3 #[.int .i64 x, .int .i64 y, .int .i64 z, .int .i64 u] 1).run Try.prog X = .ok (.int .i64 y) X := fun _ _ _ _ _ => by kernel_rfl
  have p2 : ∀ (x y z u : Int) X, (part 3 #[.int .i64 x, .int .i64 y, .int .i64 z, .int .i64 u] 2).run Try.prog X = .ok (.int .i64 z) X := fun _ _ _ _ _ => by kernel_rfl
  have p3 : ∀ (x y z u : Int) X, (part 3 #[.int .i64 x, .int .i64 y, .int .i64 z, .int .i64 u] 3).run Try.prog X = .ok (.int .i64 u) X := fun _ _ _ _ _ => by kernel_rfl
  have hq : ∀ (x y : Int) X, (Op.equalIn 9999 3 (.int .i64 x) (.int .i64 y)).run Try.prog X = .ok (x == y) X := fun x y X => run_equalIn_int (w := X) 9998 3 .i64 .i64 x y hi
  rw [show (10000 : Nat) = 9999 + 1 from rfl, Op.equalIn]
  simp only [Sem.run_bind, run_underlying hu, Result.andThen_ok, hs]
  rw [show ([0:4] : Std.Legacy.Range) = ⟨0, 4, 1, by decide⟩ from rfl]
  simp only [Std.Legacy.Range.forIn_eq_forIn_range']
  by_cases h0 : a0 = b0
  · by_cases h1 : a1 = b1
    · by_cases h2 : a2 = b2
      · by_cases h3 : a3 = b3 <;> simp [Std.Legacy.Range.size, List.range', Sem.run_bind, p0, p1, p2, p3, hq, Result.andThen, h0, h1, h2, h3]
      · simp [Std.Legacy.Range.size, List.range', Sem.run_bind, p0, p1, p2, p3, hq, Result.andThen, h0, h1, h2]
    · simp [Std.Legacy.Range.size, List.range', Sem.run_bind, p0, p1, p2, p3, hq, Result.andThen, h0, h1]
  · simp [Std.Legacy.Range.size, List.range', Sem.run_bind, p0, p1, p2, p3, hq, Result.andThen, h0]
theorem neq4 (a0 a1 a2 a3 b0 b1 b2 b3 : Int) (b : Bool) (hb : (a0 == b0 && (a1 == b1 && (a2 == b2 && a3 == b3))) = b) (X : World) : (binOp .neq 138 (.agg #[.int .i64 a0, .int .i64 a1, .int .i64 a2, .int .i64 a3]) (.agg #[.int .i64 b0, .int .i64 b1, .int .i64 b2, .int .i64 b3])).run Try.prog X = .ok (.bool !b) X := by
  rw [run_neq_struct, eq4, hb]; rfl
theorem numbers_info : (Try.prog.info? 138).map (fun i => (i.zero, i.size, i.bytes)) = some (some (.agg #[.int .i64 0, .int .i64 0, .int .i64 0, .int .i64 0]), 4, 32) := by kernel_rfl
/-- the truths kept so far -/
def keep (c : Clo) (pre : List (List Int)) : List (List Int) := pre.foldl (keepStep c) []
theorem keep_snoc (c : Clo) (pre : List (List Int)) (x : List Int) : keep c (pre ++ [x]) = keepStep c (keep c pre) x := by simp [keep, List.foldl_append]
theorem heap_put (W : World) (l : Nat) (o : Obj) (b : Nat) (h : b ≠ l) : (W.putObj l o).heap[b]? = W.heap[b]? := World.putObj_heap_other h
theorem own_block {W W' : World} {base : Nat} {e : TypeId} {size : Nat} {v : Value} {n : Nat} {xs : List Value} (h : W.ownsRow base e size v n xs) (hk : ∀ g, v.ownBlock = some g → W'.heap[g]? = W.heap[g]?) : W'.ownsRow base e size v n xs := by
  refine ⟨h.1, ?_⟩
  rcases h.2 with hn | ⟨g, cap, cur, rfl, hb, hgg, rest⟩
  · exact .inl hn
  · exact .inr ⟨g, cap, cur, rfl, hb, (hk g rfl).trans hgg, rest⟩
/-- what holds between the rounds: E: the heap's size where the range begins -/
structure AskI (c : Clo) (A1 : Option Addr) (n1 k1 : Nat) (A2 : Option Addr) (n2 k2 : Nat) (A3 : Option Addr) (n3 k3 : Nat) (E bw bm : Nat) (w0 wE : World) (pre : List (List Int)) (W : World) : Prop where
  size : E + 5 ≤ W.heap.size
  os : W.os = w0.os
  tape : W.tape = w0.tape
  out : W.output = w0.output
  old : ∀ b, b < E → b ≠ bw → W.heap[b]? = wE.heap[b]?
  row : ∃ At kt, Blk W bw 130 #[.int .i64 c.closets, .int .i64 c.close, .slice A1 n1 k1, .slice A2 n2 k2, .slice A3 n3 k3, .slice At (keep c pre).length kt, .map (some bm)] ∧
    W.ownsRow (E + 5) 138 4 (.slice At (keep c pre).length kt) (keep c pre).length (drysV (keep c pre))
section
variable {c : Clo} {A1 A2 A3 : Option Addr} {n1 k1 n2 k2 n3 k3 E bw bm : Nat} {w0 wE W W' : World} {pre : List (List Int)}
theorem AskI.same (h : AskI c A1 n1 k1 A2 n2 k2 A3 n3 k3 E bw bm w0 wE pre W) (hbw : bw < E) (hs : W.heap.size ≤ W'.heap.size) (ho : W'.os = W.os) (ht : W'.tape = W.tape) (hu : W'.output = W.output)
    (hb : ∀ b, b < W.heap.size → (b < E ∨ E + 5 ≤ b) → W'.heap[b]? = W.heap[b]?) : AskI c A1 n1 k1 A2 n2 k2 A3 n3 k3 E bw bm w0 wE pre W' := by
  have hsz := h.size
  obtain ⟨At, kt, hk, hown⟩ := h.row
  refine ⟨by omega, ho.trans h.os, ht.trans h.tape, hu.trans h.out, fun b h1 h2 => (hb b (by omega) (.inl h1)).trans (h.old b h1 h2), At, kt, (hb bw (by omega) (.inl hbw)).trans hk, own_block hown fun g hg => ?_⟩
  have := hown.lt g hg
  exact hb g this.2 (.inr this.1)
theorem AskI.later (h : AskI c A1 n1 k1 A2 n2 k2 A3 n3 k3 E bw bm w0 wE pre W) (hbw : bw < E) (hL : Later W W') : AskI c A1 n1 k1 A2 n2 k2 A3 n3 k3 E bw bm w0 wE pre W' :=
  h.same hbw hL.size hL.os hL.tape hL.output fun b hb _ => hL.block b hb
theorem AskI.stands (hbw : bw < E) : Stands (E + 3) (fun pre W => AskI c A1 n1 k1 A2 n2 k2 A3 n3 k3 E bw bm w0 wE pre W) :=
  ⟨fun s A o h => h.later hbw (later_alloc (later_refl _) _), fun s A i u h => h.same hbw (by simp) rfl rfl rfl fun b _ hb => Below.heap_setCell A _ u b (by show b ≠ E + 3; omega)⟩
theorem AskI.put (h : AskI c A1 n1 k1 A2 n2 k2 A3 n3 k3 E bw bm w0 wE pre W) (hbw : bw < E) (o : Obj) : AskI c A1 n1 k1 A2 n2 k2 A3 n3 k3 E bw bm w0 wE pre (W.putObj (E + 1) o) :=
  h.same hbw (by simp) rfl rfl rfl fun b _ hb => heap_put W _ o b (by omega)
end
theorem pad_four {x : List Int} (h : x.length ≤ 4) : ∃ e0 e1 e2 e3, pad x = [e0, e1, e2, e3] := by
  have : (pad x).length = 4 := by unfold pad; simp; omega
  match hp : pad x, this with
  | [a, b, c, d], _ => exact ⟨a, b, c, d, rfl⟩
theorem AskI.base {c : Clo} {A1 A2 A3 : Option Addr} {n1 k1 n2 k2 n3 k3 E bw bm : Nat} {w0 wE W : World} {pre : List (List Int)} (h : AskI c A1 n1 k1 A2 n2 k2 A3 n3 k3 E bw bm w0 wE pre W) (hL : Later w0 wE) (hbw : w0.heap.size ≤ bw) (hE : w0.heap.size ≤ E) : Later w0 W :=
  ⟨h.os, h.tape, h.out, by have := h.size; omega, fun b hb => (h.old b (by omega) (by omega)).trans (hL.block b hb)⟩
theorem AskI.skip {c : Clo} {A1 A2 A3 : Option Addr} {n1 k1 n2 k2 n3 k3 E bw bm : Nat} {w0 wE W : World} {pre pre' : List (List Int)} (h : AskI c A1 n1 k1 A2 n2 k2 A3 n3 k3 E bw bm w0 wE pre W) (e : keep c pre' = keep c pre) : AskI c A1 n1 k1 A2 n2 k2 A3 n3 k3 E bw bm w0 wE pre' W :=
  ⟨h.size, h.os, h.tape, h.out, h.old, by rw [e]; exact h.row⟩
theorem pad_eq {x : List Int} (h : x.length ≤ 4) : pad x = pad4 x := by
  match x, h with
  | [], _ => rfl
  | [_], _ => rfl
  | [_, _], _ => rfl
  | [_, _, _], _ => rfl
  | [_, _, _, _], _ => rfl
theorem KeepsOthers.of_later {W W' : World} (h : Later W W') : KeepsOthers W W' :=
  ⟨h.size, fun k o hk _ => (h.block k (Array.getElem?_eq_some_iff.1 hk).1).trans hk⟩
theorem keepStep_len (c : Clo) (acc : List (List Int)) (d : List Int) : (keepStep c acc d).length ≤ acc.length + 1 := by
  unfold keepStep; split <;> simp
theorem keep_len {c : Clo} (ok : OkC c) (hf : fault c = 0) {pre : List (List Int)} (h : pre <+: dryAll c.horses) : (keep c pre).length ≤ 1000000 := by
  have h1 : ∀ (l acc : List (List Int)), (l.foldl (keepStep c) acc).length ≤ acc.length + l.length := by
    intro l
    induction l with
    | nil => intro acc; simp
    | cons d l ih => intro acc; have := ih (keepStep c acc d); have := keepStep_len c acc d; simp only [List.foldl_cons, List.length_cons]; omega
  have h2 := h1 pre []
  have h3 := h.length_le
  have h4 := (allDry_perm hf).length_eq
  have h5 : (allDry c).length = (many c).toNat := by simp [allDry]
  have h6 := (fault_zero hf).2.2.2.2.2.2
  unfold keep
  simp only [List.length_nil] at h2
  omega
theorem own_later2 {W W' : World} {base : Nat} {e : TypeId} {size : Nat} {v : Value} {n : Nat} {xs : List Value} (h : W.ownsRow base e size v n xs) (hL : Later W W') : W'.ownsRow base e size v n xs :=
  own_block h fun g hg => hL.block g (h.lt g hg).2
theorem own_rebase {W : World} {base base' : Nat} {e : TypeId} {size : Nat} {v : Value} {n : Nat} {xs : List Value} (h : W.ownsRow base e size v n xs) (hb : ∀ g, v.ownBlock = some g → base' ≤ g) : W.ownsRow base' e size v n xs := by
  refine ⟨h.1, ?_⟩
  rcases h.2 with hn | ⟨g, cap, cur, rfl, _, hgg, rest⟩
  · exact .inl hn
  · exact .inr ⟨g, cap, cur, rfl, hb g rfl, hgg, rest⟩
theorem Appended.others {w0 W w' : World} {e : TypeId} {size n : Nat} {v v' : Value} {xs news : List Value} (h : Appended w0 W w' e size v v' n xs news) (hown : W.ownsRow w0.heap.size e size v n xs) : KeepsOthers W w' := by
  refine ⟨Nat.le_of_lt h.size, fun k o hk ho => ?_⟩
  have hlt := (Array.getElem?_eq_some_iff.1 hk).1
  rw [h.keep k hlt]
  · exact hk
  · intro e
    rcases hown.2 with ⟨rfl, _⟩ | ⟨g, cap, cur, rfl, _, hgg, _⟩
    · cases e
    · have : g = k := by simpa [Value.ownBlock] using e
      subst this
      rw [hk] at hgg
      injection hgg with hgg
      subst hgg
      cases ho
theorem later_put {w W : World} (h : Later w W) {l : Nat} (hl : w.heap.size ≤ l) (o : Obj) : Later w (W.putObj l o) :=
  ⟨h.os, h.tape, h.output, by simpa using h.size, fun b hb => (heap_put W l o b (by omega)).trans (h.block b hb)⟩
/-- what asked returns of valid closets -/
def AskedPost (c : Clo) (A1 : Option Addr) (n1 k1 : Nat) (A2 : Option Addr) (n2 k2 : Nat) (A3 : Option Addr) (n3 k3 : Nat) (w : World) (e : Ending) (w' : World) : Prop :=
  (truthsP c = [] ∧ e = .returned (.tuple #[.pointer none, .int .i64 11]) ∧ Later w w') ∨
  (truthsP c ≠ [] ∧ ∃ bw bm At kt, e = .returned (.tuple #[.pointer (some ⟨bw, 0, none⟩), .int .i64 0]) ∧ Later w w' ∧ WK w' bw c A1 n1 k1 A2 n2 k2 A3 n3 k3 At (truthsP c).length kt (truthsP c) (.map (some bm)) ∧
    w'.heap[bm]? = some (.map #[] 0) ∧ w.heap.size ≤ bm ∧ w.heap.size ≤ bw ∧ bm ≠ bw ∧ ∀ b o, At = some ⟨b, o, none⟩ → w.heap.size ≤ b)
theorem Blk.of_eq {w w' : World} {g : Nat} {t : TypeId} {cs : Array Value} (h : w'.heap[g]? = w.heap[g]?) (k : Blk w g t cs) : Blk w' g t cs := h.trans k
theorem ask_end {c : Clo} {A1 A2 A3 : Option Addr} {n1 k1 n2 k2 n3 k3 E bw bm : Nat} {w0 wE W w3 w4 : World} {pre : List (List Int)} (hI : AskI c A1 n1 k1 A2 n2 k2 A3 n3 k3 E bw bm w0 wE pre W) (hbw : bw < E) (hL : Later W w3)
    {At A' : Option Addr} {kt c' : Nat} {ks : List (List Int)} {x : List Int} {e0 e1 e2 e3 : Int} (hk2 : keep c (pre ++ [x]) = ks ++ [x]) (hp4 : pad4 x = [e0, e1, e2, e3]) (hw0 : w0.heap.size ≤ E)
    (hbk : Blk W bw 130 #[.int .i64 c.closets, .int .i64 c.close, .slice A1 n1 k1, .slice A2 n2 k2, .slice A3 n3 k3, .slice At ks.length kt, .map (some bm)])
    (hown : W.ownsRow (E + 5) 138 4 (.slice At ks.length kt) ks.length (drysV ks))
    (hap : Appended w0 w3.drew w4 138 4 (.slice At ks.length kt) (.slice A' (ks.length + 1) c') ks.length (drysV ks) [.int .i64 e0, .int .i64 e1, .int .i64 e2, .int .i64 e3]) :
    KeepsOthers W (w4.setCell ⟨bw, 5, none⟩ (.slice A' (ks.length + 1) c')) ∧ KeepS (fun b => b < E + 5 ∧ b ≠ bw ∧ b ≠ E + 1) W (w4.setCell ⟨bw, 5, none⟩ (.slice A' (ks.length + 1) c')) ∧
      AskI c A1 n1 k1 A2 n2 k2 A3 n3 k3 E bw bm w0 wE (pre ++ [x]) (w4.setCell ⟨bw, 5, none⟩ (.slice A' (ks.length + 1) c')) := by
  have hsz := hI.size
  have hs3 := hL.size
  have h34 : w3.heap.size < w4.heap.size := hap.size
  have hno : ∀ b, b < E + 5 → (Value.slice At ks.length kt).ownBlock ≠ some b := fun b hb e => by have := (hown.lt b e).1; omega
  have hk4 : ∀ b, b < E + 5 → w4.heap[b]? = W.heap[b]? := fun b hb => (hap.keep b (by show b < w3.heap.size; omega) (hno b hb)).trans (hL.block b (by omega))
  have hset : ∀ b, b ≠ bw → (w4.setCell ⟨bw, 5, none⟩ (.slice A' (ks.length + 1) c')).heap[b]? = w4.heap[b]? := fun b hb => Below.heap_setCell w4 _ _ b hb
  have hown3 : w3.drew.ownsRow w0.heap.size 138 4 (.slice At ks.length kt) ks.length (drysV ks) := own_rebase (World.ownsRow.drew (own_later2 hown hL)) fun g e => by have := (hown.lt g e).1; omega
  have hnew : ∀ g, (Value.slice A' (ks.length + 1) c').ownBlock = some g → E + 5 ≤ g := fun g e => by
    rcases hap.at_ with h | ⟨g', h, hlt⟩
    · rw [h] at e; exact (hown.lt g e).1
    · rw [h] at e; injection e with e; subst e
      have : w3.heap.size < g' := hlt
      omega
  refine ⟨((KeepsOthers.of_later hL).trans ((KeepsOthers.drew w3).trans (hap.others hown3))).trans (KeepsOthers.setCell _ _ _), fun b hb => (hset b hb.2.1).trans (hk4 b hb.1), ?_⟩
  refine ⟨by simp; omega, hap.later.os, hap.later.tape, hap.later.output, fun b h1 h2 => (hset b h2).trans ((hk4 b (by omega)).trans (hI.old b h1 h2)), A', c', ?_, ?_⟩
  · rw [hk2]
    have h1 := (Blk.of_eq (hk4 bw (by omega)) hbk).set_ 5 (.slice A' (ks.length + 1) c')
    rw [List.length_append]
    exact h1
  · rw [hk2, drysV_snoc, hp4, List.length_append]
    exact own_block (own_rebase hap.own hnew) fun g e => hset g (by have := hnew g e; omega)
theorem nil_or_snoc {α : Type} (l : List α) : l = [] ∨ ∃ t x, l = t ++ [x] := by
  rcases List.eq_nil_or_concat l with h | ⟨t, x, h⟩
  · exact .inl h
  · exact .inr ⟨t, x, by rw [h, List.concat_eq_append]⟩
theorem encD_size (x : List Int) : (encD x).size = 1 := rfl

set_option maxRecDepth 100000 in
set_option maxHeartbeats 2000000 in
theorem asked_fine {A1 A2 A3 : Option Addr} {n1 k1 n2 k2 n3 k3 : Nat} {c : Clo} (w : World) (hc : CV w c A1 n1 A2 n2 A3 n3) (hcl : i64 c.closets) (hn1 : n1 ≤ 1000) (hn2 : n2 ≤ 1000) (hn3 : n3 ≤ 1000) (hk2 : n2 ≤ k2) (hf : fault c = 0) :
    Calls Try.prog 83 #[(.agg #[.int .i64 c.closets, .int .i64 c.close, .slice A1 n1 k1, .slice A2 n2 k2, .slice A3 n3 k3]), .bool true] w fun e w' => AskedPost c A1 n1 k1 A2 n2 k2 A3 n3 k3 w e w' := by
  have hmm := @run_makeMap Try.prog
  have ok := okC_of_fault hf
  obtain ⟨w0, hw0⟩ : ∃ W, W = (w.alloc (.cells #[.int .i64 c.closets, .int .i64 c.close, .slice A1 n1 k1, .slice A2 n2 k2, .slice A3 n3 k3] 35)) := ⟨_, rfl⟩; have hbox : ∀ W, Later w0 W → ∀ i, W.cell? ⟨w.heap.size, i, none⟩ = #[.int .i64 c.closets, .int .i64 c.close, .slice A1 n1 k1, .slice A2 n2 k2, .slice A3 n3 k3][i]? := (by rw [hw0]; exact box_cells w #[.int .i64 c.closets, .int .i64 c.close, .slice A1 n1 k1, .slice A2 n2 k2, .slice A3 n3 k3] 35); have hL0 : Later w w0 := (by rw [hw0]; simp); have hc0 := hc.later hL0; have Hw0 := hide hw0; clear hw0
  have hcc := (callsIn_wide (n := 5)).2 (CheckCloset_eq w0 hc0 hf hcl hn1 hn2 hn3 hk2 (k1 := k1) (k3 := k3))
  refine (callsIn_wide (n := 6)).1 ?_
  refine callsIn_of_wp_marks Try.func83 rfl trivial ?_ rfl
  simp only [Try.ntmps83, List.size_toArray, List.length_cons, List.length_nil, Nat.reduceAdd, Nat.reduceSub, Array.replicate_succ, Array.replicate_zero, List.push_toArray, List.append_toArray, List.nil_append, List.cons_append]
  gi_wp2_with fail
  rw [← Hw0.out]
  refine ⟨trivial, hcc.mono ?_⟩
  rintro e w1 ⟨rfl, hL1⟩
  have hs1 : w.heap.size < w1.heap.size := by have := hL1.size; have := hL0.size; have h3 : w0.heap.size = w.heap.size + 1 := (by rw [Hw0.out]; simp); omega
  have htf := fun W => (callsIn_wide (n := 5)).2 (truths_fn (c := c) (A1 := A1) (A2 := A2) (A3 := A3) (n1 := n1) (n2 := n2) (n3 := n3) (k1 := k1) (k2 := k2) (k3 := k3) W)
  clear hcc
  gi_wp2_with fail
  refine ⟨trivial, (htf _).mono ?_⟩
  rintro e w2 ⟨rfl, rfl⟩
  gi_wp2_with fail
  obtain ⟨bm, hbm⟩ : ∃ b, b = w1.heap.size := ⟨_, rfl⟩
  simp only [← hbm, World.size_alloc]
  generalize hwE : ((((w1.alloc _).alloc _).alloc _).alloc _) = wE
  have hE : wE.heap.size = bm + 4 := by rw [← hwE]; simp [← hbm]
  have hLE : Later w1 wE := by rw [← hwE]; exact later_alloc4 (later_refl _) _ _ _ _
  have hL0E : Later w0 wE := Later.trans hL1 hLE
  have kb : Blk wE w.heap.size 35 #[.int .i64 c.closets, .int .i64 c.close, .slice A1 n1 k1, .slice A2 n2 k2, .slice A3 n3 k3] := by
    have : Blk w0 w.heap.size 35 #[.int .i64 c.closets, .int .i64 c.close, .slice A1 n1 k1, .slice A2 n2 k2, .slice A3 n3 k3] := by rw [Hw0.out]; exact Blk.new _ _ _
    exact this.later hL0E
  have km : wE.heap[bm]? = some (.map #[] 0) := by rw [← hwE, hbm]; exact (Below.heap_alloc _ _ _ (by simp; omega)).trans ((Below.heap_alloc _ _ _ (by simp; omega)).trans ((Below.heap_alloc _ _ _ (by simp)).trans (heap_alloc_new _ _)))
  have kw : Blk wE (bm + 1) 130 #[.int .i64 c.closets, .int .i64 c.close, .slice A1 n1 k1, .slice A2 n2 k2, .slice A3 n3 k3, .slice none 0 0, .map (some bm)] := by
    rw [← hwE, hbm]
    have := Blk.new (w1.alloc (.map #[] 0)) 130 #[.int .i64 c.closets, .int .i64 c.close, .slice A1 n1 k1, .slice A2 n2 k2, .slice A3 n3 k3, .slice none 0 0, .map (some w1.heap.size)]
    rw [World.size_alloc] at this
    exact (this.alloc _).alloc _
  have kt : Blk wE (bm + 1 + 1) 121 #[.pointer (some ⟨bm + 1, 0, none⟩)] := by
    rw [← hwE, hbm]
    have := Blk.new ((w1.alloc (.map #[] 0)).alloc (.cells #[.int .i64 c.closets, .int .i64 c.close, .slice A1 n1 k1, .slice A2 n2 k2, .slice A3 n3 k3, .slice none 0 0, .map (some w1.heap.size)] 130)) 121 #[.pointer (some ⟨w1.heap.size + 1, 0, none⟩)]
    simp only [World.size_alloc] at this
    exact this.alloc _
  have kc : Blk wE (bm + 1 + 1 + 1) 35 #[.int .i64 c.closets, .int .i64 c.close, .slice A1 n1 k1, .slice A2 n2 k2, .slice A3 n3 k3] := by
    rw [← hwE, hbm]
    have := Blk.new (((w1.alloc (.map #[] 0)).alloc (.cells #[.int .i64 c.closets, .int .i64 c.close, .slice A1 n1 k1, .slice A2 n2 k2, .slice A3 n3 k3, .slice none 0 0, .map (some w1.heap.size)] 130)).alloc (.cells #[.pointer (some ⟨w1.heap.size + 1, 0, none⟩)] 121)) 35 #[.int .i64 c.closets, .int .i64 c.close, .slice A1 n1 k1, .slice A2 n2 k2, .slice A3 n3 k3]
    simp only [World.size_alloc] at this
    exact this
  have hw1 : w.heap.size < bm := by omega
  have hw0s : w0.heap.size ≤ bm := by have := hL1.size; omega
  have hcE := hc.later (Later.trans hL0 hL0E)
  clear hwE hbm htf hs1
  refine wpIn_iter (α := List Int) (gf := 128) (lb := #[.pointer (some ⟨bm + 1 + 1 + 1, 0, none⟩)]) (encs := encD) (xs := dryAll c.horses) (Kp := KeepS fun b => b < bm + 9 ∧ b ≠ bm + 1 ∧ b ≠ bm + 5) rfl (by omega) rfl trivial (enters_of Try.func128 (by kernel_rfl) rfl) ?_ (fun h k => h.trans k) ?_ encD_size
    (fun pre W => AskI c A1 n1 k1 A2 n2 k2 A3 n3 k3 (bm + 4) (bm + 1) bm w0 wE pre W) (fun _ _ _ => False) ?_ ?_ (fun _ _ _ _ h _ => h) ?_ (fun pre x a' W => ∃ (g : Nat) (e0 e1 e2 e3 : Int), a' = { tmps := #[(.agg #[.int .i64 c.closets, .int .i64 c.close, .slice A1 n1 k1, .slice A2 n2 k2, .slice A3 n3 k3]), .bool true, .pointer (some ⟨w.heap.size, 0, none⟩), undef, .pointer none, .int .i64 0, .int .i64 0, .pointer (some ⟨bm + 1 + 1, 0, none⟩), .pointer (some ⟨g, 0, none⟩), (.agg #[.int .i64 c.closets, .int .i64 c.close, .slice A1 n1 k1, .slice A2 n2 k2, .slice A3 n3 k3]), .int .i64 0, .int .i64 0, .bool false, undef, .bool true, .bool false, (.agg #[.int .i64 c.closets, .int .i64 c.close, .slice A1 n1 k1, .slice A2 n2 k2, .slice A3 n3 k3]), .map (some bm), .agg #[.int .i64 c.closets, .int .i64 c.close, .slice A1 n1 k1, .slice A2 n2 k2, .slice A3 n3 k3, .slice none 0 0, .map (some bm)], .pointer (some ⟨bm + 1, 0, none⟩), (.agg #[.int .i64 c.closets, .int .i64 c.close, .slice A1 n1 k1, .slice A2 n2 k2, .slice A3 n3 k3]), .func (.func 128) #[] #[.pointer (some ⟨bm + 1 + 1 + 1, 0, none⟩)], .agg #[.int .i64 e0, .int .i64 e1, .int .i64 e2, .int .i64 e3], undef, undef, undef, undef, undef, undef, undef, undef, undef, undef, undef, undef, undef, undef, undef, undef, undef, undef, undef, undef, undef, undef, undef, undef, undef, undef, undef, undef, undef, undef, undef, undef, undef, undef, undef, undef, undef, undef, undef, undef, undef, undef, undef, undef], defers := [] } ∧ pad x = [e0, e1, e2, e3] ∧ bm + 9 ≤ g ∧ (∀ v, W.cell? ⟨bm + 1, 5, none⟩ = some v → v.ownBlock ≠ some g) ∧ Blk W g 138 #[.int .i64 e0, .int .i64 e1, .int .i64 e2, .int .i64 e3] ∧ AskI c A1 n1 k1 A2 n2 k2 A3 n3 k3 (bm + 4) (bm + 1) bm w0 wE pre W) ?assign ?_ ?body ?done ?stop
  case assign =>
    intro l pre x W K hI hpx hK
    obtain ⟨e0, e1, e2, e3, hpad⟩ := pad_four (x := x) (by
      have := dryAll_isDry c x (hpx.subset (by simp))
      rw [this.len]; exact ok.len)
    have henc : encD x = #[.agg #[.int .i64 e0, .int .i64 e1, .int .i64 e2, .int .i64 e3]] := by unfold encD; rw [hpad]; rfl
    rw [henc]
    have Hpad := hide hpad
    clear hpad henc
    gi_wp2_with fail
    refine hK _ _ (KeepsOthers.alloc _ _) ((KeepS.refl _).alloc _ fun b hb => by have := hI.size; omega) ⟨_, e0, e1, e2, e3, rfl, Hpad.out, ?_, ?_, ?_, ?_⟩
    · have := hI.size; omega
    · intro v hv e
      obtain ⟨At, kt', hbk, hown⟩ := hI.row
      have h5 := (Blk.alloc hbk (.cells #[.int .i64 e0, .int .i64 e1, .int .i64 e2, .int .i64 e3] 138)).cell 5
      rw [hv] at h5
      injection h5 with h5
      rw [h5] at e
      exact absurd (hown.lt _ e).2 (Nat.lt_irrefl _)
    · exact Blk.new _ _ _
    · exact hI.later (by omega) (later_alloc (later_refl _) _)
  case body =>
    rintro l pre x a' W ⟨g, e0, e1, e2, e3, rfl, hpad, hg, hgo, hBd, hI⟩ hpx hsz
    have hdx := dryAll_isDry c x (hpx.subset (by simp))
    have hp4 : pad4 x = [e0, e1, e2, e3] := by rw [← hpad]; exact (pad_eq (by rw [hdx.len]; exact ok.len)).symm
    obtain ⟨At, kt', hbk, hown⟩ := hI.row
    have hgo2 : ∀ n k, (Value.slice At n k).ownBlock ≠ some g := fun n k e => hgo _ (hbk.cell 5) (by cases At <;> exact e)
    clear hgo
    have hIs := hI.size
    have kbW : Blk W w.heap.size 35 #[.int .i64 c.closets, .int .i64 c.close, .slice A1 n1 k1, .slice A2 n2 k2, .slice A3 n3 k3] := (hI.old _ (by omega) (by omega)).trans kb
    have ktW : Blk W (bm + 1 + 1) 121 #[.pointer (some ⟨bm + 1, 0, none⟩)] := (hI.old _ (by omega) (by omega)).trans kt
    have hLW : Later w0 W := hI.base hL0E (by omega) (by omega)
    have hcW := hc0.later hLW
    have hr4 := pad4_range ok.toOkH hdx
    rw [hp4] at hr4
    have hnil := fun X => RI.nil (w := X) (A := none)
    have q0 := kbW.cells_later
    have q1 := ktW.cells_later
    have q2 := hbk.cells_later
    have q3 := hBd.cells_later
    have hksn := keep_snoc c pre x
    have Hgo := hide hgo2
    clear hgo2
    have Hown := hide hown
    have Hbk := hide hbk
    have HI := hide hI
    clear hown hbk hI kbW ktW hBd
    cases hr : rightP c [e0, e1, e2, e3] [] with
    | false =>
      have hk2 : keep c (pre ++ [x]) = keep c pre := by rw [hksn]; unfold keepStep; rw [hp4, hr]; simp
      have hrc : ∀ X, Later W X → Calls Try.prog 101 #[(.agg #[.int .i64 c.closets, .int .i64 c.close, .slice A1 n1 k1, .slice A2 n2 k2, .slice A3 n3 k3]), .agg #[.int .i64 e0, .int .i64 e1, .int .i64 e2, .int .i64 e3], .slice none 0 0] X fun e w' => e = .returned (.bool false) ∧ Later X w' := fun X hX => by
        have := right_calls (k1 := k1) (k2 := k2) (k3 := k3) (ko := 0) X (hcW.later hX) ok (hnil X) (by omega) hr4
        rw [hr] at this; exact this
      clear hr hksn
      gi_wp2_with fail
      refine region_round_quiet (w0 := W) (by kernel_rfl) (by kernel_rfl) (by kernel_rfl) (fun ⟨_, _, h⟩ => h) (later_refl _) ?_; (repeat (first | go_big_quiet_step ((go_at_call 101; exact calls_ext (by simp) (hrc _ (by simp)))) | quiet_step ((go_at_call 101; exact calls_ext (by simp) (hrc _ (by simp)))))); refine wpQuiet_nil ?_; rintro w3 ⟨⟨_, hL3⟩, rfl⟩; (try dsimp only)
      gi_wp2_with fail
      exact ⟨KeepsOthers.of_later hL3, fun b hb => hL3.block b (by omega), (HI.out.later (by omega) hL3).skip hk2⟩
    | true =>
      have hrc : ∀ X, Later W X → Calls Try.prog 101 #[(.agg #[.int .i64 c.closets, .int .i64 c.close, .slice A1 n1 k1, .slice A2 n2 k2, .slice A3 n3 k3]), .agg #[.int .i64 e0, .int .i64 e1, .int .i64 e2, .int .i64 e3], .slice none 0 0] X fun e w' => e = .returned (.bool true) ∧ Later X w' := fun X hX => by
        have := right_calls (k1 := k1) (k2 := k2) (k3 := k3) (ko := 0) X (hcW.later hX) ok (hnil X) (by omega) hr4
        rw [hr] at this; exact this
      obtain ⟨ks, hks⟩ : ∃ k, keep c pre = k := ⟨_, rfl⟩
      have hlen : ks.length ≤ 1000000 := by rw [← hks]; exact keep_len ok hf ((List.prefix_append _ _).trans hpx)
      rw [hks] at hksn Hown Hbk q2
      rcases nil_or_snoc ks with rfl | ⟨l0, y, rfl⟩
      · have hk2 : keep c (pre ++ [x]) = [] ++ [x] := by rw [hksn]; unfold keepStep; rw [if_pos ⟨by rw [hp4]; exact hr, .inl rfl⟩]
        clear hr hksn
        gi_wp2_with fail
        refine region_round_quiet (w0 := W) (by kernel_rfl) (by kernel_rfl) (by kernel_rfl) (fun ⟨_, _, h⟩ => h) (later_refl _) ?_; (repeat (first | go_big_quiet_step ((go_at_call 101; exact calls_ext (by simp) (hrc _ (by simp)))) | quiet_step ((go_at_call 101; exact calls_ext (by simp) (hrc _ (by simp)))))); refine wpQuiet_nil ?_; rintro w3 ⟨⟨_, hL3⟩, rfl⟩; (try dsimp only)
        gi_wp2_with fail
        have hown3 := own_later2 Hown.out hL3
        have hbk3 := Hbk.out.later hL3
        have hLw3 : Later w0 w3.drew := later_drew (Later.trans hLW hL3)
        have hs3 := hL3.size
        have c5 : ∀ X, Later w3 X → X.cell? ⟨bm + 1, 5, none⟩ = some (.slice _ _ kt') := fun X hX => hbk3.cells_later X hX 5
        have hS0 : w3.drew.cell? ⟨bm + 1 + 1, 0, none⟩ = some (.pointer (some ⟨bm + 1, 0, none⟩)) ∧ w3.drew.cell? ⟨g, 0, none⟩ = some (.int .i64 e0) ∧ w3.drew.cell? ⟨g, 1, none⟩ = some (.int .i64 e1) ∧ w3.drew.cell? ⟨g, 2, none⟩ = some (.int .i64 e2) ∧ w3.drew.cell? ⟨g, 3, none⟩ = some (.int .i64 e3) :=
          ⟨q1 w3 hL3 0, q3 w3 hL3 0, q3 w3 hL3 1, q3 w3 hL3 2, q3 w3 hL3 3⟩
        have hbg : g < w3.drew.heap.size := World.block_lt_of_cell? _ _ hS0.2.1
        have hS1 : ∀ X : World, (∀ b, b < w3.drew.heap.size → (b < bm + 9 ∨ b = g) → b ≠ bm + 1 → X.heap[b]? = w3.drew.heap[b]?) → X.cell? ⟨bm + 1 + 1, 0, none⟩ = some (.pointer (some ⟨bm + 1, 0, none⟩)) ∧ X.cell? ⟨g, 0, none⟩ = some (.int .i64 e0) ∧ X.cell? ⟨g, 1, none⟩ = some (.int .i64 e1) ∧ X.cell? ⟨g, 2, none⟩ = some (.int .i64 e2) ∧ X.cell? ⟨g, 3, none⟩ = some (.int .i64 e3) := fun X hX => by
          have k1 := hX (bm + 1 + 1) (by show bm + 1 + 1 < w3.heap.size; omega) (.inl (by omega)) (by omega)
          have k2 := hX g hbg (.inr rfl) (by omega)
          exact ⟨(World.cell?_of_block (a := ⟨bm + 1 + 1, 0, none⟩) k1).trans hS0.1, (World.cell?_of_block (a := ⟨g, 0, none⟩) k2).trans hS0.2.1, (World.cell?_of_block (a := ⟨g, 1, none⟩) k2).trans hS0.2.2.1, (World.cell?_of_block (a := ⟨g, 2, none⟩) k2).trans hS0.2.2.2.1, (World.cell?_of_block (a := ⟨g, 3, none⟩) k2).trans hS0.2.2.2.2⟩
        have hSa := hS1 (w3.drew.alloc (.cells #[.int .i64 e0, .int .i64 e1, .int .i64 e2, .int .i64 e3] 138)) (fun b hb _ _ => Below.heap_alloc _ _ b hb)
        have hownS : w3.drew.ownsRow w0.heap.size 138 4 (.slice _ _ kt') _ (drysV _) := own_rebase (World.ownsRow.drew hown3) fun g e => by have := (hown3.lt g e).1; omega
        have hown9 : ∀ b, _ → bm + 4 + 5 ≤ b := fun b e => (hown3.lt b e).1
        have HS1 := hide hS1
        have Hbk3 := hide hbk3
        have Hown9 := hide hown9
        have HownS := hide hownS
        clear hown3 hS1 hbk3 hown9 hownS hrc q2
        refine region_round (by kernel_rfl) (by kernel_rfl) (fun ⟨_, _, h⟩ => h) (wpAny_of_held (S := fun X => X.cell? ⟨bm + 1 + 1, 0, none⟩ = some (.pointer (some ⟨bm + 1, 0, none⟩)) ∧ X.cell? ⟨g, 0, none⟩ = some (.int .i64 e0) ∧ X.cell? ⟨g, 1, none⟩ = some (.int .i64 e1) ∧ X.cell? ⟨g, 2, none⟩ = some (.int .i64 e2) ∧ X.cell? ⟨g, 3, none⟩ = some (.int .i64 e3)) _ _ _ _ ?_)
        refine wpAnyH_take (i := 0) (v := ?_) rfl (by kernel_rfl) (by kernel_rfl) (by kernel_rfl) (by intro _ _ _ h; first | exact h | exact absurd h.1 (by simp)) (Or.inl ⟨by rfl, ?_⟩) hS0 ?_; rotate_left; (focus (intro X hSX; (try dsimp only at hSX); go_simp; (try with_reducible rfl))); (try simp only [Act.put, List.setIfInBounds_toArray, List.set_cons_zero, List.set_cons_succ])
        refine wpAnyH_take (i := 1) (v := ?_) rfl (by kernel_rfl) (by kernel_rfl) (by kernel_rfl) (by intro _ _ _ h; first | exact h | exact absurd h.1 (by simp)) (Or.inl ⟨by rfl, ?_⟩) hS0 ?_; rotate_left; (focus (intro X hSX; (try dsimp only at hSX); go_simp; (try with_reducible rfl))); (try simp only [Act.put, List.setIfInBounds_toArray, List.set_cons_zero, List.set_cons_succ])
        refine wpAnyH_take (i := 2) (v := ?_) rfl (by kernel_rfl) (by kernel_rfl) (by kernel_rfl) (by intro _ _ _ h; first | exact h | exact absurd h.1 (by simp)) (Or.inl ⟨by rfl, ?_⟩) hS0 ?_; rotate_left; (focus (intro X hSX; (try dsimp only at hSX); go_simp; (try with_reducible rfl))); (try simp only [Act.put, List.setIfInBounds_toArray, List.set_cons_zero, List.set_cons_succ])
        refine wpAnyH_take (i := 3) (v := ?_) rfl (by kernel_rfl) (by kernel_rfl) (by kernel_rfl) (by intro _ _ _ h; first | exact h | exact absurd h.1 (by simp)) (Or.inl ⟨by rfl, ?_⟩) hS0 ?_; rotate_left; (focus (intro X hSX; (try dsimp only at hSX); go_simp; (try with_reducible rfl))); (try simp only [Act.put, List.setIfInBounds_toArray, List.set_cons_zero, List.set_cons_succ])
        refine wpAnyH_take (i := 5) (v := ?_) rfl (by kernel_rfl) (by kernel_rfl) (by kernel_rfl) (by intro _ _ _ h; first | exact h | exact absurd h.1 (by simp)) (Or.inl ⟨by rfl, ?_⟩) hS0 ?_; rotate_left; (focus (intro X hSX; (try dsimp only at hSX); go_simp; (try with_reducible rfl))); (try simp only [Act.put, List.setIfInBounds_toArray, List.set_cons_zero, List.set_cons_succ])
        refine wpAnyH_ready (rs := [4, 6]) (by kernel_rfl) (by simp) ?_
        refine AllReadyH.cons rfl (fun K hK => ?_) (AllReadyH.cons rfl (fun K hK => ?_) AllReadyH.nil)
        · go_simp
          refine hK.out _ _ hS0 (fun _ => ?_)
          clear hK K; (try simp only [Act.put, List.setIfInBounds_toArray, List.set_cons_zero, List.set_cons_succ])
          refine wpAnyH_ready (rs := [6]) (by kernel_rfl) (by simp) ?_; refine AllReadyH.cons rfl (fun K hK => ?_) AllReadyH.nil
          go_simp
          refine hK.out _ _ hSa (fun _ => ?_)
          clear hK K; (try simp only [Act.put, List.setIfInBounds_toArray, List.set_cons_zero, List.set_cons_succ])
          refine wpAnyH_ready (rs := [7]) (by kernel_rfl) (by simp) ?_; refine AllReadyH.cons (o := { dst := some 57, op := .call { callee := .builtin .append, args := #[.tmp 54, .tmp 56], argTypes := #[127, 127] }, type := 127, pos := "ask.go:30", after := #[{ on := 4, ground := .data }, { on := 6, ground := .data }], guard := none }) rfl (fun K hK => ?_) AllReadyH.nil
          refine own_append_step (w0 := w0) (W := w3.drew) (te := 138) rfl _ _ 127 rfl 138 (.agg #[.int .i64 0, .int .i64 0, .int .i64 0, .int .i64 0]) 4 32 Try.underlying127 numbers_info rfl (by omega) (.slice _ _ kt') _ _ rfl hLw3 HownS.out [.int .i64 e0, .int .i64 e1, .int .i64 e2, .int .i64 e3] rfl rfl (by simp [Value.oneCell']) hlen (by omega) ?_
          intro v' w4 hap
          obtain ⟨A', c', hv', _⟩ := own_slice hap.own
          subst hv'
          have hne : ∀ b, (b < bm + 9 ∨ b = g) → (Value.slice _ _ kt').ownBlock ≠ some b := fun b hb e => by
            rcases hb with hb | rfl
            · have := Hown9.out b e; omega
            · exact Hgo.out _ _ e
          refine hK.out _ _ (HS1.out _ fun b hb h9 _ => hap.keep b hb (hne b h9)) (fun hS4 => ?_)
          clear hK K; (try simp only [Act.put, List.setIfInBounds_toArray, List.set_cons_zero, List.set_cons_succ])
          refine wpAnyH_take (i := 8) (v := ?_) rfl (by kernel_rfl) (by kernel_rfl) (by kernel_rfl) (by intro _ _ _ h; first | exact h | exact absurd h.1 (by simp)) (Or.inl ⟨by rfl, ?_⟩) hS4 ?_; rotate_left; (focus (intro X hSX; (try dsimp only at hSX); go_simp; (try with_reducible rfl))); (try simp only [Act.put, List.setIfInBounds_toArray, List.set_cons_zero, List.set_cons_succ])
          refine wpAnyH_take (i := 9) (v := ?_) rfl (by kernel_rfl) (by kernel_rfl) (by kernel_rfl) (by intro _ _ _ h; first | exact h | exact absurd h.1 (by simp)) (Or.inl ⟨by rfl, ?_⟩) hS4 ?_; rotate_left; (focus (intro X hSX; (try dsimp only at hSX); go_simp; (try with_reducible rfl))); (try simp only [Act.put, List.setIfInBounds_toArray, List.set_cons_zero, List.set_cons_succ])
          have hk4 : w4.heap[bm + 1]? = w3.heap[bm + 1]? := hap.keep (bm + 1) (by show bm + 1 < w3.heap.size; omega) (hne _ (.inl (by omega)))
          have hb4 := Blk.of_eq hk4 Hbk3.out
          have c54 := hb4.cell 5
          have f54 := hb4.frozen 5
          simp only [List.getElem?_toArray, List.getElem?_cons_zero, List.getElem?_cons_succ] at c54
          refine wpAnyH_ready (rs := [10]) (by kernel_rfl) (by simp) ?_; refine AllReadyH.cons rfl (fun K hK => ?_) AllReadyH.nil
          go_simp
          refine hK.out _ _ ?_ (fun _ => ?_)
          · exact HS1.out _ fun b hb h9 hn1 => (Below.heap_setCell w4 _ _ b hn1).trans (hap.keep b hb (hne b h9))
          · clear hK K
            refine wpAnyH_done (by kernel_rfl) ?_ _
            gi_wp2_with fail
            exact ask_end HI.out (by omega) hL3 hk2 hp4 (by omega) Hbk.out Hown.out hap
        · go_simp
          refine hK.out _ _ hSa (fun _ => ?_)
          clear hK K; (try simp only [Act.put, List.setIfInBounds_toArray, List.set_cons_zero, List.set_cons_succ])
          refine wpAnyH_ready (rs := [4]) (by kernel_rfl) (by simp) ?_; refine AllReadyH.cons rfl (fun K hK => ?_) AllReadyH.nil
          go_simp
          refine hK.out _ _ hSa (fun _ => ?_)
          clear hK K; (try simp only [Act.put, List.setIfInBounds_toArray, List.set_cons_zero, List.set_cons_succ])
          refine wpAnyH_ready (rs := [7]) (by kernel_rfl) (by simp) ?_; refine AllReadyH.cons (o := { dst := some 57, op := .call { callee := .builtin .append, args := #[.tmp 54, .tmp 56], argTypes := #[127, 127] }, type := 127, pos := "ask.go:30", after := #[{ on := 4, ground := .data }, { on := 6, ground := .data }], guard := none }) rfl (fun K hK => ?_) AllReadyH.nil
          refine own_append_step (w0 := w0) (W := w3.drew) (te := 138) rfl _ _ 127 rfl 138 (.agg #[.int .i64 0, .int .i64 0, .int .i64 0, .int .i64 0]) 4 32 Try.underlying127 numbers_info rfl (by omega) (.slice _ _ kt') _ _ rfl hLw3 HownS.out [.int .i64 e0, .int .i64 e1, .int .i64 e2, .int .i64 e3] rfl rfl (by simp [Value.oneCell']) hlen (by omega) ?_
          intro v' w4 hap
          obtain ⟨A', c', hv', _⟩ := own_slice hap.own
          subst hv'
          have hne : ∀ b, (b < bm + 9 ∨ b = g) → (Value.slice _ _ kt').ownBlock ≠ some b := fun b hb e => by
            rcases hb with hb | rfl
            · have := Hown9.out b e; omega
            · exact Hgo.out _ _ e
          refine hK.out _ _ (HS1.out _ fun b hb h9 _ => hap.keep b hb (hne b h9)) (fun hS4 => ?_)
          clear hK K; (try simp only [Act.put, List.setIfInBounds_toArray, List.set_cons_zero, List.set_cons_succ])
          refine wpAnyH_take (i := 8) (v := ?_) rfl (by kernel_rfl) (by kernel_rfl) (by kernel_rfl) (by intro _ _ _ h; first | exact h | exact absurd h.1 (by simp)) (Or.inl ⟨by rfl, ?_⟩) hS4 ?_; rotate_left; (focus (intro X hSX; (try dsimp only at hSX); go_simp; (try with_reducible rfl))); (try simp only [Act.put, List.setIfInBounds_toArray, List.set_cons_zero, List.set_cons_succ])
          refine wpAnyH_take (i := 9) (v := ?_) rfl (by kernel_rfl) (by kernel_rfl) (by kernel_rfl) (by intro _ _ _ h; first | exact h | exact absurd h.1 (by simp)) (Or.inl ⟨by rfl, ?_⟩) hS4 ?_; rotate_left; (focus (intro X hSX; (try dsimp only at hSX); go_simp; (try with_reducible rfl))); (try simp only [Act.put, List.setIfInBounds_toArray, List.set_cons_zero, List.set_cons_succ])
          have hk4 : w4.heap[bm + 1]? = w3.heap[bm + 1]? := hap.keep (bm + 1) (by show bm + 1 < w3.heap.size; omega) (hne _ (.inl (by omega)))
          have hb4 := Blk.of_eq hk4 Hbk3.out
          have c54 := hb4.cell 5
          have f54 := hb4.frozen 5
          simp only [List.getElem?_toArray, List.getElem?_cons_zero, List.getElem?_cons_succ] at c54
          refine wpAnyH_ready (rs := [10]) (by kernel_rfl) (by simp) ?_; refine AllReadyH.cons rfl (fun K hK => ?_) AllReadyH.nil
          go_simp
          refine hK.out _ _ ?_ (fun _ => ?_)
          · exact HS1.out _ fun b hb h9 hn1 => (Below.heap_setCell w4 _ _ b hn1).trans (hap.keep b hb (hne b h9))
          · clear hK K
            refine wpAnyH_done (by kernel_rfl) ?_ _
            gi_wp2_with fail
            exact ask_end HI.out (by omega) hL3 hk2 hp4 (by omega) Hbk.out Hown.out hap
      · have hrd : RD W At (l0 ++ [y]).length (l0 ++ [y]) := Reads.of_own (c := kt') Hown.out
        obtain ⟨bt, ot, d, f0, f1, f2, f3, rfl, hbt, hd, hpd, r0, r1, r2, r3⟩ := RD.get hrd (k := l0.length) (by simp)
        have hdy : d = y := by
          rw [List.getElem?_append_right (Nat.le_refl _), Nat.sub_self] at hd
          simpa using hd.symm
        subst hdy
        have hlast : pad4 ((l0 ++ [d]).getLastD []) = [f0, f1, f2, f3] := by rw [List.getLastD_concat]; exact hpd.out
        have hm1 : l0.length ≤ 1000000 := by simp at hlen; omega
        have hwm : IntKind.i64.wrap (l0.length : Int) = l0.length := IntWalk.i64_in _ (by omega)
        have hll : (l0 ++ [d]).length = l0.length + 1 := by simp
        rw [hll] at q2
        have hz1 : ((l0.length : Int) + 1 == 0) = false := by simp; omega
        have hlt1 : (l0.length : Int) < (l0.length : Int) + 1 := by omega
        generalize hml : l0.length = m at *
        have Hml := hide hml
        have Hll := hide hll
        clear hd hrd hml hll
        cases heq : (f0 == e0 && (f1 == e1 && (f2 == e2 && f3 == e3))) with
        | true =>
          have hk2 : keep c (pre ++ [x]) = keep c pre := by
            rw [hksn, hks]; unfold keepStep
            rw [if_neg]
            rintro ⟨_, h | h⟩
            · simp at h
            · rw [hlast, hp4] at h
              simp only [Bool.and_eq_true, beq_iff_eq] at heq
              obtain ⟨rfl, rfl, rfl, rfl⟩ := heq
              exact h rfl
          have hne := fun X => neq4 f0 f1 f2 f3 e0 e1 e2 e3 true heq X
          clear hr hksn heq hlast
          gi_wp2_with fail
          refine region_round_quiet (w0 := W) (by kernel_rfl) (by kernel_rfl) (by kernel_rfl) (fun ⟨_, _, h⟩ => h) (later_refl _) ?_; (repeat (first | go_big_quiet_step ((go_at_call 101; exact calls_ext (by simp) (hrc _ (by simp)))) | quiet_step ((go_at_call 101; exact calls_ext (by simp) (hrc _ (by simp)))))); refine wpQuiet_nil ?_; rintro w3 ⟨⟨_, hL3⟩, rfl⟩; (try dsimp only)
          gi_wp2_with fail
          exact ⟨KeepsOthers.of_later hL3, fun b hb => hL3.block b (by omega), (HI.out.later (by omega) hL3).skip hk2⟩
        | false =>
          have hk2 : keep c (pre ++ [x]) = (l0 ++ [d]) ++ [x] := by
            rw [hksn]; unfold keepStep
            rw [if_pos]
            refine ⟨by rw [hp4]; exact hr, .inr fun h => ?_⟩
            rw [hlast, hp4] at h
            simp only [List.cons.injEq, and_true] at h
            obtain ⟨rfl, rfl, rfl, rfl⟩ := h
            simp at heq
          have hne0 := fun X => neq4 f0 f1 f2 f3 e0 e1 e2 e3 false heq X
          clear hr hksn heq hlast
          gi_wp2_with fail
          refine region_round_quiet (w0 := W) (by kernel_rfl) (by kernel_rfl) (by kernel_rfl) (fun ⟨_, _, h⟩ => h) (later_refl _) ?_; (repeat (first | go_big_quiet_step ((go_at_call 101; exact calls_ext (by simp) (hrc _ (by simp)))) | quiet_step ((go_at_call 101; exact calls_ext (by simp) (hrc _ (by simp)))))); refine wpQuiet_nil ?_; rintro w3 ⟨⟨_, hL3⟩, rfl⟩; (try dsimp only)
          gi_wp2_with fail
          generalize l0 ++ [d] = ks at *
          rw [← Hll.out]
          have hown3 := own_later2 Hown.out hL3
          have hbk3 := Hbk.out.later hL3
          have hLw3 : Later w0 w3.drew := later_drew (Later.trans hLW hL3)
          have hs3 := hL3.size
          have c5 : ∀ X, Later w3 X → X.cell? ⟨bm + 1, 5, none⟩ = some (.slice _ _ kt') := fun X hX => hbk3.cells_later X hX 5
          have hS0 : w3.drew.cell? ⟨bm + 1 + 1, 0, none⟩ = some (.pointer (some ⟨bm + 1, 0, none⟩)) ∧ w3.drew.cell? ⟨g, 0, none⟩ = some (.int .i64 e0) ∧ w3.drew.cell? ⟨g, 1, none⟩ = some (.int .i64 e1) ∧ w3.drew.cell? ⟨g, 2, none⟩ = some (.int .i64 e2) ∧ w3.drew.cell? ⟨g, 3, none⟩ = some (.int .i64 e3) :=
            ⟨q1 w3 hL3 0, q3 w3 hL3 0, q3 w3 hL3 1, q3 w3 hL3 2, q3 w3 hL3 3⟩
          have hbg : g < w3.drew.heap.size := World.block_lt_of_cell? _ _ hS0.2.1
          have hS1 : ∀ X : World, (∀ b, b < w3.drew.heap.size → (b < bm + 9 ∨ b = g) → b ≠ bm + 1 → X.heap[b]? = w3.drew.heap[b]?) → X.cell? ⟨bm + 1 + 1, 0, none⟩ = some (.pointer (some ⟨bm + 1, 0, none⟩)) ∧ X.cell? ⟨g, 0, none⟩ = some (.int .i64 e0) ∧ X.cell? ⟨g, 1, none⟩ = some (.int .i64 e1) ∧ X.cell? ⟨g, 2, none⟩ = some (.int .i64 e2) ∧ X.cell? ⟨g, 3, none⟩ = some (.int .i64 e3) := fun X hX => by
            have k1 := hX (bm + 1 + 1) (by show bm + 1 + 1 < w3.heap.size; omega) (.inl (by omega)) (by omega)
            have k2 := hX g hbg (.inr rfl) (by omega)
            exact ⟨(World.cell?_of_block (a := ⟨bm + 1 + 1, 0, none⟩) k1).trans hS0.1, (World.cell?_of_block (a := ⟨g, 0, none⟩) k2).trans hS0.2.1, (World.cell?_of_block (a := ⟨g, 1, none⟩) k2).trans hS0.2.2.1, (World.cell?_of_block (a := ⟨g, 2, none⟩) k2).trans hS0.2.2.2.1, (World.cell?_of_block (a := ⟨g, 3, none⟩) k2).trans hS0.2.2.2.2⟩
          have hSa := hS1 (w3.drew.alloc (.cells #[.int .i64 e0, .int .i64 e1, .int .i64 e2, .int .i64 e3] 138)) (fun b hb _ _ => Below.heap_alloc _ _ b hb)
          have hownS : w3.drew.ownsRow w0.heap.size 138 4 (.slice _ _ kt') _ (drysV _) := own_rebase (World.ownsRow.drew hown3) fun g e => by have := (hown3.lt g e).1; omega
          have hown9 : ∀ b, _ → bm + 4 + 5 ≤ b := fun b e => (hown3.lt b e).1
          have HS1 := hide hS1
          have Hbk3 := hide hbk3
          have Hown9 := hide hown9
          have HownS := hide hownS
          clear hown3 hS1 hbk3 hown9 hownS hrc q2
          refine region_round (by kernel_rfl) (by kernel_rfl) (fun ⟨_, _, h⟩ => h) (wpAny_of_held (S := fun X => X.cell? ⟨bm + 1 + 1, 0, none⟩ = some (.pointer (some ⟨bm + 1, 0, none⟩)) ∧ X.cell? ⟨g, 0, none⟩ = some (.int .i64 e0) ∧ X.cell? ⟨g, 1, none⟩ = some (.int .i64 e1) ∧ X.cell? ⟨g, 2, none⟩ = some (.int .i64 e2) ∧ X.cell? ⟨g, 3, none⟩ = some (.int .i64 e3)) _ _ _ _ ?_)
          refine wpAnyH_take (i := 0) (v := ?_) rfl (by kernel_rfl) (by kernel_rfl) (by kernel_rfl) (by intro _ _ _ h; first | exact h | exact absurd h.1 (by simp)) (Or.inl ⟨by rfl, ?_⟩) hS0 ?_; rotate_left; (focus (intro X hSX; (try dsimp only at hSX); go_simp; (try with_reducible rfl))); (try simp only [Act.put, List.setIfInBounds_toArray, List.set_cons_zero, List.set_cons_succ])
          refine wpAnyH_take (i := 1) (v := ?_) rfl (by kernel_rfl) (by kernel_rfl) (by kernel_rfl) (by intro _ _ _ h; first | exact h | exact absurd h.1 (by simp)) (Or.inl ⟨by rfl, ?_⟩) hS0 ?_; rotate_left; (focus (intro X hSX; (try dsimp only at hSX); go_simp; (try with_reducible rfl))); (try simp only [Act.put, List.setIfInBounds_toArray, List.set_cons_zero, List.set_cons_succ])
          refine wpAnyH_take (i := 2) (v := ?_) rfl (by kernel_rfl) (by kernel_rfl) (by kernel_rfl) (by intro _ _ _ h; first | exact h | exact absurd h.1 (by simp)) (Or.inl ⟨by rfl, ?_⟩) hS0 ?_; rotate_left; (focus (intro X hSX; (try dsimp only at hSX); go_simp; (try with_reducible rfl))); (try simp only [Act.put, List.setIfInBounds_toArray, List.set_cons_zero, List.set_cons_succ])
          refine wpAnyH_take (i := 3) (v := ?_) rfl (by kernel_rfl) (by kernel_rfl) (by kernel_rfl) (by intro _ _ _ h; first | exact h | exact absurd h.1 (by simp)) (Or.inl ⟨by rfl, ?_⟩) hS0 ?_; rotate_left; (focus (intro X hSX; (try dsimp only at hSX); go_simp; (try with_reducible rfl))); (try simp only [Act.put, List.setIfInBounds_toArray, List.set_cons_zero, List.set_cons_succ])
          refine wpAnyH_take (i := 5) (v := ?_) rfl (by kernel_rfl) (by kernel_rfl) (by kernel_rfl) (by intro _ _ _ h; first | exact h | exact absurd h.1 (by simp)) (Or.inl ⟨by rfl, ?_⟩) hS0 ?_; rotate_left; (focus (intro X hSX; (try dsimp only at hSX); go_simp; (try with_reducible rfl))); (try simp only [Act.put, List.setIfInBounds_toArray, List.set_cons_zero, List.set_cons_succ])
          refine wpAnyH_ready (rs := [4, 6]) (by kernel_rfl) (by simp) ?_
          refine AllReadyH.cons rfl (fun K hK => ?_) (AllReadyH.cons rfl (fun K hK => ?_) AllReadyH.nil)
          · go_simp
            refine hK.out _ _ hS0 (fun _ => ?_)
            clear hK K; (try simp only [Act.put, List.setIfInBounds_toArray, List.set_cons_zero, List.set_cons_succ])
            refine wpAnyH_ready (rs := [6]) (by kernel_rfl) (by simp) ?_; refine AllReadyH.cons rfl (fun K hK => ?_) AllReadyH.nil
            go_simp
            refine hK.out _ _ hSa (fun _ => ?_)
            clear hK K; (try simp only [Act.put, List.setIfInBounds_toArray, List.set_cons_zero, List.set_cons_succ])
            refine wpAnyH_ready (rs := [7]) (by kernel_rfl) (by simp) ?_; refine AllReadyH.cons (o := { dst := some 57, op := .call { callee := .builtin .append, args := #[.tmp 54, .tmp 56], argTypes := #[127, 127] }, type := 127, pos := "ask.go:30", after := #[{ on := 4, ground := .data }, { on := 6, ground := .data }], guard := none }) rfl (fun K hK => ?_) AllReadyH.nil
            refine own_append_step (w0 := w0) (W := w3.drew) (te := 138) rfl _ _ 127 rfl 138 (.agg #[.int .i64 0, .int .i64 0, .int .i64 0, .int .i64 0]) 4 32 Try.underlying127 numbers_info rfl (by omega) (.slice _ _ kt') _ _ rfl hLw3 HownS.out [.int .i64 e0, .int .i64 e1, .int .i64 e2, .int .i64 e3] rfl rfl (by simp [Value.oneCell']) hlen (by omega) ?_
            intro v' w4 hap
            obtain ⟨A', c', hv', _⟩ := own_slice hap.own
            subst hv'
            have hne : ∀ b, (b < bm + 9 ∨ b = g) → (Value.slice _ _ kt').ownBlock ≠ some b := fun b hb e => by
              rcases hb with hb | rfl
              · have := Hown9.out b e; omega
              · exact Hgo.out _ _ e
            refine hK.out _ _ (HS1.out _ fun b hb h9 _ => hap.keep b hb (hne b h9)) (fun hS4 => ?_)
            clear hK K; (try simp only [Act.put, List.setIfInBounds_toArray, List.set_cons_zero, List.set_cons_succ])
            refine wpAnyH_take (i := 8) (v := ?_) rfl (by kernel_rfl) (by kernel_rfl) (by kernel_rfl) (by intro _ _ _ h; first | exact h | exact absurd h.1 (by simp)) (Or.inl ⟨by rfl, ?_⟩) hS4 ?_; rotate_left; (focus (intro X hSX; (try dsimp only at hSX); go_simp; (try with_reducible rfl))); (try simp only [Act.put, List.setIfInBounds_toArray, List.set_cons_zero, List.set_cons_succ])
            refine wpAnyH_take (i := 9) (v := ?_) rfl (by kernel_rfl) (by kernel_rfl) (by kernel_rfl) (by intro _ _ _ h; first | exact h | exact absurd h.1 (by simp)) (Or.inl ⟨by rfl, ?_⟩) hS4 ?_; rotate_left; (focus (intro X hSX; (try dsimp only at hSX); go_simp; (try with_reducible rfl))); (try simp only [Act.put, List.setIfInBounds_toArray, List.set_cons_zero, List.set_cons_succ])
            have hk4 : w4.heap[bm + 1]? = w3.heap[bm + 1]? := hap.keep (bm + 1) (by show bm + 1 < w3.heap.size; omega) (hne _ (.inl (by omega)))
            have hb4 := Blk.of_eq hk4 Hbk3.out
            have c54 := hb4.cell 5
            have f54 := hb4.frozen 5
            simp only [List.getElem?_toArray, List.getElem?_cons_zero, List.getElem?_cons_succ] at c54
            refine wpAnyH_ready (rs := [10]) (by kernel_rfl) (by simp) ?_; refine AllReadyH.cons rfl (fun K hK => ?_) AllReadyH.nil
            go_simp
            refine hK.out _ _ ?_ (fun _ => ?_)
            · exact HS1.out _ fun b hb h9 hn1 => (Below.heap_setCell w4 _ _ b hn1).trans (hap.keep b hb (hne b h9))
            · clear hK K
              refine wpAnyH_done (by kernel_rfl) ?_ _
              gi_wp2_with fail
              exact ask_end HI.out (by omega) hL3 hk2 hp4 (by omega) Hbk.out Hown.out hap
          · go_simp
            refine hK.out _ _ hSa (fun _ => ?_)
            clear hK K; (try simp only [Act.put, List.setIfInBounds_toArray, List.set_cons_zero, List.set_cons_succ])
            refine wpAnyH_ready (rs := [4]) (by kernel_rfl) (by simp) ?_; refine AllReadyH.cons rfl (fun K hK => ?_) AllReadyH.nil
            go_simp
            refine hK.out _ _ hSa (fun _ => ?_)
            clear hK K; (try simp only [Act.put, List.setIfInBounds_toArray, List.set_cons_zero, List.set_cons_succ])
            refine wpAnyH_ready (rs := [7]) (by kernel_rfl) (by simp) ?_; refine AllReadyH.cons (o := { dst := some 57, op := .call { callee := .builtin .append, args := #[.tmp 54, .tmp 56], argTypes := #[127, 127] }, type := 127, pos := "ask.go:30", after := #[{ on := 4, ground := .data }, { on := 6, ground := .data }], guard := none }) rfl (fun K hK => ?_) AllReadyH.nil
            refine own_append_step (w0 := w0) (W := w3.drew) (te := 138) rfl _ _ 127 rfl 138 (.agg #[.int .i64 0, .int .i64 0, .int .i64 0, .int .i64 0]) 4 32 Try.underlying127 numbers_info rfl (by omega) (.slice _ _ kt') _ _ rfl hLw3 HownS.out [.int .i64 e0, .int .i64 e1, .int .i64 e2, .int .i64 e3] rfl rfl (by simp [Value.oneCell']) hlen (by omega) ?_
            intro v' w4 hap
            obtain ⟨A', c', hv', _⟩ := own_slice hap.own
            subst hv'
            have hne : ∀ b, (b < bm + 9 ∨ b = g) → (Value.slice _ _ kt').ownBlock ≠ some b := fun b hb e => by
              rcases hb with hb | rfl
              · have := Hown9.out b e; omega
              · exact Hgo.out _ _ e
            refine hK.out _ _ (HS1.out _ fun b hb h9 _ => hap.keep b hb (hne b h9)) (fun hS4 => ?_)
            clear hK K; (try simp only [Act.put, List.setIfInBounds_toArray, List.set_cons_zero, List.set_cons_succ])
            refine wpAnyH_take (i := 8) (v := ?_) rfl (by kernel_rfl) (by kernel_rfl) (by kernel_rfl) (by intro _ _ _ h; first | exact h | exact absurd h.1 (by simp)) (Or.inl ⟨by rfl, ?_⟩) hS4 ?_; rotate_left; (focus (intro X hSX; (try dsimp only at hSX); go_simp; (try with_reducible rfl))); (try simp only [Act.put, List.setIfInBounds_toArray, List.set_cons_zero, List.set_cons_succ])
            refine wpAnyH_take (i := 9) (v := ?_) rfl (by kernel_rfl) (by kernel_rfl) (by kernel_rfl) (by intro _ _ _ h; first | exact h | exact absurd h.1 (by simp)) (Or.inl ⟨by rfl, ?_⟩) hS4 ?_; rotate_left; (focus (intro X hSX; (try dsimp only at hSX); go_simp; (try with_reducible rfl))); (try simp only [Act.put, List.setIfInBounds_toArray, List.set_cons_zero, List.set_cons_succ])
            have hk4 : w4.heap[bm + 1]? = w3.heap[bm + 1]? := hap.keep (bm + 1) (by show bm + 1 < w3.heap.size; omega) (hne _ (.inl (by omega)))
            have hb4 := Blk.of_eq hk4 Hbk3.out
            have c54 := hb4.cell 5
            have f54 := hb4.frozen 5
            simp only [List.getElem?_toArray, List.getElem?_cons_zero, List.getElem?_cons_succ] at c54
            refine wpAnyH_ready (rs := [10]) (by kernel_rfl) (by simp) ?_; refine AllReadyH.cons rfl (fun K hK => ?_) AllReadyH.nil
            go_simp
            refine hK.out _ _ ?_ (fun _ => ?_)
            · exact HS1.out _ fun b hb h9 hn1 => (Below.heap_setCell w4 _ _ b hn1).trans (hap.keep b hb (hne b h9))
            · clear hK K
              refine wpAnyH_done (by kernel_rfl) ?_ _
              gi_wp2_with fail
              exact ask_end HI.out (by omega) hL3 hk2 hp4 (by omega) Hbk.out Hown.out hap
  case done =>
    intro W hI hK
    rw [hE] at hK ⊢
    obtain ⟨At, kt', hbk, hown⟩ := hI.row
    have ktW : Blk W (bm + 1 + 1) 121 #[.pointer (some ⟨bm + 1, 0, none⟩)] := (hI.old _ (by omega) (by omega)).trans kt
    have t0 := ktW.cell 0
    have d5 := hbk.cell 5
    simp only [List.getElem?_toArray, List.getElem?_cons_zero, List.getElem?_cons_succ] at t0 d5
    have hkeep : keep c (dryAll c.horses) = truthsP c := rfl
    rw [hkeep] at hown hbk d5
    obtain ⟨nt, hnt⟩ : ∃ n, (truthsP c).length = n := ⟨_, rfl⟩
    rw [hnt] at hown hbk d5
    have Hnt := hide hnt
    have Hbk := hide hbk
    clear hbk hnt hkeep
    have hLput : Later w (W.putObj (bm + 4) (.deferred none)) := Later.trans hL0 (later_put (hI.base hL0E (by omega) (by omega)) (by omega) _)
    cases hz : ((nt : Int) == 0) with
    | true =>
      gi_wp2_with fail
      refine ⟨by simp, .inl ⟨_, _, rfl, run_takeDeferred hK, ?_⟩⟩
      refine ⟨.tuple #[.pointer none, .int .i64 11], by simp [results, Try.results83, go_sem], .inl ⟨?_, rfl, hLput⟩⟩
      exact List.eq_nil_of_length_eq_zero (by have h0 : (nt : Int) = 0 := (by simpa using hz); have := Hnt.out; omega)
    | false =>
      gi_wp2_with fail
      refine ⟨by simp, .inl ⟨_, _, rfl, run_takeDeferred hK, ?_⟩⟩
      refine ⟨.tuple #[.pointer (some ⟨bm + 1, 0, none⟩), .int .i64 0], by simp [results, Try.results83, go_sem], .inr ⟨?_, bm + 1, bm, At, kt', rfl, hLput, ⟨?_, ?_, ?_, ?_⟩, ?_, by omega, by omega, by omega, fun b o e => by subst e; have := (hown.lt b rfl).1; omega⟩⟩
      · intro h0
        rw [h0] at Hnt
        have := Hnt.out
        simp only [List.length_nil] at this
        subst this
        cases hz
      · intro i
        rw [Hnt.out]
        exact (World.cell?_of_block (a := ⟨bm + 1, i, none⟩) (heap_put W (bm + 4) _ (bm + 1) (by omega))).trans (Hbk.out.cell i)
      · have := hI.size
        simp; omega
      · exact hc.later hLput
      · rw [Hnt.out]
        have := own_block (W' := W.putObj (bm + 4) (.deferred none)) hown fun g hg => heap_put W _ _ g (by have := (hown.lt g hg).1; omega)
        exact Reads.of_own (c := kt') this
      · exact (heap_put W (bm + 4) _ bm (by omega)).trans ((hI.old bm (by omega) (by omega)).trans km)
  case stop => exact fun _ _ _ _ h _ => h.elim
  · intro W hL hs
    rw [hE] at hs
    refine truths_iter (n2 := n2) (k2 := k2) (n3 := n3) (k3 := k3) (A2 := A2) (A3 := A3) (k1 := k1) ok.toOkH (hcE.hs.later hL) (kc.later hL) (by omega) (fun hn b o e => ?_) (by omega) (by omega) (by omega)
    obtain ⟨b', o', e3, hb', _⟩ := Reads.lit hc.hs (by omega) hn
    rw [e] at e3; obtain ⟨rfl, _⟩ := some_lit e3; omega
  · exact fun W o b hb => heap_put W _ o b (by rw [hE]; exact hb.2.2)
  · rw [hE]; exact AskI.stands (by omega)
  · intro s A o h _; rw [hE]; exact h.put (by omega) o
  · intro A hL hs
    rw [hE] at hs
    refine ⟨hs, (hL.os).trans hL0E.os, (hL.tape).trans hL0E.tape, (hL.output).trans hL0E.output, fun b hb _ => hL.block b (by omega), none, 0, kw.later hL, ?_⟩
    exact World.ownsRow_nil _ _ _ _
  · rintro pre x a' A o ⟨g, e0, e1, e2, e3, rfl, hpad, hg, hgo, hBd, hI⟩ _
    rw [hE]
    exact ⟨g, e0, e1, e2, e3, rfl, hpad, hg, fun v hv => hgo v ((World.cell?_of_block (a := ⟨bm + 1, 5, none⟩) (heap_put A (bm + 4 + 1) o (bm + 1) (by omega))).symm.trans hv), (heap_put A _ o g (by omega)).trans hBd, hI.put (by omega) o⟩
end Go.Proofs.Ytjilckjhdlabaaa

/- The program's asked, by its error; Stuck: walks. -/
namespace Go.Proofs.Ytjilckjhdlabaaa
open Go Go.RowKit

/-- the error of what is asked -/
def askedErr (c : Clo) (fine : Bool) : Int := if fault c ≠ 0 then fault c else if fine = false then 2 else if truthsP c = [] then 11 else 0
theorem asked_fail {A1 A2 A3 : Option Addr} {n1 k1 n2 k2 n3 k3 : Nat} {c : Clo} {fine : Bool} {b : Int} (w : World) (hc : CV w c A1 n1 A2 n2 A3 n3) (hcl : i64 c.closets) (hn1 : n1 ≤ 1000) (hn2 : n2 ≤ 1000) (hn3 : n3 ≤ 1000) (hk2 : n2 ≤ k2) (hb : askedErr c fine = b) (h0 : b ≠ 0) :
    Calls Try.prog 83 #[(.agg #[.int .i64 c.closets, .int .i64 c.close, .slice A1 n1 k1, .slice A2 n2 k2, .slice A3 n3 k3]), .bool fine] w fun e w' => e = .returned (.tuple #[.pointer none, .int .i64 b]) ∧ Later w w' := by
  unfold askedErr at hb
  by_cases hf : fault c = 0
  · rw [if_neg (by simp [hf])] at hb
    cases fine with
    | false =>
      rw [if_pos rfl] at hb
      subst hb
      exact asked_unfine w hc hcl hn1 hn2 hn3 hk2 hf
    | true =>
      rw [if_neg (by simp)] at hb
      by_cases ht : truthsP c = []
      · rw [if_pos ht] at hb
        subst hb
        refine (asked_fine w hc hcl hn1 hn2 hn3 hk2 hf).mono ?_
        rintro e w' (⟨_, rfl, hL⟩ | ⟨hne, _⟩)
        · exact ⟨rfl, hL⟩
        · exact absurd ht hne
      · rw [if_neg ht] at hb
        exact absurd hb.symm h0
  · rw [if_pos hf] at hb
    subst hb
    exact asked_bad w hc hcl hn1 hn2 hn3 hk2 hf
/-- what asked returns where there is no error -/
def AskedOk (c : Clo) (A1 : Option Addr) (n1 k1 : Nat) (A2 : Option Addr) (n2 k2 : Nat) (A3 : Option Addr) (n3 k3 : Nat) (w : World) (e : Ending) (w' : World) : Prop :=
  ∃ bw bm At kt, e = .returned (.tuple #[.pointer (some ⟨bw, 0, none⟩), .int .i64 0]) ∧ Later w w' ∧ WK w' bw c A1 n1 k1 A2 n2 k2 A3 n3 k3 At (truthsP c).length kt (truthsP c) (.map (some bm)) ∧
    w'.heap[bm]? = some (.map #[] 0) ∧ w.heap.size ≤ bm ∧ w.heap.size ≤ bw ∧ bm ≠ bw ∧ ∀ b o, At = some ⟨b, o, none⟩ → w.heap.size ≤ b
theorem askedErr_zero {c : Clo} {fine : Bool} (h : askedErr c fine = 0) : fault c = 0 ∧ fine = true ∧ truthsP c ≠ [] := by
  unfold askedErr at h
  by_cases hf : fault c = 0
  · rw [if_neg (by simp [hf])] at h
    cases fine with
    | false => rw [if_pos rfl] at h; exact absurd h (by decide)
    | true =>
      rw [if_neg (by simp)] at h
      by_cases ht : truthsP c = []
      · rw [if_pos ht] at h; exact absurd h (by decide)
      · exact ⟨hf, rfl, ht⟩
  · rw [if_pos hf] at h; exact absurd h hf
theorem asked_ok {A1 A2 A3 : Option Addr} {n1 k1 n2 k2 n3 k3 : Nat} {c : Clo} {fine : Bool} (w : World) (hc : CV w c A1 n1 A2 n2 A3 n3) (hcl : i64 c.closets) (hn1 : n1 ≤ 1000) (hn2 : n2 ≤ 1000) (hn3 : n3 ≤ 1000) (hk2 : n2 ≤ k2) (hb : askedErr c fine = 0) :
    Calls Try.prog 83 #[(.agg #[.int .i64 c.closets, .int .i64 c.close, .slice A1 n1 k1, .slice A2 n2 k2, .slice A3 n3 k3]), .bool fine] w fun e w' => AskedOk c A1 n1 k1 A2 n2 k2 A3 n3 k3 w e w' := by
  obtain ⟨hf, rfl, ht⟩ := askedErr_zero hb
  refine (asked_fine w hc hcl hn1 hn2 hn3 hk2 hf).mono ?_
  rintro e w' (⟨h, _⟩ | ⟨_, h⟩)
  · exact absurd h ht
  · exact h
theorem askedErr_range (c : Clo) (fine : Bool) : 0 ≤ askedErr c fine ∧ askedErr c fine ≤ 11 := by
  unfold askedErr
  rcases fault_cases c with h | h | h <;> rw [h] <;> (split <;> try split) <;> (try split) <;> omega
theorem truthsP_len {c : Clo} (hf : fault c = 0) : (truthsP c).length ≤ 2000 := by
  have h1 := (truthsP_perm hf).length_eq
  have h2 : (truths c).length ≤ (allDry c).length := List.length_filter_le _ _
  have h3 : (allDry c).length = (many c).toNat := by simp [allDry]
  have h4 := (fault_zero hf).2.2.2.2.2.2
  omega
theorem isPlaceB_isPl {c : Clo} (hf : fault c = 0) {p : List Int} (h : isPlaceB c p = true) : IsPl c p := (isPlaceB_iff (okC_of_fault hf).cl1 (okC_of_fault hf).cl4 p).1 h

/-- what Stuck returns -/
def stuckOut (c : Clo) (p : List Int) : Int × Int :=
  if askedErr c (isPlaceB c p) ≠ 0 then (0, askedErr c (isPlaceB c p)) else if (doneP c (truthsP c) p).2 = c.horses.length then (0, 7) else ((doneP c (truthsP c) p).2, 0)

set_option maxRecDepth 100000 in
set_option maxHeartbeats 1000000 in
theorem StuckP_calls {A1 A2 A3 : Option Addr} {n1 k1 n2 k2 n3 k3 : Nat} {c : Clo} {Ap : Option Addr} {np kp : Nat} {p : List Int} (w : World) (hc : CV w c A1 n1 A2 n2 A3 n3) (hcl : i64 c.closets) (hn1 : n1 ≤ 1000) (hn2 : n2 ≤ 1000) (hn3 : n3 ≤ 1000) (hk2 : n2 ≤ k2)
    (hp : RI w Ap np p) (hcap : np ≤ kp) (hnp : np ≤ 1000000) :
    Calls Try.prog 25 #[(.agg #[.int .i64 c.closets, .int .i64 c.close, .slice A1 n1 k1, .slice A2 n2 k2, .slice A3 n3 k3]), .slice Ap np kp] w fun e w' => e = .returned (.tuple #[.int .i64 (stuckOut c p).1, .int .i64 (stuckOut c p).2]) ∧ Later w w' := by
  obtain ⟨w0, hw0⟩ : ∃ W, W = (w.alloc (.cells #[.int .i64 c.closets, .int .i64 c.close, .slice A1 n1 k1, .slice A2 n2 k2, .slice A3 n3 k3] 35)) := ⟨_, rfl⟩; have hbox : ∀ W, Later w0 W → ∀ i, W.cell? ⟨w.heap.size, i, none⟩ = #[.int .i64 c.closets, .int .i64 c.close, .slice A1 n1 k1, .slice A2 n2 k2, .slice A3 n3 k3][i]? := (by rw [hw0]; exact box_cells w #[.int .i64 c.closets, .int .i64 c.close, .slice A1 n1 k1, .slice A2 n2 k2, .slice A3 n3 k3] 35); have hL0 : Later w w0 := (by rw [hw0]; simp); have hc0 := hc.later hL0; have Hw0 := hide hw0; clear hw0
  have hT : ∀ e : Ext w0, Later w0 e.W := fun e => e.h
  have hp0 := hp.later hL0
  obtain ⟨b, hb⟩ : ∃ b, isPlaceB c p = b := ⟨_, rfl⟩
  have Hso : Hid (stuckOut c p = if askedErr c b ≠ 0 then (0, askedErr c b) else if (doneP c (truthsP c) p).2 = c.horses.length then (0, 7) else ((doneP c (truthsP c) p).2, 0)) := by rw [← hb]; rfl
  by_cases he : askedErr c b = 0
  · obtain ⟨hf, hb2, htn⟩ := askedErr_zero he
    have ok := okC_of_fault hf
    have hpl := isPlaceB_isPl hf (hb.trans hb2)
    have htl := truthsP_len hf
    have hdry := truthsP_isDry ok.toOkH
    have hS0 : Later w0 w0.drew := later_drew (later_refl _)
    obtain ⟨⟨d1, d2⟩, hd⟩ : ∃ q, doneP c (truthsP c) p = q := ⟨_, rfl⟩
    rw [if_neg (by simp [he]), hd] at Hso
    have hnl := hc.hs.len
    rw [← hnl] at Hso
    have Hhf := hide hf
    have Hhb := hide hb
    have Hhe := hide he
    have Hb2 := hide hb2
    have Hd := hide hd
    have Hnl := hide hnl
    clear hf hb he hb2 hd hnl
    go_enter Try.func25, Try.ntmps25
    go_wp2_with fail
    rw [← Hw0.out]; clear Hw0
    go_region_held3 (fun W => Later w0 W) ((((repeat (first | assumption | refine later_drew ?_ | refine later_alloc ?_ _ | refine later_set ?_ _ (Nat.le_add_right _ _) _ | refine later_set ?_ _ (Nat.le_refl _) _)); done)))
      (first
        | (go_at_call 83; go_must (refine (asked_ok w1 (hc0.later hL1) hcl hn1 hn2 hn3 hk2 Hhe.out).mono ?_; rintro e w2 ⟨bw, bm, At, kt, rfl, hL2, hWK, hbm⟩; have hLw2 := Later.trans hL1 hL2))
        | (go_at_call 84; go_must (refine (isPlace_eq Hhb.out _ (hc0.later hS0) (hp0.later hS0) hcap hnp (by omega)).mono ?_; rintro e w1 ⟨rfl, hL⟩; have hL1 := Later.trans hS0 hL)))
    have hdc := done_calls (kp := kp) w2 hWK ok.toOkH (hp0.later hLw2) hpl hdry (by omega)
    rw [Hd.out] at hdc
    have Hdc := hide hdc
    clear hdc
    by_cases h7 : d2 = (n1 : Int)
    · have h7b : (d2 == (n1 : Int)) = true := by simpa using h7
      rw [if_pos h7] at Hso
      clear h7
      go_wp2_with fail
      refine Hdc.out.mono ?_
      rintro e w3 ⟨rfl, hL3⟩
      have hLw3 := Later.trans hLw2 hL3
      go_wp2_with fail
      refine bodyPost_ret (v := .tuple #[.int .i64 0, .int .i64 7]) ?_ rfl ⟨by rw [Hso.out], Later.trans hL0 hLw3⟩
      simp [results, Try.results25, go_sem]
    · have h7b : (d2 == (n1 : Int)) = false := by simpa using h7
      rw [if_neg h7] at Hso
      clear h7
      go_wp2_with fail
      refine Hdc.out.mono ?_
      rintro e w3 ⟨rfl, hL3⟩
      have hLw3 := Later.trans hLw2 hL3
      go_wp2_with fail
      refine bodyPost_ret (v := .tuple #[.int .i64 d2, .int .i64 0]) ?_ rfl ⟨by rw [Hso.out], Later.trans hL0 hLw3⟩
      simp [results, Try.results25, go_sem]
  · have hfb : (askedErr c b != 0) = true := by simpa using he
    have hfb2 : (askedErr c b == 0) = false := by simpa using he
    rw [if_pos he] at Hso
    have Hhb := hide hb
    have Hhe := hide he
    clear hb he
    generalize hq : askedErr c b = q at *
    have Hq := hide hq
    clear hq
    go_enter Try.func25, Try.ntmps25
    go_wp2_with fail
    rw [← Hw0.out]; clear Hw0
    refine wp_region_ext (w0 := w0) (by kernel_rfl) (by kernel_rfl) (later_refl _) ?_; (repeat (first | go_big_quiet_step ((first | (go_at_call 84; exact calls_ext (by simp) (isPlace_eq Hhb.out _ (hc0.later (hT _)) (hp0.later (hT _)) hcap hnp (by omega))) | (go_at_call 83; exact calls_ext (by simp) (asked_fail _ (hc0.later (hT _)) hcl hn1 hn2 hn3 hk2 Hq.out Hhe.out)))) | quiet_step ((first | (go_at_call 84; exact calls_ext (by simp) (isPlace_eq Hhb.out _ (hc0.later (hT _)) (hp0.later (hT _)) hcap hnp (by omega))) | (go_at_call 83; exact calls_ext (by simp) (asked_fail _ (hc0.later (hT _)) hcl hn1 hn2 hn3 hk2 Hq.out Hhe.out)))))); refine wpQuiet_nil ?_; rintro w1 ⟨⟨_, hL1⟩, rfl⟩; (try dsimp only)
    go_wp2_with fail
    refine bodyPost_ret (v := .tuple #[.int .i64 0, .int .i64 q]) ?_ rfl ⟨by rw [Hso.out], Later.trans hL0 hL1⟩
    simp [results, Try.results25, go_sem]
end Go.Proofs.Ytjilckjhdlabaaa

/- The program's Good: walk. -/
namespace Go.Proofs.Ytjilckjhdlabaaa
open Go Go.RowKit

theorem horse_eq {A1 A2 A3 : Option Addr} {n1 k1 n2 k2 n3 k3 : Nat} {c : Clo} {n : Int} {b : Bool} (w : World) (hn : n1 ≤ 1000000) (hb : inB n 0 ((n1 : Int) - 1) = b) : Calls Try.prog 97 #[(.agg #[.int .i64 c.closets, .int .i64 c.close, .slice A1 n1 k1, .slice A2 n2 k2, .slice A3 n3 k3]), .int .i64 n] w fun e w' => e = .returned (.bool b) ∧ Later w w' := by
  subst hb; exact horse_calls w hn
def isHorse (c : Clo) (h : Int) : Bool := inB h 0 ((c.horses.length : Int) - 1)
theorem isHorse_nat {c : Clo} {h : Int} (hh : isHorse c h = true) : ∃ k : Nat, h = k ∧ k < c.horses.length := by
  simp only [isHorse, inB, Bool.and_eq_true, decide_eq_true_eq] at hh
  exact ⟨h.toNat, by omega, by omega⟩
/-- what Good returns -/
def goodOut (c : Clo) (p : List Int) (h : Int) : Int × Int × Int :=
  if askedErr c (isPlaceB c p && isHorse c h) ≠ 0 then (0, 0, askedErr c (isPlaceB c p && isHorse c h))
  else if (goodP c (truthsP c) p h.toNat).2 < (goodP c (truthsP c) p h.toNat).1 then (0, 0, 10) else ((goodP c (truthsP c) p h.toNat).1, (goodP c (truthsP c) p h.toNat).2, 0)

set_option maxRecDepth 100000 in
set_option maxHeartbeats 1000000 in
theorem GoodP_calls {A1 A2 A3 : Option Addr} {n1 k1 n2 k2 n3 k3 : Nat} {c : Clo} {Ap : Option Addr} {np kp : Nat} {p : List Int} {h : Int} (w : World) (hc : CV w c A1 n1 A2 n2 A3 n3) (hcl : i64 c.closets) (hn1 : n1 ≤ 1000) (hn2 : n2 ≤ 1000) (hn3 : n3 ≤ 1000) (hk2 : n2 ≤ k2)
    (hp : RI w Ap np p) (hcap : np ≤ kp) (hnp : np ≤ 1000000) :
    Calls Try.prog 54 #[(.agg #[.int .i64 c.closets, .int .i64 c.close, .slice A1 n1 k1, .slice A2 n2 k2, .slice A3 n3 k3]), .slice Ap np kp, .int .i64 h] w fun e w' => e = .returned (.tuple #[.agg #[.int .i64 (goodOut c p h).1, .int .i64 (goodOut c p h).2.1], .int .i64 (goodOut c p h).2.2]) ∧ Later w w' := by
  obtain ⟨w0, hw0⟩ : ∃ W, W = (w.alloc (.cells #[.int .i64 c.closets, .int .i64 c.close, .slice A1 n1 k1, .slice A2 n2 k2, .slice A3 n3 k3] 35)).alloc (.cells #[.int .i64 0, .int .i64 0] 61) := ⟨_, rfl⟩
  have hbox : ∀ W, Later w0 W → ∀ i, W.cell? ⟨w.heap.size, i, none⟩ = #[.int .i64 c.closets, .int .i64 c.close, .slice A1 n1 k1, .slice A2 n2 k2, .slice A3 n3 k3][i]? := by
    rw [hw0]; exact fun W hW => box_cells w #[.int .i64 c.closets, .int .i64 c.close, .slice A1 n1 k1, .slice A2 n2 k2, .slice A3 n3 k3] 35 W (later_of_alloc hW)
  have hL0 : Later w w0 := by rw [hw0]; simp
  have hsz0 : w0.heap.size = w.heap.size + 2 := by rw [hw0]; simp
  have hbr : Blk w0 (w.heap.size + 1) 61 #[.int .i64 0, .int .i64 0] := by
    rw [hw0]
    have := Blk.new (w.alloc (.cells #[.int .i64 c.closets, .int .i64 c.close, .slice A1 n1 k1, .slice A2 n2 k2, .slice A3 n3 k3] 35)) 61 #[.int .i64 0, .int .i64 0]
    rw [World.size_alloc] at this; exact this
  have hc0 := hc.later hL0
  have Hw0 := hide hw0
  clear hw0
  have hT : ∀ e : Ext w0, Later w0 e.W := fun e => e.h
  have hp0 := hp.later hL0
  have hnl := hc.hs.len
  obtain ⟨b, hb⟩ : ∃ b, isPlaceB c p = b := ⟨_, rfl⟩
  obtain ⟨bh, hbh⟩ : ∃ b, isHorse c h = b := ⟨_, rfl⟩
  have Hhe : Hid (inB h 0 ((n1 : Int) - 1) = bh) := by rw [hnl]; exact hbh
  have Hgo : Hid (goodOut c p h = if askedErr c (b && bh) ≠ 0 then (0, 0, askedErr c (b && bh)) else if (goodP c (truthsP c) p h.toNat).2 < (goodP c (truthsP c) p h.toNat).1 then (0, 0, 10) else ((goodP c (truthsP c) p h.toNat).1, (goodP c (truthsP c) p h.toNat).2, 0)) := by rw [← hb, ← hbh]; rfl
  have Hbh := hide hbh
  have Hhb := hide hb
  have Hnl := hide hnl
  have Hsz0 := hide hsz0
  clear hb hbh hnl hsz0
  by_cases he : askedErr c (b && bh) = 0
  · obtain ⟨hf, hb2, htn⟩ := askedErr_zero he
    have ok := okC_of_fault hf
    rw [if_neg (by simp [he])] at Hgo
    rw [Bool.and_eq_true] at hb2
    obtain ⟨rfl, rfl⟩ := hb2
    have hpl := isPlaceB_isPl hf Hhb.out
    have htl := truthsP_len hf
    have hdry := truthsP_isDry ok.toOkH
    have hS0 : Later w0 w0.drew := later_drew (later_refl _)
    obtain ⟨k, rfl, hk⟩ := isHorse_nat Hbh.out
    rw [Int.toNat_natCast] at Hgo
    obtain ⟨⟨g1, g2⟩, hg⟩ : ∃ q, goodP c (truthsP c) p k = q := ⟨_, rfl⟩
    rw [hg] at Hgo
    have Hg := hide hg
    have Hf := hide hf
    have He := hide he
    clear hg hf he
    go_enter Try.func54, Try.ntmps54
    go_wp2_with fail
    rw [← Hw0.out]; clear Hw0
    go_region_held3 (fun W => Later w0 W) ((((repeat (first | assumption | refine later_drew ?_ | refine later_alloc ?_ _ | refine later_set ?_ _ (Nat.le_add_right _ _) _ | refine later_set ?_ _ (Nat.le_refl _) _)); done)))
      (first
        | (go_at_call 83; go_must (refine (asked_ok w2 (hc0.later hL2) hcl hn1 hn2 hn3 hk2 He.out).mono ?_; rintro e w3 ⟨bw, bm, At, kt, rfl, hL, hWK, hbm⟩; have hL3 := Later.trans hL2 hL))
        | (go_at_call 97; go_must (refine (horse_eq w1 (by omega) Hhe.out).mono ?_; rintro e w2 ⟨rfl, hL⟩; have hL2 := Later.trans hL1 hL))
        | (go_at_call 84; go_must (refine (isPlace_eq Hhb.out _ (hc0.later hS0) (hp0.later hS0) hcap hnp (by omega)).mono ?_; rintro e w1 ⟨rfl, hL⟩; have hL1 := Later.trans hS0 hL)))
    have hrb := hbr.later hL3
    have hx0 := hrb.cell 0
    have hx1 := hrb.cell 1
    have hxf0 := hrb.frozen 0
    have hxf1 := hrb.frozen 1
    simp only [List.getElem?_toArray, List.getElem?_cons_zero, List.getElem?_cons_succ] at hx0 hx1
    have Hrb := hide hrb
    clear hrb
    have hL3s := hL3.size
    have hgc := good_calls (kp := kp) w3 hWK ok.toOkH (hp0.later hL3) hpl hdry (by omega) (by rw [Hnl.out]; exact hk) Hg.out
    have Hgc := hide hgc
    clear hgc
    cases hnone : decide (g2 < g1) with
    | true =>
      rw [if_pos (by simpa using hnone)] at Hgo
      go_wp2_with fail
      refine Hgc.out.mono ?_
      rintro e w4 ⟨rfl, hL4⟩
      have hL5 := Later.trans hL3 hL4
      clear hx0 hx1 hxf0 hxf1 Hrb
      have hrb := hbr.later hL5
      have hx0 := hrb.cell 0
      have hx1 := hrb.cell 1
      have hxf0 := hrb.frozen 0
      have hxf1 := hrb.frozen 1
      simp only [List.getElem?_toArray, List.getElem?_cons_zero, List.getElem?_cons_succ] at hx0 hx1
      have Hrb := hide hrb
      clear hrb
      go_wp2_with fail
      refine (none_eq hnone _).mono ?_
      rintro e w5 ⟨rfl, hL6⟩
      have hL7 : Later w0 w5 := Later.trans (later_alloc hL5 _) hL6
      have y0 := box_cells w4 #[.int .i64 g1, .int .i64 g2] 61 w5 hL6 0
      have y1 := box_cells w4 #[.int .i64 g1, .int .i64 g2] 61 w5 hL6 1
      simp only [List.getElem?_toArray, List.getElem?_cons_zero, List.getElem?_cons_succ] at y0 y1
      have hne4 : w.heap.size + 1 < w4.heap.size := by have := hL5.size; have := Hsz0.out; omega
      clear hx0 hx1 hxf0 hxf1 Hrb
      have hrb := hbr.later hL7
      have hx0 := hrb.cell 0
      have hx1 := hrb.cell 1
      have hxf0 := hrb.frozen 0
      have hxf1 := hrb.frozen 1
      simp only [List.getElem?_toArray, List.getElem?_cons_zero, List.getElem?_cons_succ] at hx0 hx1
      have Hrb := hide hrb
      clear hrb
      go_wp2_with fail
      refine bodyPost_ret (v := .tuple #[.agg #[.int .i64 0, .int .i64 0], .int .i64 10]) ?_ rfl ⟨by rw [Hgo.out], ?_⟩
      · simp [results, Try.results54, go_sem, *]
      · have := Later.trans hL0 hL7; have := Hsz0.out; (((repeat (first | assumption | refine later_drew ?_ | refine later_alloc ?_ _ | refine later_set ?_ _ (Nat.le_add_right _ _) _ | refine later_set ?_ _ (Nat.le_refl _) _)); done))
    | false =>
      rw [if_neg (by simpa using hnone)] at Hgo
      go_wp2_with fail
      refine Hgc.out.mono ?_
      rintro e w4 ⟨rfl, hL4⟩
      have hL5 := Later.trans hL3 hL4
      clear hx0 hx1 hxf0 hxf1 Hrb
      have hrb := hbr.later hL5
      have hx0 := hrb.cell 0
      have hx1 := hrb.cell 1
      have hxf0 := hrb.frozen 0
      have hxf1 := hrb.frozen 1
      simp only [List.getElem?_toArray, List.getElem?_cons_zero, List.getElem?_cons_succ] at hx0 hx1
      have Hrb := hide hrb
      clear hrb
      go_wp2_with fail
      refine (none_eq hnone _).mono ?_
      rintro e w5 ⟨rfl, hL6⟩
      have hL7 : Later w0 w5 := Later.trans (later_alloc hL5 _) hL6
      have y0 := box_cells w4 #[.int .i64 g1, .int .i64 g2] 61 w5 hL6 0
      have y1 := box_cells w4 #[.int .i64 g1, .int .i64 g2] 61 w5 hL6 1
      simp only [List.getElem?_toArray, List.getElem?_cons_zero, List.getElem?_cons_succ] at y0 y1
      have hne4 : w.heap.size + 1 < w4.heap.size := by have := hL5.size; have := Hsz0.out; omega
      clear hx0 hx1 hxf0 hxf1 Hrb
      have hrb := hbr.later hL7
      have hx0 := hrb.cell 0
      have hx1 := hrb.cell 1
      have hxf0 := hrb.frozen 0
      have hxf1 := hrb.frozen 1
      simp only [List.getElem?_toArray, List.getElem?_cons_zero, List.getElem?_cons_succ] at hx0 hx1
      have Hrb := hide hrb
      clear hrb
      go_wp2_with fail
      have hfin : Later w ((w5.setCell ⟨w.heap.size + 1, 0, none⟩ (.int .i64 g1)).setCell ⟨w.heap.size + 1, 1, none⟩ (.int .i64 g2)) := later_set (later_set (Later.trans hL0 hL7) _ (Nat.le_succ _) _) _ (Nat.le_succ _) _
      have hb2 := (Hrb.out.set_ 0 (.int .i64 g1)).set_ 1 (.int .i64 g2)
      have z0 := hb2.cell 0
      have z1 := hb2.cell 1
      simp only [List.setIfInBounds_toArray, List.set_cons_zero, List.set_cons_succ, List.getElem?_toArray, List.getElem?_cons_zero, List.getElem?_cons_succ] at z0 z1
      clear hx0 hx1
      refine bodyPost_ret (v := .tuple #[.agg #[.int .i64 g1, .int .i64 g2], .int .i64 0]) ?_ rfl ⟨by rw [Hgo.out], ?_⟩
      · simp [results, Try.results54, go_sem, z0, z1]
      · exact hfin
  · have hfb : (askedErr c (b && bh) != 0) = true := by simpa using he
    have hfb2 : (askedErr c (b && bh) == 0) = false := by simpa using he
    rw [if_pos he] at Hgo
    generalize hq : askedErr c (b && bh) = q at *
    have Hq := hide hq
    have He := hide he
    clear hq he
    cases b with
    | false =>
      simp only [Bool.false_and] at Hq
      go_enter Try.func54, Try.ntmps54
      go_wp2_with fail
      rw [← Hw0.out]; clear Hw0
      refine wp_region_ext (w0 := w0) (by kernel_rfl) (by kernel_rfl) (later_refl _) ?_; (repeat (first | go_big_quiet_step ((first | (go_at_call 84; exact calls_ext (by simp) (isPlace_eq Hhb.out _ (hc0.later (hT _)) (hp0.later (hT _)) hcap hnp (by omega))) | (go_at_call 83; exact calls_ext (by simp) (asked_fail _ (hc0.later (hT _)) hcl hn1 hn2 hn3 hk2 Hq.out He.out)))) | quiet_step ((first | (go_at_call 84; exact calls_ext (by simp) (isPlace_eq Hhb.out _ (hc0.later (hT _)) (hp0.later (hT _)) hcap hnp (by omega))) | (go_at_call 83; exact calls_ext (by simp) (asked_fail _ (hc0.later (hT _)) hcl hn1 hn2 hn3 hk2 Hq.out He.out)))))); refine wpQuiet_nil ?_; rintro w1 ⟨⟨_, hL1⟩, rfl⟩; (try dsimp only)
      have hrb := hbr.later hL1
      have hx0 := hrb.cell 0
      have hx1 := hrb.cell 1
      have hxf0 := hrb.frozen 0
      have hxf1 := hrb.frozen 1
      simp only [List.getElem?_toArray, List.getElem?_cons_zero, List.getElem?_cons_succ] at hx0 hx1
      have Hrb := hide hrb
      clear hrb
      go_wp2_with fail
      refine bodyPost_ret (v := .tuple #[.agg #[.int .i64 0, .int .i64 0], .int .i64 q]) ?_ rfl ⟨by rw [Hgo.out], ?_⟩
      · simp [results, Try.results54, go_sem, *]
      · have := Later.trans hL0 hL1; have := Hsz0.out; (((repeat (first | assumption | refine later_drew ?_ | refine later_alloc ?_ _ | refine later_set ?_ _ (Nat.le_add_right _ _) _ | refine later_set ?_ _ (Nat.le_refl _) _)); done))
    | true =>
      simp only [Bool.true_and] at Hq
      go_enter Try.func54, Try.ntmps54
      go_wp2_with fail
      rw [← Hw0.out]; clear Hw0
      refine wp_region_ext (w0 := w0) (by kernel_rfl) (by kernel_rfl) (later_refl _) ?_; (repeat (first | go_big_quiet_step ((first | (go_at_call 84; exact calls_ext (by simp) (isPlace_eq Hhb.out _ (hc0.later (hT _)) (hp0.later (hT _)) hcap hnp (by omega))) | (go_at_call 97; exact calls_ext (by simp) (horse_eq _ (by omega) Hhe.out)) | (go_at_call 83; exact calls_ext (by simp) (asked_fail _ (hc0.later (hT _)) hcl hn1 hn2 hn3 hk2 Hq.out He.out)))) | quiet_step ((first | (go_at_call 84; exact calls_ext (by simp) (isPlace_eq Hhb.out _ (hc0.later (hT _)) (hp0.later (hT _)) hcap hnp (by omega))) | (go_at_call 97; exact calls_ext (by simp) (horse_eq _ (by omega) Hhe.out)) | (go_at_call 83; exact calls_ext (by simp) (asked_fail _ (hc0.later (hT _)) hcl hn1 hn2 hn3 hk2 Hq.out He.out)))))); refine wpQuiet_nil ?_; rintro w1 ⟨⟨_, hL1⟩, rfl⟩; (try dsimp only)
      have hrb := hbr.later hL1
      have hx0 := hrb.cell 0
      have hx1 := hrb.cell 1
      have hxf0 := hrb.frozen 0
      have hxf1 := hrb.frozen 1
      simp only [List.getElem?_toArray, List.getElem?_cons_zero, List.getElem?_cons_succ] at hx0 hx1
      have Hrb := hide hrb
      clear hrb
      go_wp2_with fail
      refine bodyPost_ret (v := .tuple #[.agg #[.int .i64 0, .int .i64 0], .int .i64 q]) ?_ rfl ⟨by rw [Hgo.out], ?_⟩
      · simp [results, Try.results54, go_sem, *]
      · have := Later.trans hL0 hL1; have := Hsz0.out; (((repeat (first | assumption | refine later_drew ?_ | refine later_alloc ?_ _ | refine later_set ?_ _ (Nat.le_add_right _ _) _ | refine later_set ?_ _ (Nat.le_refl _) _)); done))
end Go.Proofs.Ytjilckjhdlabaaa

/- The program's Right: walk. -/
namespace Go.Proofs.Ytjilckjhdlabaaa
open Go Go.RowKit

/-- what Right returns -/
def rightOut (c : Clo) (p : List Int) (h m : Int) : Int × Int :=
  if askedErr c ((isPlaceB c p && isHorse c h) && inB m 0 99) ≠ 0 then (0, askedErr c ((isPlaceB c p && isHorse c h) && inB m 0 99)) else (verdict c (truthsP c) p h.toNat m, 0)

set_option maxRecDepth 100000 in
set_option maxHeartbeats 1000000 in
theorem RightP_calls {A1 A2 A3 : Option Addr} {n1 k1 n2 k2 n3 k3 : Nat} {c : Clo} {Ap : Option Addr} {np kp : Nat} {p : List Int} {h m : Int} (w : World) (hc : CV w c A1 n1 A2 n2 A3 n3) (hcl : i64 c.closets) (hn1 : n1 ≤ 1000) (hn2 : n2 ≤ 1000) (hn3 : n3 ≤ 1000) (hk2 : n2 ≤ k2)
    (hp : RI w Ap np p) (hcap : np ≤ kp) (hnp : np ≤ 1000000) :
    Calls Try.prog 66 #[(.agg #[.int .i64 c.closets, .int .i64 c.close, .slice A1 n1 k1, .slice A2 n2 k2, .slice A3 n3 k3]), .slice Ap np kp, .int .i64 h, .int .i64 m] w fun e w' => e = .returned (.tuple #[.int .i64 (rightOut c p h m).1, .int .i64 (rightOut c p h m).2]) ∧ Later w w' := by
  obtain ⟨w0, hw0⟩ : ∃ W, W = (w.alloc (.cells #[.int .i64 c.closets, .int .i64 c.close, .slice A1 n1 k1, .slice A2 n2 k2, .slice A3 n3 k3] 35)) := ⟨_, rfl⟩; have hbox : ∀ W, Later w0 W → ∀ i, W.cell? ⟨w.heap.size, i, none⟩ = #[.int .i64 c.closets, .int .i64 c.close, .slice A1 n1 k1, .slice A2 n2 k2, .slice A3 n3 k3][i]? := (by rw [hw0]; exact box_cells w #[.int .i64 c.closets, .int .i64 c.close, .slice A1 n1 k1, .slice A2 n2 k2, .slice A3 n3 k3] 35); have hL0 : Later w w0 := (by rw [hw0]; simp); have hc0 := hc.later hL0; have Hw0 := hide hw0; clear hw0
  have hT : ∀ e : Ext w0, Later w0 e.W := fun e => e.h
  have hp0 := hp.later hL0
  have hnl := hc.hs.len
  obtain ⟨b, hb⟩ : ∃ b, isPlaceB c p = b := ⟨_, rfl⟩
  obtain ⟨bh, hbh⟩ : ∃ b, isHorse c h = b := ⟨_, rfl⟩
  obtain ⟨bm, hbm⟩ : ∃ b, inB m 0 99 = b := ⟨_, rfl⟩
  have Hhe : Hid (inB h 0 ((n1 : Int) - 1) = bh) := by rw [hnl]; exact hbh
  have Hgo : Hid (rightOut c p h m = if askedErr c ((b && bh) && bm) ≠ 0 then (0, askedErr c ((b && bh) && bm)) else (verdict c (truthsP c) p h.toNat m, 0)) := by rw [← hb, ← hbh, ← hbm]; rfl
  have Hbh := hide hbh
  have Hbm := hide hbm
  have Hhb := hide hb
  have Hnl := hide hnl
  clear hb hbh hbm hnl
  by_cases he : askedErr c ((b && bh) && bm) = 0
  · obtain ⟨hf, hb2, htn⟩ := askedErr_zero he
    have ok := okC_of_fault hf
    rw [if_neg (by simp [he])] at Hgo
    rw [Bool.and_eq_true, Bool.and_eq_true] at hb2
    obtain ⟨⟨rfl, rfl⟩, rfl⟩ := hb2
    have hpl := isPlaceB_isPl hf Hhb.out
    have htl := truthsP_len hf
    have hdry := truthsP_isDry ok.toOkH
    have hS0 : Later w0 w0.drew := later_drew (later_refl _)
    obtain ⟨k, rfl, hhc⟩ := isHorse_nat Hbh.out
    rw [Int.toNat_natCast] at Hgo
    have hl4 := ok.len
    have hh4 : k < 4 := by omega
    have hk4 : (k : Int) < 4 := by omega
    have hkn : k < n1 := by rw [Hnl.out]; exact hhc
    have hkn2 : (k : Int) < n1 := by omega
    obtain ⟨b1, o1, z, hA1, _, hz, hz0, hz1, hz2, hz3⟩ := hc0.hs.get hkn
    subst hA1
    have okz := ok.horse z (List.mem_of_getElem? hz)
    have Hz := hide (show graceAt c k = z.grace by unfold graceAt; rw [List.getD_eq_getElem?_getD, hz]; rfl)
    have Hf := hide hf
    have He := hide he
    clear hf he hz
    go_enter Try.func66, Try.ntmps66
    go_wp2_with fail
    rw [← Hw0.out]; clear Hw0
    go_region_held3 (fun W => Later w0 W) ((((repeat (first | assumption | refine later_drew ?_ | refine later_alloc ?_ _ | refine later_set ?_ _ (Nat.le_add_right _ _) _ | refine later_set ?_ _ (Nat.le_refl _) _)); done)))
      (first
        | (go_at_call 83; go_must (refine (asked_ok w2 (hc0.later hL2) hcl hn1 hn2 hn3 hk2 He.out).mono ?_; rintro e w3 ⟨bw, bm, At, kt, rfl, hL, hWK, hbm⟩; have hL3 := Later.trans hL2 hL))
        | (go_at_call 103; go_must (refine (minute_eq Hbm.out w2).mono ?_; rintro e w3 ⟨rfl, rfl⟩))
        | (go_at_call 97; go_must (refine (horse_eq w1 (by omega) Hhe.out).mono ?_; rintro e w2 ⟨rfl, hL⟩; have hL2 := Later.trans hL1 hL))
        | (go_at_call 84; go_must (refine (isPlace_eq Hhb.out _ (hc0.later hS0) (hp0.later hS0) hcap hnp (by omega)).mono ?_; rintro e w1 ⟨rfl, hL⟩; have hL1 := Later.trans hS0 hL)))
    obtain ⟨tr, htr⟩ : ∃ t, truthsP c = t := ⟨_, rfl⟩
    obtain ⟨nt, hnt⟩ : ∃ n, tr.length = n := ⟨_, rfl⟩
    rw [htr, hnt] at hWK htl
    rw [htr] at hdry Hgo htn
    have Hnt := hide hnt
    clear htr hnt
    have hw := hWK
    have t5 := hw.cells 5
    simp only [List.getElem?_toArray, List.getElem?_cons_zero, List.getElem?_cons_succ] at t5
    go_wp2_with fail
    go_loopw [41, 12] (fun i v wr => ∃ j : Nat, j ≤ nt ∧ i = .int .i64 j ∧ v = .int .i64 ((tr.take j).countP fun d => isRight c p d k m) ∧ Later w3 wr) (fun i _ _ => nt - (intOf i).toNat)
    case atStart => exact ⟨0, Nat.zero_le _, rfl, by simp, later_refl _⟩
    case round =>
      obtain ⟨j, hj, rfl, rfl, hL⟩ := hrel
      by_cases hlt : j < nt
      · obtain ⟨bt, ot, d, e0, e1, e2, e3, hAt, _, hx, He4, hx0, hx1, hx2, hx3⟩ := hw.tr.get hlt
        subst hAt
        have hdr := hdry d (List.mem_of_getElem? hx)
        obtain ⟨m0, m1, m2, m3, hm⟩ : ∃ m0 m1 m2 m3, minutesP c p (pad4 d) = [m0, m1, m2, m3] := ⟨_, _, _, _, rfl⟩
        obtain ⟨mh, hmh⟩ : ∃ mh, minuteR c p d k = mh := ⟨_, rfl⟩
        have hget := minutesP_get (d := pad4 d) hpl hhc hh4
        rw [minuteR_pad4 c p d k hh4, hmh, hm] at hget
        have hget2 := index4 hh4 hget
        have hmr := minuteR_range ok.toOkH (Nat.le_of_eq hpl.len) hdr k hhc
        rw [hmh] at hmr
        have hi1 : (j : Int) < nt := by omega
        have hx0 := hx0 _ hL
        have hx1 := hx1 _ hL
        have hx2 := hx2 _ hL
        have hx3 := hx3 _ hL
        have hbd := box_cells wr #[.int .i64 e0, .int .i64 e1, .int .i64 e2, .int .i64 e3] 138
        obtain ⟨Wb, hWb⟩ : ∃ X, X = wr.alloc (.cells #[.int .i64 e0, .int .i64 e1, .int .i64 e2, .int .i64 e3] 138) := ⟨_, rfl⟩
        have hLb : Later wr Wb := by rw [hWb]; exact later_alloc (later_refl _) _
        rw [← hWb] at hbd
        have HWb := hide hWb
        have hd0 := fun W hW => hbd W hW 0
        have hd1 := fun W hW => hbd W hW 1
        have hd2 := fun W hW => hbd W hW 2
        have hd3 := fun W hW => hbd W hW 3
        have hLwb := Later.trans hL hLb
        have hwk := hw.later hLwb
        have hcw := fun W (hW : Later Wb W) i => (hwk.later hW).cells i
        have hc0 := fun W hW => hcw W hW 0
        have hc1 := fun W hW => hcw W hW 1
        have hc2 := fun W hW => hcw W hW 2
        have hc3 := fun W hW => hcw W hW 3
        have hc4 := fun W hW => hcw W hW 4
        simp only [List.getElem?_toArray, List.getElem?_cons_zero, List.getElem?_cons_succ] at hd0 hd1 hd2 hd3 hc0 hc1 hc2 hc3 hc4
        have hcv := hwk.cv
        have hTb : ∀ e : Ext Wb, Later Wb e.W := fun e => e.h
        have Hm := hide hm
        clear hWb hbd hcw hm hget
        have hpb := hp0.later (Later.trans hL3 hLwb)
        have hbx := fun W (hW : Later Wb W) => hbox W (Later.trans hL3 (Later.trans hLwb hW)) 2
        have hzg := fun W (hW : Later Wb W) => hz3 W (Later.trans hL3 (Later.trans hLwb hW))
        simp only [List.getElem?_toArray, List.getElem?_cons_zero, List.getElem?_cons_succ] at hbx
        have hct := countP_take (fun d => isRight c p d k m) tr j d hx
        have hcl := countP_take_le (fun d => isRight c p d k m) tr j
        have hir : isRight c p d k m = inB m mh (mh + z.grace) := by unfold isRight; rw [hmh, Hz.out]
        rw [hir] at hct
        obtain ⟨yb, hyb⟩ : ∃ b, inB m mh (mh + z.grace) = b := ⟨_, rfl⟩
        rw [hyb] at hct
        have Hyb := hide hyb
        have Hct := hide hct
        clear hct hir hyb hx hmh
        generalize (tr.take j).countP (fun d => isRight c p d k m) = q at *
        go_wp2_with fail
        rw [← HWb.out]
        clear HWb
        refine wp_region_ext (w0 := Wb) (by kernel_rfl) (by kernel_rfl) (later_refl _) ?_; (repeat (first | go_big_quiet_step ((go_at_call 95; exact calls_ext (by simp) (minutes_eq _ (hcv.later (hTb _)) ok.toOkH (hpb.later (hTb _)) (Nat.le_of_eq hpl.len) (hpl.bound ok.toOkH) hdr He4.out Hm.out))) | quiet_step ((go_at_call 95; exact calls_ext (by simp) (minutes_eq _ (hcv.later (hTb _)) ok.toOkH (hpb.later (hTb _)) (Nat.le_of_eq hpl.len) (hpl.bound ok.toOkH) hdr He4.out Hm.out))))); refine wpQuiet_nil ?_; rintro w5 ⟨⟨_, hL5⟩, rfl⟩; (try dsimp only)
        cases yb with
        | true =>
          go_wp2_with (go_at_call 113; refine (within_eq Hyb.out _).mono ?_; rintro e w' ⟨rfl, rfl⟩)
          go_roundw
          case rel => exact ⟨j + 1, hlt, by go_num, by rw [Hct.out]; rfl, Later.trans hLwb hL5⟩
          case measure => simp [intOf]; omega
        | false =>
          go_wp2_with (go_at_call 113; refine (within_eq Hyb.out _).mono ?_; rintro e w' ⟨rfl, rfl⟩)
          go_roundw
          case rel => exact ⟨j + 1, hlt, by go_num, by rw [Hct.out]; rfl, Later.trans hLwb hL5⟩
          case measure => simp [intOf]; omega
      · have hf : tr.take j = tr := List.take_of_length_le (by have := Hnt.out; omega)
        rw [hf]
        have hcl : tr.countP (fun d => isRight c p d k m) ≤ nt := by have := Hnt.out; have h2 := List.countP_le_length (p := fun d => isRight c p d k m) (l := tr); omega
        have Hv : Hid (verdict c tr p k m = if tr.countP (fun d => isRight c p d k m) = nt then 1 else if tr.countP (fun d => isRight c p d k m) = 0 then 2 else 3) := by have := Hnt.out; rw [← this]; exact rfl
        have t5 := (hw.later hL).cells 5
        simp only [List.getElem?_toArray, List.getElem?_cons_zero, List.getElem?_cons_succ] at t5
        have hLf := Later.trans hL0 (Later.trans hL3 hL)
        generalize tr.countP (fun d => isRight c p d k m) = q at *
        clear hf
        by_cases h1 : q = nt
        · have hb1 : ((q : Int) == (nt : Int)) = true := by simp; omega
          rw [if_pos h1] at Hv
          clear h1
          go_wp2_with fail
          refine bodyPost_ret (v := .tuple #[.int .i64 1, .int .i64 0]) ?_ rfl ⟨by rw [Hgo.out, Hv.out], hLf⟩
          simp [results, Try.results66, go_sem]
        · have hb1 : ((q : Int) == (nt : Int)) = false := by simp; omega
          rw [if_neg h1] at Hv
          clear h1
          by_cases h2 : q = 0
          · have hb2 : ((q : Int) == 0) = true := by simp; omega
            rw [if_pos h2] at Hv
            clear h2
            go_wp2_with fail
            refine bodyPost_ret (v := .tuple #[.int .i64 2, .int .i64 0]) ?_ rfl ⟨by rw [Hgo.out, Hv.out], hLf⟩
            simp [results, Try.results66, go_sem]
          · have hb2 : ((q : Int) == 0) = false := by simp; omega
            rw [if_neg h2] at Hv
            clear h2
            go_wp2_with fail
            refine bodyPost_ret (v := .tuple #[.int .i64 3, .int .i64 0]) ?_ rfl ⟨by rw [Hgo.out, Hv.out], hLf⟩
            simp [results, Try.results66, go_sem]
  · have hfb : (askedErr c ((b && bh) && bm) != 0) = true := by simpa using he
    have hfb2 : (askedErr c ((b && bh) && bm) == 0) = false := by simpa using he
    rw [if_pos he] at Hgo
    generalize hq : askedErr c ((b && bh) && bm) = q at *
    have Hq := hide hq
    have He := hide he
    clear hq he
    cases b <;> cases bh
    case true.true =>
      simp only [Bool.true_and] at Hq
      go_enter Try.func66, Try.ntmps66
      go_wp2_with fail
      rw [← Hw0.out]; clear Hw0
      refine wp_region_ext (w0 := w0) (by kernel_rfl) (by kernel_rfl) (later_refl _) ?_; (repeat (first | go_big_quiet_step ((first | (go_at_call 84; exact calls_ext (by simp) (isPlace_eq Hhb.out _ (hc0.later (hT _)) (hp0.later (hT _)) hcap hnp (by omega))) | (go_at_call 97; exact calls_ext (by simp) (horse_eq _ (by omega) Hhe.out)) | (go_at_call 103; exact calls_ext_same (by simp) (minute_eq Hbm.out _)) | (go_at_call 83; exact calls_ext (by simp) (asked_fail _ (hc0.later (hT _)) hcl hn1 hn2 hn3 hk2 Hq.out He.out)))) | quiet_step ((first | (go_at_call 84; exact calls_ext (by simp) (isPlace_eq Hhb.out _ (hc0.later (hT _)) (hp0.later (hT _)) hcap hnp (by omega))) | (go_at_call 97; exact calls_ext (by simp) (horse_eq _ (by omega) Hhe.out)) | (go_at_call 103; exact calls_ext_same (by simp) (minute_eq Hbm.out _)) | (go_at_call 83; exact calls_ext (by simp) (asked_fail _ (hc0.later (hT _)) hcl hn1 hn2 hn3 hk2 Hq.out He.out)))))); refine wpQuiet_nil ?_; rintro w1 ⟨⟨_, hL1⟩, rfl⟩; (try dsimp only)
      go_wp2_with fail
      refine bodyPost_ret (v := .tuple #[.int .i64 0, .int .i64 q]) ?_ rfl ⟨by rw [Hgo.out], Later.trans hL0 hL1⟩
      simp [results, Try.results66, go_sem]
    all_goals
      simp only [Bool.false_and, Bool.and_false, Bool.true_and] at Hq
      go_enter Try.func66, Try.ntmps66
      go_wp2_with fail
      rw [← Hw0.out]; clear Hw0
      refine wp_region_ext (w0 := w0) (by kernel_rfl) (by kernel_rfl) (later_refl _) ?_; (repeat (first | go_big_quiet_step ((first | (go_at_call 84; exact calls_ext (by simp) (isPlace_eq Hhb.out _ (hc0.later (hT _)) (hp0.later (hT _)) hcap hnp (by omega))) | (go_at_call 97; exact calls_ext (by simp) (horse_eq _ (by omega) Hhe.out)) | (go_at_call 103; exact calls_ext_same (by simp) (minute_eq Hbm.out _)) | (go_at_call 83; exact calls_ext (by simp) (asked_fail _ (hc0.later (hT _)) hcl hn1 hn2 hn3 hk2 Hq.out He.out)))) | quiet_step ((first | (go_at_call 84; exact calls_ext (by simp) (isPlace_eq Hhb.out _ (hc0.later (hT _)) (hp0.later (hT _)) hcap hnp (by omega))) | (go_at_call 97; exact calls_ext (by simp) (horse_eq _ (by omega) Hhe.out)) | (go_at_call 103; exact calls_ext_same (by simp) (minute_eq Hbm.out _)) | (go_at_call 83; exact calls_ext (by simp) (asked_fail _ (hc0.later (hT _)) hcl hn1 hn2 hn3 hk2 Hq.out He.out)))))); refine wpQuiet_nil ?_; rintro w1 ⟨⟨_, hL1⟩, rfl⟩; (try dsimp only)
      go_wp2_with fail
      refine bodyPost_ret (v := .tuple #[.int .i64 0, .int .i64 q]) ?_ rfl ⟨by rw [Hgo.out], Later.trans hL0 hL1⟩
      simp [results, Try.results66, go_sem]
end Go.Proofs.Ytjilckjhdlabaaa
