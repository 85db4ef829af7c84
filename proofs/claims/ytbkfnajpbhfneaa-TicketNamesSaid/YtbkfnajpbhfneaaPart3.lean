/- Part 3 of the proof: joined from the texts TcI, App, TcJ, Bv, TcN, TcL, Out, TcM, TcO. -/
import Derived.Test.YtbkfnajpbhfneaaPart2
import Derived.Test.YtbkfnajpbhfneaaPart1
import Derived.Maps.OwnSet
import Derived.Maps.Views
import Derived.DeepKeys4
import Derived.WideKeyEntry
set_option linter.unusedSimpArgs false
set_option linter.unusedVariables false
/- The program's First: walk. -/
namespace Go.Proofs.Ytbkfnajpbhfneaa
open Go Go.RowKit

theorem RC.take {w : World} {A : Option Addr} {n : Nat} {l : List Cp} (h : RC w A n l) (i : Nat) (hi : i ≤ n) : RC w A i (l.take i) := by
  have hlen := h.len
  refine ⟨by rw [clipsV_length, List.length_take]; omega, fun h0 => ?_⟩
  obtain ⟨ad, e, hb, hc⟩ := h.2 (by omega)
  refine ⟨ad, e, hb, fun j u hj => hc j u ?_⟩
  have hpre : clipsV l = clipsV (l.take i) ++ clipsV (l.drop i) := by
    have := List.take_append_drop i l
    unfold clipsV
    rw [← List.flatMap_append, this]
  rw [hpre, List.getElem?_append_left (List.getElem?_eq_some_iff.1 hj).1]
  exact hj
set_option maxRecDepth 100000 in
set_option maxHeartbeats 1000000 in
theorem FirstP_calls {A1 A2 A3 : Option Addr} {n1 k1 n2 k2 n3 k3 : Nat} {c : Hou} (w : World) (hc : CV w c A1 n1 A2 n2 A3 n3) (hn1 : n1 ≤ 1000) (hn2 : n2 ≤ 1000) (hn3 : n3 ≤ 1000) (hk3 : n3 ≤ k3) :
    Calls Try.prog 44 #[(.agg #[.int .i64 c.hour, .int .i64 c.grace, .slice A1 n1 k1, .slice A2 n2 k2, .slice A3 n3 k3])] w fun e w' => e = .returned (.tuple #[.int .i64 (firstOut c).1, .int .i64 (firstOut c).2]) ∧ Later w w' := by
  obtain ⟨w0, hw0⟩ : ∃ W, W = (w.alloc (.cells #[.int .i64 c.hour, .int .i64 c.grace, .slice A1 n1 k1, .slice A2 n2 k2, .slice A3 n3 k3] 36)) := ⟨_, rfl⟩; have hbox : ∀ W, Later w0 W → ∀ i, W.cell? ⟨w.heap.size, i, none⟩ = #[.int .i64 c.hour, .int .i64 c.grace, .slice A1 n1 k1, .slice A2 n2 k2, .slice A3 n3 k3][i]? := (by rw [hw0]; exact box_cells w #[.int .i64 c.hour, .int .i64 c.grace, .slice A1 n1 k1, .slice A2 n2 k2, .slice A3 n3 k3] 36); have hL0 : Later w w0 := (by rw [hw0]; simp); have hc0 := hc.later hL0; have Hw0 := hide hw0; clear hw0
  obtain ⟨q, hq⟩ : ∃ q, fault c = q := ⟨_, rfl⟩
  have hck := CheckHouse_eq (k1 := k1) (k2 := k2) (k3 := k3) w0 hc0 hq hn1 hn2 hn3
  by_cases hf : q = 0
  · subst hf
    have ok := okH_of_fault hq
    have hll := hc.cp.len
    have hl5 := ok.n3
    have hn5 : n3 ≤ 10 := by omega
    have Hll := hide hll
    have Hq := hide hq
    clear hll hq
    go_enter Try.func44, Try.ntmps44
    go_wp2_with fail
    rw [← Hw0.out]; clear Hw0
    refine hck.mono ?_
    rintro e w1 ⟨rfl, hL1⟩
    have hw0s : w.heap.size < w1.heap.size := by have := later_size hL1; have := hbox w0 (later_refl _) 0; have h3 : w.heap.size < w0.heap.size := World.block_lt_of_cell? _ _ this; omega
    have hbx := Blk.new w1 36 #[.int .i64 c.hour, .int .i64 c.grace, .slice A1 n1 k1, .slice A2 n2 k2, .slice A3 n3 k3]
    obtain ⟨g, hg⟩ : ∃ g, g = w1.heap.size := ⟨_, rfl⟩
    go_wp2_with fail
    have hLx : Later w1 (w1.alloc (.cells #[.int .i64 c.hour, .int .i64 c.grace, .slice A1 n1 k1, .slice A2 n2 k2, .slice A3 n3 k3] 36)) := later_alloc (later_refl _) _
    go_loopw [16] (fun i wr => ∃ (j m : Nat), j ≤ n3 ∧ i = .int .i64 j ∧ Later w1 wr ∧ Blk wr w1.heap.size 36 #[.int .i64 c.hour, .int .i64 c.grace, .slice A1 n1 k1, .slice A2 n2 k2, .slice A3 m k3] ∧ Hid (∀ i, i < j → firstBad c i = false)) (fun i _ => n3 - (intOf i).toNat)
    case atStart => exact ⟨0, n3, Nat.zero_le _, rfl, hLx, hbx, fun i hi => absurd hi (Nat.not_lt_zero _)⟩
    case round =>
      obtain ⟨j, m, hj, rfl, hL, hbk, Hno⟩ := hrel
      have hLw := Later.trans hL1 hL
      by_cases hlt : j < n3
      · have hi1 : (j : Int) < n3 := by omega
        have hwj : IntKind.i64.wrap ((j : Int) + 1) = (j : Int) + 1 := IntWalk.i64_in _ (by omega)
        have hkk : (j : Int) + 1 ≤ k3 := by omega
        have x4 := hbk.cell 4
        have xf := hbk.frozen 4
        have hb2 := hbk.set_ 4 (.slice A3 (j + 1) k3)
        simp only [List.getElem?_toArray, List.getElem?_cons_zero, List.getElem?_cons_succ] at x4
        simp only [List.setIfInBounds_toArray, List.set_cons_zero, List.set_cons_succ] at hb2
        have hLs : Later w1 (wr.setCell ⟨w1.heap.size, 4, none⟩ (.slice A3 (j + 1) k3)) := later_set hL _ (Nat.le_refl _) _
        have y0 := hb2.cell 0
        have y1 := hb2.cell 1
        have y2 := hb2.cell 2
        have y3 := hb2.cell 3
        have y4 := hb2.cell 4
        simp only [List.getElem?_toArray, List.getElem?_cons_zero, List.getElem?_cons_succ] at y0 y1 y2 y3 y4
        have hcs := hc0.later (Later.trans hL1 hLs)
        have hcv : CV (wr.setCell ⟨w1.heap.size, 4, none⟩ (.slice A3 (j + 1) k3)) (withClips c (c.clips.take (j + 1))) A1 n1 A2 n2 A3 (j + 1) := ⟨hcs.ck, hcs.tk, hcs.cp.take (j + 1) hlt⟩
        obtain ⟨b, hb⟩ : ∃ b, possibleP (withClips c (c.clips.take (j + 1))) [] = b := ⟨_, rfl⟩
        have hps := possible_calls (k1 := k1) (k2 := k2) (k3 := k3) (ko := 0) (Ao := none) _ hcv (okH_take ok (j + 1)) RI.nil (by omega)
        rw [hb] at hps
        have hfb : firstBad c j = !b := by unfold firstBad; rw [hb]
        have Hfb := hide hfb
        have Hps := hide hps
        have Hb2 := hide hb2
        clear hfb hps hb2 hbk hb
        go_wp2_with fail
        refine Hps.out.mono ?_
        rintro e w5 ⟨rfl, hL5⟩
        have hL1' := Later.trans hLs hL5
        cases b with
        | true =>
          go_wp2_with fail
          go_roundw
          case rel =>
            refine ⟨j + 1, j + 1, hlt, by go_num, hL1', Hb2.out.later hL5, fun i hi => ?_⟩
            rcases Nat.lt_or_ge i j with h1 | h1
            · exact Hno.out i h1
            · have : i = j := by omega
              subst this; exact Hfb.out
          case measure => simp [intOf]; omega
        | false =>
          have hfo : firstOut c = ((j : Int), 0) := by
            unfold firstOut
            rw [if_neg (by simp [Hq.out]), find_range_some (j := j) (by have := Hll.out; omega) Hfb.out Hno.out]
          have Hfo := hide hfo
          clear hfo
          go_wp2_with fail
          refine bodyPost_ret (v := .tuple #[.int .i64 j, .int .i64 0]) ?_ rfl ⟨by rw [Hfo.out], Later.trans hL0 (Later.trans hL1 hL1')⟩
          simp [results, Try.results44, go_sem]
      · have hfo : firstOut c = (0, 7) := by
          unfold firstOut
          rw [if_neg (by simp [Hq.out]), find_range_none fun t ht => Hno.out t (by have := Hll.out; omega)]
        have Hfo := hide hfo
        clear hfo
        go_wp2_with fail
        refine bodyPost_ret (v := .tuple #[.int .i64 0, .int .i64 7]) ?_ rfl ⟨by rw [Hfo.out], Later.trans hL0 hLw⟩
        simp [results, Try.results44, go_sem]
  · have hqb : (q != 0) = true := by simpa using hf
    have hfo : firstOut c = (0, q) := by unfold firstOut; rw [hq, if_pos hf]
    have Hfo := hide hfo
    have Hf := hide hf
    clear hf hq hfo
    go_enter Try.func44, Try.ntmps44
    go_wp2_with fail
    rw [← Hw0.out]; clear Hw0
    refine hck.mono ?_
    rintro e w1 ⟨rfl, hL1⟩
    go_wp2_with fail
    refine bodyPost_ret (v := .tuple #[.int .i64 0, .int .i64 q]) ?_ rfl ⟨by rw [Hfo.out], Later.trans hL0 hL1⟩
    simp [results, Try.results44, go_sem]
end Go.Proofs.Ytbkfnajpbhfneaa

/- append of any elements onto a row of the call's own; slices.Clone: walks. -/
namespace Go.Proofs.Ytbkfnajpbhfneaa
open Go Go.RowKit

/-- what an append leaves -/
structure AppG (base : Nat) (W w' : World) (e : TypeId) (size : Nat) (v v' : Value) (n m : Nat) (xs news : List Value) : Prop where
  own : w'.ownsRow base e size v' (n + m) (xs ++ news)
  grown : W.grownBy w' v.ownBlock
  at_ : v'.ownBlock = v.ownBlock ∨ v'.ownBlock = some W.heap.size

theorem appG_wp {P : Program} {o : Oper} {a : Act} {K : Act → World → Prop} {Q : Exit → Act → World → Prop} {W : World} (base : Nat) (s x : Operand) (t : TypeId)
    (ho : o.op = .call { callee := .builtin .append, args := #[s, x], argTypes := #[t, t] }) (e : TypeId) (z : Value) (size bytes : Nat)
    (ht : P.underlying t = some (.slice e)) (hinfo : (P.info? e).map (fun i => (i.zero, i.size, i.bytes)) = some (some z, size, bytes)) (hzs : z.cells.size = size) (hsz : 0 < size)
    (v : Value) (n : Nat) (xs : List Value) (hs : a.eval s = v) (hb : base ≤ W.heap.size) (hown : W.ownsRow base e size v n xs)
    (ad : Addr) (m c : Nat) (news : List Value) (hx : a.eval x = .slice (some ad) m c) (hl : news.length = m * size) (hc : ∀ j u, news[j]? = some u → W.cell? (ad.add j) = some u) (h1 : ∀ u ∈ news, u.oneCell' = true)
    (hn : n ≤ 1000000) (hm : m ≤ 1000000) (hby : bytes ≤ 1000)
    (h : ∀ v' w', AppG base W w' e size v v' n m xs news → K (a.put o.dst v') w') :
    o.wp P a W K Q := by
  obtain ⟨i, hi, hz, h2, h3⟩ := info_parts hinfo
  obtain ⟨v', w', hr, k2, k3, _, k5⟩ := run_append_own_at (P := P) W base t o.type e i z size bytes ht hi hz h2 h3 hzs hsz v n xs hown ad m c news hl hc h1 (by unfold maxLen; omega)
    (by
      have : (n + m) * bytes ≤ 2000000 * 1000 := Nat.mul_le_mul (by omega) hby
      omega) hb
  unfold Oper.wp execOp
  simp only [ho, resolve, invoke, builtin, Sem.run_bind, Sem.run_pure, Result.andThen_ok, List.map_toArray, List.map_cons, List.map_nil, hs, hx, hr]
  exact h v' w' ⟨k2, k3, k5⟩
theorem appG {P : Program} {ops : Array Oper} {rest : List Oper} {o : Oper} {a : Act} {Q : Exit → Act → World → Prop} {W : World} (hgd : o.guard = none) (base : Nat) (s x : Operand) (t : TypeId)
    (ho : o.op = .call { callee := .builtin .append, args := #[s, x], argTypes := #[t, t] }) (e : TypeId) (z : Value) (size bytes : Nat)
    (ht : P.underlying t = some (.slice e)) (hinfo : (P.info? e).map (fun i => (i.zero, i.size, i.bytes)) = some (some z, size, bytes)) (hzs : z.cells.size = size) (hsz : 0 < size)
    (v : Value) (n : Nat) (xs : List Value) (hs : a.eval s = v) (hb : base ≤ W.heap.size) (hown : W.ownsRow base e size v n xs)
    (ad : Addr) (m c : Nat) (news : List Value) (hx : a.eval x = .slice (some ad) m c) (hl : news.length = m * size) (hc : ∀ j u, news[j]? = some u → W.cell? (ad.add j) = some u) (h1 : ∀ u ∈ news, u.oneCell' = true)
    (hn : n ≤ 1000000) (hm : m ≤ 1000000) (hby : bytes ≤ 1000)
    (h : ∀ v' w', AppG base W w' e size v v' n m xs news → wpList P ops Q rest (a.put o.dst v') w') :
    wpList P ops Q (o :: rest) a W :=
  wpList_plain hgd fun _ hK => appG_wp base s x t ho e z size bytes ht hinfo hzs hsz v n xs hs hb hown ad m c news hx hl hc h1 hn hm hby fun v' w' q => hK _ _ (h v' w' q)
theorem appG_step {P : Program} {ops : Array Oper} {o : Oper} {a : Act} {K : Act → World → Prop} {Q : Exit → Act → World → Prop} {E : Prop} {W : World} (hgd : o.guard = none) (base : Nat) (s x : Operand) (t : TypeId)
    (ho : o.op = .call { callee := .builtin .append, args := #[s, x], argTypes := #[t, t] }) (e : TypeId) (z : Value) (size bytes : Nat)
    (ht : P.underlying t = some (.slice e)) (hinfo : (P.info? e).map (fun i => (i.zero, i.size, i.bytes)) = some (some z, size, bytes)) (hzs : z.cells.size = size) (hsz : 0 < size)
    (v : Value) (n : Nat) (xs : List Value) (hs : a.eval s = v) (hb : base ≤ W.heap.size) (hown : W.ownsRow base e size v n xs)
    (ad : Addr) (m c : Nat) (news : List Value) (hx : a.eval x = .slice (some ad) m c) (hl : news.length = m * size) (hc : ∀ j u, news[j]? = some u → W.cell? (ad.add j) = some u) (h1 : ∀ u ∈ news, u.oneCell' = true)
    (hn : n ≤ 1000000) (hm : m ≤ 1000000) (hby : bytes ≤ 1000)
    (h : ∀ v' w', AppG base W w' e size v v' n m xs news → K (a.put o.dst v') w') :
    if Region.wanted o (yielded ops a.tmps) = true then Oper.wp P o a W K Q else E := by
  rw [if_pos (by simp [Region.wanted, hgd])]
  exact appG_wp base s x t ho e z size bytes ht hinfo hzs hsz v n xs hs hb hown ad m c news hx hl hc h1 hn hm hby h
/-- an append onto a row that is new since w: all of w lies as it lay -/
theorem AppG.later {w W w' : World} {e : TypeId} {size n m : Nat} {v v' : Value} {xs news : List Value} (h : AppG w.heap.size W w' e size v v' n m xs news) (hL : Later w W) (hown : W.ownsRow w.heap.size e size v n xs) : Later w w' :=
  Later.grown hL h.grown fun g hg => (hown.lt g hg).1

theorem ints_cells {w : World} {ad : Addr} {n : Nat} {l : List Int} (h : RI w (some ad) n l) : ∀ j u, (ints l)[j]? = some u → w.cell? (ad.add j) = some u := fun j u hj => by
  have hl : j < l.length := by rw [← ints_length]; exact (List.getElem?_eq_some_iff.1 hj).1
  obtain ⟨ad', e, _, hc⟩ := h.2 (by have := h.len; omega)
  injection e with e
  subst e
  exact hc j u hj
theorem ints_one (l : List Int) : ∀ u ∈ ints l, u.oneCell' = true := by
  intro u hu
  simp only [ints, List.mem_map] at hu
  obtain ⟨x, _, rfl⟩ := hu
  rfl
set_option maxRecDepth 100000 in
/-- slices.Clone -/
theorem Clone_calls {A : Option Addr} {n k : Nat} {l : List Int} (w : World) (h : RI w A n l) (hn : n ≤ 1000) :
    Calls Try.prog 100 #[.slice A n k] w fun e w' => ∃ v, e = .returned v ∧ Later w w' ∧ w'.ownsRow w.heap.size 3 1 v n (ints l) := by
  have hlen := h.len
  cases A with
  | none =>
    have h0 : n = 0 := by
      rcases Nat.eq_zero_or_pos n with h0 | h0
      · exact h0
      · obtain ⟨ad, e, _⟩ := h.2 h0; cases e
    have hl : l = [] := List.eq_nil_of_length_eq_zero (by omega)
    subst h0 hl
    have hq : ∀ W : World, (binOp .eql 47 (.slice none 0 k) (.slice none 0 0)).run Try.prog W = .ok (.bool true) W := fun _ => by kernel_rfl
    clear hlen
    go_enter Try.func100, Try.ntmps100
    go_wp2_with fail
    go_ret
    exact ⟨_, rfl, later_refl _, World.ownsRow_nil _ _ _ _⟩
  | some ad =>
    have hc := fun (W : World) (hL : Later w W) => ints_cells (h.later hL)
    have hl2 : (ints l).length = n * 1 := by rw [ints_length]; omega
    have Hl := hide hlen
    have hq : ∀ W : World, (binOp .eql 47 (.slice (some ad) n k) (.slice none 0 0)).run Try.prog W = .ok (.bool false) W := fun _ => by kernel_rfl
    clear hlen
    go_enter Try.func100, Try.ntmps100
    go_wp2_with (at_builtin; refine appG rfl w.heap.size _ _ 47 rfl 3 (.int .i64 0) 1 8 Try.underlying47 int_info rfl (by omega) _ 0 [] rfl ?hb (World.ownsRow_made w #[] 0 (Nat.le_refl _) (by unfold maxLen; omega) rfl) ad n k (ints l) rfl hl2 (hc _ (later_alloc (later_refl _) _)) (ints_one l) (by omega) (by omega) (by omega) ?_; case hb => simp)
    intro v' w' hap
    go_wp2_with fail
    go_ret
    refine ⟨_, rfl, hap.later (later_alloc (later_refl _) _) (World.ownsRow_made w #[] 0 (Nat.le_refl _) (by unfold maxLen; omega) rfl), ?_⟩
    have := hap.own
    rw [Nat.zero_add, List.nil_append] at this
    exact this
end Go.Proofs.Ytbkfnajpbhfneaa

/- The program's Leave: a closure that calls itself: walks. -/
namespace Go.Proofs.Ytbkfnajpbhfneaa
open Go Go.RowKit

/-- all that lay at W lies as it lay, but for block g -/
structure But (g : Nat) (W W' : World) : Prop where
  os : W'.os = W.os
  tape : W'.tape = W.tape
  output : W'.output = W.output
  size : W.heap.size ≤ W'.heap.size
  block : ∀ b, b < W.heap.size → b ≠ g → W'.heap[b]? = W.heap[b]?
theorem But.refl (g : Nat) (W : World) : But g W W := ⟨rfl, rfl, rfl, Nat.le_refl _, fun _ _ _ => rfl⟩
theorem But.of_later {g : Nat} {W W' : World} (h : Later W W') : But g W W' := ⟨h.os, h.tape, h.output, h.size, fun b hb _ => h.block b hb⟩
theorem But.trans {g : Nat} {A B C : World} (h : But g A B) (k : But g B C) : But g A C :=
  ⟨k.os.trans h.os, k.tape.trans h.tape, k.output.trans h.output, Nat.le_trans h.size k.size, fun b hb hne => (k.block b (Nat.lt_of_lt_of_le hb h.size) hne).trans (h.block b hb hne)⟩
theorem But.set_ {g : Nat} {A B : World} (h : But g A B) (i : Nat) (u : Value) : But g A (B.setCell ⟨g, i, none⟩ u) :=
  h.trans ⟨rfl, rfl, rfl, by simp, fun b _ hne => Below.heap_setCell B ⟨g, i, none⟩ u b hne⟩
theorem But.later {g : Nat} {w A B : World} (h : But g A B) (hL : Later w A) (hg : w.heap.size ≤ g) : Later w B :=
  ⟨h.os.trans hL.os, h.tape.trans hL.tape, h.output.trans hL.output, Nat.le_trans hL.size h.size, fun b hb => (h.block b (Nat.lt_of_lt_of_le hb hL.size) (by omega)).trans (hL.block b hb)⟩
theorem But.blk {g b : Nat} {A B : World} {t : TypeId} {cs : Array Value} (h : But g A B) (k : Blk A b t cs) (hne : b ≠ g) : Blk B b t cs := (h.block b k.lt hne).trans k
theorem RI.but {g : Nat} {A B : World} {a : Option Addr} {n : Nat} {l : List Int} (h : RI A a n l) (k : But g A B) (hne : ∀ b o, a = some ⟨b, o, none⟩ → b ≠ g) : RI B a n l := by
  refine ⟨h.1, fun hn => ?_⟩
  obtain ⟨b, o, rfl, hb, hc⟩ := Reads.lit h (by omega) hn
  refine ⟨_, rfl, Nat.lt_of_lt_of_le hb k.size, fun j u hu => ?_⟩
  rw [add_lit]
  exact (World.cell?_of_block (a := ⟨b, o + j, none⟩) (k.block b hb (hne b o rfl))).trans (hc j u hu)

theorem own_cap {W : World} {base : Nat} {e : TypeId} {size : Nat} {A : Option Addr} {k n : Nat} {xs : List Value} (h : W.ownsRow base e size (.slice A n k) n xs) : n ≤ k := by
  rcases h.2 with ⟨e, h0⟩ | ⟨g, cap, cur, e, _, _, h1, _⟩
  · omega
  · injection e with _ _ e; omega
/-- what the closure leaves -/
def LvPost (g : Nat) (W : World) (r : Option (List Int)) (e : Ending) (W' : World) : Prop :=
  But g W W' ∧ match r with
    | some x => e = .returned (.bool true) ∧ ∃ A n k, Blk W' g 47 #[.slice A n k] ∧ RI W' A n x ∧ n ≤ k ∧ ∀ b o, A = some ⟨b, o, none⟩ → b ≠ g
    | none => e = .returned (.bool false) ∧ ∃ v, Blk W' g 47 #[v]

theorem RI.of_snoc {w : World} {A : Option Addr} {n : Nat} {l : List Int} {x : Int} (h : Reads w w.heap.size 1 A n (ints l ++ [.int .i64 x])) : RI w A n (l ++ [x]) := by
  unfold RI; rw [show ints (l ++ [x]) = ints l ++ [.int .i64 x] by simp [ints]]; exact h
theorem own_apart {W : World} {base : Nat} {e : TypeId} {size : Nat} {A : Option Addr} {k n g : Nat} {xs : List Value} (h : W.ownsRow base e size (.slice A n k) n xs) (hg : g < base) : ∀ b o, A = some ⟨b, o, none⟩ → b ≠ g := fun b o e => by
  subst e
  have := (h.lt b rfl).1
  omega
theorem later_undrew {w W : World} (h : Later w.drew W) : Later w W := ⟨h.os, h.tape, h.output, h.size, h.block⟩
theorem one_cell (W : World) (x : Value) (t : TypeId) : ∀ j u, [x][j]? = some u → (W.alloc (.cells #[x] t)).cell? ((⟨W.heap.size, 0, none⟩ : Addr).add j) = some u := fun j u hj => by
  rw [add_lit, Nat.zero_add, (Blk.new W t #[x]).cell]
  simpa using hj
theorem one_cell_later {W W' : World} {x : Value} {t : TypeId} (h : Later (W.alloc (.cells #[x] t)) W') : ∀ j u, [x][j]? = some u → W'.cell? ((⟨W.heap.size, 0, none⟩ : Addr).add j) = some u := fun j u hj => by
  rw [add_lit, Nat.zero_add, ((Blk.new W t #[x]).later h).cell]
  simpa using hj
section
variable {c : Hou} {A1 A2 A3 : Option Addr} {n1 k1 n2 k2 n3 k3 bc bf bl : Nat} {wB : World}
set_option maxRecDepth 100000 in
set_option maxHeartbeats 2000000 in
theorem leave_in (hc : CV wB c A1 n1 A2 n2 A3 n3) (ok : OkH c) (hbox : Blk wB bc 36 #[.int .i64 c.hour, .int .i64 c.grace, .slice A1 n1 k1, .slice A2 n2 k2, .slice A3 n3 k3]) (hbf : wB.heap.size ≤ bf) (hbl : bf < bl) (hn3 : n3 ≤ 10) :
    ∀ (m f : Nat) (out : List Int) (Ao : Option Addr) (no ko : Nat) (W : World), Later wB W → Blk W bl 132 #[.func (.func 99) #[] #[.pointer (some ⟨bf, 0, none⟩), .pointer (some ⟨bc, 0, none⟩), .pointer (some ⟨bl, 0, none⟩)]] →
      (∃ v, Blk W bf 47 #[v]) → RI W Ao no out → no ≤ ko → (∀ b o, Ao = some ⟨b, o, none⟩ → b ≠ bf) → no + m ≤ n3 → f ≤ n3 →
      Calls Try.prog 99 #[.slice Ao no ko, .int .i64 f, .int .i64 m, .pointer (some ⟨bf, 0, none⟩), .pointer (some ⟨bc, 0, none⟩), .pointer (some ⟨bl, 0, none⟩)] W (LvPost bf W (leaveGo c n3 m f out)) := by
  intro m
  induction m with
  | zero =>
    intro f out Ao no ko W hL hlv ⟨v, hfd⟩ ho hok hne hnm hf
    have x0 := hfd.cell 0
    have xf := hfd.frozen 0
    simp only [List.getElem?_toArray, List.getElem?_cons_zero, List.getElem?_cons_succ] at x0
    have hbt := (But.refl bf W).set_ 0 (.slice Ao no ko)
    have hLs : Later wB (W.setCell ⟨bf, 0, none⟩ (.slice Ao no ko)) := later_set hL _ hbf _
    have hbS := hbox.later hLs
    have y0 := hbS.cell 0
    have y1 := hbS.cell 1
    have y2 := hbS.cell 2
    have y3 := hbS.cell 3
    have y4 := hbS.cell 4
    simp only [List.getElem?_toArray, List.getElem?_cons_zero, List.getElem?_cons_succ] at y0 y1 y2 y3 y4
    have hoS := ho.but hbt hne
    have hps := possible_calls (k1 := k1) (k2 := k2) (k3 := k3) (ko := ko) _ (hc.later hLs) ok hoS (by omega)
    have hbk := hfd.set_ 0 (.slice Ao no ko)
    obtain ⟨b, hb⟩ : ∃ b, possibleP c out = b := ⟨_, rfl⟩
    have hgo : leaveGo c n3 0 f out = if b = true then some out else none := by unfold leaveGo; rw [hb]
    rw [hb] at hps
    have Hps := hide hps
    have Hbk : Hid (Blk (W.setCell ⟨bf, 0, none⟩ (.slice Ao no ko)) bf 47 #[.slice Ao no ko]) := hbk
    have Hgo := hide hgo
    have hcl : bc < bf := Nat.lt_of_lt_of_le hbox.lt hbf
    have hne1 : ¬ bc = bf := by omega
    clear hgo hps hbk hb hfd hbS
    go_enter Try.func99, Try.ntmps99
    go_wp2_with fail
    refine Hps.out.mono ?_
    rintro e w5 ⟨rfl, hL5⟩
    go_wp2_with fail
    go_ret
    refine ⟨hbt.trans (But.of_later hL5), ?_⟩
    rw [Hgo.out]
    cases b with
    | true => exact ⟨rfl, Ao, no, ko, Hbk.out.later hL5, hoS.later hL5, hok, hne⟩
    | false => exact ⟨rfl, _, Hbk.out.later hL5⟩
  | succ m ih =>
    intro f out Ao no ko W hL hlv hfd ho hok hne hnm hf
    have hwm : IntKind.i64.wrap ((n3 : Int) - ((m : Int) + 1)) = (n3 : Int) - ((m : Int) + 1) := IntWalk.i64_in _ (by omega)
    have hcl : bc < bf := Nat.lt_of_lt_of_le hbox.lt hbf
    have hgo : leaveGo c n3 (m + 1) f out = (List.range' f (n3 - m - f)).findSome? fun i => leaveGo c n3 m (i + 1) (out ++ [(i : Int)]) := rfl
    have Hgo := hide hgo
    have hm1 : (((m : Int) + 1) == 0) = false := by simp; omega
    rw [show ((m + 1 : Nat) : Int) = (m : Int) + 1 from rfl]
    have Hfd := hide hfd
    have hnl := ho.len
    have Hnl := hide hnl
    clear hgo hfd hnl
    go_enter Try.func99, Try.ntmps99
    go_wp2_with fail
    go_loopw [10] (fun i wr => ∃ j : Nat, f ≤ j ∧ j ≤ n3 ∧ i = .int .i64 j ∧ But bf W wr ∧ (∃ v, Blk wr bf 47 #[v]) ∧ Hid (∀ t, f ≤ t → t < j → leaveGo c n3 m (t + 1) (out ++ [(t : Int)]) = none)) (fun i _ => n3 + 1 - (intOf i).toNat)
    case atStart => exact ⟨f, Nat.le_refl _, hf, rfl, But.refl _ _, Hfd.out, fun t h1 h2 => absurd h1 (by omega)⟩
    case round =>
      obtain ⟨j, hfj, hjn, rfl, hB, ⟨v0, hfv⟩, Hno⟩ := hrel
      have hLr := hB.later hL hbf
      have hbr := (hbox.later hLr).cell 4
      simp only [List.getElem?_toArray, List.getElem?_cons_zero, List.getElem?_cons_succ] at hbr
      have hlvr := hB.blk hlv (by omega)
      have l0 := hlvr.cell 0
      simp only [List.getElem?_toArray, List.getElem?_cons_zero, List.getElem?_cons_succ] at l0
      have hor := ho.but hB hne
      by_cases hlt : j + m + 1 ≤ n3
      · have hle : (j : Int) ≤ (n3 : Int) - ((m : Int) + 1) := by omega
        have hw1 : IntKind.i64.wrap ((j : Int) + 1) = (j : Int) + 1 := IntWalk.i64_in _ (by omega)
        have hw2 : IntKind.i64.wrap ((m : Int) + 1 - 1) = (m : Int) := by rw [Int.add_sub_cancel]; exact IntWalk.i64_in _ (by omega)
        have hw3 : IntKind.i64.wrap (m : Int) = (m : Int) := IntWalk.i64_in _ (by omega)
        obtain ⟨r, hr⟩ : ∃ r, leaveGo c n3 m (j + 1) (out ++ [(j : Int)]) = r := ⟨_, rfl⟩
        have Hr := hide hr
        clear hr
        have hsz : wr.heap.size ≤ wr.drew.heap.size := Nat.le_refl _
        have hbfr := hfv.lt
        have hblr := hlvr.lt
        have hrec := fun (A' : Option Addr) (k' : Nat) (w3 : World) h1 h2 h3 h4 h5 h6 => ih (j + 1) (out ++ [(j : Int)]) A' (no + 1) k' w3 h1 h2 h3 h4 h5 h6 (by omega) (by omega)
        rw [Hr.out] at hrec
        simp only [Int.natCast_add, Int.natCast_one] at hrec
        have hno6 : no ≤ 1000000 := by omega
        have h16 : 1 ≤ 1000000 := by decide
        have h86 : 8 ≤ 1000 := by decide
        have hblne : bl ≠ bf := by omega
        have Hrec := hide hrec
        have Hfv := hide hfv
        have Hlvr := hide hlvr
        clear hrec hfv hlvr
        cases r with
        | none =>
          go_wp2_with fail
          go_region_held3 (fun X => X.cell? ⟨bl, 0, none⟩ = some (.func (.func 99) #[] #[.pointer (some ⟨bf, 0, none⟩), .pointer (some ⟨bc, 0, none⟩), .pointer (some ⟨bl, 0, none⟩)])) (first | assumption | (go_keep; done))
            (first
              | (go_at_call 100; go_must (refine (Clone_calls (l := out) _ (hor.later (by first | exact later_drew (later_refl _) | exact later_refl _ | exact later_alloc (later_refl _) _ | exact later_drew (later_alloc (later_refl _) _) | exact later_alloc (later_drew (later_refl _)) _)) (by omega)).mono ?_; rintro e w2 ⟨v, rfl, hL2, hown⟩; have hLw2 : Later wr w2 := Later.trans (by first | exact later_drew (later_refl _) | exact later_refl _ | exact later_alloc (later_refl _) _ | exact later_drew (later_alloc (later_refl _) _) | exact later_alloc (later_drew (later_refl _)) _) hL2; have hown2 : w2.ownsRow wr.heap.size 3 1 v no (ints out) := own_rebase hown (fun g e => Nat.le_trans (by first | exact Nat.le_refl _ | simp) (hown.lt g e).1); have l2 := (Hlvr.out.later hLw2).cell 0; simp only [List.getElem?_toArray, List.getElem?_cons_zero] at l2))
              | (refine appG_step rfl wr.heap.size _ _ 47 rfl 3 (.int .i64 0) 1 8 Try.underlying47 int_info rfl Nat.one_pos v no (ints out) rfl ?_ (hown2.alloc _) ⟨w2.heap.size, 0, none⟩ 1 1 [.int .i64 j] rfl rfl (one_cell w2 _ _) (ints_one [(j : Int)]) hno6 h16 h86 ?_; (focus (have := hLw2.size; simp; omega)); intro v' w3 hap; have hL3 : Later wr w3 := hap.later (later_alloc hLw2 _) (hown2.alloc _); obtain ⟨A', k', hv', hrd⟩ := own_slice hap.own; subst hv'; have hri : RI w3 A' (no + 1) (out ++ [(j : Int)]) := RI.of_snoc hrd; have hk' := own_cap hap.own; have hapt := own_apart hap.own hbfr; have l3 := (Hlvr.out.later hL3).cell 0; simp only [List.getElem?_toArray, List.getElem?_cons_zero] at l3)
              | (refine appG_step rfl wr.heap.size _ _ 47 rfl 3 (.int .i64 0) 1 8 Try.underlying47 int_info rfl Nat.one_pos v no (ints out) rfl ?_ hown2 ⟨wr.heap.size, 0, none⟩ 1 1 [.int .i64 j] rfl rfl (one_cell_later hL2) (ints_one [(j : Int)]) hno6 h16 h86 ?_; (focus (have := hLw2.size; omega)); intro v' w3 hap; have hL3 : Later wr w3 := hap.later hLw2 hown2; obtain ⟨A', k', hv', hrd⟩ := own_slice hap.own; subst hv'; have hri : RI w3 A' (no + 1) (out ++ [(j : Int)]) := RI.of_snoc hrd; have hk' := own_cap hap.own; have hapt := own_apart hap.own hbfr; have l3 := (Hlvr.out.later hL3).cell 0; simp only [List.getElem?_toArray, List.getElem?_cons_zero] at l3)
              | (refine appG_step rfl wr.heap.size _ _ 47 rfl 3 (.int .i64 0) 1 8 Try.underlying47 int_info rfl Nat.one_pos v no (ints out) rfl ?_ hown2 ⟨wr.heap.size, 0, none⟩ 1 1 [.int .i64 j] rfl rfl (one_cell_later (later_undrew hL2)) (ints_one [(j : Int)]) hno6 h16 h86 ?_; (focus (have := hLw2.size; omega)); intro v' w3 hap; have hL3 : Later wr w3 := hap.later hLw2 hown2; obtain ⟨A', k', hv', hrd⟩ := own_slice hap.own; subst hv'; have hri : RI w3 A' (no + 1) (out ++ [(j : Int)]) := RI.of_snoc hrd; have hk' := own_cap hap.own; have hapt := own_apart hap.own hbfr; have l3 := (Hlvr.out.later hL3).cell 0; simp only [List.getElem?_toArray, List.getElem?_cons_zero] at l3)
              | (go_at_call 99; go_must (refine (Hrec.out A' k' w3 (Later.trans hLr hL3) (Hlvr.out.later hL3) ⟨v0, Hfv.out.later hL3⟩ hri hk' hapt).mono ?_; rintro e w4 ⟨hB4, rfl, v4, hbk4⟩; have l4 := (hB4.blk (Hlvr.out.later hL3) hblne).cell 0; simp only [List.getElem?_toArray, List.getElem?_cons_zero] at l4)))
          all_goals
            have hB5 : But bf W w4 := hB.trans ((But.of_later hL3).trans hB4)
            clear l2 l3 l4 hL2 hown hown2 hap
            go_wp2_with fail
            go_roundw
            case rel =>
              refine ⟨j + 1, by omega, by omega, by go_num, hB5, ⟨v4, hbk4⟩, fun t h1 h2 => ?_⟩
              rcases Nat.lt_or_ge t j with h3 | h3
              · exact Hno.out t h1 h3
              · have : t = j := by omega
                subst this; exact Hr.out
            case measure => simp [intOf]; omega
        | some x =>
          go_wp2_with fail
          go_region_held3 (fun X => X.cell? ⟨bl, 0, none⟩ = some (.func (.func 99) #[] #[.pointer (some ⟨bf, 0, none⟩), .pointer (some ⟨bc, 0, none⟩), .pointer (some ⟨bl, 0, none⟩)])) (first | assumption | (go_keep; done))
            (first
              | (go_at_call 100; go_must (refine (Clone_calls (l := out) _ (hor.later (by first | exact later_drew (later_refl _) | exact later_refl _ | exact later_alloc (later_refl _) _ | exact later_drew (later_alloc (later_refl _) _) | exact later_alloc (later_drew (later_refl _)) _)) (by omega)).mono ?_; rintro e w2 ⟨v, rfl, hL2, hown⟩; have hLw2 : Later wr w2 := Later.trans (by first | exact later_drew (later_refl _) | exact later_refl _ | exact later_alloc (later_refl _) _ | exact later_drew (later_alloc (later_refl _) _) | exact later_alloc (later_drew (later_refl _)) _) hL2; have hown2 : w2.ownsRow wr.heap.size 3 1 v no (ints out) := own_rebase hown (fun g e => Nat.le_trans (by first | exact Nat.le_refl _ | simp) (hown.lt g e).1); have l2 := (Hlvr.out.later hLw2).cell 0; simp only [List.getElem?_toArray, List.getElem?_cons_zero] at l2))
              | (refine appG_step rfl wr.heap.size _ _ 47 rfl 3 (.int .i64 0) 1 8 Try.underlying47 int_info rfl Nat.one_pos v no (ints out) rfl ?_ (hown2.alloc _) ⟨w2.heap.size, 0, none⟩ 1 1 [.int .i64 j] rfl rfl (one_cell w2 _ _) (ints_one [(j : Int)]) hno6 h16 h86 ?_; (focus (have := hLw2.size; simp; omega)); intro v' w3 hap; have hL3 : Later wr w3 := hap.later (later_alloc hLw2 _) (hown2.alloc _); obtain ⟨A', k', hv', hrd⟩ := own_slice hap.own; subst hv'; have hri : RI w3 A' (no + 1) (out ++ [(j : Int)]) := RI.of_snoc hrd; have hk' := own_cap hap.own; have hapt := own_apart hap.own hbfr; have l3 := (Hlvr.out.later hL3).cell 0; simp only [List.getElem?_toArray, List.getElem?_cons_zero] at l3)
              | (refine appG_step rfl wr.heap.size _ _ 47 rfl 3 (.int .i64 0) 1 8 Try.underlying47 int_info rfl Nat.one_pos v no (ints out) rfl ?_ hown2 ⟨wr.heap.size, 0, none⟩ 1 1 [.int .i64 j] rfl rfl (one_cell_later hL2) (ints_one [(j : Int)]) hno6 h16 h86 ?_; (focus (have := hLw2.size; omega)); intro v' w3 hap; have hL3 : Later wr w3 := hap.later hLw2 hown2; obtain ⟨A', k', hv', hrd⟩ := own_slice hap.own; subst hv'; have hri : RI w3 A' (no + 1) (out ++ [(j : Int)]) := RI.of_snoc hrd; have hk' := own_cap hap.own; have hapt := own_apart hap.own hbfr; have l3 := (Hlvr.out.later hL3).cell 0; simp only [List.getElem?_toArray, List.getElem?_cons_zero] at l3)
              | (refine appG_step rfl wr.heap.size _ _ 47 rfl 3 (.int .i64 0) 1 8 Try.underlying47 int_info rfl Nat.one_pos v no (ints out) rfl ?_ hown2 ⟨wr.heap.size, 0, none⟩ 1 1 [.int .i64 j] rfl rfl (one_cell_later (later_undrew hL2)) (ints_one [(j : Int)]) hno6 h16 h86 ?_; (focus (have := hLw2.size; omega)); intro v' w3 hap; have hL3 : Later wr w3 := hap.later hLw2 hown2; obtain ⟨A', k', hv', hrd⟩ := own_slice hap.own; subst hv'; have hri : RI w3 A' (no + 1) (out ++ [(j : Int)]) := RI.of_snoc hrd; have hk' := own_cap hap.own; have hapt := own_apart hap.own hbfr; have l3 := (Hlvr.out.later hL3).cell 0; simp only [List.getElem?_toArray, List.getElem?_cons_zero] at l3)
              | (go_at_call 99; go_must (refine (Hrec.out A' k' w3 (Later.trans hLr hL3) (Hlvr.out.later hL3) ⟨v0, Hfv.out.later hL3⟩ hri hk' hapt).mono ?_; rintro e w4 ⟨hB4, rfl, A4, n4, k4, hbk4, hri4, hk4, hap4⟩; have l4 := (hB4.blk (Hlvr.out.later hL3) hblne).cell 0; simp only [List.getElem?_toArray, List.getElem?_cons_zero] at l4)))
          all_goals
            have hB5 : But bf W w4 := hB.trans ((But.of_later hL3).trans hB4)
            clear l2 l3 l4 hL2 hown hown2 hap
            go_wp2_with fail
            go_ret
            refine ⟨hB5, ?_⟩
            rw [Hgo.out, findSome_range_some _ _ _ j x hfj (by omega) Hr.out Hno.out]
            exact ⟨rfl, A4, n4, k4, hbk4, hri4, hk4, hap4⟩
      · have hle : (n3 : Int) - ((m : Int) + 1) < (j : Int) := by omega
        go_wp2_with fail
        go_ret
        refine ⟨hB, ?_⟩
        rw [Hgo.out, findSome_range_none _ _ _ fun t h1 h2 => Hno.out t h1 (by omega)]
        exact ⟨rfl, v0, hfv⟩
end
end Go.Proofs.Ytbkfnajpbhfneaa

/- Plain facts: bounds and verdicts in some truths, in whatever order. -/
namespace Go.Proofs.Ytbkfnajpbhfneaa

/-- r is the range of an answer in some truths -/
structure IsB (f : List Int → Int) (l : List (List Int)) (r : Int × Int) : Prop where
  lo : ∀ d ∈ l, r.1 ≤ f d
  hi : ∀ d ∈ l, f d ≤ r.2
  loAt : ∃ d ∈ l, f d = r.1
  hiAt : ∃ d ∈ l, f d = r.2
theorem IsB.unique {f : List Int → Int} {l : List (List Int)} {r r' : Int × Int} (h : IsB f l r) (k : IsB f l r') : r = r' := by
  obtain ⟨d1, m1, e1⟩ := h.loAt
  obtain ⟨d2, m2, e2⟩ := h.hiAt
  obtain ⟨d3, m3, e3⟩ := k.loAt
  obtain ⟨d4, m4, e4⟩ := k.hiAt
  have a1 := k.lo d1 m1
  have a2 := k.hi d2 m2
  have a3 := h.lo d3 m3
  have a4 := h.hi d4 m4
  exact Prod.ext (by omega) (by omega)
theorem IsB.perm {f : List Int → Int} {l l' : List (List Int)} {r : Int × Int} (h : IsB f l r) (p : List.Perm l l') : IsB f l' r := by
  obtain ⟨d1, m1, e1⟩ := h.loAt
  obtain ⟨d2, m2, e2⟩ := h.hiAt
  exact ⟨fun d hd => h.lo d (p.mem_iff.2 hd), fun d hd => h.hi d (p.mem_iff.2 hd), ⟨d1, p.mem_iff.1 m1, e1⟩, ⟨d2, p.mem_iff.1 m2, e2⟩⟩
theorem IsB.congr {f g : List Int → Int} {l : List (List Int)} {r : Int × Int} (h : IsB f l r) (e : ∀ d ∈ l, f d = g d) : IsB g l r := by
  obtain ⟨d1, m1, e1⟩ := h.loAt
  obtain ⟨d2, m2, e2⟩ := h.hiAt
  exact ⟨fun d hd => by rw [← e d hd]; exact h.lo d hd, fun d hd => by rw [← e d hd]; exact h.hi d hd, ⟨d1, m1, by rw [← e d1 m1]; exact e1⟩, ⟨d2, m2, by rw [← e d2 m2]; exact e2⟩⟩
theorem wider_fold (f : List Int → Int) : ∀ (l : List (List Int)) (r : Int × Int),
    (l.foldl (fun r d => wider r (f d)) r).1 ≤ r.1 ∧ r.2 ≤ (l.foldl (fun r d => wider r (f d)) r).2 ∧
    (∀ d ∈ l, (l.foldl (fun r d => wider r (f d)) r).1 ≤ f d ∧ f d ≤ (l.foldl (fun r d => wider r (f d)) r).2) ∧
    ((l.foldl (fun r d => wider r (f d)) r).1 = r.1 ∨ ∃ d ∈ l, f d = (l.foldl (fun r d => wider r (f d)) r).1) ∧
    ((l.foldl (fun r d => wider r (f d)) r).2 = r.2 ∨ ∃ d ∈ l, f d = (l.foldl (fun r d => wider r (f d)) r).2)
  | [], r => ⟨Int.le_refl _, Int.le_refl _, fun d hd => (by cases hd), .inl rfl, .inl rfl⟩
  | x :: l, r => by
    rw [List.foldl_cons]
    obtain ⟨h1, h2, h3, h4, h5⟩ := wider_fold f l (wider r (f x))
    generalize l.foldl (fun r d => wider r (f d)) (wider r (f x)) = q at *
    simp only [wider] at h1 h2 h4 h5
    refine ⟨by clear h3 h4 h5; omega, by clear h3 h4 h5; omega, fun d hd => ?_, ?_, ?_⟩
    · rcases List.mem_cons.1 hd with rfl | hd
      · clear h3 h4 h5; omega
      · exact h3 d hd
    · clear h5
      rcases h4 with h4 | ⟨d, hd, h4⟩
      · rcases Int.le_total r.1 (f x) with hle | hle
        · left; omega
        · right; exact ⟨x, List.mem_cons_self, by omega⟩
      · right; exact ⟨d, List.mem_cons_of_mem _ hd, h4⟩
    · clear h4
      rcases h5 with h5 | ⟨d, hd, h5⟩
      · rcases Int.le_total r.2 (f x) with hle | hle
        · right; exact ⟨x, List.mem_cons_self, by omega⟩
        · left; omega
      · right; exact ⟨d, List.mem_cons_of_mem _ hd, h5⟩
/-- the bounds of what is asked of all truths, as the program has them -/
def bP (f : List Int → Int) : List (List Int) → Int × Int
  | [] => (0, 0)
  | d :: l => (d :: l).foldl (fun r d => wider r (f d)) (f d, f d)
theorem bP_is (f : List Int → Int) {l : List (List Int)} (h : l ≠ []) : IsB f l (bP f l) := by
  cases l with
  | nil => exact absurd rfl h
  | cons x l =>
    obtain ⟨h1, h2, h3, h4, h5⟩ := wider_fold f (x :: l) (f x, f x)
    refine ⟨fun d hd => (h3 d hd).1, fun d hd => (h3 d hd).2, ?_, ?_⟩
    · rcases h4 with h4 | h4
      · exact ⟨x, List.mem_cons_self, h4.symm⟩
      · exact h4
    · rcases h5 with h5 | h5
      · exact ⟨x, List.mem_cons_self, h5.symm⟩
      · exact h5
theorem bR_is (f : List Int → Int) {l : List (List Int)} (h : l ≠ []) (hb : ∀ d ∈ l, -1099511627776 ≤ f d ∧ f d ≤ 1099511627776) : IsB f l (bR f l) := by
  obtain ⟨h1, h2, h3, h4, h5⟩ := wider_fold f l (1099511627776, -1099511627776)
  obtain ⟨x, hx⟩ := List.exists_mem_of_ne_nil l h
  refine ⟨fun d hd => (h3 d hd).1, fun d hd => (h3 d hd).2, ?_, ?_⟩
  · rcases h4 with h4 | h4
    · have := h3 x hx
      have := hb x hx
      have e : (l.foldl (fun r d => wider r (f d)) (1099511627776, -1099511627776)).1 = 1099511627776 := h4
      exact ⟨x, hx, by show f x = (l.foldl (fun r d => wider r (f d)) (1099511627776, -1099511627776)).1; omega⟩
    · exact h4
  · rcases h5 with h5 | h5
    · have := h3 x hx
      have := hb x hx
      have e : (l.foldl (fun r d => wider r (f d)) (1099511627776, -1099511627776)).2 = -1099511627776 := h5
      exact ⟨x, hx, by show f x = (l.foldl (fun r d => wider r (f d)) (1099511627776, -1099511627776)).2; omega⟩
    · exact h5
theorem bP_bR {f : List Int → Int} {l l' : List (List Int)} (p : List.Perm l l') (h : l ≠ []) (hb : ∀ d ∈ l, -1099511627776 ≤ f d ∧ f d ≤ 1099511627776) : bP f l = bR f l' := by
  have h' : l' ≠ [] := fun e => by subst e; exact h p.eq_nil
  exact ((bP_is f h).perm p).unique (bR_is f h' fun d hd => hb d (p.mem_iff.2 hd))

/-- the verdict on all truths, as the program has it -/
def vP (p : List Int → Bool) (l : List (List Int)) : Int := if l.any (fun d => !p d) = false then 1 else if l.any p = false then 2 else 3
theorem countP_all (p : List Int → Bool) (l : List (List Int)) : l.countP p = l.length ↔ l.any (fun d => !p d) = false := by
  rw [List.countP_eq_length, ← Bool.not_eq_true, List.any_eq_true]
  constructor
  · rintro h ⟨d, hd, hn⟩; rw [h d hd] at hn; cases hn
  · intro h d hd
    cases hp : p d with
    | true => rfl
    | false => exact absurd ⟨d, hd, by rw [hp]; rfl⟩ h
theorem countP_none (p : List Int → Bool) (l : List (List Int)) : l.countP p = 0 ↔ l.any p = false := by
  rw [List.countP_eq_zero, ← Bool.not_eq_true, List.any_eq_true]
  constructor
  · rintro h ⟨d, hd, hn⟩; exact h d hd hn
  · intro h d hd hp; exact h ⟨d, hd, hp⟩
theorem vP_eq (p : List Int → Bool) (l : List (List Int)) : vP p l = vR p l := by
  unfold vP vR verdictN
  simp only [countP_all, countP_none]
theorem vR_perm (p : List Int → Bool) {l l' : List (List Int)} (h : List.Perm l l') : vR p l = vR p l' := by
  unfold vR; rw [h.countP_eq, h.length_eq]
theorem vP_vR (p : List Int → Bool) {l l' : List (List Int)} (h : List.Perm l l') : vP p l = vR p l' := by rw [vP_eq, vR_perm p h]
theorem vP_congr {p q : List Int → Bool} {l : List (List Int)} (h : ∀ d ∈ l, p d = q d) : vP p l = vP q l := by
  rw [vP_eq, vP_eq]; unfold vR; rw [List.countP_congr fun d hd => by rw [h d hd]]
theorem vP_cases (p : List Int → Bool) (l : List (List Int)) : vP p l = 1 ∨ vP p l = 2 ∨ vP p l = 3 := by
  unfold vP; split
  · simp
  · split <;> simp
theorem vP_one {p : List Int → Bool} {l : List (List Int)} : vP p l = 1 ↔ ∀ d ∈ l, p d = true := by
  unfold vP
  constructor
  · intro h
    split at h
    · rename_i h2
      intro d hd
      have := (List.any_eq_false.1 h2) d hd
      simpa using this
    · split at h <;> omega
  · intro h
    rw [if_pos]
    rw [List.any_eq_false]
    intro d hd
    simp [h d hd]
theorem vP_two {p : List Int → Bool} {l : List (List Int)} (hne : l ≠ []) : vP p l = 2 ↔ ∀ d ∈ l, p d = false := by
  obtain ⟨x, hx⟩ := List.exists_mem_of_ne_nil l hne
  constructor
  · intro h
    unfold vP at h
    split at h
    · omega
    · split at h
      · rename_i h2
        intro d hd
        have := (List.any_eq_false.1 h2) d hd
        simpa using this
      · omega
  · intro h
    unfold vP
    rw [if_neg, if_pos]
    · rw [List.any_eq_false]; intro d hd; simp [h d hd]
    · rw [Bool.not_eq_false, List.any_eq_true]; exact ⟨x, hx, by simp [h x hx]⟩

/-! ### what a comparison leaves -/
def cnt (l : List (List Int)) (k : Nat) (v : Int) : Nat := l.countP fun x => decide (x.getD k 0 = v)
theorem cnt_perm {l l' : List (List Int)} (h : List.Perm l l') (k : Nat) (v : Int) : cnt l k v = cnt l' k v := h.countP_eq _
theorem leaves_fold (l : List (List Int)) (k : Nat) : ∀ (m : List (List Int)) (a : Int), a ≤ m.foldl (leavesStep l k) a ∧ (∀ d ∈ m, (cnt l k (d.getD k 0) : Int) ≤ m.foldl (leavesStep l k) a) ∧
    (m.foldl (leavesStep l k) a = a ∨ ∃ d ∈ m, m.foldl (leavesStep l k) a = cnt l k (d.getD k 0))
  | [], a => ⟨Int.le_refl _, fun d hd => (by cases hd), .inl rfl⟩
  | x :: m, a => by
    rw [List.foldl_cons]
    obtain ⟨h1, h2, h3⟩ := leaves_fold l k m (leavesStep l k a x)
    have e : leavesStep l k a x = max a (cnt l k (x.getD k 0) : Int) := rfl
    generalize m.foldl (leavesStep l k) (leavesStep l k a x) = q at *
    refine ⟨by clear h3; omega, fun d hd => ?_, ?_⟩
    · rcases List.mem_cons.1 hd with rfl | hd
      · clear h3; omega
      · exact h2 d hd
    · rcases h3 with h3 | ⟨d, hd, h3⟩
      · rcases Int.le_total (cnt l k (x.getD k 0) : Int) a with hle | hle
        · left; omega
        · right; exact ⟨x, List.mem_cons_self, by omega⟩
      · right; exact ⟨d, List.mem_cons_of_mem _ hd, h3⟩
/-- v is the greatest number of truths that have an error of a clock -/
def IsMost (l : List (List Int)) (k : Nat) (v : Int) : Prop := (∀ x : Int, (cnt l k x : Int) ≤ v) ∧ ∃ x : Int, (cnt l k x : Int) = v
theorem IsMost.unique {l : List (List Int)} {k : Nat} {v u : Int} (h : IsMost l k v) (g : IsMost l k u) : v = u := by
  obtain ⟨x, hx⟩ := h.2
  obtain ⟨y, hy⟩ := g.2
  have := h.1 y
  have := g.1 x
  omega
theorem IsMost.perm {l l' : List (List Int)} {k : Nat} {v : Int} (h : IsMost l k v) (p : List.Perm l l') : IsMost l' k v :=
  ⟨fun x => by rw [← cnt_perm p]; exact h.1 x, let ⟨x, hx⟩ := h.2; ⟨x, by rw [← cnt_perm p]; exact hx⟩⟩
theorem cnt_zero {l : List (List Int)} {k : Nat} {x : Int} (h : ∀ d ∈ l, d.getD k 0 ≠ x) : cnt l k x = 0 := by
  unfold cnt
  rw [List.countP_eq_zero]
  intro d hd
  simpa using h d hd
theorem leaves_is (l : List (List Int)) (k : Nat) : IsMost l k (leaves l k) := by
  obtain ⟨h1, h2, h3⟩ := leaves_fold l k l 0
  have hx : ∀ x : Int, (cnt l k x : Int) ≤ leaves l k := fun x => by
    by_cases hd : ∃ d ∈ l, d.getD k 0 = x
    · obtain ⟨d, hd, rfl⟩ := hd; exact h2 d hd
    · have : cnt l k x = 0 := cnt_zero fun d hm e => hd ⟨d, hm, e⟩
      unfold leaves; omega
  refine ⟨hx, ?_⟩
  rcases h3 with h3 | ⟨d, _, h3⟩
  · exact ⟨0, by have := hx 0; have e : leaves l k = 0 := h3; omega⟩
  · exact ⟨d.getD k 0, h3.symm⟩
theorem leaves_perm {l l' : List (List Int)} (p : List.Perm l l') (k : Nat) : leaves l k = leaves l' k := ((leaves_is l k).perm p).unique (leaves_is l' k)
theorem leaves_le (l : List (List Int)) (k : Nat) : 0 ≤ leaves l k ∧ leaves l k ≤ l.length := by
  obtain ⟨h1, x, hx⟩ := leaves_is l k
  have : cnt l k x ≤ l.length := List.countP_le_length
  omega
/-- the program's most: all numbers of the clock's range -/
def mostP (l : List (List Int)) (k : Nat) (lo : Int) : Nat → Int
  | 0 => 0
  | n + 1 => max (mostP l k lo n) (cnt l k (lo + n) : Int)
theorem mostP_le (l : List (List Int)) (k : Nat) (lo : Int) : ∀ n, 0 ≤ mostP l k lo n ∧ mostP l k lo n ≤ l.length
  | 0 => by simp [mostP]
  | n + 1 => by
    have := mostP_le l k lo n
    have : cnt l k (lo + n) ≤ l.length := List.countP_le_length
    simp only [mostP]; omega
theorem mostP_is (l : List (List Int)) (k : Nat) (lo : Int) : ∀ n, (∀ j : Nat, j < n → (cnt l k (lo + j) : Int) ≤ mostP l k lo n) ∧ (mostP l k lo n = 0 ∨ ∃ j : Nat, j < n ∧ mostP l k lo n = cnt l k (lo + j))
  | 0 => ⟨fun j h => (by omega), .inl rfl⟩
  | n + 1 => by
    obtain ⟨h1, h2⟩ := mostP_is l k lo n
    simp only [mostP]
    refine ⟨fun j hj => ?_, ?_⟩
    · rcases Nat.lt_or_ge j n with h | h
      · have := h1 j h; omega
      · have : j = n := by omega
        subst this; omega
    · rcases Int.le_total (cnt l k (lo + n) : Int) (mostP l k lo n) with hle | hle
      · rcases h2 with h2 | ⟨j, hj, h2⟩
        · left; omega
        · right; exact ⟨j, by omega, by omega⟩
      · right; exact ⟨n, by omega, by omega⟩
theorem mostP_leaves {l : List (List Int)} {k n : Nat} {lo : Int} (h : ∀ d ∈ l, lo ≤ d.getD k 0 ∧ d.getD k 0 < lo + n) : mostP l k lo n = leaves l k := by
  obtain ⟨h1, h2⟩ := mostP_is l k lo n
  have h0 := (mostP_le l k lo n).1
  refine IsMost.unique (l := l) (k := k) ⟨fun x => ?_, ?_⟩ (leaves_is l k)
  · by_cases hd : ∃ d ∈ l, d.getD k 0 = x
    · obtain ⟨d, hd, rfl⟩ := hd
      have hr := h d hd
      have := h1 (d.getD k 0 - lo).toNat (by omega)
      rw [show lo + ((d.getD k 0 - lo).toNat : Int) = d.getD k 0 by omega] at this
      exact this
    · have : cnt l k x = 0 := cnt_zero fun d hm e => hd ⟨d, hm, e⟩
      omega
  · rcases h2 with h2 | ⟨j, _, h2⟩
    · refine ⟨lo - 1, ?_⟩
      have : cnt l k (lo - 1) = 0 := cnt_zero fun d hm e => by have := h d hm; omega
      omega
    · exact ⟨lo + j, h2.symm⟩
/-- the program's search of the clock to compare -/
def lookTo (f : Nat → Int) (m : Int) : Nat → Nat × Int
  | 0 => (0, m)
  | i + 1 => if f i < (lookTo f m i).2 then (i, f i) else lookTo f m i
theorem lookTo_lookR (l : List (List Int)) (m : Int) (hm : leaves l 0 < m) : ∀ n, lookTo (leaves l) m (n + 1) = ((List.range n).map (· + 1)).foldl (lookStep l) (0, leaves l 0)
  | 0 => by simp [lookTo, hm]
  | n + 1 => by
    rw [List.range_succ, List.map_append, List.foldl_append, ← lookTo_lookR l m hm n]
    conv => lhs; rw [lookTo]
    rfl
theorem lookTo_congr {f g : Nat → Int} {m : Int} : ∀ n, (∀ i, i < n → f i = g i) → lookTo f m n = lookTo g m n
  | 0, _ => rfl
  | n + 1, h => by simp only [lookTo, lookTo_congr n fun i hi => h i (by omega), h n (by omega)]
end Go.Proofs.Ytbkfnajpbhfneaa

/- The program's map of how many truths have an error of a clock. -/
namespace Go.Proofs.Ytbkfnajpbhfneaa
open Go Go.RowKit Go.Maps

/-! ### spots as keys -/
theorem laidOut_ : laidOutB Try.prog = true := by kernel_rfl
theorem row_spot : (130 : TypeId) < Try.prog.types.size := of_decide_eq_true (by kernel_rfl)
theorem cells_spot : Try.prog.cellsOf 130 = 2 := by kernel_rfl
theorem wide_spot : (match Try.prog.underlying 130 with | some (.array _ _) | some (.struct _) => true | _ => false) = true := by kernel_rfl
theorem deep_spot : Try.prog.keyTypeAt 2 130 = true := by kernel_rfl
set_option maxRecDepth 100000 in
theorem law_spot : Keyed Try.prog 130 := Keyed.of_law (deep_law_laid (P := Try.prog) laidOut_ (m := 2) (Nat.le_of_ble_eq_true rfl) row_spot deep_spot wide_spot)
set_option maxRecDepth 100000 in
theorem klaw_spot : WideMaps.KeyLaw Try.prog 130 := deep_law_laid (P := Try.prog) laidOut_ (m := 2) (Nat.le_of_ble_eq_true rfl) row_spot deep_spot wide_spot
def kl (h m : Int) : Lit := .string (keyBytes [.int .i64 h, .int .i64 m])
theorem size_succ : ∃ m, Try.prog.types.size = m + 1 + 1 := ⟨Try.prog.types.size - 2, by
  have h : (130 : Nat) < Try.prog.types.size := row_spot
  omega⟩
theorem keyOf_spot {h m : Int} (wh : (Lit.int .i64 h).wf = true) (wm : (Lit.int .i64 m).wf = true) : keyOf Try.prog 130 (.agg #[.int .i64 h, .int .i64 m]) = some (kl h m) := by
  have hkt : Try.prog.keyType 130 = true := by kernel_rfl
  have hi : Try.prog.underlying 3 = some (.int .i64) := by kernel_rfl
  have hci : Try.prog.cellsOf 3 = 1 := by kernel_rfl
  obtain ⟨k, hk⟩ := size_succ
  unfold keyOf
  simp only [Try.underlying130]
  rw [if_pos (by simp [hkt, Value.formed, Try.underlying130, cells_spot]), hk]
  unfold Program.keyLits
  simp only [Try.underlying130, Value.cells]
  rw [if_pos (by rw [cells_spot]; exact ⟨rfl, by kernel_rfl⟩)]
  simp [List.mapM_cons, hci, Program.keyLits, hi, wh, wm, kl]
theorem kl_inj {h m h' m' : Int} (wh : (Lit.int .i64 h).wf = true) (wm : (Lit.int .i64 m).wf = true) (wh' : (Lit.int .i64 h').wf = true) (wm' : (Lit.int .i64 m').wf = true) (e : kl h m = kl h' m') : h = h' ∧ m = m' := by
  have := law_spot.inj (keyOf_spot wh wm) (by rw [e]; exact keyOf_spot wh' wm')
  simp only [Value.agg.injEq, Array.mk.injEq, List.cons.injEq, Value.int.injEq, true_and, and_true] at this
  exact this

/-! ### a map apart: all else lies as it lay -/
theorem Reads.but {g : Nat} {A B : World} {size : Nat} {a : Option Addr} {n : Nat} {xs : List Value} {es : Array MapEntry} {cl : Nat} (h : Reads A A.heap.size size a n xs) (hs : 0 < size) (hm : A.heap[g]? = some (.map es cl)) (k : But g A B) : Reads B B.heap.size size a n xs := by
  refine ⟨h.1, fun hn => ?_⟩
  obtain ⟨b, o, rfl, hb, hc⟩ := Reads.lit h hs hn
  have hl : 0 < xs.length := by rw [h.1]; exact Nat.mul_pos hn hs
  have hne : b ≠ g := by
    intro e
    subst e
    have := hc 0 _ (List.getElem?_eq_getElem hl)
    unfold World.cell? at this
    simp only [hm] at this
    cases this
  refine ⟨_, rfl, Nat.lt_of_lt_of_le hb k.size, fun j u hu => ?_⟩
  rw [add_lit]
  exact (World.cell?_of_block (a := ⟨b, o + j, none⟩) (k.block b hb hne)).trans (hc j u hu)
theorem But.of_grown {g : Nat} {A B : World} (h : A.grownBy B (some g)) : But g A B := ⟨h.os, h.tape, h.output, h.size, fun b hb hne => h.block b hb fun e => hne (by injection e)⟩

/-- how the map of known numbers reads -/
def Known (w : World) (bm n : Nat) (D : DataW Unit) : Prop := w.ownsMap Try.prog 130 (plainElem Try.prog 3) bm n D
theorem Known.heap {w : World} {bm n : Nat} {D : DataW Unit} (h : Known w bm n D) : ∃ es cl, w.heap[bm]? = some (.map es cl) := by
  obtain ⟨es, cl, hb, _⟩ := h
  exact ⟨es, cl, hb⟩
theorem Known.later {w W : World} {bm n : Nat} {D : DataW Unit} (h : Known w bm n D) (hL : Later w W) : Known W bm n D := by
  obtain ⟨es, cl, hb, rest⟩ := h
  exact ⟨es, cl, (hL.block bm (Array.getElem?_eq_some_iff.1 hb).1).trans hb, rest⟩
theorem Known.made {w : World} {bm : Nat} (h : w.heap[bm]? = some (.map #[] 0)) : Known w bm 0 (.map []) := by
  obtain ⟨es, cl, hb, rest⟩ := World.ownsMap_made (H := Unit) w Try.prog 130 (plainElem Try.prog 3)
  have := heap_alloc_new w (.map #[] 0)
  rw [this] at hb
  injection hb with hb
  injection hb with h1 h2
  subst h1 h2
  exact ⟨#[], 0, h, rest⟩
theorem zero_int (w : World) : (zeroValue 3).run Try.prog w = .ok (.int .i64 0) w := by kernel_rfl
theorem und_int : Try.prog.underlying 3 = some (.int .i64) := by kernel_rfl
theorem und_map : Try.prog.underlying 125 = some (.map 130 3) := by kernel_rfl

section
open Go.ChangeShapes Go.WideShapes Go.MapKept Go.ChangeMaps Go.WideElems
open Go.WideMaps (KeyLaw)
variable {H : Type} {P : Program} {w : World} {t k e : TypeId} {R : Value → Option (DataW H × List MemPlace)} {b : Nat} {es : Array MapEntry} {clock : Nat}
/-- an entry, asked for: it is there with its value, or with the zero value; a look-up gives that value; the store goes into it -/
theorem entry_all (K : KeyLaw P k) (ht : P.underlying t = some (.map k e)) {z : Value} (hz : ∀ u : World, (zeroValue e).run P u = .ok z u) (hb : w.heap[b]? = some (.map es clock)) (F : Fit P k R es clock)
    {key : Value} {kl : Lit} (hkey : keyOf P k key = some kl) :
    ∃ (v0 : Value) (st : Nat) (es1 : Array MapEntry) (clock1 : Nat), (Instr.mapEntry t (.map (some b)) key).run P w = .ok (.tuple #[v0, goInt st]) (setBlock w b (.map es1 clock1)) ∧
      (Instr.lookup t (.map (some b)) key false).run P w = .ok v0 w ∧ (Instr.mapUpdate t (.map (some b)) key v0).run P w = .ok () (setBlock w b (.map es1 clock1)) ∧
      ∀ (w2 : World) (val : Value), w2.heap[b]? = some (.map es1 clock1) → ∃ es' clock', (Instr.entryStore t (.map (some b)) (goInt st) val).run P w2 = .ok () (setBlock w2 b (.map es' clock')) ∧
        (Instr.mapUpdate t (.map (some b)) key val).run P w = .ok () (setBlock w b (.map es' clock')) := by
  obtain ⟨s1, s2, _⟩ := F.stamped
  rcases K.find w hkey es.toList F.keys with ⟨h1, h2⟩ | ⟨j, e0, h1, h2, h3⟩
  · refine ⟨z, clock, es.push ⟨key, z, clock⟩, clock + 1, ?_, ?_, ?_, fun w2 val hw2 => ⟨es.push ⟨key, val, clock⟩, clock + 1, ?_, ?_⟩⟩
    · simp [Instr.mapEntry, run_underlying ht, MapKept.run_getObj_map hb, K.check w false hkey, h1, hz, MapKept.run_setObj_map _ hb, Result.andThen, setBlock]
    · simp [Instr.lookup, run_underlying ht, MapKept.run_getObj_map hb, K.check w _ hkey, h1, hz, Result.andThen]
    · simp [Instr.mapUpdate, run_underlying ht, MapKept.run_getObj_map hb, K.check w false hkey, h1, MapKept.run_setObj_map _ hb, Result.andThen, setBlock]
    · have hidx : (es.push ⟨key, z, clock⟩).findIdx? (fun e => ((e.born : Nat) : Int) == ((clock : Nat) : Int)) = some es.size := by
        rw [findIdx_arr]
        have := findIdx_born (l := (es.push ⟨key, z, clock⟩).toList) (j := es.size) (e0 := ⟨key, z, clock⟩) (by
          simp only [Array.toList_push, List.map_append, List.map_cons, List.map_nil]
          refine List.nodup_append.2 ⟨s2, by simp, fun a ha c hc e1 => ?_⟩
          simp only [List.mem_singleton] at hc
          obtain ⟨x, hx, rfl⟩ := List.mem_map.1 ha
          have := s1 x hx
          omega) (by simp)
        exact this
      have hmod : (es.push ⟨key, z, clock⟩).modify es.size (fun e => { e with val := val }) = es.push ⟨key, val, clock⟩ := by
        apply Array.ext'
        rw [Array.toList_modify, Array.toList_push, Array.toList_push, ← Array.length_toList, modify_last]
      simp [Instr.entryStore, MapKept.run_getObj_map hw2, asInt, asIntOf, goInt, hidx, hmod, MapKept.run_setObj_map _ hw2, Result.andThen, setBlock]
    · simp [Instr.mapUpdate, run_underlying ht, MapKept.run_getObj_map hb, K.check w false hkey, h1, MapKept.run_setObj_map _ hb, Result.andThen, setBlock]
  · have hj : es[j]? = some e0 := by simpa using h2
    have hsame : es.modify j (fun e => { e with key := key }) = es := by
      apply Array.ext'
      rw [Array.toList_modify, modify_eq_set _ _ _ _ h2]
      have : ({ e0 with key := key } : MapEntry) = e0 := by rw [← h3]
      rw [this]
      exact set_self _ _ _ h2
    have hsame2 : es.modify j (fun e => { e with key := key, val := e0.val }) = es := by
      apply Array.ext'
      rw [Array.toList_modify, modify_eq_set _ _ _ _ h2]
      have : ({ e0 with key := key, val := e0.val } : MapEntry) = e0 := by rw [← h3]
      rw [this]
      exact set_self _ _ _ h2
    refine ⟨e0.val, e0.born, es, clock, ?_, ?_, ?_, fun w2 val hw2 => ⟨es.modify j (fun e' => { e' with key := key, val := val }), clock, ?_, ?_⟩⟩
    · simp [Instr.mapEntry, run_underlying ht, MapKept.run_getObj_map hb, K.check w false hkey, h1, hj, h3, K.stays w hkey, hsame, MapKept.run_setObj_map _ hb, Result.andThen, setBlock]
    · simp [Instr.lookup, run_underlying ht, MapKept.run_getObj_map hb, K.check w _ hkey, h1, Result.andThen]
    · simp [Instr.mapUpdate, run_underlying ht, MapKept.run_getObj_map hb, K.check w false hkey, h1, hj, h3, K.stays w hkey, hsame2, MapKept.run_setObj_map _ hb, Result.andThen, setBlock]
    · have hidx : es.findIdx? (fun e => ((e.born : Nat) : Int) == ((e0.born : Nat) : Int)) = some j := by
        rw [findIdx_arr]
        exact findIdx_born s2 h2
      have hmod : es.modify j (fun e => { e with val := val }) = es.modify j (fun e' => { e' with key := key, val := val }) := by
        apply Array.ext'
        rw [Array.toList_modify, Array.toList_modify, modify_eq_set _ _ _ _ h2, modify_eq_set _ _ _ _ h2, ← h3]
      simp [Instr.entryStore, MapKept.run_getObj_map hw2, asInt, asIntOf, goInt, hidx, hmod, MapKept.run_setObj_map _ hw2, Result.andThen, setBlock]
    · simp [Instr.mapUpdate, run_underlying ht, MapKept.run_getObj_map hb, K.check w false hkey, h1, hj, h3, K.stays w hkey, MapKept.run_setObj_map _ hb, Result.andThen, setBlock]
end

def wfi (x : Int) : Prop := (Lit.int .i64 x).wf = true
theorem wfi_of {x : Int} (h : -9223372036854775808 ≤ x ∧ x ≤ 9223372036854775807) : wfi x := WalkArith.wf_i64 h
/-- the map bm holds f i v at the spot of clock i with error v -/
def Many (w : World) (bm n : Nat) (f : Nat → Int → Nat) : Prop :=
  ∃ D : DataW Unit, Known w bm n D ∧ ∀ (i : Nat) (v : Int), i < 4 → wfi v → D.atKey (kl i v) (.lit (.int .i64 0)) = .lit (.int .i64 (f i v : Nat))
theorem Many.later {w W : World} {bm n : Nat} {f : Nat → Int → Nat} (h : Many w bm n f) (hL : Later w W) : Many W bm n f := let ⟨D, h1, h2⟩ := h; ⟨D, h1.later hL, h2⟩
theorem Many.lt {w : World} {bm n : Nat} {f : Nat → Int → Nat} (h : Many w bm n f) : bm < w.heap.size := let ⟨_, h1, _⟩ := h; World.ownsMap.lt h1
theorem Many.of_eq {w W : World} {bm n : Nat} {f : Nat → Int → Nat} (h : Many w bm n f) (e : W.heap[bm]? = w.heap[bm]?) : Many W bm n f := by
  obtain ⟨D, ⟨es, cl, hb, rest⟩, h2⟩ := h
  exact ⟨D, ⟨es, cl, e.trans hb, rest⟩, h2⟩
theorem Many.congr {w : World} {bm n : Nat} {f g : Nat → Int → Nat} (h : Many w bm n f) (e : ∀ i v, f i v = g i v) : Many w bm n g := by
  obtain ⟨D, h1, h2⟩ := h
  exact ⟨D, h1, fun i v hi hv => by rw [h2 i v hi hv, e]⟩
theorem Many.made {w : World} {bm : Nat} (h : w.heap[bm]? = some (.map #[] 0)) : Many w bm 0 (fun _ _ => 0) :=
  ⟨.map [], Known.made h, fun i v _ _ => rfl⟩
theorem Many.isMap {w : World} {bm n : Nat} {f : Nat → Int → Nat} (h : Many w bm n f) : ∃ es cl, w.heap[bm]? = some (.map es cl) := let ⟨_, h1, _⟩ := h; h1.heap
theorem Many.look {w : World} {bm n : Nat} {f : Nat → Int → Nat} (h : Many w bm n f) {i : Nat} {v : Int} (hi : i < 4) (hv : wfi v) :
    (Instr.lookup 125 (.map (some bm)) (.agg #[.int .i64 (i : Int), .int .i64 v]) false).run Try.prog w = .ok (.int .i64 (f i v : Nat)) w := by
  obtain ⟨D, h1, h2⟩ := h
  have wi : (Lit.int .i64 (i : Int)).wf = true := WalkArith.wf_i64 (by omega)
  obtain ⟨c, hr, hat, _⟩ := World.ownsMap.lookup_int h1 law_spot und_map und_int (zero_int w) (keyOf_spot wi hv)
  rw [h2 i v hi hv] at hat
  simp only [DataW.lit.injEq, Lit.int.injEq, true_and] at hat
  rw [hat]; exact hr
def updF (f : Nat → Int → Nat) (j : Nat) (x : Int) (i : Nat) (v : Int) : Nat := if i = j ∧ v = x then f j x + 1 else f i v
theorem Many.put {w w' : World} {bm n : Nat} {f : Nat → Int → Nat} {D : DataW Unit} (h1 : Known w bm n D) (h2 : ∀ (i : Nat) (v : Int), i < 4 → wfi v → D.atKey (kl i v) (.lit (.int .i64 0)) = .lit (.int .i64 (f i v : Nat)))
    {j : Nat} {x : Int} {c : Nat} (hj : j < 4) (hx : wfi x) (hn : n ≤ 1000000) (hc : c ≤ 1000000)
    (hr : (Instr.mapUpdate 125 (.map (some bm)) (.agg #[.int .i64 (j : Int), .int .i64 x]) (.int .i64 (c : Nat))).run Try.prog w = .ok () w') :
    Many w' bm (n + 1) (fun i v => if i = j ∧ v = x then c else f i v) ∧ But bm w w' := by
  have wj : (Lit.int .i64 (j : Int)).wf = true := WalkArith.wf_i64 (by omega)
  have wc : (Lit.int .i64 (c : Int)).wf = true := WalkArith.wf_i64 (by omega)
  obtain ⟨w2, hr2, hk, hg⟩ := World.ownsMap.update h1 law_spot und_map (by unfold maxLen; omega) (keyOf_spot wj hx) (plainElem_int und_int wc)
  rw [hr] at hr2
  injection hr2 with _ hw
  subst hw
  refine ⟨⟨_, hk, fun i v hi hv => ?_⟩, But.of_grown hg⟩
  have wi : (Lit.int .i64 (i : Int)).wf = true := WalkArith.wf_i64 (by omega)
  have hm : Maps.IsMap D := by obtain ⟨es, cl, _, _, _, e⟩ := h1; exact ⟨_, e⟩
  dsimp only
  by_cases he : i = j ∧ v = x
  · obtain ⟨rfl, rfl⟩ := he
    rw [atKey_put_same hm (law_spot.key (keyOf_spot wi hv)), if_pos ⟨rfl, rfl⟩]
  · rw [atKey_put_other (fun e => he (by have := kl_inj wi hv wj hx e; exact ⟨by omega, this.2⟩)), if_neg he, h2 i v hi hv]
/-- m[spot{j, x}]++: the entry, then the store -/
theorem many_step {w : World} {bm n : Nat} {f : Nat → Int → Nat} (h : Many w bm n f) {j : Nat} {x : Int} (hj : j < 4) (hx : wfi x) (hn : n ≤ 1000000) (hf : f j x ≤ 100000) :
    ∃ (st : Nat) (w1 : World), (Instr.mapEntry 125 (.map (some bm)) (.agg #[.int .i64 (j : Int), .int .i64 x])).run Try.prog w = .ok (.tuple #[.int .i64 (f j x : Nat), .int .i64 (st : Int)]) w1 ∧
      (Instr.lookup 125 (.map (some bm)) (.agg #[.int .i64 (j : Int), .int .i64 x]) false).run Try.prog w1 = .ok (.int .i64 (f j x : Nat)) w1 ∧ But bm w w1 ∧ w.heap.size = w1.heap.size ∧
      ∀ w2 : World, w2.heap[bm]? = w1.heap[bm]? → ∃ w3, (Instr.entryStore 125 (.map (some bm)) (.int .i64 (st : Int)) (.int .i64 ((f j x : Nat) + 1))).run Try.prog w2 = .ok () w3 ∧ But bm w2 w3 ∧ w2.heap.size = w3.heap.size ∧ Many w3 bm (n + 1) (updF f j x) ∧ ∃ es cl, w3 = ChangeMaps.setBlock w2 bm (.map es cl) := by
  have hlook := h.look hj hx
  obtain ⟨D, h1, h2⟩ := h
  have wj : (Lit.int .i64 (j : Int)).wf = true := WalkArith.wf_i64 (by omega)
  obtain ⟨es, cl, hb, F, hs, hD⟩ := h1
  obtain ⟨v0, st, es1, cl1, r1, r2, r3, r4⟩ := entry_all (R := plainElem Try.prog 3) klaw_spot und_map (fun u => zero_int u) hb F (keyOf_spot wj hx)
  rw [hlook] at r2
  injection r2 with r2 _
  subst r2
  have hput := Many.put (f := f) ⟨es, cl, hb, F, hs, hD⟩ h2 hj hx hn (by omega) r3
  have hb1 : (ChangeMaps.setBlock w bm (.map es1 cl1)).heap[bm]? = some (.map es1 cl1) := (MapKept.heap_set hb).1
  refine ⟨st, _, r1, ?_, hput.2, by simp [ChangeMaps.setBlock], fun w2 hw2 => ?_⟩
  · have := hput.1.look (i := j) (v := x) hj hx
    rw [if_pos ⟨rfl, rfl⟩] at this
    exact this
  · rw [hb1] at hw2
    obtain ⟨es', cl', e1, e2⟩ := r4 w2 (.int .i64 ((f j x : Nat) + 1)) hw2
    have hput2 := Many.put (f := f) (c := f j x + 1) ⟨es, cl, hb, F, hs, hD⟩ h2 hj hx hn (by omega) e2
    refine ⟨_, e1, ⟨rfl, rfl, rfl, by simp [ChangeMaps.setBlock], fun b hb' hne => (MapKept.heap_set hw2).2 b hne⟩, by simp [ChangeMaps.setBlock], ?_, es', cl', rfl⟩
    have hE : (ChangeMaps.setBlock w2 bm (.map es' cl')).heap[bm]? = (ChangeMaps.setBlock w bm (.map es' cl')).heap[bm]? := by
      rw [show (ChangeMaps.setBlock w2 bm (.map es' cl')).heap[bm]? = some (.map es' cl') from (MapKept.heap_set hw2).1, show (ChangeMaps.setBlock w bm (.map es' cl')).heap[bm]? = some (.map es' cl') from (MapKept.heap_set hb).1]
    exact hput2.1.of_eq hE
end Go.Proofs.Ytbkfnajpbhfneaa

/- The program's listed: walk. -/
namespace Go.Proofs.Ytbkfnajpbhfneaa
open Go Go.RowKit

/-- the four cells after j numbers of a list -/
def padTo (l : List Int) (j : Nat) : List Int := pad4 (l.take j)
theorem padTo_succ {l : List Int} {j : Nat} {x : Int} (hx : l[j]? = some x) (h4 : j < 4) : padTo l (j + 1) = (padTo l j).set j x := by
  have hl := (List.getElem?_eq_some_iff.1 hx).1
  have ht : l.take (j + 1) = l.take j ++ [x] := by rw [List.take_add_one, hx]; rfl
  have hlen : (l.take j).length = j := by rw [List.length_take]; omega
  unfold padTo
  rw [ht]
  generalize l.take j = t at *
  subst hlen
  match t with
  | [] => rfl
  | [_] => rfl
  | [_, _] => rfl
  | [_, _, _] => rfl
  | _ :: _ :: _ :: _ :: t => simp at h4; omega
/-- what listed returns -/
def ListedPost (c : Hou) (l : List Int) (w : World) (e : Ending) (w' : World) : Prop :=
  ∃ e0 e1 e2 e3 : Int, e = .returned (.tuple #[.agg #[.int .i64 e0, .int .i64 e1, .int .i64 e2, .int .i64 e3], .bool (areErrors c.clocks l)]) ∧ Later w w' ∧ (areErrors c.clocks l = true → pad4 l = [e0, e1, e2, e3])
theorem areErrLen : ∀ (l : List (Int × Int)) (d : List Int), areErrors l d = true → d.length = l.length
  | [], [], _ => rfl
  | h :: l, x :: d, k => by
    simp only [areErrors, Bool.and_eq_true] at k
    simp [areErrLen l d k.2]
set_option maxRecDepth 100000 in
set_option maxHeartbeats 2000000 in
theorem listed_calls {A1 A2 A3 : Option Addr} {n1 k1 n2 k2 n3 k3 : Nat} {c : Hou} {Al : Option Addr} {nl kl : Nat} {l : List Int} (w : World) (hc : CV w c A1 n1 A2 n2 A3 n3) (hl : RI w Al nl l) (h4 : n1 ≤ 4) (hnl : nl ≤ 1000000) :
    Calls Try.prog 104 #[(.agg #[.int .i64 c.hour, .int .i64 c.grace, .slice A1 n1 k1, .slice A2 n2 k2, .slice A3 n3 k3]), .slice Al nl kl] w (ListedPost c l w) := by
  have hll := hl.len
  have hl1 := hc.ck.len
  obtain ⟨w0, hw0⟩ : ∃ W, W = ((w.alloc (.cells #[.int .i64 c.hour, .int .i64 c.grace, .slice A1 n1 k1, .slice A2 n2 k2, .slice A3 n3 k3] 36))).alloc (.cells #[.int .i64 0, .int .i64 0, .int .i64 0, .int .i64 0] 117) := ⟨_, rfl⟩
  have hL0 : Later w w0 := by rw [hw0]; exact later_alloc (later_alloc (later_refl _) _) _
  have hs0 : w0.heap.size = w.heap.size + 1 + 1 := by rw [hw0]; simp
  have b1 : Blk w0 w.heap.size 36 #[.int .i64 c.hour, .int .i64 c.grace, .slice A1 n1 k1, .slice A2 n2 k2, .slice A3 n3 k3] := by rw [hw0]; exact (Blk.new _ _ _).alloc _
  have b2 : Blk w0 (w.heap.size + 1) 117 (ints (padTo l 0)).toArray := by
    have := Blk.new (w.alloc (.cells #[.int .i64 c.hour, .int .i64 c.grace, .slice A1 n1 k1, .slice A2 n2 k2, .slice A3 n3 k3] 36)) 117 #[.int .i64 0, .int .i64 0, .int .i64 0, .int .i64 0]
    rw [World.size_alloc] at this
    rw [hw0]; exact this
  have hc0 := hc.later hL0
  have hlr := hl.later hL0
  have Hw0 := hide hw0
  have Hb1 := hide b1
  have Hs0 := hide hs0
  clear hw0 hs0 b1
  by_cases hne : nl = n1
  · have hneb : ((nl : Int) != (n1 : Int)) = false := by rw [bne_eq_false_iff_eq]; omega
    have Hn := hide hne
    have Hll := hide hll
    have Hl1 := hide hl1
    have hbx := Hb1.out.cell 2
    simp only [List.getElem?_toArray, List.getElem?_cons_zero, List.getElem?_cons_succ] at hbx
    rw [Hw0.out] at hbx
    clear hne hll hl1
    go_enter Try.func104, Try.ntmps104
    go_wp2_with fail
    rw [← Hw0.out]
    go_loopw [6, 7, 17] (fun _ _ v wr => ∃ j : Nat, j ≤ nl ∧ v = .int .i64 j ∧ Later w wr ∧ Blk wr w.heap.size 36 #[.int .i64 c.hour, .int .i64 c.grace, .slice A1 n1 k1, .slice A2 n2 k2, .slice A3 n3 k3] ∧ Blk wr (w.heap.size + 1) 117 (ints (padTo l j)).toArray ∧ Hid (areErrors c.clocks l = areErrors (c.clocks.drop j) (l.drop j))) (fun _ _ v _ => nl - (intOf v).toNat)
    case atStart => exact ⟨0, Nat.zero_le _, rfl, hL0, Hb1.out, b2, rfl⟩
    case round =>
      obtain ⟨j, hj, rfl, hLw, hbr, hbk, Hrec⟩ := hrel
      by_cases hlt : j < nl
      · have hlt1 : j < n1 := by have := Hn.out; omega
        obtain ⟨b, o, x, rfl, _, hx, hcx⟩ := hl.get hlt
        obtain ⟨b', o', y, rfl, _, hy, hy0, hy1⟩ := hc.ck.get hlt1
        have hi1 : (j : Int) < nl := by omega
        have hi2 : (j : Int) < n1 := by omega
        obtain ⟨hpj, e1⟩ := List.getElem?_eq_some_iff.1 hx
        obtain ⟨hpj2, e2⟩ := List.getElem?_eq_some_iff.1 hy
        have hrec := Hrec.out
        rw [List.drop_eq_getElem_cons hpj, List.drop_eq_getElem_cons hpj2, e1, e2] at hrec
        have hrec2 : areErrors c.clocks l = (inB x y.1 y.2 && areErrors (c.clocks.drop (j + 1)) (l.drop (j + 1))) := hrec
        have Hrec2 := hide hrec2
        have hcx := hcx _ hLw
        have hy0 := hy0 _ hLw
        have hy1 := hy1 _ hLw
        have q2 := hbr.cell 2
        simp only [List.getElem?_toArray, List.getElem?_cons_zero, List.getElem?_cons_succ] at q2
        have Hbk := hide hbk
        have Hbr := hide hbr
        have Hx := hide hx
        clear hrec hrec2 hx hy e1 e2 Hrec hbk hbr
        cases hin : inB x y.1 y.2 with
        | true =>
          have hps := padTo_succ Hx.out (by omega)
          rw [hin, Bool.true_and] at Hrec2
          have Hin := hide hin
          have Hps := hide hps
          clear hin hps
          go_wp2_with fail
          refine (has_eq Hin.out _).mono ?_
          rintro e w3 ⟨rfl, hL3⟩
          have hLw3 := Later.trans hLw hL3
          have hbk3 := Hbk.out.later hL3
          have hlen : (padTo l j).length = 4 := rfl
          have hex : ∃ v0, w3.cell? ⟨w.heap.size + 1, j, none⟩ = some v0 := ⟨_, by rw [hbk3.cell]; simp only [ints, List.getElem?_toArray, List.getElem?_map]; rw [List.getElem?_eq_getElem (by omega)]; rfl⟩
          obtain ⟨v0, hv0⟩ := hex
          have hf0 := hbk3.frozen j
          have hk2 := hbk3.set_ j (.int .i64 x)
          rw [ints_set, ← Hps.out] at hk2
          have hbr2 := (Hbr.out.later hL3).far (p := ⟨w.heap.size + 1, j, none⟩) (by show w.heap.size ≠ w.heap.size + 1; omega) (.int .i64 x)
          have hp4 : (j : Int) < 4 := by omega
          have hfin := later_set hLw3 ⟨w.heap.size + 1, j, none⟩ (Nat.le_succ _) (.int .i64 x)
          have Hk2 := hide hk2
          have Hbr2 := hide hbr2
          clear hbk3 hk2 hbr2 hlen
          go_wp2_with fail
          go_roundw
          case rel => exact ⟨j + 1, hlt, by go_num, hfin, Hbr2.out, Hk2.out, Hrec2.out⟩
          case measure => simp [intOf]; omega
        | false =>
          rw [hin, Bool.false_and] at Hrec2
          have Hf : Hid (areErrors c.clocks l = false) := Hrec2.out
          have Hin := hide hin
          clear hin
          go_wp2_with fail
          refine (has_eq Hin.out _).mono ?_
          rintro e w3 ⟨rfl, hL3⟩
          have hLw := Later.trans hLw hL3
          have hbk := Hbk.out.later hL3
          obtain ⟨d0, d1, d2, d3, hd⟩ : ∃ d0 d1 d2 d3, padTo l j = [d0, d1, d2, d3] := ⟨_, _, _, _, rfl⟩
          rw [hd] at hbk
          simp only [ints, List.map_cons, List.map_nil] at hbk
          clear hd
          have x0 := hbk.cell 0
          have x1 := hbk.cell 1
          have x2 := hbk.cell 2
          have x3 := hbk.cell 3
          have f0 := hbk.frozen 0
          have f1 := hbk.frozen 1
          have f2 := hbk.frozen 2
          have f3 := hbk.frozen 3
          have hk2 := (((hbk.set_ 0 (.int .i64 d0)).set_ 1 (.int .i64 d1)).set_ 2 (.int .i64 d2)).set_ 3 (.int .i64 d3)
          have y0 := hk2.cell 0
          have y1 := hk2.cell 1
          have y2 := hk2.cell 2
          have y3 := hk2.cell 3
          simp only [List.setIfInBounds_toArray, List.set_cons_zero, List.set_cons_succ, List.getElem?_toArray, List.getElem?_cons_zero, List.getElem?_cons_succ] at x0 x1 x2 x3 y0 y1 y2 y3
          have hfin := later_set (later_set (later_set (later_set hLw ⟨w.heap.size + 1, 0, none⟩ (Nat.le_succ _) (.int .i64 d0)) ⟨w.heap.size + 1, 1, none⟩ (Nat.le_succ _) (.int .i64 d1)) ⟨w.heap.size + 1, 2, none⟩ (Nat.le_succ _) (.int .i64 d2)) ⟨w.heap.size + 1, 3, none⟩ (Nat.le_succ _) (.int .i64 d3)
          clear hbk hk2
          go_wp2_with fail
          refine bodyPost_ret (v := .tuple #[.agg #[.int .i64 d0, .int .i64 d1, .int .i64 d2, .int .i64 d3], .bool false]) ?_ rfl ⟨d0, d1, d2, d3, by rw [Hf.out], hfin, fun h => by rw [Hf.out] at h; cases h⟩
          simp [results, Try.results104, go_sem, y0, y1, y2, y3]
      · have hjn : j = nl := by omega
        have Hf : Hid (areErrors c.clocks l = true) := by
          show _ = _
          rw [Hrec.out, List.drop_of_length_le (by have := Hll.out; have := Hl1.out; have := Hn.out; omega), List.drop_of_length_le (by have := Hll.out; have := Hl1.out; have := Hn.out; omega)]; rfl
        obtain ⟨d0, d1, d2, d3, hd⟩ : ∃ d0 d1 d2 d3, padTo l j = [d0, d1, d2, d3] := ⟨_, _, _, _, rfl⟩
        have Hd : Hid (pad4 l = [d0, d1, d2, d3]) := by
          show _ = _
          rw [← hd]; unfold padTo; rw [List.take_of_length_le (by have := Hll.out; omega)]
        rw [hd] at hbk
        simp only [ints, List.map_cons, List.map_nil] at hbk
        clear hd Hrec hbr
        have x0 := hbk.cell 0
        have x1 := hbk.cell 1
        have x2 := hbk.cell 2
        have x3 := hbk.cell 3
        have f0 := hbk.frozen 0
        have f1 := hbk.frozen 1
        have f2 := hbk.frozen 2
        have f3 := hbk.frozen 3
        have hk2 := (((hbk.set_ 0 (.int .i64 d0)).set_ 1 (.int .i64 d1)).set_ 2 (.int .i64 d2)).set_ 3 (.int .i64 d3)
        have y0 := hk2.cell 0
        have y1 := hk2.cell 1
        have y2 := hk2.cell 2
        have y3 := hk2.cell 3
        simp only [List.setIfInBounds_toArray, List.set_cons_zero, List.set_cons_succ, List.getElem?_toArray, List.getElem?_cons_zero, List.getElem?_cons_succ] at x0 x1 x2 x3 y0 y1 y2 y3
        have hfin := later_set (later_set (later_set (later_set hLw ⟨w.heap.size + 1, 0, none⟩ (Nat.le_succ _) (.int .i64 d0)) ⟨w.heap.size + 1, 1, none⟩ (Nat.le_succ _) (.int .i64 d1)) ⟨w.heap.size + 1, 2, none⟩ (Nat.le_succ _) (.int .i64 d2)) ⟨w.heap.size + 1, 3, none⟩ (Nat.le_succ _) (.int .i64 d3)
        clear hbk hk2
        go_wp2_with fail
        refine bodyPost_ret (v := .tuple #[.agg #[.int .i64 d0, .int .i64 d1, .int .i64 d2, .int .i64 d3], .bool true]) ?_ rfl ⟨d0, d1, d2, d3, by rw [Hf.out], hfin, fun _ => Hd.out⟩
        simp [results, Try.results104, go_sem, y0, y1, y2, y3]
  · have hneb : ((nl : Int) != (n1 : Int)) = true := by rw [bne_iff_ne]; omega
    have Hf : Hid (areErrors c.clocks l = false) := by
      show _ = _
      rw [← Bool.not_eq_true]; intro h; have := areErrLen _ _ h; omega
    have hbx := Hb1.out.cell 2
    simp only [List.getElem?_toArray, List.getElem?_cons_zero, List.getElem?_cons_succ] at hbx
    obtain ⟨d0, d1, d2, d3, hd⟩ : ∃ d0 d1 d2 d3, padTo l 0 = [d0, d1, d2, d3] := ⟨_, _, _, _, rfl⟩
    have hbk := b2
    rw [hd] at hbk
    simp only [ints, List.map_cons, List.map_nil] at hbk
    have hLw := hL0
    clear hne hll hl1 hd b2
    have x0 := hbk.cell 0
    have x1 := hbk.cell 1
    have x2 := hbk.cell 2
    have x3 := hbk.cell 3
    have f0 := hbk.frozen 0
    have f1 := hbk.frozen 1
    have f2 := hbk.frozen 2
    have f3 := hbk.frozen 3
    have hk2 := (((hbk.set_ 0 (.int .i64 d0)).set_ 1 (.int .i64 d1)).set_ 2 (.int .i64 d2)).set_ 3 (.int .i64 d3)
    have y0 := hk2.cell 0
    have y1 := hk2.cell 1
    have y2 := hk2.cell 2
    have y3 := hk2.cell 3
    simp only [List.setIfInBounds_toArray, List.set_cons_zero, List.set_cons_succ, List.getElem?_toArray, List.getElem?_cons_zero, List.getElem?_cons_succ] at x0 x1 x2 x3 y0 y1 y2 y3
    have hfin := later_set (later_set (later_set (later_set hLw ⟨w.heap.size + 1, 0, none⟩ (Nat.le_succ _) (.int .i64 d0)) ⟨w.heap.size + 1, 1, none⟩ (Nat.le_succ _) (.int .i64 d1)) ⟨w.heap.size + 1, 2, none⟩ (Nat.le_succ _) (.int .i64 d2)) ⟨w.heap.size + 1, 3, none⟩ (Nat.le_succ _) (.int .i64 d3)
    clear hbk hk2
    go_enter Try.func104, Try.ntmps104
    go_upto_region 1 with fail
    rw [← Hw0.out]
    go_wp2_with fail
    refine bodyPost_ret (v := .tuple #[.agg #[.int .i64 d0, .int .i64 d1, .int .i64 d2, .int .i64 d3], .bool false]) ?_ rfl ⟨d0, d1, d2, d3, by rw [Hf.out], hfin, fun h => by rw [Hf.out] at h; cases h⟩
    simp [results, Try.results104, go_sem, y0, y1, y2, y3]
end Go.Proofs.Ytbkfnajpbhfneaa

/- What the program's functions return, as plain functions; and what these are by the reference. -/
namespace Go.Proofs.Ytbkfnajpbhfneaa

def isTick (c : Hou) (n : Int) : Bool := inB n 0 ((c.tickets.length : Int) - 1)
def askedErr (c : Hou) (due : Int) : Int := if fault c ≠ 0 then fault c else if due ≠ 0 then due else if truthsP c = [] then 11 else 0
def offF (i : Nat) (d : List Int) : Int := d.getD i 0
def clocksOut (c : Hou) : List (Int × Int) := if askedErr c 0 = 0 then (List.range c.clocks.length).map fun i => bP (offF i) (truthsP c) else []
def hoursF (c : Hou) (i : Nat) (d : List Int) : Int := hoursR c d i
def hoursOut (c : Hou) : List (Int × Int) := if askedErr c 0 = 0 then (List.range c.tickets.length).map fun i => bP (hoursF c i) (truthsP c) else []
def longF (c : Hou) (i : Nat) (d : List Int) : Bool := isLong c d i
def longOut (c : Hou) : List Int := if askedErr c 0 = 0 then (List.range c.tickets.length).map fun i => vP (longF c i) (truthsP c) else []
def clashDue (c : Hou) (a b : Int) : Int := if isTick c a = false ∨ isTick c b = false then 2 else if a = b then 6 else 0
def clashOut (c : Hou) (a b : Int) : Int := if askedErr c (clashDue c a b) = 0 then vP (fun d => clashB c d a.toNat b.toNat) (truthsP c) else 0
def paidOut (c : Hou) : Int := if askedErr c 0 = 0 then vP (isPaid c) (truthsP c) else 0
def freeDue (c : Hou) (n : Int) : Int := if inB n 0 8 = false then 2 else if isOpen c n then 8 else 0
def freeF (c : Hou) (n : Int) (d : List Int) : Int := fromR c d n
def freeOut (c : Hou) (n : Int) : Int × Int := if askedErr c (freeDue c n) = 0 then bP (freeF c n) (truthsP c) else (0, 0)
def mostC (c : Hou) (i : Nat) : Int := mostP (truthsP c) i (clockAt c i).1 (sizeR (clockAt c i)).toNat
def lookErr (c : Hou) : Int := if askedErr c 0 ≠ 0 then askedErr c 0 else if c.clocks.length = 0 then 7 else 0
def lookOut (c : Hou) : Nat × Int := if lookErr c = 0 then lookTo (mostC c) ((truthsP c).length + 1) c.clocks.length else (0, 0)

theorem askedErr_bad {c : Hou} {due : Int} (h : fault c ≠ 0) : askedErr c due = fault c := by unfold askedErr; rw [if_pos h]
theorem askedErr_due {c : Hou} {due : Int} (h : fault c = 0) (hd : due ≠ 0) : askedErr c due = due := by unfold askedErr; rw [if_neg (by simp [h]), if_pos hd]
theorem askedErr_none {c : Hou} (h : fault c = 0) (ht : truthsP c = []) : askedErr c 0 = 11 := by unfold askedErr; rw [if_neg (by simp [h]), if_neg (by simp), if_pos ht]
theorem askedErr_ok {c : Hou} (h : fault c = 0) (ht : truthsP c ≠ []) : askedErr c 0 = 0 := by unfold askedErr; rw [if_neg (by simp [h]), if_neg (by simp), if_neg ht]
theorem askedErr_zero {c : Hou} {due : Int} (h : askedErr c due = 0) : fault c = 0 ∧ due = 0 ∧ truthsP c ≠ [] := by
  unfold askedErr at h
  split at h
  · rename_i h1; exact absurd h h1
  · rename_i h1
    split at h
    · rename_i h2; exact absurd h h2
    · rename_i h2
      split at h
      · omega
      · rename_i h3; exact ⟨by simpa using h1, by simpa using h2, h3⟩
theorem askedErr_range (c : Hou) {due : Int} (hd : 0 ≤ due ∧ due ≤ 20) : 0 ≤ askedErr c due ∧ askedErr c due ≤ 20 := by
  unfold askedErr
  have := fault_cases c
  split
  · omega
  · split
    · omega
    · split <;> omega
theorem truths_nil {c : Hou} (hf : fault c = 0) : truthsP c = [] ↔ truths c = [] := by
  have p := truthsP_perm hf
  constructor
  · intro e; rw [e] at p; exact p.nil_eq.symm
  · intro e; rw [e] at p; exact p.eq_nil
theorem truths_ne {c : Hou} (hf : fault c = 0) : truthsP c ≠ [] ↔ truths c ≠ [] := not_congr (truths_nil hf)

/-! ### ranges -/
theorem hoursOf_range {hour stay : Int} (h1 : 1 ≤ hour) (h2 : stay ≤ 1000000) : 0 ≤ hoursOf hour stay ∧ hoursOf hour stay ≤ 1000000 := by
  unfold hoursOf
  split
  · omega
  · refine ⟨Int.ediv_nonneg (by omega) (by omega), ?_⟩
    refine Int.le_trans (Int.ediv_le_of_le_mul (c := hour) (b := stay) (by omega) ?_) h2
    have : 1 * hour ≤ stay * hour := Int.mul_le_mul_of_nonneg_right (by omega) (by omega)
    have h3 : stay * 1 ≤ stay * hour := Int.mul_le_mul_of_nonneg_left h1 (by omega)
    have h4 : (stay - 1) * (hour - 1) ≥ 0 := Int.mul_nonneg (by omega) (by omega)
    have h5 : (stay - 1) * (hour - 1) = stay * hour - stay - hour + 1 := by
      rw [Int.sub_mul, Int.mul_sub, Int.mul_one, Int.one_mul]; omega
    omega
theorem hoursR_range {c : Hou} (ok : OkH c) {d : List Int} (hd : IsErr c d) (t : Int) : 0 ≤ hoursR c d t ∧ hoursR c d t ≤ 1000000 := by
  unfold hoursR
  split
  · rename_i a b l h
    have ha : a < c.clips.length := ofR_lt (t := t) (by rw [h]; simp)
    have hb : b < c.clips.length := ofR_lt (t := t) (by rw [h]; simp)
    have := trueM_range ok hd ha
    have := trueM_range ok hd hb
    have := ok.hour
    have := ok.grace
    exact hoursOf_range (by omega) (by omega)
  · omega
theorem fromStep_range {c : Hou} (ok : OkH c) {d : List Int} (hd : IsErr c d) (tub : Int) {n : Int} (hn : 0 ≤ n ∧ n ≤ 1469) (i : Nat) : 0 ≤ fromStep c d tub n i ∧ fromStep c d tub n i ≤ 1469 := by
  unfold fromStep
  split
  · split
    · rename_i a b h
      have hb : b < c.clips.length := ofR_lt (t := i) (by rw [h]; simp)
      have := trueM_range ok hd hb
      omega
    · exact hn
  · exact hn
theorem from_fold {c : Hou} (ok : OkH c) {d : List Int} (hd : IsErr c d) (tub : Int) : ∀ (l : List Nat) (n : Int), 0 ≤ n ∧ n ≤ 1469 → 0 ≤ l.foldl (fromStep c d tub) n ∧ l.foldl (fromStep c d tub) n ≤ 1469
  | [], n, h => h
  | i :: l, n, h => by rw [List.foldl_cons]; exact from_fold ok hd tub l _ (fromStep_range ok hd tub h i)
theorem fromR_range {c : Hou} (ok : OkH c) {d : List Int} (hd : IsErr c d) (tub : Int) : 0 ≤ fromR c d tub ∧ fromR c d tub ≤ 1469 := from_fold ok hd tub _ 0 (by omega)
/-! ### by the reference -/
theorem clock_bR {c : Hou} (hf : fault c = 0) (hne : truthsP c ≠ []) (i : Nat) : bP (offF i) (truthsP c) = bR (offF i) (truths c) :=
  bP_bR (truthsP_perm hf) hne fun d hd => by have := (truthsP_isErr (okH_of_fault hf) d hd).range (okH_of_fault hf) i; unfold offF; omega
theorem hours_bR {c : Hou} (hf : fault c = 0) (hne : truthsP c ≠ []) (i : Nat) : bP (hoursF c i) (truthsP c) = bR (hoursF c i) (truths c) :=
  bP_bR (truthsP_perm hf) hne fun d hd => by have := hoursR_range (okH_of_fault hf) (truthsP_isErr (okH_of_fault hf) d hd) i; unfold hoursF; omega
theorem free_bR {c : Hou} (hf : fault c = 0) (hne : truthsP c ≠ []) (n : Int) : bP (freeF c n) (truthsP c) = bR (freeF c n) (truths c) :=
  bP_bR (truthsP_perm hf) hne fun d hd => by have := fromR_range (okH_of_fault hf) (truthsP_isErr (okH_of_fault hf) d hd) n; unfold freeF; omega
theorem mostC_leaves {c : Hou} (hf : fault c = 0) {i : Nat} (hi : i < c.clocks.length) : mostC c i = leaves (truths c) i := by
  have ok := okH_of_fault hf
  have hx := List.getElem?_eq_getElem hi
  have hc := ok.clock _ (List.getElem_mem hi)
  unfold mostC
  rw [clockAt_of hx, ← leaves_perm (truthsP_perm hf)]
  refine mostP_leaves fun d hd => ?_
  have he := truthsP_isErr ok d hd
  have hl : i < d.length := by have := he.len; omega
  have := he.mem i _ _ hx (List.getElem?_eq_getElem hl)
  rw [List.getD_eq_getElem?_getD, List.getElem?_eq_getElem hl, Option.getD_some]
  unfold sizeR
  omega
theorem look_law {c : Hou} (hf : fault c = 0) (hne : truthsP c ≠ []) (h0 : 0 < c.clocks.length) : lookTo (mostC c) ((truthsP c).length + 1) c.clocks.length = lookR c (truths c) := by
  have hlen := (truthsP_perm hf).length_eq
  have := leaves_le (truths c) 0
  obtain ⟨n, hn⟩ : ∃ n, c.clocks.length = n + 1 := ⟨c.clocks.length - 1, by omega⟩
  rw [lookTo_congr (g := leaves (truths c)) c.clocks.length fun i hi => mostC_leaves hf hi]
  unfold lookR
  rw [hn, Nat.add_sub_cancel]
  exact lookTo_lookR _ _ (by omega) n
end Go.Proofs.Ytbkfnajpbhfneaa

/- The program's Play, ProveTruth: walks. -/
namespace Go.Proofs.Ytbkfnajpbhfneaa
open Go Go.RowKit

def playErr (c : Hou) (l : List Int) : Int := if fault c ≠ 0 then fault c else if areErrors c.clocks l = false then 2 else 0
def playL (c : Hou) (l : List Int) : List Int := if playErr c l = 0 then c.clips.map (minuteC l) else []
def truthOut (c : Hou) (l : List Int) : Bool := decide (fault c = 0) && isTruth c l
def PlayPost (c : Hou) (l : List Int) (w : World) (e : Ending) (w' : World) : Prop :=
  ∃ A k, e = .returned (.tuple #[.slice A (playL c l).length k, .int .i64 (playErr c l)]) ∧ Later w w' ∧ RI w' A (playL c l).length (playL c l)
theorem ints_snoc_ (l : List Int) (x : Int) : ints (l ++ [x]) = ints l ++ [Value.int .i64 x] := by simp [ints]
theorem list4 {l : List Int} {e0 e1 e2 e3 : Int} (h : pad4 l = [e0, e1, e2, e3]) {c : Hou} (ok : OkH c) {x : Cp} (hx : x ∈ c.clips) : minuteC [e0, e1, e2, e3] x = minuteC l x := by
  rw [← h]; exact minuteC_pad4 ok l hx
set_option maxRecDepth 100000 in
set_option maxHeartbeats 2000000 in
theorem PlayP_calls {A1 A2 A3 : Option Addr} {n1 k1 n2 k2 n3 k3 : Nat} {c : Hou} {Al : Option Addr} {nl kl : Nat} {l : List Int} (w : World) (hc : CV w c A1 n1 A2 n2 A3 n3) (hl : RI w Al nl l) (hn1 : n1 ≤ 1000) (hn2 : n2 ≤ 1000) (hn3 : n3 ≤ 1000) (hnl : nl ≤ 1000000) :
    Calls Try.prog 57 #[(.agg #[.int .i64 c.hour, .int .i64 c.grace, .slice A1 n1 k1, .slice A2 n2 k2, .slice A3 n3 k3]), .slice Al nl kl] w (PlayPost c l w) := by
  obtain ⟨w0, hw0⟩ : ∃ W, W = (w.alloc (.cells #[.int .i64 c.hour, .int .i64 c.grace, .slice A1 n1 k1, .slice A2 n2 k2, .slice A3 n3 k3] 36)) := ⟨_, rfl⟩; have hbox : ∀ W, Later w0 W → ∀ i, W.cell? ⟨w.heap.size, i, none⟩ = #[.int .i64 c.hour, .int .i64 c.grace, .slice A1 n1 k1, .slice A2 n2 k2, .slice A3 n3 k3][i]? := (by rw [hw0]; exact box_cells w #[.int .i64 c.hour, .int .i64 c.grace, .slice A1 n1 k1, .slice A2 n2 k2, .slice A3 n3 k3] 36); have hL0 : Later w w0 := (by rw [hw0]; simp); have hc0 := hc.later hL0; have Hw0 := hide hw0; clear hw0
  have hl0 := hl.later hL0
  obtain ⟨q, hq⟩ : ∃ q, fault c = q := ⟨_, rfl⟩
  have hck := CheckHouse_eq (k1 := k1) (k2 := k2) (k3 := k3) w0 hc0 hq hn1 hn2 hn3
  have Hck := hide hck
  clear hck
  by_cases hf : q = 0
  · subst hf
    have ok := okH_of_fault hq
    have hl3 := hc.cp.len
    have hn14 : n1 ≤ 4 := by have := ok.n1; have := hc.ck.len; omega
    have hn310 : n3 ≤ 10 := by have := ok.n3; omega
    have Hl3 := hide hl3
    have Hq := hide hq
    clear hl3 hq
    go_enter Try.func57, Try.ntmps57
    go_wp2_with fail
    rw [← Hw0.out]; clear Hw0
    refine Hck.out.mono ?_
    rintro e w1 ⟨rfl, hL1⟩
    have hbox1 := fun W (hh : Later w1 W) => hbox W (Later.trans hL1 hh)
    have hL01 := hL1
    go_wp2_with fail
    refine (listed_calls (k1 := k1) (k2 := k2) (k3 := k3) (kl := kl) w1 (hc0.later hL1) (hl0.later hL1) hn14 hnl).mono ?_
    rintro e w2 ⟨e0, e1, e2, e3, rfl, hL2, hp4⟩
    have hL02 := Later.trans hL1 hL2
    have Hp4 := hide hp4
    clear hp4
    cases ha : areErrors c.clocks l with
    | false =>
      have He : Hid (playErr c l = 2) := by show _ = _; unfold playErr; rw [if_neg (by simp [Hq.out]), if_pos ha]
      have Hp : Hid (playL c l = []) := by show _ = _; unfold playL; rw [He.out]; rfl
      go_wp2_with fail
      refine bodyPost_ret (v := .tuple #[.slice none 0 0, .int .i64 2]) ?_ rfl ⟨none, 0, by rw [He.out, Hp.out]; rfl, Later.trans hL0 (later_alloc hL02 _), by rw [Hp.out]; exact RI.nil⟩
      simp [results, Try.results57, go_sem]
    | true =>
      have hpp := Hp4.out ha
      have her := (isErr_iff c l).1 ha
      have He : Hid (playErr c l = 0) := by show _ = _; unfold playErr; rw [if_neg (by simp [Hq.out]), if_neg (by simp [ha])]
      have Hp : Hid (playL c l = c.clips.map (minuteC l)) := by show _ = _; unfold playL; rw [He.out]; rfl
      have hrg := pad4_range ok her
      rw [hpp] at hrg
      have Hpp := hide hpp
      have Ha := hide ha
      obtain ⟨w4, hw4⟩ : ∃ W, W = w2.alloc (.cells #[.int .i64 e0, .int .i64 e1, .int .i64 e2, .int .i64 e3] 117) := ⟨_, rfl⟩
      have hb4 := Blk.new w2 117 #[.int .i64 e0, .int .i64 e1, .int .i64 e2, .int .i64 e3]
      rw [← hw4] at hb4
      have hL4 : Later w0 w4 := by rw [hw4]; exact later_alloc hL02 _
      have hbe := fun W (hW : Later w4 W) => (hb4.later hW).cell
      have hbox4 := fun W (hW : Later w4 W) => hbox W (Later.trans hL4 hW)
      have hc4 := hc0.later hL4
      have hL44 : Later w4 w4 := later_refl _
      have Hw4 := hide hw4
      clear hpp ha hw4 hb4 Hp4
      go_upto_region 7 with fail
      rw [← Hw4.out]
      go_wp2_with fail
      go_loopw [9, 28] (fun v i wr => ∃ j : Nat, j ≤ n3 ∧ i = .int .i64 j ∧ wr.ownsRow w4.heap.size 3 1 v j (ints ((c.clips.take j).map (minuteC l))) ∧ Later w4 wr) (fun _ i _ => n3 - (intOf i).toNat)
      case atStart => exact ⟨0, Nat.zero_le _, rfl, World.ownsRow_nil _ _ _ _, later_refl _⟩
      case round =>
        obtain ⟨j, hj, rfl, hown, hL⟩ := hrel
        by_cases hlt : j < n3
        · obtain ⟨bb, o, x, rfl, _, hx, hx0, hx1, hx2⟩ := hc4.cp.get hlt
          have hi1 : (j : Int) < n3 := by omega
          obtain ⟨k0, k4, km⟩ := clip_in ok (List.mem_of_getElem? hx)
          obtain ⟨v, hv⟩ : ∃ v, minuteC l x = v := ⟨_, rfl⟩
          have hm := list4 Hpp.out ok (List.mem_of_getElem? hx)
          rw [hv] at hm
          have ht : Hid (ints ((c.clips.take (j + 1)).map (minuteC l)) = ints ((c.clips.take j).map (minuteC l)) ++ [.int .i64 v]) := by
            show _ = _
            rw [List.take_add_one, hx, Option.toList_some, List.map_append, ← hv]; exact ints_snoc_ _ _
          have hx0 := hx0 _ hL
          have hx1 := hx1 _ hL
          have hx2 := hx2 _ hL
          have Hm := hide hm
          generalize ints ((c.clips.take j).map (minuteC l)) = xs at *
          clear hx hm hv
          obtain ⟨w5, hw5⟩ : ∃ W, W = wr.alloc (.cells #[.int .i64 x.ticket, .int .i64 x.clock, .int .i64 x.minute] 101) := ⟨_, rfl⟩
          have hb5 := Blk.new wr 101 #[.int .i64 x.ticket, .int .i64 x.clock, .int .i64 x.minute]
          rw [← hw5] at hb5
          have hLr5 : Later wr w5 := by rw [hw5]; exact later_alloc (later_refl _) _
          have hL5 := Later.trans hL hLr5
          have hb5c := fun W (hW : Later w5 W) => (hb5.later hW).cell
          have hL55 : Later w5 w5 := later_refl _
          have Hw5 := hide hw5
          clear hw5 hb5
          go_upto_region 11 with fail
          rw [← Hw5.out]
          go_wp2_with fail
          refine (minute_eq Hm.out _ k0 k4 km hrg).mono ?_
          rintro e w6 ⟨rfl, hL6⟩
          have hown6 := own_later (own_later hown hLr5) hL6
          have hL46 := Later.trans hL5 hL6
          go_wp2_with (at_builtin; go_must (refine own_append (w0 := w4) (W := w6) (te := 3) rfl _ _ 47 rfl 3 (.int .i64 0) 1 8 Try.underlying47 int_info rfl (by omega) u9 j xs rfl hL46 hown6 [.int .i64 v] rfl rfl ?_ (by omega) (by omega) ?_; (simp [Value.oneCell']); intro v' w7 hap; have hown7 := hap.own; have hL7 := hap.later; clear hap))
          go_roundw
          case rel => exact ⟨j + 1, hlt, by go_num, by rw [ht.out]; exact hown7, hL7⟩
          case measure => simp [intOf]; omega
        · have hjn : j = n3 := by omega
          have Hfull : Hid ((c.clips.take j).map (minuteC l) = playL c l) := by
            show _ = _
            rw [Hp.out, List.take_of_length_le (by have := Hl3.out; omega)]
          rw [Hfull.out] at hown
          have Hlen : Hid ((playL c l).length = j) := by
            show _ = _; rw [Hp.out, List.length_map]; have := Hl3.out; omega
          obtain ⟨pl, hpl⟩ : ∃ p, playL c l = p := ⟨_, rfl⟩
          rw [hpl] at hown Hlen Hfull
          obtain ⟨A, k, rfl, hrd⟩ := own_slice hown
          have Hpl := hide hpl
          clear hown hpl
          go_wp2_with fail
          refine bodyPost_ret (v := .tuple #[.slice A j k, .int .i64 0]) ?_ rfl ⟨A, k, ?_, Later.trans hL0 (Later.trans hL4 hL), ?_⟩
          · simp [results, Try.results57, go_sem]
          · rw [He.out, Hpl.out, Hlen.out]
          · rw [Hpl.out, Hlen.out]; exact hrd
  · have hqb : (q != 0) = true := by simpa using hf
    have He : Hid (playErr c l = q) := by show _ = _; unfold playErr; rw [hq, if_pos hf]
    have Hp : Hid (playL c l = []) := by show _ = _; unfold playL; rw [He.out, if_neg hf]
    have Hf := hide hf
    clear hf hq
    go_enter Try.func57, Try.ntmps57
    go_wp2_with fail
    rw [← Hw0.out]; clear Hw0
    refine Hck.out.mono ?_
    rintro e w1 ⟨rfl, hL1⟩
    go_wp2_with fail
    refine bodyPost_ret (v := .tuple #[.slice none 0 0, .int .i64 q]) ?_ rfl ⟨none, 0, by rw [He.out, Hp.out]; rfl, Later.trans hL0 hL1, by rw [Hp.out]; exact RI.nil⟩
    simp [results, Try.results57, go_sem]

set_option maxRecDepth 100000 in
set_option maxHeartbeats 1000000 in
theorem ProveTruth_calls {A1 A2 A3 : Option Addr} {n1 k1 n2 k2 n3 k3 : Nat} {c : Hou} {Al : Option Addr} {nl kl : Nat} {l : List Int} (w : World) (hc : CV w c A1 n1 A2 n2 A3 n3) (hl : RI w Al nl l) (hn1 : n1 ≤ 1000) (hn2 : n2 ≤ 1000) (hn3 : n3 ≤ 1000) (hnl : nl ≤ 1000000) :
    Calls Try.prog 66 #[(.agg #[.int .i64 c.hour, .int .i64 c.grace, .slice A1 n1 k1, .slice A2 n2 k2, .slice A3 n3 k3]), .slice Al nl kl] w fun e w' => e = .returned (.bool (truthOut c l)) ∧ Later w w' := by
  obtain ⟨w0, hw0⟩ : ∃ W, W = (w.alloc (.cells #[.int .i64 c.hour, .int .i64 c.grace, .slice A1 n1 k1, .slice A2 n2 k2, .slice A3 n3 k3] 36)) := ⟨_, rfl⟩; have hbox : ∀ W, Later w0 W → ∀ i, W.cell? ⟨w.heap.size, i, none⟩ = #[.int .i64 c.hour, .int .i64 c.grace, .slice A1 n1 k1, .slice A2 n2 k2, .slice A3 n3 k3][i]? := (by rw [hw0]; exact box_cells w #[.int .i64 c.hour, .int .i64 c.grace, .slice A1 n1 k1, .slice A2 n2 k2, .slice A3 n3 k3] 36); have hL0 : Later w w0 := (by rw [hw0]; simp); have hc0 := hc.later hL0; have Hw0 := hide hw0; clear hw0
  have hl0 := hl.later hL0
  obtain ⟨q, hq⟩ : ∃ q, fault c = q := ⟨_, rfl⟩
  have hck := CheckHouse_eq (k1 := k1) (k2 := k2) (k3 := k3) w0 hc0 hq hn1 hn2 hn3
  have Hck := hide hck
  clear hck
  by_cases hf : q = 0
  · subst hf
    have ok := okH_of_fault hq
    have hn14 : n1 ≤ 4 := by have := ok.n1; have := hc.ck.len; omega
    have Hto : Hid (truthOut c l = isTruth c l) := by show _ = _; unfold truthOut; rw [decide_eq_true hq]; rfl
    clear hq
    go_enter Try.func66, Try.ntmps66
    go_wp2_with fail
    rw [← Hw0.out]; clear Hw0
    refine Hck.out.mono ?_
    rintro e w1 ⟨rfl, hL1⟩
    have hbox1 := fun W (hh : Later w1 W) => hbox W (Later.trans hL1 hh)
    go_wp2_with fail
    refine (listed_calls (k1 := k1) (k2 := k2) (k3 := k3) (kl := kl) w1 (hc0.later hL1) (hl0.later hL1) hn14 hnl).mono ?_
    rintro e w2 ⟨e0, e1, e2, e3, rfl, hL2, hp4⟩
    have hL02 := Later.trans hL1 hL2
    have Hp4 := hide hp4
    clear hp4
    cases ha : areErrors c.clocks l with
    | false =>
      have Hf : Hid (truthOut c l = false) := by show _ = _; rw [Hto.out]; unfold isTruth; rw [ha]; rfl
      go_wp2_with fail
      go_ret
      exact ⟨by rw [Hf.out]; rfl, Later.trans hL0 (later_alloc hL02 _)⟩
    | true =>
      have hpp := Hp4.out ha
      have her := (isErr_iff c l).1 ha
      have hrg := pad4_range ok her
      rw [hpp] at hrg
      obtain ⟨r, hr⟩ : ∃ r, rightP c [e0, e1, e2, e3] [] = r := ⟨_, rfl⟩
      have Hf : Hid (truthOut c l = r) := by
        show _ = _
        rw [Hto.out]; unfold isTruth
        rw [ha, Bool.true_and, ← rightP_full ok, hpp, hr]
      have Hr := hide hr
      obtain ⟨w4, hw4⟩ : ∃ W, W = w2.alloc (.cells #[.int .i64 e0, .int .i64 e1, .int .i64 e2, .int .i64 e3] 117) := ⟨_, rfl⟩
      have hb4 := Blk.new w2 117 #[.int .i64 e0, .int .i64 e1, .int .i64 e2, .int .i64 e3]
      rw [← hw4] at hb4
      have hL4 : Later w0 w4 := by rw [hw4]; exact later_alloc hL02 _
      have hbe := fun W (hW : Later w4 W) => (hb4.later hW).cell
      have hbox4 := fun W (hW : Later w4 W) => hbox W (Later.trans hL4 hW)
      have hL44 : Later w4 w4 := later_refl _
      have Hw4 := hide hw4
      clear hpp ha hw4 hb4 Hp4 hr
      go_upto_region 4 with fail
      rw [← Hw4.out]
      go_wp2_with fail
      refine (rising_eq (k1 := k1) (k2 := k2) (k3 := k3) (ko := 0) (Ao := none) Hr.out w4 (hc0.later hL4) ok RI.nil (by omega) hrg).mono ?_
      rintro e w5 ⟨rfl, hL5⟩
      go_wp2_with fail
      go_ret
      exact ⟨by rw [Hf.out]; rfl, Later.trans hL0 (Later.trans hL4 hL5)⟩
  · have hqb : (q != 0) = true := by simpa using hf
    have Hf : Hid (truthOut c l = false) := by show _ = _; unfold truthOut; rw [hq, decide_eq_false hf]; rfl
    have HF := hide hf
    clear hf hq
    go_enter Try.func66, Try.ntmps66
    go_wp2_with fail
    rw [← Hw0.out]; clear Hw0
    refine Hck.out.mono ?_
    rintro e w1 ⟨rfl, hL1⟩
    go_wp2_with fail
    go_ret
    exact ⟨by rw [Hf.out]; rfl, Later.trans hL0 hL1⟩
end Go.Proofs.Ytbkfnajpbhfneaa

/- The program's work: what lies in memory. -/
namespace Go.Proofs.Ytbkfnajpbhfneaa
open Go Go.RowKit Go.Shelf

def drysV (l : List (List Int)) : List Value := l.flatMap fun d => ints (pad4 d)
theorem drysV_length (l : List (List Int)) : (drysV l).length = l.length * 4 := by
  induction l with
  | nil => rfl
  | cons h l ih => simp only [drysV, List.flatMap_cons, List.length_append] at ih ⊢; rw [ih]; simp [pad4, ints]; omega
theorem drysV_snoc (l : List (List Int)) (d : List Int) : drysV (l ++ [d]) = drysV l ++ ints (pad4 d) := by simp [drysV]
theorem drysV_get (l : List (List Int)) (k j : Nat) (x : List Int) (h : l[k]? = some x) (hj : j < 4) : (drysV l)[k * 4 + j]? = (ints (pad4 x))[j]? := by
  induction l generalizing k with
  | nil => simp at h
  | cons y l ih =>
    cases k with
    | zero =>
      simp at h; subst h
      simp only [drysV, List.flatMap_cons]
      rw [List.getElem?_append_left (by simp [pad4, ints]; omega)]; simp
    | succ k =>
      simp only [drysV, List.flatMap_cons] at ih ⊢
      rw [List.getElem?_append_right (by simp [pad4, ints]; omega)]
      have : (k + 1) * 4 + j - (ints (pad4 y)).length = k * 4 + j := by simp [pad4, ints]; omega
      rw [this]
      exact ih k (by simpa using h)
def RD (w : World) (A : Option Addr) (n : Nat) (l : List (List Int)) : Prop := Reads w w.heap.size 4 A n (drysV l)
section
variable {w W : World} {n : Nat} {A : Option Addr} {l : List (List Int)}
theorem RD.later (h : RD w A n l) (k : Later w W) : RD W A n l := Reads.later h k
theorem RD.len (h : RD w A n l) : n = l.length := by have := h.1; rw [drysV_length] at this; omega
theorem RD.nil : RD w none 0 [] := Reads.none_
theorem RD.get (h : RD w A n l) {k : Nat} (hk : k < n) :
    ∃ b o d e0 e1 e2 e3, A = some ⟨b, o, none⟩ ∧ b < w.heap.size ∧ l[k]? = some d ∧ Hid (pad4 d = [e0, e1, e2, e3]) ∧ (∀ W, Later w W → W.cell? ⟨b, o + k * 4, none⟩ = some (.int .i64 e0)) ∧ (∀ W, Later w W → W.cell? ⟨b, o + k * 4 + 1, none⟩ = some (.int .i64 e1)) ∧
      (∀ W, Later w W → W.cell? ⟨b, o + k * 4 + 2, none⟩ = some (.int .i64 e2)) ∧ ∀ W, Later w W → W.cell? ⟨b, o + k * 4 + 3, none⟩ = some (.int .i64 e3) := by
  obtain ⟨b, o, e, hb, hc⟩ := Reads.lit h (by omega) (by omega)
  have hl : k < l.length := by have := h.len; omega
  have hx := List.getElem?_eq_getElem hl
  exact ⟨b, o, l[k], _, _, _, _, e, hb, hx, rfl, fun W k' => cell_later (hc _ _ (drysV_get l k 0 _ hx (by omega))) k' hb, fun W k' => cell_later (hc _ _ (drysV_get l k 1 _ hx (by omega))) k' hb,
    fun W k' => cell_later (hc _ _ (drysV_get l k 2 _ hx (by omega))) k' hb, fun W k' => cell_later (hc _ _ (drysV_get l k 3 _ hx (by omega))) k' hb⟩
end
/-- how often the truths tr have an error of a clock below n1 -/
def cntF (n1 : Nat) (tr : List (List Int)) (i : Nat) (v : Int) : Nat := if i < n1 then cnt tr i v else 0
/-- what a work holds -/
structure WK (w : World) (bw : Nat) (c : Hou) (A1 : Option Addr) (n1 k1 : Nat) (A2 : Option Addr) (n2 k2 : Nat) (A3 : Option Addr) (n3 k3 : Nat) (At : Option Addr) (nt kt : Nat) (tr : List (List Int)) (bm : Nat) : Prop where
  cells : ∀ i, w.cell? ⟨bw, i, none⟩ = #[.int .i64 c.hour, .int .i64 c.grace, .slice A1 n1 k1, .slice A2 n2 k2, .slice A3 n3 k3, .slice At nt kt, .map (some bm)][i]?
  lt : bw < w.heap.size
  cv : CV w c A1 n1 A2 n2 A3 n3
  rd : RD w At nt tr
  many : ∃ n, Many w bm n (cntF n1 tr)
theorem WK.later {w W : World} {bw bm : Nat} {c : Hou} {A1 A2 A3 At : Option Addr} {n1 k1 n2 k2 n3 k3 nt kt : Nat} {tr : List (List Int)}
    (h : WK w bw c A1 n1 k1 A2 n2 k2 A3 n3 k3 At nt kt tr bm) (hL : Later w W) : WK W bw c A1 n1 k1 A2 n2 k2 A3 n3 k3 At nt kt tr bm :=
  ⟨fun i => (Below.cell hL (p := ⟨bw, i, none⟩) h.lt).trans (h.cells i), Nat.lt_of_lt_of_le h.lt hL.size, h.cv.later hL, h.rd.later hL, let ⟨n, hm⟩ := h.many; ⟨n, hm.later hL⟩⟩
/-- the truths kept so far -/
def keep (c : Hou) (pre : List (List Int)) : List (List Int) := pre.foldl (keepStep c) []
theorem keep_snoc (c : Hou) (pre : List (List Int)) (x : List Int) : keep c (pre ++ [x]) = keepStep c (keep c pre) x := by simp [keep, List.foldl_append]
theorem keepStep_len (c : Hou) (acc : List (List Int)) (d : List Int) : (keepStep c acc d).length ≤ acc.length + 1 := by
  unfold keepStep; split <;> simp
theorem keep_len {c : Hou} (hf : fault c = 0) {pre : List (List Int)} (h : pre <+: errAll c.clocks) : (keep c pre).length ≤ 2000 := by
  have h1 : ∀ (l acc : List (List Int)), (l.foldl (keepStep c) acc).length ≤ acc.length + l.length := by
    intro l
    induction l with
    | nil => intro acc; simp
    | cons d l ih => intro acc; have := ih (keepStep c acc d); have := keepStep_len c acc d; simp only [List.foldl_cons, List.length_cons]; omega
  have h2 := h1 pre []
  have h3 := h.length_le
  have h4 := (allErr_perm hf).length_eq
  have h5 : (allErr c).length = (many c).toNat := by simp [allErr]
  have h6 := many_le hf
  unfold keep
  simp only [List.length_nil] at h2
  omega
theorem pre_len {c : Hou} (hf : fault c = 0) {pre : List (List Int)} (h : pre <+: errAll c.clocks) : pre.length ≤ 2000 := by
  have h3 := h.length_le
  have h4 := (allErr_perm hf).length_eq
  have h5 : (allErr c).length = (many c).toNat := by simp [allErr]
  have h6 := many_le hf
  omega
theorem cnt_snoc (l : List (List Int)) (x : List Int) (i : Nat) (v : Int) : cnt (l ++ [x]) i v = cnt l i v + if x.getD i 0 = v then 1 else 0 := by
  unfold cnt
  rw [List.countP_append]
  by_cases h : x.getD i 0 = v <;> simp [h]
/-- the map while the clocks of x are counted: j of them are -/
def cntTo (n1 : Nat) (tr : List (List Int)) (x : List Int) (j : Nat) (i : Nat) (v : Int) : Nat := cntF n1 tr i v + if i < j ∧ i < n1 ∧ x.getD i 0 = v then 1 else 0
theorem cntTo_zero (n1 : Nat) (tr : List (List Int)) (x : List Int) (i : Nat) (v : Int) : cntTo n1 tr x 0 i v = cntF n1 tr i v := by unfold cntTo; simp
theorem cntTo_all (n1 : Nat) (tr : List (List Int)) (x : List Int) (i : Nat) (v : Int) : cntTo n1 tr x n1 i v = cntF n1 (tr ++ [x]) i v := by
  unfold cntTo cntF
  by_cases h : i < n1
  · rw [if_pos h, if_pos h, cnt_snoc]
    by_cases hv : x.getD i 0 = v
    · rw [if_pos ⟨h, h, hv⟩, if_pos hv]
    · rw [if_neg (fun q => hv q.2.2), if_neg hv]
  · rw [if_neg h, if_neg h, if_neg (fun q => h q.1)]
theorem cntTo_succ {n1 : Nat} {tr : List (List Int)} {x : List Int} {j : Nat} (hj : j < n1) (i : Nat) (v : Int) : updF (cntTo n1 tr x j) j (x.getD j 0) i v = cntTo n1 tr x (j + 1) i v := by
  unfold updF cntTo
  by_cases h : i = j
  · subst h
    by_cases hv : v = x.getD i 0
    · rw [if_pos ⟨rfl, hv⟩, if_neg (fun q => absurd q.1 (Nat.lt_irrefl _)), if_pos ⟨Nat.lt_succ_self _, hj, hv.symm⟩, hv]
    · rw [if_neg (fun q => hv q.2), if_neg (fun q => absurd q.1 (Nat.lt_irrefl _)), if_neg (fun q => hv q.2.2.symm)]
  · rw [if_neg (fun q => h q.1)]
    by_cases hl : i < j
    · have e : (i < j ∧ i < n1 ∧ x.getD i 0 = v) ↔ (i < j + 1 ∧ i < n1 ∧ x.getD i 0 = v) := ⟨fun q => ⟨by omega, q.2⟩, fun q => ⟨hl, q.2⟩⟩
      simp only [e]
    · rw [if_neg (fun q => hl q.1), if_neg (fun q => by omega)]
theorem cntTo_le (n1 : Nat) (tr : List (List Int)) (x : List Int) (j i : Nat) (v : Int) : cntTo n1 tr x j i v ≤ tr.length + 1 := by
  unfold cntTo cntF
  have h1 : cnt tr i v ≤ tr.length := List.countP_le_length
  split <;> split <;> omega

/-- what holds between the rounds: E: the heap's size where the range begins -/
structure AskI (c : Hou) (A1 : Option Addr) (n1 k1 : Nat) (A2 : Option Addr) (n2 k2 : Nat) (A3 : Option Addr) (n3 k3 : Nat) (E bw bm : Nat) (w0 wE : World) (pre : List (List Int)) (W : World) : Prop where
  size : E + 5 ≤ W.heap.size
  os : W.os = w0.os
  tape : W.tape = w0.tape
  out : W.output = w0.output
  old : ∀ b, b < E → b ≠ bw → b ≠ bm → W.heap[b]? = wE.heap[b]?
  row : ∃ At kt, Blk W bw 127 #[.int .i64 c.hour, .int .i64 c.grace, .slice A1 n1 k1, .slice A2 n2 k2, .slice A3 n3 k3, .slice At (keep c pre).length kt, .map (some bm)] ∧
    W.ownsRow (E + 5) 117 4 (.slice At (keep c pre).length kt) (keep c pre).length (drysV (keep c pre))
  many : Many W bm (4 * pre.length) (cntF n1 (keep c pre))
section
variable {c : Hou} {A1 A2 A3 : Option Addr} {n1 k1 n2 k2 n3 k3 E bw bm : Nat} {w0 wE W W' : World} {pre : List (List Int)}
theorem AskI.same (h : AskI c A1 n1 k1 A2 n2 k2 A3 n3 k3 E bw bm w0 wE pre W) (hbw : bw < E) (hbm : bm < E) (hs : W.heap.size ≤ W'.heap.size) (ho : W'.os = W.os) (ht : W'.tape = W.tape) (hu : W'.output = W.output)
    (hb : ∀ b, b < W.heap.size → (b < E ∨ E + 5 ≤ b) → W'.heap[b]? = W.heap[b]?) : AskI c A1 n1 k1 A2 n2 k2 A3 n3 k3 E bw bm w0 wE pre W' := by
  have hsz := h.size
  obtain ⟨At, kt, hk, hown⟩ := h.row
  refine ⟨by omega, ho.trans h.os, ht.trans h.tape, hu.trans h.out, fun b h1 h2 h3 => (hb b (by omega) (.inl h1)).trans (h.old b h1 h2 h3), ⟨At, kt, (hb bw (by omega) (.inl hbw)).trans hk, own_block hown fun g hg => ?_⟩, h.many.of_eq (hb bm (by omega) (.inl hbm))⟩
  have := hown.lt g hg
  exact hb g this.2 (.inr this.1)
theorem AskI.later (h : AskI c A1 n1 k1 A2 n2 k2 A3 n3 k3 E bw bm w0 wE pre W) (hbw : bw < E) (hbm : bm < E) (hL : Later W W') : AskI c A1 n1 k1 A2 n2 k2 A3 n3 k3 E bw bm w0 wE pre W' :=
  h.same hbw hbm hL.size hL.os hL.tape hL.output fun b hb _ => hL.block b hb
theorem AskI.stands (hbw : bw < E) (hbm : bm < E) : Stands (E + 3) (fun pre W => AskI c A1 n1 k1 A2 n2 k2 A3 n3 k3 E bw bm w0 wE pre W) :=
  ⟨fun s A o h => h.later hbw hbm (later_alloc (later_refl _) _), fun s A i u h => h.same hbw hbm (by simp) rfl rfl rfl fun b _ hb => Below.heap_setCell A _ u b (by show b ≠ E + 3; omega)⟩
theorem AskI.put (h : AskI c A1 n1 k1 A2 n2 k2 A3 n3 k3 E bw bm w0 wE pre W) (hbw : bw < E) (hbm : bm < E) (o : Obj) : AskI c A1 n1 k1 A2 n2 k2 A3 n3 k3 E bw bm w0 wE pre (W.putObj (E + 1) o) :=
  h.same hbw hbm (by simp) rfl rfl rfl fun b _ hb => heap_put W _ o b (by omega)
theorem AskI.base (h : AskI c A1 n1 k1 A2 n2 k2 A3 n3 k3 E bw bm w0 wE pre W) (hL : Later w0 wE) (hbw : w0.heap.size ≤ bw) (hbm : w0.heap.size ≤ bm) (hE : w0.heap.size ≤ E) : Later w0 W :=
  ⟨h.os, h.tape, h.out, by have := h.size; omega, fun b hb => (h.old b (by omega) (by omega) (by omega)).trans (hL.block b hb)⟩
theorem AskI.skip {pre' : List (List Int)} (h : AskI c A1 n1 k1 A2 n2 k2 A3 n3 k3 E bw bm w0 wE pre W) (e : keep c pre' = keep c pre) (hl : pre.length ≤ pre'.length) : AskI c A1 n1 k1 A2 n2 k2 A3 n3 k3 E bw bm w0 wE pre' W :=
  ⟨h.size, h.os, h.tape, h.out, h.old, by rw [e]; exact h.row, by
    rw [e]; obtain ⟨D, h1, h2⟩ := h.many; exact ⟨D, World.ownsMap.mono h1 (by omega), h2⟩⟩
end
theorem eql4 (a0 a1 a2 a3 b0 b1 b2 b3 : Int) (b : Bool) (hb : (a0 == b0 && (a1 == b1 && (a2 == b2 && a3 == b3))) = b) (X : World) : (binOp .eql 117 (.agg #[.int .i64 a0, .int .i64 a1, .int .i64 a2, .int .i64 a3]) (.agg #[.int .i64 b0, .int .i64 b1, .int .i64 b2, .int .i64 b3])).run Try.prog X = .ok (.bool b) X := by
  rw [run_eql_struct, eq4, hb]; rfl
end Go.Proofs.Ytbkfnajpbhfneaa
