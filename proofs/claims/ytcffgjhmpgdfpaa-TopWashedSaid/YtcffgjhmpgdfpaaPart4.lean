/- Part 4 of the proof: joined from the texts TcP, TcQ. -/
import Derived.Test.YtcffgjhmpgdfpaaPart3
set_option linter.unusedSimpArgs false
set_option linter.unusedVariables false
/- The program's asked: walk. -/
namespace Go.Proofs.Ytcffgjhmpgdfpaa
open Go Go.RowKit Go.Shelf
attribute [local go_sem] Oper.semAt_some later_alloc3 later_alloc4

theorem asked_bad {A1 A2 A3 : Option Addr} {n1 k1 n2 k2 n3 k3 : Nat} {c : Hou} {due : Int} (w : World) (hc : CV w c A1 n1 A2 n2 A3 n3) (hn1 : n1 ≤ 1000) (hn2 : n2 ≤ 1000) (hn3 : n3 ≤ 1000) (hf : fault c ≠ 0) :
    Calls Try.prog 32 #[(.agg #[.int .i64 c.hour, .int .i64 c.grace, .slice A1 n1 k1, .slice A2 n2 k2, .slice A3 n3 k3]), .int .i64 due] w fun e w' => e = .returned (.tuple #[.pointer none, .int .i64 (fault c)]) ∧ Later w w' := by
  obtain ⟨f, hf2⟩ : ∃ f, fault c = f := ⟨_, rfl⟩
  rw [hf2] at hf ⊢
  have hfb : (f != 0) = true := by simpa using hf
  have hfb2 : (f == 0) = false := by simpa using hf
  obtain ⟨w0, hw0⟩ : ∃ W, W = (w.alloc (.cells #[.int .i64 c.hour, .int .i64 c.grace, .slice A1 n1 k1, .slice A2 n2 k2, .slice A3 n3 k3] 46)) := ⟨_, rfl⟩; have hbox : ∀ W, Later w0 W → ∀ i, W.cell? ⟨w.heap.size, i, none⟩ = #[.int .i64 c.hour, .int .i64 c.grace, .slice A1 n1 k1, .slice A2 n2 k2, .slice A3 n3 k3][i]? := (by rw [hw0]; exact box_cells w #[.int .i64 c.hour, .int .i64 c.grace, .slice A1 n1 k1, .slice A2 n2 k2, .slice A3 n3 k3] 46); have hL0 : Later w w0 := (by rw [hw0]; simp); have hc0 := hc.later hL0; have Hw0 := hide hw0; clear hw0
  go_enter Try.func32, Try.ntmps32
  go_wp2_with fail
  rw [← Hw0.out]; clear Hw0
  refine (CheckHouse_eq _ hc0 hf2 hn1 hn2 hn3).mono ?_
  rintro e w1 ⟨rfl, hL1⟩
  go_wp2_with fail
  refine bodyPost_ret (v := .tuple #[.pointer none, .int .i64 f]) ?_ rfl ⟨rfl, Later.trans hL0 hL1⟩
  simp [results, Try.results32, go_sem]
theorem asked_due {A1 A2 A3 : Option Addr} {n1 k1 n2 k2 n3 k3 : Nat} {c : Hou} {due : Int} (w : World) (hc : CV w c A1 n1 A2 n2 A3 n3) (hn1 : n1 ≤ 1000) (hn2 : n2 ≤ 1000) (hn3 : n3 ≤ 1000) (hf : fault c = 0) (hd : due ≠ 0) :
    Calls Try.prog 32 #[(.agg #[.int .i64 c.hour, .int .i64 c.grace, .slice A1 n1 k1, .slice A2 n2 k2, .slice A3 n3 k3]), .int .i64 due] w fun e w' => e = .returned (.tuple #[.pointer none, .int .i64 due]) ∧ Later w w' := by
  have hdb : (due != 0) = true := by simpa using hd
  obtain ⟨w0, hw0⟩ : ∃ W, W = (w.alloc (.cells #[.int .i64 c.hour, .int .i64 c.grace, .slice A1 n1 k1, .slice A2 n2 k2, .slice A3 n3 k3] 46)) := ⟨_, rfl⟩; have hbox : ∀ W, Later w0 W → ∀ i, W.cell? ⟨w.heap.size, i, none⟩ = #[.int .i64 c.hour, .int .i64 c.grace, .slice A1 n1 k1, .slice A2 n2 k2, .slice A3 n3 k3][i]? := (by rw [hw0]; exact box_cells w #[.int .i64 c.hour, .int .i64 c.grace, .slice A1 n1 k1, .slice A2 n2 k2, .slice A3 n3 k3] 46); have hL0 : Later w w0 := (by rw [hw0]; simp); have hc0 := hc.later hL0; have Hw0 := hide hw0; clear hw0
  go_enter Try.func32, Try.ntmps32
  go_wp2_with fail
  rw [← Hw0.out]; clear Hw0
  refine (CheckHouse_eq _ hc0 hf hn1 hn2 hn3).mono ?_
  rintro e w1 ⟨rfl, hL1⟩
  go_wp2_with fail
  refine bodyPost_ret (v := .tuple #[.pointer none, .int .i64 due]) ?_ rfl ⟨rfl, Later.trans hL0 hL1⟩
  simp [results, Try.results32, go_sem]
/-- what asked returns of valid houses -/
def AskedPost (c : Hou) (A1 : Option Addr) (n1 k1 : Nat) (A2 : Option Addr) (n2 k2 : Nat) (A3 : Option Addr) (n3 k3 : Nat) (w : World) (e : Ending) (w' : World) : Prop :=
  (truthsP c = [] ∧ e = .returned (.tuple #[.pointer none, .int .i64 11]) ∧ Later w w') ∨
  (truthsP c ≠ [] ∧ ∃ bw bm At kt, e = .returned (.tuple #[.pointer (some ⟨bw, 0, none⟩), .int .i64 0]) ∧ Later w w' ∧ WK w' bw c A1 n1 k1 A2 n2 k2 A3 n3 k3 At (truthsP c).length kt (truthsP c) bm)
/-- what stands behind the append -/
structure TkF (c : Hou) (A1 : Option Addr) (n1 k1 : Nat) (A2 : Option Addr) (n2 k2 : Nat) (A3 : Option Addr) (n3 k3 : Nat) (E bw bm g : Nat) (w0 wE W : World) (pre : List (List Int)) (x : List Int) (e0 e1 e2 e3 : Int) (W' : World) : Prop where
  size : W.heap.size ≤ W'.heap.size
  os : W'.os = w0.os
  tape : W'.tape = w0.tape
  out : W'.output = w0.output
  old : ∀ b, b < E + 5 → b ≠ bw → W'.heap[b]? = W.heap[b]?
  row : ∃ At kt, Blk W' bw 115 #[.int .i64 c.hour, .int .i64 c.grace, .slice A1 n1 k1, .slice A2 n2 k2, .slice A3 n3 k3, .slice At (keep c (pre ++ [x])).length kt, .map (some bm)] ∧
    W'.ownsRow (E + 5) 103 4 (.slice At (keep c (pre ++ [x])).length kt) (keep c (pre ++ [x])).length (drysV (keep c (pre ++ [x])))
  many : Many W' bm (4 * pre.length) (cntF n1 (keep c pre))
  blk : Blk W' g 103 #[.int .i64 e0, .int .i64 e1, .int .i64 e2, .int .i64 e3]
theorem ask_app {c : Hou} {A1 A2 A3 : Option Addr} {n1 k1 n2 k2 n3 k3 E bw bm g : Nat} {w0 wE W w3 w4 : World} {pre : List (List Int)} (hI : AskI c A1 n1 k1 A2 n2 k2 A3 n3 k3 E bw bm w0 wE pre W) (hbw : bw < E) (hbm : bm < E) (hmw : bm ≠ bw) (hL : Later W w3)
    {At A' : Option Addr} {kt c' : Nat} {ks : List (List Int)} {x : List Int} {e0 e1 e2 e3 : Int} (hk2 : keep c (pre ++ [x]) = ks ++ [x]) (hp4 : pad4 x = [e0, e1, e2, e3]) (hw0 : w0.heap.size ≤ E) (hg : E + 5 ≤ g)
    (hbk : Blk W bw 115 #[.int .i64 c.hour, .int .i64 c.grace, .slice A1 n1 k1, .slice A2 n2 k2, .slice A3 n3 k3, .slice At ks.length kt, .map (some bm)])
    (hown : W.ownsRow (E + 5) 103 4 (.slice At ks.length kt) ks.length (drysV ks)) (hgo : (Value.slice At ks.length kt).ownBlock ≠ some g)
    (hBd : Blk w3 g 103 #[.int .i64 e0, .int .i64 e1, .int .i64 e2, .int .i64 e3])
    (hap : Appended w0 w3.drew w4 103 4 (.slice At ks.length kt) (.slice A' (ks.length + 1) c') ks.length (drysV ks) [.int .i64 e0, .int .i64 e1, .int .i64 e2, .int .i64 e3]) :
    TkF c A1 n1 k1 A2 n2 k2 A3 n3 k3 E bw bm g w0 wE W pre x e0 e1 e2 e3 (w4.setCell ⟨bw, 5, none⟩ (.slice A' (ks.length + 1) c')) := by
  have hsz := hI.size
  have hs3 := hL.size
  have h34 : w3.heap.size < w4.heap.size := hap.size
  have hno : ∀ b, b < E + 5 → (Value.slice At ks.length kt).ownBlock ≠ some b := fun b hb e => by have := (hown.lt b e).1; omega
  have hk4 : ∀ b, b < E + 5 → w4.heap[b]? = W.heap[b]? := fun b hb => (hap.keep b (by show b < w3.heap.size; omega) (hno b hb)).trans (hL.block b (by omega))
  have hset : ∀ b, b ≠ bw → (w4.setCell ⟨bw, 5, none⟩ (.slice A' (ks.length + 1) c')).heap[b]? = w4.heap[b]? := fun b hb => Below.heap_setCell w4 _ _ b hb
  have hown3 : w3.drew.ownsRow w0.heap.size 103 4 (.slice At ks.length kt) ks.length (drysV ks) := own_rebase (World.ownsRow.drew (own_later2 hown hL)) fun g e => by have := (hown.lt g e).1; omega
  have hnew : ∀ g, (Value.slice A' (ks.length + 1) c').ownBlock = some g → E + 5 ≤ g := fun g e => by
    rcases hap.at_ with h | ⟨g', h, hlt⟩
    · rw [h] at e; exact (hown.lt g e).1
    · rw [h] at e; injection e with e; subst e
      have : w3.heap.size < g' := hlt
      omega
  refine ⟨by simp; omega, hap.later.os, hap.later.tape, hap.later.output, fun b h1 h2 => (hset b h2).trans (hk4 b h1), ⟨A', c', ?_, ?_⟩, hI.many.of_eq ((hset bm hmw).trans (hk4 bm (by omega))), ?_⟩
  · rw [hk2]
    have h1 := (Blk.of_eq (hk4 bw (by omega)) hbk).set_ 5 (.slice A' (ks.length + 1) c')
    rw [List.length_append]
    exact h1
  · rw [hk2, drysV_snoc, hp4, List.length_append]
    exact own_block (own_rebase hap.own hnew) fun g e => hset g (by have := hnew g e; omega)
  · exact Blk.of_eq ((hset g (by omega)).trans (hap.keep g hBd.lt hgo)) hBd
theorem TkF.end_ {c : Hou} {A1 A2 A3 : Option Addr} {n1 k1 n2 k2 n3 k3 E bw bm g : Nat} {w0 wE W W1 W2 : World} {pre : List (List Int)} {x : List Int} {e0 e1 e2 e3 : Int} (h : TkF c A1 n1 k1 A2 n2 k2 A3 n3 k3 E bw bm g w0 wE W pre x e0 e1 e2 e3 W1)
    (hI : AskI c A1 n1 k1 A2 n2 k2 A3 n3 k3 E bw bm w0 wE pre W) (hbw : bw < E) (hbm : bm < E) (hmw : bm ≠ bw) (hB : But bm W1 W2) (hm : Many W2 bm (4 * pre.length + n1) (cntTo n1 (keep c pre) x n1)) (hn1 : n1 ≤ 4) (hk : keep c (pre ++ [x]) = keep c pre ++ [x]) :
    Keeps2 E W W2 ∧ KeepS (fun b => b < E + 5 ∧ b ≠ bm ∧ b ≠ bw ∧ b ≠ E + 1) W W2 ∧ AskI c A1 n1 k1 A2 n2 k2 A3 n3 k3 E bw bm w0 wE (pre ++ [x]) W2 := by
  have hsz := hI.size
  have h1 := h.size
  have h2 := hB.size
  have ho : ∀ b, b < E + 5 → b ≠ bw → b ≠ bm → W2.heap[b]? = W.heap[b]? := fun b hb hne hnm => (hB.block b (by omega) hnm).trans (h.old b hb hne)
  refine ⟨⟨by omega, ho E (by omega) (by omega) (by omega), ho (E + 1) (by omega) (by omega) (by omega)⟩, fun b hb => ho b hb.1 hb.2.2.1 hb.2.1, ⟨by omega, hB.os.trans h.os, hB.tape.trans h.tape, hB.output.trans h.out, fun b hb hne hnm => (ho b (by omega) hne hnm).trans (hI.old b hb hne hnm), ?_, ?_⟩⟩
  · obtain ⟨At, kt, hbk, hown⟩ := h.row
    obtain ⟨es, cl, hmap⟩ := h.many.isMap
    refine ⟨At, kt, Blk.of_eq (hB.block bw (by have := hbk.lt; omega) (Ne.symm hmw)) hbk, own_block hown fun g2 hg2 => hB.block g2 (hown.lt g2 hg2).2 (by have := (hown.lt g2 hg2).1; omega)⟩
  · have hm2 := hm.congr (g := cntF n1 (keep c (pre ++ [x]))) fun i v => by rw [hk]; exact cntTo_all _ _ _ _ _
    obtain ⟨D, k1', k2'⟩ := hm2
    exact ⟨D, World.ownsMap.mono k1' (by simp; omega), k2'⟩
set_option maxRecDepth 100000 in
set_option maxHeartbeats 4000000 in
theorem asked_fine {A1 A2 A3 : Option Addr} {n1 k1 n2 k2 n3 k3 : Nat} {c : Hou} (w : World) (hc : CV w c A1 n1 A2 n2 A3 n3) (hn1 : n1 ≤ 1000) (hn2 : n2 ≤ 1000) (hn3 : n3 ≤ 1000) (hf : fault c = 0) :
    Calls Try.prog 32 #[(.agg #[.int .i64 c.hour, .int .i64 c.grace, .slice A1 n1 k1, .slice A2 n2 k2, .slice A3 n3 k3]), .int .i64 0] w fun e w' => AskedPost c A1 n1 k1 A2 n2 k2 A3 n3 k3 w e w' := by
  have hmm := @run_makeMap Try.prog
  have ok := okH_of_fault hf
  obtain ⟨w0, hw0⟩ : ∃ W, W = (w.alloc (.cells #[.int .i64 c.hour, .int .i64 c.grace, .slice A1 n1 k1, .slice A2 n2 k2, .slice A3 n3 k3] 46)) := ⟨_, rfl⟩; have hbox : ∀ W, Later w0 W → ∀ i, W.cell? ⟨w.heap.size, i, none⟩ = #[.int .i64 c.hour, .int .i64 c.grace, .slice A1 n1 k1, .slice A2 n2 k2, .slice A3 n3 k3][i]? := (by rw [hw0]; exact box_cells w #[.int .i64 c.hour, .int .i64 c.grace, .slice A1 n1 k1, .slice A2 n2 k2, .slice A3 n3 k3] 46); have hL0 : Later w w0 := (by rw [hw0]; simp); have hc0 := hc.later hL0; have Hw0 := hide hw0; clear hw0
  have hcc := (callsIn_wide (n := 5)).2 (CheckHouse_eq w0 hc0 hf hn1 hn2 hn3 (k1 := k1) (k2 := k2) (k3 := k3))
  refine (callsIn_wide (n := 6)).1 ?_
  refine callsIn_of_wp_marks Try.func32 rfl trivial ?_ rfl
  simp only [Try.ntmps32, List.size_toArray, List.length_cons, List.length_nil, Nat.reduceAdd, Nat.reduceSub, Array.replicate_succ, Array.replicate_zero, List.push_toArray, List.append_toArray, List.nil_append, List.cons_append]
  gi_wp2_with fail
  rw [← Hw0.out]
  refine ⟨trivial, hcc.mono ?_⟩
  rintro e w1 ⟨rfl, hL1⟩
  have hs1 : w.heap.size < w1.heap.size := by have := hL1.size; have := hL0.size; have h3 : w0.heap.size = w.heap.size + 1 := (by rw [Hw0.out]; simp); omega
  have htf := fun W => (callsIn_wide (n := 5)).2 (lists_fn (c := c) (A1 := A1) (A2 := A2) (A3 := A3) (n1 := n1) (n2 := n2) (n3 := n3) (k1 := k1) (k2 := k2) (k3 := k3) W)
  clear hcc
  gi_wp2_with fail
  refine ⟨trivial, (htf _).mono ?_⟩
  rintro e w2 ⟨rfl, rfl⟩
  gi_wp2_with fail
  obtain ⟨bm, hbm⟩ : ∃ b, b = w1.heap.size := ⟨_, rfl⟩
  simp only [← hbm, World.size_alloc]
  generalize hwE : ((((w1.alloc _).alloc _).alloc _).alloc _) = wE
  have hE : wE.heap.size = bm + 4 := by rw [← hwE]; simp [← hbm]
  have hLE : Later w1 wE := by rw [← hwE]; exact later_alloc4 (later_refl _) _ _ _ _
  have hL0E : Later w0 wE := Later.trans hL1 hLE
  have kb : Blk wE w.heap.size 46 #[.int .i64 c.hour, .int .i64 c.grace, .slice A1 n1 k1, .slice A2 n2 k2, .slice A3 n3 k3] := by
    have : Blk w0 w.heap.size 46 #[.int .i64 c.hour, .int .i64 c.grace, .slice A1 n1 k1, .slice A2 n2 k2, .slice A3 n3 k3] := by rw [Hw0.out]; exact Blk.new _ _ _
    exact this.later hL0E
  have km : wE.heap[bm]? = some (.map #[] 0) := by rw [← hwE, hbm]; exact (Below.heap_alloc _ _ _ (by simp; omega)).trans ((Below.heap_alloc _ _ _ (by simp; omega)).trans ((Below.heap_alloc _ _ _ (by simp)).trans (heap_alloc_new _ _)))
  have kw : Blk wE (bm + 1) 115 #[.int .i64 c.hour, .int .i64 c.grace, .slice A1 n1 k1, .slice A2 n2 k2, .slice A3 n3 k3, .slice none 0 0, .map (some bm)] := by
    rw [← hwE, hbm]
    have := Blk.new (w1.alloc (.map #[] 0)) 115 #[.int .i64 c.hour, .int .i64 c.grace, .slice A1 n1 k1, .slice A2 n2 k2, .slice A3 n3 k3, .slice none 0 0, .map (some w1.heap.size)]
    rw [World.size_alloc] at this
    exact (this.alloc _).alloc _
  have kt : Blk wE (bm + 1 + 1) 91 #[.pointer (some ⟨bm + 1, 0, none⟩)] := by
    rw [← hwE, hbm]
    have := Blk.new ((w1.alloc (.map #[] 0)).alloc (.cells #[.int .i64 c.hour, .int .i64 c.grace, .slice A1 n1 k1, .slice A2 n2 k2, .slice A3 n3 k3, .slice none 0 0, .map (some w1.heap.size)] 115)) 91 #[.pointer (some ⟨w1.heap.size + 1, 0, none⟩)]
    simp only [World.size_alloc] at this
    exact this.alloc _
  have kc : Blk wE (bm + 1 + 1 + 1) 46 #[.int .i64 c.hour, .int .i64 c.grace, .slice A1 n1 k1, .slice A2 n2 k2, .slice A3 n3 k3] := by
    rw [← hwE, hbm]
    have := Blk.new (((w1.alloc (.map #[] 0)).alloc (.cells #[.int .i64 c.hour, .int .i64 c.grace, .slice A1 n1 k1, .slice A2 n2 k2, .slice A3 n3 k3, .slice none 0 0, .map (some w1.heap.size)] 115)).alloc (.cells #[.pointer (some ⟨w1.heap.size + 1, 0, none⟩)] 91)) 46 #[.int .i64 c.hour, .int .i64 c.grace, .slice A1 n1 k1, .slice A2 n2 k2, .slice A3 n3 k3]
    simp only [World.size_alloc] at this
    exact this
  have hw1 : w.heap.size < bm := by omega
  have hw0s : w0.heap.size ≤ bm := by have := hL1.size; omega
  have hcE := hc.later (Later.trans hL0 hL0E)
  clear hwE hbm htf hs1
  refine wpIn_iter2 (α := List Int) (gf := 69) (lb := #[.pointer (some ⟨bm + 1 + 1 + 1, 0, none⟩)]) (encs := encD) (xs := errAll c.clocks) (Kp := KeepS fun b => b < bm + 9 ∧ b ≠ bm ∧ b ≠ bm + 1 ∧ b ≠ bm + 5) rfl (by omega) rfl trivial (enters_of Try.func69 (by kernel_rfl) rfl) ?_ (fun h k => h.trans k) ?_ encD_size
    (fun pre W => AskI c A1 n1 k1 A2 n2 k2 A3 n3 k3 (bm + 4) (bm + 1) bm w0 wE pre W) (fun _ _ _ => False) ?_ ?_ (fun _ _ _ _ h _ => h) ?_ (fun pre x a' W => ∃ (g : Nat) (e0 e1 e2 e3 : Int), a' = { tmps := #[(.agg #[.int .i64 c.hour, .int .i64 c.grace, .slice A1 n1 k1, .slice A2 n2 k2, .slice A3 n3 k3]), .int .i64 0, .pointer (some ⟨w.heap.size, 0, none⟩), undef, .pointer none, .int .i64 0, .int .i64 0, .pointer (some ⟨bm + 1 + 1, 0, none⟩), .pointer (some ⟨g, 0, none⟩), undef, (.agg #[.int .i64 c.hour, .int .i64 c.grace, .slice A1 n1 k1, .slice A2 n2 k2, .slice A3 n3 k3]), .int .i64 0, .int .i64 0, .bool false, undef, .int .i64 0, .bool false, undef, (.agg #[.int .i64 c.hour, .int .i64 c.grace, .slice A1 n1 k1, .slice A2 n2 k2, .slice A3 n3 k3]), .map (some bm), .agg #[.int .i64 c.hour, .int .i64 c.grace, .slice A1 n1 k1, .slice A2 n2 k2, .slice A3 n3 k3, .slice none 0 0, .map (some bm)], .pointer (some ⟨bm + 1, 0, none⟩), (.agg #[.int .i64 c.hour, .int .i64 c.grace, .slice A1 n1 k1, .slice A2 n2 k2, .slice A3 n3 k3]), .func (.func 69) #[] #[.pointer (some ⟨bm + 1 + 1 + 1, 0, none⟩)], .agg #[.int .i64 e0, .int .i64 e1, .int .i64 e2, .int .i64 e3], undef, undef, undef, undef, undef, undef, undef, undef, undef, undef, undef, undef, undef, undef, undef, undef, undef, undef, undef, undef, undef, undef, undef, undef, undef, undef, undef, undef, undef, undef, undef, undef, undef, undef, undef, undef, undef, undef, undef, undef, undef, undef, undef, undef, undef, undef, undef, undef, undef, undef, undef, undef, undef, undef, undef, undef, undef, undef, undef, undef, undef, undef, undef, undef, undef], defers := [] } ∧ pad x = [e0, e1, e2, e3] ∧ bm + 9 ≤ g ∧ (∀ v, W.cell? ⟨bm + 1, 5, none⟩ = some v → v.ownBlock ≠ some g) ∧ Blk W g 103 #[.int .i64 e0, .int .i64 e1, .int .i64 e2, .int .i64 e3] ∧ AskI c A1 n1 k1 A2 n2 k2 A3 n3 k3 (bm + 4) (bm + 1) bm w0 wE pre W) ?assign ?_ ?body ?done ?stop
  case assign =>
    intro l pre x W K hI hpx hK
    obtain ⟨e0, e1, e2, e3, hpad⟩ := pad_four (x := x) (by
      have := errAll_isErr c x (hpx.subset (by simp))
      rw [this.len]; exact ok.n1)
    have henc : encD x = #[.agg #[.int .i64 e0, .int .i64 e1, .int .i64 e2, .int .i64 e3]] := by unfold encD; rw [hpad]; rfl
    rw [henc]
    have Hpad := hide hpad
    clear hpad henc
    gi_wp2_with fail
    refine hK _ _ ⟨by simp, Below.heap_alloc _ _ _ (by have := hI.size; omega), Below.heap_alloc _ _ _ (by have := hI.size; omega)⟩ ((KeepS.refl _).alloc _ fun b hb => by have := hI.size; omega) ⟨_, e0, e1, e2, e3, rfl, Hpad.out, ?_, ?_, ?_, ?_⟩
    · have := hI.size; omega
    · intro v hv e
      obtain ⟨At, kt', hbk, hown⟩ := hI.row
      have h5 := (Blk.alloc hbk (.cells #[.int .i64 e0, .int .i64 e1, .int .i64 e2, .int .i64 e3] 103)).cell 5
      rw [hv] at h5
      injection h5 with h5
      rw [h5] at e
      exact absurd (hown.lt _ e).2 (Nat.lt_irrefl _)
    · exact Blk.new _ _ _
    · exact hI.later (by omega) (by omega) (later_alloc (later_refl _) _)
  case body =>
    rintro l pre x a' W ⟨g, e0, e1, e2, e3, rfl, hpad, hg, hgo, hBd, hI⟩ hpx hsz
    have hdx := errAll_isErr c x (hpx.subset (by simp))
    have hp4 : pad4 x = [e0, e1, e2, e3] := by rw [← hpad]; exact (pad_eq (by rw [hdx.len]; exact ok.n1)).symm
    have hxr := fun j => hdx.range ok j
    have hpl : pre.length ≤ 2000 := pre_len hf ((List.prefix_append _ _).trans hpx)
    obtain ⟨At, kt', hbk, hown⟩ := hI.row
    have hgo2 : ∀ n k, (Value.slice At n k).ownBlock ≠ some g := fun n k e => hgo _ (hbk.cell 5) (by cases At <;> exact e)
    clear hgo
    have hIs := hI.size
    have hn4 : n1 ≤ 4 := by have := ok.n1; have := hc.ck.len; omega
    have kbW : Blk W w.heap.size 46 #[.int .i64 c.hour, .int .i64 c.grace, .slice A1 n1 k1, .slice A2 n2 k2, .slice A3 n3 k3] := (hI.old _ (by omega) (by omega) (by omega)).trans kb
    have ktW : Blk W (bm + 1 + 1) 91 #[.pointer (some ⟨bm + 1, 0, none⟩)] := (hI.old _ (by omega) (by omega) (by omega)).trans kt
    have hLW : Later w0 W := hI.base hL0E (by omega) (by omega) (by omega)
    have hcW := hc0.later hLW
    have hr4 := pad4_range ok hdx
    rw [hp4] at hr4
    have hnil := fun X => RI.nil (w := X) (A := none)
    have q0 := kbW.cells_later
    have q1 := ktW.cells_later
    have q2 := hbk.cells_later
    have q3 := hBd.cells_later
    have hksn := keep_snoc c pre x
    have Hgo := hide hgo2
    have HBd := hide hBd
    have HkbW := hide kbW
    have HktW := hide ktW
    clear hgo2
    have Hown := hide hown
    have Hbk := hide hbk
    have HI := hide hI
    have Hxr := hide hxr
    clear hown hbk hI kbW ktW hBd hxr
    cases hr : rightP c [e0, e1, e2, e3] [] with
    | false =>
      have hk2 : keep c (pre ++ [x]) = keep c pre := by rw [hksn]; unfold keepStep; rw [hp4, hr]; simp
      have Hrc := hide (fun (X : World) (hX : Later W X) => rising_eq (k1 := k1) (k2 := k2) (k3 := k3) (ko := 0) hr X (hcW.later hX) ok (hnil X) (by omega) hr4)
      clear hr hksn
      gi_wp2_with fail
      refine region_round_quiet (w0 := W) (by kernel_rfl) (by kernel_rfl) (by kernel_rfl) (fun ⟨_, _, h⟩ => h) (later_refl _) ?_; (repeat (first | go_big_quiet_step (((go_at_call 51; exact calls_ext (by simp) (Hrc.out _ (by simp))))) | quiet_step (((go_at_call 51; exact calls_ext (by simp) (Hrc.out _ (by simp))))))); refine wpQuiet_nil ?_; rintro w3 ⟨⟨_, hL3⟩, rfl⟩; (try dsimp only)
      gi_wp2_with fail
      exact ⟨⟨hL3.size, hL3.block _ (by rw [hE]; omega), hL3.block _ (by rw [hE]; omega)⟩, fun b hb => hL3.block b (by omega), (HI.out.later (by omega) (by omega) hL3).skip hk2 (by simp)⟩
    | true =>
      have Hrc := hide (fun (X : World) (hX : Later W X) => rising_eq (k1 := k1) (k2 := k2) (k3 := k3) (ko := 0) hr X (hcW.later hX) ok (hnil X) (by omega) hr4)
      obtain ⟨ks, hks⟩ : ∃ k, keep c pre = k := ⟨_, rfl⟩
      have hlen2 : ks.length ≤ 2000 := by rw [← hks]; exact keep_len hf ((List.prefix_append _ _).trans hpx)
      have hlen : ks.length ≤ 1000000 := by omega
      rw [hks] at hksn Hown Hbk q2
      rcases nil_or_snoc ks with rfl | ⟨l0, y, rfl⟩
      · have hk2 : keep c (pre ++ [x]) = [] ++ [x] := by rw [hksn]; unfold keepStep; rw [if_pos ⟨by rw [hp4]; exact hr, .inl rfl⟩]
        have Hkk : Hid (keep c (pre ++ [x]) = keep c pre ++ [x]) := by show _ = _; rw [hk2, hks]
        have Hks := hide hks
        have Hk2 := hide hk2
        clear hr hksn hks hk2
        gi_wp2_with fail
        refine region_round_quiet (w0 := W) (by kernel_rfl) (by kernel_rfl) (by kernel_rfl) (fun ⟨_, _, h⟩ => h) (later_refl _) ?_; (repeat (first | go_big_quiet_step (((go_at_call 51; exact calls_ext (by simp) (Hrc.out _ (by simp))))) | quiet_step (((go_at_call 51; exact calls_ext (by simp) (Hrc.out _ (by simp))))))); refine wpQuiet_nil ?_; rintro w3 ⟨⟨_, hL3⟩, rfl⟩; (try dsimp only)
        gi_wp2_with fail
        have hk2 := Hk2.out
        clear q2 Hrc
        refine wpIn_mono (Q := fun e a' W' => e = .normal ∧ (∃ u25 u26 u27 u28 u29 u30 u31 u32 u33 u34 u35 u36 u37 u38 u39 u40 u41 u42 u43 u44 u45 u46 u47 u48 u49 u50 u51 u52 u53 u54 u55 u56 u57 u58 u59 u60 u61 u62 : Value, a' = { tmps := #[(.agg #[.int .i64 c.hour, .int .i64 c.grace, .slice A1 n1 k1, .slice A2 n2 k2, .slice A3 n3 k3]), .int .i64 0, .pointer (some ⟨w.heap.size, 0, none⟩), undef, .pointer none, .int .i64 0, .int .i64 0, .pointer (some ⟨bm + 1 + 1, 0, none⟩), .pointer (some ⟨g, 0, none⟩), undef, (.agg #[.int .i64 c.hour, .int .i64 c.grace, .slice A1 n1 k1, .slice A2 n2 k2, .slice A3 n3 k3]), .int .i64 0, .int .i64 0, .bool false, undef, .int .i64 0, .bool false, undef, (.agg #[.int .i64 c.hour, .int .i64 c.grace, .slice A1 n1 k1, .slice A2 n2 k2, .slice A3 n3 k3]), .map (some bm), .agg #[.int .i64 c.hour, .int .i64 c.grace, .slice A1 n1 k1, .slice A2 n2 k2, .slice A3 n3 k3, .slice none 0 0, .map (some bm)], .pointer (some ⟨bm + 1, 0, none⟩), (.agg #[.int .i64 c.hour, .int .i64 c.grace, .slice A1 n1 k1, .slice A2 n2 k2, .slice A3 n3 k3]), .func (.func 69) #[] #[.pointer (some ⟨bm + 1 + 1 + 1, 0, none⟩)], .agg #[.int .i64 e0, .int .i64 e1, .int .i64 e2, .int .i64 e3], u25, u26, u27, u28, u29, u30, u31, u32, u33, u34, u35, u36, u37, u38, u39, u40, u41, u42, u43, u44, u45, u46, u47, u48, u49, u50, u51, u52, u53, u54, u55, u56, u57, u58, u59, u60, u61, u62, undef, undef, undef, undef, undef, undef, undef, undef, undef, undef, undef, undef, undef, undef, undef, undef, undef, undef, undef, undef, undef, undef, undef, undef, undef, undef, undef], defers := [] }) ∧ TkF c A1 n1 k1 A2 n2 k2 A3 n3 k3 (bm + 4) (bm + 1) bm g w0 wE W pre x e0 e1 e2 e3 W') ?_ ?_
        · have hown3 := own_later2 Hown.out hL3
          have hbk3 := Hbk.out.later hL3
          have hLw3 : Later w0 w3.drew := later_drew (Later.trans hLW hL3)
          have hs3 := hL3.size
          have hS0 : w3.drew.cell? ⟨bm + 1 + 1, 0, none⟩ = some (.pointer (some ⟨bm + 1, 0, none⟩)) ∧ w3.drew.cell? ⟨g, 0, none⟩ = some (.int .i64 e0) ∧ w3.drew.cell? ⟨g, 1, none⟩ = some (.int .i64 e1) ∧ w3.drew.cell? ⟨g, 2, none⟩ = some (.int .i64 e2) ∧ w3.drew.cell? ⟨g, 3, none⟩ = some (.int .i64 e3) :=
            ⟨q1 w3 hL3 0, q3 w3 hL3 0, q3 w3 hL3 1, q3 w3 hL3 2, q3 w3 hL3 3⟩
          have hbg : g < w3.drew.heap.size := World.block_lt_of_cell? _ _ hS0.2.1
          have hS1 : ∀ X : World, (∀ b, b < w3.drew.heap.size → (b < bm + 9 ∨ b = g) → b ≠ bm + 1 → X.heap[b]? = w3.drew.heap[b]?) → X.cell? ⟨bm + 1 + 1, 0, none⟩ = some (.pointer (some ⟨bm + 1, 0, none⟩)) ∧ X.cell? ⟨g, 0, none⟩ = some (.int .i64 e0) ∧ X.cell? ⟨g, 1, none⟩ = some (.int .i64 e1) ∧ X.cell? ⟨g, 2, none⟩ = some (.int .i64 e2) ∧ X.cell? ⟨g, 3, none⟩ = some (.int .i64 e3) := fun X hX => by
            have k1 := hX (bm + 1 + 1) (by show bm + 1 + 1 < w3.heap.size; omega) (.inl (by omega)) (by omega)
            have k2 := hX g hbg (.inr rfl) (by omega)
            exact ⟨(World.cell?_of_block (a := ⟨bm + 1 + 1, 0, none⟩) k1).trans hS0.1, (World.cell?_of_block (a := ⟨g, 0, none⟩) k2).trans hS0.2.1, (World.cell?_of_block (a := ⟨g, 1, none⟩) k2).trans hS0.2.2.1, (World.cell?_of_block (a := ⟨g, 2, none⟩) k2).trans hS0.2.2.2.1, (World.cell?_of_block (a := ⟨g, 3, none⟩) k2).trans hS0.2.2.2.2⟩
          have hSa := hS1 (w3.drew.alloc (.cells #[.int .i64 e0, .int .i64 e1, .int .i64 e2, .int .i64 e3] 103)) (fun b hb _ _ => Below.heap_alloc _ _ b hb)
          have c5 : ∀ X, Later w3 X → X.cell? ⟨bm + 1, 5, none⟩ = some (.slice _ _ kt') := fun X hX => hbk3.cells_later X hX 5
          have hownS : w3.drew.ownsRow w0.heap.size 103 4 (.slice _ _ kt') _ (drysV _) := own_rebase (World.ownsRow.drew hown3) fun g e => by have := (hown3.lt g e).1; omega
          have hown9 : ∀ b, _ → bm + 4 + 5 ≤ b := fun b e => (hown3.lt b e).1
          have HS1 := hide hS1
          have Hbk3 := hide hbk3
          have Hown9 := hide hown9
          have HownS := hide hownS
          clear hown3 hS1 hbk3 hown9 hownS
          refine region_round (by kernel_rfl) (by kernel_rfl) (fun ⟨_, _, h⟩ => nomatch h.1) (wpAny_of_held (S := fun X => X.cell? ⟨bm + 1 + 1, 0, none⟩ = some (.pointer (some ⟨bm + 1, 0, none⟩)) ∧ X.cell? ⟨g, 0, none⟩ = some (.int .i64 e0) ∧ X.cell? ⟨g, 1, none⟩ = some (.int .i64 e1) ∧ X.cell? ⟨g, 2, none⟩ = some (.int .i64 e2) ∧ X.cell? ⟨g, 3, none⟩ = some (.int .i64 e3)) _ _ _ _ ?_)
          refine wpAnyH_take (i := 0) (v := ?_) rfl (by kernel_rfl) (by kernel_rfl) (by kernel_rfl) (by intro _ _ _ h; first | exact h | exact absurd h.1 (by simp)) (Or.inl ⟨by rfl, ?_⟩) hS0 ?_; rotate_left; (focus (intro X hSX; (try dsimp only at hSX); go_simp; (try with_reducible rfl))); (try simp only [Act.put, List.setIfInBounds_toArray, List.set_cons_zero, List.set_cons_succ])
          refine wpAnyH_take (i := 1) (v := ?_) rfl (by kernel_rfl) (by kernel_rfl) (by kernel_rfl) (by intro _ _ _ h; first | exact h | exact absurd h.1 (by simp)) (Or.inl ⟨by rfl, ?_⟩) hS0 ?_; rotate_left; (focus (intro X hSX; (try dsimp only at hSX); go_simp; (try with_reducible rfl))); (try simp only [Act.put, List.setIfInBounds_toArray, List.set_cons_zero, List.set_cons_succ])
          refine wpAnyH_take (i := 2) (v := ?_) rfl (by kernel_rfl) (by kernel_rfl) (by kernel_rfl) (by intro _ _ _ h; first | exact h | exact absurd h.1 (by simp)) (Or.inl ⟨by rfl, ?_⟩) hS0 ?_; rotate_left; (focus (intro X hSX; (try dsimp only at hSX); go_simp; (try with_reducible rfl))); (try simp only [Act.put, List.setIfInBounds_toArray, List.set_cons_zero, List.set_cons_succ])
          refine wpAnyH_take (i := 3) (v := ?_) rfl (by kernel_rfl) (by kernel_rfl) (by kernel_rfl) (by intro _ _ _ h; first | exact h | exact absurd h.1 (by simp)) (Or.inl ⟨by rfl, ?_⟩) hS0 ?_; rotate_left; (focus (intro X hSX; (try dsimp only at hSX); go_simp; (try with_reducible rfl))); (try simp only [Act.put, List.setIfInBounds_toArray, List.set_cons_zero, List.set_cons_succ])
          refine wpAnyH_take (i := 5) (v := ?_) rfl (by kernel_rfl) (by kernel_rfl) (by kernel_rfl) (by intro _ _ _ h; first | exact h | exact absurd h.1 (by simp)) (Or.inl ⟨by rfl, ?_⟩) hS0 ?_; rotate_left; (focus (intro X hSX; (try dsimp only at hSX); go_simp; (try with_reducible rfl))); (try simp only [Act.put, List.setIfInBounds_toArray, List.set_cons_zero, List.set_cons_succ])
          refine wpAnyH_ready (rs := [4, 6]) (by kernel_rfl) (by simp) ?_
          refine AllReadyH.cons rfl (fun K hK => ?_) (AllReadyH.cons rfl (fun K hK => ?_) AllReadyH.nil)
          · go_simp
            refine hK.out _ _ hS0 (fun _ => ?_)
            clear hK K; (try simp only [Act.put, List.setIfInBounds_toArray, List.set_cons_zero, List.set_cons_succ])
            refine wpAnyH_ready (rs := [6]) (by kernel_rfl) (by simp) ?_; refine AllReadyH.cons rfl (fun K hK => ?_) AllReadyH.nil
            go_simp
            refine hK.out _ _ hSa (fun _ => ?_)
            clear hK K; (try simp only [Act.put, List.setIfInBounds_toArray, List.set_cons_zero, List.set_cons_succ])
            refine wpAnyH_ready (rs := [7]) (by kernel_rfl) (by simp) ?_; refine AllReadyH.cons (o := { dst := some 60, op := .call { callee := .builtin .append, args := #[.tmp 57, .tmp 59], argTypes := #[113, 113] }, type := 113, pos := "ask.go:32", after := #[{ on := 4, ground := .data }, { on := 6, ground := .data }], guard := none }) rfl (fun K hK => ?_) AllReadyH.nil
            refine own_append_step (w0 := w0) (W := w3.drew) (te := 103) rfl _ _ 113 rfl 103 (.agg #[.int .i64 0, .int .i64 0, .int .i64 0, .int .i64 0]) 4 32 Try.underlying113 numbers_info rfl (by omega) (.slice _ _ kt') _ _ rfl hLw3 HownS.out [.int .i64 e0, .int .i64 e1, .int .i64 e2, .int .i64 e3] rfl rfl (by simp [Value.oneCell']) hlen (by omega) ?_
            intro v' w4 hap
            obtain ⟨A', c', hv', _⟩ := own_slice hap.own
            subst hv'
            have hne : ∀ b, (b < bm + 9 ∨ b = g) → (Value.slice _ _ kt').ownBlock ≠ some b := fun b hb e => by
              rcases hb with hb | rfl
              · have := Hown9.out b e; omega
              · exact Hgo.out _ _ e
            refine hK.out _ _ (HS1.out _ fun b hb h9 _ => hap.keep b hb (hne b h9)) (fun hS4 => ?_)
            clear hK K; (try simp only [Act.put, List.setIfInBounds_toArray, List.set_cons_zero, List.set_cons_succ])
            refine wpAnyH_take (i := 8) (v := ?_) rfl (by kernel_rfl) (by kernel_rfl) (by kernel_rfl) (by intro _ _ _ h; first | exact h | exact absurd h.1 (by simp)) (Or.inl ⟨by rfl, ?_⟩) hS4 ?_; rotate_left; (focus (intro X hSX; (try dsimp only at hSX); go_simp; (try with_reducible rfl))); (try simp only [Act.put, List.setIfInBounds_toArray, List.set_cons_zero, List.set_cons_succ])
            refine wpAnyH_take (i := 9) (v := ?_) rfl (by kernel_rfl) (by kernel_rfl) (by kernel_rfl) (by intro _ _ _ h; first | exact h | exact absurd h.1 (by simp)) (Or.inl ⟨by rfl, ?_⟩) hS4 ?_; rotate_left; (focus (intro X hSX; (try dsimp only at hSX); go_simp; (try with_reducible rfl))); (try simp only [Act.put, List.setIfInBounds_toArray, List.set_cons_zero, List.set_cons_succ])
            have hk4 : w4.heap[bm + 1]? = w3.heap[bm + 1]? := hap.keep (bm + 1) (by show bm + 1 < w3.heap.size; omega) (hne _ (.inl (by omega)))
            have hb4 := Blk.of_eq hk4 Hbk3.out
            have c54 := hb4.cell 5
            have f54 := hb4.frozen 5
            simp only [List.getElem?_toArray, List.getElem?_cons_zero, List.getElem?_cons_succ] at c54
            refine wpAnyH_ready (rs := [10]) (by kernel_rfl) (by simp) ?_; refine AllReadyH.cons rfl (fun K hK => ?_) AllReadyH.nil
            go_simp
            refine hK.out _ _ ?_ (fun _ => ?_)
            · exact HS1.out _ fun b hb h9 hn1 => (Below.heap_setCell w4 _ _ b hn1).trans (hap.keep b hb (hne b h9))
            · clear hK K
              refine wpAnyH_done (by kernel_rfl) ⟨rfl, ⟨_, _, _, _, _, _, _, _, _, _, _, _, _, _, _, _, _, _, _, _, _, _, _, _, _, _, _, _, _, _, _, _, _, _, _, _, _, _, rfl⟩, ask_app HI.out (by omega) (by omega) (by omega) hL3 hk2 hp4 (by omega) (by omega) Hbk.out Hown.out (Hgo.out _ _) (HBd.out.later hL3) hap⟩ _
          · go_simp
            refine hK.out _ _ hSa (fun _ => ?_)
            clear hK K; (try simp only [Act.put, List.setIfInBounds_toArray, List.set_cons_zero, List.set_cons_succ])
            refine wpAnyH_ready (rs := [4]) (by kernel_rfl) (by simp) ?_; refine AllReadyH.cons rfl (fun K hK => ?_) AllReadyH.nil
            go_simp
            refine hK.out _ _ hSa (fun _ => ?_)
            clear hK K; (try simp only [Act.put, List.setIfInBounds_toArray, List.set_cons_zero, List.set_cons_succ])
            refine wpAnyH_ready (rs := [7]) (by kernel_rfl) (by simp) ?_; refine AllReadyH.cons (o := { dst := some 60, op := .call { callee := .builtin .append, args := #[.tmp 57, .tmp 59], argTypes := #[113, 113] }, type := 113, pos := "ask.go:32", after := #[{ on := 4, ground := .data }, { on := 6, ground := .data }], guard := none }) rfl (fun K hK => ?_) AllReadyH.nil
            refine own_append_step (w0 := w0) (W := w3.drew) (te := 103) rfl _ _ 113 rfl 103 (.agg #[.int .i64 0, .int .i64 0, .int .i64 0, .int .i64 0]) 4 32 Try.underlying113 numbers_info rfl (by omega) (.slice _ _ kt') _ _ rfl hLw3 HownS.out [.int .i64 e0, .int .i64 e1, .int .i64 e2, .int .i64 e3] rfl rfl (by simp [Value.oneCell']) hlen (by omega) ?_
            intro v' w4 hap
            obtain ⟨A', c', hv', _⟩ := own_slice hap.own
            subst hv'
            have hne : ∀ b, (b < bm + 9 ∨ b = g) → (Value.slice _ _ kt').ownBlock ≠ some b := fun b hb e => by
              rcases hb with hb | rfl
              · have := Hown9.out b e; omega
              · exact Hgo.out _ _ e
            refine hK.out _ _ (HS1.out _ fun b hb h9 _ => hap.keep b hb (hne b h9)) (fun hS4 => ?_)
            clear hK K; (try simp only [Act.put, List.setIfInBounds_toArray, List.set_cons_zero, List.set_cons_succ])
            refine wpAnyH_take (i := 8) (v := ?_) rfl (by kernel_rfl) (by kernel_rfl) (by kernel_rfl) (by intro _ _ _ h; first | exact h | exact absurd h.1 (by simp)) (Or.inl ⟨by rfl, ?_⟩) hS4 ?_; rotate_left; (focus (intro X hSX; (try dsimp only at hSX); go_simp; (try with_reducible rfl))); (try simp only [Act.put, List.setIfInBounds_toArray, List.set_cons_zero, List.set_cons_succ])
            refine wpAnyH_take (i := 9) (v := ?_) rfl (by kernel_rfl) (by kernel_rfl) (by kernel_rfl) (by intro _ _ _ h; first | exact h | exact absurd h.1 (by simp)) (Or.inl ⟨by rfl, ?_⟩) hS4 ?_; rotate_left; (focus (intro X hSX; (try dsimp only at hSX); go_simp; (try with_reducible rfl))); (try simp only [Act.put, List.setIfInBounds_toArray, List.set_cons_zero, List.set_cons_succ])
            have hk4 : w4.heap[bm + 1]? = w3.heap[bm + 1]? := hap.keep (bm + 1) (by show bm + 1 < w3.heap.size; omega) (hne _ (.inl (by omega)))
            have hb4 := Blk.of_eq hk4 Hbk3.out
            have c54 := hb4.cell 5
            have f54 := hb4.frozen 5
            simp only [List.getElem?_toArray, List.getElem?_cons_zero, List.getElem?_cons_succ] at c54
            refine wpAnyH_ready (rs := [10]) (by kernel_rfl) (by simp) ?_; refine AllReadyH.cons rfl (fun K hK => ?_) AllReadyH.nil
            go_simp
            refine hK.out _ _ ?_ (fun _ => ?_)
            · exact HS1.out _ fun b hb h9 hn1 => (Below.heap_setCell w4 _ _ b hn1).trans (hap.keep b hb (hne b h9))
            · clear hK K
              refine wpAnyH_done (by kernel_rfl) ⟨rfl, ⟨_, _, _, _, _, _, _, _, _, _, _, _, _, _, _, _, _, _, _, _, _, _, _, _, _, _, _, _, _, _, _, _, _, _, _, _, _, _, rfl⟩, ask_app HI.out (by omega) (by omega) (by omega) hL3 hk2 hp4 (by omega) (by omega) Hbk.out Hown.out (Hgo.out _ _) (HBd.out.later hL3) hap⟩ _
        · rintro e a' W1 ⟨rfl, ⟨u25, u26, u27, u28, u29, u30, u31, u32, u33, u34, u35, u36, u37, u38, u39, u40, u41, u42, u43, u44, u45, u46, u47, u48, u49, u50, u51, u52, u53, u54, u55, u56, u57, u58, u59, u60, u61, u62, rfl⟩, hF⟩
          have hs1 := hF.size
          have kb1 := (hF.old _ (by omega) (by omega)).trans HkbW.out
          have kt1 := (hF.old _ (by omega) (by omega)).trans HktW.out
          obtain ⟨At1, kt2, hrow1, -⟩ := hF.row
          have hbk1 := hF.blk
          have hmany := hF.many
          have q0' := Blk.cells_later kb1
          have b0 := Blk.cell kb1 0
          have b2 := Blk.cell kb1 2
          simp only [List.getElem?_toArray, List.getElem?_cons_zero, List.getElem?_cons_succ] at b0 b2
          clear q0 q1 q3 hnil
          gi_wp2_with fail
          have hg9 := HI.out.size
          have hxe : ∀ j : Nat, j < 4 → ([Value.int .i64 e0, .int .i64 e1, .int .i64 e2, .int .i64 e3] : List Value)[j]? = some (.int .i64 (x.getD j 0)) := by
            intro j hj
            unfold pad4 at hp4
            simp only [List.cons.injEq, and_true] at hp4
            obtain ⟨rfl, rfl, rfl, rfl⟩ := hp4
            match j, hj with
            | 0, _ => rfl
            | 1, _ => rfl
            | 2, _ => rfl
            | 3, _ => rfl
          have Hxe := hide hxe
          have HF := hide hF
          have Hrow1 := hide hrow1
          have Hbk1 := hide hbk1
          have Hpl := hide hpl
          clear hxe hrow1 hbk1 hF kb1 kt1 q0' b0 b2
          gi_loopw [9, 66] (fun _ v wr => ∃ j : Nat, j ≤ n1 ∧ v = .int .i64 (j : Int) ∧ But bm W1 wr ∧ Many wr bm (4 * pre.length + j) (cntTo n1 (keep c pre) x j)) (fun _ v _ => n1 - (intOf v).toNat)
          case atStart => exact ⟨0, by omega, rfl, But.refl _ _, hmany.congr fun i v => (cntTo_zero n1 _ x i v).symm⟩
          case round =>
            obtain ⟨j, hj, rfl, hB, hM⟩ := hrel
            by_cases hlt : j < n1
            · have hi1 : (j : Int) < n1 := by omega
              have hj4 : j < 4 := by omega
              have hj4' : (j : Int) < 4 := by omega
              have hM0 := hM.later (later_drew (later_refl _))
              have hcl := cntTo_le n1 (keep c pre) x j j (x.getD j 0)
              have hkl := keep_len hf ((List.prefix_append _ _).trans hpx)
              have hwx : wfi (x.getD j 0) := by have := Hxr.out j; exact wfi_of (by omega)
              obtain ⟨st, w1', r1, r2, hB1, hsz1, hst⟩ := many_step hM0 hj4 hwx (by have := Hpl.out; omega) (by omega)
              have hlk := hM0.look hj4 hwx
              generalize hfv : cntTo n1 (keep c pre) x j j (x.getD j 0) = fv at *
              have hwf : IntKind.i64.wrap ((fv : Int) + 1) = (fv : Int) + 1 := IntWalk.i64_in _ (by omega)
              generalize hxv : x.getD j 0 = xv at *
              have c0 : wr.drew.cell? ⟨bm + 1 + 1, 0, none⟩ = some (.pointer (some ⟨bm + 1, 0, none⟩)) := (World.cell?_of_block (a := ⟨bm + 1 + 1, 0, none⟩) (hB.block _ (by show bm + 1 + 1 < _; omega) (by show bm + 1 + 1 ≠ bm; omega))).trans ((Blk.of_eq (HF.out.old _ (by omega) (by omega)) HktW.out).cell 0)
              have c1 : wr.drew.cell? ⟨bm + 1, 6, none⟩ = some (.map (some bm)) := (World.cell?_of_block (a := ⟨bm + 1, 6, none⟩) (hB.block _ (by have := Hrow1.out.lt; show bm + 1 < _; omega) (by show bm + 1 ≠ bm; omega))).trans (Hrow1.out.cell 6)
              have c2 : wr.drew.cell? ⟨g, j, none⟩ = some (.int .i64 xv) := by
                have h1 := (World.cell?_of_block (a := ⟨g, j, none⟩) (hB.block _ Hbk1.out.lt (by show g ≠ bm; omega))).trans (Hbk1.out.cell j)
                refine Eq.trans h1 ?_
                rw [List.getElem?_toArray, Hxe.out j hj4, hxv]
              clear hM0
              have hsz0 : wr.drew.heap.size = wr.heap.size := rfl
              have hS0 : wr.drew.cell? ⟨bm + 1 + 1, 0, none⟩ = some (.pointer (some ⟨bm + 1, 0, none⟩)) ∧ wr.drew.cell? ⟨bm + 1, 6, none⟩ = some (.map (some bm)) ∧ wr.drew.cell? ⟨g, j, none⟩ = some (.int .i64 xv) := ⟨c0, c1, c2⟩
              have hS1 : w1'.cell? ⟨bm + 1 + 1, 0, none⟩ = some (.pointer (some ⟨bm + 1, 0, none⟩)) ∧ w1'.cell? ⟨bm + 1, 6, none⟩ = some (.map (some bm)) ∧ w1'.cell? ⟨g, j, none⟩ = some (.int .i64 xv) :=
                ⟨(World.cell?_of_block (a := ⟨bm + 1 + 1, 0, none⟩) (hB1.block _ (by have := World.block_lt_of_cell? _ _ c0; exact this) (by show bm + 1 + 1 ≠ bm; omega))).trans c0, (World.cell?_of_block (a := ⟨bm + 1, 6, none⟩) (hB1.block _ (by have := World.block_lt_of_cell? _ _ c1; exact this) (by show bm + 1 ≠ bm; omega))).trans c1, (World.cell?_of_block (a := ⟨g, j, none⟩) (hB1.block _ (by have := World.block_lt_of_cell? _ _ c2; exact this) (by show g ≠ bm; omega))).trans c2⟩
              clear c0 c1 c2
              gi_wp2_with fail
              refine region_round (by kernel_rfl) (by kernel_rfl) (fun ⟨_, _, h⟩ => nomatch h) (wpAny_of_held (S := fun X => X.cell? ⟨bm + 1 + 1, 0, none⟩ = some (.pointer (some ⟨bm + 1, 0, none⟩)) ∧ X.cell? ⟨bm + 1, 6, none⟩ = some (.map (some bm)) ∧ X.cell? ⟨g, j, none⟩ = some (.int .i64 xv)) _ _ _ _ ?_)
              refine wpAnyH_take (i := 0) (v := ?_) rfl (by kernel_rfl) (by kernel_rfl) (by kernel_rfl) (by intro _ _ _ h; first | exact h | exact absurd h.1 (by simp)) (Or.inl ⟨by rfl, ?_⟩) hS0 ?_; rotate_left; (focus (intro X hSX; (try dsimp only at hSX); go_simp; (try with_reducible rfl))); (try simp only [Act.put, List.setIfInBounds_toArray, List.set_cons_zero, List.set_cons_succ])
              refine wpAnyH_take (i := 1) (v := ?_) rfl (by kernel_rfl) (by kernel_rfl) (by kernel_rfl) (by intro _ _ _ h; first | exact h | exact absurd h.1 (by simp)) (Or.inl ⟨by rfl, ?_⟩) hS0 ?_; rotate_left; (focus (intro X hSX; (try dsimp only at hSX); go_simp; (try with_reducible rfl))); (try simp only [Act.put, List.setIfInBounds_toArray, List.set_cons_zero, List.set_cons_succ])
              refine wpAnyH_take (i := 2) (v := ?_) rfl (by kernel_rfl) (by kernel_rfl) (by kernel_rfl) (by intro _ _ _ h; first | exact h | exact absurd h.1 (by simp)) (Or.inl ⟨by rfl, ?_⟩) hS0 ?_; rotate_left; (focus (intro X hSX; (try dsimp only at hSX); go_simp; (try with_reducible rfl))); (try simp only [Act.put, List.setIfInBounds_toArray, List.set_cons_zero, List.set_cons_succ])
              refine wpAnyH_take (i := 3) (v := ?_) rfl (by kernel_rfl) (by kernel_rfl) (by kernel_rfl) (by intro _ _ _ h; first | exact h | exact absurd h.1 (by simp)) (Or.inl ⟨by rfl, ?_⟩) hS0 ?_; rotate_left; (focus (intro X hSX; (try dsimp only at hSX); go_simp; (try with_reducible rfl))); (try simp only [Act.put, List.setIfInBounds_toArray, List.set_cons_zero, List.set_cons_succ])
              refine wpAnyH_take (i := 4) (v := ?_) rfl (by kernel_rfl) (by kernel_rfl) (by kernel_rfl) (by intro _ _ _ h; first | exact h | exact absurd h.1 (by simp)) (Or.inl ⟨by rfl, ?_⟩) hS0 ?_; rotate_left; (focus (intro X hSX; (try dsimp only at hSX); go_simp; (try with_reducible rfl))); (try simp only [Act.put, List.setIfInBounds_toArray, List.set_cons_zero, List.set_cons_succ])
              refine wpAnyH_take (i := 5) (v := ?_) rfl (by kernel_rfl) (by kernel_rfl) (by kernel_rfl) (by intro _ _ _ h; first | exact h | exact absurd h.1 (by simp)) (Or.inl ⟨by rfl, ?_⟩) hS0 ?_; rotate_left; (focus (intro X hSX; (try dsimp only at hSX); go_simp; (try with_reducible rfl))); (try simp only [Act.put, List.setIfInBounds_toArray, List.set_cons_zero, List.set_cons_succ])
              refine wpAnyH_take (i := 6) (v := ?_) rfl (by kernel_rfl) (by kernel_rfl) (by kernel_rfl) (by intro _ _ _ h; first | exact h | exact absurd h.1 (by simp)) (Or.inl ⟨by rfl, ?_⟩) hS0 ?_; rotate_left; (focus (intro X hSX; (try dsimp only at hSX); go_simp; (try with_reducible rfl))); (try simp only [Act.put, List.setIfInBounds_toArray, List.set_cons_zero, List.set_cons_succ])
              refine wpAnyH_take (i := 7) (v := ?_) rfl (by kernel_rfl) (by kernel_rfl) (by kernel_rfl) (by intro _ _ _ h; first | exact h | exact absurd h.1 (by simp)) (Or.inl ⟨by rfl, ?_⟩) hS0 ?_; rotate_left; (focus (intro X hSX; (try dsimp only at hSX); go_simp; (try with_reducible rfl))); (try simp only [Act.put, List.setIfInBounds_toArray, List.set_cons_zero, List.set_cons_succ])
              refine wpAnyH_take (i := 8) (v := ?_) rfl (by kernel_rfl) (by kernel_rfl) (by kernel_rfl) (by intro _ _ _ h; first | exact h | exact absurd h.1 (by simp)) (Or.inl ⟨by rfl, ?_⟩) hS0 ?_; rotate_left; (focus (intro X hSX; (try dsimp only at hSX); go_simp; (try with_reducible rfl))); (try simp only [Act.put, List.setIfInBounds_toArray, List.set_cons_zero, List.set_cons_succ])
              obtain ⟨w3', r3, hB3, hsz3, hM3, -⟩ := hst w1' rfl
              have hS3 : w3'.cell? ⟨bm + 1 + 1, 0, none⟩ = some (.pointer (some ⟨bm + 1, 0, none⟩)) ∧ w3'.cell? ⟨bm + 1, 6, none⟩ = some (.map (some bm)) ∧ w3'.cell? ⟨g, j, none⟩ = some (.int .i64 xv) :=
                ⟨(World.cell?_of_block (a := ⟨bm + 1 + 1, 0, none⟩) (hB3.block _ (World.block_lt_of_cell? _ _ hS1.1) (by show bm + 1 + 1 ≠ bm; omega))).trans hS1.1, (World.cell?_of_block (a := ⟨bm + 1, 6, none⟩) (hB3.block _ (World.block_lt_of_cell? _ _ hS1.2.1) (by show bm + 1 ≠ bm; omega))).trans hS1.2.1, (World.cell?_of_block (a := ⟨g, j, none⟩) (hB3.block _ (World.block_lt_of_cell? _ _ hS1.2.2) (by show g ≠ bm; omega))).trans hS1.2.2⟩
              have hB03 : But bm W1 w3' := (hB.trans (But.of_later (later_drew (later_refl _)))).trans (hB1.trans hB3)
              refine wpAnyH_ready (rs := [9, 11]) (by kernel_rfl) (by simp) ?_
              refine AllReadyH.cons rfl (fun K hK => ?_) (AllReadyH.cons rfl (fun K hK => ?_) AllReadyH.nil)
              · go_simp
                refine hK.out _ _ hS0 (fun _ => ?_)
                clear hK K; (try simp only [Act.put, List.setIfInBounds_toArray, List.set_cons_zero, List.set_cons_succ])
                refine wpAnyH_take (i := 10) (v := ?_) rfl (by kernel_rfl) (by kernel_rfl) (by kernel_rfl) (by intro _ _ _ h; first | exact h | exact absurd h.1 (by simp)) (Or.inl ⟨by rfl, ?_⟩) hS0 ?_; rotate_left; (focus (intro X hSX; (try dsimp only at hSX); go_simp; (try with_reducible rfl))); (try simp only [Act.put, List.setIfInBounds_toArray, List.set_cons_zero, List.set_cons_succ])
                refine wpAnyH_ready (rs := [11]) (by kernel_rfl) (by simp) ?_; refine AllReadyH.cons rfl (fun K hK => ?_) AllReadyH.nil
                go_simp
                refine hK.out _ _ hS1 (fun _ => ?_)
                clear hK K; (try simp only [Act.put, List.setIfInBounds_toArray, List.set_cons_zero, List.set_cons_succ])
                refine wpAnyH_take (i := 12) (v := ?_) rfl (by kernel_rfl) (by kernel_rfl) (by kernel_rfl) (by intro _ _ _ h; first | exact h | exact absurd h.1 (by simp)) (Or.inl ⟨by rfl, ?_⟩) hS1 ?_; rotate_left; (focus (intro X hSX; (try dsimp only at hSX); go_simp; (try with_reducible rfl))); (try simp only [Act.put, List.setIfInBounds_toArray, List.set_cons_zero, List.set_cons_succ])
                refine wpAnyH_ready (rs := [13]) (by kernel_rfl) (by simp) ?_; refine AllReadyH.cons rfl (fun K hK => ?_) AllReadyH.nil
                go_simp
                refine hK.out _ _ hS3 (fun _ => ?_)
                clear hK K; (try simp only [Act.put, List.setIfInBounds_toArray, List.set_cons_zero, List.set_cons_succ])
                clear hS0 hS1 r1 r2 r3
                refine wpAnyH_done (by kernel_rfl) ?_ _
                gi_wp2_with fail
                go_roundw
                case rel => exact ⟨j + 1, hlt, by go_num, hB03, hM3.congr fun i v => by rw [← hxv]; exact cntTo_succ hlt i v⟩
                case measure => simp [intOf]; omega
              · go_simp
                refine hK.out _ _ hS1 (fun _ => ?_)
                clear hK K; (try simp only [Act.put, List.setIfInBounds_toArray, List.set_cons_zero, List.set_cons_succ])
                refine wpAnyH_take (i := 12) (v := ?_) rfl (by kernel_rfl) (by kernel_rfl) (by kernel_rfl) (by intro _ _ _ h; first | exact h | exact absurd h.1 (by simp)) (Or.inl ⟨by rfl, ?_⟩) hS1 ?_; rotate_left; (focus (intro X hSX; (try dsimp only at hSX); go_simp; (try with_reducible rfl))); (try simp only [Act.put, List.setIfInBounds_toArray, List.set_cons_zero, List.set_cons_succ])
                refine wpAnyH_ready (rs := [9]) (by kernel_rfl) (by simp) ?_; refine AllReadyH.cons rfl (fun K hK => ?_) AllReadyH.nil
                go_simp
                refine hK.out _ _ hS1 (fun _ => ?_)
                clear hK K; (try simp only [Act.put, List.setIfInBounds_toArray, List.set_cons_zero, List.set_cons_succ])
                refine wpAnyH_take (i := 10) (v := ?_) rfl (by kernel_rfl) (by kernel_rfl) (by kernel_rfl) (by intro _ _ _ h; first | exact h | exact absurd h.1 (by simp)) (Or.inl ⟨by rfl, ?_⟩) hS1 ?_; rotate_left; (focus (intro X hSX; (try dsimp only at hSX); go_simp; (try with_reducible rfl))); (try simp only [Act.put, List.setIfInBounds_toArray, List.set_cons_zero, List.set_cons_succ])
                refine wpAnyH_ready (rs := [13]) (by kernel_rfl) (by simp) ?_; refine AllReadyH.cons rfl (fun K hK => ?_) AllReadyH.nil
                go_simp
                refine hK.out _ _ hS3 (fun _ => ?_)
                clear hK K; (try simp only [Act.put, List.setIfInBounds_toArray, List.set_cons_zero, List.set_cons_succ])
                clear hS0 hS1 r1 r2 r3
                refine wpAnyH_done (by kernel_rfl) ?_ _
                gi_wp2_with fail
                go_roundw
                case rel => exact ⟨j + 1, hlt, by go_num, hB03, hM3.congr fun i v => by rw [← hxv]; exact cntTo_succ hlt i v⟩
                case measure => simp [intOf]; omega
            · have hj1 : j = n1 := by omega
              subst hj1
              gi_wp2_with fail
              have hend := HF.out.end_ HI.out (by omega) (by omega) (by omega) hB hM (by omega) Hkk.out
              rw [hE]
              exact ⟨hend.1, hend.2.1, hend.2.2⟩
      · have hrd : RD W At (l0 ++ [y]).length (l0 ++ [y]) := Reads.of_own (c := kt') Hown.out
        obtain ⟨bt, ot, d, f0, f1, f2, f3, rfl, hbt, hd, hpd, r0, r1, r2, r3⟩ := RD.get hrd (k := l0.length) (by simp)
        have hdy : d = y := by
          rw [List.getElem?_append_right (Nat.le_refl _), Nat.sub_self] at hd
          simpa using hd.symm
        subst hdy
        have hlast : pad4 ((l0 ++ [d]).getLastD []) = [f0, f1, f2, f3] := by rw [List.getLastD_concat]; exact hpd.out
        have hm1 : l0.length ≤ 1000000 := by simp at hlen; omega
        have hwm : IntKind.i64.wrap (l0.length : Int) = l0.length := IntWalk.i64_in _ (by omega)
        have hll : (l0 ++ [d]).length = l0.length + 1 := by simp
        rw [hll] at q2
        have hz1 : (0 : Int) < (l0.length : Int) + 1 := by omega
        have hlt1 : (l0.length : Int) < (l0.length : Int) + 1 := by omega
        generalize hml : l0.length = m at *
        have Hml := hide hml
        have Hll := hide hll
        have Hks := hide hks
        clear hd hrd hml hll
        cases heq : (f0 == e0 && (f1 == e1 && (f2 == e2 && f3 == e3))) with
        | true =>
          have hk2 : keep c (pre ++ [x]) = keep c pre := by
            rw [hksn, hks]; unfold keepStep
            rw [if_neg]
            rintro ⟨_, h | h⟩
            · simp at h
            · rw [hlast, hp4] at h
              simp only [Bool.and_eq_true, beq_iff_eq] at heq
              obtain ⟨rfl, rfl, rfl, rfl⟩ := heq
              exact h rfl
          have hne := fun X => eql4 f0 f1 f2 f3 e0 e1 e2 e3 true heq X
          clear hr hksn heq hlast hks
          gi_wp2_with fail
          refine region_round_quiet (w0 := W) (by kernel_rfl) (by kernel_rfl) (by kernel_rfl) (fun ⟨_, _, h⟩ => h) (later_refl _) ?_; (repeat (first | go_big_quiet_step (((go_at_call 51; exact calls_ext (by simp) (Hrc.out _ (by simp))))) | quiet_step (((go_at_call 51; exact calls_ext (by simp) (Hrc.out _ (by simp))))))); refine wpQuiet_nil ?_; rintro w3 ⟨⟨_, hL3⟩, rfl⟩; (try dsimp only)
          gi_wp2_with fail
          exact ⟨⟨hL3.size, hL3.block _ (by rw [hE]; omega), hL3.block _ (by rw [hE]; omega)⟩, fun b hb => hL3.block b (by omega), (HI.out.later (by omega) (by omega) hL3).skip hk2 (by simp)⟩
        | false =>
          have hk2 : keep c (pre ++ [x]) = (l0 ++ [d]) ++ [x] := by
            rw [hksn]; unfold keepStep
            rw [if_pos]
            refine ⟨by rw [hp4]; exact hr, .inr fun h => ?_⟩
            rw [hlast, hp4] at h
            simp only [List.cons.injEq, and_true] at h
            obtain ⟨rfl, rfl, rfl, rfl⟩ := h
            simp at heq
          have Hkk : Hid (keep c (pre ++ [x]) = keep c pre ++ [x]) := by show _ = _; rw [hk2, hks]
          have hne0 := fun X => eql4 f0 f1 f2 f3 e0 e1 e2 e3 false heq X
          have Hk2 := hide hk2
          clear hr hksn heq hlast hks hk2
          gi_wp2_with fail
          refine region_round_quiet (w0 := W) (by kernel_rfl) (by kernel_rfl) (by kernel_rfl) (fun ⟨_, _, h⟩ => h) (later_refl _) ?_; (repeat (first | go_big_quiet_step (((go_at_call 51; exact calls_ext (by simp) (Hrc.out _ (by simp))))) | quiet_step (((go_at_call 51; exact calls_ext (by simp) (Hrc.out _ (by simp))))))); refine wpQuiet_nil ?_; rintro w3 ⟨⟨_, hL3⟩, rfl⟩; (try dsimp only)
          gi_wp2_with fail
          have hk2 := Hk2.out
          clear r0 r1 r2 r3 hne0
          generalize l0 ++ [d] = ks at *
          rw [← Hll.out]
          clear q2 Hrc
          refine wpIn_mono (Q := fun e a' W' => e = .normal ∧ (∃ u25 u26 u27 u28 u29 u30 u31 u32 u33 u34 u35 u36 u37 u38 u39 u40 u41 u42 u43 u44 u45 u46 u47 u48 u49 u50 u51 u52 u53 u54 u55 u56 u57 u58 u59 u60 u61 u62 : Value, a' = { tmps := #[(.agg #[.int .i64 c.hour, .int .i64 c.grace, .slice A1 n1 k1, .slice A2 n2 k2, .slice A3 n3 k3]), .int .i64 0, .pointer (some ⟨w.heap.size, 0, none⟩), undef, .pointer none, .int .i64 0, .int .i64 0, .pointer (some ⟨bm + 1 + 1, 0, none⟩), .pointer (some ⟨g, 0, none⟩), undef, (.agg #[.int .i64 c.hour, .int .i64 c.grace, .slice A1 n1 k1, .slice A2 n2 k2, .slice A3 n3 k3]), .int .i64 0, .int .i64 0, .bool false, undef, .int .i64 0, .bool false, undef, (.agg #[.int .i64 c.hour, .int .i64 c.grace, .slice A1 n1 k1, .slice A2 n2 k2, .slice A3 n3 k3]), .map (some bm), .agg #[.int .i64 c.hour, .int .i64 c.grace, .slice A1 n1 k1, .slice A2 n2 k2, .slice A3 n3 k3, .slice none 0 0, .map (some bm)], .pointer (some ⟨bm + 1, 0, none⟩), (.agg #[.int .i64 c.hour, .int .i64 c.grace, .slice A1 n1 k1, .slice A2 n2 k2, .slice A3 n3 k3]), .func (.func 69) #[] #[.pointer (some ⟨bm + 1 + 1 + 1, 0, none⟩)], .agg #[.int .i64 e0, .int .i64 e1, .int .i64 e2, .int .i64 e3], u25, u26, u27, u28, u29, u30, u31, u32, u33, u34, u35, u36, u37, u38, u39, u40, u41, u42, u43, u44, u45, u46, u47, u48, u49, u50, u51, u52, u53, u54, u55, u56, u57, u58, u59, u60, u61, u62, undef, undef, undef, undef, undef, undef, undef, undef, undef, undef, undef, undef, undef, undef, undef, undef, undef, undef, undef, undef, undef, undef, undef, undef, undef, undef, undef], defers := [] }) ∧ TkF c A1 n1 k1 A2 n2 k2 A3 n3 k3 (bm + 4) (bm + 1) bm g w0 wE W pre x e0 e1 e2 e3 W') ?_ ?_
          · have hown3 := own_later2 Hown.out hL3
            have hbk3 := Hbk.out.later hL3
            have hLw3 : Later w0 w3.drew := later_drew (Later.trans hLW hL3)
            have hs3 := hL3.size
            have hS0 : w3.drew.cell? ⟨bm + 1 + 1, 0, none⟩ = some (.pointer (some ⟨bm + 1, 0, none⟩)) ∧ w3.drew.cell? ⟨g, 0, none⟩ = some (.int .i64 e0) ∧ w3.drew.cell? ⟨g, 1, none⟩ = some (.int .i64 e1) ∧ w3.drew.cell? ⟨g, 2, none⟩ = some (.int .i64 e2) ∧ w3.drew.cell? ⟨g, 3, none⟩ = some (.int .i64 e3) :=
              ⟨q1 w3 hL3 0, q3 w3 hL3 0, q3 w3 hL3 1, q3 w3 hL3 2, q3 w3 hL3 3⟩
            have hbg : g < w3.drew.heap.size := World.block_lt_of_cell? _ _ hS0.2.1
            have hS1 : ∀ X : World, (∀ b, b < w3.drew.heap.size → (b < bm + 9 ∨ b = g) → b ≠ bm + 1 → X.heap[b]? = w3.drew.heap[b]?) → X.cell? ⟨bm + 1 + 1, 0, none⟩ = some (.pointer (some ⟨bm + 1, 0, none⟩)) ∧ X.cell? ⟨g, 0, none⟩ = some (.int .i64 e0) ∧ X.cell? ⟨g, 1, none⟩ = some (.int .i64 e1) ∧ X.cell? ⟨g, 2, none⟩ = some (.int .i64 e2) ∧ X.cell? ⟨g, 3, none⟩ = some (.int .i64 e3) := fun X hX => by
              have k1 := hX (bm + 1 + 1) (by show bm + 1 + 1 < w3.heap.size; omega) (.inl (by omega)) (by omega)
              have k2 := hX g hbg (.inr rfl) (by omega)
              exact ⟨(World.cell?_of_block (a := ⟨bm + 1 + 1, 0, none⟩) k1).trans hS0.1, (World.cell?_of_block (a := ⟨g, 0, none⟩) k2).trans hS0.2.1, (World.cell?_of_block (a := ⟨g, 1, none⟩) k2).trans hS0.2.2.1, (World.cell?_of_block (a := ⟨g, 2, none⟩) k2).trans hS0.2.2.2.1, (World.cell?_of_block (a := ⟨g, 3, none⟩) k2).trans hS0.2.2.2.2⟩
            have hSa := hS1 (w3.drew.alloc (.cells #[.int .i64 e0, .int .i64 e1, .int .i64 e2, .int .i64 e3] 103)) (fun b hb _ _ => Below.heap_alloc _ _ b hb)
            have c5 : ∀ X, Later w3 X → X.cell? ⟨bm + 1, 5, none⟩ = some (.slice _ _ kt') := fun X hX => hbk3.cells_later X hX 5
            have hownS : w3.drew.ownsRow w0.heap.size 103 4 (.slice _ _ kt') _ (drysV _) := own_rebase (World.ownsRow.drew hown3) fun g e => by have := (hown3.lt g e).1; omega
            have hown9 : ∀ b, _ → bm + 4 + 5 ≤ b := fun b e => (hown3.lt b e).1
            have HS1 := hide hS1
            have Hbk3 := hide hbk3
            have Hown9 := hide hown9
            have HownS := hide hownS
            clear hown3 hS1 hbk3 hown9 hownS
            refine region_round (by kernel_rfl) (by kernel_rfl) (fun ⟨_, _, h⟩ => nomatch h.1) (wpAny_of_held (S := fun X => X.cell? ⟨bm + 1 + 1, 0, none⟩ = some (.pointer (some ⟨bm + 1, 0, none⟩)) ∧ X.cell? ⟨g, 0, none⟩ = some (.int .i64 e0) ∧ X.cell? ⟨g, 1, none⟩ = some (.int .i64 e1) ∧ X.cell? ⟨g, 2, none⟩ = some (.int .i64 e2) ∧ X.cell? ⟨g, 3, none⟩ = some (.int .i64 e3)) _ _ _ _ ?_)
            refine wpAnyH_take (i := 0) (v := ?_) rfl (by kernel_rfl) (by kernel_rfl) (by kernel_rfl) (by intro _ _ _ h; first | exact h | exact absurd h.1 (by simp)) (Or.inl ⟨by rfl, ?_⟩) hS0 ?_; rotate_left; (focus (intro X hSX; (try dsimp only at hSX); go_simp; (try with_reducible rfl))); (try simp only [Act.put, List.setIfInBounds_toArray, List.set_cons_zero, List.set_cons_succ])
            refine wpAnyH_take (i := 1) (v := ?_) rfl (by kernel_rfl) (by kernel_rfl) (by kernel_rfl) (by intro _ _ _ h; first | exact h | exact absurd h.1 (by simp)) (Or.inl ⟨by rfl, ?_⟩) hS0 ?_; rotate_left; (focus (intro X hSX; (try dsimp only at hSX); go_simp; (try with_reducible rfl))); (try simp only [Act.put, List.setIfInBounds_toArray, List.set_cons_zero, List.set_cons_succ])
            refine wpAnyH_take (i := 2) (v := ?_) rfl (by kernel_rfl) (by kernel_rfl) (by kernel_rfl) (by intro _ _ _ h; first | exact h | exact absurd h.1 (by simp)) (Or.inl ⟨by rfl, ?_⟩) hS0 ?_; rotate_left; (focus (intro X hSX; (try dsimp only at hSX); go_simp; (try with_reducible rfl))); (try simp only [Act.put, List.setIfInBounds_toArray, List.set_cons_zero, List.set_cons_succ])
            refine wpAnyH_take (i := 3) (v := ?_) rfl (by kernel_rfl) (by kernel_rfl) (by kernel_rfl) (by intro _ _ _ h; first | exact h | exact absurd h.1 (by simp)) (Or.inl ⟨by rfl, ?_⟩) hS0 ?_; rotate_left; (focus (intro X hSX; (try dsimp only at hSX); go_simp; (try with_reducible rfl))); (try simp only [Act.put, List.setIfInBounds_toArray, List.set_cons_zero, List.set_cons_succ])
            refine wpAnyH_take (i := 5) (v := ?_) rfl (by kernel_rfl) (by kernel_rfl) (by kernel_rfl) (by intro _ _ _ h; first | exact h | exact absurd h.1 (by simp)) (Or.inl ⟨by rfl, ?_⟩) hS0 ?_; rotate_left; (focus (intro X hSX; (try dsimp only at hSX); go_simp; (try with_reducible rfl))); (try simp only [Act.put, List.setIfInBounds_toArray, List.set_cons_zero, List.set_cons_succ])
            refine wpAnyH_ready (rs := [4, 6]) (by kernel_rfl) (by simp) ?_
            refine AllReadyH.cons rfl (fun K hK => ?_) (AllReadyH.cons rfl (fun K hK => ?_) AllReadyH.nil)
            · go_simp
              refine hK.out _ _ hS0 (fun _ => ?_)
              clear hK K; (try simp only [Act.put, List.setIfInBounds_toArray, List.set_cons_zero, List.set_cons_succ])
              refine wpAnyH_ready (rs := [6]) (by kernel_rfl) (by simp) ?_; refine AllReadyH.cons rfl (fun K hK => ?_) AllReadyH.nil
              go_simp
              refine hK.out _ _ hSa (fun _ => ?_)
              clear hK K; (try simp only [Act.put, List.setIfInBounds_toArray, List.set_cons_zero, List.set_cons_succ])
              refine wpAnyH_ready (rs := [7]) (by kernel_rfl) (by simp) ?_; refine AllReadyH.cons (o := { dst := some 60, op := .call { callee := .builtin .append, args := #[.tmp 57, .tmp 59], argTypes := #[113, 113] }, type := 113, pos := "ask.go:32", after := #[{ on := 4, ground := .data }, { on := 6, ground := .data }], guard := none }) rfl (fun K hK => ?_) AllReadyH.nil
              refine own_append_step (w0 := w0) (W := w3.drew) (te := 103) rfl _ _ 113 rfl 103 (.agg #[.int .i64 0, .int .i64 0, .int .i64 0, .int .i64 0]) 4 32 Try.underlying113 numbers_info rfl (by omega) (.slice _ _ kt') _ _ rfl hLw3 HownS.out [.int .i64 e0, .int .i64 e1, .int .i64 e2, .int .i64 e3] rfl rfl (by simp [Value.oneCell']) hlen (by omega) ?_
              intro v' w4 hap
              obtain ⟨A', c', hv', _⟩ := own_slice hap.own
              subst hv'
              have hne : ∀ b, (b < bm + 9 ∨ b = g) → (Value.slice _ _ kt').ownBlock ≠ some b := fun b hb e => by
                rcases hb with hb | rfl
                · have := Hown9.out b e; omega
                · exact Hgo.out _ _ e
              refine hK.out _ _ (HS1.out _ fun b hb h9 _ => hap.keep b hb (hne b h9)) (fun hS4 => ?_)
              clear hK K; (try simp only [Act.put, List.setIfInBounds_toArray, List.set_cons_zero, List.set_cons_succ])
              refine wpAnyH_take (i := 8) (v := ?_) rfl (by kernel_rfl) (by kernel_rfl) (by kernel_rfl) (by intro _ _ _ h; first | exact h | exact absurd h.1 (by simp)) (Or.inl ⟨by rfl, ?_⟩) hS4 ?_; rotate_left; (focus (intro X hSX; (try dsimp only at hSX); go_simp; (try with_reducible rfl))); (try simp only [Act.put, List.setIfInBounds_toArray, List.set_cons_zero, List.set_cons_succ])
              refine wpAnyH_take (i := 9) (v := ?_) rfl (by kernel_rfl) (by kernel_rfl) (by kernel_rfl) (by intro _ _ _ h; first | exact h | exact absurd h.1 (by simp)) (Or.inl ⟨by rfl, ?_⟩) hS4 ?_; rotate_left; (focus (intro X hSX; (try dsimp only at hSX); go_simp; (try with_reducible rfl))); (try simp only [Act.put, List.setIfInBounds_toArray, List.set_cons_zero, List.set_cons_succ])
              have hk4 : w4.heap[bm + 1]? = w3.heap[bm + 1]? := hap.keep (bm + 1) (by show bm + 1 < w3.heap.size; omega) (hne _ (.inl (by omega)))
              have hb4 := Blk.of_eq hk4 Hbk3.out
              have c54 := hb4.cell 5
              have f54 := hb4.frozen 5
              simp only [List.getElem?_toArray, List.getElem?_cons_zero, List.getElem?_cons_succ] at c54
              refine wpAnyH_ready (rs := [10]) (by kernel_rfl) (by simp) ?_; refine AllReadyH.cons rfl (fun K hK => ?_) AllReadyH.nil
              go_simp
              refine hK.out _ _ ?_ (fun _ => ?_)
              · exact HS1.out _ fun b hb h9 hn1 => (Below.heap_setCell w4 _ _ b hn1).trans (hap.keep b hb (hne b h9))
              · clear hK K
                refine wpAnyH_done (by kernel_rfl) ⟨rfl, ⟨_, _, _, _, _, _, _, _, _, _, _, _, _, _, _, _, _, _, _, _, _, _, _, _, _, _, _, _, _, _, _, _, _, _, _, _, _, _, rfl⟩, ask_app HI.out (by omega) (by omega) (by omega) hL3 hk2 hp4 (by omega) (by omega) Hbk.out Hown.out (Hgo.out _ _) (HBd.out.later hL3) hap⟩ _
            · go_simp
              refine hK.out _ _ hSa (fun _ => ?_)
              clear hK K; (try simp only [Act.put, List.setIfInBounds_toArray, List.set_cons_zero, List.set_cons_succ])
              refine wpAnyH_ready (rs := [4]) (by kernel_rfl) (by simp) ?_; refine AllReadyH.cons rfl (fun K hK => ?_) AllReadyH.nil
              go_simp
              refine hK.out _ _ hSa (fun _ => ?_)
              clear hK K; (try simp only [Act.put, List.setIfInBounds_toArray, List.set_cons_zero, List.set_cons_succ])
              refine wpAnyH_ready (rs := [7]) (by kernel_rfl) (by simp) ?_; refine AllReadyH.cons (o := { dst := some 60, op := .call { callee := .builtin .append, args := #[.tmp 57, .tmp 59], argTypes := #[113, 113] }, type := 113, pos := "ask.go:32", after := #[{ on := 4, ground := .data }, { on := 6, ground := .data }], guard := none }) rfl (fun K hK => ?_) AllReadyH.nil
              refine own_append_step (w0 := w0) (W := w3.drew) (te := 103) rfl _ _ 113 rfl 103 (.agg #[.int .i64 0, .int .i64 0, .int .i64 0, .int .i64 0]) 4 32 Try.underlying113 numbers_info rfl (by omega) (.slice _ _ kt') _ _ rfl hLw3 HownS.out [.int .i64 e0, .int .i64 e1, .int .i64 e2, .int .i64 e3] rfl rfl (by simp [Value.oneCell']) hlen (by omega) ?_
              intro v' w4 hap
              obtain ⟨A', c', hv', _⟩ := own_slice hap.own
              subst hv'
              have hne : ∀ b, (b < bm + 9 ∨ b = g) → (Value.slice _ _ kt').ownBlock ≠ some b := fun b hb e => by
                rcases hb with hb | rfl
                · have := Hown9.out b e; omega
                · exact Hgo.out _ _ e
              refine hK.out _ _ (HS1.out _ fun b hb h9 _ => hap.keep b hb (hne b h9)) (fun hS4 => ?_)
              clear hK K; (try simp only [Act.put, List.setIfInBounds_toArray, List.set_cons_zero, List.set_cons_succ])
              refine wpAnyH_take (i := 8) (v := ?_) rfl (by kernel_rfl) (by kernel_rfl) (by kernel_rfl) (by intro _ _ _ h; first | exact h | exact absurd h.1 (by simp)) (Or.inl ⟨by rfl, ?_⟩) hS4 ?_; rotate_left; (focus (intro X hSX; (try dsimp only at hSX); go_simp; (try with_reducible rfl))); (try simp only [Act.put, List.setIfInBounds_toArray, List.set_cons_zero, List.set_cons_succ])
              refine wpAnyH_take (i := 9) (v := ?_) rfl (by kernel_rfl) (by kernel_rfl) (by kernel_rfl) (by intro _ _ _ h; first | exact h | exact absurd h.1 (by simp)) (Or.inl ⟨by rfl, ?_⟩) hS4 ?_; rotate_left; (focus (intro X hSX; (try dsimp only at hSX); go_simp; (try with_reducible rfl))); (try simp only [Act.put, List.setIfInBounds_toArray, List.set_cons_zero, List.set_cons_succ])
              have hk4 : w4.heap[bm + 1]? = w3.heap[bm + 1]? := hap.keep (bm + 1) (by show bm + 1 < w3.heap.size; omega) (hne _ (.inl (by omega)))
              have hb4 := Blk.of_eq hk4 Hbk3.out
              have c54 := hb4.cell 5
              have f54 := hb4.frozen 5
              simp only [List.getElem?_toArray, List.getElem?_cons_zero, List.getElem?_cons_succ] at c54
              refine wpAnyH_ready (rs := [10]) (by kernel_rfl) (by simp) ?_; refine AllReadyH.cons rfl (fun K hK => ?_) AllReadyH.nil
              go_simp
              refine hK.out _ _ ?_ (fun _ => ?_)
              · exact HS1.out _ fun b hb h9 hn1 => (Below.heap_setCell w4 _ _ b hn1).trans (hap.keep b hb (hne b h9))
              · clear hK K
                refine wpAnyH_done (by kernel_rfl) ⟨rfl, ⟨_, _, _, _, _, _, _, _, _, _, _, _, _, _, _, _, _, _, _, _, _, _, _, _, _, _, _, _, _, _, _, _, _, _, _, _, _, _, rfl⟩, ask_app HI.out (by omega) (by omega) (by omega) hL3 hk2 hp4 (by omega) (by omega) Hbk.out Hown.out (Hgo.out _ _) (HBd.out.later hL3) hap⟩ _
          · rintro e a' W1 ⟨rfl, ⟨u25, u26, u27, u28, u29, u30, u31, u32, u33, u34, u35, u36, u37, u38, u39, u40, u41, u42, u43, u44, u45, u46, u47, u48, u49, u50, u51, u52, u53, u54, u55, u56, u57, u58, u59, u60, u61, u62, rfl⟩, hF⟩
            have hs1 := hF.size
            have kb1 := (hF.old _ (by omega) (by omega)).trans HkbW.out
            have kt1 := (hF.old _ (by omega) (by omega)).trans HktW.out
            obtain ⟨At1, kt2, hrow1, -⟩ := hF.row
            have hbk1 := hF.blk
            have hmany := hF.many
            have q0' := Blk.cells_later kb1
            have b0 := Blk.cell kb1 0
            have b2 := Blk.cell kb1 2
            simp only [List.getElem?_toArray, List.getElem?_cons_zero, List.getElem?_cons_succ] at b0 b2
            clear q0 q1 q3 hnil
            gi_wp2_with fail
            have hg9 := HI.out.size
            have hxe : ∀ j : Nat, j < 4 → ([Value.int .i64 e0, .int .i64 e1, .int .i64 e2, .int .i64 e3] : List Value)[j]? = some (.int .i64 (x.getD j 0)) := by
              intro j hj
              unfold pad4 at hp4
              simp only [List.cons.injEq, and_true] at hp4
              obtain ⟨rfl, rfl, rfl, rfl⟩ := hp4
              match j, hj with
              | 0, _ => rfl
              | 1, _ => rfl
              | 2, _ => rfl
              | 3, _ => rfl
            have Hxe := hide hxe
            have HF := hide hF
            have Hrow1 := hide hrow1
            have Hbk1 := hide hbk1
            have Hpl := hide hpl
            clear hxe hrow1 hbk1 hF kb1 kt1 q0' b0 b2
            gi_loopw [9, 66] (fun _ v wr => ∃ j : Nat, j ≤ n1 ∧ v = .int .i64 (j : Int) ∧ But bm W1 wr ∧ Many wr bm (4 * pre.length + j) (cntTo n1 (keep c pre) x j)) (fun _ v _ => n1 - (intOf v).toNat)
            case atStart => exact ⟨0, by omega, rfl, But.refl _ _, hmany.congr fun i v => (cntTo_zero n1 _ x i v).symm⟩
            case round =>
              obtain ⟨j, hj, rfl, hB, hM⟩ := hrel
              by_cases hlt : j < n1
              · have hi1 : (j : Int) < n1 := by omega
                have hj4 : j < 4 := by omega
                have hj4' : (j : Int) < 4 := by omega
                have hM0 := hM.later (later_drew (later_refl _))
                have hcl := cntTo_le n1 (keep c pre) x j j (x.getD j 0)
                have hkl := keep_len hf ((List.prefix_append _ _).trans hpx)
                have hwx : wfi (x.getD j 0) := by have := Hxr.out j; exact wfi_of (by omega)
                obtain ⟨st, w1', r1, r2, hB1, hsz1, hst⟩ := many_step hM0 hj4 hwx (by have := Hpl.out; omega) (by omega)
                have hlk := hM0.look hj4 hwx
                generalize hfv : cntTo n1 (keep c pre) x j j (x.getD j 0) = fv at *
                have hwf : IntKind.i64.wrap ((fv : Int) + 1) = (fv : Int) + 1 := IntWalk.i64_in _ (by omega)
                generalize hxv : x.getD j 0 = xv at *
                have c0 : wr.drew.cell? ⟨bm + 1 + 1, 0, none⟩ = some (.pointer (some ⟨bm + 1, 0, none⟩)) := (World.cell?_of_block (a := ⟨bm + 1 + 1, 0, none⟩) (hB.block _ (by show bm + 1 + 1 < _; omega) (by show bm + 1 + 1 ≠ bm; omega))).trans ((Blk.of_eq (HF.out.old _ (by omega) (by omega)) HktW.out).cell 0)
                have c1 : wr.drew.cell? ⟨bm + 1, 6, none⟩ = some (.map (some bm)) := (World.cell?_of_block (a := ⟨bm + 1, 6, none⟩) (hB.block _ (by have := Hrow1.out.lt; show bm + 1 < _; omega) (by show bm + 1 ≠ bm; omega))).trans (Hrow1.out.cell 6)
                have c2 : wr.drew.cell? ⟨g, j, none⟩ = some (.int .i64 xv) := by
                  have h1 := (World.cell?_of_block (a := ⟨g, j, none⟩) (hB.block _ Hbk1.out.lt (by show g ≠ bm; omega))).trans (Hbk1.out.cell j)
                  refine Eq.trans h1 ?_
                  rw [List.getElem?_toArray, Hxe.out j hj4, hxv]
                clear hM0
                have hsz0 : wr.drew.heap.size = wr.heap.size := rfl
                have hS0 : wr.drew.cell? ⟨bm + 1 + 1, 0, none⟩ = some (.pointer (some ⟨bm + 1, 0, none⟩)) ∧ wr.drew.cell? ⟨bm + 1, 6, none⟩ = some (.map (some bm)) ∧ wr.drew.cell? ⟨g, j, none⟩ = some (.int .i64 xv) := ⟨c0, c1, c2⟩
                have hS1 : w1'.cell? ⟨bm + 1 + 1, 0, none⟩ = some (.pointer (some ⟨bm + 1, 0, none⟩)) ∧ w1'.cell? ⟨bm + 1, 6, none⟩ = some (.map (some bm)) ∧ w1'.cell? ⟨g, j, none⟩ = some (.int .i64 xv) :=
                  ⟨(World.cell?_of_block (a := ⟨bm + 1 + 1, 0, none⟩) (hB1.block _ (by have := World.block_lt_of_cell? _ _ c0; exact this) (by show bm + 1 + 1 ≠ bm; omega))).trans c0, (World.cell?_of_block (a := ⟨bm + 1, 6, none⟩) (hB1.block _ (by have := World.block_lt_of_cell? _ _ c1; exact this) (by show bm + 1 ≠ bm; omega))).trans c1, (World.cell?_of_block (a := ⟨g, j, none⟩) (hB1.block _ (by have := World.block_lt_of_cell? _ _ c2; exact this) (by show g ≠ bm; omega))).trans c2⟩
                clear c0 c1 c2
                gi_wp2_with fail
                refine region_round (by kernel_rfl) (by kernel_rfl) (fun ⟨_, _, h⟩ => nomatch h) (wpAny_of_held (S := fun X => X.cell? ⟨bm + 1 + 1, 0, none⟩ = some (.pointer (some ⟨bm + 1, 0, none⟩)) ∧ X.cell? ⟨bm + 1, 6, none⟩ = some (.map (some bm)) ∧ X.cell? ⟨g, j, none⟩ = some (.int .i64 xv)) _ _ _ _ ?_)
                refine wpAnyH_take (i := 0) (v := ?_) rfl (by kernel_rfl) (by kernel_rfl) (by kernel_rfl) (by intro _ _ _ h; first | exact h | exact absurd h.1 (by simp)) (Or.inl ⟨by rfl, ?_⟩) hS0 ?_; rotate_left; (focus (intro X hSX; (try dsimp only at hSX); go_simp; (try with_reducible rfl))); (try simp only [Act.put, List.setIfInBounds_toArray, List.set_cons_zero, List.set_cons_succ])
                refine wpAnyH_take (i := 1) (v := ?_) rfl (by kernel_rfl) (by kernel_rfl) (by kernel_rfl) (by intro _ _ _ h; first | exact h | exact absurd h.1 (by simp)) (Or.inl ⟨by rfl, ?_⟩) hS0 ?_; rotate_left; (focus (intro X hSX; (try dsimp only at hSX); go_simp; (try with_reducible rfl))); (try simp only [Act.put, List.setIfInBounds_toArray, List.set_cons_zero, List.set_cons_succ])
                refine wpAnyH_take (i := 2) (v := ?_) rfl (by kernel_rfl) (by kernel_rfl) (by kernel_rfl) (by intro _ _ _ h; first | exact h | exact absurd h.1 (by simp)) (Or.inl ⟨by rfl, ?_⟩) hS0 ?_; rotate_left; (focus (intro X hSX; (try dsimp only at hSX); go_simp; (try with_reducible rfl))); (try simp only [Act.put, List.setIfInBounds_toArray, List.set_cons_zero, List.set_cons_succ])
                refine wpAnyH_take (i := 3) (v := ?_) rfl (by kernel_rfl) (by kernel_rfl) (by kernel_rfl) (by intro _ _ _ h; first | exact h | exact absurd h.1 (by simp)) (Or.inl ⟨by rfl, ?_⟩) hS0 ?_; rotate_left; (focus (intro X hSX; (try dsimp only at hSX); go_simp; (try with_reducible rfl))); (try simp only [Act.put, List.setIfInBounds_toArray, List.set_cons_zero, List.set_cons_succ])
                refine wpAnyH_take (i := 4) (v := ?_) rfl (by kernel_rfl) (by kernel_rfl) (by kernel_rfl) (by intro _ _ _ h; first | exact h | exact absurd h.1 (by simp)) (Or.inl ⟨by rfl, ?_⟩) hS0 ?_; rotate_left; (focus (intro X hSX; (try dsimp only at hSX); go_simp; (try with_reducible rfl))); (try simp only [Act.put, List.setIfInBounds_toArray, List.set_cons_zero, List.set_cons_succ])
                refine wpAnyH_take (i := 5) (v := ?_) rfl (by kernel_rfl) (by kernel_rfl) (by kernel_rfl) (by intro _ _ _ h; first | exact h | exact absurd h.1 (by simp)) (Or.inl ⟨by rfl, ?_⟩) hS0 ?_; rotate_left; (focus (intro X hSX; (try dsimp only at hSX); go_simp; (try with_reducible rfl))); (try simp only [Act.put, List.setIfInBounds_toArray, List.set_cons_zero, List.set_cons_succ])
                refine wpAnyH_take (i := 6) (v := ?_) rfl (by kernel_rfl) (by kernel_rfl) (by kernel_rfl) (by intro _ _ _ h; first | exact h | exact absurd h.1 (by simp)) (Or.inl ⟨by rfl, ?_⟩) hS0 ?_; rotate_left; (focus (intro X hSX; (try dsimp only at hSX); go_simp; (try with_reducible rfl))); (try simp only [Act.put, List.setIfInBounds_toArray, List.set_cons_zero, List.set_cons_succ])
                refine wpAnyH_take (i := 7) (v := ?_) rfl (by kernel_rfl) (by kernel_rfl) (by kernel_rfl) (by intro _ _ _ h; first | exact h | exact absurd h.1 (by simp)) (Or.inl ⟨by rfl, ?_⟩) hS0 ?_; rotate_left; (focus (intro X hSX; (try dsimp only at hSX); go_simp; (try with_reducible rfl))); (try simp only [Act.put, List.setIfInBounds_toArray, List.set_cons_zero, List.set_cons_succ])
                refine wpAnyH_take (i := 8) (v := ?_) rfl (by kernel_rfl) (by kernel_rfl) (by kernel_rfl) (by intro _ _ _ h; first | exact h | exact absurd h.1 (by simp)) (Or.inl ⟨by rfl, ?_⟩) hS0 ?_; rotate_left; (focus (intro X hSX; (try dsimp only at hSX); go_simp; (try with_reducible rfl))); (try simp only [Act.put, List.setIfInBounds_toArray, List.set_cons_zero, List.set_cons_succ])
                obtain ⟨w3', r3, hB3, hsz3, hM3, -⟩ := hst w1' rfl
                have hS3 : w3'.cell? ⟨bm + 1 + 1, 0, none⟩ = some (.pointer (some ⟨bm + 1, 0, none⟩)) ∧ w3'.cell? ⟨bm + 1, 6, none⟩ = some (.map (some bm)) ∧ w3'.cell? ⟨g, j, none⟩ = some (.int .i64 xv) :=
                  ⟨(World.cell?_of_block (a := ⟨bm + 1 + 1, 0, none⟩) (hB3.block _ (World.block_lt_of_cell? _ _ hS1.1) (by show bm + 1 + 1 ≠ bm; omega))).trans hS1.1, (World.cell?_of_block (a := ⟨bm + 1, 6, none⟩) (hB3.block _ (World.block_lt_of_cell? _ _ hS1.2.1) (by show bm + 1 ≠ bm; omega))).trans hS1.2.1, (World.cell?_of_block (a := ⟨g, j, none⟩) (hB3.block _ (World.block_lt_of_cell? _ _ hS1.2.2) (by show g ≠ bm; omega))).trans hS1.2.2⟩
                have hB03 : But bm W1 w3' := (hB.trans (But.of_later (later_drew (later_refl _)))).trans (hB1.trans hB3)
                refine wpAnyH_ready (rs := [9, 11]) (by kernel_rfl) (by simp) ?_
                refine AllReadyH.cons rfl (fun K hK => ?_) (AllReadyH.cons rfl (fun K hK => ?_) AllReadyH.nil)
                · go_simp
                  refine hK.out _ _ hS0 (fun _ => ?_)
                  clear hK K; (try simp only [Act.put, List.setIfInBounds_toArray, List.set_cons_zero, List.set_cons_succ])
                  refine wpAnyH_take (i := 10) (v := ?_) rfl (by kernel_rfl) (by kernel_rfl) (by kernel_rfl) (by intro _ _ _ h; first | exact h | exact absurd h.1 (by simp)) (Or.inl ⟨by rfl, ?_⟩) hS0 ?_; rotate_left; (focus (intro X hSX; (try dsimp only at hSX); go_simp; (try with_reducible rfl))); (try simp only [Act.put, List.setIfInBounds_toArray, List.set_cons_zero, List.set_cons_succ])
                  refine wpAnyH_ready (rs := [11]) (by kernel_rfl) (by simp) ?_; refine AllReadyH.cons rfl (fun K hK => ?_) AllReadyH.nil
                  go_simp
                  refine hK.out _ _ hS1 (fun _ => ?_)
                  clear hK K; (try simp only [Act.put, List.setIfInBounds_toArray, List.set_cons_zero, List.set_cons_succ])
                  refine wpAnyH_take (i := 12) (v := ?_) rfl (by kernel_rfl) (by kernel_rfl) (by kernel_rfl) (by intro _ _ _ h; first | exact h | exact absurd h.1 (by simp)) (Or.inl ⟨by rfl, ?_⟩) hS1 ?_; rotate_left; (focus (intro X hSX; (try dsimp only at hSX); go_simp; (try with_reducible rfl))); (try simp only [Act.put, List.setIfInBounds_toArray, List.set_cons_zero, List.set_cons_succ])
                  refine wpAnyH_ready (rs := [13]) (by kernel_rfl) (by simp) ?_; refine AllReadyH.cons rfl (fun K hK => ?_) AllReadyH.nil
                  go_simp
                  refine hK.out _ _ hS3 (fun _ => ?_)
                  clear hK K; (try simp only [Act.put, List.setIfInBounds_toArray, List.set_cons_zero, List.set_cons_succ])
                  clear hS0 hS1 r1 r2 r3
                  refine wpAnyH_done (by kernel_rfl) ?_ _
                  gi_wp2_with fail
                  go_roundw
                  case rel => exact ⟨j + 1, hlt, by go_num, hB03, hM3.congr fun i v => by rw [← hxv]; exact cntTo_succ hlt i v⟩
                  case measure => simp [intOf]; omega
                · go_simp
                  refine hK.out _ _ hS1 (fun _ => ?_)
                  clear hK K; (try simp only [Act.put, List.setIfInBounds_toArray, List.set_cons_zero, List.set_cons_succ])
                  refine wpAnyH_take (i := 12) (v := ?_) rfl (by kernel_rfl) (by kernel_rfl) (by kernel_rfl) (by intro _ _ _ h; first | exact h | exact absurd h.1 (by simp)) (Or.inl ⟨by rfl, ?_⟩) hS1 ?_; rotate_left; (focus (intro X hSX; (try dsimp only at hSX); go_simp; (try with_reducible rfl))); (try simp only [Act.put, List.setIfInBounds_toArray, List.set_cons_zero, List.set_cons_succ])
                  refine wpAnyH_ready (rs := [9]) (by kernel_rfl) (by simp) ?_; refine AllReadyH.cons rfl (fun K hK => ?_) AllReadyH.nil
                  go_simp
                  refine hK.out _ _ hS1 (fun _ => ?_)
                  clear hK K; (try simp only [Act.put, List.setIfInBounds_toArray, List.set_cons_zero, List.set_cons_succ])
                  refine wpAnyH_take (i := 10) (v := ?_) rfl (by kernel_rfl) (by kernel_rfl) (by kernel_rfl) (by intro _ _ _ h; first | exact h | exact absurd h.1 (by simp)) (Or.inl ⟨by rfl, ?_⟩) hS1 ?_; rotate_left; (focus (intro X hSX; (try dsimp only at hSX); go_simp; (try with_reducible rfl))); (try simp only [Act.put, List.setIfInBounds_toArray, List.set_cons_zero, List.set_cons_succ])
                  refine wpAnyH_ready (rs := [13]) (by kernel_rfl) (by simp) ?_; refine AllReadyH.cons rfl (fun K hK => ?_) AllReadyH.nil
                  go_simp
                  refine hK.out _ _ hS3 (fun _ => ?_)
                  clear hK K; (try simp only [Act.put, List.setIfInBounds_toArray, List.set_cons_zero, List.set_cons_succ])
                  clear hS0 hS1 r1 r2 r3
                  refine wpAnyH_done (by kernel_rfl) ?_ _
                  gi_wp2_with fail
                  go_roundw
                  case rel => exact ⟨j + 1, hlt, by go_num, hB03, hM3.congr fun i v => by rw [← hxv]; exact cntTo_succ hlt i v⟩
                  case measure => simp [intOf]; omega
              · have hj1 : j = n1 := by omega
                subst hj1
                gi_wp2_with fail
                have hend := HF.out.end_ HI.out (by omega) (by omega) (by omega) hB hM (by omega) Hkk.out
                rw [hE]
                exact ⟨hend.1, hend.2.1, hend.2.2⟩
  case done =>
    intro W hI hK
    rw [hE] at hK ⊢
    obtain ⟨At, kt', hbk, hown⟩ := hI.row
    have ktW : Blk W (bm + 1 + 1) 91 #[.pointer (some ⟨bm + 1, 0, none⟩)] := (hI.old _ (by omega) (by omega) (by omega)).trans kt
    have t0 := ktW.cell 0
    have d5 := hbk.cell 5
    simp only [List.getElem?_toArray, List.getElem?_cons_zero, List.getElem?_cons_succ] at t0 d5
    have hmny := hI.many
    have hkeep : keep c (errAll c.clocks) = truthsP c := rfl
    rw [hkeep] at hown hbk d5 hmny
    have Hmany := hide hmny
    clear hmny
    obtain ⟨nt, hnt⟩ : ∃ n, (truthsP c).length = n := ⟨_, rfl⟩
    rw [hnt] at hown hbk d5
    have Hnt := hide hnt
    have Hbk := hide hbk
    clear hbk hnt hkeep
    have hLput : Later w (W.putObj (bm + 4) (.deferred none)) := Later.trans hL0 (later_put (hI.base hL0E (by omega) (by omega) (by omega)) (by omega) _)
    cases hz : ((nt : Int) == 0) with
    | true =>
      gi_wp2_with fail
      refine ⟨by simp, .inl ⟨_, _, rfl, run_takeDeferred hK, ?_⟩⟩
      refine ⟨.tuple #[.pointer none, .int .i64 11], by simp [results, Try.results32, go_sem], .inl ⟨?_, rfl, hLput⟩⟩
      exact List.eq_nil_of_length_eq_zero (by have h0 : (nt : Int) = 0 := (by simpa using hz); have := Hnt.out; omega)
    | false =>
      gi_wp2_with fail
      refine ⟨by simp, .inl ⟨_, _, rfl, run_takeDeferred hK, ?_⟩⟩
      refine ⟨.tuple #[.pointer (some ⟨bm + 1, 0, none⟩), .int .i64 0], by simp [results, Try.results32, go_sem], .inr ⟨?_, bm + 1, bm, At, kt', rfl, hLput, ⟨?_, ?_, ?_, ?_, ?_⟩⟩⟩
      · intro h0
        rw [h0] at Hnt
        have := Hnt.out
        simp only [List.length_nil] at this
        subst this
        cases hz
      · intro i
        rw [Hnt.out]
        exact (World.cell?_of_block (a := ⟨bm + 1, i, none⟩) (heap_put W (bm + 4) _ (bm + 1) (by omega))).trans (Hbk.out.cell i)
      · have := hI.size
        simp; omega
      · exact hc.later hLput
      · rw [Hnt.out]
        have := own_block (W' := W.putObj (bm + 4) (.deferred none)) hown fun g hg => heap_put W _ _ g (by have := (hown.lt g hg).1; omega)
        exact Reads.of_own (c := kt') this
      · exact ⟨_, (Hmany.out).of_eq (heap_put W (bm + 4) _ bm (by omega))⟩
  case stop => exact fun _ _ _ _ h _ => h.elim
  · intro W hL hs
    rw [hE] at hs
    refine lists_iter (n2 := n2) (k2 := k2) (n3 := n3) (k3 := k3) (A2 := A2) (A3 := A3) (k1 := k1) ok (hcE.ck.later hL) (kc.later hL) (fun b hb => by omega) (by omega) (fun hn b o e => ?_) (by omega) (by omega) (by omega)
    obtain ⟨b', o', e3, hb', _⟩ := Reads.lit hc.ck (by omega) hn
    rw [e] at e3; obtain ⟨rfl, _⟩ := some_lit e3; omega
  · exact fun W o b hb => heap_put W _ o b (by rw [hE]; exact hb.2.2.2)
  · rw [hE]; exact AskI.stands (by omega) (by omega)
  · intro s A o h _; rw [hE]; exact h.put (by omega) (by omega) o
  · intro A hL hs
    rw [hE] at hs
    refine ⟨hs, (hL.os).trans hL0E.os, (hL.tape).trans hL0E.tape, (hL.output).trans hL0E.output, fun b hb _ _ => hL.block b (by omega), ⟨none, 0, kw.later hL, World.ownsRow_nil _ _ _ _⟩, ?_⟩
    exact (Many.made ((hL.block bm (by omega)).trans km)).congr fun i v => by unfold cntF; split <;> rfl
  · rintro pre x a' A o ⟨g, e0, e1, e2, e3, rfl, hpad, hg, hgo, hBd, hI⟩ _
    rw [hE]
    exact ⟨g, e0, e1, e2, e3, rfl, hpad, hg, fun v hv => hgo v ((World.cell?_of_block (a := ⟨bm + 1, 5, none⟩) (heap_put A (bm + 4 + 1) o (bm + 1) (by omega))).symm.trans hv), (heap_put A _ o g (by omega)).trans hBd, hI.put (by omega) (by omega) o⟩
end Go.Proofs.Ytcffgjhmpgdfpaa

/- The program's off, hours, from: walks. -/
namespace Go.Proofs.Ytcffgjhmpgdfpaa
open Go Go.RowKit

theorem hoursR_ofP (c : Hou) (d : List Int) (t : Int) : hoursR c d t = match ofP c t with
    | x :: y :: _ => hoursOf c.hour (minuteC d y - minuteC d x - c.grace)
    | _ => 0 := by
  unfold hoursR
  rw [← ofP_map]
  match ofR c t with
  | [] => rfl
  | [_] => rfl
  | _ :: _ :: _ => rfl
theorem hours_max {hour stay : Int} (h1 : 1 ≤ hour ∧ hour ≤ 120) (hs : -100000 ≤ stay ∧ stay ≤ 100000) : (max 0 stay + hour - 1).tdiv hour = hoursOf hour stay := by
  unfold hoursOf
  rw [Int.tdiv_eq_ediv_of_nonneg (by omega)]
  split
  · rename_i h
    rw [Int.max_eq_left h, Int.zero_add]
    exact Int.ediv_eq_zero_of_lt (by omega) (by omega)
  · rw [Int.max_eq_right (by omega)]
theorem ofP_mem {c : Hou} {t : Int} {x : Cp} (h : x ∈ ofP c t) : x ∈ c.clips := (List.mem_filter.1 h).1
section
variable {A1 A2 A3 At : Option Addr} {n1 k1 n2 k2 n3 k3 nt kt bw bm : Nat} {c : Hou} {tr : List (List Int)}
set_option maxRecDepth 100000 in
theorem workOff_calls {d : List Int} {e0 e1 e2 e3 : Int} {h : Nat} (w : World) (hd : pad4 d = [e0, e1, e2, e3]) (hh : h < 4) :
    Calls Try.prog 71 #[.pointer (some ⟨bw, 0, none⟩), .agg #[.int .i64 e0, .int .i64 e1, .int .i64 e2, .int .i64 e3], .int .i64 (h : Int)] w fun e w' => e = .returned (.int .i64 (offF h d)) ∧ Later w w' := by
  obtain ⟨v, hv⟩ : ∃ v, offF h d = v := ⟨_, rfl⟩
  have hb := box_cells w #[.int .i64 e0, .int .i64 e1, .int .i64 e2, .int .i64 e3] 103
  have hx : #[Value.int .i64 e0, .int .i64 e1, .int .i64 e2, .int .i64 e3][h]? = some (.int .i64 v) := by
    unfold pad4 at hd
    simp only [List.cons.injEq, and_true] at hd
    obtain ⟨rfl, rfl, rfl, rfl⟩ := hd
    rw [← hv]
    match h, hh with
    | 0, _ => rfl
    | 1, _ => rfl
    | 2, _ => rfl
    | 3, _ => rfl
  have hb1 := (hb _ (later_refl _) h).trans hx
  have h4 : (h : Int) < 4 := by omega
  have Hv := hide hv
  clear hb hx hd hv
  go_enter Try.func71, Try.ntmps71
  go_wp2_with fail
  go_ret
  exact ⟨ret_int Hv.out.symm, by simp⟩
set_option maxRecDepth 100000 in
set_option maxHeartbeats 1000000 in
theorem hours_calls {d : List Int} {e0 e1 e2 e3 : Int} {t : Int} (w : World) (hw : WK w bw c A1 n1 k1 A2 n2 k2 A3 n3 k3 At nt kt tr bm) (ok : OkH c) (hd : IsErr c d) (hp : pad4 d = [e0, e1, e2, e3]) :
    Calls Try.prog 33 #[.pointer (some ⟨bw, 0, none⟩), .agg #[.int .i64 e0, .int .i64 e1, .int .i64 e2, .int .i64 e3], .int .i64 t] w fun e w' => e = .returned (.int .i64 (hoursR c d t)) ∧ Later w w' := by
  have hm3 : n3 ≤ 1000 := by have := hw.cv.cp.len; have := ok.n3; omega
  have hr4 := pad4_range ok hd
  rw [hp] at hr4
  obtain ⟨w0, hw0⟩ : ∃ X, X = w.alloc (.cells #[.int .i64 e0, .int .i64 e1, .int .i64 e2, .int .i64 e3] 103) := ⟨_, rfl⟩
  have hb := box_cells w #[.int .i64 e0, .int .i64 e1, .int .i64 e2, .int .i64 e3] 103
  rw [← hw0] at hb
  have hL0 : Later w w0 := by rw [hw0]; exact later_alloc (later_refl _) _
  have hwk := hw.later hL0
  have hcw := fun W (hW : Later w0 W) i => (hwk.later hW).cells i
  have cc := hcw w0 (later_refl _)
  have c0 := cc 0
  have c1 := cc 1
  have c2 := cc 2
  have c3 := cc 3
  have c4 := cc 4
  simp only [List.getElem?_toArray, List.getElem?_cons_zero, List.getElem?_cons_succ] at c0 c1 c2 c3 c4
  have Hw0 := hide hw0
  have hof := ofP_len c t
  have hm := hoursR_ofP c d t
  have hmin : ∀ x ∈ ofP c t, minuteC [e0, e1, e2, e3] x = minuteC d x ∧ 0 ≤ x.clock ∧ x.clock < 4 ∧ -1000000 ≤ x.minute ∧ x.minute ≤ 1000000 ∧ -30 ≤ minuteC d x ∧ minuteC d x ≤ 1469 := fun x hx => by
    have h1 := ofP_mem hx
    have h2 := clip_in ok h1
    exact ⟨by rw [← hp]; exact minuteC_pad4 ok d h1, h2.1, h2.2.1, h2.2.2.1, h2.2.2.2, minuteC_range ok hd h1⟩
  have Hmin := hide hmin
  have Hm := hide hm
  have Hcw := hide hcw
  clear hw0 hcw cc hof hm hmin
  go_enter Try.func33, Try.ntmps33
  go_upto_region 1 with fail
  rw [← Hw0.out]; clear Hw0
  go_wp2_with fail
  refine (of_calls (k1 := k1) (k2 := k2) (k3 := k3) _ hwk.cv hm3).mono ?_
  rintro e w1 ⟨A, k, rfl, hL1, hrc⟩
  match hl : ofP c t with
  | [] =>
    rw [hl] at Hm hrc
    have Hf : Hid (hoursR c d t = 0) := Hm.out
    clear Hm
    go_wp2_with fail
    go_ret
    exact ⟨ret_int Hf.out.symm, Later.trans hL0 hL1⟩
  | [x] =>
    rw [hl] at Hm hrc
    have Hf : Hid (hoursR c d t = 0) := Hm.out
    clear Hm
    go_wp2_with fail
    go_ret
    exact ⟨ret_int Hf.out.symm, Later.trans hL0 hL1⟩
  | x :: y :: l =>
    rw [hl] at Hm hrc
    have Hf : Hid (hoursR c d t = hoursOf c.hour (minuteC d y - minuteC d x - c.grace)) := Hm.out
    obtain ⟨kx, x0, x4, xm, xM, xr⟩ := Hmin.out x (by rw [hl]; simp)
    obtain ⟨ky, y0, y4, ym, yM, yr⟩ := Hmin.out y (by rw [hl]; simp)
    have hgr := ok.grace
    have hho := ok.hour
    have hmx := hours_max (hour := c.hour) (stay := minuteC d y - minuteC d x - c.grace) hho (by omega)
    have hwx : IntKind.i64.wrap (minuteC d y - minuteC d x) = minuteC d y - minuteC d x := IntWalk.i64_in _ (by omega)
    have hwy : IntKind.i64.wrap (minuteC d y - minuteC d x - c.grace) = minuteC d y - minuteC d x - c.grace := IntWalk.i64_in _ (by omega)
    have hxm : x ∈ ofP c t := by rw [hl]; simp
    have hym : y ∈ ofP c t := by rw [hl]; simp
    have Hmc := hide (fun (W : World) (z : Cp) (hz : z ∈ ofP c t) => minute_eq (Hmin.out z hz).1 W (Hmin.out z hz).2.1 (Hmin.out z hz).2.2.1 ⟨(Hmin.out z hz).2.2.2.1, (Hmin.out z hz).2.2.2.2.1⟩ hr4)
    clear kx x0 x4 xm xM ky y0 y4 ym yM hr4
    obtain ⟨bb, oo, y0', rfl, _, hy0, hx00, hx01, hx02⟩ := hrc.get (k := 0) (by simp)
    obtain ⟨y1', hy1, hy00, hy01, hy02⟩ := hrc.at_ (k := 1) (by simp)
    simp only [List.getElem?_cons_zero, List.getElem?_cons_succ, Option.some.injEq] at hy0 hy1
    subst hy0 hy1
    simp only [Nat.zero_mul, Nat.add_zero, Nat.one_mul] at hx00 hx01 hx02 hy00 hy01 hy02
    have h2 : (2 : Int) ≤ ((x :: y :: l).length : Nat) := by simp only [List.length_cons]; omega
    generalize (x :: y :: l).length = m at *
    have hm1 : (1 : Int) < m := by omega
    have hm0 : (0 : Int) < m := by omega
    clear Hm hl hrc Hmin
    go_wp2_with fail
    have hcw := fun W (hW : Later w1 W) => Hcw.out W (Later.trans hL1 hW)
    have hc0 := fun W hW => hcw W hW 0
    have hc1 := fun W hW => hcw W hW 1
    have hbb := fun W (hW : Later w1 W) => hb W (Later.trans hL1 hW)
    have hb0 := fun W hW => hbb W hW 0
    have hb1 := fun W hW => hbb W hW 1
    have hb2 := fun W hW => hbb W hW 2
    have hb3 := fun W hW => hbb W hW 3
    simp only [List.getElem?_toArray, List.getElem?_cons_zero, List.getElem?_cons_succ] at hc0 hc1 hb0 hb1 hb2 hb3
    clear hcw hbb hb c0 c1 c2 c3 c4
    refine wp_region_ext (w0 := w1) (by kernel_rfl) (by kernel_rfl) (later_refl _) ?_; (repeat (first | go_big_quiet_step (((go_at_call 53; exact calls_ext (by simp) (Hmc.out _ _ (by assumption))))) | quiet_step (((go_at_call 53; exact calls_ext (by simp) (Hmc.out _ _ (by assumption))))))); refine wpQuiet_nil ?_; rintro w3 ⟨⟨_, hL3⟩, rfl⟩; (try dsimp only)
    obtain ⟨mm, hmm⟩ : ∃ mm, (if c.grace < minuteC d y - minuteC d x then minuteC d y - minuteC d x - c.grace else 0) = mm := ⟨_, rfl⟩
    have hmm2 : max 0 (minuteC d y - minuteC d x - c.grace) = mm := by rw [← hmm, Int.max_def]; split <;> split <;> omega
    have hmr : 0 ≤ mm ∧ mm ≤ 2000 := by omega
    rw [hmm]
    rw [hmm2, ← Hf.out] at hmx
    have hqr := hoursR_range ok hd t
    generalize hqv : hoursR c d t = q at *
    have Hqv := hide hqv
    clear hqv
    have hw1 : IntKind.i64.wrap (mm + c.hour) = mm + c.hour := IntWalk.i64_in _ (by omega)
    have hw2 : IntKind.i64.wrap (mm + c.hour - 1) = mm + c.hour - 1 := IntWalk.i64_in _ (by omega)
    have hw3 : IntKind.i64.wrap ((mm + c.hour - 1).tdiv c.hour) = q := by rw [hmx]; exact IntWalk.i64_in _ (by omega)
    have hne : c.hour ≠ 0 := by omega
    have hneb : (c.hour == 0) = false := by simpa using hne
    have hc0' := fun W (hW : Later w3 W) => hc0 W (Later.trans hL3 hW)
    have hL13 := Later.trans hL1 hL3
    clear hc0 hc1 hb0 hb1 hb2 hb3 hx00 hx01 hx02 hy00 hy01 hy02 hwx hwy hmm hmm2 Hmc hmx
    go_upto_region 5 with fail
    refine wp_region_ext (w0 := w3) (by kernel_rfl) (by kernel_rfl) (later_refl _) ?_; (repeat (first | go_big_quiet_step (((fail))) | quiet_step (((fail))))); refine wpQuiet_nil ?_; rintro w5 ⟨⟨_, hL5⟩, rfl⟩; (try dsimp only)
    go_wp2_with fail
    go_ret
    exact ⟨ret_int Hqv.out.symm, Later.trans hL0 (Later.trans hL13 hL5)⟩

theorem fromStep_ofP (c : Hou) (d : List Int) (tub n : Int) (i : Nat) : fromStep c d tub n i = if (tickAt c i).1 = tub then (match ofP c (i : Int) with
    | [_, y] => max n (minuteC d y)
    | _ => n) else n := by
  unfold fromStep
  rw [← ofP_map]
  split
  · match ofR c i with
    | [] => rfl
    | [_] => rfl
    | [_, _] => rfl
    | _ :: _ :: _ :: _ => rfl
  · rfl
def fromUp (c : Hou) (d : List Int) (tub : Int) (j : Nat) : Int := (List.range j).foldl (fromStep c d tub) 0
theorem fromUp_succ (c : Hou) (d : List Int) (tub : Int) (j : Nat) : fromUp c d tub (j + 1) = fromStep c d tub (fromUp c d tub j) j := by
  unfold fromUp; rw [List.range_succ, List.foldl_append]; rfl
theorem fromUp_range {c : Hou} (ok : OkH c) {d : List Int} (hd : IsErr c d) (tub : Int) (j : Nat) : 0 ≤ fromUp c d tub j ∧ fromUp c d tub j ≤ 1469 := from_fold ok hd tub _ 0 (by omega)
set_option maxRecDepth 100000 in
set_option maxHeartbeats 1000000 in
theorem from_calls {d : List Int} {e0 e1 e2 e3 : Int} {tub : Int} (w : World) (hw : WK w bw c A1 n1 k1 A2 n2 k2 A3 n3 k3 At nt kt tr bm) (ok : OkH c) (hd : IsErr c d) (hp : pad4 d = [e0, e1, e2, e3]) :
    Calls Try.prog 38 #[.pointer (some ⟨bw, 0, none⟩), .agg #[.int .i64 e0, .int .i64 e1, .int .i64 e2, .int .i64 e3], .int .i64 tub] w fun e w' => e = .returned (.int .i64 (fromR c d tub)) ∧ Later w w' := by
  have hm3 : n3 ≤ 1000 := by have := hw.cv.cp.len; have := ok.n3; omega
  have hl2 := hw.cv.tk.len
  have hn2 := ok.n2
  have hn26 : n2 ≤ 6 := by omega
  have hend : fromUp c d tub n2 = fromR c d tub := by rw [hl2]; rfl
  have hr4 := pad4_range ok hd
  rw [hp] at hr4
  obtain ⟨w0, hw0⟩ : ∃ X, X = w.alloc (.cells #[.int .i64 e0, .int .i64 e1, .int .i64 e2, .int .i64 e3] 103) := ⟨_, rfl⟩
  have hb := box_cells w #[.int .i64 e0, .int .i64 e1, .int .i64 e2, .int .i64 e3] 103
  rw [← hw0] at hb
  have hL0 : Later w w0 := by rw [hw0]; exact later_alloc (later_refl _) _
  have hwk := hw.later hL0
  have Hcw := hide (fun W (hW : Later w0 W) i => (hwk.later hW).cells i)
  have c3 := Hcw.out w0 (later_refl _) 3
  simp only [List.getElem?_toArray, List.getElem?_cons_zero, List.getElem?_cons_succ] at c3
  have Hw0 := hide hw0
  have Hmc := hide (fun (W : World) (t : Int) (z : Cp) (hz : z ∈ ofP c t) => minute_eq (v := minuteC d z) (by rw [← hp]; exact minuteC_pad4 ok d (ofP_mem hz)) W (clip_in ok (ofP_mem hz)).1 (clip_in ok (ofP_mem hz)).2.1 (clip_in ok (ofP_mem hz)).2.2 hr4)
  have Hend := hide hend
  have Hb := hide hb
  clear hw0 hl2 hn2 hend hb hr4
  go_enter Try.func38, Try.ntmps38
  go_upto_region 1 with fail
  rw [← Hw0.out]; clear Hw0
  go_wp2_with fail
  clear c3
  go_loopw [6, 7, 8, 9, 16] (fun v _ _ _ u wr => ∃ i : Nat, i ≤ n2 ∧ u = .int .i64 i ∧ v = .int .i64 (fromUp c d tub i) ∧ Later w0 wr) (fun _ _ _ _ u _ => n2 - (intOf u).toNat)
  case atStart => exact ⟨0, Nat.zero_le _, rfl, rfl, later_refl _⟩
  case round =>
    obtain ⟨i, hi, rfl, rfl, hL⟩ := hrel
    by_cases hlt : i < n2
    · have hi1 : (i : Int) < n2 := by omega
      obtain ⟨b, o, x, rfl, _, hx, hx0, hx1⟩ := hwk.cv.tk.get hlt
      have hs := fromUp_succ c d tub i
      rw [fromStep_ofP, tickAt_of hx] at hs
      have hfr := fromUp_range ok hd tub i
      have Hs := hide hs
      generalize fromUp c d tub i = q at *
      have hx0 := hx0 _ hL
      have hx1 := hx1 _ hL
      obtain ⟨w2, hw2⟩ : ∃ X, X = wr.alloc (.cells #[.int .i64 x.1, .int .i64 x.2] 73) := ⟨_, rfl⟩
      have hb2 := Blk.new wr 73 #[.int .i64 x.1, .int .i64 x.2]
      rw [← hw2] at hb2
      have hLr2 : Later wr w2 := by rw [hw2]; exact later_alloc (later_refl _) _
      have hL2 := Later.trans hL hLr2
      have Hw2 := hide hw2
      have hcc := Hcw.out w2 hL2
      have c0 := hcc 0
      have c1 := hcc 1
      have c2 := hcc 2
      have c3 := hcc 3
      have c4 := hcc 4
      simp only [List.getElem?_toArray, List.getElem?_cons_zero, List.getElem?_cons_succ] at c0 c1 c2 c3 c4
      clear hw2 hx hs hcc
      go_upto_region 4 with fail
      rw [← Hw2.out]
      go_wp2_with fail
      refine (of_calls (k1 := k1) (k2 := k2) (k3 := k3) _ (hwk.cv.later hL2) hm3).mono ?_
      rintro e w3 ⟨A, k, rfl, hL3, hrc⟩
      have hb3 := hb2.later hL3
      have hbc := hb3.cell 0
      simp only [List.getElem?_toArray, List.getElem?_cons_zero, List.getElem?_cons_succ] at hbc
      have hL03 := Later.trans hL2 hL3
      by_cases h1 : x.1 = tub
      · have hb1 : (x.1 == tub) = true := by simpa using h1
        rw [if_pos h1] at Hs
        clear h1
        by_cases h2 : (ofP c (i : Int)).length = 2
        · obtain ⟨x0, y, hl⟩ : ∃ a b, ofP c (i : Int) = [a, b] := by
            match h : ofP c (i : Int) with
            | [] => rw [h] at h2; simp at h2
            | [_] => rw [h] at h2; simp at h2
            | [a, b] => exact ⟨a, b, rfl⟩
            | _ :: _ :: _ :: l => rw [h] at h2; simp at h2
          have hym : y ∈ ofP c (i : Int) := by rw [hl]; simp
          have hyr := minuteC_range ok hd (ofP_mem hym)
          rw [hl] at Hs hrc
          obtain ⟨bb, oo, y', rfl, _, hy0, hy00, hy01, hy02⟩ := hrc.get (k := 1) (by simp)
          simp only [List.getElem?_cons_zero, List.getElem?_cons_succ, Option.some.injEq] at hy0
          subst hy0
          simp only [Nat.one_mul] at hy00 hy01 hy02
          have hm1 : (1 : Int) < (([x0, y] : List Cp).length : Nat) := by simp
          have hb2' : (((([x0, y] : List Cp).length : Nat) : Int) == 2) = true := by simp
          have Hs2 : Hid (fromUp c d tub (i + 1) = max q (minuteC d y)) := Hs.out
          rw [hl]
          generalize ([x0, y] : List Cp).length = m at *
          have hbb := fun W (hW : Later w3 W) => Hb.out W (Later.trans hL03 hW)
          have hd0 := fun W hW => hbb W hW 0
          have hd1 := fun W hW => hbb W hW 1
          have hd2 := fun W hW => hbb W hW 2
          have hd3 := fun W hW => hbb W hW 3
          simp only [List.getElem?_toArray, List.getElem?_cons_zero, List.getElem?_cons_succ] at hd0 hd1 hd2 hd3
          clear hl h2 Hs hrc hbb hx0 hx1 c0 c1 c2 c3 c4
          go_wp2_with fail
          refine wp_region_ext (w0 := w3) (by kernel_rfl) (by kernel_rfl) (later_refl _) ?_; (repeat (first | go_big_quiet_step (((go_at_call 53; exact calls_ext (by simp) (Hmc.out _ _ _ (by assumption))))) | quiet_step (((go_at_call 53; exact calls_ext (by simp) (Hmc.out _ _ _ (by assumption))))))); refine wpQuiet_nil ?_; rintro w4 ⟨⟨_, hL4⟩, rfl⟩; (try dsimp only)
          go_wp2_with fail
          go_roundw
          case rel => exact ⟨i + 1, hlt, by go_num, by rw [Hs2.out]; first | rfl | (congr 1; rw [Int.max_def]; split <;> split <;> omega), Later.trans hL03 hL4⟩
          case measure => simp [intOf]; omega
        · have hb2' : ((((ofP c (i : Int)).length : Nat) : Int) == 2) = false := by simp; omega
          have Hs2 : Hid (fromUp c d tub (i + 1) = q) := by
            show _ = _
            rw [Hs.out]
            match h : ofP c (i : Int) with
            | [] => rfl
            | [_] => rfl
            | [a, b] => rw [h] at h2; simp at h2
            | _ :: _ :: _ :: l => rfl
          clear h2 Hs hrc hx0 hx1 c0 c1 c2 c3 c4
          go_wp2_with fail
          go_roundw
          case rel => exact ⟨i + 1, hlt, by go_num, by rw [Hs2.out], hL03⟩
          case measure => simp [intOf]; omega
      · have hb1 : (x.1 == tub) = false := by simpa using h1
        rw [if_neg h1] at Hs
        clear h1 hrc hx0 hx1 c0 c1 c2 c3 c4
        go_wp2_with fail
        go_roundw
        case rel => exact ⟨i + 1, hlt, by go_num, by rw [Hs.out], hL03⟩
        case measure => simp [intOf]; omega
    · have hin : i = n2 := by omega
      subst hin
      generalize fromUp c d tub i = q at *
      go_wp2_with fail
      go_ret
      exact ⟨ret_int Hend.out, Later.trans hL0 hL⟩
end
end Go.Proofs.Ytcffgjhmpgdfpaa
