/- Part 5 of the proof: joined from the texts CloN, App, CloO, CloP, CloQ, CloR, CloS, Good, BestP. -/
import Derived.Test.YtjilckjhdlabaaaPart4
import Derived.Test.YtjilckjhdlabaaaPart3
import Derived.Laws.CopyOwn
set_option linter.unusedSimpArgs false
set_option linter.unusedVariables false
/- The program's possible: walk. -/
namespace Go.Proofs.Ytjilckjhdlabaaa
open Go Go.RowKit Go.Shelf
attribute [local go_sem] Oper.semAt_some later_alloc3 later_alloc4

def possibleP (c : Clo) (out : List Int) : Bool := (dryAll c.horses).any fun d => rightP c (pad4 d) out

/-- what holds between the rounds: all that lay where the range began lies as it lay -/
structure PosI (E : Nat) (wE W : World) : Prop where
  size : E + 5 ≤ W.heap.size
  os : W.os = wE.os
  tape : W.tape = wE.tape
  out : W.output = wE.output
  old : ∀ b, b < E → W.heap[b]? = wE.heap[b]?
theorem PosI.same {E : Nat} {wE W W' : World} (h : PosI E wE W) (hs : W.heap.size ≤ W'.heap.size) (ho : W'.os = W.os) (ht : W'.tape = W.tape) (hu : W'.output = W.output)
    (hb : ∀ b, b < E → W'.heap[b]? = W.heap[b]?) : PosI E wE W' :=
  ⟨Nat.le_trans h.size hs, ho.trans h.os, ht.trans h.tape, hu.trans h.out, fun b h1 => (hb b h1).trans (h.old b h1)⟩
theorem PosI.later {E : Nat} {wE W W' : World} (h : PosI E wE W) (hL : Later W W') : PosI E wE W' :=
  h.same hL.size hL.os hL.tape hL.output fun b hb => hL.block b (by have := h.size; omega)
theorem PosI.put {E : Nat} {wE W : World} (h : PosI E wE W) {l : Nat} (hl : E ≤ l) (o : Obj) : PosI E wE (W.putObj l o) :=
  h.same (by simp) rfl rfl rfl fun b hb => heap_put W _ o b (by omega)
theorem PosI.set_ {E : Nat} {wE W : World} (h : PosI E wE W) {a : Addr} (hl : E ≤ a.block) (u : Value) : PosI E wE (W.setCell a u) :=
  h.same (by simp) rfl rfl rfl fun b hb => Below.heap_setCell W a u b (by omega)
theorem PosI.laterE {E : Nat} {wE W : World} (h : PosI E wE W) (hE : wE.heap.size = E) : Later wE W :=
  ⟨h.os, h.tape, h.out, by have := h.size; omega, fun b hb => h.old b (by omega)⟩

set_option maxRecDepth 100000 in
set_option maxHeartbeats 2000000 in
theorem possible_calls {A1 A2 A3 : Option Addr} {n1 k1 n2 k2 n3 k3 : Nat} {c : Clo} {Ao : Option Addr} {no ko : Nat} {out : List Int} (w : World) (hc : CV w c A1 n1 A2 n2 A3 n3) (ok : OkC c) (ho : RI w Ao no out) (hno : no ≤ 1000000) :
    Calls Try.prog 87 #[(.agg #[.int .i64 c.closets, .int .i64 c.close, .slice A1 n1 k1, .slice A2 n2 k2, .slice A3 n3 k3]), .slice Ao no ko] w fun e w' => e = .returned (.bool (possibleP c out)) ∧ Later w w' := by
  refine (callsIn_wide (n := 6)).1 ?_
  have htf := fun W => (callsIn_wide (n := 5)).2 (truths_fn (c := c) (A1 := A1) (A2 := A2) (A3 := A3) (n1 := n1) (n2 := n2) (n3 := n3) (k1 := k1) (k2 := k2) (k3 := k3) W)
  refine callsIn_of_wp_marks Try.func87 rfl trivial ?_ rfl
  simp only [Try.ntmps87, List.size_toArray, List.length_cons, List.length_nil, Nat.reduceAdd, Nat.reduceSub, Array.replicate_succ, Array.replicate_zero, List.push_toArray, List.append_toArray, List.nil_append, List.cons_append]
  gi_wp2_with fail
  refine ⟨trivial, (htf _).mono ?_⟩
  rintro e w2 ⟨rfl, rfl⟩
  gi_wp2_with fail
  obtain ⟨B, hB⟩ : ∃ b, b = w.heap.size := ⟨_, rfl⟩
  simp only [← hB, World.size_alloc]
  generalize hwE : ((((w.alloc _).alloc _).alloc _).alloc _) = wE
  have hE : wE.heap.size = B + 4 := by rw [← hwE]; simp [← hB]
  have hLE : Later w wE := by rw [← hwE]; exact later_alloc4 (later_refl _) _ _ _ _
  have kb : Blk wE B 35 #[.int .i64 c.closets, .int .i64 c.close, .slice A1 n1 k1, .slice A2 n2 k2, .slice A3 n3 k3] := by
    rw [← hwE, hB]; exact (((Blk.new _ _ _).alloc _).alloc _).alloc _
  have ko1 : Blk wE (B + 1) 23 #[.slice Ao no ko] := by
    rw [← hwE, hB]
    have := Blk.new (w.alloc (.cells #[.int .i64 c.closets, .int .i64 c.close, .slice A1 n1 k1, .slice A2 n2 k2, .slice A3 n3 k3] 35)) 23 #[.slice Ao no ko]
    rw [World.size_alloc] at this
    exact (this.alloc _).alloc _
  have kr : Blk wE (B + 1 + 1) 4 #[.bool false] := by
    rw [← hwE, hB]
    have := Blk.new ((w.alloc (.cells #[.int .i64 c.closets, .int .i64 c.close, .slice A1 n1 k1, .slice A2 n2 k2, .slice A3 n3 k3] 35)).alloc (.cells #[.slice Ao no ko] 23)) 4 #[.bool false]
    simp only [World.size_alloc] at this
    exact this.alloc _
  have kc : Blk wE (B + 1 + 1 + 1) 35 #[.int .i64 c.closets, .int .i64 c.close, .slice A1 n1 k1, .slice A2 n2 k2, .slice A3 n3 k3] := by
    rw [← hwE, hB]
    have := Blk.new (((w.alloc (.cells #[.int .i64 c.closets, .int .i64 c.close, .slice A1 n1 k1, .slice A2 n2 k2, .slice A3 n3 k3] 35)).alloc (.cells #[.slice Ao no ko] 23)).alloc (.cells #[.bool false] 4)) 35 #[.int .i64 c.closets, .int .i64 c.close, .slice A1 n1 k1, .slice A2 n2 k2, .slice A3 n3 k3]
    simp only [World.size_alloc] at this
    exact this
  have hcE := hc.later hLE
  have hoE := ho.later hLE
  have HwE := hide hwE
  have HB := hide hB
  clear hwE hB htf
  refine wpIn_iter (α := List Int) (gf := 128) (lb := #[.pointer (some ⟨B + 1 + 1 + 1, 0, none⟩)]) (encs := encD) (xs := dryAll c.horses) (Kp := KeepS fun b => b < B + 9 ∧ b ≠ B + 5) rfl (by omega) rfl trivial (enters_of Try.func128 (by kernel_rfl) rfl) ?_ (fun h k => h.trans k) ?_ encD_size
    (fun pre W => PosI (B + 4) wE W ∧ ∀ d ∈ pre, rightP c (pad4 d) out = false) (fun cd pre W => cd = .ret ∧ (∃ W1, PosI (B + 4) wE W1 ∧ W.os = W1.os ∧ W.tape = W1.tape ∧ W.output = W1.output ∧ W1.heap.size = W.heap.size ∧ (∀ b, b < B + 4 → b ≠ B + 1 + 1 → W.heap[b]? = W1.heap[b]?)) ∧ Blk W (B + 1 + 1) 4 #[.bool true] ∧ ∃ d ∈ pre, rightP c (pad4 d) out = true) ?_ ?_ ?_ ?_
    (fun pre x a' W => ∃ (g : Nat) (e0 e1 e2 e3 : Int), a' = { tmps := #[(.agg #[.int .i64 c.closets, .int .i64 c.close, .slice A1 n1 k1, .slice A2 n2 k2, .slice A3 n3 k3]), .slice Ao no ko, .pointer (some ⟨B, 0, none⟩), .pointer (some ⟨B + 1, 0, none⟩), .pointer (some ⟨B + 1 + 1, 0, none⟩), .pointer (some ⟨g, 0, none⟩), (.agg #[.int .i64 c.closets, .int .i64 c.close, .slice A1 n1 k1, .slice A2 n2 k2, .slice A3 n3 k3]), .func (.func 128) #[] #[.pointer (some ⟨B + 1 + 1 + 1, 0, none⟩)], .agg #[.int .i64 e0, .int .i64 e1, .int .i64 e2, .int .i64 e3], undef, undef, undef, undef], defers := [] } ∧ pad x = [e0, e1, e2, e3] ∧ B + 9 ≤ g ∧ Blk W g 138 #[.int .i64 e0, .int .i64 e1, .int .i64 e2, .int .i64 e3] ∧ PosI (B + 4) wE W ∧ ∀ d ∈ pre, rightP c (pad4 d) out = false) ?assign ?_ ?body ?done ?stop
  case assign =>
    rintro l pre x W K ⟨hI, hno2⟩ hpx hK
    obtain ⟨e0, e1, e2, e3, hpad⟩ := pad_four (x := x) (by
      have := dryAll_isDry c x (hpx.subset (by simp))
      rw [this.len]; exact ok.len)
    have henc : encD x = #[.agg #[.int .i64 e0, .int .i64 e1, .int .i64 e2, .int .i64 e3]] := by unfold encD; rw [hpad]; rfl
    rw [henc]
    have Hpad := hide hpad
    have Hno := hide hno2
    clear hpad henc hno2
    gi_wp2_with fail
    refine hK _ _ (KeepsOthers.alloc _ _) ((KeepS.refl _).alloc _ fun b hb => by have := hI.size; omega) ⟨_, e0, e1, e2, e3, rfl, Hpad.out, ?_, ?_, ?_, Hno.out⟩
    · have := hI.size; omega
    · exact Blk.new _ _ _
    · exact hI.later (later_alloc (later_refl _) _)
  case body =>
    rintro l pre x a' W ⟨g, e0, e1, e2, e3, rfl, hpad, hg, hBd, hI, hno2⟩ hpx hsz
    have hdx := dryAll_isDry c x (hpx.subset (by simp))
    have hp4 : pad4 x = [e0, e1, e2, e3] := by rw [← hpad]; exact (pad_eq (by rw [hdx.len]; exact ok.len)).symm
    have hIs := hI.size
    have kbW : Blk W B 35 #[.int .i64 c.closets, .int .i64 c.close, .slice A1 n1 k1, .slice A2 n2 k2, .slice A3 n3 k3] := Blk.of_eq (hI.old _ (by omega)) kb
    have koW : Blk W (B + 1) 23 #[.slice Ao no ko] := Blk.of_eq (hI.old _ (by omega)) ko1
    have krW : Blk W (B + 1 + 1) 4 #[.bool false] := Blk.of_eq (hI.old _ (by omega)) kr
    have hLW := hI.laterE hE
    have hcW := hcE.later hLW
    have hoW := hoE.later hLW
    have hr4 := pad4_range ok.toOkH hdx
    rw [hp4] at hr4
    have q0 := kbW.cells_later
    have q1 := koW.cells_later
    have q3 := hBd.cells_later
    have q2 := krW.cells_later
    have f2 := krW.frozen_later
    obtain ⟨b, hr⟩ : ∃ b, rightP c [e0, e1, e2, e3] out = b := ⟨_, rfl⟩
    have hrc : ∀ X, Later W X → CallsIn (Fence.wide.inRound l) (6 - 1 - 1 - 1) Try.prog 101 #[(.agg #[.int .i64 c.closets, .int .i64 c.close, .slice A1 n1 k1, .slice A2 n2 k2, .slice A3 n3 k3]), .agg #[.int .i64 e0, .int .i64 e1, .int .i64 e2, .int .i64 e3], .slice Ao no ko] X fun e w' => e = .returned (.bool b) ∧ Later X w' := fun X hX => by
      have := right_calls (k1 := k1) (k2 := k2) (k3 := k3) (ko := ko) X (hcW.later hX) ok (hoW.later hX) hno hr4
      rw [hr] at this
      exact CallsIn.inRound l (callsIn_wide.2 this)
    have Hr := hide hr
    have HI := hide hI
    have Hno := hide hno2
    have HkrW := hide krW
    clear hr hI hno2 kbW koW krW hBd
    gi_wp2_with fail
    refine ⟨trivial, (hrc _ (later_refl _)).mono ?_⟩
    rintro e w3 ⟨rfl, hL3⟩
    have hI3 := HI.out.later hL3
    cases b with
    | false =>
      clear hrc
      gi_wp2_with fail
      refine ⟨KeepsOthers.of_later hL3, fun b hb => hL3.block b (by omega), hI3, fun d hd => ?_⟩
      rcases List.mem_append.1 hd with h | h
      · exact Hno.out d h
      · simp only [List.mem_singleton] at h; subst h; rw [hp4]; exact Hr.out
    | true =>
      have krW3 := HkrW.out.later hL3
      have r0 := krW3.cell 0
      have rf := krW3.frozen 0
      simp only [List.getElem?_toArray, List.getElem?_cons_zero, List.getElem?_cons_succ] at r0
      have hb2 := krW3.set_ 0 (.bool true)
      have Hb2 := hide hb2
      clear hrc hb2 krW3
      gi_wp2_with fail
      refine ⟨(KeepsOthers.of_later hL3).trans (KeepsOthers.setCell _ _ _), rfl, ⟨w3, hI3, rfl, rfl, rfl, by simp, fun b hb hne => Below.heap_setCell w3 _ _ b hne⟩, Hb2.out, x, by simp, by rw [hp4]; exact Hr.out⟩
  case done =>
    rintro W ⟨hI, hno2⟩ hK
    rw [hE] at hK ⊢
    have krW : Blk W (B + 1 + 1) 4 #[.bool false] := Blk.of_eq (hI.old _ (by omega)) kr
    have r0 := krW.cell 0
    have rf := krW.frozen 0
    simp only [List.getElem?_toArray, List.getElem?_cons_zero, List.getElem?_cons_succ] at r0
    have hK2 : (W.setCell ⟨B + 1 + 1, 0, none⟩ (.bool false)).heap[B + 4]? = some (.deferred (some [])) := (Below.heap_setCell W _ _ _ (by show B + 4 ≠ B + 1 + 1; omega)).trans hK
    have hb2 : Blk ((W.setCell ⟨B + 1 + 1, 0, none⟩ (.bool false)).putObj (B + 4) (.deferred none)) (B + 1 + 1) 4 #[.bool false] := Blk.of_eq (heap_put _ _ _ _ (by omega)) (krW.set_ 0 (.bool false))
    have z0 := hb2.cell 0
    simp only [List.getElem?_toArray, List.getElem?_cons_zero, List.getElem?_cons_succ] at z0
    have hfin : Later w ((W.setCell ⟨B + 1 + 1, 0, none⟩ (.bool false)).putObj (B + 4) (.deferred none)) := later_put (later_set (Later.trans hLE (hI.laterE hE)) _ (by rw [← HB.out]; show B ≤ B + 1 + 1; omega) _) (by rw [← HB.out]; omega) _
    have hp : possibleP c out = false := by
      unfold possibleP
      rw [← Bool.not_eq_true, List.any_eq_true]
      rintro ⟨d, hd, h⟩
      rw [hno2 d hd] at h; cases h
    have HK := hide hK2
    have Hp := hide hp
    clear hK hK2 hp hb2
    gi_wp2_with fail
    refine ⟨by simp, .inl ⟨_, _, rfl, run_takeDeferred HK.out, ?_⟩⟩
    refine ⟨.bool false, by simp [results, Try.results87, go_sem, z0], by rw [Hp.out], hfin⟩
  case stop =>
    rintro cd pre W hpre ⟨rfl, ⟨W1, hI, hos, htape, hout, hsz, hold⟩, hbk, d, hd, hr⟩ hK
    rw [hE] at hK ⊢
    have hb2 : Blk (W.putObj (B + 4) (.deferred none)) (B + 1 + 1) 4 #[.bool true] := Blk.of_eq (heap_put _ _ _ _ (by omega)) hbk
    have z0 := hb2.cell 0
    simp only [List.getElem?_toArray, List.getElem?_cons_zero, List.getElem?_cons_succ] at z0
    have hL1 := Later.trans hLE (hI.laterE hE)
    have hL2 : Later w W := ⟨hos.trans hL1.os, htape.trans hL1.tape, hout.trans hL1.output, by have := hL1.size; omega, fun b hb => (hold b (by have := HB.out; omega) (by have := HB.out; omega)).trans (hL1.block b hb)⟩
    have hfin : Later w (W.putObj (B + 4) (.deferred none)) := later_put hL2 (by rw [← HB.out]; omega) _
    have hp : possibleP c out = true := by
      unfold possibleP
      rw [List.any_eq_true]
      exact ⟨d, hpre.subset hd, hr⟩
    gi_wp2_with fail
    refine ⟨by simp, .inl ⟨_, _, rfl, run_takeDeferred hK, ?_⟩⟩
    refine ⟨.bool true, by simp [results, Try.results87, go_sem, z0], by rw [hp], hfin⟩
  · intro W hL hs
    rw [hE] at hs
    refine truths_iter (n2 := n2) (k2 := k2) (n3 := n3) (k3 := k3) (A2 := A2) (A3 := A3) (k1 := k1) ok.toOkH (hcE.hs.later hL) (kc.later hL) (by omega) (fun hn b o e => ?_) (by omega) (by omega) (by omega)
    obtain ⟨b', o', e3, hb', _⟩ := Reads.lit hc.hs (by omega) hn
    rw [e] at e3; obtain ⟨rfl, _⟩ := some_lit e3; have := HB.out; omega
  · exact fun W o b hb => heap_put W _ o b (by rw [hE]; exact hb.2)
  · rw [hE]
    exact ⟨fun s A o h => ⟨h.1.later (later_alloc (later_refl _) _), h.2⟩, fun s A i u h => ⟨h.1.set_ (by show B + 4 ≤ B + 4 + 3; omega) u, h.2⟩⟩
  · intro s A o h _; rw [hE]; exact ⟨h.1.put (by omega) o, h.2⟩
  · rintro cd s A o ⟨rfl, ⟨W1, hI, hos, htape, hout, hsz, hold⟩, hbk, hd⟩ _
    rw [hE]
    exact ⟨rfl, ⟨W1, hI, hos, htape, hout, by simpa using hsz, fun b hb hne => (heap_put A _ o b (by omega)).trans (hold b hb hne)⟩, Blk.of_eq (heap_put A _ o _ (by omega)) hbk, hd⟩
  · intro A hL hs
    rw [hE] at hs
    exact ⟨⟨hs, hL.os, hL.tape, hL.output, fun b hb => hL.block b (by omega)⟩, by simp⟩
  · rintro pre x a' A o ⟨g, e0, e1, e2, e3, rfl, hpad, hg, hBd, hI, hno2⟩ _
    rw [hE]
    exact ⟨g, e0, e1, e2, e3, rfl, hpad, hg, (heap_put A _ o g (by omega)).trans hBd, hI.put (by omega) o, hno2⟩
end Go.Proofs.Ytjilckjhdlabaaa

/- append of any elements onto a row of the call's own; slices.Clone: walks. -/
namespace Go.Proofs.Ytjilckjhdlabaaa
open Go Go.RowKit

/-- what an append leaves -/
structure AppG (base : Nat) (W w' : World) (e : TypeId) (size : Nat) (v v' : Value) (n m : Nat) (xs news : List Value) : Prop where
  own : w'.ownsRow base e size v' (n + m) (xs ++ news)
  grown : W.grownBy w' v.ownBlock
  at_ : v'.ownBlock = v.ownBlock ∨ v'.ownBlock = some W.heap.size

theorem appG_wp {P : Program} {o : Oper} {a : Act} {K : Act → World → Prop} {Q : Exit → Act → World → Prop} {W : World} (base : Nat) (s x : Operand) (t : TypeId)
    (ho : o.op = .call { callee := .builtin .append, args := #[s, x], argTypes := #[t, t] }) (e : TypeId) (z : Value) (size bytes : Nat)
    (ht : P.underlying t = some (.slice e)) (hinfo : (P.info? e).map (fun i => (i.zero, i.size, i.bytes)) = some (some z, size, bytes)) (hzs : z.cells.size = size) (hsz : 0 < size)
    (v : Value) (n : Nat) (xs : List Value) (hs : a.eval s = v) (hb : base ≤ W.heap.size) (hown : W.ownsRow base e size v n xs)
    (ad : Addr) (m c : Nat) (news : List Value) (hx : a.eval x = .slice (some ad) m c) (hl : news.length = m * size) (hc : ∀ j u, news[j]? = some u → W.cell? (ad.add j) = some u) (h1 : ∀ u ∈ news, u.oneCell' = true)
    (hn : n ≤ 1000000) (hm : m ≤ 1000000) (hby : bytes ≤ 1000)
    (h : ∀ v' w', AppG base W w' e size v v' n m xs news → K (a.put o.dst v') w') :
    o.wp P a W K Q := by
  obtain ⟨i, hi, hz, h2, h3⟩ := info_parts hinfo
  obtain ⟨v', w', hr, k2, k3, _, k5⟩ := run_append_own_at (P := P) W base t o.type e i z size bytes ht hi hz h2 h3 hzs hsz v n xs hown ad m c news hl hc h1 (by unfold maxLen; omega)
    (by
      have : (n + m) * bytes ≤ 2000000 * 1000 := Nat.mul_le_mul (by omega) hby
      omega) hb
  unfold Oper.wp execOp
  simp only [ho, resolve, invoke, builtin, Sem.run_bind, Sem.run_pure, Result.andThen_ok, List.map_toArray, List.map_cons, List.map_nil, hs, hx, hr]
  exact h v' w' ⟨k2, k3, k5⟩
theorem appG {P : Program} {ops : Array Oper} {rest : List Oper} {o : Oper} {a : Act} {Q : Exit → Act → World → Prop} {W : World} (hgd : o.guard = none) (base : Nat) (s x : Operand) (t : TypeId)
    (ho : o.op = .call { callee := .builtin .append, args := #[s, x], argTypes := #[t, t] }) (e : TypeId) (z : Value) (size bytes : Nat)
    (ht : P.underlying t = some (.slice e)) (hinfo : (P.info? e).map (fun i => (i.zero, i.size, i.bytes)) = some (some z, size, bytes)) (hzs : z.cells.size = size) (hsz : 0 < size)
    (v : Value) (n : Nat) (xs : List Value) (hs : a.eval s = v) (hb : base ≤ W.heap.size) (hown : W.ownsRow base e size v n xs)
    (ad : Addr) (m c : Nat) (news : List Value) (hx : a.eval x = .slice (some ad) m c) (hl : news.length = m * size) (hc : ∀ j u, news[j]? = some u → W.cell? (ad.add j) = some u) (h1 : ∀ u ∈ news, u.oneCell' = true)
    (hn : n ≤ 1000000) (hm : m ≤ 1000000) (hby : bytes ≤ 1000)
    (h : ∀ v' w', AppG base W w' e size v v' n m xs news → wpList P ops Q rest (a.put o.dst v') w') :
    wpList P ops Q (o :: rest) a W :=
  wpList_plain hgd fun _ hK => appG_wp base s x t ho e z size bytes ht hinfo hzs hsz v n xs hs hb hown ad m c news hx hl hc h1 hn hm hby fun v' w' q => hK _ _ (h v' w' q)
theorem appG_step {P : Program} {ops : Array Oper} {o : Oper} {a : Act} {K : Act → World → Prop} {Q : Exit → Act → World → Prop} {E : Prop} {W : World} (hgd : o.guard = none) (base : Nat) (s x : Operand) (t : TypeId)
    (ho : o.op = .call { callee := .builtin .append, args := #[s, x], argTypes := #[t, t] }) (e : TypeId) (z : Value) (size bytes : Nat)
    (ht : P.underlying t = some (.slice e)) (hinfo : (P.info? e).map (fun i => (i.zero, i.size, i.bytes)) = some (some z, size, bytes)) (hzs : z.cells.size = size) (hsz : 0 < size)
    (v : Value) (n : Nat) (xs : List Value) (hs : a.eval s = v) (hb : base ≤ W.heap.size) (hown : W.ownsRow base e size v n xs)
    (ad : Addr) (m c : Nat) (news : List Value) (hx : a.eval x = .slice (some ad) m c) (hl : news.length = m * size) (hc : ∀ j u, news[j]? = some u → W.cell? (ad.add j) = some u) (h1 : ∀ u ∈ news, u.oneCell' = true)
    (hn : n ≤ 1000000) (hm : m ≤ 1000000) (hby : bytes ≤ 1000)
    (h : ∀ v' w', AppG base W w' e size v v' n m xs news → K (a.put o.dst v') w') :
    if Region.wanted o (yielded ops a.tmps) = true then Oper.wp P o a W K Q else E := by
  rw [if_pos (by simp [Region.wanted, hgd])]
  exact appG_wp base s x t ho e z size bytes ht hinfo hzs hsz v n xs hs hb hown ad m c news hx hl hc h1 hn hm hby h
/-- an append onto a row that is new since w: all of w lies as it lay -/
theorem AppG.later {w W w' : World} {e : TypeId} {size n m : Nat} {v v' : Value} {xs news : List Value} (h : AppG w.heap.size W w' e size v v' n m xs news) (hL : Later w W) (hown : W.ownsRow w.heap.size e size v n xs) : Later w w' :=
  Later.grown hL h.grown fun g hg => (hown.lt g hg).1

theorem ints_cells {w : World} {ad : Addr} {n : Nat} {l : List Int} (h : RI w (some ad) n l) : ∀ j u, (ints l)[j]? = some u → w.cell? (ad.add j) = some u := fun j u hj => by
  have hl : j < l.length := by rw [← ints_length]; exact (List.getElem?_eq_some_iff.1 hj).1
  obtain ⟨ad', e, _, hc⟩ := h.2 (by have := h.len; omega)
  injection e with e
  subst e
  exact hc j u hj
theorem ints_one (l : List Int) : ∀ u ∈ ints l, u.oneCell' = true := by
  intro u hu
  simp only [ints, List.mem_map] at hu
  obtain ⟨x, _, rfl⟩ := hu
  rfl
set_option maxRecDepth 100000 in
/-- slices.Clone -/
theorem Clone_calls {A : Option Addr} {n k : Nat} {l : List Int} (w : World) (h : RI w A n l) (hn : n ≤ 1000) :
    Calls Try.prog 89 #[.slice A n k] w fun e w' => ∃ v, e = .returned v ∧ Later w w' ∧ w'.ownsRow w.heap.size 3 1 v n (ints l) := by
  have hlen := h.len
  cases A with
  | none =>
    have h0 : n = 0 := by
      rcases Nat.eq_zero_or_pos n with h0 | h0
      · exact h0
      · obtain ⟨ad, e, _⟩ := h.2 h0; cases e
    have hl : l = [] := List.eq_nil_of_length_eq_zero (by omega)
    subst h0 hl
    have hq : ∀ W : World, (binOp .eql 23 (.slice none 0 k) (.slice none 0 0)).run Try.prog W = .ok (.bool true) W := fun _ => by kernel_rfl
    clear hlen
    go_enter Try.func89, Try.ntmps89
    go_wp2_with fail
    go_ret
    exact ⟨_, rfl, later_refl _, World.ownsRow_nil _ _ _ _⟩
  | some ad =>
    have hc := fun (W : World) (hL : Later w W) => ints_cells (h.later hL)
    have hl2 : (ints l).length = n * 1 := by rw [ints_length]; omega
    have Hl := hide hlen
    have hq : ∀ W : World, (binOp .eql 23 (.slice (some ad) n k) (.slice none 0 0)).run Try.prog W = .ok (.bool false) W := fun _ => by kernel_rfl
    clear hlen
    go_enter Try.func89, Try.ntmps89
    go_wp2_with (at_builtin; refine appG rfl w.heap.size _ _ 23 rfl 3 (.int .i64 0) 1 8 Try.underlying23 int_info rfl (by omega) _ 0 [] rfl ?hb (World.ownsRow_made w #[] 0 (Nat.le_refl _) (by unfold maxLen; omega) rfl) ad n k (ints l) rfl hl2 (hc _ (later_alloc (later_refl _) _)) (ints_one l) (by omega) (by omega) (by omega) ?_; case hb => simp)
    intro v' w' hap
    go_wp2_with fail
    go_ret
    refine ⟨_, rfl, hap.later (later_alloc (later_refl _) _) (World.ownsRow_made w #[] 0 (Nat.le_refl _) (by unfold maxLen; omega) rfl), ?_⟩
    have := hap.own
    rw [Nat.zero_add, List.nil_append] at this
    exact this
end Go.Proofs.Ytjilckjhdlabaaa

/- The program's listed: walk. -/
namespace Go.Proofs.Ytjilckjhdlabaaa
open Go Go.RowKit

def listedP (c : Clo) (l : List Int) : List Int := if areNumbers c.horses l = true then pad4 l else [0, 0, 0, 0]
theorem splice_pad {l : List Int} (h : l.length ≤ 4) : splice (ints [0, 0, 0, 0]) 0 (ints l) = ints (pad4 l) := by
  match l, h with
  | [], _ => rfl
  | [_], _ => rfl
  | [_, _], _ => rfl
  | [_, _, _], _ => rfl
  | [_, _, _, _], _ => rfl

set_option maxRecDepth 100000 in
set_option maxHeartbeats 1000000 in
theorem listed_calls {A1 A2 A3 : Option Addr} {n1 k1 n2 k2 n3 k3 : Nat} {c : Clo} {Al : Option Addr} {nl kl : Nat} {l : List Int} (w : World) (hc : CV w c A1 n1 A2 n2 A3 n3) (hl : RI w Al nl l) (hn1 : n1 ≤ 4) (hnl : nl ≤ 1000000) :
    Calls Try.prog 94 #[(.agg #[.int .i64 c.closets, .int .i64 c.close, .slice A1 n1 k1, .slice A2 n2 k2, .slice A3 n3 k3]), .slice Al nl kl] w fun e w' => e = .returned (.tuple #[.agg (ints (listedP c l)).toArray, .bool (areNumbers c.horses l)]) ∧ Later w w' := by
  have hlen := hl.len
  have hhl := hc.hs.len
  obtain ⟨w0, hw0⟩ : ∃ W, W = (w.alloc (.cells #[.int .i64 c.closets, .int .i64 c.close, .slice A1 n1 k1, .slice A2 n2 k2, .slice A3 n3 k3] 35)).alloc (.cells #[.int .i64 0, .int .i64 0, .int .i64 0, .int .i64 0] 138) := ⟨_, rfl⟩
  have hbox : ∀ W, Later w0 W → ∀ i, W.cell? ⟨w.heap.size, i, none⟩ = #[.int .i64 c.closets, .int .i64 c.close, .slice A1 n1 k1, .slice A2 n2 k2, .slice A3 n3 k3][i]? := by
    rw [hw0]; exact fun W hW => box_cells w #[.int .i64 c.closets, .int .i64 c.close, .slice A1 n1 k1, .slice A2 n2 k2, .slice A3 n3 k3] 35 W (later_of_alloc hW)
  have hL0 : Later w w0 := by rw [hw0]; simp
  have hbr : Blk w0 (w.heap.size + 1) 138 #[.int .i64 0, .int .i64 0, .int .i64 0, .int .i64 0] := by
    rw [hw0]
    have := Blk.new (w.alloc (.cells #[.int .i64 c.closets, .int .i64 c.close, .slice A1 n1 k1, .slice A2 n2 k2, .slice A3 n3 k3] 35)) 138 #[.int .i64 0, .int .i64 0, .int .i64 0, .int .i64 0]
    rw [World.size_alloc] at this; exact this
  have hc0 := hc.later hL0
  have hl0 := hl.later hL0
  have Hw0 := hide hw0
  clear hw0
  by_cases hne : nl = n1
  · subst hne
    have hb1 : ((nl : Int) != (nl : Int)) = false := by simp
    have Hlen := hide hlen
    have Hhl := hide hhl
    clear hlen hhl
    go_enter Try.func94, Try.ntmps94
    go_wp2_with fail
    rw [← Hw0.out]; clear Hw0
    go_loopw [17] (fun i wr => ∃ j : Nat, j ≤ nl ∧ i = .int .i64 j ∧ Later w0 wr ∧ Hid (∀ (i : Nat) (h : Horse) (x : Int), i < j → c.horses[i]? = some h → l[i]? = some x → h.lo ≤ x ∧ x ≤ h.hi)) (fun i _ => nl - (intOf i).toNat)
    case atStart => exact ⟨0, Nat.zero_le _, rfl, later_refl _, fun i h x hi => absurd hi (Nat.not_lt_zero _)⟩
    case round =>
      obtain ⟨j, hj, rfl, hL, Hall⟩ := hrel
      by_cases hlt : j < nl
      · obtain ⟨b1, o1, z, rfl, _, hz, hz0, hz1, hz2, hz3⟩ := hc0.hs.get hlt
        obtain ⟨b2, o2, x, rfl, _, hx, hx0⟩ := hl0.get hlt
        have hi1 : (j : Int) < nl := by omega
        have hz0 := hz0 _ hL
        have hz1 := hz1 _ hL
        have hx0 := hx0 _ hL
        obtain ⟨b, hb⟩ : ∃ b, inB x z.lo z.hi = b := ⟨_, rfl⟩
        have Hb := hide hb
        have Hz := hide hz
        have Hx := hide hx
        clear hb hz hx
        cases b with
        | true =>
          go_wp2_with (go_at_call 120; refine (has_eq Hb.out _).mono ?_; rintro e w2 ⟨rfl, hL2⟩)
          go_roundw
          case rel =>
            refine ⟨j + 1, hlt, by go_num, Later.trans hL hL2, fun i h y hi hh hy => ?_⟩
            rcases Nat.lt_or_ge i j with h1 | h1
            · exact Hall.out i h y h1 hh hy
            · have : i = j := by omega
              subst this
              have h2 := Hz.out
              have h3 := Hx.out
              rw [hh] at h2
              rw [hy] at h3
              injection h2 with h2
              injection h3 with h3
              subst h2 h3
              have := Hb.out
              simpa [inB] using this
          case measure => simp [intOf]; omega
        | false =>
          have hno : areNumbers c.horses l = false := by
            rw [← Bool.not_eq_true, areNumbers_iff]
            rintro ⟨_, h⟩
            have h2 := h j z x Hz.out Hx.out
            have := Hb.out
            simp [inB] at this
            omega
          have hlp : listedP c l = [0, 0, 0, 0] := by unfold listedP; rw [hno]; rfl
          have Hno := hide hno
          have Hlp := hide hlp
          clear hno hlp
          go_wp2_with fail
          refine (has_eq Hb.out _).mono ?_
          rintro e w2 ⟨rfl, hL2⟩
          have hLw := Later.trans hL hL2
          have hrb := hbr.later hLw
          have x0 := hrb.cell 0
          have x1 := hrb.cell 1
          have x2 := hrb.cell 2
          have x3 := hrb.cell 3
          have xf0 := hrb.frozen 0
          have xf1 := hrb.frozen 1
          have xf2 := hrb.frozen 2
          have xf3 := hrb.frozen 3
          simp only [List.getElem?_toArray, List.getElem?_cons_zero, List.getElem?_cons_succ] at x0 x1 x2 x3
          have hrb2 := (((hrb.set_ 0 (.int .i64 0)).set_ 1 (.int .i64 0)).set_ 2 (.int .i64 0)).set_ 3 (.int .i64 0)
          have y0 := hrb2.cell 0
          have y1 := hrb2.cell 1
          have y2 := hrb2.cell 2
          have y3 := hrb2.cell 3
          simp only [List.setIfInBounds_toArray, List.set_cons_zero, List.set_cons_succ, List.getElem?_toArray, List.getElem?_cons_zero, List.getElem?_cons_succ] at y0 y1 y2 y3
          clear hrb hrb2
          go_wp2_with fail
          refine bodyPost_ret (v := .tuple #[.agg #[.int .i64 0, .int .i64 0, .int .i64 0, .int .i64 0], .bool false]) ?_ rfl ⟨by rw [Hno.out, Hlp.out]; rfl, ?_⟩
          · simp [results, Try.results94, go_sem, y0, y1, y2, y3, x0, x1, x2, x3]
          · first | exact Later.trans hL0 hLw | exact later_set (later_set (later_set (later_set (Later.trans hL0 hLw) _ (Nat.le_succ _) _) _ (Nat.le_succ _) _) _ (Nat.le_succ _) _) _ (Nat.le_succ _) _
      · have hyes : areNumbers c.horses l = true := (areNumbers_iff _ _).2 ⟨by have := Hlen.out; have := Hhl.out; omega, fun i h x hh hx => Hall.out i h x (by
          have := (List.getElem?_eq_some_iff.1 hh).1; have := Hhl.out; omega) hh hx⟩
        have hlp : listedP c l = pad4 l := by unfold listedP; rw [hyes]; rfl
        have Hyes := hide hyes
        have Hlp := hide hlp
        clear hyes hlp
        have hg : wr.heap[w.heap.size + 1]? = some (.cells (ints [0, 0, 0, 0]).toArray 138 (0, 0)) := hbr.later hL
        have hn : (ints l).length = Nat.min nl 4 := by rw [ints_length]; have := Hlen.out; show l.length = min nl 4; omega
        have hl4 : l.length ≤ 4 := by have := Hlen.out; omega
        have hpos : 0 < (ints l).length → some (⟨w.heap.size + 1, 0, none⟩ : Addr) = some ⟨w.heap.size + 1, 0, none⟩ ∧ ∃ ad, Al = some ad ∧ ∀ j v, (ints l)[j]? = some v → wr.cell? (ad.add j) = some v := fun h => by
          refine ⟨rfl, ?_⟩
          obtain ⟨ad, e, _, hcs⟩ := (hl0.later hL).2 (by have := Hlen.out; rw [ints_length] at h; omega)
          exact ⟨ad, e, hcs⟩
        have hfit : 0 + (ints l).length ≤ (ints [0, 0, 0, 0]).length := by rw [ints_length]; show 0 + l.length ≤ 4; omega
        have hone := ints_one l
        have hb : Below w.heap.size w wr := Later.trans hL0 hL
        obtain ⟨e0, e1, e2, e3, hp4⟩ : ∃ e0 e1 e2 e3, pad4 l = [e0, e1, e2, e3] := ⟨_, _, _, _, rfl⟩
        have hsp := splice_pad hl4
        rw [hp4] at hsp
        have Hsp := hide hsp
        have Hp4 := hide hp4
        have Hn := hide hn
        have Hg := hide hg
        clear hsp hp4 hn hg
        go_wp2_with (with_reducible refine wpList_copy_splice rfl (.tmp 33) (.tmp 34) 23 23 rfl 3 Try.underlying23 (by kernel_rfl) (some ⟨w.heap.size + 1, 0, none⟩) Al 4 4 nl kl rfl rfl (w.heap.size + 1) 0 (ints [0, 0, 0, 0]) 138 Hg.out (ints l) Hn.out hpos hfit hone w.heap.size w hb (Nat.le_succ _) ?_)
        intro w' hg2 hb2
        have hrb : Blk w' (w.heap.size + 1) 138 #[.int .i64 e0, .int .i64 e1, .int .i64 e2, .int .i64 e3] := by
          have := hg2.out
          rw [Hsp.out] at this
          exact this
        have x0 := hrb.cell 0
        have x1 := hrb.cell 1
        have x2 := hrb.cell 2
        have x3 := hrb.cell 3
        have xf0 := hrb.frozen 0
        have xf1 := hrb.frozen 1
        have xf2 := hrb.frozen 2
        have xf3 := hrb.frozen 3
        simp only [List.getElem?_toArray, List.getElem?_cons_zero, List.getElem?_cons_succ] at x0 x1 x2 x3
        have hrb2 := (((hrb.set_ 0 (.int .i64 e0)).set_ 1 (.int .i64 e1)).set_ 2 (.int .i64 e2)).set_ 3 (.int .i64 e3)
        have y0 := hrb2.cell 0
        have y1 := hrb2.cell 1
        have y2 := hrb2.cell 2
        have y3 := hrb2.cell 3
        simp only [List.setIfInBounds_toArray, List.set_cons_zero, List.set_cons_succ, List.getElem?_toArray, List.getElem?_cons_zero, List.getElem?_cons_succ] at y0 y1 y2 y3
        have hb3 : Later w w' := hb2
        clear hrb hrb2 hg2 hpos
        go_wp2_with fail
        refine bodyPost_ret (v := .tuple #[.agg #[.int .i64 e0, .int .i64 e1, .int .i64 e2, .int .i64 e3], .bool true]) ?_ rfl ⟨by rw [Hyes.out, Hlp.out, Hp4.out]; rfl, ?_⟩
        · simp [results, Try.results94, go_sem, y0, y1, y2, y3, x0, x1, x2, x3]
        · first | exact hb3 | exact later_set (later_set (later_set (later_set hb3 _ (Nat.le_succ _) _) _ (Nat.le_succ _) _) _ (Nat.le_succ _) _) _ (Nat.le_succ _) _
  · have Hno : Hid (areNumbers c.horses l = false) := by
      show areNumbers c.horses l = false
      rw [← Bool.not_eq_true, areNumbers_iff]
      rintro ⟨h, _⟩
      omega
    have Hlp : Hid (listedP c l = [0, 0, 0, 0]) := by show listedP c l = _; unfold listedP; rw [Hno.out]; rfl
    have hb1 : ((nl : Int) != (n1 : Int)) = true := by simp; omega
    have hLw : Later w0 w0 := later_refl _
    clear hlen hhl hne
    go_enter Try.func94, Try.ntmps94
    go_wp2_with fail
    rw [← Hw0.out]; clear Hw0
    have hrb := hbr.later hLw
    have x0 := hrb.cell 0
    have x1 := hrb.cell 1
    have x2 := hrb.cell 2
    have x3 := hrb.cell 3
    have xf0 := hrb.frozen 0
    have xf1 := hrb.frozen 1
    have xf2 := hrb.frozen 2
    have xf3 := hrb.frozen 3
    simp only [List.getElem?_toArray, List.getElem?_cons_zero, List.getElem?_cons_succ] at x0 x1 x2 x3
    have hrb2 := (((hrb.set_ 0 (.int .i64 0)).set_ 1 (.int .i64 0)).set_ 2 (.int .i64 0)).set_ 3 (.int .i64 0)
    have y0 := hrb2.cell 0
    have y1 := hrb2.cell 1
    have y2 := hrb2.cell 2
    have y3 := hrb2.cell 3
    simp only [List.setIfInBounds_toArray, List.set_cons_zero, List.set_cons_succ, List.getElem?_toArray, List.getElem?_cons_zero, List.getElem?_cons_succ] at y0 y1 y2 y3
    clear hrb hrb2
    go_wp2_with fail
    refine bodyPost_ret (v := .tuple #[.agg #[.int .i64 0, .int .i64 0, .int .i64 0, .int .i64 0], .bool false]) ?_ rfl ⟨by rw [Hno.out, Hlp.out]; rfl, ?_⟩
    · simp [results, Try.results94, go_sem, y0, y1, y2, y3, x0, x1, x2, x3]
    · first | exact Later.trans hL0 hLw | exact later_set (later_set (later_set (later_set (Later.trans hL0 hLw) _ (Nat.le_succ _) _) _ (Nat.le_succ _) _) _ (Nat.le_succ _) _) _ (Nat.le_succ _) _
end Go.Proofs.Ytjilckjhdlabaaa

/- The program's Play, ProveTruth: walks. -/
namespace Go.Proofs.Ytjilckjhdlabaaa
open Go Go.RowKit

theorem areNumbers_dry {c : Clo} {d : List Int} (h : areNumbers c.horses d = true) : IsDry c d := (isDry_iff c d).1 h
theorem listed_eq {A1 A2 A3 : Option Addr} {n1 k1 n2 k2 n3 k3 : Nat} {c : Clo} {Al : Option Addr} {nl kl : Nat} {l : List Int} {b : Bool} {e0 e1 e2 e3 : Int} (w : World) (hc : CV w c A1 n1 A2 n2 A3 n3) (hl : RI w Al nl l) (hn1 : n1 ≤ 4) (hnl : nl ≤ 1000000) (hb : areNumbers c.horses l = b) (he : listedP c l = [e0, e1, e2, e3]) :
    Calls Try.prog 94 #[(.agg #[.int .i64 c.closets, .int .i64 c.close, .slice A1 n1 k1, .slice A2 n2 k2, .slice A3 n3 k3]), .slice Al nl kl] w fun e w' => e = .returned (.tuple #[.agg #[.int .i64 e0, .int .i64 e1, .int .i64 e2, .int .i64 e3], .bool b]) ∧ Later w w' := by
  have := listed_calls (k1 := k1) (k2 := k2) (k3 := k3) (kl := kl) w hc hl hn1 hnl
  rw [hb, he] at this
  exact this
theorem listedP_four (c : Clo) (l : List Int) : ∃ e0 e1 e2 e3, listedP c l = [e0, e1, e2, e3] := by
  unfold listedP; split <;> exact ⟨_, _, _, _, rfl⟩
/-- the error of Play -/
def playErr (c : Clo) (p d : List Int) : Int := if fault c ≠ 0 then fault c else if areNumbers c.horses d = true ∧ isPlaceB c p = true then 0 else 2
def playL (c : Clo) (p d : List Int) : List Int := if playErr c p d = 0 then (minutesP c p (pad4 d)).take c.horses.length else []
def PlayPost (c : Clo) (p d : List Int) (w : World) (e : Ending) (w' : World) : Prop :=
  ∃ A n k, e = .returned (.tuple #[.slice A n k, .int .i64 (playErr c p d)]) ∧ Later w w' ∧ RI w' A n (playL c p d) ∧ n ≤ k
theorem playPost_bad {c : Clo} {p d : List Int} {w w' : World} {q : Int} (hq : playErr c p d = q) (h0 : q ≠ 0) (hL : Later w w') : PlayPost c p d w (.returned (.tuple #[.slice none 0 0, .int .i64 q])) w' := by
  refine ⟨none, 0, 0, by rw [hq], hL, ?_, Nat.le_refl _⟩
  have : playL c p d = [] := by unfold playL; rw [if_neg (by omega)]
  rw [this]
  exact RI.nil
theorem own_cap {W : World} {base : Nat} {e : TypeId} {size : Nat} {A : Option Addr} {k n : Nat} {xs : List Value} (h : W.ownsRow base e size (.slice A n k) n xs) : n ≤ k := by
  rcases h.2 with ⟨e, h0⟩ | ⟨g, cap, cur, e, _, _, h1, _⟩
  · omega
  · injection e with _ _ e; omega

set_option maxRecDepth 100000 in
set_option maxHeartbeats 1000000 in
theorem PlayP_calls {A1 A2 A3 : Option Addr} {n1 k1 n2 k2 n3 k3 : Nat} {c : Clo} {Ap Ad : Option Addr} {np kp nd kd : Nat} {p d : List Int} (w : World) (hc : CV w c A1 n1 A2 n2 A3 n3) (hcl : i64 c.closets) (hn1 : n1 ≤ 1000) (hn2 : n2 ≤ 1000) (hn3 : n3 ≤ 1000) (hk2 : n2 ≤ k2)
    (hp : RI w Ap np p) (hcap : np ≤ kp) (hnp : np ≤ 1000000) (hd : RI w Ad nd d) (hnd : nd ≤ 1000000) :
    Calls Try.prog 48 #[(.agg #[.int .i64 c.closets, .int .i64 c.close, .slice A1 n1 k1, .slice A2 n2 k2, .slice A3 n3 k3]), .slice Ap np kp, .slice Ad nd kd] w fun e w' => PlayPost c p d w e w' := by
  obtain ⟨w0, hw0⟩ : ∃ W, W = (w.alloc (.cells #[.int .i64 c.closets, .int .i64 c.close, .slice A1 n1 k1, .slice A2 n2 k2, .slice A3 n3 k3] 35)) := ⟨_, rfl⟩; have hbox : ∀ W, Later w0 W → ∀ i, W.cell? ⟨w.heap.size, i, none⟩ = #[.int .i64 c.closets, .int .i64 c.close, .slice A1 n1 k1, .slice A2 n2 k2, .slice A3 n3 k3][i]? := (by rw [hw0]; exact box_cells w #[.int .i64 c.closets, .int .i64 c.close, .slice A1 n1 k1, .slice A2 n2 k2, .slice A3 n3 k3] 35); have hL0 : Later w w0 := (by rw [hw0]; simp); have hc0 := hc.later hL0; have Hw0 := hide hw0; clear hw0
  have hp0 := hp.later hL0
  have hd0 := hd.later hL0
  by_cases hf : fault c = 0
  · have ok := okC_of_fault hf
    have hhl := hc.hs.len
    have hl4 := ok.len
    have hn4 : n1 ≤ 4 := by omega
    obtain ⟨b1, hb1⟩ : ∃ b, areNumbers c.horses d = b := ⟨_, rfl⟩
    obtain ⟨b2, hb2⟩ : ∃ b, isPlaceB c p = b := ⟨_, rfl⟩
    obtain ⟨e0, e1, e2, e3, he⟩ := listedP_four c d
    have Hf := hide hf
    have Hb1 := hide hb1
    have Hb2 := hide hb2
    have He := hide he
    have Hhl := hide hhl
    clear hf hb1 hb2 he hhl
    have hck := CheckCloset_eq (k1 := k1) (k3 := k3) w0 hc0 Hf.out hcl hn1 hn2 hn3 hk2
    go_enter Try.func48, Try.ntmps48
    go_wp2_with fail
    rw [← Hw0.out]; clear Hw0
    refine hck.mono ?_
    rintro e w1 ⟨rfl, hL1⟩
    go_wp2_with fail
    refine (listed_eq (kl := kd) _ (hc0.later hL1) (hd0.later hL1) hn4 hnd Hb1.out He.out).mono ?_
    rintro e w2 ⟨rfl, hL2⟩
    have hL2' := Later.trans hL1 hL2
    cases b1 with
    | false =>
      have hq : playErr c p d = 2 := by unfold playErr; rw [if_neg (by simp [Hf.out]), if_neg (by rw [Hb1.out]; simp)]
      have Hq := hide hq
      clear hq
      go_wp2_with fail
      refine bodyPost_ret (v := .tuple #[.slice none 0 0, .int .i64 2]) ?_ rfl (playPost_bad Hq.out (by decide) (later_alloc (Later.trans hL0 hL2') _))
      simp [results, Try.results48, go_sem]
    | true =>
      have hdry := areNumbers_dry Hb1.out
      have hp4 : pad4 d = [e0, e1, e2, e3] := by have := He.out; unfold listedP at this; rw [Hb1.out, if_pos rfl] at this; exact this
      have Hp4 := hide hp4
      clear hp4
      have hbd := box_cells w2 #[.int .i64 e0, .int .i64 e1, .int .i64 e2, .int .i64 e3] 138
      go_wp2_with fail
      refine (isPlace_eq Hb2.out _ (hc0.later (later_alloc hL2' _)) (hp0.later (later_alloc hL2' _)) hcap hnp (by omega)).mono ?_
      rintro e w3 ⟨rfl, hL3⟩
      have hL3' := Later.trans (later_alloc hL2' (.cells #[.int .i64 e0, .int .i64 e1, .int .i64 e2, .int .i64 e3] 138)) hL3
      cases b2 with
      | false =>
        have hq : playErr c p d = 2 := by unfold playErr; rw [if_neg (by simp [Hf.out]), if_neg (by rw [Hb2.out]; simp)]
        have Hq := hide hq
        clear hq
        go_wp2_with fail
        refine bodyPost_ret (v := .tuple #[.slice none 0 0, .int .i64 2]) ?_ rfl (playPost_bad Hq.out (by decide) (Later.trans hL0 hL3'))
        simp [results, Try.results48, go_sem]
      | true =>
        have hq : playErr c p d = 0 := by unfold playErr; rw [if_neg (by simp [Hf.out]), if_pos ⟨Hb1.out, Hb2.out⟩]
        have hpl := isPlaceB_isPl Hf.out Hb2.out
        obtain ⟨m0, m1, m2, m3, hm⟩ : ∃ m0 m1 m2 m3, minutesP c p (pad4 d) = [m0, m1, m2, m3] := ⟨_, _, _, _, rfl⟩
        have hpL : playL c p d = [m0, m1, m2, m3].take n1 := by unfold playL; rw [if_pos hq, hm, Hhl.out]
        have Hq := hide hq
        have Hm := hide hm
        have HpL := hide hpL
        have hd0' := hbd w3 hL3 0
        have hd1' := hbd w3 hL3 1
        have hd2' := hbd w3 hL3 2
        have hd3' := hbd w3 hL3 3
        simp only [List.getElem?_toArray, List.getElem?_cons_zero, List.getElem?_cons_succ] at hd0' hd1' hd2' hd3'
        clear hq hm hpL
        go_wp2_with fail
        refine (minutes_eq _ (hc0.later hL3') ok.toOkH (hp0.later hL3') (Nat.le_of_eq hpl.len) (hpl.bound ok.toOkH) hdry Hp4.out Hm.out).mono ?_
        rintro e w4 ⟨rfl, hL4⟩
        have hL4' := Later.trans hL3' hL4
        have hn4i : (n1 : Int) ≤ 4 := by omega
        obtain ⟨w5, hw5⟩ : ∃ X, X = w4.alloc (.cells #[.int .i64 m0, .int .i64 m1, .int .i64 m2, .int .i64 m3] 138) := ⟨_, rfl⟩
        have hL5 : Later w0 w5 := by rw [hw5]; exact later_alloc hL4' _
        have hri : RI w5 (some ⟨w4.heap.size, 0, none⟩) n1 ([m0, m1, m2, m3].take n1) := by
          have hB : Blk w5 w4.heap.size 138 #[.int .i64 m0, .int .i64 m1, .int .i64 m2, .int .i64 m3] := by rw [hw5]; exact Blk.new _ _ _
          have hr4 : RI w5 (some ⟨w4.heap.size, 0, none⟩) 4 [m0, m1, m2, m3] := ⟨rfl, fun _ => ⟨_, rfl, hB.lt, fun j u hj => by
            rw [add_lit, Nat.zero_add, hB.cell]
            simpa [ints] using hj⟩⟩
          exact hr4.take n1 hn4
        have Hw5 := hide hw5
        clear hw5
        go_wp2_with fail
        rw [← Hw5.out]
        refine (Clone_calls _ hri (by omega)).mono ?_
        rintro e w6 ⟨v, rfl, hL6, hown⟩
        obtain ⟨A', c', rfl, hrd⟩ := own_slice hown
        have hcp := own_cap hown
        have hfin := Later.trans hL0 (Later.trans hL5 hL6)
        go_wp2_with fail
        refine bodyPost_ret (v := .tuple #[.slice A' n1 c', .int .i64 0]) ?_ rfl ⟨A', n1, c', by rw [Hq.out], hfin, by rw [HpL.out]; exact hrd, hcp⟩
        simp [results, Try.results48, go_sem]
  · obtain ⟨q, hq⟩ : ∃ q, fault c = q := ⟨_, rfl⟩
    have hpe : playErr c p d = q := by unfold playErr; rw [if_pos hf, hq]
    have hq0 : q ≠ 0 := by omega
    have hqb : (q != 0) = true := by simpa using hq0
    have Hpe := hide hpe
    have Hq := hide hq
    have Hq0 := hide hq0
    clear hf hpe hq hq0
    have hck := CheckCloset_eq (k1 := k1) (k3 := k3) w0 hc0 Hq.out hcl hn1 hn2 hn3 hk2
    go_enter Try.func48, Try.ntmps48
    go_wp2_with fail
    rw [← Hw0.out]; clear Hw0
    refine hck.mono ?_
    rintro e w1 ⟨rfl, hL1⟩
    go_wp2_with fail
    refine bodyPost_ret (v := .tuple #[.slice none 0 0, .int .i64 q]) ?_ rfl (playPost_bad Hpe.out Hq0.out (Later.trans hL0 hL1))
    simp [results, Try.results48, go_sem]
end Go.Proofs.Ytjilckjhdlabaaa

/- The program's First: walk. -/
namespace Go.Proofs.Ytjilckjhdlabaaa
open Go Go.RowKit

def withLooks (c : Clo) (l : List Look) : Clo := { c with looks := l }
theorem okC_looks {c : Clo} (ok : OkC c) {l : List Look} (hl : ∀ x ∈ l, x ∈ c.looks) (hn : l.length ≤ 5) : OkC (withLooks c l) :=
  ⟨⟨ok.len, ok.cl1, ok.cl4, ok.horse⟩, ⟨ok.hung.len, ok.hung.mem, ok.hung.nodup⟩, fun x hx => ok.looks x (hl x hx), hn, ok.close⟩
theorem okC_take {c : Clo} (ok : OkC c) (i : Nat) : OkC (withLooks c (c.looks.take i)) :=
  okC_looks ok (fun _ hx => List.mem_of_mem_take hx) (by have := ok.nlooks; rw [List.length_take]; omega)
theorem RL.take {w : World} {A : Option Addr} {n : Nat} {l : List Look} (h : RL w A n l) (i : Nat) (hi : i ≤ n) : RL w A i (l.take i) := by
  have hlen := h.len
  refine ⟨by rw [looksV_length, List.length_take]; omega, fun h0 => ?_⟩
  obtain ⟨ad, e, hb, hc⟩ := h.2 (by omega)
  refine ⟨ad, e, hb, fun j u hj => hc j u ?_⟩
  have hpre : looksV l = looksV (l.take i) ++ looksV (l.drop i) := by
    have := List.take_append_drop i l
    unfold looksV
    rw [← List.flatMap_append, this]
  rw [hpre, List.getElem?_append_left (List.getElem?_eq_some_iff.1 hj).1]
  exact hj
/-- the first wrong look, as the program finds it -/
def firstBad (c : Clo) (i : Nat) : Bool := !possibleP (withLooks c (c.looks.take (i + 1))) []
def firstOut (c : Clo) : Int × Int :=
  if fault c ≠ 0 then (0, fault c) else match (List.range c.looks.length).find? (firstBad c) with
    | some i => ((i : Nat), 0)
    | none => (0, 7)

set_option maxRecDepth 100000 in
set_option maxHeartbeats 1000000 in
theorem FirstP_calls {A1 A2 A3 : Option Addr} {n1 k1 n2 k2 n3 k3 : Nat} {c : Clo} (w : World) (hc : CV w c A1 n1 A2 n2 A3 n3) (hcl : i64 c.closets) (hn1 : n1 ≤ 1000) (hn2 : n2 ≤ 1000) (hn3 : n3 ≤ 1000) (hk2 : n2 ≤ k2) (hk3 : n3 ≤ k3) :
    Calls Try.prog 34 #[(.agg #[.int .i64 c.closets, .int .i64 c.close, .slice A1 n1 k1, .slice A2 n2 k2, .slice A3 n3 k3])] w fun e w' => e = .returned (.tuple #[.int .i64 (firstOut c).1, .int .i64 (firstOut c).2]) ∧ Later w w' := by
  obtain ⟨w0, hw0⟩ : ∃ W, W = (w.alloc (.cells #[.int .i64 c.closets, .int .i64 c.close, .slice A1 n1 k1, .slice A2 n2 k2, .slice A3 n3 k3] 35)) := ⟨_, rfl⟩; have hbox : ∀ W, Later w0 W → ∀ i, W.cell? ⟨w.heap.size, i, none⟩ = #[.int .i64 c.closets, .int .i64 c.close, .slice A1 n1 k1, .slice A2 n2 k2, .slice A3 n3 k3][i]? := (by rw [hw0]; exact box_cells w #[.int .i64 c.closets, .int .i64 c.close, .slice A1 n1 k1, .slice A2 n2 k2, .slice A3 n3 k3] 35); have hL0 : Later w w0 := (by rw [hw0]; simp); have hc0 := hc.later hL0; have Hw0 := hide hw0; clear hw0
  obtain ⟨q, hq⟩ : ∃ q, fault c = q := ⟨_, rfl⟩
  have hck := CheckCloset_eq (k1 := k1) (k3 := k3) w0 hc0 hq hcl hn1 hn2 hn3 hk2
  by_cases hf : q = 0
  · subst hf
    have ok := okC_of_fault hq
    have hll := hc.lk.len
    have hl5 := ok.nlooks
    have hn5 : n3 ≤ 5 := by omega
    have Hll := hide hll
    have Hq := hide hq
    clear hll hq
    go_enter Try.func34, Try.ntmps34
    go_wp2_with fail
    rw [← Hw0.out]; clear Hw0
    refine hck.mono ?_
    rintro e w1 ⟨rfl, hL1⟩
    have hw0s : w.heap.size < w1.heap.size := by have := later_size hL1; have := hbox w0 (later_refl _) 0; have h3 : w.heap.size < w0.heap.size := World.block_lt_of_cell? _ _ this; omega
    have hbx := Blk.new w1 35 #[.int .i64 c.closets, .int .i64 c.close, .slice A1 n1 k1, .slice A2 n2 k2, .slice A3 n3 k3]
    obtain ⟨g, hg⟩ : ∃ g, g = w1.heap.size := ⟨_, rfl⟩
    go_wp2_with fail
    have hLx : Later w1 (w1.alloc (.cells #[.int .i64 c.closets, .int .i64 c.close, .slice A1 n1 k1, .slice A2 n2 k2, .slice A3 n3 k3] 35)) := later_alloc (later_refl _) _
    go_loopw [16] (fun i wr => ∃ (j m : Nat), j ≤ n3 ∧ i = .int .i64 j ∧ Later w1 wr ∧ Blk wr w1.heap.size 35 #[.int .i64 c.closets, .int .i64 c.close, .slice A1 n1 k1, .slice A2 n2 k2, .slice A3 m k3] ∧ Hid (∀ i, i < j → firstBad c i = false)) (fun i _ => n3 - (intOf i).toNat)
    case atStart => exact ⟨0, n3, Nat.zero_le _, rfl, hLx, hbx, fun i hi => absurd hi (Nat.not_lt_zero _)⟩
    case round =>
      obtain ⟨j, m, hj, rfl, hL, hbk, Hno⟩ := hrel
      have hLw := Later.trans hL1 hL
      by_cases hlt : j < n3
      · have hi1 : (j : Int) < n3 := by omega
        have hwj : IntKind.i64.wrap ((j : Int) + 1) = (j : Int) + 1 := IntWalk.i64_in _ (by omega)
        have hkk : (j : Int) + 1 ≤ k3 := by omega
        have x4 := hbk.cell 4
        have xf := hbk.frozen 4
        have hb2 := hbk.set_ 4 (.slice A3 (j + 1) k3)
        simp only [List.getElem?_toArray, List.getElem?_cons_zero, List.getElem?_cons_succ] at x4
        simp only [List.setIfInBounds_toArray, List.set_cons_zero, List.set_cons_succ] at hb2
        have hLs : Later w1 (wr.setCell ⟨w1.heap.size, 4, none⟩ (.slice A3 (j + 1) k3)) := later_set hL _ (Nat.le_refl _) _
        have y0 := hb2.cell 0
        have y1 := hb2.cell 1
        have y2 := hb2.cell 2
        have y3 := hb2.cell 3
        have y4 := hb2.cell 4
        simp only [List.getElem?_toArray, List.getElem?_cons_zero, List.getElem?_cons_succ] at y0 y1 y2 y3 y4
        have hcs := hc0.later (Later.trans hL1 hLs)
        have hcv : CV (wr.setCell ⟨w1.heap.size, 4, none⟩ (.slice A3 (j + 1) k3)) (withLooks c (c.looks.take (j + 1))) A1 n1 A2 n2 A3 (j + 1) := ⟨hcs.hs, hcs.hu, hcs.lk.take (j + 1) hlt⟩
        obtain ⟨b, hb⟩ : ∃ b, possibleP (withLooks c (c.looks.take (j + 1))) [] = b := ⟨_, rfl⟩
        have hps := possible_calls (k1 := k1) (k2 := k2) (k3 := k3) (ko := 0) (Ao := none) _ hcv (okC_take ok (j + 1)) RI.nil (by omega)
        rw [hb] at hps
        have hfb : firstBad c j = !b := by unfold firstBad; rw [hb]
        have Hfb := hide hfb
        have Hps := hide hps
        have Hb2 := hide hb2
        clear hfb hps hb2 hbk hb
        go_wp2_with fail
        refine Hps.out.mono ?_
        rintro e w5 ⟨rfl, hL5⟩
        have hL1' := Later.trans hLs hL5
        cases b with
        | true =>
          go_wp2_with fail
          go_roundw
          case rel =>
            refine ⟨j + 1, j + 1, hlt, by go_num, hL1', Hb2.out.later hL5, fun i hi => ?_⟩
            rcases Nat.lt_or_ge i j with h1 | h1
            · exact Hno.out i h1
            · have : i = j := by omega
              subst this; exact Hfb.out
          case measure => simp [intOf]; omega
        | false =>
          have hfo : firstOut c = ((j : Int), 0) := by
            unfold firstOut
            rw [if_neg (by simp [Hq.out]), find_range_some (j := j) (by have := Hll.out; omega) Hfb.out Hno.out]
          have Hfo := hide hfo
          clear hfo
          go_wp2_with fail
          refine bodyPost_ret (v := .tuple #[.int .i64 j, .int .i64 0]) ?_ rfl ⟨by rw [Hfo.out], Later.trans hL0 (Later.trans hL1 hL1')⟩
          simp [results, Try.results34, go_sem]
      · have hfo : firstOut c = (0, 7) := by
          unfold firstOut
          rw [if_neg (by simp [Hq.out]), find_range_none fun t ht => Hno.out t (by have := Hll.out; omega)]
        have Hfo := hide hfo
        clear hfo
        go_wp2_with fail
        refine bodyPost_ret (v := .tuple #[.int .i64 0, .int .i64 7]) ?_ rfl ⟨by rw [Hfo.out], Later.trans hL0 hLw⟩
        simp [results, Try.results34, go_sem]
  · have hqb : (q != 0) = true := by simpa using hf
    have hfo : firstOut c = (0, q) := by unfold firstOut; rw [hq, if_pos hf]
    have Hfo := hide hfo
    have Hf := hide hf
    clear hf hq hfo
    go_enter Try.func34, Try.ntmps34
    go_wp2_with fail
    rw [← Hw0.out]; clear Hw0
    refine hck.mono ?_
    rintro e w1 ⟨rfl, hL1⟩
    go_wp2_with fail
    refine bodyPost_ret (v := .tuple #[.int .i64 0, .int .i64 q]) ?_ rfl ⟨by rw [Hfo.out], Later.trans hL0 hL1⟩
    simp [results, Try.results34, go_sem]
end Go.Proofs.Ytjilckjhdlabaaa

/- The program's Leave: a closure that calls itself: walks. -/
namespace Go.Proofs.Ytjilckjhdlabaaa
open Go Go.RowKit

/-- all that lay at W lies as it lay, but for block g -/
structure But (g : Nat) (W W' : World) : Prop where
  os : W'.os = W.os
  tape : W'.tape = W.tape
  output : W'.output = W.output
  size : W.heap.size ≤ W'.heap.size
  block : ∀ b, b < W.heap.size → b ≠ g → W'.heap[b]? = W.heap[b]?
theorem But.refl (g : Nat) (W : World) : But g W W := ⟨rfl, rfl, rfl, Nat.le_refl _, fun _ _ _ => rfl⟩
theorem But.of_later {g : Nat} {W W' : World} (h : Later W W') : But g W W' := ⟨h.os, h.tape, h.output, h.size, fun b hb _ => h.block b hb⟩
theorem But.trans {g : Nat} {A B C : World} (h : But g A B) (k : But g B C) : But g A C :=
  ⟨k.os.trans h.os, k.tape.trans h.tape, k.output.trans h.output, Nat.le_trans h.size k.size, fun b hb hne => (k.block b (Nat.lt_of_lt_of_le hb h.size) hne).trans (h.block b hb hne)⟩
theorem But.set_ {g : Nat} {A B : World} (h : But g A B) (i : Nat) (u : Value) : But g A (B.setCell ⟨g, i, none⟩ u) :=
  h.trans ⟨rfl, rfl, rfl, by simp, fun b _ hne => Below.heap_setCell B ⟨g, i, none⟩ u b hne⟩
theorem But.later {g : Nat} {w A B : World} (h : But g A B) (hL : Later w A) (hg : w.heap.size ≤ g) : Later w B :=
  ⟨h.os.trans hL.os, h.tape.trans hL.tape, h.output.trans hL.output, Nat.le_trans hL.size h.size, fun b hb => (h.block b (Nat.lt_of_lt_of_le hb hL.size) (by omega)).trans (hL.block b hb)⟩
theorem But.blk {g b : Nat} {A B : World} {t : TypeId} {cs : Array Value} (h : But g A B) (k : Blk A b t cs) (hne : b ≠ g) : Blk B b t cs := (h.block b k.lt hne).trans k
theorem RI.but {g : Nat} {A B : World} {a : Option Addr} {n : Nat} {l : List Int} (h : RI A a n l) (k : But g A B) (hne : ∀ b o, a = some ⟨b, o, none⟩ → b ≠ g) : RI B a n l := by
  refine ⟨h.1, fun hn => ?_⟩
  obtain ⟨b, o, rfl, hb, hc⟩ := Reads.lit h (by omega) hn
  refine ⟨_, rfl, Nat.lt_of_lt_of_le hb k.size, fun j u hu => ?_⟩
  rw [add_lit]
  exact (World.cell?_of_block (a := ⟨b, o + j, none⟩) (k.block b hb (hne b o rfl))).trans (hc j u hu)

/-- the first list that can be left out, as the program finds it: many more from one on -/
def leaveGo (c : Clo) (n : Nat) : Nat → Nat → List Int → Option (List Int)
  | 0, _, out => if possibleP c out then some out else none
  | m + 1, f, out => (List.range' f (n - m - f)).findSome? fun i => leaveGo c n m (i + 1) (out ++ [(i : Int)])
theorem findSome_range_some {α : Type} (g : Nat → Option α) : ∀ (k f i : Nat) (x : α), f ≤ i → i < f + k → g i = some x → (∀ t, f ≤ t → t < i → g t = none) → (List.range' f k).findSome? g = some x
  | 0, f, i, x, h1, h2, _, _ => by omega
  | k + 1, f, i, x, h1, h2, h, hno => by
    rw [List.range'_succ, List.findSome?_cons]
    rcases Nat.eq_or_lt_of_le h1 with rfl | hlt
    · rw [h]
    · rw [hno f (Nat.le_refl _) hlt]
      exact findSome_range_some g k (f + 1) i x hlt (by omega) h fun t h3 h4 => hno t (by omega) h4
theorem findSome_range_none {α : Type} (g : Nat → Option α) (k f : Nat) (hno : ∀ t, f ≤ t → t < f + k → g t = none) : (List.range' f k).findSome? g = none := by
  rw [List.findSome?_eq_none_iff]
  intro t ht
  have := List.mem_range'_1.1 ht
  exact hno t this.1 this.2

/-- what the closure leaves -/
def LvPost (g : Nat) (W : World) (r : Option (List Int)) (e : Ending) (W' : World) : Prop :=
  But g W W' ∧ match r with
    | some x => e = .returned (.bool true) ∧ ∃ A n k, Blk W' g 23 #[.slice A n k] ∧ RI W' A n x ∧ n ≤ k ∧ ∀ b o, A = some ⟨b, o, none⟩ → b ≠ g
    | none => e = .returned (.bool false) ∧ ∃ v, Blk W' g 23 #[v]

theorem RI.of_snoc {w : World} {A : Option Addr} {n : Nat} {l : List Int} {x : Int} (h : Reads w w.heap.size 1 A n (ints l ++ [.int .i64 x])) : RI w A n (l ++ [x]) := by
  unfold RI; rw [show ints (l ++ [x]) = ints l ++ [.int .i64 x] by simp [ints]]; exact h
theorem own_apart {W : World} {base : Nat} {e : TypeId} {size : Nat} {A : Option Addr} {k n g : Nat} {xs : List Value} (h : W.ownsRow base e size (.slice A n k) n xs) (hg : g < base) : ∀ b o, A = some ⟨b, o, none⟩ → b ≠ g := fun b o e => by
  subst e
  have := (h.lt b rfl).1
  omega
theorem later_undrew {w W : World} (h : Later w.drew W) : Later w W := ⟨h.os, h.tape, h.output, h.size, h.block⟩
theorem one_cell (W : World) (x : Value) (t : TypeId) : ∀ j u, [x][j]? = some u → (W.alloc (.cells #[x] t)).cell? ((⟨W.heap.size, 0, none⟩ : Addr).add j) = some u := fun j u hj => by
  rw [add_lit, Nat.zero_add, (Blk.new W t #[x]).cell]
  simpa using hj
theorem one_cell_later {W W' : World} {x : Value} {t : TypeId} (h : Later (W.alloc (.cells #[x] t)) W') : ∀ j u, [x][j]? = some u → W'.cell? ((⟨W.heap.size, 0, none⟩ : Addr).add j) = some u := fun j u hj => by
  rw [add_lit, Nat.zero_add, ((Blk.new W t #[x]).later h).cell]
  simpa using hj
section
variable {c : Clo} {A1 A2 A3 : Option Addr} {n1 k1 n2 k2 n3 k3 bc bf bl : Nat} {wB : World}
set_option maxRecDepth 100000 in
set_option maxHeartbeats 2000000 in
theorem leave_in (hc : CV wB c A1 n1 A2 n2 A3 n3) (ok : OkC c) (hbox : Blk wB bc 35 #[.int .i64 c.closets, .int .i64 c.close, .slice A1 n1 k1, .slice A2 n2 k2, .slice A3 n3 k3]) (hbf : wB.heap.size ≤ bf) (hbl : bf < bl) (hn3 : n3 ≤ 5) :
    ∀ (m f : Nat) (out : List Int) (Ao : Option Addr) (no ko : Nat) (W : World), Later wB W → Blk W bl 134 #[.func (.func 88) #[] #[.pointer (some ⟨bf, 0, none⟩), .pointer (some ⟨bc, 0, none⟩), .pointer (some ⟨bl, 0, none⟩)]] →
      (∃ v, Blk W bf 23 #[v]) → RI W Ao no out → no ≤ ko → (∀ b o, Ao = some ⟨b, o, none⟩ → b ≠ bf) → no + m ≤ n3 → f ≤ n3 →
      Calls Try.prog 88 #[.slice Ao no ko, .int .i64 f, .int .i64 m, .pointer (some ⟨bf, 0, none⟩), .pointer (some ⟨bc, 0, none⟩), .pointer (some ⟨bl, 0, none⟩)] W (LvPost bf W (leaveGo c n3 m f out)) := by
  intro m
  induction m with
  | zero =>
    intro f out Ao no ko W hL hlv ⟨v, hfd⟩ ho hok hne hnm hf
    have x0 := hfd.cell 0
    have xf := hfd.frozen 0
    simp only [List.getElem?_toArray, List.getElem?_cons_zero, List.getElem?_cons_succ] at x0
    have hbt := (But.refl bf W).set_ 0 (.slice Ao no ko)
    have hLs : Later wB (W.setCell ⟨bf, 0, none⟩ (.slice Ao no ko)) := later_set hL _ hbf _
    have hbS := hbox.later hLs
    have y0 := hbS.cell 0
    have y1 := hbS.cell 1
    have y2 := hbS.cell 2
    have y3 := hbS.cell 3
    have y4 := hbS.cell 4
    simp only [List.getElem?_toArray, List.getElem?_cons_zero, List.getElem?_cons_succ] at y0 y1 y2 y3 y4
    have hoS := ho.but hbt hne
    have hps := possible_calls (k1 := k1) (k2 := k2) (k3 := k3) (ko := ko) _ (hc.later hLs) ok hoS (by omega)
    have hbk := hfd.set_ 0 (.slice Ao no ko)
    obtain ⟨b, hb⟩ : ∃ b, possibleP c out = b := ⟨_, rfl⟩
    have hgo : leaveGo c n3 0 f out = if b = true then some out else none := by unfold leaveGo; rw [hb]
    rw [hb] at hps
    have Hps := hide hps
    have Hbk : Hid (Blk (W.setCell ⟨bf, 0, none⟩ (.slice Ao no ko)) bf 23 #[.slice Ao no ko]) := hbk
    have Hgo := hide hgo
    have hcl : bc < bf := Nat.lt_of_lt_of_le hbox.lt hbf
    have hne1 : ¬ bc = bf := by omega
    clear hgo hps hbk hb hfd hbS
    go_enter Try.func88, Try.ntmps88
    go_wp2_with fail
    refine Hps.out.mono ?_
    rintro e w5 ⟨rfl, hL5⟩
    go_wp2_with fail
    go_ret
    refine ⟨hbt.trans (But.of_later hL5), ?_⟩
    rw [Hgo.out]
    cases b with
    | true => exact ⟨rfl, Ao, no, ko, Hbk.out.later hL5, hoS.later hL5, hok, hne⟩
    | false => exact ⟨rfl, _, Hbk.out.later hL5⟩
  | succ m ih =>
    intro f out Ao no ko W hL hlv hfd ho hok hne hnm hf
    have hwm : IntKind.i64.wrap ((n3 : Int) - ((m : Int) + 1)) = (n3 : Int) - ((m : Int) + 1) := IntWalk.i64_in _ (by omega)
    have hcl : bc < bf := Nat.lt_of_lt_of_le hbox.lt hbf
    have hgo : leaveGo c n3 (m + 1) f out = (List.range' f (n3 - m - f)).findSome? fun i => leaveGo c n3 m (i + 1) (out ++ [(i : Int)]) := rfl
    have Hgo := hide hgo
    have hm1 : (((m : Int) + 1) == 0) = false := by simp; omega
    rw [show ((m + 1 : Nat) : Int) = (m : Int) + 1 from rfl]
    have Hfd := hide hfd
    have hnl := ho.len
    have Hnl := hide hnl
    clear hgo hfd hnl
    go_enter Try.func88, Try.ntmps88
    go_wp2_with fail
    go_loopw [10] (fun i wr => ∃ j : Nat, f ≤ j ∧ j ≤ n3 ∧ i = .int .i64 j ∧ But bf W wr ∧ (∃ v, Blk wr bf 23 #[v]) ∧ Hid (∀ t, f ≤ t → t < j → leaveGo c n3 m (t + 1) (out ++ [(t : Int)]) = none)) (fun i _ => n3 + 1 - (intOf i).toNat)
    case atStart => exact ⟨f, Nat.le_refl _, hf, rfl, But.refl _ _, Hfd.out, fun t h1 h2 => absurd h1 (by omega)⟩
    case round =>
      obtain ⟨j, hfj, hjn, rfl, hB, ⟨v0, hfv⟩, Hno⟩ := hrel
      have hLr := hB.later hL hbf
      have hbr := (hbox.later hLr).cell 4
      simp only [List.getElem?_toArray, List.getElem?_cons_zero, List.getElem?_cons_succ] at hbr
      have hlvr := hB.blk hlv (by omega)
      have l0 := hlvr.cell 0
      simp only [List.getElem?_toArray, List.getElem?_cons_zero, List.getElem?_cons_succ] at l0
      have hor := ho.but hB hne
      by_cases hlt : j + m + 1 ≤ n3
      · have hle : (j : Int) ≤ (n3 : Int) - ((m : Int) + 1) := by omega
        have hw1 : IntKind.i64.wrap ((j : Int) + 1) = (j : Int) + 1 := IntWalk.i64_in _ (by omega)
        have hw2 : IntKind.i64.wrap ((m : Int) + 1 - 1) = (m : Int) := by rw [Int.add_sub_cancel]; exact IntWalk.i64_in _ (by omega)
        have hw3 : IntKind.i64.wrap (m : Int) = (m : Int) := IntWalk.i64_in _ (by omega)
        obtain ⟨r, hr⟩ : ∃ r, leaveGo c n3 m (j + 1) (out ++ [(j : Int)]) = r := ⟨_, rfl⟩
        have Hr := hide hr
        clear hr
        have hsz : wr.heap.size ≤ wr.drew.heap.size := Nat.le_refl _
        have hbfr := hfv.lt
        have hblr := hlvr.lt
        have hrec := fun (A' : Option Addr) (k' : Nat) (w3 : World) h1 h2 h3 h4 h5 h6 => ih (j + 1) (out ++ [(j : Int)]) A' (no + 1) k' w3 h1 h2 h3 h4 h5 h6 (by omega) (by omega)
        rw [Hr.out] at hrec
        simp only [Int.natCast_add, Int.natCast_one] at hrec
        have hno6 : no ≤ 1000000 := by omega
        have h16 : 1 ≤ 1000000 := by decide
        have h86 : 8 ≤ 1000 := by decide
        have hblne : bl ≠ bf := by omega
        have Hrec := hide hrec
        have Hfv := hide hfv
        have Hlvr := hide hlvr
        clear hrec hfv hlvr
        cases r with
        | none =>
          go_wp2_with fail
          go_region_held3 (fun X => X.cell? ⟨bl, 0, none⟩ = some (.func (.func 88) #[] #[.pointer (some ⟨bf, 0, none⟩), .pointer (some ⟨bc, 0, none⟩), .pointer (some ⟨bl, 0, none⟩)])) (first | assumption | (go_keep; done))
            (first
              | (go_at_call 89; go_must (refine (Clone_calls (l := out) _ (hor.later (by first | exact later_drew (later_refl _) | exact later_refl _ | exact later_alloc (later_refl _) _ | exact later_drew (later_alloc (later_refl _) _) | exact later_alloc (later_drew (later_refl _)) _)) (by omega)).mono ?_; rintro e w2 ⟨v, rfl, hL2, hown⟩; have hLw2 : Later wr w2 := Later.trans (by first | exact later_drew (later_refl _) | exact later_refl _ | exact later_alloc (later_refl _) _ | exact later_drew (later_alloc (later_refl _) _) | exact later_alloc (later_drew (later_refl _)) _) hL2; have hown2 : w2.ownsRow wr.heap.size 3 1 v no (ints out) := own_rebase hown (fun g e => Nat.le_trans (by first | exact Nat.le_refl _ | simp) (hown.lt g e).1); have l2 := (Hlvr.out.later hLw2).cell 0; simp only [List.getElem?_toArray, List.getElem?_cons_zero] at l2))
              | (refine appG_step rfl wr.heap.size _ _ 23 rfl 3 (.int .i64 0) 1 8 Try.underlying23 int_info rfl Nat.one_pos v no (ints out) rfl ?_ (hown2.alloc _) ⟨w2.heap.size, 0, none⟩ 1 1 [.int .i64 j] rfl rfl (one_cell w2 _ _) (ints_one [(j : Int)]) hno6 h16 h86 ?_; (focus (have := hLw2.size; simp; omega)); intro v' w3 hap; have hL3 : Later wr w3 := hap.later (later_alloc hLw2 _) (hown2.alloc _); obtain ⟨A', k', hv', hrd⟩ := own_slice hap.own; subst hv'; have hri : RI w3 A' (no + 1) (out ++ [(j : Int)]) := RI.of_snoc hrd; have hk' := own_cap hap.own; have hapt := own_apart hap.own hbfr; have l3 := (Hlvr.out.later hL3).cell 0; simp only [List.getElem?_toArray, List.getElem?_cons_zero] at l3)
              | (refine appG_step rfl wr.heap.size _ _ 23 rfl 3 (.int .i64 0) 1 8 Try.underlying23 int_info rfl Nat.one_pos v no (ints out) rfl ?_ hown2 ⟨wr.heap.size, 0, none⟩ 1 1 [.int .i64 j] rfl rfl (one_cell_later hL2) (ints_one [(j : Int)]) hno6 h16 h86 ?_; (focus (have := hLw2.size; omega)); intro v' w3 hap; have hL3 : Later wr w3 := hap.later hLw2 hown2; obtain ⟨A', k', hv', hrd⟩ := own_slice hap.own; subst hv'; have hri : RI w3 A' (no + 1) (out ++ [(j : Int)]) := RI.of_snoc hrd; have hk' := own_cap hap.own; have hapt := own_apart hap.own hbfr; have l3 := (Hlvr.out.later hL3).cell 0; simp only [List.getElem?_toArray, List.getElem?_cons_zero] at l3)
              | (refine appG_step rfl wr.heap.size _ _ 23 rfl 3 (.int .i64 0) 1 8 Try.underlying23 int_info rfl Nat.one_pos v no (ints out) rfl ?_ hown2 ⟨wr.heap.size, 0, none⟩ 1 1 [.int .i64 j] rfl rfl (one_cell_later (later_undrew hL2)) (ints_one [(j : Int)]) hno6 h16 h86 ?_; (focus (have := hLw2.size; omega)); intro v' w3 hap; have hL3 : Later wr w3 := hap.later hLw2 hown2; obtain ⟨A', k', hv', hrd⟩ := own_slice hap.own; subst hv'; have hri : RI w3 A' (no + 1) (out ++ [(j : Int)]) := RI.of_snoc hrd; have hk' := own_cap hap.own; have hapt := own_apart hap.own hbfr; have l3 := (Hlvr.out.later hL3).cell 0; simp only [List.getElem?_toArray, List.getElem?_cons_zero] at l3)
              | (go_at_call 88; go_must (refine (Hrec.out A' k' w3 (Later.trans hLr hL3) (Hlvr.out.later hL3) ⟨v0, Hfv.out.later hL3⟩ hri hk' hapt).mono ?_; rintro e w4 ⟨hB4, rfl, v4, hbk4⟩; have l4 := (hB4.blk (Hlvr.out.later hL3) hblne).cell 0; simp only [List.getElem?_toArray, List.getElem?_cons_zero] at l4)))
          all_goals
            have hB5 : But bf W w4 := hB.trans ((But.of_later hL3).trans hB4)
            clear l2 l3 l4 hL2 hown hown2 hap
            go_wp2_with fail
            go_roundw
            case rel =>
              refine ⟨j + 1, by omega, by omega, by go_num, hB5, ⟨v4, hbk4⟩, fun t h1 h2 => ?_⟩
              rcases Nat.lt_or_ge t j with h3 | h3
              · exact Hno.out t h1 h3
              · have : t = j := by omega
                subst this; exact Hr.out
            case measure => simp [intOf]; omega
        | some x =>
          go_wp2_with fail
          go_region_held3 (fun X => X.cell? ⟨bl, 0, none⟩ = some (.func (.func 88) #[] #[.pointer (some ⟨bf, 0, none⟩), .pointer (some ⟨bc, 0, none⟩), .pointer (some ⟨bl, 0, none⟩)])) (first | assumption | (go_keep; done))
            (first
              | (go_at_call 89; go_must (refine (Clone_calls (l := out) _ (hor.later (by first | exact later_drew (later_refl _) | exact later_refl _ | exact later_alloc (later_refl _) _ | exact later_drew (later_alloc (later_refl _) _) | exact later_alloc (later_drew (later_refl _)) _)) (by omega)).mono ?_; rintro e w2 ⟨v, rfl, hL2, hown⟩; have hLw2 : Later wr w2 := Later.trans (by first | exact later_drew (later_refl _) | exact later_refl _ | exact later_alloc (later_refl _) _ | exact later_drew (later_alloc (later_refl _) _) | exact later_alloc (later_drew (later_refl _)) _) hL2; have hown2 : w2.ownsRow wr.heap.size 3 1 v no (ints out) := own_rebase hown (fun g e => Nat.le_trans (by first | exact Nat.le_refl _ | simp) (hown.lt g e).1); have l2 := (Hlvr.out.later hLw2).cell 0; simp only [List.getElem?_toArray, List.getElem?_cons_zero] at l2))
              | (refine appG_step rfl wr.heap.size _ _ 23 rfl 3 (.int .i64 0) 1 8 Try.underlying23 int_info rfl Nat.one_pos v no (ints out) rfl ?_ (hown2.alloc _) ⟨w2.heap.size, 0, none⟩ 1 1 [.int .i64 j] rfl rfl (one_cell w2 _ _) (ints_one [(j : Int)]) hno6 h16 h86 ?_; (focus (have := hLw2.size; simp; omega)); intro v' w3 hap; have hL3 : Later wr w3 := hap.later (later_alloc hLw2 _) (hown2.alloc _); obtain ⟨A', k', hv', hrd⟩ := own_slice hap.own; subst hv'; have hri : RI w3 A' (no + 1) (out ++ [(j : Int)]) := RI.of_snoc hrd; have hk' := own_cap hap.own; have hapt := own_apart hap.own hbfr; have l3 := (Hlvr.out.later hL3).cell 0; simp only [List.getElem?_toArray, List.getElem?_cons_zero] at l3)
              | (refine appG_step rfl wr.heap.size _ _ 23 rfl 3 (.int .i64 0) 1 8 Try.underlying23 int_info rfl Nat.one_pos v no (ints out) rfl ?_ hown2 ⟨wr.heap.size, 0, none⟩ 1 1 [.int .i64 j] rfl rfl (one_cell_later hL2) (ints_one [(j : Int)]) hno6 h16 h86 ?_; (focus (have := hLw2.size; omega)); intro v' w3 hap; have hL3 : Later wr w3 := hap.later hLw2 hown2; obtain ⟨A', k', hv', hrd⟩ := own_slice hap.own; subst hv'; have hri : RI w3 A' (no + 1) (out ++ [(j : Int)]) := RI.of_snoc hrd; have hk' := own_cap hap.own; have hapt := own_apart hap.own hbfr; have l3 := (Hlvr.out.later hL3).cell 0; simp only [List.getElem?_toArray, List.getElem?_cons_zero] at l3)
              | (refine appG_step rfl wr.heap.size _ _ 23 rfl 3 (.int .i64 0) 1 8 Try.underlying23 int_info rfl Nat.one_pos v no (ints out) rfl ?_ hown2 ⟨wr.heap.size, 0, none⟩ 1 1 [.int .i64 j] rfl rfl (one_cell_later (later_undrew hL2)) (ints_one [(j : Int)]) hno6 h16 h86 ?_; (focus (have := hLw2.size; omega)); intro v' w3 hap; have hL3 : Later wr w3 := hap.later hLw2 hown2; obtain ⟨A', k', hv', hrd⟩ := own_slice hap.own; subst hv'; have hri : RI w3 A' (no + 1) (out ++ [(j : Int)]) := RI.of_snoc hrd; have hk' := own_cap hap.own; have hapt := own_apart hap.own hbfr; have l3 := (Hlvr.out.later hL3).cell 0; simp only [List.getElem?_toArray, List.getElem?_cons_zero] at l3)
              | (go_at_call 88; go_must (refine (Hrec.out A' k' w3 (Later.trans hLr hL3) (Hlvr.out.later hL3) ⟨v0, Hfv.out.later hL3⟩ hri hk' hapt).mono ?_; rintro e w4 ⟨hB4, rfl, A4, n4, k4, hbk4, hri4, hk4, hap4⟩; have l4 := (hB4.blk (Hlvr.out.later hL3) hblne).cell 0; simp only [List.getElem?_toArray, List.getElem?_cons_zero] at l4)))
          all_goals
            have hB5 : But bf W w4 := hB.trans ((But.of_later hL3).trans hB4)
            clear l2 l3 l4 hL2 hown hown2 hap
            go_wp2_with fail
            go_ret
            refine ⟨hB5, ?_⟩
            rw [Hgo.out, findSome_range_some _ _ _ j x hfj (by omega) Hr.out Hno.out]
            exact ⟨rfl, A4, n4, k4, hbk4, hri4, hk4, hap4⟩
      · have hle : (n3 : Int) - ((m : Int) + 1) < (j : Int) := by omega
        go_wp2_with fail
        go_ret
        refine ⟨hB, ?_⟩
        rw [Hgo.out, findSome_range_none _ _ _ fun t h1 h2 => Hno.out t h1 (by omega)]
        exact ⟨rfl, v0, hfv⟩
end
end Go.Proofs.Ytjilckjhdlabaaa

/- The program's Leave: walk. -/
namespace Go.Proofs.Ytjilckjhdlabaaa
open Go Go.RowKit

theorem later_alloc2 {w W : World} (h : Later w W) (a b : Obj) : Later w ((W.alloc a).alloc b) := later_alloc (later_alloc h a) b
attribute [local go_sem] later_alloc2 later_alloc3 later_alloc4
theorem dryAll_ne : ∀ (hs : List Horse), (∀ h ∈ hs, h.lo ≤ h.hi) → ∃ d, d ∈ dryAll hs
  | [], _ => ⟨[], by simp [dryAll]⟩
  | h :: hs, ok => by
    obtain ⟨d, hd⟩ := dryAll_ne hs fun x hx => ok x (List.mem_cons_of_mem _ hx)
    have := ok h List.mem_cons_self
    refine ⟨h.lo :: d, ?_⟩
    simp only [dryAll, List.mem_flatMap, List.mem_map, rangeL, List.mem_range]
    exact ⟨h.lo, ⟨0, by omega, by simp⟩, d, hd, rfl⟩
theorem leaveGo_full (c : Clo) (n : Nat) : ∀ (m f : Nat) (out : List Int), f + m = n → leaveGo c n m f out = if possibleP c (out ++ (List.range' f m).map fun (i : Nat) => (i : Int)) then some (out ++ (List.range' f m).map fun (i : Nat) => (i : Int)) else none
  | 0, f, out, _ => by simp [leaveGo]
  | m + 1, f, out, h => by
    unfold leaveGo
    rw [show n - m - f = 1 by omega, List.range'_one, List.findSome?_cons, List.findSome?_nil, leaveGo_full c n m (f + 1) _ (by omega), List.range'_succ]
    simp only [List.map_cons, List.append_assoc, List.cons_append, List.nil_append]
    generalize (if possibleP c (out ++ (f : Int) :: (List.range' (f + 1) m).map fun (i : Nat) => (i : Int)) = true then some (out ++ (f : Int) :: (List.range' (f + 1) m).map fun (i : Nat) => (i : Int)) else none) = r
    cases r <;> rfl
/-- the smallest set, as the program finds it -/
def leaveP (c : Clo) : Option (List Int) := (List.range' 0 (c.looks.length + 1)).findSome? fun m => leaveGo c c.looks.length m 0 []
theorem leaveGo_last {c : Clo} (ok : OkC c) : leaveGo c c.looks.length c.looks.length 0 [] ≠ none := by
  rw [leaveGo_full _ _ _ _ _ (by omega)]
  have : possibleP c ([] ++ (List.range' 0 c.looks.length).map fun (i : Nat) => (i : Int)) = true := by
    unfold possibleP
    rw [List.any_eq_true]
    obtain ⟨d, hd⟩ := dryAll_ne c.horses fun h hh => by have := ok.horse h hh; omega
    refine ⟨d, hd, (rightP_iff ok _).2 fun j l hj => .inl ?_⟩
    have := (List.getElem?_eq_some_iff.1 hj).1
    simp only [List.nil_append, List.mem_map, List.mem_range'_1]
    exact ⟨j, ⟨Nat.zero_le _, by omega⟩, rfl⟩
  rw [if_pos this]
  simp
def leaveOut (c : Clo) : List Int := if fault c = 0 then (leaveP c).getD [] else []
def LeavePost (c : Clo) (w : World) (e : Ending) (w' : World) : Prop :=
  ∃ A n k, e = .returned (.tuple #[.slice A n k, .int .i64 (fault c)]) ∧ Later w w' ∧ RI w' A n (leaveOut c) ∧ n ≤ k

set_option maxRecDepth 100000 in
set_option maxHeartbeats 1000000 in
theorem LeaveP_calls {A1 A2 A3 : Option Addr} {n1 k1 n2 k2 n3 k3 : Nat} {c : Clo} (w : World) (hc : CV w c A1 n1 A2 n2 A3 n3) (hcl : i64 c.closets) (hn1 : n1 ≤ 1000) (hn2 : n2 ≤ 1000) (hn3 : n3 ≤ 1000) (hk2 : n2 ≤ k2) :
    Calls Try.prog 35 #[(.agg #[.int .i64 c.closets, .int .i64 c.close, .slice A1 n1 k1, .slice A2 n2 k2, .slice A3 n3 k3])] w fun e w' => LeavePost c w e w' := by
  obtain ⟨w0, hw0⟩ : ∃ W, W = (w.alloc (.cells #[.int .i64 c.closets, .int .i64 c.close, .slice A1 n1 k1, .slice A2 n2 k2, .slice A3 n3 k3] 35)) := ⟨_, rfl⟩; have hbox : ∀ W, Later w0 W → ∀ i, W.cell? ⟨w.heap.size, i, none⟩ = #[.int .i64 c.closets, .int .i64 c.close, .slice A1 n1 k1, .slice A2 n2 k2, .slice A3 n3 k3][i]? := (by rw [hw0]; exact box_cells w #[.int .i64 c.closets, .int .i64 c.close, .slice A1 n1 k1, .slice A2 n2 k2, .slice A3 n3 k3] 35); have hL0 : Later w w0 := (by rw [hw0]; simp); have hc0 := hc.later hL0; have Hw0 := hide hw0; clear hw0
  obtain ⟨q, hq⟩ : ∃ q, fault c = q := ⟨_, rfl⟩
  have hck := CheckCloset_eq (k1 := k1) (k3 := k3) w0 hc0 hq hcl hn1 hn2 hn3 hk2
  by_cases hf : q = 0
  · subst hf
    have ok := okC_of_fault hq
    have hll := hc.lk.len
    have hl5 := ok.nlooks
    have hn5 : n3 ≤ 5 := by omega
    have kb : Blk w0 w.heap.size 35 #[.int .i64 c.closets, .int .i64 c.close, .slice A1 n1 k1, .slice A2 n2 k2, .slice A3 n3 k3] := by rw [Hw0.out]; exact Blk.new _ _ _
    have Hll := hide hll
    have Hq := hide hq
    clear hll hq
    go_enter Try.func35, Try.ntmps35
    go_wp2_with fail
    rw [← Hw0.out]; clear Hw0
    refine hck.mono ?_
    rintro e w1 ⟨rfl, hL1⟩
    have hc1 := hc0.later hL1
    have kb1 := kb.later hL1
    have hwn : IntKind.i64.wrap ((n3 : Int) + 1) = (n3 : Int) + 1 := IntWalk.i64_in _ (by omega)
    obtain ⟨bf, hbf⟩ : ∃ b, b = w1.heap.size := ⟨_, rfl⟩
    obtain ⟨W0, hW0⟩ : ∃ X, X = (w1.alloc (.cells #[.slice none 0 0] 23)).alloc (.cells #[.func (.func 88) #[] #[.pointer (some ⟨w1.heap.size, 0, none⟩), .pointer (some ⟨w.heap.size, 0, none⟩), .pointer (some ⟨w1.heap.size + 1, 0, none⟩)]] 134) := ⟨_, rfl⟩
    have hLW0 : Later w1 W0 := by rw [hW0]; exact later_alloc (later_alloc (later_refl _) _) _
    have kf : Blk W0 w1.heap.size 23 #[.slice none 0 0] := by rw [hW0]; exact (Blk.new _ _ _).alloc _
    have kl : Blk W0 (w1.heap.size + 1) 134 #[.func (.func 88) #[] #[.pointer (some ⟨w1.heap.size, 0, none⟩), .pointer (some ⟨w.heap.size, 0, none⟩), .pointer (some ⟨w1.heap.size + 1, 0, none⟩)]] := by
      rw [hW0]
      have := Blk.new (w1.alloc (.cells #[.slice none 0 0] 23)) 134 #[.func (.func 88) #[] #[.pointer (some ⟨w1.heap.size, 0, none⟩), .pointer (some ⟨w.heap.size, 0, none⟩), .pointer (some ⟨w1.heap.size + 1, 0, none⟩)]]
      rw [World.size_alloc] at this; exact this
    have HW0 := hide hW0
    clear hW0
    go_wp2_with fail
    rw [← HW0.out]
    have hlv := leave_in (bc := w.heap.size) (bf := w1.heap.size) (bl := w1.heap.size + 1) (k1 := k1) (k2 := k2) (k3 := k3) hc1 ok kb1 (Nat.le_refl _) (Nat.lt_succ_self _) hn5
    have Hlv := hide hlv
    have hbx4 : ∀ W, Later w1 W → W.cell? ⟨w.heap.size, 4, none⟩ = some (.slice A3 n3 k3) := fun W hW => kb1.cells_later W hW 4
    have hbflt := kf.lt
    clear hlv hbox
    go_loopw [18] (fun i wr => ∃ j : Nat, j ≤ n3 + 1 ∧ i = .int .i64 j ∧ But w1.heap.size W0 wr ∧ (∃ v, Blk wr w1.heap.size 23 #[v]) ∧ Hid (∀ t, t < j → leaveGo c n3 t 0 [] = none)) (fun i _ => n3 + 1 - (intOf i).toNat)
    case atStart => exact ⟨0, Nat.zero_le _, rfl, But.refl _ _, ⟨_, kf⟩, fun t h => absurd h (Nat.not_lt_zero _)⟩
    case round =>
      obtain ⟨j, hj, rfl, hB, ⟨v0, hfv⟩, Hno⟩ := hrel
      have hL1r := hB.later hLW0 (Nat.le_refl _)
      have hkl := hB.blk kl (by omega)
      have l0 := hkl.cell 0
      simp only [List.getElem?_toArray, List.getElem?_cons_zero, List.getElem?_cons_succ] at l0
      by_cases hlt : j < n3 + 1
      · have hi1 : (j : Int) < (n3 : Int) + 1 := by omega
        obtain ⟨r, hr⟩ : ∃ r, leaveGo c n3 j 0 [] = r := ⟨_, rfl⟩
        have hcall := Hlv.out j 0 [] none 0 0 wr hL1r hkl ⟨v0, hfv⟩ RI.nil (Nat.le_refl _) (fun b o e => by cases e) (by omega) (by omega)
        rw [hr] at hcall
        have Hr := hide hr
        have Hcall := hide hcall
        have Hfv := hide hfv
        clear hr hcall hfv hkl
        cases r with
        | none =>
          go_wp2_with fail
          refine Hcall.out.mono ?_
          rintro e w4 ⟨hB4, rfl, v4, hbk4⟩
          go_wp2_with fail
          go_roundw
          case rel =>
            refine ⟨j + 1, hlt, by go_num, hB.trans hB4, ⟨v4, hbk4⟩, fun t ht => ?_⟩
            rcases Nat.lt_or_ge t j with h3 | h3
            · exact Hno.out t h3
            · have : t = j := by omega
              subst this; exact Hr.out
          case measure => simp [intOf]; omega
        | some x =>
          have hlo : leaveOut c = x := by
            unfold leaveOut leaveP
            rw [if_pos Hq.out, ← Hll.out, findSome_range_some _ _ _ j x (Nat.zero_le _) (by omega) Hr.out fun t _ ht => Hno.out t ht]
            rfl
          have Hlo := hide hlo
          clear hlo
          go_wp2_with fail
          refine Hcall.out.mono ?_
          rintro e w4 ⟨hB4, rfl, A4, n4, k4, hbk4, hri4, hk4, hap4⟩
          have f0 := hbk4.cell 0
          simp only [List.getElem?_toArray, List.getElem?_cons_zero, List.getElem?_cons_succ] at f0
          have hfin := Later.trans hL0 (Later.trans hL1 (hB4.later hL1r (Nat.le_refl _)))
          clear hbk4
          go_wp2_with fail
          refine bodyPost_ret (v := .tuple #[.slice A4 n4 k4, .int .i64 0]) ?_ rfl ⟨A4, n4, k4, by rw [Hq.out], hfin, by rw [Hlo.out]; exact hri4, hk4⟩
          simp [results, Try.results35, go_sem]
      · have hbad := leaveGo_last ok
        rw [← Hll.out, Hno.out n3 (by omega)] at hbad
        exact absurd rfl hbad
  · have hqb : (q != 0) = true := by simpa using hf
    have hfo : leaveOut c = [] := by unfold leaveOut; rw [hq, if_neg hf]
    have Hfo := hide hfo
    have Hf := hide hf
    have Hq := hide hq
    clear hf hq hfo
    go_enter Try.func35, Try.ntmps35
    go_wp2_with fail
    rw [← Hw0.out]; clear Hw0
    refine hck.mono ?_
    rintro e w1 ⟨rfl, hL1⟩
    go_wp2_with fail
    refine bodyPost_ret (v := .tuple #[.slice none 0 0, .int .i64 q]) ?_ rfl ⟨none, 0, 0, by rw [Hq.out], Later.trans hL0 hL1, by rw [Hfo.out]; exact RI.nil, Nat.le_refl _⟩
    simp [results, Try.results35, go_sem]
end Go.Proofs.Ytjilckjhdlabaaa

/- The program's good minutes, and what follows of them, are those of the reference. -/
namespace Go.Proofs.Ytjilckjhdlabaaa

def fW (f : List Int → Int) (l : List (List Int)) (r : Int × Int) : Int × Int := l.foldl (fun r d => wider r (f d)) r
structure FW (f : List Int → Int) (l : List (List Int)) (r R : Int × Int) : Prop where
  lo : R.1 ≤ r.1
  hi : r.2 ≤ R.2
  all : ∀ d ∈ l, R.1 ≤ f d ∧ f d ≤ R.2
  eLo : R.1 = r.1 ∨ ∃ d ∈ l, f d = R.1
  eHi : R.2 = r.2 ∨ ∃ d ∈ l, f d = R.2
theorem fW_cons (f : List Int → Int) (x : List Int) (l : List (List Int)) (r R : Int × Int) (h : FW f l (wider r (f x)) R) : FW f (x :: l) r R := by
  have h1 : R.1 ≤ min r.1 (f x) := h.lo
  have h2 : max r.2 (f x) ≤ R.2 := h.hi
  refine ⟨by omega, by omega, fun d hd => ?_, ?_, ?_⟩
  · rcases List.mem_cons.1 hd with rfl | hd
    · exact ⟨by omega, by omega⟩
    · exact h.all d hd
  · rcases h.eLo with e | ⟨d, hd, e⟩
    · have e2 : R.1 = min r.1 (f x) := e
      by_cases hle : r.1 ≤ f x
      · left; omega
      · right; exact ⟨x, List.mem_cons_self, by omega⟩
    · right; exact ⟨d, List.mem_cons_of_mem _ hd, e⟩
  · rcases h.eHi with e | ⟨d, hd, e⟩
    · have e2 : R.2 = max r.2 (f x) := e
      by_cases hle : f x ≤ r.2
      · left; omega
      · right; exact ⟨x, List.mem_cons_self, by omega⟩
    · right; exact ⟨d, List.mem_cons_of_mem _ hd, e⟩
theorem wider_fold (f : List Int → Int) (l : List (List Int)) (r : Int × Int) : FW f l r (fW f l r) := by
  induction l generalizing r with
  | nil => exact ⟨Int.le_refl _, Int.le_refl _, by simp, .inl rfl, .inl rfl⟩
  | cons x l ih => exact fW_cons f x l r _ (ih _)
theorem bP_spec (f : List Int → Int) {l : List (List Int)} (hl : l ≠ []) : (∀ d ∈ l, (bP f l).1 ≤ f d ∧ f d ≤ (bP f l).2) ∧ (∃ d ∈ l, f d = (bP f l).1) ∧ (∃ d ∈ l, f d = (bP f l).2) := by
  cases l with
  | nil => exact absurd rfl hl
  | cons x l =>
    have h := wider_fold f l (f x, f x)
    show (∀ d ∈ x :: l, (fW f l (f x, f x)).1 ≤ f d ∧ f d ≤ (fW f l (f x, f x)).2) ∧ (∃ d ∈ x :: l, f d = (fW f l (f x, f x)).1) ∧ (∃ d ∈ x :: l, f d = (fW f l (f x, f x)).2)
    generalize fW f l (f x, f x) = R at *
    refine ⟨fun d hd => ?_, ?_, ?_⟩
    · rcases List.mem_cons.1 hd with rfl | hd
      · exact ⟨h.lo, h.hi⟩
      · exact h.all d hd
    · rcases h.eLo with h | ⟨d, hd, e⟩
      · exact ⟨x, List.mem_cons_self, h.symm⟩
      · exact ⟨d, List.mem_cons_of_mem _ hd, e⟩
    · rcases h.eHi with h | ⟨d, hd, e⟩
      · exact ⟨x, List.mem_cons_self, h.symm⟩
      · exact ⟨d, List.mem_cons_of_mem _ hd, e⟩
/-- the bounds go by what is in a list, not by its order -/
theorem bP_congr (f : List Int → Int) {l m : List (List Int)} (hl : l ≠ []) (h : ∀ d, d ∈ l ↔ d ∈ m) : bP f l = bP f m := by
  have hm : m ≠ [] := by
    intro e
    subst e
    cases l with
    | nil => exact hl rfl
    | cons x l => exact absurd ((h x).1 List.mem_cons_self) (by simp)
  obtain ⟨a1, ⟨d1, b1, c1⟩, ⟨d2, b2, c2⟩⟩ := bP_spec f hl
  obtain ⟨a3, ⟨d3, b3, c3⟩, ⟨d4, b4, c4⟩⟩ := bP_spec f hm
  have e1 := a3 d1 ((h d1).1 b1)
  have e2 := a3 d2 ((h d2).1 b2)
  have e3 := a1 d3 ((h d3).2 b3)
  have e4 := a1 d4 ((h d4).2 b4)
  apply Prod.ext <;> omega

theorem verdict_one (c : Clo) (l : List (List Int)) (p : List Int) (h : Nat) (m : Int) : verdict c l p h m = 1 ↔ ∀ d ∈ l, isRight c p d h m = true := by
  unfold verdict
  rw [← List.countP_eq_length]
  by_cases h1 : l.countP (fun d => isRight c p d h m) = l.length
  · simp [h1]
  · rw [if_neg h1]
    split <;> simp only [h1, iff_false] <;> decide
theorem verdict_bP {c : Clo} {l tr : List (List Int)} (h : ∀ d, d ∈ l ↔ d ∈ tr) (hne : tr ≠ []) (p : List Int) (i : Nat) (m : Int) :
    verdict c l p i m = 1 ↔ (bP (fun d => minuteR c p d i) tr).2 ≤ m ∧ m ≤ (bP (fun d => minuteR c p d i + graceAt c i) tr).1 := by
  rw [verdict_one]
  obtain ⟨a1, _, ⟨d2, b2, c2⟩⟩ := bP_spec (fun d => minuteR c p d i) hne
  obtain ⟨a3, ⟨d3, b3, c3⟩, _⟩ := bP_spec (fun d => minuteR c p d i + graceAt c i) hne
  simp only [isRight, inB, Bool.and_eq_true, decide_eq_true_eq]
  constructor
  · intro k
    have k2 := (k d2 ((h d2).2 b2)).1
    have k3 := (k d3 ((h d3).2 b3)).2
    (try dsimp only at *)
    omega
  · rintro ⟨k1, k2⟩ d hd
    have e1 := (a1 d ((h d).1 hd)).2
    have e2 := (a3 d ((h d).1 hd)).1
    (try dsimp only at *)
    omega
theorem goodTo {c : Clo} {l : List (List Int)} {p : List Int} {i : Nat} {lo hi : Int} (h0 : 0 ≤ lo) (h : ∀ m : Int, verdict c l p i m = 1 ↔ lo ≤ m ∧ m ≤ hi) (k : Nat) :
    (List.range k).foldl (goodStep c l p i) (1, 0) = if lo < k ∧ lo ≤ hi then (lo, min ((k : Int) - 1) hi) else (1, 0) := by
  induction k with
  | zero => rw [if_neg (by omega)]; rfl
  | succ k ih =>
    rw [List.range_succ, List.foldl_append, List.foldl_cons, List.foldl_nil, ih]
    by_cases hk : lo < k ∧ lo ≤ hi
    · rw [if_pos hk]
      unfold goodStep
      by_cases hv : lo ≤ k ∧ k ≤ hi
      · rw [if_pos ((h k).2 hv), if_pos (show lo < ((k + 1 : Nat) : Int) ∧ lo ≤ hi by omega)]
        show ((if min ((k : Int) - 1) hi < lo then (k : Int) else lo), (k : Int)) = (lo, min (((k + 1 : Nat) : Int) - 1) hi)
        rw [if_neg (show ¬ min ((k : Int) - 1) hi < lo by omega)]
        exact Prod.ext rfl (show (k : Int) = min (((k + 1 : Nat) : Int) - 1) hi by omega)
      · rw [if_neg (fun hh => hv ((h k).1 hh)), if_pos (by omega)]
        exact Prod.ext rfl (show min ((k : Int) - 1) hi = min (((k + 1 : Nat) : Int) - 1) hi by omega)
    · rw [if_neg hk]
      unfold goodStep
      by_cases hv : lo ≤ k ∧ k ≤ hi
      · rw [if_pos ((h k).2 hv), if_pos (show lo < ((k + 1 : Nat) : Int) ∧ lo ≤ hi by omega)]
        show ((if (0 : Int) < 1 then (k : Int) else 1), (k : Int)) = (lo, min (((k + 1 : Nat) : Int) - 1) hi)
        rw [if_pos (show (0 : Int) < 1 by omega)]
        exact Prod.ext (show (k : Int) = lo by omega) (show (k : Int) = min (((k + 1 : Nat) : Int) - 1) hi by omega)
      · rw [if_neg (fun hh => hv ((h k).1 hh)), if_neg (by omega)]
theorem bP_nonneg {c : Clo} (ok : OkH c) {tr : List (List Int)} (hdry : ∀ d ∈ tr, IsDry c d) (hne : tr ≠ []) {p : List Int} (hp : IsPl c p) {i : Nat} (hi : i < c.horses.length) : 1 ≤ (bP (fun d => minuteR c p d i) tr).2 := by
  obtain ⟨_, _, ⟨d, b, e⟩⟩ := bP_spec (fun d => minuteR c p d i) hne
  have := minuteR_range ok (p := p) (by have := hp.len; omega) (hdry d b) i hi
  (try dsimp only at *)
  omega
/-- the good minutes are the same, where there are any -/
theorem goodR_eq {c : Clo} (ok : OkC c) {l tr : List (List Int)} (h : ∀ d, d ∈ l ↔ d ∈ tr) (hne : tr ≠ []) (hdry : ∀ d ∈ tr, IsDry c d) {p : List Int} (hp : IsPl c p) {i : Nat} (hi : i < c.horses.length) :
    goodR c l p i = if (goodP c tr p i).2 < (goodP c tr p i).1 then (1, 0) else goodP c tr p i := by
  have h1 := bP_nonneg ok.toOkH hdry hne hp hi
  have h2 := ok.close
  unfold goodR
  rw [goodTo (lo := (bP (fun d => minuteR c p d i) tr).2) (hi := (bP (fun d => minuteR c p d i + graceAt c i) tr).1) (by omega) (verdict_bP h hne p i)]
  unfold goodP
  generalize (bP (fun d => minuteR c p d i) tr).2 = a at *
  generalize (bP (fun d => minuteR c p d i + graceAt c i) tr).1 = b at *
  dsimp only
  by_cases hk : a < ((c.close + 1).toNat : Int) ∧ a ≤ b
  · rw [if_pos hk, if_neg (by omega)]
    apply Prod.ext <;> dsimp only <;> omega
  · rw [if_neg hk, if_pos (by omega)]
theorem noGood_eq {c : Clo} (ok : OkC c) {l tr : List (List Int)} (h : ∀ d, d ∈ l ↔ d ∈ tr) (hne : tr ≠ []) (hdry : ∀ d ∈ tr, IsDry c d) {p : List Int} (hp : IsPl c p) {i : Nat} (hi : i < c.horses.length) :
    noGood c l p i = decide ((goodP c tr p i).2 < (goodP c tr p i).1) := by
  unfold noGood
  rw [goodR_eq ok h hne hdry hp hi]
  split
  · simp [*]
  · rfl

theorem doneG_spec (G : Nat → Int × Int) : ∀ (k i : Nat) (n : Int),
    (∃ j, i ≤ j ∧ j < i + k ∧ (G j).2 < (G j).1 ∧ (∀ t, i ≤ t → t < j → ¬ (G t).2 < (G t).1) ∧ doneG G k i n = (0, (j : Int))) ∨
    ((∀ t, i ≤ t → t < i + k → ¬ (G t).2 < (G t).1) ∧ doneG G k i n = ((List.range' i k).foldl (fun n t => max n (G t).1) n, ((i + k : Nat) : Int)))
  | 0, i, n => .inr ⟨fun t h1 h2 => by omega, by simp [doneG]⟩
  | k + 1, i, n => by
    by_cases hb : (G i).2 < (G i).1
    · exact .inl ⟨i, by omega, by omega, hb, fun t h1 h2 => by omega, by simp [doneG, hb]⟩
    · have e : doneG G (k + 1) i n = doneG G k (i + 1) (max n (G i).1) := by simp [doneG, hb]
      rcases doneG_spec G k (i + 1) (max n (G i).1) with ⟨j, h1, h2, h3, h4, h5⟩ | ⟨h1, h2⟩
      · refine .inl ⟨j, by omega, by omega, h3, fun t ht1 ht2 => ?_, by rw [e, h5]⟩
        rcases Nat.eq_or_lt_of_le ht1 with rfl | hlt
        · exact hb
        · exact h4 t hlt ht2
      · refine .inr ⟨fun t ht1 ht2 => ?_, ?_⟩
        · rcases Nat.eq_or_lt_of_le ht1 with rfl | hlt
          · exact hb
          · exact h1 t hlt (by omega)
        · rw [e, h2, List.range'_succ, List.foldl_cons, show i + 1 + k = i + (k + 1) by omega]
/-- the first horse without a good minute; the minute in which all can be taken out -/
theorem doneP_spec {c : Clo} (ok : OkC c) {l tr : List (List Int)} (h : ∀ d, d ∈ l ↔ d ∈ tr) (hne : tr ≠ []) (hdry : ∀ d ∈ tr, IsDry c d) {p : List Int} (hp : IsPl c p) :
    (∃ j : Nat, j < c.horses.length ∧ stuckR c l p = j ∧ doneP c tr p = (0, (j : Int))) ∨
    (stuckR c l p = -1 ∧ doneP c tr p = (doneR c l p, (c.horses.length : Int)) ∧ ∀ i, i < c.horses.length → goodR c l p i = goodP c tr p i ∧ (goodP c tr p i).1 ≤ (goodP c tr p i).2) := by
  have hn := fun {i : Nat} (hi : i < c.horses.length) => noGood_eq ok h hne hdry hp hi
  unfold doneP
  rcases doneG_spec (goodP c tr p) c.horses.length 0 0 with ⟨j, _, h2, h3, h4, h5⟩ | ⟨h1, h2⟩
  · left
    refine ⟨j, by omega, ?_, h5⟩
    unfold stuckR
    rw [find_range_some (j := j) (by omega) (by rw [hn (by omega)]; simpa using h3) fun t ht => by rw [hn (by omega)]; simpa using h4 t (Nat.zero_le _) ht]
  · right
    have hg : ∀ i, i < c.horses.length → goodR c l p i = goodP c tr p i := fun i hi => by
      rw [goodR_eq ok h hne hdry hp hi, if_neg (h1 i (Nat.zero_le _) (by omega))]
    refine ⟨?_, ?_, fun i hi => ⟨hg i hi, by have := h1 i (Nat.zero_le _) (by omega); omega⟩⟩
    · unfold stuckR
      rw [find_range_none fun t ht => by rw [hn ht]; simpa using h1 t (Nat.zero_le _) (by omega)]
    · rw [h2, Nat.zero_add]
      unfold doneR
      rw [List.range_eq_range']
      have key : ∀ (xs : List Nat) (a : Int), (∀ x ∈ xs, x < c.horses.length) → xs.foldl (fun n t => max n (goodP c tr p t).1) a = xs.foldl (fun n t => max n (goodR c l p t).1) a := by
        intro xs
        induction xs with
        | nil => intro a _; rfl
        | cons x xs ih =>
          intro a hx
          simp only [List.foldl_cons, hg x (hx x List.mem_cons_self)]
          exact ih _ fun y hy => hx y (List.mem_cons_of_mem _ hy)
      rw [key _ _ fun x hx => by simpa using (List.mem_range'_1.1 hx).2]
end Go.Proofs.Ytjilckjhdlabaaa

/- The best placement: the program's enumeration is the reference's. -/
namespace Go.Proofs.Ytjilckjhdlabaaa

/-- all lists of k numbers below m, in lexicographic order -/
def lexAll (m : Nat) : Nat → List (List Int)
  | 0 => [[]]
  | k + 1 => (List.range m).flatMap fun (i : Nat) => (lexAll m k).map ((i : Int) :: ·)
theorem lexAll_last (m : Nat) : ∀ k, lexAll m (k + 1) = (lexAll m k).flatMap fun l => (List.range m).map fun (i : Nat) => l ++ [(i : Int)]
  | 0 => by simp only [lexAll, List.map_cons, List.map_nil, List.flatMap_cons, List.flatMap_nil, List.append_nil, List.nil_append]; rw [List.map_eq_flatMap]
  | k + 1 => by
    have ih := lexAll_last m k
    have e1 : lexAll m (k + 1 + 1) = (List.range m).flatMap fun (i : Nat) => (lexAll m (k + 1)).map ((i : Int) :: ·) := rfl
    have e2 : lexAll m (k + 1) = (List.range m).flatMap fun (i : Nat) => (lexAll m k).map ((i : Int) :: ·) := rfl
    have e3 : (fun (i : Nat) => (lexAll m (k + 1)).map ((i : Int) :: ·)) = fun (i : Nat) => ((lexAll m k).flatMap fun l => (List.range m).map fun (j : Nat) => l ++ [(j : Int)]).map ((i : Int) :: ·) := by rw [ih]
    rw [e1, e3, e2]
    simp only [List.map_flatMap, List.flatMap_assoc, List.flatMap_map, List.map_map]
    rfl
theorem placeAux_append (m : Int) : ∀ (k : Nat) (n : Int) (acc : List Int), placeAux m k n acc = placeAux m k n [] ++ acc
  | 0, _, _ => rfl
  | k + 1, n, acc => by
    simp only [placeAux]
    rw [placeAux_append m k _ (n % m :: acc), placeAux_append m k _ [n % m]]; simp
theorem placeAux_lex (m : Nat) (hm : 0 < m) : ∀ k, (List.range (m ^ k)).map (fun (n : Nat) => placeAux (m : Int) k n []) = lexAll m k
  | 0 => by simp [placeAux, lexAll]
  | k + 1 => by
    rw [Nat.pow_succ, Nat.mul_comm, range_mul_, List.map_flatMap, lexAll_last, ← placeAux_lex m hm k, List.flatMap_map]
    congr 1
    funext j
    rw [List.map_map]
    apply List.map_congr_left
    intro i hi
    have hi' : i < m := by simpa using hi
    have e1 : ((i + m * j : Nat) : Int) % (m : Int) = i := by rw [← Int.natCast_emod, Nat.add_mul_mod_self_left, Nat.mod_eq_of_lt hi']
    have e2 : ((i + m * j : Nat) : Int) / (m : Int) = j := by rw [← Int.natCast_ediv, Nat.add_mul_div_left _ _ hm, Nat.div_eq_of_lt hi', Nat.zero_add]
    simp only [Function.comp, placeAux, e1, e2]
    rw [placeAux_append]
/-- the placements, as the program goes through them -/
def hangL (m : Nat) : Nat → List Int → List (List Int)
  | 0, now => [now]
  | k + 1, now => (List.range m).flatMap fun (i : Nat) => if now.contains (i : Int) then [] else hangL m k (now ++ [(i : Int)])
theorem hangL_lex (m : Nat) : ∀ (k : Nat) (now : List Int), now.Nodup → hangL m k now = ((lexAll m k).map (now ++ ·)).filter fun l => decide l.Nodup
  | 0, now, h => by simp [hangL, lexAll, h]
  | k + 1, now, h => by
    simp only [hangL, lexAll, List.map_flatMap, List.filter_flatMap, List.map_map]
    congr 1
    funext i
    have e : ((now ++ ·) ∘ ((i : Int) :: ·) : List Int → List Int) = ((now ++ [(i : Int)]) ++ ·) := by funext l; simp
    rw [e]
    cases hc : now.contains (i : Int) with
    | true =>
      have hmem := List.contains_iff_mem.1 hc
      rw [if_pos rfl]
      symm
      rw [List.filter_eq_nil_iff]
      intro l hl
      obtain ⟨t, _, rfl⟩ := List.mem_map.1 hl
      simp only [decide_eq_true_eq, List.append_assoc, List.nodup_append]
      intro hh
      exact hh.2.2 (i : Int) hmem (i : Int) (by simp) rfl
    | false =>
      have hmem : (i : Int) ∉ now := fun hh => by rw [List.contains_iff_mem.2 hh] at hc; cases hc
      rw [if_neg (by simp)]
      refine hangL_lex m k _ ?_
      rw [List.nodup_append]
      exact ⟨h, by simp, fun a ha b hb e => by simp at hb; subst hb; subst e; exact hmem ha⟩
theorem lexAll_mem (m : Nat) : ∀ (k : Nat) (l : List Int), l ∈ lexAll m k → l.length = k ∧ ∀ x ∈ l, 0 ≤ x ∧ x < (m : Int)
  | 0, l, h => by simp [lexAll] at h; subst h; simp
  | k + 1, l, h => by
    simp only [lexAll, List.mem_flatMap, List.mem_range, List.mem_map] at h
    obtain ⟨i, hi, t, ht, rfl⟩ := h
    obtain ⟨h1, h2⟩ := lexAll_mem m k t ht
    refine ⟨by simp [h1], fun x hx => ?_⟩
    rcases List.mem_cons.1 hx with rfl | hx
    · omega
    · exact h2 x hx
theorem hangL_isPl {c : Clo} (ok : OkH c) : ∀ p ∈ hangL c.closets.toNat c.horses.length [], IsPl c p := fun p hp => by
  have hc1 := ok.cl1
  rw [hangL_lex _ _ _ List.nodup_nil, List.mem_filter] at hp
  obtain ⟨t, ht, rfl⟩ := List.mem_map.1 hp.1
  obtain ⟨h1, h2⟩ := lexAll_mem _ _ _ ht
  exact ⟨by simpa using h1, fun x hx => by have := h2 x (by simpa using hx); omega, by simpa using hp.2⟩
theorem hangL_places {c : Clo} (ok : OkH c) : ((List.range (places c).toNat).map fun (n : Nat) => placeN c n).filter (isPlaceB c) = hangL c.closets.toNat c.horses.length [] := by
  have hc1 := ok.cl1
  have hc4 := ok.cl4
  obtain ⟨m, hm⟩ : ∃ m : Nat, c.closets = (m : Int) := ⟨c.closets.toNat, by omega⟩
  have e1 : (places c).toNat = m ^ c.horses.length := by unfold places; rw [hm, ← Int.natCast_pow]; rfl
  have e2 : (fun (n : Nat) => placeN c n) = fun (n : Nat) => placeAux (m : Int) c.horses.length n [] := by funext n; unfold placeN; rw [hm]
  rw [e1, e2, placeAux_lex m (by omega), hm, Int.toNat_natCast, hangL_lex _ _ _ List.nodup_nil]
  simp only [List.nil_append, List.map_id']
  apply List.filter_congr
  intro l hl
  obtain ⟨h1, h2⟩ := lexAll_mem _ _ _ hl
  rw [Bool.eq_iff_iff, isPlaceB_iff ok.cl1 ok.cl4, decide_eq_true_eq]
  exact ⟨fun h => h.nodup, fun h => ⟨h1, fun x hx => by have := h2 x hx; omega, h⟩⟩

/-- the program's step at a placement -/
def bestStepP (c : Clo) (tr : List (List Int)) (b : Option (List Int × Int)) (p : List Int) : Option (List Int × Int) :=
  if (doneP c tr p).2 = c.horses.length then
    match b with
    | none => some (p, (doneP c tr p).1)
    | some q => if (doneP c tr p).1 < q.2 then some (p, (doneP c tr p).1) else b
  else b
def bestP (c : Clo) (tr : List (List Int)) : Option (List Int × Int) := (hangL c.closets.toNat c.horses.length []).foldl (bestStepP c tr) none
theorem bestR_eq {c : Clo} (ok : OkC c) {l tr : List (List Int)} (h : ∀ d, d ∈ l ↔ d ∈ tr) (hne : tr ≠ []) (hdry : ∀ d ∈ tr, IsDry c d) : bestR c l = bestP c tr := by
  unfold bestP
  rw [← hangL_places ok.toOkH]
  unfold bestR
  generalize (none : Option (List Int × Int)) = b
  induction (List.range (places c).toNat) generalizing b with
  | nil => rfl
  | cons n ns ih =>
    rw [List.foldl_cons, ih, List.map_cons, List.filter_cons]
    cases hp : isPlaceB c (placeN c n) with
    | false =>
      rw [if_neg (by simp)]
      have e : bestStep c l b n = b := by unfold bestStep; rw [if_pos (.inl hp)]
      rw [e]
    | true =>
      rw [if_pos rfl, List.foldl_cons]
      have hpl := (isPlaceB_iff ok.cl1 ok.cl4 _).1 hp
      have e : bestStep c l b n = bestStepP c tr b (placeN c n) := by
        unfold bestStep bestStepP
        rcases doneP_spec ok h hne hdry hpl with ⟨j, h1, h2, h3⟩ | ⟨h1, h2, _⟩
        · rw [if_pos (.inr (by omega)), h3, if_neg (by simp only; omega)]
        · rw [if_neg (by simp [hp, h1]), h2, if_pos rfl]; cases b <;> rfl
      rw [e]

/-! ### the best look -/
/-- how many truths a look leaves, as the program counts -/
def dryP (c : Clo) (tr : List (List Int)) (h : Nat) (m : Int) : Nat := tr.countP fun d => decide (minuteR c c.hung d h ≤ m)
def leavesP (c : Clo) (tr : List (List Int)) (h m : Nat) : Int := max (dryP c tr h m : Int) ((tr.length : Int) - dryP c tr h m)
def askP (c : Clo) (tr : List (List Int)) : Int × Int × Int := askAll (leavesP c tr) c.horses.length (0, 0, (tr.length : Int) + 1)
theorem leaves_perm {c : Clo} {l tr : List (List Int)} (h : List.Perm tr l) (i : Nat) (m : Nat) : leaves c l i m = leavesP c tr i m := by
  unfold leaves leavesP dryP
  rw [h.countP_eq, h.length_eq]
theorem askAll_init (f : Nat → Nat → Int) (n : Nat) (hn : 0 < n) (a b : Int) (ha : f 0 0 < a) (hb : f 0 0 < b) : askAll f n (0, 0, a) = askAll f n (0, 0, b) := by
  obtain ⟨n, rfl⟩ : ∃ m, n = m + 1 := ⟨n - 1, by omega⟩
  have key : ∀ x : Int, f 0 0 < x → (List.range 100).foldl (askStep f 0) (0, 0, x) = (List.range' 1 99).foldl (askStep f 0) (0, 0, f 0 0) := by
    intro x hx
    have e : List.range 100 = 0 :: List.range' 1 99 := by decide
    rw [e, List.foldl_cons]
    congr 1
    unfold askStep
    rw [if_pos hx]; rfl
  unfold askAll
  have e : List.range (n + 1) = 0 :: (List.range n).map Nat.succ := List.range_succ_eq_map
  rw [e, List.foldl_cons, List.foldl_cons, key a ha, key b hb]
theorem askR_eq {c : Clo} {l tr : List (List Int)} (h : List.Perm tr l) (hh : 0 < c.horses.length) (hl : tr.length ≤ 1000000) : askR c l = askP c tr := by
  unfold askR askP
  have e : (fun h m => leaves c l h ((m : Nat) : Int)) = leavesP c tr := by funext i m; exact leaves_perm h i m
  rw [e]
  have hc : dryP c tr 0 ((0 : Nat) : Int) ≤ tr.length := List.countP_le_length
  apply askAll_init _ _ hh
  · unfold leavesP; omega
  · unfold leavesP; omega
end Go.Proofs.Ytjilckjhdlabaaa
