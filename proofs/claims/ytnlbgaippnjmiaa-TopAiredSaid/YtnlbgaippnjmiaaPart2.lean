/- Part 2 of the proof: joined from the texts Choose, CloD, CloE, CloF, CloG, CloH, CloI, Perm, RefB. -/
import Derived.Test.YtnlbgaippnjmiaaPart1
import Derived.Laws.EntriesVeiled
set_option linter.unusedSimpArgs false
set_option linter.unusedVariables false
/- The program's truths: choose (a closure that calls itself), and the iterator. -/
namespace Go.Proofs.Ytnlbgaippnjmiaa
open Go Go.RowKit Go.Shelf
attribute [local go_sem] Oper.semAt_some

theorem ints_set (D : List Int) (k : Nat) (x : Int) : (ints D).toArray.setIfInBounds k (.int .i64 x) = (ints (D.set k x)).toArray := by
  simp [ints, List.map_set]

/-- the array of four numbers that is yielded -/
def pad (x : List Int) : List Int := x ++ List.replicate (4 - x.length) 0
def encD (x : List Int) : Array Value := #[.agg (ints (pad x)).toArray]

/-- what dry holds when a beginning of it is chosen -/
structure DryAt (D pfx : List Int) (len : Nat) : Prop where
  size : D.length = 4
  pre : D.take pfx.length = pfx
  rest : D.drop len = List.replicate (4 - len) 0
theorem DryAt.set_ {D pfx : List Int} {len : Nat} (h : DryAt D pfx len) (x : Int) (hp : pfx.length < len) (hl : len ≤ 4) : DryAt (D.set pfx.length x) (pfx ++ [x]) len := by
  refine ⟨by simp [h.size], ?_, ?_⟩
  · have hlt : pfx.length < D.length := by rw [h.size]; omega
    rw [List.length_append, List.length_singleton, List.take_add_one, List.getElem?_set_self hlt, List.take_set, h.pre]
    simp [List.set_eq_of_length_le]
  · rw [List.drop_set, if_pos (by omega), h.rest]
theorem DryAt.keep {D pfx : List Int} {x : Int} {len : Nat} (h : DryAt D (pfx ++ [x]) len) : DryAt D pfx len := by
  refine ⟨h.size, ?_, h.rest⟩
  have := congrArg (List.take pfx.length) h.pre
  rw [List.take_take] at this
  simpa using this
theorem DryAt.all {D pfx : List Int} (h : DryAt D pfx pfx.length) : D = pad pfx := by
  have := List.take_append_drop pfx.length D
  rw [h.pre, h.rest] at this
  exact this.symm

section
variable {c : Clo} {A1 A2 A3 : Option Addr} {n1 k1 n2 k2 n3 k3 : Nat} {bc by_ bd bf l : Nat} {S : Nat → Prop} {A0 : World} {J Jx : List (List Int) → World → Prop}

/-- what choose finds in memory, whatever the rounds have done -/
structure ChFacts (c : Clo) (A1 A2 A3 : Option Addr) (n1 k1 n2 k2 n3 k3 bc by_ bd bf l : Nat) (A : World) : Prop where
  box : ∀ i, A.cell? ⟨bc, i, none⟩ = #[.int .i64 c.closets, .int .i64 c.close, .slice A1 n1 k1, .slice A2 n2 k2, .slice A3 n3 k3][i]?
  hs : RH A A1 n1 c.horses
  yl : A.cell? ⟨by_, 0, none⟩ = some (.func (.yield l) #[] #[])
  ch : A.cell? ⟨bf, 0, none⟩ = some (.func (.func 60) #[] #[.pointer (some ⟨bc, 0, none⟩), .pointer (some ⟨by_, 0, none⟩), .pointer (some ⟨bd, 0, none⟩), .pointer (some ⟨bf, 0, none⟩)])

theorem choose_in (ok : OkH c) (hn1 : n1 = c.horses.length) (xs : List (List Int)) (Inv : World → Prop)
    (hI : ∀ A, Inv A → ChFacts c A1 A2 A3 n1 k1 n2 k2 n3 k3 bc by_ bd bf l A)
    (hIs : ∀ A i u, Inv A → Inv (A.setCell ⟨bd, i, none⟩ u)) (hIk : ∀ A B, Inv A → KeepS S A B → Inv B) (hSd : S bd)
    (hJs : ∀ s A i u, J s A → J s (A.setCell ⟨bd, i, none⟩ u))
    (hY : ∀ pre x A, J pre A → pre ++ [x] <+: xs → YieldAt Fence.wide 4 Try.prog l (encD x) A fun e A' =>
      (e = .returned (.bool true) ∧ J (pre ++ [x]) A' ∧ KeepS S A A') ∨ (e = .returned (.bool false) ∧ Jx (pre ++ [x]) A')) :
    ∀ (m : Nat) (hs : List Horse) (pfx : List Int) (pre : List (List Int)) (D : List Int) (A : World), hs.length = m → c.horses.drop pfx.length = hs → pfx.length + m = c.horses.length →
      J pre A → pre ++ ext hs pfx <+: xs → Blk A bd 108 (ints D).toArray → DryAt D pfx c.horses.length → Inv A →
      CallsIn Fence.wide 5 Try.prog 60 #[.int .i64 pfx.length, .pointer (some ⟨bc, 0, none⟩), .pointer (some ⟨by_, 0, none⟩), .pointer (some ⟨bd, 0, none⟩), .pointer (some ⟨bf, 0, none⟩)] A fun e A' =>
        (e = .returned (.bool true) ∧ J (pre ++ ext hs pfx) A' ∧ Inv A' ∧ ∃ D', Blk A' bd 108 (ints D').toArray ∧ DryAt D' pfx c.horses.length) ∨
        (e = .returned (.bool false) ∧ ∃ q, q <+: xs ∧ Jx q A') := by
  intro m
  induction m with
  | zero =>
    intro hs pfx pre D A hm hdrop hlen hJ hpre hB hD hInv
    have hnil : hs = [] := List.eq_nil_of_length_eq_zero hm
    subst hnil
    have hl4 := ok.len
    rw [ext_nil] at hpre ⊢
    have hD2 : D = pad pfx := by
      have : c.horses.length = pfx.length := by omega
      rw [this] at hD; exact hD.all
    obtain ⟨d0, d1, d2, d3, hDl⟩ : ∃ d0 d1 d2 d3, D = [d0, d1, d2, d3] := by
      have := hD.size
      match D, this with
      | [a, b, c, d], _ => exact ⟨a, b, c, d, rfl⟩
    have F := hI A hInv
    have f1 := F.box 2
    have f2 := F.yl
    have henc : encD pfx = #[.agg #[.int .i64 d0, .int .i64 d1, .int .i64 d2, .int .i64 d3]] := by
      unfold encD; rw [← hD2, hDl]; rfl
    obtain ⟨fn, tmps, assign, body, hy, hR⟩ := hY pre pfx A hJ hpre
    rw [henc] at hy
    rw [hDl] at hB
    have c0 := hB.cell 0
    have c1 := hB.cell 1
    have c2 := hB.cell 2
    have c3 := hB.cell 3
    simp only [ints, List.map_cons, List.map_nil, List.getElem?_toArray, List.getElem?_cons_zero, List.getElem?_cons_succ] at f1 c0 c1 c2 c3
    have heq : ((pfx.length : Int) == (n1 : Int)) = true := by simp; omega
    have Hn := hide hn1
    have Hlen := hide hlen
    have Hdl := hide hDl
    have HB := hide hB
    have HD := hide hD
    clear hn1 hdrop hlen hm hDl hD2 henc hB hD
    refine callsIn_of_wp Try.func60 rfl trivial ?_ rfl
    simp only [Try.ntmps60, List.size_toArray, List.length_cons, List.length_nil, Nat.reduceAdd, Nat.reduceSub, Array.replicate_succ, Array.replicate_zero, List.push_toArray, List.append_toArray, List.nil_append, List.cons_append]
    gi_wp2_with fail
    refine hR.mono ?_
    rintro e A' (⟨rfl, hJ', hk⟩ | ⟨rfl, hJx⟩)
    · gi_wp2_with fail
      go_ret
      exact .inl ⟨rfl, hJ', hIk _ _ hInv hk, D, (by have hB := HB.out; rw [Hdl.out]; exact (hk bd hSd).trans hB), HD.out⟩
    · gi_wp2_with fail
      go_ret
      exact .inr ⟨rfl, _, hpre, hJx⟩
  | succ m ih =>
    intro hs pfx pre D A hm hdrop hlen hJ hpre hB hD hInv
    cases hs with
    | nil => simp at hm
    | cons h hs =>
    have hl4 := ok.len
    have hlt : pfx.length < n1 := by omega
    have F := hI A hInv
    obtain ⟨b, o, x, rfl, _, hx, hx0, hx1, hx2, hx3⟩ := F.hs.get hlt
    have hxh : x = h := by
      have h1 : (c.horses.drop pfx.length)[0]? = some h := by rw [hdrop]; rfl
      rw [List.getElem?_drop, Nat.add_zero, hx] at h1
      exact Option.some.inj h1
    subst hxh
    have okx := ok.horse x (List.mem_of_getElem? hx)
    have hdrop2 : c.horses.drop (pfx.length + 1) = hs := by
      rw [← List.tail_drop, hdrop]; rfl
    have f1 := F.box 2
    have g0 := hx0 A (later_refl _)
    simp only [List.getElem?_toArray, List.getElem?_cons_zero, List.getElem?_cons_succ] at f1
    have heq : ((pfx.length : Int) == (n1 : Int)) = false := by simp; omega
    have hi1 : (pfx.length : Int) < n1 := by omega
    have Hn := hide hn1
    have Hm := hide hm
    have Hlen := hide hlen
    have Hdrop := hide hdrop2
    have Hx := hide hx
    have Hext := hide (ext_cons x hs pfx)
    have HB := hide hB
    have HD := hide hD
    clear hn1 hdrop hlen hm hB hD hx hdrop2 hx0 hx1 hx2 hx3
    refine callsIn_of_wp Try.func60 rfl trivial ?_ rfl
    simp only [Try.ntmps60, List.size_toArray, List.length_cons, List.length_nil, Nat.reduceAdd, Nat.reduceSub, Array.replicate_succ, Array.replicate_zero, List.push_toArray, List.append_toArray, List.nil_append, List.cons_append]
    gi_wp2_with fail
    gi_loopw [7] (fun v wr => ∃ (k : Nat) (D : List Int), k ≤ (x.hi - x.lo + 1).toNat ∧ v = .int .i64 (x.lo + k) ∧ J (pre ++ extTo x hs pfx k) wr ∧ Inv wr ∧ Blk wr bd 108 (ints D).toArray ∧ DryAt D pfx c.horses.length) (fun v _ => (x.hi + 1 - intOf v).toNat)
    case atStart => exact ⟨0, D, by omega, by simp, by simpa [extTo] using hJ, hInv, HB.out, HD.out⟩
    case round =>
      obtain ⟨k, D1, hk, rfl, hJ1, hInv1, hB1, hD1⟩ := hrel
      have F1 := hI wr hInv1
      have f1 := F1.box 2
      have f3 := F1.ch
      obtain ⟨y, hy, hy0, hy1, hy2, hy3⟩ := F1.hs.at_ hlt
      have g1 := hy1 wr (later_refl _)
      have hyx : y = x := by
        have h2 := Hx.out
        rw [hy] at h2
        exact Option.some.inj h2
      subst hyx
      simp only [List.getElem?_toArray, List.getElem?_cons_zero, List.getElem?_cons_succ] at f1
      have hsz : D1.length = 4 := hD1.size
      have hpl : pfx.length < c.horses.length := by have := Hn.out; omega
      have hex : ∃ v0, wr.cell? ⟨bd, pfx.length, none⟩ = some v0 := ⟨_, by rw [hB1.cell]; simp only [ints, List.getElem?_toArray, List.getElem?_map]; rw [List.getElem?_eq_getElem (by omega)]; rfl⟩
      obtain ⟨v0, hv0⟩ := hex
      have hf0 := hB1.frozen pfx.length
      have hB2 := hB1.set_ pfx.length (.int .i64 (y.lo + k))
      rw [ints_set] at hB2
      have hInv2 := hIs wr pfx.length (.int .i64 (y.lo + k)) hInv1
      have hJ2 := hJs _ wr pfx.length (.int .i64 (y.lo + k)) hJ1
      have f4 := (hI _ hInv2).ch
      have hD2 := hD1.set_ (y.lo + k) hpl hl4
      have hp4 : (pfx.length : Int) < 4 := by omega
      by_cases hle : y.lo + k ≤ y.hi
      · have hstep := extTo_succ y hs pfx k
        have hle2 : k + 1 ≤ (y.hi - y.lo + 1).toNat := by omega
        have hpf := extTo_prefix y hs pfx hle2
        have hpre2 : (pre ++ extTo y hs pfx k) ++ ext hs (pfx ++ [y.lo + k]) <+: xs := by
          rw [List.append_assoc, ← hstep]
          rw [Hext.out] at hpre
          exact ((List.prefix_append_right_inj pre).2 hpf).trans hpre
        have hcall := ih hs (pfx ++ [y.lo + k]) (pre ++ extTo y hs pfx k) (D1.set pfx.length (y.lo + k)) _ (by have := Hm.out; simpa using this) (by rw [List.length_append, List.length_singleton]; exact Hdrop.out) (by have := Hlen.out; rw [List.length_append, List.length_singleton]; omega) hJ2 hpre2 hB2 hD2 hInv2
        rw [List.append_assoc, ← hstep] at hcall
        have Hcall := hide (callsIn_wide.1 hcall)
        have e1 : ((pfx ++ [y.lo + k]).length : Int) = (pfx.length : Int) + 1 := by simp
        rw [e1] at Hcall
        clear hcall hstep hpre2 e1 hB2 hD2 hInv2 hJ2 hJ1 hB1 hD1
        gi_wp2_with fail
        refine ⟨trivial, (callsIn_wide.2 Hcall.out).mono ?_⟩
        rintro e A' (⟨rfl, hJ3, hInv3, D3, hB3, hD3⟩ | ⟨rfl, q, hq, hJx⟩)
        · gi_wp2_with fail
          go_roundw
          case rel => exact ⟨k + 1, D3, hle2, by go_num, hJ3, hInv3, hB3, hD3.keep⟩
          case measure => simp [intOf]; omega
        · gi_wp2_with fail
          go_ret
          exact .inr ⟨rfl, q, hq, hJx⟩
      · have hk2 : k = (y.hi - y.lo + 1).toNat := by omega
        rw [hk2, ← Hext.out] at hJ1
        clear f4 hB2 hD2 hInv2 hJ2 hk2
        gi_wp2_with fail
        go_ret
        exact .inl ⟨rfl, hJ1, hInv1, D1, hB1, hD1⟩
end

theorem RH.kept {W A : World} {A1 : Option Addr} {n : Nat} {l : List Horse} (h : RH W A1 n l) (hk : 0 < n → ∀ b o, A1 = some ⟨b, o, none⟩ → A.heap[b]? = W.heap[b]?) : RH A A1 n l := by
  refine ⟨h.1, fun hn => ?_⟩
  obtain ⟨b, o, rfl, hb, hc⟩ := Reads.lit h (by omega) hn
  have e := hk hn b o rfl
  have hlt : b < A.heap.size := by
    rw [Array.getElem?_eq_getElem hb] at e
    exact (Array.getElem?_eq_some_iff.1 e).1
  refine ⟨_, rfl, hlt, fun j u hu => ?_⟩
  rw [add_lit]
  exact (World.cell?_of_block (a := ⟨b, o + j, none⟩) e).trans (hc j u hu)

theorem ext_dryAll (hs : List Horse) : ext hs [] = dryAll hs := by simp [ext]

set_option maxRecDepth 100000 in
/-- THE ITERATOR c.truths(): all dry numbers, in order. -/
theorem truths_iter {c : Clo} {A1 A2 A3 : Option Addr} {n1 k1 n2 k2 n3 k3 bc : Nat} {S : Nat → Prop} {W : World} (ok : OkH c) (hc : RH W A1 n1 c.horses)
    (hbox : Blk W bc 45 #[.int .i64 c.closets, .int .i64 c.close, .slice A1 n1 k1, .slice A2 n2 k2, .slice A3 n3 k3])
    (hSb : S bc) (hSh : 0 < n1 → ∀ b o, A1 = some ⟨b, o, none⟩ → S b) (hS0 : S W.heap.size) (hS1 : S (W.heap.size + 1)) (hS2 : S (W.heap.size + 2)) :
    IterOK Fence.wide 5 Try.prog 59 #[.pointer (some ⟨bc, 0, none⟩)] encD (KeepS S) (dryAll c.horses) W := by
  intro l J Jx hSt hY h0
  have hl4 := ok.len
  have hn1 := RH.len hc
  obtain ⟨W3, hW3⟩ : ∃ X, X = ((W.alloc (.cells #[.func (.yield l) #[] #[]] 134)).alloc (.cells #[.int .i64 0, .int .i64 0, .int .i64 0, .int .i64 0] 108)).alloc
      (.cells #[.func (.func 60) #[] #[.pointer (some ⟨bc, 0, none⟩), .pointer (some ⟨W.heap.size, 0, none⟩), .pointer (some ⟨W.heap.size + 1, 0, none⟩), .pointer (some ⟨W.heap.size + 1 + 1, 0, none⟩)]] 88) := ⟨_, rfl⟩
  have hL3 : Later W W3 := by rw [hW3]; exact later_alloc (later_alloc (later_alloc (later_refl _) _) _) _
  have b0 : Blk W3 W.heap.size 134 #[.func (.yield l) #[] #[]] := by rw [hW3]; exact ((Blk.new _ _ _).alloc _).alloc _
  have b1 : Blk W3 (W.heap.size + 1) 108 (ints [0, 0, 0, 0]).toArray := by
    rw [hW3]
    have := Blk.new (W.alloc (.cells #[.func (.yield l) #[] #[]] 134)) 108 #[.int .i64 0, .int .i64 0, .int .i64 0, .int .i64 0]
    rw [World.size_alloc] at this
    exact this.alloc _
  have b2 : Blk W3 (W.heap.size + 1 + 1) 88 #[.func (.func 60) #[] #[.pointer (some ⟨bc, 0, none⟩), .pointer (some ⟨W.heap.size, 0, none⟩), .pointer (some ⟨W.heap.size + 1, 0, none⟩), .pointer (some ⟨W.heap.size + 1 + 1, 0, none⟩)]] := by
    rw [hW3]
    have := Blk.new ((W.alloc (.cells #[.func (.yield l) #[] #[]] 134)).alloc (.cells #[.int .i64 0, .int .i64 0, .int .i64 0, .int .i64 0] 108)) 88 #[.func (.func 60) #[] #[.pointer (some ⟨bc, 0, none⟩), .pointer (some ⟨W.heap.size, 0, none⟩), .pointer (some ⟨W.heap.size + 1, 0, none⟩), .pointer (some ⟨W.heap.size + 1 + 1, 0, none⟩)]]
    rw [World.size_alloc, World.size_alloc] at this
    exact this
  have hc3 := hc.later hL3
  have hbox3 := hbox.later hL3
  have hJ3 : J [] W3 := h0 W3 hL3 (by rw [hW3]; simp)
  have hlt := hbox.lt
  have hcall := choose_in (A1 := A1) (A2 := A2) (A3 := A3) (k1 := k1) (n2 := n2) (k2 := k2) (n3 := n3) (k3 := k3) (bc := bc) (by_ := W.heap.size) (bd := W.heap.size + 1) (bf := W.heap.size + 1 + 1) (l := l) (S := S) (J := J) (Jx := Jx) ok hn1 (dryAll c.horses)
    (fun A => ∀ b, S b → b ≠ W.heap.size + 1 → A.heap[b]? = W3.heap[b]?)
    (fun A hA => ⟨fun i => (World.cell?_of_block (a := ⟨bc, i, none⟩) (hA bc hSb (by omega))).trans (hbox3.cell i),
      hc3.kept fun hn b o e => hA b (hSh hn b o e) (by
        intro e2
        obtain ⟨b', o', e3, hb', _⟩ := Reads.lit hc (by omega) hn
        rw [e] at e3; obtain ⟨rfl, _⟩ := some_lit e3; omega),
      (World.cell?_of_block (a := ⟨W.heap.size, 0, none⟩) (hA W.heap.size hS0 (by omega))).trans (b0.cell 0),
      (World.cell?_of_block (a := ⟨W.heap.size + 1 + 1, 0, none⟩) (hA (W.heap.size + 1 + 1) hS2 (by omega))).trans (b2.cell 0)⟩)
    (fun A i u hA b hb hne => (Below.heap_setCell A _ u b hne).trans (hA b hb hne))
    (fun A B hA hk b hb hne => (hk b hb).trans (hA b hb hne)) hS1 hSt.2 hY
    c.horses.length c.horses [] [] [0, 0, 0, 0] W3 rfl rfl (by simp) hJ3 (by rw [ext_dryAll]; exact List.prefix_refl _) b1
    ⟨rfl, rfl, by
      have : c.horses.length = 0 ∨ c.horses.length = 1 ∨ c.horses.length = 2 ∨ c.horses.length = 3 ∨ c.horses.length = 4 := by omega
      rcases this with h | h | h | h | h <;> rw [h] <;> rfl⟩ (fun _ _ _ => rfl)
  rw [ext_dryAll] at hcall
  have Hcall := hide (callsIn_wide.1 hcall)
  have HW3 := hide hW3
  clear hcall hW3 b0 b1 b2 hc3 hbox3 hL3 hn1
  refine callsIn_of_wp Try.func59 rfl trivial ?_ rfl
  simp only [Try.ntmps59, List.size_toArray, List.length_cons, List.length_nil, Nat.reduceAdd, Nat.reduceSub, Array.replicate_succ, Array.replicate_zero, List.push_toArray, List.append_toArray, List.nil_append, List.cons_append]
  gi_wp2_with fail
  rw [← HW3.out]
  refine ⟨trivial, (callsIn_wide.2 Hcall.out).mono ?_⟩
  rintro e A' (⟨rfl, hJ', _⟩ | ⟨rfl, q, hq, hJx⟩)
  · gi_wp2_with fail
    go_end0
    exact ⟨⟨_, rfl⟩, .inl hJ'⟩
  · gi_wp2_with fail
    go_end0
    exact ⟨⟨_, rfl⟩, .inr ⟨q, hq, hJx⟩⟩
end Go.Proofs.Ytnlbgaippnjmiaa

/- The program's minutes: walk. -/
namespace Go.Proofs.Ytnlbgaippnjmiaa
open Go Go.RowKit

set_option maxRecDepth 100000 in
set_option maxHeartbeats 1000000 in
theorem minutes_calls {A1 A2 A3 : Option Addr} {n1 k1 n2 k2 n3 k3 : Nat} {c : Clo} {Ap : Option Addr} {np kp : Nat} {p : List Int} {d0 d1 d2 d3 : Int} (w : World) (hc : CV w c A1 n1 A2 n2 A3 n3) (ok : OkH c) (hp : RI w Ap np p) (hpl : p.length ≤ c.horses.length)
    (hpb : ∀ x ∈ p, -1000000 ≤ x ∧ x ≤ 1000000) (hd : ∀ x ∈ [d0, d1, d2, d3], 0 ≤ x ∧ x ≤ 1000) :
    Calls Try.prog 61 #[(.agg #[.int .i64 c.closets, .int .i64 c.close, .slice A1 n1 k1, .slice A2 n2 k2, .slice A3 n3 k3]), .slice Ap np kp, .agg #[.int .i64 d0, .int .i64 d1, .int .i64 d2, .int .i64 d3]] w fun e w' =>
      e = .returned (.agg (ints (minutesP c p [d0, d1, d2, d3])).toArray) ∧ Later w w' := by
  have hnp := hp.len
  have hn1 := hc.hs.len
  have hl4 := ok.len
  have hnp4 : np ≤ 4 := by omega
  have Hnp := hide hnp
  have Hn1 := hide hn1
  have Hd := hide hd
  clear hnp hn1 hd
  obtain ⟨w0, hw0⟩ : ∃ W, W = (w.alloc (.cells #[.int .i64 c.closets, .int .i64 c.close, .slice A1 n1 k1, .slice A2 n2 k2, .slice A3 n3 k3] 45)) := ⟨_, rfl⟩; have hbox : ∀ W, Later w0 W → ∀ i, W.cell? ⟨w.heap.size, i, none⟩ = #[.int .i64 c.closets, .int .i64 c.close, .slice A1 n1 k1, .slice A2 n2 k2, .slice A3 n3 k3][i]? := (by rw [hw0]; exact box_cells w #[.int .i64 c.closets, .int .i64 c.close, .slice A1 n1 k1, .slice A2 n2 k2, .slice A3 n3 k3] 45); have hL0 : Later w w0 := (by rw [hw0]; simp); have hc0 := hc.later hL0; have Hw0 := hide hw0; clear hw0
  have hp0 := hp.later hL0
  have hb2 := fun W hW => hbox W hW 2
  simp only [List.getElem?_toArray, List.getElem?_cons_zero, List.getElem?_cons_succ] at hb2
  go_enter Try.func61, Try.ntmps61
  go_wp2_with fail
  have hs0 : w0.heap.size = w.heap.size + 1 := by rw [Hw0.out, World.size_alloc]
  rw [← Hw0.out]; clear Hw0
  obtain ⟨W3, hW3⟩ : ∃ X, X = ((w0.alloc (.cells #[.int .i64 d0, .int .i64 d1, .int .i64 d2, .int .i64 d3] 108)).alloc (.cells #[.int .i64 0, .int .i64 0, .int .i64 0, .int .i64 0] 108)).alloc
    (.cells #[.int .i64 d0, .int .i64 d1, .int .i64 d2, .int .i64 d3] 108) := ⟨_, rfl⟩
  have b7 : Blk W3 (w.heap.size + 1 + 1 + 1) 108 (ints (mst c p [d0, d1, d2, d3] 0 0)).toArray := by
    have := Blk.new ((w0.alloc (.cells #[.int .i64 d0, .int .i64 d1, .int .i64 d2, .int .i64 d3] 108)).alloc (.cells #[.int .i64 0, .int .i64 0, .int .i64 0, .int .i64 0] 108)) 108 #[.int .i64 d0, .int .i64 d1, .int .i64 d2, .int .i64 d3]
    rw [World.size_alloc, World.size_alloc, hs0] at this
    rw [hW3, mst_zero]; exact this
  have b6 : Blk W3 (w.heap.size + 1 + 1) 108 #[.int .i64 0, .int .i64 0, .int .i64 0, .int .i64 0] := by
    have := Blk.new (w0.alloc (.cells #[.int .i64 d0, .int .i64 d1, .int .i64 d2, .int .i64 d3] 108)) 108 #[.int .i64 0, .int .i64 0, .int .i64 0, .int .i64 0]
    rw [World.size_alloc, hs0] at this
    rw [hW3]; exact this.alloc _
  have hL3 : Later w0 W3 := by rw [hW3]; exact later_alloc (later_alloc (later_alloc (later_refl _) _) _) _
  rw [← hW3]
  clear hW3
  go_loopw [16] (fun i wr => ∃ j : Nat, j ≤ np ∧ i = .int .i64 j ∧ Blk wr (w.heap.size + 1 + 1 + 1) 108 (ints (mst c p [d0, d1, d2, d3] j 0)).toArray ∧
    Blk wr (w.heap.size + 1 + 1) 108 #[.int .i64 0, .int .i64 0, .int .i64 0, .int .i64 0] ∧ Later w0 wr) (fun i _ => np - (intOf i).toNat)
  case atStart => exact ⟨0, Nat.zero_le _, rfl, b7, b6, hL3⟩
  case round =>
    obtain ⟨j, hj, rfl, b7r, b6r, hLr⟩ := hrel
    by_cases hlt : j < np
    · obtain ⟨b, o, x, rfl, _, hx, hx'⟩ := hp0.get hlt
      have hi1 : (j : Int) < np := by omega
      have hxb := hpb x (List.mem_of_getElem? hx)
      have Hx := hide (show p.getD j 0 = x by rw [List.getD_eq_getElem?_getD, hx]; rfl)
      clear hx b7 b6 hL3
      go_wp2_with fail
      go_loopw [23] (fun i W => ∃ q : Nat, q ≤ np ∧ i = .int .i64 q ∧ Blk W (w.heap.size + 1 + 1 + 1) 108 (ints (mst c p [d0, d1, d2, d3] j q)).toArray ∧
        Blk W (w.heap.size + 1 + 1) 108 #[.int .i64 0, .int .i64 0, .int .i64 0, .int .i64 0] ∧ Later w0 W) (fun i _ => np - (intOf i).toNat)
      case atStart => exact ⟨0, Nat.zero_le _, rfl, b7r, b6r, hLr⟩
      case round =>
        clear b7r b6r hLr
        obtain ⟨q, hq, rfl, b7q, b6q, hLq⟩ := hrel
        by_cases hltq : q < np
        · obtain ⟨y, hy, hy'⟩ := hp0.at_ hltq
          have hyb := hpb y (List.mem_of_getElem? hy)
          have Hy := hide (show p.getD q 0 = y by rw [List.getD_eq_getElem?_getD, hy]; rfl)
          have hi2 : (q : Int) < np := by omega
          obtain ⟨b1, o1, z, rfl, _, hz, hz0, hz1, hz2, hz3⟩ := hc0.hs.get (k := q) (by have := Hnp.out; have := Hn1.out; omega)
          have Hz := hide (show wetK c q = z.wet by unfold wetK; rw [List.getD_eq_getElem?_getD, hz]; rfl)
          have hi3 : (q : Int) < n1 := by have := Hnp.out; have := Hn1.out; omega
          have hi4 : (j : Int) < 4 := by have := Hnp.out; have := Hn1.out; omega
          have hq1 := hx' _ hLq
          have hq2 := hy' _ hLq
          have hm := mstAt_range ok p [d0, d1, d2, d3] j q j hpl (by have := Hnp.out; omega) Hd.out
          have hwk := wetK_range ok (k := q) (by have := Hnp.out; omega)
          rw [Hz.out] at hwk
          have Hmiss := hide (mst_miss c p [d0, d1, d2, d3] j q)
          have Hhit := hide (mst_hit c p [d0, d1, d2, d3] j q (by omega))
          have hg := mst_get c p [d0, d1, d2, d3] j q j (by omega)
          have hcell : ∀ W, Later wr W → W.cell? ⟨w.heap.size + 1 + 1 + 1, j, none⟩ = some (.int .i64 (mstAt c p [d0, d1, d2, d3] j q j)) := fun W hW => by
            rw [(b7q.later hW).cell j]; simp [ints, hg]
          have hbx : ∀ W, Later wr W → W.cell? ⟨w.heap.size, 2, none⟩ = some (.slice (some ⟨b1, o1, none⟩) n1 k1) := fun W hW => hb2 W (Later.trans hLq hW)
          have hzw : ∀ W, Later wr W → W.cell? ⟨b1, o1 + q * 4 + 2, none⟩ = some (.int .i64 z.wet) := fun W hW => hz2 W (Later.trans hLq hW)
          have hw1 : IntKind.i64.wrap (x - y) = x - y := IntWalk.i64_in _ (by omega)
          clear hy hz hg hz0 hz1 hz2 hz3 hb2 hbox
          by_cases e1 : x - y = 1
          · have hh : hit p j q = true := by unfold hit; rw [Hx.out, Hy.out, e1]; rfl
            have H2 := hide (Hhit.out hh)
            clear hh
            go_wp2_with fail
            refine wp_region_ext_tail (w0 := wr) 10 (by kernel_rfl) (by kernel_rfl) (later_refl _) ?_; simp only [List.take_succ_cons, List.take_zero, List.drop_succ_cons, List.drop_zero]; (repeat (first | go_big_quiet_step (((fail))) | quiet_step (((fail))))); refine wpQuiet_nil ?_; rintro w1 ⟨⟨_, hL1⟩, rfl⟩; (try dsimp only)
            have b7w := b7q.later hL1
            have b6w := b6q.later hL1
            have hfz := b7w.frozen j
            have hcw := hcell _ hL1
            clear hcell hbx hzw
            have hLw := Later.trans hLq hL1
            have b7n := b7w.set_ j (.int .i64 (mstAt c p [d0, d1, d2, d3] j q j + z.wet))
            have b6n := b6w.far (p := ⟨w.heap.size + 1 + 1 + 1, j, none⟩) (by simp) (.int .i64 (mstAt c p [d0, d1, d2, d3] j q j + z.wet))
            have hLn := later_drop hLw (a := ⟨w.heap.size + 1 + 1 + 1, j, none⟩) (u := .int .i64 (mstAt c p [d0, d1, d2, d3] j q j + z.wet)) (by rw [hs0]; simp)
            rw [ints_set, ← Hz.out, ← H2.out] at b7n
            rw [Hz.out] at b7n
            clear H2 b7w b6w hLw
            go_wp2_with fail
            go_roundw
            case rel => exact ⟨q + 1, by omega, by go_num, b7n, b6n, hLn⟩
            case measure => simp [intOf]; omega
          by_cases e2 : x - y = -1
          · have hh : hit p j q = true := by unfold hit; rw [Hx.out, Hy.out, e2]; rfl
            have H2 := hide (Hhit.out hh)
            clear hh
            go_wp2_with fail
            refine wp_region_ext_tail (w0 := wr) 10 (by kernel_rfl) (by kernel_rfl) (later_refl _) ?_; simp only [List.take_succ_cons, List.take_zero, List.drop_succ_cons, List.drop_zero]; (repeat (first | go_big_quiet_step (((fail))) | quiet_step (((fail))))); refine wpQuiet_nil ?_; rintro w1 ⟨⟨_, hL1⟩, rfl⟩; (try dsimp only)
            have b7w := b7q.later hL1
            have b6w := b6q.later hL1
            have hfz := b7w.frozen j
            have hcw := hcell _ hL1
            clear hcell hbx hzw
            have hLw := Later.trans hLq hL1
            have b7n := b7w.set_ j (.int .i64 (mstAt c p [d0, d1, d2, d3] j q j + z.wet))
            have b6n := b6w.far (p := ⟨w.heap.size + 1 + 1 + 1, j, none⟩) (by simp) (.int .i64 (mstAt c p [d0, d1, d2, d3] j q j + z.wet))
            have hLn := later_drop hLw (a := ⟨w.heap.size + 1 + 1 + 1, j, none⟩) (u := .int .i64 (mstAt c p [d0, d1, d2, d3] j q j + z.wet)) (by rw [hs0]; simp)
            rw [ints_set, ← Hz.out, ← H2.out] at b7n
            rw [Hz.out] at b7n
            clear H2 b7w b6w hLw
            go_wp2_with fail
            go_roundw
            case rel => exact ⟨q + 1, by omega, by go_num, b7n, b6n, hLn⟩
            case measure => simp [intOf]; omega
          · have hh : hit p j q = false := by unfold hit; rw [Hx.out, Hy.out]; simp [e1, e2]
            have H2 := Hmiss.out hh
            rw [← H2] at b7q
            have t1 : (x - y == 1) = false := by simp [e1]
            have t2 : (x - y == -1) = false := by simp [e2]
            clear hh H2
            go_wp2_with fail
            go_roundw
            case rel => exact ⟨q + 1, by omega, by go_num, b7q, b6q, hLq⟩
            case measure => simp [intOf]; omega
        · have e : q = p.length := by have := Hnp.out; omega
          rw [e, mst_next] at b7q
          clear e
          go_wp2_with fail
          go_roundw
          case rel => exact ⟨j + 1, by omega, by go_num, b7q, b6q, hLq⟩
          case measure => simp [intOf]; omega
    · have e : j = p.length := by have := Hnp.out; omega
      have b7f : Blk wr (w.heap.size + 1 + 1 + 1) 108 (ints (minutesP c p [d0, d1, d2, d3])).toArray := by rw [e] at b7r; exact b7r
      obtain ⟨m0, m1, m2, m3, hm⟩ : ∃ m0 m1 m2 m3, minutesP c p [d0, d1, d2, d3] = [m0, m1, m2, m3] := ⟨_, _, _, _, rfl⟩
      rw [hm] at b7f
      have Hm := hide hm
      have c0 := b7f.cell 0
      have c1 := b7f.cell 1
      have c2 := b7f.cell 2
      have c3 := b7f.cell 3
      have f0 := b6r.frozen 0
      have f1 := b6r.frozen 1
      have f2 := b6r.frozen 2
      have f3 := b6r.frozen 3
      have g0 := b6r.cell 0
      have g1 := b6r.cell 1
      have g2 := b6r.cell 2
      have g3 := b6r.cell 3
      simp only [ints, List.map_cons, List.map_nil, List.getElem?_toArray, List.getElem?_cons_zero, List.getElem?_cons_succ] at c0 c1 c2 c3 g0 g1 g2 g3
      clear b7r b6r b7f e hm b7 b6
      go_wp2_with fail
      refine bodyPost_ret (v := .agg #[.int .i64 m0, .int .i64 m1, .int .i64 m2, .int .i64 m3]) ?_ rfl ⟨by rw [Hm.out]; rfl, ?_⟩
      · simp [results, Try.results61, go_sem, *]
      · have hg : w0.heap.size ≤ w.heap.size + 1 + 1 := by rw [hs0]; omega
        exact Later.trans hL0 (later_drop (later_drop (later_drop (later_drop hLr hg) hg) hg) hg)

set_option maxRecDepth 100000 in
set_option maxHeartbeats 1000000 in
theorem right_calls {A1 A2 A3 : Option Addr} {n1 k1 n2 k2 n3 k3 : Nat} {c : Clo} {Ao : Option Addr} {no ko : Nat} {out : List Int} {d0 d1 d2 d3 : Int} (w : World) (hc : CV w c A1 n1 A2 n2 A3 n3) (ok : OkC c) (ho : RI w Ao no out) (hno : no ≤ 1000000)
    (hd : ∀ x ∈ [d0, d1, d2, d3], 0 ≤ x ∧ x ≤ 1000) :
    Calls Try.prog 37 #[(.agg #[.int .i64 c.closets, .int .i64 c.close, .slice A1 n1 k1, .slice A2 n2 k2, .slice A3 n3 k3]), .agg #[.int .i64 d0, .int .i64 d1, .int .i64 d2, .int .i64 d3], .slice Ao no ko] w fun e w' =>
      e = .returned (.bool (rightP c [d0, d1, d2, d3] out)) ∧ Later w w' := by
  have hn1 := hc.hs.len
  have hn3 := hc.lk.len
  have hl5 := ok.nlooks
  have hl4 := ok.len
  have hn35 : n3 ≤ 5 := by omega
  have Hn1 := hide hn1
  have Hn3 := hide hn3
  obtain ⟨m0, m1, m2, m3, hm⟩ : ∃ m0 m1 m2 m3, minutesP c c.hung [d0, d1, d2, d3] = [m0, m1, m2, m3] := ⟨_, _, _, _, rfl⟩
  have Hm := hide hm
  clear hn1 hn3 hm
  obtain ⟨w0, hw0⟩ : ∃ W, W = (w.alloc (.cells #[.int .i64 c.closets, .int .i64 c.close, .slice A1 n1 k1, .slice A2 n2 k2, .slice A3 n3 k3] 45)) := ⟨_, rfl⟩; have hbox : ∀ W, Later w0 W → ∀ i, W.cell? ⟨w.heap.size, i, none⟩ = #[.int .i64 c.closets, .int .i64 c.close, .slice A1 n1 k1, .slice A2 n2 k2, .slice A3 n3 k3][i]? := (by rw [hw0]; exact box_cells w #[.int .i64 c.closets, .int .i64 c.close, .slice A1 n1 k1, .slice A2 n2 k2, .slice A3 n3 k3] 45); have hL0 : Later w w0 := (by rw [hw0]; simp); have hc0 := hc.later hL0; have Hw0 := hide hw0; clear hw0
  have hs0 : w0.heap.size = w.heap.size + 1 := by rw [Hw0.out, World.size_alloc]
  obtain ⟨w9, hw9⟩ : ∃ X, X = w0.alloc (.cells #[.int .i64 d0, .int .i64 d1, .int .i64 d2, .int .i64 d3] 108) := ⟨_, rfl⟩
  have hL9 : Later w0 w9 := by rw [hw9]; exact later_alloc (later_refl _) _
  have hb4 := fun W hW => hbox W hW 4
  simp only [List.getElem?_toArray, List.getElem?_cons_zero, List.getElem?_cons_succ] at hb4
  have Hw9 := hide hw9
  clear hw9 hbox
  go_enter Try.func37, Try.ntmps37
  go_wp2_with fail
  rw [← Hw0.out, ← Hw9.out]
  clear Hw0 Hw9
  have hmc := minutes_calls (A1 := A1) (n1 := n1) (k1 := k1) (A2 := A2) (n2 := n2) (k2 := k2) (A3 := A3) (n3 := n3) (k3 := k3) (c := c) (kp := k2) w9 (hc0.later hL9) ok.toOkH (hc0.later hL9).hu (Nat.le_of_eq ok.hung.len) (ok.hung.bound ok.toOkH) hd
  rw [Hm.out] at hmc
  refine hmc.mono ?_
  clear hmc
  rintro e w1 ⟨rfl, hL1⟩
  simp only [ints, List.map_cons, List.map_nil]
  have hLa := Later.trans hL9 hL1
  have hbm := box_cells w1 #[.int .i64 m0, .int .i64 m1, .int .i64 m2, .int .i64 m3] 108
  obtain ⟨w2, hw2⟩ : ∃ X, X = w1.alloc (.cells #[.int .i64 m0, .int .i64 m1, .int .i64 m2, .int .i64 m3] 108) := ⟨_, rfl⟩
  rw [← hw2] at hbm
  have hL2 : Later w0 w2 := by rw [hw2]; exact later_alloc (Later.trans hL9 hL1) _
  have Hw2 := hide hw2
  clear hw2
  go_wp2_with fail
  rw [← Hw2.out]
  clear Hw2
  go_loopw [18] (fun i wr => ∃ j : Nat, j ≤ n3 ∧ i = .int .i64 j ∧ (List.range j).all (lookF c [m0, m1, m2, m3] out) = true ∧ Later w2 wr) (fun i _ => n3 - (intOf i).toNat)
  case atStart => exact ⟨0, Nat.zero_le _, rfl, rfl, later_refl _⟩
  case round =>
    obtain ⟨j, hj, rfl, hall, hLr⟩ := hrel
    have Hall := hide hall
    clear hall
    by_cases hlt : j < n3
    · obtain ⟨b, o, x, rfl, _, hx, hx0, hx1, hx2⟩ := hc0.lk.get hlt
      have hi1 : (j : Int) < n3 := by omega
      have okx := ok.looks x (List.mem_of_getElem? hx)
      obtain ⟨h, hh⟩ := Int.eq_ofNat_of_zero_le okx.1
      have hh4 : h < 4 := by omega
      have hh4' : (h : Int) < 4 := by omega
      rw [hh] at hx0
      obtain ⟨mh, hmh⟩ : ∃ mh, [m0, m1, m2, m3][h]? = some mh := ⟨_, List.getElem?_eq_getElem (by simp; omega)⟩
      have hf0 : lookF c [m0, m1, m2, m3] out j = (out.contains (j : Int) || (x.dry == decide (mh ≤ x.minute))) := by
        unfold lookF lookP
        rw [List.getD_eq_getElem?_getD, hx, Option.getD_some, hh, Int.toNat_natCast, List.getD_eq_getElem?_getD, hmh, Option.getD_some]
      have hLw := Later.trans hL2 hLr
      have how := (ho.later hL0).later hLw
      have how := how.later (later_alloc (later_refl _) (.cells #[.int .i64 h, .int .i64 x.minute, .bool x.dry] 79))
      have hx0 := hx0 _ hLw
      have hx1 := hx1 _ hLw
      have hx2 := hx2 _ hLw
      have hbb := hb4 _ hLw
      have hbm2 : ∀ W, Later (wr.alloc (.cells #[.int .i64 h, .int .i64 x.minute, .bool x.dry] 79)) W → W.cell? ⟨w1.heap.size, h, none⟩ = some (.int .i64 mh) := fun W hW => by
        rw [hbm W (Later.trans hLr (later_of_alloc hW)) h]
        have : (#[Value.int .i64 m0, .int .i64 m1, .int .i64 m2, .int .i64 m3] : Array Value) = (ints [m0, m1, m2, m3]).toArray := rfl
        rw [this]; simp only [ints, List.getElem?_toArray, List.getElem?_map, hmh]; rfl
      have hbl := box_cells wr #[.int .i64 h, .int .i64 x.minute, .bool x.dry] 79
      have hbl0 := fun W hW => hbl W hW 0
      have hbl1 := fun W hW => hbl W hW 1
      have hbl2 := fun W hW => hbl W hW 2
      simp only [List.getElem?_toArray, List.getElem?_cons_zero, List.getElem?_cons_succ] at hbl0 hbl1 hbl2
      have hT : ∀ (B : World) (e : Ext B), Later B e.W := fun B e => e.h
      clear hbl hmh hx hbm hh okx
      cases hcon : out.contains (j : Int) with
      | true =>
        have hf : lookF c [m0, m1, m2, m3] out j = true := by rw [hf0, hcon]; rfl
        clear hf0
        have H2 := hide (show (List.range (j + 1)).all (lookF c [m0, m1, m2, m3] out) = true by rw [range_all_succ, Hall.out, hf]; rfl)
        clear hf Hall
        go_wp2_with fail
        refine wp_region_ext (w0 := wr.alloc (.cells #[.int .i64 h, .int .i64 x.minute, .bool x.dry] 79)) (by kernel_rfl) (by kernel_rfl) (later_refl _) ?_; (repeat (first | go_big_quiet_step (((go_at_call 43; exact calls_ext_same (by simp) (Contains_eq hcon _ (how.later (hT _ _)) (by omega))))) | quiet_step (((go_at_call 43; exact calls_ext_same (by simp) (Contains_eq hcon _ (how.later (hT _ _)) (by omega))))))); refine wpQuiet_nil ?_; rintro w3 ⟨⟨_, hL3⟩, rfl⟩; (try dsimp only)
        go_wp2_with fail
        go_roundw
        case rel => exact ⟨j + 1, by omega, by go_num, H2.out, Later.trans (later_alloc hLr _) hL3⟩
        case measure => simp [intOf]; omega
      | false =>
        have hcase : (x.dry = true ∧ mh ≤ x.minute) ∨ (x.dry = false ∧ ¬ mh ≤ x.minute) ∨ (x.dry = true ∧ ¬ mh ≤ x.minute) ∨ (x.dry = false ∧ mh ≤ x.minute) := by
          cases x.dry <;> by_cases mh ≤ x.minute <;> simp [*]
        rcases hcase with ⟨e1, e2⟩ | ⟨e1, e2⟩ | ⟨e1, e2⟩ | ⟨e1, e2⟩
        all_goals
          have hf := hf0
          rw [hcon, e1] at hf
          simp only [e1] at hbm2 hbl2 how hbl0 hbl1
          rw [e1] at hx2
          simp only [e2, decide_true, decide_false, Bool.false_or, beq_self_eq_true] at hf
        · clear hf0
          have hdq : decide (mh ≤ x.minute) = true := by simp only [e2, decide_true, decide_false]
          have H2 := hide (show (List.range (j + 1)).all (lookF c [m0, m1, m2, m3] out) = true by rw [range_all_succ, Hall.out, hf]; rfl)
          clear hf Hall
          go_wp2_with fail
          refine wp_region_ext (w0 := wr.alloc (.cells #[.int .i64 h, .int .i64 x.minute, .bool true] 79)) (by kernel_rfl) (by kernel_rfl) (later_refl _) ?_; (repeat (first | go_big_quiet_step (((go_at_call 43; exact calls_ext_same (by simp) (Contains_eq hcon _ (how.later (hT _ _)) (by omega))))) | quiet_step (((go_at_call 43; exact calls_ext_same (by simp) (Contains_eq hcon _ (how.later (hT _ _)) (by omega))))))); refine wpQuiet_nil ?_; rintro w3 ⟨⟨_, hL3⟩, rfl⟩; (try dsimp only)
          go_wp2_with fail
          go_roundw
          case rel => exact ⟨j + 1, by omega, by go_num, H2.out, Later.trans (later_alloc hLr _) hL3⟩
          case measure => simp [intOf]; omega
        · clear hf0
          have hdq : decide (mh ≤ x.minute) = false := by simp only [e2, decide_true, decide_false]
          have H2 := hide (show (List.range (j + 1)).all (lookF c [m0, m1, m2, m3] out) = true by rw [range_all_succ, Hall.out, hf]; rfl)
          clear hf Hall
          go_wp2_with fail
          refine wp_region_ext (w0 := wr.alloc (.cells #[.int .i64 h, .int .i64 x.minute, .bool false] 79)) (by kernel_rfl) (by kernel_rfl) (later_refl _) ?_; (repeat (first | go_big_quiet_step (((go_at_call 43; exact calls_ext_same (by simp) (Contains_eq hcon _ (how.later (hT _ _)) (by omega))))) | quiet_step (((go_at_call 43; exact calls_ext_same (by simp) (Contains_eq hcon _ (how.later (hT _ _)) (by omega))))))); refine wpQuiet_nil ?_; rintro w3 ⟨⟨_, hL3⟩, rfl⟩; (try dsimp only)
          go_wp2_with fail
          go_roundw
          case rel => exact ⟨j + 1, by omega, by go_num, H2.out, Later.trans (later_alloc hLr _) hL3⟩
          case measure => simp [intOf]; omega
        · clear hf0
          have hdq : decide (mh ≤ x.minute) = false := by simp only [e2, decide_true, decide_false]
          have H2 := hide (show rightP c [d0, d1, d2, d3] out = false by unfold rightP; rw [Hm.out]; exact range_all_false (by have := Hn3.out; omega) hf)
          clear hf Hall
          go_wp2_with fail
          refine wp_region_ext (w0 := wr.alloc (.cells #[.int .i64 h, .int .i64 x.minute, .bool true] 79)) (by kernel_rfl) (by kernel_rfl) (later_refl _) ?_; (repeat (first | go_big_quiet_step (((go_at_call 43; exact calls_ext_same (by simp) (Contains_eq hcon _ (how.later (hT _ _)) (by omega))))) | quiet_step (((go_at_call 43; exact calls_ext_same (by simp) (Contains_eq hcon _ (how.later (hT _ _)) (by omega))))))); refine wpQuiet_nil ?_; rintro w3 ⟨⟨_, hL3⟩, rfl⟩; (try dsimp only)
          go_wp2_with fail
          go_ret
          exact ⟨by rw [H2.out]; rfl, Later.trans hL0 (Later.trans hL2 (Later.trans (later_alloc hLr _) hL3))⟩
        · clear hf0
          have hdq : decide (mh ≤ x.minute) = true := by simp only [e2, decide_true, decide_false]
          have H2 := hide (show rightP c [d0, d1, d2, d3] out = false by unfold rightP; rw [Hm.out]; exact range_all_false (by have := Hn3.out; omega) hf)
          clear hf Hall
          go_wp2_with fail
          refine wp_region_ext (w0 := wr.alloc (.cells #[.int .i64 h, .int .i64 x.minute, .bool false] 79)) (by kernel_rfl) (by kernel_rfl) (later_refl _) ?_; (repeat (first | go_big_quiet_step (((go_at_call 43; exact calls_ext_same (by simp) (Contains_eq hcon _ (how.later (hT _ _)) (by omega))))) | quiet_step (((go_at_call 43; exact calls_ext_same (by simp) (Contains_eq hcon _ (how.later (hT _ _)) (by omega))))))); refine wpQuiet_nil ?_; rintro w3 ⟨⟨_, hL3⟩, rfl⟩; (try dsimp only)
          go_wp2_with fail
          go_ret
          exact ⟨by rw [H2.out]; rfl, Later.trans hL0 (Later.trans hL2 (Later.trans (later_alloc hLr _) hL3))⟩
    · have hjn : j = n3 := by omega
      have H2 := hide (show rightP c [d0, d1, d2, d3] out = true by unfold rightP; rw [Hm.out, ← Hn3.out, ← hjn]; exact Hall.out)
      clear hjn Hall
      go_wp2_with fail
      go_ret
      exact ⟨by rw [H2.out]; rfl, Later.trans hL0 (Later.trans hL2 hLr)⟩
end Go.Proofs.Ytnlbgaippnjmiaa

/- The program's minimum, wider, has: walks. -/
namespace Go.Proofs.Ytnlbgaippnjmiaa
open Go Go.RowKit

theorem Min2_calls (a b : Int) (k : Nat) (w : World) (g : Nat) (h0 : w.cell? ⟨g, 0, none⟩ = some (.int .i64 a)) (h1 : w.cell? ⟨g, 1, none⟩ = some (.int .i64 b)) :
    Calls Try.prog 68 #[.slice (some ⟨g, 0, none⟩) 2 k] w fun e w' => e = .returned (.int .i64 (min a b)) ∧ w = w' := by
  go_enter Try.func68, Try.ntmps68
  go_wp2_with fail
  go_loopw [4, 3] (fun i m wr => ((i = .int .i64 1 ∧ m = .int .i64 a) ∨ (i = .int .i64 2 ∧ m = .int .i64 (min a b))) ∧ w = wr) (fun i _ _ => 2 - (intOf i).toNat)
  case atStart => exact ⟨.inl ⟨rfl, rfl⟩, rfl⟩
  case round =>
    obtain ⟨⟨rfl, rfl⟩ | ⟨rfl, rfl⟩, rfl⟩ := hrel
    · go_wp2_with fail
      go_roundw
      case rel => exact ⟨.inr ⟨by go_num, by congr 1; rw [Int.min_def]; split <;> split <;> omega⟩, by first | trivial | rfl⟩
      case measure => simp [intOf, wrap64]
    · go_wp2_with fail
      go_ret
      exact ⟨rfl, rfl⟩
theorem min2_calls (a b : Int) (w : World) (g : Nat) (h0 : w.cell? ⟨g, 0, none⟩ = some (.int .i64 a)) (h1 : w.cell? ⟨g, 1, none⟩ = some (.int .i64 b)) :
    Calls Try.prog 47 #[.slice (some ⟨g, 0, none⟩) 2 2] w fun e w' => e = .returned (.int .i64 (min a b)) ∧ w = w' := by
  go_enter Try.func47, Try.ntmps47
  go_wp2_with fail
  refine (Min2_calls a b 2 _ _ h0 h1).mono ?_
  rintro e w1 ⟨rfl, rfl⟩
  go_wp2_with fail
  go_ret
  exact ⟨rfl, rfl⟩
theorem from_calls (x : Horse) (n : Int) (w : World) : Calls Try.prog 45 #[.agg #[.int .i64 x.lo, .int .i64 x.hi, .int .i64 x.wet, .int .i64 x.grace], .int .i64 n] w fun e w' => e = .returned (.int .i64 n) ∧ Later w w' := by
  go_enter Try.func45, Try.ntmps45
  go_wp2_with fail
  go_ret
  exact ⟨rfl, by simp⟩
theorem to_calls (x : Horse) (n : Int) (w : World) (h0 : -1000000 ≤ n ∧ n ≤ 1000000) (h1 : -1000000 ≤ x.grace ∧ x.grace ≤ 1000000) :
    Calls Try.prog 48 #[.agg #[.int .i64 x.lo, .int .i64 x.hi, .int .i64 x.wet, .int .i64 x.grace], .int .i64 n] w fun e w' => e = .returned (.int .i64 (n + x.grace)) ∧ Later w w' := by
  go_enter Try.func48, Try.ntmps48
  go_wp2_with fail
  go_ret
  exact ⟨by first | rfl | (simp), by simp⟩
set_option maxRecDepth 100000 in
theorem wider_calls (lo hi n : Int) (w : World) : Calls Try.prog 67 #[.agg #[.int .i64 lo, .int .i64 hi], .int .i64 n] w fun e w' =>
    e = .returned (.agg #[.int .i64 (min lo n), .int .i64 (max hi n)]) ∧ Later w w' := by
  obtain ⟨w0, hw0⟩ : ∃ W, W = (w.alloc (.cells #[.int .i64 lo, .int .i64 hi] 57)).alloc (.cells #[.int .i64 0, .int .i64 0] 57) := ⟨_, rfl⟩
  have hL0 : Later w w0 := by rw [hw0]; exact later_alloc (later_alloc (later_refl _) _) _
  have b1 : Blk w0 w.heap.size 57 #[.int .i64 lo, .int .i64 hi] := by rw [hw0]; exact (Blk.new _ _ _).alloc _
  have b2 : Blk w0 (w.heap.size + 1) 57 #[.int .i64 0, .int .i64 0] := by
    have := Blk.new (w.alloc (.cells #[.int .i64 lo, .int .i64 hi] 57)) 57 #[.int .i64 0, .int .i64 0]
    rw [World.size_alloc] at this
    rw [hw0]; exact this
  have c0 := b1.cells_later
  have c00 := fun W hW => c0 W hW 0
  have c01 := fun W hW => c0 W hW 1
  simp only [List.getElem?_toArray, List.getElem?_cons_zero, List.getElem?_cons_succ] at c00 c01
  have d0 := b2.cells_later
  have d00 := fun W hW => d0 W hW 0
  have d01 := fun W hW => d0 W hW 1
  have f0 := b2.frozen_later
  simp only [List.getElem?_toArray, List.getElem?_cons_zero, List.getElem?_cons_succ] at d00 d01
  have Hw0 := hide hw0
  clear hw0 c0 d0
  have hs : w0.heap.size = w.heap.size + 1 + 1 := by rw [Hw0.out]; simp
  have hs1 : w.heap.size < w0.heap.size := by omega
  have hs2 : w.heap.size + 1 < w0.heap.size := by omega
  have e00 := c00 _ (later_drew (later_refl _))
  have e01 := c01 _ (later_drew (later_refl _))
  have hL1 := later_drew hL0
  clear hs
  by_cases h2 : n ≤ hi
  · have hm : max hi n = hi := by omega
    rw [hm]
    go_enter Try.func67, Try.ntmps67
    go_wp2_with fail
    rw [← Hw0.out]
    clear Hw0
    go_region_held3 (fun W => Later w W ∧ W.cell? ⟨w.heap.size, 0, none⟩ = some (.int .i64 lo) ∧ W.cell? ⟨w.heap.size, 1, none⟩ = some (.int .i64 hi)) ((refine ⟨?_, ?_, ?_⟩ <;> first | (((repeat (first | exact hL0 | refine later_drew ?_ | refine later_alloc ?_ _ | refine later_set ?_ _ (Nat.le_add_right _ _) _ | refine later_set ?_ _ (Nat.le_refl _) _)); done)) | (go_keep; done)))
      (first | (go_at_call 47; refine (min2_calls lo n _ _ (box_cells w0 #[.int .i64 lo, .int .i64 n] 3 _ (later_drew (later_refl _)) 0) (box_cells w0 #[.int .i64 lo, .int .i64 n] 3 _ (later_drew (later_refl _)) 1)).mono ?_; rintro e w1 ⟨rfl, rfl⟩))
    all_goals
      go_wp2_with fail
      refine bodyPost_ret (v := .agg #[.int .i64 (min lo n), .int .i64 hi]) ?_ rfl ⟨rfl, ?_⟩
      · simp [results, Try.results67, go_sem, *]
      · (((repeat (first | exact hL0 | refine later_drew ?_ | refine later_alloc ?_ _ | refine later_set ?_ _ (Nat.le_add_right _ _) _ | refine later_set ?_ _ (Nat.le_refl _) _)); done))
  · have hm : max hi n = n := by omega
    rw [hm]
    go_enter Try.func67, Try.ntmps67
    go_wp2_with fail
    rw [← Hw0.out]
    clear Hw0
    go_region_held3 (fun W => Later w W ∧ W.cell? ⟨w.heap.size, 0, none⟩ = some (.int .i64 lo) ∧ W.cell? ⟨w.heap.size, 1, none⟩ = some (.int .i64 hi)) ((refine ⟨?_, ?_, ?_⟩ <;> first | (((repeat (first | exact hL0 | refine later_drew ?_ | refine later_alloc ?_ _ | refine later_set ?_ _ (Nat.le_add_right _ _) _ | refine later_set ?_ _ (Nat.le_refl _) _)); done)) | (go_keep; done)))
      (first | (go_at_call 47; refine (min2_calls lo n _ _ (box_cells w0 #[.int .i64 lo, .int .i64 n] 3 _ (later_drew (later_refl _)) 0) (box_cells w0 #[.int .i64 lo, .int .i64 n] 3 _ (later_drew (later_refl _)) 1)).mono ?_; rintro e w1 ⟨rfl, rfl⟩))
    all_goals
      go_wp2_with fail
      refine bodyPost_ret (v := .agg #[.int .i64 (min lo n), .int .i64 n]) ?_ rfl ⟨rfl, ?_⟩
      · simp [results, Try.results67, go_sem, *]
      · (((repeat (first | exact hL0 | refine later_drew ?_ | refine later_alloc ?_ _ | refine later_set ?_ _ (Nat.le_add_right _ _) _ | refine later_set ?_ _ (Nat.le_refl _) _)); done))
end Go.Proofs.Ytnlbgaippnjmiaa

/- The program's work: what lies in memory; bounds, good, done: walks. -/
namespace Go.Proofs.Ytnlbgaippnjmiaa
open Go Go.RowKit

def pad4 (d : List Int) : List Int := [d.getD 0 0, d.getD 1 0, d.getD 2 0, d.getD 3 0]
def drysV (l : List (List Int)) : List Value := l.flatMap fun d => ints (pad4 d)
theorem drysV_length (l : List (List Int)) : (drysV l).length = l.length * 4 := by
  induction l with
  | nil => rfl
  | cons h l ih => simp only [drysV, List.flatMap_cons, List.length_append] at ih ⊢; rw [ih]; simp [pad4, ints]; omega
theorem drysV_snoc (l : List (List Int)) (d : List Int) : drysV (l ++ [d]) = drysV l ++ ints (pad4 d) := by simp [drysV]
theorem drysV_get (l : List (List Int)) (k j : Nat) (x : List Int) (h : l[k]? = some x) (hj : j < 4) : (drysV l)[k * 4 + j]? = (ints (pad4 x))[j]? := by
  induction l generalizing k with
  | nil => simp at h
  | cons y l ih =>
    cases k with
    | zero =>
      simp at h; subst h
      simp only [drysV, List.flatMap_cons]
      rw [List.getElem?_append_left (by simp [pad4, ints]; omega)]; simp
    | succ k =>
      simp only [drysV, List.flatMap_cons] at ih ⊢
      rw [List.getElem?_append_right (by simp [pad4, ints]; omega)]
      have : (k + 1) * 4 + j - (ints (pad4 y)).length = k * 4 + j := by simp [pad4, ints]; omega
      rw [this]
      exact ih k (by simpa using h)
def RD (w : World) (A : Option Addr) (n : Nat) (l : List (List Int)) : Prop := Reads w w.heap.size 4 A n (drysV l)
section
variable {w W : World} {n : Nat} {A : Option Addr} {l : List (List Int)}
theorem RD.later (h : RD w A n l) (k : Later w W) : RD W A n l := Reads.later h k
theorem RD.len (h : RD w A n l) : n = l.length := by have := h.1; rw [drysV_length] at this; omega
theorem RD.nil : RD w none 0 [] := Reads.none_
theorem RD.get (h : RD w A n l) {k : Nat} (hk : k < n) :
    ∃ b o d e0 e1 e2 e3, A = some ⟨b, o, none⟩ ∧ b < w.heap.size ∧ l[k]? = some d ∧ Hid (pad4 d = [e0, e1, e2, e3]) ∧ (∀ W, Later w W → W.cell? ⟨b, o + k * 4, none⟩ = some (.int .i64 e0)) ∧ (∀ W, Later w W → W.cell? ⟨b, o + k * 4 + 1, none⟩ = some (.int .i64 e1)) ∧
      (∀ W, Later w W → W.cell? ⟨b, o + k * 4 + 2, none⟩ = some (.int .i64 e2)) ∧ ∀ W, Later w W → W.cell? ⟨b, o + k * 4 + 3, none⟩ = some (.int .i64 e3) := by
  obtain ⟨b, o, e, hb, hc⟩ := Reads.lit h (by omega) (by omega)
  have hl : k < l.length := by have := h.len; omega
  have hx := List.getElem?_eq_getElem hl
  exact ⟨b, o, l[k], _, _, _, _, e, hb, hx, rfl, fun W k' => cell_later (hc _ _ (drysV_get l k 0 _ hx (by omega))) k' hb, fun W k' => cell_later (hc _ _ (drysV_get l k 1 _ hx (by omega))) k' hb,
    fun W k' => cell_later (hc _ _ (drysV_get l k 2 _ hx (by omega))) k' hb, fun W k' => cell_later (hc _ _ (drysV_get l k 3 _ hx (by omega))) k' hb⟩
end
theorem pad4_range {c : Clo} (ok : OkH c) {d : List Int} (hd : IsDry c d) : ∀ x ∈ pad4 d, 0 ≤ x ∧ x ≤ 1000 := by
  have key : ∀ i : Nat, 0 ≤ d.getD i 0 ∧ d.getD i 0 ≤ 1000 := fun i => by
    rw [List.getD_eq_getElem?_getD]
    rcases Nat.lt_or_ge i d.length with hl | hl
    · rw [List.getElem?_eq_getElem hl, Option.getD_some]
      have hi : i < c.horses.length := by have := hd.len; omega
      have h1 := hd.mem i _ _ (List.getElem?_eq_getElem hi) (List.getElem?_eq_getElem hl)
      have h2 := ok.horse _ (List.getElem_mem hi)
      omega
    · rw [List.getElem?_eq_none hl]; simp
  intro x hx
  simp only [pad4, List.mem_cons, List.not_mem_nil, or_false] at hx
  rcases hx with rfl | rfl | rfl | rfl <;> exact key _
theorem minuteR_pad4 (c : Clo) (p d : List Int) (h : Nat) (h4 : h < 4) : minuteR c p (pad4 d) h = minuteR c p d h := by
  have : h = 0 ∨ h = 1 ∨ h = 2 ∨ h = 3 := by omega
  rcases this with rfl | rfl | rfl | rfl <;> rfl

/-- what a work holds -/
structure WK (w : World) (bw : Nat) (c : Clo) (A1 : Option Addr) (n1 k1 : Nat) (A2 : Option Addr) (n2 k2 : Nat) (A3 : Option Addr) (n3 k3 : Nat) (At : Option Addr) (nt kt : Nat) (tr : List (List Int)) (vm : Value) : Prop where
  cells : ∀ i, w.cell? ⟨bw, i, none⟩ = #[.int .i64 c.closets, .int .i64 c.close, .slice A1 n1 k1, .slice A2 n2 k2, .slice A3 n3 k3, .slice At nt kt, vm][i]?
  lt : bw < w.heap.size
  cv : CV w c A1 n1 A2 n2 A3 n3
  tr : RD w At nt tr
theorem WK.later {w W : World} {bw : Nat} {c : Clo} {A1 A2 A3 At : Option Addr} {n1 k1 n2 k2 n3 k3 nt kt : Nat} {tr : List (List Int)} {vm : Value}
    (h : WK w bw c A1 n1 k1 A2 n2 k2 A3 n3 k3 At nt kt tr vm) (hL : Later w W) : WK W bw c A1 n1 k1 A2 n2 k2 A3 n3 k3 At nt kt tr vm :=
  ⟨fun i => (Below.cell hL (p := ⟨bw, i, none⟩) h.lt).trans (h.cells i), Nat.lt_of_lt_of_le h.lt hL.size, h.cv.later hL, h.tr.later hL⟩

/-- the bounds of what is asked of all truths, as the program has them -/
def bP (f : List Int → Int) : List (List Int) → Int × Int
  | [] => (0, 0)
  | d :: l => l.foldl (fun r d => wider r (f d)) (f d, f d)
theorem bP_snoc (f : List Int → Int) (l : List (List Int)) (d : List Int) (h : l ≠ []) : bP f (l ++ [d]) = wider (bP f l) (f d) := by
  cases l with
  | nil => exact absurd rfl h
  | cons x l => simp [bP, List.foldl_append]
theorem minutes_eq {A1 A2 A3 : Option Addr} {n1 k1 n2 k2 n3 k3 : Nat} {c : Clo} {Ap : Option Addr} {np kp : Nat} {p d : List Int} {m0 m1 m2 m3 e0 e1 e2 e3 : Int} (w : World) (hc : CV w c A1 n1 A2 n2 A3 n3) (ok : OkH c) (hp : RI w Ap np p) (hpl : p.length ≤ c.horses.length)
    (hpb : ∀ x ∈ p, -1000000 ≤ x ∧ x ≤ 1000000) (hd : IsDry c d) (he : pad4 d = [e0, e1, e2, e3]) (hm : minutesP c p (pad4 d) = [m0, m1, m2, m3]) :
    Calls Try.prog 61 #[(.agg #[.int .i64 c.closets, .int .i64 c.close, .slice A1 n1 k1, .slice A2 n2 k2, .slice A3 n3 k3]), .slice Ap np kp, .agg #[.int .i64 e0, .int .i64 e1, .int .i64 e2, .int .i64 e3]] w fun e w' =>
      e = .returned (.agg #[.int .i64 m0, .int .i64 m1, .int .i64 m2, .int .i64 m3]) ∧ Later w w' := by
  have hr := pad4_range ok hd
  rw [he] at hr hm
  have := minutes_calls (k1 := k1) (k2 := k2) (k3 := k3) (kp := kp) w hc ok hp hpl hpb hr
  rw [hm] at this; exact this
theorem index4 {m0 m1 m2 m3 mh : Int} {h : Nat} (hh : h < 4) (hg : [m0, m1, m2, m3][h]? = some mh) (W : World) :
    (Instr.index 108 (.agg #[.int .i64 m0, .int .i64 m1, .int .i64 m2, .int .i64 m3]) (.int .i64 (h : Int))).run Try.prog W = .ok (.int .i64 mh) W := by
  have i0 : ∀ w : World, (Instr.index 108 (.agg #[.int .i64 m0, .int .i64 m1, .int .i64 m2, .int .i64 m3]) (.int .i64 0)).run Try.prog w = .ok (.int .i64 m0) w := fun _ => by kernel_rfl
  have i1 : ∀ w : World, (Instr.index 108 (.agg #[.int .i64 m0, .int .i64 m1, .int .i64 m2, .int .i64 m3]) (.int .i64 1)).run Try.prog w = .ok (.int .i64 m1) w := fun _ => by kernel_rfl
  have i2 : ∀ w : World, (Instr.index 108 (.agg #[.int .i64 m0, .int .i64 m1, .int .i64 m2, .int .i64 m3]) (.int .i64 2)).run Try.prog w = .ok (.int .i64 m2) w := fun _ => by kernel_rfl
  have i3 : ∀ w : World, (Instr.index 108 (.agg #[.int .i64 m0, .int .i64 m1, .int .i64 m2, .int .i64 m3]) (.int .i64 3)).run Try.prog w = .ok (.int .i64 m3) w := fun _ => by kernel_rfl
  have : h = 0 ∨ h = 1 ∨ h = 2 ∨ h = 3 := by omega
  rcases this with rfl | rfl | rfl | rfl
  · have e : m0 = mh := by simpa using hg
    rw [← e]; exact i0 W
  · have e : m1 = mh := by simpa using hg
    rw [← e]; exact i1 W
  · have e : m2 = mh := by simpa using hg
    rw [← e]; exact i2 W
  · have e : m3 = mh := by simpa using hg
    rw [← e]; exact i3 W
end Go.Proofs.Ytnlbgaippnjmiaa

/- The program's bounds: walks (from). -/
namespace Go.Proofs.Ytnlbgaippnjmiaa
open Go Go.RowKit

set_option maxRecDepth 100000 in
set_option maxHeartbeats 1000000 in
theorem bounds_from_calls {A1 A2 A3 At Ap : Option Addr} {n1 k1 n2 k2 n3 k3 nt kt np kp bw h : Nat} {c : Clo} {tr : List (List Int)} {vm : Value} {p : List Int} (w : World)
    (hw : WK w bw c A1 n1 k1 A2 n2 k2 A3 n3 k3 At nt kt tr vm) (ok : OkH c) (hp : RI w Ap np p) (hpl : IsPl c p) (hdry : ∀ d ∈ tr, IsDry c d) (hn : nt ≤ 1000000) (hh : h < n1) :
    Calls Try.prog 46 #[.agg #[.func (.func 45) #[] #[]], .pointer (some ⟨bw, 0, none⟩), .slice Ap np kp, .int .i64 (h : Int)] w fun e w' =>
      e = .returned (.agg #[.int .i64 (bP (fun d => minuteR c p d h) tr).1, .int .i64 (bP (fun d => minuteR c p d h) tr).2]) ∧ Later w w' := by
  have hnt := hw.tr.len
  have hn1 := hw.cv.hs.len
  have hl4 := ok.len
  have hh4 : h < 4 := by omega
  have hhi : (h : Int) < n1 := by omega
  have hhi4 : (h : Int) < 4 := by omega
  have hhc : h < c.horses.length := by omega
  obtain ⟨b1, o1, z, rfl, _, hz, hz0, hz1, hz2, hz3⟩ := hw.cv.hs.get hh
  have okz := ok.horse z (List.mem_of_getElem? hz)
  have Hz := hide (show graceAt c h = z.grace by unfold graceAt; rw [List.getD_eq_getElem?_getD, hz]; rfl)
  have Hnt := hide hnt
  have Hn1 := hide hn1
  clear hnt hn1 hz
  obtain ⟨w0, hw0⟩ : ∃ X, X = w.alloc (.cells #[.func (.func 45) #[] #[]] 119) := ⟨_, rfl⟩
  have hL0 : Later w w0 := by rw [hw0]; exact later_alloc (later_refl _) _
  have hs0 : w0.heap.size = w.heap.size + 1 := by rw [hw0]; simp
  have bq : Blk w0 w.heap.size 119 #[.func (.func 45) #[] #[]] := by rw [hw0]; exact Blk.new _ _ _
  have Hw0 := hide hw0
  clear hw0
  obtain ⟨W3, hW3⟩ : ∃ X, X = w0.alloc (.cells #[.int .i64 0, .int .i64 0] 57) := ⟨_, rfl⟩
  have br : Blk W3 (w.heap.size + 1) 57 #[.int .i64 0, .int .i64 0] := by
    have := Blk.new w0 57 #[.int .i64 0, .int .i64 0]
    rw [hs0] at this
    rw [hW3]; exact this
  have hL3 : Later w0 W3 := by rw [hW3]; exact later_alloc (later_refl _) _
  have Hs0 := hide hs0
  have HW3 := hide hW3
  have hwL := hw.later (Later.trans hL0 hL3)
  have t5 := hwL.cells 5
  simp only [List.getElem?_toArray, List.getElem?_cons_zero, List.getElem?_cons_succ] at t5
  rw [hW3] at t5
  have hbw : bw < w.heap.size := hw.lt
  rw [Hw0.out] at t5
  clear hs0 hW3 hwL
  go_enter Try.func46, Try.ntmps46
  go_wp2_with fail
  rw [← Hw0.out, ← HW3.out]
  clear Hw0 HW3 t5
  go_loopw [17] (fun i wr => ∃ j : Nat, j ≤ nt ∧ i = .int .i64 j ∧ Later w0 wr ∧ Blk wr (w.heap.size + 1) 57 #[.int .i64 (bP (fun d => minuteR c p d h) (tr.take j)).1, .int .i64 (bP (fun d => minuteR c p d h) (tr.take j)).2]) (fun i _ => nt - (intOf i).toNat)
  case atStart => exact ⟨0, Nat.zero_le _, rfl, hL3, by rw [List.take_zero]; exact br⟩
  case round =>
    obtain ⟨j, hj, rfl, hL, hbk⟩ := hrel
    by_cases hlt : j < nt
    · obtain ⟨b, o, d, e0, e1, e2, e3, rfl, _, hx, He, hx0, hx1, hx2, hx3⟩ := hw.tr.get hlt
      have hLw := Later.trans hL0 hL
      have hdr := hdry d (List.mem_of_getElem? hx)
      obtain ⟨m0, m1, m2, m3, hm⟩ : ∃ m0 m1 m2 m3, minutesP c p (pad4 d) = [m0, m1, m2, m3] := ⟨_, _, _, _, rfl⟩
      obtain ⟨mh, hmh⟩ : ∃ mh, minuteR c p d h = mh := ⟨_, rfl⟩
      have hget := minutesP_get (d := pad4 d) hpl hhc hh4
      rw [minuteR_pad4 c p d h hh4, hmh, hm] at hget
      have hget2 := index4 hh4 hget
      have hmr := minuteR_range ok (Nat.le_of_eq hpl.len) hdr h hhc
      rw [hmh] at hmr
      have ht : tr.take (j + 1) = tr.take j ++ [d] := by rw [List.take_add_one, hx]; rfl
      have hb1 : j = 0 → bP (fun d => minuteR c p d h) (tr.take (j + 1)) = (mh, mh) := fun e => by
        rw [ht, e, List.take_zero, List.nil_append]; simp [bP, hmh, Hz.out]
      have hb2 : j ≠ 0 → bP (fun d => minuteR c p d h) (tr.take (j + 1)) = wider (bP (fun d => minuteR c p d h) (tr.take j)) (mh) := fun e => by
        have hne : tr.take j ≠ [] := by
          intro e2
          have e3 := congrArg List.length e2
          rw [List.length_take] at e3
          have := Hnt.out
          simp only [List.length_nil] at e3
          omega
        rw [ht, bP_snoc _ _ _ hne]
        simp [hmh, Hz.out]
      have Hb1 := hide hb1
      have Hb2 := hide hb2
      have Hm := hide hm
      generalize bP (fun d => minuteR c p d h) (tr.take j) = r at *
      obtain ⟨r1, r2⟩ := r
      dsimp only at hbk
      have hi1 : (j : Int) < nt := by omega
      have hx0 := hx0 _ hLw
      have hx1 := hx1 _ hLw
      have hx2 := hx2 _ hLw
      have hx3 := hx3 _ hLw
      have hbd := box_cells wr #[.int .i64 e0, .int .i64 e1, .int .i64 e2, .int .i64 e3] 108
      obtain ⟨Wb, hWb⟩ : ∃ X, X = wr.alloc (.cells #[.int .i64 e0, .int .i64 e1, .int .i64 e2, .int .i64 e3] 108) := ⟨_, rfl⟩
      have hLb : Later wr Wb := by rw [hWb]; exact later_alloc (later_refl _) _
      rw [← hWb] at hbd
      have HWb := hide hWb
      have hd0 := fun W hW => hbd W hW 0
      have hd1 := fun W hW => hbd W hW 1
      have hd2 := fun W hW => hbd W hW 2
      have hd3 := fun W hW => hbd W hW 3
      have hLwb := Later.trans hLw hLb
      have hwk := hw.later hLwb
      have hcw := fun W (hW : Later Wb W) i => (hwk.later hW).cells i
      have hc0 := fun W hW => hcw W hW 0
      have hc1 := fun W hW => hcw W hW 1
      have hc2 := fun W hW => hcw W hW 2
      have hc3 := fun W hW => hcw W hW 3
      have hc4 := fun W hW => hcw W hW 4
      have hqq := fun W (hW : Later Wb W) => (bq.later (Later.trans hL (Later.trans hLb hW))).cell 0
      simp only [List.getElem?_toArray, List.getElem?_cons_zero, List.getElem?_cons_succ] at hd0 hd1 hd2 hd3 hc0 hc1 hc2 hc3 hc4 hqq
      have hz0' := fun W (hW : Later Wb W) => hz0 W (Later.trans hLwb hW)
      have hz1' := fun W (hW : Later Wb W) => hz1 W (Later.trans hLwb hW)
      have hz2' := fun W (hW : Later Wb W) => hz2 W (Later.trans hLwb hW)
      have hz3' := fun W (hW : Later Wb W) => hz3 W (Later.trans hLwb hW)
      have hpb := hp.later hLwb
      have hcv := hwk.cv
      have hT : ∀ e : Ext Wb, Later Wb e.W := fun e => e.h
      have HB := hide (hbk.later hLb)
      have HL := hide (Later.trans hL hLb)
      clear hWb hbd hcw hb1 hb2 hm hmh hget ht hx hz0 hz1 hz2 hz3 hbk hL3 br
      go_wp2_with fail
      rw [← HWb.out]
      clear HWb
      refine wp_region_ext (w0 := Wb) (by kernel_rfl) (by kernel_rfl) (later_refl _) ?_; (repeat (first | go_big_quiet_step ((first | (go_at_call 61; exact calls_ext (hT _) (minutes_eq _ (hcv.later (hT _)) ok (hpb.later (hT _)) (Nat.le_of_eq hpl.len) (hpl.bound ok) hdr He.out Hm.out)) | (go_at_call 45; exact calls_ext (hT _) (from_calls z mh _)))) | quiet_step ((first | (go_at_call 61; exact calls_ext (hT _) (minutes_eq _ (hcv.later (hT _)) ok (hpb.later (hT _)) (Nat.le_of_eq hpl.len) (hpl.bound ok) hdr He.out Hm.out)) | (go_at_call 45; exact calls_ext (hT _) (from_calls z mh _)))))); refine wpQuiet_nil ?_; rintro w3 ⟨⟨_, hL3⟩, rfl⟩; (try dsimp only)
      have hLn := Later.trans HL.out hL3
      have hk3 := HB.out.later hL3
      have hg : w0.heap.size ≤ w.heap.size + 1 := Nat.le_of_eq Hs0.out
      clear hd0 hd1 hd2 hd3 hc0 hc1 hc2 hc3 hc4 hqq hz0' hz1' hz2' hz3' hT hget2 hL3 HL HB
      by_cases hj0 : j = 0
      · have e0' : ((j : Int) == 0) = true := by simp [hj0]
        have Hv := hide (Hb1.out hj0)
        have f0 := hk3.frozen 0
        have f1 := hk3.frozen 1
        have c0 := hk3.cell 0
        have c1 := hk3.cell 1
        simp only [List.getElem?_toArray, List.getElem?_cons_zero, List.getElem?_cons_succ] at c0 c1
        have hk4 : Blk ((w3.setCell ⟨w.heap.size + 1, 0, none⟩ (.int .i64 (mh))).setCell ⟨w.heap.size + 1, 1, none⟩ (.int .i64 (mh))) (w.heap.size + 1) 57 #[.int .i64 (mh), .int .i64 (mh)] := (hk3.set_ 0 _).set_ 1 _
        have hL4 := later_drop (later_drop hLn (a := ⟨w.heap.size + 1, 0, none⟩) (u := .int .i64 (mh)) hg) (a := ⟨w.heap.size + 1, 1, none⟩) (u := .int .i64 (mh)) hg
        have HK := hide hk4
        have HL4 := hide hL4
        clear hj0 hk3 hk4 hL4
        go_wp2_with fail
        refine (wider_calls (mh) (mh) (mh) _).mono ?_
        rintro e w5 ⟨rfl, hL5⟩
        have hk5 := HK.out.later hL5
        have hL6 := Later.trans HL4.out hL5
        have g0 := hk5.frozen 0
        have g1 := hk5.frozen 1
        have q0 := hk5.cell 0
        have q1 := hk5.cell 1
        simp only [List.getElem?_toArray, List.getElem?_cons_zero, List.getElem?_cons_succ] at q0 q1
        have hk6 : Blk ((w5.setCell ⟨w.heap.size + 1, 0, none⟩ (.int .i64 (min (mh) (mh)))).setCell ⟨w.heap.size + 1, 1, none⟩ (.int .i64 (max (mh) (mh)))) (w.heap.size + 1) 57 #[.int .i64 (bP (fun d => minuteR c p d h) (tr.take (j + 1))).1, .int .i64 (bP (fun d => minuteR c p d h) (tr.take (j + 1))).2] := by
          have := (hk5.set_ 0 (.int .i64 (min (mh) (mh)))).set_ 1 (.int .i64 (max (mh) (mh)))
          rw [Hv.out]
          simpa [Int.min_self, Int.max_self] using this
        have hL7 := later_drop (later_drop hL6 (a := ⟨w.heap.size + 1, 0, none⟩) (u := .int .i64 (min (mh) (mh))) hg) (a := ⟨w.heap.size + 1, 1, none⟩) (u := .int .i64 (max (mh) (mh))) hg
        have HK6 := hide hk6
        have HL7 := hide hL7
        clear hk5 hk6 hL7 HK HL4 c0 c1 f0 f1
        go_wp2_with fail
        go_roundw
        case rel => exact ⟨j + 1, by omega, by go_num, by have := HL7.out; rwa [Int.min_self, Int.max_self] at this, by have := HK6.out; rwa [Int.min_self, Int.max_self] at this⟩
        case measure => simp [intOf]; omega
      · have e0' : ((j : Int) == 0) = false := by simp [hj0]
        have Hv := hide (Hb2.out hj0)
        have f0 := hk3.frozen 0
        have f1 := hk3.frozen 1
        have c0 := hk3.cell 0
        have c1 := hk3.cell 1
        simp only [List.getElem?_toArray, List.getElem?_cons_zero, List.getElem?_cons_succ] at c0 c1
        have HK := hide hk3
        clear hj0 hk3
        go_wp2_with fail
        refine (wider_calls r1 r2 (mh) _).mono ?_
        rintro e w5 ⟨rfl, hL5⟩
        have hk5 := HK.out.later hL5
        have hL6 := Later.trans hLn hL5
        have g0 := hk5.frozen 0
        have g1 := hk5.frozen 1
        have q0 := hk5.cell 0
        have q1 := hk5.cell 1
        simp only [List.getElem?_toArray, List.getElem?_cons_zero, List.getElem?_cons_succ] at q0 q1
        have hk6 : Blk ((w5.setCell ⟨w.heap.size + 1, 0, none⟩ (.int .i64 (min r1 (mh)))).setCell ⟨w.heap.size + 1, 1, none⟩ (.int .i64 (max r2 (mh)))) (w.heap.size + 1) 57 #[.int .i64 (bP (fun d => minuteR c p d h) (tr.take (j + 1))).1, .int .i64 (bP (fun d => minuteR c p d h) (tr.take (j + 1))).2] := by
          have := (hk5.set_ 0 (.int .i64 (min r1 (mh)))).set_ 1 (.int .i64 (max r2 (mh)))
          rw [Hv.out]
          exact this
        have hL7 := later_drop (later_drop hL6 (a := ⟨w.heap.size + 1, 0, none⟩) (u := .int .i64 (min r1 (mh))) hg) (a := ⟨w.heap.size + 1, 1, none⟩) (u := .int .i64 (max r2 (mh))) hg
        have HK6 := hide hk6
        have HL7 := hide hL7
        clear hk5 hk6 hL7 HK c0 c1 f0 f1
        go_wp2_with fail
        go_roundw
        case rel => exact ⟨j + 1, by omega, by go_num, HL7.out, HK6.out⟩
        case measure => simp [intOf]; omega
    · have hfin : tr.take j = tr := List.take_of_length_le (by have := Hnt.out; omega)
      rw [hfin] at hbk
      have hg : w0.heap.size ≤ w.heap.size + 1 := Nat.le_of_eq Hs0.out
      obtain ⟨⟨r1, r2⟩, hr⟩ : ∃ r, bP (fun d => minuteR c p d h) tr = r := ⟨_, rfl⟩
      rw [hr] at hbk
      dsimp only at hbk
      have Hr := hide hr
      have f0 := hbk.frozen 0
      have f1 := hbk.frozen 1
      have c0 := hbk.cell 0
      have c1 := hbk.cell 1
      simp only [List.getElem?_toArray, List.getElem?_cons_zero, List.getElem?_cons_succ] at c0 c1
      clear hr hfin hbk hL3 br
      go_wp2_with fail
      refine bodyPost_ret (v := .agg #[.int .i64 r1, .int .i64 r2]) ?_ rfl ⟨by rw [Hr.out], ?_⟩
      · simp [results, Try.results46, go_sem, *]
      · exact Later.trans hL0 (later_drop (later_drop hL hg) hg)
end Go.Proofs.Ytnlbgaippnjmiaa

/- The program's bounds: walks (to). -/
namespace Go.Proofs.Ytnlbgaippnjmiaa
open Go Go.RowKit

set_option maxRecDepth 100000 in
set_option maxHeartbeats 1000000 in
theorem bounds_to_calls {A1 A2 A3 At Ap : Option Addr} {n1 k1 n2 k2 n3 k3 nt kt np kp bw h : Nat} {c : Clo} {tr : List (List Int)} {vm : Value} {p : List Int} (w : World)
    (hw : WK w bw c A1 n1 k1 A2 n2 k2 A3 n3 k3 At nt kt tr vm) (ok : OkH c) (hp : RI w Ap np p) (hpl : IsPl c p) (hdry : ∀ d ∈ tr, IsDry c d) (hn : nt ≤ 1000000) (hh : h < n1) :
    Calls Try.prog 46 #[.agg #[.func (.func 48) #[] #[]], .pointer (some ⟨bw, 0, none⟩), .slice Ap np kp, .int .i64 (h : Int)] w fun e w' =>
      e = .returned (.agg #[.int .i64 (bP (fun d => minuteR c p d h + graceAt c h) tr).1, .int .i64 (bP (fun d => minuteR c p d h + graceAt c h) tr).2]) ∧ Later w w' := by
  have hnt := hw.tr.len
  have hn1 := hw.cv.hs.len
  have hl4 := ok.len
  have hh4 : h < 4 := by omega
  have hhi : (h : Int) < n1 := by omega
  have hhi4 : (h : Int) < 4 := by omega
  have hhc : h < c.horses.length := by omega
  obtain ⟨b1, o1, z, rfl, _, hz, hz0, hz1, hz2, hz3⟩ := hw.cv.hs.get hh
  have okz := ok.horse z (List.mem_of_getElem? hz)
  have Hz := hide (show graceAt c h = z.grace by unfold graceAt; rw [List.getD_eq_getElem?_getD, hz]; rfl)
  have Hnt := hide hnt
  have Hn1 := hide hn1
  clear hnt hn1 hz
  obtain ⟨w0, hw0⟩ : ∃ X, X = w.alloc (.cells #[.func (.func 48) #[] #[]] 119) := ⟨_, rfl⟩
  have hL0 : Later w w0 := by rw [hw0]; exact later_alloc (later_refl _) _
  have hs0 : w0.heap.size = w.heap.size + 1 := by rw [hw0]; simp
  have bq : Blk w0 w.heap.size 119 #[.func (.func 48) #[] #[]] := by rw [hw0]; exact Blk.new _ _ _
  have Hw0 := hide hw0
  clear hw0
  obtain ⟨W3, hW3⟩ : ∃ X, X = w0.alloc (.cells #[.int .i64 0, .int .i64 0] 57) := ⟨_, rfl⟩
  have br : Blk W3 (w.heap.size + 1) 57 #[.int .i64 0, .int .i64 0] := by
    have := Blk.new w0 57 #[.int .i64 0, .int .i64 0]
    rw [hs0] at this
    rw [hW3]; exact this
  have hL3 : Later w0 W3 := by rw [hW3]; exact later_alloc (later_refl _) _
  have Hs0 := hide hs0
  have HW3 := hide hW3
  have hwL := hw.later (Later.trans hL0 hL3)
  have t5 := hwL.cells 5
  simp only [List.getElem?_toArray, List.getElem?_cons_zero, List.getElem?_cons_succ] at t5
  rw [hW3] at t5
  have hbw : bw < w.heap.size := hw.lt
  rw [Hw0.out] at t5
  clear hs0 hW3 hwL
  go_enter Try.func46, Try.ntmps46
  go_wp2_with fail
  rw [← Hw0.out, ← HW3.out]
  clear Hw0 HW3 t5
  go_loopw [17] (fun i wr => ∃ j : Nat, j ≤ nt ∧ i = .int .i64 j ∧ Later w0 wr ∧ Blk wr (w.heap.size + 1) 57 #[.int .i64 (bP (fun d => minuteR c p d h + graceAt c h) (tr.take j)).1, .int .i64 (bP (fun d => minuteR c p d h + graceAt c h) (tr.take j)).2]) (fun i _ => nt - (intOf i).toNat)
  case atStart => exact ⟨0, Nat.zero_le _, rfl, hL3, by rw [List.take_zero]; exact br⟩
  case round =>
    obtain ⟨j, hj, rfl, hL, hbk⟩ := hrel
    by_cases hlt : j < nt
    · obtain ⟨b, o, d, e0, e1, e2, e3, rfl, _, hx, He, hx0, hx1, hx2, hx3⟩ := hw.tr.get hlt
      have hLw := Later.trans hL0 hL
      have hdr := hdry d (List.mem_of_getElem? hx)
      obtain ⟨m0, m1, m2, m3, hm⟩ : ∃ m0 m1 m2 m3, minutesP c p (pad4 d) = [m0, m1, m2, m3] := ⟨_, _, _, _, rfl⟩
      obtain ⟨mh, hmh⟩ : ∃ mh, minuteR c p d h = mh := ⟨_, rfl⟩
      have hget := minutesP_get (d := pad4 d) hpl hhc hh4
      rw [minuteR_pad4 c p d h hh4, hmh, hm] at hget
      have hget2 := index4 hh4 hget
      have hmr := minuteR_range ok (Nat.le_of_eq hpl.len) hdr h hhc
      rw [hmh] at hmr
      have ht : tr.take (j + 1) = tr.take j ++ [d] := by rw [List.take_add_one, hx]; rfl
      have hb1 : j = 0 → bP (fun d => minuteR c p d h + graceAt c h) (tr.take (j + 1)) = (mh + z.grace, mh + z.grace) := fun e => by
        rw [ht, e, List.take_zero, List.nil_append]; simp [bP, hmh, Hz.out]
      have hb2 : j ≠ 0 → bP (fun d => minuteR c p d h + graceAt c h) (tr.take (j + 1)) = wider (bP (fun d => minuteR c p d h + graceAt c h) (tr.take j)) (mh + z.grace) := fun e => by
        have hne : tr.take j ≠ [] := by
          intro e2
          have e3 := congrArg List.length e2
          rw [List.length_take] at e3
          have := Hnt.out
          simp only [List.length_nil] at e3
          omega
        rw [ht, bP_snoc _ _ _ hne]
        simp [hmh, Hz.out]
      have Hb1 := hide hb1
      have Hb2 := hide hb2
      have Hm := hide hm
      generalize bP (fun d => minuteR c p d h + graceAt c h) (tr.take j) = r at *
      obtain ⟨r1, r2⟩ := r
      dsimp only at hbk
      have hi1 : (j : Int) < nt := by omega
      have hx0 := hx0 _ hLw
      have hx1 := hx1 _ hLw
      have hx2 := hx2 _ hLw
      have hx3 := hx3 _ hLw
      have hbd := box_cells wr #[.int .i64 e0, .int .i64 e1, .int .i64 e2, .int .i64 e3] 108
      obtain ⟨Wb, hWb⟩ : ∃ X, X = wr.alloc (.cells #[.int .i64 e0, .int .i64 e1, .int .i64 e2, .int .i64 e3] 108) := ⟨_, rfl⟩
      have hLb : Later wr Wb := by rw [hWb]; exact later_alloc (later_refl _) _
      rw [← hWb] at hbd
      have HWb := hide hWb
      have hd0 := fun W hW => hbd W hW 0
      have hd1 := fun W hW => hbd W hW 1
      have hd2 := fun W hW => hbd W hW 2
      have hd3 := fun W hW => hbd W hW 3
      have hLwb := Later.trans hLw hLb
      have hwk := hw.later hLwb
      have hcw := fun W (hW : Later Wb W) i => (hwk.later hW).cells i
      have hc0 := fun W hW => hcw W hW 0
      have hc1 := fun W hW => hcw W hW 1
      have hc2 := fun W hW => hcw W hW 2
      have hc3 := fun W hW => hcw W hW 3
      have hc4 := fun W hW => hcw W hW 4
      have hqq := fun W (hW : Later Wb W) => (bq.later (Later.trans hL (Later.trans hLb hW))).cell 0
      simp only [List.getElem?_toArray, List.getElem?_cons_zero, List.getElem?_cons_succ] at hd0 hd1 hd2 hd3 hc0 hc1 hc2 hc3 hc4 hqq
      have hz0' := fun W (hW : Later Wb W) => hz0 W (Later.trans hLwb hW)
      have hz1' := fun W (hW : Later Wb W) => hz1 W (Later.trans hLwb hW)
      have hz2' := fun W (hW : Later Wb W) => hz2 W (Later.trans hLwb hW)
      have hz3' := fun W (hW : Later Wb W) => hz3 W (Later.trans hLwb hW)
      have hpb := hp.later hLwb
      have hcv := hwk.cv
      have hT : ∀ e : Ext Wb, Later Wb e.W := fun e => e.h
      have HB := hide (hbk.later hLb)
      have HL := hide (Later.trans hL hLb)
      clear hWb hbd hcw hb1 hb2 hm hmh hget ht hx hz0 hz1 hz2 hz3 hbk hL3 br
      go_wp2_with fail
      rw [← HWb.out]
      clear HWb
      refine wp_region_ext (w0 := Wb) (by kernel_rfl) (by kernel_rfl) (later_refl _) ?_; (repeat (first | go_big_quiet_step ((first | (go_at_call 61; exact calls_ext (hT _) (minutes_eq _ (hcv.later (hT _)) ok (hpb.later (hT _)) (Nat.le_of_eq hpl.len) (hpl.bound ok) hdr He.out Hm.out)) | (go_at_call 48; exact calls_ext (hT _) (to_calls z mh _ (by omega) (by omega))))) | quiet_step ((first | (go_at_call 61; exact calls_ext (hT _) (minutes_eq _ (hcv.later (hT _)) ok (hpb.later (hT _)) (Nat.le_of_eq hpl.len) (hpl.bound ok) hdr He.out Hm.out)) | (go_at_call 48; exact calls_ext (hT _) (to_calls z mh _ (by omega) (by omega))))))); refine wpQuiet_nil ?_; rintro w3 ⟨⟨_, hL3⟩, rfl⟩; (try dsimp only)
      have hLn := Later.trans HL.out hL3
      have hk3 := HB.out.later hL3
      have hg : w0.heap.size ≤ w.heap.size + 1 := Nat.le_of_eq Hs0.out
      clear hd0 hd1 hd2 hd3 hc0 hc1 hc2 hc3 hc4 hqq hz0' hz1' hz2' hz3' hT hget2 hL3 HL HB
      by_cases hj0 : j = 0
      · have e0' : ((j : Int) == 0) = true := by simp [hj0]
        have Hv := hide (Hb1.out hj0)
        have f0 := hk3.frozen 0
        have f1 := hk3.frozen 1
        have c0 := hk3.cell 0
        have c1 := hk3.cell 1
        simp only [List.getElem?_toArray, List.getElem?_cons_zero, List.getElem?_cons_succ] at c0 c1
        have hk4 : Blk ((w3.setCell ⟨w.heap.size + 1, 0, none⟩ (.int .i64 (mh + z.grace))).setCell ⟨w.heap.size + 1, 1, none⟩ (.int .i64 (mh + z.grace))) (w.heap.size + 1) 57 #[.int .i64 (mh + z.grace), .int .i64 (mh + z.grace)] := (hk3.set_ 0 _).set_ 1 _
        have hL4 := later_drop (later_drop hLn (a := ⟨w.heap.size + 1, 0, none⟩) (u := .int .i64 (mh + z.grace)) hg) (a := ⟨w.heap.size + 1, 1, none⟩) (u := .int .i64 (mh + z.grace)) hg
        have HK := hide hk4
        have HL4 := hide hL4
        clear hj0 hk3 hk4 hL4
        go_wp2_with fail
        refine (wider_calls (mh + z.grace) (mh + z.grace) (mh + z.grace) _).mono ?_
        rintro e w5 ⟨rfl, hL5⟩
        have hk5 := HK.out.later hL5
        have hL6 := Later.trans HL4.out hL5
        have g0 := hk5.frozen 0
        have g1 := hk5.frozen 1
        have q0 := hk5.cell 0
        have q1 := hk5.cell 1
        simp only [List.getElem?_toArray, List.getElem?_cons_zero, List.getElem?_cons_succ] at q0 q1
        have hk6 : Blk ((w5.setCell ⟨w.heap.size + 1, 0, none⟩ (.int .i64 (min (mh + z.grace) (mh + z.grace)))).setCell ⟨w.heap.size + 1, 1, none⟩ (.int .i64 (max (mh + z.grace) (mh + z.grace)))) (w.heap.size + 1) 57 #[.int .i64 (bP (fun d => minuteR c p d h + graceAt c h) (tr.take (j + 1))).1, .int .i64 (bP (fun d => minuteR c p d h + graceAt c h) (tr.take (j + 1))).2] := by
          have := (hk5.set_ 0 (.int .i64 (min (mh + z.grace) (mh + z.grace)))).set_ 1 (.int .i64 (max (mh + z.grace) (mh + z.grace)))
          rw [Hv.out]
          simpa [Int.min_self, Int.max_self] using this
        have hL7 := later_drop (later_drop hL6 (a := ⟨w.heap.size + 1, 0, none⟩) (u := .int .i64 (min (mh + z.grace) (mh + z.grace))) hg) (a := ⟨w.heap.size + 1, 1, none⟩) (u := .int .i64 (max (mh + z.grace) (mh + z.grace))) hg
        have HK6 := hide hk6
        have HL7 := hide hL7
        clear hk5 hk6 hL7 HK HL4 c0 c1 f0 f1
        go_wp2_with fail
        go_roundw
        case rel => exact ⟨j + 1, by omega, by go_num, by have := HL7.out; rwa [Int.min_self, Int.max_self] at this, by have := HK6.out; rwa [Int.min_self, Int.max_self] at this⟩
        case measure => simp [intOf]; omega
      · have e0' : ((j : Int) == 0) = false := by simp [hj0]
        have Hv := hide (Hb2.out hj0)
        have f0 := hk3.frozen 0
        have f1 := hk3.frozen 1
        have c0 := hk3.cell 0
        have c1 := hk3.cell 1
        simp only [List.getElem?_toArray, List.getElem?_cons_zero, List.getElem?_cons_succ] at c0 c1
        have HK := hide hk3
        clear hj0 hk3
        go_wp2_with fail
        refine (wider_calls r1 r2 (mh + z.grace) _).mono ?_
        rintro e w5 ⟨rfl, hL5⟩
        have hk5 := HK.out.later hL5
        have hL6 := Later.trans hLn hL5
        have g0 := hk5.frozen 0
        have g1 := hk5.frozen 1
        have q0 := hk5.cell 0
        have q1 := hk5.cell 1
        simp only [List.getElem?_toArray, List.getElem?_cons_zero, List.getElem?_cons_succ] at q0 q1
        have hk6 : Blk ((w5.setCell ⟨w.heap.size + 1, 0, none⟩ (.int .i64 (min r1 (mh + z.grace)))).setCell ⟨w.heap.size + 1, 1, none⟩ (.int .i64 (max r2 (mh + z.grace)))) (w.heap.size + 1) 57 #[.int .i64 (bP (fun d => minuteR c p d h + graceAt c h) (tr.take (j + 1))).1, .int .i64 (bP (fun d => minuteR c p d h + graceAt c h) (tr.take (j + 1))).2] := by
          have := (hk5.set_ 0 (.int .i64 (min r1 (mh + z.grace)))).set_ 1 (.int .i64 (max r2 (mh + z.grace)))
          rw [Hv.out]
          exact this
        have hL7 := later_drop (later_drop hL6 (a := ⟨w.heap.size + 1, 0, none⟩) (u := .int .i64 (min r1 (mh + z.grace))) hg) (a := ⟨w.heap.size + 1, 1, none⟩) (u := .int .i64 (max r2 (mh + z.grace))) hg
        have HK6 := hide hk6
        have HL7 := hide hL7
        clear hk5 hk6 hL7 HK c0 c1 f0 f1
        go_wp2_with fail
        go_roundw
        case rel => exact ⟨j + 1, by omega, by go_num, HL7.out, HK6.out⟩
        case measure => simp [intOf]; omega
    · have hfin : tr.take j = tr := List.take_of_length_le (by have := Hnt.out; omega)
      rw [hfin] at hbk
      have hg : w0.heap.size ≤ w.heap.size + 1 := Nat.le_of_eq Hs0.out
      obtain ⟨⟨r1, r2⟩, hr⟩ : ∃ r, bP (fun d => minuteR c p d h + graceAt c h) tr = r := ⟨_, rfl⟩
      rw [hr] at hbk
      dsimp only at hbk
      have Hr := hide hr
      have f0 := hbk.frozen 0
      have f1 := hbk.frozen 1
      have c0 := hbk.cell 0
      have c1 := hbk.cell 1
      simp only [List.getElem?_toArray, List.getElem?_cons_zero, List.getElem?_cons_succ] at c0 c1
      clear hr hfin hbk hL3 br
      go_wp2_with fail
      refine bodyPost_ret (v := .agg #[.int .i64 r1, .int .i64 r2]) ?_ rfl ⟨by rw [Hr.out], ?_⟩
      · simp [results, Try.results46, go_sem, *]
      · exact Later.trans hL0 (later_drop (later_drop hL hg) hg)
end Go.Proofs.Ytnlbgaippnjmiaa

/- The program's good, done: walks. -/
namespace Go.Proofs.Ytnlbgaippnjmiaa
open Go Go.RowKit

def goodP (c : Clo) (tr : List (List Int)) (p : List Int) (h : Nat) : Int × Int := ((bP (fun d => minuteR c p d h) tr).2, min c.close (bP (fun d => minuteR c p d h + graceAt c h) tr).1)

set_option maxRecDepth 100000 in
set_option maxHeartbeats 1000000 in
theorem good_calls {A1 A2 A3 At Ap : Option Addr} {n1 k1 n2 k2 n3 k3 nt kt np kp bw h : Nat} {c : Clo} {tr : List (List Int)} {vm : Value} {p : List Int} {g1 g2 : Int} (w : World)
    (hw : WK w bw c A1 n1 k1 A2 n2 k2 A3 n3 k3 At nt kt tr vm) (ok : OkH c) (hp : RI w Ap np p) (hpl : IsPl c p) (hdry : ∀ d ∈ tr, IsDry c d) (hn : nt ≤ 1000000) (hh : h < n1) (hg : goodP c tr p h = (g1, g2)) :
    Calls Try.prog 28 #[.pointer (some ⟨bw, 0, none⟩), .slice Ap np kp, .int .i64 (h : Int)] w fun e w' => e = .returned (.agg #[.int .i64 g1, .int .i64 g2]) ∧ Later w w' := by
  obtain ⟨⟨f1, f2⟩, hf⟩ : ∃ r, bP (fun d => minuteR c p d h) tr = r := ⟨_, rfl⟩
  obtain ⟨⟨t1, t2⟩, ht⟩ : ∃ r, bP (fun d => minuteR c p d h + graceAt c h) tr = r := ⟨_, rfl⟩
  have hg1 : f2 = g1 := by have := congrArg Prod.fst hg; simpa [goodP, hf, ht] using this
  have hg2 : min c.close t1 = g2 := by have := congrArg Prod.snd hg; simpa [goodP, hf, ht] using this
  obtain ⟨w0, hw0⟩ : ∃ X, X = w.alloc (.cells #[.int .i64 0, .int .i64 0] 57) := ⟨_, rfl⟩
  have hL0 : Later w w0 := by rw [hw0]; exact later_alloc (later_refl _) _
  have br : Blk w0 w.heap.size 57 #[.int .i64 0, .int .i64 0] := by rw [hw0]; exact Blk.new _ _ _
  have hF := fun W (hW : WK W bw c A1 n1 k1 A2 n2 k2 A3 n3 k3 At nt kt tr vm) (hpW : RI W Ap np p) => bounds_from_calls (kp := kp) W hW ok hpW hpl hdry hn hh
  have hTo := fun W (hW : WK W bw c A1 n1 k1 A2 n2 k2 A3 n3 k3 At nt kt tr vm) (hpW : RI W Ap np p) => bounds_to_calls (kp := kp) W hW ok hpW hpl hdry hn hh
  rw [hf] at hF
  rw [ht] at hTo
  have hLd : Later w w0.drew := later_drew hL0
  have hwd := hw.later hLd
  have hpd := hp.later hLd
  have hbw := hw.lt
  have hne1 : ¬ w.heap.size = bw := by omega
  have hne2 : ¬ bw = w.heap.size := by omega
  have hcl := hwd.cells 1
  simp only [List.getElem?_toArray, List.getElem?_cons_zero, List.getElem?_cons_succ] at hcl
  have hbd : Blk w0.drew w.heap.size 57 #[.int .i64 0, .int .i64 0] := br
  have Hg1 := hide hg1
  have Hg2 := hide hg2
  have Hw0 := hide hw0
  have hsz : w0.drew.heap.size = w.heap.size + 1 := by rw [hw0]; simp
  have Hsz := hide hsz
  have hfi0 : ∀ W : World, (Instr.field 57 (.agg #[.int .i64 t1, .int .i64 t2]) 0).run Try.prog W = .ok (.int .i64 t1) W := fun _ => by kernel_rfl
  have hfi1 : ∀ W : World, (Instr.field 57 (.agg #[.int .i64 f1, .int .i64 f2]) 1).run Try.prog W = .ok (.int .i64 f2) W := fun _ => by kernel_rfl
  clear hf ht hg hg1 hg2 hw0 br hsz
  go_enter Try.func28, Try.ntmps28
  go_wp2_with fail
  rw [← Hw0.out]
  clear Hw0
  go_region_held3 (fun W => Later w W ∧ W.cell? ⟨bw, 1, none⟩ = some (.int .i64 c.close)) ((refine ⟨?_, ?_⟩ <;> first | (((repeat (first | assumption | refine later_drew ?_ | refine later_alloc ?_ _ | refine later_set ?_ _ (Nat.le_add_right _ _) _ | refine later_set ?_ _ (Nat.le_refl _) _)); done)) | (go_keep; done)))
    (first
      | (go_at_call 46; (refine (hTo _ hwd1 hpd1).mono ?_; rintro e w2 ⟨rfl, hL2⟩; have hwd2 := hwd1.later hL2; have hLw2 := Later.trans hLw1 hL2; have hcl2 := hwd2.cells 1; have hbd2 := hbd1.later hL2; simp only [List.getElem?_toArray, List.getElem?_cons_zero, List.getElem?_cons_succ] at hcl2))
      | (go_at_call 46; go_must (refine (hF _ hwd hpd).mono ?_; rintro e w1 ⟨rfl, hL1⟩; have hwd1 := hwd.later hL1; have hpd1 := hpd.later hL1; have hLw1 := Later.trans hLd hL1; have hcl1 := hwd1.cells 1; have hbd1 := hbd.later hL1; simp only [List.getElem?_toArray, List.getElem?_cons_zero, List.getElem?_cons_succ] at hcl1))
      | (go_at_call 47; go_must (refine (min2_calls c.close t1 _ _ (box_cells w2 #[.int .i64 c.close, .int .i64 t1] 3 _ (later_refl _) 0) (box_cells w2 #[.int .i64 c.close, .int .i64 t1] 3 _ (later_refl _) 1)).mono ?_; rintro e w3 ⟨rfl, rfl⟩; have hbd3 := hbd2.alloc (.cells #[.int .i64 c.close, .int .i64 t1] 3); have hc0 := hbd3.cell 0; have hc1 := hbd3.cell 1; have hf0 := hbd3.frozen 0; have hf1 := hbd3.frozen 1; simp only [List.getElem?_toArray, List.getElem?_cons_zero, List.getElem?_cons_succ] at hc0 hc1)))
  go_wp2_with fail
  refine bodyPost_ret (v := .agg #[.int .i64 f2, .int .i64 (min c.close t1)]) ?_ rfl ⟨by rw [Hg1.out, Hg2.out], ?_⟩
  · simp [results, Try.results28, go_sem, *]
  · (((repeat (first | assumption | refine later_drew ?_ | refine later_alloc ?_ _ | refine later_set ?_ _ (Nat.le_add_right _ _) _ | refine later_set ?_ _ (Nat.le_refl _) _)); done))

/-- done: the first horse without a good minute, or the minute in which all can be taken out -/
def doneG (G : Nat → Int × Int) : Nat → Nat → Int → Int × Int
  | 0, i, n => (n, i)
  | k + 1, i, n => if (G i).2 < (G i).1 then (0, i) else doneG G k (i + 1) (max n (G i).1)
def doneP (c : Clo) (tr : List (List Int)) (p : List Int) : Int × Int := doneG (goodP c tr p) c.horses.length 0 0
theorem bP_range {c : Clo} (ok : OkH c) {f : List Int → Int} (hf : ∀ d, IsDry c d → 0 ≤ f d ∧ f d ≤ 1000) {tr : List (List Int)} (hdry : ∀ d ∈ tr, IsDry c d) : 0 ≤ (bP f tr).1 ∧ (bP f tr).1 ≤ 1000 ∧ 0 ≤ (bP f tr).2 ∧ (bP f tr).2 ≤ 1000 := by
  cases tr with
  | nil => simp [bP]
  | cons d l =>
    have key : ∀ (l : List (List Int)) (r : Int × Int), (∀ d ∈ l, IsDry c d) → (0 ≤ r.1 ∧ r.1 ≤ 1000 ∧ 0 ≤ r.2 ∧ r.2 ≤ 1000) →
        0 ≤ (l.foldl (fun r d => wider r (f d)) r).1 ∧ (l.foldl (fun r d => wider r (f d)) r).1 ≤ 1000 ∧ 0 ≤ (l.foldl (fun r d => wider r (f d)) r).2 ∧ (l.foldl (fun r d => wider r (f d)) r).2 ≤ 1000 := by
      intro l
      induction l with
      | nil => intro r _ h; exact h
      | cons x l ih =>
        intro r hd h
        refine ih _ (fun d hd' => hd d (List.mem_cons_of_mem _ hd')) ?_
        have := hf x (hd x List.mem_cons_self)
        simp only [wider]
        omega
    have h0 := hf d (hdry d List.mem_cons_self)
    exact key l _ (fun x hx => hdry x (List.mem_cons_of_mem _ hx)) ⟨h0.1, h0.2, h0.1, h0.2⟩

set_option maxRecDepth 100000 in
theorem done_calls {A1 A2 A3 At Ap : Option Addr} {n1 k1 n2 k2 n3 k3 nt kt np kp bw : Nat} {c : Clo} {tr : List (List Int)} {vm : Value} {p : List Int} (w : World)
    (hw : WK w bw c A1 n1 k1 A2 n2 k2 A3 n3 k3 At nt kt tr vm) (ok : OkH c) (hp : RI w Ap np p) (hpl : IsPl c p) (hdry : ∀ d ∈ tr, IsDry c d) (hn : nt ≤ 1000000) :
    Calls Try.prog 19 #[.pointer (some ⟨bw, 0, none⟩), .slice Ap np kp] w fun e w' => e = .returned (.tuple #[.int .i64 (doneP c tr p).1, .int .i64 (doneP c tr p).2]) ∧ Later w w' := by
  have hn1 := hw.cv.hs.len
  have hl4 := ok.len
  have hn4 : n1 ≤ 4 := by omega
  have Hn1 := hide hn1
  have hcl : ∀ W, Later w W → W.cell? ⟨bw, 2, none⟩ = some (.slice A1 n1 k1) := fun W hW => (hw.later hW).cells 2
  have hcl0 := hcl w (later_refl _)
  have hbw := hw.lt
  have Hd0 := hide (show doneP c tr p = doneG (goodP c tr p) (n1 - 0) 0 0 by rw [Nat.sub_zero, hn1]; rfl)
  clear hn1
  go_enter Try.func19, Try.ntmps19
  go_wp2_with fail
  go_loopw [14, 4] (fun i m wr => ∃ (j : Nat) (q : Int), j ≤ n1 ∧ i = .int .i64 j ∧ m = .int .i64 q ∧ Hid (doneP c tr p = doneG (goodP c tr p) (n1 - j) j q) ∧ Later w wr) (fun i _ _ => n1 - (intOf i).toNat)
  case atStart => exact ⟨0, 0, Nat.zero_le _, rfl, rfl, Hd0, later_refl _⟩
  case round =>
    obtain ⟨j, q, hj, rfl, rfl, Hd, hL⟩ := hrel
    clear Hd0
    by_cases hlt : j < n1
    · obtain ⟨⟨g1, g2⟩, hg⟩ : ∃ r, goodP c tr p j = r := ⟨_, rfl⟩
      have hi1 : (j : Int) < n1 := by omega
      have hgc := good_calls (kp := kp) (w := wr) (hw.later hL) ok (hp.later hL) hpl hdry hn hlt hg
      have hstep : doneG (goodP c tr p) (n1 - j) j q = if g2 < g1 then (0, (j : Int)) else doneG (goodP c tr p) (n1 - (j + 1)) (j + 1) (max q g1) := by
        rw [show n1 - j = (n1 - (j + 1)) + 1 by omega]
        simp only [doneG, hg]
      have Hgc := hide hgc
      have Hstep := hide hstep
      clear hg hgc hstep
      cases hnone : decide (g2 < g1) with
      | true =>
        have H2 := hide (show doneP c tr p = (0, (j : Int)) by rw [Hd.out, Hstep.out, if_pos (by simpa using hnone)])
        go_wp2_with fail
        refine Hgc.out.mono ?_
        rintro e w1 ⟨rfl, hL1⟩
        have hL2 := Later.trans hL hL1
        go_wp2_with fail
        refine (none_eq hnone _).mono ?_
        rintro e w2 ⟨rfl, hL3⟩
        go_wp2_with fail
        refine bodyPost_ret (v := .tuple #[.int .i64 0, .int .i64 (j : Int)]) ?_ rfl ⟨by rw [H2.out], Later.trans (later_alloc hL2 _) hL3⟩
        simp [results, Try.results19, go_sem]
      | false =>
        have H2 := hide (show doneP c tr p = doneG (goodP c tr p) (n1 - (j + 1)) (j + 1) (max q g1) by rw [Hd.out, Hstep.out, if_neg (by simpa using hnone)])
        go_wp2_with fail
        refine Hgc.out.mono ?_
        rintro e w1 ⟨rfl, hL1⟩
        have hL2 := Later.trans hL hL1
        go_wp2_with fail
        refine (none_eq hnone _).mono ?_
        rintro e w2 ⟨rfl, hL3⟩
        have hb := box_cells w1 #[.int .i64 g1, .int .i64 g2] 57 w2 hL3 0
        simp only [List.getElem?_toArray, List.getElem?_cons_zero, List.getElem?_cons_succ] at hb
        have hL4 := Later.trans (later_alloc hL2 (.cells #[.int .i64 g1, .int .i64 g2] 57)) hL3
        rcases Int.lt_or_le q g1 with hmx | hmx
        · have hmm : max q g1 = g1 := by omega
          rw [hmm] at H2
          clear hmm
          go_wp2_with fail
          go_roundw
          case rel => exact ⟨j + 1, g1, by omega, by go_num, rfl, H2, hL4⟩
          case measure => simp [intOf]; omega
        · have hmm : max q g1 = q := by omega
          rw [hmm] at H2
          clear hmm
          go_wp2_with fail
          go_roundw
          case rel => exact ⟨j + 1, q, by omega, by go_num, rfl, H2, hL4⟩
          case measure => simp [intOf]; omega
    · have H2 := hide (show doneP c tr p = (q, (n1 : Int)) by
        have := Hd.out
        rw [show n1 - j = 0 by omega] at this
        rw [this]; show (q, (j : Int)) = _; rw [show j = n1 by omega])
      have hcl2 := hcl _ hL
      go_wp2_with fail
      refine wp_region_ext (w0 := w) (by kernel_rfl) (by kernel_rfl) hL ?_; (repeat (first | go_big_quiet_step (((fail))) | quiet_step (((fail))))); refine wpQuiet_nil ?_; rintro w3 ⟨⟨_, hL3⟩, rfl⟩; (try dsimp only)
      go_wp2_with fail
      refine bodyPost_ret (v := .tuple #[.int .i64 q, .int .i64 (n1 : Int)]) ?_ rfl ⟨by rw [H2.out], hL3⟩
      simp [results, Try.results19, go_sem]
end Go.Proofs.Ytnlbgaippnjmiaa

/- The two enumerations of dry numbers are permutations of each other; the program's truths are those of the reference, in another order. -/
namespace Go.Proofs.Ytnlbgaippnjmiaa

theorem perm_flatMap_cons {α β : Type} (l : List α) (g : α → β) (h : α → List β) : List.Perm (l.flatMap fun x => g x :: h x) (l.map g ++ l.flatMap h) := by
  induction l with
  | nil => exact List.Perm.refl _
  | cons a l ih =>
    simp only [List.flatMap_cons, List.map_cons, List.cons_append]
    refine List.Perm.cons _ ?_
    refine (List.Perm.append_left (h a) ih).trans ?_
    rw [← List.append_assoc, ← List.append_assoc]
    exact List.Perm.append_right _ List.perm_append_comm
theorem perm_swap {α β γ : Type} (f : α → β → γ) (l : List α) (m : List β) : List.Perm (l.flatMap fun x => m.map (f x)) (m.flatMap fun y => l.map fun x => f x y) := by
  induction l with
  | nil => simp
  | cons a l ih =>
    simp only [List.flatMap_cons, List.map_cons]
    exact (List.Perm.append_left _ ih).trans (perm_flatMap_cons m (f a) _).symm
theorem range_mul_ (s m : Nat) : List.range (s * m) = (List.range m).flatMap fun j => (List.range s).map fun i => i + s * j := by
  induction m with
  | zero => simp
  | succ m ih =>
    rw [Nat.mul_succ, List.range_add, ih, List.range_succ, List.flatMap_append]
    congr 1
    simp only [List.flatMap_cons, List.flatMap_nil, List.append_nil]
    apply List.map_congr_left
    intro i _
    omega

def sizeN (h : Horse) : Nat := (h.hi - h.lo + 1).toNat
def prodN : List Horse → Nat
  | [] => 1
  | h :: hs => sizeN h * prodN hs
theorem dry_perm : ∀ (hs : List Horse), (∀ h ∈ hs, h.lo ≤ h.hi) → List.Perm (dryAll hs) ((List.range (prodN hs)).map fun (n : Nat) => nth hs n)
  | [], _ => by simp [dryAll, prodN, nth]
  | h :: hs, ok => by
    have e : (List.range (prodN (h :: hs))).map (fun (n : Nat) => nth (h :: hs) n) = (List.range (prodN hs)).flatMap fun (j : Nat) => (List.range (sizeN h)).map fun (i : Nat) => (h.lo + (i : Int)) :: nth hs (j : Int) := by
      rw [prodN, range_mul_, List.map_flatMap]
      congr 1
      funext j
      rw [List.map_map]
      apply List.map_congr_left
      intro i hi
      have hi' : i < sizeN h := by simpa using hi
      have hs1 : sizeH h = (sizeN h : Int) := by unfold sizeH sizeN; have := ok h List.mem_cons_self; omega
      have e1 : ((i + sizeN h * j : Nat) : Int) % (sizeN h : Int) = i := by
        rw [← Int.natCast_emod, Nat.add_mul_mod_self_left, Nat.mod_eq_of_lt hi']
      have e2 : ((i + sizeN h * j : Nat) : Int) / (sizeN h : Int) = j := by
        rw [← Int.natCast_ediv, Nat.add_mul_div_left _ _ (by omega), Nat.div_eq_of_lt hi', Nat.zero_add]
      simp only [Function.comp, nth, hs1, e1, e2]
    rw [e]
    have e3 : dryAll (h :: hs) = (List.range (sizeN h)).flatMap fun (i : Nat) => (dryAll hs).map ((h.lo + (i : Int)) :: ·) := by
      simp only [dryAll, rangeL, sizeN, List.flatMap_map]
    rw [e3]
    refine (perm_swap (fun (i : Nat) d => (h.lo + (i : Int)) :: d) _ _).trans ?_
    have ih := List.Perm.flatMap_right (fun d => (List.range (sizeN h)).map fun (i : Nat) => (h.lo + (i : Int)) :: d) (dry_perm hs fun x hx => ok x (List.mem_cons_of_mem _ hx))
    rw [List.flatMap_map] at ih
    exact ih
theorem prodN_foldl : ∀ (l : List Horse) (a : Int), (∀ h ∈ l, h.lo ≤ h.hi) → l.foldl (fun n h => n * sizeH h) a = a * (prodN l : Int)
  | [], a, _ => by simp [prodN]
  | h :: l, a, ok => by
    have hs1 : sizeH h = (sizeN h : Int) := by unfold sizeH sizeN; have := ok h List.mem_cons_self; omega
    rw [List.foldl_cons, prodN_foldl l _ fun x hx => ok x (List.mem_cons_of_mem _ hx), prodN, hs1, Int.natCast_mul, Int.mul_assoc]
theorem many_prodN {c : Clo} (hf : fault c = 0) : (many c).toNat = prodN c.horses := by
  have ok := okC_of_fault hf
  have hz := fault_zero hf
  have h1 := many_prod (c := c) fun h hh => by have := ok.horse h hh; omega
  have h2 : prodTo c.horses = (prodN c.horses : Int) := by
    unfold prodTo
    rw [prodN_foldl _ _ fun h hh => by have := ok.horse h hh; omega]
    omega
  have := hz.2.2.2.2.2.2
  omega
theorem allDry_perm {c : Clo} (hf : fault c = 0) : List.Perm (dryAll c.horses) (allDry c) := by
  have ok := okC_of_fault hf
  unfold allDry
  rw [many_prodN hf]
  exact dry_perm _ fun h hh => by have := ok.horse h hh; omega

theorem rangeL_nodup (lo hi : Int) : (rangeL lo hi).Pairwise (· ≠ ·) := by
  unfold rangeL
  rw [List.pairwise_map]
  exact List.pairwise_lt_range.imp fun {a b} h => by omega
theorem dryAll_nodup : ∀ (hs : List Horse), (dryAll hs).Pairwise (· ≠ ·)
  | [] => by simp [dryAll]
  | h :: hs => by
    rw [dryAll, List.pairwise_flatMap]
    refine ⟨fun x _ => ?_, ?_⟩
    · rw [List.pairwise_map]
      exact (dryAll_nodup hs).imp fun {a b} hab e => hab (List.cons.inj e).2
    · refine (rangeL_nodup h.lo h.hi).imp fun {a b} hab x hx y hy e => ?_
      obtain ⟨x', _, rfl⟩ := List.mem_map.1 hx
      obtain ⟨y', _, rfl⟩ := List.mem_map.1 hy
      exact hab (List.cons.inj e).1
theorem dryAll_dry : ∀ (hs : List Horse), ∀ d ∈ dryAll hs, areNumbers hs d = true
  | [], d, h => by simp [dryAll] at h; subst h; rfl
  | h :: hs, d, hd => by
    simp only [dryAll, List.mem_flatMap, List.mem_map, rangeL, List.mem_range] at hd
    obtain ⟨x, ⟨i, hi, rfl⟩, d', hd', rfl⟩ := hd
    simp only [areNumbers, dryAll_dry hs d' hd', Bool.and_true, inB, Bool.and_eq_true, decide_eq_true_eq]
    omega
theorem dryAll_isDry (c : Clo) : ∀ d ∈ dryAll c.horses, IsDry c d := fun d hd => (isDry_iff c d).1 (dryAll_dry _ d hd)

/-! ### the program's truths -/
def keepStep (c : Clo) (acc : List (List Int)) (d : List Int) : List (List Int) :=
  if rightP c (pad4 d) [] = true ∧ (acc = [] ∨ pad4 (acc.getLastD []) ≠ pad4 d) then acc ++ [d] else acc
def truthsP (c : Clo) : List (List Int) := (dryAll c.horses).foldl (keepStep c) []

theorem pad4_inj {a b : List Int} (h : a.length = b.length) (h4 : a.length ≤ 4) (e : pad4 a = pad4 b) : a = b := by
  apply List.ext_getElem h
  intro i h1 h2
  simp only [pad4, List.cons.injEq] at e
  have : i = 0 ∨ i = 1 ∨ i = 2 ∨ i = 3 := by omega
  have key : a.getD i 0 = b.getD i 0 := by
    rcases this with rfl | rfl | rfl | rfl
    · exact e.1
    · exact e.2.1
    · exact e.2.2.1
    · exact e.2.2.2.1
  rw [List.getD_eq_getElem?_getD, List.getD_eq_getElem?_getD, List.getElem?_eq_getElem h1, List.getElem?_eq_getElem h2] at key
  simpa using key
theorem keep_filter (c : Clo) (hl : c.horses.length ≤ 4) : ∀ (l acc : List (List Int)), (∀ d ∈ l, d.length = c.horses.length) → (∀ d ∈ acc, d.length = c.horses.length) → l.Pairwise (· ≠ ·) → (∀ d ∈ l, ∀ a ∈ acc, a ≠ d) →
    l.foldl (keepStep c) acc = acc ++ l.filter fun d => rightP c (pad4 d) []
  | [], acc, _, _, _, _ => by simp
  | d :: l, acc, h1, h2, h3, h4 => by
    have hd := h1 d List.mem_cons_self
    have hp := List.pairwise_cons.1 h3
    have hne : acc = [] ∨ pad4 (acc.getLastD []) ≠ pad4 d := by
      rcases List.eq_nil_or_concat acc with h | ⟨a, x, h⟩
      · exact .inl h
      · right
        intro e
        have hx : x ∈ acc := by rw [h]; simp
        have hlx := h2 x hx
        have e2 : acc.getLastD [] = x := by rw [h]; simp
        rw [e2] at e
        exact h4 d List.mem_cons_self x hx (pad4_inj (by omega) (by omega) e)
    rw [List.foldl_cons]
    cases hr : rightP c (pad4 d) [] with
    | true =>
      have e : keepStep c acc d = acc ++ [d] := by unfold keepStep; rw [if_pos ⟨hr, hne⟩]
      rw [e, keep_filter c hl l _ (fun x hx => h1 x (List.mem_cons_of_mem _ hx)) (fun x hx => by
        rcases List.mem_append.1 hx with h | h
        · exact h2 x h
        · simp at h; subst h; exact hd) hp.2 (fun x hx a ha => by
        rcases List.mem_append.1 ha with h | h
        · exact h4 x (List.mem_cons_of_mem _ hx) a h
        · simp at h; subst h; exact hp.1 x hx), List.filter_cons_of_pos (by simpa using hr)]
      simp
    | false =>
      have e : keepStep c acc d = acc := by unfold keepStep; rw [if_neg (by simp [hr])]
      rw [e, keep_filter c hl l _ (fun x hx => h1 x (List.mem_cons_of_mem _ hx)) h2 hp.2 (fun x hx a ha => h4 x (List.mem_cons_of_mem _ hx) a ha), List.filter_cons_of_neg (by simp [hr])]
theorem truthsP_filter {c : Clo} (ok : OkH c) : truthsP c = (dryAll c.horses).filter fun d => rightP c (pad4 d) [] := by
  have := keep_filter c ok.len (dryAll c.horses) [] (fun d hd => (dryAll_isDry c d hd).len) (by simp) (dryAll_nodup _) (by simp)
  simpa [truthsP] using this

theorem bitsOf_testBit : ∀ (l : List Bool) (i : Nat), (bitsOf l).testBit i = l.getD i false
  | [], i => by simp [bitsOf]
  | b :: l, 0 => by cases b <;> simp [bitsOf, Nat.testBit_zero] <;> omega
  | b :: l, i + 1 => by
    rw [Nat.testBit_succ]
    have : bitsOf (b :: l) / 2 = bitsOf l := by simp only [bitsOf]; have := Bool.toNat_le b; omega
    rw [this, bitsOf_testBit l i]; simp
theorem full_testBit (c : Clo) (i : Nat) : (full c).testBit i = decide (i < c.looks.length) := by
  unfold full; rw [Nat.testBit_two_pow_sub_one]
theorem minutesP_getD {c : Clo} (ok : OkC c) {d : List Int} {l : Look} (hl : l ∈ c.looks) : (minutesP c c.hung (pad4 d)).getD l.horse.toNat 0 = minuteR c c.hung d l.horse.toNat := by
  have h := ok.looks l hl
  have h4 := ok.len
  rw [List.getD_eq_getElem?_getD, minutesP_get ok.hung (by omega) (by omega), Option.getD_some, minuteR_pad4 _ _ _ _ (by omega)]
theorem rightP_iff {c : Clo} (ok : OkC c) {d : List Int} (out : List Int) : rightP c (pad4 d) out = true ↔ ∀ (j : Nat) (l : Look), c.looks[j]? = some l → (j : Int) ∈ out ∨ okL c d l = true := by
  unfold rightP
  rw [List.all_eq_true]
  constructor
  · intro h j l hj
    have hlt : j < c.looks.length := (List.getElem?_eq_some_iff.1 hj).1
    have h1 := h j (by simpa using hlt)
    unfold lookF lookP at h1
    rw [List.getD_eq_getElem?_getD, hj, Option.getD_some, minutesP_getD ok (List.mem_of_getElem? hj)] at h1
    rcases Bool.or_eq_true _ _ ▸ h1 with h2 | h2
    · exact .inl (List.contains_iff_mem.1 h2)
    · right; unfold okL; rw [Bool.beq_comm]; exact h2
  · intro h j hj
    have hlt : j < c.looks.length := by simpa using hj
    have h1 := h j _ (List.getElem?_eq_getElem hlt)
    unfold lookF lookP
    rw [List.getD_eq_getElem?_getD, List.getElem?_eq_getElem hlt, Option.getD_some, minutesP_getD ok (List.getElem_mem hlt), Bool.or_eq_true]
    rcases h1 with h2 | h2
    · exact .inl (List.contains_iff_mem.2 h2)
    · right; unfold okL at h2; rw [Bool.beq_comm]; exact h2
theorem rightBits_testBit (c : Clo) (d : List Int) (i : Nat) : (rightBits c d).testBit i = (c.looks.map (okL c d)).getD i false := bitsOf_testBit _ _
theorem rightBits_full (c : Clo) (d : List Int) : (rightBits c d == full c) = true ↔ ∀ (j : Nat) (l : Look), c.looks[j]? = some l → okL c d l = true := by
  rw [beq_iff_eq]
  constructor
  · intro h j l hj
    have hlt : j < c.looks.length := (List.getElem?_eq_some_iff.1 hj).1
    have h1 := congrArg (fun n => n.testBit j) h
    simp only [rightBits_testBit, full_testBit] at h1
    rw [List.getD_eq_getElem?_getD, List.getElem?_map, hj] at h1
    simpa [hlt] using h1
  · intro h
    apply Nat.eq_of_testBit_eq
    intro i
    rw [rightBits_testBit, full_testBit]
    rcases Nat.lt_or_ge i c.looks.length with hlt | hge
    · rw [List.getD_eq_getElem?_getD, List.getElem?_map, List.getElem?_eq_getElem hlt]
      simp [hlt, h i _ (List.getElem?_eq_getElem hlt)]
    · rw [List.getD_eq_getElem?_getD, List.getElem?_eq_none (by simpa using hge)]
      simp; omega
theorem rightP_full {c : Clo} (ok : OkC c) (d : List Int) : rightP c (pad4 d) [] = (rightBits c d == full c) := by
  rw [Bool.eq_iff_iff, rightP_iff ok, rightBits_full]
  simp
theorem truthsP_perm {c : Clo} (hf : fault c = 0) : List.Perm (truthsP c) (truths c) := by
  have ok := okC_of_fault hf
  rw [truthsP_filter ok.toOkH]
  unfold truths
  have e : (fun d => rightP c (pad4 d) []) = fun d => rightBits c d == full c := funext fun d => rightP_full ok d
  rw [e]
  exact (allDry_perm hf).filter _
theorem truthsP_isDry {c : Clo} (ok : OkH c) : ∀ d ∈ truthsP c, IsDry c d := fun d hd => by
  rw [truthsP_filter ok] at hd
  exact dryAll_isDry c d (List.mem_filter.1 hd).1
end Go.Proofs.Ytnlbgaippnjmiaa

/- The reference's IsPlace, Size, Is, Many: walks. -/
namespace Go.Proofs.Ytnlbgaippnjmiaa
open Go Go.RowKit

theorem IsPlace_calls {A1 A2 A3 : Option Addr} {n1 k1 n2 k2 n3 k3 : Nat} {c : Clo} {Ap : Option Addr} {np kp : Nat} {p : List Int} (w : World) (hc : CV w c A1 n1 A2 n2 A3 n3) (hp : RI w Ap np p)
    (hcl : i64 c.closets) (hmp : np ≤ 1000000) (hmh : n1 ≤ 1000000) :
    Calls Try.prog 15 #[(.agg #[.int .i64 c.closets, .int .i64 c.close, .slice A1 n1 k1, .slice A2 n2 k2, .slice A3 n3 k3]), .slice Ap np kp] w fun e w' => e = .returned (.bool (isPlaceB c p)) ∧ Later w w' := by
  have hnp := hp.len
  have hn1 := hc.hs.len
  have hbox := box_cells w #[.int .i64 c.closets, .int .i64 c.close, .slice A1 n1 k1, .slice A2 n2 k2, .slice A3 n3 k3] 26
  by_cases hne : np = n1
  · have hfin : isPlaceB c p = plAux (wrap64 (c.closets - 1)) [] p := by
      unfold isPlaceB; rw [show (p.length == c.horses.length) = true from by simp; omega, Bool.true_and, wr64_eq]
    have Hfin := hide hfin
    have hneb : ((np : Int) != (n1 : Int)) = false := by rw [bne_eq_false_iff_eq]; omega
    have Hn := hide hne
    have Hnp := hide hnp
    have Hn1 := hide hn1
    clear hne hnp hn1 hfin
    go_enter Try.func15, Try.ntmps15
    go_wp2_with fail
    go_loopw [5] (fun i wr => ∃ j : Nat, j ≤ np ∧ i = .int .i64 j ∧ plAux (wrap64 (c.closets - 1)) [] p = plAux (wrap64 (c.closets - 1)) (p.take j) (p.drop j) ∧ Later (w.alloc (.cells #[.int .i64 c.closets, .int .i64 c.close, .slice A1 n1 k1, .slice A2 n2 k2, .slice A3 n3 k3] 26)) wr) (fun i _ => np - (intOf i).toNat)
    case atStart => exact ⟨0, Nat.zero_le _, rfl, rfl, later_refl _⟩
    case round =>
      obtain ⟨j, hj, rfl, hrec, hL⟩ := hrel
      by_cases hlt : j < np
      · obtain ⟨b, o, x, rfl, _, hx, hcx⟩ := (hp.later (later_alloc (later_refl w) (.cells #[.int .i64 c.closets, .int .i64 c.close, .slice A1 n1 k1, .slice A2 n2 k2, .slice A3 n3 k3] 26))).get hlt
        obtain ⟨hpj, rfl⟩ := List.getElem?_eq_some_iff.1 hx
        rw [List.drop_eq_getElem_cons hpj] at hrec
        have hrec2 : plAux (wrap64 (c.closets - 1)) [] p = (inB p[j] 0 (wrap64 (c.closets - 1)) && !((p.take j).contains p[j]) && plAux (wrap64 (c.closets - 1)) (p.take j ++ [p[j]]) (p.drop (j + 1))) := hrec
        have Hrec := hide hrec2
        have Hx := hide hx
        clear hrec hx hrec2
        have hidx : (0 : Int) ≤ (j : Int) := by omega
        have hidx2 : (j : Int) < (np : Int) := by omega
        by_cases hin : inB p[j] 0 (wrap64 (c.closets - 1)) = true
        · go_wp2_with fail
          go_quiet ((go_at_call 14; exact Calls.quiet_of_same ((In_calls _ _ _ _).mono fun _ _ h => ⟨h.1, h.2.symm⟩)))
          go_wp2_with fail
          obtain ⟨wo, hwo⟩ : ∃ wo : World, wo = wr.drewN nq := ⟨_, rfl⟩
          have hLo : Later (w.alloc (.cells #[.int .i64 c.closets, .int .i64 c.close, .slice A1 n1 k1, .slice A2 n2 k2, .slice A3 n3 k3] 26)) wo := by rw [hwo]; simp [hL]
          rw [← hwo]
          clear hwo hL
          go_loopw [6] (fun i wr => ∃ t : Nat, t ≤ j ∧ i = .int .i64 t ∧ (∀ s, s < t → p[s]? ≠ some p[j]) ∧ Later (w.alloc (.cells #[.int .i64 c.closets, .int .i64 c.close, .slice A1 n1 k1, .slice A2 n2 k2, .slice A3 n3 k3] 26)) wr) (fun i _ => j - (intOf i).toNat)
          case atStart => exact ⟨0, Nat.zero_le _, rfl, by intro s hs; omega, hLo⟩
          case round =>
            obtain ⟨t, ht, rfl, hno, hL⟩ := hrel
            by_cases htj : t < j
            · obtain ⟨y, hy, hcy⟩ := (hp.later (later_alloc (later_refl w) (.cells #[.int .i64 c.closets, .int .i64 c.close, .slice A1 n1 k1, .slice A2 n2 k2, .slice A3 n3 k3] 26))).at_ (k := t) (by omega)
              obtain ⟨hpt, rfl⟩ := List.getElem?_eq_some_iff.1 hy
              have htn : (t : Int) < (np : Int) := by omega
              have Hy := hide hy
              have Hno := hide hno
              clear hy hno
              by_cases he : p[t] = p[j]
              · have hf : plAux (wrap64 (c.closets - 1)) [] p = false := by
                  rw [Hrec.out, show (p.take j).contains p[j] = true from by rw [List.contains_iff_mem, List.mem_take_iff_getElem]; exact ⟨t, by omega, he⟩]; simp
                have Hf := hide hf
                have heb : (p[t] == p[j]) = true := by simp [he]
                clear hf he
                go_wp2_with fail
                go_quiet (fail)
                go_wp2_with fail
                go_ret
                exact ⟨by rw [Hfin.out, Hf.out]; rfl, Later.trans (by simp) (show Later (w.alloc (.cells #[.int .i64 c.closets, .int .i64 c.close, .slice A1 n1 k1, .slice A2 n2 k2, .slice A3 n3 k3] 26)) _ by simp [hL])⟩
              · have heb : (p[t] == p[j]) = false := by simp [he]
                clear he
                have Heb := hide heb
                go_wp2_with fail
                go_quiet (fail)
                go_wp2_with fail
                go_roundw
                case rel =>
                  refine ⟨t + 1, by omega, by go_num, ?_, by simp [hL]⟩
                  intro s hs
                  rcases Nat.lt_succ_iff_lt_or_eq.1 hs with h | rfl
                  · exact Hno.out s h
                  · rw [Hy.out]; have := Heb.out; simpa using this
                case measure => simp [intOf]; omega
            · have htj' : t = j := by omega
              subst htj'
              have hcon : (p.take t).contains p[t] = false := by
                rw [← Bool.not_eq_true, List.contains_iff_mem, List.mem_take_iff_getElem]
                rintro ⟨s, hs, he⟩
                exact hno s (by omega) (by rw [← he]; exact List.getElem?_eq_getElem (by omega))
              rw [hin, hcon, Bool.true_and, Bool.not_false, Bool.true_and] at Hrec
              have Hno := hide hno
              clear hno hcon
              go_wp2_with fail
              go_roundw
              case rel => exact ⟨t + 1, by omega, by go_num, by rw [Hrec.out, List.take_succ_eq_append_getElem hpj], hL⟩
              case measure => simp [intOf]; omega
        · have hin' : inB p[j] 0 (wrap64 (c.closets - 1)) = false := by simpa using hin
          have hf : plAux (wrap64 (c.closets - 1)) [] p = false := by rw [Hrec.out, hin']; simp
          have Hf := hide hf
          clear hf hin
          go_wp2_with fail
          go_quiet ((go_at_call 14; exact Calls.quiet_of_same ((In_calls _ _ _ _).mono fun _ _ h => ⟨h.1, h.2.symm⟩)))
          go_wp2_with fail
          go_ret
          exact ⟨by rw [Hfin.out, Hf.out]; rfl, Later.trans (by simp) (show Later (w.alloc (.cells #[.int .i64 c.closets, .int .i64 c.close, .slice A1 n1 k1, .slice A2 n2 k2, .slice A3 n3 k3] 26)) _ by simp [hL])⟩
      · have hjn : j = np := by omega
        have hd : p.drop j = [] := List.drop_eq_nil_of_le (by have := Hnp.out; omega)
        rw [hd] at hrec
        have Hrec := hide hrec
        clear hrec hd hjn
        go_wp2_with fail
        go_ret
        exact ⟨by rw [Hfin.out, Hrec.out]; rfl, Later.trans (by simp) hL⟩
  · have hfin : isPlaceB c p = false := by
      unfold isPlaceB; rw [show (p.length == c.horses.length) = false from by simp; omega]; rfl
    have Hfin := hide hfin
    have hneb : ((np : Int) != (n1 : Int)) = true := by rw [bne_iff_ne]; omega
    clear hne hnp hn1 hfin
    go_enter Try.func15, Try.ntmps15
    go_wp2_with fail
    go_ret
    exact ⟨by rw [Hfin.out]; rfl, by simp⟩
end Go.Proofs.Ytnlbgaippnjmiaa
