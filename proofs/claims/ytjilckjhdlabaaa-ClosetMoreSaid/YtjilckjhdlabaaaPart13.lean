/- Part 13 of the proof: joined from the texts LawL, LawS, Lks. -/
import Derived.Test.YtjilckjhdlabaaaPart12
import Derived.Test.YtjilckjhdlabaaaPart11
set_option linter.unusedSimpArgs false
set_option linter.unusedVariables false
/- Small plain facts on truths. -/
namespace Go.Proofs.Ytjilckjhdlabaaa
theorem askedErr_ii {c : Clo} (hf : fault c = 0) : askedErr c true = 0 ∨ (askedErr c true = 11 ∧ truthsP c = []) := by
  unfold askedErr
  rw [if_neg (by simp [hf]), if_neg (by simp)]
  by_cases h : truthsP c = []
  · right; rw [if_pos h]; exact ⟨rfl, h⟩
  · left; rw [if_neg h]
end Go.Proofs.Ytjilckjhdlabaaa

/- The law's some: closets with some of their looks: walk. -/
namespace Go.Proofs.Ytjilckjhdlabaaa
open Go Go.RowKit
attribute [local go_sem] later_alloc2 later_alloc3 later_alloc4

theorem rlook_info : (Try.prog.info? 84).map (fun i => (i.zero, i.size, i.bytes)) = some (some (.agg #[.int .i64 0, .int .i64 0, .bool false]), 3, 24) := by kernel_rfl
/-- the looks whose bits are set -/
def someTo (c : Clo) (bits : Nat) (j : Nat) : List Look := ((List.range j).filter fun i => bits.testBit i).filterMap fun i => c.looks[i]?
theorem someTo_hit {c : Clo} {bits s : Nat} {x : Look} (hx : c.looks[s]? = some x) (h : bits / 2 ^ s % 2 = 1) : someTo c bits (s + 1) = someTo c bits s ++ [x] := by
  have hb : bits.testBit s = true := by rw [Nat.testBit_eq_decide_div_mod_eq]; simpa using h
  unfold someTo
  rw [List.range_succ, List.filter_append, List.filterMap_append]
  simp [hb, hx]
theorem someTo_miss {c : Clo} {bits s : Nat} (h : ¬ bits / 2 ^ s % 2 = 1) : someTo c bits (s + 1) = someTo c bits s := by
  have hb : bits.testBit s = false := by rw [Nat.testBit_eq_decide_div_mod_eq]; simpa using h
  unfold someTo
  rw [List.range_succ, List.filter_append, List.filterMap_append]
  simp [hb]
theorem someTo_len (c : Clo) (bits j : Nat) : (someTo c bits j).length ≤ j := by
  unfold someTo
  refine Nat.le_trans (List.length_filterMap_le _ _) (Nat.le_trans (List.length_filter_le _ _) ?_)
  simp
def someC (c : Clo) (bits : Nat) : Clo := withLooks c (someTo c bits c.looks.length)
theorem someTo_mem {c : Clo} {bits j : Nat} {x : Look} (h : x ∈ someTo c bits j) : ∃ i, i < j ∧ bits.testBit i = true ∧ c.looks[i]? = some x := by
  unfold someTo at h
  obtain ⟨i, hi, e⟩ := List.mem_filterMap.1 h
  rw [List.mem_filter] at hi
  exact ⟨i, by simpa using hi.1, hi.2, e⟩
theorem mem_someTo {c : Clo} {bits j i : Nat} {x : Look} (hi : i < j) (hb : bits.testBit i = true) (hx : c.looks[i]? = some x) : x ∈ someTo c bits j :=
  List.mem_filterMap.2 ⟨i, List.mem_filter.2 ⟨by simpa using hi, hb⟩, hx⟩
def SomePost (c : Clo) (bits : Nat) (A1 : Option Addr) (n1 k1 : Nat) (A2 : Option Addr) (n2 k2 : Nat) (w : World) (e : Ending) (w' : World) : Prop :=
  ∃ A m k, e = .returned (.agg #[.int .i64 c.closets, .int .i64 c.close, .slice A1 n1 k1, .slice A2 n2 k2, .slice A m k]) ∧ Later w w' ∧ RL w' A m (someC c bits).looks
set_option maxRecDepth 100000 in
set_option maxHeartbeats 2000000 in
theorem some_calls {A1 A2 A3 : Option Addr} {n1 k1 n2 k2 n3 k3 : Nat} {c : Clo} {bits : Nat} (w : World) (hc : CV w c A1 n1 A2 n2 A3 n3) (hn3 : n3 ≤ 5) (hb : bits ≤ 1000000) :
    Calls Try.prog 72 #[(.agg #[.int .i64 c.closets, .int .i64 c.close, .slice A1 n1 k1, .slice A2 n2 k2, .slice A3 n3 k3]), .int .i64 bits] w (SomePost c bits A1 n1 k1 A2 n2 k2 w) := by
  obtain ⟨w0, hw0⟩ : ∃ W, W = (w.alloc (.cells #[.int .i64 c.closets, .int .i64 c.close, .slice A1 n1 k1, .slice A2 n2 k2, .slice A3 n3 k3] 26)) := ⟨_, rfl⟩; have hbox : ∀ W, Later w0 W → ∀ i, W.cell? ⟨w.heap.size, i, none⟩ = #[.int .i64 c.closets, .int .i64 c.close, .slice A1 n1 k1, .slice A2 n2 k2, .slice A3 n3 k3][i]? := (by rw [hw0]; exact box_cells w #[.int .i64 c.closets, .int .i64 c.close, .slice A1 n1 k1, .slice A2 n2 k2, .slice A3 n3 k3] 26); have hL0 : Later w w0 := (by rw [hw0]; simp); have hc0 := hc.later hL0; have Hw0 := hide hw0; clear hw0
  obtain ⟨wB, hwB⟩ : ∃ W, W = w0.alloc (.cells #[.int .i64 0, .int .i64 0, .slice none 0 0, .slice none 0 0, .slice none 0 0] 26) := ⟨_, rfl⟩
  have hs0 : w0.heap.size = w.heap.size + 1 := by rw [Hw0.out]; simp
  have hLB : Later w0 wB := by rw [hwB]; simp
  have hsB : wB.heap.size = w.heap.size + 1 + 1 := by rw [hwB]; simp [hs0]
  have hBr : Blk wB (w.heap.size + 1) 26 #[.int .i64 0, .int .i64 0, .slice none 0 0, .slice none 0 0, .slice none 0 0] := by rw [hwB, ← hs0]; exact Blk.new _ _ _
  have hll := hc.lk.len
  have Hll := hide hll
  have HwB := hide hwB
  have HsB := hide hsB
  have HBr := hide hBr
  clear hwB hs0 hsB hBr hll
  go_enter Try.func72, Try.ntmps72
  go_wp2_with fail
  rw [← Hw0.out, ← HwB.out]
  clear Hw0 HwB
  generalize hw5 : wB.alloc _ = w5
  have hL5 : Later wB w5 := by rw [← hw5]; exact later_alloc (later_refl _) _
  obtain ⟨g3, hg3⟩ : ∃ g, g = w.heap.size + 1 + 1 := ⟨_, rfl⟩
  have hgs : g3 = wB.heap.size := by rw [hg3, HsB.out]
  have hb5 : Blk w5 g3 26 #[.int .i64 c.closets, .int .i64 c.close, .slice A1 n1 k1, .slice A2 n2 k2, .slice none 0 0] := by rw [← hw5, hgs]; exact Blk.new _ _ _
  have hs5 : g3 < w5.heap.size := hb5.lt
  have hlo : wB.heap.size ≤ g3 := by omega
  have hLB5 : wB.heap.size ≤ w5.heap.size := by omega
  have hbxB := fun W (h : Later wB W) => hbox W (Later.trans hLB h)
  have hcB := hc0.later hLB
  have hlw := Later.trans hL0 hLB
  have hz32 : bits / 2 ^ 64 = 0 := Nat.div_eq_of_lt (by omega)
  simp only [← hg3]
  have Hb5 := hide hb5
  have HgB := hide (show w.heap.size + 1 < g3 by omega)
  clear hb5 hw5 hg3 hgs hbox hc0 hL0 hLB HsB hz32
  go_loopw [6] (fun i wq => ∃ (s m : Nat) (Aw : Option Addr) (kw : Nat), s ≤ n3 ∧ m ≤ s ∧ i = .int .i64 s ∧ Later wB wq ∧ Kept g3 w5 wq ∧ Hid (Blk wq g3 26 #[.int .i64 c.closets, .int .i64 c.close, .slice A1 n1 k1, .slice A2 n2 k2, .slice Aw m kw]) ∧ Hid (wq.ownsRow w5.heap.size 84 3 (.slice Aw m kw) m (looksV (someTo c bits s)))) (fun i _ => n3 - (intOf i).toNat)
  case atStart => exact ⟨0, 0, none, 0, Nat.zero_le _, Nat.le_refl _, rfl, hL5, Kept.refl _ _, Hb5, ⟨by simp [looksV, someTo], .inl ⟨rfl, rfl⟩⟩⟩
  case round =>
    obtain ⟨s, m, Aw, kw, hs, hm, rfl, hLq, hKq, Hbq, Howq⟩ := hrel
    by_cases hlt2 : s < n3
    · obtain ⟨b, o, x, rfl, hbl, hx, hx0, hx1, hx2⟩ := hcB.lk.get hlt2
      have hi1 : (s : Int) < n3 := by omega
      have hs1 : (bits : Int) / 2 ^ min s 64 = ((bits / 2 ^ s : Nat) : Int) := by rw [show min s 64 = s by omega]; norm_cast
      have hs2 : (bits : Int) / 2 ^ s = ((bits / 2 ^ s : Nat) : Int) := by norm_cast
      have hit := someTo_hit (bits := bits) hx
      have miss := @someTo_miss c bits s
      have hc2 : ∀ X, Later wr X → X.cell? ⟨g3, 4, none⟩ = some (.slice Aw m kw) := fun X hX => Hbq.out.cells_later X hX 4
      have hk4 : o + s * 3 + 1 + 1 = o + s * 3 + 2 := rfl
      generalize bits / 2 ^ s = q at *
      clear hx
      by_cases ho : q % 2 = 1
      · have hb1 : ((q : Int) % 2 == 1) = true := by simp; omega
        have hv : looksV (someTo c bits (s + 1)) = looksV (someTo c bits s) ++ [.int .i64 x.horse, .int .i64 x.minute, .bool x.dry] := by
          rw [hit ho]; simp [looksV, Look.cells]
        have Hv := hide hv
        clear hv hit miss ho
        go_wp2_with fail
        refine wp_region_held_drew (S := Later wB) (by kernel_rfl) (by simp [hLq]) (fun hS => ?_)
        obtain ⟨w3, hw3⟩ : ∃ W, W = wr.drew := ⟨_, rfl⟩
        have hLr : Later wr w3 := by rw [hw3]; exact later_drew (later_refl _)
        rw [← hw3] at hS ⊢
        clear hw3 hs1 hs2
        refine wpAnyH_take (i := 0) (v := ?_) rfl (by kernel_rfl) (by kernel_rfl) (by kernel_rfl) (by intro _ _ _ h; first | exact h | exact absurd h.1 (by simp)) (Or.inl ⟨by rfl, ?_⟩) hS ?_; rotate_left; (focus (intro X hSX; (try dsimp only at hSX); go_simp; (try with_reducible rfl))); (try simp only [Act.put, List.setIfInBounds_toArray, List.set_cons_zero, List.set_cons_succ])
        refine wpAnyH_take (i := 2) (v := ?_) rfl (by kernel_rfl) (by kernel_rfl) (by kernel_rfl) (by intro _ _ _ h; first | exact h | exact absurd h.1 (by simp)) (Or.inl ⟨by rfl, ?_⟩) hS ?_; rotate_left; (focus (intro X hSX; (try dsimp only at hSX); go_simp; (try with_reducible rfl))); (try simp only [Act.put, List.setIfInBounds_toArray, List.set_cons_zero, List.set_cons_succ])
        refine wpAnyH_take (i := 3) (v := ?_) rfl (by kernel_rfl) (by kernel_rfl) (by kernel_rfl) (by intro _ _ _ h; first | exact h | exact absurd h.1 (by simp)) (Or.inl ⟨by rfl, ?_⟩) hS ?_; rotate_left; (focus (intro X hSX; (try dsimp only at hSX); go_simp; (try with_reducible rfl))); (try simp only [Act.put, List.setIfInBounds_toArray, List.set_cons_zero, List.set_cons_succ])
        refine wpAnyH_take (i := 4) (v := ?_) rfl (by kernel_rfl) (by kernel_rfl) (by kernel_rfl) (by intro _ _ _ h; first | exact h | exact absurd h.1 (by simp)) (Or.inl ⟨by rfl, ?_⟩) hS ?_; rotate_left; (focus (intro X hSX; (try dsimp only at hSX); go_simp; (try with_reducible rfl))); (try simp only [Act.put, List.setIfInBounds_toArray, List.set_cons_zero, List.set_cons_succ])
        refine wpAnyH_take (i := 5) (v := ?_) rfl (by kernel_rfl) (by kernel_rfl) (by kernel_rfl) (by intro _ _ _ h; first | exact h | exact absurd h.1 (by simp)) (Or.inl ⟨by rfl, ?_⟩) hS ?_; rotate_left; (focus (intro X hSX; (try dsimp only at hSX); go_simp; (try with_reducible rfl))); (try simp only [Act.put, List.setIfInBounds_toArray, List.set_cons_zero, List.set_cons_succ])
        refine wpAnyH_take (i := 6) (v := ?_) rfl (by kernel_rfl) (by kernel_rfl) (by kernel_rfl) (by intro _ _ _ h; first | exact h | exact absurd h.1 (by simp)) (Or.inl ⟨by rfl, ?_⟩) hS ?_; rotate_left; (focus (intro X hSX; (try dsimp only at hSX); go_simp; (try with_reducible rfl))); (try simp only [Act.put, List.setIfInBounds_toArray, List.set_cons_zero, List.set_cons_succ])
        refine wpAnyH_ready (rs := [1, 7]) (by kernel_rfl) (by simp) ?_
        refine AllReadyH.cons rfl (fun K hK2 => ?_) (AllReadyH.cons rfl (fun K hK2 => ?_) AllReadyH.nil)
        · go_simp
          refine hK2.out _ _ hS (fun _ => ?_)
          clear hK2 K; (try simp only [Act.put, List.setIfInBounds_toArray, List.set_cons_zero, List.set_cons_succ])
          refine wpAnyH_ready (rs := [7]) (by kernel_rfl) (by simp) ?_; refine AllReadyH.cons rfl (fun K hK2 => ?_) AllReadyH.nil
          go_simp
          refine hK2.out _ _ (later_alloc hS _) (fun hS4 => ?_)
          clear hK2 K; (try simp only [Act.put, List.setIfInBounds_toArray, List.set_cons_zero, List.set_cons_succ])
          refine wpAnyH_ready (rs := [8]) (by kernel_rfl) (by simp) ?_
          refine AllReadyH.cons (o := { dst := some 30, op := Op.call { callee := Callee.builtin Builtin.append, args := #[Operand.tmp 23, Operand.tmp 29], argTypes := #[24, 24] }, type := 24, pos := "outright.go:450", after := #[{ on := 1, ground := Ground.data }, { on := 7, ground := Ground.data }], guard := none }) rfl (fun K hK2 => ?_) AllReadyH.nil
          have hown4 := (own_later2 Howq.out hLr).alloc (.cells #[.int .i64 x.horse, .int .i64 x.minute, .bool x.dry] 84)
          have knew := Blk.new w3 84 #[.int .i64 x.horse, .int .i64 x.minute, .bool x.dry]
          have hK4 := (hKq.later hLr).later (later_alloc (later_refl _) (.cells #[.int .i64 x.horse, .int .i64 x.minute, .bool x.dry] 84))
          have hbk4 := (Hbq.out.later hLr).alloc (.cells #[.int .i64 x.horse, .int .i64 x.minute, .bool x.dry] 84)
          refine appG_step rfl w5.heap.size _ _ 24 rfl 84 (.agg #[.int .i64 0, .int .i64 0, .bool false]) 3 24 Try.underlying24 rlook_info rfl (by omega) (.slice Aw m kw) m (looksV (someTo c bits s)) rfl hK4.1 hown4 ⟨w3.heap.size, 0, none⟩ 1 1 [.int .i64 x.horse, .int .i64 x.minute, .bool x.dry] rfl rfl (fun j u hu => by rw [add_lit, Nat.zero_add, knew.cell, List.getElem?_toArray]; exact hu) (by simp [Value.oneCell']) (by omega) (by omega) (by omega) ?_
          intro v' w4 hap
          obtain ⟨A', c', hv', _⟩ := own_slice hap.own
          subst hv'
          have hr4 : ∀ g, (Value.slice Aw m kw).ownBlock = some g → w5.heap.size ≤ g := fun g hg => (hown4.lt g hg).1
          have hL4 := Later.grown hS4 hap.grown fun g hg => Nat.le_trans hLB5 (hr4 g hg)
          have hK5 := hK4.grown hap.grown hr4
          have hb4' := Blk.of_eq (hap.grown.block g3 hbk4.lt (fun e => by have := hr4 g3 e.symm; omega)) hbk4
          have c24 := hb4'.cell 4
          have f24 := hb4'.frozen 4
          simp only [List.getElem?_toArray, List.getElem?_cons_zero, List.getElem?_cons_succ] at c24
          have Hown5 := hide hap.own
          have Hb4 := hide hb4'
          clear hown4 knew hK4 hbk4 hr4 hap hb4'
          refine hK2.out _ _ hL4 (fun hS5 => ?_)
          clear hK2 K; (try simp only [Act.put, List.setIfInBounds_toArray, List.set_cons_zero, List.set_cons_succ])
          refine wpAnyH_take (i := 9) (v := ?_) rfl (by kernel_rfl) (by kernel_rfl) (by kernel_rfl) (by intro _ _ _ h; first | exact h | exact absurd h.1 (by simp)) (Or.inl ⟨by rfl, ?_⟩) hS5 ?_; rotate_left; (focus (intro X hSX; (try dsimp only at hSX); go_simp; (try with_reducible rfl))); (try simp only [Act.put, List.setIfInBounds_toArray, List.set_cons_zero, List.set_cons_succ])
          refine wpAnyH_ready (rs := [10]) (by kernel_rfl) (by simp) ?_; refine AllReadyH.cons rfl (fun K hK2 => ?_) AllReadyH.nil
          go_simp
          have hS6 := later_set hS5 ⟨g3, 4, none⟩ hlo (.slice A' (m + 1) c')
          have hK6 := hK5.setCell 4 (.slice A' (m + 1) c')
          have hb6 := Hb4.out.set_ 4 (.slice A' (m + 1) c')
          have ho6 := own_block (W' := w4.setCell ⟨g3, 4, none⟩ (.slice A' (m + 1) c')) Hown5.out fun g hg => Below.heap_setCell w4 _ _ g (by have := (Hown5.out.lt g hg).1; show g ≠ g3; omega)
          rw [← Hv.out] at ho6
          have Hb6 := hide hb6
          have Ho6 := hide ho6
          clear hb6 ho6
          refine hK2.out _ _ hS6 (fun _ => ?_)
          clear hK2 K
          refine wpAnyH_done (by kernel_rfl) ?_ _
          gi_wp2_with fail
          go_wp2_with fail
          go_roundw
          case rel => exact ⟨s + 1, m + 1, A', c', by omega, by omega, by go_num, hS6, hK6, Hb6, Ho6⟩
          case measure => simp [intOf]; omega
        · go_simp
          refine hK2.out _ _ (later_alloc hS _) (fun hS4 => ?_)
          clear hK2 K; (try simp only [Act.put, List.setIfInBounds_toArray, List.set_cons_zero, List.set_cons_succ])
          refine wpAnyH_ready (rs := [1]) (by kernel_rfl) (by simp) ?_; refine AllReadyH.cons rfl (fun K hK2 => ?_) AllReadyH.nil
          go_simp
          refine hK2.out _ _ hS4 (fun _ => ?_)
          clear hK2 K; (try simp only [Act.put, List.setIfInBounds_toArray, List.set_cons_zero, List.set_cons_succ])
          refine wpAnyH_ready (rs := [8]) (by kernel_rfl) (by simp) ?_
          refine AllReadyH.cons (o := { dst := some 30, op := Op.call { callee := Callee.builtin Builtin.append, args := #[Operand.tmp 23, Operand.tmp 29], argTypes := #[24, 24] }, type := 24, pos := "outright.go:450", after := #[{ on := 1, ground := Ground.data }, { on := 7, ground := Ground.data }], guard := none }) rfl (fun K hK2 => ?_) AllReadyH.nil
          have hown4 := (own_later2 Howq.out hLr).alloc (.cells #[.int .i64 x.horse, .int .i64 x.minute, .bool x.dry] 84)
          have knew := Blk.new w3 84 #[.int .i64 x.horse, .int .i64 x.minute, .bool x.dry]
          have hK4 := (hKq.later hLr).later (later_alloc (later_refl _) (.cells #[.int .i64 x.horse, .int .i64 x.minute, .bool x.dry] 84))
          have hbk4 := (Hbq.out.later hLr).alloc (.cells #[.int .i64 x.horse, .int .i64 x.minute, .bool x.dry] 84)
          refine appG_step rfl w5.heap.size _ _ 24 rfl 84 (.agg #[.int .i64 0, .int .i64 0, .bool false]) 3 24 Try.underlying24 rlook_info rfl (by omega) (.slice Aw m kw) m (looksV (someTo c bits s)) rfl hK4.1 hown4 ⟨w3.heap.size, 0, none⟩ 1 1 [.int .i64 x.horse, .int .i64 x.minute, .bool x.dry] rfl rfl (fun j u hu => by rw [add_lit, Nat.zero_add, knew.cell, List.getElem?_toArray]; exact hu) (by simp [Value.oneCell']) (by omega) (by omega) (by omega) ?_
          intro v' w4 hap
          obtain ⟨A', c', hv', _⟩ := own_slice hap.own
          subst hv'
          have hr4 : ∀ g, (Value.slice Aw m kw).ownBlock = some g → w5.heap.size ≤ g := fun g hg => (hown4.lt g hg).1
          have hL4 := Later.grown hS4 hap.grown fun g hg => Nat.le_trans hLB5 (hr4 g hg)
          have hK5 := hK4.grown hap.grown hr4
          have hb4' := Blk.of_eq (hap.grown.block g3 hbk4.lt (fun e => by have := hr4 g3 e.symm; omega)) hbk4
          have c24 := hb4'.cell 4
          have f24 := hb4'.frozen 4
          simp only [List.getElem?_toArray, List.getElem?_cons_zero, List.getElem?_cons_succ] at c24
          have Hown5 := hide hap.own
          have Hb4 := hide hb4'
          clear hown4 knew hK4 hbk4 hr4 hap hb4'
          refine hK2.out _ _ hL4 (fun hS5 => ?_)
          clear hK2 K; (try simp only [Act.put, List.setIfInBounds_toArray, List.set_cons_zero, List.set_cons_succ])
          refine wpAnyH_take (i := 9) (v := ?_) rfl (by kernel_rfl) (by kernel_rfl) (by kernel_rfl) (by intro _ _ _ h; first | exact h | exact absurd h.1 (by simp)) (Or.inl ⟨by rfl, ?_⟩) hS5 ?_; rotate_left; (focus (intro X hSX; (try dsimp only at hSX); go_simp; (try with_reducible rfl))); (try simp only [Act.put, List.setIfInBounds_toArray, List.set_cons_zero, List.set_cons_succ])
          refine wpAnyH_ready (rs := [10]) (by kernel_rfl) (by simp) ?_; refine AllReadyH.cons rfl (fun K hK2 => ?_) AllReadyH.nil
          go_simp
          have hS6 := later_set hS5 ⟨g3, 4, none⟩ hlo (.slice A' (m + 1) c')
          have hK6 := hK5.setCell 4 (.slice A' (m + 1) c')
          have hb6 := Hb4.out.set_ 4 (.slice A' (m + 1) c')
          have ho6 := own_block (W' := w4.setCell ⟨g3, 4, none⟩ (.slice A' (m + 1) c')) Hown5.out fun g hg => Below.heap_setCell w4 _ _ g (by have := (Hown5.out.lt g hg).1; show g ≠ g3; omega)
          rw [← Hv.out] at ho6
          have Hb6 := hide hb6
          have Ho6 := hide ho6
          clear hb6 ho6
          refine hK2.out _ _ hS6 (fun _ => ?_)
          clear hK2 K
          refine wpAnyH_done (by kernel_rfl) ?_ _
          gi_wp2_with fail
          go_wp2_with fail
          go_roundw
          case rel => exact ⟨s + 1, m + 1, A', c', by omega, by omega, by go_num, hS6, hK6, Hb6, Ho6⟩
          case measure => simp [intOf]; omega
      · have hb1 : ((q : Int) % 2 == 1) = false := by simp; omega
        have Hmiss := hide (miss ho)
        clear hit miss ho
        go_wp2_with fail
        go_roundw
        case rel => exact ⟨s + 1, m, Aw, kw, by omega, by omega, by go_num, hLq, hKq, Hbq, by rw [Hmiss.out]; exact Howq⟩
        case measure => simp [intOf]; omega
    · have hst : s = n3 := by omega
      subst s
      have hsl : (someC c bits).looks = someTo c bits n3 := by rw [Hll.out]; rfl
      have hrd : RL wr Aw m (someC c bits).looks := by
        rw [hsl]
        obtain ⟨A', c', e, hr⟩ := own_slice Howq.out
        injection e with e1 e2 e3
        subst e1
        exact hr
      have y0 := Hbq.out.cell 0
      have y1 := Hbq.out.cell 1
      have y2 := Hbq.out.cell 2
      have y3 := Hbq.out.cell 3
      have y4 := Hbq.out.cell 4
      have hbr := HBr.out.later hLq
      have x0 := hbr.cell 0
      have x1 := hbr.cell 1
      have x2 := hbr.cell 2
      have x3 := hbr.cell 3
      have x4 := hbr.cell 4
      have xf0 := hbr.frozen 0
      have xf1 := hbr.frozen 1
      have xf2 := hbr.frozen 2
      have xf3 := hbr.frozen 3
      have xf4 := hbr.frozen 4
      have hsz := hbr.lt
      simp only [List.getElem?_toArray, List.getElem?_cons_zero, List.getElem?_cons_succ] at y0 y1 y2 y3 y4 x0 x1 x2 x3 x4
      have hfin : ∀ X, Later w X → Later w (((((X.setCell ⟨w.heap.size + 1, 0, none⟩ (.int .i64 c.closets)).setCell ⟨w.heap.size + 1, 1, none⟩ (.int .i64 c.close)).setCell ⟨w.heap.size + 1, 2, none⟩ (.slice A1 n1 k1)).setCell ⟨w.heap.size + 1, 3, none⟩ (.slice A2 n2 k2)).setCell ⟨w.heap.size + 1, 4, none⟩ (.slice Aw m kw)) := fun X h =>
        later_set (later_set (later_set (later_set (later_set h _ (Nat.le_succ _) _) _ (Nat.le_succ _) _) _ (Nat.le_succ _) _) _ (Nat.le_succ _) _) _ (Nat.le_succ _) _
      have hlq := Later.trans hlw hLq
      have hne : g3 ≠ w.heap.size + 1 := by have := HgB.out; omega
      have hrow := hrd
      clear hbr
      go_wp2_with fail
      have hko : ∀ (X : World) (i : Nat) (u : Value), Hid (X.ownsRow w5.heap.size 84 3 (.slice Aw m kw) m (looksV (someTo c bits n3))) → Hid ((X.setCell ⟨w.heap.size + 1, i, none⟩ u).ownsRow w5.heap.size 84 3 (.slice Aw m kw) m (looksV (someTo c bits n3))) := fun X i u h =>
        own_block h.out fun g hg => Below.heap_setCell X _ _ g (by have h1 := (h.out.lt g hg).1; have h2 := HgB.out; show g ≠ w.heap.size + 1; omega)
      have ho2 := hko _ 4 (.slice Aw m kw) (hko _ 3 (.slice A2 n2 k2) (hko _ 2 (.slice A1 n1 k1) (hko _ 1 (.int .i64 c.close) (hko _ 0 (.int .i64 c.closets) Howq))))
      refine bodyPost_ret (v := .agg #[.int .i64 c.closets, .int .i64 c.close, .slice A1 n1 k1, .slice A2 n2 k2, .slice Aw m kw]) ?_ rfl ⟨Aw, m, kw, rfl, hfin _ hlq, ?_⟩
      · simp [results, Try.results72, go_sem, *]
      · rw [hsl]
        obtain ⟨A', c', e, hr⟩ := own_slice ho2.out
        injection e with e1 e2 e3
        subst e1
        exact hr
end Go.Proofs.Ytjilckjhdlabaaa

/- Closets with other looks: plain. -/
namespace Go.Proofs.Ytjilckjhdlabaaa
open Go Go.RowKit

theorem fault_looks {c : Clo} (hf : fault c = 0) {l : List Look} (hl : l.all (lookOk c.horses.length) = true) (hn : l.length ≤ 5) : fault (withLooks c l) = 0 := by
  obtain ⟨h1, h2, h3, h4, h5, h6, h7⟩ := fault_zero hf
  have e1 : isPlaceB (withLooks c l) (withLooks c l).hung = isPlaceB c c.hung := rfl
  unfold fault
  rw [if_neg, if_neg, if_neg, if_neg, if_neg]
  · show ¬ 2000 < many c
    omega
  · show ¬ (l.all (lookOk c.horses.length) = false)
    rw [hl]; simp
  · show ¬ (c.horses.all horseOk = false)
    simp_all
  · show ¬ (c.closets < 1 ∨ inB c.close 0 99 = false ∨ isPlaceB c c.hung = false)
    simp_all
  · show ¬ (4 < c.closets ∨ 4 < c.horses.length ∨ 5 < l.length)
    omega
theorem looks_all {c : Clo} (hf : fault c = 0) {l : List Look} (hl : ∀ x ∈ l, x ∈ c.looks) : l.all (lookOk c.horses.length) = true := by
  have h := (fault_zero hf).2.2.2.2.2.1
  rw [List.all_eq_true]
  intro x hx
  have h2 : c.looks.all (lookOk c.horses.length) = true := by first | exact h | exact (fault_zero hf).2.2.2.2.1
  exact List.all_eq_true.1 h2 x (hl x hx)
theorem poss_mem {c : Clo} (ok : OkC c) : possibleP c [] = true ↔ ∃ d ∈ dryAll c.horses, ∀ l ∈ c.looks, okL c d l = true := by
  rw [possible_iff ok]
  constructor
  · rintro ⟨d, hd, h⟩
    refine ⟨d, hd, fun l hl => ?_⟩
    obtain ⟨j, hj⟩ := List.getElem?_of_mem hl
    rcases h j l hj with h1 | h1
    · cases h1
    · exact h1
  · rintro ⟨d, hd, h⟩
    exact ⟨d, hd, fun j l hj => .inr (h l (List.mem_of_getElem? hj))⟩
theorem truthsP_ne {c : Clo} (ok : OkC c) : truthsP c ≠ [] ↔ possibleP c [] = true := by
  rw [truthsP_filter ok.toOkH]
  unfold possibleP
  rw [List.any_eq_true, ne_eq, List.filter_eq_nil_iff]
  constructor
  · intro h
    apply Classical.byContradiction
    intro h2
    exact h fun d hd h3 => h2 ⟨d, hd, h3⟩
  · rintro ⟨d, hd, h⟩ h2
    exact h2 d hd h
theorem askedErr_poss {c : Clo} (hf : fault c = 0) {b : Bool} (hb : b = true) : askedErr c b = if possibleP c [] = true then 0 else 11 := by
  have ok := okC_of_fault hf
  subst hb
  unfold askedErr
  rw [if_neg (by simp [hf]), if_neg (by simp)]
  by_cases h : possibleP c [] = true
  · rw [if_pos h, if_neg ((truthsP_ne ok).2 h)]
  · rw [if_neg h, if_pos]
    apply Classical.byContradiction
    intro h2
    exact h ((truthsP_ne ok).1 h2)
theorem someC_fault {c : Clo} (hf : fault c = 0) (bits : Nat) : fault (someC c bits) = 0 := by
  refine fault_looks hf (looks_all hf fun x hx => ?_) ?_
  · obtain ⟨i, _, _, e⟩ := someTo_mem hx
    exact List.mem_of_getElem? e
  · have := someTo_len c bits c.looks.length
    have := (okC_of_fault hf).nlooks
    omega
theorem hung_place {c : Clo} (hf : fault c = 0) : isPlaceB c c.hung = true := by
  have ok := okC_of_fault hf
  exact (isPlaceB_iff ok.cl1 ok.cl4 c.hung).2 ok.hung
theorem someC_err {c : Clo} (hf : fault c = 0) (bits : Nat) : askedErr (someC c bits) (isPlaceB (someC c bits) c.hung) = if possibleP (someC c bits) [] = true then 0 else 11 :=
  askedErr_poss (someC_fault hf bits) (show isPlaceB c c.hung = true from hung_place hf)
theorem poss_none {c : Clo} (ok : OkC c) (h : ∀ l ∈ c.looks, False) : possibleP c [] = true := by
  rw [poss_mem ok]
  obtain ⟨d, hd⟩ := dryAll_ne c.horses fun h hh => by have := ok.horse h hh; omega
  exact ⟨d, hd, fun l hl => (h l hl).elim⟩
/-- some of the looks by their bits, or a part of the list from its head on: the same looks -/
theorem poss_some_take {c : Clo} (hf : fault c = 0) (j : Nat) : possibleP (someC c (2 ^ j - 1)) [] = possibleP (withLooks c (c.looks.take j)) [] := by
  have ok1 := okC_of_fault (someC_fault hf (2 ^ j - 1))
  have ok2 := okC_take (okC_of_fault hf) j
  rw [Bool.eq_iff_iff, poss_mem ok1, poss_mem ok2]
  have hm : ∀ x, x ∈ (someC c (2 ^ j - 1)).looks ↔ x ∈ (withLooks c (c.looks.take j)).looks := fun x => by
    show x ∈ someTo c (2 ^ j - 1) c.looks.length ↔ x ∈ c.looks.take j
    constructor
    · intro h
      obtain ⟨i, hi, hb, e⟩ := someTo_mem h
      rw [Nat.testBit_two_pow_sub_one, decide_eq_true_eq] at hb
      exact List.mem_of_getElem? (i := i) (by rw [List.getElem?_take_of_lt hb]; exact e)
    · intro h
      obtain ⟨i, hi⟩ := List.getElem?_of_mem h
      rw [List.getElem?_take] at hi
      split at hi
      · rename_i hlt
        exact mem_someTo (i := i) (List.getElem?_eq_some_iff.1 hi).1 (by rw [Nat.testBit_two_pow_sub_one, decide_eq_true_eq]; exact hlt) hi
      · cases hi
  constructor
  · rintro ⟨d, hd, h⟩; exact ⟨d, hd, fun l hl => h l ((hm l).2 hl)⟩
  · rintro ⟨d, hd, h⟩; exact ⟨d, hd, fun l hl => h l ((hm l).1 hl)⟩
theorem poss_take {c : Clo} (hf : fault c = 0) {j : Nat} (hj : ∀ i, i < j → firstBad c i = false) : possibleP (withLooks c (c.looks.take j)) [] = true := by
  cases j with
  | zero => exact poss_none (okC_take (okC_of_fault hf) 0) (fun l hl => by simp [withLooks] at hl)
  | succ j =>
    have := hj j (Nat.lt_succ_self _)
    unfold firstBad at this
    simpa using this
theorem firstLaw {c : Clo} (hf : fault c = 0) :
    (firstOut c = (0, 7) ∧ askedErr c (isPlaceB c c.hung) = 0) ∨
    (∃ j : Nat, j < c.looks.length ∧ firstOut c = ((j : Int), 0) ∧ askedErr (someC c (2 ^ j - 1)) (isPlaceB (someC c (2 ^ j - 1)) c.hung) = 0 ∧ askedErr (someC c (2 ^ (j + 1) - 1)) (isPlaceB (someC c (2 ^ (j + 1) - 1)) c.hung) = 11) := by
  unfold firstOut
  rw [if_neg (by simp [hf])]
  cases hq : (List.range c.looks.length).find? (firstBad c) with
  | none =>
    left
    refine ⟨rfl, ?_⟩
    rw [List.find?_eq_none] at hq
    rw [askedErr_poss hf (hung_place hf), if_pos]
    have := poss_take hf (j := c.looks.length) fun i hi => by simpa using hq i (by simpa using hi)
    rw [List.take_length] at this
    exact this
  | some j =>
    right
    rw [List.find?_range_eq_some] at hq
    obtain ⟨h1, h2, h3⟩ := hq
    refine ⟨j, by simpa using h2, rfl, ?_, ?_⟩
    · rw [someC_err hf, if_pos]
      rw [poss_some_take hf]
      exact poss_take hf fun i hi => by simpa using h3 i hi
    · rw [someC_err hf, if_neg]
      rw [poss_some_take hf]
      unfold firstBad at h1
      simpa using h1
end Go.Proofs.Ytjilckjhdlabaaa
