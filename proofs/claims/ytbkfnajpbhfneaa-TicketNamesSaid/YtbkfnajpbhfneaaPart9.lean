/- Part 9 of the proof: joined from the texts TlB, TlC, TlD, TcK, TlE. -/
import Derived.Test.YtbkfnajpbhfneaaPart8
import Derived.Test.YtbkfnajpbhfneaaPart7
import Derived.Test.YtbkfnajpbhfneaaPart3
import Derived.Laws.OwnMore
import Derived.WalkMore
set_option linter.unusedSimpArgs false
set_option linter.unusedVariables false
/- The laws' House: walk. -/
namespace Go.Proofs.Ytbkfnajpbhfneaa
open Go Go.RowKit
attribute [local go_sem] later_alloc2 later_alloc3 later_alloc4

theorem later_setRow {w W : World} (h : Later w W) {g : Nat} (hg : w.heap.size ≤ g) (cs : Array Value) : Later w (W.setRow g cs) :=
  ⟨h.os, h.tape, h.output, by simpa using h.size, fun b hb => (setRow_other W g b cs (by omega)).trans (h.block b hb)⟩
theorem Blk.row {w : World} {g : Nat} {t : TypeId} {old : Array Value} (h : Blk w g t old) (cs : Array Value) : Blk (w.setRow g cs) g t cs := setRow_heap w g old cs t (0, 0) h
/-- all blocks of W but g lie in X as they lay -/
def Kept (g : Nat) (W X : World) : Prop := W.heap.size ≤ X.heap.size ∧ ∀ b, b < W.heap.size → b ≠ g → X.heap[b]? = W.heap[b]?
theorem Kept.refl (g : Nat) (W : World) : Kept g W W := ⟨Nat.le_refl _, fun _ _ _ => rfl⟩
theorem Kept.trans {g : Nat} {A B C : World} (h : Kept g A B) (k : Kept g B C) : Kept g A C := ⟨Nat.le_trans h.1 k.1, fun b hb hn => (k.2 b (Nat.lt_of_lt_of_le hb h.1) hn).trans (h.2 b hb hn)⟩
theorem Kept.later {g : Nat} {W X Y : World} (h : Kept g W X) (k : Later X Y) : Kept g W Y := h.trans ⟨k.size, fun b hb _ => k.block b hb⟩
theorem Kept.setCell {g : Nat} {W X : World} (h : Kept g W X) (i : Nat) (u : Value) : Kept g W (X.setCell ⟨g, i, none⟩ u) := h.trans ⟨by simp, fun b _ hn => Below.heap_setCell X _ _ b hn⟩
theorem Kept.setRow {g : Nat} {W X : World} (h : Kept g W X) (cs : Array Value) : Kept g W (X.setRow g cs) := h.trans ⟨by simp, fun b _ hn => setRow_other X g b cs hn⟩
theorem Reads.kept {g : Nat} {W X : World} {A : Option Addr} {n size : Nat} {xs : List Value} (h : Reads W W.heap.size size A n xs) (hs : 0 < size) (hne : ∀ b o, A = some ⟨b, o, none⟩ → b ≠ g) (k : Kept g W X) : Reads X X.heap.size size A n xs := by
  refine ⟨h.1, fun hn => ?_⟩
  obtain ⟨b, o, e, hb, hc⟩ := Reads.lit h hs hn
  exact ⟨⟨b, o, none⟩, e, Nat.lt_of_lt_of_le hb k.1, fun j u hu => by rw [add_lit, World.cell?_of_block (a := ⟨b, o + j, none⟩) (k.2 b hb (hne b o e))]; exact hc j u hu⟩
theorem Kept.grown {g : Nat} {W X Y : World} {row : Option Nat} (h : Kept g W X) (k : X.grownBy Y row) (hr : ∀ b, row = some b → W.heap.size ≤ b) : Kept g W Y :=
  ⟨Nat.le_trans h.1 k.size, fun b hb hn => (k.block b (Nat.lt_of_lt_of_le hb h.1) (fun e => by have := hr b e.symm; omega)).trans (h.2 b hb hn)⟩
theorem ticket_info : (Try.prog.info? 103).map (fun i => (i.zero, i.size, i.bytes)) = some (some (.agg #[.int .i64 0, .int .i64 0]), 2, 16) := by kernel_rfl
theorem pairsV_take {l : List (Int × Int)} {t : Nat} {x : Int × Int} (h : l[t]? = some x) : pairsV (l.take (t + 1)) = pairsV (l.take t) ++ [.int .i64 x.1, .int .i64 x.2] := by
  rw [List.take_add_one, h]; exact pairsV_one _ _
theorem clipsV_take {l : List Cp} {t : Nat} {x : Cp} (h : l[t]? = some x) : clipsV (l.take (t + 1)) = clipsV (l.take t) ++ [.int .i64 x.ticket, .int .i64 x.clock, .int .i64 x.minute] := by
  rw [List.take_add_one, h]; exact clipsV_snoc _ _
def HousePost (c : Hou) (n1 n2 n3 : Nat) (w : World) (e : Ending) (w' : World) : Prop :=
  ∃ A1 k1 A2 k2 A3 k3, e = .returned (.agg #[.int .i64 c.hour, .int .i64 c.grace, .slice A1 n1 k1, .slice A2 n2 k2, .slice A3 n3 k3]) ∧ Later w w' ∧ CV w' c A1 n1 A2 n2 A3 n3 ∧ n1 ≤ k1 ∧ n2 ≤ k2 ∧ n3 ≤ k3
set_option maxRecDepth 100000 in
set_option maxHeartbeats 4000000 in
theorem lawHouse_calls {A1 A2 A3 : Option Addr} {n1 k1 n2 k2 n3 k3 : Nat} {c : Hou} (w : World) (hc : CV w c A1 n1 A2 n2 A3 n3) (b1 : n1 ≤ 1000) (b2 : n2 ≤ 1000) (b3 : n3 ≤ 1000) :
    Calls Try.prog 25 #[(.agg #[.int .i64 c.hour, .int .i64 c.grace, .slice A1 n1 k1, .slice A2 n2 k2, .slice A3 n3 k3])] w (HousePost c n1 n2 n3 w) := by
  obtain ⟨w0, hw0⟩ : ∃ W, W = (w.alloc (.cells #[.int .i64 c.hour, .int .i64 c.grace, .slice A1 n1 k1, .slice A2 n2 k2, .slice A3 n3 k3] 26)) := ⟨_, rfl⟩; have hbox : ∀ W, Later w0 W → ∀ i, W.cell? ⟨w.heap.size, i, none⟩ = #[.int .i64 c.hour, .int .i64 c.grace, .slice A1 n1 k1, .slice A2 n2 k2, .slice A3 n3 k3][i]? := (by rw [hw0]; exact box_cells w #[.int .i64 c.hour, .int .i64 c.grace, .slice A1 n1 k1, .slice A2 n2 k2, .slice A3 n3 k3] 26); have hL0 : Later w w0 := (by rw [hw0]; simp); have hc0 := hc.later hL0; have Hw0 := hide hw0; clear hw0
  have hs0 : w0.heap.size = w.heap.size + 1 := by rw [Hw0.out]; simp
  obtain ⟨w1, hw1⟩ : ∃ X, X = w0.alloc (.cells #[.int .i64 0, .int .i64 0, .slice none 0 0, .slice none 0 0, .slice none 0 0] 36) := ⟨_, rfl⟩
  have hL1 : Later w0 w1 := by rw [hw1]; exact later_alloc (later_refl _) _
  have kres : Blk w1 (w.heap.size + 1) 36 #[.int .i64 0, .int .i64 0, .slice none 0 0, .slice none 0 0, .slice none 0 0] := by
    have := Blk.new w0 36 #[.int .i64 0, .int .i64 0, .slice none 0 0, .slice none 0 0, .slice none 0 0]
    rw [hs0] at this; rw [hw1]; exact this
  have hs1 : w1.heap.size = w.heap.size + 1 + 1 := by rw [hw1]; simp [hs0]
  obtain ⟨w2, hw2⟩ : ∃ X, X = w1.alloc (.cells #[.int .i64 c.hour, .int .i64 c.grace, .slice none 0 0, .slice none 0 0, .slice none 0 0] 36) := ⟨_, rfl⟩
  have hL12 : Later w1 w2 := by rw [hw2]; exact later_alloc (later_refl _) _
  obtain ⟨g3, hg3e⟩ : ∃ g, g = w1.heap.size := ⟨_, rfl⟩
  have kb : Blk w2 g3 36 #[.int .i64 c.hour, .int .i64 c.grace, .slice none 0 0, .slice none 0 0, .slice none 0 0] := by
    rw [hg3e, hw2]; exact Blk.new _ _ _
  have hg3 : g3 < w2.heap.size := kb.lt
  have hlo : w1.heap.size ≤ g3 := by omega
  have hbox1 := fun W (h : Later w1 W) => hbox W (Later.trans hL1 h)
  have hc1 := hc0.later hL1
  have hLw := Later.trans hL0 hL1
  have q0 := hbox1 w1 (later_refl _) 0
  have q1 := hbox1 w1 (later_refl _) 1
  simp only [List.getElem?_toArray, List.getElem?_cons_zero, List.getElem?_cons_succ] at q0 q1
  have hb2 : ∀ X, Later w1 X → X.cell? ⟨w.heap.size, 2, none⟩ = some (.slice A1 n1 k1) := fun X hX => hbox1 X hX 2
  have hb3 : ∀ X, Later w1 X → X.cell? ⟨w.heap.size, 3, none⟩ = some (.slice A2 n2 k2) := fun X hX => hbox1 X hX 3
  have hb4 : ∀ X, Later w1 X → X.cell? ⟨w.heap.size, 4, none⟩ = some (.slice A3 n3 k3) := fun X hX => hbox1 X hX 4
  have Hres := hide kres
  have Hs1 := hide hs1
  have Hw1 := hide hw1
  have Hw2 := hide hw2
  have Hg3 := hide hg3e
  have Hkb := hide kb
  have hn1 := hc1.ck.len
  have hn2 := hc1.tk.len
  have hn3 := hc1.cp.len
  have Hn1 := hide hn1
  have Hn2 := hide hn2
  have Hn3 := hide hn3
  clear hw1 hw2 hs1 kres kb hn1 hn2 hn3 hbox hbox1 hc0 hc hs0 hL0 hL1 hg3e
  go_enter Try.func25, Try.ntmps25
  go_upto_region 1 with fail
  rw [← Hw0.out]; clear Hw0
  rw [← Hw1.out]
  go_upto_region 2 with fail
  rw [← Hw2.out, ← Hg3.out]
  clear q0 q1
  go_wp2_with fail
  go_loopw [4] (fun i wr => ∃ (t : Nat) (Av : Option Addr) (kv : Nat), t ≤ n1 ∧ i = .int .i64 t ∧ Later w1 wr ∧ Kept g3 w2 wr ∧ Hid (Blk wr g3 36 #[.int .i64 c.hour, .int .i64 c.grace, .slice Av t kv, .slice none 0 0, .slice none 0 0]) ∧ Hid (wr.ownsRow w2.heap.size 42 2 (.slice Av t kv) t (pairsV (c.clocks.take t)))) (fun i _ => n1 - (intOf i).toNat)
  case atStart => exact ⟨0, none, 0, Nat.zero_le _, rfl, hL12, Kept.refl _ _, Hkb, ⟨by simp [pairsV], .inl ⟨rfl, rfl⟩⟩⟩
  case round =>
    obtain ⟨t, Av, kv, ht, rfl, hL, hK, Hbk, Hown⟩ := hrel
    by_cases hlt : t < n1
    · obtain ⟨b, o, x, rfl, hbl, hx, hx0, hx1⟩ := hc1.ck.get hlt
      have hi1 : (t : Int) < n1 := by omega
      have hv := pairsV_take hx
      have Hv := hide hv
      have hc2 : ∀ X, Later wr X → X.cell? ⟨g3, 2, none⟩ = some (.slice Av t kv) := fun X hX => Hbk.out.cells_later X hX 2
      have hxa := fun W (hW : Later wr W) => hx0 W (Later.trans hL hW)
      have hxb := fun W (hW : Later wr W) => hx1 W (Later.trans hL hW)
      have hbc := fun W (hW : Later wr W) => hb2 W (Later.trans hL hW)
      clear hx hv hx0 hx1
      have hS : Later wr wr.drew := later_drew (later_refl _)
      go_wp2_with fail
      refine wp_region_lin (w0 := wr) 9 [] rely_later (by kernel_rfl) (by kernel_rfl) (by kernel_rfl) (by kernel_rfl) (hS) (.inl rfl) ?_
      simp only [List.take_succ_cons, List.take_zero, List.drop_succ_cons, List.drop_zero]
      refine lin_det (v := ?_) (F' := ?_) (by rfl) (fun _ => by rfl) ?_ ?_ ?_
      rotate_left 2
      focus (intro xs X hX hdep; clear hdep; (try dsimp only); go_simp; (try (first | with_reducible rfl | exact ⟨rfl, rfl⟩ | (fail))))
      focus (intro xs; (try simp only [Act.put, List.setIfInBounds_toArray, List.set_cons_zero, List.set_cons_succ, Nat.reduceAdd]); rfl)
      refine lin_det (v := ?_) (F' := ?_) (by rfl) (fun _ => by rfl) ?_ ?_ ?_
      rotate_left 2
      focus (intro xs X hX hdep; clear hdep; (try dsimp only); go_simp; (try (first | with_reducible rfl | exact ⟨rfl, rfl⟩ | (fail))))
      focus (intro xs; (try simp only [Act.put, List.setIfInBounds_toArray, List.set_cons_zero, List.set_cons_succ, Nat.reduceAdd]); rfl)
      refine lin_det (v := ?_) (F' := ?_) (by rfl) (fun _ => by rfl) ?_ ?_ ?_
      rotate_left 2
      focus (intro xs X hX hdep; clear hdep; (try dsimp only); go_simp; (try (first | with_reducible rfl | exact ⟨rfl, rfl⟩ | (fail))))
      focus (intro xs; (try simp only [Act.put, List.setIfInBounds_toArray, List.set_cons_zero, List.set_cons_succ, Nat.reduceAdd]); rfl)
      refine lin_det (v := ?_) (F' := ?_) (by rfl) (fun _ => by rfl) ?_ ?_ ?_
      rotate_left 2
      focus (intro xs X hX hdep; clear hdep; (try dsimp only); go_simp; (try (first | with_reducible rfl | exact ⟨rfl, rfl⟩ | (fail))))
      focus (intro xs; (try simp only [Act.put, List.setIfInBounds_toArray, List.set_cons_zero, List.set_cons_succ, Nat.reduceAdd]); rfl)
      refine lin_det (v := ?_) (F' := ?_) (by rfl) (fun _ => by rfl) ?_ ?_ ?_
      rotate_left 2
      focus (intro xs X hX hdep; clear hdep; (try dsimp only); go_simp; (try (first | with_reducible rfl | exact ⟨rfl, rfl⟩ | (fail))))
      focus (intro xs; (try simp only [Act.put, List.setIfInBounds_toArray, List.set_cons_zero, List.set_cons_succ, Nat.reduceAdd]); rfl)
      refine lin_det (v := ?_) (F' := ?_) (by rfl) (fun _ => by rfl) ?_ ?_ ?_
      rotate_left 2
      focus (intro xs X hX hdep; clear hdep; (try dsimp only); go_simp; (try (first | with_reducible rfl | exact ⟨rfl, rfl⟩ | (fail))))
      focus (intro xs; (try simp only [Act.put, List.setIfInBounds_toArray, List.set_cons_zero, List.set_cons_succ, Nat.reduceAdd]); rfl)
      refine lin_det (v := ?_) (F' := ?_) (by rfl) (fun _ => by rfl) ?_ ?_ ?_
      rotate_left 2
      focus (intro xs X hX hdep; clear hdep; (try dsimp only); go_simp; (try (first | with_reducible rfl | exact ⟨rfl, rfl⟩ | (fail))))
      focus (intro xs; (try simp only [Act.put, List.setIfInBounds_toArray, List.set_cons_zero, List.set_cons_succ, Nat.reduceAdd]); rfl)
      refine lin_det (v := ?_) (F' := ?_) (by rfl) (fun _ => by rfl) ?_ ?_ ?_
      rotate_left 2
      focus (intro xs X hX hdep; clear hdep; (try dsimp only); go_simp; (try (first | with_reducible rfl | exact ⟨rfl, rfl⟩ | (exact lawTo_calls _ _ X))))
      focus (intro xs; (try simp only [Act.put, List.setIfInBounds_toArray, List.set_cons_zero, List.set_cons_succ, Nat.reduceAdd]); rfl)
      refine lin_any (IsNew 42 [.int .i64 x.1, .int .i64 x.2]) false (fun v W W' k h => IsNew.later h k) (F' := ?_) (by rfl) (fun _ => by rfl) ?_ ?_ ?_
      rotate_left 1
      focus (intro xs X hX hdep; skip; clear hdep; intro K hK; (try dsimp only); go_simp; (exact hK.out _ _ rfl (later_alloc (later_refl _) _) ⟨_, rfl, Blk.new _ _ _⟩ (fun h => by cases h)))
      focus (intro xs; (try simp only [Act.put, List.setIfInBounds_toArray, List.set_cons_zero, List.set_cons_succ, Nat.reduceAdd]); rfl)
      intro xs W hW hf hfr hfb
      obtain ⟨g, hx9, hbn⟩ := (show IsNew _ _ _ _ from hf 8)
      simp only [hx9, Nat.reduceAdd, Nat.zero_add]
      clear hf hfr hfb hx9
      have hown4 := own_later2 Hown.out hW
      have hK4 := hK.later hW
      have hbk4 := Hbk.out.later hW
      have hL4 := Later.trans hL hW
      go_wp2_with (at_builtin; refine appG rfl w2.heap.size _ _ 29 rfl 42 (.agg #[.int .i64 0, .int .i64 0]) 2 16 Try.underlying29 range_info rfl (by omega) (.slice Av t kv) t (pairsV (c.clocks.take t)) rfl hK4.1 hown4 ⟨g, 0, none⟩ 1 1 [.int .i64 x.1, .int .i64 x.2] rfl rfl hbn.one (by simp [Value.oneCell']) (by omega) (by omega) (by omega) ?_)
      intro v' w4 hap
      obtain ⟨A', c', hv', _⟩ := own_slice hap.own
      subst hv'
      have hr4 : ∀ g, (Value.slice Av t kv).ownBlock = some g → w2.heap.size ≤ g := fun g hg => (hown4.lt g hg).1
      have hL5 := Later.grown hL4 hap.grown fun g hg => Nat.le_trans hL12.size (hr4 g hg)
      have hK5 := hK4.grown hap.grown hr4
      have hb4' := Blk.of_eq (hap.grown.block g3 hbk4.lt (fun e => by have := hr4 g3 e.symm; omega)) hbk4
      have c24 := hb4'.cell 2
      have f24 := hb4'.frozen 2
      simp only [List.getElem?_toArray, List.getElem?_cons_zero, List.getElem?_cons_succ] at c24
      have hS6 := later_set hL5 ⟨g3, 2, none⟩ hlo (.slice A' (t + 1) c')
      have hK6 := hK5.setCell 2 (.slice A' (t + 1) c')
      have hb6 := hb4'.set_ 2 (.slice A' (t + 1) c')
      have ho6 := own_block (W' := w4.setCell ⟨g3, 2, none⟩ (.slice A' (t + 1) c')) hap.own fun g hg => Below.heap_setCell w4 _ _ g (by have := (hap.own.lt g hg).1; show g ≠ g3; omega)
      rw [← Hv.out] at ho6
      have Hb6 := hide hb6
      have Ho6 := hide ho6
      have HS6 := hide hS6
      have HK6 := hide hK6
      clear hb6 ho6 hown4 hK4 hbk4 hr4 hap hb4' hS6 hK6 hL5 hK5 hL4
      go_wp2_with fail
      go_roundw
      case rel => exact ⟨t + 1, A', c', by omega, by go_num, HS6.out, HK6.out, Hb6, Ho6⟩
      case measure => simp [intOf]; omega
    · obtain ⟨e1, rfl⟩ : ∃ x, x = wr := ⟨wr, rfl⟩
      have hnt : n1 = t := by omega
      subst hnt
      have HL1 := hide hL
      have HK1 := hide hK
      have Hcap1 := hide (own_cap Hown.out)
      obtain ⟨hr1, hf1⟩ : Reads e1 e1.heap.size 2 Av n1 (pairsV c.clocks) ∧ Fresh w2 e1 Av := by
        have ho := Hown.out
        rw [List.take_of_length_le (by rw [← Hn1.out]; exact Nat.le_refl _)] at ho
        obtain ⟨A', c', e, hr⟩ := own_slice ho
        injection e with e1 e2 e3
        subst e1
        exact ⟨hr, own_fresh ho⟩
      have Hr1 := hide hr1
      have Hf1 := hide hf1
      have Hbk1 := hide Hbk.out
      have hg51 : g3 < e1.heap.size := Hbk.out.lt
      have hsz1 := hK.1
      have hle1 := hL.size
      clear hr1 hf1 Hown Hbk hK
      obtain ⟨B1, rfl⟩ : ∃ x, x = Av := ⟨_, rfl⟩
      obtain ⟨j1, rfl⟩ : ∃ x, x = kv := ⟨_, rfl⟩
      have hLL1 := hL
      clear hL
      go_wp2_with fail
      go_loopw [5] (fun i wr => ∃ (t : Nat) (Av : Option Addr) (kv : Nat), t ≤ n2 ∧ i = .int .i64 t ∧ Later w1 wr ∧ Kept g3 e1 wr ∧ Hid (Blk wr g3 36 #[.int .i64 c.hour, .int .i64 c.grace, .slice B1 n1 j1, .slice Av t kv, .slice none 0 0]) ∧ Hid (wr.ownsRow e1.heap.size 103 2 (.slice Av t kv) t (pairsV (c.tickets.take t)))) (fun i _ => n2 - (intOf i).toNat)
      case atStart => exact ⟨0, none, 0, Nat.zero_le _, rfl, hLL1, Kept.refl _ _, Hbk1, ⟨by simp [pairsV], .inl ⟨rfl, rfl⟩⟩⟩
      case round =>
        obtain ⟨t, Av, kv, ht, rfl, hL, hK, Hbk, Hown⟩ := hrel
        by_cases hlt : t < n2
        · obtain ⟨b, o, x, rfl, hbl, hx, hx0, hx1⟩ := hc1.tk.get hlt
          have hi1 : (t : Int) < n2 := by omega
          have hv := pairsV_take hx
          have Hv := hide hv
          have hc2 : ∀ X, Later wr X → X.cell? ⟨g3, 3, none⟩ = some (.slice Av t kv) := fun X hX => Hbk.out.cells_later X hX 3
          have hxa := fun W (hW : Later wr W) => hx0 W (Later.trans hL hW)
          have hxb := fun W (hW : Later wr W) => hx1 W (Later.trans hL hW)
          have hbc := fun W (hW : Later wr W) => hb3 W (Later.trans hL hW)
          clear hx hv hx0 hx1
          have hS : Later wr wr.drew := later_drew (later_refl _)
          go_wp2_with fail
          refine wp_region_lin (w0 := wr) 16 [] rely_later (by kernel_rfl) (by kernel_rfl) (by kernel_rfl) (by kernel_rfl) (hS) (.inl rfl) ?_
          simp only [List.take_succ_cons, List.take_zero, List.drop_succ_cons, List.drop_zero]
          refine lin_det (v := ?_) (F' := ?_) (by rfl) (fun _ => by rfl) ?_ ?_ ?_
          rotate_left 2
          focus (intro xs X hX hdep; clear hdep; (try dsimp only); go_simp; (try (first | with_reducible rfl | exact ⟨rfl, rfl⟩ | (fail))))
          focus (intro xs; (try simp only [Act.put, List.setIfInBounds_toArray, List.set_cons_zero, List.set_cons_succ, Nat.reduceAdd]); rfl)
          refine lin_det (v := ?_) (F' := ?_) (by rfl) (fun _ => by rfl) ?_ ?_ ?_
          rotate_left 2
          focus (intro xs X hX hdep; clear hdep; (try dsimp only); go_simp; (try (first | with_reducible rfl | exact ⟨rfl, rfl⟩ | (fail))))
          focus (intro xs; (try simp only [Act.put, List.setIfInBounds_toArray, List.set_cons_zero, List.set_cons_succ, Nat.reduceAdd]); rfl)
          refine lin_det (v := ?_) (F' := ?_) (by rfl) (fun _ => by rfl) ?_ ?_ ?_
          rotate_left 2
          focus (intro xs X hX hdep; clear hdep; (try dsimp only); go_simp; (try (first | with_reducible rfl | exact ⟨rfl, rfl⟩ | (fail))))
          focus (intro xs; (try simp only [Act.put, List.setIfInBounds_toArray, List.set_cons_zero, List.set_cons_succ, Nat.reduceAdd]); rfl)
          refine lin_det (v := ?_) (F' := ?_) (by rfl) (fun _ => by rfl) ?_ ?_ ?_
          rotate_left 2
          focus (intro xs X hX hdep; clear hdep; (try dsimp only); go_simp; (try (first | with_reducible rfl | exact ⟨rfl, rfl⟩ | (fail))))
          focus (intro xs; (try simp only [Act.put, List.setIfInBounds_toArray, List.set_cons_zero, List.set_cons_succ, Nat.reduceAdd]); rfl)
          refine lin_det (v := ?_) (F' := ?_) (by rfl) (fun _ => by rfl) ?_ ?_ ?_
          rotate_left 2
          focus (intro xs X hX hdep; clear hdep; (try dsimp only); go_simp; (try (first | with_reducible rfl | exact ⟨rfl, rfl⟩ | (fail))))
          focus (intro xs; (try simp only [Act.put, List.setIfInBounds_toArray, List.set_cons_zero, List.set_cons_succ, Nat.reduceAdd]); rfl)
          refine lin_det (v := ?_) (F' := ?_) (by rfl) (fun _ => by rfl) ?_ ?_ ?_
          rotate_left 2
          focus (intro xs X hX hdep; clear hdep; (try dsimp only); go_simp; (try (first | with_reducible rfl | exact ⟨rfl, rfl⟩ | (fail))))
          focus (intro xs; (try simp only [Act.put, List.setIfInBounds_toArray, List.set_cons_zero, List.set_cons_succ, Nat.reduceAdd]); rfl)
          refine lin_det (v := ?_) (F' := ?_) (by rfl) (fun _ => by rfl) ?_ ?_ ?_
          rotate_left 2
          focus (intro xs X hX hdep; clear hdep; (try dsimp only); go_simp; (try (first | with_reducible rfl | exact ⟨rfl, rfl⟩ | (fail))))
          focus (intro xs; (try simp only [Act.put, List.setIfInBounds_toArray, List.set_cons_zero, List.set_cons_succ, Nat.reduceAdd]); rfl)
          refine lin_det (v := ?_) (F' := ?_) (by rfl) (fun _ => by rfl) ?_ ?_ ?_
          rotate_left 2
          focus (intro xs X hX hdep; clear hdep; (try dsimp only); go_simp; (try (first | with_reducible rfl | exact ⟨rfl, rfl⟩ | (fail))))
          focus (intro xs; (try simp only [Act.put, List.setIfInBounds_toArray, List.set_cons_zero, List.set_cons_succ, Nat.reduceAdd]); rfl)
          refine lin_det (v := ?_) (F' := ?_) (by rfl) (fun _ => by rfl) ?_ ?_ ?_
          rotate_left 2
          focus (intro xs X hX hdep; clear hdep; (try dsimp only); go_simp; (try (first | with_reducible rfl | exact ⟨rfl, rfl⟩ | (fail))))
          focus (intro xs; (try simp only [Act.put, List.setIfInBounds_toArray, List.set_cons_zero, List.set_cons_succ, Nat.reduceAdd]); rfl)
          refine lin_det (v := ?_) (F' := ?_) (by rfl) (fun _ => by rfl) ?_ ?_ ?_
          rotate_left 2
          focus (intro xs X hX hdep; clear hdep; (try dsimp only); go_simp; (try (first | with_reducible rfl | exact ⟨rfl, rfl⟩ | (fail))))
          focus (intro xs; (try simp only [Act.put, List.setIfInBounds_toArray, List.set_cons_zero, List.set_cons_succ, Nat.reduceAdd]); rfl)
          refine lin_det (v := ?_) (F' := ?_) (by rfl) (fun _ => by rfl) ?_ ?_ ?_
          rotate_left 2
          focus (intro xs X hX hdep; clear hdep; (try dsimp only); go_simp; (try (first | with_reducible rfl | exact ⟨rfl, rfl⟩ | (fail))))
          focus (intro xs; (try simp only [Act.put, List.setIfInBounds_toArray, List.set_cons_zero, List.set_cons_succ, Nat.reduceAdd]); rfl)
          refine lin_det (v := ?_) (F' := ?_) (by rfl) (fun _ => by rfl) ?_ ?_ ?_
          rotate_left 2
          focus (intro xs X hX hdep; clear hdep; (try dsimp only); go_simp; (try (first | with_reducible rfl | exact ⟨rfl, rfl⟩ | (fail))))
          focus (intro xs; (try simp only [Act.put, List.setIfInBounds_toArray, List.set_cons_zero, List.set_cons_succ, Nat.reduceAdd]); rfl)
          refine lin_det (v := ?_) (F' := ?_) (by rfl) (fun _ => by rfl) ?_ ?_ ?_
          rotate_left 2
          focus (intro xs X hX hdep; clear hdep; (try dsimp only); go_simp; (try (first | with_reducible rfl | exact ⟨rfl, rfl⟩ | (fail))))
          focus (intro xs; (try simp only [Act.put, List.setIfInBounds_toArray, List.set_cons_zero, List.set_cons_succ, Nat.reduceAdd]); rfl)
          refine lin_det (v := ?_) (F' := ?_) (by rfl) (fun _ => by rfl) ?_ ?_ ?_
          rotate_left 2
          focus (intro xs X hX hdep; clear hdep; (try dsimp only); go_simp; (try (first | with_reducible rfl | exact ⟨rfl, rfl⟩ | (fail))))
          focus (intro xs; (try simp only [Act.put, List.setIfInBounds_toArray, List.set_cons_zero, List.set_cons_succ, Nat.reduceAdd]); rfl)
          refine lin_det (v := ?_) (F' := ?_) (by rfl) (fun _ => by rfl) ?_ ?_ ?_
          rotate_left 2
          focus (intro xs X hX hdep; clear hdep; (try dsimp only); go_simp; (try (first | with_reducible rfl | exact ⟨rfl, rfl⟩ | (fail))))
          focus (intro xs; (try simp only [Act.put, List.setIfInBounds_toArray, List.set_cons_zero, List.set_cons_succ, Nat.reduceAdd]); rfl)
          refine lin_any (IsNew 103 [.int .i64 x.1, .int .i64 x.2]) false (fun v W W' k h => IsNew.later h k) (F' := ?_) (by rfl) (fun _ => by rfl) ?_ ?_ ?_
          rotate_left 1
          focus (intro xs X hX hdep; skip; clear hdep; intro K hK; (try dsimp only); go_simp; (exact hK.out _ _ rfl (later_alloc (later_refl _) _) ⟨_, rfl, Blk.new _ _ _⟩ (fun h => by cases h)))
          focus (intro xs; (try simp only [Act.put, List.setIfInBounds_toArray, List.set_cons_zero, List.set_cons_succ, Nat.reduceAdd]); rfl)
          intro xs W hW hf hfr hfb
          obtain ⟨g, hx9, hbn⟩ := (show IsNew _ _ _ _ from hf 15)
          simp only [hx9, Nat.reduceAdd, Nat.zero_add]
          clear hf hfr hfb hx9
          have hown4 := own_later2 Hown.out hW
          have hK4 := hK.later hW
          have hbk4 := Hbk.out.later hW
          have hL4 := Later.trans hL hW
          go_wp2_with (at_builtin; refine appG rfl e1.heap.size _ _ 33 rfl 103 (.agg #[.int .i64 0, .int .i64 0]) 2 16 Try.underlying33 ticket_info rfl (by omega) (.slice Av t kv) t (pairsV (c.tickets.take t)) rfl hK4.1 hown4 ⟨g, 0, none⟩ 1 1 [.int .i64 x.1, .int .i64 x.2] rfl rfl hbn.one (by simp [Value.oneCell']) (by omega) (by omega) (by omega) ?_)
          intro v' w4 hap
          obtain ⟨A', c', hv', _⟩ := own_slice hap.own
          subst hv'
          have hr4 : ∀ g, (Value.slice Av t kv).ownBlock = some g → e1.heap.size ≤ g := fun g hg => (hown4.lt g hg).1
          have hL5 := Later.grown hL4 hap.grown fun g hg => Nat.le_trans hLL1.size (hr4 g hg)
          have hK5 := hK4.grown hap.grown hr4
          have hb4' := Blk.of_eq (hap.grown.block g3 hbk4.lt (fun e => by have := hr4 g3 e.symm; omega)) hbk4
          have c24 := hb4'.cell 3
          have f24 := hb4'.frozen 3
          simp only [List.getElem?_toArray, List.getElem?_cons_zero, List.getElem?_cons_succ] at c24
          have hS6 := later_set hL5 ⟨g3, 3, none⟩ hlo (.slice A' (t + 1) c')
          have hK6 := hK5.setCell 3 (.slice A' (t + 1) c')
          have hb6 := hb4'.set_ 3 (.slice A' (t + 1) c')
          have ho6 := own_block (W' := w4.setCell ⟨g3, 3, none⟩ (.slice A' (t + 1) c')) hap.own fun g hg => Below.heap_setCell w4 _ _ g (by have := (hap.own.lt g hg).1; show g ≠ g3; omega)
          rw [← Hv.out] at ho6
          have Hb6 := hide hb6
          have Ho6 := hide ho6
          have HS6 := hide hS6
          have HK6 := hide hK6
          clear hb6 ho6 hown4 hK4 hbk4 hr4 hap hb4' hS6 hK6 hL5 hK5 hL4
          go_wp2_with fail
          go_roundw
          case rel => exact ⟨t + 1, A', c', by omega, by go_num, HS6.out, HK6.out, Hb6, Ho6⟩
          case measure => simp [intOf]; omega
        · obtain ⟨e2, rfl⟩ : ∃ x, x = wr := ⟨wr, rfl⟩
          have hnt : n2 = t := by omega
          subst hnt
          have HL2 := hide hL
          have HK2 := hide hK
          have Hcap2 := hide (own_cap Hown.out)
          obtain ⟨hr2, hf2⟩ : Reads e2 e2.heap.size 2 Av n2 (pairsV c.tickets) ∧ Fresh e1 e2 Av := by
            have ho := Hown.out
            rw [List.take_of_length_le (by rw [← Hn2.out]; exact Nat.le_refl _)] at ho
            obtain ⟨A', c', e, hr⟩ := own_slice ho
            injection e with e1 e2 e3
            subst e1
            exact ⟨hr, own_fresh ho⟩
          have Hr2 := hide hr2
          have Hf2 := hide hf2
          have Hbk2 := hide Hbk.out
          have hg52 : g3 < e2.heap.size := Hbk.out.lt
          have hsz2 := hK.1
          have hle2 := hL.size
          clear hr2 hf2 Hown Hbk hK
          obtain ⟨B2, rfl⟩ : ∃ x, x = Av := ⟨_, rfl⟩
          obtain ⟨j2, rfl⟩ : ∃ x, x = kv := ⟨_, rfl⟩
          have hLL2 := hL
          clear hL
          go_wp2_with fail
          go_loopw [6, 7] (fun i _ wr => ∃ (t : Nat) (Av : Option Addr) (kv : Nat), t ≤ n3 ∧ i = .int .i64 t ∧ Later w1 wr ∧ Kept g3 e2 wr ∧ Hid (Blk wr g3 36 #[.int .i64 c.hour, .int .i64 c.grace, .slice B1 n1 j1, .slice B2 n2 j2, .slice Av t kv]) ∧ Hid (wr.ownsRow e2.heap.size 101 3 (.slice Av t kv) t (clipsV (c.clips.take t)))) (fun i _ _ => n3 - (intOf i).toNat)
          case atStart => exact ⟨0, none, 0, Nat.zero_le _, rfl, hLL2, Kept.refl _ _, Hbk2, ⟨by simp [clipsV], .inl ⟨rfl, rfl⟩⟩⟩
          case round =>
            obtain ⟨t, Av, kv, ht, rfl, hL, hK, Hbk, Hown⟩ := hrel
            by_cases hlt : t < n3
            · obtain ⟨b, o, x, rfl, hbl, hx, hx0, hx1, hx2⟩ := hc1.cp.get hlt
              have hi1 : (t : Int) < n3 := by omega
              have hv := clipsV_take hx
              have Hv := hide hv
              have hc2 : ∀ X, Later wr X → X.cell? ⟨g3, 4, none⟩ = some (.slice Av t kv) := fun X hX => Hbk.out.cells_later X hX 4
              have hxa := hx0 _ hL
              have hxb := hx1 _ hL
              have hxc := hx2 _ hL
              have hbc := hb4 _ hL
              obtain ⟨W, hW0⟩ : ∃ X, X = (wr.alloc (.cells #[.int .i64 x.ticket, .int .i64 x.clock, .int .i64 x.minute] 74)).alloc (.cells #[.int .i64 x.ticket, .int .i64 x.clock, .int .i64 x.minute] 101) := ⟨_, rfl⟩
              obtain ⟨wm, hwm⟩ : ∃ X, X = wr.alloc (.cells #[.int .i64 x.ticket, .int .i64 x.clock, .int .i64 x.minute] 74) := ⟨_, rfl⟩
              have hLm : Later wr wm := by rw [hwm]; exact later_alloc (later_refl _) _
              have hbm := Blk.new wr 74 #[.int .i64 x.ticket, .int .i64 x.clock, .int .i64 x.minute]
              rw [← hwm] at hbm hW0
              have m0 := hbm.cell 0
              have m1 := hbm.cell 1
              have m2 := hbm.cell 2
              simp only [List.getElem?_toArray, List.getElem?_cons_zero, List.getElem?_cons_succ] at m0 m1 m2
              have hc2' := hc2 wm hLm
              have hW : Later wr W := by rw [hW0]; exact later_alloc hLm _
              have hbn := Blk.new wm 101 #[.int .i64 x.ticket, .int .i64 x.clock, .int .i64 x.minute]
              rw [← hW0] at hbn
              have Hwm := hide hwm
              have HW0 := hide hW0
              clear hx hv hx0 hx1 hx2 hwm hW0 hbm
              go_upto_region 14 with fail
              rw [← Hwm.out]
              have HHbn := hide hbn
              have hown4 := own_later2 Hown.out hW
              have hK4 := hK.later hW
              have hbk4 := Hbk.out.later hW
              have hL4 := Later.trans hL hW
              go_wp2_with (at_builtin; rw [← HW0.out]; refine appG rfl e2.heap.size _ _ 34 rfl 101 (.agg #[.int .i64 0, .int .i64 0, .int .i64 0]) 3 24 Try.underlying34 clip_info rfl (by omega) (.slice Av t kv) t (clipsV (c.clips.take t)) rfl hK4.1 hown4 ⟨wm.heap.size, 0, none⟩ 1 1 [.int .i64 x.ticket, .int .i64 x.clock, .int .i64 x.minute] rfl rfl (Blk.one HHbn.out) (by simp [Value.oneCell']) (by omega) (by omega) (by omega) ?_)
              intro v' w4 hap
              obtain ⟨A', c', hv', _⟩ := own_slice hap.own
              subst hv'
              have hr4 : ∀ g, (Value.slice Av t kv).ownBlock = some g → e2.heap.size ≤ g := fun g hg => (hown4.lt g hg).1
              have hL5 := Later.grown hL4 hap.grown fun g hg => Nat.le_trans hLL2.size (hr4 g hg)
              have hK5 := hK4.grown hap.grown hr4
              have hb4' := Blk.of_eq (hap.grown.block g3 hbk4.lt (fun e => by have := hr4 g3 e.symm; omega)) hbk4
              have c24 := hb4'.cell 4
              have f24 := hb4'.frozen 4
              simp only [List.getElem?_toArray, List.getElem?_cons_zero, List.getElem?_cons_succ] at c24
              have hS6 := later_set hL5 ⟨g3, 4, none⟩ hlo (.slice A' (t + 1) c')
              have hK6 := hK5.setCell 4 (.slice A' (t + 1) c')
              have hb6 := hb4'.set_ 4 (.slice A' (t + 1) c')
              have ho6 := own_block (W' := w4.setCell ⟨g3, 4, none⟩ (.slice A' (t + 1) c')) hap.own fun g hg => Below.heap_setCell w4 _ _ g (by have := (hap.own.lt g hg).1; show g ≠ g3; omega)
              rw [← Hv.out] at ho6
              have Hb6 := hide hb6
              have Ho6 := hide ho6
              have HS6 := hide hS6
              have HK6 := hide hK6
              clear hb6 ho6 hown4 hK4 hbk4 hr4 hap hb4' hS6 hK6 hL5 hK5 hL4
              go_wp2_with fail
              go_roundw
              case rel => exact ⟨t + 1, A', c', by omega, by go_num, HS6.out, HK6.out, Hb6, Ho6⟩
              case measure => simp [intOf]; omega
            · obtain ⟨e3, rfl⟩ : ∃ x, x = wr := ⟨wr, rfl⟩
              have hnt : n3 = t := by omega
              subst hnt
              have HL3 := hide hL
              have HK3 := hide hK
              have Hcap3 := hide (own_cap Hown.out)
              obtain ⟨hr3, hf3⟩ : Reads e3 e3.heap.size 3 Av n3 (clipsV c.clips) ∧ Fresh e2 e3 Av := by
                have ho := Hown.out
                rw [List.take_of_length_le (by rw [← Hn3.out]; exact Nat.le_refl _)] at ho
                obtain ⟨A', c', e, hr⟩ := own_slice ho
                injection e with e1 e2 e3
                subst e1
                exact ⟨hr, own_fresh ho⟩
              have Hr3 := hide hr3
              have Hf3 := hide hf3
              have Hbk3 := hide Hbk.out
              have hg53 : g3 < e3.heap.size := Hbk.out.lt
              have hsz3 := hK.1
              have hle3 := hL.size
              clear hr3 hf3 Hown Hbk hK
              obtain ⟨B3, rfl⟩ : ∃ x, x = Av := ⟨_, rfl⟩
              obtain ⟨j3, rfl⟩ : ∃ x, x = kv := ⟨_, rfl⟩
              have hLL3 := hL
              clear hL
              have hkr := (Hres.out.later hLL3)
              have hke := hkr.row #[.int .i64 c.hour, .int .i64 c.grace, .slice B1 n1 j1, .slice B2 n2 j2, .slice B3 n3 j3]
              have Hkr := hide hkr
              have Hke := hide hke
              clear hkr hke
              go_wp2_with (first | (refine wpList_load_row rfl _ _ rfl g3 rfl _ _ _ _ Hbk3.out Try.underlying36 rfl (by kernel_rfl) ?_) | (refine wpList_store_row rfl _ _ _ rfl (w.heap.size + 1) _ rfl rfl _ _ Hkr.out (by kernel_rfl) rfl (by simp [Value.oneCell']) ?_))
              have hs1 := Hs1.out
              have hg3' := Hg3.out
              have hk6 := ((Kept.refl (w.heap.size + 1) e3).setRow #[.int .i64 c.hour, .int .i64 c.grace, .slice B1 n1 j1, .slice B2 n2 j2, .slice B3 n3 j3])
              refine bodyPost_ret (results_cell_row (P := Try.prog) (fn := Try.f25) (p := 2) (ty := 36) (by kernel_rfl) _ _ (w.heap.size + 1) _ _ _ _ rfl Hke.out Try.underlying36 (by kernel_rfl) (by kernel_rfl)) rfl ⟨_, _, _, _, _, _, rfl, later_setRow (Later.trans hLw hLL3) (by omega) _, ⟨?_, ?_, ?_⟩, Hcap1.out, Hcap2.out, Hcap3.out⟩
              · exact Reads.kept (Reads.kept (Reads.kept Hr1.out (by omega) (fun b o e => by have := (Hf1.out b o e).1; omega) HK2.out) (by omega) (fun b o e => by have := (Hf1.out b o e).1; omega) HK3.out) (by omega) (fun b o e => by have := (Hf1.out b o e).1; omega) hk6
              · exact Reads.kept (Reads.kept Hr2.out (by omega) (fun b o e => by have := (Hf2.out b o e).1; omega) HK3.out) (by omega) (fun b o e => by have := (Hf2.out b o e).1; omega) hk6
              · exact Reads.kept Hr3.out (by omega) (fun b o e => by have := (Hf3.out b o e).1; omega) hk6
end Go.Proofs.Ytbkfnajpbhfneaa

/- The laws' two, late, in: walks. -/
namespace Go.Proofs.Ytbkfnajpbhfneaa
open Go Go.RowKit
attribute [local go_sem] later_alloc2 later_alloc3 later_alloc4

def fourClips : List Cp := [⟨0, 0, 300⟩, ⟨0, 1, 366⟩, ⟨1, 0, 365⟩, ⟨1, 1, 488⟩]
def twoH (g : Int) (more : List Cp) : Hou := ⟨60, g, [(0, 0), (-5, 5)], [(0, 1), (0, 2), (1, 0)], fourClips ++ more⟩
theorem Blk.reads {w : World} {g : Nat} {t : TypeId} {cs : Array Value} (h : Blk w g t cs) {size n : Nat} {xs : List Value} (hl : xs.length = n * size) (hx : ∀ (j : Nat) (u : Value), xs[j]? = some u → cs[j]? = some u) : Reads w w.heap.size size (some ⟨g, 0, none⟩) n xs :=
  ⟨hl, fun _ => ⟨_, rfl, h.lt, fun j u hu => by rw [add_lit, Nat.zero_add, h.cell]; exact hx j u hu⟩⟩
def TwoPost (g : Int) (more : List Cp) (w : World) (e : Ending) (w' : World) : Prop :=
  ∃ A1 k1 A2 k2 A3 k3, e = .returned (.agg #[.int .i64 60, .int .i64 g, .slice A1 2 k1, .slice A2 3 k2, .slice A3 (4 + more.length) k3]) ∧ Later w w' ∧ CV w' (twoH g more) A1 2 A2 3 A3 (4 + more.length) ∧ 2 ≤ k1 ∧ 3 ≤ k2 ∧ 4 + more.length ≤ k3 ∧
    w'.ownsRow w.heap.size 101 3 (.slice A3 (4 + more.length) k3) (4 + more.length) (clipsV (fourClips ++ more)) ∧
    (more = [] → ∀ b o b' o', (A1 = some ⟨b, o, none⟩ ∨ A2 = some ⟨b, o, none⟩) → A3 = some ⟨b', o', none⟩ → b ≠ b' ∧ w.heap.size ≤ b)
theorem build_house (a b : Int) (A1 A2 A3 : Option Addr) (n1 k1 n2 k2 n3 k3 : Nat) (W : World) : (Instr.build 36 #[(0, .int .i64 a), (1, .int .i64 b), (2, .slice A1 n1 k1), (3, .slice A2 n2 k2), (4, .slice A3 n3 k3)]).run Try.prog W = .ok (.agg #[.int .i64 a, .int .i64 b, .slice A1 n1 k1, .slice A2 n2 k2, .slice A3 n3 k3]) W :=
  run_build W _ _ _ (by kernel_rfl)
attribute [local go_sem] build_house
set_option maxRecDepth 100000 in
set_option maxHeartbeats 1000000 in
theorem two1_calls (gr : Int) (x : Cp) (q : Nat) (w : World) (hq : Blk w q 101 #[.int .i64 x.ticket, .int .i64 x.clock, .int .i64 x.minute]) :
    Calls Try.prog 71 #[.int .i64 gr, .slice (some ⟨q, 0, none⟩) 1 1] w (TwoPost gr [x] w) := by
  obtain ⟨W0, hW0⟩ : ∃ X, X = w.alloc (.cells #[.int .i64 0, .int .i64 0, .slice none 0 0, .slice none 0 0, .slice none 0 0] 36) := ⟨_, rfl⟩
  obtain ⟨W1, hW1⟩ : ∃ X, X = W0.alloc (.cells (clipsV fourClips).toArray 101) := ⟨_, rfl⟩
  have hs0 : W0.heap.size = w.heap.size + 1 := by rw [hW0]; simp
  have hL0 : Later w W0 := by rw [hW0]; exact later_alloc (later_refl _) _
  have hL01 : Later W0 W1 := by rw [hW1]; exact later_alloc (later_refl _) _
  have hL1 := Later.trans hL0 hL01
  have kr0 : Blk W0 w.heap.size 36 #[.int .i64 0, .int .i64 0, .slice none 0 0, .slice none 0 0, .slice none 0 0] := by rw [hW0]; exact Blk.new _ _ _
  have kr := kr0.later hL01
  have hown : W1.ownsRow (w.heap.size + 1) 101 3 (.slice (some ⟨w.heap.size + 1, 0, none⟩) 4 4) 4 (clipsV fourClips) := by
    have := World.ownsRow_lit (base := w.heap.size + 1) (e := 101) (size := 3) W0 (clipsV fourClips).toArray 4 (by omega) (by unfold maxLen; omega) rfl
    rw [hs0] at this
    rw [hW1]; exact this
  have hq1 := fun W (h : Later W1 W) => hq.later (Later.trans hL1 h)
  have HW0 := hide hW0
  have HW1 := hide hW1
  have Hown := hide hown
  have Hq := hide hq1
  have Hkr := hide kr
  have hs1 : W1.heap.size = w.heap.size + 2 := by rw [hW1]; simp [hs0]
  have Hs1 := hide hs1
  have Hs0 := hide hs0
  clear hW0 hW1 hown hq1 hq kr kr0 hs0 hs1
  go_enter Try.func71, Try.ntmps71
  go_upto_region 2 with fail
  rw [← HW0.out, show W0.alloc (.cells #[.int .i64 0, .int .i64 0, .int .i64 300, .int .i64 0, .int .i64 1, .int .i64 366, .int .i64 1, .int .i64 0, .int .i64 365, .int .i64 1, .int .i64 1, .int .i64 488] 101) = W1 from HW1.out.symm]
  go_wp2_with fail
  refine (lawBetween_calls 0 0 _).mono ?_
  rintro e w2 ⟨rfl, hL2⟩
  go_wp2_with fail
  refine (lawBetween_calls (-5) 5 _).mono ?_
  rintro e w3 ⟨rfl, hL3⟩
  have hL13 := Later.trans hL2 hL3
  have hbs : w.heap.size + 1 ≤ w3.heap.size := by have := Hs1.out; have := hL13.size; omega
  go_wp2_with (at_builtin; refine appG rfl (w.heap.size + 1) _ _ 34 rfl 101 (.agg #[.int .i64 0, .int .i64 0, .int .i64 0]) 3 24 Try.underlying34 clip_info rfl (by omega) (.slice (some ⟨w.heap.size + 1, 0, none⟩) 4 4) 4 (clipsV fourClips) rfl (by simp; omega) (own_later2 Hown.out (later_alloc (later_alloc hL13 _) _)) ⟨q, 0, none⟩ 1 1 [.int .i64 x.ticket, .int .i64 x.clock, .int .i64 x.minute] rfl rfl (Blk.one (Hq.out _ (later_alloc (later_alloc hL13 _) _))) (by simp [Value.oneCell']) (by omega) (by omega) (by omega) ?_)
  intro v' w6 hap
  generalize hw4 : w3.alloc _ = w4 at hap
  generalize hw5 : w4.alloc _ = w5 at hap
  have hs4 : w4.heap.size = w3.heap.size + 1 := by rw [← hw4]; simp
  have hL34 : Later w3 w4 := by rw [← hw4]; exact later_alloc (later_refl _) _
  have hL45 : Later w4 w5 := by rw [← hw5]; exact later_alloc (later_refl _) _
  have kr4 : Blk w4 w3.heap.size 42 (pairsV [(0, 0), (-5, 5)]).toArray := by rw [← hw4]; exact Blk.new _ _ _
  have kt5 : Blk w5 (w3.heap.size + 1) 103 (pairsV [(0, 1), (0, 2), (1, 0)]).toArray := by rw [← hs4, ← hw5]; exact Blk.new _ _ _
  have kr5 := kr4.later hL45
  have hL15 := Later.trans hL13 (Later.trans hL34 hL45)
  have hown5 := own_later2 Hown.out hL15
  have hL06 : Later W0 w6 := AppG.later (by rw [Hs0.out]; exact hap) (Later.trans hL01 hL15) (by rw [Hs0.out]; exact hown5)
  have hapo := hap.own
  rw [← Hs0.out] at hapo
  obtain ⟨A', c', hv', hrd⟩ := own_slice hapo
  subst hv'
  have hcp := own_cap hap.own
  have hno : ∀ b, (Value.slice (some ⟨w.heap.size + 1, 0, none⟩) 4 4).ownBlock = some b → b = w.heap.size + 1 := fun b e => by injection e with e; exact e.symm
  have hg := fun b (hb : b < w5.heap.size) (hn : b ≠ w.heap.size + 1) => hap.grown.block b hb (fun e => hn (hno b e.symm))
  have hs3 := hL13.size
  have hs1 := Hs1.out
  have kr6 : Blk w6 w3.heap.size 42 (pairsV [(0, 0), (-5, 5)]).toArray := Blk.of_eq (hg _ kr5.lt (by omega)) kr5
  have kt6 : Blk w6 (w3.heap.size + 1) 103 (pairsV [(0, 1), (0, 2), (1, 0)]).toArray := Blk.of_eq (hg _ kt5.lt (by omega)) kt5
  have kh5 := Hkr.out.later hL15
  have kh6 : Blk w6 w.heap.size 36 #[.int .i64 0, .int .i64 0, .slice none 0 0, .slice none 0 0, .slice none 0 0] := Blk.of_eq (hg _ kh5.lt (by omega)) kh5
  have Hr6 := hide (kr6.reads (size := 2) (n := 2) (xs := pairsV [(0, 0), (-5, 5)]) rfl fun j u hu => by simpa using hu)
  have Ht6 := hide (kt6.reads (size := 2) (n := 3) (xs := pairsV [(0, 1), (0, 2), (1, 0)]) rfl fun j u hu => by simpa using hu)
  have Hkh := hide kh6
  have hke := kh6.row #[.int .i64 60, .int .i64 gr, .slice (some ⟨w3.heap.size, 0, none⟩) 2 2, .slice (some ⟨w3.heap.size + 1, 0, none⟩) 3 3, .slice A' (4 + 1) c']
  have Hke := hide hke
  have Hrd := hide hrd
  have HL06 := hide hL06
  have Hcp := hide hcp
  have Hfr := hide (own_fresh (w0 := W0) (by rw [Hs0.out]; exact hap.own))
  have Hapo := hide hapo
  clear hap hapo hg hno kr6 kt6 kh6 kr4 kt5 kr5 kh5 hown5 hw4 hw5 hke hrd hL06 hs1 hcp
  go_wp2_with (refine wpList_store_row rfl _ _ _ rfl w.heap.size _ rfl rfl _ _ Hkh.out (by kernel_rfl) rfl (by simp [Value.oneCell']) ?_)
  have hs0 := Hs0.out
  have hk6 := ((Kept.refl w.heap.size w6).setRow #[.int .i64 60, .int .i64 gr, .slice (some ⟨w3.heap.size, 0, none⟩) 2 2, .slice (some ⟨w3.heap.size + 1, 0, none⟩) 3 3, .slice A' (4 + 1) c'])
  have hs1 := Hs1.out
  refine bodyPost_ret (results_cell_row (P := Try.prog) (fn := Try.f71) (p := 4) (ty := 36) (by kernel_rfl) _ _ w.heap.size _ _ _ _ rfl Hke.out Try.underlying36 (by kernel_rfl) (by kernel_rfl)) rfl ⟨_, _, _, _, _, _, rfl, later_setRow (Later.trans hL0 HL06.out) (Nat.le_refl _) _, ⟨?_, ?_, ?_⟩, by omega, by omega, Hcp.out, ?_, fun h => by cases h⟩
  · exact Reads.kept Hr6.out (by omega) (fun b o e => by injection e with e; injection e with e _; omega) hk6
  · exact Reads.kept Ht6.out (by omega) (fun b o e => by injection e with e; injection e with e _; omega) hk6
  · exact Reads.kept (show Reads w6 w6.heap.size 3 A' (4 + 1) (clipsV (fourClips ++ [x])) from by rw [clipsV_snoc]; exact Hrd.out) (by omega) (fun b o e => by have := (Hfr.out b o e).1; omega) hk6
  · rw [clipsV_snoc]; exact own_rebase (own_block Hapo.out (fun g hg => setRow_other w6 _ g _ (by have := (Hapo.out.lt g hg).1; omega))) (fun g hg => by have := (Hapo.out.lt g hg).1; omega)
set_option maxRecDepth 100000 in
set_option maxHeartbeats 1000000 in
theorem two0_calls (gr : Int) (w : World) :
    Calls Try.prog 71 #[.int .i64 gr, .slice none 0 0] w (TwoPost gr [] w) := by
  obtain ⟨W0, hW0⟩ : ∃ X, X = w.alloc (.cells #[.int .i64 0, .int .i64 0, .slice none 0 0, .slice none 0 0, .slice none 0 0] 36) := ⟨_, rfl⟩
  obtain ⟨W1, hW1⟩ : ∃ X, X = W0.alloc (.cells (clipsV fourClips).toArray 101) := ⟨_, rfl⟩
  have hs0 : W0.heap.size = w.heap.size + 1 := by rw [hW0]; simp
  have hL0 : Later w W0 := by rw [hW0]; exact later_alloc (later_refl _) _
  have hL01 : Later W0 W1 := by rw [hW1]; exact later_alloc (later_refl _) _
  have hL1 := Later.trans hL0 hL01
  have kr0 : Blk W0 w.heap.size 36 #[.int .i64 0, .int .i64 0, .slice none 0 0, .slice none 0 0, .slice none 0 0] := by rw [hW0]; exact Blk.new _ _ _
  have kr := kr0.later hL01
  have hown : W1.ownsRow (w.heap.size + 1) 101 3 (.slice (some ⟨w.heap.size + 1, 0, none⟩) 4 4) 4 (clipsV fourClips) := by
    have := World.ownsRow_lit (base := w.heap.size + 1) (e := 101) (size := 3) W0 (clipsV fourClips).toArray 4 (by omega) (by unfold maxLen; omega) rfl
    rw [hs0] at this
    rw [hW1]; exact this
  have HW0 := hide hW0
  have HW1 := hide hW1
  have Hown := hide hown
  have Hkr := hide kr
  have hs1 : W1.heap.size = w.heap.size + 2 := by rw [hW1]; simp [hs0]
  have Hs1 := hide hs1
  have Hs0 := hide hs0
  clear hW0 hW1 hown kr kr0 hs0 hs1
  go_enter Try.func71, Try.ntmps71
  go_upto_region 2 with fail
  rw [← HW0.out, show W0.alloc (.cells #[.int .i64 0, .int .i64 0, .int .i64 300, .int .i64 0, .int .i64 1, .int .i64 366, .int .i64 1, .int .i64 0, .int .i64 365, .int .i64 1, .int .i64 1, .int .i64 488] 101) = W1 from HW1.out.symm]
  go_wp2_with fail
  refine (lawBetween_calls 0 0 _).mono ?_
  rintro e w2 ⟨rfl, hL2⟩
  go_wp2_with fail
  refine (lawBetween_calls (-5) 5 _).mono ?_
  rintro e w3 ⟨rfl, hL3⟩
  have hL13 := Later.trans hL2 hL3
  have hbs : w.heap.size + 1 ≤ w3.heap.size := by have := Hs1.out; have := hL13.size; omega
  obtain ⟨w4, hw4⟩ : ∃ X, w3.alloc (.cells #[.int .i64 0, .int .i64 0, .int .i64 (-5), .int .i64 5] 42) = X := ⟨_, rfl⟩
  obtain ⟨w6, hw5⟩ : ∃ X, w4.alloc (.cells #[.int .i64 0, .int .i64 1, .int .i64 0, .int .i64 2, .int .i64 1, .int .i64 0] 103) = X := ⟨_, rfl⟩
  have Hw4 := hide hw4
  have Hw5 := hide hw5
  have hs4 : w4.heap.size = w3.heap.size + 1 := by rw [← hw4]; simp
  have hL34 : Later w3 w4 := by rw [← hw4]; exact later_alloc (later_refl _) _
  have hL45 : Later w4 w6 := by rw [← hw5]; exact later_alloc (later_refl _) _
  have kr4 : Blk w4 w3.heap.size 42 (pairsV [(0, 0), (-5, 5)]).toArray := by rw [← hw4]; exact Blk.new _ _ _
  have kt6 : Blk w6 (w3.heap.size + 1) 103 (pairsV [(0, 1), (0, 2), (1, 0)]).toArray := by rw [← hs4, ← hw5]; exact Blk.new _ _ _
  have kr6 := kr4.later hL45
  have hL16 := Later.trans hL13 (Later.trans hL34 hL45)
  have hL06 := Later.trans hL01 hL16
  have hapo := own_later2 Hown.out hL16
  rw [← Hs0.out] at hapo
  obtain ⟨A', c', hv', hrd⟩ := own_slice hapo
  injection hv' with e1 e2 e3
  subst e1 e3
  have hcp := own_cap hapo
  have hs3 := hL13.size
  have hs1 := Hs1.out
  have kh6 := Hkr.out.later hL16
  have Hr6 := hide (kr6.reads (size := 2) (n := 2) (xs := pairsV [(0, 0), (-5, 5)]) rfl fun j u hu => by simpa using hu)
  have Ht6 := hide (kt6.reads (size := 2) (n := 3) (xs := pairsV [(0, 1), (0, 2), (1, 0)]) rfl fun j u hu => by simpa using hu)
  have Hkh := hide kh6
  have hke := kh6.row #[.int .i64 60, .int .i64 gr, .slice (some ⟨w3.heap.size, 0, none⟩) 2 2, .slice (some ⟨w3.heap.size + 1, 0, none⟩) 3 3, .slice (some ⟨w.heap.size + 1, 0, none⟩) 4 4]
  have Hke := hide hke
  have Hrd := hide hrd
  have HL06 := hide hL06
  have Hcp := hide hcp
  have Hfr := hide (own_fresh (w0 := W0) (by rw [Hs0.out]; exact own_later2 Hown.out hL16))
  have Hapo := hide hapo
  clear hapo kr6 kt6 kh6 kr4 hw4 hw5 hke hrd hL06 hs1 hcp
  go_wp2_with (rw [Hw4.out, Hw5.out]; refine wpList_store_row rfl _ _ _ rfl w.heap.size _ rfl rfl _ _ Hkh.out (by kernel_rfl) rfl (by simp [Value.oneCell']) ?_)
  have hs0 := Hs0.out
  have hk6 := ((Kept.refl w.heap.size w6).setRow #[.int .i64 60, .int .i64 gr, .slice (some ⟨w3.heap.size, 0, none⟩) 2 2, .slice (some ⟨w3.heap.size + 1, 0, none⟩) 3 3, .slice (some ⟨w.heap.size + 1, 0, none⟩) 4 4])
  have hs1 := Hs1.out
  refine bodyPost_ret (results_cell_row (P := Try.prog) (fn := Try.f71) (p := 4) (ty := 36) (by kernel_rfl) _ _ w.heap.size _ _ _ _ rfl Hke.out Try.underlying36 (by kernel_rfl) (by kernel_rfl)) rfl ⟨_, _, _, _, _, _, rfl, later_setRow (Later.trans hL0 HL06.out) (Nat.le_refl _) _, ⟨?_, ?_, ?_⟩, by omega, by omega, (by simp), ?_, fun _ b o b' o' h h3 => by
    have hs3' := hs3
    rcases h with h | h <;> (injection h with h; injection h with h _; injection h3 with h3; injection h3 with h3 _; omega)⟩
  · exact Reads.kept Hr6.out (by omega) (fun b o e => by injection e with e; injection e with e _; omega) hk6
  · exact Reads.kept Ht6.out (by omega) (fun b o e => by injection e with e; injection e with e _; omega) hk6
  · exact Reads.kept (show Reads w6 w6.heap.size 3 (some ⟨w.heap.size + 1, 0, none⟩) 4 (clipsV (fourClips ++ [])) from by rw [← Hs0.out]; exact Hrd.out) (by omega) (fun b o e => by have := (Hfr.out b o e).1; omega) hk6
  · have ho : w6.ownsRow W0.heap.size 101 3 (.slice (some ⟨w.heap.size + 1, 0, none⟩) 4 4) 4 (clipsV fourClips) := by
      have := Hapo.out
      rw [hs0] at this ⊢; exact this
    exact own_rebase (own_block ho (fun g hg => setRow_other w6 _ g _ (by have := (ho.lt g hg).1; omega))) (fun g hg => by have := (ho.lt g hg).1; omega)
end Go.Proofs.Ytbkfnajpbhfneaa

/- The laws' late, turned: walks. -/
namespace Go.Proofs.Ytbkfnajpbhfneaa
open Go Go.RowKit
attribute [local go_sem] later_alloc2 later_alloc3 later_alloc4

theorem late_calls (w : World) : Calls Try.prog 73 #[] w fun e w' => e = .returned (.agg #[.int .i64 2, .int .i64 0, .int .i64 360]) ∧ Later w w' := by
  go_enter Try.func73, Try.ntmps73
  go_wp2_with fail
  refine bodyPost_ret (v := .agg #[.int .i64 2, .int .i64 0, .int .i64 360]) ?_ rfl ⟨rfl, ?_⟩
  · simp [results, Try.results73, go_sem]
  · (((repeat (first | exact (later_refl _) | refine later_drew ?_ | refine later_alloc ?_ _ | refine later_set ?_ _ (Nat.le_add_right _ _) _ | refine later_set ?_ _ (Nat.le_refl _) _)); done))
def turnedH : Hou := ⟨60, 5, [(0, 0), (-5, 5)], [(0, 1), (0, 2), (1, 0)], [⟨0, 0, 300⟩, ⟨1, 0, 365⟩, ⟨0, 1, 366⟩, ⟨1, 1, 488⟩]⟩
def TurnedPost (w : World) (e : Ending) (w' : World) : Prop :=
  ∃ A1 k1 A2 k2 A3 k3, e = .returned (.agg #[.int .i64 60, .int .i64 5, .slice A1 2 k1, .slice A2 3 k2, .slice A3 4 k3]) ∧ Later w w' ∧ CV w' turnedH A1 2 A2 3 A3 4 ∧ 2 ≤ k1 ∧ 3 ≤ k2 ∧ 4 ≤ k3
set_option maxRecDepth 100000 in
set_option maxHeartbeats 2000000 in
theorem turned_calls (w : World) : Calls Try.prog 72 #[] w (TurnedPost w) := by
  obtain ⟨w0, hw0⟩ : ∃ X, X = w.alloc (.cells #[.int .i64 0, .int .i64 0, .slice none 0 0, .slice none 0 0, .slice none 0 0] 36) := ⟨_, rfl⟩
  have hL0 : Later w w0 := by rw [hw0]; exact later_alloc (later_refl _) _
  have kr0 : Blk w0 w.heap.size 36 #[.int .i64 0, .int .i64 0, .slice none 0 0, .slice none 0 0, .slice none 0 0] := by rw [hw0]; exact Blk.new _ _ _
  have hs0 : w0.heap.size = w.heap.size + 1 := by rw [hw0]; simp
  have Hw0 := hide hw0
  have Hkr := hide kr0
  have Hs0 := hide hs0
  clear hw0 kr0 hs0
  go_enter Try.func72, Try.ntmps72
  go_upto_region 1 with fail
  rw [← Hw0.out]; clear Hw0
  go_wp2_with fail
  refine (two0_calls 5 w0).mono ?_
  rintro e w1 ⟨A1, k1, A2, k2, A3, k3, rfl, hL1, hcv, m1, m2, m3, hown, hap⟩
  have hap := hap rfl
  simp only [List.length_nil, Nat.add_zero] at m3 hown hcv ⊢
  obtain ⟨g, hge, cur, rfl, hgh, htk⟩ : ∃ g, w0.heap.size ≤ g ∧ ∃ cur : Array Value, A3 = some ⟨g, 0, none⟩ ∧ Blk w1 g 101 cur ∧ cur.toList.take 12 = clipsV fourClips := by
    rcases hown.2 with ⟨_, h⟩ | ⟨g, cap, cur, e, hge, hgh, _, _, _, htk⟩
    · omega
    · injection e with e _ _
      exact ⟨g, hge, cur, e, hgh, by simpa using htk⟩
  have hcur : ∀ j, j < 12 → cur[j]? = (clipsV fourClips)[j]? := fun j hj => by
    rw [← htk, List.getElem?_take_of_lt hj, Array.getElem?_toList]
  have hsz : 12 ≤ cur.size := by
    have := congrArg List.length htk
    rw [List.length_take, Array.length_toList] at this
    have h12 : (clipsV fourClips).length = 12 := rfl
    omega
  have Hsz := hide hsz
  have Hap := hide hap
  have Hnb := hide (show ∀ b o, (A1 = some ⟨b, o, none⟩ ∨ A2 = some ⟨b, o, none⟩) → b ≠ w.heap.size from fun b o h => by have := (hap b o g 0 h rfl).2; have := Hs0.out; omega)
  clear hsz
  obtain ⟨w2, hw2⟩ : ∃ X, X = w1.alloc (.cells #[.int .i64 60, .int .i64 5, .slice A1 2 k1, .slice A2 3 k2, .slice (some ⟨g, 0, none⟩) 4 k3] 36) := ⟨_, rfl⟩
  have hL12 : Later w1 w2 := by rw [hw2]; exact later_alloc (later_refl _) _
  have hL02 := Later.trans hL1 hL12
  have kh2 : Blk w2 w1.heap.size 36 #[.int .i64 60, .int .i64 5, .slice A1 2 k1, .slice A2 3 k2, .slice (some ⟨g, 0, none⟩) 4 k3] := by rw [hw2]; exact Blk.new _ _ _
  have hgh2 := hgh.later hL12
  have hg1 : g < w1.heap.size := hgh.lt
  have Hw2 := hide hw2
  go_upto_region 2 with fail
  rw [← Hw2.out]
  have hwd : Blk w2 g 101 cur := hgh2
  have hhd := kh2
  have c3 := (hwd.cell 3).trans (hcur 3 (by omega))
  have c4 := (hwd.cell 4).trans (hcur 4 (by omega))
  have c5 := (hwd.cell 5).trans (hcur 5 (by omega))
  have c6 := (hwd.cell 6).trans (hcur 6 (by omega))
  have c7 := (hwd.cell 7).trans (hcur 7 (by omega))
  have c8 := (hwd.cell 8).trans (hcur 8 (by omega))
  simp only [clipsV, fourClips, Cp.cells, List.flatMap_cons, List.flatMap_nil, List.append_nil, List.cons_append, List.nil_append, List.getElem?_cons_succ, List.getElem?_cons_zero] at c3 c4 c5 c6 c7 c8
  have f3 := hwd.frozen 3
  have f4 := hwd.frozen 4
  have f5 := hwd.frozen 5
  have f6 := hwd.frozen 6
  have f7 := hwd.frozen 7
  have f8 := hwd.frozen 8
  have h4 := hhd.cell 4
  simp only [List.getElem?_toArray, List.getElem?_cons_zero, List.getElem?_cons_succ] at h4
  have hne : w1.heap.size ≠ g := by omega
  have hne2 : g ≠ w1.heap.size := by omega
  have Hcur := hide hcur
  have Hcv := hide hcv
  have Hhd := hide hhd
  have Hwd := hide hwd
  clear hcur hcv hgh hgh2 kh2 hhd hwd hown htk hw2 hap
  have hS0 : w2.drew.cell? ⟨w1.heap.size, 4, none⟩ = some (.slice (some ⟨g, 0, none⟩) 4 k3) := h4
  refine wp_region_held_drew (S := fun X => X.cell? ⟨w1.heap.size, 4, none⟩ = some (.slice (some ⟨g, 0, none⟩) 4 k3)) (by kernel_rfl) hS0 (fun hS => ?_)
  refine wpAnyH_take (i := 0) (v := ?_) rfl (by kernel_rfl) (by kernel_rfl) (by kernel_rfl) (by intro _ _ _ h; first | exact h | exact absurd h.1 (by simp)) (Or.inl ⟨by rfl, ?_⟩) hS ?_; rotate_left; (focus (intro X hSX; (try dsimp only at hSX); go_simp; (try with_reducible rfl))); (try simp only [Act.put, List.setIfInBounds_toArray, List.set_cons_zero, List.set_cons_succ])
  refine wpAnyH_take (i := 1) (v := ?_) rfl (by kernel_rfl) (by kernel_rfl) (by kernel_rfl) (by intro _ _ _ h; first | exact h | exact absurd h.1 (by simp)) (Or.inl ⟨by rfl, ?_⟩) hS ?_; rotate_left; (focus (intro X hSX; (try dsimp only at hSX); go_simp; (try with_reducible rfl))); (try simp only [Act.put, List.setIfInBounds_toArray, List.set_cons_zero, List.set_cons_succ])
  refine wpAnyH_take (i := 2) (v := ?_) rfl (by kernel_rfl) (by kernel_rfl) (by kernel_rfl) (by intro _ _ _ h; first | exact h | exact absurd h.1 (by simp)) (Or.inl ⟨by rfl, ?_⟩) hS ?_; rotate_left; (focus (intro X hSX; (try dsimp only at hSX); go_simp; (try with_reducible rfl))); (try simp only [Act.put, List.setIfInBounds_toArray, List.set_cons_zero, List.set_cons_succ])
  refine wpAnyH_take (i := 3) (v := ?_) rfl (by kernel_rfl) (by kernel_rfl) (by kernel_rfl) (by intro _ _ _ h; first | exact h | exact absurd h.1 (by simp)) (Or.inl ⟨by rfl, ?_⟩) hS ?_; rotate_left; (focus (intro X hSX; (try dsimp only at hSX); go_simp; (try with_reducible rfl))); (try simp only [Act.put, List.setIfInBounds_toArray, List.set_cons_zero, List.set_cons_succ])
  refine wpAnyH_take (i := 4) (v := ?_) rfl (by kernel_rfl) (by kernel_rfl) (by kernel_rfl) (by intro _ _ _ h; first | exact h | exact absurd h.1 (by simp)) (Or.inl ⟨by rfl, ?_⟩) hS ?_; rotate_left; (focus (intro X hSX; (try dsimp only at hSX); go_simp; (try with_reducible rfl))); (try simp only [Act.put, List.setIfInBounds_toArray, List.set_cons_zero, List.set_cons_succ])
  refine wpAnyH_take (i := 5) (v := ?_) rfl (by kernel_rfl) (by kernel_rfl) (by kernel_rfl) (by intro _ _ _ h; first | exact h | exact absurd h.1 (by simp)) (Or.inl ⟨by rfl, ?_⟩) hS ?_; rotate_left; (focus (intro X hSX; (try dsimp only at hSX); go_simp; (try with_reducible rfl))); (try simp only [Act.put, List.setIfInBounds_toArray, List.set_cons_zero, List.set_cons_succ])
  refine wpAnyH_take (i := 6) (v := ?_) rfl (by kernel_rfl) (by kernel_rfl) (by kernel_rfl) (by intro _ _ _ h; first | exact h | exact absurd h.1 (by simp)) (Or.inl ⟨by rfl, ?_⟩) hS ?_; rotate_left; (focus (intro X hSX; (try dsimp only at hSX); go_simp; (try with_reducible rfl))); (try simp only [Act.put, List.setIfInBounds_toArray, List.set_cons_zero, List.set_cons_succ])
  refine wpAnyH_take (i := 8) (v := ?_) rfl (by kernel_rfl) (by kernel_rfl) (by kernel_rfl) (by intro _ _ _ h; first | exact h | exact absurd h.1 (by simp)) (Or.inl ⟨by rfl, ?_⟩) hS ?_; rotate_left; (focus (intro X hSX; (try dsimp only at hSX); go_simp; (try with_reducible rfl))); (try simp only [Act.put, List.setIfInBounds_toArray, List.set_cons_zero, List.set_cons_succ])
  refine wpAnyH_take (i := 9) (v := ?_) rfl (by kernel_rfl) (by kernel_rfl) (by kernel_rfl) (by intro _ _ _ h; first | exact h | exact absurd h.1 (by simp)) (Or.inl ⟨by rfl, ?_⟩) hS ?_; rotate_left; (focus (intro X hSX; (try dsimp only at hSX); go_simp; (try with_reducible rfl))); (try simp only [Act.put, List.setIfInBounds_toArray, List.set_cons_zero, List.set_cons_succ])
  refine wpAnyH_take (i := 10) (v := ?_) rfl (by kernel_rfl) (by kernel_rfl) (by kernel_rfl) (by intro _ _ _ h; first | exact h | exact absurd h.1 (by simp)) (Or.inl ⟨by rfl, ?_⟩) hS ?_; rotate_left; (focus (intro X hSX; (try dsimp only at hSX); go_simp; (try with_reducible rfl))); (try simp only [Act.put, List.setIfInBounds_toArray, List.set_cons_zero, List.set_cons_succ])
  refine wpAnyH_ready (rs := [7, 11]) (by kernel_rfl) (by simp) ?_
  refine AllReadyH.cons rfl (fun K hK => ?_) (AllReadyH.cons rfl (fun K hK => ?_) AllReadyH.nil)
  · go_simp
    refine hK.out _ _ hS (fun _ => ?_)
    clear hK K; (try simp only [Act.put, List.setIfInBounds_toArray, List.set_cons_zero, List.set_cons_succ])
    refine wpAnyH_ready (rs := [11]) (by kernel_rfl) (by simp) ?_; refine AllReadyH.cons rfl (fun K hK => ?_) AllReadyH.nil
    go_simp
    refine hK.out _ _ hS (fun _ => ?_)
    clear hK K; (try simp only [Act.put, List.setIfInBounds_toArray, List.set_cons_zero, List.set_cons_succ])
    refine wpAnyH_take (i := 12) (v := ?_) rfl (by kernel_rfl) (by kernel_rfl) (by kernel_rfl) (by intro _ _ _ h; first | exact h | exact absurd h.1 (by simp)) (Or.inl ⟨by rfl, ?_⟩) hS ?_; rotate_left; (focus (intro X hSX; (try dsimp only at hSX); go_simp; (try with_reducible rfl))); (try simp only [Act.put, List.setIfInBounds_toArray, List.set_cons_zero, List.set_cons_succ])
    refine wpAnyH_ready (rs := [13]) (by kernel_rfl) (by simp) ?_; refine AllReadyH.cons rfl (fun K hK => ?_) AllReadyH.nil
    go_simp
    refine hK.out _ _ ?_ (fun hS3 => ?_)
    · simp [*, World.cell?_setCell_far]
    clear hK K; (try simp only [Act.put, List.setIfInBounds_toArray, List.set_cons_zero, List.set_cons_succ])
    refine wpAnyH_take (i := 14) (v := ?_) rfl (by kernel_rfl) (by kernel_rfl) (by kernel_rfl) (by intro _ _ _ h; first | exact h | exact absurd h.1 (by simp)) (Or.inl ⟨by rfl, ?_⟩) hS3 ?_; rotate_left; (focus (intro X hSX; (try dsimp only at hSX); go_simp; (try with_reducible rfl))); (try simp only [Act.put, List.setIfInBounds_toArray, List.set_cons_zero, List.set_cons_succ])
    refine wpAnyH_ready (rs := [15]) (by kernel_rfl) (by simp) ?_; refine AllReadyH.cons rfl (fun K hK => ?_) AllReadyH.nil
    go_simp
    refine hK.out _ _ ?_ (fun _ => ?_)
    · simp [*, World.cell?_setCell_far]
    clear hK K; (try simp only [Act.put, List.setIfInBounds_toArray, List.set_cons_zero, List.set_cons_succ])
    refine wpAnyH_done (by kernel_rfl) ?_ _
    obtain ⟨w6, hw6⟩ : ∃ X, X = ((((((w2.setCell ⟨g, 3, none⟩ (.int .i64 1)).setCell ⟨g, 4, none⟩ (.int .i64 0)).setCell ⟨g, 5, none⟩ (.int .i64 365)).setCell ⟨g, 6, none⟩ (.int .i64 0)).setCell ⟨g, 7, none⟩ (.int .i64 1)).setCell ⟨g, 8, none⟩ (.int .i64 366)).drew := ⟨_, rfl⟩
    rw [← hw6]
    have hBut : But g w2 w6 := by
      rw [hw6]
      exact ((((((But.refl g w2).set_ _ _).set_ _ _).set_ _ _).set_ _ _).set_ _ _).set_ _ _ |>.trans (But.of_later (later_drew (later_refl _)))
    have hb6 := (((((Hwd.out.set_ 3 (.int .i64 1)).set_ 4 (.int .i64 0)).set_ 5 (.int .i64 365)).set_ 6 (.int .i64 0)).set_ 7 (.int .i64 1)).set_ 8 (.int .i64 366)
    have hb6' := hb6.later (later_drew (later_refl _))
    rw [← hw6] at hb6'
    have Hb6 := hide hb6'
    have Hbut := hide hBut
    have hL26 : Later w0 w6 := hBut.later hL02 hge
    clear hw6 hb6 hb6' hBut hS hS3 hS0 h4 c3 c4 c5 c6 c7 c8 f3 f4 f5 f6 f7 f8
    have kh6 := Hbut.out.blk Hhd.out hne
    have kr6 := Hbut.out.blk (Hkr.out.later hL02) (by have := Hs0.out; omega)
    have Hkh := hide kh6
    have Hk6 := hide kr6
    have hke := kr6.row #[.int .i64 60, .int .i64 5, .slice A1 2 k1, .slice A2 3 k2, .slice (some ⟨g, 0, none⟩) 4 k3]
    have Hke := hide hke
    clear kh6 kr6 hke
    go_wp2_with (first | (refine wpList_load_row rfl _ _ rfl w1.heap.size rfl _ _ _ _ Hkh.out Try.underlying36 rfl (by kernel_rfl) ?_) | (refine wpList_store_row rfl _ _ _ rfl w.heap.size _ rfl rfl _ _ Hk6.out (by kernel_rfl) rfl (by simp [Value.oneCell']) ?_))
    have hk6 := ((Kept.refl w.heap.size w6).setRow #[.int .i64 60, .int .i64 5, .slice A1 2 k1, .slice A2 3 k2, .slice (some ⟨g, 0, none⟩) 4 k3])
    have hkg : Kept g w2 w6 := ⟨Hbut.out.size, Hbut.out.block⟩
    have hs0 := Hs0.out
    have hsw := hL26.size
    refine bodyPost_ret (results_cell_row (P := Try.prog) (fn := Try.f72) (p := 0) (ty := 36) (by kernel_rfl) _ _ w.heap.size _ _ _ _ rfl Hke.out Try.underlying36 (by kernel_rfl) (by kernel_rfl)) rfl ⟨_, _, _, _, _, _, rfl, later_setRow (Later.trans hL0 hL26) (Nat.le_refl _) _, ⟨?_, ?_, ?_⟩, m1, m2, m3⟩
    · exact Reads.kept (Reads.kept (Reads.later Hcv.out.ck hL12) (by omega) (fun b o e => (Hap.out b o g 0 (.inl e) rfl).1) hkg) (by omega) (fun b o e => Hnb.out b o (.inl e)) hk6
    · exact Reads.kept (Reads.kept (Reads.later Hcv.out.tk hL12) (by omega) (fun b o e => (Hap.out b o g 0 (.inr e) rfl).1) hkg) (by omega) (fun b o e => Hnb.out b o (.inr e)) hk6
    · refine Reads.kept (show Reads w6 w6.heap.size 3 (some ⟨g, 0, none⟩) 4 (clipsV turnedH.clips) from Hb6.out.reads rfl fun j u hu => ?_) (by omega) (fun b o e => by injection e with e; injection e with e _; omega) hk6
      have hj : j < 12 := (List.getElem?_eq_some_iff.1 hu).1
      have hsz : 12 ≤ cur.size := Hsz.out
      rw [← hu]
      simp only [Array.getElem?_setIfInBounds]
      have hc := Hcur.out j hj
      rcases (by omega : j = 0 ∨ j = 1 ∨ j = 2 ∨ j = 3 ∨ j = 4 ∨ j = 5 ∨ j = 6 ∨ j = 7 ∨ j = 8 ∨ j = 9 ∨ j = 10 ∨ j = 11) with rfl | rfl | rfl | rfl | rfl | rfl | rfl | rfl | rfl | rfl | rfl | rfl <;> simp [Array.size_setIfInBounds, hc, clipsV, fourClips, turnedH, Cp.cells] <;> omega
  · go_simp
    refine hK.out _ _ hS (fun _ => ?_)
    clear hK K; (try simp only [Act.put, List.setIfInBounds_toArray, List.set_cons_zero, List.set_cons_succ])
    refine wpAnyH_ready (rs := [7]) (by kernel_rfl) (by simp) ?_; refine AllReadyH.cons rfl (fun K hK => ?_) AllReadyH.nil
    go_simp
    refine hK.out _ _ hS (fun _ => ?_)
    clear hK K; (try simp only [Act.put, List.setIfInBounds_toArray, List.set_cons_zero, List.set_cons_succ])
    refine wpAnyH_take (i := 12) (v := ?_) rfl (by kernel_rfl) (by kernel_rfl) (by kernel_rfl) (by intro _ _ _ h; first | exact h | exact absurd h.1 (by simp)) (Or.inl ⟨by rfl, ?_⟩) hS ?_; rotate_left; (focus (intro X hSX; (try dsimp only at hSX); go_simp; (try with_reducible rfl))); (try simp only [Act.put, List.setIfInBounds_toArray, List.set_cons_zero, List.set_cons_succ])
    refine wpAnyH_ready (rs := [13]) (by kernel_rfl) (by simp) ?_; refine AllReadyH.cons rfl (fun K hK => ?_) AllReadyH.nil
    go_simp
    refine hK.out _ _ ?_ (fun hS3 => ?_)
    · simp [*, World.cell?_setCell_far]
    clear hK K; (try simp only [Act.put, List.setIfInBounds_toArray, List.set_cons_zero, List.set_cons_succ])
    refine wpAnyH_take (i := 14) (v := ?_) rfl (by kernel_rfl) (by kernel_rfl) (by kernel_rfl) (by intro _ _ _ h; first | exact h | exact absurd h.1 (by simp)) (Or.inl ⟨by rfl, ?_⟩) hS3 ?_; rotate_left; (focus (intro X hSX; (try dsimp only at hSX); go_simp; (try with_reducible rfl))); (try simp only [Act.put, List.setIfInBounds_toArray, List.set_cons_zero, List.set_cons_succ])
    refine wpAnyH_ready (rs := [15]) (by kernel_rfl) (by simp) ?_; refine AllReadyH.cons rfl (fun K hK => ?_) AllReadyH.nil
    go_simp
    refine hK.out _ _ ?_ (fun _ => ?_)
    · simp [*, World.cell?_setCell_far]
    clear hK K; (try simp only [Act.put, List.setIfInBounds_toArray, List.set_cons_zero, List.set_cons_succ])
    refine wpAnyH_done (by kernel_rfl) ?_ _
    obtain ⟨w6, hw6⟩ : ∃ X, X = ((((((w2.setCell ⟨g, 3, none⟩ (.int .i64 1)).setCell ⟨g, 4, none⟩ (.int .i64 0)).setCell ⟨g, 5, none⟩ (.int .i64 365)).setCell ⟨g, 6, none⟩ (.int .i64 0)).setCell ⟨g, 7, none⟩ (.int .i64 1)).setCell ⟨g, 8, none⟩ (.int .i64 366)).drew := ⟨_, rfl⟩
    rw [← hw6]
    have hBut : But g w2 w6 := by
      rw [hw6]
      exact ((((((But.refl g w2).set_ _ _).set_ _ _).set_ _ _).set_ _ _).set_ _ _).set_ _ _ |>.trans (But.of_later (later_drew (later_refl _)))
    have hb6 := (((((Hwd.out.set_ 3 (.int .i64 1)).set_ 4 (.int .i64 0)).set_ 5 (.int .i64 365)).set_ 6 (.int .i64 0)).set_ 7 (.int .i64 1)).set_ 8 (.int .i64 366)
    have hb6' := hb6.later (later_drew (later_refl _))
    rw [← hw6] at hb6'
    have Hb6 := hide hb6'
    have Hbut := hide hBut
    have hL26 : Later w0 w6 := hBut.later hL02 hge
    clear hw6 hb6 hb6' hBut hS hS3 hS0 h4 c3 c4 c5 c6 c7 c8 f3 f4 f5 f6 f7 f8
    have kh6 := Hbut.out.blk Hhd.out hne
    have kr6 := Hbut.out.blk (Hkr.out.later hL02) (by have := Hs0.out; omega)
    have Hkh := hide kh6
    have Hk6 := hide kr6
    have hke := kr6.row #[.int .i64 60, .int .i64 5, .slice A1 2 k1, .slice A2 3 k2, .slice (some ⟨g, 0, none⟩) 4 k3]
    have Hke := hide hke
    clear kh6 kr6 hke
    go_wp2_with (first | (refine wpList_load_row rfl _ _ rfl w1.heap.size rfl _ _ _ _ Hkh.out Try.underlying36 rfl (by kernel_rfl) ?_) | (refine wpList_store_row rfl _ _ _ rfl w.heap.size _ rfl rfl _ _ Hk6.out (by kernel_rfl) rfl (by simp [Value.oneCell']) ?_))
    have hk6 := ((Kept.refl w.heap.size w6).setRow #[.int .i64 60, .int .i64 5, .slice A1 2 k1, .slice A2 3 k2, .slice (some ⟨g, 0, none⟩) 4 k3])
    have hkg : Kept g w2 w6 := ⟨Hbut.out.size, Hbut.out.block⟩
    have hs0 := Hs0.out
    have hsw := hL26.size
    refine bodyPost_ret (results_cell_row (P := Try.prog) (fn := Try.f72) (p := 0) (ty := 36) (by kernel_rfl) _ _ w.heap.size _ _ _ _ rfl Hke.out Try.underlying36 (by kernel_rfl) (by kernel_rfl)) rfl ⟨_, _, _, _, _, _, rfl, later_setRow (Later.trans hL0 hL26) (Nat.le_refl _) _, ⟨?_, ?_, ?_⟩, m1, m2, m3⟩
    · exact Reads.kept (Reads.kept (Reads.later Hcv.out.ck hL12) (by omega) (fun b o e => (Hap.out b o g 0 (.inl e) rfl).1) hkg) (by omega) (fun b o e => Hnb.out b o (.inl e)) hk6
    · exact Reads.kept (Reads.kept (Reads.later Hcv.out.tk hL12) (by omega) (fun b o e => (Hap.out b o g 0 (.inr e) rfl).1) hkg) (by omega) (fun b o e => Hnb.out b o (.inr e)) hk6
    · refine Reads.kept (show Reads w6 w6.heap.size 3 (some ⟨g, 0, none⟩) 4 (clipsV turnedH.clips) from Hb6.out.reads rfl fun j u hu => ?_) (by omega) (fun b o e => by injection e with e; injection e with e _; omega) hk6
      have hj : j < 12 := (List.getElem?_eq_some_iff.1 hu).1
      have hsz : 12 ≤ cur.size := Hsz.out
      rw [← hu]
      simp only [Array.getElem?_setIfInBounds]
      have hc := Hcur.out j hj
      rcases (by omega : j = 0 ∨ j = 1 ∨ j = 2 ∨ j = 3 ∨ j = 4 ∨ j = 5 ∨ j = 6 ∨ j = 7 ∨ j = 8 ∨ j = 9 ∨ j = 10 ∨ j = 11) with rfl | rfl | rfl | rfl | rfl | rfl | rfl | rfl | rfl | rfl | rfl | rfl <;> simp [Array.size_setIfInBounds, hc, clipsV, fourClips, turnedH, Cp.cells] <;> omega
end Go.Proofs.Ytbkfnajpbhfneaa

/- The program's Leave: walk. -/
namespace Go.Proofs.Ytbkfnajpbhfneaa
open Go Go.RowKit
attribute [local go_sem] later_alloc2 later_alloc3 later_alloc4
def LeavePost (c : Hou) (w : World) (e : Ending) (w' : World) : Prop :=
  ∃ A n k, e = .returned (.tuple #[.slice A n k, .int .i64 (fault c)]) ∧ Later w w' ∧ RI w' A n (leaveOut c) ∧ n ≤ k

set_option maxRecDepth 100000 in
set_option maxHeartbeats 1000000 in
theorem LeaveP_calls {A1 A2 A3 : Option Addr} {n1 k1 n2 k2 n3 k3 : Nat} {c : Hou} (w : World) (hc : CV w c A1 n1 A2 n2 A3 n3) (hn1 : n1 ≤ 1000) (hn2 : n2 ≤ 1000) (hn3 : n3 ≤ 1000) :
    Calls Try.prog 45 #[(.agg #[.int .i64 c.hour, .int .i64 c.grace, .slice A1 n1 k1, .slice A2 n2 k2, .slice A3 n3 k3])] w fun e w' => LeavePost c w e w' := by
  obtain ⟨w0, hw0⟩ : ∃ W, W = (w.alloc (.cells #[.int .i64 c.hour, .int .i64 c.grace, .slice A1 n1 k1, .slice A2 n2 k2, .slice A3 n3 k3] 36)) := ⟨_, rfl⟩; have hbox : ∀ W, Later w0 W → ∀ i, W.cell? ⟨w.heap.size, i, none⟩ = #[.int .i64 c.hour, .int .i64 c.grace, .slice A1 n1 k1, .slice A2 n2 k2, .slice A3 n3 k3][i]? := (by rw [hw0]; exact box_cells w #[.int .i64 c.hour, .int .i64 c.grace, .slice A1 n1 k1, .slice A2 n2 k2, .slice A3 n3 k3] 36); have hL0 : Later w w0 := (by rw [hw0]; simp); have hc0 := hc.later hL0; have Hw0 := hide hw0; clear hw0
  obtain ⟨q, hq⟩ : ∃ q, fault c = q := ⟨_, rfl⟩
  have hck := CheckHouse_eq (k1 := k1) (k2 := k2) (k3 := k3) w0 hc0 hq hn1 hn2 hn3
  by_cases hf : q = 0
  · subst hf
    have ok := okH_of_fault hq
    have hll := hc.cp.len
    have hl5 := ok.n3
    have hn5 : n3 ≤ 10 := by omega
    have kb : Blk w0 w.heap.size 36 #[.int .i64 c.hour, .int .i64 c.grace, .slice A1 n1 k1, .slice A2 n2 k2, .slice A3 n3 k3] := by rw [Hw0.out]; exact Blk.new _ _ _
    have Hll := hide hll
    have Hq := hide hq
    clear hll hq
    go_enter Try.func45, Try.ntmps45
    go_wp2_with fail
    rw [← Hw0.out]; clear Hw0
    go_step3
    go_wp2_with fail
    refine hck.mono ?_
    rintro e w1 ⟨rfl, hL1⟩
    have hc1 := hc0.later hL1
    have kb1 := kb.later hL1
    have hwn : IntKind.i64.wrap ((n3 : Int) + 1) = (n3 : Int) + 1 := IntWalk.i64_in _ (by omega)
    obtain ⟨bf, hbf⟩ : ∃ b, b = w1.heap.size := ⟨_, rfl⟩
    obtain ⟨W0, hW0⟩ : ∃ X, X = (w1.alloc (.cells #[.slice none 0 0] 47)).alloc (.cells #[.func (.func 99) #[] #[.pointer (some ⟨w1.heap.size, 0, none⟩), .pointer (some ⟨w.heap.size, 0, none⟩), .pointer (some ⟨w1.heap.size + 1, 0, none⟩)]] 132) := ⟨_, rfl⟩
    have hLW0 : Later w1 W0 := by rw [hW0]; exact later_alloc (later_alloc (later_refl _) _) _
    have kf : Blk W0 w1.heap.size 47 #[.slice none 0 0] := by rw [hW0]; exact (Blk.new _ _ _).alloc _
    have kl : Blk W0 (w1.heap.size + 1) 132 #[.func (.func 99) #[] #[.pointer (some ⟨w1.heap.size, 0, none⟩), .pointer (some ⟨w.heap.size, 0, none⟩), .pointer (some ⟨w1.heap.size + 1, 0, none⟩)]] := by
      rw [hW0]
      have := Blk.new (w1.alloc (.cells #[.slice none 0 0] 47)) 132 #[.func (.func 99) #[] #[.pointer (some ⟨w1.heap.size, 0, none⟩), .pointer (some ⟨w.heap.size, 0, none⟩), .pointer (some ⟨w1.heap.size + 1, 0, none⟩)]]
      rw [World.size_alloc] at this; exact this
    have HW0 := hide hW0
    clear hW0
    go_wp2_with fail
    rw [← HW0.out]
    have hlv := leave_in (bc := w.heap.size) (bf := w1.heap.size) (bl := w1.heap.size + 1) (k1 := k1) (k2 := k2) (k3 := k3) hc1 ok kb1 (Nat.le_refl _) (Nat.lt_succ_self _) hn5
    have Hlv := hide hlv
    have hbx4 : ∀ W, Later w1 W → W.cell? ⟨w.heap.size, 4, none⟩ = some (.slice A3 n3 k3) := fun W hW => kb1.cells_later W hW 4
    have hbflt := kf.lt
    clear hlv hbox
    go_step3
    go_wp2_with fail
    go_loopw [7, 18] (fun _ i wr => ∃ j : Nat, j ≤ n3 + 1 ∧ i = .int .i64 j ∧ But w1.heap.size W0 wr ∧ (∃ v, Blk wr w1.heap.size 47 #[v]) ∧ Hid (∀ t, t < j → leaveGo c n3 t 0 [] = none)) (fun _ i _ => n3 + 1 - (intOf i).toNat)
    case atStart => exact ⟨0, Nat.zero_le _, rfl, But.refl _ _, ⟨_, kf⟩, fun t h => absurd h (Nat.not_lt_zero _)⟩
    case round =>
      obtain ⟨j, hj, rfl, hB, ⟨v0, hfv⟩, Hno⟩ := hrel
      have hL1r := hB.later hLW0 (Nat.le_refl _)
      have hkl := hB.blk kl (by omega)
      have l0 := hkl.cell 0
      simp only [List.getElem?_toArray, List.getElem?_cons_zero, List.getElem?_cons_succ] at l0
      by_cases hlt : j < n3 + 1
      · have hi1 : (j : Int) < (n3 : Int) + 1 := by omega
        obtain ⟨r, hr⟩ : ∃ r, leaveGo c n3 j 0 [] = r := ⟨_, rfl⟩
        have hcall := Hlv.out j 0 [] none 0 0 wr hL1r hkl ⟨v0, hfv⟩ RI.nil (Nat.le_refl _) (fun b o e => by cases e) (by omega) (by omega)
        rw [hr] at hcall
        have Hr := hide hr
        have Hcall := hide hcall
        have Hfv := hide hfv
        clear hr hcall hfv hkl
        cases r with
        | none =>
          go_wp2_with fail
          refine Hcall.out.mono ?_
          rintro e w4 ⟨hB4, rfl, v4, hbk4⟩
          go_wp2_with fail
          go_roundw
          case rel =>
            refine ⟨j + 1, hlt, by go_num, hB.trans hB4, ⟨v4, hbk4⟩, fun t ht => ?_⟩
            rcases Nat.lt_or_ge t j with h3 | h3
            · exact Hno.out t h3
            · have : t = j := by omega
              subst this; exact Hr.out
          case measure => simp [intOf]; omega
        | some x =>
          have hlo : leaveOut c = x := by
            unfold leaveOut leaveP
            rw [if_pos Hq.out, ← Hll.out, findSome_range_some _ _ _ j x (Nat.zero_le _) (by omega) Hr.out fun t _ ht => Hno.out t ht]
            rfl
          have Hlo := hide hlo
          clear hlo
          go_wp2_with fail
          refine Hcall.out.mono ?_
          rintro e w4 ⟨hB4, rfl, A4, n4, k4, hbk4, hri4, hk4, hap4⟩
          have f0 := hbk4.cell 0
          simp only [List.getElem?_toArray, List.getElem?_cons_zero, List.getElem?_cons_succ] at f0
          have hfin := Later.trans hL0 (Later.trans hL1 (hB4.later hL1r (Nat.le_refl _)))
          clear hbk4
          go_wp2_with fail
          rw [Exit.noGoto_ret]
          refine bodyPost_ret (v := .tuple #[.slice A4 n4 k4, .int .i64 0]) ?_ rfl ⟨A4, n4, k4, by rw [Hq.out], hfin, by rw [Hlo.out]; exact hri4, hk4⟩
          simp [results, Try.results45, go_sem]
      · have hbad := leaveGo_last ok
        rw [← Hll.out, Hno.out n3 (by omega)] at hbad
        exact absurd rfl hbad
  · have hqb : (q != 0) = true := by simpa using hf
    have hfo : leaveOut c = [] := by unfold leaveOut; rw [hq, if_neg hf]
    have Hfo := hide hfo
    have Hf := hide hf
    have Hq := hide hq
    clear hf hq hfo
    go_enter Try.func45, Try.ntmps45
    go_wp2_with fail
    rw [← Hw0.out]; clear Hw0
    go_step3
    go_wp2_with fail
    refine hck.mono ?_
    rintro e w1 ⟨rfl, hL1⟩
    go_wp2_with fail
    rw [Exit.noGoto_ret]
    refine bodyPost_ret (v := .tuple #[.slice none 0 0, .int .i64 q]) ?_ rfl ⟨none, 0, 0, by rw [Hq.out], Later.trans hL0 hL1, by rw [Hfo.out]; exact RI.nil, Nat.le_refl _⟩
    simp [results, Try.results45, go_sem]
end Go.Proofs.Ytbkfnajpbhfneaa

/- awake's examples. -/
namespace Go.Proofs.Ytbkfnajpbhfneaa
open Go Go.RowKit
def lateC : Cp := ⟨2, 0, 360⟩
theorem ex_playErr : playErr (twoH 5 []) [0, 3] = 0 := by kernel_rfl
theorem ex_playL : playL (twoH 5 []) [0, 3] = [300, 363, 365, 485] := by kernel_rfl
theorem ex_asked5 : askedErr (twoH 5 []) 0 = 0 := by kernel_rfl
theorem ex_asked3 : askedErr (twoH 3 []) 0 = 0 := by kernel_rfl
theorem ex_asked0 : askedErr (twoH 0 []) 0 = 0 := by kernel_rfl
theorem ex_clocks : clocksOut (twoH 5 []) = [(0, 0), (1, 5)] := by kernel_rfl
theorem ex_hours : hoursOut (twoH 3 []) = (1, 2) :: (hoursOut (twoH 3 [])).tail := by kernel_rfl
theorem ex_hoursL : (hoursOut (twoH 3 [])).length = 3 := by kernel_rfl
theorem ex_long : longOut (twoH 0 []) = [1, 3, 2] := by kernel_rfl
theorem ex_clash : clashOut turnedH 0 1 = 3 := by kernel_rfl
theorem ex_clashE : askedErr turnedH (clashDue turnedH 0 1) = 0 := by kernel_rfl
theorem ex_paid : paidOut (twoH 3 []) = 3 := by kernel_rfl
theorem ex_free : freeOut (twoH 5 []) 0 = (483, 487) := by kernel_rfl
theorem ex_freeE : askedErr (twoH 5 []) (freeDue (twoH 5 []) 0) = 0 := by kernel_rfl
theorem ex_look : lookOut (twoH 5 []) = (1, 1) := by kernel_rfl
theorem ex_lookE : lookErr (twoH 5 []) = 0 := by kernel_rfl
theorem ex_first : firstOut (twoH 5 [lateC]) = (4, 0) := by kernel_rfl
theorem ex_leave : leaveOut (twoH 5 [lateC]) = [4] := by kernel_rfl
theorem ex_fault : fault (twoH 5 [lateC]) = 0 := by kernel_rfl

def IsTwo (g : Int) (more : List Cp) (W : World) (v : Value) : Prop :=
  ∃ A1 k1 A2 k2 A3 k3, v = .agg #[.int .i64 60, .int .i64 g, .slice A1 2 k1, .slice A2 3 k2, .slice A3 (4 + more.length) k3] ∧ CV W (twoH g more) A1 2 A2 3 A3 (4 + more.length) ∧ 2 ≤ k1 ∧ 3 ≤ k2 ∧ 4 + more.length ≤ k3
theorem IsTwo.later {g : Int} {more : List Cp} {W X : World} {v : Value} (h : IsTwo g more W v) (k : Later W X) : IsTwo g more X v := by
  obtain ⟨A1, k1, A2, k2, A3, k3, e, hc, h1⟩ := h
  exact ⟨A1, k1, A2, k2, A3, k3, e, hc.later k, h1⟩
def IsInts (l : List Int) (W : World) (v : Value) : Prop := ∃ A k, v = .slice A l.length k ∧ RI W A l.length l
theorem IsInts.later {l : List Int} {W X : World} {v : Value} (h : IsInts l W v) (k : Later W X) : IsInts l X v := by
  obtain ⟨A, n, e, hr⟩ := h
  exact ⟨A, n, e, hr.later k⟩
def IsPairs (l : List (Int × Int)) (W : World) (v : Value) : Prop := ∃ A k, v = .slice A l.length k ∧ RP W A l.length l
theorem IsPairs.later {l : List (Int × Int)} {W X : World} {v : Value} (h : IsPairs l W v) (k : Later W X) : IsPairs l X v := by
  obtain ⟨A, n, e, hr⟩ := h
  exact ⟨A, n, e, hr.later k⟩
theorem two0_is (g : Int) (w : World) : Calls Try.prog 71 #[.int .i64 g, .slice none 0 0] w fun e w' => ∃ v, e = .returned v ∧ Later w w' ∧ IsTwo g [] w' v :=
  (two0_calls g w).mono fun _ _ ⟨A1, k1, A2, k2, A3, k3, e, hL, hc, h1, h2, h3, _⟩ => ⟨_, e, hL, A1, k1, A2, k2, A3, k3, rfl, hc, h1, h2, h3⟩
theorem two1_is (g : Int) (w : World) : Calls Try.prog 71 #[.int .i64 g, .slice (some ⟨w.heap.size, 0, none⟩) 1 1] (w.alloc (.cells #[.int .i64 2, .int .i64 0, .int .i64 360] 101)) fun e w' => ∃ v, e = .returned v ∧ Later w w' ∧ IsTwo g [lateC] w' v :=
  (two1_calls g lateC w.heap.size _ (Blk.new _ _ _)).mono fun _ _ ⟨A1, k1, A2, k2, A3, k3, e, hL, hc, h1, h2, h3, _⟩ => ⟨_, e, later_of_alloc hL, A1, k1, A2, k2, A3, k3, rfl, hc, h1, h2, h3⟩
def IsTurned (W : World) (v : Value) : Prop :=
  ∃ A1 k1 A2 k2 A3 k3, v = .agg #[.int .i64 60, .int .i64 5, .slice A1 2 k1, .slice A2 3 k2, .slice A3 4 k3] ∧ CV W turnedH A1 2 A2 3 A3 4
theorem turned_is (w : World) : Calls Try.prog 72 #[] w fun e w' => ∃ v, e = .returned v ∧ Later w w' ∧ IsTurned w' v :=
  (turned_calls w).mono fun _ _ ⟨A1, k1, A2, k2, A3, k3, e, hL, hc, _⟩ => ⟨_, e, hL, A1, k1, A2, k2, A3, k3, rfl, hc⟩
section
variable {W : World} {v : Value}
theorem play_is (w : World) (h : IsTwo 5 [] w v) : Calls Try.prog 57 #[v, .slice (some ⟨w.heap.size, 0, none⟩) 2 2] (w.alloc (.cells #[.int .i64 0, .int .i64 3] 3)) fun e w' => ∃ r, e = .returned (.tuple #[r, .int .i64 0]) ∧ Later w w' ∧ IsInts [300, 363, 365, 485] w' r := by
  obtain ⟨A1, k1, A2, k2, A3, k3, rfl, hc, h1, h2, h3⟩ := h
  have hr : RI (w.alloc (.cells #[.int .i64 0, .int .i64 3] 3)) (some ⟨w.heap.size, 0, none⟩) 2 [0, 3] := (Blk.new _ _ _).reads (xs := ints [0, 3]) rfl fun j u hu => by simpa [ints] using hu
  refine (PlayP_calls (c := twoH 5 []) _ (hc.later (later_alloc (later_refl _) _)) hr (by omega) (by omega) (by simp) (by omega)).mono fun e w' h => ?_
  obtain ⟨A, k, e1, hL, hr⟩ := h
  rw [ex_playL] at hr e1
  rw [ex_playErr] at e1
  exact ⟨_, e1, later_of_alloc hL, A, k, rfl, hr⟩
theorem clocks_is (h : IsTwo 5 [] W v) : Calls Try.prog 24 #[v] W fun e w' => ∃ r, e = .returned (.tuple #[r, .int .i64 0]) ∧ Later W w' ∧ IsPairs [(0, 0), (1, 5)] w' r := by
  obtain ⟨A1, k1, A2, k2, A3, k3, rfl, hc, h1, h2, h3⟩ := h
  refine (ClocksP_calls (c := twoH 5 []) W hc (by omega) (by omega) (by simp)).mono fun e w' h => ?_
  obtain ⟨A, n, k, e1, hL, hr⟩ := h
  rw [ex_clocks] at hr
  rw [ex_asked5] at e1
  have hn : n = 2 := hr.len
  subst hn
  exact ⟨_, e1, hL, A, k, rfl, hr⟩
theorem hours_is (h : IsTwo 3 [] W v) : Calls Try.prog 26 #[v] W fun e w' => ∃ r, e = .returned (.tuple #[r, .int .i64 0]) ∧ Later W w' ∧ IsPairs (hoursOut (twoH 3 [])) w' r := by
  obtain ⟨A1, k1, A2, k2, A3, k3, rfl, hc, h1, h2, h3⟩ := h
  refine (HoursP_calls (c := twoH 3 []) W hc (by omega) (by omega) (by simp)).mono fun e w' h => ?_
  obtain ⟨A, n, k, e1, hL, hr⟩ := h
  rw [ex_asked3] at e1
  have hn := hr.len
  subst hn
  exact ⟨_, e1, hL, A, k, rfl, hr⟩
theorem long_is (h : IsTwo 0 [] W v) : Calls Try.prog 31 #[v] W fun e w' => ∃ r, e = .returned (.tuple #[r, .int .i64 0]) ∧ Later W w' ∧ IsInts [1, 3, 2] w' r := by
  obtain ⟨A1, k1, A2, k2, A3, k3, rfl, hc, h1, h2, h3⟩ := h
  refine (LongP_calls (c := twoH 0 []) W hc (by omega) (by omega) (by simp)).mono fun e w' h => ?_
  obtain ⟨A, n, k, e1, hL, hr⟩ := h
  rw [ex_long] at hr
  rw [ex_asked0] at e1
  have hn : n = 3 := hr.len
  subst hn
  exact ⟨_, e1, hL, A, k, rfl, hr⟩
theorem clash_is (h : IsTurned W v) : Calls Try.prog 35 #[v, .int .i64 0, .int .i64 1] W fun e w' => e = .returned (.tuple #[.int .i64 3, .int .i64 0]) ∧ Later W w' := by
  obtain ⟨A1, k1, A2, k2, A3, k3, rfl, hc⟩ := h
  have := ClashP_calls (k1 := k1) (k2 := k2) (k3 := k3) (c := turnedH) (a := 0) (b := 1) W hc (by omega) (by omega) (by omega)
  rw [ex_clash, ex_clashE] at this
  exact this
theorem paid_is (h : IsTwo 3 [] W v) : Calls Try.prog 32 #[v] W fun e w' => e = .returned (.tuple #[.int .i64 3, .int .i64 0]) ∧ Later W w' := by
  obtain ⟨A1, k1, A2, k2, A3, k3, rfl, hc, _⟩ := h
  have := PaidP_calls (k1 := k1) (k2 := k2) (k3 := k3) (c := twoH 3 []) W hc (by omega) (by omega) (by simp)
  rw [ex_paid, ex_asked3] at this
  exact this
theorem free_is (h : IsTwo 5 [] W v) : Calls Try.prog 39 #[v, .int .i64 0] W fun e w' => e = .returned (.tuple #[.agg #[.int .i64 483, .int .i64 487], .int .i64 0]) ∧ Later W w' := by
  obtain ⟨A1, k1, A2, k2, A3, k3, rfl, hc, _⟩ := h
  have := FreeP_calls (k1 := k1) (k2 := k2) (k3 := k3) (c := twoH 5 []) (tub := 0) W hc (by omega) (by omega) (by simp)
  rw [ex_free, ex_freeE] at this
  exact this
theorem look_is (h : IsTwo 5 [] W v) : Calls Try.prog 42 #[v] W fun e w' => e = .returned (.tuple #[.int .i64 1, .int .i64 1, .int .i64 0]) ∧ Later W w' := by
  obtain ⟨A1, k1, A2, k2, A3, k3, rfl, hc, _⟩ := h
  have := LookP_calls (k1 := k1) (k2 := k2) (k3 := k3) (c := twoH 5 []) W hc (by omega) (by omega) (by simp)
  rw [ex_look, ex_lookE] at this
  exact this
theorem first_is (h : IsTwo 5 [lateC] W v) : Calls Try.prog 44 #[v] W fun e w' => e = .returned (.tuple #[.int .i64 4, .int .i64 0]) ∧ Later W w' := by
  obtain ⟨A1, k1, A2, k2, A3, k3, rfl, hc, _, _, hk⟩ := h
  have := FirstP_calls (k1 := k1) (k2 := k2) (k3 := k3) (c := twoH 5 [lateC]) W hc (by omega) (by omega) (by simp) hk
  rw [ex_first] at this
  exact this
theorem leave_is (h : IsTwo 5 [lateC] W v) : Calls Try.prog 45 #[v] W fun e w' => ∃ r, e = .returned (.tuple #[r, .int .i64 0]) ∧ Later W w' ∧ IsInts [4] w' r := by
  obtain ⟨A1, k1, A2, k2, A3, k3, rfl, hc, _, _, hk⟩ := h
  refine (LeaveP_calls (k1 := k1) (k2 := k2) (k3 := k3) (c := twoH 5 [lateC]) W hc (by omega) (by omega) (by simp)).mono fun e w' h => ?_
  obtain ⟨A, n, k, e1, hL, hr, _⟩ := h
  rw [ex_leave] at hr
  rw [ex_fault] at e1
  have hn : n = 1 := hr.len
  subst hn
  exact ⟨_, e1, hL, A, k, rfl, hr⟩
/-- ints of a list and of a new one that is the same -/
theorem ints_new {A : Option Addr} {n k : Nat} {l : List Int} (w wx : World) (hL : Later wx w) (h : RI wx A n l) (hn : n ≤ 100) (cs : Array Value) (hcs : cs = (ints l).toArray) (m : Nat) (hm : m = n) :
    Calls Try.prog 46 #[.slice A n k, .slice (some ⟨w.heap.size, 0, none⟩) m m] (w.alloc (.cells cs 3)) fun e w' => e = .returned (.bool true) ∧ Later w w' := by
  subst hcs hm
  have hl := h.len
  have hr : RI (w.alloc (.cells (ints l).toArray 3)) (some ⟨w.heap.size, 0, none⟩) m l := (Blk.new _ _ _).reads (xs := ints l) (by rw [ints_length]; omega) fun j u hu => by simpa using hu
  refine (lawInts_calls _ ((h.later hL).later (later_alloc (later_refl _) _)) hr (by omega) (by omega)).mono fun e w' h => ?_
  rw [decide_eq_true rfl] at h
  exact ⟨h.1, later_of_alloc h.2⟩
theorem newInts (w : World) (l : List Int) (cs : Array Value) (h : cs = (ints l).toArray) : IsInts l (w.alloc (.cells cs 3)) (.slice (some ⟨w.heap.size, 0, none⟩) l.length l.length) := by
  subst h
  exact ⟨_, _, rfl, (Blk.new _ _ _).reads (xs := ints l) (by rw [ints_length]; omega) fun j u hu => by simpa using hu⟩
theorem ints_true {A B : Option Addr} {n k m j : Nat} {l : List Int} {w : World} (h : RI w A n l) (h2 : RI w B m l) (hn : l.length ≤ 100) :
    Calls Try.prog 46 #[.slice A n k, .slice B m j] w fun e w' => e = .returned (.bool true) ∧ Later w w' := by
  have h1 := h.len
  have h3 := h2.len
  refine (lawInts_calls _ h h2 (by omega) (by omega)).mono fun e w' h => ?_
  rw [decide_eq_true rfl] at h
  exact h
end
end Go.Proofs.Ytbkfnajpbhfneaa
