/- Part 8 of the proof: joined from the texts TlB, AppH, AppI, UnO, UnD, UnP, UnQ. -/
import Derived.Test.YtcffgjhmpgdfpaaPart7
import Derived.Test.YtcffgjhmpgdfpaaPart6
import Derived.Test.YtcffgjhmpgdfpaaPart5
import Derived.Deep.RegionLawGrows
import Derived.Deep.Onto
import Derived.Laws.OwnMore
set_option linter.unusedSimpArgs false
set_option linter.unusedVariables false
/- The laws' House: walk. -/
namespace Go.Proofs.Ytcffgjhmpgdfpaa
open Go Go.RowKit
attribute [local go_sem] later_alloc2 later_alloc3 later_alloc4

theorem later_setRow {w W : World} (h : Later w W) {g : Nat} (hg : w.heap.size ≤ g) (cs : Array Value) : Later w (W.setRow g cs) :=
  ⟨h.os, h.tape, h.output, by simpa using h.size, fun b hb => (setRow_other W g b cs (by omega)).trans (h.block b hb)⟩
theorem Blk.row {w : World} {g : Nat} {t : TypeId} {old : Array Value} (h : Blk w g t old) (cs : Array Value) : Blk (w.setRow g cs) g t cs := setRow_heap w g old cs t (0, 0) h
/-- all blocks of W but g lie in X as they lay -/
def Kept (g : Nat) (W X : World) : Prop := W.heap.size ≤ X.heap.size ∧ ∀ b, b < W.heap.size → b ≠ g → X.heap[b]? = W.heap[b]?
theorem Kept.refl (g : Nat) (W : World) : Kept g W W := ⟨Nat.le_refl _, fun _ _ _ => rfl⟩
theorem Kept.trans {g : Nat} {A B C : World} (h : Kept g A B) (k : Kept g B C) : Kept g A C := ⟨Nat.le_trans h.1 k.1, fun b hb hn => (k.2 b (Nat.lt_of_lt_of_le hb h.1) hn).trans (h.2 b hb hn)⟩
theorem Kept.later {g : Nat} {W X Y : World} (h : Kept g W X) (k : Later X Y) : Kept g W Y := h.trans ⟨k.size, fun b hb _ => k.block b hb⟩
theorem Kept.setCell {g : Nat} {W X : World} (h : Kept g W X) (i : Nat) (u : Value) : Kept g W (X.setCell ⟨g, i, none⟩ u) := h.trans ⟨by simp, fun b _ hn => Below.heap_setCell X _ _ b hn⟩
theorem Kept.setRow {g : Nat} {W X : World} (h : Kept g W X) (cs : Array Value) : Kept g W (X.setRow g cs) := h.trans ⟨by simp, fun b _ hn => setRow_other X g b cs hn⟩
theorem Reads.kept {g : Nat} {W X : World} {A : Option Addr} {n size : Nat} {xs : List Value} (h : Reads W W.heap.size size A n xs) (hs : 0 < size) (hne : ∀ b o, A = some ⟨b, o, none⟩ → b ≠ g) (k : Kept g W X) : Reads X X.heap.size size A n xs := by
  refine ⟨h.1, fun hn => ?_⟩
  obtain ⟨b, o, e, hb, hc⟩ := Reads.lit h hs hn
  exact ⟨⟨b, o, none⟩, e, Nat.lt_of_lt_of_le hb k.1, fun j u hu => by rw [add_lit, World.cell?_of_block (a := ⟨b, o + j, none⟩) (k.2 b hb (hne b o e))]; exact hc j u hu⟩
theorem Kept.grown {g : Nat} {W X Y : World} {row : Option Nat} (h : Kept g W X) (k : X.grownBy Y row) (hr : ∀ b, row = some b → W.heap.size ≤ b) : Kept g W Y :=
  ⟨Nat.le_trans h.1 k.size, fun b hb hn => (k.block b (Nat.lt_of_lt_of_le hb h.1) (fun e => by have := hr b e.symm; omega)).trans (h.2 b hb hn)⟩
theorem ticket_info : (Try.prog.info? 73).map (fun i => (i.zero, i.size, i.bytes)) = some (some (.agg #[.int .i64 0, .int .i64 0]), 2, 16) := by kernel_rfl
theorem pairsV_take {l : List (Int × Int)} {t : Nat} {x : Int × Int} (h : l[t]? = some x) : pairsV (l.take (t + 1)) = pairsV (l.take t) ++ [.int .i64 x.1, .int .i64 x.2] := by
  rw [List.take_add_one, h]; exact pairsV_one _ _
theorem clipsV_take {l : List Cp} {t : Nat} {x : Cp} (h : l[t]? = some x) : clipsV (l.take (t + 1)) = clipsV (l.take t) ++ [.int .i64 x.ticket, .int .i64 x.clock, .int .i64 x.minute] := by
  rw [List.take_add_one, h]; exact clipsV_snoc _ _
/-- the row that begins at A has elements of type t -/
def Typed (W : World) (A : Option Addr) (t : TypeId) : Prop := ∀ b o, A = some ⟨b, o, none⟩ → ∃ cs, Blk W b t cs
theorem Typed.later {W X : World} {A : Option Addr} {t : TypeId} (h : Typed W A t) (k : Later W X) : Typed X A t := fun b o e => let ⟨cs, hb⟩ := h b o e; ⟨cs, hb.later k⟩
theorem Typed.kept {g : Nat} {W X : World} {A : Option Addr} {t : TypeId} (h : Typed W A t) (hne : ∀ b o, A = some ⟨b, o, none⟩ → b ≠ g) (k : Kept g W X) : Typed X A t := fun b o e => by
  obtain ⟨cs, hb⟩ := h b o e
  exact ⟨cs, Blk.of_eq (k.2 b hb.lt (hne b o e)) hb⟩
theorem typed_of {W : World} {base : Nat} {e : TypeId} {size : Nat} {A : Option Addr} {n k m : Nat} {xs : List Value} (h : W.ownsRow base e size (.slice A n k) m xs) : Typed W A e := fun b o he => by
  subst he
  rcases h.2 with ⟨h', _⟩ | ⟨g, cap, cur, h', _, hg, _⟩
  · cases h'
  · injection h' with h1
    injection h1 with h1
    injection h1 with h1 h2
    subst h1
    exact ⟨cur, hg⟩
def HousePost (c : Hou) (n1 n2 n3 : Nat) (w : World) (e : Ending) (w' : World) : Prop :=
  ∃ A1 k1 A2 k2 A3 k3, e = .returned (.agg #[.int .i64 c.hour, .int .i64 c.grace, .slice A1 n1 k1, .slice A2 n2 k2, .slice A3 n3 k3]) ∧ Later w w' ∧ CV w' c A1 n1 A2 n2 A3 n3 ∧ n1 ≤ k1 ∧ n2 ≤ k2 ∧ n3 ≤ k3 ∧ Typed w' A1 65 ∧ Typed w' A2 73 ∧ Typed w' A3 74
set_option maxRecDepth 100000 in
set_option maxHeartbeats 4000000 in
theorem lawHouse_calls {A1 A2 A3 : Option Addr} {n1 k1 n2 k2 n3 k3 : Nat} {c : Hou} (w : World) (hc : CV w c A1 n1 A2 n2 A3 n3) (b1 : n1 ≤ 1000) (b2 : n2 ≤ 1000) (b3 : n3 ≤ 1000) :
    Calls Try.prog 15 #[(.agg #[.int .i64 c.hour, .int .i64 c.grace, .slice A1 n1 k1, .slice A2 n2 k2, .slice A3 n3 k3])] w (HousePost c n1 n2 n3 w) := by
  obtain ⟨w0, hw0⟩ : ∃ W, W = (w.alloc (.cells #[.int .i64 c.hour, .int .i64 c.grace, .slice A1 n1 k1, .slice A2 n2 k2, .slice A3 n3 k3] 26)) := ⟨_, rfl⟩; have hbox : ∀ W, Later w0 W → ∀ i, W.cell? ⟨w.heap.size, i, none⟩ = #[.int .i64 c.hour, .int .i64 c.grace, .slice A1 n1 k1, .slice A2 n2 k2, .slice A3 n3 k3][i]? := (by rw [hw0]; exact box_cells w #[.int .i64 c.hour, .int .i64 c.grace, .slice A1 n1 k1, .slice A2 n2 k2, .slice A3 n3 k3] 26); have hL0 : Later w w0 := (by rw [hw0]; simp); have hc0 := hc.later hL0; have Hw0 := hide hw0; clear hw0
  have hs0 : w0.heap.size = w.heap.size + 1 := by rw [Hw0.out]; simp
  obtain ⟨w1, hw1⟩ : ∃ X, X = w0.alloc (.cells #[.int .i64 0, .int .i64 0, .slice none 0 0, .slice none 0 0, .slice none 0 0] 46) := ⟨_, rfl⟩
  have hL1 : Later w0 w1 := by rw [hw1]; exact later_alloc (later_refl _) _
  have kres : Blk w1 (w.heap.size + 1) 46 #[.int .i64 0, .int .i64 0, .slice none 0 0, .slice none 0 0, .slice none 0 0] := by
    have := Blk.new w0 46 #[.int .i64 0, .int .i64 0, .slice none 0 0, .slice none 0 0, .slice none 0 0]
    rw [hs0] at this; rw [hw1]; exact this
  have hs1 : w1.heap.size = w.heap.size + 1 + 1 := by rw [hw1]; simp [hs0]
  obtain ⟨w2, hw2⟩ : ∃ X, X = w1.alloc (.cells #[.int .i64 c.hour, .int .i64 c.grace, .slice none 0 0, .slice none 0 0, .slice none 0 0] 46) := ⟨_, rfl⟩
  have hL12 : Later w1 w2 := by rw [hw2]; exact later_alloc (later_refl _) _
  obtain ⟨g3, hg3e⟩ : ∃ g, g = w1.heap.size := ⟨_, rfl⟩
  have kb : Blk w2 g3 46 #[.int .i64 c.hour, .int .i64 c.grace, .slice none 0 0, .slice none 0 0, .slice none 0 0] := by
    rw [hg3e, hw2]; exact Blk.new _ _ _
  have hg3 : g3 < w2.heap.size := kb.lt
  have hlo : w1.heap.size ≤ g3 := by omega
  have hbox1 := fun W (h : Later w1 W) => hbox W (Later.trans hL1 h)
  have hc1 := hc0.later hL1
  have hLw := Later.trans hL0 hL1
  have q0 := hbox1 w1 (later_refl _) 0
  have q1 := hbox1 w1 (later_refl _) 1
  simp only [List.getElem?_toArray, List.getElem?_cons_zero, List.getElem?_cons_succ] at q0 q1
  have hb2 : ∀ X, Later w1 X → X.cell? ⟨w.heap.size, 2, none⟩ = some (.slice A1 n1 k1) := fun X hX => hbox1 X hX 2
  have hb3 : ∀ X, Later w1 X → X.cell? ⟨w.heap.size, 3, none⟩ = some (.slice A2 n2 k2) := fun X hX => hbox1 X hX 3
  have hb4 : ∀ X, Later w1 X → X.cell? ⟨w.heap.size, 4, none⟩ = some (.slice A3 n3 k3) := fun X hX => hbox1 X hX 4
  have Hres := hide kres
  have Hs1 := hide hs1
  have Hw1 := hide hw1
  have Hw2 := hide hw2
  have Hg3 := hide hg3e
  have Hkb := hide kb
  have hn1 := hc1.ck.len
  have hn2 := hc1.tk.len
  have hn3 := hc1.cp.len
  have Hn1 := hide hn1
  have Hn2 := hide hn2
  have Hn3 := hide hn3
  clear hw1 hw2 hs1 kres kb hn1 hn2 hn3 hbox hbox1 hc0 hc hs0 hL0 hL1 hg3e
  go_enter Try.func15, Try.ntmps15
  go_upto_region 1 with fail
  rw [← Hw0.out]; clear Hw0
  rw [← Hw1.out]
  go_upto_region 2 with fail
  rw [← Hw2.out, ← Hg3.out]
  clear q0 q1
  go_wp2_with fail
  go_loopw [4] (fun i wr => ∃ (t : Nat) (Av : Option Addr) (kv : Nat), t ≤ n1 ∧ i = .int .i64 t ∧ Later w1 wr ∧ Kept g3 w2 wr ∧ Hid (Blk wr g3 46 #[.int .i64 c.hour, .int .i64 c.grace, .slice Av t kv, .slice none 0 0, .slice none 0 0]) ∧ Hid (wr.ownsRow w2.heap.size 65 2 (.slice Av t kv) t (pairsV (c.clocks.take t)))) (fun i _ => n1 - (intOf i).toNat)
  case atStart => exact ⟨0, none, 0, Nat.zero_le _, rfl, hL12, Kept.refl _ _, Hkb, ⟨by simp [pairsV], .inl ⟨rfl, rfl⟩⟩⟩
  case round =>
    obtain ⟨t, Av, kv, ht, rfl, hL, hK, Hbk, Hown⟩ := hrel
    by_cases hlt : t < n1
    · obtain ⟨b, o, x, rfl, hbl, hx, hx0, hx1⟩ := hc1.ck.get hlt
      have hi1 : (t : Int) < n1 := by omega
      have hv := pairsV_take hx
      have Hv := hide hv
      have hc2 : ∀ X, Later wr X → X.cell? ⟨g3, 2, none⟩ = some (.slice Av t kv) := fun X hX => Hbk.out.cells_later X hX 2
      have hxa := fun W (hW : Later wr W) => hx0 W (Later.trans hL hW)
      have hxb := fun W (hW : Later wr W) => hx1 W (Later.trans hL hW)
      have hbc := fun W (hW : Later wr W) => hb2 W (Later.trans hL hW)
      clear hx hv hx0 hx1
      have hS : Later wr wr.drew := later_drew (later_refl _)
      go_wp2_with fail
      refine wp_region_lin (w0 := wr) 9 [] rely_later (by kernel_rfl) (by kernel_rfl) (by kernel_rfl) (by kernel_rfl) (hS) (.inl rfl) ?_
      simp only [List.take_succ_cons, List.take_zero, List.drop_succ_cons, List.drop_zero]
      refine lin_det (v := ?_) (F' := ?_) (by rfl) (fun _ => by rfl) ?_ ?_ ?_
      rotate_left 2
      focus (intro xs X hX hdep; clear hdep; (try dsimp only); go_simp; (try (first | with_reducible rfl | exact ⟨rfl, rfl⟩ | (fail))))
      focus (intro xs; (try simp only [Act.put, List.setIfInBounds_toArray, List.set_cons_zero, List.set_cons_succ, Nat.reduceAdd]); rfl)
      refine lin_det (v := ?_) (F' := ?_) (by rfl) (fun _ => by rfl) ?_ ?_ ?_
      rotate_left 2
      focus (intro xs X hX hdep; clear hdep; (try dsimp only); go_simp; (try (first | with_reducible rfl | exact ⟨rfl, rfl⟩ | (fail))))
      focus (intro xs; (try simp only [Act.put, List.setIfInBounds_toArray, List.set_cons_zero, List.set_cons_succ, Nat.reduceAdd]); rfl)
      refine lin_det (v := ?_) (F' := ?_) (by rfl) (fun _ => by rfl) ?_ ?_ ?_
      rotate_left 2
      focus (intro xs X hX hdep; clear hdep; (try dsimp only); go_simp; (try (first | with_reducible rfl | exact ⟨rfl, rfl⟩ | (fail))))
      focus (intro xs; (try simp only [Act.put, List.setIfInBounds_toArray, List.set_cons_zero, List.set_cons_succ, Nat.reduceAdd]); rfl)
      refine lin_det (v := ?_) (F' := ?_) (by rfl) (fun _ => by rfl) ?_ ?_ ?_
      rotate_left 2
      focus (intro xs X hX hdep; clear hdep; (try dsimp only); go_simp; (try (first | with_reducible rfl | exact ⟨rfl, rfl⟩ | (fail))))
      focus (intro xs; (try simp only [Act.put, List.setIfInBounds_toArray, List.set_cons_zero, List.set_cons_succ, Nat.reduceAdd]); rfl)
      refine lin_det (v := ?_) (F' := ?_) (by rfl) (fun _ => by rfl) ?_ ?_ ?_
      rotate_left 2
      focus (intro xs X hX hdep; clear hdep; (try dsimp only); go_simp; (try (first | with_reducible rfl | exact ⟨rfl, rfl⟩ | (fail))))
      focus (intro xs; (try simp only [Act.put, List.setIfInBounds_toArray, List.set_cons_zero, List.set_cons_succ, Nat.reduceAdd]); rfl)
      refine lin_det (v := ?_) (F' := ?_) (by rfl) (fun _ => by rfl) ?_ ?_ ?_
      rotate_left 2
      focus (intro xs X hX hdep; clear hdep; (try dsimp only); go_simp; (try (first | with_reducible rfl | exact ⟨rfl, rfl⟩ | (fail))))
      focus (intro xs; (try simp only [Act.put, List.setIfInBounds_toArray, List.set_cons_zero, List.set_cons_succ, Nat.reduceAdd]); rfl)
      refine lin_det (v := ?_) (F' := ?_) (by rfl) (fun _ => by rfl) ?_ ?_ ?_
      rotate_left 2
      focus (intro xs X hX hdep; clear hdep; (try dsimp only); go_simp; (try (first | with_reducible rfl | exact ⟨rfl, rfl⟩ | (fail))))
      focus (intro xs; (try simp only [Act.put, List.setIfInBounds_toArray, List.set_cons_zero, List.set_cons_succ, Nat.reduceAdd]); rfl)
      refine lin_det (v := ?_) (F' := ?_) (by rfl) (fun _ => by rfl) ?_ ?_ ?_
      rotate_left 2
      focus (intro xs X hX hdep; clear hdep; (try dsimp only); go_simp; (try (first | with_reducible rfl | exact ⟨rfl, rfl⟩ | (exact lawTo_calls _ _ X))))
      focus (intro xs; (try simp only [Act.put, List.setIfInBounds_toArray, List.set_cons_zero, List.set_cons_succ, Nat.reduceAdd]); rfl)
      refine lin_any (IsNew 65 [.int .i64 x.1, .int .i64 x.2]) false (fun v W W' k h => IsNew.later h k) (F' := ?_) (by rfl) (fun _ => by rfl) ?_ ?_ ?_
      rotate_left 1
      focus (intro xs X hX hdep; skip; clear hdep; intro K hK; (try dsimp only); go_simp; (exact hK.out _ _ rfl (later_alloc (later_refl _) _) ⟨_, rfl, Blk.new _ _ _⟩ (fun h => by cases h)))
      focus (intro xs; (try simp only [Act.put, List.setIfInBounds_toArray, List.set_cons_zero, List.set_cons_succ, Nat.reduceAdd]); rfl)
      intro xs W hW hf hfr hfb
      obtain ⟨g, hx9, hbn⟩ := (show IsNew _ _ _ _ from hf 8)
      simp only [hx9, Nat.reduceAdd, Nat.zero_add]
      clear hf hfr hfb hx9
      have hown4 := own_later2 Hown.out hW
      have hK4 := hK.later hW
      have hbk4 := Hbk.out.later hW
      have hL4 := Later.trans hL hW
      go_wp2_with (at_builtin; refine appG rfl w2.heap.size _ _ 42 rfl 65 (.agg #[.int .i64 0, .int .i64 0]) 2 16 Try.underlying42 range_info rfl (by omega) (.slice Av t kv) t (pairsV (c.clocks.take t)) rfl hK4.1 hown4 ⟨g, 0, none⟩ 1 1 [.int .i64 x.1, .int .i64 x.2] rfl rfl hbn.one (by simp [Value.oneCell']) (by omega) (by omega) (by omega) ?_)
      intro v' w4 hap
      obtain ⟨A', c', hv', _⟩ := own_slice hap.own
      subst hv'
      have hr4 : ∀ g, (Value.slice Av t kv).ownBlock = some g → w2.heap.size ≤ g := fun g hg => (hown4.lt g hg).1
      have hL5 := Later.grown hL4 hap.grown fun g hg => Nat.le_trans hL12.size (hr4 g hg)
      have hK5 := hK4.grown hap.grown hr4
      have hb4' := Blk.of_eq (hap.grown.block g3 hbk4.lt (fun e => by have := hr4 g3 e.symm; omega)) hbk4
      have c24 := hb4'.cell 2
      have f24 := hb4'.frozen 2
      simp only [List.getElem?_toArray, List.getElem?_cons_zero, List.getElem?_cons_succ] at c24
      have hS6 := later_set hL5 ⟨g3, 2, none⟩ hlo (.slice A' (t + 1) c')
      have hK6 := hK5.setCell 2 (.slice A' (t + 1) c')
      have hb6 := hb4'.set_ 2 (.slice A' (t + 1) c')
      have ho6 := own_block (W' := w4.setCell ⟨g3, 2, none⟩ (.slice A' (t + 1) c')) hap.own fun g hg => Below.heap_setCell w4 _ _ g (by have := (hap.own.lt g hg).1; show g ≠ g3; omega)
      rw [← Hv.out] at ho6
      have Hb6 := hide hb6
      have Ho6 := hide ho6
      have HS6 := hide hS6
      have HK6 := hide hK6
      clear hb6 ho6 hown4 hK4 hbk4 hr4 hap hb4' hS6 hK6 hL5 hK5 hL4
      go_wp2_with fail
      go_roundw
      case rel => exact ⟨t + 1, A', c', by omega, by go_num, HS6.out, HK6.out, Hb6, Ho6⟩
      case measure => simp [intOf]; omega
    · obtain ⟨e1, rfl⟩ : ∃ x, x = wr := ⟨wr, rfl⟩
      have hnt : n1 = t := by omega
      subst hnt
      have HL1 := hide hL
      have HK1 := hide hK
      have Hcap1 := hide (own_cap Hown.out)
      have Hty1 := hide (typed_of Hown.out)
      obtain ⟨hr1, hf1⟩ : Reads e1 e1.heap.size 2 Av n1 (pairsV c.clocks) ∧ Fresh w2 e1 Av := by
        have ho := Hown.out
        rw [List.take_of_length_le (by rw [← Hn1.out]; exact Nat.le_refl _)] at ho
        obtain ⟨A', c', e, hr⟩ := own_slice ho
        injection e with e1 e2 e3
        subst e1
        exact ⟨hr, own_fresh ho⟩
      have Hr1 := hide hr1
      have Hf1 := hide hf1
      have Hbk1 := hide Hbk.out
      have hg51 : g3 < e1.heap.size := Hbk.out.lt
      have hsz1 := hK.1
      have hle1 := hL.size
      clear hr1 hf1 Hown Hbk hK
      obtain ⟨B1, rfl⟩ : ∃ x, x = Av := ⟨_, rfl⟩
      obtain ⟨j1, rfl⟩ : ∃ x, x = kv := ⟨_, rfl⟩
      have hLL1 := hL
      clear hL
      go_wp2_with fail
      go_loopw [5] (fun i wr => ∃ (t : Nat) (Av : Option Addr) (kv : Nat), t ≤ n2 ∧ i = .int .i64 t ∧ Later w1 wr ∧ Kept g3 e1 wr ∧ Hid (Blk wr g3 46 #[.int .i64 c.hour, .int .i64 c.grace, .slice B1 n1 j1, .slice Av t kv, .slice none 0 0]) ∧ Hid (wr.ownsRow e1.heap.size 73 2 (.slice Av t kv) t (pairsV (c.tickets.take t)))) (fun i _ => n2 - (intOf i).toNat)
      case atStart => exact ⟨0, none, 0, Nat.zero_le _, rfl, hLL1, Kept.refl _ _, Hbk1, ⟨by simp [pairsV], .inl ⟨rfl, rfl⟩⟩⟩
      case round =>
        obtain ⟨t, Av, kv, ht, rfl, hL, hK, Hbk, Hown⟩ := hrel
        by_cases hlt : t < n2
        · obtain ⟨b, o, x, rfl, hbl, hx, hx0, hx1⟩ := hc1.tk.get hlt
          have hi1 : (t : Int) < n2 := by omega
          have hv := pairsV_take hx
          have Hv := hide hv
          have hc2 : ∀ X, Later wr X → X.cell? ⟨g3, 3, none⟩ = some (.slice Av t kv) := fun X hX => Hbk.out.cells_later X hX 3
          have hxa := fun W (hW : Later wr W) => hx0 W (Later.trans hL hW)
          have hxb := fun W (hW : Later wr W) => hx1 W (Later.trans hL hW)
          have hbc := fun W (hW : Later wr W) => hb3 W (Later.trans hL hW)
          clear hx hv hx0 hx1
          have hS : Later wr wr.drew := later_drew (later_refl _)
          go_wp2_with fail
          refine wp_region_lin (w0 := wr) 16 [] rely_later (by kernel_rfl) (by kernel_rfl) (by kernel_rfl) (by kernel_rfl) (hS) (.inl rfl) ?_
          simp only [List.take_succ_cons, List.take_zero, List.drop_succ_cons, List.drop_zero]
          refine lin_det (v := ?_) (F' := ?_) (by rfl) (fun _ => by rfl) ?_ ?_ ?_
          rotate_left 2
          focus (intro xs X hX hdep; clear hdep; (try dsimp only); go_simp; (try (first | with_reducible rfl | exact ⟨rfl, rfl⟩ | (fail))))
          focus (intro xs; (try simp only [Act.put, List.setIfInBounds_toArray, List.set_cons_zero, List.set_cons_succ, Nat.reduceAdd]); rfl)
          refine lin_det (v := ?_) (F' := ?_) (by rfl) (fun _ => by rfl) ?_ ?_ ?_
          rotate_left 2
          focus (intro xs X hX hdep; clear hdep; (try dsimp only); go_simp; (try (first | with_reducible rfl | exact ⟨rfl, rfl⟩ | (fail))))
          focus (intro xs; (try simp only [Act.put, List.setIfInBounds_toArray, List.set_cons_zero, List.set_cons_succ, Nat.reduceAdd]); rfl)
          refine lin_det (v := ?_) (F' := ?_) (by rfl) (fun _ => by rfl) ?_ ?_ ?_
          rotate_left 2
          focus (intro xs X hX hdep; clear hdep; (try dsimp only); go_simp; (try (first | with_reducible rfl | exact ⟨rfl, rfl⟩ | (fail))))
          focus (intro xs; (try simp only [Act.put, List.setIfInBounds_toArray, List.set_cons_zero, List.set_cons_succ, Nat.reduceAdd]); rfl)
          refine lin_det (v := ?_) (F' := ?_) (by rfl) (fun _ => by rfl) ?_ ?_ ?_
          rotate_left 2
          focus (intro xs X hX hdep; clear hdep; (try dsimp only); go_simp; (try (first | with_reducible rfl | exact ⟨rfl, rfl⟩ | (fail))))
          focus (intro xs; (try simp only [Act.put, List.setIfInBounds_toArray, List.set_cons_zero, List.set_cons_succ, Nat.reduceAdd]); rfl)
          refine lin_det (v := ?_) (F' := ?_) (by rfl) (fun _ => by rfl) ?_ ?_ ?_
          rotate_left 2
          focus (intro xs X hX hdep; clear hdep; (try dsimp only); go_simp; (try (first | with_reducible rfl | exact ⟨rfl, rfl⟩ | (fail))))
          focus (intro xs; (try simp only [Act.put, List.setIfInBounds_toArray, List.set_cons_zero, List.set_cons_succ, Nat.reduceAdd]); rfl)
          refine lin_det (v := ?_) (F' := ?_) (by rfl) (fun _ => by rfl) ?_ ?_ ?_
          rotate_left 2
          focus (intro xs X hX hdep; clear hdep; (try dsimp only); go_simp; (try (first | with_reducible rfl | exact ⟨rfl, rfl⟩ | (fail))))
          focus (intro xs; (try simp only [Act.put, List.setIfInBounds_toArray, List.set_cons_zero, List.set_cons_succ, Nat.reduceAdd]); rfl)
          refine lin_det (v := ?_) (F' := ?_) (by rfl) (fun _ => by rfl) ?_ ?_ ?_
          rotate_left 2
          focus (intro xs X hX hdep; clear hdep; (try dsimp only); go_simp; (try (first | with_reducible rfl | exact ⟨rfl, rfl⟩ | (fail))))
          focus (intro xs; (try simp only [Act.put, List.setIfInBounds_toArray, List.set_cons_zero, List.set_cons_succ, Nat.reduceAdd]); rfl)
          refine lin_det (v := ?_) (F' := ?_) (by rfl) (fun _ => by rfl) ?_ ?_ ?_
          rotate_left 2
          focus (intro xs X hX hdep; clear hdep; (try dsimp only); go_simp; (try (first | with_reducible rfl | exact ⟨rfl, rfl⟩ | (fail))))
          focus (intro xs; (try simp only [Act.put, List.setIfInBounds_toArray, List.set_cons_zero, List.set_cons_succ, Nat.reduceAdd]); rfl)
          refine lin_det (v := ?_) (F' := ?_) (by rfl) (fun _ => by rfl) ?_ ?_ ?_
          rotate_left 2
          focus (intro xs X hX hdep; clear hdep; (try dsimp only); go_simp; (try (first | with_reducible rfl | exact ⟨rfl, rfl⟩ | (fail))))
          focus (intro xs; (try simp only [Act.put, List.setIfInBounds_toArray, List.set_cons_zero, List.set_cons_succ, Nat.reduceAdd]); rfl)
          refine lin_det (v := ?_) (F' := ?_) (by rfl) (fun _ => by rfl) ?_ ?_ ?_
          rotate_left 2
          focus (intro xs X hX hdep; clear hdep; (try dsimp only); go_simp; (try (first | with_reducible rfl | exact ⟨rfl, rfl⟩ | (fail))))
          focus (intro xs; (try simp only [Act.put, List.setIfInBounds_toArray, List.set_cons_zero, List.set_cons_succ, Nat.reduceAdd]); rfl)
          refine lin_det (v := ?_) (F' := ?_) (by rfl) (fun _ => by rfl) ?_ ?_ ?_
          rotate_left 2
          focus (intro xs X hX hdep; clear hdep; (try dsimp only); go_simp; (try (first | with_reducible rfl | exact ⟨rfl, rfl⟩ | (fail))))
          focus (intro xs; (try simp only [Act.put, List.setIfInBounds_toArray, List.set_cons_zero, List.set_cons_succ, Nat.reduceAdd]); rfl)
          refine lin_det (v := ?_) (F' := ?_) (by rfl) (fun _ => by rfl) ?_ ?_ ?_
          rotate_left 2
          focus (intro xs X hX hdep; clear hdep; (try dsimp only); go_simp; (try (first | with_reducible rfl | exact ⟨rfl, rfl⟩ | (fail))))
          focus (intro xs; (try simp only [Act.put, List.setIfInBounds_toArray, List.set_cons_zero, List.set_cons_succ, Nat.reduceAdd]); rfl)
          refine lin_det (v := ?_) (F' := ?_) (by rfl) (fun _ => by rfl) ?_ ?_ ?_
          rotate_left 2
          focus (intro xs X hX hdep; clear hdep; (try dsimp only); go_simp; (try (first | with_reducible rfl | exact ⟨rfl, rfl⟩ | (fail))))
          focus (intro xs; (try simp only [Act.put, List.setIfInBounds_toArray, List.set_cons_zero, List.set_cons_succ, Nat.reduceAdd]); rfl)
          refine lin_det (v := ?_) (F' := ?_) (by rfl) (fun _ => by rfl) ?_ ?_ ?_
          rotate_left 2
          focus (intro xs X hX hdep; clear hdep; (try dsimp only); go_simp; (try (first | with_reducible rfl | exact ⟨rfl, rfl⟩ | (fail))))
          focus (intro xs; (try simp only [Act.put, List.setIfInBounds_toArray, List.set_cons_zero, List.set_cons_succ, Nat.reduceAdd]); rfl)
          refine lin_det (v := ?_) (F' := ?_) (by rfl) (fun _ => by rfl) ?_ ?_ ?_
          rotate_left 2
          focus (intro xs X hX hdep; clear hdep; (try dsimp only); go_simp; (try (first | with_reducible rfl | exact ⟨rfl, rfl⟩ | (fail))))
          focus (intro xs; (try simp only [Act.put, List.setIfInBounds_toArray, List.set_cons_zero, List.set_cons_succ, Nat.reduceAdd]); rfl)
          refine lin_any (IsNew 73 [.int .i64 x.1, .int .i64 x.2]) false (fun v W W' k h => IsNew.later h k) (F' := ?_) (by rfl) (fun _ => by rfl) ?_ ?_ ?_
          rotate_left 1
          focus (intro xs X hX hdep; skip; clear hdep; intro K hK; (try dsimp only); go_simp; (exact hK.out _ _ rfl (later_alloc (later_refl _) _) ⟨_, rfl, Blk.new _ _ _⟩ (fun h => by cases h)))
          focus (intro xs; (try simp only [Act.put, List.setIfInBounds_toArray, List.set_cons_zero, List.set_cons_succ, Nat.reduceAdd]); rfl)
          intro xs W hW hf hfr hfb
          obtain ⟨g, hx9, hbn⟩ := (show IsNew _ _ _ _ from hf 15)
          simp only [hx9, Nat.reduceAdd, Nat.zero_add]
          clear hf hfr hfb hx9
          have hown4 := own_later2 Hown.out hW
          have hK4 := hK.later hW
          have hbk4 := Hbk.out.later hW
          have hL4 := Later.trans hL hW
          go_wp2_with (at_builtin; refine appG rfl e1.heap.size _ _ 43 rfl 73 (.agg #[.int .i64 0, .int .i64 0]) 2 16 Try.underlying43 ticket_info rfl (by omega) (.slice Av t kv) t (pairsV (c.tickets.take t)) rfl hK4.1 hown4 ⟨g, 0, none⟩ 1 1 [.int .i64 x.1, .int .i64 x.2] rfl rfl hbn.one (by simp [Value.oneCell']) (by omega) (by omega) (by omega) ?_)
          intro v' w4 hap
          obtain ⟨A', c', hv', _⟩ := own_slice hap.own
          subst hv'
          have hr4 : ∀ g, (Value.slice Av t kv).ownBlock = some g → e1.heap.size ≤ g := fun g hg => (hown4.lt g hg).1
          have hL5 := Later.grown hL4 hap.grown fun g hg => Nat.le_trans hLL1.size (hr4 g hg)
          have hK5 := hK4.grown hap.grown hr4
          have hb4' := Blk.of_eq (hap.grown.block g3 hbk4.lt (fun e => by have := hr4 g3 e.symm; omega)) hbk4
          have c24 := hb4'.cell 3
          have f24 := hb4'.frozen 3
          simp only [List.getElem?_toArray, List.getElem?_cons_zero, List.getElem?_cons_succ] at c24
          have hS6 := later_set hL5 ⟨g3, 3, none⟩ hlo (.slice A' (t + 1) c')
          have hK6 := hK5.setCell 3 (.slice A' (t + 1) c')
          have hb6 := hb4'.set_ 3 (.slice A' (t + 1) c')
          have ho6 := own_block (W' := w4.setCell ⟨g3, 3, none⟩ (.slice A' (t + 1) c')) hap.own fun g hg => Below.heap_setCell w4 _ _ g (by have := (hap.own.lt g hg).1; show g ≠ g3; omega)
          rw [← Hv.out] at ho6
          have Hb6 := hide hb6
          have Ho6 := hide ho6
          have HS6 := hide hS6
          have HK6 := hide hK6
          clear hb6 ho6 hown4 hK4 hbk4 hr4 hap hb4' hS6 hK6 hL5 hK5 hL4
          go_wp2_with fail
          go_roundw
          case rel => exact ⟨t + 1, A', c', by omega, by go_num, HS6.out, HK6.out, Hb6, Ho6⟩
          case measure => simp [intOf]; omega
        · obtain ⟨e2, rfl⟩ : ∃ x, x = wr := ⟨wr, rfl⟩
          have hnt : n2 = t := by omega
          subst hnt
          have HL2 := hide hL
          have HK2 := hide hK
          have Hcap2 := hide (own_cap Hown.out)
          have Hty2 := hide (typed_of Hown.out)
          obtain ⟨hr2, hf2⟩ : Reads e2 e2.heap.size 2 Av n2 (pairsV c.tickets) ∧ Fresh e1 e2 Av := by
            have ho := Hown.out
            rw [List.take_of_length_le (by rw [← Hn2.out]; exact Nat.le_refl _)] at ho
            obtain ⟨A', c', e, hr⟩ := own_slice ho
            injection e with e1 e2 e3
            subst e1
            exact ⟨hr, own_fresh ho⟩
          have Hr2 := hide hr2
          have Hf2 := hide hf2
          have Hbk2 := hide Hbk.out
          have hg52 : g3 < e2.heap.size := Hbk.out.lt
          have hsz2 := hK.1
          have hle2 := hL.size
          clear hr2 hf2 Hown Hbk hK
          obtain ⟨B2, rfl⟩ : ∃ x, x = Av := ⟨_, rfl⟩
          obtain ⟨j2, rfl⟩ : ∃ x, x = kv := ⟨_, rfl⟩
          have hLL2 := hL
          clear hL
          go_wp2_with fail
          go_loopw [6, 7] (fun i _ wr => ∃ (t : Nat) (Av : Option Addr) (kv : Nat), t ≤ n3 ∧ i = .int .i64 t ∧ Later w1 wr ∧ Kept g3 e2 wr ∧ Hid (Blk wr g3 46 #[.int .i64 c.hour, .int .i64 c.grace, .slice B1 n1 j1, .slice B2 n2 j2, .slice Av t kv]) ∧ Hid (wr.ownsRow e2.heap.size 74 3 (.slice Av t kv) t (clipsV (c.clips.take t)))) (fun i _ _ => n3 - (intOf i).toNat)
          case atStart => exact ⟨0, none, 0, Nat.zero_le _, rfl, hLL2, Kept.refl _ _, Hbk2, ⟨by simp [clipsV], .inl ⟨rfl, rfl⟩⟩⟩
          case round =>
            obtain ⟨t, Av, kv, ht, rfl, hL, hK, Hbk, Hown⟩ := hrel
            by_cases hlt : t < n3
            · obtain ⟨b, o, x, rfl, hbl, hx, hx0, hx1, hx2⟩ := hc1.cp.get hlt
              have hi1 : (t : Int) < n3 := by omega
              have hv := clipsV_take hx
              have Hv := hide hv
              have hc2 : ∀ X, Later wr X → X.cell? ⟨g3, 4, none⟩ = some (.slice Av t kv) := fun X hX => Hbk.out.cells_later X hX 4
              have hxa := hx0 _ hL
              have hxb := hx1 _ hL
              have hxc := hx2 _ hL
              have hbc := hb4 _ hL
              obtain ⟨W, hW0⟩ : ∃ X, X = (wr.alloc (.cells #[.int .i64 x.ticket, .int .i64 x.clock, .int .i64 x.minute] 60)).alloc (.cells #[.int .i64 x.ticket, .int .i64 x.clock, .int .i64 x.minute] 74) := ⟨_, rfl⟩
              obtain ⟨wm, hwm⟩ : ∃ X, X = wr.alloc (.cells #[.int .i64 x.ticket, .int .i64 x.clock, .int .i64 x.minute] 60) := ⟨_, rfl⟩
              have hLm : Later wr wm := by rw [hwm]; exact later_alloc (later_refl _) _
              have hbm := Blk.new wr 60 #[.int .i64 x.ticket, .int .i64 x.clock, .int .i64 x.minute]
              rw [← hwm] at hbm hW0
              have m0 := hbm.cell 0
              have m1 := hbm.cell 1
              have m2 := hbm.cell 2
              simp only [List.getElem?_toArray, List.getElem?_cons_zero, List.getElem?_cons_succ] at m0 m1 m2
              have hc2' := hc2 wm hLm
              have hW : Later wr W := by rw [hW0]; exact later_alloc hLm _
              have hbn := Blk.new wm 74 #[.int .i64 x.ticket, .int .i64 x.clock, .int .i64 x.minute]
              rw [← hW0] at hbn
              have Hwm := hide hwm
              have HW0 := hide hW0
              clear hx hv hx0 hx1 hx2 hwm hW0 hbm
              go_upto_region 14 with fail
              rw [← Hwm.out]
              have HHbn := hide hbn
              have hown4 := own_later2 Hown.out hW
              have hK4 := hK.later hW
              have hbk4 := Hbk.out.later hW
              have hL4 := Later.trans hL hW
              go_wp2_with (at_builtin; rw [← HW0.out]; refine appG rfl e2.heap.size _ _ 44 rfl 74 (.agg #[.int .i64 0, .int .i64 0, .int .i64 0]) 3 24 Try.underlying44 clip_info rfl (by omega) (.slice Av t kv) t (clipsV (c.clips.take t)) rfl hK4.1 hown4 ⟨wm.heap.size, 0, none⟩ 1 1 [.int .i64 x.ticket, .int .i64 x.clock, .int .i64 x.minute] rfl rfl (Blk.one HHbn.out) (by simp [Value.oneCell']) (by omega) (by omega) (by omega) ?_)
              intro v' w4 hap
              obtain ⟨A', c', hv', _⟩ := own_slice hap.own
              subst hv'
              have hr4 : ∀ g, (Value.slice Av t kv).ownBlock = some g → e2.heap.size ≤ g := fun g hg => (hown4.lt g hg).1
              have hL5 := Later.grown hL4 hap.grown fun g hg => Nat.le_trans hLL2.size (hr4 g hg)
              have hK5 := hK4.grown hap.grown hr4
              have hb4' := Blk.of_eq (hap.grown.block g3 hbk4.lt (fun e => by have := hr4 g3 e.symm; omega)) hbk4
              have c24 := hb4'.cell 4
              have f24 := hb4'.frozen 4
              simp only [List.getElem?_toArray, List.getElem?_cons_zero, List.getElem?_cons_succ] at c24
              have hS6 := later_set hL5 ⟨g3, 4, none⟩ hlo (.slice A' (t + 1) c')
              have hK6 := hK5.setCell 4 (.slice A' (t + 1) c')
              have hb6 := hb4'.set_ 4 (.slice A' (t + 1) c')
              have ho6 := own_block (W' := w4.setCell ⟨g3, 4, none⟩ (.slice A' (t + 1) c')) hap.own fun g hg => Below.heap_setCell w4 _ _ g (by have := (hap.own.lt g hg).1; show g ≠ g3; omega)
              rw [← Hv.out] at ho6
              have Hb6 := hide hb6
              have Ho6 := hide ho6
              have HS6 := hide hS6
              have HK6 := hide hK6
              clear hb6 ho6 hown4 hK4 hbk4 hr4 hap hb4' hS6 hK6 hL5 hK5 hL4
              go_wp2_with fail
              go_roundw
              case rel => exact ⟨t + 1, A', c', by omega, by go_num, HS6.out, HK6.out, Hb6, Ho6⟩
              case measure => simp [intOf]; omega
            · obtain ⟨e3, rfl⟩ : ∃ x, x = wr := ⟨wr, rfl⟩
              have hnt : n3 = t := by omega
              subst hnt
              have HL3 := hide hL
              have HK3 := hide hK
              have Hcap3 := hide (own_cap Hown.out)
              have Hty3 := hide (typed_of Hown.out)
              obtain ⟨hr3, hf3⟩ : Reads e3 e3.heap.size 3 Av n3 (clipsV c.clips) ∧ Fresh e2 e3 Av := by
                have ho := Hown.out
                rw [List.take_of_length_le (by rw [← Hn3.out]; exact Nat.le_refl _)] at ho
                obtain ⟨A', c', e, hr⟩ := own_slice ho
                injection e with e1 e2 e3
                subst e1
                exact ⟨hr, own_fresh ho⟩
              have Hr3 := hide hr3
              have Hf3 := hide hf3
              have Hbk3 := hide Hbk.out
              have hg53 : g3 < e3.heap.size := Hbk.out.lt
              have hsz3 := hK.1
              have hle3 := hL.size
              clear hr3 hf3 Hown Hbk hK
              obtain ⟨B3, rfl⟩ : ∃ x, x = Av := ⟨_, rfl⟩
              obtain ⟨j3, rfl⟩ : ∃ x, x = kv := ⟨_, rfl⟩
              have hLL3 := hL
              clear hL
              have hkr := (Hres.out.later hLL3)
              have hke := hkr.row #[.int .i64 c.hour, .int .i64 c.grace, .slice B1 n1 j1, .slice B2 n2 j2, .slice B3 n3 j3]
              have Hkr := hide hkr
              have Hke := hide hke
              clear hkr hke
              go_wp2_with (first | (refine wpList_load_row rfl _ _ rfl g3 rfl _ _ _ _ Hbk3.out Try.underlying46 rfl (by kernel_rfl) ?_) | (refine wpList_store_row rfl _ _ _ rfl (w.heap.size + 1) _ rfl rfl _ _ Hkr.out (by kernel_rfl) rfl (by simp [Value.oneCell']) ?_))
              have hs1 := Hs1.out
              have hg3' := Hg3.out
              have hk6 := ((Kept.refl (w.heap.size + 1) e3).setRow #[.int .i64 c.hour, .int .i64 c.grace, .slice B1 n1 j1, .slice B2 n2 j2, .slice B3 n3 j3])
              refine bodyPost_ret (results_cell_row (P := Try.prog) (fn := Try.f15) (p := 2) (ty := 46) (by kernel_rfl) _ _ (w.heap.size + 1) _ _ _ _ rfl Hke.out Try.underlying46 (by kernel_rfl) (by kernel_rfl)) rfl ⟨_, _, _, _, _, _, rfl, later_setRow (Later.trans hLw hLL3) (by omega) _, ⟨?_, ?_, ?_⟩, Hcap1.out, Hcap2.out, Hcap3.out, ?_, ?_, ?_⟩
              · exact Reads.kept (Reads.kept (Reads.kept Hr1.out (by omega) (fun b o e => by have := (Hf1.out b o e).1; omega) HK2.out) (by omega) (fun b o e => by have := (Hf1.out b o e).1; omega) HK3.out) (by omega) (fun b o e => by have := (Hf1.out b o e).1; omega) hk6
              · exact Reads.kept (Reads.kept Hr2.out (by omega) (fun b o e => by have := (Hf2.out b o e).1; omega) HK3.out) (by omega) (fun b o e => by have := (Hf2.out b o e).1; omega) hk6
              · exact Reads.kept Hr3.out (by omega) (fun b o e => by have := (Hf3.out b o e).1; omega) hk6
              · exact Typed.kept (Typed.kept (Typed.kept Hty1.out (fun b o e => by have := (Hf1.out b o e).1; omega) HK2.out) (fun b o e => by have := (Hf1.out b o e).1; omega) HK3.out) (fun b o e => by have := (Hf1.out b o e).1; omega) hk6
              · exact Typed.kept (Typed.kept Hty2.out (fun b o e => by have := (Hf2.out b o e).1; omega) HK3.out) (fun b o e => by have := (Hf2.out b o e).1; omega) hk6
              · exact Typed.kept Hty3.out (fun b o e => by have := (Hf3.out b o e).1; omega) hk6
end Go.Proofs.Ytcffgjhmpgdfpaa

/- append to an empty slice that the call has just made: all that was there stays. -/
namespace Go.Proofs.Ytcffgjhmpgdfpaa
open Go Go.RowKit

theorem own_empty {W : World} {base g : Nat} {e : TypeId} {size : Nat} (hg : Blk W g e #[]) (hb : base ≤ g) : W.ownsRow base e size (.slice (some ⟨g, 0, none⟩) 0 0) 0 [] :=
  ⟨by simp, .inr ⟨g, 0, #[], rfl, hb, hg, Nat.le_refl _, by unfold maxLen; omega, by simp, by simp⟩⟩
theorem app0_wp {P : Program} {o : Oper} {a : Act} {K : Act → World → Prop} {Q : Exit → Act → World → Prop} {W : World} (base : Nat) (s x : Operand) (t : TypeId) (hgd : o.guard = none)
    (ho : o.op = .call { callee := .builtin .append, args := #[s, x], argTypes := #[t, t] }) (e : TypeId) (z : Value) (size bytes : Nat)
    (ht : P.underlying t = some (.slice e)) (hinfo : (P.info? e).map (fun i => (i.zero, i.size, i.bytes)) = some (some z, size, bytes)) (hzs : z.cells.size = size) (hsz : 0 < size)
    (g : Nat) (hs : a.eval s = .slice (some ⟨g, 0, none⟩) 0 0) (hg : Blk W g e #[]) (hb : base ≤ g)
    (ao : Option Addr) (m c : Nat) (news : List Value) (hx : a.eval x = .slice ao m c) (hl : news.length = m * size) (hc : ∀ ad, ao = some ad → ∀ j u, news[j]? = some u → W.cell? (ad.add j) = some u) (hno : ao = none → m = 0)
    (h1 : ∀ u ∈ news, u.oneCell' = true) (hm : m ≤ maxLen) (hby : m * bytes ≤ 140737488355328)
    (h : ∀ v' w', Later W w' → w'.ownsRow base e size v' m news → K (a.put o.dst v') w') :
    o.wp P a W K Q := by
  obtain ⟨i, hi, hz, h2, h3⟩ := info_parts hinfo
  by_cases hm0 : m = 0
  · subst hm0
    obtain rfl : news = [] := List.eq_nil_of_length_eq_zero (by simpa using hl)
    have hown := own_empty (size := size) hg hb
    have hr : (Builtin.append_ #[t, t] o.type #[.slice (some ⟨g, 0, none⟩) 0 0, .slice ao 0 c]).run P W = .ok (.slice (some ⟨g, 0, none⟩) 0 0) W := by
      cases ao with
      | none => simp [Builtin.append_, run_underlying ht, sizeOf, typeInfo, hi, Builtin.lenOf, Builtin.firstCells, storeCells]
      | some ad => simp [Builtin.append_, run_underlying ht, sizeOf, typeInfo, hi, Builtin.lenOf, Builtin.firstCells, loadCells, loadCellsFrom, storeCells]
    unfold Oper.wp execOp
    simp only [ho, resolve, invoke, builtin, Sem.run_bind, Sem.run_pure, Result.andThen_ok, List.map_toArray, List.map_cons, List.map_nil, hs, hx, hr]
    exact h _ _ (later_refl _) hown
  · cases ao with
    | none => exact absurd (hno rfl) hm0
    | some ad =>
      have h0 := step_append_grows (P := P) (ops := #[o]) (o := o) (a := a) (w := W) (K := K) (Q := Q) (E := False) hgd s x t ho e i z size bytes ht hi hz h2 h3 hzs hsz (some ⟨g, 0, none⟩) 0 0 [] hs (fun h => by cases h) (by simp) (fun b hb j u hj => by simp at hj)
        ad m c news hx hl (hc ad rfl) h1 (by omega) (by omega) (by rw [Nat.zero_add]; exact hby) (fun v' w' hown hgr => by
          rw [Nat.zero_add, List.nil_append] at hown
          exact h v' w' (Later.grown (later_refl W) hgr (fun g' hg' => by cases hg')) (World.ownsRow.mono hown (by have := hg.lt; omega)))
      rwa [if_pos (by simp [Region.wanted, hgd])] at h0
theorem app0 {P : Program} {ops : Array Oper} {rest : List Oper} {o : Oper} {a : Act} {Q : Exit → Act → World → Prop} {W : World} (hgd : o.guard = none) (base : Nat) (s x : Operand) (t : TypeId)
    (ho : o.op = .call { callee := .builtin .append, args := #[s, x], argTypes := #[t, t] }) (e : TypeId) (z : Value) (size bytes : Nat)
    (ht : P.underlying t = some (.slice e)) (hinfo : (P.info? e).map (fun i => (i.zero, i.size, i.bytes)) = some (some z, size, bytes)) (hzs : z.cells.size = size) (hsz : 0 < size)
    (g : Nat) (hs : a.eval s = .slice (some ⟨g, 0, none⟩) 0 0) (hg : Blk W g e #[]) (hb : base ≤ g)
    (ao : Option Addr) (m c : Nat) (news : List Value) (hx : a.eval x = .slice ao m c) (hl : news.length = m * size) (hc : ∀ ad, ao = some ad → ∀ j u, news[j]? = some u → W.cell? (ad.add j) = some u) (hno : ao = none → m = 0)
    (h1 : ∀ u ∈ news, u.oneCell' = true) (hm : m ≤ maxLen) (hby : m * bytes ≤ 140737488355328)
    (h : ∀ v' w', Later W w' → w'.ownsRow base e size v' m news → wpList P ops Q rest (a.put o.dst v') w') :
    wpList P ops Q (o :: rest) a W :=
  wpList_plain hgd fun _ hK => app0_wp base s x t hgd ho e z size bytes ht hinfo hzs hsz g hs hg hb ao m c news hx hl hc hno h1 hm hby fun v' w' hL ho => hK _ _ (h v' w' hL ho)
theorem reads_cells {w : World} {B size : Nat} {A : Option Addr} {n : Nat} {xs : List Value} (h : Reads w B size A n xs) : ∀ ad, A = some ad → ∀ j u, xs[j]? = some u → w.cell? (ad.add j) = some u := fun ad hA j u hj => by
  have hlt := (List.getElem?_eq_some_iff.1 hj).1
  have hn : 0 < n := by
    rcases Nat.eq_zero_or_pos n with h0 | h0
    · have := h.1; rw [h0, Nat.zero_mul] at this; omega
    · exact h0
  obtain ⟨ad', e, _, hc⟩ := h.2 hn
  rw [hA] at e; injection e with e; subst e
  exact hc j u hj
theorem reads_none {w : World} {B size : Nat} {A : Option Addr} {n : Nat} {xs : List Value} (h : Reads w B size A n xs) : A = none → n = 0 := fun hA => by
  rcases Nat.eq_zero_or_pos n with h0 | h0
  · exact h0
  · obtain ⟨ad', e, _⟩ := h.2 h0; rw [hA] at e; cases e
theorem clips_one (l : List Cp) : ∀ u ∈ clipsV l, u.oneCell' = true := fun u hu => by
  simp only [clipsV, List.mem_flatMap] at hu
  obtain ⟨x, _, hx⟩ := hu
  simp only [Cp.cells, List.mem_cons, List.not_mem_nil, or_false] at hx
  rcases hx with rfl | rfl | rfl <;> rfl
theorem pairs_one (l : List (Int × Int)) : ∀ u ∈ pairsV l, u.oneCell' = true := fun u hu => by
  simp only [pairsV, List.mem_flatMap] at hu
  obtain ⟨x, _, hx⟩ := hu
  simp only [pairC, List.mem_cons, List.not_mem_nil, or_false] at hx
  rcases hx with rfl | rfl <;> rfl
theorem rrange_info : (Try.prog.info? 54).map (fun i => (i.zero, i.size, i.bytes)) = some (some (.agg #[.int .i64 0, .int .i64 0]), 2, 16) := by kernel_rfl
theorem rticket_info : (Try.prog.info? 58).map (fun i => (i.zero, i.size, i.bytes)) = some (some (.agg #[.int .i64 0, .int .i64 0]), 2, 16) := by kernel_rfl
/-! ### lists of which one element is set -/
theorem pairsV_set : ∀ (l : List (Int × Int)) (k : Nat) (r : Int × Int), pairsV (l.set k r) = ((pairsV l).set (k * 2) (.int .i64 r.1)).set (k * 2 + 1) (.int .i64 r.2)
  | [], k, r => by simp [pairsV]
  | y :: l, 0, r => rfl
  | y :: l, k + 1, r => by
    have ih := pairsV_set l k r
    rw [show (k + 1) * 2 = k * 2 + 1 + 1 by omega]
    show pairC y ++ pairsV (l.set k r) = ((pairC y ++ pairsV l).set (k * 2 + 1 + 1) _).set (k * 2 + 1 + 1 + 1) _
    rw [ih]; rfl
theorem pairsV_second : ∀ (l : List (Int × Int)) (k : Nat) (x : Int × Int) (h : Int), l[k]? = some x → pairsV (l.set k (x.1, h)) = (pairsV l).set (k * 2 + 1) (.int .i64 h)
  | [], k, x, h, e => by cases e
  | y :: l, 0, x, h, e => by simp only [List.getElem?_cons_zero, Option.some.injEq] at e; subst e; rfl
  | y :: l, k + 1, x, h, e => by
    have ih := pairsV_second l k x h (by simpa using e)
    rw [show (k + 1) * 2 + 1 = k * 2 + 1 + 1 + 1 by omega]
    show pairC y ++ pairsV (l.set k (x.1, h)) = (pairC y ++ pairsV l).set (k * 2 + 1 + 1 + 1) _
    rw [ih]; rfl
theorem clipsV_minute : ∀ (l : List Cp) (k : Nat) (x : Cp) (h : Int), l[k]? = some x → clipsV (l.set k { x with minute := h }) = (clipsV l).set (k * 3 + 2) (.int .i64 h)
  | [], k, x, h, e => by cases e
  | y :: l, 0, x, h, e => by simp only [List.getElem?_cons_zero, Option.some.injEq] at e; subst e; rfl
  | y :: l, k + 1, x, h, e => by
    have ih := clipsV_minute l k x h (by simpa using e)
    rw [show (k + 1) * 3 + 2 = k * 3 + 2 + 1 + 1 + 1 by omega]
    show y.cells ++ clipsV (l.set k { x with minute := h }) = (y.cells ++ clipsV l).set (k * 3 + 2 + 1 + 1 + 1) _
    rw [ih]; rfl
/-- the first i elements mapped -/
def mapTo {α : Type} (f : α → α) (l : List α) (i : Nat) : List α := (l.take i).map f ++ l.drop i
theorem mapTo_zero {α : Type} (f : α → α) (l : List α) : mapTo f l 0 = l := by simp [mapTo]
theorem mapTo_all {α : Type} (f : α → α) (l : List α) {i : Nat} (h : l.length ≤ i) : mapTo f l i = l.map f := by simp [mapTo, List.take_of_length_le h, List.drop_eq_nil_of_le h]
theorem mapTo_len {α : Type} (f : α → α) (l : List α) (i : Nat) : (mapTo f l i).length = l.length := by simp [mapTo]; omega
theorem mapTo_get {α : Type} (f : α → α) (l : List α) {i : Nat} {x : α} (h : l[i]? = some x) : (mapTo f l i)[i]? = some x := by
  have hi := (List.getElem?_eq_some_iff.1 h).1
  unfold mapTo
  rw [List.getElem?_append_right (by rw [List.length_map, List.length_take]; omega)]
  simp [List.length_take, Nat.min_eq_left (Nat.le_of_lt hi), h]
theorem mapTo_succ {α : Type} (f : α → α) (l : List α) {i : Nat} {x : α} (h : l[i]? = some x) : mapTo f l (i + 1) = (mapTo f l i).set i (f x) := by
  have hi := (List.getElem?_eq_some_iff.1 h).1
  have hd : l.drop i = x :: l.drop (i + 1) := by rw [List.drop_eq_getElem_cons hi]; congr 1; exact (List.getElem?_eq_some_iff.1 h).2
  unfold mapTo
  rw [List.take_add_one, h, hd, List.set_append_right _ _ (by rw [List.length_map, List.length_take]; omega), List.map_append]
  simp [List.length_take, Nat.min_eq_left (Nat.le_of_lt hi)]
/-- v is an empty slice of the call's own -/
def IsNil0 (base : Nat) (t : TypeId) (v : Value) (W : World) : Prop := ∃ g, v = .slice (some ⟨g, 0, none⟩) 0 0 ∧ Blk W g t #[] ∧ base ≤ g
theorem IsNil0.later {base : Nat} {t : TypeId} {v : Value} {W W' : World} (h : IsNil0 base t v W) (k : Later W W') : IsNil0 base t v W' := let ⟨g, e, hb, hg⟩ := h; ⟨g, e, hb.later k, hg⟩
/-- v is a slice whose row is the call's own -/
def IsRow (base : Nat) (t : TypeId) (size n : Nat) (xs : List Value) (v : Value) (W : World) : Prop := ∃ A k, v = .slice A n k ∧ W.ownsRow base t size (.slice A n k) n xs
theorem IsRow.later {w0 : World} {t : TypeId} {size n : Nat} {xs : List Value} {v : Value} {W W' : World} (h : IsRow w0.heap.size t size n xs v W) (k : Later W W') : IsRow w0.heap.size t size n xs v W' := let ⟨A, j, e, ho⟩ := h; ⟨A, j, e, own_later ho k⟩
end Go.Proofs.Ytcffgjhmpgdfpaa

/- Rows of the call's own, again. -/
namespace Go.Proofs.Ytcffgjhmpgdfpaa
open Go Go.RowKit
theorem own_form {W : World} {base : Nat} {e : TypeId} {size : Nat} {v : Value} {n : Nat} {xs : List Value} (h : W.ownsRow base e size v n xs) (hn : 0 < n) : ∃ g k, v = .slice (some ⟨g, 0, none⟩) n k := by
  rcases h.2 with ⟨_, h0⟩ | ⟨g, cap, cur, e, _⟩
  · omega
  · exact ⟨g, cap, e⟩
theorem pairsV_at {l : List (Int × Int)} {k : Nat} {x : Int × Int} (h : l[k]? = some x) : (pairsV l)[k * 2]? = some (.int .i64 x.1) ∧ (pairsV l)[k * 2 + 1]? = some (.int .i64 x.2) :=
  ⟨pairsV_get l k 0 x h (by omega), pairsV_get l k 1 x h (by omega)⟩
theorem own_base {W : World} {base base' : Nat} {e : TypeId} {size : Nat} {v : Value} {n : Nat} {xs : List Value} (h : W.ownsRow base e size v n xs) (hb : base' ≤ base) : W.ownsRow base' e size v n xs := World.ownsRow.mono h hb
theorem own_laterb {base : Nat} {W W' : World} {e : TypeId} {size : Nat} {v : Value} {n : Nat} {xs : List Value} (h : W.ownsRow base e size v n xs) (hL : Later W W') : W'.ownsRow base e size v n xs := by
  refine ⟨h.1, ?_⟩
  rcases h.2 with hn | ⟨g, cap, cur, rfl, hb, hgg, rest⟩
  · exact .inl hn
  · refine .inr ⟨g, cap, cur, rfl, hb, ?_, rest⟩
    rw [hL.block g (Array.getElem?_eq_some_iff.1 hgg).1]
    exact hgg
end Go.Proofs.Ytcffgjhmpgdfpaa

/- The floor whose clocks are wrong just as a truth says: walk. -/
namespace Go.Proofs.Ytcffgjhmpgdfpaa
open Go Go.RowKit
attribute [local go_sem] later_alloc2 later_alloc3 later_alloc4
theorem lawTo07_calls (lo hi : Int) (w : World) : Calls Try.prog 25 #[.agg #[.int .i64 lo, .int .i64 hi]] w fun e w' => e = .returned (.agg #[.int .i64 lo, .int .i64 hi]) ∧ Later w w' := by
  go_enter Try.func25, Try.ntmps25
  go_wp2_with fail
  refine bodyPost_ret (v := .agg #[.int .i64 lo, .int .i64 hi]) ?_ rfl ⟨rfl, ?_⟩
  · simp [results, Try.results25, go_sem]
  · (((repeat (first | exact (later_refl _) | refine later_drew ?_ | refine later_alloc ?_ _ | refine later_set ?_ _ (Nat.le_add_right _ _) _ | refine later_set ?_ _ (Nat.le_refl _) _)); done))
theorem justs_take {l : List Int} {t : Nat} {x : Int} (h : l[t]? = some x) : pairsV (justs (l.take (t + 1))) = pairsV (justs (l.take t)) ++ [.int .i64 x, .int .i64 x] := by
  rw [List.take_add_one, h]
  unfold justs
  rw [List.map_append]
  exact pairsV_one _ (x, x)
def SetPost (f : Flo) (l : List Int) (nu : Nat) (A2 : Option Addr) (n2 k2 : Nat) (A3 : Option Addr) (n3 k3 : Nat) (Aq : Option Addr) (nq kq : Nat) (w : World) (e : Ending) (w' : World) : Prop :=
  ∃ B j, e = .returned (.agg #[.int .i64 f.house.hour, .int .i64 f.house.grace, .slice B nu j, .slice A2 n2 k2, .slice A3 n3 k3, .int .i64 f.tubs, .int .i64 f.opn, .int .i64 f.closing, .slice Aq nq kq]) ∧ Later w w' ∧ FV w' (setF f l) B nu A2 n2 A3 n3 Aq nq
set_option maxRecDepth 100000 in
set_option maxHeartbeats 4000000 in
theorem set_calls {A1 A2 A3 Aq : Option Addr} {n1 k1 n2 k2 n3 k3 nq kq : Nat} {f : Flo} {Au : Option Addr} {nu ku : Nat} {l : List Int} (w : World) (hc : FV w f A1 n1 A2 n2 A3 n3 Aq nq) (hu : RI w Au nu l) (hn : nu ≤ 1000) :
    Calls Try.prog 8 #[(.agg #[.int .i64 f.house.hour, .int .i64 f.house.grace, .slice A1 n1 k1, .slice A2 n2 k2, .slice A3 n3 k3, .int .i64 f.tubs, .int .i64 f.opn, .int .i64 f.closing, .slice Aq nq kq]), .slice Au nu ku] w (SetPost f l nu A2 n2 k2 A3 n3 k3 Aq nq kq w) := by
  obtain ⟨w0, hw0⟩ : ∃ W, W = w.alloc (.cells #[.int .i64 f.house.hour, .int .i64 f.house.grace, .slice A1 n1 k1, .slice A2 n2 k2, .slice A3 n3 k3, .int .i64 f.tubs, .int .i64 f.opn, .int .i64 f.closing, .slice Aq nq kq] 28) := ⟨_, rfl⟩
  have hbox : ∀ W, Later w0 W → ∀ i, W.cell? ⟨w.heap.size, i, none⟩ = #[.int .i64 f.house.hour, .int .i64 f.house.grace, .slice A1 n1 k1, .slice A2 n2 k2, .slice A3 n3 k3, .int .i64 f.tubs, .int .i64 f.opn, .int .i64 f.closing, .slice Aq nq kq][i]? := (by rw [hw0]; exact box_cells w #[.int .i64 f.house.hour, .int .i64 f.house.grace, .slice A1 n1 k1, .slice A2 n2 k2, .slice A3 n3 k3, .int .i64 f.tubs, .int .i64 f.opn, .int .i64 f.closing, .slice Aq nq kq] 28)
  have hL0 : Later w w0 := (by rw [hw0]; simp)
  have hc0 := hc.later hL0
  have Hw0 := hide hw0
  clear hw0
  have b0 := fun W (h : Later w0 W) => hbox W h 0
  have b1 := fun W (h : Later w0 W) => hbox W h 1
  have b2 := fun W (h : Later w0 W) => hbox W h 2
  have b3 := fun W (h : Later w0 W) => hbox W h 3
  have b4 := fun W (h : Later w0 W) => hbox W h 4
  have b5 := fun W (h : Later w0 W) => hbox W h 5
  have b6 := fun W (h : Later w0 W) => hbox W h 6
  have b7 := fun W (h : Later w0 W) => hbox W h 7
  have b8 := fun W (h : Later w0 W) => hbox W h 8
  simp only [List.getElem?_toArray, List.getElem?_cons_zero, List.getElem?_cons_succ] at b0 b1 b2 b3 b4 b5 b6 b7 b8
  clear hbox
  have hs0 : w0.heap.size = w.heap.size + 1 := by rw [Hw0.out]; simp
  obtain ⟨w1, hw1⟩ : ∃ X, X = w0.alloc (.cells #[.int .i64 0, .int .i64 0, .slice none 0 0, .slice none 0 0, .slice none 0 0, .int .i64 0, .int .i64 0, .int .i64 0, .slice none 0 0] 28) := ⟨_, rfl⟩
  have hL1 : Later w0 w1 := by rw [hw1]; exact later_alloc (later_refl _) _
  have kres : Blk w1 (w.heap.size + 1) 28 #[.int .i64 0, .int .i64 0, .slice none 0 0, .slice none 0 0, .slice none 0 0, .int .i64 0, .int .i64 0, .int .i64 0, .slice none 0 0] := by
    have := Blk.new w0 28 #[.int .i64 0, .int .i64 0, .slice none 0 0, .slice none 0 0, .slice none 0 0, .int .i64 0, .int .i64 0, .int .i64 0, .slice none 0 0]
    rw [hs0] at this; rw [hw1]; exact this
  have hs1 : w1.heap.size = w.heap.size + 2 := by rw [hw1]; simp [hs0]
  have hLw := Later.trans hL0 hL1
  have hc1 := hc0.later hL1
  have hu1 := hu.later hLw
  obtain ⟨g3, hg3e⟩ : ∃ g, g = w1.heap.size := ⟨_, rfl⟩
  obtain ⟨w2, hw2⟩ : ∃ X, X = w1.alloc (.cells #[.int .i64 f.house.hour, .int .i64 f.house.grace, .slice A1 n1 k1, .slice A2 n2 k2, .slice A3 n3 k3, .int .i64 f.tubs, .int .i64 f.opn, .int .i64 f.closing, .slice Aq nq kq] 28) := ⟨_, rfl⟩
  have hL12 : Later w1 w2 := by rw [hw2]; exact later_alloc (later_refl _) _
  have kb : Blk w2 g3 28 #[.int .i64 f.house.hour, .int .i64 f.house.grace, .slice A1 n1 k1, .slice A2 n2 k2, .slice A3 n3 k3, .int .i64 f.tubs, .int .i64 f.opn, .int .i64 f.closing, .slice Aq nq kq] := by rw [hg3e, hw2]; exact Blk.new _ _ _
  have k2c := (kb.cell 2).trans (show _ = some (Value.slice A1 n1 k1) from rfl)
  have k2f := kb.frozen 2
  have hlo : w1.heap.size ≤ g3 := by omega
  have Hres := hide kres
  have Hs1 := hide hs1
  have Hw1 := hide hw1
  have Hw2 := hide hw2
  have Hg3 := hide hg3e
  have Hkb := hide kb
  have Hul := hide hu1.len
  have hg3 : g3 < w2.heap.size := kb.lt
  clear hw1 hw2 hs1 kres kb hs0 hL0 hg3e hu hc0 hc1
  go_enter Try.func8, Try.ntmps8
  go_upto_region 1 with fail
  rw [← Hw0.out, ← Hw1.out]
  go_upto_region 2 with fail
  rw [← Hw2.out, ← Hg3.out]
  go_upto_region 3 with fail
  obtain ⟨w3, hw3⟩ : ∃ X, X = w2.setCell ⟨g3, 2, none⟩ (.slice none 0 0) := ⟨_, rfl⟩
  have hb3 : Blk w3 g3 28 #[.int .i64 f.house.hour, .int .i64 f.house.grace, .slice none 0 0, .slice A2 n2 k2, .slice A3 n3 k3, .int .i64 f.tubs, .int .i64 f.opn, .int .i64 f.closing, .slice Aq nq kq] := by rw [hw3]; exact Hkb.out.set_ 2 _
  have hL13 : Later w1 w3 := by rw [hw3]; exact later_set hL12 _ hlo _
  have hz3 : w2.heap.size ≤ w3.heap.size := by rw [hw3]; simp
  rw [← hw3]
  have Hb3 := hide hb3
  clear hw3 hb3 k2c k2f b0 b1 b2 b3 b4 b5 b6 b7 b8
  go_wp2_with fail
  go_loopw [6] (fun i wr => ∃ (t : Nat) (Av : Option Addr) (kv : Nat), t ≤ nu ∧ i = .int .i64 t ∧ Later w1 wr ∧ w2.heap.size ≤ wr.heap.size ∧ Hid (Blk wr g3 28 #[.int .i64 f.house.hour, .int .i64 f.house.grace, .slice Av t kv, .slice A2 n2 k2, .slice A3 n3 k3, .int .i64 f.tubs, .int .i64 f.opn, .int .i64 f.closing, .slice Aq nq kq]) ∧ Hid (wr.ownsRow w2.heap.size 54 2 (.slice Av t kv) t (pairsV (justs (l.take t))))) (fun i _ => nu - (intOf i).toNat)
  case atStart => exact ⟨0, none, 0, Nat.zero_le _, rfl, hL13, hz3, Hb3, ⟨by simp [pairsV, justs], .inl ⟨rfl, rfl⟩⟩⟩
  case round =>
    obtain ⟨t, Av, kv, ht, rfl, hL, hz, Hbk, Hown⟩ := hrel
    by_cases hlt : t < nu
    · obtain ⟨b, o, x, rfl, hbl, hx, hx0⟩ := hu1.get hlt
      have hi1 : (t : Int) < nu := by omega
      have Hv := hide (justs_take hx)
      have hc2 : ∀ X, Later wr X → X.cell? ⟨g3, 2, none⟩ = some (.slice Av t kv) := fun X hX => Hbk.out.cells_later X hX 2
      have hxa := fun W (hW : Later wr W) => hx0 W (Later.trans hL hW)
      clear hx hx0
      have hS : Later wr wr.drew := later_drew (later_refl _)
      go_wp2_with fail
      refine wp_region_lin (w0 := wr) 13 [] rely_later (by kernel_rfl) (by kernel_rfl) (by kernel_rfl) (by kernel_rfl) (hS) (.inl rfl) ?_
      simp only [List.take_succ_cons, List.take_zero, List.drop_succ_cons, List.drop_zero]
      refine lin_det (v := ?_) (F' := ?_) (by rfl) (fun _ => by rfl) ?_ ?_ ?_
      rotate_left 2
      focus (intro xs X hX hdep; clear hdep; (try dsimp only); go_simp; (try (first | with_reducible rfl | exact ⟨rfl, rfl⟩ | (fail))))
      focus (intro xs; (try simp only [Act.put, List.setIfInBounds_toArray, List.set_cons_zero, List.set_cons_succ, Nat.reduceAdd]); rfl)
      refine lin_det (v := ?_) (F' := ?_) (by rfl) (fun _ => by rfl) ?_ ?_ ?_
      rotate_left 2
      focus (intro xs X hX hdep; clear hdep; (try dsimp only); go_simp; (try (first | with_reducible rfl | exact ⟨rfl, rfl⟩ | (fail))))
      focus (intro xs; (try simp only [Act.put, List.setIfInBounds_toArray, List.set_cons_zero, List.set_cons_succ, Nat.reduceAdd]); rfl)
      refine lin_det (v := ?_) (F' := ?_) (by rfl) (fun _ => by rfl) ?_ ?_ ?_
      rotate_left 2
      focus (intro xs X hX hdep; clear hdep; (try dsimp only); go_simp; (try (first | with_reducible rfl | exact ⟨rfl, rfl⟩ | (fail))))
      focus (intro xs; (try simp only [Act.put, List.setIfInBounds_toArray, List.set_cons_zero, List.set_cons_succ, Nat.reduceAdd]); rfl)
      refine lin_det (v := ?_) (F' := ?_) (by rfl) (fun _ => by rfl) ?_ ?_ ?_
      rotate_left 2
      focus (intro xs X hX hdep; clear hdep; (try dsimp only); go_simp; (try (first | with_reducible rfl | exact ⟨rfl, rfl⟩ | (fail))))
      focus (intro xs; (try simp only [Act.put, List.setIfInBounds_toArray, List.set_cons_zero, List.set_cons_succ, Nat.reduceAdd]); rfl)
      refine lin_det (v := ?_) (F' := ?_) (by rfl) (fun _ => by rfl) ?_ ?_ ?_
      rotate_left 2
      focus (intro xs X hX hdep; clear hdep; (try dsimp only); go_simp; (try (first | with_reducible rfl | exact ⟨rfl, rfl⟩ | (fail))))
      focus (intro xs; (try simp only [Act.put, List.setIfInBounds_toArray, List.set_cons_zero, List.set_cons_succ, Nat.reduceAdd]); rfl)
      refine lin_det (v := ?_) (F' := ?_) (by rfl) (fun _ => by rfl) ?_ ?_ ?_
      rotate_left 2
      focus (intro xs X hX hdep; clear hdep; (try dsimp only); go_simp; (try (first | with_reducible rfl | exact ⟨rfl, rfl⟩ | (fail))))
      focus (intro xs; (try simp only [Act.put, List.setIfInBounds_toArray, List.set_cons_zero, List.set_cons_succ, Nat.reduceAdd]); rfl)
      refine lin_det (v := ?_) (F' := ?_) (by rfl) (fun _ => by rfl) ?_ ?_ ?_
      rotate_left 2
      focus (intro xs X hX hdep; clear hdep; (try dsimp only); go_simp; (try (first | with_reducible rfl | exact ⟨rfl, rfl⟩ | (fail))))
      focus (intro xs; (try simp only [Act.put, List.setIfInBounds_toArray, List.set_cons_zero, List.set_cons_succ, Nat.reduceAdd]); rfl)
      refine lin_det (v := ?_) (F' := ?_) (by rfl) (fun _ => by rfl) ?_ ?_ ?_
      rotate_left 2
      focus (intro xs X hX hdep; clear hdep; (try dsimp only); go_simp; (try (first | with_reducible rfl | exact ⟨rfl, rfl⟩ | (fail))))
      focus (intro xs; (try simp only [Act.put, List.setIfInBounds_toArray, List.set_cons_zero, List.set_cons_succ, Nat.reduceAdd]); rfl)
      refine lin_det (v := ?_) (F' := ?_) (by rfl) (fun _ => by rfl) ?_ ?_ ?_
      rotate_left 2
      focus (intro xs X hX hdep; clear hdep; (try dsimp only); go_simp; (try (first | with_reducible rfl | exact ⟨rfl, rfl⟩ | (fail))))
      focus (intro xs; (try simp only [Act.put, List.setIfInBounds_toArray, List.set_cons_zero, List.set_cons_succ, Nat.reduceAdd]); rfl)
      refine lin_det (v := ?_) (F' := ?_) (by rfl) (fun _ => by rfl) ?_ ?_ ?_
      rotate_left 2
      focus (intro xs X hX hdep; clear hdep; (try dsimp only); go_simp; (try (first | with_reducible rfl | exact ⟨rfl, rfl⟩ | (fail))))
      focus (intro xs; (try simp only [Act.put, List.setIfInBounds_toArray, List.set_cons_zero, List.set_cons_succ, Nat.reduceAdd]); rfl)
      refine lin_det (v := ?_) (F' := ?_) (by rfl) (fun _ => by rfl) ?_ ?_ ?_
      rotate_left 2
      focus (intro xs X hX hdep; clear hdep; (try dsimp only); go_simp; (try (first | with_reducible rfl | exact ⟨rfl, rfl⟩ | (fail))))
      focus (intro xs; (try simp only [Act.put, List.setIfInBounds_toArray, List.set_cons_zero, List.set_cons_succ, Nat.reduceAdd]); rfl)
      refine lin_det (v := ?_) (F' := ?_) (by rfl) (fun _ => by rfl) ?_ ?_ ?_
      rotate_left 2
      focus (intro xs X hX hdep; clear hdep; (try dsimp only); go_simp; (try (first | with_reducible rfl | exact ⟨rfl, rfl⟩ | (fail))))
      focus (intro xs; (try simp only [Act.put, List.setIfInBounds_toArray, List.set_cons_zero, List.set_cons_succ, Nat.reduceAdd]); rfl)
      refine lin_any (IsNew 54 [.int .i64 x, .int .i64 x]) false (fun v W W' k h => IsNew.later h k) (F' := ?_) (by rfl) (fun _ => by rfl) ?_ ?_ ?_
      rotate_left 1
      focus (intro xs X hX hdep; skip; clear hdep; intro K hK; (try dsimp only); go_simp; (exact hK.out _ _ rfl (later_alloc (later_refl _) _) ⟨_, rfl, Blk.new _ _ _⟩ (fun h => by cases h)))
      focus (intro xs; (try simp only [Act.put, List.setIfInBounds_toArray, List.set_cons_zero, List.set_cons_succ, Nat.reduceAdd]); rfl)
      intro xs W hW hf hfr hfb
      obtain ⟨g, hx9, hbn⟩ := (show IsNew _ _ _ _ from hf 12)
      simp only [hx9, Nat.reduceAdd, Nat.zero_add]
      clear hf hfr hfb hx9
      have hown4 := own_laterb Hown.out hW
      have hbk4 := Hbk.out.later hW
      have hL4 := Later.trans hL hW
      have hz4 : w2.heap.size ≤ W.heap.size := Nat.le_trans hz hW.size
      go_wp2_with (at_builtin; refine appG rfl w2.heap.size _ _ 22 rfl 54 (.agg #[.int .i64 0, .int .i64 0]) 2 16 Try.underlying22 rrange_info rfl (by omega) (.slice Av t kv) t (pairsV (justs (l.take t))) rfl hz4 hown4 ⟨g, 0, none⟩ 1 1 [.int .i64 x, .int .i64 x] rfl rfl hbn.one (by simp [Value.oneCell']) (by omega) (by omega) (by omega) ?_)
      intro v' w4 hap
      obtain ⟨A', c', hv', _⟩ := own_slice (w0 := w2) hap.own
      subst hv'
      have hr4 : ∀ g, (Value.slice Av t kv).ownBlock = some g → w2.heap.size ≤ g := fun g hg => (hown4.lt g hg).1
      have hL5 := Later.grown hL4 hap.grown fun g hg => Nat.le_trans hL12.size (hr4 g hg)
      have hz5 : w2.heap.size ≤ (w4.setCell ⟨g3, 2, none⟩ (.slice A' (t + 1) c')).heap.size := by have := hap.grown.size; simp; omega
      have hb4' := Blk.of_eq (hap.grown.block g3 hbk4.lt (fun e => by have := hr4 g3 e.symm; omega)) hbk4
      have c24 := hb4'.cell 2
      have f24 := hb4'.frozen 2
      simp only [List.getElem?_toArray, List.getElem?_cons_zero, List.getElem?_cons_succ] at c24
      have hS6 := later_set hL5 ⟨g3, 2, none⟩ hlo (.slice A' (t + 1) c')
      have hb6 := hb4'.set_ 2 (.slice A' (t + 1) c')
      have ho6 := own_block (W' := w4.setCell ⟨g3, 2, none⟩ (.slice A' (t + 1) c')) hap.own fun g hg => Below.heap_setCell w4 _ _ g (by have := (hap.own.lt g hg).1; show g ≠ g3; omega)
      rw [← Hv.out] at ho6
      have Hb6 := hide hb6
      have Ho6 := hide ho6
      have HS6 := hide hS6
      clear hb6 ho6 hown4 hbk4 hr4 hap hb4' hS6 hL5 hL4
      go_wp2_with fail
      go_roundw
      case rel => exact ⟨t + 1, A', c', by omega, by go_num, HS6.out, hz5, Hb6, Ho6⟩
      case measure => simp [intOf]; omega
    · have hnt : nu = t := by omega
      subst hnt
      obtain ⟨hr1, hf1⟩ : Reads wr wr.heap.size 2 Av nu (pairsV (justs l)) ∧ Fresh w2 wr Av := by
        have ho := Hown.out
        rw [List.take_of_length_le (by rw [← Hul.out]; exact Nat.le_refl _)] at ho
        obtain ⟨A', c', e, hr⟩ := own_slice (w0 := w2) ho
        injection e with e1 e2 e3
        subst e1
        exact ⟨hr, own_fresh (w0 := w2) ho⟩
      have Hr1 := hide hr1
      have Hf1 := hide hf1
      have hkr := (Hres.out.later hL)
      have hke := hkr.row #[.int .i64 f.house.hour, .int .i64 f.house.grace, .slice Av nu kv, .slice A2 n2 k2, .slice A3 n3 k3, .int .i64 f.tubs, .int .i64 f.opn, .int .i64 f.closing, .slice Aq nq kq]
      have Hkr := hide hkr
      have Hke := hide hke
      clear hkr hke hr1 hf1 Hown
      go_wp2_with (first | (refine wpList_load_row rfl _ _ rfl g3 rfl _ _ _ _ Hbk.out Try.underlying28 rfl (by kernel_rfl) ?_) | (refine wpList_store_row rfl _ _ _ rfl (w.heap.size + 1) _ rfl rfl _ _ Hkr.out (by kernel_rfl) rfl (by simp [Value.oneCell']) ?_))
      have hs1 := Hs1.out
      have hs12 := hL12.size
      have hk6 := ((Kept.refl (w.heap.size + 1) wr).setRow #[.int .i64 f.house.hour, .int .i64 f.house.grace, .slice Av nu kv, .slice A2 n2 k2, .slice A3 n3 k3, .int .i64 f.tubs, .int .i64 f.opn, .int .i64 f.closing, .slice Aq nq kq])
      have hLF := later_setRow (Later.trans hLw hL) (show w.heap.size ≤ w.heap.size + 1 by omega) #[.int .i64 f.house.hour, .int .i64 f.house.grace, .slice Av nu kv, .slice A2 n2 k2, .slice A3 n3 k3, .int .i64 f.tubs, .int .i64 f.opn, .int .i64 f.closing, .slice Aq nq kq]
      have hcF := hc.later hLF
      refine bodyPost_ret (results_cell_row (P := Try.prog) (fn := Try.f8) (p := 4) (ty := 28) (by kernel_rfl) _ _ (w.heap.size + 1) _ _ _ _ rfl Hke.out Try.underlying28 (by kernel_rfl) (by kernel_rfl)) rfl ⟨_, _, rfl, hLF, ⟨?_, hcF.cv.tk, hcF.cv.cp⟩, hcF.q⟩
      exact Reads.kept Hr1.out (by omega) (fun b o e => by have := (Hf1.out b o e).1; omega) hk6
end Go.Proofs.Ytcffgjhmpgdfpaa

/- The tubs' asked: what lies in memory. -/
namespace Go.Proofs.Ytcffgjhmpgdfpaa
open Go Go.RowKit
theorem own_own_ne {W : World} {b1 b2 : Nat} {e1 e2 : TypeId} {s1 s2 : Nat} {v1 v2 : Value} {n1 n2 : Nat} {xs1 xs2 : List Value} (h1 : W.ownsRow b1 e1 s1 v1 n1 xs1) (h2 : W.ownsRow b2 e2 s2 v2 n2 xs2) (he : e1 ≠ e2) (g : Nat) (hg : v2.ownBlock = some g) : v1.ownBlock ≠ some g := by
  intro hg1
  rcases h1.2 with ⟨rfl, _⟩ | ⟨g1, c1, cur1, rfl, _, k1, _⟩
  · cases hg1
  · rcases h2.2 with ⟨rfl, _⟩ | ⟨g2, c2, cur2, rfl, _, k2, _⟩
    · cases hg
    · injection hg with hg
      injection hg1 with hg1
      have e1' : g1 = g := hg1
      have e2' : g2 = g := hg
      subst e1' e2'
      rw [k1] at k2
      injection k2 with k2
      injection k2 with _ k2
      exact he k2
theorem own_blk_ne {W : World} {b1 : Nat} {e t : TypeId} {s n g : Nat} {v : Value} {xs : List Value} {cs : Array Value} (h1 : W.ownsRow b1 e s v n xs) (h2 : Blk W g t cs) (he : e ≠ t) : v.ownBlock ≠ some g := by
  intro hg1
  rcases h1.2 with ⟨rfl, _⟩ | ⟨g1, c1, cur1, rfl, _, k1, _⟩
  · cases hg1
  · injection hg1 with hg1
    have e1' : g1 = g := hg1
    subst e1'
    unfold Blk at h2
    rw [k1] at h2
    injection h2 with h2
    injection h2 with _ h2
    exact he h2
theorem blk_ne {w : World} {g g' : Nat} {t t' : TypeId} {cs cs' : Array Value} (h : Blk w g t cs) (h' : Blk w g' t' cs') (ht : t ≠ t') : g ≠ g' := fun e => by
  subst e
  unfold Blk at h h'
  rw [h] at h'
  injection h' with h'
  injection h' with _ h'
  exact ht h'
/-- asked, under way: the work, its two rows -/
structure AskSt (w1 W : World) (bw : Nat) (pre : List Value) (n m : Nat) (v u : Value) (l : List Int) (r : List (Int × Int)) : Prop where
  later : Later w1 W
  lo : w1.heap.size ≤ bw
  len : pre.length = 9
  blk : Blk W bw 81 (pre ++ [v, u]).toArray
  own1 : W.ownsRow w1.heap.size 3 1 v n (ints l)
  own2 : W.ownsRow w1.heap.size 53 2 u m (pairsV r)
section
variable {w1 W W' : World} {bw n m : Nat} {pre : List Value} {v u v' : Value} {l : List Int} {r : List (Int × Int)}
theorem AskSt.lat (h : AskSt w1 W bw pre n m v u l r) (k : Later W W') : AskSt w1 W' bw pre n m v u l r :=
  ⟨Later.trans h.later k, h.lo, h.len, h.blk.later k, own_later2 h.own1 k, own_later2 h.own2 k⟩
theorem AskSt.put9 (h : AskSt w1 W bw pre n m v u l r) {j : Int} (ko : W'.ownsRow w1.heap.size 3 1 v' (n + 1) (ints l ++ [.int .i64 j])) (kl : Later w1 W') (kk : ∀ b, b < W.heap.size → v.ownBlock ≠ some b → W'.heap[b]? = W.heap[b]?) : AskSt w1 (W'.setCell ⟨bw, 9, none⟩ v') bw pre (n + 1) m v' u (l ++ [j]) r := by
  have hb := Blk.of_eq (kk bw h.blk.lt (own_blk_ne h.own1 h.blk (by decide))) h.blk
  have h2 := own_block (W' := W') h.own2 fun g hg => kk g (h.own2.lt g hg).2 (own_own_ne h.own1 h.own2 (by decide) g hg)
  refine ⟨later_set kl _ h.lo _, h.lo, h.len, ?_, ?_, ?_⟩
  · have := hb.set_ 9 v'
    have e : ((pre ++ [v, u]).toArray.setIfInBounds 9 v') = (pre ++ [v', u]).toArray := by
      rw [List.setIfInBounds_toArray, List.set_append_right _ _ (by rw [h.len]; omega), h.len]; rfl
    rwa [e] at this
  · have := own_block (W' := W'.setCell ⟨bw, 9, none⟩ v') ko fun g hg => Below.heap_setCell W' _ _ g (by
      intro e
      exact own_blk_ne ko hb (by decide) (by rw [hg, e]))
    rw [show ints (l ++ [j]) = ints l ++ [.int .i64 j] by simp [ints]]
    exact this
  · exact own_block (W' := W'.setCell ⟨bw, 9, none⟩ v') h2 fun g hg => Below.heap_setCell W' _ _ g (by
      intro e
      exact own_blk_ne h2 hb (by decide) (by rw [hg, e]))
theorem AskSt.put10 (h : AskSt w1 W bw pre n m v u l r) {j : Int × Int} (ko : W'.ownsRow w1.heap.size 53 2 v' (m + 1) (pairsV r ++ [.int .i64 j.1, .int .i64 j.2])) (kl : Later w1 W') (kk : ∀ b, b < W.heap.size → u.ownBlock ≠ some b → W'.heap[b]? = W.heap[b]?) : AskSt w1 (W'.setCell ⟨bw, 10, none⟩ v') bw pre n (m + 1) v v' l (r ++ [j]) := by
  have hb := Blk.of_eq (kk bw h.blk.lt (own_blk_ne h.own2 h.blk (by decide))) h.blk
  have h2 := own_block (W' := W') h.own1 fun g hg => kk g (h.own1.lt g hg).2 (own_own_ne h.own2 h.own1 (by decide) g hg)
  refine ⟨later_set kl _ h.lo _, h.lo, h.len, ?_, ?_, ?_⟩
  · have := hb.set_ 10 v'
    have e : ((pre ++ [v, u]).toArray.setIfInBounds 10 v') = (pre ++ [v, v']).toArray := by
      rw [List.setIfInBounds_toArray, List.set_append_right _ _ (by rw [h.len]; omega), h.len]; rfl
    rwa [e] at this
  · exact own_block (W' := W'.setCell ⟨bw, 10, none⟩ v') h2 fun g hg => Below.heap_setCell W' _ _ g (by
      intro e
      exact own_blk_ne h2 hb (by decide) (by rw [hg, e]))
  · have := own_block (W' := W'.setCell ⟨bw, 10, none⟩ v') ko fun g hg => Below.heap_setCell W' _ _ g (by
      intro e
      exact own_blk_ne ko hb (by decide) (by rw [hg, e]))
    rw [pairsV_one]
    exact this
end
/-! ### the tubs so far -/
def givenTo (f : Flo) (j : Nat) : List Nat := (List.range j).filter fun n => !isOpen f.house n
theorem givenTo_succ (f : Flo) (j : Nat) : givenTo f (j + 1) = givenTo f j ++ if isOpen f.house j = true then [] else [j] := by
  unfold givenTo
  rw [List.range_succ, List.filter_append]
  cases h : isOpen f.house j <;> simp [h]
theorem givenTo_len (f : Flo) (j : Nat) : (givenTo f j).length ≤ j := by
  unfold givenTo
  exact Nat.le_trans (List.length_filter_le _ _) (by simp)
theorem free_tub {f : Flo} (ok : OkF f) {j : Nat} (hj : (j : Int) < f.tubs) :
    askedErr f.house (freeDue f.house j) = (if isOpen f.house j = true then 8 else 0) ∧ (isOpen f.house j = false → freeOut f.house j = bR (freeF f.house j) (truths f.house)) := by
  have ht := ok.tubs
  have hne := (truths_ne ok.house).2 ok.ne
  have hd : freeDue f.house j = if isOpen f.house j = true then 8 else 0 := by
    unfold freeDue
    rw [if_neg (by unfold inB; simp; omega)]
  constructor
  · rw [hd]
    split
    · exact askedErr_due ok.house (by omega)
    · exact askedErr_ok ok.house hne
  · intro ho
    unfold freeOut
    rw [hd, ho, if_neg (show ¬ false = true by simp), if_pos (askedErr_ok ok.house hne), free_bR ok.house hne]
end Go.Proofs.Ytcffgjhmpgdfpaa

/- The laws' Floor: walk. -/
namespace Go.Proofs.Ytcffgjhmpgdfpaa
open Go Go.RowKit
theorem typed_ne {W : World} {A : Option Addr} {t t' : TypeId} {g : Nat} {cs : Array Value} (h : Typed W A t) (hb : Blk W g t' cs) (ht : t ≠ t') : ∀ b o, A = some ⟨b, o, none⟩ → b ≠ g := fun b o e => by
  obtain ⟨cs', hb'⟩ := h b o e
  exact blk_ne hb' hb ht
theorem trange_info : (Try.prog.info? 53).map (fun i => (i.zero, i.size, i.bytes)) = some (some (.agg #[.int .i64 0, .int .i64 0]), 2, 16) := by kernel_rfl
theorem build_floor (a b : Int) (A1 A2 A3 : Option Addr) (n1 k1 n2 k2 n3 k3 : Nat) (x y z : Int) (W : World) :
    (Instr.build 48 #[(0, .agg #[.int .i64 a, .int .i64 b, .slice A1 n1 k1, .slice A2 n2 k2, .slice A3 n3 k3]), (1, .int .i64 x), (2, .int .i64 y), (3, .int .i64 z)]).run Try.prog W = .ok (.agg #[.int .i64 a, .int .i64 b, .slice A1 n1 k1, .slice A2 n2 k2, .slice A3 n3 k3, .int .i64 x, .int .i64 y, .int .i64 z, .slice none 0 0]) W :=
  run_build W _ _ _ (by kernel_rfl)
attribute [local go_sem] later_alloc2 later_alloc3 later_alloc4 build_floor
/-- v is a House of the program that reads as c, each row of its type -/
def IsHouT (c : Hou) (n1 n2 n3 : Nat) (v : Value) (W : World) : Prop :=
  ∃ B1 j1 B2 j2 B3 j3, v = .agg #[.int .i64 c.hour, .int .i64 c.grace, .slice B1 n1 j1, .slice B2 n2 j2, .slice B3 n3 j3] ∧ CV W c B1 n1 B2 n2 B3 n3 ∧ Typed W B1 65 ∧ Typed W B2 73 ∧ Typed W B3 74
theorem IsHouT.later {c : Hou} {n1 n2 n3 : Nat} {v : Value} {W W' : World} (h : IsHouT c n1 n2 n3 v W) (k : Later W W') : IsHouT c n1 n2 n3 v W' := by
  obtain ⟨B1, j1, B2, j2, B3, j3, e, hc, h1, h2, h3⟩ := h
  exact ⟨B1, j1, B2, j2, B3, j3, e, hc.later k, h1.later k, h2.later k, h3.later k⟩
def IsFloT (f : Flo) (n1 n2 n3 : Nat) (v : Value) (W : World) : Prop :=
  ∃ B1 j1 B2 j2 B3 j3, v = .agg #[.int .i64 f.house.hour, .int .i64 f.house.grace, .slice B1 n1 j1, .slice B2 n2 j2, .slice B3 n3 j3, .int .i64 f.tubs, .int .i64 f.opn, .int .i64 f.closing, .slice none 0 0] ∧ CV W f.house B1 n1 B2 n2 B3 n3 ∧ Typed W B1 65 ∧ Typed W B2 73 ∧ Typed W B3 74
theorem IsFloT.later {f : Flo} {n1 n2 n3 : Nat} {v : Value} {W W' : World} (h : IsFloT f n1 n2 n3 v W) (k : Later W W') : IsFloT f n1 n2 n3 v W' := by
  obtain ⟨B1, j1, B2, j2, B3, j3, e, hc, h1, h2, h3⟩ := h
  exact ⟨B1, j1, B2, j2, B3, j3, e, hc.later k, h1.later k, h2.later k, h3.later k⟩
def FloorPost (f : Flo) (n1 n2 n3 nq : Nat) (w : World) (e : Ending) (w' : World) : Prop :=
  ∃ B1 j1 B2 j2 B3 j3 Bq jq, e = .returned (.agg #[.int .i64 f.house.hour, .int .i64 f.house.grace, .slice B1 n1 j1, .slice B2 n2 j2, .slice B3 n3 j3, .int .i64 f.tubs, .int .i64 f.opn, .int .i64 f.closing, .slice Bq nq jq]) ∧ Later w w' ∧ FV w' f B1 n1 B2 n2 B3 n3 Bq nq
set_option maxRecDepth 100000 in
set_option maxHeartbeats 4000000 in
theorem lawFloor_calls {A1 A2 A3 Aq : Option Addr} {n1 k1 n2 k2 n3 k3 nq kq : Nat} {f : Flo} (w : World) (hc : FV w f A1 n1 A2 n2 A3 n3 Aq nq) (hn1 : n1 ≤ 1000) (hn2 : n2 ≤ 1000) (hn3 : n3 ≤ 1000) (hnq : nq ≤ 1000) :
    Calls Try.prog 11 #[(.agg #[.int .i64 f.house.hour, .int .i64 f.house.grace, .slice A1 n1 k1, .slice A2 n2 k2, .slice A3 n3 k3, .int .i64 f.tubs, .int .i64 f.opn, .int .i64 f.closing, .slice Aq nq kq])] w (FloorPost f n1 n2 n3 nq w) := by
  obtain ⟨w0, hw0⟩ : ∃ W, W = w.alloc (.cells #[.int .i64 f.house.hour, .int .i64 f.house.grace, .slice A1 n1 k1, .slice A2 n2 k2, .slice A3 n3 k3, .int .i64 f.tubs, .int .i64 f.opn, .int .i64 f.closing, .slice Aq nq kq] 28) := ⟨_, rfl⟩
  have hbox : ∀ W, Later w0 W → ∀ i, W.cell? ⟨w.heap.size, i, none⟩ = #[.int .i64 f.house.hour, .int .i64 f.house.grace, .slice A1 n1 k1, .slice A2 n2 k2, .slice A3 n3 k3, .int .i64 f.tubs, .int .i64 f.opn, .int .i64 f.closing, .slice Aq nq kq][i]? := (by rw [hw0]; exact box_cells w #[.int .i64 f.house.hour, .int .i64 f.house.grace, .slice A1 n1 k1, .slice A2 n2 k2, .slice A3 n3 k3, .int .i64 f.tubs, .int .i64 f.opn, .int .i64 f.closing, .slice Aq nq kq] 28)
  have hL0 : Later w w0 := (by rw [hw0]; simp)
  have hc0 := hc.later hL0
  have Hw0 := hide hw0
  clear hw0
  have b0 := fun W (h : Later w0 W) => hbox W h 0
  have b1 := fun W (h : Later w0 W) => hbox W h 1
  have b2 := fun W (h : Later w0 W) => hbox W h 2
  have b3 := fun W (h : Later w0 W) => hbox W h 3
  have b4 := fun W (h : Later w0 W) => hbox W h 4
  have b5 := fun W (h : Later w0 W) => hbox W h 5
  have b6 := fun W (h : Later w0 W) => hbox W h 6
  have b7 := fun W (h : Later w0 W) => hbox W h 7
  have b8 := fun W (h : Later w0 W) => hbox W h 8
  simp only [List.getElem?_toArray, List.getElem?_cons_zero, List.getElem?_cons_succ] at b0 b1 b2 b3 b4 b5 b6 b7 b8
  clear hbox
  have hs0 : w0.heap.size = w.heap.size + 1 := by rw [Hw0.out]; simp
  obtain ⟨w1, hw1⟩ : ∃ X, X = w0.alloc (.cells #[.int .i64 0, .int .i64 0, .slice none 0 0, .slice none 0 0, .slice none 0 0, .int .i64 0, .int .i64 0, .int .i64 0, .slice none 0 0] 48) := ⟨_, rfl⟩
  have hL1 : Later w0 w1 := by rw [hw1]; exact later_alloc (later_refl _) _
  have kres : Blk w1 (w.heap.size + 1) 48 #[.int .i64 0, .int .i64 0, .slice none 0 0, .slice none 0 0, .slice none 0 0, .int .i64 0, .int .i64 0, .int .i64 0, .slice none 0 0] := by
    have := Blk.new w0 48 #[.int .i64 0, .int .i64 0, .slice none 0 0, .slice none 0 0, .slice none 0 0, .int .i64 0, .int .i64 0, .int .i64 0, .slice none 0 0]
    rw [hs0] at this; rw [hw1]; exact this
  have hs1 : w1.heap.size = w.heap.size + 2 := by rw [hw1]; simp [hs0]
  have hLw := Later.trans hL0 hL1
  have hc1 := hc0.later hL1
  replace b0 := fun X (h : Later w1 X) => b0 X (Later.trans hL1 h)
  replace b1 := fun X (h : Later w1 X) => b1 X (Later.trans hL1 h)
  replace b2 := fun X (h : Later w1 X) => b2 X (Later.trans hL1 h)
  replace b3 := fun X (h : Later w1 X) => b3 X (Later.trans hL1 h)
  replace b4 := fun X (h : Later w1 X) => b4 X (Later.trans hL1 h)
  replace b5 := fun X (h : Later w1 X) => b5 X (Later.trans hL1 h)
  replace b6 := fun X (h : Later w1 X) => b6 X (Later.trans hL1 h)
  replace b7 := fun X (h : Later w1 X) => b7 X (Later.trans hL1 h)
  replace b8 := fun X (h : Later w1 X) => b8 X (Later.trans hL1 h)
  have Hres := hide kres
  have Hs1 := hide hs1
  have Hw1 := hide hw1
  have Hql := hide hc1.q.len
  clear hw1 hs1 kres hc hs0 hL0 hL1 hc0
  go_enter Try.func11, Try.ntmps11
  go_upto_region 1 with fail
  rw [← Hw0.out, ← Hw1.out]
  clear Hw0 Hw1
  have hS1 : Later w1 w1.drew := later_drew (later_refl _)
  refine wp_region_lin (w0 := w1) 11 [] rely_later (by kernel_rfl) (by kernel_rfl) (by kernel_rfl) (by kernel_rfl) (hS1) (.inl rfl) ?_
  simp only [List.take_succ_cons, List.take_zero, List.drop_succ_cons, List.drop_zero]
  refine lin_det (v := ?_) (F' := ?_) (by rfl) (fun _ => by rfl) ?_ ?_ ?_
  rotate_left 2
  focus (intro xs X hX hdep; clear hdep; (try dsimp only); go_simp; (try (first | with_reducible rfl | exact ⟨rfl, rfl⟩ | (fail))))
  focus (intro xs; (try simp only [Act.put, List.setIfInBounds_toArray, List.set_cons_zero, List.set_cons_succ, Nat.reduceAdd]); rfl)
  refine lin_det (v := ?_) (F' := ?_) (by rfl) (fun _ => by rfl) ?_ ?_ ?_
  rotate_left 2
  focus (intro xs X hX hdep; clear hdep; (try dsimp only); go_simp; (try (first | with_reducible rfl | exact ⟨rfl, rfl⟩ | (fail))))
  focus (intro xs; (try simp only [Act.put, List.setIfInBounds_toArray, List.set_cons_zero, List.set_cons_succ, Nat.reduceAdd]); rfl)
  refine lin_any (IsHouT f.house n1 n2 n3) false (fun v W W' k h => IsHouT.later h k) (F' := ?_) (by rfl) (fun _ => by rfl) ?_ ?_ ?_
  rotate_left 1
  focus (intro xs X hX hdep; skip; clear hdep; intro K hK; (try dsimp only); go_simp; (refine (lawHouse_calls (c := f.house) (k1 := k1) (k2 := k2) (k3 := k3) X (hc1.later hX).cv hn1 hn2 hn3).mono ?_; rintro e W' ⟨B1, j1, B2, j2, B3, j3, rfl, hL, hcv, _, _, _, h1, h2, h3⟩; exact hK.out _ _ rfl hL ⟨B1, j1, B2, j2, B3, j3, rfl, hcv, h1, h2, h3⟩ (fun h => by cases h)))
  focus (intro xs; (try simp only [Act.put, List.setIfInBounds_toArray, List.set_cons_zero, List.set_cons_succ, Nat.reduceAdd]); rfl)
  refine lin_det (v := ?_) (F' := ?_) (by rfl) (fun _ => by rfl) ?_ ?_ ?_
  rotate_left 2
  focus (intro xs X hX hdep; clear hdep; (try dsimp only); go_simp; (try (first | with_reducible rfl | exact ⟨rfl, rfl⟩ | (fail))))
  focus (intro xs; (try simp only [Act.put, List.setIfInBounds_toArray, List.set_cons_zero, List.set_cons_succ, Nat.reduceAdd]); rfl)
  refine lin_det (v := ?_) (F' := ?_) (by rfl) (fun _ => by rfl) ?_ ?_ ?_
  rotate_left 2
  focus (intro xs X hX hdep; clear hdep; (try dsimp only); go_simp; (try (first | with_reducible rfl | exact ⟨rfl, rfl⟩ | (fail))))
  focus (intro xs; (try simp only [Act.put, List.setIfInBounds_toArray, List.set_cons_zero, List.set_cons_succ, Nat.reduceAdd]); rfl)
  refine lin_det (v := ?_) (F' := ?_) (by rfl) (fun _ => by rfl) ?_ ?_ ?_
  rotate_left 2
  focus (intro xs X hX hdep; clear hdep; (try dsimp only); go_simp; (try (first | with_reducible rfl | exact ⟨rfl, rfl⟩ | (fail))))
  focus (intro xs; (try simp only [Act.put, List.setIfInBounds_toArray, List.set_cons_zero, List.set_cons_succ, Nat.reduceAdd]); rfl)
  refine lin_det (v := ?_) (F' := ?_) (by rfl) (fun _ => by rfl) ?_ ?_ ?_
  rotate_left 2
  focus (intro xs X hX hdep; clear hdep; (try dsimp only); go_simp; (try (first | with_reducible rfl | exact ⟨rfl, rfl⟩ | (fail))))
  focus (intro xs; (try simp only [Act.put, List.setIfInBounds_toArray, List.set_cons_zero, List.set_cons_succ, Nat.reduceAdd]); rfl)
  refine lin_det (v := ?_) (F' := ?_) (by rfl) (fun _ => by rfl) ?_ ?_ ?_
  rotate_left 2
  focus (intro xs X hX hdep; clear hdep; (try dsimp only); go_simp; (try (first | with_reducible rfl | exact ⟨rfl, rfl⟩ | (fail))))
  focus (intro xs; (try simp only [Act.put, List.setIfInBounds_toArray, List.set_cons_zero, List.set_cons_succ, Nat.reduceAdd]); rfl)
  refine lin_det (v := ?_) (F' := ?_) (by rfl) (fun _ => by rfl) ?_ ?_ ?_
  rotate_left 2
  focus (intro xs X hX hdep; clear hdep; (try dsimp only); go_simp; (try (first | with_reducible rfl | exact ⟨rfl, rfl⟩ | (fail))))
  focus (intro xs; (try simp only [Act.put, List.setIfInBounds_toArray, List.set_cons_zero, List.set_cons_succ, Nat.reduceAdd]); rfl)
  refine lin_any (IsFloT f n1 n2 n3) false (fun v W W' k h => IsFloT.later h k) (F' := ?_) (by rfl) (fun _ => by rfl) ?_ ?_ ?_
  rotate_left 1
  focus (intro xs X hX hdep; obtain ⟨B1, j1, B2, j2, B3, j3, e, hcv, h1, h2, h3⟩ := (show IsHouT _ _ _ _ _ _ from hdep 2 1 (by kernel_rfl)); clear hdep; intro K hK; (try dsimp only); go_simp; (exact hK.out _ _ rfl (later_refl _) ⟨B1, j1, B2, j2, B3, j3, rfl, hcv, h1, h2, h3⟩ (fun h => by cases h)))
  focus (intro xs; (try simp only [Act.put, List.setIfInBounds_toArray, List.set_cons_zero, List.set_cons_succ, Nat.reduceAdd]); rfl)
  refine lin_any (IsBox 48 [.int .i64 0, .int .i64 0, .slice none 0 0, .slice none 0 0, .slice none 0 0, .int .i64 0, .int .i64 0, .int .i64 0, .slice none 0 0]) true (fun v W W' k h => IsBox.later h k) (F' := ?_) (by rfl) (fun _ => by rfl) ?_ ?_ ?_
  rotate_left 1
  focus (intro xs X hX hdep; skip; clear hdep; intro K hK; (try dsimp only); go_simp; (exact hK.out _ _ rfl (later_alloc (later_refl _) _) ⟨_, rfl, Blk.new _ _ _⟩ (fun _ => ⟨_, rfl, Nat.le_refl _, by simp⟩)))
  focus (intro xs; (try simp only [Act.put, List.setIfInBounds_toArray, List.set_cons_zero, List.set_cons_succ, Nat.reduceAdd]); rfl)
  intro xs w2 hW hf hfr hfb
  obtain ⟨B1, j1, B2, j2, B3, j3, hx9, hcv, t1, t2, t3⟩ := (show IsFloT _ _ _ _ _ _ from hf 9)
  obtain ⟨g3, hx10, hbk⟩ := (show IsBox _ _ _ _ from hf 10)
  obtain ⟨b', hb1', hlo, _⟩ := hfb 10 rfl
  rw [hx10] at hb1'
  obtain rfl : g3 = b' := by injection hb1'
  simp only [hx9, hx10, Nat.reduceAdd, Nat.zero_add]
  have hne1 := typed_ne t1 hbk (by decide)
  have hne2 := typed_ne t2 hbk (by decide)
  have hne3 := typed_ne t3 hbk (by decide)
  have hr2 := Hres.out.later hW
  have hm1 := typed_ne t1 hr2 (by decide)
  have hm2 := typed_ne t2 hr2 (by decide)
  have hm3 := typed_ne t3 hr2 (by decide)
  clear t1 t2 t3 hf hfr hfb hx9 hx10 hb1' hr2
  have hbr := hbk.row #[.int .i64 f.house.hour, .int .i64 f.house.grace, .slice B1 n1 j1, .slice B2 n2 j2, .slice B3 n3 j3, .int .i64 f.tubs, .int .i64 f.opn, .int .i64 f.closing, .slice none 0 0]
  obtain ⟨w3, hw3⟩ : ∃ X, X = w2.setRow g3 #[.int .i64 f.house.hour, .int .i64 f.house.grace, .slice B1 n1 j1, .slice B2 n2 j2, .slice B3 n3 j3, .int .i64 f.tubs, .int .i64 f.opn, .int .i64 f.closing, .slice none 0 0] := ⟨_, rfl⟩
  have hK23 := (Kept.refl g3 w2).setRow #[.int .i64 f.house.hour, .int .i64 f.house.grace, .slice B1 n1 j1, .slice B2 n2 j2, .slice B3 n3 j3, .int .i64 f.tubs, .int .i64 f.opn, .int .i64 f.closing, .slice none 0 0]
  rw [← hw3] at hbr hK23
  have hL13 : Later w1 w3 := by rw [hw3]; exact later_setRow hW hlo _
  have hg3 : g3 < w3.heap.size := hbr.lt
  have Hb3 := hide hbr
  have Hbk := hide hbk
  have HK23 := hide hK23
  have Hcv := hide hcv
  have Hw3 := hide hw3
  clear hbk hw3 hbr hK23 hcv
  go_wp2_with (refine wpList_store_row rfl _ _ _ rfl g3 _ rfl rfl _ _ Hbk.out (by kernel_rfl) rfl (by simp [Value.oneCell']) ?_)
  rw [← Hw3.out]
  clear Hw3 Hbk
  go_loopw [4] (fun i wr => ∃ (t : Nat) (Av : Option Addr) (kv : Nat), t ≤ nq ∧ i = .int .i64 t ∧ Later w1 wr ∧ Kept g3 w3 wr ∧ Hid (Blk wr g3 48 #[.int .i64 f.house.hour, .int .i64 f.house.grace, .slice B1 n1 j1, .slice B2 n2 j2, .slice B3 n3 j3, .int .i64 f.tubs, .int .i64 f.opn, .int .i64 f.closing, .slice Av t kv]) ∧ Hid (wr.ownsRow w3.heap.size 53 2 (.slice Av t kv) t (pairsV (f.queue.take t)))) (fun i _ => nq - (intOf i).toNat)
  case atStart => exact ⟨0, none, 0, Nat.zero_le _, rfl, hL13, Kept.refl _ _, Hb3, ⟨by simp [pairsV], .inl ⟨rfl, rfl⟩⟩⟩
  case round =>
    obtain ⟨t, Av, kv, ht, rfl, hL, hK, Hbk, Hown⟩ := hrel
    have hc8 := fun W (h : Later wr W) => b8 W (Later.trans hL h)
    by_cases hlt : t < nq
    · obtain ⟨b, o, x, rfl, hbl, hx, hx0, hx1⟩ := hc1.q.get hlt
      have hi1 : (t : Int) < nq := by omega
      have Hv := hide (pairsV_take hx)
      have hc2 : ∀ X, Later wr X → X.cell? ⟨g3, 8, none⟩ = some (.slice Av t kv) := fun X hX => Hbk.out.cells_later X hX 8
      have hxa := fun W (hW : Later wr W) => hx0 W (Later.trans hL hW)
      have hxb := fun W (hW : Later wr W) => hx1 W (Later.trans hL hW)
      clear hx hx0 hx1
      have hS : Later wr wr.drew := later_drew (later_refl _)
      go_wp2_with fail
      refine wp_region_lin (w0 := wr) 9 [] rely_later (by kernel_rfl) (by kernel_rfl) (by kernel_rfl) (by kernel_rfl) (hS) (.inl rfl) ?_
      simp only [List.take_succ_cons, List.take_zero, List.drop_succ_cons, List.drop_zero]
      refine lin_det (v := ?_) (F' := ?_) (by rfl) (fun _ => by rfl) ?_ ?_ ?_
      rotate_left 2
      focus (intro xs X hX hdep; clear hdep; (try dsimp only); go_simp; (try (first | with_reducible rfl | exact ⟨rfl, rfl⟩ | (fail))))
      focus (intro xs; (try simp only [Act.put, List.setIfInBounds_toArray, List.set_cons_zero, List.set_cons_succ, Nat.reduceAdd]); rfl)
      refine lin_det (v := ?_) (F' := ?_) (by rfl) (fun _ => by rfl) ?_ ?_ ?_
      rotate_left 2
      focus (intro xs X hX hdep; clear hdep; (try dsimp only); go_simp; (try (first | with_reducible rfl | exact ⟨rfl, rfl⟩ | (fail))))
      focus (intro xs; (try simp only [Act.put, List.setIfInBounds_toArray, List.set_cons_zero, List.set_cons_succ, Nat.reduceAdd]); rfl)
      refine lin_det (v := ?_) (F' := ?_) (by rfl) (fun _ => by rfl) ?_ ?_ ?_
      rotate_left 2
      focus (intro xs X hX hdep; clear hdep; (try dsimp only); go_simp; (try (first | with_reducible rfl | exact ⟨rfl, rfl⟩ | (fail))))
      focus (intro xs; (try simp only [Act.put, List.setIfInBounds_toArray, List.set_cons_zero, List.set_cons_succ, Nat.reduceAdd]); rfl)
      refine lin_det (v := ?_) (F' := ?_) (by rfl) (fun _ => by rfl) ?_ ?_ ?_
      rotate_left 2
      focus (intro xs X hX hdep; clear hdep; (try dsimp only); go_simp; (try (first | with_reducible rfl | exact ⟨rfl, rfl⟩ | (fail))))
      focus (intro xs; (try simp only [Act.put, List.setIfInBounds_toArray, List.set_cons_zero, List.set_cons_succ, Nat.reduceAdd]); rfl)
      refine lin_det (v := ?_) (F' := ?_) (by rfl) (fun _ => by rfl) ?_ ?_ ?_
      rotate_left 2
      focus (intro xs X hX hdep; clear hdep; (try dsimp only); go_simp; (try (first | with_reducible rfl | exact ⟨rfl, rfl⟩ | (fail))))
      focus (intro xs; (try simp only [Act.put, List.setIfInBounds_toArray, List.set_cons_zero, List.set_cons_succ, Nat.reduceAdd]); rfl)
      refine lin_det (v := ?_) (F' := ?_) (by rfl) (fun _ => by rfl) ?_ ?_ ?_
      rotate_left 2
      focus (intro xs X hX hdep; clear hdep; (try dsimp only); go_simp; (try (first | with_reducible rfl | exact ⟨rfl, rfl⟩ | (fail))))
      focus (intro xs; (try simp only [Act.put, List.setIfInBounds_toArray, List.set_cons_zero, List.set_cons_succ, Nat.reduceAdd]); rfl)
      refine lin_det (v := ?_) (F' := ?_) (by rfl) (fun _ => by rfl) ?_ ?_ ?_
      rotate_left 2
      focus (intro xs X hX hdep; clear hdep; (try dsimp only); go_simp; (try (first | with_reducible rfl | exact ⟨rfl, rfl⟩ | (fail))))
      focus (intro xs; (try simp only [Act.put, List.setIfInBounds_toArray, List.set_cons_zero, List.set_cons_succ, Nat.reduceAdd]); rfl)
      refine lin_det (v := ?_) (F' := ?_) (by rfl) (fun _ => by rfl) ?_ ?_ ?_
      rotate_left 2
      focus (intro xs X hX hdep; clear hdep; (try dsimp only); go_simp; (try (first | with_reducible rfl | exact ⟨rfl, rfl⟩ | (exact lawTo07_calls _ _ X))))
      focus (intro xs; (try simp only [Act.put, List.setIfInBounds_toArray, List.set_cons_zero, List.set_cons_succ, Nat.reduceAdd]); rfl)
      refine lin_any (IsNew 53 [.int .i64 x.1, .int .i64 x.2]) false (fun v W W' k h => IsNew.later h k) (F' := ?_) (by rfl) (fun _ => by rfl) ?_ ?_ ?_
      rotate_left 1
      focus (intro xs X hX hdep; skip; clear hdep; intro K hK; (try dsimp only); go_simp; (exact hK.out _ _ rfl (later_alloc (later_refl _) _) ⟨_, rfl, Blk.new _ _ _⟩ (fun h => by cases h)))
      focus (intro xs; (try simp only [Act.put, List.setIfInBounds_toArray, List.set_cons_zero, List.set_cons_succ, Nat.reduceAdd]); rfl)
      intro xs W hW hf hfr hfb
      obtain ⟨g, hx9, hbn⟩ := (show IsNew _ _ _ _ from hf 8)
      simp only [hx9, Nat.reduceAdd, Nat.zero_add]
      clear hf hfr hfb hx9
      have hown4 := own_laterb Hown.out hW
      have hbk4 := Hbk.out.later hW
      have hL4 := Later.trans hL hW
      have hK4 := hK.later hW
      go_wp2_with (at_builtin; refine appG rfl w3.heap.size _ _ 38 rfl 53 (.agg #[.int .i64 0, .int .i64 0]) 2 16 Try.underlying38 trange_info rfl (by omega) (.slice Av t kv) t (pairsV (f.queue.take t)) rfl hK4.1 hown4 ⟨g, 0, none⟩ 1 1 [.int .i64 x.1, .int .i64 x.2] rfl rfl hbn.one (by simp [Value.oneCell']) (by omega) (by omega) (by omega) ?_)
      intro v' w4 hap
      obtain ⟨A', c', hv', _⟩ := own_slice (w0 := w3) hap.own
      subst hv'
      have hr4 : ∀ g, (Value.slice Av t kv).ownBlock = some g → w3.heap.size ≤ g := fun g hg => (hown4.lt g hg).1
      have hL5 := Later.grown hL4 hap.grown fun g hg => Nat.le_trans hL13.size (hr4 g hg)
      have hK5 := hK4.grown hap.grown hr4
      have hb4' := Blk.of_eq (hap.grown.block g3 hbk4.lt (fun e => by have := hr4 g3 e.symm; omega)) hbk4
      have c24 := hb4'.cell 8
      have f24 := hb4'.frozen 8
      simp only [List.getElem?_toArray, List.getElem?_cons_zero, List.getElem?_cons_succ] at c24
      have hS6 := later_set hL5 ⟨g3, 8, none⟩ hlo (.slice A' (t + 1) c')
      have hK6 := hK5.setCell 8 (.slice A' (t + 1) c')
      have hb6 := hb4'.set_ 8 (.slice A' (t + 1) c')
      have ho6 := own_block (W' := w4.setCell ⟨g3, 8, none⟩ (.slice A' (t + 1) c')) hap.own fun g hg => Below.heap_setCell w4 _ _ g (by have := (hap.own.lt g hg).1; show g ≠ g3; omega)
      rw [← Hv.out] at ho6
      have Hb6 := hide hb6
      have Ho6 := hide ho6
      have HS6 := hide hS6
      have HK6 := hide hK6
      clear hb6 ho6 hown4 hK4 hbk4 hr4 hap hb4' hS6 hK6 hL5 hK5 hL4
      go_wp2_with fail
      go_roundw
      case rel => exact ⟨t + 1, A', c', by omega, by go_num, HS6.out, HK6.out, Hb6, Ho6⟩
      case measure => simp [intOf]; omega
    · have hnt : nq = t := by omega
      subst hnt
      obtain ⟨hr1, hf1⟩ : Reads wr wr.heap.size 2 Av nq (pairsV f.queue) ∧ Fresh w3 wr Av := by
        have ho := Hown.out
        rw [List.take_of_length_le (by rw [← Hql.out]; exact Nat.le_refl _)] at ho
        obtain ⟨A', c', e, hr⟩ := own_slice (w0 := w3) ho
        injection e with e1 e2 e3
        subst e1
        exact ⟨hr, own_fresh (w0 := w3) ho⟩
      have Hr1 := hide hr1
      have Hf1 := hide hf1
      have hkr := (Hres.out.later hL)
      have hke := hkr.row #[.int .i64 f.house.hour, .int .i64 f.house.grace, .slice B1 n1 j1, .slice B2 n2 j2, .slice B3 n3 j3, .int .i64 f.tubs, .int .i64 f.opn, .int .i64 f.closing, .slice Av nq kv]
      have Hkr := hide hkr
      have Hke := hide hke
      have HK := hide hK
      clear hkr hke hr1 hf1 Hown hK
      go_wp2_with (first | (refine wpList_load_row rfl _ _ rfl g3 rfl _ _ _ _ Hbk.out Try.underlying48 rfl (by kernel_rfl) ?_) | (refine wpList_store_row rfl _ _ _ rfl (w.heap.size + 1) _ rfl rfl _ _ Hkr.out (by kernel_rfl) rfl (by simp [Value.oneCell']) ?_))
      have hs1 := Hs1.out
      have hs12 := hL13.size
      have hk6 := ((Kept.refl (w.heap.size + 1) wr).setRow #[.int .i64 f.house.hour, .int .i64 f.house.grace, .slice B1 n1 j1, .slice B2 n2 j2, .slice B3 n3 j3, .int .i64 f.tubs, .int .i64 f.opn, .int .i64 f.closing, .slice Av nq kv])
      have hLF := later_setRow (Later.trans hLw hL) (show w.heap.size ≤ w.heap.size + 1 by omega) #[.int .i64 f.house.hour, .int .i64 f.house.grace, .slice B1 n1 j1, .slice B2 n2 j2, .slice B3 n3 j3, .int .i64 f.tubs, .int .i64 f.opn, .int .i64 f.closing, .slice Av nq kv]
      refine bodyPost_ret (results_cell_row (P := Try.prog) (fn := Try.f11) (p := 2) (ty := 48) (by kernel_rfl) _ _ (w.heap.size + 1) _ _ _ _ rfl Hke.out Try.underlying48 (by kernel_rfl) (by kernel_rfl)) rfl ⟨_, _, _, _, _, _, _, _, rfl, hLF, ⟨?_, ?_, ?_⟩, ?_⟩
      · exact Reads.kept (Reads.kept (Reads.kept Hcv.out.ck (by omega) hne1 HK23.out) (by omega) hne1 HK.out) (by omega) hm1 hk6
      · exact Reads.kept (Reads.kept (Reads.kept Hcv.out.tk (by omega) hne2 HK23.out) (by omega) hne2 HK.out) (by omega) hm2 hk6
      · exact Reads.kept (Reads.kept (Reads.kept Hcv.out.cp (by omega) hne3 HK23.out) (by omega) hne3 HK.out) (by omega) hm3 hk6
      · exact Reads.kept Hr1.out (by omega) (fun b o e => by have := (Hf1.out b o e).1; omega) hk6
end Go.Proofs.Ytcffgjhmpgdfpaa

/- The example's floor of two tubs: walk. -/
namespace Go.Proofs.Ytcffgjhmpgdfpaa
open Go Go.RowKit
attribute [local go_sem] later_alloc2 later_alloc3 later_alloc4
theorem build_house (a b : Int) (A1 A2 A3 : Option Addr) (n1 k1 n2 k2 n3 k3 : Nat) (W : World) : (Instr.build 46 #[(0, .int .i64 a), (1, .int .i64 b), (2, .slice A1 n1 k1), (3, .slice A2 n2 k2), (4, .slice A3 n3 k3)]).run Try.prog W = .ok (.agg #[.int .i64 a, .int .i64 b, .slice A1 n1 k1, .slice A2 n2 k2, .slice A3 n3 k3]) W :=
  run_build W _ _ _ (by kernel_rfl)
theorem build_two (a b : Int) (A1 A2 A3 Aq : Option Addr) (n1 k1 n2 k2 n3 k3 nq kq : Nat) (x z : Int) (W : World) :
    (Instr.build 48 #[(0, .agg #[.int .i64 a, .int .i64 b, .slice A1 n1 k1, .slice A2 n2 k2, .slice A3 n3 k3]), (1, .int .i64 x), (3, .int .i64 z), (4, .slice Aq nq kq)]).run Try.prog W = .ok (.agg #[.int .i64 a, .int .i64 b, .slice A1 n1 k1, .slice A2 n2 k2, .slice A3 n3 k3, .int .i64 x, .int .i64 0, .int .i64 z, .slice Aq nq kq]) W :=
  run_build W _ _ _ (by kernel_rfl)
attribute [local go_sem] build_house build_two
def TubsPost (lo hi : Int) (w : World) (e : Ending) (w' : World) : Prop :=
  ∃ g1 g2 g3 gq, e = .returned (.agg #[.int .i64 60, .int .i64 5, .slice (some ⟨g1, 0, none⟩) 2 2, .slice (some ⟨g2, 0, none⟩) 1 1, .slice (some ⟨g3, 0, none⟩) 2 2, .int .i64 2, .int .i64 0, .int .i64 500, .slice (some ⟨gq, 0, none⟩) 1 1]) ∧ Later w w' ∧
    w.heap.size ≤ g2 ∧ w.heap.size ≤ g3 ∧ Blk w' g1 65 #[.int .i64 0, .int .i64 0, .int .i64 lo, .int .i64 hi] ∧ Blk w' g2 73 #[.int .i64 0, .int .i64 1] ∧ Blk w' g3 74 #[.int .i64 0, .int .i64 0, .int .i64 300, .int .i64 0, .int .i64 1, .int .i64 366]
set_option maxRecDepth 100000 in
set_option maxHeartbeats 1000000 in
theorem twoTubs_calls (lo hi : Int) (w : World) : Calls Try.prog 19 #[.agg #[.int .i64 lo, .int .i64 hi]] w (TubsPost lo hi w) := by
  obtain ⟨w0, hw0⟩ : ∃ X, X = w.alloc (.cells #[.int .i64 lo, .int .i64 hi] 65) := ⟨_, rfl⟩
  have hs0 : w0.heap.size = w.heap.size + 1 := by rw [hw0]; simp
  have hb0 : Blk w0 w.heap.size 65 #[.int .i64 lo, .int .i64 hi] := by rw [hw0]; exact Blk.new _ _ _
  obtain ⟨w1, hw1⟩ : ∃ X, X = w0.alloc (.cells #[.int .i64 0, .int .i64 0, .slice none 0 0, .slice none 0 0, .slice none 0 0, .int .i64 0, .int .i64 0, .int .i64 0, .slice none 0 0] 48) := ⟨_, rfl⟩
  have hL1 : Later w0 w1 := by rw [hw1]; exact later_alloc (later_refl _) _
  have kres : Blk w1 (w.heap.size + 1) 48 #[.int .i64 0, .int .i64 0, .slice none 0 0, .slice none 0 0, .slice none 0 0, .int .i64 0, .int .i64 0, .int .i64 0, .slice none 0 0] := by
    have := Blk.new w0 48 #[.int .i64 0, .int .i64 0, .slice none 0 0, .slice none 0 0, .slice none 0 0, .int .i64 0, .int .i64 0, .int .i64 0, .slice none 0 0]
    rw [hs0] at this; rw [hw1]; exact this
  have hL0 : Later w w0 := by rw [hw0]; exact later_alloc (later_refl _) _
  have c0 := fun W h => ((hb0.later hL1).later h).cell (w := W) 0
  have c1 := fun W h => ((hb0.later hL1).later h).cell (w := W) 1
  simp only [List.getElem?_toArray, List.getElem?_cons_zero, List.getElem?_cons_succ] at c0 c1
  have hLw := Later.trans hL0 hL1
  obtain ⟨W2, hW2⟩ : ∃ X, X = w1.alloc (.cells #[.int .i64 0, .int .i64 0, .int .i64 lo, .int .i64 hi] 65) := ⟨_, rfl⟩
  obtain ⟨W3, hW3⟩ : ∃ X, X = W2.alloc (.cells #[.int .i64 0, .int .i64 1] 73) := ⟨_, rfl⟩
  obtain ⟨W4, hW4⟩ : ∃ X, X = W3.alloc (.cells #[.int .i64 0, .int .i64 0, .int .i64 300, .int .i64 0, .int .i64 1, .int .i64 366] 74) := ⟨_, rfl⟩
  have hL2 : Later w1 W2 := by rw [hW2]; exact later_alloc (later_refl _) _
  have hL3 : Later W2 W3 := by rw [hW3]; exact later_alloc (later_refl _) _
  have hL4 : Later W3 W4 := by rw [hW4]; exact later_alloc (later_refl _) _
  have Hw0 := hide hw0
  have Hw1 := hide hw1
  have HW2 := hide hW2
  have HW3 := hide hW3
  have HW4 := hide hW4
  clear hw0 hw1 hW2 hW3 hW4 hb0
  go_enter Try.func19, Try.ntmps19
  go_upto_region 1 with fail
  rw [← Hw0.out, ← Hw1.out]
  have hl1 := later_refl w1
  go_upto_region 2 with fail
  rw [← HW2.out, ← HW3.out, ← HW4.out]
  have hz2 : W2.heap.size = w1.heap.size + 1 := by rw [HW2.out]; simp
  have hz3 : W3.heap.size = w1.heap.size + 1 + 1 := by rw [HW3.out]; simp [hz2]
  have hz4 : W4.heap.size = w1.heap.size + 1 + 1 + 1 := by rw [HW4.out]; simp [hz3]
  have k1 : Blk W2 w1.heap.size 65 #[.int .i64 0, .int .i64 0, .int .i64 lo, .int .i64 hi] := by rw [HW2.out]; exact Blk.new _ _ _
  have k2 : Blk W3 (w1.heap.size + 1) 73 #[.int .i64 0, .int .i64 1] := by rw [← hz2, HW3.out]; exact Blk.new _ _ _
  have k3 : Blk W4 (w1.heap.size + 1 + 1) 74 #[.int .i64 0, .int .i64 0, .int .i64 300, .int .i64 0, .int .i64 1, .int .i64 366] := by rw [← hz3, HW4.out]; exact Blk.new _ _ _
  obtain ⟨W5, hW5⟩ : ∃ X, X = W4.alloc (.cells #[.int .i64 60, .int .i64 5, .slice (some ⟨w1.heap.size, 0, none⟩) 2 2, .slice (some ⟨w1.heap.size + 1, 0, none⟩) 1 1, .slice (some ⟨w1.heap.size + 1 + 1, 0, none⟩) 2 2] 46) := ⟨_, rfl⟩
  have hL5 : Later W4 W5 := by rw [hW5]; exact later_alloc (later_refl _) _
  have hz5 : W5.heap.size = w1.heap.size + 1 + 1 + 1 + 1 := by rw [hW5]; simp [hz4]
  have k5 : Blk W5 (w1.heap.size + 1 + 1 + 1) 46 #[.int .i64 60, .int .i64 5, .slice (some ⟨w1.heap.size, 0, none⟩) 2 2, .slice (some ⟨w1.heap.size + 1, 0, none⟩) 1 1, .slice (some ⟨w1.heap.size + 1 + 1, 0, none⟩) 2 2] := by rw [← hz4, hW5]; exact Blk.new _ _ _
  have d0 := k5.cell 0
  have d1 := k5.cell 1
  have d2 := k5.cell 2
  have d3 := k5.cell 3
  have d4 := k5.cell 4
  simp only [List.getElem?_toArray, List.getElem?_cons_zero, List.getElem?_cons_succ] at d0 d1 d2 d3 d4
  obtain ⟨W6, hW6⟩ : ∃ X, X = W5.alloc (.cells #[.int .i64 30, .int .i64 40] 53) := ⟨_, rfl⟩
  have hL6 : Later W5 W6 := by rw [hW6]; exact later_alloc (later_refl _) _
  have hL16 := Later.trans hL2 (Later.trans hL3 (Later.trans hL4 (Later.trans hL5 hL6)))
  have K1 := hide (k1.later (Later.trans hL3 (Later.trans hL4 (Later.trans hL5 hL6))))
  have K2 := hide (k2.later (Later.trans hL4 (Later.trans hL5 hL6)))
  have K3 := hide (k3.later (Later.trans hL5 hL6))
  have kr := kres.later hL16
  have hs1 : w1.heap.size = w.heap.size + 1 + 1 := by rw [Hw1.out]; simp [hs0]
  have Hkr := hide kr
  have Hke := hide (kr.row #[.int .i64 60, .int .i64 5, .slice (some ⟨w1.heap.size, 0, none⟩) 2 2, .slice (some ⟨w1.heap.size + 1, 0, none⟩) 1 1, .slice (some ⟨w1.heap.size + 1 + 1, 0, none⟩) 2 2, .int .i64 2, .int .i64 0, .int .i64 500, .slice (some ⟨w1.heap.size + 1 + 1 + 1 + 1, 0, none⟩) 1 1])
  have HW5 := hide hW5
  have HW6 := hide hW6
  have Hs1 := hide hs1
  have Hz5 := hide hz5
  rw [← hW5]
  clear hz2 hz3 hz4 k1 k2 k3 k5 kr hW5 hW6 kres c0 c1 hs1 hz5
  go_wp2_with (rw [Hz5.out, ← HW6.out]; refine wpList_store_row rfl _ _ _ rfl (w.heap.size + 1) _ rfl rfl _ _ Hkr.out (by kernel_rfl) rfl (by simp [Value.oneCell']) ?_)
  have hs1 := Hs1.out
  refine bodyPost_ret (results_cell_row (P := Try.prog) (fn := Try.f19) (p := 2) (ty := 48) (by kernel_rfl) _ _ (w.heap.size + 1) _ _ _ _ rfl Hke.out Try.underlying48 (by kernel_rfl) (by kernel_rfl)) rfl ⟨_, _, _, _, rfl, later_setRow (Later.trans hLw hL16) (by omega) _, by omega, by omega, ?_, ?_, ?_⟩
  · exact Blk.of_eq (setRow_other W6 _ _ _ (by omega)) K1.out
  · exact Blk.of_eq (setRow_other W6 _ _ _ (by omega)) K2.out
  · exact Blk.of_eq (setRow_other W6 _ _ _ (by omega)) K3.out
end Go.Proofs.Ytcffgjhmpgdfpaa
