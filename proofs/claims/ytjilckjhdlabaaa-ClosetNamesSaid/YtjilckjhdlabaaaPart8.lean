/- Part 8 of the proof: joined from the texts LawE, LawF, LawG. -/
import Derived.Test.YtjilckjhdlabaaaPart7
set_option linter.unusedSimpArgs false
set_option linter.unusedVariables false
/- The laws' Closet: walk. -/
namespace Go.Proofs.Ytjilckjhdlabaaa
open Go Go.RowKit
attribute [local go_sem] later_alloc2 later_alloc3 later_alloc4

/-- all blocks of W but g lie in X as they lay -/
def Kept (g : Nat) (W X : World) : Prop := W.heap.size ≤ X.heap.size ∧ ∀ b, b < W.heap.size → b ≠ g → X.heap[b]? = W.heap[b]?
theorem Kept.refl (g : Nat) (W : World) : Kept g W W := ⟨Nat.le_refl _, fun _ _ _ => rfl⟩
theorem Kept.trans {g : Nat} {A B C : World} (h : Kept g A B) (k : Kept g B C) : Kept g A C := ⟨Nat.le_trans h.1 k.1, fun b hb hn => (k.2 b (Nat.lt_of_lt_of_le hb h.1) hn).trans (h.2 b hb hn)⟩
theorem Kept.later {g : Nat} {W X Y : World} (h : Kept g W X) (k : Later X Y) : Kept g W Y := h.trans ⟨k.size, fun b hb _ => k.block b hb⟩
theorem Kept.setCell {g : Nat} {W X : World} (h : Kept g W X) (i : Nat) (u : Value) : Kept g W (X.setCell ⟨g, i, none⟩ u) := h.trans ⟨by simp, fun b _ hn => Below.heap_setCell X _ _ b hn⟩
theorem Kept.setRow {g : Nat} {W X : World} (h : Kept g W X) (cs : Array Value) : Kept g W (X.setRow g cs) := h.trans ⟨by simp, fun b _ hn => setRow_other X g b cs hn⟩
theorem Reads.kept {g : Nat} {W X : World} {A : Option Addr} {n size : Nat} {xs : List Value} (h : Reads W W.heap.size size A n xs) (hs : 0 < size) (hne : ∀ b o, A = some ⟨b, o, none⟩ → b ≠ g) (k : Kept g W X) : Reads X X.heap.size size A n xs := by
  refine ⟨h.1, fun hn => ?_⟩
  obtain ⟨b, o, e, hb, hc⟩ := Reads.lit h hs hn
  exact ⟨⟨b, o, none⟩, e, Nat.lt_of_lt_of_le hb k.1, fun j u hu => by rw [add_lit, World.cell?_of_block (a := ⟨b, o + j, none⟩) (k.2 b hb (hne b o e))]; exact hc j u hu⟩
theorem Blk.kept {g b : Nat} {W X : World} {t : TypeId} {cs : Array Value} (h : Blk W b t cs) (hb : b ≠ g) (k : Kept g W X) : Blk X b t cs := (k.2 b h.lt hb).trans h

theorem Kept.grown {g : Nat} {W X Y : World} {row : Option Nat} (h : Kept g W X) (k : X.grownBy Y row) (hr : ∀ b, row = some b → W.heap.size ≤ b) : Kept g W Y :=
  ⟨Nat.le_trans h.1 k.size, fun b hb hn => (k.block b (Nat.lt_of_lt_of_le hb h.1) (fun e => by have := hr b e.symm; omega)).trans (h.2 b hb hn)⟩
theorem horse_info : (Try.prog.info? 119).map (fun i => (i.zero, i.size, i.bytes)) = some (some (.agg #[.int .i64 0, .int .i64 0, .int .i64 0, .int .i64 0]), 4, 32) := by kernel_rfl
theorem look_info : (Try.prog.info? 120).map (fun i => (i.zero, i.size, i.bytes)) = some (some (.agg #[.int .i64 0, .int .i64 0, .bool false]), 3, 24) := by kernel_rfl
theorem horsesV_take {l : List Horse} {t : Nat} {x : Horse} (h : l[t]? = some x) : horsesV (l.take (t + 1)) = horsesV (l.take t) ++ [.int .i64 x.lo, .int .i64 x.hi, .int .i64 x.wet, .int .i64 x.grace] := by
  rw [List.take_add_one, h]; simp [horsesV, Horse.cells]
theorem looksV_take {l : List Look} {t : Nat} {x : Look} (h : l[t]? = some x) : looksV (l.take (t + 1)) = looksV (l.take t) ++ [.int .i64 x.horse, .int .i64 x.minute, .bool x.dry] := by
  rw [List.take_add_one, h]; simp [looksV, Look.cells]
def ClosetPost (c : Clo) (n1 n2 n3 : Nat) (w : World) (e : Ending) (w' : World) : Prop :=
  ∃ A1 k1 A2 k2 A3 k3, e = .returned (.agg #[.int .i64 c.closets, .int .i64 c.close, .slice A1 n1 k1, .slice A2 n2 k2, .slice A3 n3 k3]) ∧ Later w w' ∧ CV w' c A1 n1 A2 n2 A3 n3 ∧ n1 ≤ k1 ∧ n2 ≤ k2 ∧ n3 ≤ k3
theorem build_closet3 (a b : Int) (A2 : Option Addr) (n2 k2 : Nat) (W : World) : (Instr.build 35 #[(0, .int .i64 a), (1, .int .i64 b), (3, .slice A2 n2 k2)]).run Try.prog W = .ok (.agg #[.int .i64 a, .int .i64 b, .slice none 0 0, .slice A2 n2 k2, .slice none 0 0]) W :=
  run_build W _ _ _ (by kernel_rfl)
attribute [local go_sem] build_closet3
/-- behind region 1: the new closet lies in block g -/
structure ClMade (c : Clo) (n2 : Nat) (w1 : World) (g : Nat) (A : Option Addr) (k : Nat) (W : World) : Prop where
  later : Later w1 W
  lo : w1.heap.size ≤ g
  blk : Blk W g 35 #[.int .i64 c.closets, .int .i64 c.close, .slice none 0 0, .slice A n2 k, .slice none 0 0]
  hu : RI W A n2 c.hung
  cap : n2 ≤ k
  new : Fresh w1 W A
  apart : ∀ b o, A = some ⟨b, o, none⟩ → b ≠ g
theorem clMade {c : Clo} {n2 k g : Nat} {w1 W : World} {A : Option Addr} (hL : Later w1 W) (hg : w1.heap.size ≤ g) (kb : Blk W g 35 #[.int .i64 0, .int .i64 0, .slice none 0 0, .slice none 0 0, .slice none 0 0])
    (hu : RI W A n2 c.hung) (hcap : n2 ≤ k) (hnew : Fresh w1 W A) (hap : ∀ b o, A = some ⟨b, o, none⟩ → b ≠ g) : ClMade c n2 w1 g A k (W.setRow g #[.int .i64 c.closets, .int .i64 c.close, .slice none 0 0, .slice A n2 k, .slice none 0 0]) :=
  ⟨later_setRow hL hg _, hg, kb.row _, Reads.kept hu (by omega) hap ((Kept.refl g W).setRow _), hcap, fun b o e => ⟨(hnew b o e).1, by have := (hnew b o e).2; simpa using this⟩, hap⟩
set_option maxRecDepth 100000 in
set_option maxHeartbeats 1000000 in
theorem lawCloset_calls {A1 A2 A3 : Option Addr} {n1 k1 n2 k2 n3 k3 : Nat} {c : Clo} (w : World) (hc : CV w c A1 n1 A2 n2 A3 n3) (b1 : n1 ≤ 1000) (b2 : n2 ≤ 1000) (b3 : n3 ≤ 1000) :
    Calls Try.prog 26 #[(.agg #[.int .i64 c.closets, .int .i64 c.close, .slice A1 n1 k1, .slice A2 n2 k2, .slice A3 n3 k3])] w (ClosetPost c n1 n2 n3 w) := by
  obtain ⟨w0, hw0⟩ : ∃ W, W = (w.alloc (.cells #[.int .i64 c.closets, .int .i64 c.close, .slice A1 n1 k1, .slice A2 n2 k2, .slice A3 n3 k3] 26)) := ⟨_, rfl⟩; have hbox : ∀ W, Later w0 W → ∀ i, W.cell? ⟨w.heap.size, i, none⟩ = #[.int .i64 c.closets, .int .i64 c.close, .slice A1 n1 k1, .slice A2 n2 k2, .slice A3 n3 k3][i]? := (by rw [hw0]; exact box_cells w #[.int .i64 c.closets, .int .i64 c.close, .slice A1 n1 k1, .slice A2 n2 k2, .slice A3 n3 k3] 26); have hL0 : Later w w0 := (by rw [hw0]; simp); have hc0 := hc.later hL0; have Hw0 := hide hw0; clear hw0
  have hs0 : w0.heap.size = w.heap.size + 1 := by rw [Hw0.out]; simp
  go_enter Try.func26, Try.ntmps26
  go_wp2_with fail
  rw [← Hw0.out]; clear Hw0
  generalize hw1 : w0.alloc _ = w1
  have hL1 : Later w0 w1 := by rw [← hw1]; exact later_alloc (later_refl _) _
  have kres : Blk w1 w0.heap.size 35 #[.int .i64 0, .int .i64 0, .slice none 0 0, .slice none 0 0, .slice none 0 0] := by rw [← hw1]; exact Blk.new _ _ _
  have hs1 : w1.heap.size = w.heap.size + 1 + 1 := by rw [← hw1]; simp [hs0]
  clear hw1
  rw [hs0] at kres
  have hbox1 := fun W (h : Later w1 W) => hbox W (Later.trans hL1 h)
  have hc1 := hc0.later hL1
  have hLw := Later.trans hL0 hL1
  clear hbox hc0 hc hs0 hL0 hL1
  obtain ⟨gb, hgb⟩ : ∃ g, g = w.heap.size := ⟨_, rfl⟩
  rw [← hgb] at kres hbox1 hs1
  simp only [← hgb]
  have Hgb := hide hgb
  have Hres := hide kres
  have Hs1 := hide hs1
  clear hgb kres hs1
  refine Code.wp_mono (Q := fun e a W => e = .normal ∧ ∃ g A k, ClMade c n2 w1 g A k W ∧ a = ⟨#[(.agg #[.int .i64 c.closets, .int .i64 c.close, .slice A1 n1 k1, .slice A2 n2 k2, .slice A3 n3 k3]), .pointer (some ⟨gb, 0, none⟩), .pointer (some ⟨gb + 1, 0, none⟩), .pointer (some ⟨g, 0, none⟩), undef, undef, .pointer (some ⟨gb, 0, none⟩), .int .i64 c.closets, .pointer (some ⟨gb, 1, none⟩), .int .i64 c.close, .pointer (some ⟨gb, 3, none⟩), .slice A2 n2 k2, .slice A n2 k, .agg #[.int .i64 c.closets, .int .i64 c.close, .slice none 0 0, .slice A n2 k, .slice none 0 0], undef, undef, undef, undef, undef, undef, undef, undef, undef, undef, undef, undef, undef, undef, undef, undef, undef, undef, undef, undef, undef, undef, undef, undef, undef, undef, undef, undef, undef, undef, undef, undef, undef, undef, undef, undef, undef, undef, undef, undef, undef, undef, undef, undef, undef, undef, undef, undef, undef, undef, undef, undef, undef, undef, undef, undef, undef, undef, undef, undef, undef, undef, undef, undef], []⟩) ?_ ?_
  · rintro e a W2 ⟨rfl, g3, A2', k2', hm, rfl⟩
    have hn1 := hc1.hs.len
    have Hn1 := hide hn1
    have Hmu := hide hm.hu
    have Hma := hide hm.apart
    have Hmc := hide hm.cap
    have Hmn := hide hm.new
    have hmL := hm.later
    have hlo := hm.lo
    have hg3 : g3 < W2.heap.size := hm.blk.lt
    have Hmb := hide hm.blk
    have hb2 : ∀ X, Later w1 X → X.cell? ⟨gb, 2, none⟩ = some (.slice A1 n1 k1) := fun X hX => hbox1 X hX 2
    have hb4 : ∀ X, Later w1 X → X.cell? ⟨gb, 4, none⟩ = some (.slice A3 n3 k3) := fun X hX => hbox1 X hX 4
    clear hn1 hm hbox1
    gi_wp2_with fail
    go_wp2_with fail
    go_loopw [4] (fun i wr => ∃ (t : Nat) (Av : Option Addr) (kv : Nat), t ≤ n1 ∧ i = .int .i64 t ∧ Later w1 wr ∧ Kept g3 W2 wr ∧ Hid (Blk wr g3 35 #[.int .i64 c.closets, .int .i64 c.close, .slice Av t kv, .slice A2' n2 k2', .slice none 0 0]) ∧ Hid (wr.ownsRow W2.heap.size 119 4 (.slice Av t kv) t (horsesV (c.horses.take t)))) (fun i _ => n1 - (intOf i).toNat)
    case atStart => exact ⟨0, none, 0, Nat.zero_le _, rfl, hmL, Kept.refl _ _, Hmb, ⟨by simp [horsesV], .inl ⟨rfl, rfl⟩⟩⟩
    case round =>
      obtain ⟨t, Av, kv, ht, rfl, hL, hK, Hbk, Hown⟩ := hrel
      by_cases hlt : t < n1
      · obtain ⟨b, o, x, rfl, hbl, hx, hx0, hx1, hx2, hx3⟩ := hc1.hs.get hlt
        have hi1 : (t : Int) < n1 := by omega
        have hv := horsesV_take hx
        have Hv := hide hv
        have hc2 : ∀ X, Later wr X → X.cell? ⟨g3, 2, none⟩ = some (.slice Av t kv) := fun X hX => Hbk.out.cells_later X hX 2
        have hk4 : o + t * 4 + 1 + 1 = o + t * 4 + 2 := rfl
        clear hx hv
        go_wp2_with fail
        refine wp_region_held_drew (S := Later w1) (by kernel_rfl) (by simp [hL]) (fun hS => ?_)
        have hLr : Later wr wr.drew := later_drew (later_refl _)
        refine wpAnyH_take (i := 0) (v := ?_) rfl (by kernel_rfl) (by kernel_rfl) (by kernel_rfl) (by intro _ _ _ h; first | exact h | exact absurd h.1 (by simp)) (Or.inl ⟨by rfl, ?_⟩) hS ?_; rotate_left; (focus (intro X hSX; (try dsimp only at hSX); go_simp; (try with_reducible rfl))); (try simp only [Act.put, List.setIfInBounds_toArray, List.set_cons_zero, List.set_cons_succ])
        refine wpAnyH_take (i := 2) (v := ?_) rfl (by kernel_rfl) (by kernel_rfl) (by kernel_rfl) (by intro _ _ _ h; first | exact h | exact absurd h.1 (by simp)) (Or.inl ⟨by rfl, ?_⟩) hS ?_; rotate_left; (focus (intro X hSX; (try dsimp only at hSX); go_simp; (try with_reducible rfl))); (try simp only [Act.put, List.setIfInBounds_toArray, List.set_cons_zero, List.set_cons_succ])
        refine wpAnyH_take (i := 3) (v := ?_) rfl (by kernel_rfl) (by kernel_rfl) (by kernel_rfl) (by intro _ _ _ h; first | exact h | exact absurd h.1 (by simp)) (Or.inl ⟨by rfl, ?_⟩) hS ?_; rotate_left; (focus (intro X hSX; (try dsimp only at hSX); go_simp; (try with_reducible rfl))); (try simp only [Act.put, List.setIfInBounds_toArray, List.set_cons_zero, List.set_cons_succ])
        refine wpAnyH_take (i := 4) (v := ?_) rfl (by kernel_rfl) (by kernel_rfl) (by kernel_rfl) (by intro _ _ _ h; first | exact h | exact absurd h.1 (by simp)) (Or.inl ⟨by rfl, ?_⟩) hS ?_; rotate_left; (focus (intro X hSX; (try dsimp only at hSX); go_simp; (try with_reducible rfl))); (try simp only [Act.put, List.setIfInBounds_toArray, List.set_cons_zero, List.set_cons_succ])
        refine wpAnyH_take (i := 5) (v := ?_) rfl (by kernel_rfl) (by kernel_rfl) (by kernel_rfl) (by intro _ _ _ h; first | exact h | exact absurd h.1 (by simp)) (Or.inl ⟨by rfl, ?_⟩) hS ?_; rotate_left; (focus (intro X hSX; (try dsimp only at hSX); go_simp; (try with_reducible rfl))); (try simp only [Act.put, List.setIfInBounds_toArray, List.set_cons_zero, List.set_cons_succ])
        refine wpAnyH_take (i := 6) (v := ?_) rfl (by kernel_rfl) (by kernel_rfl) (by kernel_rfl) (by intro _ _ _ h; first | exact h | exact absurd h.1 (by simp)) (Or.inl ⟨by rfl, ?_⟩) hS ?_; rotate_left; (focus (intro X hSX; (try dsimp only at hSX); go_simp; (try with_reducible rfl))); (try simp only [Act.put, List.setIfInBounds_toArray, List.set_cons_zero, List.set_cons_succ])
        refine wpAnyH_take (i := 7) (v := ?_) rfl (by kernel_rfl) (by kernel_rfl) (by kernel_rfl) (by intro _ _ _ h; first | exact h | exact absurd h.1 (by simp)) (Or.inl ⟨by rfl, ?_⟩) hS ?_; rotate_left; (focus (intro X hSX; (try dsimp only at hSX); go_simp; (try with_reducible rfl))); (try simp only [Act.put, List.setIfInBounds_toArray, List.set_cons_zero, List.set_cons_succ])
        refine wpAnyH_take (i := 9) (v := ?_) rfl (by kernel_rfl) (by kernel_rfl) (by kernel_rfl) (by intro _ _ _ h; first | exact h | exact absurd h.1 (by simp)) (Or.inl ⟨by rfl, ?_⟩) hS ?_; rotate_left; (focus (intro X hSX; (try dsimp only at hSX); go_simp; (try with_reducible rfl))); (try simp only [Act.put, List.setIfInBounds_toArray, List.set_cons_zero, List.set_cons_succ])
        refine wpAnyH_take (i := 10) (v := ?_) rfl (by kernel_rfl) (by kernel_rfl) (by kernel_rfl) (by intro _ _ _ h; first | exact h | exact absurd h.1 (by simp)) (Or.inl ⟨by rfl, ?_⟩) hS ?_; rotate_left; (focus (intro X hSX; (try dsimp only at hSX); go_simp; (try with_reducible rfl))); (try simp only [Act.put, List.setIfInBounds_toArray, List.set_cons_zero, List.set_cons_succ])
        refine wpAnyH_take (i := 11) (v := ?_) rfl (by kernel_rfl) (by kernel_rfl) (by kernel_rfl) (by intro _ _ _ h; first | exact h | exact absurd h.1 (by simp)) (Or.inl ⟨by rfl, ?_⟩) hS ?_; rotate_left; (focus (intro X hSX; (try dsimp only at hSX); go_simp; (try with_reducible rfl))); (try simp only [Act.put, List.setIfInBounds_toArray, List.set_cons_zero, List.set_cons_succ])
        refine wpAnyH_take (i := 12) (v := ?_) rfl (by kernel_rfl) (by kernel_rfl) (by kernel_rfl) (by intro _ _ _ h; first | exact h | exact absurd h.1 (by simp)) (Or.inl ⟨by rfl, ?_⟩) hS ?_; rotate_left; (focus (intro X hSX; (try dsimp only at hSX); go_simp; (try with_reducible rfl))); (try simp only [Act.put, List.setIfInBounds_toArray, List.set_cons_zero, List.set_cons_succ])
        refine wpAnyH_take (i := 13) (v := ?_) rfl (by kernel_rfl) (by kernel_rfl) (by kernel_rfl) (by intro _ _ _ h; first | exact h | exact absurd h.1 (by simp)) (Or.inl ⟨by rfl, ?_⟩) hS ?_; rotate_left; (focus (intro X hSX; (try dsimp only at hSX); go_simp; (try with_reducible rfl))); (try simp only [Act.put, List.setIfInBounds_toArray, List.set_cons_zero, List.set_cons_succ])
        refine wpAnyH_take (i := 14) (v := ?_) rfl (by kernel_rfl) (by kernel_rfl) (by kernel_rfl) (by intro _ _ _ h; first | exact h | exact absurd h.1 (by simp)) (Or.inl ⟨by rfl, ?_⟩) hS ?_; rotate_left; (focus (intro X hSX; (try dsimp only at hSX); go_simp; (try with_reducible rfl))); (try simp only [Act.put, List.setIfInBounds_toArray, List.set_cons_zero, List.set_cons_succ])
        refine wpAnyH_take (i := 15) (v := ?_) rfl (by kernel_rfl) (by kernel_rfl) (by kernel_rfl) (by intro _ _ _ h; first | exact h | exact absurd h.1 (by simp)) (Or.inl ⟨by rfl, ?_⟩) hS ?_; rotate_left; (focus (intro X hSX; (try dsimp only at hSX); go_simp; (try with_reducible rfl))); (try simp only [Act.put, List.setIfInBounds_toArray, List.set_cons_zero, List.set_cons_succ])
        refine wpAnyH_take (i := 16) (v := ?_) rfl (by kernel_rfl) (by kernel_rfl) (by kernel_rfl) (by intro _ _ _ h; first | exact h | exact absurd h.1 (by simp)) (Or.inl ⟨by rfl, ?_⟩) hS ?_; rotate_left; (focus (intro X hSX; (try dsimp only at hSX); go_simp; (try with_reducible rfl))); (try simp only [Act.put, List.setIfInBounds_toArray, List.set_cons_zero, List.set_cons_succ])
        refine wpAnyH_take (i := 17) (v := ?_) rfl (by kernel_rfl) (by kernel_rfl) (by kernel_rfl) (by intro _ _ _ h; first | exact h | exact absurd h.1 (by simp)) (Or.inl ⟨by rfl, ?_⟩) hS ?_; rotate_left; (focus (intro X hSX; (try dsimp only at hSX); go_simp; (try with_reducible rfl))); (try simp only [Act.put, List.setIfInBounds_toArray, List.set_cons_zero, List.set_cons_succ])
        refine wpAnyH_take (i := 18) (v := ?_) rfl (by kernel_rfl) (by kernel_rfl) (by kernel_rfl) (by intro _ _ _ h; first | exact h | exact absurd h.1 (by simp)) (Or.inl ⟨by rfl, ?_⟩) hS ?_; rotate_left; (focus (intro X hSX; (try dsimp only at hSX); go_simp; (try with_reducible rfl))); (try simp only [Act.put, List.setIfInBounds_toArray, List.set_cons_zero, List.set_cons_succ])
        refine wpAnyH_take (i := 19) (v := ?_) rfl (by kernel_rfl) (by kernel_rfl) (by kernel_rfl) (by intro _ _ _ h; first | exact h | exact absurd h.1 (by simp)) (Or.inl ⟨by rfl, ?_⟩) hS ?_; rotate_left; (focus (intro X hSX; (try dsimp only at hSX); go_simp; (try with_reducible rfl))); (try simp only [Act.put, List.setIfInBounds_toArray, List.set_cons_zero, List.set_cons_succ])
        refine wpAnyH_take (i := 20) (v := ?_) rfl (by kernel_rfl) (by kernel_rfl) (by kernel_rfl) (by intro _ _ _ h; first | exact h | exact absurd h.1 (by simp)) (Or.inl ⟨by rfl, ?_⟩) hS ?_; rotate_left; (focus (intro X hSX; (try dsimp only at hSX); go_simp; (try with_reducible rfl))); (try simp only [Act.put, List.setIfInBounds_toArray, List.set_cons_zero, List.set_cons_succ])
        refine wpAnyH_ready (rs := [1, 8]) (by kernel_rfl) (by simp) ?_
        refine AllReadyH.cons rfl (fun K hK2 => ?_) (AllReadyH.cons rfl (fun K hK2 => ?_) AllReadyH.nil)
        · go_simp
          refine hK2.out _ _ hS (fun _ => ?_)
          clear hK2 K; (try simp only [Act.put, List.setIfInBounds_toArray, List.set_cons_zero, List.set_cons_succ])
          refine wpAnyH_ready (rs := [8]) (by kernel_rfl) (by simp) ?_; refine AllReadyH.cons rfl (fun K hK2 => ?_) AllReadyH.nil
          go_simp
          refine (lawTo_calls _ _ _).mono ?_
          rintro e w3 ⟨rfl, hL3⟩
          have hL3' := Later.trans hLr hL3
          refine hK2.out _ _ (Later.trans hS hL3) (fun hS3 => ?_)
          clear hK2 K; (try simp only [Act.put, List.setIfInBounds_toArray, List.set_cons_zero, List.set_cons_succ])
          refine wpAnyH_take (i := 21) (v := ?_) rfl (by kernel_rfl) (by kernel_rfl) (by kernel_rfl) (by intro _ _ _ h; first | exact h | exact absurd h.1 (by simp)) (Or.inl ⟨by rfl, ?_⟩) hS3 ?_; rotate_left; (focus (intro X hSX; (try dsimp only at hSX); go_simp; (try with_reducible rfl))); (try simp only [Act.put, List.setIfInBounds_toArray, List.set_cons_zero, List.set_cons_succ])
          refine wpAnyH_ready (rs := [22]) (by kernel_rfl) (by simp) ?_; refine AllReadyH.cons rfl (fun K hK2 => ?_) AllReadyH.nil
          go_simp
          refine hK2.out _ _ (later_alloc hS3 _) (fun hS4 => ?_)
          clear hK2 K; (try simp only [Act.put, List.setIfInBounds_toArray, List.set_cons_zero, List.set_cons_succ])
          refine wpAnyH_ready (rs := [23]) (by kernel_rfl) (by simp) ?_
          refine AllReadyH.cons (o := { dst := some 44, op := Op.call { callee := Callee.builtin Builtin.append, args := #[Operand.tmp 22, Operand.tmp 43], argTypes := #[32, 32] }, type := 32, pos := "law.go:19", after := #[{ on := 1, ground := Ground.data }, { on := 22, ground := Ground.data }, { on := 8, ground := Ground.chain }], guard := none }) rfl (fun K hK2 => ?_) AllReadyH.nil
          have hown4 := (own_later2 Hown.out hL3').alloc (.cells #[.int .i64 x.lo, .int .i64 x.hi, .int .i64 x.wet, .int .i64 x.grace] 119)
          have knew := Blk.new w3 119 #[.int .i64 x.lo, .int .i64 x.hi, .int .i64 x.wet, .int .i64 x.grace]
          have hK4 := (hK.later hL3').later (later_alloc (later_refl _) (.cells #[.int .i64 x.lo, .int .i64 x.hi, .int .i64 x.wet, .int .i64 x.grace] 119))
          have hbk4 := (Hbk.out.later hL3').alloc (.cells #[.int .i64 x.lo, .int .i64 x.hi, .int .i64 x.wet, .int .i64 x.grace] 119)
          refine appG_step rfl W2.heap.size _ _ 32 rfl 119 (.agg #[.int .i64 0, .int .i64 0, .int .i64 0, .int .i64 0]) 4 32 Try.underlying32 horse_info rfl (by omega) (.slice Av t kv) t (horsesV (c.horses.take t)) rfl hK4.1 hown4 ⟨w3.heap.size, 0, none⟩ 1 1 [.int .i64 x.lo, .int .i64 x.hi, .int .i64 x.wet, .int .i64 x.grace] rfl rfl (fun j u hu => by rw [add_lit, Nat.zero_add, knew.cell, List.getElem?_toArray]; exact hu) (by simp [Value.oneCell']) (by omega) (by omega) (by omega) ?_
          intro v' w4 hap
          obtain ⟨A', c', hv', _⟩ := own_slice hap.own
          subst hv'
          have hr4 : ∀ g, (Value.slice Av t kv).ownBlock = some g → W2.heap.size ≤ g := fun g hg => (hown4.lt g hg).1
          have hL4 := Later.grown hS4 hap.grown fun g hg => Nat.le_trans hmL.size (hr4 g hg)
          have hK5 := hK4.grown hap.grown hr4
          have hb4' := Blk.of_eq (hap.grown.block g3 hbk4.lt (fun e => by have := hr4 g3 e.symm; omega)) hbk4
          have c24 := hb4'.cell 2
          have f24 := hb4'.frozen 2
          simp only [List.getElem?_toArray, List.getElem?_cons_zero, List.getElem?_cons_succ] at c24
          have Hown5 := hide hap.own
          have Hb4 := hide hb4'
          clear hown4 knew hK4 hbk4 hr4 hap hb4'
          refine hK2.out _ _ hL4 (fun hS5 => ?_)
          clear hK2 K; (try simp only [Act.put, List.setIfInBounds_toArray, List.set_cons_zero, List.set_cons_succ])
          refine wpAnyH_take (i := 24) (v := ?_) rfl (by kernel_rfl) (by kernel_rfl) (by kernel_rfl) (by intro _ _ _ h; first | exact h | exact absurd h.1 (by simp)) (Or.inl ⟨by rfl, ?_⟩) hS5 ?_; rotate_left; (focus (intro X hSX; (try dsimp only at hSX); go_simp; (try with_reducible rfl))); (try simp only [Act.put, List.setIfInBounds_toArray, List.set_cons_zero, List.set_cons_succ])
          refine wpAnyH_ready (rs := [25]) (by kernel_rfl) (by simp) ?_; refine AllReadyH.cons rfl (fun K hK2 => ?_) AllReadyH.nil
          go_simp
          have hS6 := later_set hS5 ⟨g3, 2, none⟩ hlo (.slice A' (t + 1) c')
          have hK6 := hK5.setCell 2 (.slice A' (t + 1) c')
          have hb6 := Hb4.out.set_ 2 (.slice A' (t + 1) c')
          have ho6 := own_block (W' := w4.setCell ⟨g3, 2, none⟩ (.slice A' (t + 1) c')) Hown5.out fun g hg => Below.heap_setCell w4 _ _ g (by have := (Hown5.out.lt g hg).1; show g ≠ g3; omega)
          rw [← Hv.out] at ho6
          have Hb6 := hide hb6
          have Ho6 := hide ho6
          clear hb6 ho6
          refine hK2.out _ _ hS6 (fun _ => ?_)
          clear hK2 K
          refine wpAnyH_done (by kernel_rfl) ?_ _
          gi_wp2_with fail
          go_wp2_with fail
          go_roundw
          case rel => exact ⟨t + 1, A', c', by omega, by go_num, hS6, hK6, Hb6, Ho6⟩
          case measure => simp [intOf]; omega
        · go_simp
          refine (lawTo_calls _ _ _).mono ?_
          rintro e w3 ⟨rfl, hL3⟩
          have hL3' := Later.trans hLr hL3
          refine hK2.out _ _ (Later.trans hS hL3) (fun hS3 => ?_)
          clear hK2 K; (try simp only [Act.put, List.setIfInBounds_toArray, List.set_cons_zero, List.set_cons_succ])
          refine wpAnyH_take (i := 21) (v := ?_) rfl (by kernel_rfl) (by kernel_rfl) (by kernel_rfl) (by intro _ _ _ h; first | exact h | exact absurd h.1 (by simp)) (Or.inl ⟨by rfl, ?_⟩) hS3 ?_; rotate_left; (focus (intro X hSX; (try dsimp only at hSX); go_simp; (try with_reducible rfl))); (try simp only [Act.put, List.setIfInBounds_toArray, List.set_cons_zero, List.set_cons_succ])
          refine wpAnyH_ready (rs := [1, 22]) (by kernel_rfl) (by simp) ?_
          refine AllReadyH.cons rfl (fun K hK2 => ?_) (AllReadyH.cons rfl (fun K hK2 => ?_) AllReadyH.nil)
          · go_simp
            refine hK2.out _ _ hS3 (fun _ => ?_)
            clear hK2 K; (try simp only [Act.put, List.setIfInBounds_toArray, List.set_cons_zero, List.set_cons_succ])
            refine wpAnyH_ready (rs := [22]) (by kernel_rfl) (by simp) ?_; refine AllReadyH.cons rfl (fun K hK2 => ?_) AllReadyH.nil
            go_simp
            refine hK2.out _ _ (later_alloc hS3 _) (fun hS4 => ?_)
            clear hK2 K; (try simp only [Act.put, List.setIfInBounds_toArray, List.set_cons_zero, List.set_cons_succ])
            refine wpAnyH_ready (rs := [23]) (by kernel_rfl) (by simp) ?_
            refine AllReadyH.cons (o := { dst := some 44, op := Op.call { callee := Callee.builtin Builtin.append, args := #[Operand.tmp 22, Operand.tmp 43], argTypes := #[32, 32] }, type := 32, pos := "law.go:19", after := #[{ on := 1, ground := Ground.data }, { on := 22, ground := Ground.data }, { on := 8, ground := Ground.chain }], guard := none }) rfl (fun K hK2 => ?_) AllReadyH.nil
            have hown4 := (own_later2 Hown.out hL3').alloc (.cells #[.int .i64 x.lo, .int .i64 x.hi, .int .i64 x.wet, .int .i64 x.grace] 119)
            have knew := Blk.new w3 119 #[.int .i64 x.lo, .int .i64 x.hi, .int .i64 x.wet, .int .i64 x.grace]
            have hK4 := (hK.later hL3').later (later_alloc (later_refl _) (.cells #[.int .i64 x.lo, .int .i64 x.hi, .int .i64 x.wet, .int .i64 x.grace] 119))
            have hbk4 := (Hbk.out.later hL3').alloc (.cells #[.int .i64 x.lo, .int .i64 x.hi, .int .i64 x.wet, .int .i64 x.grace] 119)
            refine appG_step rfl W2.heap.size _ _ 32 rfl 119 (.agg #[.int .i64 0, .int .i64 0, .int .i64 0, .int .i64 0]) 4 32 Try.underlying32 horse_info rfl (by omega) (.slice Av t kv) t (horsesV (c.horses.take t)) rfl hK4.1 hown4 ⟨w3.heap.size, 0, none⟩ 1 1 [.int .i64 x.lo, .int .i64 x.hi, .int .i64 x.wet, .int .i64 x.grace] rfl rfl (fun j u hu => by rw [add_lit, Nat.zero_add, knew.cell, List.getElem?_toArray]; exact hu) (by simp [Value.oneCell']) (by omega) (by omega) (by omega) ?_
            intro v' w4 hap
            obtain ⟨A', c', hv', _⟩ := own_slice hap.own
            subst hv'
            have hr4 : ∀ g, (Value.slice Av t kv).ownBlock = some g → W2.heap.size ≤ g := fun g hg => (hown4.lt g hg).1
            have hL4 := Later.grown hS4 hap.grown fun g hg => Nat.le_trans hmL.size (hr4 g hg)
            have hK5 := hK4.grown hap.grown hr4
            have hb4' := Blk.of_eq (hap.grown.block g3 hbk4.lt (fun e => by have := hr4 g3 e.symm; omega)) hbk4
            have c24 := hb4'.cell 2
            have f24 := hb4'.frozen 2
            simp only [List.getElem?_toArray, List.getElem?_cons_zero, List.getElem?_cons_succ] at c24
            have Hown5 := hide hap.own
            have Hb4 := hide hb4'
            clear hown4 knew hK4 hbk4 hr4 hap hb4'
            refine hK2.out _ _ hL4 (fun hS5 => ?_)
            clear hK2 K; (try simp only [Act.put, List.setIfInBounds_toArray, List.set_cons_zero, List.set_cons_succ])
            refine wpAnyH_take (i := 24) (v := ?_) rfl (by kernel_rfl) (by kernel_rfl) (by kernel_rfl) (by intro _ _ _ h; first | exact h | exact absurd h.1 (by simp)) (Or.inl ⟨by rfl, ?_⟩) hS5 ?_; rotate_left; (focus (intro X hSX; (try dsimp only at hSX); go_simp; (try with_reducible rfl))); (try simp only [Act.put, List.setIfInBounds_toArray, List.set_cons_zero, List.set_cons_succ])
            refine wpAnyH_ready (rs := [25]) (by kernel_rfl) (by simp) ?_; refine AllReadyH.cons rfl (fun K hK2 => ?_) AllReadyH.nil
            go_simp
            have hS6 := later_set hS5 ⟨g3, 2, none⟩ hlo (.slice A' (t + 1) c')
            have hK6 := hK5.setCell 2 (.slice A' (t + 1) c')
            have hb6 := Hb4.out.set_ 2 (.slice A' (t + 1) c')
            have ho6 := own_block (W' := w4.setCell ⟨g3, 2, none⟩ (.slice A' (t + 1) c')) Hown5.out fun g hg => Below.heap_setCell w4 _ _ g (by have := (Hown5.out.lt g hg).1; show g ≠ g3; omega)
            rw [← Hv.out] at ho6
            have Hb6 := hide hb6
            have Ho6 := hide ho6
            clear hb6 ho6
            refine hK2.out _ _ hS6 (fun _ => ?_)
            clear hK2 K
            refine wpAnyH_done (by kernel_rfl) ?_ _
            gi_wp2_with fail
            go_wp2_with fail
            go_roundw
            case rel => exact ⟨t + 1, A', c', by omega, by go_num, hS6, hK6, Hb6, Ho6⟩
            case measure => simp [intOf]; omega
          · go_simp
            refine hK2.out _ _ (later_alloc hS3 _) (fun hS4 => ?_)
            clear hK2 K; (try simp only [Act.put, List.setIfInBounds_toArray, List.set_cons_zero, List.set_cons_succ])
            refine wpAnyH_ready (rs := [1]) (by kernel_rfl) (by simp) ?_; refine AllReadyH.cons rfl (fun K hK2 => ?_) AllReadyH.nil
            go_simp
            refine hK2.out _ _ hS4 (fun _ => ?_)
            clear hK2 K; (try simp only [Act.put, List.setIfInBounds_toArray, List.set_cons_zero, List.set_cons_succ])
            refine wpAnyH_ready (rs := [23]) (by kernel_rfl) (by simp) ?_
            refine AllReadyH.cons (o := { dst := some 44, op := Op.call { callee := Callee.builtin Builtin.append, args := #[Operand.tmp 22, Operand.tmp 43], argTypes := #[32, 32] }, type := 32, pos := "law.go:19", after := #[{ on := 1, ground := Ground.data }, { on := 22, ground := Ground.data }, { on := 8, ground := Ground.chain }], guard := none }) rfl (fun K hK2 => ?_) AllReadyH.nil
            have hown4 := (own_later2 Hown.out hL3').alloc (.cells #[.int .i64 x.lo, .int .i64 x.hi, .int .i64 x.wet, .int .i64 x.grace] 119)
            have knew := Blk.new w3 119 #[.int .i64 x.lo, .int .i64 x.hi, .int .i64 x.wet, .int .i64 x.grace]
            have hK4 := (hK.later hL3').later (later_alloc (later_refl _) (.cells #[.int .i64 x.lo, .int .i64 x.hi, .int .i64 x.wet, .int .i64 x.grace] 119))
            have hbk4 := (Hbk.out.later hL3').alloc (.cells #[.int .i64 x.lo, .int .i64 x.hi, .int .i64 x.wet, .int .i64 x.grace] 119)
            refine appG_step rfl W2.heap.size _ _ 32 rfl 119 (.agg #[.int .i64 0, .int .i64 0, .int .i64 0, .int .i64 0]) 4 32 Try.underlying32 horse_info rfl (by omega) (.slice Av t kv) t (horsesV (c.horses.take t)) rfl hK4.1 hown4 ⟨w3.heap.size, 0, none⟩ 1 1 [.int .i64 x.lo, .int .i64 x.hi, .int .i64 x.wet, .int .i64 x.grace] rfl rfl (fun j u hu => by rw [add_lit, Nat.zero_add, knew.cell, List.getElem?_toArray]; exact hu) (by simp [Value.oneCell']) (by omega) (by omega) (by omega) ?_
            intro v' w4 hap
            obtain ⟨A', c', hv', _⟩ := own_slice hap.own
            subst hv'
            have hr4 : ∀ g, (Value.slice Av t kv).ownBlock = some g → W2.heap.size ≤ g := fun g hg => (hown4.lt g hg).1
            have hL4 := Later.grown hS4 hap.grown fun g hg => Nat.le_trans hmL.size (hr4 g hg)
            have hK5 := hK4.grown hap.grown hr4
            have hb4' := Blk.of_eq (hap.grown.block g3 hbk4.lt (fun e => by have := hr4 g3 e.symm; omega)) hbk4
            have c24 := hb4'.cell 2
            have f24 := hb4'.frozen 2
            simp only [List.getElem?_toArray, List.getElem?_cons_zero, List.getElem?_cons_succ] at c24
            have Hown5 := hide hap.own
            have Hb4 := hide hb4'
            clear hown4 knew hK4 hbk4 hr4 hap hb4'
            refine hK2.out _ _ hL4 (fun hS5 => ?_)
            clear hK2 K; (try simp only [Act.put, List.setIfInBounds_toArray, List.set_cons_zero, List.set_cons_succ])
            refine wpAnyH_take (i := 24) (v := ?_) rfl (by kernel_rfl) (by kernel_rfl) (by kernel_rfl) (by intro _ _ _ h; first | exact h | exact absurd h.1 (by simp)) (Or.inl ⟨by rfl, ?_⟩) hS5 ?_; rotate_left; (focus (intro X hSX; (try dsimp only at hSX); go_simp; (try with_reducible rfl))); (try simp only [Act.put, List.setIfInBounds_toArray, List.set_cons_zero, List.set_cons_succ])
            refine wpAnyH_ready (rs := [25]) (by kernel_rfl) (by simp) ?_; refine AllReadyH.cons rfl (fun K hK2 => ?_) AllReadyH.nil
            go_simp
            have hS6 := later_set hS5 ⟨g3, 2, none⟩ hlo (.slice A' (t + 1) c')
            have hK6 := hK5.setCell 2 (.slice A' (t + 1) c')
            have hb6 := Hb4.out.set_ 2 (.slice A' (t + 1) c')
            have ho6 := own_block (W' := w4.setCell ⟨g3, 2, none⟩ (.slice A' (t + 1) c')) Hown5.out fun g hg => Below.heap_setCell w4 _ _ g (by have := (Hown5.out.lt g hg).1; show g ≠ g3; omega)
            rw [← Hv.out] at ho6
            have Hb6 := hide hb6
            have Ho6 := hide ho6
            clear hb6 ho6
            refine hK2.out _ _ hS6 (fun _ => ?_)
            clear hK2 K
            refine wpAnyH_done (by kernel_rfl) ?_ _
            gi_wp2_with fail
            go_wp2_with fail
            go_roundw
            case rel => exact ⟨t + 1, A', c', by omega, by go_num, hS6, hK6, Hb6, Ho6⟩
            case measure => simp [intOf]; omega
      · obtain ⟨w5, rfl⟩ : ∃ x, x = wr := ⟨wr, rfl⟩
        have hnt : n1 = t := by omega
        subst hnt
        have hcap1 := own_cap Hown.out
        obtain ⟨hr1, hf1⟩ : RH w5 Av n1 c.horses ∧ Fresh W2 w5 Av := by
          have ho := Hown.out
          rw [List.take_of_length_le (by rw [← Hn1.out]; exact Nat.le_refl _)] at ho
          obtain ⟨A', c', e, hr⟩ := own_slice ho
          injection e with e1 e2 e3
          subst e1
          exact ⟨hr, own_fresh ho⟩
        have hn3 := hc1.lk.len
        have Hn3 := hide hn3
        have Hr1 := hide hr1
        have Hf1 := hide hf1
        have Hcap1 := hide hcap1
        have hg5 : g3 < w5.heap.size := Hbk.out.lt
        have hsz5 := hK.1
        clear hn3 hr1 hf1 hcap1 Hown
        go_wp2_with fail
        go_loopw [5] (fun i wq => ∃ (s : Nat) (Aw : Option Addr) (kw : Nat), s ≤ n3 ∧ i = .int .i64 s ∧ Later w1 wq ∧ Kept g3 w5 wq ∧ Hid (Blk wq g3 35 #[.int .i64 c.closets, .int .i64 c.close, .slice Av n1 kv, .slice A2' n2 k2', .slice Aw s kw]) ∧ Hid (wq.ownsRow w5.heap.size 120 3 (.slice Aw s kw) s (looksV (c.looks.take s)))) (fun i _ => n3 - (intOf i).toNat)
        case atStart => exact ⟨0, none, 0, Nat.zero_le _, rfl, hL, Kept.refl _ _, Hbk, ⟨by simp [looksV], .inl ⟨rfl, rfl⟩⟩⟩
        case round =>
          obtain ⟨s, Aw, kw, hs, rfl, hLq, hKq, Hbq, Howq⟩ := hrel
          by_cases hlt2 : s < n3
          · obtain ⟨b, o, x, rfl, hbl, hx, hx0, hx1, hx2⟩ := hc1.lk.get hlt2
            have hi1 : (s : Int) < n3 := by omega
            have hv := looksV_take hx
            have Hv := hide hv
            have hc2 : ∀ X, Later wr X → X.cell? ⟨g3, 4, none⟩ = some (.slice Aw s kw) := fun X hX => Hbq.out.cells_later X hX 4
            have hk4 : o + s * 3 + 1 + 1 = o + s * 3 + 2 := rfl
            clear hx hv
            go_wp2_with fail
            refine wp_region_held_drew (S := Later w1) (by kernel_rfl) (by simp [hLq]) (fun hS => ?_)
            obtain ⟨w3, hw3⟩ : ∃ W, W = wr.drew := ⟨_, rfl⟩
            have hLr : Later wr w3 := by rw [hw3]; exact later_drew (later_refl _)
            rw [← hw3] at hS ⊢
            clear hw3
            refine wpAnyH_take (i := 0) (v := ?_) rfl (by kernel_rfl) (by kernel_rfl) (by kernel_rfl) (by intro _ _ _ h; first | exact h | exact absurd h.1 (by simp)) (Or.inl ⟨by rfl, ?_⟩) hS ?_; rotate_left; (focus (intro X hSX; (try dsimp only at hSX); go_simp; (try with_reducible rfl))); (try simp only [Act.put, List.setIfInBounds_toArray, List.set_cons_zero, List.set_cons_succ])
            refine wpAnyH_take (i := 2) (v := ?_) rfl (by kernel_rfl) (by kernel_rfl) (by kernel_rfl) (by intro _ _ _ h; first | exact h | exact absurd h.1 (by simp)) (Or.inl ⟨by rfl, ?_⟩) hS ?_; rotate_left; (focus (intro X hSX; (try dsimp only at hSX); go_simp; (try with_reducible rfl))); (try simp only [Act.put, List.setIfInBounds_toArray, List.set_cons_zero, List.set_cons_succ])
            refine wpAnyH_take (i := 3) (v := ?_) rfl (by kernel_rfl) (by kernel_rfl) (by kernel_rfl) (by intro _ _ _ h; first | exact h | exact absurd h.1 (by simp)) (Or.inl ⟨by rfl, ?_⟩) hS ?_; rotate_left; (focus (intro X hSX; (try dsimp only at hSX); go_simp; (try with_reducible rfl))); (try simp only [Act.put, List.setIfInBounds_toArray, List.set_cons_zero, List.set_cons_succ])
            refine wpAnyH_take (i := 4) (v := ?_) rfl (by kernel_rfl) (by kernel_rfl) (by kernel_rfl) (by intro _ _ _ h; first | exact h | exact absurd h.1 (by simp)) (Or.inl ⟨by rfl, ?_⟩) hS ?_; rotate_left; (focus (intro X hSX; (try dsimp only at hSX); go_simp; (try with_reducible rfl))); (try simp only [Act.put, List.setIfInBounds_toArray, List.set_cons_zero, List.set_cons_succ])
            refine wpAnyH_take (i := 5) (v := ?_) rfl (by kernel_rfl) (by kernel_rfl) (by kernel_rfl) (by intro _ _ _ h; first | exact h | exact absurd h.1 (by simp)) (Or.inl ⟨by rfl, ?_⟩) hS ?_; rotate_left; (focus (intro X hSX; (try dsimp only at hSX); go_simp; (try with_reducible rfl))); (try simp only [Act.put, List.setIfInBounds_toArray, List.set_cons_zero, List.set_cons_succ])
            refine wpAnyH_take (i := 6) (v := ?_) rfl (by kernel_rfl) (by kernel_rfl) (by kernel_rfl) (by intro _ _ _ h; first | exact h | exact absurd h.1 (by simp)) (Or.inl ⟨by rfl, ?_⟩) hS ?_; rotate_left; (focus (intro X hSX; (try dsimp only at hSX); go_simp; (try with_reducible rfl))); (try simp only [Act.put, List.setIfInBounds_toArray, List.set_cons_zero, List.set_cons_succ])
            refine wpAnyH_take (i := 7) (v := ?_) rfl (by kernel_rfl) (by kernel_rfl) (by kernel_rfl) (by intro _ _ _ h; first | exact h | exact absurd h.1 (by simp)) (Or.inl ⟨by rfl, ?_⟩) hS ?_; rotate_left; (focus (intro X hSX; (try dsimp only at hSX); go_simp; (try with_reducible rfl))); (try simp only [Act.put, List.setIfInBounds_toArray, List.set_cons_zero, List.set_cons_succ])
            refine wpAnyH_take (i := 8) (v := ?_) rfl (by kernel_rfl) (by kernel_rfl) (by kernel_rfl) (by intro _ _ _ h; first | exact h | exact absurd h.1 (by simp)) (Or.inl ⟨by rfl, ?_⟩) hS ?_; rotate_left; (focus (intro X hSX; (try dsimp only at hSX); go_simp; (try with_reducible rfl))); (try simp only [Act.put, List.setIfInBounds_toArray, List.set_cons_zero, List.set_cons_succ])
            refine wpAnyH_take (i := 9) (v := ?_) rfl (by kernel_rfl) (by kernel_rfl) (by kernel_rfl) (by intro _ _ _ h; first | exact h | exact absurd h.1 (by simp)) (Or.inl ⟨by rfl, ?_⟩) hS ?_; rotate_left; (focus (intro X hSX; (try dsimp only at hSX); go_simp; (try with_reducible rfl))); (try simp only [Act.put, List.setIfInBounds_toArray, List.set_cons_zero, List.set_cons_succ])
            refine wpAnyH_take (i := 10) (v := ?_) rfl (by kernel_rfl) (by kernel_rfl) (by kernel_rfl) (by intro _ _ _ h; first | exact h | exact absurd h.1 (by simp)) (Or.inl ⟨by rfl, ?_⟩) hS ?_; rotate_left; (focus (intro X hSX; (try dsimp only at hSX); go_simp; (try with_reducible rfl))); (try simp only [Act.put, List.setIfInBounds_toArray, List.set_cons_zero, List.set_cons_succ])
            refine wpAnyH_take (i := 11) (v := ?_) rfl (by kernel_rfl) (by kernel_rfl) (by kernel_rfl) (by intro _ _ _ h; first | exact h | exact absurd h.1 (by simp)) (Or.inl ⟨by rfl, ?_⟩) hS ?_; rotate_left; (focus (intro X hSX; (try dsimp only at hSX); go_simp; (try with_reducible rfl))); (try simp only [Act.put, List.setIfInBounds_toArray, List.set_cons_zero, List.set_cons_succ])
            refine wpAnyH_take (i := 12) (v := ?_) rfl (by kernel_rfl) (by kernel_rfl) (by kernel_rfl) (by intro _ _ _ h; first | exact h | exact absurd h.1 (by simp)) (Or.inl ⟨by rfl, ?_⟩) hS ?_; rotate_left; (focus (intro X hSX; (try dsimp only at hSX); go_simp; (try with_reducible rfl))); (try simp only [Act.put, List.setIfInBounds_toArray, List.set_cons_zero, List.set_cons_succ])
            refine wpAnyH_take (i := 13) (v := ?_) rfl (by kernel_rfl) (by kernel_rfl) (by kernel_rfl) (by intro _ _ _ h; first | exact h | exact absurd h.1 (by simp)) (Or.inl ⟨by rfl, ?_⟩) hS ?_; rotate_left; (focus (intro X hSX; (try dsimp only at hSX); go_simp; (try with_reducible rfl))); (try simp only [Act.put, List.setIfInBounds_toArray, List.set_cons_zero, List.set_cons_succ])
            refine wpAnyH_take (i := 14) (v := ?_) rfl (by kernel_rfl) (by kernel_rfl) (by kernel_rfl) (by intro _ _ _ h; first | exact h | exact absurd h.1 (by simp)) (Or.inl ⟨by rfl, ?_⟩) hS ?_; rotate_left; (focus (intro X hSX; (try dsimp only at hSX); go_simp; (try with_reducible rfl))); (try simp only [Act.put, List.setIfInBounds_toArray, List.set_cons_zero, List.set_cons_succ])
            refine wpAnyH_take (i := 15) (v := ?_) rfl (by kernel_rfl) (by kernel_rfl) (by kernel_rfl) (by intro _ _ _ h; first | exact h | exact absurd h.1 (by simp)) (Or.inl ⟨by rfl, ?_⟩) hS ?_; rotate_left; (focus (intro X hSX; (try dsimp only at hSX); go_simp; (try with_reducible rfl))); (try simp only [Act.put, List.setIfInBounds_toArray, List.set_cons_zero, List.set_cons_succ])
            refine wpAnyH_take (i := 16) (v := ?_) rfl (by kernel_rfl) (by kernel_rfl) (by kernel_rfl) (by intro _ _ _ h; first | exact h | exact absurd h.1 (by simp)) (Or.inl ⟨by rfl, ?_⟩) hS ?_; rotate_left; (focus (intro X hSX; (try dsimp only at hSX); go_simp; (try with_reducible rfl))); (try simp only [Act.put, List.setIfInBounds_toArray, List.set_cons_zero, List.set_cons_succ])
            refine wpAnyH_take (i := 17) (v := ?_) rfl (by kernel_rfl) (by kernel_rfl) (by kernel_rfl) (by intro _ _ _ h; first | exact h | exact absurd h.1 (by simp)) (Or.inl ⟨by rfl, ?_⟩) hS ?_; rotate_left; (focus (intro X hSX; (try dsimp only at hSX); go_simp; (try with_reducible rfl))); (try simp only [Act.put, List.setIfInBounds_toArray, List.set_cons_zero, List.set_cons_succ])
            refine wpAnyH_take (i := 18) (v := ?_) rfl (by kernel_rfl) (by kernel_rfl) (by kernel_rfl) (by intro _ _ _ h; first | exact h | exact absurd h.1 (by simp)) (Or.inl ⟨by rfl, ?_⟩) hS ?_; rotate_left; (focus (intro X hSX; (try dsimp only at hSX); go_simp; (try with_reducible rfl))); (try simp only [Act.put, List.setIfInBounds_toArray, List.set_cons_zero, List.set_cons_succ])
            refine wpAnyH_take (i := 19) (v := ?_) rfl (by kernel_rfl) (by kernel_rfl) (by kernel_rfl) (by intro _ _ _ h; first | exact h | exact absurd h.1 (by simp)) (Or.inl ⟨by rfl, ?_⟩) hS ?_; rotate_left; (focus (intro X hSX; (try dsimp only at hSX); go_simp; (try with_reducible rfl))); (try simp only [Act.put, List.setIfInBounds_toArray, List.set_cons_zero, List.set_cons_succ])
            refine wpAnyH_take (i := 20) (v := ?_) rfl (by kernel_rfl) (by kernel_rfl) (by kernel_rfl) (by intro _ _ _ h; first | exact h | exact absurd h.1 (by simp)) (Or.inl ⟨by rfl, ?_⟩) hS ?_; rotate_left; (focus (intro X hSX; (try dsimp only at hSX); go_simp; (try with_reducible rfl))); (try simp only [Act.put, List.setIfInBounds_toArray, List.set_cons_zero, List.set_cons_succ])
            refine wpAnyH_ready (rs := [1, 21]) (by kernel_rfl) (by simp) ?_
            refine AllReadyH.cons rfl (fun K hK2 => ?_) (AllReadyH.cons rfl (fun K hK2 => ?_) AllReadyH.nil)
            · go_simp
              refine hK2.out _ _ hS (fun _ => ?_)
              clear hK2 K; (try simp only [Act.put, List.setIfInBounds_toArray, List.set_cons_zero, List.set_cons_succ])
              refine wpAnyH_ready (rs := [21]) (by kernel_rfl) (by simp) ?_; refine AllReadyH.cons rfl (fun K hK2 => ?_) AllReadyH.nil
              go_simp
              refine hK2.out _ _ (later_alloc hS _) (fun hS4 => ?_)
              clear hK2 K; (try simp only [Act.put, List.setIfInBounds_toArray, List.set_cons_zero, List.set_cons_succ])
              refine wpAnyH_ready (rs := [22]) (by kernel_rfl) (by simp) ?_
              refine AllReadyH.cons (o := { dst := some 75, op := Op.call { callee := Callee.builtin Builtin.append, args := #[Operand.tmp 54, Operand.tmp 74], argTypes := #[33, 33] }, type := 33, pos := "law.go:22", after := #[{ on := 1, ground := Ground.data }, { on := 21, ground := Ground.data }], guard := none }) rfl (fun K hK2 => ?_) AllReadyH.nil
              have hown4 := (own_later2 Howq.out hLr).alloc (.cells #[.int .i64 x.horse, .int .i64 x.minute, .bool x.dry] 120)
              have knew := Blk.new w3 120 #[.int .i64 x.horse, .int .i64 x.minute, .bool x.dry]
              have hK4 := (hKq.later hLr).later (later_alloc (later_refl _) (.cells #[.int .i64 x.horse, .int .i64 x.minute, .bool x.dry] 120))
              have hbk4 := (Hbq.out.later hLr).alloc (.cells #[.int .i64 x.horse, .int .i64 x.minute, .bool x.dry] 120)
              refine appG_step rfl w5.heap.size _ _ 33 rfl 120 (.agg #[.int .i64 0, .int .i64 0, .bool false]) 3 24 Try.underlying33 look_info rfl (by omega) (.slice Aw s kw) s (looksV (c.looks.take s)) rfl hK4.1 hown4 ⟨w3.heap.size, 0, none⟩ 1 1 [.int .i64 x.horse, .int .i64 x.minute, .bool x.dry] rfl rfl (fun j u hu => by rw [add_lit, Nat.zero_add, knew.cell, List.getElem?_toArray]; exact hu) (by simp [Value.oneCell']) (by omega) (by omega) (by omega) ?_
              intro v' w4 hap
              obtain ⟨A', c', hv', _⟩ := own_slice hap.own
              subst hv'
              have hr4 : ∀ g, (Value.slice Aw s kw).ownBlock = some g → w5.heap.size ≤ g := fun g hg => (hown4.lt g hg).1
              have hL4 := Later.grown hS4 hap.grown fun g hg => Nat.le_trans hL.size (hr4 g hg)
              have hK5 := hK4.grown hap.grown hr4
              have hb4' := Blk.of_eq (hap.grown.block g3 hbk4.lt (fun e => by have := hr4 g3 e.symm; omega)) hbk4
              have c24 := hb4'.cell 4
              have f24 := hb4'.frozen 4
              simp only [List.getElem?_toArray, List.getElem?_cons_zero, List.getElem?_cons_succ] at c24
              have Hown5 := hide hap.own
              have Hb4 := hide hb4'
              clear hown4 knew hK4 hbk4 hr4 hap hb4'
              refine hK2.out _ _ hL4 (fun hS5 => ?_)
              clear hK2 K; (try simp only [Act.put, List.setIfInBounds_toArray, List.set_cons_zero, List.set_cons_succ])
              refine wpAnyH_take (i := 23) (v := ?_) rfl (by kernel_rfl) (by kernel_rfl) (by kernel_rfl) (by intro _ _ _ h; first | exact h | exact absurd h.1 (by simp)) (Or.inl ⟨by rfl, ?_⟩) hS5 ?_; rotate_left; (focus (intro X hSX; (try dsimp only at hSX); go_simp; (try with_reducible rfl))); (try simp only [Act.put, List.setIfInBounds_toArray, List.set_cons_zero, List.set_cons_succ])
              refine wpAnyH_ready (rs := [24]) (by kernel_rfl) (by simp) ?_; refine AllReadyH.cons rfl (fun K hK2 => ?_) AllReadyH.nil
              go_simp
              have hS6 := later_set hS5 ⟨g3, 4, none⟩ hlo (.slice A' (s + 1) c')
              have hK6 := hK5.setCell 4 (.slice A' (s + 1) c')
              have hb6 := Hb4.out.set_ 4 (.slice A' (s + 1) c')
              have ho6 := own_block (W' := w4.setCell ⟨g3, 4, none⟩ (.slice A' (s + 1) c')) Hown5.out fun g hg => Below.heap_setCell w4 _ _ g (by have := (Hown5.out.lt g hg).1; show g ≠ g3; omega)
              rw [← Hv.out] at ho6
              have Hb6 := hide hb6
              have Ho6 := hide ho6
              clear hb6 ho6
              refine hK2.out _ _ hS6 (fun _ => ?_)
              clear hK2 K
              refine wpAnyH_done (by kernel_rfl) ?_ _
              gi_wp2_with fail
              go_wp2_with fail
              go_roundw
              case rel => exact ⟨s + 1, A', c', by omega, by go_num, hS6, hK6, Hb6, Ho6⟩
              case measure => simp [intOf]; omega
            · go_simp
              refine hK2.out _ _ (later_alloc hS _) (fun hS4 => ?_)
              clear hK2 K; (try simp only [Act.put, List.setIfInBounds_toArray, List.set_cons_zero, List.set_cons_succ])
              refine wpAnyH_ready (rs := [1]) (by kernel_rfl) (by simp) ?_; refine AllReadyH.cons rfl (fun K hK2 => ?_) AllReadyH.nil
              go_simp
              refine hK2.out _ _ hS4 (fun _ => ?_)
              clear hK2 K; (try simp only [Act.put, List.setIfInBounds_toArray, List.set_cons_zero, List.set_cons_succ])
              refine wpAnyH_ready (rs := [22]) (by kernel_rfl) (by simp) ?_
              refine AllReadyH.cons (o := { dst := some 75, op := Op.call { callee := Callee.builtin Builtin.append, args := #[Operand.tmp 54, Operand.tmp 74], argTypes := #[33, 33] }, type := 33, pos := "law.go:22", after := #[{ on := 1, ground := Ground.data }, { on := 21, ground := Ground.data }], guard := none }) rfl (fun K hK2 => ?_) AllReadyH.nil
              have hown4 := (own_later2 Howq.out hLr).alloc (.cells #[.int .i64 x.horse, .int .i64 x.minute, .bool x.dry] 120)
              have knew := Blk.new w3 120 #[.int .i64 x.horse, .int .i64 x.minute, .bool x.dry]
              have hK4 := (hKq.later hLr).later (later_alloc (later_refl _) (.cells #[.int .i64 x.horse, .int .i64 x.minute, .bool x.dry] 120))
              have hbk4 := (Hbq.out.later hLr).alloc (.cells #[.int .i64 x.horse, .int .i64 x.minute, .bool x.dry] 120)
              refine appG_step rfl w5.heap.size _ _ 33 rfl 120 (.agg #[.int .i64 0, .int .i64 0, .bool false]) 3 24 Try.underlying33 look_info rfl (by omega) (.slice Aw s kw) s (looksV (c.looks.take s)) rfl hK4.1 hown4 ⟨w3.heap.size, 0, none⟩ 1 1 [.int .i64 x.horse, .int .i64 x.minute, .bool x.dry] rfl rfl (fun j u hu => by rw [add_lit, Nat.zero_add, knew.cell, List.getElem?_toArray]; exact hu) (by simp [Value.oneCell']) (by omega) (by omega) (by omega) ?_
              intro v' w4 hap
              obtain ⟨A', c', hv', _⟩ := own_slice hap.own
              subst hv'
              have hr4 : ∀ g, (Value.slice Aw s kw).ownBlock = some g → w5.heap.size ≤ g := fun g hg => (hown4.lt g hg).1
              have hL4 := Later.grown hS4 hap.grown fun g hg => Nat.le_trans hL.size (hr4 g hg)
              have hK5 := hK4.grown hap.grown hr4
              have hb4' := Blk.of_eq (hap.grown.block g3 hbk4.lt (fun e => by have := hr4 g3 e.symm; omega)) hbk4
              have c24 := hb4'.cell 4
              have f24 := hb4'.frozen 4
              simp only [List.getElem?_toArray, List.getElem?_cons_zero, List.getElem?_cons_succ] at c24
              have Hown5 := hide hap.own
              have Hb4 := hide hb4'
              clear hown4 knew hK4 hbk4 hr4 hap hb4'
              refine hK2.out _ _ hL4 (fun hS5 => ?_)
              clear hK2 K; (try simp only [Act.put, List.setIfInBounds_toArray, List.set_cons_zero, List.set_cons_succ])
              refine wpAnyH_take (i := 23) (v := ?_) rfl (by kernel_rfl) (by kernel_rfl) (by kernel_rfl) (by intro _ _ _ h; first | exact h | exact absurd h.1 (by simp)) (Or.inl ⟨by rfl, ?_⟩) hS5 ?_; rotate_left; (focus (intro X hSX; (try dsimp only at hSX); go_simp; (try with_reducible rfl))); (try simp only [Act.put, List.setIfInBounds_toArray, List.set_cons_zero, List.set_cons_succ])
              refine wpAnyH_ready (rs := [24]) (by kernel_rfl) (by simp) ?_; refine AllReadyH.cons rfl (fun K hK2 => ?_) AllReadyH.nil
              go_simp
              have hS6 := later_set hS5 ⟨g3, 4, none⟩ hlo (.slice A' (s + 1) c')
              have hK6 := hK5.setCell 4 (.slice A' (s + 1) c')
              have hb6 := Hb4.out.set_ 4 (.slice A' (s + 1) c')
              have ho6 := own_block (W' := w4.setCell ⟨g3, 4, none⟩ (.slice A' (s + 1) c')) Hown5.out fun g hg => Below.heap_setCell w4 _ _ g (by have := (Hown5.out.lt g hg).1; show g ≠ g3; omega)
              rw [← Hv.out] at ho6
              have Hb6 := hide hb6
              have Ho6 := hide ho6
              clear hb6 ho6
              refine hK2.out _ _ hS6 (fun _ => ?_)
              clear hK2 K
              refine wpAnyH_done (by kernel_rfl) ?_ _
              gi_wp2_with fail
              go_wp2_with fail
              go_roundw
              case rel => exact ⟨s + 1, A', c', by omega, by go_num, hS6, hK6, Hb6, Ho6⟩
              case measure => simp [intOf]; omega
          · have hst : n3 = s := by omega
            subst hst
            have hkr := (Hres.out.later hLq)
            have hke := hkr.row #[.int .i64 c.closets, .int .i64 c.close, .slice Av n1 kv, .slice A2' n2 k2', .slice Aw n3 kw]
            have Hkr := hide hkr
            have Hke := hide hke
            clear hkr hke
            go_wp2_with (first | (refine wpList_load_row rfl _ _ rfl g3 rfl _ _ _ _ Hbq.out Try.underlying35 rfl (by kernel_rfl) ?_) | (refine wpList_store_row rfl _ _ _ rfl (gb + 1) _ rfl rfl _ _ Hkr.out (by kernel_rfl) rfl (by simp [Value.oneCell']) ?_))
            have hs1 := Hs1.out
            have hgb := Hgb.out
            have hk6 := ((Kept.refl (gb + 1) wr).setRow #[.int .i64 c.closets, .int .i64 c.close, .slice Av n1 kv, .slice A2' n2 k2', .slice Aw n3 kw])
            obtain ⟨hr3, hf3⟩ : RL wr Aw n3 c.looks ∧ Fresh w5 wr Aw := by
              have ho := Howq.out
              rw [List.take_of_length_le (by rw [← Hn3.out]; exact Nat.le_refl _)] at ho
              obtain ⟨A', c', e, hr⟩ := own_slice ho
              injection e with e1 e2 e3
              subst e1
              exact ⟨hr, own_fresh ho⟩
            refine bodyPost_ret (results_cell_row (P := Try.prog) (fn := Try.f26) (p := 2) (ty := 35) (by kernel_rfl) _ _ (gb + 1) _ _ _ _ rfl Hke.out Try.underlying35 (by kernel_rfl) (by kernel_rfl)) rfl ⟨_, _, _, _, _, _, rfl, later_setRow (Later.trans hLw hLq) (by omega) _, ⟨?_, ?_, ?_⟩, Hcap1.out, Hmc.out, own_cap Howq.out⟩
            · exact Reads.kept (Reads.kept Hr1.out (by omega) (fun b o e => by have := (Hf1.out b o e).1; omega) hKq) (by omega) (fun b o e => by have := (Hf1.out b o e).1; have := hmL.size; omega) hk6
            · exact Reads.kept (Reads.kept (Reads.kept Hmu.out (by omega) Hma.out hK) (by omega) Hma.out hKq) (by omega) (fun b o e => by have := (Hmn.out b o e).1; omega) hk6
            · exact Reads.kept hr3 (by omega) (fun b o e => by have := (hf3 b o e).1; have := hmL.size; omega) hk6
  · have hbq : ∀ X, Later w1 X → X.cell? ⟨gb, 0, none⟩ = some (.int .i64 c.closets) ∧ X.cell? ⟨gb, 1, none⟩ = some (.int .i64 c.close) ∧ X.cell? ⟨gb, 3, none⟩ = some (.slice A2 n2 k2) := fun X hX => ⟨hbox1 X hX 0, hbox1 X hX 1, hbox1 X hX 3⟩
    clear hbox1
    refine wp_region_held_drew (S := Later w1) (by kernel_rfl) (by simp) (fun hS => ?_)
    refine wpAnyH_take (i := 0) (v := ?_) rfl (by kernel_rfl) (by kernel_rfl) (by kernel_rfl) (by intro _ _ _ h; first | exact h | exact absurd h.1 (by simp)) (Or.inl ⟨by rfl, ?_⟩) hS ?_; rotate_left; (focus (intro X hSX; (try dsimp only at hSX); go_simp; (try with_reducible rfl))); (try simp only [Act.put, List.setIfInBounds_toArray, List.set_cons_zero, List.set_cons_succ])
    refine wpAnyH_take (i := 1) (v := ?_) rfl (by kernel_rfl) (by kernel_rfl) (by kernel_rfl) (by intro _ _ _ h; first | exact h | exact absurd h.1 (by simp)) (Or.inl ⟨by rfl, ?_⟩) hS ?_; rotate_left; (focus (intro X hSX; (try dsimp only at hSX); go_simp; (try with_reducible rfl))); (try simp only [Act.put, List.setIfInBounds_toArray, List.set_cons_zero, List.set_cons_succ])
    refine wpAnyH_take (i := 2) (v := ?_) rfl (by kernel_rfl) (by kernel_rfl) (by kernel_rfl) (by intro _ _ _ h; first | exact h | exact absurd h.1 (by simp)) (Or.inl ⟨by rfl, ?_⟩) hS ?_; rotate_left; (focus (intro X hSX; (try dsimp only at hSX); go_simp; (try with_reducible rfl))); (try simp only [Act.put, List.setIfInBounds_toArray, List.set_cons_zero, List.set_cons_succ])
    refine wpAnyH_take (i := 3) (v := ?_) rfl (by kernel_rfl) (by kernel_rfl) (by kernel_rfl) (by intro _ _ _ h; first | exact h | exact absurd h.1 (by simp)) (Or.inl ⟨by rfl, ?_⟩) hS ?_; rotate_left; (focus (intro X hSX; (try dsimp only at hSX); go_simp; (try with_reducible rfl))); (try simp only [Act.put, List.setIfInBounds_toArray, List.set_cons_zero, List.set_cons_succ])
    refine wpAnyH_take (i := 4) (v := ?_) rfl (by kernel_rfl) (by kernel_rfl) (by kernel_rfl) (by intro _ _ _ h; first | exact h | exact absurd h.1 (by simp)) (Or.inl ⟨by rfl, ?_⟩) hS ?_; rotate_left; (focus (intro X hSX; (try dsimp only at hSX); go_simp; (try with_reducible rfl))); (try simp only [Act.put, List.setIfInBounds_toArray, List.set_cons_zero, List.set_cons_succ])
    refine wpAnyH_take (i := 5) (v := ?_) rfl (by kernel_rfl) (by kernel_rfl) (by kernel_rfl) (by intro _ _ _ h; first | exact h | exact absurd h.1 (by simp)) (Or.inl ⟨by rfl, ?_⟩) hS ?_; rotate_left; (focus (intro X hSX; (try dsimp only at hSX); go_simp; (try with_reducible rfl))); (try simp only [Act.put, List.setIfInBounds_toArray, List.set_cons_zero, List.set_cons_succ])
    refine wpAnyH_ready (rs := [6, 8]) (by kernel_rfl) (by simp) ?_
    refine AllReadyH.cons rfl (fun K hK => ?_) (AllReadyH.cons rfl (fun K hK => ?_) AllReadyH.nil)
    · go_simp
      refine (list_calls _ (hc1.hu.later hS) (by omega)).mono ?_
      rintro e w2 ⟨A, n, k, rfl, hL2, hu, hcap, hnew⟩
      have hn := hu.len
      rw [← hc1.hu.len] at hn
      subst hn
      refine hK.out _ _ (Later.trans hS hL2) (fun hS2 => ?_)
      clear hK K; (try simp only [Act.put, List.setIfInBounds_toArray, List.set_cons_zero, List.set_cons_succ])
      refine wpAnyH_take (i := 7) (v := ?_) rfl (by kernel_rfl) (by kernel_rfl) (by kernel_rfl) (by intro _ _ _ h; first | exact h | exact absurd h.1 (by simp)) (Or.inl ⟨by rfl, ?_⟩) hS2 ?_; rotate_left; (focus (intro X hSX; (try dsimp only at hSX); go_simp; (try with_reducible rfl))); (try simp only [Act.put, List.setIfInBounds_toArray, List.set_cons_zero, List.set_cons_succ])
      refine wpAnyH_ready (rs := [8]) (by kernel_rfl) (by simp) ?_; refine AllReadyH.cons rfl (fun K hK => ?_) AllReadyH.nil
      go_simp
      refine hK.out _ _ (later_alloc hS2 _) (fun hS3 => ?_)
      clear hK K; (try simp only [Act.put, List.setIfInBounds_toArray, List.set_cons_zero, List.set_cons_succ])
      have kb := Blk.new w2 35 #[.int .i64 0, .int .i64 0, .slice none 0 0, .slice none 0 0, .slice none 0 0]
      have hm := clMade (c := c) hS3 (by have := hS2.size; omega) kb (hu.later (later_alloc (later_refl _) _)) hcap (fun b o e => ⟨(hnew b o e).1, by have := (hnew b o e).2; simp; omega⟩) (fun b o e => by have := (hnew b o e).2; omega)
      refine wpAnyH_ready (rs := [9]) (by kernel_rfl) (by simp) ?_
      refine AllReadyH.cons (o := { dst := none, op := Op.store 35 (Operand.tmp 3) (Operand.tmp 13), type := 0, pos := "law.go:17", after := #[{ on := 8, ground := Ground.data }, { on := 7, ground := Ground.data }, { on := 6, ground := Ground.chain }, { on := 0, ground := Ground.phase }, { on := 1, ground := Ground.phase }, { on := 2, ground := Ground.phase }, { on := 3, ground := Ground.phase }, { on := 4, ground := Ground.phase }, { on := 5, ground := Ground.phase }, { on := 6, ground := Ground.phase }, { on := 7, ground := Ground.phase }, { on := 8, ground := Ground.phase }], guard := none }) rfl (fun K hK => ?_) AllReadyH.nil
      refine store_row_step rfl _ _ _ rfl _ _ rfl rfl 35 _ kb (by kernel_rfl) rfl (by simp [Value.oneCell']) ?_
      refine hK.out _ _ hm.later (fun _ => ?_)
      clear hK K; (try simp only [Act.put, List.setIfInBounds_toArray, List.set_cons_zero, List.set_cons_succ])
      refine wpAnyH_done (by kernel_rfl) ?_ _
      exact ⟨rfl, _, _, _, hm, rfl⟩
    · go_simp
      refine hK.out _ _ (later_alloc hS _) (fun hS2 => ?_)
      clear hK K; (try simp only [Act.put, List.setIfInBounds_toArray, List.set_cons_zero, List.set_cons_succ])
      refine wpAnyH_ready (rs := [6]) (by kernel_rfl) (by simp) ?_; refine AllReadyH.cons rfl (fun K hK => ?_) AllReadyH.nil
      go_simp
      refine (list_calls _ (hc1.hu.later hS2) (by omega)).mono ?_
      rintro e w2 ⟨A, n, k, rfl, hL2, hu, hcap, hnew⟩
      have hn := hu.len
      rw [← hc1.hu.len] at hn
      subst hn
      refine hK.out _ _ (Later.trans hS2 hL2) (fun hS3 => ?_)
      clear hK K; (try simp only [Act.put, List.setIfInBounds_toArray, List.set_cons_zero, List.set_cons_succ])
      refine wpAnyH_take (i := 7) (v := ?_) rfl (by kernel_rfl) (by kernel_rfl) (by kernel_rfl) (by intro _ _ _ h; first | exact h | exact absurd h.1 (by simp)) (Or.inl ⟨by rfl, ?_⟩) hS3 ?_; rotate_left; (focus (intro X hSX; (try dsimp only at hSX); go_simp; (try with_reducible rfl))); (try simp only [Act.put, List.setIfInBounds_toArray, List.set_cons_zero, List.set_cons_succ])
      have kb := (Blk.new w1 35 #[.int .i64 0, .int .i64 0, .slice none 0 0, .slice none 0 0, .slice none 0 0]).later (Later.trans (later_drew (later_refl _)) hL2)
      have hm := clMade (c := c) hS3 (Nat.le_refl _) kb hu hcap (fun b o e => ⟨by have := (hnew b o e).1; simp at this; omega, (hnew b o e).2⟩) (fun b o e => by have := (hnew b o e).1; simp at this; omega)
      refine wpAnyH_ready (rs := [9]) (by kernel_rfl) (by simp) ?_
      refine AllReadyH.cons (o := { dst := none, op := Op.store 35 (Operand.tmp 3) (Operand.tmp 13), type := 0, pos := "law.go:17", after := #[{ on := 8, ground := Ground.data }, { on := 7, ground := Ground.data }, { on := 6, ground := Ground.chain }, { on := 0, ground := Ground.phase }, { on := 1, ground := Ground.phase }, { on := 2, ground := Ground.phase }, { on := 3, ground := Ground.phase }, { on := 4, ground := Ground.phase }, { on := 5, ground := Ground.phase }, { on := 6, ground := Ground.phase }, { on := 7, ground := Ground.phase }, { on := 8, ground := Ground.phase }], guard := none }) rfl (fun K hK => ?_) AllReadyH.nil
      refine store_row_step rfl _ _ _ rfl _ _ rfl rfl 35 _ kb (by kernel_rfl) rfl (by simp [Value.oneCell']) ?_
      refine hK.out _ _ hm.later (fun _ => ?_)
      clear hK K; (try simp only [Act.put, List.setIfInBounds_toArray, List.set_cons_zero, List.set_cons_succ])
      refine wpAnyH_done (by kernel_rfl) ?_ _
      exact ⟨rfl, _, _, _, hm, rfl⟩
end Go.Proofs.Ytjilckjhdlabaaa

/- awake: the law's examples run. -/
namespace Go.Proofs.Ytjilckjhdlabaaa
open Go Go.RowKit
attribute [local go_sem] later_alloc2 later_alloc3 later_alloc4

theorem ex_playErr : playErr (twoC 0 4) [0, 1] [21, 33] = 0 := by kernel_rfl
theorem ex_playL : playL (twoC 0 4) [0, 1] [21, 33] = [25, 36] := by kernel_rfl
theorem ex_right : rightOut (twoC 0 4) [0, 1] 0 25 = (3, 0) := by kernel_rfl
theorem ex_good : goodOut (twoC 0 4) [0, 1] 1 = (36, 37, 0) := by kernel_rfl
theorem ex_stuck : stuckOut (twoC 0 2) [0, 2] = (1, 0) := by kernel_rfl
theorem ex_first : firstOut (twoC 3 4) = (2, 0) := by kernel_rfl
theorem ex_leave : leaveOut (twoC 3 4) = [2] := by kernel_rfl
theorem ex_fault : fault (twoC 3 4) = 0 := by kernel_rfl
theorem ex_best : bestOut (twoC 0 4) = ([0, 2], 33, 0) := by kernel_rfl
theorem ex_ask : askOut (twoC 0 4) = (1, 34, 6, 0) := by kernel_rfl

theorem two_i64 : i64 3 := by unfold i64; omega
/-- two's answer is the closet -/
def IsTwo (looks : Nat) (grace : Int) (W : World) (v : Value) : Prop :=
  ∃ A1 k1 A2 k2 A3 k3, v = .agg #[.int .i64 3, .int .i64 60, .slice A1 2 k1, .slice A2 2 k2, .slice A3 looks k3] ∧ CV W (twoC looks grace) A1 2 A2 2 A3 looks ∧ 2 ≤ k2 ∧ looks ≤ k3
/-- a list's answer -/
def IsList (l : List Int) (W : World) (v : Value) : Prop := ∃ A k, v = .slice A l.length k ∧ RI W A l.length l ∧ l.length ≤ k
theorem IsTwo.later {looks : Nat} {grace : Int} {W X : World} {v : Value} (h : IsTwo looks grace W v) (k : Later W X) : IsTwo looks grace X v := by
  obtain ⟨A1, k1, A2, k2, A3, k3, e, hc, h1, h2⟩ := h
  exact ⟨A1, k1, A2, k2, A3, k3, e, hc.later k, h1, h2⟩
theorem IsList.later {l : List Int} {W X : World} {v : Value} (h : IsList l W v) (k : Later W X) : IsList l X v := by
  obtain ⟨A, n, e, hr, h1⟩ := h
  exact ⟨A, n, e, hr.later k, h1⟩
theorem two_is (looks : Nat) (grace : Int) (w : World) (hl : looks ≤ 3) : Calls Try.prog 78 #[.int .i64 looks, .int .i64 grace] w fun e w' => ∃ v, e = .returned v ∧ Later w w' ∧ IsTwo looks grace w' v :=
  (two_calls looks grace w hl).mono fun _ _ ⟨A1, k1, A2, k2, A3, k3, e, hL, hc, h1, h2⟩ => ⟨_, e, hL, A1, k1, A2, k2, A3, k3, rfl, hc, h1, h2⟩
theorem list_is {l : List Int} {w w' : World} {e : Ending} (h : ListPost l w e w') : ∃ v, e = .returned v ∧ Later w w' ∧ IsList l w' v := by
  obtain ⟨A, n, k, e, hL, hr, hk, _⟩ := h
  have hn : n = l.length := hr.len
  subst hn
  exact ⟨_, e, hL, A, k, rfl, hr, hk⟩
theorem beside_is (w : World) : Calls Try.prog 80 #[] w fun e w' => ∃ v, e = .returned v ∧ Later w w' ∧ IsList [0, 1] w' v := (beside_calls w).mono fun _ _ h => list_is h
theorem apart_is (w : World) : Calls Try.prog 79 #[] w fun e w' => ∃ v, e = .returned v ∧ Later w w' ∧ IsList [0, 2] w' v := (apart_calls w).mono fun _ _ h => list_is h
section
variable {W : World} {v p d : Value}
theorem play_is (h : IsTwo 0 4 W v) (hp : IsList [0, 1] W p) (hd : IsList [21, 33] W d) : Calls Try.prog 48 #[v, p, d] W fun e w' => ∃ r, e = .returned (.tuple #[r, .int .i64 0]) ∧ Later W w' ∧ IsList [25, 36] w' r := by
  obtain ⟨A1, k1, A2, k2, A3, k3, rfl, hc, h1, h2⟩ := h
  obtain ⟨Ap, kp, rfl, hp, hkp⟩ := hp
  obtain ⟨Ad, kd, rfl, hd, hkd⟩ := hd
  refine (PlayP_calls (c := twoC 0 4) W hc two_i64 (by omega) (by omega) (by omega) h1 hp hkp (by simp) hd (by simp)).mono fun e w' h => ?_
  obtain ⟨A, n, k, e1, hL, hr, hk⟩ := h
  rw [ex_playL] at hr
  rw [ex_playErr] at e1
  have hn : n = 2 := hr.len
  subst hn
  exact ⟨_, e1, hL, A, k, rfl, hr, hk⟩
theorem right_is (h : IsTwo 0 4 W v) (hp : IsList [0, 1] W p) : Calls Try.prog 66 #[v, p, .int .i64 0, .int .i64 25] W fun e w' => e = .returned (.tuple #[.int .i64 3, .int .i64 0]) ∧ Later W w' := by
  obtain ⟨A1, k1, A2, k2, A3, k3, rfl, hc, h1, h2⟩ := h
  obtain ⟨Ap, kp, rfl, hp, hkp⟩ := hp
  have := RightP_calls (k1 := k1) (k2 := k2) (k3 := k3) (c := twoC 0 4) (h := 0) (m := 25) W hc two_i64 (by omega) (by omega) (by omega) h1 hp hkp (by simp)
  rw [ex_right] at this
  exact this
theorem good_is (h : IsTwo 0 4 W v) (hp : IsList [0, 1] W p) : Calls Try.prog 54 #[v, p, .int .i64 1] W fun e w' => e = .returned (.tuple #[.agg #[.int .i64 36, .int .i64 37], .int .i64 0]) ∧ Later W w' := by
  obtain ⟨A1, k1, A2, k2, A3, k3, rfl, hc, h1, h2⟩ := h
  obtain ⟨Ap, kp, rfl, hp, hkp⟩ := hp
  have := GoodP_calls (k1 := k1) (k2 := k2) (k3 := k3) (c := twoC 0 4) (h := 1) W hc two_i64 (by omega) (by omega) (by omega) h1 hp hkp (by simp)
  rw [ex_good] at this
  exact this
theorem best_is (h : IsTwo 0 4 W v) : Calls Try.prog 49 #[v] W fun e w' => ∃ r, e = .returned (.tuple #[r, .int .i64 33, .int .i64 0]) ∧ Later W w' ∧ IsList [0, 2] w' r := by
  obtain ⟨A1, k1, A2, k2, A3, k3, rfl, hc, h1, h2⟩ := h
  refine (BestP_calls (c := twoC 0 4) W hc two_i64 (by omega) (by omega) (by omega) h1).mono fun e w' h => ?_
  obtain ⟨A, n, k, e1, hL, hr, hk⟩ := h
  rw [ex_best] at hr e1
  have hn : n = 2 := hr.len
  subst hn
  exact ⟨_, e1, hL, A, k, rfl, hr, hk⟩
theorem stuck_is (h : IsTwo 0 2 W v) (hp : IsList [0, 2] W p) : Calls Try.prog 25 #[v, p] W fun e w' => e = .returned (.tuple #[.int .i64 1, .int .i64 0]) ∧ Later W w' := by
  obtain ⟨A1, k1, A2, k2, A3, k3, rfl, hc, h1, h2⟩ := h
  obtain ⟨Ap, kp, rfl, hp, hkp⟩ := hp
  have := StuckP_calls (k1 := k1) (k2 := k2) (k3 := k3) (c := twoC 0 2) W hc two_i64 (by omega) (by omega) (by omega) h1 hp hkp (by simp)
  rw [ex_stuck] at this
  exact this
theorem ask_is (h : IsTwo 0 4 W v) : Calls Try.prog 31 #[v] W fun e w' => e = .returned (.tuple #[.int .i64 1, .int .i64 34, .int .i64 6, .int .i64 0]) ∧ Later W w' := by
  obtain ⟨A1, k1, A2, k2, A3, k3, rfl, hc, h1, h2⟩ := h
  have := AskP_calls (k1 := k1) (k2 := k2) (k3 := k3) (c := twoC 0 4) W hc two_i64 (by omega) (by omega) (by omega) h1
  rw [ex_ask] at this
  exact this
theorem first_is (h : IsTwo 3 4 W v) : Calls Try.prog 34 #[v] W fun e w' => e = .returned (.tuple #[.int .i64 2, .int .i64 0]) ∧ Later W w' := by
  obtain ⟨A1, k1, A2, k2, A3, k3, rfl, hc, h1, h2⟩ := h
  have := FirstP_calls (k1 := k1) (k2 := k2) (k3 := k3) (c := twoC 3 4) W hc two_i64 (by omega) (by omega) (by omega) h1 h2
  rw [ex_first] at this
  exact this
theorem leave_is (h : IsTwo 3 4 W v) : Calls Try.prog 35 #[v] W fun e w' => ∃ r, e = .returned (.tuple #[r, .int .i64 0]) ∧ Later W w' ∧ IsList [2] w' r := by
  obtain ⟨A1, k1, A2, k2, A3, k3, rfl, hc, h1, h2⟩ := h
  refine (LeaveP_calls (c := twoC 3 4) W hc two_i64 (by omega) (by omega) (by omega) h1).mono fun e w' h => ?_
  obtain ⟨A, n, k, e1, hL, hr, hk⟩ := h
  rw [ex_leave] at hr
  rw [ex_fault] at e1
  have hn : n = 1 := hr.len
  subst hn
  exact ⟨_, e1, hL, A, k, rfl, hr, hk⟩
theorem same_is {l : List Int} (hp : IsList l W p) (hd : IsList l W d) (hl : l.length ≤ 100) : Calls Try.prog 38 #[p, d] W fun e w' => e = .returned (.bool true) ∧ Later W w' := by
  obtain ⟨Ap, kp, rfl, hp, hkp⟩ := hp
  obtain ⟨Ad, kd, rfl, hd, hkd⟩ := hd
  have := same_calls (k := kp) (j := kd) W hp hd (by omega) (by omega)
  simpa using this
end
end Go.Proofs.Ytjilckjhdlabaaa

/- awake: walk. -/
namespace Go.Proofs.Ytjilckjhdlabaaa
open Go Go.RowKit
attribute [local go_sem] later_alloc2 later_alloc3 later_alloc4
theorem newList2 (w : World) (a b : Int) : IsList [a, b] (w.alloc (.cells #[.int .i64 a, .int .i64 b] 3)) (.slice (some ⟨w.heap.size, 0, none⟩) 2 2) :=
  ⟨_, _, rfl, (Blk.newAt rfl _ _).reads (xs := ints [a, b]) rfl fun j u hu => by simpa [ints] using hu, by simp⟩
theorem newList1 (w : World) (a : Int) : IsList [a] (w.alloc (.cells #[.int .i64 a] 3)) (.slice (some ⟨w.heap.size, 0, none⟩) 1 1) :=
  ⟨_, _, rfl, (Blk.newAt rfl _ _).reads (xs := ints [a]) rfl fun j u hu => by simpa [ints] using hu, by simp⟩
theorem same_from {l : List Int} {wx W : World} {p d : Value} (hL : Later wx W) (hp : IsList l wx p) (hd : IsList l W d) (hl : l.length ≤ 100) : Calls Try.prog 38 #[p, d] W fun e w' => e = .returned (.bool true) ∧ Later wx w' :=
  (same_is (hp.later hL) hd hl).mono fun _ _ h => ⟨h.1, Later.trans hL h.2⟩
theorem apart_from {wx W : World} (hL : Later wx W) : Calls Try.prog 79 #[] W fun e w' => ∃ v, e = .returned v ∧ Later wx w' ∧ IsList [0, 2] w' v :=
  (apart_is W).mono fun _ _ ⟨v, e, h1, h2⟩ => ⟨v, e, Later.trans hL h1, h2⟩
theorem between_from (a b : Int) {wx W : World} (hL : Later wx W) : Calls Try.prog 81 #[.int .i64 a, .int .i64 b] W fun e w' => e = .returned (.agg #[.int .i64 a, .int .i64 b]) ∧ Later wx w' :=
  (between_calls a b W).mono fun _ _ h => ⟨h.1, Later.trans hL h.2⟩
set_option maxRecDepth 100000 in
set_option maxHeartbeats 100000000 in
theorem awake_calls (w : World) : Calls Try.prog 24 #[] w fun e w' => e = .returned (.bool true) ∧ Later w w' := by
  go_enter Try.func24, Try.ntmps24
  go_wp2_with fail
  refine (two_is 0 4 _ (by omega)).mono ?_
  rintro e w1 ⟨v1, rfl, hL1, h1⟩
  go_wp2_with fail
  refine (beside_is _).mono ?_
  rintro e w2 ⟨v2, rfl, hL2, h2⟩
  have h1' := h1.later hL2
  clear h1
  go_wp2_with fail
  refine (play_is (h1'.later (later_alloc (later_refl _) _)) (h2.later (later_alloc (later_refl _) _)) (newList2 _ _ _)).mono ?_
  rintro e w3 ⟨v3, rfl, hL3, h3⟩
  have hLa := Later.trans hL1 (Later.trans hL2 (later_of_alloc hL3))
  clear h1' h2 hL1 hL2 hL3
  go_wp2_with fail
  refine (two_is 0 4 _ (by omega)).mono ?_
  rintro e wx ⟨vt, rfl, hL, ht⟩
  have h3 := h3.later hL; have hLa := Later.trans hLa hL; clear hL
  go_wp2_with fail
  refine (beside_is _).mono ?_
  rintro e wx ⟨vp, rfl, hL, hp⟩
  have ht := ht.later hL
  have h3 := h3.later hL; have hLa := Later.trans hLa hL; clear hL
  go_wp2_with fail
  refine (right_is ht hp).mono ?_
  rintro e wx ⟨rfl, hL⟩
  have h3 := h3.later hL; have hLa := Later.trans hLa hL; clear hL
  clear ht hp
  go_wp2_with fail
  refine (two_is 0 4 _ (by omega)).mono ?_
  rintro e wx ⟨vt, rfl, hL, ht⟩
  have h3 := h3.later hL; have hLa := Later.trans hLa hL; clear hL
  go_wp2_with fail
  refine (beside_is _).mono ?_
  rintro e wx ⟨vp, rfl, hL, hp⟩
  have ht := ht.later hL
  have h3 := h3.later hL; have hLa := Later.trans hLa hL; clear hL
  go_wp2_with fail
  refine (good_is ht hp).mono ?_
  rintro e wx ⟨rfl, hL⟩
  have h3 := h3.later hL; have hLa := Later.trans hLa hL; clear hL
  clear ht hp
  go_wp2_with fail
  have kb := Blk.new wx 61 #[.int .i64 36, .int .i64 37]
  have hL := later_alloc (later_refl wx) (.cells #[.int .i64 36, .int .i64 37] 61)
  obtain ⟨g, hg⟩ : ∃ g, g = wx.heap.size := ⟨_, rfl⟩
  rw [← hg] at kb
  simp only [← hg]
  clear hg
  generalize wx.alloc _ = wy at hL kb ⊢
  have h3 := h3.later hL; have hLa := Later.trans hLa hL; clear hL
  refine (two_is 0 4 _ (by omega)).mono ?_
  rintro e wx ⟨vt, rfl, hL, ht⟩
  have kb := kb.later hL; have h3 := h3.later hL; have hLa := Later.trans hLa hL; clear hL
  go_wp2_with fail
  refine (best_is ht).mono ?_
  rintro e wx ⟨v4, rfl, hL, h4⟩
  have kb := kb.later hL; have h3 := h3.later hL; have hLa := Later.trans hLa hL; clear hL
  clear ht
  go_wp2_with fail
  refine (two_is 0 2 _ (by omega)).mono ?_
  rintro e wx ⟨vt, rfl, hL, ht⟩
  have h4 := h4.later hL
  have kb := kb.later hL; have h3 := h3.later hL; have hLa := Later.trans hLa hL; clear hL
  go_wp2_with fail
  refine (apart_is _).mono ?_
  rintro e wx ⟨vp, rfl, hL, hp⟩
  have ht := ht.later hL
  have h4 := h4.later hL
  have kb := kb.later hL; have h3 := h3.later hL; have hLa := Later.trans hLa hL; clear hL
  go_wp2_with fail
  refine (stuck_is ht hp).mono ?_
  rintro e wx ⟨rfl, hL⟩
  have h4 := h4.later hL
  have kb := kb.later hL; have h3 := h3.later hL; have hLa := Later.trans hLa hL; clear hL
  clear ht
  go_wp2_with fail
  refine (two_is 0 4 _ (by omega)).mono ?_
  rintro e wx ⟨vt, rfl, hL, ht⟩
  have h4 := h4.later hL
  have kb := kb.later hL; have h3 := h3.later hL; have hLa := Later.trans hLa hL; clear hL
  go_wp2_with fail
  refine (ask_is ht).mono ?_
  rintro e wx ⟨rfl, hL⟩
  have h4 := h4.later hL
  have kb := kb.later hL; have h3 := h3.later hL; have hLa := Later.trans hLa hL; clear hL
  clear ht
  go_wp2_with fail
  refine (two_is 3 4 _ (by omega)).mono ?_
  rintro e wx ⟨vt, rfl, hL, ht⟩
  have h4 := h4.later hL
  have kb := kb.later hL; have h3 := h3.later hL; have hLa := Later.trans hLa hL; clear hL
  go_wp2_with fail
  refine (first_is ht).mono ?_
  rintro e wx ⟨rfl, hL⟩
  have h4 := h4.later hL
  have kb := kb.later hL; have h3 := h3.later hL; have hLa := Later.trans hLa hL; clear hL
  clear ht
  go_wp2_with fail
  refine (two_is 3 4 _ (by omega)).mono ?_
  rintro e wx ⟨vt, rfl, hL, ht⟩
  have h4 := h4.later hL
  have kb := kb.later hL; have h3 := h3.later hL; have hLa := Later.trans hLa hL; clear hL
  go_wp2_with fail
  refine (leave_is ht).mono ?_
  rintro e wx ⟨v5, rfl, hL, h5⟩
  have h4 := h4.later hL
  have kb := kb.later hL; have h3 := h3.later hL; have hLa := Later.trans hLa hL; clear hL
  clear ht
  go_wp2_with fail
  have hk0 : ∀ X, Later wx X → X.cell? ⟨g, 0, none⟩ = some (.int .i64 36) ∧ X.cell? ⟨g, 1, none⟩ = some (.int .i64 37) := fun X hX => ⟨kb.cells_later X hX 0, kb.cells_later X hX 1⟩
  have H3 := h3
  have H4 := h4
  have H5 := h5
  have HL := hide hLa
  have hwx : Later wx wx := later_refl _
  clear kb hLa
  simp only [List.append_eq, List.cons_append, List.nil_append]
  refine wp_region_held_drew (S := Later wx) (by kernel_rfl) (by simp) (fun hS => ?_)
  refine wpAnyH_ready (rs := [0]) (by kernel_rfl) (by simp) ?_; refine AllReadyH.cons rfl (fun K hK2 => ?_) AllReadyH.nil
  go_simp
  refine hK2.out _ _ hS (fun _ => ?_)
  clear hK2 K; (try simp only [Act.put, List.setIfInBounds_toArray, List.set_cons_zero, List.set_cons_succ])
  refine wpAnyH_ready (rs := [1]) (by kernel_rfl) (by simp) ?_; refine AllReadyH.cons rfl (fun K hK2 => ?_) AllReadyH.nil
  go_simp
  refine hK2.out _ _ hS (fun _ => ?_)
  clear hK2 K; (try simp only [Act.put, List.setIfInBounds_toArray, List.set_cons_zero, List.set_cons_succ])
  refine wpAnyH_ready (rs := [2]) (by kernel_rfl) (by simp) ?_; refine AllReadyH.cons rfl (fun K hK2 => ?_) AllReadyH.nil
  go_simp
  refine hK2.out _ _ hS (fun _ => ?_)
  clear hK2 K; (try simp only [Act.put, List.setIfInBounds_toArray, List.set_cons_zero, List.set_cons_succ])
  refine wpAnyH_take (i := 3) (v := ?_) rfl (by kernel_rfl) (by kernel_rfl) (by kernel_rfl) (by intro _ _ _ h; first | exact h | exact absurd h.1 (by simp)) (Or.inl ⟨by rfl, ?_⟩) hS ?_; rotate_left; (focus (intro X hSX; (try dsimp only at hSX); go_simp; (try with_reducible rfl))); (try simp only [Act.put, List.setIfInBounds_toArray, List.set_cons_zero, List.set_cons_succ])
  refine wpAnyH_ready (rs := [4]) (by kernel_rfl) (by simp) ?_; refine AllReadyH.cons rfl (fun K hK2 => ?_) AllReadyH.nil
  go_simp
  refine hK2.out _ _ (later_alloc hS _) (fun hS => ?_)
  clear hK2 K; (try simp only [Act.put, List.setIfInBounds_toArray, List.set_cons_zero, List.set_cons_succ])
  refine wpAnyH_ready (rs := [5]) (by kernel_rfl) (by simp) ?_; refine AllReadyH.cons rfl (fun K hK2 => ?_) AllReadyH.nil
  go_simp
  refine (same_from (l := [25, 36]) hS H3 (by first | exact newList2 _ _ _ | exact (newList2 _ _ _).later (later_drew (later_refl _))) (by decide)).mono ?_
  rintro e wz ⟨rfl, hS⟩
  refine hK2.out _ _ hS (fun _ => ?_)
  clear hK2 K; (try simp only [Act.put, List.setIfInBounds_toArray, List.set_cons_zero, List.set_cons_succ])
  refine wpAnyH_ready (rs := [6]) (by kernel_rfl) (by simp) ?_; refine AllReadyH.cons rfl (fun K hK2 => ?_) AllReadyH.nil
  go_simp
  refine hK2.out _ _ hS (fun _ => ?_)
  clear hK2 K; (try simp only [Act.put, List.setIfInBounds_toArray, List.set_cons_zero, List.set_cons_succ])
  refine wpAnyH_ready (rs := [7]) (by kernel_rfl) (by simp) ?_; refine AllReadyH.cons rfl (fun K hK2 => ?_) AllReadyH.nil
  go_simp
  refine hK2.out _ _ hS (fun _ => ?_)
  clear hK2 K; (try simp only [Act.put, List.setIfInBounds_toArray, List.set_cons_zero, List.set_cons_succ])
  refine wpAnyH_ready (rs := [8]) (by kernel_rfl) (by simp) ?_; refine AllReadyH.cons rfl (fun K hK2 => ?_) AllReadyH.nil
  go_simp
  refine hK2.out _ _ hS (fun _ => ?_)
  clear hK2 K; (try simp only [Act.put, List.setIfInBounds_toArray, List.set_cons_zero, List.set_cons_succ])
  refine wpAnyH_ready (rs := [9]) (by kernel_rfl) (by simp) ?_; refine AllReadyH.cons rfl (fun K hK2 => ?_) AllReadyH.nil
  go_simp
  refine hK2.out _ _ hS (fun _ => ?_)
  clear hK2 K; (try simp only [Act.put, List.setIfInBounds_toArray, List.set_cons_zero, List.set_cons_succ])
  refine wpAnyH_ready (rs := [10]) (by kernel_rfl) (by simp) ?_; refine AllReadyH.cons rfl (fun K hK2 => ?_) AllReadyH.nil
  go_simp
  refine hK2.out _ _ hS (fun _ => ?_)
  clear hK2 K; (try simp only [Act.put, List.setIfInBounds_toArray, List.set_cons_zero, List.set_cons_succ])
  refine wpAnyH_ready (rs := [11]) (by kernel_rfl) (by simp) ?_; refine AllReadyH.cons rfl (fun K hK2 => ?_) AllReadyH.nil
  go_simp
  refine hK2.out _ _ hS (fun _ => ?_)
  clear hK2 K; (try simp only [Act.put, List.setIfInBounds_toArray, List.set_cons_zero, List.set_cons_succ])
  refine wpAnyH_ready (rs := [12]) (by kernel_rfl) (by simp) ?_; refine AllReadyH.cons rfl (fun K hK2 => ?_) AllReadyH.nil
  go_simp
  refine hK2.out _ _ hS (fun _ => ?_)
  clear hK2 K; (try simp only [Act.put, List.setIfInBounds_toArray, List.set_cons_zero, List.set_cons_succ])
  refine wpAnyH_ready (rs := [13]) (by kernel_rfl) (by simp) ?_; refine AllReadyH.cons rfl (fun K hK2 => ?_) AllReadyH.nil
  go_simp
  refine hK2.out _ _ hS (fun _ => ?_)
  clear hK2 K; (try simp only [Act.put, List.setIfInBounds_toArray, List.set_cons_zero, List.set_cons_succ])
  refine wpAnyH_ready (rs := [14]) (by kernel_rfl) (by simp) ?_; refine AllReadyH.cons rfl (fun K hK2 => ?_) AllReadyH.nil
  go_simp
  refine hK2.out _ _ hS (fun _ => ?_)
  clear hK2 K; (try simp only [Act.put, List.setIfInBounds_toArray, List.set_cons_zero, List.set_cons_succ])
  refine wpAnyH_ready (rs := [15]) (by kernel_rfl) (by simp) ?_; refine AllReadyH.cons rfl (fun K hK2 => ?_) AllReadyH.nil
  go_simp
  refine hK2.out _ _ hS (fun _ => ?_)
  clear hK2 K; (try simp only [Act.put, List.setIfInBounds_toArray, List.set_cons_zero, List.set_cons_succ])
  refine wpAnyH_ready (rs := [16]) (by kernel_rfl) (by simp) ?_; refine AllReadyH.cons rfl (fun K hK2 => ?_) AllReadyH.nil
  go_simp
  refine hK2.out _ _ hS (fun _ => ?_)
  clear hK2 K; (try simp only [Act.put, List.setIfInBounds_toArray, List.set_cons_zero, List.set_cons_succ])
  refine wpAnyH_ready (rs := [17]) (by kernel_rfl) (by simp) ?_; refine AllReadyH.cons rfl (fun K hK2 => ?_) AllReadyH.nil
  go_simp
  refine hK2.out _ _ hS (fun _ => ?_)
  clear hK2 K; (try simp only [Act.put, List.setIfInBounds_toArray, List.set_cons_zero, List.set_cons_succ])
  refine wpAnyH_ready (rs := [18]) (by kernel_rfl) (by simp) ?_; refine AllReadyH.cons rfl (fun K hK2 => ?_) AllReadyH.nil
  go_simp
  refine hK2.out _ _ hS (fun _ => ?_)
  clear hK2 K; (try simp only [Act.put, List.setIfInBounds_toArray, List.set_cons_zero, List.set_cons_succ])
  refine wpAnyH_ready (rs := [19]) (by kernel_rfl) (by simp) ?_; refine AllReadyH.cons rfl (fun K hK2 => ?_) AllReadyH.nil
  go_simp
  refine hK2.out _ _ hS (fun _ => ?_)
  clear hK2 K; (try simp only [Act.put, List.setIfInBounds_toArray, List.set_cons_zero, List.set_cons_succ])
  refine wpAnyH_take (i := 20) (v := ?_) rfl (by kernel_rfl) (by kernel_rfl) (by kernel_rfl) (by intro _ _ _ h; first | exact h | exact absurd h.1 (by simp)) (Or.inl ⟨by rfl, ?_⟩) hS ?_; rotate_left; (focus (intro X hSX; (try dsimp only at hSX); go_simp; (try with_reducible rfl))); (try simp only [Act.put, List.setIfInBounds_toArray, List.set_cons_zero, List.set_cons_succ])
  refine wpAnyH_ready (rs := [21]) (by kernel_rfl) (by simp) ?_; refine AllReadyH.cons rfl (fun K hK2 => ?_) AllReadyH.nil
  go_simp
  refine (between_from 36 37 hS).mono ?_
  rintro e wz ⟨rfl, hS⟩
  refine hK2.out _ _ hS (fun _ => ?_)
  clear hK2 K; (try simp only [Act.put, List.setIfInBounds_toArray, List.set_cons_zero, List.set_cons_succ])
  refine wpAnyH_ready (rs := [22]) (by kernel_rfl) (by simp) ?_; refine AllReadyH.cons rfl (fun K hK2 => ?_) AllReadyH.nil
  go_simp
  refine hK2.out _ _ hS (fun _ => ?_)
  clear hK2 K; (try simp only [Act.put, List.setIfInBounds_toArray, List.set_cons_zero, List.set_cons_succ])
  refine wpAnyH_ready (rs := [23]) (by kernel_rfl) (by simp) ?_; refine AllReadyH.cons rfl (fun K hK2 => ?_) AllReadyH.nil
  go_simp
  refine hK2.out _ _ hS (fun _ => ?_)
  clear hK2 K; (try simp only [Act.put, List.setIfInBounds_toArray, List.set_cons_zero, List.set_cons_succ])
  refine wpAnyH_ready (rs := [24]) (by kernel_rfl) (by simp) ?_; refine AllReadyH.cons rfl (fun K hK2 => ?_) AllReadyH.nil
  go_simp
  refine hK2.out _ _ hS (fun _ => ?_)
  clear hK2 K; (try simp only [Act.put, List.setIfInBounds_toArray, List.set_cons_zero, List.set_cons_succ])
  refine wpAnyH_ready (rs := [25]) (by kernel_rfl) (by simp) ?_; refine AllReadyH.cons rfl (fun K hK2 => ?_) AllReadyH.nil
  go_simp
  refine hK2.out _ _ hS (fun _ => ?_)
  clear hK2 K; (try simp only [Act.put, List.setIfInBounds_toArray, List.set_cons_zero, List.set_cons_succ])
  refine wpAnyH_ready (rs := [26]) (by kernel_rfl) (by simp) ?_; refine AllReadyH.cons rfl (fun K hK2 => ?_) AllReadyH.nil
  go_simp
  refine hK2.out _ _ hS (fun _ => ?_)
  clear hK2 K; (try simp only [Act.put, List.setIfInBounds_toArray, List.set_cons_zero, List.set_cons_succ])
  refine wpAnyH_ready (rs := [27]) (by kernel_rfl) (by simp) ?_; refine AllReadyH.cons rfl (fun K hK2 => ?_) AllReadyH.nil
  go_simp
  refine hK2.out _ _ hS (fun _ => ?_)
  clear hK2 K; (try simp only [Act.put, List.setIfInBounds_toArray, List.set_cons_zero, List.set_cons_succ])
  refine wpAnyH_ready (rs := [28]) (by kernel_rfl) (by simp) ?_; refine AllReadyH.cons rfl (fun K hK2 => ?_) AllReadyH.nil
  go_simp
  refine hK2.out _ _ hS (fun _ => ?_)
  clear hK2 K; (try simp only [Act.put, List.setIfInBounds_toArray, List.set_cons_zero, List.set_cons_succ])
  refine wpAnyH_take (i := 29) (v := ?_) rfl (by kernel_rfl) (by kernel_rfl) (by kernel_rfl) (by intro _ _ _ h; first | exact h | exact absurd h.1 (by simp)) (Or.inl ⟨by rfl, ?_⟩) hS ?_; rotate_left; (focus (intro X hSX; (try dsimp only at hSX); go_simp; (try with_reducible rfl))); (try simp only [Act.put, List.setIfInBounds_toArray, List.set_cons_zero, List.set_cons_succ])
  refine wpAnyH_ready (rs := [30]) (by kernel_rfl) (by simp) ?_; refine AllReadyH.cons rfl (fun K hK2 => ?_) AllReadyH.nil
  go_simp
  refine (apart_from hS).mono ?_
  rintro e wz ⟨vq, rfl, hS, hap⟩
  refine hK2.out _ _ hS (fun _ => ?_)
  clear hK2 K; (try simp only [Act.put, List.setIfInBounds_toArray, List.set_cons_zero, List.set_cons_succ])
  refine wpAnyH_ready (rs := [31]) (by kernel_rfl) (by simp) ?_; refine AllReadyH.cons rfl (fun K hK2 => ?_) AllReadyH.nil
  go_simp
  refine (same_from (l := [0, 2]) hS H4 (by first | exact hap | exact hap.later (later_drew (later_refl _))) (by decide)).mono ?_
  rintro e wz ⟨rfl, hS⟩
  refine hK2.out _ _ hS (fun _ => ?_)
  clear hK2 K; (try simp only [Act.put, List.setIfInBounds_toArray, List.set_cons_zero, List.set_cons_succ])
  refine wpAnyH_ready (rs := [32]) (by kernel_rfl) (by simp) ?_; refine AllReadyH.cons rfl (fun K hK2 => ?_) AllReadyH.nil
  go_simp
  refine hK2.out _ _ hS (fun _ => ?_)
  clear hK2 K; (try simp only [Act.put, List.setIfInBounds_toArray, List.set_cons_zero, List.set_cons_succ])
  refine wpAnyH_ready (rs := [33]) (by kernel_rfl) (by simp) ?_; refine AllReadyH.cons rfl (fun K hK2 => ?_) AllReadyH.nil
  go_simp
  refine hK2.out _ _ hS (fun _ => ?_)
  clear hK2 K; (try simp only [Act.put, List.setIfInBounds_toArray, List.set_cons_zero, List.set_cons_succ])
  refine wpAnyH_ready (rs := [34]) (by kernel_rfl) (by simp) ?_; refine AllReadyH.cons rfl (fun K hK2 => ?_) AllReadyH.nil
  go_simp
  refine hK2.out _ _ hS (fun _ => ?_)
  clear hK2 K; (try simp only [Act.put, List.setIfInBounds_toArray, List.set_cons_zero, List.set_cons_succ])
  refine wpAnyH_ready (rs := [35]) (by kernel_rfl) (by simp) ?_; refine AllReadyH.cons rfl (fun K hK2 => ?_) AllReadyH.nil
  go_simp
  refine hK2.out _ _ hS (fun _ => ?_)
  clear hK2 K; (try simp only [Act.put, List.setIfInBounds_toArray, List.set_cons_zero, List.set_cons_succ])
  refine wpAnyH_ready (rs := [36]) (by kernel_rfl) (by simp) ?_; refine AllReadyH.cons rfl (fun K hK2 => ?_) AllReadyH.nil
  go_simp
  refine hK2.out _ _ hS (fun _ => ?_)
  clear hK2 K; (try simp only [Act.put, List.setIfInBounds_toArray, List.set_cons_zero, List.set_cons_succ])
  refine wpAnyH_ready (rs := [37]) (by kernel_rfl) (by simp) ?_; refine AllReadyH.cons rfl (fun K hK2 => ?_) AllReadyH.nil
  go_simp
  refine hK2.out _ _ hS (fun _ => ?_)
  clear hK2 K; (try simp only [Act.put, List.setIfInBounds_toArray, List.set_cons_zero, List.set_cons_succ])
  refine wpAnyH_ready (rs := [38]) (by kernel_rfl) (by simp) ?_; refine AllReadyH.cons rfl (fun K hK2 => ?_) AllReadyH.nil
  go_simp
  refine hK2.out _ _ hS (fun _ => ?_)
  clear hK2 K; (try simp only [Act.put, List.setIfInBounds_toArray, List.set_cons_zero, List.set_cons_succ])
  refine wpAnyH_ready (rs := [39]) (by kernel_rfl) (by simp) ?_; refine AllReadyH.cons rfl (fun K hK2 => ?_) AllReadyH.nil
  go_simp
  refine hK2.out _ _ hS (fun _ => ?_)
  clear hK2 K; (try simp only [Act.put, List.setIfInBounds_toArray, List.set_cons_zero, List.set_cons_succ])
  refine wpAnyH_ready (rs := [40]) (by kernel_rfl) (by simp) ?_; refine AllReadyH.cons rfl (fun K hK2 => ?_) AllReadyH.nil
  go_simp
  refine hK2.out _ _ hS (fun _ => ?_)
  clear hK2 K; (try simp only [Act.put, List.setIfInBounds_toArray, List.set_cons_zero, List.set_cons_succ])
  refine wpAnyH_ready (rs := [41]) (by kernel_rfl) (by simp) ?_; refine AllReadyH.cons rfl (fun K hK2 => ?_) AllReadyH.nil
  go_simp
  refine hK2.out _ _ hS (fun _ => ?_)
  clear hK2 K; (try simp only [Act.put, List.setIfInBounds_toArray, List.set_cons_zero, List.set_cons_succ])
  refine wpAnyH_ready (rs := [42]) (by kernel_rfl) (by simp) ?_; refine AllReadyH.cons rfl (fun K hK2 => ?_) AllReadyH.nil
  go_simp
  refine hK2.out _ _ hS (fun _ => ?_)
  clear hK2 K; (try simp only [Act.put, List.setIfInBounds_toArray, List.set_cons_zero, List.set_cons_succ])
  refine wpAnyH_ready (rs := [43]) (by kernel_rfl) (by simp) ?_; refine AllReadyH.cons rfl (fun K hK2 => ?_) AllReadyH.nil
  go_simp
  refine hK2.out _ _ hS (fun _ => ?_)
  clear hK2 K; (try simp only [Act.put, List.setIfInBounds_toArray, List.set_cons_zero, List.set_cons_succ])
  refine wpAnyH_ready (rs := [44]) (by kernel_rfl) (by simp) ?_; refine AllReadyH.cons rfl (fun K hK2 => ?_) AllReadyH.nil
  go_simp
  refine hK2.out _ _ hS (fun _ => ?_)
  clear hK2 K; (try simp only [Act.put, List.setIfInBounds_toArray, List.set_cons_zero, List.set_cons_succ])
  refine wpAnyH_ready (rs := [45]) (by kernel_rfl) (by simp) ?_; refine AllReadyH.cons rfl (fun K hK2 => ?_) AllReadyH.nil
  go_simp
  refine hK2.out _ _ hS (fun _ => ?_)
  clear hK2 K; (try simp only [Act.put, List.setIfInBounds_toArray, List.set_cons_zero, List.set_cons_succ])
  refine wpAnyH_ready (rs := [46]) (by kernel_rfl) (by simp) ?_; refine AllReadyH.cons rfl (fun K hK2 => ?_) AllReadyH.nil
  go_simp
  refine hK2.out _ _ hS (fun _ => ?_)
  clear hK2 K; (try simp only [Act.put, List.setIfInBounds_toArray, List.set_cons_zero, List.set_cons_succ])
  refine wpAnyH_ready (rs := [47]) (by kernel_rfl) (by simp) ?_; refine AllReadyH.cons rfl (fun K hK2 => ?_) AllReadyH.nil
  go_simp
  refine hK2.out _ _ hS (fun _ => ?_)
  clear hK2 K; (try simp only [Act.put, List.setIfInBounds_toArray, List.set_cons_zero, List.set_cons_succ])
  refine wpAnyH_ready (rs := [48]) (by kernel_rfl) (by simp) ?_; refine AllReadyH.cons rfl (fun K hK2 => ?_) AllReadyH.nil
  go_simp
  refine hK2.out _ _ hS (fun _ => ?_)
  clear hK2 K; (try simp only [Act.put, List.setIfInBounds_toArray, List.set_cons_zero, List.set_cons_succ])
  refine wpAnyH_ready (rs := [49]) (by kernel_rfl) (by simp) ?_; refine AllReadyH.cons rfl (fun K hK2 => ?_) AllReadyH.nil
  go_simp
  refine hK2.out _ _ hS (fun _ => ?_)
  clear hK2 K; (try simp only [Act.put, List.setIfInBounds_toArray, List.set_cons_zero, List.set_cons_succ])
  refine wpAnyH_ready (rs := [50]) (by kernel_rfl) (by simp) ?_; refine AllReadyH.cons rfl (fun K hK2 => ?_) AllReadyH.nil
  go_simp
  refine hK2.out _ _ hS (fun _ => ?_)
  clear hK2 K; (try simp only [Act.put, List.setIfInBounds_toArray, List.set_cons_zero, List.set_cons_succ])
  refine wpAnyH_ready (rs := [51]) (by kernel_rfl) (by simp) ?_; refine AllReadyH.cons rfl (fun K hK2 => ?_) AllReadyH.nil
  go_simp
  refine hK2.out _ _ hS (fun _ => ?_)
  clear hK2 K; (try simp only [Act.put, List.setIfInBounds_toArray, List.set_cons_zero, List.set_cons_succ])
  refine wpAnyH_ready (rs := [52]) (by kernel_rfl) (by simp) ?_; refine AllReadyH.cons rfl (fun K hK2 => ?_) AllReadyH.nil
  go_simp
  refine hK2.out _ _ hS (fun _ => ?_)
  clear hK2 K; (try simp only [Act.put, List.setIfInBounds_toArray, List.set_cons_zero, List.set_cons_succ])
  refine wpAnyH_ready (rs := [53]) (by kernel_rfl) (by simp) ?_; refine AllReadyH.cons rfl (fun K hK2 => ?_) AllReadyH.nil
  go_simp
  refine hK2.out _ _ hS (fun _ => ?_)
  clear hK2 K; (try simp only [Act.put, List.setIfInBounds_toArray, List.set_cons_zero, List.set_cons_succ])
  refine wpAnyH_ready (rs := [54]) (by kernel_rfl) (by simp) ?_; refine AllReadyH.cons rfl (fun K hK2 => ?_) AllReadyH.nil
  go_simp
  refine hK2.out _ _ hS (fun _ => ?_)
  clear hK2 K; (try simp only [Act.put, List.setIfInBounds_toArray, List.set_cons_zero, List.set_cons_succ])
  refine wpAnyH_ready (rs := [55]) (by kernel_rfl) (by simp) ?_; refine AllReadyH.cons rfl (fun K hK2 => ?_) AllReadyH.nil
  go_simp
  refine hK2.out _ _ hS (fun _ => ?_)
  clear hK2 K; (try simp only [Act.put, List.setIfInBounds_toArray, List.set_cons_zero, List.set_cons_succ])
  refine wpAnyH_ready (rs := [56]) (by kernel_rfl) (by simp) ?_; refine AllReadyH.cons rfl (fun K hK2 => ?_) AllReadyH.nil
  go_simp
  refine hK2.out _ _ hS (fun _ => ?_)
  clear hK2 K; (try simp only [Act.put, List.setIfInBounds_toArray, List.set_cons_zero, List.set_cons_succ])
  refine wpAnyH_ready (rs := [57]) (by kernel_rfl) (by simp) ?_; refine AllReadyH.cons rfl (fun K hK2 => ?_) AllReadyH.nil
  go_simp
  refine hK2.out _ _ hS (fun _ => ?_)
  clear hK2 K; (try simp only [Act.put, List.setIfInBounds_toArray, List.set_cons_zero, List.set_cons_succ])
  refine wpAnyH_ready (rs := [58]) (by kernel_rfl) (by simp) ?_; refine AllReadyH.cons rfl (fun K hK2 => ?_) AllReadyH.nil
  go_simp
  refine hK2.out _ _ hS (fun _ => ?_)
  clear hK2 K; (try simp only [Act.put, List.setIfInBounds_toArray, List.set_cons_zero, List.set_cons_succ])
  refine wpAnyH_ready (rs := [59]) (by kernel_rfl) (by simp) ?_; refine AllReadyH.cons rfl (fun K hK2 => ?_) AllReadyH.nil
  go_simp
  refine hK2.out _ _ hS (fun _ => ?_)
  clear hK2 K; (try simp only [Act.put, List.setIfInBounds_toArray, List.set_cons_zero, List.set_cons_succ])
  refine wpAnyH_ready (rs := [60]) (by kernel_rfl) (by simp) ?_; refine AllReadyH.cons rfl (fun K hK2 => ?_) AllReadyH.nil
  go_simp
  refine hK2.out _ _ hS (fun _ => ?_)
  clear hK2 K; (try simp only [Act.put, List.setIfInBounds_toArray, List.set_cons_zero, List.set_cons_succ])
  refine wpAnyH_ready (rs := [61]) (by kernel_rfl) (by simp) ?_; refine AllReadyH.cons rfl (fun K hK2 => ?_) AllReadyH.nil
  go_simp
  refine hK2.out _ _ hS (fun _ => ?_)
  clear hK2 K; (try simp only [Act.put, List.setIfInBounds_toArray, List.set_cons_zero, List.set_cons_succ])
  refine wpAnyH_ready (rs := [62]) (by kernel_rfl) (by simp) ?_; refine AllReadyH.cons rfl (fun K hK2 => ?_) AllReadyH.nil
  go_simp
  refine hK2.out _ _ hS (fun _ => ?_)
  clear hK2 K; (try simp only [Act.put, List.setIfInBounds_toArray, List.set_cons_zero, List.set_cons_succ])
  refine wpAnyH_ready (rs := [63]) (by kernel_rfl) (by simp) ?_; refine AllReadyH.cons rfl (fun K hK2 => ?_) AllReadyH.nil
  go_simp
  refine hK2.out _ _ hS (fun _ => ?_)
  clear hK2 K; (try simp only [Act.put, List.setIfInBounds_toArray, List.set_cons_zero, List.set_cons_succ])
  refine wpAnyH_ready (rs := [64]) (by kernel_rfl) (by simp) ?_; refine AllReadyH.cons rfl (fun K hK2 => ?_) AllReadyH.nil
  go_simp
  refine hK2.out _ _ hS (fun _ => ?_)
  clear hK2 K; (try simp only [Act.put, List.setIfInBounds_toArray, List.set_cons_zero, List.set_cons_succ])
  refine wpAnyH_ready (rs := [65]) (by kernel_rfl) (by simp) ?_; refine AllReadyH.cons rfl (fun K hK2 => ?_) AllReadyH.nil
  go_simp
  refine hK2.out _ _ hS (fun _ => ?_)
  clear hK2 K; (try simp only [Act.put, List.setIfInBounds_toArray, List.set_cons_zero, List.set_cons_succ])
  refine wpAnyH_ready (rs := [66]) (by kernel_rfl) (by simp) ?_; refine AllReadyH.cons rfl (fun K hK2 => ?_) AllReadyH.nil
  go_simp
  refine hK2.out _ _ hS (fun _ => ?_)
  clear hK2 K; (try simp only [Act.put, List.setIfInBounds_toArray, List.set_cons_zero, List.set_cons_succ])
  refine wpAnyH_ready (rs := [67]) (by kernel_rfl) (by simp) ?_; refine AllReadyH.cons rfl (fun K hK2 => ?_) AllReadyH.nil
  go_simp
  refine hK2.out _ _ hS (fun _ => ?_)
  clear hK2 K; (try simp only [Act.put, List.setIfInBounds_toArray, List.set_cons_zero, List.set_cons_succ])
  refine wpAnyH_ready (rs := [68]) (by kernel_rfl) (by simp) ?_; refine AllReadyH.cons rfl (fun K hK2 => ?_) AllReadyH.nil
  go_simp
  refine hK2.out _ _ hS (fun _ => ?_)
  clear hK2 K; (try simp only [Act.put, List.setIfInBounds_toArray, List.set_cons_zero, List.set_cons_succ])
  refine wpAnyH_ready (rs := [69]) (by kernel_rfl) (by simp) ?_; refine AllReadyH.cons rfl (fun K hK2 => ?_) AllReadyH.nil
  go_simp
  refine hK2.out _ _ hS (fun _ => ?_)
  clear hK2 K; (try simp only [Act.put, List.setIfInBounds_toArray, List.set_cons_zero, List.set_cons_succ])
  refine wpAnyH_ready (rs := [70]) (by kernel_rfl) (by simp) ?_; refine AllReadyH.cons rfl (fun K hK2 => ?_) AllReadyH.nil
  go_simp
  refine hK2.out _ _ hS (fun _ => ?_)
  clear hK2 K; (try simp only [Act.put, List.setIfInBounds_toArray, List.set_cons_zero, List.set_cons_succ])
  refine wpAnyH_ready (rs := [71]) (by kernel_rfl) (by simp) ?_; refine AllReadyH.cons rfl (fun K hK2 => ?_) AllReadyH.nil
  go_simp
  refine hK2.out _ _ hS (fun _ => ?_)
  clear hK2 K; (try simp only [Act.put, List.setIfInBounds_toArray, List.set_cons_zero, List.set_cons_succ])
  refine wpAnyH_ready (rs := [72]) (by kernel_rfl) (by simp) ?_; refine AllReadyH.cons rfl (fun K hK2 => ?_) AllReadyH.nil
  go_simp
  refine hK2.out _ _ hS (fun _ => ?_)
  clear hK2 K; (try simp only [Act.put, List.setIfInBounds_toArray, List.set_cons_zero, List.set_cons_succ])
  refine wpAnyH_ready (rs := [73]) (by kernel_rfl) (by simp) ?_; refine AllReadyH.cons rfl (fun K hK2 => ?_) AllReadyH.nil
  go_simp
  refine hK2.out _ _ hS (fun _ => ?_)
  clear hK2 K; (try simp only [Act.put, List.setIfInBounds_toArray, List.set_cons_zero, List.set_cons_succ])
  refine wpAnyH_take (i := 74) (v := ?_) rfl (by kernel_rfl) (by kernel_rfl) (by kernel_rfl) (by intro _ _ _ h; first | exact h | exact absurd h.1 (by simp)) (Or.inl ⟨by rfl, ?_⟩) hS ?_; rotate_left; (focus (intro X hSX; (try dsimp only at hSX); go_simp; (try with_reducible rfl))); (try simp only [Act.put, List.setIfInBounds_toArray, List.set_cons_zero, List.set_cons_succ])
  refine wpAnyH_ready (rs := [75]) (by kernel_rfl) (by simp) ?_; refine AllReadyH.cons rfl (fun K hK2 => ?_) AllReadyH.nil
  go_simp
  refine hK2.out _ _ (later_alloc hS _) (fun hS => ?_)
  clear hK2 K; (try simp only [Act.put, List.setIfInBounds_toArray, List.set_cons_zero, List.set_cons_succ])
  refine wpAnyH_ready (rs := [76]) (by kernel_rfl) (by simp) ?_; refine AllReadyH.cons rfl (fun K hK2 => ?_) AllReadyH.nil
  go_simp
  refine (same_from (l := [2]) hS H5 (by first | exact newList1 _ _ | exact (newList1 _ _).later (later_drew (later_refl _))) (by decide)).mono ?_
  rintro e wz ⟨rfl, hS⟩
  refine hK2.out _ _ hS (fun _ => ?_)
  clear hK2 K; (try simp only [Act.put, List.setIfInBounds_toArray, List.set_cons_zero, List.set_cons_succ])
  refine wpAnyH_ready (rs := [77]) (by kernel_rfl) (by simp) ?_; refine AllReadyH.cons rfl (fun K hK2 => ?_) AllReadyH.nil
  go_simp
  refine hK2.out _ _ hS (fun _ => ?_)
  clear hK2 K; (try simp only [Act.put, List.setIfInBounds_toArray, List.set_cons_zero, List.set_cons_succ])
  refine wpAnyH_ready (rs := [78]) (by kernel_rfl) (by simp) ?_; refine AllReadyH.cons rfl (fun K hK2 => ?_) AllReadyH.nil
  go_simp
  refine hK2.out _ _ hS (fun _ => ?_)
  clear hK2 K; (try simp only [Act.put, List.setIfInBounds_toArray, List.set_cons_zero, List.set_cons_succ])
  refine wpAnyH_done (by kernel_rfl) ?_ _
  gi_wp2_with fail
  go_wp2_with fail
  go_ret
  exact ⟨rfl, Later.trans HL.out hS⟩
end Go.Proofs.Ytjilckjhdlabaaa
