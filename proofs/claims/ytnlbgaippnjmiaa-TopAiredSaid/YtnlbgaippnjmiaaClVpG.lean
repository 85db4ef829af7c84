/- TopAired: walk. -/
import Derived.Test.YtnlbgaippnjmiaaPart9
import Derived.Test.YtnlbgaippnjmiaaPart6
set_option linter.unusedSimpArgs false
set_option linter.unusedVariables false
namespace Go.Proofs.Ytnlbgaippnjmiaa
open Go Go.RowKit
attribute [local go_sem] later_alloc2 later_alloc3 later_alloc4
theorem woman_info : (Try.prog.info? 38).map (fun i => (i.zero, i.size, i.bytes)) = some (some (.agg #[.int .i64 0, .int .i64 0, .int .i64 0, .int .i64 0, .int .i64 0, .int .i64 0]), 6, 48) := by kernel_rfl
theorem build_rwom (a b c d : Int) (W : World) : (Instr.build 38 #[(1, .agg #[.int .i64 a, .int .i64 b, .int .i64 c, .int .i64 d])]).run Try.prog W = .ok (.agg #[.int .i64 0, .int .i64 0, .int .i64 a, .int .i64 b, .int .i64 c, .int .i64 d]) W :=
  run_build W _ _ _ (by kernel_rfl)
attribute [local go_sem] build_rwom
theorem womV_snoc (l : List Horse) (x : Horse) : womV (l ++ [x]) = womV l ++ womC x := by simp [womV]
theorem rri_one {w : World} {g : Nat} {A : Option Addr} {n k : Nat} {l : List Int} (h : Blk w g 23 #[.slice A n k]) (hr : RI w A n l) : RRI w (some ⟨g, 0, none⟩) 1 [l] :=
  ⟨[.slice A n k], blk_reads h rfl (fun j u hu => by rw [← List.getElem?_toArray] at hu; exact hu), rfl, fun i l' hl => by
    cases i with
    | zero => simp only [List.getElem?_cons_zero, Option.some.injEq] at hl; subst hl; exact ⟨_, _, _, rfl, hr⟩
    | succ i => simp at hl⟩
/-- the law's Monday under way: its block, the women's row, the row of numbers -/
structure AirSt (w2 W : World) (gm base : Nat) (k cl : Int) (cv : Value) (v : Value) (n : Nat) (l : List Horse) (u : Value) (m : Nat) (l2 : List Int) : Prop where
  later : Later w2 W
  size : base ≤ W.heap.size
  blm : Blk W gm 32 #[.int .i64 k, .int .i64 cl, cv]
  own1 : W.ownsRow base 38 6 v n (womV l)
  own2 : W.ownsRow base 3 1 u m (ints l2)
section
variable {w2 W W' : World} {gm base n m : Nat} {k cl : Int} {cv v u v' u' : Value} {l : List Horse} {l2 : List Int}
theorem AirSt.lat (h : AirSt w2 W gm base k cl cv v n l u m l2) (q : Later W W') : AirSt w2 W' gm base k cl cv v n l u m l2 :=
  ⟨Later.trans h.later q, Nat.le_trans h.size q.size, h.blm.later q, own_laterb h.own1 q, own_laterb h.own2 q⟩
theorem AirSt.app1 (h : AirSt w2 W gm base k cl cv v n l u m l2) (hg : w2.heap.size ≤ base) (hgm : gm < base) {x : Horse} (ap : AppG base W W' 38 6 v v' n 1 (womV l) (womC x)) : AirSt w2 W' gm base k cl cv v' (n + 1) (l ++ [x]) u m l2 := by
  have hlt : ∀ g, v.ownBlock = some g → base ≤ g := fun g hg => (h.own1.lt g hg).1
  refine ⟨Later.grown h.later ap.grown (fun g hg2 => Nat.le_trans hg (hlt g hg2)), Nat.le_trans h.size ap.grown.size, ?_, ?_, ?_⟩
  · exact Blk.of_eq (ap.grown.block gm h.blm.lt (fun e => by have := hlt gm e.symm; omega)) h.blm
  · rw [womV_snoc]; exact ap.own
  · exact own_block h.own2 fun g hg => ap.grown.block g (h.own2.lt g hg).2 (fun e => own_own_ne h.own1 h.own2 (by decide) g hg e.symm)
theorem AirSt.app2 (h : AirSt w2 W gm base k cl cv v n l u m l2) (hg : w2.heap.size ≤ base) (hgm : gm < base) {x : Int} (ap : AppG base W W' 3 1 u u' m 1 (ints l2) [.int .i64 x]) : AirSt w2 W' gm base k cl cv v n l u' (m + 1) (l2 ++ [x]) := by
  have hlt : ∀ g, u.ownBlock = some g → base ≤ g := fun g hg => (h.own2.lt g hg).1
  refine ⟨Later.grown h.later ap.grown (fun g hg2 => Nat.le_trans hg (hlt g hg2)), Nat.le_trans h.size ap.grown.size, ?_, ?_, ?_⟩
  · exact Blk.of_eq (ap.grown.block gm h.blm.lt (fun e => by have := hlt gm e.symm; omega)) h.blm
  · exact own_block h.own1 fun g hg => ap.grown.block g (h.own1.lt g hg).2 (fun e => own_own_ne h.own2 h.own1 (by decide) g hg e.symm)
  · rw [ints_snoc]; exact ap.own
theorem AirSt.setm (h : AirSt w2 W gm base k cl cv v n l u m l2) (hg : w2.heap.size ≤ gm) (hgm : gm < base) (q : Value) : AirSt w2 (W.setCell ⟨gm, 2, none⟩ q) gm base k cl q v n l u m l2 :=
  ⟨later_set h.later _ hg _, by simpa using h.size, h.blm.set_ 2 q, own_far h.own1 hgm _, own_far h.own2 hgm _⟩
end
set_option maxRecDepth 100000 in
set_option maxHeartbeats 8000000 in
theorem lawAired_calls {A1 A2 A3 : Option Addr} {n1 k1 n2 k2 n3 k3 : Nat} {c : Clo} (w : World) (hc : CV w c A1 n1 A2 n2 A3 n3) (hcl : i64 c.closets) (b1 : n1 ≤ 9223372036854775807) (b2 : n2 ≤ 9223372036854775807) (b3 : n3 ≤ 9223372036854775807) :
    Calls Try.prog 3 #[(.agg #[.int .i64 c.closets, .int .i64 c.close, .slice A1 n1 k1, .slice A2 n2 k2, .slice A3 n3 k3])] w fun e w' => e = .returned (.bool true) ∧ Later w w' := by
  obtain ⟨w0, hw0⟩ : ∃ W, W = (w.alloc (.cells #[.int .i64 c.closets, .int .i64 c.close, .slice A1 n1 k1, .slice A2 n2 k2, .slice A3 n3 k3] 26)) := ⟨_, rfl⟩; have hbox : ∀ W, Later w0 W → ∀ i, W.cell? ⟨w.heap.size, i, none⟩ = #[.int .i64 c.closets, .int .i64 c.close, .slice A1 n1 k1, .slice A2 n2 k2, .slice A3 n3 k3][i]? := (by rw [hw0]; exact box_cells w #[.int .i64 c.closets, .int .i64 c.close, .slice A1 n1 k1, .slice A2 n2 k2, .slice A3 n3 k3] 26); have hL0 : Later w w0 := (by rw [hw0]; simp); have hc0 := hc.later hL0; have Hw0 := hide hw0; clear hw0
  obtain ⟨gb, hgb⟩ : ∃ g, g = w.heap.size := ⟨_, rfl⟩
  obtain ⟨gx, hgx⟩ : ∃ g, g = w0.heap.size := ⟨_, rfl⟩
  have hbx : gb < gx := by rw [hgx, Hw0.out, hgb]; simp
  obtain ⟨w1, hw1⟩ : ∃ X, X = w0.alloc (.cells #[.int .i64 c.closets, .int .i64 c.close, .slice A1 n1 k1, .slice A2 n2 k2, .slice A3 n3 k3] 26) := ⟨_, rfl⟩
  have kx1 : Blk w1 gx 26 #[.int .i64 c.closets, .int .i64 c.close, .slice A1 n1 k1, .slice A2 n2 k2, .slice A3 n3 k3] := by rw [hw1]; exact Blk.newAt hgx _ _
  have hL1 : Later w0 w1 := by rw [hw1]; exact later_alloc (later_refl _) _
  obtain ⟨w2, hw2⟩ : ∃ X, X = w1.setCell ⟨gx, 4, none⟩ (.slice none 0 0) := ⟨_, rfl⟩
  have kx2 : Blk w2 gx 26 #[.int .i64 c.closets, .int .i64 c.close, .slice A1 n1 k1, .slice A2 n2 k2, .slice none 0 0] := by rw [hw2]; exact kx1.set_ 4 _
  have hL2 : Later w0 w2 := by rw [hw2]; exact later_set hL1 ⟨gx, 4, none⟩ (by show w0.heap.size ≤ gx; omega) _
  have hx4 := (kx1.cell 4).trans (show _ = some (Value.slice A3 n3 k3) from rfl)
  have hf4 := kx1.frozen 4
  have hcb : CV w2 (bareC c) A1 n1 A2 n2 none 0 := ⟨(hc0.later hL2).hs, (hc0.later hL2).hu, Reads.none_⟩
  have hthin := Thin_calls (c := bareC c) (k1 := k1) (k2 := k2) (k3 := 0) w2 hcb hcl b1 b2 (by omega)
  have x0 := fun W (hW : Later w2 W) => ((kx2.later hW).cell 0).trans (show _ = some (Value.int .i64 c.closets) from rfl)
  have x1 := fun W (hW : Later w2 W) => ((kx2.later hW).cell 1).trans (show _ = some (Value.int .i64 c.close) from rfl)
  have x2 := fun W (hW : Later w2 W) => ((kx2.later hW).cell 2).trans (show _ = some (Value.slice A1 n1 k1) from rfl)
  have x3 := fun W (hW : Later w2 W) => ((kx2.later hW).cell 3).trans (show _ = some (Value.slice A2 n2 k2) from rfl)
  have x4 := fun W (hW : Later w2 W) => ((kx2.later hW).cell 4).trans (show _ = some (Value.slice none 0 0) from rfl)
  have q0 := x0 w2 (later_refl _)
  have q1 := x1 w2 (later_refl _)
  have q2 := x2 w2 (later_refl _)
  have q3 := x3 w2 (later_refl _)
  have q4 := x4 w2 (later_refl _)
  have hLw2 := Later.trans hL0 hL2
  have hbc : ∀ W, Later w2 W → ∀ i, W.cell? ⟨gb, i, none⟩ = #[.int .i64 c.closets, .int .i64 c.close, .slice A1 n1 k1, .slice A2 n2 k2, .slice A3 n3 k3][i]? := fun W hW i => by rw [hgb]; exact hbox W (Later.trans hL2 hW) i
  have p0 := hbox w0 (later_refl _) 0
  have p1 := hbox w0 (later_refl _) 1
  have p2 := hbox w0 (later_refl _) 2
  have p3 := hbox w0 (later_refl _) 3
  have p4 := hbox w0 (later_refl _) 4
  simp only [List.getElem?_toArray, List.getElem?_cons_zero, List.getElem?_cons_succ, ← hgb] at p0 p1 p2 p3 p4
  have Hgb := hide hgb
  have Hgx := hide hgx
  have Hw1 := hide hw1
  have Hw2 := hide hw2
  have Hcb := hide hcb
  clear hgb hgx hw1 hw2 hcb kx1 kx2 hbox hc hc0
  go_enter Try.func3, Try.ntmps3
  go_upto_region 1 with fail
  rw [← Hw0.out, ← Hgb.out]
  go_upto_region 2 with fail
  rw [← Hw1.out, ← Hgx.out]
  go_upto_region 3 with fail
  rw [← Hw2.out]
  clear p0 p1 p2 p3 p4 hx4 hf4 Hw0 Hw1 Hw2
  cases hth : thinB (bareC c) with
  | false =>
    rw [hth] at hthin
    clear hth
    go_wp2_with fail
    refine hthin.mono ?_
    rintro e w3 ⟨rfl, hL3⟩
    clear hthin
    go_wp2_with fail
    refine (aired_calls _).mono ?_
    rintro e w4 ⟨rfl, hL4⟩
    go_wp2_with fail
    go_ret
    exact ⟨rfl, Later.trans hLw2 (Later.trans hL3 hL4)⟩
  | true =>
    have hn := And.intro Hcb.out.hs.len Hcb.out.hu.len
    rw [hth] at hthin
    unfold thinB at hth
    simp only [Bool.and_eq_true, decide_eq_true_eq] at hth
    have l1 : n1 ≤ 6 := by omega
    have l2 : n2 ≤ 8 := by omega
    obtain ⟨q, hq⟩ : ∃ q, fault (bareC c) = q := ⟨_, rfl⟩
    have hfa := fun W (hW : Later w2 W) => Fault_calls (c := bareC c) (k1 := k1) (k2 := k2) (k3 := 0) W (Hcb.out.later hW) hcl (by omega) (by omega) (by omega)
    rw [hq] at hfa
    have Hfa := hide hfa
    have Hq := hide hq
    have Hth := hide hthin
    have Hn := hide hn
    clear hth hn hfa hq hthin
    by_cases hq0 : q = 0
    · subst hq0
      go_wp2_with fail
      refine Hth.out.mono ?_
      rintro e w3 ⟨rfl, hL3⟩
      have r0 := x0 w3 hL3
      have r1 := x1 w3 hL3
      have r2 := x2 w3 hL3
      have r3 := x3 w3 hL3
      have r4 := x4 w3 hL3
      clear q0 q1 q2 q3 q4
      go_wp2_with fail
      refine (Hfa.out w3 hL3).mono ?_
      rintro e w4 ⟨rfl, hL4⟩
      clear r0 r1 r2 r3 r4
      go_upto_region 5 with fail
      have hL24 := Later.trans hL3 hL4
      obtain ⟨w5, hw5⟩ : ∃ X, X = w4.alloc (.cells #[.int .i64 c.closets, .int .i64 c.close, .slice none 0 0] 32) := ⟨_, rfl⟩
      obtain ⟨gm, hgm⟩ : ∃ g, g = w4.heap.size := ⟨_, rfl⟩
      have km5 : Blk w5 gm 32 #[.int .i64 c.closets, .int .i64 c.close, .slice none 0 0] := by rw [hw5, hgm]; exact Blk.new _ _ _
      have hL5 : Later w4 w5 := by rw [hw5]; exact later_alloc (later_refl _) _
      have hL25 := Later.trans hL24 hL5
      have b0 := fun W (hW : Later w2 W) => hbc W hW 0
      have b1' := fun W (hW : Later w2 W) => hbc W hW 1
      have b2' := fun W (hW : Later w2 W) => hbc W hW 2
      simp only [List.getElem?_toArray, List.getElem?_cons_zero, List.getElem?_cons_succ] at b0 b1' b2'
      have c0 := b0 w4 hL24
      have c1 := b1' w4 hL24
      have Hw5 := hide hw5
      have Hgm := hide hgm
      have hgb1 : w2.heap.size ≤ gm := by rw [hgm]; exact hL24.size
      obtain ⟨base, hbase⟩ : ∃ b, w5.heap.size = b := ⟨_, rfl⟩
      have hgb2 : w2.heap.size ≤ base := by rw [← hbase]; exact hL25.size
      have hgmb : gm < base := by rw [← hbase]; exact km5.lt
      have Hst0 : Hid (AirSt w2 w5 gm base c.closets c.close (.slice none 0 0) (.slice none 0 0) 0 (c.horses.take 0) (.slice none 0 0) 0 (idL 0)) := ⟨hL25, Nat.le_of_eq hbase.symm, km5, World.ownsRow_nil _ _ _ _, World.ownsRow_nil _ _ _ _⟩
      clear hw5 hgm km5 hbase hbc
      go_upto_region 6 with fail
      rw [← Hw5.out, ← Hgm.out]
      clear c0 c1 Hw5 Hgm
      go_wp2_with fail
      go_loopw [6, 5] (fun i v wr => ∃ (t : Nat) (Av : Option Addr) (kv : Nat) (Ag : Option Addr) (kg : Nat), t ≤ n1 ∧ i = .int .i64 t ∧ v = .slice Ag t kg ∧ Hid (AirSt w2 wr gm base c.closets c.close (.slice Av t kv) (.slice Av t kv) t (c.horses.take t) (.slice Ag t kg) t (idL t))) (fun i _ _ => n1 - (intOf i).toNat)
      case atStart => exact ⟨0, none, 0, none, 0, Nat.zero_le _, rfl, rfl, Hst0⟩
      case round =>
        clear Hst0
        obtain ⟨t, Av, kv, Ag, kg, ht, rfl, rfl, Hst⟩ := hrel
        have d2 := b2' wr Hst.out.later
        by_cases hlt : t < n1
        · have hi1 : (t : Int) < n1 := by omega
          obtain ⟨bh, oh, x, rfl, _, hx, h0, h1, h2, h3⟩ := Hcb.out.hs.get hlt
          have htk : c.horses.take (t + 1) = c.horses.take t ++ [x] := by rw [List.take_add_one, show c.horses[t]? = some x from hx]; rfl
          have Htk := hide htk
          have hSl : ∀ X, Later w2 X → Blk X gm 32 #[.int .i64 c.closets, .int .i64 c.close, .slice Av t kv] → (X.cell? ⟨gm, 2, none⟩ = some (.slice Av t kv) ∧ X.cell? ⟨gb, 2, none⟩ = some (.slice (some ⟨bh, oh, none⟩) n1 k1) ∧ X.cell? ⟨bh, oh + t * 4, none⟩ = some (.int .i64 x.lo) ∧ X.cell? ⟨bh, oh + t * 4 + 1, none⟩ = some (.int .i64 x.hi) ∧ X.cell? ⟨bh, oh + t * 4 + 2, none⟩ = some (.int .i64 x.wet) ∧ X.cell? ⟨bh, oh + t * 4 + 3, none⟩ = some (.int .i64 x.grace)) := fun X hX hm => ⟨(hm.cell 2).trans rfl, b2' X hX, h0 X hX, h1 X hX, h2 X hX, h3 X hX⟩
          have HSl := hide hSl
          obtain ⟨X0, hX0⟩ : ∃ X, X = wr.drew := ⟨_, rfl⟩
          have st0 := Hst.out.lat (later_drew (later_refl wr))
          rw [← hX0] at st0
          have hS0 := hSl X0 st0.later st0.blm
          clear hx h0 h1 h2 h3 htk hSl
          go_upto_region 10 with fail
          refine wp_region_ordL 15 (fun b X => match b with | true => True | false => (X.cell? ⟨gm, 2, none⟩ = some (.slice Av t kv) ∧ X.cell? ⟨gb, 2, none⟩ = some (.slice (some ⟨bh, oh, none⟩) n1 k1) ∧ X.cell? ⟨bh, oh + t * 4, none⟩ = some (.int .i64 x.lo) ∧ X.cell? ⟨bh, oh + t * 4 + 1, none⟩ = some (.int .i64 x.hi) ∧ X.cell? ⟨bh, oh + t * 4 + 2, none⟩ = some (.int .i64 x.wet) ∧ X.cell? ⟨bh, oh + t * 4 + 3, none⟩ = some (.int .i64 x.grace))) (by kernel_rfl) (by rw [← hX0]; exact hS0) (fun _ => ?_)
          rw [← hX0]
          clear hX0 d2
          have hS := hS0
          refine OrdL.take (i := 0) (v := ?_) rfl rfl (by kernel_rfl) (by kernel_rfl) (by kernel_rfl) (by kernel_rfl) (by kernel_rfl) (by intro _ _ _ h; first | exact h | exact absurd h.1 (by simp)) (Or.inl ⟨by rfl, ?_⟩) hS ?_; rotate_left; (focus (intro X hSX; (try dsimp only at hSX); go_simp; (try with_reducible rfl))); (try simp only [List.getElem_toArray, List.getElem_cons_zero, List.getElem_cons_succ, Act.put, List.setIfInBounds_toArray, List.set_cons_zero, List.set_cons_succ])
          refine OrdL.take (i := 1) (v := ?_) rfl rfl (by kernel_rfl) (by kernel_rfl) (by kernel_rfl) (by kernel_rfl) (by kernel_rfl) (by intro _ _ _ h; first | exact h | exact absurd h.1 (by simp)) (Or.inl ⟨by rfl, ?_⟩) hS ?_; rotate_left; (focus (intro X hSX; (try dsimp only at hSX); go_simp; (try with_reducible rfl))); (try simp only [List.getElem_toArray, List.getElem_cons_zero, List.getElem_cons_succ, Act.put, List.setIfInBounds_toArray, List.set_cons_zero, List.set_cons_succ])
          refine OrdL.take (i := 2) (v := ?_) rfl rfl (by kernel_rfl) (by kernel_rfl) (by kernel_rfl) (by kernel_rfl) (by kernel_rfl) (by intro _ _ _ h; first | exact h | exact absurd h.1 (by simp)) (Or.inl ⟨by rfl, ?_⟩) hS ?_; rotate_left; (focus (intro X hSX; (try dsimp only at hSX); go_simp; (try with_reducible rfl))); (try simp only [List.getElem_toArray, List.getElem_cons_zero, List.getElem_cons_succ, Act.put, List.setIfInBounds_toArray, List.set_cons_zero, List.set_cons_succ])
          refine OrdL.take (i := 3) (v := ?_) rfl rfl (by kernel_rfl) (by kernel_rfl) (by kernel_rfl) (by kernel_rfl) (by kernel_rfl) (by intro _ _ _ h; first | exact h | exact absurd h.1 (by simp)) (Or.inl ⟨by rfl, ?_⟩) hS ?_; rotate_left; (focus (intro X hSX; (try dsimp only at hSX); go_simp; (try with_reducible rfl))); (try simp only [List.getElem_toArray, List.getElem_cons_zero, List.getElem_cons_succ, Act.put, List.setIfInBounds_toArray, List.set_cons_zero, List.set_cons_succ])
          refine OrdL.take (i := 4) (v := ?_) rfl rfl (by kernel_rfl) (by kernel_rfl) (by kernel_rfl) (by kernel_rfl) (by kernel_rfl) (by intro _ _ _ h; first | exact h | exact absurd h.1 (by simp)) (Or.inl ⟨by rfl, ?_⟩) hS ?_; rotate_left; (focus (intro X hSX; (try dsimp only at hSX); go_simp; (try with_reducible rfl))); (try simp only [List.getElem_toArray, List.getElem_cons_zero, List.getElem_cons_succ, Act.put, List.setIfInBounds_toArray, List.set_cons_zero, List.set_cons_succ])
          refine OrdL.take (i := 5) (v := ?_) rfl rfl (by kernel_rfl) (by kernel_rfl) (by kernel_rfl) (by kernel_rfl) (by kernel_rfl) (by intro _ _ _ h; first | exact h | exact absurd h.1 (by simp)) (Or.inl ⟨by rfl, ?_⟩) hS ?_; rotate_left; (focus (intro X hSX; (try dsimp only at hSX); go_simp; (try with_reducible rfl))); (try simp only [List.getElem_toArray, List.getElem_cons_zero, List.getElem_cons_succ, Act.put, List.setIfInBounds_toArray, List.set_cons_zero, List.set_cons_succ])
          refine OrdL.take (i := 6) (v := ?_) rfl rfl (by kernel_rfl) (by kernel_rfl) (by kernel_rfl) (by kernel_rfl) (by kernel_rfl) (by intro _ _ _ h; first | exact h | exact absurd h.1 (by simp)) (Or.inl ⟨by rfl, ?_⟩) hS ?_; rotate_left; (focus (intro X hSX; (try dsimp only at hSX); go_simp; (try with_reducible rfl))); (try simp only [List.getElem_toArray, List.getElem_cons_zero, List.getElem_cons_succ, Act.put, List.setIfInBounds_toArray, List.set_cons_zero, List.set_cons_succ])
          refine OrdL.take (i := 7) (v := ?_) rfl rfl (by kernel_rfl) (by kernel_rfl) (by kernel_rfl) (by kernel_rfl) (by kernel_rfl) (by intro _ _ _ h; first | exact h | exact absurd h.1 (by simp)) (Or.inl ⟨by rfl, ?_⟩) hS ?_; rotate_left; (focus (intro X hSX; (try dsimp only at hSX); go_simp; (try with_reducible rfl))); (try simp only [List.getElem_toArray, List.getElem_cons_zero, List.getElem_cons_succ, Act.put, List.setIfInBounds_toArray, List.set_cons_zero, List.set_cons_succ])
          refine OrdL.takeP (i := 10) (b := false) (v := ?_) rfl rfl (by kernel_rfl) (by kernel_rfl) (by kernel_rfl) (by kernel_rfl) (by intro _ _ _ h; first | exact h | exact absurd h.1 (by simp)) (Or.inl ⟨by rfl, ?_⟩) hS ?_; rotate_left; (focus (intro X hSX; clear hSX; go_simp; (try with_reducible rfl))); (try simp only [List.getElem_toArray, List.getElem_cons_zero, List.getElem_cons_succ, Act.put, List.setIfInBounds_toArray, List.set_cons_zero, List.set_cons_succ])
          refine OrdL.takeP (i := 11) (b := false) (v := ?_) rfl rfl (by kernel_rfl) (by kernel_rfl) (by kernel_rfl) (by kernel_rfl) (by intro _ _ _ h; first | exact h | exact absurd h.1 (by simp)) (Or.inl ⟨by rfl, ?_⟩) hS ?_; rotate_left; (focus (intro X hSX; clear hSX; go_simp; (try with_reducible rfl))); (try simp only [List.getElem_toArray, List.getElem_cons_zero, List.getElem_cons_succ, Act.put, List.setIfInBounds_toArray, List.set_cons_zero, List.set_cons_succ])
          clear hS hS0
            -- region 10: printed
          refine OrdL.next (rs := [8, 12]) (by kernel_rfl) (by simp) ?_
          refine NextL.cons (b := false) rfl (by kernel_rfl) (fun K hK => ?_) (NextL.cons (b := false) rfl (by kernel_rfl) (fun K hK => ?_) NextL.nil)
          · go_simp
            obtain ⟨X1, hX⟩ : ∃ X, X = X0.alloc (.cells #[.int .i64 0, .int .i64 0, .int .i64 x.lo, .int .i64 x.hi, .int .i64 x.wet, .int .i64 x.grace] 38) := ⟨_, rfl⟩
            obtain ⟨gw, hg⟩ : ∃ g, g = X0.heap.size := ⟨_, rfl⟩
            have hLx : Later X0 X1 := by rw [hX]; exact later_alloc (later_refl _) _
            have st1 := st0.lat hLx
            have bw1 : Blk X1 gw 38 [Value.int .i64 0, .int .i64 0, .int .i64 x.lo, .int .i64 x.hi, .int .i64 x.wet, .int .i64 x.grace].toArray := by rw [hX, hg]; exact Blk.new _ _ _
            rw [← hX, ← hg]
            clear hX hg hLx
            refine hK.out _ _ (HSl.out _ st1.later st1.blm) (fun _ => ?_)
            clear hK K; (try simp only [Act.put, List.setIfInBounds_toArray, List.set_cons_zero, List.set_cons_succ])
            refine OrdL.next (rs := [9, 12]) (by kernel_rfl) (by simp) ?_
            refine NextL.cons (b := false) rfl (by kernel_rfl) (fun K hK => ?_) (NextL.cons (b := false) rfl (by kernel_rfl) (fun K hK => ?_) NextL.nil)
            · refine appG_wp base (.tmp 42) (.tmp 49) 30 rfl 38 (.agg #[.int .i64 0, .int .i64 0, .int .i64 0, .int .i64 0, .int .i64 0, .int .i64 0]) 6 48 Try.underlying30 woman_info rfl (by omega) (.slice Av t kv) t (womV (c.horses.take t)) rfl st1.size st1.own1 ⟨gw, 0, none⟩ 1 1 (womC x) rfl rfl (blk_one bw1) (by simp [womC, Value.oneCell']) (by omega) (by omega) (by omega) ?_
              intro v2 X2 hap
              have st2 := st1.app1 hgb2 hgmb hap
              obtain ⟨g2, k2, rfl⟩ := own_form st2.own1 (by omega)
              clear hap
              refine hK.out _ _ (HSl.out _ st2.later st2.blm) (fun _ => ?_)
              clear hK K; (try simp only [Act.put, List.setIfInBounds_toArray, List.set_cons_zero, List.set_cons_succ])
              have hSo := HSl.out _ st2.later st2.blm
              refine OrdL.takeP (i := 14) (b := false) (v := ?_) rfl rfl (by kernel_rfl) (by kernel_rfl) (by kernel_rfl) (by kernel_rfl) (by intro _ _ _ h; first | exact h | exact absurd h.1 (by simp)) (Or.inl ⟨by rfl, ?_⟩) hSo ?_; rotate_left; (focus (intro X hSX; clear hSX; go_simp; (try with_reducible rfl))); (try simp only [List.getElem_toArray, List.getElem_cons_zero, List.getElem_cons_succ, Act.put, List.setIfInBounds_toArray, List.set_cons_zero, List.set_cons_succ])
              refine OrdL.next (rs := [12]) (by kernel_rfl) (by simp) ?_; refine NextL.cons (b := false) rfl (by kernel_rfl) (fun K hK => ?_) NextL.nil
              go_simp
              obtain ⟨X3, hX⟩ : ∃ X, X = X2.alloc (.cells #[.int .i64 (t : Int)] 3) := ⟨_, rfl⟩
              obtain ⟨gi, hg⟩ : ∃ g, g = X2.heap.size := ⟨_, rfl⟩
              have hLx : Later X2 X3 := by rw [hX]; exact later_alloc (later_refl _) _
              have st3 := st2.lat hLx
              have bi3 : Blk X3 gi 3 [Value.int .i64 (t : Int)].toArray := by rw [hX, hg]; exact Blk.new _ _ _
              rw [← hX, ← hg]
              clear hX hg hLx
              refine hK.out _ _ (HSl.out _ st3.later st3.blm) (fun _ => ?_)
              clear hK K; (try simp only [Act.put, List.setIfInBounds_toArray, List.set_cons_zero, List.set_cons_succ])
              refine OrdL.next (rs := [13]) (by kernel_rfl) (by simp) ?_; refine NextL.cons (b := false) rfl (by kernel_rfl) (fun K hK => ?_) NextL.nil
              refine appG_wp base (.tmp 51) (.tmp 53) 23 rfl 3 (.int .i64 0) 1 8 Try.underlying23 int_info rfl (by omega) (.slice Ag t kg) t (ints (idL t)) rfl st3.size st3.own2 ⟨gi, 0, none⟩ 1 1 [.int .i64 (t : Int)] rfl rfl (blk_one bi3) (by simp [Value.oneCell']) (by omega) (by omega) (by omega) ?_
              intro u4 X4 hap
              have st4 := st3.app2 hgb2 hgmb hap
              obtain ⟨g4, k4, rfl⟩ := own_form st4.own2 (by omega)
              clear hap
              refine hK.out _ _ (HSl.out _ st4.later st4.blm) (fun _ => ?_)
              clear hK K; (try simp only [Act.put, List.setIfInBounds_toArray, List.set_cons_zero, List.set_cons_succ])
              have e0 := (st4.blm.cell 2).trans (show _ = some (Value.slice Av t kv) from rfl)
              have f0 := st4.blm.frozen 2
              refine OrdL.next (rs := [15]) (by kernel_rfl) (by simp) ?_; refine NextL.cons (b := true) rfl (by kernel_rfl) (fun K hK => ?_) NextL.nil
              go_simp
              have Hst := hide (st4.setm hgb1 hgmb (.slice (some ⟨g2, 0, none⟩) (t + 1) k2))
              refine hK.out _ _ trivial (fun _ => ?_)
              clear hK K; (try simp only [Act.put, List.setIfInBounds_toArray, List.set_cons_zero, List.set_cons_succ])
              refine OrdL.takeP (i := 16) (b := true) (v := ?_) rfl rfl (by kernel_rfl) (by kernel_rfl) (by kernel_rfl) (by kernel_rfl) (by intro _ _ _ h; first | exact h | exact absurd h.1 (by simp)) (Or.inl ⟨by rfl, ?_⟩) trivial ?_; rotate_left; (focus (intro X hSX; clear hSX; go_simp; (try with_reducible rfl))); (try simp only [List.getElem_toArray, List.getElem_cons_zero, List.getElem_cons_succ, Act.put, List.setIfInBounds_toArray, List.set_cons_zero, List.set_cons_succ])
              refine OrdL.done (by kernel_rfl) ?_ _
              clear e0 f0 st1 st2 st3 st4 bw1 bi3
              go_wp2_with fail
              go_roundw
              case rel => exact ⟨t + 1, some ⟨g2, 0, none⟩, k2, some ⟨g4, 0, none⟩, k4, by omega, by go_num, rfl, by rw [Htk.out, idL_succ]; exact Hst⟩
              case measure => simp [intOf]; omega
            · go_simp
              obtain ⟨X2, hX⟩ : ∃ X, X = X1.alloc (.cells #[.int .i64 (t : Int)] 3) := ⟨_, rfl⟩
              obtain ⟨gi, hg⟩ : ∃ g, g = X1.heap.size := ⟨_, rfl⟩
              have hLx : Later X1 X2 := by rw [hX]; exact later_alloc (later_refl _) _
              have st2 := st1.lat hLx
              have bi2 : Blk X2 gi 3 [Value.int .i64 (t : Int)].toArray := by rw [hX, hg]; exact Blk.new _ _ _
              have bw2 := bw1.later hLx
              rw [← hX, ← hg]
              clear hX hg hLx
              refine hK.out _ _ (HSl.out _ st2.later st2.blm) (fun _ => ?_)
              clear hK K; (try simp only [Act.put, List.setIfInBounds_toArray, List.set_cons_zero, List.set_cons_succ])
              refine OrdL.next (rs := [9]) (by kernel_rfl) (by simp) ?_; refine NextL.cons (b := false) rfl (by kernel_rfl) (fun K hK => ?_) NextL.nil
              refine appG_wp base (.tmp 42) (.tmp 49) 30 rfl 38 (.agg #[.int .i64 0, .int .i64 0, .int .i64 0, .int .i64 0, .int .i64 0, .int .i64 0]) 6 48 Try.underlying30 woman_info rfl (by omega) (.slice Av t kv) t (womV (c.horses.take t)) rfl st2.size st2.own1 ⟨gw, 0, none⟩ 1 1 (womC x) rfl rfl (blk_one bw2) (by simp [womC, Value.oneCell']) (by omega) (by omega) (by omega) ?_
              intro v2 X3 hap
              have st3 := st2.app1 hgb2 hgmb hap
              have bi3 := Blk.of_eq (hap.grown.block gi bi2.lt (fun e => own_blk_ne st2.own1 bi2 (by decide) e.symm)) bi2
              obtain ⟨g2, k2, rfl⟩ := own_form st3.own1 (by omega)
              clear hap
              refine hK.out _ _ (HSl.out _ st3.later st3.blm) (fun _ => ?_)
              clear hK K; (try simp only [Act.put, List.setIfInBounds_toArray, List.set_cons_zero, List.set_cons_succ])
              have hSo := HSl.out _ st3.later st3.blm
              refine OrdL.takeP (i := 14) (b := false) (v := ?_) rfl rfl (by kernel_rfl) (by kernel_rfl) (by kernel_rfl) (by kernel_rfl) (by intro _ _ _ h; first | exact h | exact absurd h.1 (by simp)) (Or.inl ⟨by rfl, ?_⟩) hSo ?_; rotate_left; (focus (intro X hSX; clear hSX; go_simp; (try with_reducible rfl))); (try simp only [List.getElem_toArray, List.getElem_cons_zero, List.getElem_cons_succ, Act.put, List.setIfInBounds_toArray, List.set_cons_zero, List.set_cons_succ])
              refine OrdL.next (rs := [13]) (by kernel_rfl) (by simp) ?_; refine NextL.cons (b := false) rfl (by kernel_rfl) (fun K hK => ?_) NextL.nil
              refine appG_wp base (.tmp 51) (.tmp 53) 23 rfl 3 (.int .i64 0) 1 8 Try.underlying23 int_info rfl (by omega) (.slice Ag t kg) t (ints (idL t)) rfl st3.size st3.own2 ⟨gi, 0, none⟩ 1 1 [.int .i64 (t : Int)] rfl rfl (blk_one bi3) (by simp [Value.oneCell']) (by omega) (by omega) (by omega) ?_
              intro u4 X4 hap
              have st4 := st3.app2 hgb2 hgmb hap
              obtain ⟨g4, k4, rfl⟩ := own_form st4.own2 (by omega)
              clear hap
              refine hK.out _ _ (HSl.out _ st4.later st4.blm) (fun _ => ?_)
              clear hK K; (try simp only [Act.put, List.setIfInBounds_toArray, List.set_cons_zero, List.set_cons_succ])
              have e0 := (st4.blm.cell 2).trans (show _ = some (Value.slice Av t kv) from rfl)
              have f0 := st4.blm.frozen 2
              refine OrdL.next (rs := [15]) (by kernel_rfl) (by simp) ?_; refine NextL.cons (b := true) rfl (by kernel_rfl) (fun K hK => ?_) NextL.nil
              go_simp
              have Hst := hide (st4.setm hgb1 hgmb (.slice (some ⟨g2, 0, none⟩) (t + 1) k2))
              refine hK.out _ _ trivial (fun _ => ?_)
              clear hK K; (try simp only [Act.put, List.setIfInBounds_toArray, List.set_cons_zero, List.set_cons_succ])
              refine OrdL.takeP (i := 16) (b := true) (v := ?_) rfl rfl (by kernel_rfl) (by kernel_rfl) (by kernel_rfl) (by kernel_rfl) (by intro _ _ _ h; first | exact h | exact absurd h.1 (by simp)) (Or.inl ⟨by rfl, ?_⟩) trivial ?_; rotate_left; (focus (intro X hSX; clear hSX; go_simp; (try with_reducible rfl))); (try simp only [List.getElem_toArray, List.getElem_cons_zero, List.getElem_cons_succ, Act.put, List.setIfInBounds_toArray, List.set_cons_zero, List.set_cons_succ])
              refine OrdL.done (by kernel_rfl) ?_ _
              clear e0 f0 st1 st2 st3 st4 bw1 bw2 bi2 bi3
              go_wp2_with fail
              go_roundw
              case rel => exact ⟨t + 1, some ⟨g2, 0, none⟩, k2, some ⟨g4, 0, none⟩, k4, by omega, by go_num, rfl, by rw [Htk.out, idL_succ]; exact Hst⟩
              case measure => simp [intOf]; omega
          · go_simp
            obtain ⟨X1, hX⟩ : ∃ X, X = X0.alloc (.cells #[.int .i64 (t : Int)] 3) := ⟨_, rfl⟩
            obtain ⟨gi, hg⟩ : ∃ g, g = X0.heap.size := ⟨_, rfl⟩
            have hLx : Later X0 X1 := by rw [hX]; exact later_alloc (later_refl _) _
            have st1 := st0.lat hLx
            have bi1 : Blk X1 gi 3 [Value.int .i64 (t : Int)].toArray := by rw [hX, hg]; exact Blk.new _ _ _
            rw [← hX, ← hg]
            clear hX hg hLx
            refine hK.out _ _ (HSl.out _ st1.later st1.blm) (fun _ => ?_)
            clear hK K; (try simp only [Act.put, List.setIfInBounds_toArray, List.set_cons_zero, List.set_cons_succ])
            refine OrdL.next (rs := [8]) (by kernel_rfl) (by simp) ?_; refine NextL.cons (b := false) rfl (by kernel_rfl) (fun K hK => ?_) NextL.nil
            go_simp
            obtain ⟨X2, hX⟩ : ∃ X, X = X1.alloc (.cells #[.int .i64 0, .int .i64 0, .int .i64 x.lo, .int .i64 x.hi, .int .i64 x.wet, .int .i64 x.grace] 38) := ⟨_, rfl⟩
            obtain ⟨gw, hg⟩ : ∃ g, g = X1.heap.size := ⟨_, rfl⟩
            have hLx : Later X1 X2 := by rw [hX]; exact later_alloc (later_refl _) _
            have st2 := st1.lat hLx
            have bw2 : Blk X2 gw 38 [Value.int .i64 0, .int .i64 0, .int .i64 x.lo, .int .i64 x.hi, .int .i64 x.wet, .int .i64 x.grace].toArray := by rw [hX, hg]; exact Blk.new _ _ _
            have bi2 := bi1.later hLx
            rw [← hX, ← hg]
            clear hX hg hLx
            refine hK.out _ _ (HSl.out _ st2.later st2.blm) (fun _ => ?_)
            clear hK K; (try simp only [Act.put, List.setIfInBounds_toArray, List.set_cons_zero, List.set_cons_succ])
            refine OrdL.next (rs := [9]) (by kernel_rfl) (by simp) ?_; refine NextL.cons (b := false) rfl (by kernel_rfl) (fun K hK => ?_) NextL.nil
            refine appG_wp base (.tmp 42) (.tmp 49) 30 rfl 38 (.agg #[.int .i64 0, .int .i64 0, .int .i64 0, .int .i64 0, .int .i64 0, .int .i64 0]) 6 48 Try.underlying30 woman_info rfl (by omega) (.slice Av t kv) t (womV (c.horses.take t)) rfl st2.size st2.own1 ⟨gw, 0, none⟩ 1 1 (womC x) rfl rfl (blk_one bw2) (by simp [womC, Value.oneCell']) (by omega) (by omega) (by omega) ?_
            intro v2 X3 hap
            have st3 := st2.app1 hgb2 hgmb hap
            have bi3 := Blk.of_eq (hap.grown.block gi bi2.lt (fun e => own_blk_ne st2.own1 bi2 (by decide) e.symm)) bi2
            obtain ⟨g2, k2, rfl⟩ := own_form st3.own1 (by omega)
            clear hap
            refine hK.out _ _ (HSl.out _ st3.later st3.blm) (fun _ => ?_)
            clear hK K; (try simp only [Act.put, List.setIfInBounds_toArray, List.set_cons_zero, List.set_cons_succ])
            have hSo := HSl.out _ st3.later st3.blm
            refine OrdL.takeP (i := 14) (b := false) (v := ?_) rfl rfl (by kernel_rfl) (by kernel_rfl) (by kernel_rfl) (by kernel_rfl) (by intro _ _ _ h; first | exact h | exact absurd h.1 (by simp)) (Or.inl ⟨by rfl, ?_⟩) hSo ?_; rotate_left; (focus (intro X hSX; clear hSX; go_simp; (try with_reducible rfl))); (try simp only [List.getElem_toArray, List.getElem_cons_zero, List.getElem_cons_succ, Act.put, List.setIfInBounds_toArray, List.set_cons_zero, List.set_cons_succ])
            refine OrdL.next (rs := [13]) (by kernel_rfl) (by simp) ?_; refine NextL.cons (b := false) rfl (by kernel_rfl) (fun K hK => ?_) NextL.nil
            refine appG_wp base (.tmp 51) (.tmp 53) 23 rfl 3 (.int .i64 0) 1 8 Try.underlying23 int_info rfl (by omega) (.slice Ag t kg) t (ints (idL t)) rfl st3.size st3.own2 ⟨gi, 0, none⟩ 1 1 [.int .i64 (t : Int)] rfl rfl (blk_one bi3) (by simp [Value.oneCell']) (by omega) (by omega) (by omega) ?_
            intro u4 X4 hap
            have st4 := st3.app2 hgb2 hgmb hap
            obtain ⟨g4, k4, rfl⟩ := own_form st4.own2 (by omega)
            clear hap
            refine hK.out _ _ (HSl.out _ st4.later st4.blm) (fun _ => ?_)
            clear hK K; (try simp only [Act.put, List.setIfInBounds_toArray, List.set_cons_zero, List.set_cons_succ])
            have e0 := (st4.blm.cell 2).trans (show _ = some (Value.slice Av t kv) from rfl)
            have f0 := st4.blm.frozen 2
            refine OrdL.next (rs := [15]) (by kernel_rfl) (by simp) ?_; refine NextL.cons (b := true) rfl (by kernel_rfl) (fun K hK => ?_) NextL.nil
            go_simp
            have Hst := hide (st4.setm hgb1 hgmb (.slice (some ⟨g2, 0, none⟩) (t + 1) k2))
            refine hK.out _ _ trivial (fun _ => ?_)
            clear hK K; (try simp only [Act.put, List.setIfInBounds_toArray, List.set_cons_zero, List.set_cons_succ])
            refine OrdL.takeP (i := 16) (b := true) (v := ?_) rfl rfl (by kernel_rfl) (by kernel_rfl) (by kernel_rfl) (by kernel_rfl) (by intro _ _ _ h; first | exact h | exact absurd h.1 (by simp)) (Or.inl ⟨by rfl, ?_⟩) trivial ?_; rotate_left; (focus (intro X hSX; clear hSX; go_simp; (try with_reducible rfl))); (try simp only [List.getElem_toArray, List.getElem_cons_zero, List.getElem_cons_succ, Act.put, List.setIfInBounds_toArray, List.set_cons_zero, List.set_cons_succ])
            refine OrdL.done (by kernel_rfl) ?_ _
            clear e0 f0 st1 st2 st3 st4 bw2 bi1 bi2 bi3
            go_wp2_with fail
            go_roundw
            case rel => exact ⟨t + 1, some ⟨g2, 0, none⟩, k2, some ⟨g4, 0, none⟩, k4, by omega, by go_num, rfl, by rw [Htk.out, idL_succ]; exact Hst⟩
            case measure => simp [intOf]; omega
            -- region 10: end
        · have hnt : n1 = t := by omega
          subst hnt
          have Hlen : Hid (n1 = c.horses.length) := Hn.out.1
          have hst := Hst.out
          rw [List.take_of_length_le (Nat.le_of_eq Hlen.out.symm)] at hst
          obtain ⟨w6, hw6⟩ : ∃ X, X = wr := ⟨_, rfl⟩
          rw [← hw6] at hst d2 ⊢
          clear hw6 Hst
          have hL26 := hst.later
          by_cases hn0 : n1 = 0
          · have hi0 : ¬ (n1 : Int) < n1 := by omega
            have hi2 : ((n1 : Int) == 0) = true := by simp; omega
            go_wp2_with fail
            refine (aired_calls _).mono ?_
            rintro e w7 ⟨rfl, hL7⟩
            go_wp2_with fail
            go_ret
            exact ⟨rfl, Later.trans hLw2 (Later.trans hL26 hL7)⟩
          · have hn1 : 1 ≤ n1 := by omega
            have hi0 : ¬ (n1 : Int) < n1 := by omega
            have hi2 : ((n1 : Int) == 0) = false := by simp; omega
            have hf := Hq.out
            obtain ⟨hfR, hnk⟩ := bare_fault hf
            have okc := okC_of_fault hf
            obtain ⟨hz1, _, hz3, hz4, _, _, hz7⟩ := fault_zero hf
            have hk1 : 1 ≤ c.closets := okc.cl1
            have hk4 : c.closets ≤ 4 := okc.cl4
            have hcl2 : 0 ≤ c.close ∧ c.close ≤ 99 := okc.close
            have hz1' : c.horses.length ≤ 4 := by have : ¬ (4 < c.closets ∨ 4 < c.horses.length ∨ 5 < (bareC c).looks.length) := hz1; omega
            have hn4 : n1 ≤ 4 := by rw [Hlen.out]; exact hz1'
            have okM : OkM c.closets c.close c.horses := ⟨hk1, hk4, hcl2, hz1', hz4, hz7⟩
            have hnk' : (n1 : Int) ≤ c.closets := by rw [Hlen.out]; exact hnk
            have hrm : RM w6 Av n1 c.horses := Reads.of_own hst.own1
            have hral : RI w6 Ag n1 (idL n1) := Reads.of_own hst.own2
            obtain ⟨ga, ka, hAg⟩ := own_form hst.own2 (by omega)
            injection hAg with hAg
            subst hAg
            have hblm := hst.blm
            have r0 := x0 w6 hL26
            have r1 := x1 w6 hL26
            have r2 := x2 w6 hL26
            have r3 := x3 w6 hL26
            have r4 := x4 w6 hL26
            have Hf := hide hf
            have HfR := hide hfR
            have Hok := hide okM
            have Hrm := hide hrm
            have Hral := hide hral
            have Hblm := hide hblm
            clear hf hfR okM hrm hral hblm hst okc hz1 hz3 hz4 hz7 hnk hn0
            go_upto_region 13 with fail
            go_wp2_with fail
            refine (lawCloset_calls (c := bareC c) (k1 := k1) (k2 := k2) (k3 := 0) w6 (Hcb.out.later hL26) (by omega) (by omega) (by omega)).mono ?_
            rintro e w7 ⟨B1, j1, B2, j2, B3, j3, rfl, hL7, hc7, hj1, hj2, hj3⟩
            go_wp2_with fail
            refine (BestP_calls (c := bareC c) (k1 := j1) (k2 := j2) (k3 := j3) w7 hc7 hcl (by omega) (by omega) (by omega) hj2).mono ?_
            rintro e w8 ⟨Ap, np, kp, rfl, hL8, hri8, hcap8, _⟩
            clear r0 r1 r2 r3 r4 hc7 hj1 hj2 hj3
            have hL68 := Later.trans hL7 hL8
            have hbm8 := Hblm.out.later hL68
            have m0 := (hbm8.cell 0).trans (show _ = some (Value.int .i64 c.closets) from rfl)
            have m1 := (hbm8.cell 1).trans (show _ = some (Value.int .i64 c.close) from rfl)
            have m2 := (hbm8.cell 2).trans (show _ = some (Value.slice Av n1 kv) from rfl)
            have Hri8 := hide hri8
            clear hbm8 hri8
            go_upto_region 14 with fail
            go_wp2_with fail
            refine (Monday_calls (kw := kv) w8 (Hrm.out.later hL68) hn4).mono ?_
            rintro e w9 ⟨Aw, kw, rfl, hL9, hrm9⟩
            clear m0 m1 m2
            have hL69 := Later.trans hL68 hL9
            have Hrm9 := hide hrm9
            clear hrm9
            have hcc := fun (W : World) (hL : Later w9 W) => ints_cells ((Hral.out.later hL69).later hL)
            go_wp2_with (at_builtin; refine appG rfl (World.heap w9).size _ _ 23 rfl 3 (.int .i64 0) 1 8 Try.underlying23 int_info rfl (by omega) _ 0 [] rfl ?hb (World.ownsRow_made w9 #[] 0 (Nat.le_refl _) (by unfold maxLen; omega) rfl) ⟨ga, 0, none⟩ n1 ka (ints (idL n1)) rfl (by simp [idL, ints]) (hcc _ (later_alloc (later_refl _) _)) (ints_one (idL n1)) (by omega) (by omega) (by omega) ?_; case hb => simp)
            intro v' W10 hap
            obtain ⟨C10, q10, hv', r10⟩ := own_slice (w0 := w9) hap.own
            subst hv'
            have hL10 := hap.later (later_alloc (later_refl _) _) (World.ownsRow_made w9 #[] 0 (Nat.le_refl _) (by unfold maxLen; omega) rfl)
            rw [Nat.zero_add] at r10
            rw [List.nil_append] at r10
            simp only [Nat.zero_add]
            clear hap hcc
            obtain ⟨w11, hw11⟩ : ∃ X, X = W10.alloc (.cells #[.slice C10 n1 q10] 23) := ⟨_, rfl⟩
            have hL11 : Later W10 w11 := by rw [hw11]; exact later_alloc (later_refl _) _
            have hrr11 : RRI w11 (some ⟨W10.heap.size, 0, none⟩) 1 [idL n1] := rri_one (by rw [hw11]; exact Blk.new _ _ _) (r10.later hL11)
            have hL911 := Later.trans hL10 hL11
            have hplay := MPlay_calls (kw := kw) (kq := 1) w11 (Hrm9.out.later hL911) Hok.out hrr11 hn1 ⟨hk1, hk4⟩ hnk' hcl2 HfR.out
            have hL611 := Later.trans hL69 hL911
            have Hw11 := hide hw11
            have Hplay := hide hplay
            clear hw11 hplay hrr11 r10
            go_wp2_with fail
            rw [← Hw11.out]
            refine Hplay.out.mono ?_
            rintro e w12 ⟨Al, nl, kl, rfl, hL12, hrl12⟩
            have hL612 := Later.trans hL611 hL12
            have hbm12 := Hblm.out.later hL612
            have m0 := (hbm12.cell 0).trans (show _ = some (Value.int .i64 c.closets) from rfl)
            have m1 := (hbm12.cell 1).trans (show _ = some (Value.int .i64 c.close) from rfl)
            have m2 := (hbm12.cell 2).trans (show _ = some (Value.slice Av n1 kv) from rfl)
            have Hrl12 := hide hrl12
            clear hbm12 hrl12 Hplay Hw11 Hrm9
            go_upto_region 15 with fail
            go_wp2_with fail
            refine (Monday_calls (kw := kv) w12 (Hrm.out.later hL612) hn4).mono ?_
            rintro e w13 ⟨Aw2, kw2, rfl, hL13, hrm13⟩
            clear m0 m1 m2
            have hL613 := Later.trans hL612 hL13
            have Hrm13 := hide hrm13
            clear hrm13
            have hcc := fun (W : World) (hL : Later w13 W) => ints_cells ((Hral.out.later hL613).later hL)
            go_wp2_with (at_builtin; refine appG rfl (World.heap w13).size _ _ 23 rfl 3 (.int .i64 0) 1 8 Try.underlying23 int_info rfl (by omega) _ 0 [] rfl ?hb (World.ownsRow_made w13 #[] 0 (Nat.le_refl _) (by unfold maxLen; omega) rfl) ⟨ga, 0, none⟩ n1 ka (ints (idL n1)) rfl (by simp [idL, ints]) (hcc _ (later_alloc (later_refl _) _)) (ints_one (idL n1)) (by omega) (by omega) (by omega) ?_; case hb => simp)
            intro v' W14 hap
            obtain ⟨C14, q14, hv', r14⟩ := own_slice (w0 := w13) hap.own
            subst hv'
            have hL14 := hap.later (later_alloc (later_refl _) _) (World.ownsRow_made w13 #[] 0 (Nat.le_refl _) (by unfold maxLen; omega) rfl)
            rw [Nat.zero_add] at r14
            rw [List.nil_append] at r14
            simp only [Nat.zero_add]
            clear hap hcc
            obtain ⟨w15, hw15⟩ : ∃ X, X = W14.alloc (.cells #[.slice C14 n1 q14] 23) := ⟨_, rfl⟩
            have hL15 : Later W14 w15 := by rw [hw15]; exact later_alloc (later_refl _) _
            have hrr15 : RRI w15 (some ⟨W14.heap.size, 0, none⟩) 1 [idL n1] := rri_one (by rw [hw15]; exact Blk.new _ _ _) (r14.later hL15)
            have hL1315 := Later.trans hL14 hL15
            have hhang := MHang_calls (kw := kw2) (kq := 1) w15 (Hrm13.out.later hL1315) Hok.out hrr15 hn1 ⟨hk1, hk4⟩ hnk' hcl2 HfR.out
            have hL615 := Later.trans hL613 hL1315
            have Hw15 := hide hw15
            have Hhang := hide hhang
            clear hw15 hhang hrr15 r14
            go_wp2_with fail
            rw [← Hw15.out]
            refine Hhang.out.mono ?_
            rintro e w16 hpost
            clear Hhang Hw15 Hrm13
            have hrb := rnd_best Hf.out
            have hdone : donesOf (rndC c.closets c.close c.horses) = if (bestOut (bareC c)).2.2 = 0 then [(bestOut (bareC c)).2.1] else [] := by unfold donesOf; rw [hrb]
            have hrl := Hrl12.out
            rw [hdone] at hrl
            have hri8 := Hri8.out
            rcases best_full Hf.out rfl with hbo | ⟨p, n, hbo, hpl, hb0, hb99, hgo⟩
            · rcases hpost with ⟨h10, rfl, hL16⟩ | ⟨h10, _⟩
              · rw [hbo] at hrl hri8 ⊢
                have hnl : nl = 0 := hrl.len
                subst hnl
                have hL216 := Later.trans hL26 (Later.trans hL615 hL16)
                clear hrb hdone hrl hri8 h10 hbo Hrl12 Hri8 Hf HfR Hok Hrm Hral Hblm
                go_wp2_with fail
                refine (aired_calls _).mono ?_
                rintro e w17 ⟨rfl, hL17⟩
                go_wp2_with fail
                go_ret
                exact ⟨rfl, Later.trans hLw2 (Later.trans hL216 hL17)⟩
              · rw [hrb, hbo] at h10
                exact absurd h10 (by decide)
            · rcases hpost with ⟨h10, _⟩ | ⟨_, Aq, Br, kq, kr, rfl, hL16, hrq, hrr⟩
              · rw [hrb, hbo] at h10
                exact absurd rfl h10
              · rw [hbo] at hrl hri8 ⊢
                rw [hrb, hbo] at hrq hrr
                dsimp only at hrl hri8 hrq hrr ⊢
                rw [if_pos rfl] at hrl
                have hnl : nl = 1 := hrl.len
                subst hnl
                have hnp : np = n1 := by have h1 := hri8.len; have h2 := hpl.len; have h3 : (bareC c).horses.length = c.horses.length := rfl; have h4 := Hlen.out; omega
                subst hnp
                obtain ⟨bl, ol, z, rfl, _, hz, hzc⟩ := hrl.get (k := 0) Nat.one_pos
                have hzn : z = n := by simpa using hz.symm
                subst hzn
                have hL216 := Later.trans hL26 (Later.trans hL615 hL16)
                have hL1216 := Later.trans (Later.trans hL13 hL1315) hL16
                have z0 := hzc w16 hL1216
                rw [Nat.add_zero] at z0
                have hL816 : Later w8 w16 := Later.trans (Later.trans (Later.trans hL9 hL911) hL12) hL1216
                have hrp := hri8.later hL816
                have Hrp := hide hrp
                have Hrq := hide hrq
                have Hrr := hide hrr
                have Hgo := hide hgo
                have Hpl := hide hpl
                have Hbo := hide hbo
                clear hrb hdone hrl hri8 hbo hz hzc hrp hrq hrr hgo hpl Hrl12 Hri8 HfR Hok Hrm Hral Hblm
                have hz1 : (z != z) = false := by simp
                have hn1n : ((np : Int) != (np : Int)) = false := by simp
                obtain ⟨bp, op, hAp, _⟩ := Reads.lit Hrp.out Nat.one_pos (by omega)
                subst hAp
                have hgr : ∀ i : Nat, goodOut (rndC c.closets c.close c.horses) p i = goodOut (bareC c) p i := fun i => rnd_good Hf.out p i
                have Hgr := hide hgr
                clear hgr
                go_upto_region 22 with fail
                go_wp2_with fail
                clear z0 hz1 hn1n
                go_loopw [15] (fun v wr => ∃ i : Nat, i ≤ np ∧ v = .int .i64 i ∧ Later w16 wr) (fun v _ => np - (intOf v).toNat)
                case atStart => exact ⟨0, Nat.zero_le _, rfl, later_refl _⟩
                case round =>
                  obtain ⟨i, hi, rfl, hLi⟩ := hrel
                  have hL2i := Later.trans hL216 hLi
                  by_cases hlt3 : i < np
                  · have hi3 : (i : Int) < np := by omega
                    obtain ⟨lo, hh, hg, g1, g2, g3⟩ := Hgo.out i (by have h3 : (bareC c).horses.length = c.horses.length := rfl; have h4 := Hlen.out; omega)
                    obtain ⟨bq, oq, zq, rfl, _, hzq, hzq0⟩ := Hrq.out.get hlt3
                    obtain ⟨zp, hzp, hzp0⟩ := Hrp.out.at_ hlt3
                    have hpq : zp = zq := by rw [hzq] at hzp; injection hzp with h; exact h.symm
                    subst hpq
                    obtain ⟨bm, om, y, rfl, hbm, hy, hy0, hy1⟩ := RR.get Hrr.out hlt3
                    have hyv : y = (lo, hh) := by
                      unfold minsL at hy
                      rw [List.getElem?_map, List.getElem?_range hlt3, Option.map_some, Hgr.out i, hg] at hy
                      injection hy with hy
                      rw [← hy, Int.add_zero, Int.add_zero]
                    subst hyv
                    have r0 := x0 wr hL2i
                    have r1 := x1 wr hL2i
                    have r2 := x2 wr hL2i
                    have r3 := x3 wr hL2i
                    have r4 := x4 wr hL2i
                    have Hg := hide hg
                    clear hg hzq hzp hy
                    go_upto_region 25 with fail
                    go_wp2_with fail
                    refine (lawCloset_calls (c := bareC c) (k1 := k1) (k2 := k2) (k3 := 0) wr (Hcb.out.later hL2i) (by omega) (by omega) (by omega)).mono ?_
                    rintro e w17 ⟨B1, j1, B2, j2, B3, j3, rfl, hL17, hc17, hj1, hj2, hj3⟩
                    clear r0 r1 r2 r3 r4
                    have hLi17 := Later.trans hLi hL17
                    have Hc17 := hide hc17
                    clear hc17
                    have hcc := fun (W : World) (hL : Later w17 W) => ints_cells ((Hrp.out.later hLi17).later hL)
                    go_wp2_with (at_builtin; refine appG rfl (World.heap w17).size _ _ 23 rfl 3 (.int .i64 0) 1 8 Try.underlying23 int_info rfl (by omega) _ 0 [] rfl ?hb (World.ownsRow_made w17 #[] 0 (Nat.le_refl _) (by unfold maxLen; omega) rfl) ⟨bp, op, none⟩ np kp (ints p) rfl Hrp.out.1 (hcc _ (later_alloc (later_refl _) _)) (ints_one p) (by omega) (by omega) (by omega) ?_; case hb => simp)
                    intro v' W18 hap
                    obtain ⟨C18, q18, hv', r18⟩ := own_slice (w0 := w17) hap.own
                    subst hv'
                    have cp18 := own_cap hap.own
                    have hL18 := hap.later (later_alloc (later_refl _) _) (World.ownsRow_made w17 #[] 0 (Nat.le_refl _) (by unfold maxLen; omega) rfl)
                    rw [Nat.zero_add] at r18 cp18
                    rw [List.nil_append] at r18
                    simp only [Nat.zero_add]
                    clear hap hcc
                    have hgood := GoodP_calls (c := bareC c) (h := (i : Int)) (k1 := j1) (k2 := j2) (k3 := j3) W18 (Hc17.out.later hL18) hcl (by omega) (by omega) (by omega) hj2 r18 cp18 (by omega)
                    rw [Hg.out] at hgood
                    have Hgood := hide hgood
                    clear hgood r18 hj1 hj2 hj3 cp18
                    go_wp2_with fail
                    refine Hgood.out.mono ?_
                    rintro e w19 ⟨rfl, hL19⟩
                    obtain ⟨w20, hw20⟩ : ∃ X, X = w19.alloc (.cells #[.int .i64 lo, .int .i64 hh] 57) := ⟨_, rfl⟩
                    obtain ⟨gs, hgs⟩ : ∃ g, g = w19.heap.size := ⟨_, rfl⟩
                    have ks20 : Blk w20 gs 57 #[.int .i64 lo, .int .i64 hh] := by rw [hw20, hgs]; exact Blk.new _ _ _
                    have hL20 : Later wr w20 := by rw [hw20]; exact later_alloc (Later.trans hL17 (Later.trans hL18 hL19)) _
                    have hLi20 := Later.trans hLi hL20
                    have s0 := fun W (hW : Later w20 W) => ((ks20.later hW).cell 0).trans (show _ = some (Value.int .i64 lo) from rfl)
                    have s1 := fun W (hW : Later w20 W) => ((ks20.later hW).cell 1).trans (show _ = some (Value.int .i64 hh) from rfl)
                    have t0 := fun W (hW : Later w20 W) => cell_later hy0 (Later.trans hLi20 hW) hbm
                    have t1 := fun W (hW : Later w20 W) => cell_later hy1 (Later.trans hLi20 hW) hbm
                    have u0 := fun W (hW : Later w20 W) => hzq0 W (Later.trans hLi20 hW)
                    have u1 := fun W (hW : Later w20 W) => hzp0 W (Later.trans hLi20 hW)
                    try dsimp only at t0 t1
                    have hne1 : (zp != zp) = false := by simp
                    have hne2 : (lo != lo) = false := by simp
                    have hne3 : (hh != hh) = false := by simp
                    have Hw20 := hide hw20
                    have Hgs := hide hgs
                    clear hw20 hgs ks20 hy0 hy1 hzq0 hzp0 Hgood Hc17
                    go_upto_region 26 with fail
                    rw [← Hw20.out, ← Hgs.out]
                    clear Hw20 Hgs
                    refine wp_region_ext (w0 := w20) (by kernel_rfl) (by kernel_rfl) (later_refl _) ?_; (repeat (first | go_big_quiet_step (((fail))) | quiet_step (((fail))))); refine wpQuiet_nil ?_; rintro w21 ⟨⟨_, hL21⟩, rfl⟩; (try dsimp only)
                    clear s0 s1 t0 t1 u0 u1
                    go_wp2_with fail
                    go_roundw
                    case rel => exact ⟨i + 1, hlt3, by go_num, Later.trans hLi20 hL21⟩
                    case measure => simp [intOf]; omega
                  · have hi3 : ¬ (i : Int) < np := by omega
                    go_wp2_with fail
                    refine (aired_calls _).mono ?_
                    rintro e w17 ⟨rfl, hL17⟩
                    go_wp2_with fail
                    go_ret
                    exact ⟨rfl, Later.trans hLw2 (Later.trans hL2i hL17)⟩
    · have hq1 : (q != 0) = true := by simpa using hq0
      have hq2 : (q == 0) = false := by simpa using hq0
      go_wp2_with fail
      refine Hth.out.mono ?_
      rintro e w3 ⟨rfl, hL3⟩
      have r0 := x0 w3 hL3
      have r1 := x1 w3 hL3
      have r2 := x2 w3 hL3
      have r3 := x3 w3 hL3
      have r4 := x4 w3 hL3
      clear q0 q1 q2 q3 q4
      go_wp2_with fail
      refine (Hfa.out w3 hL3).mono ?_
      rintro e w4 ⟨rfl, hL4⟩
      clear r0 r1 r2 r3 r4
      go_wp2_with fail
      refine (aired_calls _).mono ?_
      rintro e w5 ⟨rfl, hL5⟩
      go_wp2_with fail
      go_ret
      exact ⟨rfl, Later.trans hLw2 (Later.trans hL3 (Later.trans hL4 hL5))⟩
end Go.Proofs.Ytnlbgaippnjmiaa
