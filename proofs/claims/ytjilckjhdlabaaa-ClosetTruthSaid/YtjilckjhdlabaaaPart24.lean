/- Part 24 of the proof: joined from the texts Lkd, Tru. -/
import Derived.Test.YtjilckjhdlabaaaPart20
import Derived.Test.YtjilckjhdlabaaaPart13
import Derived.Test.YtjilckjhdlabaaaPart12
import Derived.Test.YtjilckjhdlabaaaPart11
import Derived.Test.YtjilckjhdlabaaaPart6
import Derived.Test.YtjilckjhdlabaaaPart23
import Derived.Test.YtjilckjhdlabaaaPart17
set_option linter.unusedSimpArgs false
set_option linter.unusedVariables false
/- Looked: the walk. -/
namespace Go.Proofs.Ytjilckjhdlabaaa
open Go Go.RowKit
attribute [local go_sem] later_alloc2 later_alloc3 later_alloc4

/-- looks that are right with t -/
def GoodLooks (c : Clo) (t : List Int) (L : List Look) : Prop := L.length ≤ 5 ∧ ∀ l ∈ L, lookOk c.horses.length l = true ∧ okL c t l = true
def LookedPost (c : Clo) (t : List Int) (A1 : Option Addr) (n1 k1 : Nat) (A2 : Option Addr) (n2 k2 : Nat) (w : World) (e : Ending) (w' : World) : Prop :=
  ∃ A m k At kt L, e = .returned (.tuple #[.agg #[.int .i64 c.closets, .int .i64 c.close, .slice A1 n1 k1, .slice A2 n2 k2, .slice A m k], .slice At n1 kt]) ∧ Later w w' ∧ RL w' A m L ∧ m ≤ k ∧ RI w' At n1 t ∧ GoodLooks c t L
theorem Kept.setNew {g b : Nat} {W X : World} (h : Kept g W X) (hb : W.heap.size ≤ b) (i : Nat) (u : Value) : Kept g W (X.setCell ⟨b, i, none⟩ u) :=
  ⟨by have := h.1; simpa using this, fun k hk hn => (Below.heap_setCell X _ _ k (by show k ≠ b; omega)).trans (h.2 k hk hn)⟩
set_option maxRecDepth 100000 in
set_option maxHeartbeats 4000000 in
theorem Looked_calls {A1 A2 A3 : Option Addr} {n1 k1 n2 k2 n3 k3 : Nat} {c : Clo} {Aw : Option Addr} {nw kw : Nat} {l : List Nat} {q : Nat} (w : World) (hc : CV w c A1 n1 A2 n2 A3 n3) (ok : OkC c) (hmr : many c ≤ 2000) (hq : q < 65536) (hw : RW w Aw nw l) (hnw : nw ≤ 9223372036854775807) :
    Calls Try.prog 76 #[(.agg #[.int .i64 c.closets, .int .i64 c.close, .slice A1 n1 k1, .slice A2 n2 k2, .slice A3 n3 k3]), .int .u16 q, .slice Aw nw kw] w (LookedPost c (nth c.horses ((q : Int) % many c)) A1 n1 k1 A2 n2 k2 w) := by
  obtain ⟨w0, hw0⟩ : ∃ W, W = (w.alloc (.cells #[.int .i64 c.closets, .int .i64 c.close, .slice A1 n1 k1, .slice A2 n2 k2, .slice A3 n3 k3] 26)) := ⟨_, rfl⟩; have hbox : ∀ W, Later w0 W → ∀ i, W.cell? ⟨w.heap.size, i, none⟩ = #[.int .i64 c.closets, .int .i64 c.close, .slice A1 n1 k1, .slice A2 n2 k2, .slice A3 n3 k3][i]? := (by rw [hw0]; exact box_cells w #[.int .i64 c.closets, .int .i64 c.close, .slice A1 n1 k1, .slice A2 n2 k2, .slice A3 n3 k3] 26); have hL0 : Later w w0 := (by rw [hw0]; simp); have hc0 := hc.later hL0; have Hw0 := hide hw0; clear hw0
  have hw0' := hw.later hL0
  have hn1 := hc.hs.len
  have l1 : n1 ≤ 4 := by have := ok.len; omega
  obtain ⟨wB, hwB⟩ : ∃ W, W = w0.alloc (.cells #[.int .i64 0, .int .i64 0, .slice none 0 0, .slice none 0 0, .slice none 0 0] 26) := ⟨_, rfl⟩
  have hs0 : w0.heap.size = w.heap.size + 1 := by rw [Hw0.out]; simp
  have hLB : Later w0 wB := by rw [hwB]; simp
  have hsB : wB.heap.size = w.heap.size + 1 + 1 := by rw [hwB]; simp [hs0]
  have hBr : Blk wB (w.heap.size + 1) 26 #[.int .i64 0, .int .i64 0, .slice none 0 0, .slice none 0 0, .slice none 0 0] := by rw [hwB, ← hs0]; exact Blk.new _ _ _
  have okh : ∀ h ∈ c.horses, 1 ≤ h.lo ∧ h.lo ≤ h.hi ∧ h.hi ≤ 60 := fun h hh => by have := ok.horse h hh; omega
  have hmny := many_range okh
  obtain ⟨my, hmy⟩ : ∃ m, many c = m := ⟨_, rfl⟩
  have hmyc := fun (W : World) (hW : Later w0 W) => Many_calls (k1 := k1) (k2 := k2) (k3 := k3) W (hc0.later hW) okh (by omega)
  rw [hmy] at hmyc hmny hmr ⊢
  obtain ⟨m1, hm1⟩ : ∃ m, (q : Int) % my = m := ⟨_, rfl⟩
  have hr1 : 0 ≤ m1 ∧ m1 < my := by rw [← hm1]; exact ⟨Int.emod_nonneg _ (by omega), Int.emod_lt_of_pos _ (by omega)⟩
  have hv1 : ¬ my = 0 := by omega
  have hv2 : (q : Int).tmod my = m1 := by rw [← hm1, Int.tmod_eq_emod_of_nonneg (by omega)]
  have hv4 : IntKind.i64.wrap m1 = m1 := IntWalk.i64_in _ (by omega)
  have hv6 : IntKind.i64.wrap (q : Int) = (q : Int) := IntWalk.i64_in _ (by omega)
  have hN1 := fun (W : World) (hW : Later w0 W) => Nth_calls (k1 := k1) (k2 := k2) (k3 := k3) (n := m1) W (hc0.later hW) okh (by omega) (by omega) (by omega)
  have ht := nth_dry c.horses m1 okh
  rw [hm1]
  obtain ⟨t, hd⟩ : ∃ d, nth c.horses m1 = d := ⟨_, rfl⟩
  rw [hd] at hN1 ht ⊢
  have htl := areNumbers_len _ _ ht
  have htd := (isDry_iff c t).1 ht
  have Htl := hide htl
  have HN1 := hide hN1
  have Hmyc := hide hmyc
  have Hn1 := hide hn1
  have HwB := hide hwB
  have HBr := hide hBr
  have Htd := hide htd
  have HsB := hide (show w.heap.size + 1 < wB.heap.size by omega)
  clear hwB hs0 hsB hBr ht htl htd hN1 hmyc hd hm1 hmy hmr hmny hn1
  go_enter Try.func76, Try.ntmps76
  go_wp2_with fail
  rw [← Hw0.out, ← HwB.out]
  clear Hw0 HwB
  have hbxB := fun W (h : Later wB W) => hbox W (Later.trans hLB h)
  have hSB : Later wB wB.drew := later_drew (later_refl _)
  clear hbox
  refine wp_region_lin (w0 := wB) 7 [] rely_later (by kernel_rfl) (by kernel_rfl) (by kernel_rfl) (by kernel_rfl) (hSB) (.inl rfl) ?_
  simp only [List.take_succ_cons, List.take_zero, List.drop_succ_cons, List.drop_zero]
  refine lin_det (v := ?_) (F' := ?_) (by rfl) (fun _ => by rfl) ?_ ?_ ?_
  rotate_left 2
  focus (intro xs X hX hdep; clear hdep; (try dsimp only); go_simp; (try (first | with_reducible rfl | exact ⟨rfl, rfl⟩ | (fail))))
  focus (intro xs; (try simp only [Act.put, List.setIfInBounds_toArray, List.set_cons_zero, List.set_cons_succ, Nat.reduceAdd]); rfl)
  refine lin_det (v := ?_) (F' := ?_) (by rfl) (fun _ => by rfl) ?_ ?_ ?_
  rotate_left 2
  focus (intro xs X hX hdep; clear hdep; (try dsimp only); go_simp; (try (first | with_reducible rfl | exact ⟨rfl, rfl⟩ | (fail))))
  focus (intro xs; (try simp only [Act.put, List.setIfInBounds_toArray, List.set_cons_zero, List.set_cons_succ, Nat.reduceAdd]); rfl)
  refine lin_det (v := ?_) (F' := ?_) (by rfl) (fun _ => by rfl) ?_ ?_ ?_
  rotate_left 2
  focus (intro xs X hX hdep; clear hdep; (try dsimp only); go_simp; (try (first | with_reducible rfl | exact ⟨rfl, rfl⟩ | (fail))))
  focus (intro xs; (try simp only [Act.put, List.setIfInBounds_toArray, List.set_cons_zero, List.set_cons_succ, Nat.reduceAdd]); rfl)
  refine lin_det (v := ?_) (F' := ?_) (by rfl) (fun _ => by rfl) ?_ ?_ ?_
  rotate_left 2
  focus (intro xs X hX hdep; clear hdep; (try dsimp only); go_simp; (try (first | with_reducible rfl | exact ⟨rfl, rfl⟩ | (fail))))
  focus (intro xs; (try simp only [Act.put, List.setIfInBounds_toArray, List.set_cons_zero, List.set_cons_succ, Nat.reduceAdd]); rfl)
  refine lin_det (v := ?_) (F' := ?_) (by rfl) (fun _ => by rfl) ?_ ?_ ?_
  rotate_left 2
  focus (intro xs X hX hdep; clear hdep; (try dsimp only); go_simp; (try (first | with_reducible rfl | exact ⟨rfl, rfl⟩ | (exact Hmyc.out X (Later.trans hLB hX)))))
  focus (intro xs; (try simp only [Act.put, List.setIfInBounds_toArray, List.set_cons_zero, List.set_cons_succ, Nat.reduceAdd]); rfl)
  refine lin_det (v := ?_) (F' := ?_) (by rfl) (fun _ => by rfl) ?_ ?_ ?_
  rotate_left 2
  focus (intro xs X hX hdep; clear hdep; (try dsimp only); go_simp; (try (first | with_reducible rfl | exact ⟨rfl, rfl⟩ | (fail))))
  focus (intro xs; (try simp only [Act.put, List.setIfInBounds_toArray, List.set_cons_zero, List.set_cons_succ, Nat.reduceAdd]); rfl)
  refine lin_any (fun v W => ∃ A k, v = .slice A n1 k ∧ RI W A n1 t ∧ Fresh wB W A) false (fun v W W' h ⟨A, k, e, hr, hf⟩ => ⟨A, k, e, hr.later h, hf.later h⟩) (F' := ?_) (by rfl) (fun _ => by rfl) ?_ ?_ ?_
  rotate_left 1
  focus (intro xs X hX hdep; skip; clear hdep; intro K hK; (try dsimp only); go_simp; (refine (HN1.out X (Later.trans hLB hX)).mono ?_; rintro e W' ⟨A, m, k, rfl, hL, hr, hfr⟩; obtain rfl : m = n1 := (by have h1 := hr.len; have h2 := Htl.out; have h3 := Hn1.out; omega); exact hK.out _ _ rfl hL ⟨A, k, rfl, hr, hfr.le hX.size⟩ (fun h => by cases h)))
  focus (intro xs; (try simp only [Act.put, List.setIfInBounds_toArray, List.set_cons_zero, List.set_cons_succ, Nat.reduceAdd]); rfl)
  intro xs w3 hW hf hfr hfb
  obtain ⟨At, kt, hx6, hrt, hfrt⟩ := hf 6
  simp only [hx6, Nat.reduceAdd, Nat.zero_add]
  have hL3 := Later.trans hLB hW
  have hbx3 := fun W (h : Later w3 W) => hbxB W (Later.trans hW h)
  clear hf hfr hfb hx6 hbxB hv1 hv2 hv4 hv6 hr1
  have hK3 : Later w3 w3 := later_refl _
  go_wp2_with fail
  obtain ⟨w5, hw5⟩ : ∃ W, W = w3.alloc (.cells #[.int .i64 c.closets, .int .i64 c.close, .slice A1 n1 k1, .slice A2 n2 k2, .slice none 0 0] 26) := ⟨_, rfl⟩
  obtain ⟨g3, hg3⟩ : ∃ g, g = w3.heap.size := ⟨_, rfl⟩
  have hL5 : Later w3 w5 := by rw [hw5]; exact later_alloc (later_refl _) _
  have hb5 : Blk w5 g3 26 #[.int .i64 c.closets, .int .i64 c.close, .slice A1 n1 k1, .slice A2 n2 k2, .slice none 0 0] := by rw [hw5, hg3]; exact Blk.new _ _ _
  have hlo : w3.heap.size ≤ g3 := Nat.le_of_eq hg3.symm
  rw [← hw5, ← hg3]
  have hLB5 : w3.heap.size ≤ w5.heap.size := hL5.size
  have hg5 := hb5.lt
  have Hb5 := hide hb5
  have HgB := hide (show w.heap.size + 1 < g3 by have := HsB.out; have := hW.size; omega)
  clear hb5 hw5 hg3
  go_loopw [10] (fun i wq => ∃ (s : Nat) (Aw' : Option Addr) (kw' : Nat) (L : List Look), s ≤ 5 ∧ i = .int .i64 s ∧ Later w3 wq ∧ Kept g3 w5 wq ∧ Hid (Blk wq g3 26 #[.int .i64 c.closets, .int .i64 c.close, .slice A1 n1 k1, .slice A2 n2 k2, .slice Aw' s kw']) ∧ Hid (wq.ownsRow w5.heap.size 84 3 (.slice Aw' s kw') s (looksV L)) ∧ Hid (GoodLooks c t L)) (fun i _ => 6 - (intOf i).toNat)
  case atStart => exact ⟨0, none, 0, [], Nat.zero_le _, rfl, hL5, Kept.refl _ _, Hb5, ⟨by simp [looksV], .inl ⟨rfl, rfl⟩⟩, ⟨by simp, fun l h => by cases h⟩⟩
  case round =>
    obtain ⟨s, Aw', kw', L, hs, rfl, hLq, hKq, Hbq, Howq, Hgl⟩ := hrel
    have hL3r := Later.trans hL3 hLq
    go_wp2_with fail
    refine (word_calls (k := kw) (i := 0) wr (hw0'.later hL3r) hnw (by omega)).mono ?_
    rintro e wr' ⟨z, hz, rfl, rfl⟩
    have hz6 : 0 ≤ (z : Int) % 6 ∧ (z : Int) % 6 ≤ 5 := by omega
    by_cases hlt : (s : Int) < (z : Int) % 6 ∧ 0 < n1
    · obtain ⟨hlt, hn0⟩ := hlt
      have hn0' : (0 : Int) < (n1 : Int) := by omega
      have hbxr := fun W (h : Later wr W) => hbx3 W (Later.trans hLq h)
      have hKr : Later wr wr := later_refl _
      clear hbx3
      go_wp2_with fail
      refine (word_calls (k := kw) (i := s + 1) wr (hw0'.later hL3r) hnw (by omega)).mono ?_
      rintro e wr' ⟨z2, hz2, rfl, rfl⟩
      obtain ⟨k, hk⟩ : ∃ k, z2 % n1 = k := ⟨_, rfl⟩
      have hkn : k < n1 := by rw [← hk]; exact Nat.mod_lt _ (by omega)
      have hv1 : ¬ (n1 : Int) = 0 := by omega
      have hv2 : (z2 : Int).tmod (n1 : Int) = (k : Int) := by rw [← hk, Int.tmod_eq_emod_of_nonneg (by omega)]; norm_cast
      have hv3 : (z2 : Int) % (n1 : Int) = (k : Int) := by rw [← hk]; norm_cast
      have hv4 : ¬ n1 = 0 := by omega
      clear hk
      go_wp2_with fail
      obtain ⟨wn, hwn⟩ : ∃ W, W = wr.alloc (.cells #[.int .i64 k, .int .i64 0, .bool false] 84) := ⟨_, rfl⟩
      obtain ⟨gn, hgn⟩ : ∃ g, g = wr.heap.size := ⟨_, rfl⟩
      have hbn : Blk wn gn 84 #[.int .i64 k, .int .i64 0, .bool false] := by rw [hwn, hgn]; exact Blk.new _ _ _
      have hLn : Later wr wn := by rw [hwn]; exact later_alloc (later_refl _) _
      have hlon : wr.heap.size ≤ gn := Nat.le_of_eq hgn.symm
      have hLn3 := Later.trans hL3r hLn
      have hkc : k < c.horses.length := by have := Hn1.out; omega
      have hmc := Minute_calls (k1 := k1) (k2 := k2) (k3 := k3) (kp := k2) (kd := kt) (h := (k : Int)) wn (hc0.later hLn3) (hc0.later hLn3).hu (hrt.later (Later.trans hLq hLn)) ok.toOkH ok.hung.len Htd.out.len (by omega) (by omega) (ok.hung.bound ok.toOkH) (Htd.out.bound ok.toOkH)
      have hmr := minuteR_range ok.toOkH (p := c.hung) (Nat.le_of_eq ok.hung.len) Htd.out k hkc
      rw [Int.toNat_natCast] at hmc
      obtain ⟨mm, hmm⟩ : ∃ m, minuteR c c.hung t k = m := ⟨_, rfl⟩
      rw [hmm] at hmc hmr
      have Hmm := hide hmm
      have Hmc := hide hmc
      rw [← hwn, ← hgn]
      clear hmc hmm hwn hgn hv1 hv2 hv3 hv4
      refine Hmc.out.mono ?_
      rintro e w7 ⟨rfl, hM7⟩
      have hLr7 := Later.trans hLn hM7
      have hb7 := hbn.later hM7
      have hn0 := hb7.cell 0
      have hn1' := hb7.cell 1
      have hn2' := hb7.cell 2
      have hnf1 := hb7.frozen 1
      have hnf2 := hb7.frozen 2
      simp only [List.getElem?_toArray, List.getElem?_cons_zero, List.getElem?_cons_succ] at hn0 hn1' hn2'
      obtain ⟨r, hr⟩ : ∃ r : Int, (z2 : Int) / 8 % 7 = r := ⟨_, rfl⟩
      have hr0 : 0 ≤ r ∧ r ≤ 6 := by omega
      have hlt99 : mm + r - 3 < 99 := by omega
      have hb37 := Hbq.out.later hLr7
      have hq0 := hb37.cell 0
      have hq4 := hb37.cell 4
      have hqf := hb37.frozen 4
      simp only [List.getElem?_toArray, List.getElem?_cons_zero, List.getElem?_cons_succ] at hq0 hq4
      have hgng : gn ≠ g3 := by have := Hbq.out.lt; omega
      have hgng2 : g3 ≠ gn := fun e => hgng e.symm
      go_upto_region 11 with fail
      obtain ⟨m, hm⟩ : ∃ m, (if 3 < mm + r then mm + r - 3 else 0) = m := ⟨_, rfl⟩
      have hm0 : 0 ≤ m ∧ m ≤ 99 := by rw [← hm]; split <;> omega
      rw [hm]
      obtain ⟨w8, hw8⟩ : ∃ W, W = w7.setCell ⟨gn, 1, none⟩ (.int .i64 m) := ⟨_, rfl⟩
      have hb8 : Blk w8 gn 84 #[.int .i64 k, .int .i64 m, .bool false] := by rw [hw8]; exact hb7.set_ 1 _
      have hLr8 : Later wr w8 := by rw [hw8]; exact later_set hLr7 _ hlon _
      rw [← hw8]
      obtain ⟨bq, hbq⟩ : ∃ b, decide (mm ≤ m) = b := ⟨_, rfl⟩
      have hn1' := hb8.cell 1
      have hn2' := hb8.cell 2
      have hnf2 := hb8.frozen 2
      simp only [List.getElem?_toArray, List.getElem?_cons_zero, List.getElem?_cons_succ] at hn1' hn2'
      clear hw8 hm hlt99 hr hr0 hnf1 hn0 hb37 hq0 hq4 hqf
      go_upto_region 12 with fail
      obtain ⟨w9, hw9⟩ : ∃ W, W = w8.setCell ⟨gn, 2, none⟩ (.bool bq) := ⟨_, rfl⟩
      have hb9 : Blk w9 gn 84 #[.int .i64 k, .int .i64 m, .bool bq] := by rw [hw9]; exact hb8.set_ 2 _
      have hLr9 : Later wr w9 := by rw [hw9]; exact later_set hLr8 _ hlon _
      rw [← hw9]
      have hv0 := hb9.cell 0
      have hv1 := hb9.cell 1
      have hv2 := hb9.cell 2
      have hb39 := Hbq.out.later hLr9
      have hq4 := hb39.cell 4
      have hown9 := own_later2 Howq.out hLr9
      have hK9 := hKq.later hLr9
      have hL39 := Later.trans hLq hLr9
      have hlen : s ≤ 1000000 := by omega
      have hbs9 := hK9.1
      simp only [List.getElem?_toArray, List.getElem?_cons_zero, List.getElem?_cons_succ] at hv0 hv1 hv2 hq4
      have Hbq' := hide hbq
      clear hw9 hn1' hn2' hnf2 hbq hb8 hb7
      have hownA := hown9.alloc (.cells #[.int .i64 k, .int .i64 m, .bool bq] 84)
      have knew := Blk.new w9 84 #[.int .i64 k, .int .i64 m, .bool bq]
      have hKA := hK9.later (later_alloc (later_refl _) (.cells #[.int .i64 k, .int .i64 m, .bool bq] 84))
      have hbsA := hKA.1
      have HownA := hide hownA
      have Hknew := hide knew
      have HKA := hide hKA
      have HbsA := hide hbsA
      clear hownA knew hKA hbsA hbs9
      go_wp2_with (at_builtin; refine appG rfl w5.heap.size _ _ 24 rfl 84 (.agg #[.int .i64 0, .int .i64 0, .bool false]) 3 24 Try.underlying24 rlook_info rfl (by omega) (.slice Aw' s kw') s (looksV L) rfl HbsA.out HownA.out ⟨w9.heap.size, 0, none⟩ 1 1 [.int .i64 k, .int .i64 m, .bool bq] rfl rfl (fun j u hu => by rw [add_lit, Nat.zero_add, Hknew.out.cell, List.getElem?_toArray]; exact hu) (by simp [Value.oneCell']) (by omega) (by omega) (by omega) ?_)
      intro v' w10 hap
      obtain ⟨A', c', hv', _⟩ := own_slice hap.own
      subst hv'
      have hr4 : ∀ g, (Value.slice Aw' s kw').ownBlock = some g → w5.heap.size ≤ g := fun g hg => (HownA.out.lt g hg).1
      have hL310 : Later w3 w10 := Later.grown (later_alloc hL39 _) hap.grown (fun g hg => Nat.le_trans hLB5 (hr4 g hg))
      have hK10 := HKA.out.grown hap.grown hr4
      have hb3A := hb39.alloc (.cells #[.int .i64 k, .int .i64 m, .bool bq] 84)
      have hb310 := Blk.of_eq (hap.grown.block g3 hb3A.lt (fun e => by have := hr4 g3 e.symm; omega)) hb3A
      have c4 := hb310.cell 4
      have f4 := hb310.frozen 4
      have hown10 := hap.own
      have hll := Howq.out.1
      rw [looksV_length] at hll
      simp only [List.getElem?_toArray, List.getElem?_cons_zero, List.getElem?_cons_succ] at c4
      have Hown10 := hide hown10
      have Hll := hide hll
      clear hap hb39 hq4 hown9 hK9 hb3A hr4 hown10 hll hv0 hv1 hv2
      go_wp2_with fail
      go_roundw
      case rel =>
        have hgl := Hgl.out
        refine ⟨s + 1, A', c', L ++ [⟨k, m, bq⟩], by omega, by go_num, later_set hL310 _ hlo _, hK10.setCell 4 _, hb310.set_ 4 _, ?_, ?_, ?_⟩
        · have := own_block (W' := w10.setCell ⟨g3, 4, none⟩ (.slice A' (s + 1) c')) Hown10.out fun g hg => Below.heap_setCell w10 _ _ g (by have := (Hown10.out.lt g hg).1; show g ≠ g3; omega)
          rw [looksV_snoc]; exact this
        · rw [List.length_append]; have := Hll.out; simp; omega
        · intro l hl
          rcases List.mem_append.1 hl with h | h
          · exact hgl.2 l h
          · rw [List.mem_singleton] at h
            subst h
            refine ⟨by unfold lookOk inB; simp; omega, ?_⟩
            unfold okL
            show (decide (minuteR c c.hung t ((k : Int)).toNat ≤ m) == bq) = true
            rw [Int.toNat_natCast, Hmm.out, Hbq'.out]; simp
      case measure => simp [intOf]; omega
    · have hex : (¬ (s : Int) < (z : Int) % 6) ∨ ((s : Int) < (z : Int) % 6 ∧ ¬ (0 : Int) < (n1 : Int)) := by omega
      have hbxr := fun W (h : Later wr W) => hbx3 W (Later.trans hLq h)
      have hKr : Later wr wr := later_refl _
      have hll := Howq.out.1
      rw [looksV_length] at hll
      obtain ⟨A', c', e, hrl⟩ := own_slice (w0 := w5) Howq.out
      have hcp := own_cap2 Howq.out
      injection e with e1 e2 e3
      subst e1 e3
      have y0 := Hbq.out.cell 0
      have y1 := Hbq.out.cell 1
      have y2 := Hbq.out.cell 2
      have y3 := Hbq.out.cell 3
      have y4 := Hbq.out.cell 4
      have hbr := HBr.out.later (Later.trans hW hLq)
      have x0 := hbr.cell 0
      have x1 := hbr.cell 1
      have x2 := hbr.cell 2
      have x3 := hbr.cell 3
      have x4 := hbr.cell 4
      have xf0 := hbr.frozen 0
      have xf1 := hbr.frozen 1
      have xf2 := hbr.frozen 2
      have xf3 := hbr.frozen 3
      have xf4 := hbr.frozen 4
      have hsz := hbr.lt
      simp only [List.getElem?_toArray, List.getElem?_cons_zero, List.getElem?_cons_succ] at y0 y1 y2 y3 y4 x0 x1 x2 x3 x4
      have hne : g3 ≠ w.heap.size + 1 := by have := HgB.out; omega
      have hlw : Later w wr := Later.trans hL0 hL3r
      have hrtr := hrt.later hLq
      have Hll := hide hll
      clear hbx3 hlt hbr hll
      have hBw := HsB.out
      rcases hex with hxa | ⟨hxa, hxb⟩
      all_goals
        go_wp2_with fail
        have hfin : ∀ X, Later w X → Later w (((((X.setCell ⟨w.heap.size + 1, 0, none⟩ (.int .i64 c.closets)).setCell ⟨w.heap.size + 1, 1, none⟩ (.int .i64 c.close)).setCell ⟨w.heap.size + 1, 2, none⟩ (.slice A1 n1 k1)).setCell ⟨w.heap.size + 1, 3, none⟩ (.slice A2 n2 k2)).setCell ⟨w.heap.size + 1, 4, none⟩ (.slice Aw' s kw')) := fun X h =>
          later_set (later_set (later_set (later_set (later_set h _ (Nat.le_succ _) _) _ (Nat.le_succ _) _) _ (Nat.le_succ _) _) _ (Nat.le_succ _) _) _ (Nat.le_succ _) _
        have hbut := (((((But.refl (w.heap.size + 1) wr).set_ 0 (.int .i64 c.closets)).set_ 1 (.int .i64 c.close)).set_ 2 (.slice A1 n1 k1)).set_ 3 (.slice A2 n2 k2)).set_ 4 (.slice Aw' s kw')
        have hko : ∀ (X : World) (i : Nat) (u : Value), Hid (X.ownsRow w5.heap.size 84 3 (.slice Aw' s kw') s (looksV L)) → Hid ((X.setCell ⟨w.heap.size + 1, i, none⟩ u).ownsRow w5.heap.size 84 3 (.slice Aw' s kw') s (looksV L)) := fun X i u h =>
          own_block h.out fun g hg => Below.heap_setCell X _ _ g (by have h1 := (h.out.lt g hg).1; have h2 := HgB.out; show g ≠ w.heap.size + 1; omega)
        have ho2 := hko _ 4 (.slice Aw' s kw') (hko _ 3 (.slice A2 n2 k2) (hko _ 2 (.slice A1 n1 k1) (hko _ 1 (.int .i64 c.close) (hko _ 0 (.int .i64 c.closets) Howq))))
        refine bodyPost_ret (v := .tuple #[.agg #[.int .i64 c.closets, .int .i64 c.close, .slice A1 n1 k1, .slice A2 n2 k2, .slice Aw' s kw'], .slice At n1 kt]) ?_ rfl ⟨Aw', s, kw', At, kt, L, rfl, hfin _ hlw, Reads.of_own ho2.out, hcp, RI.but hrtr hbut (fun b o e => by have := (hfrt b o e).1; omega), Hgl.out⟩
        simp [results, Try.results76, go_sem, *]
end Go.Proofs.Ytjilckjhdlabaaa

/- ClosetTruth: the plain law. -/
namespace Go.Proofs.Ytjilckjhdlabaaa
open Go

structure IsTru (x : Clo) (t : List Int) : Prop where
  f : fault x = 0
  dry : areNumbers x.horses t = true
  ok : ∀ l ∈ x.looks, okL x t l = true
theorem isTru_of {c : Clo} (hf : fault c = 0) {t : List Int} (ht : areNumbers c.horses t = true) {L : List Look} (hL : GoodLooks c t L) : IsTru (withLooks c L) t :=
  ⟨fault_looks hf (by rw [List.all_eq_true]; exact fun l hl => (hL.2 l hl).1) hL.1, ht, fun l hl => (hL.2 l hl).2⟩
theorem IsTru.mem {x : Clo} {t : List Int} (h : IsTru x t) : t ∈ truthsP x := by
  have ok := okC_of_fault h.f
  rw [truthsP_filter ok.toOkH]
  refine List.mem_filter.2 ⟨dryAll_has _ _ h.dry, ?_⟩
  rw [rightP_full ok, rightBits_full]
  exact fun j l hj => h.ok l (List.mem_of_getElem? hj)
theorem IsTru.ne {x : Clo} {t : List Int} (h : IsTru x t) : truthsP x ≠ [] := fun e => by have := h.mem; rw [e] at this; cases this
theorem IsTru.e {x : Clo} {t : List Int} (h : IsTru x t) : askedErr x true = 0 := by unfold askedErr; rw [if_neg (by simp [h.f]), if_neg (by simp), if_neg h.ne]
theorem IsTru.truth {x : Clo} {t : List Int} (h : IsTru x t) : truthOut x t = true := by
  have ok := okC_of_fault h.f
  unfold truthOut
  rw [decide_eq_true h.f, h.dry, Bool.true_and, Bool.true_and, rightP_full ok, rightBits_full]
  exact fun j l hj => h.ok l (List.mem_of_getElem? hj)
theorem IsTru.poss {x : Clo} {t : List Int} (h : IsTru x t) : possibleP x [] = true := (truthsP_ne (okC_of_fault h.f)).1 h.ne
theorem IsTru.leave {x : Clo} {t : List Int} (h : IsTru x t) : leaveOut x = [] := by
  obtain ⟨B, hB, e, _, hmin⟩ := leave_min h.f
  have := hmin 0 (Nat.two_pow_pos _) (show possibleP x [] = true from h.poss)
  rw [e]
  exact List.eq_nil_of_length_eq_zero (Nat.le_zero.1 this)
theorem IsTru.first {x : Clo} {t : List Int} (h : IsTru x t) : firstOut x = (0, 7) := by
  unfold firstOut
  rw [if_neg (by simp [h.f])]
  have : (List.range x.looks.length).find? (firstBad x) = none := by
    refine find_range_none fun i _ => ?_
    unfold firstBad
    have ok := okC_take (okC_of_fault h.f) (i + 1)
    rw [Bool.not_eq_false', poss_mem ok]
    exact ⟨t, dryAll_has _ _ h.dry, fun l hl => h.ok l (List.mem_of_mem_take hl)⟩
  rw [this]
/-- what is so of each horse -/
theorem IsTru.at_ {x : Clo} {t : List Int} (h : IsTru x t) {p : List Int} (hp : IsPl x p) {i : Nat} (hi : i < x.horses.length) {m : Int} (h0 : 0 ≤ m) (h9 : m ≤ 99) :
    ∃ li b1 b2 v r1 r2 g, minuteR x p t i = li ∧ (playL x p t)[i]? = some li ∧ 1 ≤ li ∧ li ≤ 78 ∧ (boundsOut x p)[i]? = some (b1, b2) ∧ b1 ≤ li ∧ li ≤ b2 ∧ rightOut x p i m = (v, 0) ∧ goodL x p i = (r1, r2) ∧ graceAt x i = g ∧
      ((v = 1 ∧ li ≤ m ∧ m ≤ li + g ∧ inB m r1 r2 = decide (m ≤ x.close)) ∨ (v = 2 ∧ ¬ (li ≤ m ∧ m ≤ li + g) ∧ inB m r1 r2 = false) ∨ (v = 3 ∧ inB m r1 r2 = false)) ∧
      (r1 ≤ r2 → li ≤ r1 ∧ r2 ≤ li + g) := by
  have ok := okC_of_fault h.f
  have hb : isPlaceB x p = true := (isPlaceB_iff ok.cl1 ok.cl4 p).2 hp
  have hh : isHorse x i = true := by unfold isHorse inB; simp; omega
  have hm : inB m 0 99 = true := by unfold inB; simp; omega
  have hro : rightOut x p i m = (verdict x (truthsP x) p i m, 0) := by unfold rightOut; rw [hb, hh, hm]; simp only [Bool.and_self]; rw [if_neg (by simp [h.e])]; rfl
  have hbo : (boundsOut x p)[i]? = some (boundP x p i) := by
    unfold boundsOut
    rw [hb, if_neg (by simp [h.e])]
    unfold boundsTo2
    rw [List.getElem?_map, List.getElem?_range hi]; rfl
  have hmr := minuteR_range ok.toOkH (p := p) (Nat.le_of_eq hp.len) ((isDry_iff x t).1 h.dry) i hi
  have hpl : (playL x p t)[i]? = some (minuteR x p t i) := by rw [(playL_eq h.f hp h.dry).2, List.getElem?_map, List.getElem?_range hi]; rfl
  obtain ⟨s1, ⟨a, ha, s2⟩, ⟨b, hb2, s3⟩⟩ := bP_spec (fun d => minuteR x p d i) h.ne
  obtain ⟨u1, ⟨a', ha', u2⟩, ⟨b', hb', u3⟩⟩ := bP_spec (fun d => minuteR x p d i + graceAt x i) h.ne
  have hst := s1 t h.mem
  have hut := u1 t h.mem
  have hn := List.length_pos_iff.2 h.ne
  obtain ⟨lo, hlo⟩ : ∃ q, (bP (fun d => minuteR x p d i) (truthsP x)).2 = q := ⟨_, rfl⟩
  obtain ⟨hi', hhi⟩ : ∃ q, (bP (fun d => minuteR x p d i + graceAt x i) (truthsP x)).1 = q := ⟨_, rfl⟩
  have hgp : goodP x (truthsP x) p i = (lo, min x.close hi') := by unfold goodP; rw [hlo, hhi]
  -- the verdict 1
  have hv1 : verdict x (truthsP x) p i m = 1 ↔ lo ≤ m ∧ m ≤ hi' := by
    unfold verdict
    have hc : (truthsP x).countP (fun d => isRight x p d i m) = (truthsP x).length ↔ lo ≤ m ∧ m ≤ hi' := by
      rw [List.countP_eq_length]
      constructor
      · intro hall
        have e1 := hall b hb2
        have e2 := hall a' ha'
        unfold isRight inB at e1 e2
        simp only [Bool.and_eq_true, decide_eq_true_eq] at e1 e2
        (try dsimp only at s3 u2)
        omega
      · rintro ⟨e1, e2⟩ d hd
        have t1 := (s1 d hd).2
        have t2 := (u1 d hd).1
        unfold isRight inB
        simp only [Bool.and_eq_true, decide_eq_true_eq]
        (try dsimp only at t1 t2)
        omega
    split
    · rename_i hq; simp [hc.1 hq]
    · rename_i hq
      constructor
      · intro he; exfalso; split at he <;> omega
      · intro he; exact absurd (hc.2 he) hq
  have hv2 : verdict x (truthsP x) p i m = 2 → isRight x p t i m = false := by
    intro hv
    unfold verdict at hv
    split at hv
    · omega
    · split at hv
      · rename_i hz
        rw [List.countP_eq_zero] at hz
        cases hq : isRight x p t i m with
        | false => rfl
        | true => exact absurd hq (by simpa using hz t h.mem)
      · omega
  have hv3 : verdict x (truthsP x) p i m = 1 ∨ verdict x (truthsP x) p i m = 2 ∨ verdict x (truthsP x) p i m = 3 := by
    unfold verdict; split
    · exact .inl rfl
    · split
      · exact .inr (.inl rfl)
      · exact .inr (.inr rfl)
  have hgl : ∃ r1 r2, goodL x p i = (r1, r2) ∧ ((r2 < r1 ∧ min x.close hi' < lo ∧ r1 = 1 ∧ r2 = 0) ∨ (r1 = lo ∧ r2 = min x.close hi' ∧ lo ≤ min x.close hi')) := by
    unfold goodL
    rw [hgp]
    split
    · rename_i hq; exact ⟨1, 0, rfl, .inl ⟨by omega, hq, rfl, rfl⟩⟩
    · rename_i hq; exact ⟨_, _, rfl, .inr ⟨rfl, rfl, by dsimp only at hq; omega⟩⟩
  obtain ⟨r1, r2, hgl, hrr⟩ := hgl
  (try dsimp only at hst hut)
  refine ⟨minuteR x p t i, (boundP x p i).1, (boundP x p i).2, verdict x (truthsP x) p i m, r1, r2, graceAt x i, rfl, hpl, hmr.1, hmr.2, hbo, hst.1, hst.2, hro, hgl, rfl, ?_, ?_⟩
  · have hin : inB m r1 r2 = decide ((lo ≤ m ∧ m ≤ hi') ∧ m ≤ x.close) := by
      unfold inB
      rw [← Bool.decide_and]
      refine decide_eq_decide.2 ?_
      rcases hrr with ⟨_, q1, rfl, rfl⟩ | ⟨rfl, rfl, _⟩
      · constructor
        · intro h; omega
        · intro h; omega
      · constructor
        · intro h; omega
        · intro h; omega
    rcases hv3 with hv | hv | hv
    · left
      have hq := hv1.1 hv
      refine ⟨hv, by omega, by omega, ?_⟩
      rw [hin]
      refine decide_eq_decide.2 ⟨fun h => h.2, fun h => ⟨hq, h⟩⟩
    · right; left
      have hq := hv2 hv
      unfold isRight inB at hq
      refine ⟨hv, fun hc => ?_, ?_⟩
      · rw [decide_eq_true hc.1, decide_eq_true hc.2] at hq; cases hq
      · rw [hin]
        exact decide_eq_false fun hc => by have := hv1.2 hc.1; omega
    · right; right
      refine ⟨hv, ?_⟩
      rw [hin]
      exact decide_eq_false fun hc => by have := hv1.2 hc.1; omega
  · intro hle
    rcases hrr with ⟨q0, _⟩ | ⟨rfl, rfl, _⟩
    · omega
    · omega
end Go.Proofs.Ytjilckjhdlabaaa
