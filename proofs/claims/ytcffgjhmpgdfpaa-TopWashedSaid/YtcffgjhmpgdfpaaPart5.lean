/- Part 5 of the proof: joined from the texts TcR, TcV, UnC, Uop, TrA, TrB, Bits, TrC, TrQ, TrD. -/
import Derived.Test.YtcffgjhmpgdfpaaPart4
import Derived.Test.YtcffgjhmpgdfpaaPart2
import Derived.Test.YtcffgjhmpgdfpaaPart1
import Derived.Laws.BitsAllLaws
import Derived.Laws.BitsLemmas
import Derived.RowKit
set_option linter.unusedSimpArgs false
set_option linter.unusedVariables false
/- The program's bounds: walk. -/
namespace Go.Proofs.Ytcffgjhmpgdfpaa
open Go Go.RowKit

def foldB (f : List Int → Int) (a : Int) (l : List (List Int)) : Int × Int := l.foldl (fun r d => wider r (f d)) (a, a)
theorem foldB_take {f : List Int → Int} {a : Int} {l : List (List Int)} {j : Nat} {d : List Int} (h : l[j]? = some d) : foldB f a (l.take (j + 1)) = wider (foldB f a (l.take j)) (f d) := by
  unfold foldB; rw [List.take_add_one, h, Option.toList_some, List.foldl_append]; rfl
theorem foldB_bP {f : List Int → Int} {l : List (List Int)} {d : List Int} (h : l[0]? = some d) : foldB f (f d) l = bP f l := by
  cases l with
  | nil => simp at h
  | cons x l => simp at h; subst h; rfl
section
variable {A1 A2 A3 At : Option Addr} {n1 k1 n2 k2 n3 k3 nt kt bw bm : Nat} {c : Hou} {tr : List (List Int)}
set_option maxRecDepth 100000 in
set_option maxHeartbeats 1000000 in
theorem bounds_off_calls (f : List Int → Int) {x : Int} (w : World) (hw : WK w bw c A1 n1 k1 A2 n2 k2 A3 n3 k3 At nt kt tr bm) (hne : tr ≠ []) (hnt : nt ≤ 1000000)
    (Hfn : ∀ W, Later w W → ∀ d ∈ tr, ∀ e0 e1 e2 e3, Hid (pad4 d = [e0, e1, e2, e3]) → Calls Try.prog 71 #[.pointer (some ⟨bw, 0, none⟩), .agg #[.int .i64 e0, .int .i64 e1, .int .i64 e2, .int .i64 e3], .int .i64 x] W fun e w' => e = .returned (.int .i64 (f d)) ∧ Later W w') :
    Calls Try.prog 34 #[.agg #[.func (.func 71) #[] #[]], .pointer (some ⟨bw, 0, none⟩), .int .i64 x] w fun e w' =>
      e = .returned (.agg #[.int .i64 (bP f tr).1, .int .i64 (bP f tr).2]) ∧ Later w w' := by
  have hl := hw.rd.len
  have hl := hw.rd.len
  subst hl
  have h0 : 0 < tr.length := List.length_pos_iff.2 hne
  have h0i : (0 : Int) < tr.length := by omega
  obtain ⟨wq, hwq⟩ : ∃ X, X = w.alloc (.cells #[.func (.func 71) #[] #[]] 97) := ⟨_, rfl⟩
  have bq0 : Blk wq w.heap.size 97 #[.func (.func 71) #[] #[]] := by rw [hwq]; exact Blk.new _ _ _
  have hsq : wq.heap.size = w.heap.size + 1 := by rw [hwq]; simp
  have hLq : Later w wq := by rw [hwq]; exact later_alloc (later_refl _) _
  obtain ⟨w0, hw0⟩ : ∃ X, X = wq.alloc (.cells #[.int .i64 0, .int .i64 0] 65) := ⟨_, rfl⟩
  have br0 : Blk w0 (w.heap.size + 1) 65 #[.int .i64 0, .int .i64 0] := by
    have := Blk.new wq 65 #[.int .i64 0, .int .i64 0]
    rw [hsq] at this; rw [hw0]; exact this
  have hLq0 : Later wq w0 := by rw [hw0]; exact later_alloc (later_refl _) _
  have hs0 : w0.heap.size = w.heap.size + 2 := by rw [hw0]; simp [hsq]
  have bq := bq0.later hLq0
  have hL0 := Later.trans hLq hLq0
  obtain ⟨b0, o0, d0, e0, e1, e2, e3, rfl, hb0, hd0, Hp0, x0, x1, x2, x3⟩ := hw.rd.get h0
  have hd0m := List.mem_of_getElem? hd0
  have x0' := fun W (hW : Later w0 W) => x0 W (Later.trans hL0 hW)
  have x1' := fun W (hW : Later w0 W) => x1 W (Later.trans hL0 hW)
  have x2' := fun W (hW : Later w0 W) => x2 W (Later.trans hL0 hW)
  have x3' := fun W (hW : Later w0 W) => x3 W (Later.trans hL0 hW)
  simp only [Nat.zero_mul, Nat.add_zero] at x0' x1' x2' x3'
  have hcw := fun W (hW : Later w0 W) i => (hw.later (Later.trans hL0 hW)).cells i
  have t5 := fun W (hW : Later w0 W) => hcw W hW 5
  have q0 := fun W (hW : Later w0 W) => (bq.later hW).cell 0
  simp only [List.getElem?_toArray, List.getElem?_cons_zero, List.getElem?_cons_succ] at t5 q0
  have Hwq := hide hwq
  have Hw0 := hide hw0
  have HF := hide (fun (W : World) (hW : Later w0 W) => Hfn W (Later.trans hL0 hW))
  have Hbp := hide (foldB_bP (f := f) hd0)
  have HW := hide hw
  clear hwq hw0 bq0 bq hcw x0 x1 x2 x3 hd0 hLq0 hLq
  go_enter Try.func34, Try.ntmps34
  go_upto_region 1 with fail
  rw [← Hwq.out, ← Hw0.out]
  refine wp_region_ext (w0 := w0) (by kernel_rfl) (by kernel_rfl) (later_refl _) ?_; (repeat (first | go_big_quiet_step (((exact calls_ext (by simp) (HF.out _ (by simp) _ hd0m _ _ _ _ Hp0)))) | quiet_step (((exact calls_ext (by simp) (HF.out _ (by simp) _ hd0m _ _ _ _ Hp0)))))); refine wpQuiet_nil ?_; rintro w1 ⟨⟨_, hL1⟩, rfl⟩; (try dsimp only)
  have hL01 := Later.trans hL0 hL1
  have hs1 := hL1.size
  obtain ⟨vf, hvf⟩ : ∃ v, f d0 = v := ⟨_, rfl⟩
  rw [hvf] at Hbp ⊢
  obtain ⟨w2, hw2⟩ : ∃ X, X = w1.alloc (.cells #[.int .i64 vf, .int .i64 vf] 65) := ⟨_, rfl⟩
  have br2 : Blk w2 w1.heap.size 65 #[.int .i64 vf, .int .i64 vf] := by rw [hw2]; exact Blk.new _ _ _
  have hL12 : Later w1 w2 := by rw [hw2]; exact later_alloc (later_refl _) _
  have Hw2 := hide hw2
  have hL02 := Later.trans hL1 hL12
  have t5' := t5 w2 hL02
  have q0' := fun W (hW : Later w1 W) => q0 W (Later.trans hL1 hW)
  have t5'' := fun W (hW : Later w1 W) => t5 W (Later.trans hL1 hW)
  have br1 := fun W (hW : Later w1 W) => br0.later (Later.trans hL1 hW)
  clear hw2 hvf x0' x1' x2' x3' t5 q0 Hwq Hw0
  go_upto_region 3 with fail
  rw [← Hw2.out]
  clear Hw2
  go_wp2_with fail
  have hn1' : (tr.length : Int) ≤ 1000000 := by omega
  have br2' := fun W (hW : Later w2 W) => br2.later hW
  have hbq : w.heap.size < w1.heap.size := by omega
  clear t5'
  go_loopw [10, 30] (fun _ v wr => ∃ j : Nat, j ≤ tr.length ∧ v = .int .i64 j ∧ Later w1 wr ∧ Blk wr w1.heap.size 65 #[.int .i64 (foldB f vf (tr.take j)).1, .int .i64 (foldB f vf (tr.take j)).2]) (fun _ v _ => tr.length - (intOf v).toNat)
  case atStart => exact ⟨0, Nat.zero_le _, rfl, hL12, by rw [List.take_zero]; exact br2⟩
  case round =>
    obtain ⟨j, hj, rfl, hL, hbk⟩ := hrel
    by_cases hlt : j < tr.length
    · obtain ⟨bb, oo, d, f0, f1, f2, f3, he, _, hd, Hp, y0, y1, y2, y3⟩ := HW.out.rd.get hlt
      obtain ⟨rfl, rfl⟩ := some_lit he
      have hLw := Later.trans hL01 hL
      have hdm := List.mem_of_getElem? hd
      have hft := foldB_take (f := f) (a := vf) hd
      have Hft := hide hft
      obtain ⟨vd, hvd⟩ : ∃ v, f d = v := ⟨_, rfl⟩
      obtain ⟨⟨r1, r2⟩, hr⟩ : ∃ r, foldB f vf (tr.take j) = r := ⟨_, rfl⟩
      rw [hr, hvd] at Hft
      rw [hr] at hbk
      dsimp only at hbk
      have hi1 : (j : Int) < tr.length := by omega
      have y0 := y0 _ hLw
      have y1 := y1 _ hLw
      have y2 := y2 _ hLw
      have y3 := y3 _ hLw
      obtain ⟨Wb, hWb⟩ : ∃ X, X = wr.alloc (.cells #[.int .i64 f0, .int .i64 f1, .int .i64 f2, .int .i64 f3] 103) := ⟨_, rfl⟩
      have hbd := box_cells wr #[.int .i64 f0, .int .i64 f1, .int .i64 f2, .int .i64 f3] 103
      have hLb : Later wr Wb := by rw [hWb]; exact later_alloc (later_refl _) _
      rw [← hWb] at hbd
      have HWb := hide hWb
      have d0' := fun W hW => hbd W hW 0
      have d1' := fun W hW => hbd W hW 1
      have d2' := fun W hW => hbd W hW 2
      have d3' := fun W hW => hbd W hW 3
      have hL1b := Later.trans hL hLb
      have hL0b := Later.trans hL1 hL1b
      have hqb := fun W (hW : Later Wb W) => q0' W (Later.trans hL1b hW)
      have hkb := fun W (hW : Later Wb W) => (hbk.later hLb).later hW
      have k0 := fun W hW => (hkb W hW).cell 0
      have k1' := fun W hW => (hkb W hW).cell 1
      simp only [List.getElem?_toArray, List.getElem?_cons_zero, List.getElem?_cons_succ] at d0' d1' d2' d3' k0 k1'
      have Hkb := hide hkb
      have Hv := hide hvd
      clear hWb hbd hft hd hr hkb hvd
      go_upto_region 6 with fail
      rw [← HWb.out]
      clear HWb y0 y1 y2 y3
      refine wp_region_ext_tail (w0 := Wb) 8 (by kernel_rfl) (by kernel_rfl) (later_refl _) ?_; simp only [List.take_succ_cons, List.take_zero, List.drop_succ_cons, List.drop_zero]; (repeat (first | go_big_quiet_step ((first | (go_at_call 71; exact calls_ext (by simp) (HF.out _ (Later.trans hL0b (by simp)) _ hdm _ _ _ _ Hp)) | (go_at_call 54; exact calls_ext (by simp) (wider_calls _ _ _ _)))) | quiet_step ((first | (go_at_call 71; exact calls_ext (by simp) (HF.out _ (Later.trans hL0b (by simp)) _ hdm _ _ _ _ Hp)) | (go_at_call 54; exact calls_ext (by simp) (wider_calls _ _ _ _)))))); refine wpQuiet_nil ?_; rintro w5 ⟨⟨_, hL5⟩, rfl⟩; (try dsimp only)
      rw [Hv.out]
      have hkw := Hkb.out w5 hL5
      have g0 := hkw.frozen 0
      have g1 := hkw.frozen 1
      have c0 := hkw.cell 0
      have c1 := hkw.cell 1
      simp only [List.getElem?_toArray, List.getElem?_cons_zero, List.getElem?_cons_succ] at c0 c1
      have hk6 := (hkw.set_ 0 (.int .i64 (min r1 vd))).set_ 1 (.int .i64 (max r2 vd))
      have hL6 := later_drop (later_drop (Later.trans hL1b hL5) (a := ⟨w1.heap.size, 0, none⟩) (u := .int .i64 (min r1 vd)) (Nat.le_refl _)) (a := ⟨w1.heap.size, 1, none⟩) (u := .int .i64 (max r2 vd)) (Nat.le_refl _)
      have Hk6 := hide hk6
      have HL6 := hide hL6
      clear hkw hk6 hL6 d0' d1' d2' d3' k0 k1' hqb
      go_wp2_with fail
      go_roundw
      case rel => exact ⟨j + 1, by omega, by go_num, HL6.out, by rw [Hft.out]; exact Hk6.out⟩
      case measure => simp [intOf]; omega
    · have hfin : tr.take j = tr := List.take_of_length_le (by omega)
      rw [hfin, Hbp.out] at hbk
      obtain ⟨⟨r1, r2⟩, hr⟩ : ∃ r, bP f tr = r := ⟨_, rfl⟩
      rw [hr] at hbk
      dsimp only at hbk
      have Hr := hide hr
      have c0 := hbk.cell 0
      have c1 := hbk.cell 1
      have hb1 := br1 wr hL
      have f0 := hb1.frozen 0
      have f1 := hb1.frozen 1
      have g0 := hb1.cell 0
      have g1 := hb1.cell 1
      simp only [List.getElem?_toArray, List.getElem?_cons_zero, List.getElem?_cons_succ] at c0 c1 g0 g1
      have hLf := later_drop (later_drop (Later.trans hL01 hL) (a := ⟨w.heap.size + 1, 0, none⟩) (u := .int .i64 r1) (Nat.le_succ _)) (a := ⟨w.heap.size + 1, 1, none⟩) (u := .int .i64 r2) (Nat.le_succ _)
      have HLf := hide hLf
      clear hr hfin hbk hb1 br0 br1 br2 br2' hLf
      go_wp2_with fail
      refine bodyPost_ret (v := .agg #[.int .i64 r1, .int .i64 r2]) ?_ rfl ⟨by rw [Hr.out], ?_⟩
      · simp [results, Try.results34, go_sem, *]
      · exact HLf.out
set_option maxRecDepth 100000 in
set_option maxHeartbeats 1000000 in
theorem bounds_hours_calls (f : List Int → Int) {x : Int} (w : World) (hw : WK w bw c A1 n1 k1 A2 n2 k2 A3 n3 k3 At nt kt tr bm) (hne : tr ≠ []) (hnt : nt ≤ 1000000)
    (Hfn : ∀ W, Later w W → ∀ d ∈ tr, ∀ e0 e1 e2 e3, Hid (pad4 d = [e0, e1, e2, e3]) → Calls Try.prog 33 #[.pointer (some ⟨bw, 0, none⟩), .agg #[.int .i64 e0, .int .i64 e1, .int .i64 e2, .int .i64 e3], .int .i64 x] W fun e w' => e = .returned (.int .i64 (f d)) ∧ Later W w') :
    Calls Try.prog 34 #[.agg #[.func (.func 33) #[] #[]], .pointer (some ⟨bw, 0, none⟩), .int .i64 x] w fun e w' =>
      e = .returned (.agg #[.int .i64 (bP f tr).1, .int .i64 (bP f tr).2]) ∧ Later w w' := by
  have hl := hw.rd.len
  have hl := hw.rd.len
  subst hl
  have h0 : 0 < tr.length := List.length_pos_iff.2 hne
  have h0i : (0 : Int) < tr.length := by omega
  obtain ⟨wq, hwq⟩ : ∃ X, X = w.alloc (.cells #[.func (.func 33) #[] #[]] 97) := ⟨_, rfl⟩
  have bq0 : Blk wq w.heap.size 97 #[.func (.func 33) #[] #[]] := by rw [hwq]; exact Blk.new _ _ _
  have hsq : wq.heap.size = w.heap.size + 1 := by rw [hwq]; simp
  have hLq : Later w wq := by rw [hwq]; exact later_alloc (later_refl _) _
  obtain ⟨w0, hw0⟩ : ∃ X, X = wq.alloc (.cells #[.int .i64 0, .int .i64 0] 65) := ⟨_, rfl⟩
  have br0 : Blk w0 (w.heap.size + 1) 65 #[.int .i64 0, .int .i64 0] := by
    have := Blk.new wq 65 #[.int .i64 0, .int .i64 0]
    rw [hsq] at this; rw [hw0]; exact this
  have hLq0 : Later wq w0 := by rw [hw0]; exact later_alloc (later_refl _) _
  have hs0 : w0.heap.size = w.heap.size + 2 := by rw [hw0]; simp [hsq]
  have bq := bq0.later hLq0
  have hL0 := Later.trans hLq hLq0
  obtain ⟨b0, o0, d0, e0, e1, e2, e3, rfl, hb0, hd0, Hp0, x0, x1, x2, x3⟩ := hw.rd.get h0
  have hd0m := List.mem_of_getElem? hd0
  have x0' := fun W (hW : Later w0 W) => x0 W (Later.trans hL0 hW)
  have x1' := fun W (hW : Later w0 W) => x1 W (Later.trans hL0 hW)
  have x2' := fun W (hW : Later w0 W) => x2 W (Later.trans hL0 hW)
  have x3' := fun W (hW : Later w0 W) => x3 W (Later.trans hL0 hW)
  simp only [Nat.zero_mul, Nat.add_zero] at x0' x1' x2' x3'
  have hcw := fun W (hW : Later w0 W) i => (hw.later (Later.trans hL0 hW)).cells i
  have t5 := fun W (hW : Later w0 W) => hcw W hW 5
  have q0 := fun W (hW : Later w0 W) => (bq.later hW).cell 0
  simp only [List.getElem?_toArray, List.getElem?_cons_zero, List.getElem?_cons_succ] at t5 q0
  have Hwq := hide hwq
  have Hw0 := hide hw0
  have HF := hide (fun (W : World) (hW : Later w0 W) => Hfn W (Later.trans hL0 hW))
  have Hbp := hide (foldB_bP (f := f) hd0)
  have HW := hide hw
  clear hwq hw0 bq0 bq hcw x0 x1 x2 x3 hd0 hLq0 hLq
  go_enter Try.func34, Try.ntmps34
  go_upto_region 1 with fail
  rw [← Hwq.out, ← Hw0.out]
  refine wp_region_ext (w0 := w0) (by kernel_rfl) (by kernel_rfl) (later_refl _) ?_; (repeat (first | go_big_quiet_step (((exact calls_ext (by simp) (HF.out _ (by simp) _ hd0m _ _ _ _ Hp0)))) | quiet_step (((exact calls_ext (by simp) (HF.out _ (by simp) _ hd0m _ _ _ _ Hp0)))))); refine wpQuiet_nil ?_; rintro w1 ⟨⟨_, hL1⟩, rfl⟩; (try dsimp only)
  have hL01 := Later.trans hL0 hL1
  have hs1 := hL1.size
  obtain ⟨vf, hvf⟩ : ∃ v, f d0 = v := ⟨_, rfl⟩
  rw [hvf] at Hbp ⊢
  obtain ⟨w2, hw2⟩ : ∃ X, X = w1.alloc (.cells #[.int .i64 vf, .int .i64 vf] 65) := ⟨_, rfl⟩
  have br2 : Blk w2 w1.heap.size 65 #[.int .i64 vf, .int .i64 vf] := by rw [hw2]; exact Blk.new _ _ _
  have hL12 : Later w1 w2 := by rw [hw2]; exact later_alloc (later_refl _) _
  have Hw2 := hide hw2
  have hL02 := Later.trans hL1 hL12
  have t5' := t5 w2 hL02
  have q0' := fun W (hW : Later w1 W) => q0 W (Later.trans hL1 hW)
  have t5'' := fun W (hW : Later w1 W) => t5 W (Later.trans hL1 hW)
  have br1 := fun W (hW : Later w1 W) => br0.later (Later.trans hL1 hW)
  clear hw2 hvf x0' x1' x2' x3' t5 q0 Hwq Hw0
  go_upto_region 3 with fail
  rw [← Hw2.out]
  clear Hw2
  go_wp2_with fail
  have hn1' : (tr.length : Int) ≤ 1000000 := by omega
  have br2' := fun W (hW : Later w2 W) => br2.later hW
  have hbq : w.heap.size < w1.heap.size := by omega
  clear t5'
  go_loopw [10, 30] (fun _ v wr => ∃ j : Nat, j ≤ tr.length ∧ v = .int .i64 j ∧ Later w1 wr ∧ Blk wr w1.heap.size 65 #[.int .i64 (foldB f vf (tr.take j)).1, .int .i64 (foldB f vf (tr.take j)).2]) (fun _ v _ => tr.length - (intOf v).toNat)
  case atStart => exact ⟨0, Nat.zero_le _, rfl, hL12, by rw [List.take_zero]; exact br2⟩
  case round =>
    obtain ⟨j, hj, rfl, hL, hbk⟩ := hrel
    by_cases hlt : j < tr.length
    · obtain ⟨bb, oo, d, f0, f1, f2, f3, he, _, hd, Hp, y0, y1, y2, y3⟩ := HW.out.rd.get hlt
      obtain ⟨rfl, rfl⟩ := some_lit he
      have hLw := Later.trans hL01 hL
      have hdm := List.mem_of_getElem? hd
      have hft := foldB_take (f := f) (a := vf) hd
      have Hft := hide hft
      obtain ⟨vd, hvd⟩ : ∃ v, f d = v := ⟨_, rfl⟩
      obtain ⟨⟨r1, r2⟩, hr⟩ : ∃ r, foldB f vf (tr.take j) = r := ⟨_, rfl⟩
      rw [hr, hvd] at Hft
      rw [hr] at hbk
      dsimp only at hbk
      have hi1 : (j : Int) < tr.length := by omega
      have y0 := y0 _ hLw
      have y1 := y1 _ hLw
      have y2 := y2 _ hLw
      have y3 := y3 _ hLw
      obtain ⟨Wb, hWb⟩ : ∃ X, X = wr.alloc (.cells #[.int .i64 f0, .int .i64 f1, .int .i64 f2, .int .i64 f3] 103) := ⟨_, rfl⟩
      have hbd := box_cells wr #[.int .i64 f0, .int .i64 f1, .int .i64 f2, .int .i64 f3] 103
      have hLb : Later wr Wb := by rw [hWb]; exact later_alloc (later_refl _) _
      rw [← hWb] at hbd
      have HWb := hide hWb
      have d0' := fun W hW => hbd W hW 0
      have d1' := fun W hW => hbd W hW 1
      have d2' := fun W hW => hbd W hW 2
      have d3' := fun W hW => hbd W hW 3
      have hL1b := Later.trans hL hLb
      have hL0b := Later.trans hL1 hL1b
      have hqb := fun W (hW : Later Wb W) => q0' W (Later.trans hL1b hW)
      have hkb := fun W (hW : Later Wb W) => (hbk.later hLb).later hW
      have k0 := fun W hW => (hkb W hW).cell 0
      have k1' := fun W hW => (hkb W hW).cell 1
      simp only [List.getElem?_toArray, List.getElem?_cons_zero, List.getElem?_cons_succ] at d0' d1' d2' d3' k0 k1'
      have Hkb := hide hkb
      have Hv := hide hvd
      clear hWb hbd hft hd hr hkb hvd
      go_upto_region 6 with fail
      rw [← HWb.out]
      clear HWb y0 y1 y2 y3
      refine wp_region_ext_tail (w0 := Wb) 8 (by kernel_rfl) (by kernel_rfl) (later_refl _) ?_; simp only [List.take_succ_cons, List.take_zero, List.drop_succ_cons, List.drop_zero]; (repeat (first | go_big_quiet_step ((first | (go_at_call 33; exact calls_ext (by simp) (HF.out _ (Later.trans hL0b (by simp)) _ hdm _ _ _ _ Hp)) | (go_at_call 54; exact calls_ext (by simp) (wider_calls _ _ _ _)))) | quiet_step ((first | (go_at_call 33; exact calls_ext (by simp) (HF.out _ (Later.trans hL0b (by simp)) _ hdm _ _ _ _ Hp)) | (go_at_call 54; exact calls_ext (by simp) (wider_calls _ _ _ _)))))); refine wpQuiet_nil ?_; rintro w5 ⟨⟨_, hL5⟩, rfl⟩; (try dsimp only)
      rw [Hv.out]
      have hkw := Hkb.out w5 hL5
      have g0 := hkw.frozen 0
      have g1 := hkw.frozen 1
      have c0 := hkw.cell 0
      have c1 := hkw.cell 1
      simp only [List.getElem?_toArray, List.getElem?_cons_zero, List.getElem?_cons_succ] at c0 c1
      have hk6 := (hkw.set_ 0 (.int .i64 (min r1 vd))).set_ 1 (.int .i64 (max r2 vd))
      have hL6 := later_drop (later_drop (Later.trans hL1b hL5) (a := ⟨w1.heap.size, 0, none⟩) (u := .int .i64 (min r1 vd)) (Nat.le_refl _)) (a := ⟨w1.heap.size, 1, none⟩) (u := .int .i64 (max r2 vd)) (Nat.le_refl _)
      have Hk6 := hide hk6
      have HL6 := hide hL6
      clear hkw hk6 hL6 d0' d1' d2' d3' k0 k1' hqb
      go_wp2_with fail
      go_roundw
      case rel => exact ⟨j + 1, by omega, by go_num, HL6.out, by rw [Hft.out]; exact Hk6.out⟩
      case measure => simp [intOf]; omega
    · have hfin : tr.take j = tr := List.take_of_length_le (by omega)
      rw [hfin, Hbp.out] at hbk
      obtain ⟨⟨r1, r2⟩, hr⟩ : ∃ r, bP f tr = r := ⟨_, rfl⟩
      rw [hr] at hbk
      dsimp only at hbk
      have Hr := hide hr
      have c0 := hbk.cell 0
      have c1 := hbk.cell 1
      have hb1 := br1 wr hL
      have f0 := hb1.frozen 0
      have f1 := hb1.frozen 1
      have g0 := hb1.cell 0
      have g1 := hb1.cell 1
      simp only [List.getElem?_toArray, List.getElem?_cons_zero, List.getElem?_cons_succ] at c0 c1 g0 g1
      have hLf := later_drop (later_drop (Later.trans hL01 hL) (a := ⟨w.heap.size + 1, 0, none⟩) (u := .int .i64 r1) (Nat.le_succ _)) (a := ⟨w.heap.size + 1, 1, none⟩) (u := .int .i64 r2) (Nat.le_succ _)
      have HLf := hide hLf
      clear hr hfin hbk hb1 br0 br1 br2 br2' hLf
      go_wp2_with fail
      refine bodyPost_ret (v := .agg #[.int .i64 r1, .int .i64 r2]) ?_ rfl ⟨by rw [Hr.out], ?_⟩
      · simp [results, Try.results34, go_sem, *]
      · exact HLf.out
set_option maxRecDepth 100000 in
set_option maxHeartbeats 1000000 in
theorem bounds_from_calls (f : List Int → Int) {x : Int} (w : World) (hw : WK w bw c A1 n1 k1 A2 n2 k2 A3 n3 k3 At nt kt tr bm) (hne : tr ≠ []) (hnt : nt ≤ 1000000)
    (Hfn : ∀ W, Later w W → ∀ d ∈ tr, ∀ e0 e1 e2 e3, Hid (pad4 d = [e0, e1, e2, e3]) → Calls Try.prog 38 #[.pointer (some ⟨bw, 0, none⟩), .agg #[.int .i64 e0, .int .i64 e1, .int .i64 e2, .int .i64 e3], .int .i64 x] W fun e w' => e = .returned (.int .i64 (f d)) ∧ Later W w') :
    Calls Try.prog 34 #[.agg #[.func (.func 38) #[] #[]], .pointer (some ⟨bw, 0, none⟩), .int .i64 x] w fun e w' =>
      e = .returned (.agg #[.int .i64 (bP f tr).1, .int .i64 (bP f tr).2]) ∧ Later w w' := by
  have hl := hw.rd.len
  have hl := hw.rd.len
  subst hl
  have h0 : 0 < tr.length := List.length_pos_iff.2 hne
  have h0i : (0 : Int) < tr.length := by omega
  obtain ⟨wq, hwq⟩ : ∃ X, X = w.alloc (.cells #[.func (.func 38) #[] #[]] 97) := ⟨_, rfl⟩
  have bq0 : Blk wq w.heap.size 97 #[.func (.func 38) #[] #[]] := by rw [hwq]; exact Blk.new _ _ _
  have hsq : wq.heap.size = w.heap.size + 1 := by rw [hwq]; simp
  have hLq : Later w wq := by rw [hwq]; exact later_alloc (later_refl _) _
  obtain ⟨w0, hw0⟩ : ∃ X, X = wq.alloc (.cells #[.int .i64 0, .int .i64 0] 65) := ⟨_, rfl⟩
  have br0 : Blk w0 (w.heap.size + 1) 65 #[.int .i64 0, .int .i64 0] := by
    have := Blk.new wq 65 #[.int .i64 0, .int .i64 0]
    rw [hsq] at this; rw [hw0]; exact this
  have hLq0 : Later wq w0 := by rw [hw0]; exact later_alloc (later_refl _) _
  have hs0 : w0.heap.size = w.heap.size + 2 := by rw [hw0]; simp [hsq]
  have bq := bq0.later hLq0
  have hL0 := Later.trans hLq hLq0
  obtain ⟨b0, o0, d0, e0, e1, e2, e3, rfl, hb0, hd0, Hp0, x0, x1, x2, x3⟩ := hw.rd.get h0
  have hd0m := List.mem_of_getElem? hd0
  have x0' := fun W (hW : Later w0 W) => x0 W (Later.trans hL0 hW)
  have x1' := fun W (hW : Later w0 W) => x1 W (Later.trans hL0 hW)
  have x2' := fun W (hW : Later w0 W) => x2 W (Later.trans hL0 hW)
  have x3' := fun W (hW : Later w0 W) => x3 W (Later.trans hL0 hW)
  simp only [Nat.zero_mul, Nat.add_zero] at x0' x1' x2' x3'
  have hcw := fun W (hW : Later w0 W) i => (hw.later (Later.trans hL0 hW)).cells i
  have t5 := fun W (hW : Later w0 W) => hcw W hW 5
  have q0 := fun W (hW : Later w0 W) => (bq.later hW).cell 0
  simp only [List.getElem?_toArray, List.getElem?_cons_zero, List.getElem?_cons_succ] at t5 q0
  have Hwq := hide hwq
  have Hw0 := hide hw0
  have HF := hide (fun (W : World) (hW : Later w0 W) => Hfn W (Later.trans hL0 hW))
  have Hbp := hide (foldB_bP (f := f) hd0)
  have HW := hide hw
  clear hwq hw0 bq0 bq hcw x0 x1 x2 x3 hd0 hLq0 hLq
  go_enter Try.func34, Try.ntmps34
  go_upto_region 1 with fail
  rw [← Hwq.out, ← Hw0.out]
  refine wp_region_ext (w0 := w0) (by kernel_rfl) (by kernel_rfl) (later_refl _) ?_; (repeat (first | go_big_quiet_step (((exact calls_ext (by simp) (HF.out _ (by simp) _ hd0m _ _ _ _ Hp0)))) | quiet_step (((exact calls_ext (by simp) (HF.out _ (by simp) _ hd0m _ _ _ _ Hp0)))))); refine wpQuiet_nil ?_; rintro w1 ⟨⟨_, hL1⟩, rfl⟩; (try dsimp only)
  have hL01 := Later.trans hL0 hL1
  have hs1 := hL1.size
  obtain ⟨vf, hvf⟩ : ∃ v, f d0 = v := ⟨_, rfl⟩
  rw [hvf] at Hbp ⊢
  obtain ⟨w2, hw2⟩ : ∃ X, X = w1.alloc (.cells #[.int .i64 vf, .int .i64 vf] 65) := ⟨_, rfl⟩
  have br2 : Blk w2 w1.heap.size 65 #[.int .i64 vf, .int .i64 vf] := by rw [hw2]; exact Blk.new _ _ _
  have hL12 : Later w1 w2 := by rw [hw2]; exact later_alloc (later_refl _) _
  have Hw2 := hide hw2
  have hL02 := Later.trans hL1 hL12
  have t5' := t5 w2 hL02
  have q0' := fun W (hW : Later w1 W) => q0 W (Later.trans hL1 hW)
  have t5'' := fun W (hW : Later w1 W) => t5 W (Later.trans hL1 hW)
  have br1 := fun W (hW : Later w1 W) => br0.later (Later.trans hL1 hW)
  clear hw2 hvf x0' x1' x2' x3' t5 q0 Hwq Hw0
  go_upto_region 3 with fail
  rw [← Hw2.out]
  clear Hw2
  go_wp2_with fail
  have hn1' : (tr.length : Int) ≤ 1000000 := by omega
  have br2' := fun W (hW : Later w2 W) => br2.later hW
  have hbq : w.heap.size < w1.heap.size := by omega
  clear t5'
  go_loopw [10, 30] (fun _ v wr => ∃ j : Nat, j ≤ tr.length ∧ v = .int .i64 j ∧ Later w1 wr ∧ Blk wr w1.heap.size 65 #[.int .i64 (foldB f vf (tr.take j)).1, .int .i64 (foldB f vf (tr.take j)).2]) (fun _ v _ => tr.length - (intOf v).toNat)
  case atStart => exact ⟨0, Nat.zero_le _, rfl, hL12, by rw [List.take_zero]; exact br2⟩
  case round =>
    obtain ⟨j, hj, rfl, hL, hbk⟩ := hrel
    by_cases hlt : j < tr.length
    · obtain ⟨bb, oo, d, f0, f1, f2, f3, he, _, hd, Hp, y0, y1, y2, y3⟩ := HW.out.rd.get hlt
      obtain ⟨rfl, rfl⟩ := some_lit he
      have hLw := Later.trans hL01 hL
      have hdm := List.mem_of_getElem? hd
      have hft := foldB_take (f := f) (a := vf) hd
      have Hft := hide hft
      obtain ⟨vd, hvd⟩ : ∃ v, f d = v := ⟨_, rfl⟩
      obtain ⟨⟨r1, r2⟩, hr⟩ : ∃ r, foldB f vf (tr.take j) = r := ⟨_, rfl⟩
      rw [hr, hvd] at Hft
      rw [hr] at hbk
      dsimp only at hbk
      have hi1 : (j : Int) < tr.length := by omega
      have y0 := y0 _ hLw
      have y1 := y1 _ hLw
      have y2 := y2 _ hLw
      have y3 := y3 _ hLw
      obtain ⟨Wb, hWb⟩ : ∃ X, X = wr.alloc (.cells #[.int .i64 f0, .int .i64 f1, .int .i64 f2, .int .i64 f3] 103) := ⟨_, rfl⟩
      have hbd := box_cells wr #[.int .i64 f0, .int .i64 f1, .int .i64 f2, .int .i64 f3] 103
      have hLb : Later wr Wb := by rw [hWb]; exact later_alloc (later_refl _) _
      rw [← hWb] at hbd
      have HWb := hide hWb
      have d0' := fun W hW => hbd W hW 0
      have d1' := fun W hW => hbd W hW 1
      have d2' := fun W hW => hbd W hW 2
      have d3' := fun W hW => hbd W hW 3
      have hL1b := Later.trans hL hLb
      have hL0b := Later.trans hL1 hL1b
      have hqb := fun W (hW : Later Wb W) => q0' W (Later.trans hL1b hW)
      have hkb := fun W (hW : Later Wb W) => (hbk.later hLb).later hW
      have k0 := fun W hW => (hkb W hW).cell 0
      have k1' := fun W hW => (hkb W hW).cell 1
      simp only [List.getElem?_toArray, List.getElem?_cons_zero, List.getElem?_cons_succ] at d0' d1' d2' d3' k0 k1'
      have Hkb := hide hkb
      have Hv := hide hvd
      clear hWb hbd hft hd hr hkb hvd
      go_upto_region 6 with fail
      rw [← HWb.out]
      clear HWb y0 y1 y2 y3
      refine wp_region_ext_tail (w0 := Wb) 8 (by kernel_rfl) (by kernel_rfl) (later_refl _) ?_; simp only [List.take_succ_cons, List.take_zero, List.drop_succ_cons, List.drop_zero]; (repeat (first | go_big_quiet_step ((first | (go_at_call 38; exact calls_ext (by simp) (HF.out _ (Later.trans hL0b (by simp)) _ hdm _ _ _ _ Hp)) | (go_at_call 54; exact calls_ext (by simp) (wider_calls _ _ _ _)))) | quiet_step ((first | (go_at_call 38; exact calls_ext (by simp) (HF.out _ (Later.trans hL0b (by simp)) _ hdm _ _ _ _ Hp)) | (go_at_call 54; exact calls_ext (by simp) (wider_calls _ _ _ _)))))); refine wpQuiet_nil ?_; rintro w5 ⟨⟨_, hL5⟩, rfl⟩; (try dsimp only)
      rw [Hv.out]
      have hkw := Hkb.out w5 hL5
      have g0 := hkw.frozen 0
      have g1 := hkw.frozen 1
      have c0 := hkw.cell 0
      have c1 := hkw.cell 1
      simp only [List.getElem?_toArray, List.getElem?_cons_zero, List.getElem?_cons_succ] at c0 c1
      have hk6 := (hkw.set_ 0 (.int .i64 (min r1 vd))).set_ 1 (.int .i64 (max r2 vd))
      have hL6 := later_drop (later_drop (Later.trans hL1b hL5) (a := ⟨w1.heap.size, 0, none⟩) (u := .int .i64 (min r1 vd)) (Nat.le_refl _)) (a := ⟨w1.heap.size, 1, none⟩) (u := .int .i64 (max r2 vd)) (Nat.le_refl _)
      have Hk6 := hide hk6
      have HL6 := hide hL6
      clear hkw hk6 hL6 d0' d1' d2' d3' k0 k1' hqb
      go_wp2_with fail
      go_roundw
      case rel => exact ⟨j + 1, by omega, by go_num, HL6.out, by rw [Hft.out]; exact Hk6.out⟩
      case measure => simp [intOf]; omega
    · have hfin : tr.take j = tr := List.take_of_length_le (by omega)
      rw [hfin, Hbp.out] at hbk
      obtain ⟨⟨r1, r2⟩, hr⟩ : ∃ r, bP f tr = r := ⟨_, rfl⟩
      rw [hr] at hbk
      dsimp only at hbk
      have Hr := hide hr
      have c0 := hbk.cell 0
      have c1 := hbk.cell 1
      have hb1 := br1 wr hL
      have f0 := hb1.frozen 0
      have f1 := hb1.frozen 1
      have g0 := hb1.cell 0
      have g1 := hb1.cell 1
      simp only [List.getElem?_toArray, List.getElem?_cons_zero, List.getElem?_cons_succ] at c0 c1 g0 g1
      have hLf := later_drop (later_drop (Later.trans hL01 hL) (a := ⟨w.heap.size + 1, 0, none⟩) (u := .int .i64 r1) (Nat.le_succ _)) (a := ⟨w.heap.size + 1, 1, none⟩) (u := .int .i64 r2) (Nat.le_succ _)
      have HLf := hide hLf
      clear hr hfin hbk hb1 br0 br1 br2 br2' hLf
      go_wp2_with fail
      refine bodyPost_ret (v := .agg #[.int .i64 r1, .int .i64 r2]) ?_ rfl ⟨by rw [Hr.out], ?_⟩
      · simp [results, Try.results34, go_sem, *]
      · exact HLf.out
end
end Go.Proofs.Ytcffgjhmpgdfpaa

/- The program's Clocks, Hours: walks. -/
namespace Go.Proofs.Ytcffgjhmpgdfpaa
open Go Go.RowKit
attribute [local go_sem] later_alloc2 later_alloc3 later_alloc4

theorem asked_err {A1 A2 A3 : Option Addr} {n1 k1 n2 k2 n3 k3 : Nat} {c : Hou} {due q : Int} (w : World) (hc : CV w c A1 n1 A2 n2 A3 n3) (hn1 : n1 ≤ 1000) (hn2 : n2 ≤ 1000) (hn3 : n3 ≤ 1000) (he : askedErr c due = q) (hq : q ≠ 0) :
    Calls Try.prog 32 #[(.agg #[.int .i64 c.hour, .int .i64 c.grace, .slice A1 n1 k1, .slice A2 n2 k2, .slice A3 n3 k3]), .int .i64 due] w fun e w' => e = .returned (.tuple #[.pointer none, .int .i64 q]) ∧ Later w w' := by
  subst he
  by_cases hf : fault c = 0
  · by_cases hd : due = 0
    · subst hd
      have ht : truthsP c = [] := Classical.byContradiction fun h => hq (askedErr_ok hf h)
      rw [askedErr_none hf ht]
      refine (asked_fine w hc hn1 hn2 hn3 hf).mono ?_
      rintro e w' (⟨_, he, hL⟩ | ⟨h, _⟩)
      · exact ⟨he, hL⟩
      · exact absurd ht h
    · rw [askedErr_due hf hd]
      exact asked_due w hc hn1 hn2 hn3 hf hd
  · rw [askedErr_bad hf]
    exact asked_bad w hc hn1 hn2 hn3 hf
theorem asked_ok {A1 A2 A3 : Option Addr} {n1 k1 n2 k2 n3 k3 : Nat} {c : Hou} {due : Int} (w : World) (hc : CV w c A1 n1 A2 n2 A3 n3) (hn1 : n1 ≤ 1000) (hn2 : n2 ≤ 1000) (hn3 : n3 ≤ 1000) (he : askedErr c due = 0) :
    Calls Try.prog 32 #[(.agg #[.int .i64 c.hour, .int .i64 c.grace, .slice A1 n1 k1, .slice A2 n2 k2, .slice A3 n3 k3]), .int .i64 due] w fun e w' => ∃ bw bm At kt, e = .returned (.tuple #[.pointer (some ⟨bw, 0, none⟩), .int .i64 0]) ∧ Later w w' ∧
      WK w' bw c A1 n1 k1 A2 n2 k2 A3 n3 k3 At (truthsP c).length kt (truthsP c) bm := by
  obtain ⟨hf, hd, ht⟩ := askedErr_zero he
  subst hd
  refine (asked_fine w hc hn1 hn2 hn3 hf).mono ?_
  rintro e w' (⟨h, _⟩ | ⟨_, h⟩)
  · exact absurd h ht
  · exact h
theorem truthsP_len {c : Hou} (hf : fault c = 0) : (truthsP c).length ≤ 2000 := by
  have h1 := (truthsP_perm hf).length_eq
  have h2 : (truths c).length ≤ (allErr c).length := List.length_filter_le _ _
  have h3 : (allErr c).length = (many c).toNat := by simp [allErr]
  have h4 := many_le hf
  omega
theorem range_info : (Try.prog.info? 65).map (fun i => (i.zero, i.size, i.bytes)) = some (some (.agg #[.int .i64 0, .int .i64 0]), 2, 16) := by kernel_rfl
theorem range_map_succ {α : Type} (f : Nat → α) (j : Nat) : (List.range (j + 1)).map f = (List.range j).map f ++ [f j] := by simp [List.range_succ]
theorem pairsV_one (l : List (Int × Int)) (r : Int × Int) : pairsV (l ++ [r]) = pairsV l ++ [.int .i64 r.1, .int .i64 r.2] := by simp [pairsV, pairC]
theorem calls_val {P : Program} {f : FuncId} {args : Array Value} {w : World} {v u : Int} (h : Calls P f args w fun e w' => e = .returned (.int .i64 v) ∧ Later w w') (e : v = u) : Calls P f args w fun e w' => e = .returned (.int .i64 u) ∧ Later w w' := by
  subst e; exact h
/-- a list of ranges, and an error -/
def PairsPost (l : List (Int × Int)) (q : Int) (w : World) (e : Ending) (w' : World) : Prop :=
  ∃ A n k, e = .returned (.tuple #[.slice A n k, .int .i64 q]) ∧ Later w w' ∧ RP w' A n l
set_option maxRecDepth 100000 in
set_option maxHeartbeats 1000000 in
theorem ClocksP_calls {A1 A2 A3 : Option Addr} {n1 k1 n2 k2 n3 k3 : Nat} {c : Hou} (w : World) (hc : CV w c A1 n1 A2 n2 A3 n3) (hn1 : n1 ≤ 1000) (hn2 : n2 ≤ 1000) (hn3 : n3 ≤ 1000) :
    Calls Try.prog 56 #[(.agg #[.int .i64 c.hour, .int .i64 c.grace, .slice A1 n1 k1, .slice A2 n2 k2, .slice A3 n3 k3])] w (PairsPost (clocksOut c) (askedErr c 0) w) := by
  obtain ⟨w0, hw0⟩ : ∃ W, W = (w.alloc (.cells #[.int .i64 c.hour, .int .i64 c.grace, .slice A1 n1 k1, .slice A2 n2 k2, .slice A3 n3 k3] 46)) := ⟨_, rfl⟩; have hbox : ∀ W, Later w0 W → ∀ i, W.cell? ⟨w.heap.size, i, none⟩ = #[.int .i64 c.hour, .int .i64 c.grace, .slice A1 n1 k1, .slice A2 n2 k2, .slice A3 n3 k3][i]? := (by rw [hw0]; exact box_cells w #[.int .i64 c.hour, .int .i64 c.grace, .slice A1 n1 k1, .slice A2 n2 k2, .slice A3 n3 k3] 46); have hL0 : Later w w0 := (by rw [hw0]; simp); have hc0 := hc.later hL0; have Hw0 := hide hw0; clear hw0
  by_cases he : askedErr c 0 = 0
  · obtain ⟨hf, _, htn⟩ := askedErr_zero he
    have ok := okH_of_fault hf
    have htl := truthsP_len hf
    have herr := truthsP_isErr ok
    have hnl := hc.ck.len
    have hcl1 := hc.ck.len
    have hl14 := ok.n1
    have hn6 : n1 ≤ 6 := by have := ok.n1; have := ok.n2; omega
    have Hso : Hid (clocksOut c = (List.range n1).map fun i => bP (offF i) (truthsP c)) := by show _ = _; unfold clocksOut; rw [if_pos he, hnl]
    have hn14 : n1 ≤ 4 := by omega
    rw [he]
    have Hhe := hide he
    clear hf he hnl hcl1 hl14
    go_enter Try.func56, Try.ntmps56
    go_wp2_with fail
    rw [← Hw0.out]; clear Hw0
    refine (asked_ok w0 hc0 hn1 hn2 hn3 Hhe.out).mono ?_
    rintro e w2 ⟨bw, bm, At, kt, rfl, hL2, hWK⟩
    have Hbf := hide (fun (W : World) (h : Later w2 W) (i : Nat) (hi : i < n1) => bounds_off_calls (offF i) (x := (i : Int)) W (hWK.later h) htn (by omega) (fun W' hW' d hd e0 e1 e2 e3 hp => workOff_calls W' hp.out (by omega)))
    have b2 := fun W (h : Later w2 W) => hbox W (Later.trans hL2 h) 2
    simp only [List.getElem?_toArray, List.getElem?_cons_zero, List.getElem?_cons_succ] at b2
    go_wp2_with fail
    go_loopw [19, 6, 7] (fun i v _ wr => ∃ j : Nat, j ≤ n1 ∧ i = .int .i64 j ∧ wr.ownsRow w2.heap.size 65 2 v j (pairsV ((List.range j).map fun i => bP (offF i) (truthsP c))) ∧ Later w2 wr) (fun i _ _ _ => n1 - (intOf i).toNat)
    case atStart => exact ⟨0, Nat.zero_le _, rfl, World.ownsRow_nil _ _ _ _, later_refl _⟩
    case round =>
      obtain ⟨j, hj, rfl, hown, hL⟩ := hrel
      by_cases hlt : j < n1
      · have hi1 : (j : Int) < n1 := by omega
        have hbc := Hbf.out wr hL j hlt
        have hsu : ((List.range (j + 1)).map fun i => bP (offF i) (truthsP c)) = ((List.range j).map fun i => bP (offF i) (truthsP c)) ++ [bP (offF j) (truthsP c)] := range_map_succ _ j
        obtain ⟨⟨g1, g2⟩, hg⟩ : ∃ q, bP (offF j) (truthsP c) = q := ⟨_, rfl⟩
        rw [hg] at hbc hsu
        generalize ((List.range j).map fun i => bP (offF i) (truthsP c)) = ls at *
        have Hbc := hide hbc
        have Hsu := hide hsu
        clear hbc hsu hg
        go_wp2_with fail
        refine Hbc.out.mono ?_
        rintro e w3 ⟨rfl, hL3⟩
        have hown3 := own_later2 hown hL3
        have hL23 := Later.trans hL hL3
        have hj6 : j ≤ 1000000 := by omega
        go_wp2_with (at_builtin; go_must (refine own_append (w0 := w2) (W := w3) (te := 65) rfl _ _ 42 rfl 65 (.agg #[.int .i64 0, .int .i64 0]) 2 16 Try.underlying42 range_info rfl (by omega) u6 j (pairsV ls) rfl hL23 hown3 [.int .i64 g1, .int .i64 g2] rfl rfl ?_ hj6 (by omega) ?_; (simp [Value.oneCell']); intro v' w4 hap; have hown4 := hap.own; have hL4 := hap.later; clear hap))
        go_roundw
        case rel =>
          refine ⟨j + 1, by omega, by go_num, ?_, hL4⟩
          rw [Hsu.out, pairsV_one]; exact hown4
        case measure => simp [intOf]; omega
      · have hj1 : j = n1 := by omega
        subst hj1
        obtain ⟨A, k, rfl, hrd⟩ := own_slice hown
        go_wp2_with fail
        refine bodyPost_ret (v := .tuple #[.slice A j k, .int .i64 0]) ?_ rfl ⟨A, j, k, rfl, Later.trans hL0 (Later.trans hL2 hL), by rw [Hso.out]; exact hrd⟩
        simp [results, Try.results56, go_sem]
  · have Hso : Hid (clocksOut c = []) := by show _ = _; unfold clocksOut; rw [if_neg he]
    obtain ⟨q, hq⟩ : ∃ q, askedErr c 0 = q := ⟨_, rfl⟩
    rw [hq] at he ⊢
    have hqb : (q != 0) = true := by simpa using he
    have hqb2 : (q == 0) = false := by simpa using he
    have Hq := hide hq
    clear hq
    go_enter Try.func56, Try.ntmps56
    go_wp2_with fail
    rw [← Hw0.out]; clear Hw0
    refine (asked_err w0 hc0 hn1 hn2 hn3 Hq.out he).mono ?_
    rintro e w1 ⟨rfl, hL1⟩
    go_wp2_with fail
    refine bodyPost_ret (v := .tuple #[.slice none 0 0, .int .i64 q]) ?_ rfl ⟨none, 0, 0, rfl, Later.trans hL0 hL1, by rw [Hso.out]; exact RP.nil⟩
    simp [results, Try.results56, go_sem]
set_option maxRecDepth 100000 in
set_option maxHeartbeats 1000000 in
theorem HoursP_calls {A1 A2 A3 : Option Addr} {n1 k1 n2 k2 n3 k3 : Nat} {c : Hou} (w : World) (hc : CV w c A1 n1 A2 n2 A3 n3) (hn1 : n1 ≤ 1000) (hn2 : n2 ≤ 1000) (hn3 : n3 ≤ 1000) :
    Calls Try.prog 14 #[(.agg #[.int .i64 c.hour, .int .i64 c.grace, .slice A1 n1 k1, .slice A2 n2 k2, .slice A3 n3 k3])] w (PairsPost (hoursOut c) (askedErr c 0) w) := by
  obtain ⟨w0, hw0⟩ : ∃ W, W = (w.alloc (.cells #[.int .i64 c.hour, .int .i64 c.grace, .slice A1 n1 k1, .slice A2 n2 k2, .slice A3 n3 k3] 46)) := ⟨_, rfl⟩; have hbox : ∀ W, Later w0 W → ∀ i, W.cell? ⟨w.heap.size, i, none⟩ = #[.int .i64 c.hour, .int .i64 c.grace, .slice A1 n1 k1, .slice A2 n2 k2, .slice A3 n3 k3][i]? := (by rw [hw0]; exact box_cells w #[.int .i64 c.hour, .int .i64 c.grace, .slice A1 n1 k1, .slice A2 n2 k2, .slice A3 n3 k3] 46); have hL0 : Later w w0 := (by rw [hw0]; simp); have hc0 := hc.later hL0; have Hw0 := hide hw0; clear hw0
  by_cases he : askedErr c 0 = 0
  · obtain ⟨hf, _, htn⟩ := askedErr_zero he
    have ok := okH_of_fault hf
    have htl := truthsP_len hf
    have herr := truthsP_isErr ok
    have hnl := hc.tk.len
    have hcl1 := hc.ck.len
    have hl14 := ok.n1
    have hn6 : n2 ≤ 6 := by have := ok.n1; have := ok.n2; omega
    have Hso : Hid (hoursOut c = (List.range n2).map fun i => bP (hoursF c i) (truthsP c)) := by show _ = _; unfold hoursOut; rw [if_pos he, hnl]
    have hn14 : n1 ≤ 4 := by omega
    rw [he]
    have Hhe := hide he
    clear hf he hnl hcl1 hl14
    go_enter Try.func14, Try.ntmps14
    go_wp2_with fail
    rw [← Hw0.out]; clear Hw0
    refine (asked_ok w0 hc0 hn1 hn2 hn3 Hhe.out).mono ?_
    rintro e w2 ⟨bw, bm, At, kt, rfl, hL2, hWK⟩
    have Hbf := hide (fun (W : World) (h : Later w2 W) (i : Nat) (hi : i < n2) => bounds_hours_calls (hoursF c i) (x := (i : Int)) W (hWK.later h) htn (by omega) (fun W' hW' d hd e0 e1 e2 e3 hp => hours_calls W' (hWK.later (Later.trans h hW')) ok (herr d hd) hp.out))
    have b3 := fun W (h : Later w2 W) => hbox W (Later.trans hL2 h) 3
    simp only [List.getElem?_toArray, List.getElem?_cons_zero, List.getElem?_cons_succ] at b3
    go_wp2_with fail
    go_loopw [19, 6, 7] (fun i v _ wr => ∃ j : Nat, j ≤ n2 ∧ i = .int .i64 j ∧ wr.ownsRow w2.heap.size 65 2 v j (pairsV ((List.range j).map fun i => bP (hoursF c i) (truthsP c))) ∧ Later w2 wr) (fun i _ _ _ => n2 - (intOf i).toNat)
    case atStart => exact ⟨0, Nat.zero_le _, rfl, World.ownsRow_nil _ _ _ _, later_refl _⟩
    case round =>
      obtain ⟨j, hj, rfl, hown, hL⟩ := hrel
      by_cases hlt : j < n2
      · have hi1 : (j : Int) < n2 := by omega
        have hbc := Hbf.out wr hL j hlt
        have hsu : ((List.range (j + 1)).map fun i => bP (hoursF c i) (truthsP c)) = ((List.range j).map fun i => bP (hoursF c i) (truthsP c)) ++ [bP (hoursF c j) (truthsP c)] := range_map_succ _ j
        obtain ⟨⟨g1, g2⟩, hg⟩ : ∃ q, bP (hoursF c j) (truthsP c) = q := ⟨_, rfl⟩
        rw [hg] at hbc hsu
        generalize ((List.range j).map fun i => bP (hoursF c i) (truthsP c)) = ls at *
        have Hbc := hide hbc
        have Hsu := hide hsu
        clear hbc hsu hg
        go_wp2_with fail
        refine Hbc.out.mono ?_
        rintro e w3 ⟨rfl, hL3⟩
        have hown3 := own_later2 hown hL3
        have hL23 := Later.trans hL hL3
        have hj6 : j ≤ 1000000 := by omega
        go_wp2_with (at_builtin; go_must (refine own_append (w0 := w2) (W := w3) (te := 65) rfl _ _ 42 rfl 65 (.agg #[.int .i64 0, .int .i64 0]) 2 16 Try.underlying42 range_info rfl (by omega) u6 j (pairsV ls) rfl hL23 hown3 [.int .i64 g1, .int .i64 g2] rfl rfl ?_ hj6 (by omega) ?_; (simp [Value.oneCell']); intro v' w4 hap; have hown4 := hap.own; have hL4 := hap.later; clear hap))
        go_roundw
        case rel =>
          refine ⟨j + 1, by omega, by go_num, ?_, hL4⟩
          rw [Hsu.out, pairsV_one]; exact hown4
        case measure => simp [intOf]; omega
      · have hj1 : j = n2 := by omega
        subst hj1
        obtain ⟨A, k, rfl, hrd⟩ := own_slice hown
        go_wp2_with fail
        refine bodyPost_ret (v := .tuple #[.slice A j k, .int .i64 0]) ?_ rfl ⟨A, j, k, rfl, Later.trans hL0 (Later.trans hL2 hL), by rw [Hso.out]; exact hrd⟩
        simp [results, Try.results14, go_sem]
  · have Hso : Hid (hoursOut c = []) := by show _ = _; unfold hoursOut; rw [if_neg he]
    obtain ⟨q, hq⟩ : ∃ q, askedErr c 0 = q := ⟨_, rfl⟩
    rw [hq] at he ⊢
    have hqb : (q != 0) = true := by simpa using he
    have hqb2 : (q == 0) = false := by simpa using he
    have Hq := hide hq
    clear hq
    go_enter Try.func14, Try.ntmps14
    go_wp2_with fail
    rw [← Hw0.out]; clear Hw0
    refine (asked_err w0 hc0 hn1 hn2 hn3 Hq.out he).mono ?_
    rintro e w1 ⟨rfl, hL1⟩
    go_wp2_with fail
    refine bodyPost_ret (v := .tuple #[.slice none 0 0, .int .i64 q]) ?_ rfl ⟨none, 0, 0, rfl, Later.trans hL0 hL1, by rw [Hso.out]; exact RP.nil⟩
    simp [results, Try.results14, go_sem]
end Go.Proofs.Ytcffgjhmpgdfpaa

/- The tubs' CheckFloor: walk. -/
namespace Go.Proofs.Ytcffgjhmpgdfpaa
open Go Go.RowKit
/-- the rows of a floor -/
structure FV (w : World) (f : Flo) (A1 : Option Addr) (n1 : Nat) (A2 : Option Addr) (n2 : Nat) (A3 : Option Addr) (n3 : Nat) (Aq : Option Addr) (nq : Nat) : Prop where
  cv : CV w f.house A1 n1 A2 n2 A3 n3
  q : RP w Aq nq f.queue
theorem FV.later {w w' : World} {f : Flo} {A1 : Option Addr} {n1 : Nat} {A2 : Option Addr} {n2 : Nat} {A3 : Option Addr} {n3 : Nat} {Aq : Option Addr} {nq : Nat} (h : FV w f A1 n1 A2 n2 A3 n3 Aq nq) (k : Later w w') : FV w' f A1 n1 A2 n2 A3 n3 Aq nq := ⟨h.cv.later k, h.q.later k⟩
theorem faultF_asked (f : Flo) : faultF f = if askedErr f.house 0 ≠ 0 then askedErr f.house 0 else if 4 < f.tubs ∨ 5 < f.queue.length then 3 else if f.tubs < 1 ∨ f.opn < 0 ∨ f.closing < f.opn ∨ 1439 < f.closing then 1 else if f.queue.all washOk = false then 1 else 0 := by
  unfold faultF
  by_cases hf : fault f.house = 0
  · by_cases ht : truthsP f.house = []
    · rw [askedErr_none hf ht, if_neg (by simp [hf]), if_pos ((truths_nil hf).1 ht), if_pos (show (11 : Int) ≠ 0 by omega)]
    · rw [askedErr_ok hf ht, if_neg (by simp [hf]), if_neg ((truths_ne hf).1 ht), if_neg (show ¬ (0 : Int) ≠ 0 by omega)]
  · rw [askedErr_bad hf, if_pos hf, if_pos hf]
set_option maxRecDepth 100000 in
set_option maxHeartbeats 2000000 in
theorem CheckFloor_eq {A1 A2 A3 Aq : Option Addr} {n1 k1 n2 k2 n3 k3 nq kq : Nat} {f : Flo} {q : Int} (w : World) (hc : FV w f A1 n1 A2 n2 A3 n3 Aq nq) (hq : faultF f = q) (hn1 : n1 ≤ 1000) (hn2 : n2 ≤ 1000) (hn3 : n3 ≤ 1000) (hnq : nq ≤ 1000) :
    Calls Try.prog 44 #[(.agg #[.int .i64 f.house.hour, .int .i64 f.house.grace, .slice A1 n1 k1, .slice A2 n2 k2, .slice A3 n3 k3, .int .i64 f.tubs, .int .i64 f.opn, .int .i64 f.closing, .slice Aq nq kq])] w fun e w' => e = .returned (.int .i64 q) ∧ Later w w' := by
  rw [faultF_asked] at hq
  have hlq : f.queue.length = nq := hc.q.len.symm
  rw [hlq] at hq
  obtain ⟨w0, hw0⟩ : ∃ W, W = w.alloc (.cells #[.int .i64 f.house.hour, .int .i64 f.house.grace, .slice A1 n1 k1, .slice A2 n2 k2, .slice A3 n3 k3, .int .i64 f.tubs, .int .i64 f.opn, .int .i64 f.closing, .slice Aq nq kq] 48) := ⟨_, rfl⟩
  have hbox : ∀ W, Later w0 W → ∀ i, W.cell? ⟨w.heap.size, i, none⟩ = #[.int .i64 f.house.hour, .int .i64 f.house.grace, .slice A1 n1 k1, .slice A2 n2 k2, .slice A3 n3 k3, .int .i64 f.tubs, .int .i64 f.opn, .int .i64 f.closing, .slice Aq nq kq][i]? := (by rw [hw0]; exact box_cells w #[.int .i64 f.house.hour, .int .i64 f.house.grace, .slice A1 n1 k1, .slice A2 n2 k2, .slice A3 n3 k3, .int .i64 f.tubs, .int .i64 f.opn, .int .i64 f.closing, .slice Aq nq kq] 48)
  have hL0 : Later w w0 := (by rw [hw0]; simp)
  have hc0 := hc.later hL0
  have Hw0 := hide hw0
  clear hw0
  have b0 := fun W (h : Later w0 W) => hbox W h 0
  have b1 := fun W (h : Later w0 W) => hbox W h 1
  have b2 := fun W (h : Later w0 W) => hbox W h 2
  have b3 := fun W (h : Later w0 W) => hbox W h 3
  have b4 := fun W (h : Later w0 W) => hbox W h 4
  have b5 := fun W (h : Later w0 W) => hbox W h 5
  have b6 := fun W (h : Later w0 W) => hbox W h 6
  have b7 := fun W (h : Later w0 W) => hbox W h 7
  have b8 := fun W (h : Later w0 W) => hbox W h 8
  simp only [List.getElem?_toArray, List.getElem?_cons_zero, List.getElem?_cons_succ] at b0 b1 b2 b3 b4 b5 b6 b7 b8
  clear hbox
  obtain ⟨p, hp⟩ : ∃ p, askedErr f.house 0 = p := ⟨_, rfl⟩
  rw [hp] at hq
  have Hp := hide hp
  clear hp hlq
  by_cases he : p = 0
  · subst he
    rw [if_neg (by omega)] at hq
    by_cases hA : 4 < f.tubs
    · rw [if_pos (.inl hA)] at hq
      subst hq
      go_enter Try.func44, Try.ntmps44
      go_upto_region 1 with fail
      rw [← Hw0.out]
      clear Hw0
      have hLs := later_refl w0
      go_wp2_with fail
      refine (ClocksP_calls (c := f.house) (k1 := k1) (k2 := k2) (k3 := k3) _ hc0.cv hn1 hn2 hn3).mono ?_
      rintro e w1 ⟨A, n, k, rfl, hL1, _⟩
      rw [Hp.out]
      go_wp2_with fail
      go_ret
      exact ⟨rfl, Later.trans hL0 hL1⟩
    by_cases hB : 5 < nq
    · rw [if_pos (.inr hB)] at hq
      subst hq
      have hB' : (5 : Int) < nq := by omega
      go_enter Try.func44, Try.ntmps44
      go_upto_region 1 with fail
      rw [← Hw0.out]
      clear Hw0
      have hLs := later_refl w0
      go_wp2_with fail
      refine (ClocksP_calls (c := f.house) (k1 := k1) (k2 := k2) (k3 := k3) _ hc0.cv hn1 hn2 hn3).mono ?_
      rintro e w1 ⟨A, n, k, rfl, hL1, _⟩
      rw [Hp.out]
      go_wp2_with fail
      go_ret
      exact ⟨rfl, Later.trans hL0 hL1⟩
    rw [if_neg (by omega)] at hq
    have hB' : ¬ (5 : Int) < nq := by omega
    by_cases hC : f.tubs < 1
    · rw [if_pos (.inl hC)] at hq
      subst hq
      go_enter Try.func44, Try.ntmps44
      go_upto_region 1 with fail
      rw [← Hw0.out]
      clear Hw0
      have hLs := later_refl w0
      go_wp2_with fail
      refine (ClocksP_calls (c := f.house) (k1 := k1) (k2 := k2) (k3 := k3) _ hc0.cv hn1 hn2 hn3).mono ?_
      rintro e w1 ⟨A, n, k, rfl, hL1, _⟩
      rw [Hp.out]
      go_wp2_with fail
      go_ret
      exact ⟨rfl, Later.trans hL0 hL1⟩
    by_cases hD : 1439 < f.closing
    · rw [if_pos (.inr (.inr (.inr hD)))] at hq
      subst hq
      go_enter Try.func44, Try.ntmps44
      go_upto_region 1 with fail
      rw [← Hw0.out]
      clear Hw0
      have hLs := later_refl w0
      go_wp2_with fail
      refine (ClocksP_calls (c := f.house) (k1 := k1) (k2 := k2) (k3 := k3) _ hc0.cv hn1 hn2 hn3).mono ?_
      rintro e w1 ⟨A, n, k, rfl, hL1, _⟩
      rw [Hp.out]
      go_wp2_with fail
      go_ret
      exact ⟨rfl, Later.trans hL0 hL1⟩
    cases hE : inB f.opn 0 f.closing with
    | false =>
      have hE2 : f.opn < 0 ∨ f.closing < f.opn := by unfold inB at hE; simp at hE; omega
      rw [if_pos (by omega)] at hq
      subst hq
      have HE := hide hE
      clear hE hE2
      go_enter Try.func44, Try.ntmps44
      go_upto_region 1 with fail
      rw [← Hw0.out]
      clear Hw0
      have hLs := later_refl w0
      go_wp2_with fail
      refine (ClocksP_calls (c := f.house) (k1 := k1) (k2 := k2) (k3 := k3) _ hc0.cv hn1 hn2 hn3).mono ?_
      rintro e w1 ⟨A, n, k, rfl, hL1, _⟩
      rw [Hp.out]
      go_wp2_with (go_at_call 46; refine (uwithin_eq HE.out _).mono ?_; rintro e w' ⟨rfl, rfl⟩)
      go_ret
      exact ⟨rfl, Later.trans hL0 hL1⟩
    | true =>
      have hE2 : 0 ≤ f.opn ∧ f.opn ≤ f.closing := by unfold inB at hE; simp at hE; omega
      rw [if_neg (by omega)] at hq
      cases hF : f.queue.all washOk with
      | false =>
        rw [if_pos hF] at hq
        subst hq
        have HE := hide hE
        have HF := hide hF
        clear hE hE2 hF
        go_enter Try.func44, Try.ntmps44
        go_upto_region 1 with fail
        rw [← Hw0.out]
        clear Hw0
        have hLs := later_refl w0
        go_wp2_with fail
        refine (ClocksP_calls (c := f.house) (k1 := k1) (k2 := k2) (k3 := k3) _ hc0.cv hn1 hn2 hn3).mono ?_
        rintro e w1 ⟨A, n, k, rfl, hL1, _⟩
        rw [Hp.out]
        go_wp2_with (go_at_call 46; refine (uwithin_eq HE.out _).mono ?_; rintro e w' ⟨rfl, rfl⟩)
        refine (allW_eq HF.out _ (hc0.later hL1).q (by omega)).mono ?_
        rintro e w2 ⟨rfl, hL2⟩
        go_wp2_with fail
        go_ret
        exact ⟨rfl, Later.trans hL0 (Later.trans hL1 hL2)⟩
      | true =>
        rw [if_neg (by rw [hF]; simp)] at hq
        subst hq
        have HE := hide hE
        have HF := hide hF
        clear hE hE2 hF
        go_enter Try.func44, Try.ntmps44
        go_upto_region 1 with fail
        rw [← Hw0.out]
        clear Hw0
        have hLs := later_refl w0
        go_wp2_with fail
        refine (ClocksP_calls (c := f.house) (k1 := k1) (k2 := k2) (k3 := k3) _ hc0.cv hn1 hn2 hn3).mono ?_
        rintro e w1 ⟨A, n, k, rfl, hL1, _⟩
        rw [Hp.out]
        go_wp2_with (go_at_call 46; refine (uwithin_eq HE.out _).mono ?_; rintro e w' ⟨rfl, rfl⟩)
        refine (allW_eq HF.out _ (hc0.later hL1).q (by omega)).mono ?_
        rintro e w2 ⟨rfl, hL2⟩
        go_wp2_with fail
        go_ret
        exact ⟨rfl, Later.trans hL0 (Later.trans hL1 hL2)⟩
  · rw [if_pos he] at hq
    subst hq
    have hpb : (p != 0) = true := by simpa using he
    go_enter Try.func44, Try.ntmps44
    go_upto_region 1 with fail
    rw [← Hw0.out]
    clear Hw0
    have hLs := later_refl w0
    go_wp2_with fail
    refine (ClocksP_calls (c := f.house) (k1 := k1) (k2 := k2) (k3 := k3) _ hc0.cv hn1 hn2 hn3).mono ?_
    rintro e w1 ⟨A, n, k, rfl, hL1, _⟩
    rw [Hp.out]
    go_wp2_with fail
    go_ret
    exact ⟨rfl, Later.trans hL0 hL1⟩
end Go.Proofs.Ytcffgjhmpgdfpaa

/- A floor as an argument of a law, opened. -/
namespace Go.Proofs.Ytcffgjhmpgdfpaa
open Go Go.RowKit Go.ChangeShapes Go.WideShapes Go.Deep Go.Joins
set_option maxRecDepth 100000
section
variable {H : Type} {enc : TypeId × Value → H} {w : World}
theorem house_cells {c0 c1 c2 c3 c4 : Value} {n : Nat} {x : DataW H × List MemPlace} (h : DataW.trod enc Try.prog w 0 (fun _ => true) true n 26 [c0, c1, c2, c3, c4] = some x) :
    ∃ (c : Hou) (A1 : Option Addr) (n1 k1 : Nat) (A2 : Option Addr) (n2 k2 : Nat) (A3 : Option Addr) (n3 k3 : Nat), c0 = .int .i64 c.hour ∧ c1 = .int .i64 c.grace ∧ c2 = .slice A1 n1 k1 ∧ c3 = .slice A2 n2 k2 ∧ c4 = .slice A3 n3 k3 ∧ CV w c A1 n1 A2 n2 A3 n3 ∧ n1 ≤ maxLen ∧ n2 ≤ maxLen ∧ n3 ≤ maxLen := by
  obtain ⟨xs, m, _, _, _, hxl, hf⟩ := DataW.trod_struct Try.underlying26 h
  match xs, hxl with
  | [y0, y1, y2, y3, y4], _ =>
    have f0 := hf 0 _ rfl
    have f1 := hf 1 _ rfl
    have f2 := hf 2 _ rfl
    have f3 := hf 3 _ rfl
    have f4 := hf 4 _ rfl
    simp [Value.cells, cells_int, cells_ranges, cells_tickets, cells_clips] at f0 f1 f2 f3 f4
    obtain ⟨a, ha, _, wa⟩ := DataW.trod_int Try.underlying3 f0
    obtain ⟨b, hb, _, _⟩ := DataW.trod_int Try.underlying3 f1
    obtain ⟨A1, n1, k1, l1, rfl, h1, m1⟩ := open_ranges_ f2
    obtain ⟨A2, n2, k2, l2, rfl, h2, m2⟩ := open_tickets_ f3
    obtain ⟨A3, n3, k3, l3, rfl, h3, m3⟩ := open_clips_ f4
    injection ha with ha; injection hb with hb
    subst ha hb
    exact ⟨⟨a, b, l1, l2, l3⟩, A1, n1, k1, A2, n2, k2, A3, n3, k3, rfl, rfl, rfl, rfl, rfl, ⟨h1, h2, h3⟩, m1, m2, m3⟩
theorem cells_floor : (Try.prog).cellsOf 28 = 9 := by kernel_rfl
theorem open_floor_ {r : Reach} {b0 : Nat} {v : Value} {d : DataW H} {p : List MemPlace} (hv : Value.okWide Try.prog w r b0 28 v) (h : DataW.Trod enc Try.prog w 0 (fun _ => true) true 28 v d p) :
    ∃ (f : Flo) (A1 : Option Addr) (n1 k1 : Nat) (A2 : Option Addr) (n2 k2 : Nat) (A3 : Option Addr) (n3 k3 : Nat) (Aq : Option Addr) (nq kq : Nat), v = (.agg #[.int .i64 f.house.hour, .int .i64 f.house.grace, .slice A1 n1 k1, .slice A2 n2 k2, .slice A3 n3 k3, .int .i64 f.tubs, .int .i64 f.opn, .int .i64 f.closing, .slice Aq nq kq]) ∧ FV w f A1 n1 A2 n2 A3 n3 Aq nq ∧ n1 ≤ maxLen ∧ n2 ≤ maxLen ∧ n3 ≤ maxLen := by
  obtain ⟨cs, rfl, hsz⟩ := okWide_struct Try.underlying28 hv
  rw [cells_floor] at hsz
  obtain ⟨fuel, hf0⟩ := h
  obtain ⟨cs⟩ := cs
  match cs, hsz with
  | [c0, c1, c2, c3, c4, c5, c6, c7, c8], _ =>
    obtain ⟨xs, m, _, _, _, hxl, hf⟩ := DataW.trod_struct Try.underlying28 hf0
    match xs, hxl with
    | [y0, y1, y2, y3, y4], _ =>
      have f0 := hf 0 _ rfl
      have f1 := hf 1 _ rfl
      have f2 := hf 2 _ rfl
      have f3 := hf 3 _ rfl
      have f4 := hf 4 _ rfl
      simp [Value.cells, cells_int, cells_ranges, cells_house] at f0 f1 f2 f3 f4
      obtain ⟨c, A1, n1, k1, A2, n2, k2, A3, n3, k3, rfl, rfl, rfl, rfl, rfl, hcv, m1, m2, m3⟩ := house_cells f0
      obtain ⟨a1, ha1, _, _⟩ := DataW.trod_int Try.underlying3 f1
      obtain ⟨a2, ha2, _, _⟩ := DataW.trod_int Try.underlying3 f2
      obtain ⟨a3, ha3, _, _⟩ := DataW.trod_int Try.underlying3 f3
      obtain ⟨Aq, nq, kq, lq, rfl, hq, _⟩ := open_ranges_ f4
      injection ha1 with ha1; injection ha2 with ha2; injection ha3 with ha3
      subst ha1 ha2 ha3
      exact ⟨⟨c, a1, a2, a3, lq⟩, A1, n1, k1, A2, n2, k2, A3, n3, k3, Aq, nq, kq, rfl, ⟨hcv, hq⟩, m1, m2, m3⟩
end
end Go.Proofs.Ytcffgjhmpgdfpaa

/- The reference's In, Size, Is, Many, AreErrors: walks. -/
namespace Go.Proofs.Ytcffgjhmpgdfpaa
open Go Go.RowKit

theorem In_calls (n lo hi : Int) (w : World) :
    Calls Try.prog 30 #[.int .i64 n, .int .i64 lo, .int .i64 hi] w fun e w' => e = .returned (.bool (inB n lo hi)) ∧ w = w' := by
  go_enter Try.func30, Try.ntmps30
  by_cases h1 : lo ≤ n <;> by_cases h2 : n ≤ hi <;> go_wp2 <;> go_ret <;> exact ⟨by simp [inB, *], rfl⟩

theorem In_eq {n lo hi : Int} {b : Bool} (h : inB n lo hi = b) (w : World) :
    Calls Try.prog 30 #[.int .i64 n, .int .i64 lo, .int .i64 hi] w fun e w' => e = .returned (.bool b) ∧ w = w' := by
  have := In_calls n lo hi w; rw [h] at this; exact this
theorem Size_calls {h : Int × Int} (w : World) (b1 : -1000000 ≤ h.1 ∧ h.1 ≤ 1000000) (b2 : -1000000 ≤ h.2 ∧ h.2 ≤ 1000000) :
    Calls Try.prog 43 #[.agg #[.int .i64 h.1, .int .i64 h.2]] w fun e w' => e = .returned (.int .i64 (sizeR h)) ∧ Later w w' := by
  go_enter Try.func43, Try.ntmps43
  go_wp2_with fail
  go_ret
  exact ⟨rfl, by simp⟩

theorem sizeR_range {h : Int × Int} (k : -30 ≤ h.1 ∧ h.1 ≤ h.2 ∧ h.2 ≤ 30) : 1 ≤ sizeR h ∧ sizeR h ≤ 61 := by unfold sizeR; omega
theorem many_aux {l : List (Int × Int)} (ok : ∀ h ∈ l, -30 ≤ h.1 ∧ h.1 ≤ h.2 ∧ h.2 ≤ 30) (a : Int) (ha : 1 ≤ a ∧ a ≤ 3000) :
    1 ≤ l.foldl (fun n h => min 3000 (n * sizeR h)) a ∧ l.foldl (fun n h => min 3000 (n * sizeR h)) a ≤ 3000 := by
  induction l generalizing a with
  | nil => exact ha
  | cons h l ih =>
    refine ih (fun x hx => ok x (List.mem_cons_of_mem _ hx)) _ ?_
    have := sizeR_range (ok h List.mem_cons_self)
    have h1 : 1 * 1 ≤ a * sizeR h := Int.mul_le_mul (by omega) (by omega) (by omega) (by omega)
    show 1 ≤ min 3000 (a * sizeR h) ∧ min 3000 (a * sizeR h) ≤ 3000
    omega
theorem many_range {c : Hou} (ok : ∀ h ∈ c.clocks, -30 ≤ h.1 ∧ h.1 ≤ h.2 ∧ h.2 ≤ 30) : 1 ≤ many c ∧ many c ≤ 3000 := many_aux ok 1 (by omega)

def manyTo (c : Hou) (j : Nat) : Int := (c.clocks.take j).foldl (fun n h => min 3000 (n * sizeR h)) 1

theorem Many_calls {A1 A2 A3 : Option Addr} {n1 k1 n2 k2 n3 k3 : Nat} {c : Hou} (w : World) (hc : CV w c A1 n1 A2 n2 A3 n3) (ok : ∀ h ∈ c.clocks, -30 ≤ h.1 ∧ h.1 ≤ h.2 ∧ h.2 ≤ 30) (hl : n1 ≤ 1000000) :
    Calls Try.prog 20 #[(.agg #[.int .i64 c.hour, .int .i64 c.grace, .slice A1 n1 k1, .slice A2 n2 k2, .slice A3 n3 k3])] w fun e w' => e = .returned (.int .i64 (many c)) ∧ Later w w' := by
  have hn1 := hc.ck.len
  have hbox := box_cells w #[.int .i64 c.hour, .int .i64 c.grace, .slice A1 n1 k1, .slice A2 n2 k2, .slice A3 n3 k3] 26
  have Hn1 := hide hn1
  clear hn1
  go_enter Try.func20, Try.ntmps20
  go_wp2_with fail
  go_loopw [3, 4] (fun a i wr => ∃ j : Nat, j ≤ n1 ∧ i = .int .i64 j ∧ a = .int .i64 (manyTo c j) ∧ Later (w.alloc (.cells #[.int .i64 c.hour, .int .i64 c.grace, .slice A1 n1 k1, .slice A2 n2 k2, .slice A3 n3 k3] 26)) wr) (fun _ i _ => n1 - (intOf i).toNat)
  case atStart => exact ⟨0, Nat.zero_le _, rfl, rfl, later_refl _⟩
  case round =>
    obtain ⟨j, hj, rfl, rfl, hL⟩ := hrel
    by_cases hlt : j < n1
    · obtain ⟨b, o, x, rfl, _, hx, h0, h1⟩ := (hc.ck.later (later_alloc (later_refl w) (.cells #[.int .i64 c.hour, .int .i64 c.grace, .slice A1 n1 k1, .slice A2 n2 k2, .slice A3 n3 k3] 26))).get hlt
      have okx := ok x (List.mem_of_getElem? hx)
      have hs := sizeR_range okx
      have hm := many_aux (l := c.clocks.take j) (fun h hh => ok h (List.mem_of_mem_take hh)) 1 (by omega)
      have hmt : 1 ≤ manyTo c j ∧ manyTo c j ≤ 3000 := hm
      have hnext : manyTo c (j + 1) = min 3000 (manyTo c j * sizeR x) := by
        unfold manyTo; rw [List.take_add_one, hx]; simp [List.foldl_append]
      have hp1 : 0 ≤ manyTo c j * sizeR x := Int.mul_nonneg (by omega) (by omega)
      have hp2 : manyTo c j * sizeR x ≤ 3000 * 61 := Int.mul_le_mul (by omega) (by omega) (by omega) (by omega)
      have Hx := hide hx
      have Hnext := hide hnext
      clear hx hnext hm
      go_wp2_with fail
      refine (Size_calls _ (by omega) (by omega)).mono ?_
      rintro e w1 ⟨rfl, hL1⟩
      have hL2 := Later.trans hL hL1
      go_wp2_with fail
      go_roundw
      case rel => exact ⟨j + 1, by omega, by go_num, by rw [Hnext.out]; congr 1; split <;> omega, hL2⟩
      case measure => simp [intOf]; omega
    · have hjn : manyTo c j = many c := by
        unfold manyTo many; rw [List.take_of_length_le (by have := Hn1.out; omega)]
      have Hjn := hide hjn
      clear hjn
      go_wp2_with fail
      go_ret
      exact ⟨ret_int Hjn.out, Later.trans (by simp) hL⟩

theorem areErrors_len : ∀ (l : List (Int × Int)) (d : List Int), areErrors l d = true → d.length = l.length
  | [], [], _ => rfl
  | h :: l, x :: d, k => by
    simp only [areErrors, Bool.and_eq_true] at k
    simp [areErrors_len l d k.2]

end Go.Proofs.Ytcffgjhmpgdfpaa

/- The reference's Nth: walk. -/
namespace Go.Proofs.Ytcffgjhmpgdfpaa
open Go Go.RowKit

def nthRest : List (Int × Int) → Int → Int
  | [], n => n
  | h :: hs, n => nthRest hs (n / sizeR h)
theorem nth_snoc (l : List (Int × Int)) (h : Int × Int) (n : Int) : nth (l ++ [h]) n = nth l n ++ [h.1 + nthRest l n % sizeR h] := by
  induction l generalizing n with
  | nil => simp [nth, nthRest]
  | cons x l ih => simp [nth, nthRest, ih]
theorem nthRest_snoc (l : List (Int × Int)) (h : Int × Int) (n : Int) : nthRest (l ++ [h]) n = nthRest l n / sizeR h := by
  induction l generalizing n with
  | nil => rfl
  | cons x l ih => simp [nthRest, ih]
theorem nthRest_range {l : List (Int × Int)} (ok : ∀ h ∈ l, -30 ≤ h.1 ∧ h.1 ≤ h.2 ∧ h.2 ≤ 30) (n : Int) (h0 : 0 ≤ n) (h1 : n ≤ 1000000) : 0 ≤ nthRest l n ∧ nthRest l n ≤ 1000000 := by
  induction l generalizing n with
  | nil => exact ⟨h0, h1⟩
  | cons x l ih =>
    have := sizeR_range (ok x List.mem_cons_self)
    exact ih (fun h hh => ok h (List.mem_cons_of_mem _ hh)) _ (Int.ediv_nonneg h0 (by omega)) (Int.le_trans (Int.ediv_le_self _ h0) h1)
theorem ints_snoc (l : List Int) (x : Int) : ints (l ++ [x]) = ints l ++ [Value.int .i64 x] := by simp [ints]

set_option maxRecDepth 100000 in
theorem Nth_calls {A1 A2 A3 : Option Addr} {n1 k1 n2 k2 n3 k3 : Nat} {c : Hou} {n : Int} (w : World) (hc : CV w c A1 n1 A2 n2 A3 n3) (ok : ∀ h ∈ c.clocks, -30 ≤ h.1 ∧ h.1 ≤ h.2 ∧ h.2 ≤ 30) (hl : n1 ≤ 1000) (h0 : 0 ≤ n) (h1 : n ≤ 1000000) :
    Calls Try.prog 21 #[(.agg #[.int .i64 c.hour, .int .i64 c.grace, .slice A1 n1 k1, .slice A2 n2 k2, .slice A3 n3 k3]), .int .i64 n] w fun e w' => ∃ A m k, e = .returned (.slice A m k) ∧ Later w w' ∧ RI w' A m (nth c.clocks n) ∧ Fresh w w' A := by
  have hn1 := hc.ck.len
  have Hn1 := hide hn1
  clear hn1
  obtain ⟨w0, hw0⟩ : ∃ W, W = (w.alloc (.cells #[.int .i64 c.hour, .int .i64 c.grace, .slice A1 n1 k1, .slice A2 n2 k2, .slice A3 n3 k3] 26)) := ⟨_, rfl⟩; have hbox : ∀ W, Later w0 W → ∀ i, W.cell? ⟨w.heap.size, i, none⟩ = #[.int .i64 c.hour, .int .i64 c.grace, .slice A1 n1 k1, .slice A2 n2 k2, .slice A3 n3 k3][i]? := (by rw [hw0]; exact box_cells w #[.int .i64 c.hour, .int .i64 c.grace, .slice A1 n1 k1, .slice A2 n2 k2, .slice A3 n3 k3] 26); have hL0 : Later w w0 := (by rw [hw0]; simp); have hc0 := hc.later hL0; have Hw0 := hide hw0; clear hw0
  go_enter Try.func21, Try.ntmps21
  go_wp2_with fail
  rw [← Hw0.out]; clear Hw0
  go_loopw [1, 5, 6] (fun m v i wr => ∃ j : Nat, j ≤ n1 ∧ i = .int .i64 j ∧ m = .int .i64 (nthRest (c.clocks.take j) n) ∧ wr.ownsRow w0.heap.size 3 1 v j (ints (nth (c.clocks.take j) n)) ∧ Later w0 wr) (fun _ _ i _ => n1 - (intOf i).toNat)
  case atStart => exact ⟨0, Nat.zero_le _, rfl, rfl, World.ownsRow_nil _ _ _ _, later_refl _⟩
  case round =>
    obtain ⟨j, hj, rfl, rfl, hown, hL⟩ := hrel
    by_cases hlt : j < n1
    · obtain ⟨b, o, x, rfl, _, hx, hx0, hx1⟩ := hc0.ck.get hlt
      have okx := ok x (List.mem_of_getElem? hx)
      have hs := sizeR_range okx
      have ht : c.clocks.take (j + 1) = c.clocks.take j ++ [x] := by rw [List.take_add_one, hx]; rfl
      have hr := nthRest_range (l := c.clocks.take j) (fun h hh => ok h (List.mem_of_mem_take hh)) n h0 h1
      have hi1 : (j : Int) < n1 := by omega
      have hs1 := nth_snoc (c.clocks.take j) x n
      have hs2 := nthRest_snoc (c.clocks.take j) x n
      rw [← ht] at hs1 hs2
      have Hs1 := hide hs1
      have Hs2 := hide hs2
      generalize nthRest (c.clocks.take j) n = q at *
      have hq1 := Int.emod_nonneg q (b := sizeR x) (by omega)
      have hq2 := Int.emod_lt_of_pos q (b := sizeR x) (by omega)
      clear hs1 hs2 ht hx
      go_wp2_with fail
      have hbx := box_cells wr #[.int .i64 x.1, .int .i64 x.2] 54
      have hcl := hbx _ (later_refl _) 0
      have hch := hbx _ (later_refl _) 1
      simp only [List.getElem?_toArray, List.getElem?_cons_zero, List.getElem?_cons_succ] at hcl hch
      have hLa : Later w0 (wr.alloc (.cells #[.int .i64 x.1, .int .i64 x.2] 54)) := later_alloc hL _
      have hne : ∀ g, (u5 : Value).ownBlock = some g → g < wr.heap.size := fun g hg => (hown.lt g hg).2
      clear hbx hx0 hx1
      have Hne := hide hne
      clear hne
      have hw1 : IntKind.i64.wrap (x.1 + q % sizeR x) = x.1 + q % sizeR x := IntWalk.i64_in _ (by omega)
      have hz1 : ¬ sizeR x = 0 := by omega
      have hz2 : q.tmod (sizeR x) = q % sizeR x := Int.tmod_eq_emod_of_nonneg hr.1
      have hw2 : IntKind.i64.wrap (q % sizeR x) = q % sizeR x := IntWalk.i64_in _ (by omega)
      have hdv : q / sizeR x = q.tdiv (sizeR x) := (Int.tdiv_eq_ediv_of_nonneg hr.1).symm
      have hq3' := Int.ediv_nonneg (a := q) (b := sizeR x) hr.1 (by omega)
      have hq4 := Int.ediv_le_self (a := q) (sizeR x) hr.1
      have Hdv : Hid (IntKind.i64.wrap (q.tdiv (sizeR x)) = q / sizeR x) := by show IntKind.i64.wrap (q.tdiv (sizeR x)) = _; rw [← hdv]; exact IntWalk.i64_in _ (by omega)
      clear hdv hq3' hq4
      go_region_held3 (fun W => Later w0 W ∧ W.cell? ⟨wr.heap.size, 0, none⟩ = some (.int .i64 x.1) ∧ W.cell? ⟨wr.heap.size, 1, none⟩ = some (.int .i64 x.2)) ((refine ⟨by simp [*], ?_, ?_⟩ <;> first | assumption | (simp [*]; done) | (rw [World.cell?_alloc_lt _ _ _ (by (show wr.heap.size < _); omega)]; assumption)))
        (first
          | (go_at_call 43; (have hq3 := hL3); refine (Size_calls (h := x) _ (by omega) (by omega)).mono ?_; rintro e w3 ⟨rfl, hL4⟩; have hown3 := own_later hown2 hL4; have hL5 := Later.trans hL3 hL4; have hc6 := cell_later hc4 hL4 hsz2; have hc7 := cell_later hc5 hL4 hsz2)
          | (go_at_call 43; go_must (refine (Size_calls (h := x) _ (by omega) (by omega)).mono ?_; rintro e w1 ⟨rfl, hL1⟩; have hown1 := own_later (own_later hown (later_drew (later_alloc (later_refl _) _))) hL1; have hL2 := Later.trans (later_drew hLa) hL1; have hc1 := fun (i : Nat) (v : Value) (h : ((wr.alloc (.cells #[.int .i64 x.1, .int .i64 x.2] 54)).drew).cell? ⟨wr.heap.size, i, none⟩ = some v) => cell_later h hL1 (by simp); have hc2 := hc1 0 _ hcl; have hc3 := hc1 1 _ hch; clear hc1; have hsz1 : wr.heap.size < w1.heap.size := (by have := later_size hL1; simp at this; omega)))
          | (refine own_append_step (w0 := w0) (W := w1) (te := 3) rfl (.tmp 20) (.tmp 28) 35 rfl 3 (.int .i64 0) 1 8 Try.underlying35 int_info rfl (by omega) u5 j (ints (nth (List.take j c.clocks) n)) rfl hL2 hown1 [.int .i64 (x.1 + q % sizeR x)] rfl rfl ?_ ?_ (by omega) ?_; (simp [Value.oneCell']); omega; intro v' w2 hap; have hown2 := hap.own; have hL3 := hap.later; have hsz2 : wr.heap.size < w2.heap.size := (by have := hap.size; omega); have hk0 := hap.cell (b := wr.heap.size) (by have := later_size hL1; simp at this; omega) (fun h => by have := Hne.out _ h; omega); have hc4 := (hk0 0).trans hc2; have hc5 := (hk0 1).trans hc3; clear hk0 hap))
      go_wp2_with fail
      go_roundw
      case rel =>
        refine ⟨j + 1, by omega, by go_num, by rw [Hs2.out, Hdv.out], ?_, hL5⟩
        rw [Hs1.out, ints_snoc]; exact hown3
      case measure => simp [intOf]; omega
    · have hf : nth (c.clocks.take j) n = nth c.clocks n := by rw [List.take_of_length_le (by have := Hn1.out; omega)]
      rw [hf] at hown
      obtain ⟨A, k, rfl, hrd, hfr⟩ := own_slice2 hown
      clear hf
      go_wp2_with fail
      go_ret
      exact ⟨A, j, k, rfl, Later.trans hL0 hL, hrd, hfr.le hL0.size⟩
end Go.Proofs.Ytcffgjhmpgdfpaa

/- Bits of small numbers, as the machine has them. -/
namespace Go.Proofs.Ytcffgjhmpgdfpaa
open Go Go.RowKit
theorem ofInt_i64 (a : Nat) (ha : a < 9223372036854775808) : (BitVec.ofInt 64 (a : Int)).toNat = a := by
  rw [BitVec.ofInt_natCast, BitVec.toNat_ofNat]; exact Nat.mod_eq_of_lt (by omega)
theorem i64_and_nat (a b : Nat) (ha : a < 9223372036854775808) (hb : b < 9223372036854775808) : bits .and .i64 (a : Int) (b : Int) = ((a &&& b : Nat) : Int) := by
  have hx : a &&& b < 2 ^ 63 := Nat.and_lt_two_pow _ (by omega)
  show IntKind.i64.wrap ((BitVec.ofInt 64 (a : Int) &&& BitVec.ofInt 64 (b : Int)).toNat : Int) = _
  rw [BitVec.toNat_and, ofInt_i64 a ha, ofInt_i64 b hb, IntKind.wrap_i64]
  omega
theorem i64_or_nat (a b : Nat) (ha : a < 9223372036854775808) (hb : b < 9223372036854775808) : bits .or .i64 (a : Int) (b : Int) = ((a ||| b : Nat) : Int) := by
  have hx : a ||| b < 2 ^ 63 := Nat.or_lt_two_pow (by omega) (by omega)
  show IntKind.i64.wrap ((BitVec.ofInt 64 (a : Int) ||| BitVec.ofInt 64 (b : Int)).toNat : Int) = _
  rw [BitVec.toNat_or, ofInt_i64 a ha, ofInt_i64 b hb, IntKind.wrap_i64]
  omega
theorem pow_le20 {j : Nat} (hj : j ≤ 20) : 2 ^ j ≤ 1048576 := by
  have : (2 : Nat) ^ j ≤ 2 ^ 20 := Nat.pow_le_pow_right (by omega) hj
  omega
theorem pow_int (j : Nat) : ((2 : Int) ^ j) = ((2 ^ j : Nat) : Int) := by norm_cast
theorem wrap_pow {j : Nat} (hj : j ≤ 20) : wrap64 (2 ^ j) = ((2 ^ j : Nat) : Int) := by
  rw [pow_int]; have h := pow_le20 hj; generalize 2 ^ j = m at h ⊢; unfold wrap64; omega
theorem or_pow (a k : Nat) (h : a < 2 ^ k) : a ||| 2 ^ k = a + 2 ^ k := by
  have := Nat.two_pow_add_eq_or_of_lt h 1
  simp only [Nat.mul_one] at this
  rw [Nat.or_comm, ← this, Nat.add_comm]
theorem testBit_shr (a p : Nat) : ((a : Int) / (2 : Int) ^ p) % 2 = if a.testBit p then 1 else 0 := by
  have e : (a : Int) / (2 : Int) ^ p = ((a / 2 ^ p : Nat) : Int) := by norm_cast
  rw [e]
  have h := Nat.testBit_eq_decide_div_mod_eq (x := a) (i := p)
  rw [h]
  by_cases hm : a / 2 ^ p % 2 = 1
  · rw [if_pos (by simpa using hm)]; omega
  · rw [if_neg (by simpa using hm)]; omega
theorem andNot_all : ∀ n : Nat, n < 11 → ∀ j : Nat, j < 2 ^ n → bits .andNot .i64 ((2 ^ n - 1 : Nat) : Int) (j : Int) = ((2 ^ n - 1 - j : Nat) : Int) := by decide +kernel
end Go.Proofs.Ytcffgjhmpgdfpaa

/- The reference's Of, True, Full, Rising, IsTruth: walks. -/
namespace Go.Proofs.Ytcffgjhmpgdfpaa
open Go Go.RowKit

def ofTo (c : Hou) (t : Int) (j : Nat) : List Nat := (List.range j).filter fun i => decide ((clipAt c i).ticket = t)
theorem ofTo_succ (c : Hou) (t : Int) (j : Nat) : ofTo c t (j + 1) = ofTo c t j ++ (if (clipAt c j).ticket = t then [j] else []) := by
  unfold ofTo
  rw [List.range_succ, List.filter_append]
  congr 1
  by_cases h : (clipAt c j).ticket = t <;> simp [h]
theorem nats_snoc (l : List Nat) (j : Nat) : ints (nats (l ++ [j])) = ints (nats l) ++ [.int .i64 (j : Int)] := by simp [nats, ints]
theorem nats_length (l : List Nat) : (nats l).length = l.length := by simp [nats]
/-- what Of returns -/
def OfRPost (c : Hou) (t : Int) (w : World) (e : Ending) (w' : World) : Prop := ∃ A k, e = .returned (.slice A (ofR c t).length k) ∧ Later w w' ∧ RI w' A (ofR c t).length (nats (ofR c t))
set_option maxRecDepth 100000 in
theorem Of_calls {A1 A2 A3 : Option Addr} {n1 k1 n2 k2 n3 k3 : Nat} {c : Hou} {t : Int} (w : World) (hc : CV w c A1 n1 A2 n2 A3 n3) (hn : n3 ≤ 1000) : Calls Try.prog 31 #[(.agg #[.int .i64 c.hour, .int .i64 c.grace, .slice A1 n1 k1, .slice A2 n2 k2, .slice A3 n3 k3]), .int .i64 t] w (OfRPost c t w) := by
  have hl3 := hc.cp.len
  have Hl3 := hide hl3
  clear hl3
  obtain ⟨w0, hw0⟩ : ∃ W, W = (w.alloc (.cells #[.int .i64 c.hour, .int .i64 c.grace, .slice A1 n1 k1, .slice A2 n2 k2, .slice A3 n3 k3] 26)) := ⟨_, rfl⟩; have hbox : ∀ W, Later w0 W → ∀ i, W.cell? ⟨w.heap.size, i, none⟩ = #[.int .i64 c.hour, .int .i64 c.grace, .slice A1 n1 k1, .slice A2 n2 k2, .slice A3 n3 k3][i]? := (by rw [hw0]; exact box_cells w #[.int .i64 c.hour, .int .i64 c.grace, .slice A1 n1 k1, .slice A2 n2 k2, .slice A3 n3 k3] 26); have hL0 : Later w w0 := (by rw [hw0]; simp); have hc0 := hc.later hL0; have Hw0 := hide hw0; clear hw0
  go_enter Try.func31, Try.ntmps31
  go_wp2_with fail
  rw [← Hw0.out]; clear Hw0
  go_loopw [5, 6] (fun v i wr => ∃ j : Nat, j ≤ n3 ∧ i = .int .i64 j ∧ wr.ownsRow w0.heap.size 3 1 v (ofTo c t j).length (ints (nats (ofTo c t j))) ∧ Later w0 wr) (fun _ i _ => n3 - (intOf i).toNat)
  case atStart => exact ⟨0, Nat.zero_le _, rfl, World.ownsRow_nil _ _ _ _, later_refl _⟩
  case round =>
    obtain ⟨j, hj, rfl, hown, hL⟩ := hrel
    by_cases hlt : j < n3
    · obtain ⟨b, o, x, rfl, _, hx, hx0, hx1, hx2⟩ := hc0.cp.get hlt
      have hi1 : (j : Int) < n3 := by omega
      have ht := ofTo_succ c t j
      rw [clipAt_of hx] at ht
      have hfl : (ofTo c t j).length ≤ 1000000 := by
        have := List.length_filter_le (fun i => decide ((clipAt c i).ticket = t)) (List.range j)
        rw [List.length_range] at this
        unfold ofTo; omega
      have hx0 := hx0 _ hL
      generalize ofTo c t j = fl at *
      clear hx hx1 hx2
      by_cases he : x.ticket = t
      · have heb : (x.ticket == t) = true := by simp [he]
        rw [if_pos he] at ht
        have Ht := hide ht
        clear ht he
        go_wp2_with (at_builtin; go_must (refine own_append (w0 := w0) (W := wr) (te := 3) rfl _ _ 35 rfl 3 (.int .i64 0) 1 8 Try.underlying35 int_info rfl (by omega) u5 fl.length (ints (nats fl)) rfl hL hown [.int .i64 j] rfl rfl ?_ hfl (by omega) ?_; (simp [Value.oneCell']); intro v' w4 hap; have hown4 := hap.own; have hL4 := hap.later; clear hap))
        go_roundw
        case rel =>
          refine ⟨j + 1, hlt, by go_num, ?_, hL4⟩
          rw [Ht.out, List.length_append, nats_snoc]; exact hown4
        case measure => simp [intOf]; omega
      · have heb : (x.ticket == t) = false := by simp [he]
        rw [if_neg he, List.append_nil] at ht
        have Ht := hide ht
        clear ht he
        go_wp2_with fail
        go_roundw
        case rel => exact ⟨j + 1, hlt, by go_num, by rw [Ht.out]; exact hown, hL⟩
        case measure => simp [intOf]; omega
    · have hfin : ofTo c t j = ofR c t := by
        rw [show j = c.clips.length by have := Hl3.out; omega]; rfl
      rw [hfin] at hown
      obtain ⟨A, k, rfl, hrd⟩ := own_slice hown
      generalize hq : ofR c t = q at *
      have Hq := hide hq
      clear hfin hq hown
      go_wp2_with fail
      go_ret
      exact ⟨A, k, by rw [Hq.out]; rfl, Later.trans hL0 hL, by rw [Hq.out]; exact hrd⟩

set_option maxRecDepth 100000 in
theorem True_calls {A1 A2 A3 : Option Addr} {n1 k1 n2 k2 n3 k3 : Nat} {c : Hou} {Ad : Option Addr} {nd kd : Nat} {d : List Int} {i : Nat} (w : World) (hc : CV w c A1 n1 A2 n2 A3 n3) (hd : RI w Ad nd d) (ok : OkH c) (he : IsErr c d) (hi : i < n3) :
    Calls Try.prog 9 #[(.agg #[.int .i64 c.hour, .int .i64 c.grace, .slice A1 n1 k1, .slice A2 n2 k2, .slice A3 n3 k3]), .slice Ad nd kd, .int .i64 (i : Int)] w fun e w' => e = .returned (.int .i64 (trueM c d i)) ∧ Later w w' := by
  have hl3 := hc.cp.len
  have hld := hd.len
  have hle := he.len
  have htr := trueM_range ok he (i := i) (by omega)
  obtain ⟨w0, hw0⟩ : ∃ W, W = (w.alloc (.cells #[.int .i64 c.hour, .int .i64 c.grace, .slice A1 n1 k1, .slice A2 n2 k2, .slice A3 n3 k3] 26)) := ⟨_, rfl⟩; have hbox : ∀ W, Later w0 W → ∀ i, W.cell? ⟨w.heap.size, i, none⟩ = #[.int .i64 c.hour, .int .i64 c.grace, .slice A1 n1 k1, .slice A2 n2 k2, .slice A3 n3 k3][i]? := (by rw [hw0]; exact box_cells w #[.int .i64 c.hour, .int .i64 c.grace, .slice A1 n1 k1, .slice A2 n2 k2, .slice A3 n3 k3] 26); have hL0 : Later w w0 := (by rw [hw0]; simp); have hc0 := hc.later hL0; have Hw0 := hide hw0; clear hw0
  have hd0 := hd.later hL0
  obtain ⟨b, o, x, rfl, _, hx, hx0, hx1, hx2⟩ := hc0.cp.get hi
  have okx := ok.clip x (List.mem_of_getElem? hx)
  have hck : x.clock.toNat < nd := by omega
  obtain ⟨bd, od, y, rfl, _, hy, hy0⟩ := hd0.get hck
  have hk0 : 0 ≤ x.clock := okx.2.2.1
  have hkd : x.clock < nd := by omega
  have hm : trueM c d i = x.minute - y := by
    unfold trueM minuteC
    rw [clipAt_of hx, List.getD_eq_getElem?_getD, hy, Option.getD_some]
  have hyr := he.range ok x.clock.toNat
  rw [List.getD_eq_getElem?_getD, hy, Option.getD_some] at hyr
  have hw1 : IntKind.i64.wrap (x.minute - y) = x.minute - y := IntWalk.i64_in _ (by omega)
  have hi1 : (i : Int) < n3 := by omega
  obtain ⟨w2, hw2⟩ : ∃ W, W = w0.alloc (.cells #[.int .i64 x.ticket, .int .i64 x.clock, .int .i64 x.minute] 60) := ⟨_, rfl⟩
  have hb2 := Blk.new w0 60 #[.int .i64 x.ticket, .int .i64 x.clock, .int .i64 x.minute]
  rw [← hw2] at hb2
  have hL2 : Later w0 w2 := by rw [hw2]; exact later_alloc (later_refl _) _
  have c1 := fun W (hW : Later w2 W) => (hb2.later hW).cell 1
  have c2 := fun W (hW : Later w2 W) => (hb2.later hW).cell 2
  simp only [List.getElem?_toArray, List.getElem?_cons_zero, List.getElem?_cons_succ] at c1 c2
  have hy0' := fun W (hW : Later w2 W) => hy0 W (Later.trans hL2 hW)
  have hx0 := hx0 _ (later_refl _)
  have hx1 := hx1 _ (later_refl _)
  have hx2 := hx2 _ (later_refl _)
  have Hw2 := hide hw2
  have Hm := hide hm
  have Hy := hide hy
  clear hx hy hl3 hld hle hw2 hm htr hyr hy0
  go_enter Try.func9, Try.ntmps9
  go_upto_region 1 with fail
  rw [← Hw0.out]; clear Hw0
  go_upto_region 2 with fail
  rw [← Hw2.out]
  refine wp_region_ext (w0 := w2) (by kernel_rfl) (by kernel_rfl) (later_refl _) ?_; (repeat (first | go_big_quiet_step (((fail))) | quiet_step (((fail))))); refine wpQuiet_nil ?_; rintro w3 ⟨⟨_, hL3⟩, rfl⟩; (try dsimp only)
  go_wp2_with fail
  go_ret
  exact ⟨by rw [Hm.out]; rfl, Later.trans hL0 (Later.trans hL2 hL3)⟩
theorem True_eq {A1 A2 A3 : Option Addr} {n1 k1 n2 k2 n3 k3 : Nat} {c : Hou} {Ad : Option Addr} {nd kd : Nat} {d : List Int} {i : Nat} {v : Int} (hv : trueM c d i = v) (w : World) (hc : CV w c A1 n1 A2 n2 A3 n3) (hd : RI w Ad nd d) (ok : OkH c) (he : IsErr c d) (hi : i < n3) :
    Calls Try.prog 9 #[(.agg #[.int .i64 c.hour, .int .i64 c.grace, .slice A1 n1 k1, .slice A2 n2 k2, .slice A3 n3 k3]), .slice Ad nd kd, .int .i64 (i : Int)] w fun e w' => e = .returned (.int .i64 v) ∧ Later w w' := by
  rw [← hv]; exact True_calls w hc hd ok he hi

theorem Full_calls {A1 A2 A3 : Option Addr} {n1 k1 n2 k2 n3 k3 : Nat} {c : Hou} (w : World) (hc : CV w c A1 n1 A2 n2 A3 n3) (hn : n3 ≤ 20) :
    Calls Try.prog 23 #[(.agg #[.int .i64 c.hour, .int .i64 c.grace, .slice A1 n1 k1, .slice A2 n2 k2, .slice A3 n3 k3])] w fun e w' => e = .returned (.int .i64 (full c : Nat)) ∧ Later w w' := by
  have hn3 := hc.cp.len
  have Hn3 := hide hn3
  clear hn3
  go_enter Try.func23, Try.ntmps23
  go_wp2_with fail
  go_ret
  refine ⟨ret_int ?_, by simp⟩
  rw [wrap_pow hn]
  have := pow_le20 hn
  have h0 : 0 < 2 ^ n3 := Nat.two_pow_pos _
  unfold full
  rw [← Hn3.out]
  generalize 2 ^ n3 = m at *
  (try unfold wrap64)
  omega
end Go.Proofs.Ytcffgjhmpgdfpaa

/- The reference's Fault: walk. -/
namespace Go.Proofs.Ytcffgjhmpgdfpaa
open Go Go.RowKit

theorem take_all_succ {α : Type} {p : α → Bool} {l : List α} {j : Nat} {x : α} (hx : l[j]? = some x) (h : (l.take j).all p = true) (hp : p x = true) : (l.take (j + 1)).all p = true := by
  rw [List.take_add_one, hx, Option.toList_some, List.all_append, h]
  simp [hp]
theorem all_bad {α : Type} {p : α → Bool} {l : List α} {j : Nat} {x : α} (hx : l[j]? = some x) (hp : p x = false) : l.all p = false := by
  rw [← Bool.not_eq_true, List.all_eq_true]
  intro h
  rw [h x (List.mem_of_getElem? hx)] at hp; cases hp
set_option maxRecDepth 100000 in
set_option maxHeartbeats 2000000 in
theorem Fault_calls {A1 A2 A3 : Option Addr} {n1 k1 n2 k2 n3 k3 : Nat} {c : Hou} (w : World) (hc : CV w c A1 n1 A2 n2 A3 n3) (hn1 : n1 ≤ 1000) (hn2 : n2 ≤ 1000) (hn3 : n3 ≤ 1000) :
    Calls Try.prog 13 #[(.agg #[.int .i64 c.hour, .int .i64 c.grace, .slice A1 n1 k1, .slice A2 n2 k2, .slice A3 n3 k3])] w fun e w' => e = .returned (.int .i64 (fault c)) ∧ Later w w' := by
  have hl1 := hc.ck.len
  have hl2 := hc.tk.len
  have hl3 := hc.cp.len
  by_cases hA : 4 < n1
  · have Hf : Hid (fault c = 3) := fault_lim (by unfold LimB; omega)
    have hA' : (4 : Int) < n1 := by omega
    clear hl1 hl2 hl3
    go_enter Try.func13, Try.ntmps13
    go_wp2_with fail
    go_ret
    exact ⟨ret_int Hf.out.symm, by simp⟩
  by_cases hB : 6 < n2
  · have Hf : Hid (fault c = 3) := fault_lim (by unfold LimB; omega)
    have hA' : ¬ (4 : Int) < n1 := by omega
    have hB' : (6 : Int) < n2 := by omega
    clear hl1 hl2 hl3
    go_enter Try.func13, Try.ntmps13
    go_wp2_with fail
    go_ret
    exact ⟨ret_int Hf.out.symm, by simp⟩
  by_cases hC : 10 < n3
  · have Hf : Hid (fault c = 3) := fault_lim (by unfold LimB; omega)
    have hA' : ¬ (4 : Int) < n1 := by omega
    have hB' : ¬ (6 : Int) < n2 := by omega
    have hC' : (10 : Int) < n3 := by omega
    clear hl1 hl2 hl3
    go_enter Try.func13, Try.ntmps13
    go_wp2_with fail
    go_ret
    exact ⟨ret_int Hf.out.symm, by simp⟩
  have hA' : ¬ (4 : Int) < n1 := by omega
  have hB' : ¬ (6 : Int) < n2 := by omega
  have hC' : ¬ (10 : Int) < n3 := by omega
  have Hlim : Hid (¬ LimB c) := by show ¬ LimB c; unfold LimB; omega
  have Hl1 := hide hl1
  have Hl2 := hide hl2
  have Hl3 := hide hl3
  clear hl1 hl2 hl3
  have hw1 : IntKind.i64.wrap ((n1 : Int) - 1) = (n1 : Int) - 1 := IntWalk.i64_in _ (by omega)
  have hw2 : IntKind.i64.wrap ((n2 : Int) - 1) = (n2 : Int) - 1 := IntWalk.i64_in _ (by omega)
  obtain ⟨w0, hw0⟩ : ∃ W, W = (w.alloc (.cells #[.int .i64 c.hour, .int .i64 c.grace, .slice A1 n1 k1, .slice A2 n2 k2, .slice A3 n3 k3] 26)) := ⟨_, rfl⟩; have hbox : ∀ W, Later w0 W → ∀ i, W.cell? ⟨w.heap.size, i, none⟩ = #[.int .i64 c.hour, .int .i64 c.grace, .slice A1 n1 k1, .slice A2 n2 k2, .slice A3 n3 k3][i]? := (by rw [hw0]; exact box_cells w #[.int .i64 c.hour, .int .i64 c.grace, .slice A1 n1 k1, .slice A2 n2 k2, .slice A3 n3 k3] 26); have hL0 : Later w w0 := (by rw [hw0]; simp); have hc0 := hc.later hL0; have Hw0 := hide hw0; clear hw0
  cases hD : inB c.hour 1 120 with
  | false =>
    have Hf : Hid (fault c = 1) := fault_one Hlim.out (Or.inl hD)
    go_enter Try.func13, Try.ntmps13
    go_wp2_with (go_at_call 30; refine (In_calls _ _ _ _).mono ?_; rintro e w' ⟨rfl, rfl⟩)
    rw [← Hw0.out]; clear Hw0
    go_ret
    exact ⟨ret_int Hf.out.symm, hL0⟩
  | true =>
  cases hE : inB c.grace 0 60 with
  | false =>
    have Hf : Hid (fault c = 1) := fault_one Hlim.out (Or.inr (Or.inl hE))
    go_enter Try.func13, Try.ntmps13
    go_wp2_with (go_at_call 30; refine (In_calls _ _ _ _).mono ?_; rintro e w' ⟨rfl, rfl⟩)
    rw [← Hw0.out]; clear Hw0
    go_ret
    exact ⟨ret_int Hf.out.symm, hL0⟩
  | true =>
  go_enter Try.func13, Try.ntmps13
  go_wp2_with (go_at_call 30; refine (In_calls _ _ _ _).mono ?_; rintro e w' ⟨rfl, rfl⟩)
  rw [← Hw0.out]; clear Hw0
  go_loopw [3, 4] (fun i _ wr => ∃ j : Nat, j ≤ n1 ∧ i = .int .i64 j ∧ Later w0 wr ∧ Hid ((c.clocks.take j).all clockOk = true)) (fun i _ _ => n1 - (intOf i).toNat)
  case atStart => exact ⟨0, Nat.zero_le _, rfl, later_refl _, rfl⟩
  case round =>
    obtain ⟨j, hj, rfl, hL, Hall⟩ := hrel
    by_cases hlt : j < n1
    · obtain ⟨b, o, x, rfl, _, hx, hx0, hx1⟩ := hc0.ck.get hlt
      have hi1 : (j : Int) < n1 := by omega
      cases hok : clockOk x with
      | true =>
        have o1 := clockOk_range hok
        obtain ⟨o1, o2, o3⟩ := o1
        have Hall2 : Hid ((c.clocks.take (j + 1)).all clockOk = true) := take_all_succ hx Hall.out hok
        clear hx hok Hall
        go_wp2_with fail
        go_roundw
        case rel => exact ⟨j + 1, by omega, by go_num, by simp [hL], Hall2⟩
        case measure => simp [intOf]; omega
      | false =>
        have Hf : Hid (fault c = 1) := fault_one Hlim.out (Or.inr (Or.inr (Or.inl (all_bad hx hok))))
        by_cases o1 : x.1 < -30
        · clear hok hx
          go_wp2_with fail
          go_ret
          exact ⟨ret_int Hf.out.symm, Later.trans hL0 (by simp [hL])⟩
        by_cases o2 : x.2 < x.1
        · clear hok hx
          go_wp2_with fail
          go_ret
          exact ⟨ret_int Hf.out.symm, Later.trans hL0 (by simp [hL])⟩
        by_cases o3 : 30 < x.2
        · clear hok hx
          go_wp2_with fail
          go_ret
          exact ⟨ret_int Hf.out.symm, Later.trans hL0 (by simp [hL])⟩
        exfalso
        simp [clockOk] at hok
        omega
    · have hall1 : c.clocks.all clockOk = true := by
        have := Hall.out
        rw [List.take_of_length_le (by have := Hl1.out; omega)] at this; exact this
      have okh : ∀ h ∈ c.clocks, -30 ≤ h.1 ∧ h.1 ≤ h.2 ∧ h.2 ≤ 30 := fun h hh => clockOk_range (List.all_eq_true.1 hall1 h hh)
      have Hall1 := hide hall1
      clear hall1 Hall
      go_wp2_with fail
      obtain ⟨wo, hwo⟩ : ∃ W, W = wr := ⟨_, rfl⟩
      rw [← hwo] at hL
      rw [← hwo]
      clear hwo
      go_loopw [5, 6] (fun i _ wr => ∃ j : Nat, j ≤ n3 ∧ i = .int .i64 j ∧ Later w0 wr ∧ Hid ((c.clips.take j).all (clipOk c.clocks.length c.tickets.length) = true)) (fun i _ _ => n3 - (intOf i).toNat)
      case atStart => exact ⟨0, Nat.zero_le _, rfl, hL, rfl⟩
      case round =>
        obtain ⟨q, hq, rfl, hLq, Hall⟩ := hrel
        by_cases hltq : q < n3
        · obtain ⟨b, o, x, rfl, _, hx, hx0, hx1, hx2⟩ := hc0.cp.get hltq
          have hi1 : (q : Int) < n3 := by omega
          have hlk : clipOk c.clocks.length c.tickets.length x = (inB x.ticket 0 ((n2 : Int) - 1) && inB x.clock 0 ((n1 : Int) - 1) && inB x.minute 0 1439) := by rw [Hl1.out, Hl2.out]; rfl
          cases p1 : inB x.ticket 0 ((n2 : Int) - 1) with
          | false =>
            have Hf : Hid (fault c = 1) := fault_one Hlim.out (Or.inr (Or.inr (Or.inr (Or.inr (Or.inl (all_bad hx (by rw [hlk, p1]; rfl)))))))
            clear hx hlk Hall
            go_wp2_with (go_at_call 30; refine (In_calls _ _ _ _).mono ?_; rintro e w' ⟨rfl, rfl⟩)
            go_ret
            exact ⟨ret_int Hf.out.symm, Later.trans hL0 (by simp [hLq])⟩
          | true =>
          cases p2 : inB x.clock 0 ((n1 : Int) - 1) with
          | false =>
            have Hf : Hid (fault c = 1) := fault_one Hlim.out (Or.inr (Or.inr (Or.inr (Or.inr (Or.inl (all_bad hx (by rw [hlk, p1, p2]; rfl)))))))
            clear hx hlk Hall
            go_wp2_with (go_at_call 30; refine (In_calls _ _ _ _).mono ?_; rintro e w' ⟨rfl, rfl⟩)
            go_ret
            exact ⟨ret_int Hf.out.symm, Later.trans hL0 (by simp [hLq])⟩
          | true =>
          cases p3 : inB x.minute 0 1439 with
          | false =>
            have Hf : Hid (fault c = 1) := fault_one Hlim.out (Or.inr (Or.inr (Or.inr (Or.inr (Or.inl (all_bad hx (by rw [hlk, p1, p2, p3]; rfl)))))))
            clear hx hlk Hall
            go_wp2_with (go_at_call 30; refine (In_calls _ _ _ _).mono ?_; rintro e w' ⟨rfl, rfl⟩)
            go_ret
            exact ⟨ret_int Hf.out.symm, Later.trans hL0 (by simp [hLq])⟩
          | true =>
            have Hall2 : Hid ((c.clips.take (q + 1)).all (clipOk c.clocks.length c.tickets.length) = true) := take_all_succ hx Hall.out (by rw [hlk, p1, p2, p3]; rfl)
            clear hx hlk Hall
            go_wp2_with (go_at_call 30; refine (In_calls _ _ _ _).mono ?_; rintro e w' ⟨rfl, rfl⟩)
            go_roundw
            case rel => exact ⟨q + 1, by omega, by go_num, by simp [hLq], Hall2⟩
            case measure => simp [intOf]; omega
        · have Hall3 : Hid (c.clips.all (clipOk c.clocks.length c.tickets.length) = true) := by
            have := Hall.out
            rw [List.take_of_length_le (by have := Hl3.out; omega)] at this; exact this
          clear Hall
          go_wp2_with fail
          obtain ⟨wo2, hwo2⟩ : ∃ W, W = wr := ⟨_, rfl⟩
          rw [← hwo2] at hLq
          rw [← hwo2]
          clear hwo2
          go_loopw [7] (fun i wr => ∃ j : Nat, j ≤ n2 ∧ i = .int .i64 j ∧ Later w0 wr ∧ Hid ((List.range j).all (fun i => tickOk (tickAt c i) && ofOk c i) = true)) (fun i _ => n2 - (intOf i).toNat)
          case atStart => exact ⟨0, Nat.zero_le _, rfl, hLq, rfl⟩
          case round =>
            obtain ⟨s, hs, rfl, hLs, Hall⟩ := hrel
            by_cases hlts : s < n2
            · obtain ⟨b, o, x, rfl, _, hx, hx0, hx1⟩ := hc0.tk.get hlts
              have hi1 : (s : Int) < n2 := by omega
              have hrow : (tickOk (tickAt c s) && ofOk c s) = (inB x.1 0 8 && inB x.2 0 9 && decide ((ofR c s).length ≤ 2)) := by rw [tickAt_of hx]; rfl
              have hia := range_all_succ (fun i => tickOk (tickAt c i) && ofOk c i) s
              rw [Hall.out, Bool.true_and, hrow] at hia
              have hbad : (inB x.1 0 8 && inB x.2 0 9 && decide ((ofR c s).length ≤ 2)) = false → fault c = 1 := fun h => by
                have h2 : (List.range c.tickets.length).all (fun i => tickOk (tickAt c i) && ofOk c i) = false := range_all_false (j := s) (by have := Hl2.out; omega) (by rw [hrow]; exact h)
                rw [ticks_all, Bool.and_eq_false_iff] at h2
                rcases h2 with h2 | h2
                · exact fault_one Hlim.out (Or.inr (Or.inr (Or.inr (Or.inl h2))))
                · exact fault_one Hlim.out (Or.inr (Or.inr (Or.inr (Or.inr (Or.inr h2)))))
              have Hia := hide hia
              have Hbad := hide hbad
              clear hia hbad hrow hx Hall
              cases p1 : inB x.1 0 8 with
              | false =>
                have Hf : Hid (fault c = 1) := Hbad.out (by rw [p1]; rfl)
                clear Hia Hbad
                go_wp2_with (go_at_call 30; refine (In_calls _ _ _ _).mono ?_; rintro e w' ⟨rfl, rfl⟩)
                go_ret
                exact ⟨ret_int Hf.out.symm, Later.trans hL0 (by simp [hLs])⟩
              | true =>
              cases p2 : inB x.2 0 9 with
              | false =>
                have Hf : Hid (fault c = 1) := Hbad.out (by rw [p1, p2]; rfl)
                clear Hia Hbad
                go_wp2_with (go_at_call 30; refine (In_calls _ _ _ _).mono ?_; rintro e w' ⟨rfl, rfl⟩)
                go_ret
                exact ⟨ret_int Hf.out.symm, Later.trans hL0 (by simp [hLs])⟩
              | true =>
                rw [p1, p2, Bool.true_and, Bool.true_and] at Hia Hbad
                go_wp2_with (go_at_call 30; refine (In_calls _ _ _ _).mono ?_; rintro e w' ⟨rfl, rfl⟩)
                refine (Of_calls (k1 := k1) (k2 := k2) (k3 := k3) _ (hc0.later hLs) hn3).mono ?_
                rintro e w1 ⟨A, k, rfl, hL1, hri⟩
                clear hri
                generalize (ofR c s).length = m at *
                by_cases p3 : m ≤ 2
                · rw [decide_eq_true p3] at Hia
                  have p4 : ¬ (2 : Int) < m := by omega
                  go_wp2_with fail
                  go_roundw
                  case rel => exact ⟨s + 1, by omega, by go_num, Later.trans hLs hL1, Hia.out⟩
                  case measure => simp [intOf]; omega
                · have Hf : Hid (fault c = 1) := Hbad.out (decide_eq_false p3)
                  have p4 : (2 : Int) < m := by omega
                  clear Hia Hbad
                  go_wp2_with fail
                  go_ret
                  exact ⟨ret_int Hf.out.symm, Later.trans hL0 (Later.trans hLs hL1)⟩
            · have hall4 := Hall.out
              rw [show s = c.tickets.length by have := Hl2.out; omega, ticks_all, Bool.and_eq_true] at hall4
              have Hf : Hid (fault c = if 2000 < many c then 3 else 0) := fault_many Hlim.out hD hE Hall1.out hall4.1 Hall3.out hall4.2
              clear hall4 Hall Hall1 Hall3
              go_wp2_with fail
              refine (Many_calls _ (hc0.later hLs) okh (by omega)).mono ?_
              rintro e w3 ⟨rfl, hL3⟩
              by_cases hm : 2000 < many c
              · rw [if_pos hm] at Hf
                go_wp2_with fail
                go_ret
                exact ⟨ret_int Hf.out.symm, Later.trans hL0 (Later.trans hLs hL3)⟩
              · rw [if_neg hm] at Hf
                go_wp2_with fail
                go_ret
                exact ⟨ret_int Hf.out.symm, Later.trans hL0 (Later.trans hLs hL3)⟩
end Go.Proofs.Ytcffgjhmpgdfpaa

/- The reference's Rising, IsTruth: walks. -/
namespace Go.Proofs.Ytcffgjhmpgdfpaa
open Go Go.RowKit

def rowK (c : Hou) (d : List Int) (bits i k : Nat) : Bool := !(bits.testBit i && bits.testBit k && decide (trueM c d i < trueM c d k))
def rowR (c : Hou) (d : List Int) (bits i : Nat) : Bool := (List.range i).all (rowK c d bits i)
theorem risingR_rows (c : Hou) (d : List Int) (bits : Nat) : risingR c d bits = (List.range c.clips.length).all (rowR c d bits) := rfl
theorem shr_bit (bits p : Nat) (hp : p ≤ 20) : ∃ q : Nat, (bits : Int) / 2 ^ p = (q : Int) ∧ (bits : Int) / 2 ^ min p 64 = (q : Int) ∧ (((q : Int) % 2 == 1) = bits.testBit p) ∧ q ≤ bits := by
  refine ⟨bits / 2 ^ p, by norm_cast, by rw [show min p 64 = p by omega]; norm_cast, ?_, Nat.div_le_self _ _⟩
  rw [Nat.testBit_eq_decide_div_mod_eq]
  generalize bits / 2 ^ p = q
  by_cases h : q % 2 = 1
  · rw [decide_eq_true h]; simp; omega
  · rw [decide_eq_false h]; simp; omega
set_option maxRecDepth 100000 in
set_option maxHeartbeats 1000000 in
theorem Rising_calls {A1 A2 A3 : Option Addr} {n1 k1 n2 k2 n3 k3 : Nat} {c : Hou} {Ad : Option Addr} {nd kd : Nat} {d : List Int} {bits : Nat} (w : World) (hc : CV w c A1 n1 A2 n2 A3 n3) (hd : RI w Ad nd d) (ok : OkH c) (he : IsErr c d) (hb : bits ≤ 1048576) :
    Calls Try.prog 22 #[(.agg #[.int .i64 c.hour, .int .i64 c.grace, .slice A1 n1 k1, .slice A2 n2 k2, .slice A3 n3 k3]), .slice Ad nd kd, .int .i64 (bits : Int)] w fun e w' => e = .returned (.bool (risingR c d bits)) ∧ Later w w' := by
  have hl3 := hc.cp.len
  have hn3 := ok.n3
  have hn10 : n3 ≤ 10 := by omega
  have hrr := risingR_rows c d bits
  rw [← hl3] at hrr
  have Hrr := hide hrr
  clear hl3 hn3 hrr
  obtain ⟨w0, hw0⟩ : ∃ W, W = (w.alloc (.cells #[.int .i64 c.hour, .int .i64 c.grace, .slice A1 n1 k1, .slice A2 n2 k2, .slice A3 n3 k3] 26)) := ⟨_, rfl⟩; have hbox : ∀ W, Later w0 W → ∀ i, W.cell? ⟨w.heap.size, i, none⟩ = #[.int .i64 c.hour, .int .i64 c.grace, .slice A1 n1 k1, .slice A2 n2 k2, .slice A3 n3 k3][i]? := (by rw [hw0]; exact box_cells w #[.int .i64 c.hour, .int .i64 c.grace, .slice A1 n1 k1, .slice A2 n2 k2, .slice A3 n3 k3] 26); have hL0 : Later w w0 := (by rw [hw0]; simp); have hc0 := hc.later hL0; have Hw0 := hide hw0; clear hw0
  have hd0 := hd.later hL0
  have hT0 := fun (W : World) (h : Later w0 W) i (hi : i < n3) => True_calls (k1 := k1) (k2 := k2) (k3 := k3) (kd := kd) W (hc0.later h) (hd0.later h) ok he hi
  have HT := hide hT0
  clear hT0
  go_enter Try.func22, Try.ntmps22
  go_wp2_with fail
  rw [← Hw0.out]; clear Hw0
  go_loopw [7, 8] (fun u _ wr => ∃ i : Nat, i ≤ n3 ∧ u = .int .i64 i ∧ Later w0 wr ∧ Hid ((List.range i).all (rowR c d bits) = true)) (fun u _ _ => n3 - (intOf u).toNat)
  case atStart => exact ⟨0, Nat.zero_le _, rfl, later_refl _, rfl⟩
  case round =>
    obtain ⟨i, hi, rfl, hL, Hall⟩ := hrel
    by_cases hlt : i < n3
    · have hi1 : (i : Int) < n3 := by omega
      have hia := range_all_succ (rowR c d bits) i
      rw [Hall.out, Bool.true_and] at hia
      have Hia := hide hia
      clear hia Hall
      go_wp2_with fail
      obtain ⟨wo, hwo⟩ : ∃ W, W = wr := ⟨_, rfl⟩
      rw [← hwo] at hL
      rw [← hwo]
      clear hwo
      go_loopw [8] (fun u wr => ∃ k : Nat, k ≤ i ∧ u = .int .i64 k ∧ Later w0 wr ∧ Hid ((List.range k).all (rowK c d bits i) = true)) (fun u _ => i - (intOf u).toNat)
      case atStart => exact ⟨0, Nat.zero_le _, rfl, hL, rfl⟩
      case round =>
        obtain ⟨k, hk, rfl, hLk, Hk⟩ := hrel
        by_cases hltk : k < i
        · have hk1 : (k : Int) < i := by omega
          obtain ⟨qi, s1, s2, s3, s4⟩ := shr_bit bits i (by omega)
          obtain ⟨qk, r1, r2, r3, r4⟩ := shr_bit bits k (by omega)
          have hrow : rowK c d bits i k = !(bits.testBit i && bits.testBit k && decide (trueM c d i < trueM c d k)) := rfl
          have hik : k < n3 := by omega
          have hka := range_all_succ (rowK c d bits i) k
          rw [Hk.out, Bool.true_and, hrow] at hka
          have hbad : rowK c d bits i k = false → risingR c d bits = false := fun h => by
            rw [Hrr.out]
            exact range_all_false hlt (range_all_false hltk h)
          rw [hrow] at hbad
          have Hka := hide hka
          have Hbad := hide hbad
          clear hka hbad hrow
          cases b1 : bits.testBit i with
          | false =>
            rw [b1] at s3 Hka
            clear b1 Hbad
            go_wp2_with fail
            refine wp_region_ext (w0 := w0) (by kernel_rfl) (by kernel_rfl) hLk ?_; (repeat (first | go_big_quiet_step (((fail))) | quiet_step (((fail))))); refine wpQuiet_nil ?_; rintro w3 ⟨⟨_, hL3⟩, rfl⟩; (try dsimp only)
            go_wp2_with fail
            go_roundw
            case rel => exact ⟨k + 1, hltk, by go_num, hL3, Hka.out⟩
            case measure => simp [intOf]; omega
          | true =>
          cases b2 : bits.testBit k with
          | false =>
            rw [b1] at s3
            rw [b1, b2] at Hka
            rw [b2] at r3
            clear b1 b2 Hbad
            go_wp2_with fail
            refine wp_region_ext (w0 := w0) (by kernel_rfl) (by kernel_rfl) hLk ?_; (repeat (first | go_big_quiet_step (((fail))) | quiet_step (((fail))))); refine wpQuiet_nil ?_; rintro w3 ⟨⟨_, hL3⟩, rfl⟩; (try dsimp only)
            go_wp2_with fail
            go_roundw
            case rel => exact ⟨k + 1, hltk, by go_num, hL3, Hka.out⟩
            case measure => simp [intOf]; omega
          | true =>
            rw [b1] at s3
            rw [b2] at r3
            rw [b1, b2] at Hka Hbad
            clear b1 b2
            by_cases hlt3 : trueM c d i < trueM c d k
            · rw [decide_eq_true hlt3] at Hbad
              have Hfin : Hid (risingR c d bits = false) := Hbad.out rfl
              clear Hbad Hka
              go_wp2_with fail
              refine wp_region_ext (w0 := w0) (by kernel_rfl) (by kernel_rfl) hLk ?_; (repeat (first | go_big_quiet_step (((go_at_call 9; exact calls_ext (by (repeat (first | assumption | exact Ext.h _ | refine later_drew ?_ | refine later_alloc ?_ _ | refine later_set ?_ _ (Nat.le_add_right _ _) _ | refine later_set ?_ _ (Nat.le_refl _) _)); done) (HT.out _ (by (repeat (first | assumption | exact Ext.h _ | refine later_drew ?_ | refine later_alloc ?_ _ | refine later_set ?_ _ (Nat.le_add_right _ _) _ | refine later_set ?_ _ (Nat.le_refl _) _)); done) _ (by assumption))))) | quiet_step (((go_at_call 9; exact calls_ext (by (repeat (first | assumption | exact Ext.h _ | refine later_drew ?_ | refine later_alloc ?_ _ | refine later_set ?_ _ (Nat.le_add_right _ _) _ | refine later_set ?_ _ (Nat.le_refl _) _)); done) (HT.out _ (by (repeat (first | assumption | exact Ext.h _ | refine later_drew ?_ | refine later_alloc ?_ _ | refine later_set ?_ _ (Nat.le_add_right _ _) _ | refine later_set ?_ _ (Nat.le_refl _) _)); done) _ (by assumption))))))); refine wpQuiet_nil ?_; rintro w3 ⟨⟨_, hL3⟩, rfl⟩; (try dsimp only)
              go_wp2_with fail
              go_ret
              exact ⟨by rw [Hfin.out]; rfl, Later.trans hL0 hL3⟩
            · rw [decide_eq_false hlt3] at Hka
              clear Hbad
              go_wp2_with fail
              refine wp_region_ext (w0 := w0) (by kernel_rfl) (by kernel_rfl) hLk ?_; (repeat (first | go_big_quiet_step (((go_at_call 9; exact calls_ext (by (repeat (first | assumption | exact Ext.h _ | refine later_drew ?_ | refine later_alloc ?_ _ | refine later_set ?_ _ (Nat.le_add_right _ _) _ | refine later_set ?_ _ (Nat.le_refl _) _)); done) (HT.out _ (by (repeat (first | assumption | exact Ext.h _ | refine later_drew ?_ | refine later_alloc ?_ _ | refine later_set ?_ _ (Nat.le_add_right _ _) _ | refine later_set ?_ _ (Nat.le_refl _) _)); done) _ (by assumption))))) | quiet_step (((go_at_call 9; exact calls_ext (by (repeat (first | assumption | exact Ext.h _ | refine later_drew ?_ | refine later_alloc ?_ _ | refine later_set ?_ _ (Nat.le_add_right _ _) _ | refine later_set ?_ _ (Nat.le_refl _) _)); done) (HT.out _ (by (repeat (first | assumption | exact Ext.h _ | refine later_drew ?_ | refine later_alloc ?_ _ | refine later_set ?_ _ (Nat.le_add_right _ _) _ | refine later_set ?_ _ (Nat.le_refl _) _)); done) _ (by assumption))))))); refine wpQuiet_nil ?_; rintro w3 ⟨⟨_, hL3⟩, rfl⟩; (try dsimp only)
              go_wp2_with fail
              go_roundw
              case rel => exact ⟨k + 1, hltk, by go_num, hL3, Hka.out⟩
              case measure => simp [intOf]; omega
        · have hki : k = i := by omega
          subst hki
          have hk1 : ¬ (k : Int) < k := by omega
          have Hia2 : Hid ((List.range (k + 1)).all (rowR c d bits) = true) := by
            show _ = _
            rw [Hia.out]; exact Hk.out
          clear Hia Hk
          go_wp2_with fail
          go_roundw
          case rel => exact ⟨k + 1, hlt, by go_num, hLk, Hia2⟩
          case measure => simp [intOf]; omega
    · have hin : i = n3 := by omega
      subst hin
      have Hfin : Hid (risingR c d bits = true) := by show _ = _; rw [Hrr.out]; exact Hall.out
      clear Hall
      go_wp2_with fail
      go_ret
      exact ⟨by rw [Hfin.out]; rfl, Later.trans hL0 hL⟩
end Go.Proofs.Ytcffgjhmpgdfpaa
