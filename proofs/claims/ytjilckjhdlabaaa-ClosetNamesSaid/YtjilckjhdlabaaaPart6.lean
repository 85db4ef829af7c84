/- Part 6 of the proof: joined from the texts CloT, CloU, AskD, CloV, CloW, CloX, CloY, RefD, Bits, RefE, RefI. -/
import Derived.Test.YtjilckjhdlabaaaPart5
import Derived.Test.YtjilckjhdlabaaaPart1
import Derived.Test.YtjilckjhdlabaaaPart3
import Derived.Maps.OwnSet
import Derived.Maps.Views
import Derived.DeepKeys4
import Derived.WalkMore
import Derived.Laws.BitsAllLaws
import Derived.Laws.BitsLemmas
import Derived.RowKit
set_option linter.unusedSimpArgs false
set_option linter.unusedVariables false
/- The program's dry: a map keyed by a horse and a minute: walk. -/
namespace Go.Proofs.Ytjilckjhdlabaaa
open Go Go.RowKit Go.Maps

/-! ### spots as keys -/
theorem laidOut_ : laidOutB Try.prog = true := by kernel_rfl
theorem row_spot : (133 : TypeId) < Try.prog.types.size := of_decide_eq_true (by kernel_rfl)
theorem cells_spot : Try.prog.cellsOf 133 = 2 := by kernel_rfl
theorem wide_spot : (match Try.prog.underlying 133 with | some (.array _ _) | some (.struct _) => true | _ => false) = true := by kernel_rfl
theorem deep_spot : Try.prog.keyTypeAt 2 133 = true := by kernel_rfl
set_option maxRecDepth 100000 in
theorem law_spot : Keyed Try.prog 133 := Keyed.of_law (deep_law_laid (P := Try.prog) laidOut_ (m := 2) (Nat.le_of_ble_eq_true rfl) row_spot deep_spot wide_spot)
def kl (h m : Int) : Lit := .string (keyBytes [.int .i64 h, .int .i64 m])
theorem size_succ : ∃ m, Try.prog.types.size = m + 1 + 1 := ⟨Try.prog.types.size - 2, by
  have h : (133 : Nat) < Try.prog.types.size := row_spot
  omega⟩
theorem keyOf_spot {h m : Int} (wh : (Lit.int .i64 h).wf = true) (wm : (Lit.int .i64 m).wf = true) : keyOf Try.prog 133 (.agg #[.int .i64 h, .int .i64 m]) = some (kl h m) := by
  have hkt : Try.prog.keyType 133 = true := by kernel_rfl
  have hi : Try.prog.underlying 3 = some (.int .i64) := by kernel_rfl
  have hci : Try.prog.cellsOf 3 = 1 := by kernel_rfl
  obtain ⟨k, hk⟩ := size_succ
  unfold keyOf
  simp only [Try.underlying133]
  rw [if_pos (by simp [hkt, Value.formed, Try.underlying133, cells_spot]), hk]
  unfold Program.keyLits
  simp only [Try.underlying133, Value.cells]
  rw [if_pos (by rw [cells_spot]; exact ⟨rfl, by kernel_rfl⟩)]
  simp [List.mapM_cons, hci, Program.keyLits, hi, wh, wm, kl]
theorem kl_inj {h m h' m' : Int} (wh : (Lit.int .i64 h).wf = true) (wm : (Lit.int .i64 m).wf = true) (wh' : (Lit.int .i64 h').wf = true) (wm' : (Lit.int .i64 m').wf = true) (e : kl h m = kl h' m') : h = h' ∧ m = m' := by
  have := law_spot.inj (keyOf_spot wh wm) (by rw [e]; exact keyOf_spot wh' wm')
  simp only [Value.agg.injEq, Array.mk.injEq, List.cons.injEq, Value.int.injEq, true_and, and_true] at this
  exact this

/-! ### a map apart: all else lies as it lay -/
theorem Reads.but {g : Nat} {A B : World} {size : Nat} {a : Option Addr} {n : Nat} {xs : List Value} {es : Array MapEntry} {cl : Nat} (h : Reads A A.heap.size size a n xs) (hs : 0 < size) (hm : A.heap[g]? = some (.map es cl)) (k : But g A B) : Reads B B.heap.size size a n xs := by
  refine ⟨h.1, fun hn => ?_⟩
  obtain ⟨b, o, rfl, hb, hc⟩ := Reads.lit h hs hn
  have hl : 0 < xs.length := by rw [h.1]; exact Nat.mul_pos hn hs
  have hne : b ≠ g := by
    intro e
    subst e
    have := hc 0 _ (List.getElem?_eq_getElem hl)
    unfold World.cell? at this
    simp only [hm] at this
    cases this
  refine ⟨_, rfl, Nat.lt_of_lt_of_le hb k.size, fun j u hu => ?_⟩
  rw [add_lit]
  exact (World.cell?_of_block (a := ⟨b, o + j, none⟩) (k.block b hb hne)).trans (hc j u hu)
theorem WK.but {g : Nat} {A B : World} {es : Array MapEntry} {cl : Nat} {bw : Nat} {c : Clo} {A1 A2 A3 At : Option Addr} {n1 k1 n2 k2 n3 k3 nt kt : Nat} {tr : List (List Int)} {vm : Value}
    (h : WK A bw c A1 n1 k1 A2 n2 k2 A3 n3 k3 At nt kt tr vm) (hm : A.heap[g]? = some (.map es cl)) (k : But g A B) : WK B bw c A1 n1 k1 A2 n2 k2 A3 n3 k3 At nt kt tr vm := by
  have hne : bw ≠ g := by
    intro e
    subst e
    have := h.cells 0
    unfold World.cell? at this
    simp only [hm] at this
    cases this
  exact ⟨fun i => (World.cell?_of_block (a := ⟨bw, i, none⟩) (k.block bw h.lt hne)).trans (h.cells i), Nat.lt_of_lt_of_le h.lt k.size,
    ⟨Reads.but h.cv.hs (by omega) hm k, Reads.but h.cv.hu (by omega) hm k, Reads.but h.cv.lk (by omega) hm k⟩, Reads.but h.tr (by omega) hm k⟩
theorem But.of_grown {g : Nat} {A B : World} (h : A.grownBy B (some g)) : But g A B := ⟨h.os, h.tape, h.output, h.size, fun b hb hne => h.block b hb fun e => hne (by injection e)⟩

/-- how the map of known numbers reads -/
def Known (w : World) (bm n : Nat) (D : DataW Unit) : Prop := w.ownsMap Try.prog 133 (plainElem Try.prog 3) bm n D
theorem Known.heap {w : World} {bm n : Nat} {D : DataW Unit} (h : Known w bm n D) : ∃ es cl, w.heap[bm]? = some (.map es cl) := by
  obtain ⟨es, cl, hb, _⟩ := h
  exact ⟨es, cl, hb⟩
theorem Known.later {w W : World} {bm n : Nat} {D : DataW Unit} (h : Known w bm n D) (hL : Later w W) : Known W bm n D := by
  obtain ⟨es, cl, hb, rest⟩ := h
  exact ⟨es, cl, (hL.block bm (Array.getElem?_eq_some_iff.1 hb).1).trans hb, rest⟩
theorem Known.made {w : World} {bm : Nat} (h : w.heap[bm]? = some (.map #[] 0)) : Known w bm 0 (.map []) := by
  obtain ⟨es, cl, hb, rest⟩ := World.ownsMap_made (H := Unit) w Try.prog 133 (plainElem Try.prog 3)
  have := heap_alloc_new w (.map #[] 0)
  rw [this] at hb
  injection hb with hb
  injection hb with h1 h2
  subst h1 h2
  exact ⟨#[], 0, h, rest⟩
theorem zero_int (w : World) : (zeroValue 3).run Try.prog w = .ok (.int .i64 0) w := by kernel_rfl
theorem und_int : Try.prog.underlying 3 = some (.int .i64) := by kernel_rfl
theorem und_map : Try.prog.underlying 128 = some (.map 133 3) := by kernel_rfl
/-- a spot that is not known reads as 0, false -/
theorem look_new {w : World} {bm n : Nat} {D : DataW Unit} {h m : Int} (hk : Known w bm n D) (wh : (Lit.int .i64 h).wf = true) (wm : (Lit.int .i64 m).wf = true) (hn : Maps.has D (kl h m) = false) :
    (Instr.lookup 128 (.map (some bm)) (.agg #[.int .i64 h, .int .i64 m]) true).run Try.prog w = .ok (.tuple #[.int .i64 0, .bool false]) w := by
  obtain ⟨v, ps, hrun, hv⟩ := World.ownsMap.look_ok hk law_spot und_map (zero_int w) (plainElem_int und_int (by decide)) (keyOf_spot wh wm)
  rw [hn] at hrun
  rw [atKey_of_not_has hn] at hv
  obtain ⟨c, rfl, hc, _⟩ := plainElem_int_inv und_int hv
  simp only [Prod.mk.injEq, DataW.lit.injEq, Lit.int.injEq, true_and] at hc
  rw [← hc.1] at hrun
  exact hrun
end Go.Proofs.Ytjilckjhdlabaaa

/- The program's dry: walk. -/
namespace Go.Proofs.Ytjilckjhdlabaaa
open Go Go.RowKit Go.Maps

def DryPost (bm n : Nat) (D : DataW Unit) (h m q : Int) (w : World) (e : Ending) (w' : World) : Prop :=
  e = .returned (.int .i64 q) ∧ But bm w w' ∧ Known w' bm (n + 1) (D.put (kl h m) (.lit (.int .i64 q)))

set_option maxRecDepth 100000 in
set_option maxHeartbeats 1000000 in
theorem dry_calls {A1 A2 A3 At : Option Addr} {n1 k1 n2 k2 n3 k3 nt kt bw bm n : Nat} {c : Clo} {tr : List (List Int)} {D : DataW Unit} {k m : Nat} (w : World)
    (hw : WK w bw c A1 n1 k1 A2 n2 k2 A3 n3 k3 At nt kt tr (.map (some bm))) (ok : OkC c) (hdry : ∀ d ∈ tr, IsDry c d) (htl : nt ≤ 2000) (hhc : k < c.horses.length) (hm99 : m ≤ 99)
    (hkn : Known w bm n D) (hn : n ≤ 100000) (hnew : Maps.has D (kl k m) = false) :
    Calls Try.prog 86 #[.pointer (some ⟨bw, 0, none⟩), .agg #[.int .i64 (k : Int), .int .i64 (m : Int)]] w (DryPost bm n D k m (dryP c tr k m) w) := by
  have hl4 := ok.len
  have hh4 : k < 4 := by omega
  have hk4 : (k : Int) < 4 := by omega
  have hpl := ok.hung
  have wfk : (Lit.int .i64 (k : Int)).wf = true := WalkArith.wf_i64 (by omega)
  have wfm : (Lit.int .i64 (m : Int)).wf = true := WalkArith.wf_i64 (by omega)
  obtain ⟨w0, hw0⟩ : ∃ X, X = w.alloc (.cells #[.int .i64 (k : Int), .int .i64 (m : Int)] 133) := ⟨_, rfl⟩
  have hL0 : Later w w0 := by rw [hw0]; exact later_alloc (later_refl _) _
  have bs : Blk w0 w.heap.size 133 #[.int .i64 (k : Int), .int .i64 (m : Int)] := by rw [hw0]; exact Blk.new _ _ _
  have hw0k := hw.later hL0
  have hlook := fun W (hW : Later w0 W) => look_new (hkn.later (Later.trans hL0 hW)) wfk wfm hnew
  have s0 := fun W hW => bs.cells_later W hW 0
  have s1 := fun W hW => bs.cells_later W hW 1
  have c6 := fun W (hW : Later w0 W) => (hw0k.later hW).cells 6
  simp only [List.getElem?_toArray, List.getElem?_cons_zero, List.getElem?_cons_succ] at s0 s1 c6
  have hnt := hw.tr.len
  have Hnt := hide hnt
  have Hw0 := hide hw0
  clear hw0 hnt
  go_enter Try.func86, Try.ntmps86
  go_wp2_with fail
  rw [← Hw0.out]; clear Hw0
  refine wp_region_ext (w0 := w0) (by kernel_rfl) (by kernel_rfl) (later_refl _) ?_; (repeat (first | go_big_quiet_step (((fail))) | quiet_step (((fail))))); refine wpQuiet_nil ?_; rintro w1 ⟨⟨_, hL1⟩, rfl⟩; (try dsimp only)
  have hwd := hw0k
  clear hlook
  have hw := hw0k.later hL1
  have t5 := hw.cells 5
  simp only [List.getElem?_toArray, List.getElem?_cons_zero, List.getElem?_cons_succ] at t5
  go_wp2_with fail
  go_loopw [25, 5] (fun i v wr => ∃ j : Nat, j ≤ nt ∧ i = .int .i64 j ∧ v = .int .i64 ((tr.take j).countP fun d => decide (minuteR c c.hung d k ≤ m)) ∧ Later w1 wr) (fun i _ _ => nt - (intOf i).toNat)
  case atStart => exact ⟨0, Nat.zero_le _, rfl, by simp, later_refl _⟩
  case round =>
    obtain ⟨j, hj, rfl, rfl, hL⟩ := hrel
    by_cases hlt : j < nt
    · obtain ⟨bt, ot, d, e0, e1, e2, e3, hAt, _, hx, He4, hx0, hx1, hx2, hx3⟩ := hw.tr.get hlt
      subst hAt
      have hdr := hdry d (List.mem_of_getElem? hx)
      obtain ⟨m0, m1, m2, m3, hm⟩ : ∃ m0 m1 m2 m3, minutesP c c.hung (pad4 d) = [m0, m1, m2, m3] := ⟨_, _, _, _, rfl⟩
      obtain ⟨mh, hmh⟩ : ∃ mh, minuteR c c.hung d k = mh := ⟨_, rfl⟩
      have hget := minutesP_get (d := pad4 d) hpl hhc hh4
      rw [minuteR_pad4 c c.hung d k hh4, hmh, hm] at hget
      have hget2 := index4 hh4 hget
      have hmr := minuteR_range ok.toOkH (Nat.le_of_eq hpl.len) hdr k hhc
      rw [hmh] at hmr
      have hi1 : (j : Int) < nt := by omega
      have hx0 := hx0 _ hL
      have hx1 := hx1 _ hL
      have hx2 := hx2 _ hL
      have hx3 := hx3 _ hL
      have hbd := box_cells wr #[.int .i64 e0, .int .i64 e1, .int .i64 e2, .int .i64 e3] 138
      obtain ⟨Wb, hWb⟩ : ∃ X, X = wr.alloc (.cells #[.int .i64 e0, .int .i64 e1, .int .i64 e2, .int .i64 e3] 138) := ⟨_, rfl⟩
      have hLb : Later wr Wb := by rw [hWb]; exact later_alloc (later_refl _) _
      rw [← hWb] at hbd
      have HWb := hide hWb
      have hd0 := fun W hW => hbd W hW 0
      have hd1 := fun W hW => hbd W hW 1
      have hd2 := fun W hW => hbd W hW 2
      have hd3 := fun W hW => hbd W hW 3
      have hLwb := Later.trans hL hLb
      have hwk := hw.later hLwb
      have hcw := fun W (hW : Later Wb W) i => (hwk.later hW).cells i
      have hc0 := fun W hW => hcw W hW 0
      have hc1 := fun W hW => hcw W hW 1
      have hc2 := fun W hW => hcw W hW 2
      have hc3 := fun W hW => hcw W hW 3
      have hc4 := fun W hW => hcw W hW 4
      simp only [List.getElem?_toArray, List.getElem?_cons_zero, List.getElem?_cons_succ] at hd0 hd1 hd2 hd3 hc0 hc1 hc2 hc3 hc4
      have hcv := hwk.cv
      have hTb : ∀ e : Ext Wb, Later Wb e.W := fun e => e.h
      have Hm := hide hm
      clear hWb hbd hcw hm hget
      have hs0 := fun W (hW : Later Wb W) => s0 W (Later.trans hL1 (Later.trans hLwb hW))
      have hs1 := fun W (hW : Later Wb W) => s1 W (Later.trans hL1 (Later.trans hLwb hW))
      have hpb := hcv.hu
      have hct := countP_take (fun d => decide (minuteR c c.hung d k ≤ m)) tr j d hx
      have hcl := countP_take_le (fun d => decide (minuteR c c.hung d k ≤ m)) tr j
      rw [hmh] at hct
      have Hct := hide hct
      clear hct hx hmh
      generalize (tr.take j).countP (fun d => decide (minuteR c c.hung d k ≤ m)) = q at *
      by_cases hle : mh ≤ (m : Int)
      · have Hc2 := hide (show (tr.take (j + 1)).countP (fun d => decide (minuteR c c.hung d k ≤ m)) = q + 1 by rw [Hct.out]; simp [hle])
        clear Hct
        go_wp2_with fail
        rw [← HWb.out]
        clear HWb
        refine wp_region_ext (w0 := Wb) (by kernel_rfl) (by kernel_rfl) (later_refl _) ?_; (repeat (first | go_big_quiet_step ((go_at_call 95; exact calls_ext (by simp) (minutes_eq _ (hcv.later (hTb _)) ok.toOkH (hpb.later (hTb _)) (Nat.le_of_eq hpl.len) (hpl.bound ok.toOkH) hdr He4.out Hm.out))) | quiet_step ((go_at_call 95; exact calls_ext (by simp) (minutes_eq _ (hcv.later (hTb _)) ok.toOkH (hpb.later (hTb _)) (Nat.le_of_eq hpl.len) (hpl.bound ok.toOkH) hdr He4.out Hm.out))))); refine wpQuiet_nil ?_; rintro w5 ⟨⟨_, hL5⟩, rfl⟩; (try dsimp only)
        go_wp2_with fail
        go_roundw
        case rel => exact ⟨j + 1, hlt, by go_num, by rw [Hc2.out]; rfl, Later.trans hLwb hL5⟩
        case measure => simp [intOf]; omega
      · have Hc2 := hide (show (tr.take (j + 1)).countP (fun d => decide (minuteR c c.hung d k ≤ m)) = q by rw [Hct.out]; simp [hle])
        clear Hct
        go_wp2_with fail
        rw [← HWb.out]
        clear HWb
        refine wp_region_ext (w0 := Wb) (by kernel_rfl) (by kernel_rfl) (later_refl _) ?_; (repeat (first | go_big_quiet_step ((go_at_call 95; exact calls_ext (by simp) (minutes_eq _ (hcv.later (hTb _)) ok.toOkH (hpb.later (hTb _)) (Nat.le_of_eq hpl.len) (hpl.bound ok.toOkH) hdr He4.out Hm.out))) | quiet_step ((go_at_call 95; exact calls_ext (by simp) (minutes_eq _ (hcv.later (hTb _)) ok.toOkH (hpb.later (hTb _)) (Nat.le_of_eq hpl.len) (hpl.bound ok.toOkH) hdr He4.out Hm.out))))); refine wpQuiet_nil ?_; rintro w5 ⟨⟨_, hL5⟩, rfl⟩; (try dsimp only)
        go_wp2_with fail
        go_roundw
        case rel => exact ⟨j + 1, hlt, by go_num, by rw [Hc2.out], Later.trans hLwb hL5⟩
        case measure => simp [intOf]; omega
    · have hf : tr.take j = tr := List.take_of_length_le (by have := Hnt.out; omega)
      rw [hf]
      have hq : tr.countP (fun d => decide (minuteR c c.hung d k ≤ m)) = dryP c tr k m := rfl
      rw [hq]
      have hcl : dryP c tr k m ≤ nt := by have := Hnt.out; have h2 := List.countP_le_length (p := fun d => decide (minuteR c c.hung d k ≤ (m : Int))) (l := tr); rw [this]; exact h2
      generalize dryP c tr k m = q at *
      clear hf hq
      have hL1r := Later.trans hL1 hL
      have hLwr := Later.trans hL0 hL1r
      have wfq : (Lit.int .i64 (q : Int)).wf = true := WalkArith.wf_i64 (by omega)
      have c6' := fun W (hW : Later wr W) => c6 W (Later.trans hL1r hW)
      have s0' := fun W (hW : Later wr W) => s0 W (Later.trans hL1r hW)
      have s1' := fun W (hW : Later wr W) => s1 W (Later.trans hL1r hW)
      go_wp2_with fail
      refine wp_region_ext_tail (w0 := wr) 6 (by kernel_rfl) (by kernel_rfl) (later_refl _) ?_; simp only [List.take_succ_cons, List.take_zero, List.drop_succ_cons, List.drop_zero]; (repeat (first | go_big_quiet_step (((fail))) | quiet_step (((fail))))); refine wpQuiet_nil ?_; rintro w1 ⟨⟨_, hL1⟩, rfl⟩; (try dsimp only)
      have hkw := hkn.later (Later.trans hLwr hL1)
      refine wpList_mapUpdate_own _ rfl _ _ _ 128 rfl 133 3 law_spot und_map _ bm n _ rfl hkw (by unfold maxLen; omega) _ _ _ rfl rfl (keyOf_spot wfk wfm) _ [] (plainElem_int und_int wfq) ?_
      intro w6 hown6 hgrow6
      go_wp2_with fail
      go_ret
      exact ⟨rfl, ((But.of_later (Later.trans hLwr hL1)).trans (But.of_grown hgrow6)), hown6⟩
end Go.Proofs.Ytjilckjhdlabaaa

/- Folds of the best look: plain. -/
namespace Go.Proofs.Ytjilckjhdlabaaa
def askTo (f : Nat → Nat → Int) (i : Nat) (r : Int × Int × Int) : Int × Int × Int := (List.range i).foldl (fun r h => (List.range 100).foldl (askStep f h) r) r
theorem askTo_succ (f : Nat → Nat → Int) (i : Nat) (r : Int × Int × Int) : askTo f (i + 1) r = (List.range 100).foldl (askStep f i) (askTo f i r) := by
  unfold askTo; rw [show List.range (i + 1) = List.range i ++ [i] from List.range_succ, List.foldl_append]; simp only [List.foldl_cons, List.foldl_nil]
def askIn (f : Nat → Nat → Int) (i j : Nat) (r : Int × Int × Int) : Int × Int × Int := (List.range j).foldl (askStep f i) r
theorem askIn_succ (f : Nat → Nat → Int) (i j : Nat) (r : Int × Int × Int) : askIn f i (j + 1) r = askStep f i (askIn f i j r) j := by
  unfold askIn; rw [show List.range (j + 1) = List.range j ++ [j] from List.range_succ, List.foldl_append]; simp only [List.foldl_cons, List.foldl_nil]
end Go.Proofs.Ytjilckjhdlabaaa

/- The program's Ask: walk. -/
namespace Go.Proofs.Ytjilckjhdlabaaa
open Go Go.RowKit Go.Maps

/-- what Ask returns -/
def askOut (c : Clo) : Int × Int × Int × Int :=
  if askedErr c true ≠ 0 then (0, 0, 0, askedErr c true) else if c.horses.length = 0 then (0, 0, 0, 7)
  else ((askP c (truthsP c)).1, (askP c (truthsP c)).2.1, (askP c (truthsP c)).2.2, 0)
/-- the spots from (i, j) on are not known -/
def NewFrom (D : DataW Unit) (i j : Nat) : Prop := ∀ h m : Nat, h ≤ 4 → m ≤ 99 → (i < h ∨ (h = i ∧ j ≤ m)) → Maps.has D (kl h m) = false
theorem NewFrom.put {D : DataW Unit} {i j : Nat} (hi : i ≤ 4) (hj : j ≤ 99) (h : NewFrom D i j) (d : DataW Unit) : NewFrom (D.put (kl i j) d) i (j + 1) := by
  intro x y hx hy hxy
  rw [has_put_other]
  · exact h x y hx hy (by omega)
  · intro e
    have := kl_inj (WalkArith.wf_i64 (by omega)) (WalkArith.wf_i64 (by omega)) (WalkArith.wf_i64 (by omega)) (WalkArith.wf_i64 (by omega)) e
    omega
theorem NewFrom.next {D : DataW Unit} {i : Nat} (h : NewFrom D i 100) : NewFrom D (i + 1) 0 := fun x y hx hy hxy => h x y hx hy (by omega)
theorem NewFrom.nil : NewFrom (.map []) 0 0 := fun _ _ _ _ _ => rfl

set_option maxRecDepth 100000 in
set_option maxHeartbeats 1000000 in
theorem AskP_calls {A1 A2 A3 : Option Addr} {n1 k1 n2 k2 n3 k3 : Nat} {c : Clo} (w : World) (hc : CV w c A1 n1 A2 n2 A3 n3) (hcl : i64 c.closets) (hn1 : n1 ≤ 1000) (hn2 : n2 ≤ 1000) (hn3 : n3 ≤ 1000) (hk2 : n2 ≤ k2) :
    Calls Try.prog 31 #[(.agg #[.int .i64 c.closets, .int .i64 c.close, .slice A1 n1 k1, .slice A2 n2 k2, .slice A3 n3 k3])] w fun e w' => e = .returned (.tuple #[.int .i64 (askOut c).1, .int .i64 (askOut c).2.1, .int .i64 (askOut c).2.2.1, .int .i64 (askOut c).2.2.2]) ∧ Later w w' := by
  obtain ⟨w0, hw0⟩ : ∃ W, W = (w.alloc (.cells #[.int .i64 c.closets, .int .i64 c.close, .slice A1 n1 k1, .slice A2 n2 k2, .slice A3 n3 k3] 35)) := ⟨_, rfl⟩; have hbox : ∀ W, Later w0 W → ∀ i, W.cell? ⟨w.heap.size, i, none⟩ = #[.int .i64 c.closets, .int .i64 c.close, .slice A1 n1 k1, .slice A2 n2 k2, .slice A3 n3 k3][i]? := (by rw [hw0]; exact box_cells w #[.int .i64 c.closets, .int .i64 c.close, .slice A1 n1 k1, .slice A2 n2 k2, .slice A3 n3 k3] 35); have hL0 : Later w w0 := (by rw [hw0]; simp); have hc0 := hc.later hL0; have Hw0 := hide hw0; clear hw0
  by_cases he : askedErr c true = 0
  · obtain ⟨hf, _, htn⟩ := askedErr_zero he
    have ok := okC_of_fault hf
    have hhl := hc.hs.len
    have hl4 := ok.len
    have hn4 : n1 ≤ 4 := by omega
    have htl := truthsP_len hf
    have hdry := truthsP_isDry ok.toOkH
    have hao := asked_ok (k1 := k1) (k3 := k3) w0 hc0 hcl hn1 hn2 hn3 hk2 he
    have Hao := hide hao
    have Hhl := hide hhl
    have He := hide he
    have Hf := hide hf
    clear hao hhl he hf
    by_cases h0 : n1 = 0
    · subst h0
      have hou : askOut c = (0, 0, 0, 7) := by unfold askOut; rw [if_neg (by simp [He.out]), if_pos Hhl.out.symm]
      have Hou := hide hou
      clear hou
      go_enter Try.func31, Try.ntmps31
      go_wp2_with fail
      rw [← Hw0.out]; clear Hw0
      refine Hao.out.mono ?_
      rintro e w3 ⟨bw, bm, At, kt, rfl, hL3, hWK, hbm⟩
      go_wp2_with fail
      refine bodyPost_ret (v := .tuple #[.int .i64 0, .int .i64 0, .int .i64 0, .int .i64 7]) ?_ rfl ⟨by rw [Hou.out], Later.trans hL0 hL3⟩
      simp [results, Try.results31, go_sem]
    · obtain ⟨tr, htr⟩ : ∃ t, truthsP c = t := ⟨_, rfl⟩
      obtain ⟨nt, hnt⟩ : ∃ n, tr.length = n := ⟨_, rfl⟩
      have hou : askOut c = ((askTo (leavesP c tr) n1 (0, 0, (nt : Int) + 1)).1, (askTo (leavesP c tr) n1 (0, 0, (nt : Int) + 1)).2.1, (askTo (leavesP c tr) n1 (0, 0, (nt : Int) + 1)).2.2, 0) := by
        unfold askOut; rw [if_neg (by simp [He.out]), if_neg (by have := Hhl.out; omega), htr]
        unfold askP askAll askTo
        rw [hnt, Hhl.out]
      have hz0 : ((n1 : Int) == 0) = false := by simp; omega
      rw [htr] at hdry htl htn
      rw [hnt] at htl
      have Hou := hide hou
      have Hnt := hide hnt
      have Htr := hide htr
      clear hou hnt h0 htr
      go_enter Try.func31, Try.ntmps31
      go_wp2_with fail
      rw [← Hw0.out]; clear Hw0
      refine Hao.out.mono ?_
      rintro e w3 ⟨bw, bm, At, kt, rfl, hL3, hWK, hbm, hbm1, hbw1, hbne⟩
      rw [Htr.out, Hnt.out] at hWK
      have hK0 := Known.made hbm
      have t5 := hWK.cells 5
      simp only [List.getElem?_toArray, List.getElem?_cons_zero, List.getElem?_cons_succ] at t5
      have hwn : IntKind.i64.wrap ((nt : Int) + 1) = (nt : Int) + 1 := IntWalk.i64_in _ (by omega)
      have hbx2 := fun W (hW : Later w3 W) => hbox W (Later.trans hL3 hW) 2
      simp only [List.getElem?_toArray, List.getElem?_cons_zero, List.getElem?_cons_succ] at hbx2
      have hbx2' := hbx2 w3 (later_refl _)
      have hbm3 : w0.heap.size ≤ bm := hbm1
      clear hbox Hao
      go_wp2_with fail
      go_loopw [31, 2, 3, 4] (fun x1 x2 x3 x4 wr => ∃ (i n : Nat) (r : Int × Int × Int) (D : DataW Unit), i ≤ n1 ∧ x1 = .int .i64 i ∧ x2 = .int .i64 r.1 ∧ x3 = .int .i64 r.2.1 ∧ x4 = .int .i64 r.2.2 ∧ Hid (r = askTo (leavesP c tr) i (0, 0, (nt : Int) + 1)) ∧ But bm w3 wr ∧ Known wr bm n D ∧ n ≤ i * 100 ∧ NewFrom D i 0) (fun x1 _ _ _ _ => n1 - (intOf x1).toNat)
      case atStart => exact ⟨0, 0, (0, 0, (nt : Int) + 1), .map [], Nat.zero_le _, rfl, rfl, rfl, rfl, rfl, But.refl _ _, hK0, by omega, NewFrom.nil⟩
      case round =>
        obtain ⟨i, n, ⟨r1, r2, r3⟩, D, hi, rfl, rfl, rfl, rfl, Hr, hB, hK, hn, hnew⟩ := hrel
        by_cases hlt : i < n1
        · have hi1 : (i : Int) < n1 := by omega
          go_wp2_with fail
          go_loopw [34, 2, 3, 4] (fun x1 x2 x3 x4 wv => ∃ (j n : Nat) (s : Int × Int × Int) (D : DataW Unit), j ≤ 100 ∧ x1 = .int .i64 j ∧ x2 = .int .i64 s.1 ∧ x3 = .int .i64 s.2.1 ∧ x4 = .int .i64 s.2.2 ∧ Hid (s = askIn (leavesP c tr) i j (r1, r2, r3)) ∧ But bm w3 wv ∧ Known wv bm n D ∧ n ≤ i * 100 + j ∧ NewFrom D i j) (fun x1 _ _ _ _ => 100 - (intOf x1).toNat)
          case atStart => exact ⟨0, n, (r1, r2, r3), D, Nat.zero_le _, rfl, rfl, rfl, rfl, rfl, hB, hK, by omega, hnew⟩
          case round =>
            obtain ⟨j, n2, ⟨s1, s2, s3⟩, D2, hj, rfl, rfl, rfl, rfl, Hs, hB2, hK2, hn2, hnew2⟩ := hrel
            by_cases hlt2 : j < 100
            · have hi2 : (j : Int) < 100 := by omega
              have hWv := hWK.but hbm hB2
              obtain ⟨es, cl, hhp⟩ := hK2.heap
              have hic : i < c.horses.length := by have := Hhl.out; omega
              have hdc := dry_calls wr hWv ok hdry htl hic (m := j) (by omega) hK2 (by omega) (hnew2 i j (by omega) (by omega) (.inr ⟨rfl, Nat.le_refl _⟩))
              have hcl : dryP c tr i j ≤ nt := by have h2 := List.countP_le_length (p := fun d => decide (minuteR c c.hung d i ≤ (j : Int))) (l := tr); rw [Hnt.out] at h2; exact h2
              have hlv : leavesP c tr i j = max (dryP c tr i j : Int) ((nt : Int) - dryP c tr i j) := by unfold leavesP; rw [Hnt.out]
              have hst := askIn_succ (leavesP c tr) i j (r1, r2, r3)
              rw [← Hs.out] at hst
              unfold askStep at hst
              rw [hlv] at hst
              generalize dryP c tr i j = q at *
              have Hdc := hide hdc
              have Hst := hide hst
              have hput := fun d => hnew2.put (by omega) (by omega) d
              have hwq : IntKind.i64.wrap ((nt : Int) - q) = (nt : Int) - q := IntWalk.i64_in _ (by omega)
              clear hdc hst hlv
              rcases Int.lt_or_le (q : Int) ((nt : Int) - q) with hmx | hmx
              · have hmm : max (q : Int) ((nt : Int) - q) = (nt : Int) - q := by omega
                rw [hmm] at Hst
                clear hmm
                by_cases hls : (nt : Int) - q < s3
                · have Hs2 : Hid (askIn (leavesP c tr) i (j + 1) (r1, r2, r3) = ((i : Int), (j : Int), (nt : Int) - q)) := by have := Hst.out; rw [if_pos hls] at this; exact this
                  go_wp2_with fail
                  refine Hdc.out.mono ?_
                  rintro e w5 ⟨rfl, hB5, hK5⟩
                  have hW5 := hWv.but hhp hB5
                  have t5 := hW5.cells 5
                  simp only [List.getElem?_toArray, List.getElem?_cons_zero, List.getElem?_cons_succ] at t5
                  go_wp2_with fail
                  go_roundw
                  case rel => exact ⟨j + 1, n2 + 1, ((i : Int), (j : Int), (nt : Int) - q), _, hlt2, by go_num, rfl, rfl, rfl, Hs2.out.symm, hB2.trans hB5, hK5, by omega, hput _⟩
                  case measure => simp [intOf]; omega
                · have Hs2 : Hid (askIn (leavesP c tr) i (j + 1) (r1, r2, r3) = (s1, s2, s3)) := by have := Hst.out; rw [if_neg hls] at this; exact this
                  go_wp2_with fail
                  refine Hdc.out.mono ?_
                  rintro e w5 ⟨rfl, hB5, hK5⟩
                  have hW5 := hWv.but hhp hB5
                  have t5 := hW5.cells 5
                  simp only [List.getElem?_toArray, List.getElem?_cons_zero, List.getElem?_cons_succ] at t5
                  go_wp2_with fail
                  go_roundw
                  case rel => exact ⟨j + 1, n2 + 1, (s1, s2, s3), _, hlt2, by go_num, rfl, rfl, rfl, Hs2.out.symm, hB2.trans hB5, hK5, by omega, hput _⟩
                  case measure => simp [intOf]; omega
              · have hmm : max (q : Int) ((nt : Int) - q) = q := by omega
                rw [hmm] at Hst
                clear hmm
                by_cases hls : (q : Int) < s3
                · have Hs2 : Hid (askIn (leavesP c tr) i (j + 1) (r1, r2, r3) = ((i : Int), (j : Int), (q : Int))) := by have := Hst.out; rw [if_pos hls] at this; exact this
                  go_wp2_with fail
                  refine Hdc.out.mono ?_
                  rintro e w5 ⟨rfl, hB5, hK5⟩
                  have hW5 := hWv.but hhp hB5
                  have t5 := hW5.cells 5
                  simp only [List.getElem?_toArray, List.getElem?_cons_zero, List.getElem?_cons_succ] at t5
                  go_wp2_with fail
                  go_roundw
                  case rel => exact ⟨j + 1, n2 + 1, ((i : Int), (j : Int), (q : Int)), _, hlt2, by go_num, rfl, rfl, rfl, Hs2.out.symm, hB2.trans hB5, hK5, by omega, hput _⟩
                  case measure => simp [intOf]; omega
                · have Hs2 : Hid (askIn (leavesP c tr) i (j + 1) (r1, r2, r3) = (s1, s2, s3)) := by have := Hst.out; rw [if_neg hls] at this; exact this
                  go_wp2_with fail
                  refine Hdc.out.mono ?_
                  rintro e w5 ⟨rfl, hB5, hK5⟩
                  have hW5 := hWv.but hhp hB5
                  have t5 := hW5.cells 5
                  simp only [List.getElem?_toArray, List.getElem?_cons_zero, List.getElem?_cons_succ] at t5
                  go_wp2_with fail
                  go_roundw
                  case rel => exact ⟨j + 1, n2 + 1, (s1, s2, s3), _, hlt2, by go_num, rfl, rfl, rfl, Hs2.out.symm, hB2.trans hB5, hK5, by omega, hput _⟩
                  case measure => simp [intOf]; omega
            · have hj100 : j = 100 := by omega
              subst hj100
              have Hr2 : Hid ((s1, s2, s3) = askTo (leavesP c tr) (i + 1) (0, 0, (nt : Int) + 1)) := by show _ = _; rw [askTo_succ, ← Hr.out]; exact Hs.out
              go_wp2_with fail
              go_roundw
              case rel => exact ⟨i + 1, n2, (s1, s2, s3), D2, hlt, by go_num, rfl, rfl, rfl, Hr2, hB2, hK2, by omega, hnew2.next⟩
              case measure => simp [intOf]; omega
        · have hin : i = n1 := by omega
          subst hin
          have Hou2 : Hid (askOut c = (r1, r2, r3, 0)) := by show _ = _; rw [Hou.out, ← Hr.out]
          have hfin := Later.trans hL0 (hB.later hL3 hbm3)
          go_wp2_with fail
          refine bodyPost_ret (v := .tuple #[.int .i64 r1, .int .i64 r2, .int .i64 r3, .int .i64 0]) ?_ rfl ⟨by rw [Hou2.out], hfin⟩
          simp [results, Try.results31, go_sem]
  · obtain ⟨q, hq⟩ : ∃ q, askedErr c true = q := ⟨_, rfl⟩
    have hou : askOut c = (0, 0, 0, q) := by unfold askOut; rw [if_pos he, hq]
    rw [hq] at he
    have hqb : (q != 0) = true := by simpa using he
    have haf := asked_fail (k1 := k1) (k3 := k3) w0 hc0 hcl hn1 hn2 hn3 hk2 hq he
    have Hou := hide hou
    have Haf := hide haf
    clear hou haf he hq
    go_enter Try.func31, Try.ntmps31
    go_wp2_with fail
    rw [← Hw0.out]; clear Hw0
    refine Haf.out.mono ?_
    rintro e w1 ⟨rfl, hL1⟩
    go_wp2_with fail
    refine bodyPost_ret (v := .tuple #[.int .i64 0, .int .i64 0, .int .i64 0, .int .i64 q]) ?_ rfl ⟨by rw [Hou.out], Later.trans hL0 hL1⟩
    simp [results, Try.results31, go_sem]
end Go.Proofs.Ytjilckjhdlabaaa

/- The program's Best: the closure hang: walks. -/
namespace Go.Proofs.Ytjilckjhdlabaaa
open Go Go.RowKit

/-- all that lay at W lies as it lay, but for the blocks of S -/
structure ButS (S : Nat → Prop) (W W' : World) : Prop where
  os : W'.os = W.os
  tape : W'.tape = W.tape
  output : W'.output = W.output
  size : W.heap.size ≤ W'.heap.size
  block : ∀ b, b < W.heap.size → ¬ S b → W'.heap[b]? = W.heap[b]?
section
variable {S : Nat → Prop} {A B C w : World}
theorem ButS.refl (W : World) : ButS S W W := ⟨rfl, rfl, rfl, Nat.le_refl _, fun _ _ _ => rfl⟩
theorem ButS.of_later (h : Later A B) : ButS S A B := ⟨h.os, h.tape, h.output, h.size, fun b hb _ => h.block b hb⟩
theorem ButS.trans (h : ButS S A B) (k : ButS S B C) : ButS S A C :=
  ⟨k.os.trans h.os, k.tape.trans h.tape, k.output.trans h.output, Nat.le_trans h.size k.size, fun b hb hne => (k.block b (Nat.lt_of_lt_of_le hb h.size) hne).trans (h.block b hb hne)⟩
theorem ButS.set_ (h : ButS S A B) {g : Nat} (hg : S g) (i : Nat) (u : Value) : ButS S A (B.setCell ⟨g, i, none⟩ u) :=
  h.trans ⟨rfl, rfl, rfl, by simp, fun b _ hne => Below.heap_setCell B ⟨g, i, none⟩ u b (fun e => hne (by rw [e]; exact hg))⟩
theorem ButS.later (h : ButS S A B) (hL : Later w A) (hg : ∀ b, S b → w.heap.size ≤ b) : Later w B :=
  ⟨h.os.trans hL.os, h.tape.trans hL.tape, h.output.trans hL.output, Nat.le_trans hL.size h.size, fun b hb => (h.block b (Nat.lt_of_lt_of_le hb hL.size) (fun e => by have := hg b e; omega)).trans (hL.block b hb)⟩
theorem ButS.blk {b : Nat} {t : TypeId} {cs : Array Value} (h : ButS S A B) (k : Blk A b t cs) (hne : ¬ S b) : Blk B b t cs := (h.block b k.lt hne).trans k
/-- a slice's block is none of S -/
def Apart (S : Nat → Prop) (a : Option Addr) (n : Nat) : Prop := 0 < n → ∀ b o, a = some ⟨b, o, none⟩ → ¬ S b
theorem Reads.butS {size : Nat} {a : Option Addr} {n : Nat} {xs : List Value} (h : Reads A A.heap.size size a n xs) (hs : 0 < size) (k : ButS S A B) (ha : Apart S a n) : Reads B B.heap.size size a n xs := by
  refine ⟨h.1, fun hn => ?_⟩
  obtain ⟨b, o, rfl, hb, hc⟩ := Reads.lit h hs hn
  refine ⟨_, rfl, Nat.lt_of_lt_of_le hb k.size, fun j u hu => ?_⟩
  rw [add_lit]
  exact (World.cell?_of_block (a := ⟨b, o + j, none⟩) (k.block b hb (ha hn b o rfl))).trans (hc j u hu)
theorem WK.butS {bw : Nat} {c : Clo} {A1 A2 A3 At : Option Addr} {n1 k1 n2 k2 n3 k3 nt kt : Nat} {tr : List (List Int)} {vm : Value}
    (h : WK A bw c A1 n1 k1 A2 n2 k2 A3 n3 k3 At nt kt tr vm) (k : ButS S A B) (hb : ¬ S bw) (a1 : Apart S A1 n1) (a2 : Apart S A2 n2) (a3 : Apart S A3 n3) (at_ : Apart S At nt) : WK B bw c A1 n1 k1 A2 n2 k2 A3 n3 k3 At nt kt tr vm :=
  ⟨fun i => (World.cell?_of_block (a := ⟨bw, i, none⟩) (k.block bw h.lt hb)).trans (h.cells i), Nat.lt_of_lt_of_le h.lt k.size,
    ⟨Reads.butS h.cv.hs (by omega) k a1, Reads.butS h.cv.hu (by omega) k a2, Reads.butS h.cv.lk (by omega) k a3⟩, Reads.butS h.tr (by omega) k at_⟩
theorem Reads.apart {size : Nat} {a : Option Addr} {n : Nat} {xs : List Value} (h : Reads A A.heap.size size a n xs) (hs : 0 < size) (hS : ∀ b, S b → A.heap.size ≤ b) : Apart S a n := fun hn b o e hb => by
  obtain ⟨b', o', e', hlt, _⟩ := Reads.lit h hs hn
  rw [e] at e'
  obtain ⟨rfl, _⟩ := some_lit e'
  have := hS b hb
  omega
end

/-- the best placement so far, in memory -/
structure BS (S : Nat → Prop) (bp bd bo : Nat) (W : World) (b : Option (List Int × Int)) (dv : Int) (A : Option Addr) (n k : Nat) : Prop where
  fo : Blk W bo 4 #[.bool b.isSome]
  dn : Blk W bd 3 #[.int .i64 dv]
  pl : Blk W bp 23 #[.slice A n k]
  is : ∀ q, b = some q → dv = q.2 ∧ RI W A n q.1 ∧ n ≤ k ∧ Apart S A n
theorem BS.later {S : Nat → Prop} {bp bd bo : Nat} {W W' : World} {b : Option (List Int × Int)} {dv : Int} {A : Option Addr} {n k : Nat} (h : BS S bp bd bo W b dv A n k) (hL : Later W W') : BS S bp bd bo W' b dv A n k :=
  ⟨h.fo.later hL, h.dn.later hL, h.pl.later hL, fun q hq => let ⟨h1, h2, h3, h4⟩ := h.is q hq; ⟨h1, h2.later hL, h3, h4⟩⟩

def hangTo (m k : Nat) (now : List Int) (i : Nat) : List (List Int) := (List.range i).flatMap fun (i : Nat) => if now.contains (i : Int) then [] else hangL m k (now ++ [(i : Int)])
theorem hangTo_skip {m k : Nat} {now : List Int} {i : Nat} (h : now.contains (i : Int) = true) : hangTo m k now (i + 1) = hangTo m k now i := by
  unfold hangTo
  rw [show List.range (i + 1) = List.range i ++ [i] from List.range_succ, List.flatMap_append]
  simp only [List.flatMap_cons, List.flatMap_nil, h, if_true, List.append_nil]
theorem hangTo_more {m k : Nat} {now : List Int} {i : Nat} (h : now.contains (i : Int) = false) : hangTo m k now (i + 1) = hangTo m k now i ++ hangL m k (now ++ [(i : Int)]) := by
  unfold hangTo
  rw [show List.range (i + 1) = List.range i ++ [i] from List.range_succ, List.flatMap_append]
  simp only [List.flatMap_cons, List.flatMap_nil, h, List.append_nil]
  rfl
theorem hangL_to (m k : Nat) (now : List Int) : hangL m (k + 1) now = hangTo m k now m := rfl

/-- what hang leaves -/
def HangPost (S : Nat → Prop) (bp bd bo : Nat) (W : World) (b : Option (List Int × Int)) (e : Ending) (W' : World) : Prop :=
  (∃ v, e = .returned v) ∧ ButS S W W' ∧ ∃ dv A n k, BS S bp bd bo W' b dv A n k
end Go.Proofs.Ytjilckjhdlabaaa

/- The program's Best: the closure hang, which calls itself: walk. -/
namespace Go.Proofs.Ytjilckjhdlabaaa
open Go Go.RowKit

theorem own_apartS {S : Nat → Prop} {W : World} {base : Nat} {e : TypeId} {size : Nat} {A : Option Addr} {k n : Nat} {xs : List Value} (h : W.ownsRow base e size (.slice A n k) n xs) (hg : ∀ g, S g → g < base) : Apart S A n := fun _ b o e hb => by
  subst e
  have := (h.lt b rfl).1
  have := hg b hb
  omega
section
variable {c : Clo} {A1 A2 A3 At : Option Addr} {n1 k1 n2 k2 n3 k3 nt kt bw bc bq bo bd bp bh : Nat} {tr : List (List Int)} {vm : Value} {wB : World} {S : Nat → Prop}

structure HangB (c : Clo) (A1 : Option Addr) (n1 k1 : Nat) (A2 : Option Addr) (n2 k2 : Nat) (A3 : Option Addr) (n3 k3 : Nat) (At : Option Addr) (nt kt : Nat) (tr : List (List Int)) (vm : Value) (bw bc bq bo bd bp bh : Nat) (S : Nat → Prop) (W : World) : Prop where
  wk : WK W bw c A1 n1 k1 A2 n2 k2 A3 n3 k3 At nt kt tr vm
  box : Blk W bc 35 #[.int .i64 c.closets, .int .i64 c.close, .slice A1 n1 k1, .slice A2 n2 k2, .slice A3 n3 k3]
  pw : Blk W bq 121 #[.pointer (some ⟨bw, 0, none⟩)]
  hg : Blk W bh 142 #[.func (.func 96) #[] #[.pointer (some ⟨bc, 0, none⟩), .pointer (some ⟨bq, 0, none⟩), .pointer (some ⟨bo, 0, none⟩), .pointer (some ⟨bd, 0, none⟩), .pointer (some ⟨bp, 0, none⟩), .pointer (some ⟨bh, 0, none⟩)]]
structure HangA (A1 : Option Addr) (n1 : Nat) (A2 : Option Addr) (n2 : Nat) (A3 : Option Addr) (n3 : Nat) (At : Option Addr) (nt : Nat) (bw bc bq bo bd bp bh : Nat) (S : Nat → Prop) : Prop where
  nw : ¬ S bw
  nc : ¬ S bc
  nq : ¬ S bq
  nh : ¬ S bh
  a1 : Apart S A1 n1
  a2 : Apart S A2 n2
  a3 : Apart S A3 n3
  at_ : Apart S At nt
  so : S bo
  sd : S bd
  sp : S bp
  od : bo ≠ bd
  op : bo ≠ bp
  dp : bd ≠ bp
  lt : ∀ b, S b → b = bp ∨ b = bd ∨ b = bo
theorem HangB.but {A B : World} (h : HangB c A1 n1 k1 A2 n2 k2 A3 n3 k3 At nt kt tr vm bw bc bq bo bd bp bh S A) (ha : HangA A1 n1 A2 n2 A3 n3 At nt bw bc bq bo bd bp bh S) (k : ButS S A B) : HangB c A1 n1 k1 A2 n2 k2 A3 n3 k3 At nt kt tr vm bw bc bq bo bd bp bh S B :=
  ⟨h.wk.butS k ha.nw ha.a1 ha.a2 ha.a3 ha.at_, k.blk h.box ha.nc, k.blk h.pw ha.nq, k.blk h.hg ha.nh⟩

def bestUpd (b : Option (List Int × Int)) (now : List Int) (d : Int) : Option (List Int × Int) :=
  match b with
  | none => some (now, d)
  | some q => if d < q.2 then some (now, d) else b
theorem bestStepP_upd (c : Clo) (tr : List (List Int)) (b : Option (List Int × Int)) (p : List Int) : bestStepP c tr b p = if (doneP c tr p).2 = c.horses.length then bestUpd b p (doneP c tr p).1 else b := by
  unfold bestStepP bestUpd; cases b <;> rfl
set_option maxRecDepth 100000 in
set_option maxHeartbeats 2000000 in
theorem hang_in (ha : HangA A1 n1 A2 n2 A3 n3 At nt bw bc bq bo bd bp bh S) (ok : OkC c) (hdry : ∀ d ∈ tr, IsDry c d) (htl : nt ≤ 2000) (hhl : n1 = c.horses.length) :
    ∀ (k : Nat) (now : List Int) (An : Option Addr) (nn kn : Nat) (W : World) (b : Option (List Int × Int)) (dv : Int) (A : Option Addr) (n ka : Nat), HangB c A1 n1 k1 A2 n2 k2 A3 n3 k3 At nt kt tr vm bw bc bq bo bd bp bh S W → BS S bp bd bo W b dv A n ka →
      RI W An nn now → nn ≤ kn → Apart S An nn → now.Nodup → (∀ x ∈ now, 0 ≤ x ∧ x < c.closets) → nn + k = n1 →
      Calls Try.prog 96 #[.slice An nn kn, .pointer (some ⟨bc, 0, none⟩), .pointer (some ⟨bq, 0, none⟩), .pointer (some ⟨bo, 0, none⟩), .pointer (some ⟨bd, 0, none⟩), .pointer (some ⟨bp, 0, none⟩), .pointer (some ⟨bh, 0, none⟩)] W
        (HangPost S bp bd bo W ((hangL c.closets.toNat k now).foldl (bestStepP c tr) b)) := by
  intro k
  induction k with
  | zero =>
    intro now An nn kn W b dv A n ka hB hbs hri hcap hap hnd hmem hlen
    have hl4 := ok.len
    have hnow := hri.len
    have hnn : nn = n1 := by omega
    subst hnn
    have hpl : IsPl c now := ⟨by omega, hmem, hnd⟩
    obtain ⟨⟨d1, d2⟩, hd⟩ : ∃ q, doneP c tr now = q := ⟨_, rfl⟩
    have hdc := done_calls (kp := kn) W hB.wk ok.toOkH hri hpl hdry (by omega)
    rw [hd] at hdc
    have hstep : (hangL c.closets.toNat 0 now).foldl (bestStepP c tr) b = if d2 = (nn : Int) then bestUpd b now d1 else b := by
      show bestStepP c tr b now = _
      rw [bestStepP_upd, hd, hhl]
    have x2 := hB.box.cells_later
    have xq := hB.pw.cell 0
    simp only [List.getElem?_toArray, List.getElem?_cons_zero, List.getElem?_cons_succ] at xq
    have x2a := fun W' hW => x2 W' hW 2
    simp only [List.getElem?_toArray, List.getElem?_cons_zero, List.getElem?_cons_succ] at x2a
    have x2b := x2a W (later_refl _)
    have heq : ((nn : Int) == (nn : Int)) = true := by simp
    have Hstep := hide hstep
    have Hdc := hide hdc
    have Hhl := hide hhl
    have Hnow := hide hnow
    have Hbs := hide hbs
    clear hstep hdc hd hhl hnow hbs x2
    by_cases h7 : d2 = (nn : Int)
    · have h7b : (d2 == (nn : Int)) = true := by simpa using h7
      have Hstep2 : Hid ((hangL c.closets.toNat 0 now).foldl (bestStepP c tr) b = bestUpd b now d1) := by have := Hstep.out; rw [if_pos h7] at this; exact this
      clear h7
      cases b with
      | none =>
        have Hupd := hide (show (hangL c.closets.toNat 0 now).foldl (bestStepP c tr) none = some (now, d1) from Hstep2.out)
        go_enter Try.func96, Try.ntmps96
        go_step3
        go_wp2_with fail
        refine Hdc.out.mono ?_
        rintro e w5 ⟨rfl, hL5⟩
        have hb5 := Hbs.out.later hL5
        have x2c := x2a w5 hL5
        have o0 := hb5.fo.cell 0
        have of := hb5.fo.frozen 0
        have e0 := hb5.dn.cell 0
        have ef := hb5.dn.frozen 0
        have p0 := hb5.pl.cell 0
        have pf := hb5.pl.frozen 0
        simp only [List.getElem?_toArray, List.getElem?_cons_zero, List.getElem?_cons_succ, Option.isSome_none, Option.isSome_some] at o0 e0 p0
        have Hb5 := hide hb5
        clear hb5
        have hn1 : bo ≠ bd := ha.od
        have hn2 : bo ≠ bp := ha.op
        have hn3 : bd ≠ bp := ha.dp
        have hn4 : bp ≠ bd := fun e => ha.dp e.symm
        have hn5 : bp ≠ bo := fun e => ha.op e.symm
        have hn6 : bd ≠ bo := fun e => ha.od e.symm
        go_wp2_with fail
        rw [Exit.noGoto_ret]
        refine bodyPost_ret (results_none rfl _ _ _) rfl ?_
        rw [Hupd.out]
        have hBS : ButS S W (((w5.setCell ⟨bp, 0, none⟩ (.slice An nn kn)).setCell ⟨bd, 0, none⟩ (.int .i64 d1)).setCell ⟨bo, 0, none⟩ (.bool true)) := (((ButS.of_later hL5).set_ ha.sp 0 _).set_ ha.sd 0 _).set_ ha.so 0 _
        refine ⟨⟨_, rfl⟩, hBS, d1, An, nn, kn, ⟨?_, ?_, ?_, ?_⟩⟩
        · exact ((Hb5.out.fo.far hn2 _).far hn1 _).set_ 0 (.bool true)
        · exact ((Hb5.out.dn.far hn3 _).set_ 0 (.int .i64 d1)).far hn6 _
        · exact ((Hb5.out.pl.set_ 0 (.slice An nn kn)).far hn4 _).far hn5 _
        · intro q' hq'
          injection hq' with hq'
          subst hq'
          exact ⟨rfl, Reads.butS hri Nat.one_pos hBS hap, hcap, hap⟩
      | some q =>
        have hdv := (Hbs.out.is q rfl).1
        by_cases hlt : d1 < dv
        · have Hupd := hide (show (hangL c.closets.toNat 0 now).foldl (bestStepP c tr) (some q) = some (now, d1) by rw [Hstep2.out]; unfold bestUpd; dsimp only; rw [if_pos (by omega)])
          clear hdv
          go_enter Try.func96, Try.ntmps96
          go_step3
          go_wp2_with fail
          refine Hdc.out.mono ?_
          rintro e w5 ⟨rfl, hL5⟩
          have hb5 := Hbs.out.later hL5
          have x2c := x2a w5 hL5
          have o0 := hb5.fo.cell 0
          have of := hb5.fo.frozen 0
          have e0 := hb5.dn.cell 0
          have ef := hb5.dn.frozen 0
          have p0 := hb5.pl.cell 0
          have pf := hb5.pl.frozen 0
          simp only [List.getElem?_toArray, List.getElem?_cons_zero, List.getElem?_cons_succ, Option.isSome_none, Option.isSome_some] at o0 e0 p0
          have Hb5 := hide hb5
          clear hb5
          have hn1 : bo ≠ bd := ha.od
          have hn2 : bo ≠ bp := ha.op
          have hn3 : bd ≠ bp := ha.dp
          have hn4 : bp ≠ bd := fun e => ha.dp e.symm
          have hn5 : bp ≠ bo := fun e => ha.op e.symm
          have hn6 : bd ≠ bo := fun e => ha.od e.symm
          go_wp2_with fail
          rw [Exit.noGoto_ret]
          refine bodyPost_ret (results_none rfl _ _ _) rfl ?_
          rw [Hupd.out]
          have hBS : ButS S W (((w5.setCell ⟨bp, 0, none⟩ (.slice An nn kn)).setCell ⟨bd, 0, none⟩ (.int .i64 d1)).setCell ⟨bo, 0, none⟩ (.bool true)) := (((ButS.of_later hL5).set_ ha.sp 0 _).set_ ha.sd 0 _).set_ ha.so 0 _
          refine ⟨⟨_, rfl⟩, hBS, d1, An, nn, kn, ⟨?_, ?_, ?_, ?_⟩⟩
          · exact ((Hb5.out.fo.far hn2 _).far hn1 _).set_ 0 (.bool true)
          · exact ((Hb5.out.dn.far hn3 _).set_ 0 (.int .i64 d1)).far hn6 _
          · exact ((Hb5.out.pl.set_ 0 (.slice An nn kn)).far hn4 _).far hn5 _
          · intro q' hq'
            injection hq' with hq'
            subst hq'
            exact ⟨rfl, Reads.butS hri Nat.one_pos hBS hap, hcap, hap⟩
        · have Hupd := hide (show (hangL c.closets.toNat 0 now).foldl (bestStepP c tr) (some q) = some q by rw [Hstep2.out]; unfold bestUpd; dsimp only; rw [if_neg (by omega)])
          clear hdv
          go_enter Try.func96, Try.ntmps96
          go_step3
          go_wp2_with fail
          refine Hdc.out.mono ?_
          rintro e w5 ⟨rfl, hL5⟩
          have hb5 := Hbs.out.later hL5
          have x2c := x2a w5 hL5
          have o0 := hb5.fo.cell 0
          have of := hb5.fo.frozen 0
          have e0 := hb5.dn.cell 0
          have ef := hb5.dn.frozen 0
          have p0 := hb5.pl.cell 0
          have pf := hb5.pl.frozen 0
          simp only [List.getElem?_toArray, List.getElem?_cons_zero, List.getElem?_cons_succ, Option.isSome_none, Option.isSome_some] at o0 e0 p0
          have Hb5 := hide hb5
          clear hb5
          have hn1 : bo ≠ bd := ha.od
          have hn2 : bo ≠ bp := ha.op
          have hn3 : bd ≠ bp := ha.dp
          have hn4 : bp ≠ bd := fun e => ha.dp e.symm
          have hn5 : bp ≠ bo := fun e => ha.op e.symm
          have hn6 : bd ≠ bo := fun e => ha.od e.symm
          go_wp2_with fail
          rw [Exit.noGoto_ret]
          refine bodyPost_ret (results_none rfl _ _ _) rfl ?_
          rw [Hupd.out]
          exact ⟨⟨_, rfl⟩, ButS.of_later hL5, dv, A, n, ka, Hb5.out⟩
    · have h7b : (d2 == (nn : Int)) = false := by simpa using h7
      have Hupd : Hid ((hangL c.closets.toNat 0 now).foldl (bestStepP c tr) b = b) := by have := Hstep.out; rw [if_neg h7] at this; exact this
      clear h7
      go_enter Try.func96, Try.ntmps96
      go_step3
      go_wp2_with fail
      refine Hdc.out.mono ?_
      rintro e w5 ⟨rfl, hL5⟩
      have hb5 := Hbs.out.later hL5
      have x2c := x2a w5 hL5
      have o0 := hb5.fo.cell 0
      have of := hb5.fo.frozen 0
      have e0 := hb5.dn.cell 0
      have ef := hb5.dn.frozen 0
      have p0 := hb5.pl.cell 0
      have pf := hb5.pl.frozen 0
      simp only [List.getElem?_toArray, List.getElem?_cons_zero, List.getElem?_cons_succ, Option.isSome_none, Option.isSome_some] at o0 e0 p0
      have Hb5 := hide hb5
      clear hb5
      have hn1 : bo ≠ bd := ha.od
      have hn2 : bo ≠ bp := ha.op
      have hn3 : bd ≠ bp := ha.dp
      have hn4 : bp ≠ bd := fun e => ha.dp e.symm
      have hn5 : bp ≠ bo := fun e => ha.op e.symm
      have hn6 : bd ≠ bo := fun e => ha.od e.symm
      go_wp2_with fail
      rw [Exit.noGoto_ret]
      refine bodyPost_ret (results_none rfl _ _ _) rfl ?_
      rw [Hupd.out]
      exact ⟨⟨_, rfl⟩, ButS.of_later hL5, dv, A, n, ka, Hb5.out⟩
  | succ k ih =>
    intro now An nn kn W b dv A n ka hB hbs hri hcap hap hnd hmem hlen
    have hl4 := ok.len
    have hc4 := ok.cl4
    have hc1 := ok.cl1
    have hnow := hri.len
    obtain ⟨mc, hmc⟩ : ∃ m : Nat, c.closets = (m : Int) := ⟨c.closets.toNat, by omega⟩
    have hmt : c.closets.toNat = mc := by omega
    have x2 := hB.box.cells_later
    have x2a := fun W' hW => x2 W' hW 2
    have x2c := fun W' hW => x2 W' hW 0
    simp only [List.getElem?_toArray, List.getElem?_cons_zero, List.getElem?_cons_succ] at x2a x2c
    have x2b := x2a W (later_refl _)
    have x2d := x2c W (later_refl _)
    rw [hmc] at x2d
    have hne0 : ((nn : Int) == (n1 : Int)) = false := by simp; omega
    have hgoal : (hangL c.closets.toNat (k + 1) now).foldl (bestStepP c tr) b = (hangTo mc k now mc).foldl (bestStepP c tr) b := by rw [hmt]; rfl
    rw [hmt] at ih
    have Hgoal := hide hgoal
    have Hnow := hide hnow
    have Hbs := hide hbs
    have hmc4 : mc ≤ 4 := by omega
    have hnn4 : nn ≤ 4 := by omega
    have Hmc := hide hmc
    have Hhl := hide hhl
    clear hgoal hnow hbs hmc hmt hhl x2 x2a x2c
    go_enter Try.func96, Try.ntmps96
    go_step3
    go_wp2_with fail
    go_step3
    go_wp2_with fail
    go_loopw [43] (fun x wr => ∃ (i : Nat) (dv : Int) (A : Option Addr) (n ka : Nat), i ≤ mc ∧ x = .int .i64 i ∧ ButS S W wr ∧ BS S bp bd bo wr ((hangTo mc k now i).foldl (bestStepP c tr) b) dv A n ka) (fun x _ => mc - (intOf x).toNat)
    case atStart => exact ⟨0, dv, A, n, ka, Nat.zero_le _, rfl, ButS.refl _, Hbs.out⟩
    case round =>
      obtain ⟨i, dv2, A2', n2', ka2, hi, rfl, hBS, hbs2⟩ := hrel
      by_cases hlt : i < mc
      · have hi1 : (i : Int) < mc := by omega
        have hor : RI wr An nn now := Reads.butS hri Nat.one_pos hBS hap
        have Hbs2 := hide hbs2
        clear hbs2
        go_wp2_with fail
        go_loop [48] (fun x => ∃ j : Nat, j ≤ nn ∧ x = .int .i64 j ∧ Hid (∀ (t : Nat) (y : Int), t < j → now[t]? = some y → y ≠ (i : Int))) (fun x => nn - (intOf x).toNat)
        case atStart => exact ⟨0, Nat.zero_le _, rfl, fun t y h => absurd h (Nat.not_lt_zero _)⟩
        case round =>
          obtain ⟨j, hj, rfl, Hno⟩ := hrel
          by_cases hltj : j < nn
          · obtain ⟨b1, o1, x, rfl, _, hx, hx0⟩ := hor.get hltj
            have hj1 : (j : Int) < nn := by omega
            have hx0 := hx0 _ (later_refl _)
            have Hx := hide hx
            clear hx
            by_cases hxi : x = (i : Int)
            · have hxb : (x == (i : Int)) = true := by simpa using hxi
              have hcon : now.contains (i : Int) = true := List.contains_iff_mem.2 (by rw [← hxi]; exact List.mem_of_getElem? Hx.out)
              have Hsk := hide (hangTo_skip (m := mc) (k := k) hcon)
              clear hxi hcon
              go_wp2_with fail
              go_roundw
              case rel => exact ⟨i + 1, dv2, A2', n2', ka2, hlt, by go_num, hBS, by rw [Hsk.out]; exact Hbs2.out⟩
              case measure => simp [intOf]; omega
            · have hxb : (x == (i : Int)) = false := by simpa using hxi
              have Hxi := hide hxi
              clear hxi
              go_wp2_with fail
              go_round
              case rel =>
                refine ⟨j + 1, hltj, by go_num, fun t y ht hy => ?_⟩
                rcases Nat.lt_or_ge t j with h1 | h1
                · exact Hno.out t y h1 hy
                · have : t = j := by omega
                  subst this
                  have h2 := Hx.out
                  rw [hy] at h2
                  injection h2 with h2
                  rw [h2]; exact Hxi.out
              case measure => simp [intOf]; omega
          · have hcon : now.contains (i : Int) = false := by
              rw [← Bool.not_eq_true, List.contains_iff_mem]
              intro hm
              obtain ⟨t, ht⟩ := List.getElem?_of_mem hm
              have hlt2 := (List.getElem?_eq_some_iff.1 ht).1
              exact Hno.out t _ (by have := Hnow.out; omega) ht rfl
            have Hmo := hide (hangTo_more (m := mc) (k := k) hcon)
            have hnd2 : (now ++ [(i : Int)]).Nodup := by
              rw [List.nodup_append]
              refine ⟨hnd, by simp, fun a ha b hb e => ?_⟩
              simp at hb; subst hb; subst e
              rw [List.contains_iff_mem.2 ha] at hcon; cases hcon
            have hmem2 : ∀ x ∈ now ++ [(i : Int)], 0 ≤ x ∧ x < c.closets := fun x hx => by
              rcases List.mem_append.1 hx with h | h
              · exact hmem x h
              · simp at h; subst h; have := Hmc.out; omega
            have hBr := hB.but ha hBS
            have hbsr := Hbs2.out
            have hlS : ∀ g, S g → g < wr.heap.size := fun g hg => by
              rcases ha.lt g hg with rfl | rfl | rfl
              · exact hbsr.pl.lt
              · exact hbsr.dn.lt
              · exact hbsr.fo.lt
            have l0 := hBr.hg.cell 0
            simp only [List.getElem?_toArray, List.getElem?_cons_zero, List.getElem?_cons_succ] at l0
            have hblr := hBr.hg.lt
            have hno6 : nn ≤ 1000000 := by omega
            have hnn1 : nn ≤ 1000 := by omega
            have h16 : 1 ≤ 1000000 := by decide
            have h86 : 8 ≤ 1000 := by decide
            have hnh := ha.nh
            have hrec := fun (A' : Option Addr) (k' : Nat) (w3 : World) (hL3 : Later wr w3) h3 h4 h5 => ih (now ++ [(i : Int)]) A' (nn + 1) k' w3 _ _ _ _ _ (hBr.but ha (ButS.of_later hL3)) (hbsr.later hL3) h3 h4 h5 hnd2 hmem2 (by omega)
            have Hrec := hide hrec
            have HBr := hide hBr
            have HlS := hide hlS
            clear hrec hBr hlS hcon hnd2 hmem2 hbsr
            go_wp2_with fail
            go_region_held3 (fun X => X.cell? ⟨bh, 0, none⟩ = some (.func (.func 96) #[] #[.pointer (some ⟨bc, 0, none⟩), .pointer (some ⟨bq, 0, none⟩), .pointer (some ⟨bo, 0, none⟩), .pointer (some ⟨bd, 0, none⟩), .pointer (some ⟨bp, 0, none⟩), .pointer (some ⟨bh, 0, none⟩)])) (first | assumption | (go_keep; done))
              (first
                | (go_at_call 89; go_must (refine (Clone_calls (l := now) _ (hor.later (by first | exact later_drew (later_refl _) | exact later_refl _ | exact later_alloc (later_refl _) _ | exact later_drew (later_alloc (later_refl _) _) | exact later_alloc (later_drew (later_refl _)) _)) hnn1).mono ?_; rintro e w2 ⟨v, rfl, hL2, hown⟩; have hLw2 : Later wr w2 := Later.trans (by first | exact later_drew (later_refl _) | exact later_refl _ | exact later_alloc (later_refl _) _ | exact later_drew (later_alloc (later_refl _) _) | exact later_alloc (later_drew (later_refl _)) _) hL2; have hown2 : w2.ownsRow wr.heap.size 3 1 v nn (ints now) := own_rebase hown (fun g e => Nat.le_trans (by first | exact Nat.le_refl _ | simp) (hown.lt g e).1); have l2 := (HBr.out.hg.later hLw2).cell 0; simp only [List.getElem?_toArray, List.getElem?_cons_zero] at l2))
                | (refine appG_step rfl wr.heap.size _ _ 23 rfl 3 (.int .i64 0) 1 8 Try.underlying23 int_info rfl Nat.one_pos v nn (ints now) rfl ?_ (hown2.alloc _) ⟨w2.heap.size, 0, none⟩ 1 1 [.int .i64 i] rfl rfl (one_cell w2 _ _) (ints_one [(i : Int)]) hno6 h16 h86 ?_; (focus (have := hLw2.size; simp; omega)); intro v' w3 hap2; have hL3 : Later wr w3 := hap2.later (later_alloc hLw2 _) (hown2.alloc _); obtain ⟨A', k', hv', hrd⟩ := own_slice hap2.own; subst hv'; have hri2 : RI w3 A' (nn + 1) (now ++ [(i : Int)]) := RI.of_snoc hrd; have hk' := own_cap hap2.own; have hapt := own_apartS hap2.own HlS.out; have l3 := (HBr.out.hg.later hL3).cell 0; simp only [List.getElem?_toArray, List.getElem?_cons_zero] at l3)
                | (refine appG_step rfl wr.heap.size _ _ 23 rfl 3 (.int .i64 0) 1 8 Try.underlying23 int_info rfl Nat.one_pos v nn (ints now) rfl ?_ hown2 ⟨wr.heap.size, 0, none⟩ 1 1 [.int .i64 i] rfl rfl (one_cell_later hL2) (ints_one [(i : Int)]) hno6 h16 h86 ?_; (focus (have := hLw2.size; omega)); intro v' w3 hap2; have hL3 : Later wr w3 := hap2.later hLw2 hown2; obtain ⟨A', k', hv', hrd⟩ := own_slice hap2.own; subst hv'; have hri2 : RI w3 A' (nn + 1) (now ++ [(i : Int)]) := RI.of_snoc hrd; have hk' := own_cap hap2.own; have hapt := own_apartS hap2.own HlS.out; have l3 := (HBr.out.hg.later hL3).cell 0; simp only [List.getElem?_toArray, List.getElem?_cons_zero] at l3)
                | (refine appG_step rfl wr.heap.size _ _ 23 rfl 3 (.int .i64 0) 1 8 Try.underlying23 int_info rfl Nat.one_pos v nn (ints now) rfl ?_ hown2 ⟨wr.heap.size, 0, none⟩ 1 1 [.int .i64 i] rfl rfl (one_cell_later (later_undrew hL2)) (ints_one [(i : Int)]) hno6 h16 h86 ?_; (focus (have := hLw2.size; omega)); intro v' w3 hap2; have hL3 : Later wr w3 := hap2.later hLw2 hown2; obtain ⟨A', k', hv', hrd⟩ := own_slice hap2.own; subst hv'; have hri2 : RI w3 A' (nn + 1) (now ++ [(i : Int)]) := RI.of_snoc hrd; have hk' := own_cap hap2.own; have hapt := own_apartS hap2.own HlS.out; have l3 := (HBr.out.hg.later hL3).cell 0; simp only [List.getElem?_toArray, List.getElem?_cons_zero] at l3)
                | (go_at_call 96; go_must (refine (Hrec.out A' k' w3 hL3 hri2 hk' hapt).mono ?_; rintro e w4 ⟨⟨v4, rfl⟩, hB4, dv4, A4, n4, ka4, hbs4⟩; have l4 := (hB4.blk (HBr.out.hg.later hL3) hnh).cell 0; simp only [List.getElem?_toArray, List.getElem?_cons_zero] at l4)))
            all_goals
              have hBS5 : ButS S W w4 := hBS.trans ((ButS.of_later hL3).trans hB4)
              clear l2 l3 l4 hL2 hown hown2 hap2
              go_wp2_with fail
              go_roundw
              case rel => exact ⟨i + 1, dv4, A4, n4, ka4, hlt, by go_num, hBS5, by rw [Hmo.out, List.foldl_append]; exact hbs4⟩
              case measure => simp [intOf]; omega
      · have him : i = mc := by omega
        subst him
        go_wp2_with fail
        rw [Exit.noGoto_normal]
        refine bodyPost_end (results_none rfl _ _ _) rfl ?_
        rw [Hgoal.out]
        exact ⟨⟨_, rfl⟩, hBS, dv2, A2', n2', ka2, hbs2⟩
end
end Go.Proofs.Ytjilckjhdlabaaa

/- The program's Best: walk. -/
namespace Go.Proofs.Ytjilckjhdlabaaa
open Go Go.RowKit
attribute [local go_sem] later_alloc2 later_alloc3 later_alloc4

theorem ButS.drew {S : Nat → Prop} {A B : World} (h : ButS S A B) : ButS S A B.drew := ⟨h.os, h.tape, h.output, h.size, h.block⟩
theorem cell_set_some (w : World) (a : Addr) (v : Value) (h : (w.cell? a).isSome = true) : (w.setCell a v).cell? a = some v := World.cell?_setCell_same' _ _ _ h
/-- what Best returns -/
def bestRes : Option (List Int × Int) → List Int × Int × Int
  | none => ([], 0, 10)
  | some q => (q.1, q.2, 0)
def bestOut (c : Clo) : List Int × Int × Int := if askedErr c true ≠ 0 then ([], 0, askedErr c true) else bestRes (bestP c (truthsP c))
def BestPost (c : Clo) (w : World) (e : Ending) (w' : World) : Prop :=
  ∃ A n k, e = .returned (.tuple #[.slice A n k, .int .i64 (bestOut c).2.1, .int .i64 (bestOut c).2.2]) ∧ Later w w' ∧ RI w' A n (bestOut c).1 ∧ n ≤ k

set_option maxRecDepth 100000 in
set_option maxHeartbeats 1000000 in
theorem BestP_calls {A1 A2 A3 : Option Addr} {n1 k1 n2 k2 n3 k3 : Nat} {c : Clo} (w : World) (hc : CV w c A1 n1 A2 n2 A3 n3) (hcl : i64 c.closets) (hn1 : n1 ≤ 1000) (hn2 : n2 ≤ 1000) (hn3 : n3 ≤ 1000) (hk2 : n2 ≤ k2) :
    Calls Try.prog 49 #[(.agg #[.int .i64 c.closets, .int .i64 c.close, .slice A1 n1 k1, .slice A2 n2 k2, .slice A3 n3 k3])] w fun e w' => BestPost c w e w' := by
  obtain ⟨w0, hw0⟩ : ∃ W, W = ((w.alloc (.cells #[.int .i64 c.closets, .int .i64 c.close, .slice A1 n1 k1, .slice A2 n2 k2, .slice A3 n3 k3] 35)).alloc (.cells #[.slice none 0 0] 23)).alloc (.cells #[.int .i64 0] 3) := ⟨_, rfl⟩
  have kc : Blk w0 w.heap.size 35 #[.int .i64 c.closets, .int .i64 c.close, .slice A1 n1 k1, .slice A2 n2 k2, .slice A3 n3 k3] := by rw [hw0]; exact ((Blk.new _ _ _).alloc _).alloc _
  have kp : Blk w0 (w.heap.size + 1) 23 #[.slice none 0 0] := by
    rw [hw0]
    have := Blk.new (w.alloc (.cells #[.int .i64 c.closets, .int .i64 c.close, .slice A1 n1 k1, .slice A2 n2 k2, .slice A3 n3 k3] 35)) 23 #[.slice none 0 0]
    rw [World.size_alloc] at this; exact this.alloc _
  have kd : Blk w0 (w.heap.size + 1 + 1) 3 #[.int .i64 0] := by
    rw [hw0]
    have := Blk.new ((w.alloc (.cells #[.int .i64 c.closets, .int .i64 c.close, .slice A1 n1 k1, .slice A2 n2 k2, .slice A3 n3 k3] 35)).alloc (.cells #[.slice none 0 0] 23)) 3 #[.int .i64 0]
    simp only [World.size_alloc] at this; exact this
  have hL0 : Later w w0 := by rw [hw0]; exact later_alloc3 (later_refl _) _ _ _
  have hs0 : w0.heap.size = w.heap.size + 3 := by rw [hw0]; simp
  have hc0 := hc.later hL0
  have hbox := kc.cells_later
  have Hs0 := hide hs0
  have Hw0 := hide hw0
  clear hw0 hs0
  by_cases he : askedErr c true = 0
  · obtain ⟨hf, _, htn⟩ := askedErr_zero he
    have ok := okC_of_fault hf
    have hhl := hc.hs.len
    have hl4 := ok.len
    have htl := truthsP_len hf
    have hdry := truthsP_isDry ok.toOkH
    have hao := asked_ok (k1 := k1) (k3 := k3) w0 hc0 hcl hn1 hn2 hn3 hk2 he
    obtain ⟨bo, hbo⟩ : ∃ b, bestP c (truthsP c) = b := ⟨_, rfl⟩
    have hou : bestOut c = bestRes bo := by unfold bestOut; rw [if_neg (by simp [he]), hbo]
    have Hou := hide hou
    have Hao := hide hao
    have Hhl := hide hhl
    have Hbo := hide hbo
    clear hao hhl he hf hou hbo
    go_enter Try.func49, Try.ntmps49
    go_wp2_with fail
    rw [← Hw0.out]; clear Hw0
    refine Hao.out.mono ?_
    rintro e w3 ⟨bw, bm, At, kt, rfl, hL3, hWK, hbm, hbm1, hbw1, hbne, hAt⟩
    have hs3 := hL3.size
    have hbw3 := hWK.lt
    have hs0 := Hs0.out
    obtain ⟨W0, hW0⟩ : ∃ X, X = ((w3.alloc (.cells #[.pointer (some ⟨bw, 0, none⟩)] 121)).alloc (.cells #[.bool false] 4)).alloc (.cells #[.func (.func 96) #[] #[.pointer (some ⟨w.heap.size, 0, none⟩), .pointer (some ⟨w3.heap.size, 0, none⟩), .pointer (some ⟨w3.heap.size + 1, 0, none⟩), .pointer (some ⟨w.heap.size + 1 + 1, 0, none⟩), .pointer (some ⟨w.heap.size + 1, 0, none⟩), .pointer (some ⟨w3.heap.size + 1 + 1, 0, none⟩)]] 142) := ⟨_, rfl⟩
    have hLW : Later w3 W0 := by rw [hW0]; exact later_alloc3 (later_refl _) _ _ _
    have kq : Blk W0 w3.heap.size 121 #[.pointer (some ⟨bw, 0, none⟩)] := by rw [hW0]; exact ((Blk.new _ _ _).alloc _).alloc _
    have ko : Blk W0 (w3.heap.size + 1) 4 #[.bool false] := by
      rw [hW0]
      have := Blk.new (w3.alloc (.cells #[.pointer (some ⟨bw, 0, none⟩)] 121)) 4 #[.bool false]
      rw [World.size_alloc] at this; exact this.alloc _
    have kh : Blk W0 (w3.heap.size + 1 + 1) 142 #[.func (.func 96) #[] #[.pointer (some ⟨w.heap.size, 0, none⟩), .pointer (some ⟨w3.heap.size, 0, none⟩), .pointer (some ⟨w3.heap.size + 1, 0, none⟩), .pointer (some ⟨w.heap.size + 1 + 1, 0, none⟩), .pointer (some ⟨w.heap.size + 1, 0, none⟩), .pointer (some ⟨w3.heap.size + 1 + 1, 0, none⟩)]] := by
      rw [hW0]
      have := Blk.new ((w3.alloc (.cells #[.pointer (some ⟨bw, 0, none⟩)] 121)).alloc (.cells #[.bool false] 4)) 142 #[.func (.func 96) #[] #[.pointer (some ⟨w.heap.size, 0, none⟩), .pointer (some ⟨w3.heap.size, 0, none⟩), .pointer (some ⟨w3.heap.size + 1, 0, none⟩), .pointer (some ⟨w.heap.size + 1 + 1, 0, none⟩), .pointer (some ⟨w.heap.size + 1, 0, none⟩), .pointer (some ⟨w3.heap.size + 1 + 1, 0, none⟩)]]
      simp only [World.size_alloc] at this; exact this
    have HW0 := hide hW0
    clear hW0
    go_wp2_with fail
    rw [← HW0.out]
    have hLW0 := Later.trans hL3 hLW
    have hbs0 : BS (fun b => b = w.heap.size + 1 ∨ b = w.heap.size + 1 + 1 ∨ b = w3.heap.size + 1) (w.heap.size + 1) (w.heap.size + 1 + 1) (w3.heap.size + 1) W0 none 0 none 0 0 := ⟨ko, kd.later hLW0, kp.later hLW0, fun q hq => by cases hq⟩
    have hWK0 := hWK.later hLW
    have hap : ∀ (A : Option Addr) (n size : Nat) (xs : List Value), 0 < size → Reads w w.heap.size size A n xs → Apart (fun b => b = w.heap.size + 1 ∨ b = w.heap.size + 1 + 1 ∨ b = w3.heap.size + 1) A n := fun A n size xs hs h => h.apart hs fun b hb => by omega
    have hHA : HangA A1 n1 A2 n2 A3 n3 At (truthsP c).length bw w.heap.size w3.heap.size (w3.heap.size + 1) (w.heap.size + 1 + 1) (w.heap.size + 1) (w3.heap.size + 1 + 1) (fun b => b = w.heap.size + 1 ∨ b = w.heap.size + 1 + 1 ∨ b = w3.heap.size + 1) :=
      ⟨by omega, by omega, by omega, by omega, hap _ _ _ _ (by omega) hc.hs, hap _ _ _ _ (by omega) hc.hu, hap _ _ _ _ (by omega) hc.lk,
        fun hn b o e hb => by
          have h1 := hAt b o e
          have h2 : b < w3.heap.size := by
            obtain ⟨b', o', e', hlt, _⟩ := Reads.lit hWK.tr (by omega) hn
            rw [e] at e'
            obtain ⟨rfl, _⟩ := some_lit e'
            exact hlt
          omega,
        .inr (.inr rfl), .inr (.inl rfl), .inl rfl, by omega, by omega, by omega, fun b hb => by omega⟩
    have hHB : HangB c A1 n1 k1 A2 n2 k2 A3 n3 k3 At (truthsP c).length kt (truthsP c) (.map (some bm)) bw w.heap.size w3.heap.size (w3.heap.size + 1) (w.heap.size + 1 + 1) (w.heap.size + 1) (w3.heap.size + 1 + 1) (fun b => b = w.heap.size + 1 ∨ b = w.heap.size + 1 + 1 ∨ b = w3.heap.size + 1) W0 := ⟨hWK0, kc.later hLW0, kq, kh⟩
    have hcall := hang_in (k1 := k1) (k2 := k2) (k3 := k3) hHA ok hdry htl Hhl.out n1 [] none 0 0 W0 none 0 none 0 0 hHB hbs0 RI.nil (Nat.le_refl _) (fun h => absurd h (by omega)) List.nodup_nil (by simp) (by omega)
    have hbp : (hangL c.closets.toNat n1 []).foldl (bestStepP c (truthsP c)) none = bo := by rw [Hhl.out]; exact Hbo.out
    rw [hbp] at hcall
    refine hcall.mono ?_
    clear hcall hbp hHB hHA hbs0 hap hbox
    rintro e w5 ⟨⟨v, rfl⟩, hB5, dv, A, n, ka, hbs5⟩
    have hfin := Later.trans hL0 (Later.trans hL3 hLW)
    have hfin5 := hB5.later hfin (fun b hb => by omega)
    have p0 := hbs5.pl.cell 0
    have pf := hbs5.pl.frozen 0
    have d0 := hbs5.dn.cell 0
    have df := hbs5.dn.frozen 0
    have o0 := hbs5.fo.cell 0
    simp only [List.getElem?_toArray, List.getElem?_cons_zero, List.getElem?_cons_succ] at p0 d0 o0
    have his := hbs5.is
    have Hb5 := hide hbs5
    clear hbs5
    cases bo with
    | none =>
      simp only [Option.isSome_none] at o0
      have Hou2 : Hid (bestOut c = ([], 0, 10)) := Hou.out
      clear his
      go_wp2_with fail
      refine bodyPost_ret (v := .tuple #[.slice none 0 0, .int .i64 0, .int .i64 10]) ?_ rfl ⟨none, 0, 0, by rw [Hou2.out], ?_, by rw [Hou2.out]; exact RI.nil, Nat.le_refl _⟩
      · have z0 := ((Hb5.out.pl.set_ 0 (.slice none 0 0)).far (p := ⟨w.heap.size + 1 + 1, 0, none⟩) (by show w.heap.size + 1 ≠ w.heap.size + 1 + 1; omega) (.int .i64 0)).cell 0
        have z1 := ((Hb5.out.dn.far (p := ⟨w.heap.size + 1, 0, none⟩) (by show w.heap.size + 1 + 1 ≠ w.heap.size + 1; omega) (.slice none 0 0)).set_ 0 (.int .i64 0)).cell 0
        simp only [List.setIfInBounds_toArray, List.set_cons_zero, List.set_cons_succ, List.getElem?_toArray, List.getElem?_cons_zero, List.getElem?_cons_succ] at z0 z1
        simp [results, Try.results49, go_sem, z0, z1]
      · exact later_set (later_set hfin5 _ (Nat.le_succ _) _) _ (by show w.heap.size ≤ w.heap.size + 1 + 1; omega) _
    | some q =>
      obtain ⟨hdv, hri, hnk, hapq⟩ := his q rfl
      simp only [Option.isSome_some] at o0
      have Hou2 : Hid (bestOut c = (q.1, dv, 0)) := by show _ = _; rw [Hou.out, hdv]; rfl
      have hz1 : ¬ w.heap.size + 1 = w.heap.size + 1 + 1 := by omega
      have hz2 : ¬ w.heap.size + 1 + 1 = w.heap.size + 1 := by omega
      clear his hdv
      go_wp2_with fail
      go_region_held3 (fun X => X.cell? ⟨w.heap.size + 1, 0, none⟩ = some (.slice A n ka) ∧ X.cell? ⟨w.heap.size + 1 + 1, 0, none⟩ = some (.int .i64 dv) ∧ X.frozen? ⟨w.heap.size + 1, 0, none⟩ = false ∧ X.frozen? ⟨w.heap.size + 1 + 1, 0, none⟩ = false) ((simp [*, World.cell?_alloc_some, World.cell?_setCell_far, cell_set_some]; done)) (fail)
      all_goals
        go_wp2_with fail
        refine bodyPost_ret (v := .tuple #[.slice A n ka, .int .i64 dv, .int .i64 0]) (by simp [results, Try.results49, go_sem, *]) rfl ?_
        have hBf : ∀ X, ButS (fun b => b = w.heap.size + 1 ∨ b = w.heap.size + 1 + 1 ∨ b = w3.heap.size + 1) w5 X → BestPost c w (.returned (.tuple #[.slice A n ka, .int .i64 dv, .int .i64 0])) X := fun X hX =>
          ⟨A, n, ka, by rw [Hou2.out], hX.later hfin5 (fun b hb => by omega), by rw [Hou2.out]; exact Reads.butS hri Nat.one_pos hX hapq, hnk⟩
        refine hBf _ ?_
        repeat (first | exact ButS.refl _ | refine ButS.drew ?_ | refine ButS.set_ ?_ (.inl rfl) _ _ | refine ButS.set_ ?_ (.inr (.inl rfl)) _ _)
  · obtain ⟨q, hq⟩ : ∃ q, askedErr c true = q := ⟨_, rfl⟩
    have hou : bestOut c = ([], 0, q) := by unfold bestOut; rw [if_pos he, hq]
    rw [hq] at he
    have hqb : (q != 0) = true := by simpa using he
    have haf := asked_fail (k1 := k1) (k3 := k3) w0 hc0 hcl hn1 hn2 hn3 hk2 hq he
    have Hou := hide hou
    have Haf := hide haf
    clear hou haf he hq
    go_enter Try.func49, Try.ntmps49
    go_wp2_with fail
    rw [← Hw0.out]; clear Hw0
    refine Haf.out.mono ?_
    rintro e w1 ⟨rfl, hL1⟩
    have hp1 := kp.later hL1
    have hd1 := kd.later hL1
    have p0 := hp1.cell 0
    have pf := hp1.frozen 0
    have d0 := hd1.cell 0
    have df := hd1.frozen 0
    simp only [List.getElem?_toArray, List.getElem?_cons_zero, List.getElem?_cons_succ] at p0 d0
    have hs1 := hL1.size
    have hs0 := Hs0.out
    have hp2 := hp1.lt
    have hd2 := hd1.lt
    have Hp1 := hide hp1
    have Hd1 := hide hd1
    clear hp1 hd1
    go_wp2_with fail
    refine bodyPost_ret (v := .tuple #[.slice none 0 0, .int .i64 0, .int .i64 q]) ?_ rfl ⟨none, 0, 0, by rw [Hou.out], ?_, by rw [Hou.out]; exact RI.nil, Nat.le_refl _⟩
    · have z0 := (((Hp1.out.set_ 0 (.slice none 0 0)).far (p := ⟨w.heap.size + 1 + 1, 0, none⟩) (by show w.heap.size + 1 ≠ w.heap.size + 1 + 1; omega) (.int .i64 0)).alloc (.cells #[.pointer none] 121)).cell 0
      have z1 := (((Hd1.out.far (p := ⟨w.heap.size + 1, 0, none⟩) (by show w.heap.size + 1 + 1 ≠ w.heap.size + 1; omega) (.slice none 0 0)).set_ 0 (.int .i64 0)).alloc (.cells #[.pointer none] 121)).cell 0
      simp only [List.setIfInBounds_toArray, List.set_cons_zero, List.set_cons_succ, List.getElem?_toArray, List.getElem?_cons_zero, List.getElem?_cons_succ] at z0 z1
      simp [results, Try.results49, go_sem, z0, z1]
    · exact later_alloc (later_set (later_set (Later.trans hL0 hL1) _ (Nat.le_succ _) _) _ (by show w.heap.size ≤ w.heap.size + 1 + 1; omega) _) _
end Go.Proofs.Ytjilckjhdlabaaa

/- The reference's Nth: walk. -/
namespace Go.Proofs.Ytjilckjhdlabaaa
open Go Go.RowKit

def nthRest : List Horse → Int → Int
  | [], n => n
  | h :: hs, n => nthRest hs (n / sizeH h)
theorem nth_snoc (l : List Horse) (h : Horse) (n : Int) : nth (l ++ [h]) n = nth l n ++ [h.lo + nthRest l n % sizeH h] := by
  induction l generalizing n with
  | nil => simp [nth, nthRest]
  | cons x l ih => simp [nth, nthRest, ih]
theorem nthRest_snoc (l : List Horse) (h : Horse) (n : Int) : nthRest (l ++ [h]) n = nthRest l n / sizeH h := by
  induction l generalizing n with
  | nil => rfl
  | cons x l ih => simp [nthRest, ih]
theorem nthRest_range {l : List Horse} (ok : ∀ h ∈ l, 1 ≤ h.lo ∧ h.lo ≤ h.hi ∧ h.hi ≤ 60) (n : Int) (h0 : 0 ≤ n) (h1 : n ≤ 1000000) : 0 ≤ nthRest l n ∧ nthRest l n ≤ 1000000 := by
  induction l generalizing n with
  | nil => exact ⟨h0, h1⟩
  | cons x l ih =>
    have := sizeH_range (ok x List.mem_cons_self)
    exact ih (fun h hh => ok h (List.mem_cons_of_mem _ hh)) _ (Int.ediv_nonneg h0 (by omega)) (Int.le_trans (Int.ediv_le_self _ h0) h1)
theorem ints_snoc (l : List Int) (x : Int) : ints (l ++ [x]) = ints l ++ [Value.int .i64 x] := by simp [ints]

set_option maxRecDepth 100000 in
theorem Nth_calls {A1 A2 A3 : Option Addr} {n1 k1 n2 k2 n3 k3 : Nat} {c : Clo} {n : Int} (w : World) (hc : CV w c A1 n1 A2 n2 A3 n3) (ok : ∀ h ∈ c.horses, 1 ≤ h.lo ∧ h.lo ≤ h.hi ∧ h.hi ≤ 60) (hl : n1 ≤ 1000) (h0 : 0 ≤ n) (h1 : n ≤ 1000000) :
    Calls Try.prog 46 #[(.agg #[.int .i64 c.closets, .int .i64 c.close, .slice A1 n1 k1, .slice A2 n2 k2, .slice A3 n3 k3]), .int .i64 n] w fun e w' => ∃ A m k, e = .returned (.slice A m k) ∧ Later w w' ∧ RI w' A m (nth c.horses n) ∧ Fresh w w' A := by
  have hn1 := hc.hs.len
  have Hn1 := hide hn1
  clear hn1
  obtain ⟨w0, hw0⟩ : ∃ W, W = (w.alloc (.cells #[.int .i64 c.closets, .int .i64 c.close, .slice A1 n1 k1, .slice A2 n2 k2, .slice A3 n3 k3] 26)) := ⟨_, rfl⟩; have hbox : ∀ W, Later w0 W → ∀ i, W.cell? ⟨w.heap.size, i, none⟩ = #[.int .i64 c.closets, .int .i64 c.close, .slice A1 n1 k1, .slice A2 n2 k2, .slice A3 n3 k3][i]? := (by rw [hw0]; exact box_cells w #[.int .i64 c.closets, .int .i64 c.close, .slice A1 n1 k1, .slice A2 n2 k2, .slice A3 n3 k3] 26); have hL0 : Later w w0 := (by rw [hw0]; simp); have hc0 := hc.later hL0; have Hw0 := hide hw0; clear hw0
  go_enter Try.func46, Try.ntmps46
  go_wp2_with fail
  rw [← Hw0.out]; clear Hw0
  go_loopw [1, 5, 6] (fun m v i wr => ∃ j : Nat, j ≤ n1 ∧ i = .int .i64 j ∧ m = .int .i64 (nthRest (c.horses.take j) n) ∧ wr.ownsRow w0.heap.size 3 1 v j (ints (nth (c.horses.take j) n)) ∧ Later w0 wr) (fun _ _ i _ => n1 - (intOf i).toNat)
  case atStart => exact ⟨0, Nat.zero_le _, rfl, rfl, World.ownsRow_nil _ _ _ _, later_refl _⟩
  case round =>
    obtain ⟨j, hj, rfl, rfl, hown, hL⟩ := hrel
    by_cases hlt : j < n1
    · obtain ⟨b, o, x, rfl, _, hx, hx0, hx1, hx2, hx3⟩ := hc0.hs.get hlt
      have okx := ok x (List.mem_of_getElem? hx)
      have hs := sizeH_range okx
      have ht : c.horses.take (j + 1) = c.horses.take j ++ [x] := by rw [List.take_add_one, hx]; rfl
      have hr := nthRest_range (l := c.horses.take j) (fun h hh => ok h (List.mem_of_mem_take hh)) n h0 h1
      have hi1 : (j : Int) < n1 := by omega
      have hs1 := nth_snoc (c.horses.take j) x n
      have hs2 := nthRest_snoc (c.horses.take j) x n
      rw [← ht] at hs1 hs2
      have Hs1 := hide hs1
      have Hs2 := hide hs2
      generalize nthRest (c.horses.take j) n = q at *
      have hq1 := Int.emod_nonneg q (b := sizeH x) (by omega)
      have hq2 := Int.emod_lt_of_pos q (b := sizeH x) (by omega)
      clear hs1 hs2 ht hx hx2 hx3
      go_wp2_with fail
      have hbx := box_cells wr #[.int .i64 x.lo, .int .i64 x.hi] 66
      have hcl := hbx _ (later_refl _) 0
      have hch := hbx _ (later_refl _) 1
      simp only [List.getElem?_toArray, List.getElem?_cons_zero, List.getElem?_cons_succ] at hcl hch
      have hLa : Later w0 (wr.alloc (.cells #[.int .i64 x.lo, .int .i64 x.hi] 66)) := later_alloc hL _
      have hne : ∀ g, (u5 : Value).ownBlock = some g → g < wr.heap.size := fun g hg => (hown.lt g hg).2
      clear hbx hx0 hx1
      have Hne := hide hne
      clear hne
      have hw1 : IntKind.i64.wrap (x.lo + q % sizeH x) = x.lo + q % sizeH x := IntWalk.i64_in _ (by omega)
      have hz1 : ¬ sizeH x = 0 := by omega
      have hz2 : q.tmod (sizeH x) = q % sizeH x := Int.tmod_eq_emod_of_nonneg hr.1
      have hw2 : IntKind.i64.wrap (q % sizeH x) = q % sizeH x := IntWalk.i64_in _ (by omega)
      go_region_held3 (fun W => Later w0 W ∧ W.cell? ⟨wr.heap.size, 0, none⟩ = some (.int .i64 x.lo) ∧ W.cell? ⟨wr.heap.size, 1, none⟩ = some (.int .i64 x.hi)) ((refine ⟨by simp [*], ?_, ?_⟩ <;> first | assumption | (simp [*]; done) | (rw [World.cell?_alloc_lt _ _ _ (by (show wr.heap.size < _); omega)]; assumption)))
        (first
          | (go_at_call 93; go_must (refine (Size_calls (h := x) _ (by omega) (by omega)).mono ?_; rintro e w1 ⟨rfl, hL1⟩; have hown1 := own_later (own_later hown (later_drew (later_alloc (later_refl _) _))) hL1; have hL2 := Later.trans (later_drew hLa) hL1; have hc1 := fun (i : Nat) (v : Value) (h : ((wr.alloc (.cells #[.int .i64 x.lo, .int .i64 x.hi] 66)).drew).cell? ⟨wr.heap.size, i, none⟩ = some v) => cell_later h hL1 (by simp); have hc2 := hc1 0 _ hcl; have hc3 := hc1 1 _ hch; clear hc1; have hsz1 : wr.heap.size < w1.heap.size := (by have := later_size hL1; simp at this; omega)))
          | (refine own_append_step (w0 := w0) (W := w1) (te := 3) rfl (.tmp 21) (.tmp 29) 23 rfl 3 (.int .i64 0) 1 8 Try.underlying23 int_info rfl (by omega) u5 j (ints (nth (List.take j c.horses) n)) rfl hL2 hown1 [.int .i64 (x.lo + q % sizeH x)] rfl rfl ?_ ?_ (by omega) ?_; (simp [Value.oneCell']); omega; intro v' w2 hap; have hown2 := hap.own; have hL3 := hap.later; have hk0 := hap.cell (b := wr.heap.size) (by have := later_size hL1; simp at this; omega) (fun h => by have := Hne.out _ h; omega); have hc4 := (hk0 0).trans hc2; have hc5 := (hk0 1).trans hc3; clear hk0 hap))
      go_wp2_with fail
      refine (Size_calls (h := x) _ (by omega) (by omega)).mono ?_
      rintro e w3 ⟨rfl, hL4⟩
      have hown3 := own_later hown2 hL4
      have hL5 := Later.trans hL3 hL4
      have hdv : q / sizeH x = q.tdiv (sizeH x) := (Int.tdiv_eq_ediv_of_nonneg hr.1).symm
      have Hdv := hide hdv
      clear hdv
      go_wp2_with fail
      go_roundw
      case rel =>
        refine ⟨j + 1, by omega, by go_num, by rw [Hs2.out], ?_, hL5⟩
        rw [Hs1.out, ints_snoc]; exact hown3
      case measure => simp [intOf]; omega
    · have hf : nth (c.horses.take j) n = nth c.horses n := by rw [List.take_of_length_le (by have := Hn1.out; omega)]
      rw [hf] at hown
      obtain ⟨A, k, rfl, hrd, hfr⟩ := own_slice2 hown
      clear hf
      go_wp2_with fail
      go_ret
      exact ⟨A, j, k, rfl, Later.trans hL0 hL, hrd, hfr.le hL0.size⟩
end Go.Proofs.Ytjilckjhdlabaaa

/- Bits of small numbers, as the machine has them. -/
namespace Go.Proofs.Ytjilckjhdlabaaa
open Go Go.RowKit
theorem ofInt_i64 (a : Nat) (ha : a < 9223372036854775808) : (BitVec.ofInt 64 (a : Int)).toNat = a := by
  rw [BitVec.ofInt_natCast, BitVec.toNat_ofNat]; exact Nat.mod_eq_of_lt (by omega)
theorem i64_and_nat (a b : Nat) (ha : a < 9223372036854775808) (hb : b < 9223372036854775808) : bits .and .i64 (a : Int) (b : Int) = ((a &&& b : Nat) : Int) := by
  have hx : a &&& b < 2 ^ 63 := Nat.and_lt_two_pow _ (by omega)
  show IntKind.i64.wrap ((BitVec.ofInt 64 (a : Int) &&& BitVec.ofInt 64 (b : Int)).toNat : Int) = _
  rw [BitVec.toNat_and, ofInt_i64 a ha, ofInt_i64 b hb, IntKind.wrap_i64]
  omega
theorem i64_or_nat (a b : Nat) (ha : a < 9223372036854775808) (hb : b < 9223372036854775808) : bits .or .i64 (a : Int) (b : Int) = ((a ||| b : Nat) : Int) := by
  have hx : a ||| b < 2 ^ 63 := Nat.or_lt_two_pow (by omega) (by omega)
  show IntKind.i64.wrap ((BitVec.ofInt 64 (a : Int) ||| BitVec.ofInt 64 (b : Int)).toNat : Int) = _
  rw [BitVec.toNat_or, ofInt_i64 a ha, ofInt_i64 b hb, IntKind.wrap_i64]
  omega
theorem pow_le5 {j : Nat} (hj : j ≤ 5) : 2 ^ j ≤ 32 := by
  have : (2 : Nat) ^ j ≤ 2 ^ 5 := Nat.pow_le_pow_right (by omega) hj
  omega
theorem pow_int (j : Nat) : ((2 : Int) ^ j) = ((2 ^ j : Nat) : Int) := by norm_cast
theorem wrap_pow {j : Nat} (hj : j ≤ 5) : wrap64 (2 ^ j) = ((2 ^ j : Nat) : Int) := by
  rw [pow_int]; have h := pow_le5 hj; generalize 2 ^ j = m at h ⊢; unfold wrap64; omega
theorem bits_or_pow {q j : Nat} (hq : q < 2 ^ j) (hj : j ≤ 5) : bits .or .i64 (q : Int) (wrap64 (2 ^ j)) = ((q + 2 ^ j : Nat) : Int) := by
  have := pow_le5 hj
  rw [wrap_pow hj, i64_or_nat q _ (by omega) (by omega), or_pow _ _ hq]
end Go.Proofs.Ytjilckjhdlabaaa

/- The reference's Right, Full, Can: walks. -/
namespace Go.Proofs.Ytjilckjhdlabaaa
open Go Go.RowKit

theorem Right_calls {A1 A2 A3 : Option Addr} {n1 k1 n2 k2 n3 k3 : Nat} {c : Clo} {Ad : Option Addr} {nd kd : Nat} {d : List Int} (w : World) (hc : CV w c A1 n1 A2 n2 A3 n3) (hd : RI w Ad nd d) (ok : OkC c) (hdry : IsDry c d) :
    Calls Try.prog 90 #[(.agg #[.int .i64 c.closets, .int .i64 c.close, .slice A1 n1 k1, .slice A2 n2 k2, .slice A3 n3 k3]), .slice Ad nd kd] w fun e w' => e = .returned (.int .i64 (rightBits c d : Nat)) ∧ Later w w' := by
  have hn3 := hc.lk.len
  have Hn3 := hide hn3
  have hn35 : n3 ≤ 5 := by have := ok.nlooks; omega
  clear hn3
  obtain ⟨w0, hw0⟩ : ∃ W, W = (w.alloc (.cells #[.int .i64 c.closets, .int .i64 c.close, .slice A1 n1 k1, .slice A2 n2 k2, .slice A3 n3 k3] 26)) := ⟨_, rfl⟩; have hbox : ∀ W, Later w0 W → ∀ i, W.cell? ⟨w.heap.size, i, none⟩ = #[.int .i64 c.closets, .int .i64 c.close, .slice A1 n1 k1, .slice A2 n2 k2, .slice A3 n3 k3][i]? := (by rw [hw0]; exact box_cells w #[.int .i64 c.closets, .int .i64 c.close, .slice A1 n1 k1, .slice A2 n2 k2, .slice A3 n3 k3] 26); have hL0 : Later w w0 := (by rw [hw0]; simp); have hc0 := hc.later hL0; have Hw0 := hide hw0; clear hw0
  have hd0 := hd.later hL0
  go_enter Try.func90, Try.ntmps90
  go_wp2_with fail
  rw [← Hw0.out]; clear Hw0
  go_loopw [5, 6] (fun m i wr => ∃ j : Nat, j ≤ n3 ∧ i = .int .i64 j ∧ m = .int .i64 (bitsOf ((c.looks.take j).map (okL c d)) : Nat) ∧ Later w0 wr) (fun _ i _ => n3 - (intOf i).toNat)
  case atStart => exact ⟨0, Nat.zero_le _, rfl, rfl, later_refl _⟩
  case round =>
    obtain ⟨j, hj, rfl, rfl, hL⟩ := hrel
    by_cases hlt : j < n3
    · obtain ⟨b, o, x, rfl, _, hx, hx0, hx1, hx2⟩ := hc0.lk.get hlt
      have okx := ok.looks x (List.mem_of_getElem? hx)
      have ht : c.looks.take (j + 1) = c.looks.take j ++ [x] := by rw [List.take_add_one, hx]; rfl
      have hlen : ((c.looks.take j).map (okL c d)).length = j := by rw [List.length_map, List.length_take]; have := Hn3.out; omega
      have hbl := bitsOf_lt ((c.looks.take j).map (okL c d))
      have hbs := bitsOf_snoc ((c.looks.take j).map (okL c d)) (okL c d x)
      have hor := or_pow _ _ hbl
      rw [hlen] at hbl hbs hor
      have hb : bitsOf ((c.looks.take (j + 1)).map (okL c d)) = bitsOf ((c.looks.take j).map (okL c d)) + 2 ^ j * (okL c d x).toNat := by rw [ht, List.map_append]; exact hbs
      have hi1 : (j : Int) < n3 := by omega
      have Hb := hide hb
      have Hor := hide hor
      have hlk : okL c d x = (decide (minuteR c c.hung d x.horse.toNat ≤ x.minute) == x.dry) := rfl
      have Hlk := hide hlk
      generalize bitsOf ((c.looks.take j).map (okL c d)) = q at *
      obtain ⟨w2, hw2⟩ : ∃ W, W = wr.alloc (.cells #[.int .i64 x.horse, .int .i64 x.minute, .bool x.dry] 84) := ⟨_, rfl⟩
      have hb2 : ∀ W, Later w2 W → ∀ i, W.cell? ⟨wr.heap.size, i, none⟩ = #[.int .i64 x.horse, .int .i64 x.minute, .bool x.dry][i]? := (by rw [hw2]; exact box_cells wr _ _)
      have hL2 : Later w0 w2 := by rw [hw2]; exact later_alloc hL _
      have hT : ∀ e : Ext w2, Later w0 e.W := fun e => Later.trans hL2 e.h
      have Hw2 := hide hw2
      have hp1 := ok.hung.len
      have Hp1 := hide hp1
      have hp2 := hdry.len
      have Hp2 := hide hp2
      clear hw2 hx ht hlen hb hbs hor hlk hp1 hp2
      cases hlk : okL c d x with
      | true =>
        have hlk2 : (decide (minuteR c c.hung d x.horse.toNat ≤ x.minute) == x.dry) = true := by rw [← Hlk.out]; exact hlk
        rw [hlk] at Hb
        clear hlk
        go_wp2_with fail
        rw [← Hw2.out]
        refine wp_region_ext (w0 := w2) (by kernel_rfl) (by kernel_rfl) (later_refl _) ?_; (repeat (first | go_big_quiet_step (((go_at_call 55; exact calls_ext (by simp) (Minute_calls _ (hc0.later (hT _)) (hc0.hu.later (hT _)) (hd0.later (hT _)) ok.toOkH Hp1.out Hp2.out okx.1 okx.2.1 (ok.hung.bound ok.toOkH) (hdry.bound ok.toOkH))))) | quiet_step (((go_at_call 55; exact calls_ext (by simp) (Minute_calls _ (hc0.later (hT _)) (hc0.hu.later (hT _)) (hd0.later (hT _)) ok.toOkH Hp1.out Hp2.out okx.1 okx.2.1 (ok.hung.bound ok.toOkH) (hdry.bound ok.toOkH))))))); refine wpQuiet_nil ?_; rintro w1 ⟨⟨_, hL1⟩, rfl⟩; (try dsimp only)
        go_wp2_with fail
        go_roundw
        case rel =>
          refine ⟨j + 1, by omega, by go_num, ?_, Later.trans hL2 hL1⟩
          rw [Hb.out, bits_or_pow hbl (by omega)]; simp
        case measure => simp [intOf]; omega
      | false =>
        have hlk2 : (decide (minuteR c c.hung d x.horse.toNat ≤ x.minute) == x.dry) = false := by rw [← Hlk.out]; exact hlk
        rw [hlk] at Hb
        clear hlk
        go_wp2_with fail
        rw [← Hw2.out]
        refine wp_region_ext (w0 := w2) (by kernel_rfl) (by kernel_rfl) (later_refl _) ?_; (repeat (first | go_big_quiet_step (((go_at_call 55; exact calls_ext (by simp) (Minute_calls _ (hc0.later (hT _)) (hc0.hu.later (hT _)) (hd0.later (hT _)) ok.toOkH Hp1.out Hp2.out okx.1 okx.2.1 (ok.hung.bound ok.toOkH) (hdry.bound ok.toOkH))))) | quiet_step (((go_at_call 55; exact calls_ext (by simp) (Minute_calls _ (hc0.later (hT _)) (hc0.hu.later (hT _)) (hd0.later (hT _)) ok.toOkH Hp1.out Hp2.out okx.1 okx.2.1 (ok.hung.bound ok.toOkH) (hdry.bound ok.toOkH))))))); refine wpQuiet_nil ?_; rintro w1 ⟨⟨_, hL1⟩, rfl⟩; (try dsimp only)
        go_wp2_with fail
        go_roundw
        case rel =>
          refine ⟨j + 1, by omega, by go_num, ?_, Later.trans hL2 hL1⟩
          rw [Hb.out]; simp
        case measure => simp [intOf]; omega
    · have hf : (c.looks.take j).map (okL c d) = c.looks.map (okL c d) := by rw [List.take_of_length_le (by have := Hn3.out; omega)]
      rw [hf]
      clear hf
      go_wp2_with fail
      go_ret
      exact ⟨rfl, Later.trans hL0 hL⟩

theorem Full_calls {A1 A2 A3 : Option Addr} {n1 k1 n2 k2 n3 k3 : Nat} {c : Clo} (w : World) (hc : CV w c A1 n1 A2 n2 A3 n3) (hn : n3 ≤ 5) :
    Calls Try.prog 73 #[(.agg #[.int .i64 c.closets, .int .i64 c.close, .slice A1 n1 k1, .slice A2 n2 k2, .slice A3 n3 k3])] w fun e w' => e = .returned (.int .i64 (full c : Nat)) ∧ Later w w' := by
  have hn3 := hc.lk.len
  have Hn3 := hide hn3
  clear hn3
  go_enter Try.func73, Try.ntmps73
  go_wp2_with fail
  go_ret
  refine ⟨ret_int ?_, by simp⟩
  rw [wrap_pow hn]
  have := pow_le5 hn
  have h0 : 0 < 2 ^ n3 := Nat.two_pow_pos _
  unfold full
  rw [← Hn3.out]
  generalize 2 ^ n3 = m at *
  (try unfold wrap64)
  omega

theorem Can_calls {A : Option Addr} {n k : Nat} {all : List Nat} {looks : Nat} (w : World) (h : RI w A n (all.map fun (x : Nat) => (x : Int))) (hn : n ≤ 1000000) (hl : looks < 1000000) (hb : ∀ x ∈ all, x < 1000000) :
    Calls Try.prog 91 #[.slice A n k, .int .i64 looks] w fun e w' => e = .returned (.bool (can all looks)) ∧ w = w' := by
  have hl0 := h.len
  have Hl0 := hide hl0
  clear hl0
  go_enter Try.func91, Try.ntmps91
  go_wp2_with fail
  go_loop [5] (fun i => ∃ j : Nat, j ≤ n ∧ i = .int .i64 j ∧ can all looks = can (all.drop j) looks) (fun i => n - (intOf i).toNat)
  case atStart => exact ⟨0, Nat.zero_le _, rfl, rfl⟩
  case round =>
    obtain ⟨j, hj, rfl, hrec⟩ := hrel
    by_cases hlt : j < n
    · obtain ⟨b, o, y, rfl, _, hx, hcx⟩ := h.get hlt
      replace hcx := hcx w (later_refl w)
      obtain ⟨hp, rfl⟩ := List.getElem?_eq_some_iff.1 hx
      have hp' : j < all.length := by simpa using hp
      rw [List.drop_eq_getElem_cons hp'] at hrec
      have hrec2 : can all looks = ((all[j] &&& looks == looks) || can (all.drop (j + 1)) looks) := hrec
      have hval : (all.map fun (x : Nat) => (x : Int))[j] = ((all[j] : Nat) : Int) := by simp
      rw [hval] at hcx
      have hbj := hb _ (List.getElem_mem hp')
      have hand := i64_and_nat all[j] looks (by omega) (by omega)
      generalize all[j] = y at *
      clear hx hrec hval
      have Hrec := hide hrec2
      clear hrec2
      by_cases he : y &&& looks = looks
      · have heb : (((y &&& looks : Nat) : Int) == (looks : Int)) = true := by simp [he]
        have hf : can all looks = true := by rw [Hrec.out]; simp [he]
        have Hf := hide hf
        clear hf he
        go_wp2_with fail
        go_ret
        exact ⟨by rw [Hf.out]; rfl, rfl⟩
      · have heb : (((y &&& looks : Nat) : Int) == (looks : Int)) = false := by simp; omega
        have hf : (y &&& looks == looks) = false := by simpa using he
        rw [hf, Bool.false_or] at Hrec
        clear hf he
        go_wp2_with fail
        go_round
        case rel => exact ⟨j + 1, by omega, by go_num, Hrec.out⟩
        case measure => simp [intOf]; omega
    · have hd : all.drop j = [] := List.drop_eq_nil_of_le (by have := Hl0.out; simp at this; omega)
      rw [hd] at hrec
      have Hrec := hide hrec
      clear hrec hd
      go_wp2_with fail
      go_ret
      exact ⟨by rw [Hrec.out]; rfl, rfl⟩
end Go.Proofs.Ytjilckjhdlabaaa

/- The reference's Truths, All: walks. -/
namespace Go.Proofs.Ytjilckjhdlabaaa
open Go Go.RowKit

/-- cells that hold slices, which read as lists of numbers -/
def Rows2 (w : World) (vs : List Value) (ls : List (List Int)) : Prop :=
  vs.length = ls.length ∧ ∀ (i : Nat) (l : List Int), ls[i]? = some l → ∃ A n k, vs[i]? = some (Value.slice A n k) ∧ RI w A n l
theorem Rows2.nil (w : World) : Rows2 w [] [] := ⟨rfl, fun i l h => by simp at h⟩
theorem Rows2.later {w W : World} {vs : List Value} {ls : List (List Int)} (h : Rows2 w vs ls) (k : Later w W) : Rows2 W vs ls :=
  ⟨h.1, fun i l hi => let ⟨A, n, k', e, hr⟩ := h.2 i l hi; ⟨A, n, k', e, hr.later k⟩⟩
theorem Rows2.snoc {w : World} {vs : List Value} {ls : List (List Int)} (h : Rows2 w vs ls) {A : Option Addr} {n k : Nat} {l : List Int} (hr : RI w A n l) : Rows2 w (vs ++ [.slice A n k]) (ls ++ [l]) := by
  refine ⟨by simp [h.1], fun i m hi => ?_⟩
  rcases Nat.lt_or_ge i ls.length with hlt | hge
  · rw [List.getElem?_append_left hlt] at hi
    obtain ⟨A', n', k', e, hr'⟩ := h.2 i m hi
    exact ⟨A', n', k', by rw [List.getElem?_append_left (by rw [h.1]; exact hlt)]; exact e, hr'⟩
  · rw [List.getElem?_append_right hge] at hi
    have : i - ls.length = 0 := by
      rcases Nat.eq_zero_or_pos (i - ls.length) with h | h
      · exact h
      · rw [List.getElem?_eq_none (by simp; omega)] at hi; cases hi
    rw [this] at hi
    simp at hi; subst hi
    exact ⟨A, n, k, by rw [List.getElem?_append_right (by rw [h.1]; exact hge), h.1, this]; rfl, hr⟩
/-- .. none of them in the block of v -/
def Rows3 (w : World) (v : Value) (vs : List Value) (ls : List (List Int)) : Prop :=
  vs.length = ls.length ∧ ∀ (i : Nat) (l : List Int), ls[i]? = some l → ∃ A n k, vs[i]? = some (Value.slice A n k) ∧ RI w A n l ∧ ∀ b o, A = some ⟨b, o, none⟩ → b < w.heap.size ∧ v.ownBlock ≠ some b
theorem Rows3.later {w W : World} {v : Value} {vs : List Value} {ls : List (List Int)} (h : Rows3 w v vs ls) (k : Later w W) : Rows3 W v vs ls :=
  ⟨h.1, fun i l hi => let ⟨A, n, k', e, hr, hb⟩ := h.2 i l hi; ⟨A, n, k', e, hr.later k, fun b o hA => ⟨Nat.lt_of_lt_of_le (hb b o hA).1 k.size, (hb b o hA).2⟩⟩⟩
theorem RRI.of_rows {w : World} {A : Option Addr} {n : Nat} {vs : List Value} {ls : List (List Int)} (h1 : Reads w w.heap.size 1 A n vs) (h2 : Rows2 w vs ls) : RRI w A n ls := ⟨vs, h1, h2.1, h2.2⟩

theorem row_info : (Try.prog.info? 23).map (fun i => (i.zero, i.size, i.bytes)) = some (some (.slice none 0 0), 1, 24) := by kernel_rfl

def allTo (c : Clo) (j : Nat) : List (List Int) := (List.range j).map fun (n : Nat) => nth c.horses n
theorem allTo_succ (c : Clo) (j : Nat) : allTo c (j + 1) = allTo c j ++ [nth c.horses j] := by simp [allTo, List.range_succ]

theorem Appended.rows {w0 W w' : World} {e : TypeId} {size n : Nat} {v v' : Value} {xs news : List Value} (h : Appended w0 W w' e size v v' n xs news) {vs : List Value} {ls : List (List Int)}
    (hr : Rows3 W v vs ls) : Rows3 w' v' vs ls :=
  ⟨hr.1, fun i l hi => by
    obtain ⟨A, m, k', e1, hri, hne⟩ := hr.2 i l hi
    refine ⟨A, m, k', e1, h.ri hri fun b o hA => (hne b o hA).2, fun b o hA => ?_⟩
    obtain ⟨h1, h2⟩ := hne b o hA
    refine ⟨Nat.lt_trans h1 h.size, ?_⟩
    rcases h.at_ with e2 | ⟨g, e2, hg⟩
    · rw [e2]; exact h2
    · rw [e2]; intro e3; injection e3 with e3; omega⟩
theorem Rows3.snoc {w : World} {v : Value} {vs : List Value} {ls : List (List Int)} (h : Rows3 w v vs ls) {A : Option Addr} {n k : Nat} {l : List Int} (hr : RI w A n l)
    (hf : ∀ b o, A = some ⟨b, o, none⟩ → b < w.heap.size ∧ v.ownBlock ≠ some b) : Rows3 w v (vs ++ [.slice A n k]) (ls ++ [l]) := by
  refine ⟨by simp [h.1], fun i m hi => ?_⟩
  rcases Nat.lt_or_ge i ls.length with hlt | hge
  · rw [List.getElem?_append_left hlt] at hi
    obtain ⟨A', n', k', e, hr'⟩ := h.2 i m hi
    exact ⟨A', n', k', by rw [List.getElem?_append_left (by rw [h.1]; exact hlt)]; exact e, hr'⟩
  · rw [List.getElem?_append_right hge] at hi
    have : i - ls.length = 0 := by
      rcases Nat.eq_zero_or_pos (i - ls.length) with h | h
      · exact h
      · rw [List.getElem?_eq_none (by simp; omega)] at hi; cases hi
    rw [this] at hi
    simp at hi; subst hi
    exact ⟨A, n, k, by rw [List.getElem?_append_right (by rw [h.1]; exact hge), h.1, this]; rfl, hr, hf⟩
theorem Rows3.rows {w : World} {v : Value} {vs : List Value} {ls : List (List Int)} (h : Rows3 w v vs ls) : Rows2 w vs ls :=
  ⟨h.1, fun i l hi => let ⟨A, n, k, e, hr, _⟩ := h.2 i l hi; ⟨A, n, k, e, hr⟩⟩

set_option maxRecDepth 100000 in
theorem Truths_calls {A1 A2 A3 : Option Addr} {n1 k1 n2 k2 n3 k3 : Nat} {c : Clo} (w : World) (hc : CV w c A1 n1 A2 n2 A3 n3) (ok : OkC c) (hm : many c ≤ 2000) :
    Calls Try.prog 43 #[(.agg #[.int .i64 c.closets, .int .i64 c.close, .slice A1 n1 k1, .slice A2 n2 k2, .slice A3 n3 k3])] w fun e w' => ∃ A m k, e = .returned (.slice A m k) ∧ Later w w' ∧ RRI w' A m (truths c) := by
  have okh : ∀ h ∈ c.horses, 1 ≤ h.lo ∧ h.lo ≤ h.hi ∧ h.hi ≤ 60 := fun h hh => by have := ok.horse h hh; omega
  have hn1 := hc.hs.len
  have hn3 := hc.lk.len
  have hl1 : n1 ≤ 1000 := by have := ok.len; omega
  have hl3 : n3 ≤ 5 := by have := ok.nlooks; omega
  have hmr := many_range okh
  clear hn1 hn3
  obtain ⟨w0, hw0⟩ : ∃ W, W = (w.alloc (.cells #[.int .i64 c.closets, .int .i64 c.close, .slice A1 n1 k1, .slice A2 n2 k2, .slice A3 n3 k3] 26)) := ⟨_, rfl⟩; have hbox : ∀ W, Later w0 W → ∀ i, W.cell? ⟨w.heap.size, i, none⟩ = #[.int .i64 c.closets, .int .i64 c.close, .slice A1 n1 k1, .slice A2 n2 k2, .slice A3 n3 k3][i]? := (by rw [hw0]; exact box_cells w #[.int .i64 c.closets, .int .i64 c.close, .slice A1 n1 k1, .slice A2 n2 k2, .slice A3 n3 k3] 26); have hL0 : Later w w0 := (by rw [hw0]; simp); have hc0 := hc.later hL0; have Hw0 := hide hw0; clear hw0
  go_enter Try.func43, Try.ntmps43
  go_wp2_with fail
  rw [← Hw0.out]; clear Hw0
  go_loopw [3, 4] (fun v i wr => ∃ (j : Nat) (vs : List Value), (j : Int) ≤ many c ∧ i = .int .i64 j ∧ wr.ownsRow w0.heap.size 23 1 v ((allTo c j).filter fun d => rightBits c d == full c).length vs ∧
    Rows3 wr v vs ((allTo c j).filter fun d => rightBits c d == full c) ∧ Later w0 wr) (fun _ i _ => (many c - intOf i).toNat)
  case atStart => exact ⟨0, [], by omega, rfl, World.ownsRow_nil _ _ _ _, ⟨rfl, fun i l h => by simp [allTo] at h⟩, later_refl _⟩
  case round =>
    obtain ⟨j, vs, hj, rfl, hown, hrows, hL⟩ := hrel
    go_wp2_with fail
    refine (Many_calls _ (hc0.later hL) okh (by omega)).mono ?_
    rintro e w1 ⟨rfl, hL1⟩
    have hL2 := Later.trans hL hL1
    have hown1 := own_later hown hL1
    have hrows1 : Rows3 w1 _ vs _ := hrows.later hL1
    by_cases hlt : (j : Int) < many c
    · have hj2 : j ≤ 2000 := by omega
      go_wp2_with fail
      refine (Nth_calls _ (hc0.later hL2) okh hl1 (by omega) (by omega)).mono ?_
      rintro e w2 ⟨A, m, k, rfl, hL3, hri, hfr⟩
      have hL4 := Later.trans hL2 hL3
      have hown2 := own_later hown1 hL3
      have hrows2 := hrows1.later hL3
      have hdry := nth_isDry ok.toOkH (j : Int)
      have hcnt : ((allTo c j).filter fun d => rightBits c d == full c).length ≤ 1000000 := by
        have := List.length_filter_le (fun d => rightBits c d == full c) (allTo c j)
        have h2 : (allTo c j).length = j := by simp [allTo]
        omega
      have hsu := allTo_succ c j
      have hne := hfr.apart hown1
      have hT : ∀ e : Ext w2, Later w0 e.W := fun e => Later.trans hL4 e.h
      have hq : (((rightBits c (nth c.horses (j : Int)) : Nat) : Int) == ((full c : Nat) : Int)) = (rightBits c (nth c.horses (j : Int)) == full c) := by
        rw [Bool.eq_iff_iff]; simp; constructor <;> omega
      generalize nth c.horses (j : Int) = d at *
      clear hown hown1 hrows hrows1
      cases hb : (rightBits c d == full c) with
      | true =>
        rw [hb] at hq
        have hsu2 : (allTo c (j + 1)).filter (fun d => rightBits c d == full c) = (allTo c j).filter (fun d => rightBits c d == full c) ++ [d] := by
          rw [hsu, List.filter_append]; simp [hb]
        generalize (allTo c j).filter (fun d => rightBits c d == full c) = ls at *
        have Hsu := hide hsu2
        clear hsu hsu2 hb
        go_wp2_with fail
        refine wp_region_ext (w0 := w2) (by kernel_rfl) (by kernel_rfl) (later_refl _) ?_; (repeat (first | go_big_quiet_step ((first | (go_at_call 90; exact calls_ext (by simp) (Right_calls _ (hc0.later (hT _)) (hri.later (by simp)) ok hdry)) | (go_at_call 73; exact calls_ext (by simp) (Full_calls _ (hc0.later (hT _)) hl3)))) | quiet_step ((first | (go_at_call 90; exact calls_ext (by simp) (Right_calls _ (hc0.later (hT _)) (hri.later (by simp)) ok hdry)) | (go_at_call 73; exact calls_ext (by simp) (Full_calls _ (hc0.later (hT _)) hl3)))))); refine wpQuiet_nil ?_; rintro w3 ⟨⟨_, hL5⟩, rfl⟩; (try dsimp only)
        have hL6 := Later.trans hL4 hL5
        have hown3 := own_later hown2 hL5
        go_wp2_with (at_builtin; go_must (refine own_append (w0 := w0) (W := w3) (te := 23) rfl _ _ 38 rfl 23 (.slice none 0 0) 1 24 Try.underlying38 row_info rfl (by omega) u3 ls.length vs rfl hL6 hown3 [.slice A m k] rfl rfl ?_ hcnt (by omega) ?_; (simp [Value.oneCell']); intro v' w4 hap; have hown4 := hap.own; have hL7 := hap.later))
        have hrows4 := ((hrows2.later hL5).snoc (k := k) (hri.later hL5) (fun b o hA => ⟨Nat.lt_of_lt_of_le (hne b o hA).1 hL5.size, (hne b o hA).2⟩))
        have hrows5 := hap.rows hrows4
        clear hap hrows4 hrows2 hown2 hown3
        go_roundw
        case rel =>
          refine ⟨j + 1, vs ++ [.slice A m k], by omega, by go_num, ?_, ?_, hL7⟩
          · rw [Hsu.out, List.length_append]; exact hown4
          · rw [Hsu.out]; exact hrows5
        case measure => simp [intOf]; omega
      | false =>
        rw [hb] at hq
        have hsu2 : (allTo c (j + 1)).filter (fun d => rightBits c d == full c) = (allTo c j).filter (fun d => rightBits c d == full c) := by
          rw [hsu, List.filter_append]; simp [hb]
        generalize (allTo c j).filter (fun d => rightBits c d == full c) = ls at *
        have Hsu := hide hsu2
        clear hsu hsu2 hb
        go_wp2_with fail
        refine wp_region_ext (w0 := w2) (by kernel_rfl) (by kernel_rfl) (later_refl _) ?_; (repeat (first | go_big_quiet_step ((first | (go_at_call 90; exact calls_ext (by simp) (Right_calls _ (hc0.later (hT _)) (hri.later (by simp)) ok hdry)) | (go_at_call 73; exact calls_ext (by simp) (Full_calls _ (hc0.later (hT _)) hl3)))) | quiet_step ((first | (go_at_call 90; exact calls_ext (by simp) (Right_calls _ (hc0.later (hT _)) (hri.later (by simp)) ok hdry)) | (go_at_call 73; exact calls_ext (by simp) (Full_calls _ (hc0.later (hT _)) hl3)))))); refine wpQuiet_nil ?_; rintro w3 ⟨⟨_, hL5⟩, rfl⟩; (try dsimp only)
        go_wp2_with fail
        go_roundw
        case rel =>
          refine ⟨j + 1, vs, by omega, by go_num, ?_, ?_, Later.trans hL4 hL5⟩
          · rw [Hsu.out]; exact own_later hown2 hL5
          · rw [Hsu.out]; exact hrows2.later hL5
        case measure => simp [intOf]; omega
    · have hjm : (j : Int) = many c := by omega
      have hf : (allTo c j).filter (fun d => rightBits c d == full c) = truths c := by
        unfold truths allDry allTo; rw [← hjm, Int.toNat_natCast]
      rw [hf] at hown1 hrows1
      obtain ⟨A, k, rfl, hrd⟩ := own_slice hown1
      have Hf := hide hf
      clear hf hown hown1 hrows
      have Hjm := hide hjm
      clear hjm
      go_wp2_with fail
      go_ret
      exact ⟨A, _, k, rfl, Later.trans hL0 hL2, RRI.of_rows hrd hrows1.rows⟩
end Go.Proofs.Ytjilckjhdlabaaa
