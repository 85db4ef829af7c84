/- Part 2 of the proof: joined from the texts CloB, Iter, Choose, CloD, CloE, CloF, CloG. -/
import Derived.Test.YtjilckjhdlabaaaPart1
import Derived.RangeFuncNested
import Derived.RangeFuncBound
import Derived.RangeFuncCalls
import Derived.RangeFuncLeaves
import Derived.Shelf.Abstract
import Derived.Shelf.RegionOpen
import Derived.OwnWalkIn
import Derived.TacticsInMore
import Derived.LoopNIn
import Derived.LoopIn
import Derived.Laws.EntriesVeiled
set_option linter.unusedSimpArgs false
set_option linter.unusedVariables false
/- The program's isPlace, minimum, wider, all: walks. -/
namespace Go.Proofs.Ytjilckjhdlabaaa
open Go Go.RowKit

set_option maxRecDepth 100000 in
theorem Index_calls {A : Option Addr} {n k : Nat} {p : List Int} (x : Int) (w : World) (h : RI w A n p) (hn : n ≤ 1000000) :
    Calls Try.prog 130 #[.slice A n k, .int .i64 x] w fun e w' => e = .returned (.int .i64 (atFrom p x 0)) ∧ w = w' := by
  have Hl := hide h.len
  go_enter Try.func130, Try.ntmps130
  go_wp2_with fail
  go_loop [8] (fun i => ∃ j : Nat, j ≤ n ∧ i = .int .i64 j ∧ atFrom (p.drop j) x j = atFrom p x 0) (fun i => n - (intOf i).toNat)
  case atStart => exact ⟨0, Nat.zero_le _, rfl, rfl⟩
  case round =>
    obtain ⟨j, hj, rfl, hno⟩ := hrel
    by_cases hlt : j < n
    · obtain ⟨b, o, y, rfl, _, hx, hc⟩ := h.get hlt
      replace hc := hc w (later_refl w)
      obtain ⟨hp, rfl⟩ := List.getElem?_eq_some_iff.1 hx
      rw [List.drop_eq_getElem_cons hp, atFrom_cons] at hno
      by_cases he : p[j] = x
      · rw [if_pos he] at hno
        have Hno := hide hno
        have Hx := hide hx
        have heb : (x == p[j]) = true := by simp [he]
        have He := hide he
        clear hno hx he
        go_wp2_with fail
        go_ret
        exact ⟨ret_int Hno.out, rfl⟩
      · rw [if_neg he] at hno
        have Hno := hide hno
        have Hx := hide hx
        have heb : (x == p[j]) = false := by simp; exact fun h => he h.symm
        clear hno hx he
        go_wp2_with fail
        go_round
        case rel => exact ⟨j + 1, by omega, by go_num, by rw [← Hno.out]; rfl⟩
        case measure => simp [intOf]; omega
    · rw [List.drop_of_length_le (by have := Hl.out; omega)] at hno
      have Hno := hide hno
      clear hno
      go_wp2_with fail
      go_ret
      exact ⟨ret_int Hno.out, rfl⟩

theorem atFrom_contains (p : List Int) (x j : Int) (hj : 0 ≤ j) : decide (0 ≤ atFrom p x j) = p.contains x := by
  induction p generalizing j with
  | nil => simp [atFrom]
  | cons y l ih =>
    rw [atFrom_cons, List.contains_cons]
    by_cases h : y = x
    · rw [if_pos h, h]; simp [hj]
    · rw [if_neg h, ih (j + 1) (by omega)]
      rw [show (x == y) = false by simp; exact fun e => h e.symm, Bool.false_or]

theorem Contains_eq {A : Option Addr} {n k : Nat} {p : List Int} {x : Int} {b : Bool} (hb : p.contains x = b) (w : World) (h : RI w A n p) (hn : n ≤ 1000000) :
    Calls Try.prog 119 #[.slice A n k, .int .i64 x] w fun e w' => e = .returned (.bool b) ∧ w = w' := by
  rw [← atFrom_contains p x 0 (by omega)] at hb
  go_enter Try.func119, Try.ntmps119
  go_wp2_with fail
  refine (Index_calls x _ h hn).mono ?_
  rintro e w' ⟨rfl, rfl⟩
  generalize atFrom p x 0 = q at *
  have Hb := hide hb
  clear hb
  go_wp2_with fail
  go_ret
  exact ⟨by rw [← Hb.out]; rfl, rfl⟩

theorem RI.take {w : World} {A : Option Addr} {n : Nat} {l : List Int} (h : RI w A n l) (i : Nat) (hi : i ≤ n) : RI w A i (l.take i) := by
  have hn := h.len
  refine ⟨by rw [ints_length, List.length_take]; omega, fun h0 => ?_⟩
  obtain ⟨ad, e, hb, hc⟩ := h.2 (by omega)
  refine ⟨ad, e, hb, fun j u hu => hc j u ?_⟩
  simp only [ints, List.map_take, List.getElem?_take] at hu
  split at hu
  · exact hu
  · cases hu

theorem isPlace_calls {A1 A2 A3 : Option Addr} {n1 k1 n2 k2 n3 k3 : Nat} {c : Clo} {Ap : Option Addr} {np kp : Nat} {p : List Int} (w : World) (hc : CV w c A1 n1 A2 n2 A3 n3) (hp : RI w Ap np p) (hcap : np ≤ kp)
    (hmp : np ≤ 1000000) (hmh : n1 ≤ 1000000) :
    Calls Try.prog 84 #[(.agg #[.int .i64 c.closets, .int .i64 c.close, .slice A1 n1 k1, .slice A2 n2 k2, .slice A3 n3 k3]), .slice Ap np kp] w fun e w' => e = .returned (.bool (isPlaceB c p)) ∧ Later w w' := by
  have hnp := hp.len
  have hn1 := hc.hs.len
  by_cases hne : np = n1
  · have hfin : isPlaceB c p = plAux (wrap64 (c.closets - 1)) [] p := by
      unfold isPlaceB; rw [show (p.length == c.horses.length) = true from by simp; omega, Bool.true_and, wr64_eq]
    have Hfin := hide hfin
    have hneb : ((np : Int) != (n1 : Int)) = false := by rw [bne_eq_false_iff_eq]; omega
    have Hn := hide hne
    have Hnp := hide hnp
    have Hn1 := hide hn1
    clear hne hnp hn1 hfin
    obtain ⟨w0, hw0⟩ : ∃ W, W = (w.alloc (.cells #[.int .i64 c.closets, .int .i64 c.close, .slice A1 n1 k1, .slice A2 n2 k2, .slice A3 n3 k3] 35)) := ⟨_, rfl⟩; have hbox : ∀ W, Later w0 W → ∀ i, W.cell? ⟨w.heap.size, i, none⟩ = #[.int .i64 c.closets, .int .i64 c.close, .slice A1 n1 k1, .slice A2 n2 k2, .slice A3 n3 k3][i]? := (by rw [hw0]; exact box_cells w #[.int .i64 c.closets, .int .i64 c.close, .slice A1 n1 k1, .slice A2 n2 k2, .slice A3 n3 k3] 35); have hL0 : Later w w0 := (by rw [hw0]; simp); have hc0 := hc.later hL0; have Hw0 := hide hw0; clear hw0
    have hp0 := hp.later hL0
    go_enter Try.func84, Try.ntmps84
    go_wp2_with fail
    rw [← Hw0.out]; clear Hw0
    go_loopw [15] (fun i wr => ∃ j : Nat, j ≤ np ∧ i = .int .i64 j ∧ plAux (wrap64 (c.closets - 1)) [] p = plAux (wrap64 (c.closets - 1)) (p.take j) (p.drop j) ∧ Later w0 wr) (fun i _ => np - (intOf i).toNat)
    case atStart => exact ⟨0, Nat.zero_le _, rfl, rfl, later_refl _⟩
    case round =>
      obtain ⟨j, hj, rfl, hrec, hL⟩ := hrel
      by_cases hlt : j < np
      · obtain ⟨b, o, x, rfl, _, hx, hcx⟩ := hp0.get hlt
        obtain ⟨hpj, rfl⟩ := List.getElem?_eq_some_iff.1 hx
        rw [List.drop_eq_getElem_cons hpj] at hrec
        have hrec2 : plAux (wrap64 (c.closets - 1)) [] p = (inB p[j] 0 (wrap64 (c.closets - 1)) && !((p.take j).contains p[j]) && plAux (wrap64 (c.closets - 1)) (p.take j ++ [p[j]]) (p.drop (j + 1))) := hrec
        have Hrec := hide hrec2
        have Hx := hide hx
        have htk := hp0.take j hj
        have hcap2 : j ≤ kp := by omega
        clear hrec hx hrec2
        have hidx : (0 : Int) ≤ (j : Int) := by omega
        have hidx2 : (j : Int) < (np : Int) := by omega
        cases hin : inB p[j] 0 (wrap64 (c.closets - 1)) with
        | true =>
          go_wp2_with fail
          have hcc := closet_calls (A1 := A1) (A2 := A2) (A3 := A3) (n1 := n1) (k1 := k1) (n2 := n2) (k2 := k2) (n3 := n3) (k3 := k3) (c := c) (n := p[j]) wr
          rw [hin] at hcc
          refine hcc.mono ?_
          clear hcc
          rintro e w1 ⟨rfl, hL1⟩
          have hL2 := Later.trans hL hL1
          go_wp2_with fail
          cases hct : (p.take j).contains p[j] with
          | true =>
            have hf : plAux (wrap64 (c.closets - 1)) [] p = false := by rw [Hrec.out, hct]; simp
            have Hf := hide hf
            clear hf
            refine (Contains_eq hct _ (htk.later hL2) (by omega)).mono ?_
            rintro e w' ⟨rfl, rfl⟩
            go_wp2_with fail
            go_ret
            exact ⟨by rw [Hfin.out, Hf.out]; rfl, Later.trans hL0 hL2⟩
          | false =>
            rw [hin, hct, Bool.true_and, Bool.not_false, Bool.true_and] at Hrec
            refine (Contains_eq hct _ (htk.later hL2) (by omega)).mono ?_
            rintro e w' ⟨rfl, rfl⟩
            clear hct
            go_wp2_with fail
            go_roundw
            case rel => exact ⟨j + 1, by omega, by go_num, by rw [Hrec.out, List.take_succ_eq_append_getElem hpj], hL2⟩
            case measure => simp [intOf]; omega
        | false =>
          have hf : plAux (wrap64 (c.closets - 1)) [] p = false := by rw [Hrec.out, hin]; simp
          have Hf := hide hf
          clear hf
          go_wp2_with fail
          have hcc := closet_calls (A1 := A1) (A2 := A2) (A3 := A3) (n1 := n1) (k1 := k1) (n2 := n2) (k2 := k2) (n3 := n3) (k3 := k3) (c := c) (n := p[j]) wr
          rw [hin] at hcc
          refine hcc.mono ?_
          clear hcc
          rintro e w1 ⟨rfl, hL1⟩
          go_wp2_with fail
          go_ret
          exact ⟨by rw [Hfin.out, Hf.out]; rfl, Later.trans hL0 (Later.trans hL hL1)⟩
      · have hd : p.drop j = [] := List.drop_eq_nil_of_le (by have := Hnp.out; omega)
        rw [hd] at hrec
        have Hrec := hide hrec
        clear hrec hd
        go_wp2_with fail
        go_ret
        exact ⟨by rw [Hfin.out, Hrec.out]; rfl, Later.trans hL0 hL⟩
  · have hfin : isPlaceB c p = false := by
      unfold isPlaceB; rw [show (p.length == c.horses.length) = false from by simp; omega]; rfl
    have Hfin := hide hfin
    have hneb : ((np : Int) != (n1 : Int)) = true := by rw [bne_iff_ne]; omega
    clear hne hnp hn1 hfin
    go_enter Try.func84, Try.ntmps84
    go_wp2_with fail
    go_ret
    exact ⟨by rw [Hfin.out]; rfl, by simp⟩

/-! ### all -/
def idxB {α : Type} (g : α → Bool) : List α → Int → Int
  | [], _ => -1
  | x :: l, j => if g x then j else idxB g l (j + 1)
theorem idxB_any {α : Type} (g : α → Bool) (l : List α) (j : Int) (hj : 0 ≤ j) : decide (0 ≤ idxB g l j) = l.any g := by
  induction l generalizing j with
  | nil => simp [idxB]
  | cons y l ih =>
    rw [idxB, List.any_cons]
    by_cases h : g y = true
    · rw [if_pos h, h]; simp [hj]
    · rw [if_neg h, ih (j + 1) (by omega)]
      simp [h]
theorem not_any_not {α : Type} (g : α → Bool) (l : List α) : (!l.any fun x => !g x) = l.all g := by
  induction l with
  | nil => rfl
  | cons x l ih => simp [List.any_cons, List.all_cons, ← ih]

theorem allH1_calls {bp : Nat} (x : Horse) (w : World) (h : w.cell? ⟨bp, 0, none⟩ = some (.func (.func 105) #[] #[])) :
    Calls Try.prog 124 #[.agg #[.int .i64 x.lo, .int .i64 x.hi, .int .i64 x.wet, .int .i64 x.grace], .pointer (some ⟨bp, 0, none⟩)] w fun e w' =>
      e = .returned (.bool (!horseOk x)) ∧ Later w w' := by
  have hb : bp < w.heap.size := World.block_lt_of_cell? w ⟨bp, 0, none⟩ h
  have h2 := fun W k => cell_later (W := W) h k hb
  go_enter Try.func124, Try.ntmps124
  go_wp2_with fail
  refine (valid_calls x _).mono ?_
  rintro e w1 ⟨rfl, hL1⟩
  go_wp2_with fail
  go_ret
  exact ⟨rfl, Later.trans (by simp) hL1⟩

theorem IndexFuncH_calls {A : Option Addr} {n k bp : Nat} {l : List Horse} (w : World) (h : RH w A n l) (hn : n ≤ 1000000) (hb : w.cell? ⟨bp, 0, none⟩ = some (.func (.func 105) #[] #[])) :
    Calls Try.prog 132 #[.slice A n k, .func (.func 124) #[] #[.pointer (some ⟨bp, 0, none⟩)]] w fun e w' =>
      e = .returned (.int .i64 (idxB (fun x => !horseOk x) l 0)) ∧ Later w w' := by
  have hl := h.len
  have hbl : bp < w.heap.size := World.block_lt_of_cell? w ⟨bp, 0, none⟩ hb
  have hb2 := fun W k => cell_later (W := W) hb k hbl
  have Hl := hide hl
  clear hl
  go_enter Try.func132, Try.ntmps132
  go_wp2_with fail
  go_loopw [8] (fun i wr => ∃ j : Nat, j ≤ n ∧ i = .int .i64 j ∧ idxB (fun x => !horseOk x) (l.drop j) j = idxB (fun x => !horseOk x) l 0 ∧ Later w wr) (fun i _ => n - (intOf i).toNat)
  case atStart => exact ⟨0, Nat.zero_le _, rfl, rfl, later_refl _⟩
  case round =>
    obtain ⟨j, hj, rfl, hno, hL⟩ := hrel
    by_cases hlt : j < n
    · obtain ⟨b, o, y, rfl, _, hx, hc0, hc1, hc2, hc3⟩ := h.get hlt
      obtain ⟨hp, e1⟩ := List.getElem?_eq_some_iff.1 hx
      rw [List.drop_eq_getElem_cons hp, e1] at hno
      simp only [idxB] at hno
      have hi1 : (j : Int) < n := by omega
      have hcc := allH1_calls y wr (hb2 _ hL)
      cases hok : horseOk y with
      | true =>
        rw [hok] at hcc
        simp only [hok, Bool.not_true, Bool.false_eq_true, if_false] at hno
        have Hno := hide hno
        have Hcc := hide hcc
        clear hno hx hcc e1 hok
        go_wp2_with fail
        refine Hcc.out.mono ?_
        rintro e w1 ⟨rfl, hL1⟩
        have hL2 := Later.trans hL hL1
        go_wp2_with fail
        go_roundw
        case rel => exact ⟨j + 1, by omega, by go_num, by rw [← Hno.out]; rfl, hL2⟩
        case measure => simp [intOf]; omega
      | false =>
        rw [hok] at hcc
        simp only [hok, Bool.not_false, if_true] at hno
        have Hno := hide hno
        have Hcc := hide hcc
        clear hno hx hcc e1 hok
        go_wp2_with fail
        refine Hcc.out.mono ?_
        rintro e w1 ⟨rfl, hL1⟩
        go_wp2_with fail
        go_ret
        exact ⟨ret_int Hno.out, Later.trans hL hL1⟩
    · rw [List.drop_of_length_le (by have := Hl.out; omega)] at hno
      have Hno := hide hno
      clear hno
      go_wp2_with fail
      go_ret
      exact ⟨ret_int Hno.out, hL⟩

theorem allH_calls {A : Option Addr} {n k : Nat} {l : List Horse} (w : World) (h : RH w A n l) (hn : n ≤ 1000000) :
    Calls Try.prog 104 #[.slice A n k, .func (.func 105) #[] #[]] w fun e w' => e = .returned (.bool (l.all horseOk)) ∧ Later w w' := by
  have hw : Later w (w.alloc (.cells #[.func (.func 105) #[] #[]] 149)) := later_alloc (later_refl _) _
  have hb := box_cells w #[.func (.func 105) #[] #[]] 149 _ (later_refl _) 0
  have hf := idxB_any (fun x => !horseOk x) l 0 (by omega)
  have hf2 := not_any_not horseOk l
  rw [← hf] at hf2
  have Hf := hide hf2
  clear hf hf2
  go_enter Try.func104, Try.ntmps104
  go_wp2_with fail
  go_enter Try.func123, Try.ntmps123
  go_wp2_with fail
  refine (IndexFuncH_calls _ (h.later hw) hn hb).mono ?_
  rintro e w1 ⟨rfl, hL1⟩
  generalize idxB (fun x => !horseOk x) l 0 = q at *
  go_wp2_with fail
  go_ret
  exact ⟨by rw [← Hf.out]; rfl, Later.trans hw hL1⟩
end Go.Proofs.Ytjilckjhdlabaaa

/- A range over a function whose iterator keeps cells of its own: the law for the caller. -/
namespace Go.Proofs.Ytjilckjhdlabaaa
open Go Go.RowKit Go.Shelf

/-- J stands new blocks, and stores into block bd -/
def Stands {β : Type} (bd : Nat) (J : β → World → Prop) : Prop :=
  (∀ s A o, J s A → J s (A.alloc o)) ∧ ∀ s A i u, J s A → J s (A.setCell ⟨bd, i, none⟩ u)

/-- THE ITERATOR's CONTRACT: it yields xs in order; its own cells lie from the heap's size on, of which the block next to the first is written between rounds; a round that goes on keeps Kp. -/
def IterOK {α : Type} (F : Fence) (n : Nat) (P : Program) (gf : Nat) (lb : Array Value) (encs : α → Array Value) (Kp : World → World → Prop) (xs : List α) (W : World) : Prop :=
  ∀ (l : Nat) (J Jx : List α → World → Prop), Stands (W.heap.size + 1) J →
    (∀ pre x A, J pre A → pre ++ [x] <+: xs → YieldAt F (n - 1) P l (encs x) A fun e A' =>
      (e = .returned (.bool true) ∧ J (pre ++ [x]) A' ∧ Kp A A') ∨ (e = .returned (.bool false) ∧ Jx (pre ++ [x]) A')) →
    (∀ A, Later W A → W.heap.size + 3 ≤ A.heap.size → J [] A) →
    CallsIn F n P gf (#[.func (.yield l) #[] #[]] ++ lb) W fun e W' => (∃ v, e = .returned v) ∧ (J xs W' ∨ ∃ pre, pre <+: xs ∧ Jx pre W')

/-- how a round's body may be left -/
def iterPost {α : Type} (Kp : World → World → Prop) (I : List α → World → Prop) (Ix : Code → List α → World → Prop) (xs : List α) (W : World) : Exit → Act → World → Prop
  | .normal, _, W' => KeepsOthers W W' ∧ Kp W W' ∧ I xs W'
  | .ret, _, W' => KeepsOthers W W' ∧ Ix .ret xs W'
  | .exit id, _, W' => KeepsOthers W W' ∧ Ix (.exit id) xs W'
  | .goto t, _, W' => KeepsOthers W W' ∧ Ix (.goto t) xs W'
  | .panic _, _, _ => False
  | .outgrown, _, _ => False

variable {F : Fence} {n : Nat} {P : Program}
theorem wpIn_iter {α : Type} {g : Operand} {ps : Array Tmp} {assign body : Code} {Q : Exit → Act → World → Prop} {a : Act} {w : World}
    (hro : F.round = none) (h1 : 1 ≤ n) {gf : Nat} {lb : Array Value} (hg : a.eval g = .func (.func gf) #[] lb) (hFg : F.fn gf) (eg : ∀ args w, (callFunc gf args).run P w = .ok (.enter gf args) w)
    {encs : α → Array Value} {Kp : World → World → Prop} {xs : List α}
    (hseq : ∀ W, Later w W → W.heap.size = w.heap.size + 2 → IterOK F (n - 1) P gf lb encs Kp xs W)
    (hKt : ∀ {A B C : World}, Kp A B → Kp B C → Kp A C) (hKb : ∀ (W : World) (o : Obj), Kp W (W.putObj (w.heap.size + 1) o)) (hps : ∀ x, (encs x).size = ps.size)
    (I : List α → World → Prop) (Ix : Code → List α → World → Prop)
    (hIs : Stands (w.heap.size + 3) I) (hIp : ∀ s A o, I s A → w.heap.size + 1 < A.heap.size → I s (A.putObj (w.heap.size + 1) o)) (hIxp : ∀ c s A o, Ix c s A → w.heap.size + 1 < A.heap.size → Ix c s (A.putObj (w.heap.size + 1) o))
    (h0 : ∀ A, Later w A → w.heap.size + 5 ≤ A.heap.size → I [] A) (I2 : List α → α → Act → World → Prop)
    (hassign : ∀ (l : Nat) (pre : List α) (x : α) (W : World) (K : Act → World → Prop), I pre W → pre ++ [x] <+: xs → (∀ a' W', KeepsOthers W W' → Kp W W' → I2 pre x a' W' → K a' W') →
      assign.wpIn (F.inRound l) (n - 1 - 1) P (Exit.then K (fun _ _ _ => False)) { tmps := (ps.zip (encs x)).foldl (fun t (p, v) => t.setIfInBounds p v) a.tmps, defers := [] } W)
    (hI2p : ∀ pre x a' A o, I2 pre x a' A → w.heap.size + 1 < A.heap.size → I2 pre x a' (A.putObj (w.heap.size + 1) o))
    (hbody : ∀ (l : Nat) (pre : List α) (x : α) (a' : Act) (W : World), I2 pre x a' W → pre ++ [x] <+: xs → w.heap.size + 1 < W.heap.size → body.wpIn (F.inRound l) (n - 1 - 1) P (iterPost Kp I Ix (pre ++ [x]) W) a' W)
    (hdone : ∀ (W : World), I xs W → W.heap[w.heap.size]? = some (.deferred (some [])) → Q .normal { a with defers := { target := .collected w.heap.size, args := #[] } :: a.defers } W)
    (hstop : ∀ (c : Code) (pre : List α) (W : World), pre <+: xs → Ix c pre W → W.heap[w.heap.size]? = some (.deferred (some [])) → c.wpIn F n P Q { a with defers := { target := .collected w.heap.size, args := #[] } :: a.defers } W) :
    (Code.rangeFunc g ps assign body).wpIn F n P Q a w := by
  refine wpIn_rangeFunc ?_
  intro fn hfn
  rw [hro]
  obtain ⟨rec, hrec⟩ : ∃ rec : LoopState → Option Code → Loop, rec = fun st pe => { state := st, pending := pe, fn, tmps := a.tmps, params := ps, assign, body, defers := w.heap.size } := ⟨_, rfl⟩
  obtain ⟨W1, hW1⟩ : ∃ W1, (w.alloc (.deferred (some []))).alloc (.loop (rec .ready none)) = W1 := ⟨_, rfl⟩
  have hs1 : W1.heap.size = w.heap.size + 2 := by rw [← hW1]; simp
  have hL1 : W1.heap[w.heap.size + 1]? = some (.loop (rec .ready none)) := by
    rw [← hW1]; have := World.alloc_heap_new (w.alloc (.deferred (some []))) (.loop (rec .ready none)); rwa [World.size_alloc] at this
  have hK1 : W1.heap[w.heap.size]? = some (.deferred (some [])) := by
    rw [← hW1]; exact (Below.heap_alloc _ _ _ (by simp)).trans (World.alloc_heap_new w _)
  have hb1 : Later w W1 := by rw [← hW1]; simp
  refine ⟨w.heap.size + 1, [{ target := .collected w.heap.size, args := #[] }], W1, { target := .fn (.func gf) lb, args := #[.func (.yield (w.heap.size + 1)) #[] #[]] }, W1, gf,
    #[.func (.yield (w.heap.size + 1)) #[] #[]] ++ lb, W1, ?_, ?_, ?_, ?_, fun _ => h1, ?_⟩
  · rw [← hW1, hrec]; exact run_enterLoop_outer _ _ _ _ _
  · simp only [resolve, hg]
    simp [go_sem]
  · intro f' hf'; simp [Target.leads] at hf'; subst hf'; exact hFg
  · simp [invoke, go_sem, eg]
  · refine (hseq W1 hb1 hs1 (w.heap.size + 1)
      (fun pre W => I pre W ∧ W.heap[w.heap.size + 1]? = some (.loop (rec .ready none)) ∧ W.heap[w.heap.size]? = some (.deferred (some [])))
      (fun pre W => ∃ c, Ix c pre W ∧ W.heap[w.heap.size + 1]? = some (.loop (rec .done (some c))) ∧ W.heap[w.heap.size]? = some (.deferred (some [])))
      ⟨fun s A o hs => ⟨hIs.1 _ _ _ hs.1, (Below.heap_alloc A o _ (Array.getElem?_eq_some_iff.1 hs.2.1).1).trans hs.2.1, (Below.heap_alloc A o _ (Array.getElem?_eq_some_iff.1 hs.2.2).1).trans hs.2.2⟩,
       fun s A i u hs => by
        rw [hs1]
        exact ⟨hIs.2 _ _ _ _ hs.1, (Below.heap_setCell A _ u _ (by show w.heap.size + 1 ≠ w.heap.size + 2 + 1; omega)).trans hs.2.1, (Below.heap_setCell A _ u _ (by show w.heap.size ≠ w.heap.size + 2 + 1; omega)).trans hs.2.2⟩⟩
      ?_ (fun A hA hsz => ⟨h0 A (Later.trans hb1 hA) (by omega), (hA.block _ (by omega)).trans hL1, (hA.block _ (by omega)).trans hK1⟩)).mono ?_
    · rintro pre x W0 ⟨hi0, hl0, hk0⟩ hpx
      have hlt0 : w.heap.size + 1 < W0.heap.size := (Array.getElem?_eq_some_iff.1 hl0).1
      have hy := run_yield (P := P) (args := encs x) hl0 (by rw [hrec]; exact hps x)
      rw [hrec] at hy
      refine ⟨fn, _, assign, body, hy, roundIn_of_wpIn hfn (hassign _ pre x W0 _ hi0 hpx fun a' W hko hkp hi => ?_)⟩
      have hl := hko.same _ _ hl0 rfl
      have hk := hko.same _ _ hk0 rfl
      have hlt : w.heap.size + 1 < W.heap.size := (Array.getElem?_eq_some_iff.1 hl).1
      refine ⟨_, run_beginRound hl (by rw [hrec]), ?_⟩
      have hl2 : (W.putObj (w.heap.size + 1) (.loop { rec .ready none with state := .busy })).heap[w.heap.size + 1]? = some (.loop { rec .ready none with state := .busy }) := World.putObj_heap_same hlt
      have hk2 : (W.putObj (w.heap.size + 1) (.loop { rec .ready none with state := .busy })).heap[w.heap.size]? = some (.deferred (some [])) := (World.putObj_heap_other (by omega)).trans hk
      have hw2 : Kp W0 (W.putObj (w.heap.size + 1) (.loop { rec .ready none with state := .busy })) := hKt hkp (hKb _ _)
      refine wpIn_mono (hbody _ pre x a' _ (hI2p _ _ _ _ _ hi hlt) hpx (by simpa using hlt)) ?_
      have fin : ∀ (jump : Option Code) (W3 : World), KeepsOthers (W.putObj (w.heap.size + 1) (.loop { rec .ready none with state := .busy })) W3 →
          (Instr.endRound (w.heap.size + 1) jump).run P W3 = .ok (.bool jump.isNone) (W3.putObj (w.heap.size + 1) (.loop (rec (if jump.isNone then .ready else .done) jump))) ∧
          w.heap.size + 1 < W3.heap.size ∧
          (W3.putObj (w.heap.size + 1) (.loop (rec (if jump.isNone then .ready else .done) jump))).heap[w.heap.size + 1]? = some (.loop (rec (if jump.isNone then .ready else .done) jump)) ∧
          (W3.putObj (w.heap.size + 1) (.loop (rec (if jump.isNone then .ready else .done) jump))).heap[w.heap.size]? = some (.deferred (some [])) := fun jump W3 hk3 => by
        have hl3 := hk3.same _ _ hl2 rfl
        have := run_endRound (P := P) jump hl3
        rw [hrec] at this ⊢
        exact ⟨this, (Array.getElem?_eq_some_iff.1 hl3).1, World.putObj_heap_same (Array.getElem?_eq_some_iff.1 hl3).1, (World.putObj_heap_other (by omega)).trans (hk3.same _ _ hk2 rfl)⟩
      rintro e a3 W3 hp
      cases e with
      | normal =>
        obtain ⟨hk3, hkp3, hi3⟩ := hp
        obtain ⟨hr, hl3, hl4, hk4⟩ := fin none W3 hk3
        exact ⟨_, _, hr, .inl ⟨rfl, ⟨hIp _ _ _ hi3 hl3, hl4, hk4⟩, hKt (hKt hw2 hkp3) (hKb _ _)⟩⟩
      | ret =>
        obtain ⟨hk3, hi3⟩ := hp
        obtain ⟨hr, hl3, hl4, hk4⟩ := fin (some .ret) W3 hk3
        exact ⟨_, _, hr, .inr ⟨rfl, .ret, hIxp _ _ _ _ hi3 hl3, hl4, hk4⟩⟩
      | exit id =>
        obtain ⟨hk3, hi3⟩ := hp
        obtain ⟨hr, hl3, hl4, hk4⟩ := fin (some (.exit id)) W3 hk3
        exact ⟨_, _, hr, .inr ⟨rfl, .exit id, hIxp _ _ _ _ hi3 hl3, hl4, hk4⟩⟩
      | goto t =>
        obtain ⟨hk3, hi3⟩ := hp
        obtain ⟨hr, hl3, hl4, hk4⟩ := fin (some (.goto t)) W3 hk3
        exact ⟨_, _, hr, .inr ⟨rfl, .goto t, hIxp _ _ _ _ hi3 hl3, hl4, hk4⟩⟩
      | panic ch => exact hp.elim
      | outgrown => exact hp.elim
    · rintro e W2 ⟨⟨v, rfl⟩, (⟨hi, hl, hk⟩ | ⟨pre, hSp, c, hi, hl, hk⟩)⟩
      · exact ⟨none, _, by have := run_endLoop (P := P) hl (by rw [hrec]; simp); rw [hrec] at this; exact this, hdone _ (hIp _ _ _ hi (Array.getElem?_eq_some_iff.1 hl).1) ((World.putObj_heap_other (by omega)).trans hk)⟩
      · exact ⟨some c, _, by have := run_endLoop (P := P) hl (by rw [hrec]; simp); rw [hrec] at this; exact this, hstop c pre _ hSp (hIxp _ _ _ _ hi (Array.getElem?_eq_some_iff.1 hl).1) ((World.putObj_heap_other (by omega)).trans hk)⟩

/-- what the body of a range keeps: the blocks of S -/
def KeepS (S : Nat → Prop) (A B : World) : Prop := ∀ b, S b → B.heap[b]? = A.heap[b]?
theorem KeepS.refl {S : Nat → Prop} (A : World) : KeepS S A A := fun _ _ => rfl
theorem KeepS.trans {S : Nat → Prop} {A B C : World} (h : KeepS S A B) (k : KeepS S B C) : KeepS S A C := fun b hb => (k b hb).trans (h b hb)
theorem KeepS.alloc {S : Nat → Prop} {A B : World} (h : KeepS S A B) (o : Obj) (hs : ∀ b, S b → b < B.heap.size) : KeepS S A (B.alloc o) := fun b hb => (Below.heap_alloc B o b (hs b hb)).trans (h b hb)
theorem KeepS.set_ {S : Nat → Prop} {A B : World} (h : KeepS S A B) (p : Addr) (hp : ¬ S p.block) (u : Value) : KeepS S A (B.setCell p u) := fun b hb => (Below.heap_setCell B p u b (fun e => hp (e ▸ hb))).trans (h b hb)
theorem KeepS.later {S : Nat → Prop} {A B C : World} (h : KeepS S A B) (k : Later B C) (hs : ∀ b, S b → b < B.heap.size) : KeepS S A C := fun b hb => (k.block b (hs b hb)).trans (h b hb)
theorem KeepS.cell {S : Nat → Prop} {A B : World} (h : KeepS S A B) {b : Nat} (hb : S b) (i : Nat) : B.cell? ⟨b, i, none⟩ = A.cell? ⟨b, i, none⟩ := World.cell?_of_block (h b hb)

theorem roundIn_wide {n m : Nat} {P : Program} {l : Nat} {f : FuncId} {tmps : Array Value} {assign body : Code} {w : World} {R : Ending → World → Prop}
    (h : RoundIn Fence.wide n P l f tmps assign body w R) : RoundIn Fence.wide m P l f tmps assign body w R := ⟨h.1, fun c cs _ => h.2 c cs (room_wide _)⟩
theorem yieldAt_wide {n m : Nat} {P : Program} {l : Nat} {args : Array Value} {w : World} {R : Ending → World → Prop} (h : YieldAt Fence.wide n P l args w R) : YieldAt Fence.wide m P l args w R := by
  obtain ⟨fn, tmps, assign, body, hy, hR⟩ := h
  exact ⟨fn, tmps, assign, body, hy, roundIn_wide hR⟩
end Go.Proofs.Ytjilckjhdlabaaa

/- The program's truths: choose (a closure that calls itself), and the iterator. -/
namespace Go.Proofs.Ytjilckjhdlabaaa
open Go Go.RowKit Go.Shelf
attribute [local go_sem] Oper.semAt_some

theorem ints_set (D : List Int) (k : Nat) (x : Int) : (ints D).toArray.setIfInBounds k (.int .i64 x) = (ints (D.set k x)).toArray := by
  simp [ints, List.map_set]

/-- the array of four numbers that is yielded -/
def pad (x : List Int) : List Int := x ++ List.replicate (4 - x.length) 0
def encD (x : List Int) : Array Value := #[.agg (ints (pad x)).toArray]

/-- what dry holds when a beginning of it is chosen -/
structure DryAt (D pfx : List Int) (len : Nat) : Prop where
  size : D.length = 4
  pre : D.take pfx.length = pfx
  rest : D.drop len = List.replicate (4 - len) 0
theorem DryAt.set_ {D pfx : List Int} {len : Nat} (h : DryAt D pfx len) (x : Int) (hp : pfx.length < len) (hl : len ≤ 4) : DryAt (D.set pfx.length x) (pfx ++ [x]) len := by
  refine ⟨by simp [h.size], ?_, ?_⟩
  · have hlt : pfx.length < D.length := by rw [h.size]; omega
    rw [List.length_append, List.length_singleton, List.take_add_one, List.getElem?_set_self hlt, List.take_set, h.pre]
    simp [List.set_eq_of_length_le]
  · rw [List.drop_set, if_pos (by omega), h.rest]
theorem DryAt.keep {D pfx : List Int} {x : Int} {len : Nat} (h : DryAt D (pfx ++ [x]) len) : DryAt D pfx len := by
  refine ⟨h.size, ?_, h.rest⟩
  have := congrArg (List.take pfx.length) h.pre
  rw [List.take_take] at this
  simpa using this
theorem DryAt.all {D pfx : List Int} (h : DryAt D pfx pfx.length) : D = pad pfx := by
  have := List.take_append_drop pfx.length D
  rw [h.pre, h.rest] at this
  exact this.symm

section
variable {c : Clo} {A1 A2 A3 : Option Addr} {n1 k1 n2 k2 n3 k3 : Nat} {bc by_ bd bf l : Nat} {S : Nat → Prop} {A0 : World} {J Jx : List (List Int) → World → Prop}

/-- what choose finds in memory, whatever the rounds have done -/
structure ChFacts (c : Clo) (A1 A2 A3 : Option Addr) (n1 k1 n2 k2 n3 k3 bc by_ bd bf l : Nat) (A : World) : Prop where
  box : ∀ i, A.cell? ⟨bc, i, none⟩ = #[.int .i64 c.closets, .int .i64 c.close, .slice A1 n1 k1, .slice A2 n2 k2, .slice A3 n3 k3][i]?
  hs : RH A A1 n1 c.horses
  yl : A.cell? ⟨by_, 0, none⟩ = some (.func (.yield l) #[] #[])
  ch : A.cell? ⟨bf, 0, none⟩ = some (.func (.func 129) #[] #[.pointer (some ⟨bc, 0, none⟩), .pointer (some ⟨by_, 0, none⟩), .pointer (some ⟨bd, 0, none⟩), .pointer (some ⟨bf, 0, none⟩)])

theorem choose_in (ok : OkH c) (hn1 : n1 = c.horses.length) (xs : List (List Int)) (Inv : World → Prop)
    (hI : ∀ A, Inv A → ChFacts c A1 A2 A3 n1 k1 n2 k2 n3 k3 bc by_ bd bf l A)
    (hIs : ∀ A i u, Inv A → Inv (A.setCell ⟨bd, i, none⟩ u)) (hIk : ∀ A B, Inv A → KeepS S A B → Inv B) (hSd : S bd)
    (hJs : ∀ s A i u, J s A → J s (A.setCell ⟨bd, i, none⟩ u))
    (hY : ∀ pre x A, J pre A → pre ++ [x] <+: xs → YieldAt Fence.wide 4 Try.prog l (encD x) A fun e A' =>
      (e = .returned (.bool true) ∧ J (pre ++ [x]) A' ∧ KeepS S A A') ∨ (e = .returned (.bool false) ∧ Jx (pre ++ [x]) A')) :
    ∀ (m : Nat) (hs : List Horse) (pfx : List Int) (pre : List (List Int)) (D : List Int) (A : World), hs.length = m → c.horses.drop pfx.length = hs → pfx.length + m = c.horses.length →
      J pre A → pre ++ ext hs pfx <+: xs → Blk A bd 138 (ints D).toArray → DryAt D pfx c.horses.length → Inv A →
      CallsIn Fence.wide 5 Try.prog 129 #[.int .i64 pfx.length, .pointer (some ⟨bc, 0, none⟩), .pointer (some ⟨by_, 0, none⟩), .pointer (some ⟨bd, 0, none⟩), .pointer (some ⟨bf, 0, none⟩)] A fun e A' =>
        (e = .returned (.bool true) ∧ J (pre ++ ext hs pfx) A' ∧ Inv A' ∧ ∃ D', Blk A' bd 138 (ints D').toArray ∧ DryAt D' pfx c.horses.length) ∨
        (e = .returned (.bool false) ∧ ∃ q, q <+: xs ∧ Jx q A') := by
  intro m
  induction m with
  | zero =>
    intro hs pfx pre D A hm hdrop hlen hJ hpre hB hD hInv
    have hnil : hs = [] := List.eq_nil_of_length_eq_zero hm
    subst hnil
    have hl4 := ok.len
    rw [ext_nil] at hpre ⊢
    have hD2 : D = pad pfx := by
      have : c.horses.length = pfx.length := by omega
      rw [this] at hD; exact hD.all
    obtain ⟨d0, d1, d2, d3, hDl⟩ : ∃ d0 d1 d2 d3, D = [d0, d1, d2, d3] := by
      have := hD.size
      match D, this with
      | [a, b, c, d], _ => exact ⟨a, b, c, d, rfl⟩
    have F := hI A hInv
    have f1 := F.box 2
    have f2 := F.yl
    have henc : encD pfx = #[.agg #[.int .i64 d0, .int .i64 d1, .int .i64 d2, .int .i64 d3]] := by
      unfold encD; rw [← hD2, hDl]; rfl
    obtain ⟨fn, tmps, assign, body, hy, hR⟩ := hY pre pfx A hJ hpre
    rw [henc] at hy
    rw [hDl] at hB
    have c0 := hB.cell 0
    have c1 := hB.cell 1
    have c2 := hB.cell 2
    have c3 := hB.cell 3
    simp only [ints, List.map_cons, List.map_nil, List.getElem?_toArray, List.getElem?_cons_zero, List.getElem?_cons_succ] at f1 c0 c1 c2 c3
    have heq : ((pfx.length : Int) == (n1 : Int)) = true := by simp; omega
    have Hn := hide hn1
    have Hlen := hide hlen
    have Hdl := hide hDl
    have HB := hide hB
    have HD := hide hD
    clear hn1 hdrop hlen hm hDl hD2 henc hB hD
    refine callsIn_of_wp Try.func129 rfl trivial ?_ rfl
    simp only [Try.ntmps129, List.size_toArray, List.length_cons, List.length_nil, Nat.reduceAdd, Nat.reduceSub, Array.replicate_succ, Array.replicate_zero, List.push_toArray, List.append_toArray, List.nil_append, List.cons_append]
    gi_wp2_with fail
    refine hR.mono ?_
    rintro e A' (⟨rfl, hJ', hk⟩ | ⟨rfl, hJx⟩)
    · gi_wp2_with fail
      go_ret
      exact .inl ⟨rfl, hJ', hIk _ _ hInv hk, D, (by have hB := HB.out; rw [Hdl.out]; exact (hk bd hSd).trans hB), HD.out⟩
    · gi_wp2_with fail
      go_ret
      exact .inr ⟨rfl, _, hpre, hJx⟩
  | succ m ih =>
    intro hs pfx pre D A hm hdrop hlen hJ hpre hB hD hInv
    cases hs with
    | nil => simp at hm
    | cons h hs =>
    have hl4 := ok.len
    have hlt : pfx.length < n1 := by omega
    have F := hI A hInv
    obtain ⟨b, o, x, rfl, _, hx, hx0, hx1, hx2, hx3⟩ := F.hs.get hlt
    have hxh : x = h := by
      have h1 : (c.horses.drop pfx.length)[0]? = some h := by rw [hdrop]; rfl
      rw [List.getElem?_drop, Nat.add_zero, hx] at h1
      exact Option.some.inj h1
    subst hxh
    have okx := ok.horse x (List.mem_of_getElem? hx)
    have hdrop2 : c.horses.drop (pfx.length + 1) = hs := by
      rw [← List.tail_drop, hdrop]; rfl
    have f1 := F.box 2
    have g0 := hx0 A (later_refl _)
    simp only [List.getElem?_toArray, List.getElem?_cons_zero, List.getElem?_cons_succ] at f1
    have heq : ((pfx.length : Int) == (n1 : Int)) = false := by simp; omega
    have hi1 : (pfx.length : Int) < n1 := by omega
    have Hn := hide hn1
    have Hm := hide hm
    have Hlen := hide hlen
    have Hdrop := hide hdrop2
    have Hx := hide hx
    have Hext := hide (ext_cons x hs pfx)
    have HB := hide hB
    have HD := hide hD
    clear hn1 hdrop hlen hm hB hD hx hdrop2 hx0 hx1 hx2 hx3
    refine callsIn_of_wp Try.func129 rfl trivial ?_ rfl
    simp only [Try.ntmps129, List.size_toArray, List.length_cons, List.length_nil, Nat.reduceAdd, Nat.reduceSub, Array.replicate_succ, Array.replicate_zero, List.push_toArray, List.append_toArray, List.nil_append, List.cons_append]
    gi_wp2_with fail
    gi_loopw [7] (fun v wr => ∃ (k : Nat) (D : List Int), k ≤ (x.hi - x.lo + 1).toNat ∧ v = .int .i64 (x.lo + k) ∧ J (pre ++ extTo x hs pfx k) wr ∧ Inv wr ∧ Blk wr bd 138 (ints D).toArray ∧ DryAt D pfx c.horses.length) (fun v _ => (x.hi + 1 - intOf v).toNat)
    case atStart => exact ⟨0, D, by omega, by simp, by simpa [extTo] using hJ, hInv, HB.out, HD.out⟩
    case round =>
      obtain ⟨k, D1, hk, rfl, hJ1, hInv1, hB1, hD1⟩ := hrel
      have F1 := hI wr hInv1
      have f1 := F1.box 2
      have f3 := F1.ch
      obtain ⟨y, hy, hy0, hy1, hy2, hy3⟩ := F1.hs.at_ hlt
      have g1 := hy1 wr (later_refl _)
      have hyx : y = x := by
        have h2 := Hx.out
        rw [hy] at h2
        exact Option.some.inj h2
      subst hyx
      simp only [List.getElem?_toArray, List.getElem?_cons_zero, List.getElem?_cons_succ] at f1
      have hsz : D1.length = 4 := hD1.size
      have hpl : pfx.length < c.horses.length := by have := Hn.out; omega
      have hex : ∃ v0, wr.cell? ⟨bd, pfx.length, none⟩ = some v0 := ⟨_, by rw [hB1.cell]; simp only [ints, List.getElem?_toArray, List.getElem?_map]; rw [List.getElem?_eq_getElem (by omega)]; rfl⟩
      obtain ⟨v0, hv0⟩ := hex
      have hf0 := hB1.frozen pfx.length
      have hB2 := hB1.set_ pfx.length (.int .i64 (y.lo + k))
      rw [ints_set] at hB2
      have hInv2 := hIs wr pfx.length (.int .i64 (y.lo + k)) hInv1
      have hJ2 := hJs _ wr pfx.length (.int .i64 (y.lo + k)) hJ1
      have f4 := (hI _ hInv2).ch
      have hD2 := hD1.set_ (y.lo + k) hpl hl4
      have hp4 : (pfx.length : Int) < 4 := by omega
      by_cases hle : y.lo + k ≤ y.hi
      · have hstep := extTo_succ y hs pfx k
        have hle2 : k + 1 ≤ (y.hi - y.lo + 1).toNat := by omega
        have hpf := extTo_prefix y hs pfx hle2
        have hpre2 : (pre ++ extTo y hs pfx k) ++ ext hs (pfx ++ [y.lo + k]) <+: xs := by
          rw [List.append_assoc, ← hstep]
          rw [Hext.out] at hpre
          exact ((List.prefix_append_right_inj pre).2 hpf).trans hpre
        have hcall := ih hs (pfx ++ [y.lo + k]) (pre ++ extTo y hs pfx k) (D1.set pfx.length (y.lo + k)) _ (by have := Hm.out; simpa using this) (by rw [List.length_append, List.length_singleton]; exact Hdrop.out) (by have := Hlen.out; rw [List.length_append, List.length_singleton]; omega) hJ2 hpre2 hB2 hD2 hInv2
        rw [List.append_assoc, ← hstep] at hcall
        have Hcall := hide (callsIn_wide.1 hcall)
        have e1 : ((pfx ++ [y.lo + k]).length : Int) = (pfx.length : Int) + 1 := by simp
        rw [e1] at Hcall
        clear hcall hstep hpre2 e1 hB2 hD2 hInv2 hJ2 hJ1 hB1 hD1
        gi_wp2_with fail
        refine ⟨trivial, (callsIn_wide.2 Hcall.out).mono ?_⟩
        rintro e A' (⟨rfl, hJ3, hInv3, D3, hB3, hD3⟩ | ⟨rfl, q, hq, hJx⟩)
        · gi_wp2_with fail
          go_roundw
          case rel => exact ⟨k + 1, D3, hle2, by go_num, hJ3, hInv3, hB3, hD3.keep⟩
          case measure => simp [intOf]; omega
        · gi_wp2_with fail
          go_ret
          exact .inr ⟨rfl, q, hq, hJx⟩
      · have hk2 : k = (y.hi - y.lo + 1).toNat := by omega
        rw [hk2, ← Hext.out] at hJ1
        clear f4 hB2 hD2 hInv2 hJ2 hk2
        gi_wp2_with fail
        go_ret
        exact .inl ⟨rfl, hJ1, hInv1, D1, hB1, hD1⟩
end

theorem RH.kept {W A : World} {A1 : Option Addr} {n : Nat} {l : List Horse} (h : RH W A1 n l) (hk : 0 < n → ∀ b o, A1 = some ⟨b, o, none⟩ → A.heap[b]? = W.heap[b]?) : RH A A1 n l := by
  refine ⟨h.1, fun hn => ?_⟩
  obtain ⟨b, o, rfl, hb, hc⟩ := Reads.lit h (by omega) hn
  have e := hk hn b o rfl
  have hlt : b < A.heap.size := by
    rw [Array.getElem?_eq_getElem hb] at e
    exact (Array.getElem?_eq_some_iff.1 e).1
  refine ⟨_, rfl, hlt, fun j u hu => ?_⟩
  rw [add_lit]
  exact (World.cell?_of_block (a := ⟨b, o + j, none⟩) e).trans (hc j u hu)

theorem ext_dryAll (hs : List Horse) : ext hs [] = dryAll hs := by simp [ext]

set_option maxRecDepth 100000 in
/-- THE ITERATOR c.truths(): all dry numbers, in order. -/
theorem truths_iter {c : Clo} {A1 A2 A3 : Option Addr} {n1 k1 n2 k2 n3 k3 bc : Nat} {S : Nat → Prop} {W : World} (ok : OkH c) (hc : RH W A1 n1 c.horses)
    (hbox : Blk W bc 35 #[.int .i64 c.closets, .int .i64 c.close, .slice A1 n1 k1, .slice A2 n2 k2, .slice A3 n3 k3])
    (hSb : S bc) (hSh : 0 < n1 → ∀ b o, A1 = some ⟨b, o, none⟩ → S b) (hS0 : S W.heap.size) (hS1 : S (W.heap.size + 1)) (hS2 : S (W.heap.size + 2)) :
    IterOK Fence.wide 5 Try.prog 128 #[.pointer (some ⟨bc, 0, none⟩)] encD (KeepS S) (dryAll c.horses) W := by
  intro l J Jx hSt hY h0
  have hl4 := ok.len
  have hn1 := RH.len hc
  obtain ⟨W3, hW3⟩ : ∃ X, X = ((W.alloc (.cells #[.func (.yield l) #[] #[]] 167)).alloc (.cells #[.int .i64 0, .int .i64 0, .int .i64 0, .int .i64 0] 138)).alloc
      (.cells #[.func (.func 129) #[] #[.pointer (some ⟨bc, 0, none⟩), .pointer (some ⟨W.heap.size, 0, none⟩), .pointer (some ⟨W.heap.size + 1, 0, none⟩), .pointer (some ⟨W.heap.size + 1 + 1, 0, none⟩)]] 143) := ⟨_, rfl⟩
  have hL3 : Later W W3 := by rw [hW3]; exact later_alloc (later_alloc (later_alloc (later_refl _) _) _) _
  have b0 : Blk W3 W.heap.size 167 #[.func (.yield l) #[] #[]] := by rw [hW3]; exact ((Blk.new _ _ _).alloc _).alloc _
  have b1 : Blk W3 (W.heap.size + 1) 138 (ints [0, 0, 0, 0]).toArray := by
    rw [hW3]
    have := Blk.new (W.alloc (.cells #[.func (.yield l) #[] #[]] 167)) 138 #[.int .i64 0, .int .i64 0, .int .i64 0, .int .i64 0]
    rw [World.size_alloc] at this
    exact this.alloc _
  have b2 : Blk W3 (W.heap.size + 1 + 1) 143 #[.func (.func 129) #[] #[.pointer (some ⟨bc, 0, none⟩), .pointer (some ⟨W.heap.size, 0, none⟩), .pointer (some ⟨W.heap.size + 1, 0, none⟩), .pointer (some ⟨W.heap.size + 1 + 1, 0, none⟩)]] := by
    rw [hW3]
    have := Blk.new ((W.alloc (.cells #[.func (.yield l) #[] #[]] 167)).alloc (.cells #[.int .i64 0, .int .i64 0, .int .i64 0, .int .i64 0] 138)) 143 #[.func (.func 129) #[] #[.pointer (some ⟨bc, 0, none⟩), .pointer (some ⟨W.heap.size, 0, none⟩), .pointer (some ⟨W.heap.size + 1, 0, none⟩), .pointer (some ⟨W.heap.size + 1 + 1, 0, none⟩)]]
    rw [World.size_alloc, World.size_alloc] at this
    exact this
  have hc3 := hc.later hL3
  have hbox3 := hbox.later hL3
  have hJ3 : J [] W3 := h0 W3 hL3 (by rw [hW3]; simp)
  have hlt := hbox.lt
  have hcall := choose_in (A1 := A1) (A2 := A2) (A3 := A3) (k1 := k1) (n2 := n2) (k2 := k2) (n3 := n3) (k3 := k3) (bc := bc) (by_ := W.heap.size) (bd := W.heap.size + 1) (bf := W.heap.size + 1 + 1) (l := l) (S := S) (J := J) (Jx := Jx) ok hn1 (dryAll c.horses)
    (fun A => ∀ b, S b → b ≠ W.heap.size + 1 → A.heap[b]? = W3.heap[b]?)
    (fun A hA => ⟨fun i => (World.cell?_of_block (a := ⟨bc, i, none⟩) (hA bc hSb (by omega))).trans (hbox3.cell i),
      hc3.kept fun hn b o e => hA b (hSh hn b o e) (by
        intro e2
        obtain ⟨b', o', e3, hb', _⟩ := Reads.lit hc (by omega) hn
        rw [e] at e3; obtain ⟨rfl, _⟩ := some_lit e3; omega),
      (World.cell?_of_block (a := ⟨W.heap.size, 0, none⟩) (hA W.heap.size hS0 (by omega))).trans (b0.cell 0),
      (World.cell?_of_block (a := ⟨W.heap.size + 1 + 1, 0, none⟩) (hA (W.heap.size + 1 + 1) hS2 (by omega))).trans (b2.cell 0)⟩)
    (fun A i u hA b hb hne => (Below.heap_setCell A _ u b hne).trans (hA b hb hne))
    (fun A B hA hk b hb hne => (hk b hb).trans (hA b hb hne)) hS1 hSt.2 hY
    c.horses.length c.horses [] [] [0, 0, 0, 0] W3 rfl rfl (by simp) hJ3 (by rw [ext_dryAll]; exact List.prefix_refl _) b1
    ⟨rfl, rfl, by
      have : c.horses.length = 0 ∨ c.horses.length = 1 ∨ c.horses.length = 2 ∨ c.horses.length = 3 ∨ c.horses.length = 4 := by omega
      rcases this with h | h | h | h | h <;> rw [h] <;> rfl⟩ (fun _ _ _ => rfl)
  rw [ext_dryAll] at hcall
  have Hcall := hide (callsIn_wide.1 hcall)
  have HW3 := hide hW3
  clear hcall hW3 b0 b1 b2 hc3 hbox3 hL3 hn1
  refine callsIn_of_wp Try.func128 rfl trivial ?_ rfl
  simp only [Try.ntmps128, List.size_toArray, List.length_cons, List.length_nil, Nat.reduceAdd, Nat.reduceSub, Array.replicate_succ, Array.replicate_zero, List.push_toArray, List.append_toArray, List.nil_append, List.cons_append]
  gi_wp2_with fail
  rw [← HW3.out]
  refine ⟨trivial, (callsIn_wide.2 Hcall.out).mono ?_⟩
  rintro e A' (⟨rfl, hJ', _⟩ | ⟨rfl, q, hq, hJx⟩)
  · gi_wp2_with fail
    go_end0
    exact ⟨⟨_, rfl⟩, .inl hJ'⟩
  · gi_wp2_with fail
    go_end0
    exact ⟨⟨_, rfl⟩, .inr ⟨q, hq, hJx⟩⟩
end Go.Proofs.Ytjilckjhdlabaaa

/- The program's minutes: walk. -/
namespace Go.Proofs.Ytjilckjhdlabaaa
open Go Go.RowKit

set_option maxRecDepth 100000 in
set_option maxHeartbeats 1000000 in
theorem minutes_calls {A1 A2 A3 : Option Addr} {n1 k1 n2 k2 n3 k3 : Nat} {c : Clo} {Ap : Option Addr} {np kp : Nat} {p : List Int} {d0 d1 d2 d3 : Int} (w : World) (hc : CV w c A1 n1 A2 n2 A3 n3) (ok : OkH c) (hp : RI w Ap np p) (hpl : p.length ≤ c.horses.length)
    (hpb : ∀ x ∈ p, -1000000 ≤ x ∧ x ≤ 1000000) (hd : ∀ x ∈ [d0, d1, d2, d3], 0 ≤ x ∧ x ≤ 1000) :
    Calls Try.prog 95 #[(.agg #[.int .i64 c.closets, .int .i64 c.close, .slice A1 n1 k1, .slice A2 n2 k2, .slice A3 n3 k3]), .slice Ap np kp, .agg #[.int .i64 d0, .int .i64 d1, .int .i64 d2, .int .i64 d3]] w fun e w' =>
      e = .returned (.agg (ints (minutesP c p [d0, d1, d2, d3])).toArray) ∧ Later w w' := by
  have hnp := hp.len
  have hn1 := hc.hs.len
  have hl4 := ok.len
  have hnp4 : np ≤ 4 := by omega
  have Hnp := hide hnp
  have Hn1 := hide hn1
  have Hd := hide hd
  clear hnp hn1 hd
  obtain ⟨w0, hw0⟩ : ∃ W, W = (w.alloc (.cells #[.int .i64 c.closets, .int .i64 c.close, .slice A1 n1 k1, .slice A2 n2 k2, .slice A3 n3 k3] 35)) := ⟨_, rfl⟩; have hbox : ∀ W, Later w0 W → ∀ i, W.cell? ⟨w.heap.size, i, none⟩ = #[.int .i64 c.closets, .int .i64 c.close, .slice A1 n1 k1, .slice A2 n2 k2, .slice A3 n3 k3][i]? := (by rw [hw0]; exact box_cells w #[.int .i64 c.closets, .int .i64 c.close, .slice A1 n1 k1, .slice A2 n2 k2, .slice A3 n3 k3] 35); have hL0 : Later w w0 := (by rw [hw0]; simp); have hc0 := hc.later hL0; have Hw0 := hide hw0; clear hw0
  have hp0 := hp.later hL0
  have hb2 := fun W hW => hbox W hW 2
  simp only [List.getElem?_toArray, List.getElem?_cons_zero, List.getElem?_cons_succ] at hb2
  go_enter Try.func95, Try.ntmps95
  go_wp2_with fail
  have hs0 : w0.heap.size = w.heap.size + 1 := by rw [Hw0.out, World.size_alloc]
  rw [← Hw0.out]; clear Hw0
  obtain ⟨W3, hW3⟩ : ∃ X, X = ((w0.alloc (.cells #[.int .i64 d0, .int .i64 d1, .int .i64 d2, .int .i64 d3] 138)).alloc (.cells #[.int .i64 0, .int .i64 0, .int .i64 0, .int .i64 0] 138)).alloc
    (.cells #[.int .i64 d0, .int .i64 d1, .int .i64 d2, .int .i64 d3] 138) := ⟨_, rfl⟩
  have b7 : Blk W3 (w.heap.size + 1 + 1 + 1) 138 (ints (mst c p [d0, d1, d2, d3] 0 0)).toArray := by
    have := Blk.new ((w0.alloc (.cells #[.int .i64 d0, .int .i64 d1, .int .i64 d2, .int .i64 d3] 138)).alloc (.cells #[.int .i64 0, .int .i64 0, .int .i64 0, .int .i64 0] 138)) 138 #[.int .i64 d0, .int .i64 d1, .int .i64 d2, .int .i64 d3]
    rw [World.size_alloc, World.size_alloc, hs0] at this
    rw [hW3, mst_zero]; exact this
  have b6 : Blk W3 (w.heap.size + 1 + 1) 138 #[.int .i64 0, .int .i64 0, .int .i64 0, .int .i64 0] := by
    have := Blk.new (w0.alloc (.cells #[.int .i64 d0, .int .i64 d1, .int .i64 d2, .int .i64 d3] 138)) 138 #[.int .i64 0, .int .i64 0, .int .i64 0, .int .i64 0]
    rw [World.size_alloc, hs0] at this
    rw [hW3]; exact this.alloc _
  have hL3 : Later w0 W3 := by rw [hW3]; exact later_alloc (later_alloc (later_alloc (later_refl _) _) _) _
  rw [← hW3]
  clear hW3
  go_loopw [16] (fun i wr => ∃ j : Nat, j ≤ np ∧ i = .int .i64 j ∧ Blk wr (w.heap.size + 1 + 1 + 1) 138 (ints (mst c p [d0, d1, d2, d3] j 0)).toArray ∧
    Blk wr (w.heap.size + 1 + 1) 138 #[.int .i64 0, .int .i64 0, .int .i64 0, .int .i64 0] ∧ Later w0 wr) (fun i _ => np - (intOf i).toNat)
  case atStart => exact ⟨0, Nat.zero_le _, rfl, b7, b6, hL3⟩
  case round =>
    obtain ⟨j, hj, rfl, b7r, b6r, hLr⟩ := hrel
    by_cases hlt : j < np
    · obtain ⟨b, o, x, rfl, _, hx, hx'⟩ := hp0.get hlt
      have hi1 : (j : Int) < np := by omega
      have hxb := hpb x (List.mem_of_getElem? hx)
      have Hx := hide (show p.getD j 0 = x by rw [List.getD_eq_getElem?_getD, hx]; rfl)
      clear hx b7 b6 hL3
      go_wp2_with fail
      go_loopw [23] (fun i W => ∃ q : Nat, q ≤ np ∧ i = .int .i64 q ∧ Blk W (w.heap.size + 1 + 1 + 1) 138 (ints (mst c p [d0, d1, d2, d3] j q)).toArray ∧
        Blk W (w.heap.size + 1 + 1) 138 #[.int .i64 0, .int .i64 0, .int .i64 0, .int .i64 0] ∧ Later w0 W) (fun i _ => np - (intOf i).toNat)
      case atStart => exact ⟨0, Nat.zero_le _, rfl, b7r, b6r, hLr⟩
      case round =>
        clear b7r b6r hLr
        obtain ⟨q, hq, rfl, b7q, b6q, hLq⟩ := hrel
        by_cases hltq : q < np
        · obtain ⟨y, hy, hy'⟩ := hp0.at_ hltq
          have hyb := hpb y (List.mem_of_getElem? hy)
          have Hy := hide (show p.getD q 0 = y by rw [List.getD_eq_getElem?_getD, hy]; rfl)
          have hi2 : (q : Int) < np := by omega
          obtain ⟨b1, o1, z, rfl, _, hz, hz0, hz1, hz2, hz3⟩ := hc0.hs.get (k := q) (by have := Hnp.out; have := Hn1.out; omega)
          have Hz := hide (show wetK c q = z.wet by unfold wetK; rw [List.getD_eq_getElem?_getD, hz]; rfl)
          have hi3 : (q : Int) < n1 := by have := Hnp.out; have := Hn1.out; omega
          have hi4 : (j : Int) < 4 := by have := Hnp.out; have := Hn1.out; omega
          have hq1 := hx' _ hLq
          have hq2 := hy' _ hLq
          have hm := mstAt_range ok p [d0, d1, d2, d3] j q j hpl (by have := Hnp.out; omega) Hd.out
          have hwk := wetK_range ok (k := q) (by have := Hnp.out; omega)
          rw [Hz.out] at hwk
          have Hmiss := hide (mst_miss c p [d0, d1, d2, d3] j q)
          have Hhit := hide (mst_hit c p [d0, d1, d2, d3] j q (by omega))
          have hg := mst_get c p [d0, d1, d2, d3] j q j (by omega)
          have hcell : ∀ W, Later wr W → W.cell? ⟨w.heap.size + 1 + 1 + 1, j, none⟩ = some (.int .i64 (mstAt c p [d0, d1, d2, d3] j q j)) := fun W hW => by
            rw [(b7q.later hW).cell j]; simp [ints, hg]
          have hbx : ∀ W, Later wr W → W.cell? ⟨w.heap.size, 2, none⟩ = some (.slice (some ⟨b1, o1, none⟩) n1 k1) := fun W hW => hb2 W (Later.trans hLq hW)
          have hzw : ∀ W, Later wr W → W.cell? ⟨b1, o1 + q * 4 + 2, none⟩ = some (.int .i64 z.wet) := fun W hW => hz2 W (Later.trans hLq hW)
          have hw1 : IntKind.i64.wrap (x - y) = x - y := IntWalk.i64_in _ (by omega)
          clear hy hz hg hz0 hz1 hz2 hz3 hb2 hbox
          by_cases e1 : x - y = 1
          · have hh : hit p j q = true := by unfold hit; rw [Hx.out, Hy.out, e1]; rfl
            have H2 := hide (Hhit.out hh)
            clear hh
            go_wp2_with fail
            refine wp_region_ext_tail (w0 := wr) 10 (by kernel_rfl) (by kernel_rfl) (later_refl _) ?_; simp only [List.take_succ_cons, List.take_zero, List.drop_succ_cons, List.drop_zero]; (repeat (first | go_big_quiet_step (((fail))) | quiet_step (((fail))))); refine wpQuiet_nil ?_; rintro w1 ⟨⟨_, hL1⟩, rfl⟩; (try dsimp only)
            have b7w := b7q.later hL1
            have b6w := b6q.later hL1
            have hfz := b7w.frozen j
            have hcw := hcell _ hL1
            clear hcell hbx hzw
            have hLw := Later.trans hLq hL1
            have b7n := b7w.set_ j (.int .i64 (mstAt c p [d0, d1, d2, d3] j q j + z.wet))
            have b6n := b6w.far (p := ⟨w.heap.size + 1 + 1 + 1, j, none⟩) (by simp) (.int .i64 (mstAt c p [d0, d1, d2, d3] j q j + z.wet))
            have hLn := later_drop hLw (a := ⟨w.heap.size + 1 + 1 + 1, j, none⟩) (u := .int .i64 (mstAt c p [d0, d1, d2, d3] j q j + z.wet)) (by rw [hs0]; simp)
            rw [ints_set, ← Hz.out, ← H2.out] at b7n
            rw [Hz.out] at b7n
            clear H2 b7w b6w hLw
            go_wp2_with fail
            go_roundw
            case rel => exact ⟨q + 1, by omega, by go_num, b7n, b6n, hLn⟩
            case measure => simp [intOf]; omega
          by_cases e2 : x - y = -1
          · have hh : hit p j q = true := by unfold hit; rw [Hx.out, Hy.out, e2]; rfl
            have H2 := hide (Hhit.out hh)
            clear hh
            go_wp2_with fail
            refine wp_region_ext_tail (w0 := wr) 10 (by kernel_rfl) (by kernel_rfl) (later_refl _) ?_; simp only [List.take_succ_cons, List.take_zero, List.drop_succ_cons, List.drop_zero]; (repeat (first | go_big_quiet_step (((fail))) | quiet_step (((fail))))); refine wpQuiet_nil ?_; rintro w1 ⟨⟨_, hL1⟩, rfl⟩; (try dsimp only)
            have b7w := b7q.later hL1
            have b6w := b6q.later hL1
            have hfz := b7w.frozen j
            have hcw := hcell _ hL1
            clear hcell hbx hzw
            have hLw := Later.trans hLq hL1
            have b7n := b7w.set_ j (.int .i64 (mstAt c p [d0, d1, d2, d3] j q j + z.wet))
            have b6n := b6w.far (p := ⟨w.heap.size + 1 + 1 + 1, j, none⟩) (by simp) (.int .i64 (mstAt c p [d0, d1, d2, d3] j q j + z.wet))
            have hLn := later_drop hLw (a := ⟨w.heap.size + 1 + 1 + 1, j, none⟩) (u := .int .i64 (mstAt c p [d0, d1, d2, d3] j q j + z.wet)) (by rw [hs0]; simp)
            rw [ints_set, ← Hz.out, ← H2.out] at b7n
            rw [Hz.out] at b7n
            clear H2 b7w b6w hLw
            go_wp2_with fail
            go_roundw
            case rel => exact ⟨q + 1, by omega, by go_num, b7n, b6n, hLn⟩
            case measure => simp [intOf]; omega
          · have hh : hit p j q = false := by unfold hit; rw [Hx.out, Hy.out]; simp [e1, e2]
            have H2 := Hmiss.out hh
            rw [← H2] at b7q
            have t1 : (x - y == 1) = false := by simp [e1]
            have t2 : (x - y == -1) = false := by simp [e2]
            clear hh H2
            go_wp2_with fail
            go_roundw
            case rel => exact ⟨q + 1, by omega, by go_num, b7q, b6q, hLq⟩
            case measure => simp [intOf]; omega
        · have e : q = p.length := by have := Hnp.out; omega
          rw [e, mst_next] at b7q
          clear e
          go_wp2_with fail
          go_roundw
          case rel => exact ⟨j + 1, by omega, by go_num, b7q, b6q, hLq⟩
          case measure => simp [intOf]; omega
    · have e : j = p.length := by have := Hnp.out; omega
      have b7f : Blk wr (w.heap.size + 1 + 1 + 1) 138 (ints (minutesP c p [d0, d1, d2, d3])).toArray := by rw [e] at b7r; exact b7r
      obtain ⟨m0, m1, m2, m3, hm⟩ : ∃ m0 m1 m2 m3, minutesP c p [d0, d1, d2, d3] = [m0, m1, m2, m3] := ⟨_, _, _, _, rfl⟩
      rw [hm] at b7f
      have Hm := hide hm
      have c0 := b7f.cell 0
      have c1 := b7f.cell 1
      have c2 := b7f.cell 2
      have c3 := b7f.cell 3
      have f0 := b6r.frozen 0
      have f1 := b6r.frozen 1
      have f2 := b6r.frozen 2
      have f3 := b6r.frozen 3
      have g0 := b6r.cell 0
      have g1 := b6r.cell 1
      have g2 := b6r.cell 2
      have g3 := b6r.cell 3
      simp only [ints, List.map_cons, List.map_nil, List.getElem?_toArray, List.getElem?_cons_zero, List.getElem?_cons_succ] at c0 c1 c2 c3 g0 g1 g2 g3
      clear b7r b6r b7f e hm b7 b6
      go_wp2_with fail
      refine bodyPost_ret (v := .agg #[.int .i64 m0, .int .i64 m1, .int .i64 m2, .int .i64 m3]) ?_ rfl ⟨by rw [Hm.out]; rfl, ?_⟩
      · simp [results, Try.results95, go_sem, *]
      · have hg : w0.heap.size ≤ w.heap.size + 1 + 1 := by rw [hs0]; omega
        exact Later.trans hL0 (later_drop (later_drop (later_drop (later_drop hLr hg) hg) hg) hg)

set_option maxRecDepth 100000 in
set_option maxHeartbeats 1000000 in
theorem right_calls {A1 A2 A3 : Option Addr} {n1 k1 n2 k2 n3 k3 : Nat} {c : Clo} {Ao : Option Addr} {no ko : Nat} {out : List Int} {d0 d1 d2 d3 : Int} (w : World) (hc : CV w c A1 n1 A2 n2 A3 n3) (ok : OkC c) (ho : RI w Ao no out) (hno : no ≤ 1000000)
    (hd : ∀ x ∈ [d0, d1, d2, d3], 0 ≤ x ∧ x ≤ 1000) :
    Calls Try.prog 101 #[(.agg #[.int .i64 c.closets, .int .i64 c.close, .slice A1 n1 k1, .slice A2 n2 k2, .slice A3 n3 k3]), .agg #[.int .i64 d0, .int .i64 d1, .int .i64 d2, .int .i64 d3], .slice Ao no ko] w fun e w' =>
      e = .returned (.bool (rightP c [d0, d1, d2, d3] out)) ∧ Later w w' := by
  have hn1 := hc.hs.len
  have hn3 := hc.lk.len
  have hl5 := ok.nlooks
  have hl4 := ok.len
  have hn35 : n3 ≤ 5 := by omega
  have Hn1 := hide hn1
  have Hn3 := hide hn3
  obtain ⟨m0, m1, m2, m3, hm⟩ : ∃ m0 m1 m2 m3, minutesP c c.hung [d0, d1, d2, d3] = [m0, m1, m2, m3] := ⟨_, _, _, _, rfl⟩
  have Hm := hide hm
  clear hn1 hn3 hm
  obtain ⟨w0, hw0⟩ : ∃ W, W = (w.alloc (.cells #[.int .i64 c.closets, .int .i64 c.close, .slice A1 n1 k1, .slice A2 n2 k2, .slice A3 n3 k3] 35)) := ⟨_, rfl⟩; have hbox : ∀ W, Later w0 W → ∀ i, W.cell? ⟨w.heap.size, i, none⟩ = #[.int .i64 c.closets, .int .i64 c.close, .slice A1 n1 k1, .slice A2 n2 k2, .slice A3 n3 k3][i]? := (by rw [hw0]; exact box_cells w #[.int .i64 c.closets, .int .i64 c.close, .slice A1 n1 k1, .slice A2 n2 k2, .slice A3 n3 k3] 35); have hL0 : Later w w0 := (by rw [hw0]; simp); have hc0 := hc.later hL0; have Hw0 := hide hw0; clear hw0
  have hs0 : w0.heap.size = w.heap.size + 1 := by rw [Hw0.out, World.size_alloc]
  obtain ⟨w9, hw9⟩ : ∃ X, X = w0.alloc (.cells #[.int .i64 d0, .int .i64 d1, .int .i64 d2, .int .i64 d3] 138) := ⟨_, rfl⟩
  have hL9 : Later w0 w9 := by rw [hw9]; exact later_alloc (later_refl _) _
  have hb4 := fun W hW => hbox W hW 4
  simp only [List.getElem?_toArray, List.getElem?_cons_zero, List.getElem?_cons_succ] at hb4
  have Hw9 := hide hw9
  clear hw9 hbox
  go_enter Try.func101, Try.ntmps101
  go_wp2_with fail
  rw [← Hw0.out, ← Hw9.out]
  clear Hw0 Hw9
  have hmc := minutes_calls (A1 := A1) (n1 := n1) (k1 := k1) (A2 := A2) (n2 := n2) (k2 := k2) (A3 := A3) (n3 := n3) (k3 := k3) (c := c) (kp := k2) w9 (hc0.later hL9) ok.toOkH (hc0.later hL9).hu (Nat.le_of_eq ok.hung.len) (ok.hung.bound ok.toOkH) hd
  rw [Hm.out] at hmc
  refine hmc.mono ?_
  clear hmc
  rintro e w1 ⟨rfl, hL1⟩
  simp only [ints, List.map_cons, List.map_nil]
  have hLa := Later.trans hL9 hL1
  have hbm := box_cells w1 #[.int .i64 m0, .int .i64 m1, .int .i64 m2, .int .i64 m3] 138
  obtain ⟨w2, hw2⟩ : ∃ X, X = w1.alloc (.cells #[.int .i64 m0, .int .i64 m1, .int .i64 m2, .int .i64 m3] 138) := ⟨_, rfl⟩
  rw [← hw2] at hbm
  have hL2 : Later w0 w2 := by rw [hw2]; exact later_alloc (Later.trans hL9 hL1) _
  have Hw2 := hide hw2
  clear hw2
  go_wp2_with fail
  rw [← Hw2.out]
  clear Hw2
  go_loopw [18] (fun i wr => ∃ j : Nat, j ≤ n3 ∧ i = .int .i64 j ∧ (List.range j).all (lookF c [m0, m1, m2, m3] out) = true ∧ Later w2 wr) (fun i _ => n3 - (intOf i).toNat)
  case atStart => exact ⟨0, Nat.zero_le _, rfl, rfl, later_refl _⟩
  case round =>
    obtain ⟨j, hj, rfl, hall, hLr⟩ := hrel
    have Hall := hide hall
    clear hall
    by_cases hlt : j < n3
    · obtain ⟨b, o, x, rfl, _, hx, hx0, hx1, hx2⟩ := hc0.lk.get hlt
      have hi1 : (j : Int) < n3 := by omega
      have okx := ok.looks x (List.mem_of_getElem? hx)
      obtain ⟨h, hh⟩ := Int.eq_ofNat_of_zero_le okx.1
      have hh4 : h < 4 := by omega
      have hh4' : (h : Int) < 4 := by omega
      rw [hh] at hx0
      obtain ⟨mh, hmh⟩ : ∃ mh, [m0, m1, m2, m3][h]? = some mh := ⟨_, List.getElem?_eq_getElem (by simp; omega)⟩
      have hf0 : lookF c [m0, m1, m2, m3] out j = (out.contains (j : Int) || (x.dry == decide (mh ≤ x.minute))) := by
        unfold lookF lookP
        rw [List.getD_eq_getElem?_getD, hx, Option.getD_some, hh, Int.toNat_natCast, List.getD_eq_getElem?_getD, hmh, Option.getD_some]
      have hLw := Later.trans hL2 hLr
      have how := (ho.later hL0).later hLw
      have how := how.later (later_alloc (later_refl _) (.cells #[.int .i64 h, .int .i64 x.minute, .bool x.dry] 120))
      have hx0 := hx0 _ hLw
      have hx1 := hx1 _ hLw
      have hx2 := hx2 _ hLw
      have hbb := hb4 _ hLw
      have hbm2 : ∀ W, Later (wr.alloc (.cells #[.int .i64 h, .int .i64 x.minute, .bool x.dry] 120)) W → W.cell? ⟨w1.heap.size, h, none⟩ = some (.int .i64 mh) := fun W hW => by
        rw [hbm W (Later.trans hLr (later_of_alloc hW)) h]
        have : (#[Value.int .i64 m0, .int .i64 m1, .int .i64 m2, .int .i64 m3] : Array Value) = (ints [m0, m1, m2, m3]).toArray := rfl
        rw [this]; simp only [ints, List.getElem?_toArray, List.getElem?_map, hmh]; rfl
      have hbl := box_cells wr #[.int .i64 h, .int .i64 x.minute, .bool x.dry] 120
      have hbl0 := fun W hW => hbl W hW 0
      have hbl1 := fun W hW => hbl W hW 1
      have hbl2 := fun W hW => hbl W hW 2
      simp only [List.getElem?_toArray, List.getElem?_cons_zero, List.getElem?_cons_succ] at hbl0 hbl1 hbl2
      have hT : ∀ (B : World) (e : Ext B), Later B e.W := fun B e => e.h
      clear hbl hmh hx hbm hh okx
      cases hcon : out.contains (j : Int) with
      | true =>
        have hf : lookF c [m0, m1, m2, m3] out j = true := by rw [hf0, hcon]; rfl
        clear hf0
        have H2 := hide (show (List.range (j + 1)).all (lookF c [m0, m1, m2, m3] out) = true by rw [range_all_succ, Hall.out, hf]; rfl)
        clear hf Hall
        go_wp2_with fail
        refine wp_region_ext (w0 := wr.alloc (.cells #[.int .i64 h, .int .i64 x.minute, .bool x.dry] 120)) (by kernel_rfl) (by kernel_rfl) (later_refl _) ?_; (repeat (first | go_big_quiet_step (((go_at_call 119; exact calls_ext_same (by simp) (Contains_eq hcon _ (how.later (hT _ _)) (by omega))))) | quiet_step (((go_at_call 119; exact calls_ext_same (by simp) (Contains_eq hcon _ (how.later (hT _ _)) (by omega))))))); refine wpQuiet_nil ?_; rintro w3 ⟨⟨_, hL3⟩, rfl⟩; (try dsimp only)
        go_wp2_with fail
        go_roundw
        case rel => exact ⟨j + 1, by omega, by go_num, H2.out, Later.trans (later_alloc hLr _) hL3⟩
        case measure => simp [intOf]; omega
      | false =>
        have hcase : (x.dry = true ∧ mh ≤ x.minute) ∨ (x.dry = false ∧ ¬ mh ≤ x.minute) ∨ (x.dry = true ∧ ¬ mh ≤ x.minute) ∨ (x.dry = false ∧ mh ≤ x.minute) := by
          cases x.dry <;> by_cases mh ≤ x.minute <;> simp [*]
        rcases hcase with ⟨e1, e2⟩ | ⟨e1, e2⟩ | ⟨e1, e2⟩ | ⟨e1, e2⟩
        all_goals
          have hf := hf0
          rw [hcon, e1] at hf
          simp only [e1] at hbm2 hbl2 how hbl0 hbl1
          rw [e1] at hx2
          simp only [e2, decide_true, decide_false, Bool.false_or, beq_self_eq_true] at hf
        · clear hf0
          have hdq : decide (mh ≤ x.minute) = true := by simp only [e2, decide_true, decide_false]
          have H2 := hide (show (List.range (j + 1)).all (lookF c [m0, m1, m2, m3] out) = true by rw [range_all_succ, Hall.out, hf]; rfl)
          clear hf Hall
          go_wp2_with fail
          refine wp_region_ext (w0 := wr.alloc (.cells #[.int .i64 h, .int .i64 x.minute, .bool true] 120)) (by kernel_rfl) (by kernel_rfl) (later_refl _) ?_; (repeat (first | go_big_quiet_step (((go_at_call 119; exact calls_ext_same (by simp) (Contains_eq hcon _ (how.later (hT _ _)) (by omega))))) | quiet_step (((go_at_call 119; exact calls_ext_same (by simp) (Contains_eq hcon _ (how.later (hT _ _)) (by omega))))))); refine wpQuiet_nil ?_; rintro w3 ⟨⟨_, hL3⟩, rfl⟩; (try dsimp only)
          go_wp2_with fail
          go_roundw
          case rel => exact ⟨j + 1, by omega, by go_num, H2.out, Later.trans (later_alloc hLr _) hL3⟩
          case measure => simp [intOf]; omega
        · clear hf0
          have hdq : decide (mh ≤ x.minute) = false := by simp only [e2, decide_true, decide_false]
          have H2 := hide (show (List.range (j + 1)).all (lookF c [m0, m1, m2, m3] out) = true by rw [range_all_succ, Hall.out, hf]; rfl)
          clear hf Hall
          go_wp2_with fail
          refine wp_region_ext (w0 := wr.alloc (.cells #[.int .i64 h, .int .i64 x.minute, .bool false] 120)) (by kernel_rfl) (by kernel_rfl) (later_refl _) ?_; (repeat (first | go_big_quiet_step (((go_at_call 119; exact calls_ext_same (by simp) (Contains_eq hcon _ (how.later (hT _ _)) (by omega))))) | quiet_step (((go_at_call 119; exact calls_ext_same (by simp) (Contains_eq hcon _ (how.later (hT _ _)) (by omega))))))); refine wpQuiet_nil ?_; rintro w3 ⟨⟨_, hL3⟩, rfl⟩; (try dsimp only)
          go_wp2_with fail
          go_roundw
          case rel => exact ⟨j + 1, by omega, by go_num, H2.out, Later.trans (later_alloc hLr _) hL3⟩
          case measure => simp [intOf]; omega
        · clear hf0
          have hdq : decide (mh ≤ x.minute) = false := by simp only [e2, decide_true, decide_false]
          have H2 := hide (show rightP c [d0, d1, d2, d3] out = false by unfold rightP; rw [Hm.out]; exact range_all_false (by have := Hn3.out; omega) hf)
          clear hf Hall
          go_wp2_with fail
          refine wp_region_ext (w0 := wr.alloc (.cells #[.int .i64 h, .int .i64 x.minute, .bool true] 120)) (by kernel_rfl) (by kernel_rfl) (later_refl _) ?_; (repeat (first | go_big_quiet_step (((go_at_call 119; exact calls_ext_same (by simp) (Contains_eq hcon _ (how.later (hT _ _)) (by omega))))) | quiet_step (((go_at_call 119; exact calls_ext_same (by simp) (Contains_eq hcon _ (how.later (hT _ _)) (by omega))))))); refine wpQuiet_nil ?_; rintro w3 ⟨⟨_, hL3⟩, rfl⟩; (try dsimp only)
          go_wp2_with fail
          go_ret
          exact ⟨by rw [H2.out]; rfl, Later.trans hL0 (Later.trans hL2 (Later.trans (later_alloc hLr _) hL3))⟩
        · clear hf0
          have hdq : decide (mh ≤ x.minute) = true := by simp only [e2, decide_true, decide_false]
          have H2 := hide (show rightP c [d0, d1, d2, d3] out = false by unfold rightP; rw [Hm.out]; exact range_all_false (by have := Hn3.out; omega) hf)
          clear hf Hall
          go_wp2_with fail
          refine wp_region_ext (w0 := wr.alloc (.cells #[.int .i64 h, .int .i64 x.minute, .bool false] 120)) (by kernel_rfl) (by kernel_rfl) (later_refl _) ?_; (repeat (first | go_big_quiet_step (((go_at_call 119; exact calls_ext_same (by simp) (Contains_eq hcon _ (how.later (hT _ _)) (by omega))))) | quiet_step (((go_at_call 119; exact calls_ext_same (by simp) (Contains_eq hcon _ (how.later (hT _ _)) (by omega))))))); refine wpQuiet_nil ?_; rintro w3 ⟨⟨_, hL3⟩, rfl⟩; (try dsimp only)
          go_wp2_with fail
          go_ret
          exact ⟨by rw [H2.out]; rfl, Later.trans hL0 (Later.trans hL2 (Later.trans (later_alloc hLr _) hL3))⟩
    · have hjn : j = n3 := by omega
      have H2 := hide (show rightP c [d0, d1, d2, d3] out = true by unfold rightP; rw [Hm.out, ← Hn3.out, ← hjn]; exact Hall.out)
      clear hjn Hall
      go_wp2_with fail
      go_ret
      exact ⟨by rw [H2.out]; rfl, Later.trans hL0 (Later.trans hL2 hLr)⟩
end Go.Proofs.Ytjilckjhdlabaaa

/- The program's minimum, wider, has: walks. -/
namespace Go.Proofs.Ytjilckjhdlabaaa
open Go Go.RowKit

theorem Min2_calls (a b : Int) (k : Nat) (w : World) (g : Nat) (h0 : w.cell? ⟨g, 0, none⟩ = some (.int .i64 a)) (h1 : w.cell? ⟨g, 1, none⟩ = some (.int .i64 b)) :
    Calls Try.prog 131 #[.slice (some ⟨g, 0, none⟩) 2 k] w fun e w' => e = .returned (.int .i64 (min a b)) ∧ w = w' := by
  go_enter Try.func131, Try.ntmps131
  go_wp2_with fail
  go_loopw [4, 3] (fun i m wr => ((i = .int .i64 1 ∧ m = .int .i64 a) ∨ (i = .int .i64 2 ∧ m = .int .i64 (min a b))) ∧ w = wr) (fun i _ _ => 2 - (intOf i).toNat)
  case atStart => exact ⟨.inl ⟨rfl, rfl⟩, rfl⟩
  case round =>
    obtain ⟨⟨rfl, rfl⟩ | ⟨rfl, rfl⟩, rfl⟩ := hrel
    · go_wp2_with fail
      go_roundw
      case rel => exact ⟨.inr ⟨by go_num, by congr 1; rw [Int.min_def]; split <;> split <;> omega⟩, by first | trivial | rfl⟩
      case measure => simp [intOf, wrap64]
    · go_wp2_with fail
      go_ret
      exact ⟨rfl, rfl⟩
theorem min2_calls (a b : Int) (w : World) (g : Nat) (h0 : w.cell? ⟨g, 0, none⟩ = some (.int .i64 a)) (h1 : w.cell? ⟨g, 1, none⟩ = some (.int .i64 b)) :
    Calls Try.prog 121 #[.slice (some ⟨g, 0, none⟩) 2 2] w fun e w' => e = .returned (.int .i64 (min a b)) ∧ w = w' := by
  go_enter Try.func121, Try.ntmps121
  go_wp2_with fail
  refine (Min2_calls a b 2 _ _ h0 h1).mono ?_
  rintro e w1 ⟨rfl, rfl⟩
  go_wp2_with fail
  go_ret
  exact ⟨rfl, rfl⟩
theorem has_eq {lo hi n : Int} {b : Bool} (hb : inB n lo hi = b) (w : World) : Calls Try.prog 120 #[.agg #[.int .i64 lo, .int .i64 hi], .int .i64 n] w fun e w' => e = .returned (.bool b) ∧ Later w w' := by
  go_enter Try.func120, Try.ntmps120
  go_wp2_with (go_at_call 113; refine (within_eq hb _).mono ?_; rintro e w' ⟨rfl, rfl⟩)
  go_ret
  exact ⟨rfl, by simp⟩
theorem from_calls (x : Horse) (n : Int) (w : World) : Calls Try.prog 111 #[.agg #[.int .i64 x.lo, .int .i64 x.hi, .int .i64 x.wet, .int .i64 x.grace], .int .i64 n] w fun e w' => e = .returned (.int .i64 n) ∧ Later w w' := by
  go_enter Try.func111, Try.ntmps111
  go_wp2_with fail
  go_ret
  exact ⟨rfl, by simp⟩
theorem to_calls (x : Horse) (n : Int) (w : World) (h0 : -1000000 ≤ n ∧ n ≤ 1000000) (h1 : -1000000 ≤ x.grace ∧ x.grace ≤ 1000000) :
    Calls Try.prog 122 #[.agg #[.int .i64 x.lo, .int .i64 x.hi, .int .i64 x.wet, .int .i64 x.grace], .int .i64 n] w fun e w' => e = .returned (.int .i64 (n + x.grace)) ∧ Later w w' := by
  go_enter Try.func122, Try.ntmps122
  go_wp2_with fail
  go_ret
  exact ⟨by first | rfl | (simp), by simp⟩
set_option maxRecDepth 100000 in
theorem wider_calls (lo hi n : Int) (w : World) : Calls Try.prog 127 #[.agg #[.int .i64 lo, .int .i64 hi], .int .i64 n] w fun e w' =>
    e = .returned (.agg #[.int .i64 (min lo n), .int .i64 (max hi n)]) ∧ Later w w' := by
  obtain ⟨w0, hw0⟩ : ∃ W, W = (w.alloc (.cells #[.int .i64 lo, .int .i64 hi] 61)).alloc (.cells #[.int .i64 0, .int .i64 0] 61) := ⟨_, rfl⟩
  have hL0 : Later w w0 := by rw [hw0]; exact later_alloc (later_alloc (later_refl _) _) _
  have b1 : Blk w0 w.heap.size 61 #[.int .i64 lo, .int .i64 hi] := by rw [hw0]; exact (Blk.new _ _ _).alloc _
  have b2 : Blk w0 (w.heap.size + 1) 61 #[.int .i64 0, .int .i64 0] := by
    have := Blk.new (w.alloc (.cells #[.int .i64 lo, .int .i64 hi] 61)) 61 #[.int .i64 0, .int .i64 0]
    rw [World.size_alloc] at this
    rw [hw0]; exact this
  have c0 := b1.cells_later
  have c00 := fun W hW => c0 W hW 0
  have c01 := fun W hW => c0 W hW 1
  simp only [List.getElem?_toArray, List.getElem?_cons_zero, List.getElem?_cons_succ] at c00 c01
  have d0 := b2.cells_later
  have d00 := fun W hW => d0 W hW 0
  have d01 := fun W hW => d0 W hW 1
  have f0 := b2.frozen_later
  simp only [List.getElem?_toArray, List.getElem?_cons_zero, List.getElem?_cons_succ] at d00 d01
  have Hw0 := hide hw0
  clear hw0 c0 d0
  have hs : w0.heap.size = w.heap.size + 1 + 1 := by rw [Hw0.out]; simp
  have hs1 : w.heap.size < w0.heap.size := by omega
  have hs2 : w.heap.size + 1 < w0.heap.size := by omega
  have e00 := c00 _ (later_drew (later_refl _))
  have e01 := c01 _ (later_drew (later_refl _))
  have hL1 := later_drew hL0
  clear hs
  by_cases h2 : n ≤ hi
  · have hm : max hi n = hi := by omega
    rw [hm]
    go_enter Try.func127, Try.ntmps127
    go_wp2_with fail
    rw [← Hw0.out]
    clear Hw0
    go_region_held3 (fun W => Later w W ∧ W.cell? ⟨w.heap.size, 0, none⟩ = some (.int .i64 lo) ∧ W.cell? ⟨w.heap.size, 1, none⟩ = some (.int .i64 hi)) ((refine ⟨?_, ?_, ?_⟩ <;> first | (((repeat (first | exact hL0 | refine later_drew ?_ | refine later_alloc ?_ _ | refine later_set ?_ _ (Nat.le_add_right _ _) _ | refine later_set ?_ _ (Nat.le_refl _) _)); done)) | (go_keep; done)))
      (first | (go_at_call 121; refine (min2_calls lo n _ _ (box_cells w0 #[.int .i64 lo, .int .i64 n] 3 _ (later_drew (later_refl _)) 0) (box_cells w0 #[.int .i64 lo, .int .i64 n] 3 _ (later_drew (later_refl _)) 1)).mono ?_; rintro e w1 ⟨rfl, rfl⟩))
    all_goals
      go_wp2_with fail
      refine bodyPost_ret (v := .agg #[.int .i64 (min lo n), .int .i64 hi]) ?_ rfl ⟨rfl, ?_⟩
      · simp [results, Try.results127, go_sem, *]
      · (((repeat (first | exact hL0 | refine later_drew ?_ | refine later_alloc ?_ _ | refine later_set ?_ _ (Nat.le_add_right _ _) _ | refine later_set ?_ _ (Nat.le_refl _) _)); done))
  · have hm : max hi n = n := by omega
    rw [hm]
    go_enter Try.func127, Try.ntmps127
    go_wp2_with fail
    rw [← Hw0.out]
    clear Hw0
    go_region_held3 (fun W => Later w W ∧ W.cell? ⟨w.heap.size, 0, none⟩ = some (.int .i64 lo) ∧ W.cell? ⟨w.heap.size, 1, none⟩ = some (.int .i64 hi)) ((refine ⟨?_, ?_, ?_⟩ <;> first | (((repeat (first | exact hL0 | refine later_drew ?_ | refine later_alloc ?_ _ | refine later_set ?_ _ (Nat.le_add_right _ _) _ | refine later_set ?_ _ (Nat.le_refl _) _)); done)) | (go_keep; done)))
      (first | (go_at_call 121; refine (min2_calls lo n _ _ (box_cells w0 #[.int .i64 lo, .int .i64 n] 3 _ (later_drew (later_refl _)) 0) (box_cells w0 #[.int .i64 lo, .int .i64 n] 3 _ (later_drew (later_refl _)) 1)).mono ?_; rintro e w1 ⟨rfl, rfl⟩))
    all_goals
      go_wp2_with fail
      refine bodyPost_ret (v := .agg #[.int .i64 (min lo n), .int .i64 n]) ?_ rfl ⟨rfl, ?_⟩
      · simp [results, Try.results127, go_sem, *]
      · (((repeat (first | exact hL0 | refine later_drew ?_ | refine later_alloc ?_ _ | refine later_set ?_ _ (Nat.le_add_right _ _) _ | refine later_set ?_ _ (Nat.le_refl _) _)); done))
end Go.Proofs.Ytjilckjhdlabaaa

/- The program's work: what lies in memory; bounds, good, done: walks. -/
namespace Go.Proofs.Ytjilckjhdlabaaa
open Go Go.RowKit

def pad4 (d : List Int) : List Int := [d.getD 0 0, d.getD 1 0, d.getD 2 0, d.getD 3 0]
def drysV (l : List (List Int)) : List Value := l.flatMap fun d => ints (pad4 d)
theorem drysV_length (l : List (List Int)) : (drysV l).length = l.length * 4 := by
  induction l with
  | nil => rfl
  | cons h l ih => simp only [drysV, List.flatMap_cons, List.length_append] at ih ⊢; rw [ih]; simp [pad4, ints]; omega
theorem drysV_snoc (l : List (List Int)) (d : List Int) : drysV (l ++ [d]) = drysV l ++ ints (pad4 d) := by simp [drysV]
theorem drysV_get (l : List (List Int)) (k j : Nat) (x : List Int) (h : l[k]? = some x) (hj : j < 4) : (drysV l)[k * 4 + j]? = (ints (pad4 x))[j]? := by
  induction l generalizing k with
  | nil => simp at h
  | cons y l ih =>
    cases k with
    | zero =>
      simp at h; subst h
      simp only [drysV, List.flatMap_cons]
      rw [List.getElem?_append_left (by simp [pad4, ints]; omega)]; simp
    | succ k =>
      simp only [drysV, List.flatMap_cons] at ih ⊢
      rw [List.getElem?_append_right (by simp [pad4, ints]; omega)]
      have : (k + 1) * 4 + j - (ints (pad4 y)).length = k * 4 + j := by simp [pad4, ints]; omega
      rw [this]
      exact ih k (by simpa using h)
def RD (w : World) (A : Option Addr) (n : Nat) (l : List (List Int)) : Prop := Reads w w.heap.size 4 A n (drysV l)
section
variable {w W : World} {n : Nat} {A : Option Addr} {l : List (List Int)}
theorem RD.later (h : RD w A n l) (k : Later w W) : RD W A n l := Reads.later h k
theorem RD.len (h : RD w A n l) : n = l.length := by have := h.1; rw [drysV_length] at this; omega
theorem RD.nil : RD w none 0 [] := Reads.none_
theorem RD.get (h : RD w A n l) {k : Nat} (hk : k < n) :
    ∃ b o d e0 e1 e2 e3, A = some ⟨b, o, none⟩ ∧ b < w.heap.size ∧ l[k]? = some d ∧ Hid (pad4 d = [e0, e1, e2, e3]) ∧ (∀ W, Later w W → W.cell? ⟨b, o + k * 4, none⟩ = some (.int .i64 e0)) ∧ (∀ W, Later w W → W.cell? ⟨b, o + k * 4 + 1, none⟩ = some (.int .i64 e1)) ∧
      (∀ W, Later w W → W.cell? ⟨b, o + k * 4 + 2, none⟩ = some (.int .i64 e2)) ∧ ∀ W, Later w W → W.cell? ⟨b, o + k * 4 + 3, none⟩ = some (.int .i64 e3) := by
  obtain ⟨b, o, e, hb, hc⟩ := Reads.lit h (by omega) (by omega)
  have hl : k < l.length := by have := h.len; omega
  have hx := List.getElem?_eq_getElem hl
  exact ⟨b, o, l[k], _, _, _, _, e, hb, hx, rfl, fun W k' => cell_later (hc _ _ (drysV_get l k 0 _ hx (by omega))) k' hb, fun W k' => cell_later (hc _ _ (drysV_get l k 1 _ hx (by omega))) k' hb,
    fun W k' => cell_later (hc _ _ (drysV_get l k 2 _ hx (by omega))) k' hb, fun W k' => cell_later (hc _ _ (drysV_get l k 3 _ hx (by omega))) k' hb⟩
end
theorem pad4_range {c : Clo} (ok : OkH c) {d : List Int} (hd : IsDry c d) : ∀ x ∈ pad4 d, 0 ≤ x ∧ x ≤ 1000 := by
  have key : ∀ i : Nat, 0 ≤ d.getD i 0 ∧ d.getD i 0 ≤ 1000 := fun i => by
    rw [List.getD_eq_getElem?_getD]
    rcases Nat.lt_or_ge i d.length with hl | hl
    · rw [List.getElem?_eq_getElem hl, Option.getD_some]
      have hi : i < c.horses.length := by have := hd.len; omega
      have h1 := hd.mem i _ _ (List.getElem?_eq_getElem hi) (List.getElem?_eq_getElem hl)
      have h2 := ok.horse _ (List.getElem_mem hi)
      omega
    · rw [List.getElem?_eq_none hl]; simp
  intro x hx
  simp only [pad4, List.mem_cons, List.not_mem_nil, or_false] at hx
  rcases hx with rfl | rfl | rfl | rfl <;> exact key _
theorem minuteR_pad4 (c : Clo) (p d : List Int) (h : Nat) (h4 : h < 4) : minuteR c p (pad4 d) h = minuteR c p d h := by
  have : h = 0 ∨ h = 1 ∨ h = 2 ∨ h = 3 := by omega
  rcases this with rfl | rfl | rfl | rfl <;> rfl

/-- what a work holds -/
structure WK (w : World) (bw : Nat) (c : Clo) (A1 : Option Addr) (n1 k1 : Nat) (A2 : Option Addr) (n2 k2 : Nat) (A3 : Option Addr) (n3 k3 : Nat) (At : Option Addr) (nt kt : Nat) (tr : List (List Int)) (vm : Value) : Prop where
  cells : ∀ i, w.cell? ⟨bw, i, none⟩ = #[.int .i64 c.closets, .int .i64 c.close, .slice A1 n1 k1, .slice A2 n2 k2, .slice A3 n3 k3, .slice At nt kt, vm][i]?
  lt : bw < w.heap.size
  cv : CV w c A1 n1 A2 n2 A3 n3
  tr : RD w At nt tr
theorem WK.later {w W : World} {bw : Nat} {c : Clo} {A1 A2 A3 At : Option Addr} {n1 k1 n2 k2 n3 k3 nt kt : Nat} {tr : List (List Int)} {vm : Value}
    (h : WK w bw c A1 n1 k1 A2 n2 k2 A3 n3 k3 At nt kt tr vm) (hL : Later w W) : WK W bw c A1 n1 k1 A2 n2 k2 A3 n3 k3 At nt kt tr vm :=
  ⟨fun i => (Below.cell hL (p := ⟨bw, i, none⟩) h.lt).trans (h.cells i), Nat.lt_of_lt_of_le h.lt hL.size, h.cv.later hL, h.tr.later hL⟩

/-- the bounds of what is asked of all truths, as the program has them -/
def bP (f : List Int → Int) : List (List Int) → Int × Int
  | [] => (0, 0)
  | d :: l => l.foldl (fun r d => wider r (f d)) (f d, f d)
theorem bP_snoc (f : List Int → Int) (l : List (List Int)) (d : List Int) (h : l ≠ []) : bP f (l ++ [d]) = wider (bP f l) (f d) := by
  cases l with
  | nil => exact absurd rfl h
  | cons x l => simp [bP, List.foldl_append]
theorem minutes_eq {A1 A2 A3 : Option Addr} {n1 k1 n2 k2 n3 k3 : Nat} {c : Clo} {Ap : Option Addr} {np kp : Nat} {p d : List Int} {m0 m1 m2 m3 e0 e1 e2 e3 : Int} (w : World) (hc : CV w c A1 n1 A2 n2 A3 n3) (ok : OkH c) (hp : RI w Ap np p) (hpl : p.length ≤ c.horses.length)
    (hpb : ∀ x ∈ p, -1000000 ≤ x ∧ x ≤ 1000000) (hd : IsDry c d) (he : pad4 d = [e0, e1, e2, e3]) (hm : minutesP c p (pad4 d) = [m0, m1, m2, m3]) :
    Calls Try.prog 95 #[(.agg #[.int .i64 c.closets, .int .i64 c.close, .slice A1 n1 k1, .slice A2 n2 k2, .slice A3 n3 k3]), .slice Ap np kp, .agg #[.int .i64 e0, .int .i64 e1, .int .i64 e2, .int .i64 e3]] w fun e w' =>
      e = .returned (.agg #[.int .i64 m0, .int .i64 m1, .int .i64 m2, .int .i64 m3]) ∧ Later w w' := by
  have hr := pad4_range ok hd
  rw [he] at hr hm
  have := minutes_calls (k1 := k1) (k2 := k2) (k3 := k3) (kp := kp) w hc ok hp hpl hpb hr
  rw [hm] at this; exact this
theorem index4 {m0 m1 m2 m3 mh : Int} {h : Nat} (hh : h < 4) (hg : [m0, m1, m2, m3][h]? = some mh) (W : World) :
    (Instr.index 138 (.agg #[.int .i64 m0, .int .i64 m1, .int .i64 m2, .int .i64 m3]) (.int .i64 (h : Int))).run Try.prog W = .ok (.int .i64 mh) W := by
  have i0 : ∀ w : World, (Instr.index 138 (.agg #[.int .i64 m0, .int .i64 m1, .int .i64 m2, .int .i64 m3]) (.int .i64 0)).run Try.prog w = .ok (.int .i64 m0) w := fun _ => by kernel_rfl
  have i1 : ∀ w : World, (Instr.index 138 (.agg #[.int .i64 m0, .int .i64 m1, .int .i64 m2, .int .i64 m3]) (.int .i64 1)).run Try.prog w = .ok (.int .i64 m1) w := fun _ => by kernel_rfl
  have i2 : ∀ w : World, (Instr.index 138 (.agg #[.int .i64 m0, .int .i64 m1, .int .i64 m2, .int .i64 m3]) (.int .i64 2)).run Try.prog w = .ok (.int .i64 m2) w := fun _ => by kernel_rfl
  have i3 : ∀ w : World, (Instr.index 138 (.agg #[.int .i64 m0, .int .i64 m1, .int .i64 m2, .int .i64 m3]) (.int .i64 3)).run Try.prog w = .ok (.int .i64 m3) w := fun _ => by kernel_rfl
  have : h = 0 ∨ h = 1 ∨ h = 2 ∨ h = 3 := by omega
  rcases this with rfl | rfl | rfl | rfl
  · have e : m0 = mh := by simpa using hg
    rw [← e]; exact i0 W
  · have e : m1 = mh := by simpa using hg
    rw [← e]; exact i1 W
  · have e : m2 = mh := by simpa using hg
    rw [← e]; exact i2 W
  · have e : m3 = mh := by simpa using hg
    rw [← e]; exact i3 W
end Go.Proofs.Ytjilckjhdlabaaa

/- The program's bounds: walks (from). -/
namespace Go.Proofs.Ytjilckjhdlabaaa
open Go Go.RowKit

set_option maxRecDepth 100000 in
set_option maxHeartbeats 1000000 in
theorem bounds_from_calls {A1 A2 A3 At Ap : Option Addr} {n1 k1 n2 k2 n3 k3 nt kt np kp bw h : Nat} {c : Clo} {tr : List (List Int)} {vm : Value} {p : List Int} (w : World)
    (hw : WK w bw c A1 n1 k1 A2 n2 k2 A3 n3 k3 At nt kt tr vm) (ok : OkH c) (hp : RI w Ap np p) (hpl : IsPl c p) (hdry : ∀ d ∈ tr, IsDry c d) (hn : nt ≤ 1000000) (hh : h < n1) :
    Calls Try.prog 112 #[.agg #[.func (.func 111) #[] #[]], .pointer (some ⟨bw, 0, none⟩), .slice Ap np kp, .int .i64 (h : Int)] w fun e w' =>
      e = .returned (.agg #[.int .i64 (bP (fun d => minuteR c p d h) tr).1, .int .i64 (bP (fun d => minuteR c p d h) tr).2]) ∧ Later w w' := by
  have hnt := hw.tr.len
  have hn1 := hw.cv.hs.len
  have hl4 := ok.len
  have hh4 : h < 4 := by omega
  have hhi : (h : Int) < n1 := by omega
  have hhi4 : (h : Int) < 4 := by omega
  have hhc : h < c.horses.length := by omega
  obtain ⟨b1, o1, z, rfl, _, hz, hz0, hz1, hz2, hz3⟩ := hw.cv.hs.get hh
  have okz := ok.horse z (List.mem_of_getElem? hz)
  have Hz := hide (show graceAt c h = z.grace by unfold graceAt; rw [List.getD_eq_getElem?_getD, hz]; rfl)
  have Hnt := hide hnt
  have Hn1 := hide hn1
  clear hnt hn1 hz
  obtain ⟨w0, hw0⟩ : ∃ X, X = w.alloc (.cells #[.func (.func 111) #[] #[]] 156) := ⟨_, rfl⟩
  have hL0 : Later w w0 := by rw [hw0]; exact later_alloc (later_refl _) _
  have hs0 : w0.heap.size = w.heap.size + 1 := by rw [hw0]; simp
  have bq : Blk w0 w.heap.size 156 #[.func (.func 111) #[] #[]] := by rw [hw0]; exact Blk.new _ _ _
  have Hw0 := hide hw0
  clear hw0
  obtain ⟨W3, hW3⟩ : ∃ X, X = w0.alloc (.cells #[.int .i64 0, .int .i64 0] 61) := ⟨_, rfl⟩
  have br : Blk W3 (w.heap.size + 1) 61 #[.int .i64 0, .int .i64 0] := by
    have := Blk.new w0 61 #[.int .i64 0, .int .i64 0]
    rw [hs0] at this
    rw [hW3]; exact this
  have hL3 : Later w0 W3 := by rw [hW3]; exact later_alloc (later_refl _) _
  have Hs0 := hide hs0
  have HW3 := hide hW3
  have hwL := hw.later (Later.trans hL0 hL3)
  have t5 := hwL.cells 5
  simp only [List.getElem?_toArray, List.getElem?_cons_zero, List.getElem?_cons_succ] at t5
  rw [hW3] at t5
  have hbw : bw < w.heap.size := hw.lt
  rw [Hw0.out] at t5
  clear hs0 hW3 hwL
  go_enter Try.func112, Try.ntmps112
  go_wp2_with fail
  rw [← Hw0.out, ← HW3.out]
  clear Hw0 HW3 t5
  go_loopw [17] (fun i wr => ∃ j : Nat, j ≤ nt ∧ i = .int .i64 j ∧ Later w0 wr ∧ Blk wr (w.heap.size + 1) 61 #[.int .i64 (bP (fun d => minuteR c p d h) (tr.take j)).1, .int .i64 (bP (fun d => minuteR c p d h) (tr.take j)).2]) (fun i _ => nt - (intOf i).toNat)
  case atStart => exact ⟨0, Nat.zero_le _, rfl, hL3, by rw [List.take_zero]; exact br⟩
  case round =>
    obtain ⟨j, hj, rfl, hL, hbk⟩ := hrel
    by_cases hlt : j < nt
    · obtain ⟨b, o, d, e0, e1, e2, e3, rfl, _, hx, He, hx0, hx1, hx2, hx3⟩ := hw.tr.get hlt
      have hLw := Later.trans hL0 hL
      have hdr := hdry d (List.mem_of_getElem? hx)
      obtain ⟨m0, m1, m2, m3, hm⟩ : ∃ m0 m1 m2 m3, minutesP c p (pad4 d) = [m0, m1, m2, m3] := ⟨_, _, _, _, rfl⟩
      obtain ⟨mh, hmh⟩ : ∃ mh, minuteR c p d h = mh := ⟨_, rfl⟩
      have hget := minutesP_get (d := pad4 d) hpl hhc hh4
      rw [minuteR_pad4 c p d h hh4, hmh, hm] at hget
      have hget2 := index4 hh4 hget
      have hmr := minuteR_range ok (Nat.le_of_eq hpl.len) hdr h hhc
      rw [hmh] at hmr
      have ht : tr.take (j + 1) = tr.take j ++ [d] := by rw [List.take_add_one, hx]; rfl
      have hb1 : j = 0 → bP (fun d => minuteR c p d h) (tr.take (j + 1)) = (mh, mh) := fun e => by
        rw [ht, e, List.take_zero, List.nil_append]; simp [bP, hmh, Hz.out]
      have hb2 : j ≠ 0 → bP (fun d => minuteR c p d h) (tr.take (j + 1)) = wider (bP (fun d => minuteR c p d h) (tr.take j)) (mh) := fun e => by
        have hne : tr.take j ≠ [] := by
          intro e2
          have e3 := congrArg List.length e2
          rw [List.length_take] at e3
          have := Hnt.out
          simp only [List.length_nil] at e3
          omega
        rw [ht, bP_snoc _ _ _ hne]
        simp [hmh, Hz.out]
      have Hb1 := hide hb1
      have Hb2 := hide hb2
      have Hm := hide hm
      generalize bP (fun d => minuteR c p d h) (tr.take j) = r at *
      obtain ⟨r1, r2⟩ := r
      dsimp only at hbk
      have hi1 : (j : Int) < nt := by omega
      have hx0 := hx0 _ hLw
      have hx1 := hx1 _ hLw
      have hx2 := hx2 _ hLw
      have hx3 := hx3 _ hLw
      have hbd := box_cells wr #[.int .i64 e0, .int .i64 e1, .int .i64 e2, .int .i64 e3] 138
      obtain ⟨Wb, hWb⟩ : ∃ X, X = wr.alloc (.cells #[.int .i64 e0, .int .i64 e1, .int .i64 e2, .int .i64 e3] 138) := ⟨_, rfl⟩
      have hLb : Later wr Wb := by rw [hWb]; exact later_alloc (later_refl _) _
      rw [← hWb] at hbd
      have HWb := hide hWb
      have hd0 := fun W hW => hbd W hW 0
      have hd1 := fun W hW => hbd W hW 1
      have hd2 := fun W hW => hbd W hW 2
      have hd3 := fun W hW => hbd W hW 3
      have hLwb := Later.trans hLw hLb
      have hwk := hw.later hLwb
      have hcw := fun W (hW : Later Wb W) i => (hwk.later hW).cells i
      have hc0 := fun W hW => hcw W hW 0
      have hc1 := fun W hW => hcw W hW 1
      have hc2 := fun W hW => hcw W hW 2
      have hc3 := fun W hW => hcw W hW 3
      have hc4 := fun W hW => hcw W hW 4
      have hqq := fun W (hW : Later Wb W) => (bq.later (Later.trans hL (Later.trans hLb hW))).cell 0
      simp only [List.getElem?_toArray, List.getElem?_cons_zero, List.getElem?_cons_succ] at hd0 hd1 hd2 hd3 hc0 hc1 hc2 hc3 hc4 hqq
      have hz0' := fun W (hW : Later Wb W) => hz0 W (Later.trans hLwb hW)
      have hz1' := fun W (hW : Later Wb W) => hz1 W (Later.trans hLwb hW)
      have hz2' := fun W (hW : Later Wb W) => hz2 W (Later.trans hLwb hW)
      have hz3' := fun W (hW : Later Wb W) => hz3 W (Later.trans hLwb hW)
      have hpb := hp.later hLwb
      have hcv := hwk.cv
      have hT : ∀ e : Ext Wb, Later Wb e.W := fun e => e.h
      have HB := hide (hbk.later hLb)
      have HL := hide (Later.trans hL hLb)
      clear hWb hbd hcw hb1 hb2 hm hmh hget ht hx hz0 hz1 hz2 hz3 hbk hL3 br
      go_wp2_with fail
      rw [← HWb.out]
      clear HWb
      refine wp_region_ext (w0 := Wb) (by kernel_rfl) (by kernel_rfl) (later_refl _) ?_; (repeat (first | go_big_quiet_step ((first | (go_at_call 95; exact calls_ext (hT _) (minutes_eq _ (hcv.later (hT _)) ok (hpb.later (hT _)) (Nat.le_of_eq hpl.len) (hpl.bound ok) hdr He.out Hm.out)) | (go_at_call 111; exact calls_ext (hT _) (from_calls z mh _)))) | quiet_step ((first | (go_at_call 95; exact calls_ext (hT _) (minutes_eq _ (hcv.later (hT _)) ok (hpb.later (hT _)) (Nat.le_of_eq hpl.len) (hpl.bound ok) hdr He.out Hm.out)) | (go_at_call 111; exact calls_ext (hT _) (from_calls z mh _)))))); refine wpQuiet_nil ?_; rintro w3 ⟨⟨_, hL3⟩, rfl⟩; (try dsimp only)
      have hLn := Later.trans HL.out hL3
      have hk3 := HB.out.later hL3
      have hg : w0.heap.size ≤ w.heap.size + 1 := Nat.le_of_eq Hs0.out
      clear hd0 hd1 hd2 hd3 hc0 hc1 hc2 hc3 hc4 hqq hz0' hz1' hz2' hz3' hT hget2 hL3 HL HB
      by_cases hj0 : j = 0
      · have e0' : ((j : Int) == 0) = true := by simp [hj0]
        have Hv := hide (Hb1.out hj0)
        have f0 := hk3.frozen 0
        have f1 := hk3.frozen 1
        have c0 := hk3.cell 0
        have c1 := hk3.cell 1
        simp only [List.getElem?_toArray, List.getElem?_cons_zero, List.getElem?_cons_succ] at c0 c1
        have hk4 : Blk ((w3.setCell ⟨w.heap.size + 1, 0, none⟩ (.int .i64 (mh))).setCell ⟨w.heap.size + 1, 1, none⟩ (.int .i64 (mh))) (w.heap.size + 1) 61 #[.int .i64 (mh), .int .i64 (mh)] := (hk3.set_ 0 _).set_ 1 _
        have hL4 := later_drop (later_drop hLn (a := ⟨w.heap.size + 1, 0, none⟩) (u := .int .i64 (mh)) hg) (a := ⟨w.heap.size + 1, 1, none⟩) (u := .int .i64 (mh)) hg
        have HK := hide hk4
        have HL4 := hide hL4
        clear hj0 hk3 hk4 hL4
        go_wp2_with fail
        refine (wider_calls (mh) (mh) (mh) _).mono ?_
        rintro e w5 ⟨rfl, hL5⟩
        have hk5 := HK.out.later hL5
        have hL6 := Later.trans HL4.out hL5
        have g0 := hk5.frozen 0
        have g1 := hk5.frozen 1
        have q0 := hk5.cell 0
        have q1 := hk5.cell 1
        simp only [List.getElem?_toArray, List.getElem?_cons_zero, List.getElem?_cons_succ] at q0 q1
        have hk6 : Blk ((w5.setCell ⟨w.heap.size + 1, 0, none⟩ (.int .i64 (min (mh) (mh)))).setCell ⟨w.heap.size + 1, 1, none⟩ (.int .i64 (max (mh) (mh)))) (w.heap.size + 1) 61 #[.int .i64 (bP (fun d => minuteR c p d h) (tr.take (j + 1))).1, .int .i64 (bP (fun d => minuteR c p d h) (tr.take (j + 1))).2] := by
          have := (hk5.set_ 0 (.int .i64 (min (mh) (mh)))).set_ 1 (.int .i64 (max (mh) (mh)))
          rw [Hv.out]
          simpa [Int.min_self, Int.max_self] using this
        have hL7 := later_drop (later_drop hL6 (a := ⟨w.heap.size + 1, 0, none⟩) (u := .int .i64 (min (mh) (mh))) hg) (a := ⟨w.heap.size + 1, 1, none⟩) (u := .int .i64 (max (mh) (mh))) hg
        have HK6 := hide hk6
        have HL7 := hide hL7
        clear hk5 hk6 hL7 HK HL4 c0 c1 f0 f1
        go_wp2_with fail
        go_roundw
        case rel => exact ⟨j + 1, by omega, by go_num, by have := HL7.out; rwa [Int.min_self, Int.max_self] at this, by have := HK6.out; rwa [Int.min_self, Int.max_self] at this⟩
        case measure => simp [intOf]; omega
      · have e0' : ((j : Int) == 0) = false := by simp [hj0]
        have Hv := hide (Hb2.out hj0)
        have f0 := hk3.frozen 0
        have f1 := hk3.frozen 1
        have c0 := hk3.cell 0
        have c1 := hk3.cell 1
        simp only [List.getElem?_toArray, List.getElem?_cons_zero, List.getElem?_cons_succ] at c0 c1
        have HK := hide hk3
        clear hj0 hk3
        go_wp2_with fail
        refine (wider_calls r1 r2 (mh) _).mono ?_
        rintro e w5 ⟨rfl, hL5⟩
        have hk5 := HK.out.later hL5
        have hL6 := Later.trans hLn hL5
        have g0 := hk5.frozen 0
        have g1 := hk5.frozen 1
        have q0 := hk5.cell 0
        have q1 := hk5.cell 1
        simp only [List.getElem?_toArray, List.getElem?_cons_zero, List.getElem?_cons_succ] at q0 q1
        have hk6 : Blk ((w5.setCell ⟨w.heap.size + 1, 0, none⟩ (.int .i64 (min r1 (mh)))).setCell ⟨w.heap.size + 1, 1, none⟩ (.int .i64 (max r2 (mh)))) (w.heap.size + 1) 61 #[.int .i64 (bP (fun d => minuteR c p d h) (tr.take (j + 1))).1, .int .i64 (bP (fun d => minuteR c p d h) (tr.take (j + 1))).2] := by
          have := (hk5.set_ 0 (.int .i64 (min r1 (mh)))).set_ 1 (.int .i64 (max r2 (mh)))
          rw [Hv.out]
          exact this
        have hL7 := later_drop (later_drop hL6 (a := ⟨w.heap.size + 1, 0, none⟩) (u := .int .i64 (min r1 (mh))) hg) (a := ⟨w.heap.size + 1, 1, none⟩) (u := .int .i64 (max r2 (mh))) hg
        have HK6 := hide hk6
        have HL7 := hide hL7
        clear hk5 hk6 hL7 HK c0 c1 f0 f1
        go_wp2_with fail
        go_roundw
        case rel => exact ⟨j + 1, by omega, by go_num, HL7.out, HK6.out⟩
        case measure => simp [intOf]; omega
    · have hfin : tr.take j = tr := List.take_of_length_le (by have := Hnt.out; omega)
      rw [hfin] at hbk
      have hg : w0.heap.size ≤ w.heap.size + 1 := Nat.le_of_eq Hs0.out
      obtain ⟨⟨r1, r2⟩, hr⟩ : ∃ r, bP (fun d => minuteR c p d h) tr = r := ⟨_, rfl⟩
      rw [hr] at hbk
      dsimp only at hbk
      have Hr := hide hr
      have f0 := hbk.frozen 0
      have f1 := hbk.frozen 1
      have c0 := hbk.cell 0
      have c1 := hbk.cell 1
      simp only [List.getElem?_toArray, List.getElem?_cons_zero, List.getElem?_cons_succ] at c0 c1
      clear hr hfin hbk hL3 br
      go_wp2_with fail
      refine bodyPost_ret (v := .agg #[.int .i64 r1, .int .i64 r2]) ?_ rfl ⟨by rw [Hr.out], ?_⟩
      · simp [results, Try.results112, go_sem, *]
      · exact Later.trans hL0 (later_drop (later_drop hL hg) hg)
end Go.Proofs.Ytjilckjhdlabaaa
