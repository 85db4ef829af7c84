/- Part 8 of the proof: joined from the texts VoA, VoB, VoC, VoD, Fx, FactsB. -/
import Derived.Test.YtnlbgaippnjmiaaPart1
import Derived.Test.YtnlbgaippnjmiaaPart7
import Derived.Test.YtnlbgaippnjmiaaPart3
import Derived.Test.YtnlbgaippnjmiaaPart5
set_option linter.unusedSimpArgs false
set_option linter.unusedVariables false
/- A range over a function that yields at most once, with arguments that lie in memory: the law for the caller. -/
namespace Go.Proofs.Ytnlbgaippnjmiaa
open Go Go.RowKit Go.Shelf

/-- what lies from block s on, at A, lies as it lay -/
def KeepF (s : Nat) (A B : World) : Prop := ∀ b, s ≤ b → b < A.heap.size → B.heap[b]? = A.heap[b]?
/-- THE ITERATOR's CONTRACT: it yields once, arguments of Enc, or never (Nn) -/
def IterOne (F : Fence) (n : Nat) (P : Program) (gf : Nat) (lb : Array Value) (Enc : Array Value → World → Prop) (Nn : Prop) (W : World) : Prop :=
  ∀ (l : Nat) (J Jx : World → Prop),
    (∀ args A, Later W A → Enc args A → YieldAt F (n - 1) P l args A fun e A' =>
      (e = .returned (.bool true) ∧ J A' ∧ KeepF W.heap.size A A') ∨ (e = .returned (.bool false) ∧ Jx A')) →
    CallsIn F n P gf (#[.func (.yield l) #[] #[]] ++ lb) W fun e W' => (∃ v, e = .returned v) ∧ ((Nn ∧ Later W W') ∨ J W' ∨ Jx W')
/-- how the round's body may be left -/
def onePost (s : Nat) (I : World → Prop) (Ix : Code → World → Prop) (W : World) : Exit → Act → World → Prop
  | .normal, _, W' => KeepsOthers W W' ∧ KeepF s W W' ∧ I W'
  | .ret, _, W' => KeepsOthers W W' ∧ Ix .ret W'
  | .exit id, _, W' => KeepsOthers W W' ∧ Ix (.exit id) W'
  | .goto t, _, W' => KeepsOthers W W' ∧ Ix (.goto t) W'
  | .panic _, _, _ => False
  | .outgrown, _, _ => False

variable {F : Fence} {n : Nat} {P : Program}
theorem wpIn_one {g : Operand} {ps : Array Tmp} {assign body : Code} {Q : Exit → Act → World → Prop} {a : Act} {w : World}
    (hro : F.round = none) (h1 : 1 ≤ n) {gf : Nat} {lb : Array Value} (hg : a.eval g = .func (.func gf) #[] lb) (hFg : F.fn gf) (eg : ∀ args w, (callFunc gf args).run P w = .ok (.enter gf args) w)
    {Enc : Array Value → World → Prop} {Nn : Prop}
    (hseq : ∀ W, Later w W → W.heap.size = w.heap.size + 2 → IterOne F (n - 1) P gf lb Enc Nn W)
    (hps : ∀ args A, Enc args A → args.size = ps.size)
    (I : World → Prop) (Ix : Code → World → Prop)
    (hIp : ∀ A o, I A → w.heap.size + 1 < A.heap.size → I (A.putObj (w.heap.size + 1) o)) (hIxp : ∀ c A o, Ix c A → w.heap.size + 1 < A.heap.size → Ix c (A.putObj (w.heap.size + 1) o))
    (I2 : Act → World → Prop)
    (hassign : ∀ (l : Nat) (args : Array Value) (A : World) (K : Act → World → Prop), Later w A → w.heap.size + 2 ≤ A.heap.size → (∃ r, A.heap[w.heap.size + 1]? = some (.loop r)) → Enc args A → (∀ a' W', KeepsOthers A W' → KeepF (w.heap.size + 2) A W' → A.heap.size ≤ W'.heap.size → I2 a' W' → K a' W') →
      assign.wpIn (F.inRound l) (n - 1 - 1) P (Exit.then K (fun _ _ _ => False)) { tmps := (ps.zip args).foldl (fun t (p, v) => t.setIfInBounds p v) a.tmps, defers := [] } A)
    (hI2p : ∀ a' A o, I2 a' A → (∃ r, A.heap[w.heap.size + 1]? = some (.loop r)) → I2 a' (A.putObj (w.heap.size + 1) o))
    (hbody : ∀ (l : Nat) (a' : Act) (W : World), I2 a' W → w.heap.size + 1 < W.heap.size → body.wpIn (F.inRound l) (n - 1 - 1) P (onePost (w.heap.size + 2) I Ix W) a' W)
    (hdone : ∀ (W : World), (Nn ∧ Later w W) ∨ I W → W.heap[w.heap.size]? = some (.deferred (some [])) → Q .normal { a with defers := { target := .collected w.heap.size, args := #[] } :: a.defers } W)
    (hstop : ∀ (c : Code) (W : World), Ix c W → W.heap[w.heap.size]? = some (.deferred (some [])) → c.wpIn F n P Q { a with defers := { target := .collected w.heap.size, args := #[] } :: a.defers } W) :
    (Code.rangeFunc g ps assign body).wpIn F n P Q a w := by
  refine wpIn_rangeFunc ?_
  intro fn hfn
  rw [hro]
  obtain ⟨rec, hrec⟩ : ∃ rec : LoopState → Option Code → Loop, rec = fun st pe => { state := st, pending := pe, fn, tmps := a.tmps, params := ps, assign, body, defers := w.heap.size } := ⟨_, rfl⟩
  obtain ⟨W1, hW1⟩ : ∃ W1, (w.alloc (.deferred (some []))).alloc (.loop (rec .ready none)) = W1 := ⟨_, rfl⟩
  have hs1 : W1.heap.size = w.heap.size + 2 := by rw [← hW1]; simp
  have hL1 : W1.heap[w.heap.size + 1]? = some (.loop (rec .ready none)) := by
    rw [← hW1]; have := World.alloc_heap_new (w.alloc (.deferred (some []))) (.loop (rec .ready none)); rwa [World.size_alloc] at this
  have hK1 : W1.heap[w.heap.size]? = some (.deferred (some [])) := by
    rw [← hW1]; exact (Below.heap_alloc _ _ _ (by simp)).trans (World.alloc_heap_new w _)
  have hb1 : Later w W1 := by rw [← hW1]; simp
  have hput : ∀ (X : World) (o : Obj), Later w X → Later w (X.putObj (w.heap.size + 1) o) := fun X o h =>
    ⟨h.os, h.tape, h.output, by simpa using h.size, fun b hb => (World.putObj_heap_other (by omega)).trans (h.block b hb)⟩
  have hkput : ∀ (X : World) (o : Obj), KeepF (w.heap.size + 2) X (X.putObj (w.heap.size + 1) o) := fun X o b hb _ => World.putObj_heap_other (by omega)
  refine ⟨w.heap.size + 1, [{ target := .collected w.heap.size, args := #[] }], W1, { target := .fn (.func gf) lb, args := #[.func (.yield (w.heap.size + 1)) #[] #[]] }, W1, gf,
    #[.func (.yield (w.heap.size + 1)) #[] #[]] ++ lb, W1, ?_, ?_, ?_, ?_, fun _ => h1, ?_⟩
  · rw [← hW1, hrec]; exact run_enterLoop_outer _ _ _ _ _
  · simp only [resolve, hg]
    simp [go_sem]
  · intro f' hf'; simp [Target.leads] at hf'; subst hf'; exact hFg
  · simp [invoke, go_sem, eg]
  · refine (hseq W1 hb1 hs1 (w.heap.size + 1)
      (fun W => I W ∧ W.heap[w.heap.size + 1]? = some (.loop (rec .ready none)) ∧ W.heap[w.heap.size]? = some (.deferred (some [])))
      (fun W => ∃ c, Ix c W ∧ W.heap[w.heap.size + 1]? = some (.loop (rec .done (some c))) ∧ W.heap[w.heap.size]? = some (.deferred (some [])))
      ?_).mono ?_
    · rintro args W0 hA henc
      have hl0 := (hA.block (w.heap.size + 1) (by omega)).trans hL1
      have hk0 := (hA.block w.heap.size (by omega)).trans hK1
      have hsz0 := hA.size
      have hy := run_yield (P := P) (args := args) hl0 (by rw [hrec]; exact hps args W0 henc)
      rw [hrec] at hy
      refine ⟨fn, _, assign, body, hy, roundIn_of_wpIn hfn (hassign _ args W0 _ (Later.trans hb1 hA) (by omega) ⟨_, hl0⟩ henc fun a' W hko hkp hsz hi => ?_)⟩
      have hl := hko.same _ _ hl0 rfl
      have hk := hko.same _ _ hk0 rfl
      have hlt : w.heap.size + 1 < W.heap.size := (Array.getElem?_eq_some_iff.1 hl).1
      refine ⟨_, run_beginRound hl (by rw [hrec]), ?_⟩
      have hl2 : (W.putObj (w.heap.size + 1) (.loop { rec .ready none with state := .busy })).heap[w.heap.size + 1]? = some (.loop { rec .ready none with state := .busy }) := World.putObj_heap_same hlt
      have hk2 : (W.putObj (w.heap.size + 1) (.loop { rec .ready none with state := .busy })).heap[w.heap.size]? = some (.deferred (some [])) := (World.putObj_heap_other (by omega)).trans hk
      refine wpIn_mono (hbody _ a' _ (hI2p _ _ _ hi ⟨_, hl⟩) (by simpa using hlt)) ?_
      have fin : ∀ (jump : Option Code) (W3 : World), KeepsOthers (W.putObj (w.heap.size + 1) (.loop { rec .ready none with state := .busy })) W3 →
          (Instr.endRound (w.heap.size + 1) jump).run P W3 = .ok (.bool jump.isNone) (W3.putObj (w.heap.size + 1) (.loop (rec (if jump.isNone then .ready else .done) jump))) ∧
          w.heap.size + 1 < W3.heap.size ∧
          (W3.putObj (w.heap.size + 1) (.loop (rec (if jump.isNone then .ready else .done) jump))).heap[w.heap.size + 1]? = some (.loop (rec (if jump.isNone then .ready else .done) jump)) ∧
          (W3.putObj (w.heap.size + 1) (.loop (rec (if jump.isNone then .ready else .done) jump))).heap[w.heap.size]? = some (.deferred (some [])) := fun jump W3 hk3 => by
        have hl3 := hk3.same _ _ hl2 rfl
        have := run_endRound (P := P) jump hl3
        rw [hrec] at this ⊢
        exact ⟨this, (Array.getElem?_eq_some_iff.1 hl3).1, World.putObj_heap_same (Array.getElem?_eq_some_iff.1 hl3).1, (World.putObj_heap_other (by omega)).trans (hk3.same _ _ hk2 rfl)⟩
      rintro e a3 W3 hp
      cases e with
      | normal =>
        obtain ⟨hk3, hkp3, hi3⟩ := hp
        obtain ⟨hr, hl3, hl4, hk4⟩ := fin none W3 hk3
        refine ⟨_, _, hr, .inl ⟨rfl, ⟨hIp _ _ hi3 hl3, hl4, hk4⟩, fun b hb1 hb2 => ?_⟩⟩
        rw [hs1] at hb1
        exact (World.putObj_heap_other (by omega)).trans ((hkp3 b hb1 (by simp; omega)).trans ((World.putObj_heap_other (by omega)).trans (hkp b hb1 hb2)))
      | ret =>
        obtain ⟨hk3, hi3⟩ := hp
        obtain ⟨hr, hl3, hl4, hk4⟩ := fin (some .ret) W3 hk3
        exact ⟨_, _, hr, .inr ⟨rfl, .ret, hIxp _ _ _ hi3 hl3, hl4, hk4⟩⟩
      | exit id =>
        obtain ⟨hk3, hi3⟩ := hp
        obtain ⟨hr, hl3, hl4, hk4⟩ := fin (some (.exit id)) W3 hk3
        exact ⟨_, _, hr, .inr ⟨rfl, .exit id, hIxp _ _ _ hi3 hl3, hl4, hk4⟩⟩
      | goto t =>
        obtain ⟨hk3, hi3⟩ := hp
        obtain ⟨hr, hl3, hl4, hk4⟩ := fin (some (.goto t)) W3 hk3
        exact ⟨_, _, hr, .inr ⟨rfl, .goto t, hIxp _ _ _ hi3 hl3, hl4, hk4⟩⟩
      | panic ch => exact hp.elim
      | outgrown => exact hp.elim
    · rintro e W2 ⟨⟨v, rfl⟩, (⟨hN, hL⟩ | ⟨hi, hl, hk⟩ | ⟨c, hi, hl, hk⟩)⟩
      · have hl := (hL.block (w.heap.size + 1) (by omega)).trans hL1
        have hk := (hL.block w.heap.size (by omega)).trans hK1
        exact ⟨none, _, by have := run_endLoop (P := P) hl (by rw [hrec]; simp); rw [hrec] at this; exact this, hdone _ (.inl ⟨hN, hput _ _ (Later.trans hb1 hL)⟩) ((World.putObj_heap_other (by omega)).trans hk)⟩
      · exact ⟨none, _, by have := run_endLoop (P := P) hl (by rw [hrec]; simp); rw [hrec] at this; exact this, hdone _ (.inr (hIp _ _ hi (Array.getElem?_eq_some_iff.1 hl).1)) ((World.putObj_heap_other (by omega)).trans hk)⟩
      · exact ⟨some c, _, by have := run_endLoop (P := P) hl (by rw [hrec]; simp); rw [hrec] at this; exact this, hstop c _ (hIxp _ _ _ hi (Array.getElem?_eq_some_iff.1 hl).1) ((World.putObj_heap_other (by omega)).trans hk)⟩
end Go.Proofs.Ytnlbgaippnjmiaa

/- The rounds of a Monday whose plan is one round: the iterator. -/
namespace Go.Proofs.Ytnlbgaippnjmiaa
open Go Go.RowKit
theorem pickH_range {hs : List Horse} {n : Nat} (h : n = hs.length) : pickH hs (List.range n) = hs := by
  subst h
  unfold pickH
  refine List.ext_getElem (by simp) fun i h1 h2 => ?_
  simp [List.getD_eq_getElem?_getD, h2]
theorem rounds_fn {k close : Int} {Aw Aq : Option Addr} {nw kw nq kq : Nat} (w : World) : Calls Try.prog 24 #[(.agg #[.int .i64 k, .int .i64 close, .slice Aw nw kw]), .slice Aq nq kq] w fun e w' =>
    e = .returned (.func (.func 40) #[] #[.pointer (some ⟨w.heap.size + 1, 0, none⟩), .pointer (some ⟨w.heap.size, 0, none⟩)]) ∧ w' = (w.alloc (.cells #[.int .i64 k, .int .i64 close, .slice Aw nw kw] 51)).alloc (.cells #[.slice Aq nq kq] 53) := by
  go_enter Try.func24, Try.ntmps24
  go_wp2_with fail
  go_ret
  exact ⟨rfl, rfl⟩
/-- what a round yields -/
def EncR (X : Clo) (nl B : Nat) (args : Array Value) (A : World) : Prop :=
  (bestOut X).2.2 = 0 ∧ ∃ Ap np kp Am km, args = #[.int .i64 0, .agg #[.int .i64 0, .int .i64 (bestOut X).2.1, .slice Ap np kp, .slice Am nl km]] ∧ RI A Ap np (bestOut X).1 ∧ RR A Am nl (minsL X (bestOut X).1 0 nl) ∧ TypedI B A Ap np ∧ TypedX B 60 A Am nl
theorem TypedX.later {B : Nat} {t : TypeId} {W X : World} {A : Option Addr} {n : Nat} (h : TypedX B t W A n) (k : Later W X) : TypedX B t X A n := fun hn b o e => let ⟨hl, cs, hb⟩ := h hn b o e; ⟨hl, cs, hb.later k⟩
set_option maxRecDepth 100000 in
set_option maxHeartbeats 2000000 in
theorem rounds_iter {k close : Int} {Aw Aq : Option Addr} {nw kw kq bm bp : Nat} {hs : List Horse} {W : World} (hm : RM W Aw nw hs) (hp : RRI W Aq 1 [idL nw]) (kbm : Blk W bm 51 #[.int .i64 k, .int .i64 close, .slice Aw nw kw]) (kbp : Blk W bp 53 #[.slice Aq 1 kq])
    (hk : 1 ≤ k ∧ k ≤ 4) (hn : (nw : Int) ≤ k) (hc : 0 ≤ close ∧ close ≤ 99) (hf : fault (rndC k close hs) = 0) :
    IterOne Fence.wide 5 Try.prog 40 #[.pointer (some ⟨bp, 0, none⟩), .pointer (some ⟨bm, 0, none⟩)] (EncR (rndC k close hs) nw W.heap.size) ((bestOut (rndC k close hs)).2.2 ≠ 0) W := by
  intro l J Jx hY
  obtain ⟨bq, oq, l0, Al, nl, kl, rfl, hl0, hrl, hpc⟩ := hp.get (k := 0) Nat.one_pos
  have hl0' : l0 = idL nw := by simpa using hl0.symm
  subst hl0'
  have hnl : nw = nl := by have := hrl.len; rw [idL_len] at this; exact this.symm
  subst hnl
  have hround := round_calls (Al := Al) (kl := kl) (kw := kw) (close := close) (li := List.range nw) (after := 0) W hm (show RI W Al nw (natI (List.range nw)) from hrl) (fun i hi => List.mem_range.1 hi) hk (by simpa using hn) (by omega) hc (by rw [Int.sub_zero, pickH_range hm.len]; exact hf)
  rw [Int.sub_zero, pickH_range hm.len] at hround
  have p0 := (kbp.cell 0).trans (show _ = some (Value.slice (some ⟨bq, oq, none⟩) 1 kq) from rfl)
  have m0 := (kbm.cell 0).trans (show _ = some (Value.int .i64 k) from rfl)
  have m1 := (kbm.cell 1).trans (show _ = some (Value.int .i64 close) from rfl)
  have m2 := (kbm.cell 2).trans (show _ = some (Value.slice Aw nw kw) from rfl)
  have q0 := hpc W (later_refl _)
  rw [Nat.add_zero] at q0
  have Hround := hide hround
  have HY := hide hY
  clear hround hm hp hrl hpc hl0 hf hY kbm kbp
  refine callsIn_of_wp Try.func40 rfl trivial ?_ rfl
  simp only [Try.ntmps40, List.size_toArray, List.length_cons, List.length_nil, Nat.reduceAdd, Nat.reduceSub, Array.replicate_succ, Array.replicate_zero, List.push_toArray, List.append_toArray, List.nil_append, List.cons_append]
  gi_wp2_with fail
  gi_loopw [11, 4] (fun v a wr => (v = .int .i64 0 ∧ a = .int .i64 0 ∧ wr = W) ∨ (v = .int .i64 1 ∧ (∃ q, a = .int .i64 q) ∧ J wr)) (fun v _ _ => 1 - (intOf v).toNat)
  case atStart => exact .inl ⟨rfl, rfl, rfl⟩
  case round =>
    rcases hrel with ⟨rfl, rfl, rfl⟩ | ⟨rfl, ⟨q, rfl⟩, hJ⟩
    · gi_wp2_with fail
      refine ⟨trivial, (callsIn_wide.2 Hround.out).mono ?_⟩
      rintro e w1 (⟨h10, rfl, hL1⟩ | ⟨h10, Ap, np, kp, Am, km, rfl, hL1, hri, hrr, hty, htx⟩)
      · gi_wp2_with fail
        all_goals
          refine ⟨fun f h => (by cases h), ?_⟩
          go_at_K
          gi_wp2_with fail
          try rw [Exit.noGoto_ret]
          refine bodyPost_ret (results_none rfl _ _ _) rfl ?_
          exact ⟨⟨_, rfl⟩, .inl ⟨h10, later_alloc hL1 _⟩⟩
      · rw [Int.zero_add]
        have hA : Later wr (w1.alloc (.cells #[.int .i64 0, .int .i64 ((bestOut (rndC k close hs)).2.1), .slice Ap np kp, .slice Am nw km] 85)) := later_alloc hL1 _
        have kh : Blk (w1.alloc (.cells #[.int .i64 0, .int .i64 ((bestOut (rndC k close hs)).2.1), .slice Ap np kp, .slice Am nw km] 85)) w1.heap.size 85 #[.int .i64 0, .int .i64 ((bestOut (rndC k close hs)).2.1), .slice Ap np kp, .slice Am nw km] := Blk.new _ _ _
        have hL1A := later_alloc (later_refl w1) (.cells #[.int .i64 0, .int .i64 ((bestOut (rndC k close hs)).2.1), .slice Ap np kp, .slice Am nw km] 85)
        obtain ⟨fn, tmps, assign, body, hy, hR⟩ := HY.out _ _ hA ⟨h10, Ap, np, kp, Am, km, rfl, hri.later hL1A, Reads.later hrr hL1A, hty.later hL1A, htx.later hL1A⟩
        have hb1 : wr.heap.size ≤ w1.heap.size := hL1.size
        have c0 := (kh.cell 0).trans (show _ = some (Value.int .i64 0) from rfl)
        have c1 := (kh.cell 1).trans (show _ = some (Value.int .i64 ((bestOut (rndC k close hs)).2.1)) from rfl)
        have c2 := (kh.cell 2).trans (show _ = some (Value.slice Ap np kp) from rfl)
        have c3 := (kh.cell 3).trans (show _ = some (Value.slice Am nw km) from rfl)
        have Hh10 := hide h10
        have Kh := hide kh
        clear h10 kh hri hrr hty htx p0 q0 m0 m1 m2
        gi_wp2_with fail
        refine hR.mono ?_
        rintro e A' (⟨rfl, hJ', hk'⟩ | ⟨rfl, hJx⟩)
        · have kh' := Blk.of_eq (hk' w1.heap.size hb1 Kh.out.lt) Kh.out
          have c1' := (kh'.cell 1).trans (show _ = some (Value.int .i64 ((bestOut (rndC k close hs)).2.1)) from rfl)
          gi_wp2_with fail
          go_roundw
          case rel => exact .inr ⟨by go_num, ⟨_, rfl⟩, hJ'⟩
          case measure => simp [intOf]
        · gi_wp2_with fail
          try rw [Exit.noGoto_ret]
          refine bodyPost_ret (results_none rfl _ _ _) rfl ?_
          exact ⟨⟨_, rfl⟩, .inr (.inr hJx)⟩
    · gi_wp2_with fail
      go_end0
      exact ⟨⟨_, rfl⟩, .inr (.inl hJ)⟩
end Go.Proofs.Ytnlbgaippnjmiaa

/- The Monday's Play for a plan of one round: walk. -/
namespace Go.Proofs.Ytnlbgaippnjmiaa
open Go Go.RowKit
attribute [local go_sem] Oper.semAt_some
attribute [local go_sem] later_alloc2 later_alloc3 later_alloc4
theorem RI_one {W : World} {g : Nat} {x : Int} {z : Array Value} (h : Blk W g 3 (#[.int .i64 x] ++ z)) : RI W (some ⟨g, 0, none⟩) 1 [x] ∧ TypedI g W (some ⟨g, 0, none⟩) 1 := by
  refine ⟨⟨by simp [ints], fun _ => ⟨_, rfl, h.lt, fun j u hu => ?_⟩⟩, fun _ b o e => ?_⟩
  · rw [add_lit, Nat.zero_add, h.cell]
    cases j with
    | zero =>
      have h0 : Value.int .i64 x = u := by simpa [ints] using hu
      subst h0
      simp [Array.getElem?_append]
    | succ j => simp [ints] at hu
  · injection e with e
    injection e with e1
    subst e1
    exact ⟨Nat.le_refl _, _, h⟩
theorem RI_from {B : Nat} {W X : World} {A : Option Addr} {n : Nat} {l : List Int} (h : RI W A n l) (ht : TypedI B W A n) (hs : W.heap.size ≤ X.heap.size) (hk : ∀ b, B ≤ b → X.heap[b]? = W.heap[b]?) : RI X A n l ∧ TypedI B X A n := by
  refine ⟨⟨h.1, fun hn => ?_⟩, fun hn b o e => ?_⟩
  · obtain ⟨b, o, rfl, hb, hc⟩ := Reads.lit h Nat.one_pos hn
    obtain ⟨hl, cs, hbk⟩ := ht hn b o rfl
    refine ⟨_, rfl, Nat.lt_of_lt_of_le hb hs, fun j u hu => ?_⟩
    rw [add_lit]
    exact (World.cell?_of_block (a := ⟨b, o + j, none⟩) (hk b hl)).trans (hc j u hu)
  · obtain ⟨hl, cs, hbk⟩ := ht hn b o e
    exact ⟨hl, cs, Blk.of_eq (hk b hl) hbk⟩
def donesOf (X : Clo) : List Int := if (bestOut X).2.2 = 0 then [(bestOut X).2.1] else []
def MPlayPost (X : Clo) (w : World) (e : Ending) (w' : World) : Prop :=
  ∃ A n k, e = .returned (.tuple #[.slice A n k, .int .i64 0]) ∧ Later w w' ∧ RI w' A n (donesOf X)
set_option maxRecDepth 100000 in
set_option maxHeartbeats 2000000 in
theorem MPlay_calls {k close : Int} {Aw Aq : Option Addr} {nw kw kq : Nat} {hs : List Horse} (w : World) (hm : RM w Aw nw hs) (ok : OkM k close hs) (hp : RRI w Aq 1 [idL nw]) (h1 : 1 ≤ nw) (hk : 1 ≤ k ∧ k ≤ 4) (hn : (nw : Int) ≤ k) (hc : 0 ≤ close ∧ close ≤ 99) (hf : fault (rndC k close hs) = 0) :
    Calls Try.prog 9 #[(.agg #[.int .i64 k, .int .i64 close, .slice Aw nw kw]), .slice Aq 1 kq] w (MPlayPost (rndC k close hs) w) := by
  obtain ⟨w0, hw0⟩ : ∃ X, X = w.alloc (.cells #[.int .i64 k, .int .i64 close, .slice Aw nw kw] 51) := ⟨_, rfl⟩
  have k0 : Blk w0 w.heap.size 51 #[.int .i64 k, .int .i64 close, .slice Aw nw kw] := by rw [hw0]; exact Blk.new _ _ _
  have hL0 : Later w w0 := by rw [hw0]; exact later_alloc (later_refl _) _
  have b0 := fun X (hX : Later w0 X) => ((k0.later hX).cell 0).trans (show _ = some (Value.int .i64 k) from rfl)
  have b1 := fun X (hX : Later w0 X) => ((k0.later hX).cell 1).trans (show _ = some (Value.int .i64 close) from rfl)
  have b2 := fun X (hX : Later w0 X) => ((k0.later hX).cell 2).trans (show _ = some (Value.slice Aw nw kw) from rfl)
  have hl0 := later_refl w0
  have hchk := (callsIn_wide (n := 5)).2 (checked_calls (kw := kw) (kp := kq) w0 (hm.later hL0) ok (hp.later hL0) h1)
  have hrf := fun W => (callsIn_wide (n := 5)).2 (rounds_fn (k := k) (close := close) (Aw := Aw) (Aq := Aq) (nw := nw) (kw := kw) (nq := 1) (kq := kq) W)
  have Hw0 := hide hw0
  have Hm := hide hm
  have Hp := hide hp
  have Hf := hide hf
  have c0 := b0 w0 hl0
  have c1 := b1 w0 hl0
  have c2 := b2 w0 hl0
  clear hw0 k0 hm hp hf
  refine (callsIn_wide (n := 6)).1 ?_
  refine callsIn_of_wp_marks Try.func9 rfl trivial ?_ rfl
  simp only [Try.ntmps9, List.size_toArray, List.length_cons, List.length_nil, Nat.reduceAdd, Nat.reduceSub, Array.replicate_succ, Array.replicate_zero, List.push_toArray, List.append_toArray, List.nil_append, List.cons_append]
  gi_wp2_with fail
  rw [← Hw0.out]
  gi_wp2_with fail
  refine ⟨trivial, hchk.mono ?_⟩
  rintro e w1 ⟨rfl, hL1⟩
  have d0 := b0 _ (later_alloc hL1 (.cells #[.slice none 0 0] 23))
  have d1 := b1 _ (later_alloc hL1 (.cells #[.slice none 0 0] 23))
  have d2 := b2 _ (later_alloc hL1 (.cells #[.slice none 0 0] 23))
  clear hchk
  gi_wp2_with fail
  refine ⟨trivial, (hrf _).mono ?_⟩
  rintro e w2 ⟨rfl, rfl⟩
  gi_wp2_with fail
  obtain ⟨B, hB⟩ : ∃ b, b = w1.heap.size := ⟨_, rfl⟩
  simp only [← hB, World.size_alloc]
  generalize hwE : (((w1.alloc _).alloc _).alloc _) = wE
  have hE : wE.heap.size = B + 3 := by rw [← hwE]; simp [← hB]
  have hLE : Later w1 wE := by rw [← hwE]; exact later_alloc3 (later_refl _) _ _ _
  have hLwE : Later w wE := Later.trans hL0 (Later.trans hL1 hLE)
  have ke : Blk wE B 23 #[.slice none 0 0] := by rw [← hwE, hB]; exact ((Blk.new _ _ _).alloc _).alloc _
  have km : Blk wE (B + 1) 51 #[.int .i64 k, .int .i64 close, .slice Aw nw kw] := by
    rw [← hwE, hB]
    have := Blk.new (w1.alloc (.cells #[.slice none 0 0] 23)) 51 #[.int .i64 k, .int .i64 close, .slice Aw nw kw]
    rw [World.size_alloc] at this
    exact this.alloc _
  have kpl : Blk wE (B + 1 + 1) 53 #[.slice Aq 1 kq] := by
    rw [← hwE, hB]
    have := Blk.new ((w1.alloc (.cells #[.slice none 0 0] 23)).alloc (.cells #[.int .i64 k, .int .i64 close, .slice Aw nw kw] 51)) 53 #[.slice Aq 1 kq]
    simp only [World.size_alloc] at this
    exact this
  have hwB : w.heap.size < B := by have h1 := hL1.size; have h2 : w0.heap.size = w.heap.size + 1 := (by rw [Hw0.out]; simp); omega
  have hmE := Hm.out.later hLwE
  have hpE := RRI.later Hp.out hLwE
  clear hwE hB hrf d0 d1 d2 c0 c1 c2
  refine wpIn_one (gf := 40) (lb := #[.pointer (some ⟨B + 1 + 1, 0, none⟩), .pointer (some ⟨B + 1, 0, none⟩)]) (Enc := EncR (rndC k close hs) nw (B + 5)) (Nn := (bestOut (rndC k close hs)).2.2 ≠ 0) rfl (by omega) rfl trivial (enters_of Try.func40 (by kernel_rfl) rfl) ?_ ?_
    (fun W => (bestOut (rndC k close hs)).2.2 = 0 ∧ ∃ A ka, Blk W B 23 #[.slice A 1 ka] ∧ RI W A 1 [(bestOut (rndC k close hs)).2.1] ∧ TypedI (B + 5) W A 1 ∧ Later w W) (fun _ _ => False) ?_ (fun _ _ _ h _ => h)
    (fun a' W => (bestOut (rndC k close hs)).2.2 = 0 ∧ ∃ (g : Nat) (Ap : Option Addr) (np kp : Nat) (Am : Option Addr) (km : Nat), a' = { tmps := #[(.agg #[.int .i64 k, .int .i64 close, .slice Aw nw kw]), .slice Aq 1 kq, .pointer (some ⟨w.heap.size, 0, none⟩), undef, .slice none 0 0, .int .i64 0, .int .i64 0, .pointer (some ⟨B, 0, none⟩), undef, .pointer (some ⟨g, 0, none⟩), (.agg #[.int .i64 k, .int .i64 close, .slice Aw nw kw]), .slice Aq 1 kq, .int .i64 0, .int .i64 0, .bool false, undef, (.agg #[.int .i64 k, .int .i64 close, .slice Aw nw kw]), .slice Aq 1 kq, .func (.func 40) #[] #[.pointer (some ⟨B + 1 + 1, 0, none⟩), .pointer (some ⟨B + 1, 0, none⟩)], .int .i64 0, .agg #[.int .i64 0, .int .i64 (bestOut (rndC k close hs)).2.1, .slice Ap np kp, .slice Am nw km], undef, undef, undef, undef, undef, undef], defers := [] } ∧ B + 5 ≤ g ∧ Blk W g 85 #[.int .i64 0, .int .i64 (bestOut (rndC k close hs)).2.1, .slice Ap np kp, .slice Am nw km] ∧ Later w W ∧ Blk W B 23 #[.slice none 0 0]) ?assign ?keep ?body ?done (fun _ _ h => h.elim)
  · intro W hW hs2
    have := rounds_iter (bm := B + 1) (bp := B + 1 + 1) (hmE.later hW) (RRI.later hpE hW) (km.later hW) (kpl.later hW) hk hn hc Hf.out
    rw [hs2, hE] at this
    exact this
  · rintro args A ⟨_, Ap, np, kp, Am, km, rfl, _⟩; rfl
  · rintro A o ⟨h10, A', ka, hbe, hri, hty, hL⟩ hlt
    have h2 := RI_from hri hty (X := A.putObj (wE.heap.size + 1) o) (by simp) fun b hb => World.putObj_heap_other (by omega)
    exact ⟨h10, A', ka, Blk.of_eq (World.putObj_heap_other (by omega)) hbe, h2.1, h2.2, ⟨hL.os, hL.tape, hL.output, by simpa using hL.size, fun b hb => (World.putObj_heap_other (by omega)).trans (hL.block b hb)⟩⟩
  case assign =>
    rintro l args A K hA hsz hlp ⟨h10, Ap, np, kp, Am, km', rfl, hri, hrr, hty, htx⟩ hK
    gi_wp2_with fail
    exact hK _ _ (KeepsOthers.alloc _ _) (fun b _ hlt => Below.heap_alloc _ _ _ hlt) (by simp) ⟨h10, _, Ap, np, kp, Am, km', rfl, by omega, Blk.new _ _ _, Later.trans hLwE (later_alloc hA _), (ke.later hA).alloc _⟩
  case keep =>
    rintro a' A o ⟨h10, g, Ap, np, kp, Am, km', rfl, hg, hb, hL, hbe⟩ _
    refine ⟨h10, g, Ap, np, kp, Am, km', rfl, hg, ?_, ⟨hL.os, hL.tape, hL.output, by simpa using hL.size, fun b hb => (World.putObj_heap_other (by omega)).trans (hL.block b hb)⟩, ?_⟩
    · exact Blk.of_eq (World.putObj_heap_other (by omega)) hb
    · exact Blk.of_eq (World.putObj_heap_other (by omega)) hbe
  case body =>
    rintro l a' W ⟨h10, g, Ap, np, kp, Am, km', rfl, hg, hb, hL, hbe⟩ hlt
    have e0 := fun X (hX : Later W X) => ((hbe.later hX).cell 0).trans (show _ = some (Value.slice none 0 0) from rfl)
    have ef := fun X (hX : Later W X) => (hbe.later hX).frozen 0
    have e00 := e0 W (later_refl _)
    have g1 := (hb.cell 1).trans (show _ = some (Value.int .i64 (bestOut (rndC k close hs)).2.1) from rfl)
    have Hb := hide hb
    have Hbe := hide hbe
    clear hb hbe
    gi_wp2_with fail
    have key : ∀ (z : Array Value) (ka : Nat), onePost (wE.heap.size + 2) (fun W => (bestOut (rndC k close hs)).2.2 = 0 ∧ ∃ A ka, Blk W B 23 #[.slice A 1 ka] ∧ RI W A 1 [(bestOut (rndC k close hs)).2.1] ∧ TypedI (B + 5) W A 1 ∧ Later w W) (fun _ _ => False) W .normal { tmps := #[], defers := [] }
        ((((W.alloc (.cells #[.int .i64 (bestOut (rndC k close hs)).2.1] 3)).alloc (.cells (#[.int .i64 (bestOut (rndC k close hs)).2.1] ++ z) 3)).drew).setCell ⟨B, 0, none⟩ (.slice (some ⟨W.heap.size + 1, 0, none⟩) 1 ka)) := fun z ka => by
      have hX : Later W ((W.alloc (.cells #[.int .i64 (bestOut (rndC k close hs)).2.1] 3)).alloc (.cells (#[.int .i64 (bestOut (rndC k close hs)).2.1] ++ z) 3)).drew := later_drew (later_alloc (later_alloc (later_refl _) _) _)
      have hr : Blk ((W.alloc (.cells #[.int .i64 (bestOut (rndC k close hs)).2.1] 3)).alloc (.cells (#[.int .i64 (bestOut (rndC k close hs)).2.1] ++ z) 3)).drew (W.heap.size + 1) 3 (#[.int .i64 (bestOut (rndC k close hs)).2.1] ++ z) := by
        have := Blk.new (W.alloc (.cells #[.int .i64 (bestOut (rndC k close hs)).2.1] 3)) 3 (#[.int .i64 (bestOut (rndC k close hs)).2.1] ++ z)
        rw [World.size_alloc] at this
        exact this.drew
      have hBl := Hbe.out.lt
      have hr2 := RI_one (hr.far (p := ⟨B, 0, none⟩) (by show W.heap.size + 1 ≠ B; omega) (.slice (some ⟨W.heap.size + 1, 0, none⟩) 1 ka))
      refine ⟨?_, fun b hb hlt2 => ?_, h10, _, ka, (Hbe.out.later hX).set_ 0 _, hr2.1, hr2.2.le (by omega), later_set (Later.trans hL hX) _ (by show w.heap.size ≤ B; omega) _⟩
      · exact KeepsOthers.trans (KeepsOthers.of_later hX) (KeepsOthers.setCell _ _ _)
      · exact (Below.heap_setCell _ _ _ b (by show b ≠ B; omega)).trans (hX.block b hlt2)
    exact key _ _
  case done =>
    rintro W hW hK
    rcases hW with ⟨h10, hL⟩ | ⟨h10, A', ka, hbe, hri, hty, hL⟩
    · have e0 := ((ke.later hL).cell 0).trans (show _ = some (Value.slice none 0 0) from rfl)
      gi_wp2_with fail
      refine ⟨by simp, .inl ⟨_, _, rfl, run_takeDeferred hK, ?_⟩⟩
      refine ⟨.tuple #[.slice none 0 0, .int .i64 0], by simp [results, Try.results9, go_sem], none, 0, 0, rfl, later_put (Later.trans hLwE hL) (by omega) _, ?_⟩
      unfold donesOf
      rw [if_neg h10]
      exact RI.nil
    · have e0 := (hbe.cell 0).trans (show _ = some (Value.slice A' 1 ka) from rfl)
      gi_wp2_with fail
      refine ⟨by simp, .inl ⟨_, _, rfl, run_takeDeferred hK, ?_⟩⟩
      refine ⟨.tuple #[.slice A' 1 ka, .int .i64 0], by simp [results, Try.results9, go_sem], A', 1, ka, rfl, later_put hL (by omega) _, ?_⟩
      unfold donesOf
      rw [if_pos h10]
      exact (RI_from hri hty (by simp) fun b hb => World.putObj_heap_other (by omega)).1
end Go.Proofs.Ytnlbgaippnjmiaa

/- The Monday's Hang for a plan of one round: walk. -/
namespace Go.Proofs.Ytnlbgaippnjmiaa
open Go Go.RowKit
attribute [local go_sem] Oper.semAt_some
attribute [local go_sem] later_alloc2 later_alloc3 later_alloc4
theorem mk_ints1 (W : World) : (Instr.makeSlice 23 (.int .i64 ((1 : Nat) : Int)) (.int .i64 ((1 : Nat) : Int))).run Try.prog W = .ok (.slice (some ⟨W.heap.size, 0, none⟩) 1 1) (W.alloc (.cells (ints (List.replicate 1 0)).toArray 3)) := by kernel_rfl
theorem mk_ints2 (W : World) : (Instr.makeSlice 23 (.int .i64 ((2 : Nat) : Int)) (.int .i64 ((2 : Nat) : Int))).run Try.prog W = .ok (.slice (some ⟨W.heap.size, 0, none⟩) 2 2) (W.alloc (.cells (ints (List.replicate 2 0)).toArray 3)) := by kernel_rfl
theorem mk_ints3 (W : World) : (Instr.makeSlice 23 (.int .i64 ((3 : Nat) : Int)) (.int .i64 ((3 : Nat) : Int))).run Try.prog W = .ok (.slice (some ⟨W.heap.size, 0, none⟩) 3 3) (W.alloc (.cells (ints (List.replicate 3 0)).toArray 3)) := by kernel_rfl
theorem mk_ints4 (W : World) : (Instr.makeSlice 23 (.int .i64 ((4 : Nat) : Int)) (.int .i64 ((4 : Nat) : Int))).run Try.prog W = .ok (.slice (some ⟨W.heap.size, 0, none⟩) 4 4) (W.alloc (.cells (ints (List.replicate 4 0)).toArray 3)) := by kernel_rfl
theorem mk_ints (n : Nat) (h1 : 1 ≤ n) (hn : n ≤ 4) (W : World) : (Instr.makeSlice 23 (.int .i64 (n : Int)) (.int .i64 (n : Int))).run Try.prog W = .ok (.slice (some ⟨W.heap.size, 0, none⟩) n n) (W.alloc (.cells (ints (List.replicate n 0)).toArray 3)) := by
  have : n = 1 ∨ n = 2 ∨ n = 3 ∨ n = 4 := by omega
  rcases this with rfl | rfl | rfl | rfl
  · exact mk_ints1 W
  · exact mk_ints2 W
  · exact mk_ints3 W
  · exact mk_ints4 W
theorem mk_rng1 (W : World) : (Instr.makeSlice 54 (.int .i64 ((1 : Nat) : Int)) (.int .i64 ((1 : Nat) : Int))).run Try.prog W = .ok (.slice (some ⟨W.heap.size, 0, none⟩) 1 1) (W.alloc (.cells (rngV (List.replicate 1 (0, 0))).toArray 60)) := by kernel_rfl
theorem mk_rng2 (W : World) : (Instr.makeSlice 54 (.int .i64 ((2 : Nat) : Int)) (.int .i64 ((2 : Nat) : Int))).run Try.prog W = .ok (.slice (some ⟨W.heap.size, 0, none⟩) 2 2) (W.alloc (.cells (rngV (List.replicate 2 (0, 0))).toArray 60)) := by kernel_rfl
theorem mk_rng3 (W : World) : (Instr.makeSlice 54 (.int .i64 ((3 : Nat) : Int)) (.int .i64 ((3 : Nat) : Int))).run Try.prog W = .ok (.slice (some ⟨W.heap.size, 0, none⟩) 3 3) (W.alloc (.cells (rngV (List.replicate 3 (0, 0))).toArray 60)) := by kernel_rfl
theorem mk_rng4 (W : World) : (Instr.makeSlice 54 (.int .i64 ((4 : Nat) : Int)) (.int .i64 ((4 : Nat) : Int))).run Try.prog W = .ok (.slice (some ⟨W.heap.size, 0, none⟩) 4 4) (W.alloc (.cells (rngV (List.replicate 4 (0, 0))).toArray 60)) := by kernel_rfl
theorem mk_rng (n : Nat) (h1 : 1 ≤ n) (hn : n ≤ 4) (W : World) : (Instr.makeSlice 54 (.int .i64 (n : Int)) (.int .i64 (n : Int))).run Try.prog W = .ok (.slice (some ⟨W.heap.size, 0, none⟩) n n) (W.alloc (.cells (rngV (List.replicate n (0, 0))).toArray 60)) := by
  have : n = 1 ∨ n = 2 ∨ n = 3 ∨ n = 4 := by omega
  rcases this with rfl | rfl | rfl | rfl
  · exact mk_rng1 W
  · exact mk_rng2 W
  · exact mk_rng3 W
  · exact mk_rng4 W
/-- Hang's four cells, ahead of the call: the Monday, the plan, the places, the minutes -/
structure HangSt (w W : World) (m : Array Value) (q v u : Value) : Prop where
  later : Later w W
  bm : Blk W w.heap.size 51 m
  bp : Blk W (w.heap.size + 1) 53 #[q]
  b1 : Blk W (w.heap.size + 2) 23 #[v]
  b2 : Blk W (w.heap.size + 3) 54 #[u]
section
variable {w W X : World} {m : Array Value} {q v u : Value}
theorem HangSt.lat (h : HangSt w W m q v u) (k : Later W X) : HangSt w X m q v u := ⟨Later.trans h.later k, h.bm.later k, h.bp.later k, h.b1.later k, h.b2.later k⟩
theorem HangSt.alloc (h : HangSt w W m q v u) (o : Obj) : HangSt w (W.alloc o) m q v u := h.lat (later_alloc (later_refl _) o)
theorem HangSt.drew (h : HangSt w W m q v u) : HangSt w W.drew m q v u := h.lat (later_drew (later_refl _))
theorem HangSt.set1 (h : HangSt w W m q v u) (x : Value) : HangSt w (W.setCell ⟨w.heap.size + 2, 0, none⟩ x) m q x u :=
  ⟨later_set h.later _ (by show _ ≤ w.heap.size + 2; omega) _, h.bm.far (by show w.heap.size ≠ w.heap.size + 2; omega) _, h.bp.far (by show w.heap.size + 1 ≠ w.heap.size + 2; omega) _, h.b1.set_ 0 x, h.b2.far (by show w.heap.size + 3 ≠ w.heap.size + 2; omega) _⟩
theorem HangSt.set2 (h : HangSt w W m q v u) (x : Value) : HangSt w (W.setCell ⟨w.heap.size + 3, 0, none⟩ x) m q v x :=
  ⟨later_set h.later _ (by show _ ≤ w.heap.size + 3; omega) _, h.bm.far (by show w.heap.size ≠ w.heap.size + 3; omega) _, h.bp.far (by show w.heap.size + 1 ≠ w.heap.size + 3; omega) _, h.b1.far (by show w.heap.size + 2 ≠ w.heap.size + 3; omega) _, h.b2.set_ 0 x⟩
theorem HangSt.far (h : HangSt w W m q v u) {p : Addr} (hp : w.heap.size + 4 ≤ p.block) (x : Value) : HangSt w (W.setCell p x) m q v u :=
  ⟨later_set h.later _ (by omega) _, h.bm.far (by omega) _, h.bp.far (by omega) _, h.b1.far (by omega) _, h.b2.far (by omega) _⟩
theorem HangSt.putObj (h : HangSt w W m q v u) {g : Nat} (hg : w.heap.size + 4 ≤ g) (o : Obj) : HangSt w (W.putObj g o) m q v u :=
  ⟨later_put h.later (by omega) _, Blk.of_eq (World.putObj_heap_other (by omega)) h.bm, Blk.of_eq (World.putObj_heap_other (by omega)) h.bp, Blk.of_eq (World.putObj_heap_other (by omega)) h.b1, Blk.of_eq (World.putObj_heap_other (by omega)) h.b2⟩
end
/-- behind the two rows' making -/
structure MadeR (w w1 W : World) (k close : Int) (Aw : Option Addr) (nw kw : Nat) (Aq : Option Addr) (kq gp gm : Nat) : Prop where
  st : HangSt w W #[.int .i64 k, .int .i64 close, .slice Aw nw kw] (.slice Aq 1 kq) (.slice (some ⟨gp, 0, none⟩) nw nw) (.slice (some ⟨gm, 0, none⟩) nw nw)
  kp : Blk W gp 3 (ints (List.replicate nw 0)).toArray
  km : Blk W gm 60 (rngV (List.replicate nw (0, 0))).toArray
  lp : w1.heap.size ≤ gp
  lm : w1.heap.size ≤ gm
theorem rngV_get : ∀ (l : List (Int × Int)) (i : Nat) (x : Int × Int), l[i]? = some x → (rngV l)[i * 2]? = some (.int .i64 x.1) ∧ (rngV l)[i * 2 + 1]? = some (.int .i64 x.2)
  | y :: l, 0, x, h => by
    simp only [List.getElem?_cons_zero, Option.some.injEq] at h
    subst h
    exact ⟨rfl, rfl⟩
  | y :: l, i + 1, x, h => by
    have ih := rngV_get l i x (by simpa using h)
    have e : rngV (y :: l) = .int .i64 y.1 :: .int .i64 y.2 :: rngV l := rfl
    rw [e, show (i + 1) * 2 = i * 2 + 1 + 1 by omega]
    simpa using ih
theorem rngV_length (l : List (Int × Int)) : (rngV l).length = l.length * 2 := by
  induction l with
  | nil => rfl
  | cons x l ih => show (_ ++ rngV l).length = _; rw [List.length_append, ih]; simp; omega
/-- the two rows being filled: jp places, jm minutes; many: n -/
structure HangIn (w W : World) (m : Array Value) (q : Value) (nw gp gm B jp jm : Nat) (p : List Int) (ms : List (Int × Int)) (n : Int) : Prop where
  st : HangSt w W m q (.slice (some ⟨gp, 0, none⟩) nw nw) (.slice (some ⟨gm, 0, none⟩) nw nw)
  kc : Blk W B 3 #[.int .i64 n]
  kp : ∃ cs : Array Value, Blk W gp 3 cs ∧ cs.size = nw ∧ ∀ i u, i < jp → (ints p)[i]? = some u → cs[i]? = some u
  km : ∃ ds : Array Value, Blk W gm 60 ds ∧ ds.size = nw * 2 ∧ ∀ i u, i < jm * 2 → (rngV ms)[i]? = some u → ds[i]? = some u
structure HangG (w : World) (gp gm B : Nat) : Prop where
  lp : w.heap.size + 4 ≤ gp
  lm : w.heap.size + 4 ≤ gm
  lc : w.heap.size + 4 ≤ B
  pm : gp ≠ gm
  pc : gp ≠ B
  mc : gm ≠ B
section
variable {w W X : World} {m : Array Value} {q : Value} {nw gp gm B jp jm : Nat} {p : List Int} {ms : List (Int × Int)} {n : Int}
theorem HangIn.lat (h : HangIn w W m q nw gp gm B jp jm p ms n) (k : Later W X) : HangIn w X m q nw gp gm B jp jm p ms n :=
  ⟨h.st.lat k, h.kc.later k, let ⟨cs, a, b⟩ := h.kp; ⟨cs, a.later k, b⟩, let ⟨cs, a, b⟩ := h.km; ⟨cs, a.later k, b⟩⟩
theorem HangIn.putObj (h : HangIn w W m q nw gp gm B jp jm p ms n) {g : Nat} (hg : w.heap.size + 4 ≤ g) (h1 : gp ≠ g) (h2 : gm ≠ g) (h3 : B ≠ g) (o : Obj) : HangIn w (W.putObj g o) m q nw gp gm B jp jm p ms n :=
  ⟨h.st.putObj hg o, Blk.of_eq (World.putObj_heap_other h3) h.kc, let ⟨cs, a, b⟩ := h.kp; ⟨cs, Blk.of_eq (World.putObj_heap_other h1) a, b⟩, let ⟨cs, a, b⟩ := h.km; ⟨cs, Blk.of_eq (World.putObj_heap_other h2) a, b⟩⟩
theorem HangIn.setp (G : HangG w gp gm B) (h : HangIn w W m q nw gp gm B jp jm p ms n) {x : Value} (hx : (ints p)[jp]? = some x) (hj : jp < nw) : HangIn w (W.setCell ⟨gp, jp, none⟩ x) m q nw gp gm B (jp + 1) jm p ms n := by
  refine ⟨h.st.far G.lp _, h.kc.far (fun e => G.pc e.symm) _, ?_, let ⟨cs, a, b⟩ := h.km; ⟨cs, a.far (fun e => G.pm e.symm) _, b⟩⟩
  obtain ⟨cs, a, hz, b⟩ := h.kp
  refine ⟨_, a.set_ jp x, by simpa using hz, fun i u hi hu => ?_⟩
  by_cases e : i = jp
  · subst e
    rw [hx] at hu
    injection hu with hu
    subst hu
    rw [Array.getElem?_setIfInBounds_self_of_lt (by omega)]
  · rw [Array.getElem?_setIfInBounds_ne (fun h => e h.symm)]
    exact b i u (by omega) hu
theorem HangIn.setm (G : HangG w gp gm B) (h : HangIn w W m q nw gp gm B jp jm p ms n) {x : Int × Int} (hx : ms[jm]? = some x) (hj : jm < nw) : HangIn w ((W.setCell ⟨gm, jm * 2, none⟩ (.int .i64 x.1)).setCell ⟨gm, jm * 2 + 1, none⟩ (.int .i64 x.2)) m q nw gp gm B jp (jm + 1) p ms n := by
  refine ⟨(h.st.far G.lm _).far G.lm _, (h.kc.far (fun e => G.mc e.symm) _).far (fun e => G.mc e.symm) _, let ⟨cs, a, b⟩ := h.kp; ⟨cs, (a.far G.pm _).far G.pm _, b⟩, ?_⟩
  obtain ⟨cs, a, hz, b⟩ := h.km
  obtain ⟨e0, e1⟩ := rngV_get ms jm x hx
  refine ⟨_, (a.set_ (jm * 2) _).set_ (jm * 2 + 1) _, by simpa using hz, fun i u hi hu => ?_⟩
  by_cases e : i = jm * 2 + 1
  · subst e
    rw [e1] at hu
    injection hu with hu
    subst hu
    rw [Array.getElem?_setIfInBounds_self_of_lt (by simp; omega)]
  · rw [Array.getElem?_setIfInBounds_ne (fun h => e h.symm)]
    by_cases e' : i = jm * 2
    · subst e'
      rw [e0] at hu
      injection hu with hu
      subst hu
      rw [Array.getElem?_setIfInBounds_self_of_lt (by omega)]
    · rw [Array.getElem?_setIfInBounds_ne (fun h => e' h.symm)]
      exact b i u (by omega) hu
theorem HangIn.setc (G : HangG w gp gm B) (h : HangIn w W m q nw gp gm B jp jm p ms n) (x : Int) : HangIn w (W.setCell ⟨B, 0, none⟩ (.int .i64 x)) m q nw gp gm B jp jm p ms x :=
  ⟨h.st.far G.lc _, h.kc.set_ 0 _, let ⟨cs, a, b⟩ := h.kp; ⟨cs, a.far G.pc _, b⟩, let ⟨cs, a, b⟩ := h.km; ⟨cs, a.far G.mc _, b⟩⟩
theorem HangIn.done (h : HangIn w W m q nw gp gm B nw nw p ms n) (hp : p.length = nw) (hms : ms.length = nw) : RI W (some ⟨gp, 0, none⟩) nw p ∧ RR W (some ⟨gm, 0, none⟩) nw ms := by
  obtain ⟨cs, a, hz, b⟩ := h.kp
  obtain ⟨ds, a', hz', b'⟩ := h.km
  refine ⟨blk_reads a (by simp [ints, hp]) fun i u hu => b i u ?_ hu, blk_reads a' (by rw [rngV_length, hms]) fun i u hu => b' i u ?_ hu⟩
  · have := (List.getElem?_eq_some_iff.1 hu).1
    simp [ints, hp] at this
    exact this
  · have := (List.getElem?_eq_some_iff.1 hu).1
    rw [rngV_length, hms] at this
    exact this
end
theorem RR.get {w : World} {A : Option Addr} {n : Nat} {l : List (Int × Int)} (h : RR w A n l) {i : Nat} (hi : i < n) :
    ∃ b o x, A = some ⟨b, o, none⟩ ∧ b < w.heap.size ∧ l[i]? = some x ∧ w.cell? ⟨b, o + i * 2, none⟩ = some (.int .i64 x.1) ∧ w.cell? ⟨b, o + i * 2 + 1, none⟩ = some (.int .i64 x.2) := by
  have hl : n = l.length := by have := h.1; rw [rngV_length] at this; omega
  obtain ⟨b, o, e, hb, hc⟩ := Reads.lit h (by omega) (by omega)
  have hil : i < l.length := by omega
  obtain ⟨e0, e1⟩ := rngV_get l i l[i] (List.getElem?_eq_getElem hil)
  exact ⟨b, o, l[i], e, hb, List.getElem?_eq_getElem hil, hc _ _ e0, hc _ _ e1⟩
theorem Reads_from {B size n : Nat} {t : TypeId} {W X : World} {A : Option Addr} {xs : List Value} (hsz : 0 < size) (h : Reads W W.heap.size size A n xs) (ht : TypedX B t W A n) (hs : W.heap.size ≤ X.heap.size) (hk : ∀ b, B ≤ b → b < W.heap.size → X.heap[b]? = W.heap[b]?) :
    Reads X X.heap.size size A n xs ∧ TypedX B t X A n := by
  refine ⟨⟨h.1, fun hn => ?_⟩, fun hn b o e => ?_⟩
  · obtain ⟨b, o, rfl, hb, hc⟩ := Reads.lit h hsz hn
    obtain ⟨hl, cs, hbk⟩ := ht hn b o rfl
    refine ⟨_, rfl, Nat.lt_of_lt_of_le hb hs, fun j u hu => ?_⟩
    rw [add_lit]
    exact (World.cell?_of_block (a := ⟨b, o + j, none⟩) (hk b hl hb)).trans (hc j u hu)
  · obtain ⟨hl, cs, hbk⟩ := ht hn b o e
    exact ⟨hl, cs, Blk.of_eq (hk b hl hbk.lt) hbk⟩
def MHangPost (X : Clo) (nw : Nat) (w : World) (e : Ending) (w' : World) : Prop :=
  ((bestOut X).2.2 ≠ 0 ∧ e = .returned (.tuple #[.slice none 0 0, .slice none 0 0, .int .i64 9]) ∧ Later w w') ∨
  ((bestOut X).2.2 = 0 ∧ ∃ A B ka kb, e = .returned (.tuple #[.slice A nw ka, .slice B nw kb, .int .i64 0]) ∧ Later w w' ∧ RI w' A nw (bestOut X).1 ∧ RR w' B nw (minsL X (bestOut X).1 0 nw))
set_option maxRecDepth 100000 in
set_option maxHeartbeats 2000000 in
theorem MHang_calls {k close : Int} {Aw Aq : Option Addr} {nw kw kq : Nat} {hs : List Horse} (w : World) (hm : RM w Aw nw hs) (ok : OkM k close hs) (hp : RRI w Aq 1 [idL nw]) (h1 : 1 ≤ nw) (hk : 1 ≤ k ∧ k ≤ 4) (hn : (nw : Int) ≤ k) (hc : 0 ≤ close ∧ close ≤ 99) (hf : fault (rndC k close hs) = 0) :
    Calls Try.prog 11 #[(.agg #[.int .i64 k, .int .i64 close, .slice Aw nw kw]), .slice Aq 1 kq] w (MHangPost (rndC k close hs) nw w) := by
  obtain ⟨w0, hw0⟩ : ∃ X, X = (((w.alloc (.cells #[.int .i64 k, .int .i64 close, .slice Aw nw kw] 51)).alloc (.cells #[.slice Aq 1 kq] 53)).alloc (.cells #[.slice none 0 0] 23)).alloc (.cells #[.slice none 0 0] 54) := ⟨_, rfl⟩
  have st0 : HangSt w w0 #[.int .i64 k, .int .i64 close, .slice Aw nw kw] (.slice Aq 1 kq) (.slice none 0 0) (.slice none 0 0) := by
    rw [hw0]
    refine ⟨later_alloc4 (later_refl _) _ _ _ _, (((Blk.new _ _ _).alloc _).alloc _).alloc _, ((Blk.newAt (by simp) _ _).alloc _).alloc _, (Blk.newAt (by simp) _ _).alloc _, Blk.newAt (by simp) _ _⟩
  have hs0 : w0.heap.size = w.heap.size + 4 := by rw [hw0]; simp
  have hchk := (callsIn_wide (n := 5)).2 (checked_calls (kw := kw) (kp := kq) w0 (hm.later st0.later) ok (hp.later st0.later) h1)
  have hrf := fun W => (callsIn_wide (n := 5)).2 (rounds_fn (k := k) (close := close) (Aw := Aw) (Aq := Aq) (nw := nw) (kw := kw) (nq := 1) (kq := kq) W)
  have c0 := (st0.bm.cell 0).trans (show _ = some (Value.int .i64 k) from rfl)
  have c1 := (st0.bm.cell 1).trans (show _ = some (Value.int .i64 close) from rfl)
  have c2 := (st0.bm.cell 2).trans (show _ = some (Value.slice Aw nw kw) from rfl)
  have c3 := (st0.bp.cell 0).trans (show _ = some (Value.slice Aq 1 kq) from rfl)
  have Hw0 := hide hw0
  have Hm := hide hm
  have Hp := hide hp
  have Hf := hide hf
  have St0 := hide st0
  have Hs0 := hide hs0
  clear hw0 hm hp hf st0 hs0
  refine (callsIn_wide (n := 6)).1 ?_
  refine callsIn_of_wp_marks Try.func11 rfl trivial ?_ rfl
  simp only [Try.ntmps11, List.size_toArray, List.length_cons, List.length_nil, Nat.reduceAdd, Nat.reduceSub, Array.replicate_succ, Array.replicate_zero, List.push_toArray, List.append_toArray, List.nil_append, List.cons_append]
  gi_wp2_with fail
  rw [← Hw0.out]
  refine ⟨trivial, hchk.mono ?_⟩
  rintro e w1 ⟨rfl, hL1⟩
  clear hchk c0 c1 c2 c3 Hw0
  have St1 := hide (St0.out.lat hL1)
  have hs1 : w.heap.size + 4 ≤ w1.heap.size := by have := hL1.size; have := Hs0.out; omega
  gi_wp2_with fail
  refine wpIn_mono (Q := fun e a W => e = .normal ∧ ∃ gp gm, MadeR w w1 W k close Aw nw kw Aq kq gp gm ∧ a = ⟨#[(.agg #[.int .i64 k, .int .i64 close, .slice Aw nw kw]), .slice Aq 1 kq, .pointer (some ⟨w.heap.size, 0, none⟩), .pointer (some ⟨w.heap.size + 1, 0, none⟩), .pointer (some ⟨w.heap.size + 1 + 1, 0, none⟩), .pointer (some ⟨w.heap.size + 1 + 1 + 1, 0, none⟩), .int .i64 0, .int .i64 0, undef, undef, undef, undef, undef, (.agg #[.int .i64 k, .int .i64 close, .slice Aw nw kw]), .slice Aq 1 kq, .int .i64 0, .int .i64 0, .bool false, undef, .pointer (some ⟨w.heap.size, 2, none⟩), .slice Aw nw kw, .int .i64 (nw : Int), .slice (some ⟨gp, 0, none⟩) nw nw, .pointer (some ⟨w.heap.size, 2, none⟩), .slice Aw nw kw, .int .i64 (nw : Int), .slice (some ⟨gm, 0, none⟩) nw nw, undef, undef, undef, undef, undef, undef, undef, undef, undef, undef, undef, undef, undef, undef, undef, undef, undef, undef, undef, undef, undef, undef, undef, undef, undef, undef, undef, undef, undef, undef, undef, undef, undef, undef, undef, undef, undef, undef, undef, undef], []⟩) ?_ ?_
  · have hmi := mk_ints nw h1 (by omega)
    have hmr := mk_rng nw h1 (by omega)
    have hSl : ∀ X v u, HangSt w X #[.int .i64 k, .int .i64 close, .slice Aw nw kw] (.slice Aq 1 kq) v u → X.cell? ⟨w.heap.size, 2, none⟩ = some (.slice Aw nw kw) := fun X v u h => (h.bm.cell 2).trans rfl
    obtain ⟨Y0, hY0⟩ : ∃ X, X = w1.drew := ⟨_, rfl⟩
    have s0 : HangSt w Y0 #[.int .i64 k, .int .i64 close, .slice Aw nw kw] (.slice Aq 1 kq) (.slice none 0 0) (.slice none 0 0) := by rw [hY0]; exact St1.out.drew
    have hzY : w1.heap.size ≤ Y0.heap.size := by rw [hY0]; exact Nat.le_refl _
    have hS := hSl _ _ _ s0
    rw [hY0] at hS
    refine wpIn_wide.2 (wp_region_held_drew (S := fun X => X.cell? ⟨w.heap.size, 2, none⟩ = some (.slice Aw nw kw)) (by kernel_rfl) hS (fun hS => ?_))
    rw [← hY0] at hS ⊢
    clear hY0
    refine wpAnyH_take (i := 0) (v := ?_) rfl (by kernel_rfl) (by kernel_rfl) (by kernel_rfl) (by intro _ _ _ h; first | exact h | exact absurd h.1 (by simp)) (Or.inl ⟨by rfl, ?_⟩) hS ?_; rotate_left; (focus (intro X hSX; (try dsimp only at hSX); go_simp; (try with_reducible rfl))); (try simp only [Act.put, List.setIfInBounds_toArray, List.set_cons_zero, List.set_cons_succ])
    refine wpAnyH_take (i := 1) (v := ?_) rfl (by kernel_rfl) (by kernel_rfl) (by kernel_rfl) (by intro _ _ _ h; first | exact h | exact absurd h.1 (by simp)) (Or.inl ⟨by rfl, ?_⟩) hS ?_; rotate_left; (focus (intro X hSX; (try dsimp only at hSX); go_simp; (try with_reducible rfl))); (try simp only [Act.put, List.setIfInBounds_toArray, List.set_cons_zero, List.set_cons_succ])
    refine wpAnyH_take (i := 2) (v := ?_) rfl (by kernel_rfl) (by kernel_rfl) (by kernel_rfl) (by intro _ _ _ h; first | exact h | exact absurd h.1 (by simp)) (Or.inl ⟨by rfl, ?_⟩) hS ?_; rotate_left; (focus (intro X hSX; (try dsimp only at hSX); go_simp; (try with_reducible rfl))); (try simp only [Act.put, List.setIfInBounds_toArray, List.set_cons_zero, List.set_cons_succ])
    refine wpAnyH_take (i := 4) (v := ?_) rfl (by kernel_rfl) (by kernel_rfl) (by kernel_rfl) (by intro _ _ _ h; first | exact h | exact absurd h.1 (by simp)) (Or.inl ⟨by rfl, ?_⟩) hS ?_; rotate_left; (focus (intro X hSX; (try dsimp only at hSX); go_simp; (try with_reducible rfl))); (try simp only [Act.put, List.setIfInBounds_toArray, List.set_cons_zero, List.set_cons_succ])
    refine wpAnyH_take (i := 5) (v := ?_) rfl (by kernel_rfl) (by kernel_rfl) (by kernel_rfl) (by intro _ _ _ h; first | exact h | exact absurd h.1 (by simp)) (Or.inl ⟨by rfl, ?_⟩) hS ?_; rotate_left; (focus (intro X hSX; (try dsimp only at hSX); go_simp; (try with_reducible rfl))); (try simp only [Act.put, List.setIfInBounds_toArray, List.set_cons_zero, List.set_cons_succ])
    refine wpAnyH_take (i := 6) (v := ?_) rfl (by kernel_rfl) (by kernel_rfl) (by kernel_rfl) (by intro _ _ _ h; first | exact h | exact absurd h.1 (by simp)) (Or.inl ⟨by rfl, ?_⟩) hS ?_; rotate_left; (focus (intro X hSX; (try dsimp only at hSX); go_simp; (try with_reducible rfl))); (try simp only [Act.put, List.setIfInBounds_toArray, List.set_cons_zero, List.set_cons_succ])
    -- region 4: printed
    refine wpAnyH_ready (rs := [3, 7]) (by kernel_rfl) (by simp) ?_
    refine AllReadyH.cons rfl (fun K hK => ?_) (AllReadyH.cons rfl (fun K hK => ?_) AllReadyH.nil)
    · go_simp
      obtain ⟨Y1, hY⟩ : ∃ X, X = Y0.alloc (.cells (ints (List.replicate nw 0)).toArray 3) := ⟨_, rfl⟩
      have s1 : HangSt w Y1 #[.int .i64 k, .int .i64 close, .slice Aw nw kw] (.slice Aq 1 kq) (.slice none 0 0) (.slice none 0 0) := by rw [hY]; exact s0.alloc _
      have z1 : Y0.heap.size ≤ Y1.heap.size := by rw [hY]; simp <;> omega
      have kp1 : Blk Y1 Y0.heap.size 3 (ints (List.replicate nw 0)).toArray := by rw [hY]; exact Blk.new _ _ _
      rw [← hY]
      refine hK.out _ _ (hSl _ _ _ s1) (fun _ => ?_)
      clear hK K; (try simp only [Act.put, List.setIfInBounds_toArray, List.set_cons_zero, List.set_cons_succ])
      clear hY
      refine wpAnyH_ready (rs := [7, 8]) (by kernel_rfl) (by simp) ?_
      refine AllReadyH.cons rfl (fun K hK => ?_) (AllReadyH.cons rfl (fun K hK => ?_) AllReadyH.nil)
      · go_simp
        obtain ⟨Y2, hY⟩ : ∃ X, X = Y1.alloc (.cells (rngV (List.replicate nw (0, 0))).toArray 60) := ⟨_, rfl⟩
        have s2 : HangSt w Y2 #[.int .i64 k, .int .i64 close, .slice Aw nw kw] (.slice Aq 1 kq) (.slice none 0 0) (.slice none 0 0) := by rw [hY]; exact s1.alloc _
        have z2 : Y0.heap.size ≤ Y2.heap.size := by rw [hY]; simp <;> omega
        have kp2 : Blk Y2 Y0.heap.size 3 (ints (List.replicate nw 0)).toArray := by rw [hY]; exact kp1.alloc _
        have km2 : Blk Y2 Y1.heap.size 60 (rngV (List.replicate nw (0, 0))).toArray := by rw [hY]; exact Blk.new _ _ _
        rw [← hY]
        refine hK.out _ _ (hSl _ _ _ s2) (fun _ => ?_)
        clear hK K; (try simp only [Act.put, List.setIfInBounds_toArray, List.set_cons_zero, List.set_cons_succ])
        clear hY
        refine wpAnyH_ready (rs := [8]) (by kernel_rfl) (by simp) ?_; refine AllReadyH.cons rfl (fun K hK => ?_) AllReadyH.nil
        have e0 := (s2.b1.cell 0).trans (show _ = some (Value.slice none 0 0) from rfl)
        have f0 := s2.b1.frozen 0
        go_simp
        obtain ⟨Y3, hY⟩ : ∃ X, X = Y2.setCell ⟨w.heap.size + 1 + 1, 0, none⟩ (.slice (some ⟨Y0.heap.size, 0, none⟩) nw nw) := ⟨_, rfl⟩
        have s3 : HangSt w Y3 #[.int .i64 k, .int .i64 close, .slice Aw nw kw] (.slice Aq 1 kq) (.slice (some ⟨Y0.heap.size, 0, none⟩) nw nw) (.slice none 0 0) := by rw [hY]; exact s2.set1 _
        have z3 : Y0.heap.size ≤ Y3.heap.size := by rw [hY]; simp <;> omega
        have kp3 : Blk Y3 Y0.heap.size 3 (ints (List.replicate nw 0)).toArray := by rw [hY]; exact kp2.far (by show Y0.heap.size ≠ w.heap.size + 2; omega) _
        have km3 : Blk Y3 Y1.heap.size 60 (rngV (List.replicate nw (0, 0))).toArray := by rw [hY]; exact km2.far (by show Y1.heap.size ≠ w.heap.size + 2; omega) _
        rw [← hY]
        refine hK.out _ _ (hSl _ _ _ s3) (fun _ => ?_)
        clear hK K; (try simp only [Act.put, List.setIfInBounds_toArray, List.set_cons_zero, List.set_cons_succ])
        clear hY
        refine wpAnyH_ready (rs := [9]) (by kernel_rfl) (by simp) ?_; refine AllReadyH.cons rfl (fun K hK => ?_) AllReadyH.nil
        have e0 := (s3.b2.cell 0).trans (show _ = some (Value.slice none 0 0) from rfl)
        have f0 := s3.b2.frozen 0
        go_simp
        obtain ⟨Y4, hY⟩ : ∃ X, X = Y3.setCell ⟨w.heap.size + 1 + 1 + 1, 0, none⟩ (.slice (some ⟨Y1.heap.size, 0, none⟩) nw nw) := ⟨_, rfl⟩
        have s4 : HangSt w Y4 #[.int .i64 k, .int .i64 close, .slice Aw nw kw] (.slice Aq 1 kq) (.slice (some ⟨Y0.heap.size, 0, none⟩) nw nw) (.slice (some ⟨Y1.heap.size, 0, none⟩) nw nw) := by rw [hY]; exact s3.set2 _
        have z4 : Y0.heap.size ≤ Y4.heap.size := by rw [hY]; simp <;> omega
        have kp4 : Blk Y4 Y0.heap.size 3 (ints (List.replicate nw 0)).toArray := by rw [hY]; exact kp3.far (by show Y0.heap.size ≠ w.heap.size + 3; omega) _
        have km4 : Blk Y4 Y1.heap.size 60 (rngV (List.replicate nw (0, 0))).toArray := by rw [hY]; exact km3.far (by show Y1.heap.size ≠ w.heap.size + 3; omega) _
        rw [← hY]
        refine hK.out _ _ (hSl _ _ _ s4) (fun _ => ?_)
        clear hK K; (try simp only [Act.put, List.setIfInBounds_toArray, List.set_cons_zero, List.set_cons_succ])
        clear hY
        refine wpAnyH_done (by kernel_rfl) ?_ _
        exact ⟨rfl, _, _, ⟨s4, kp4, km4, Nat.le_trans hzY (by omega), Nat.le_trans hzY (by omega)⟩, rfl⟩
      · have e0 := (s1.b1.cell 0).trans (show _ = some (Value.slice none 0 0) from rfl)
        have f0 := s1.b1.frozen 0
        go_simp
        obtain ⟨Y2, hY⟩ : ∃ X, X = Y1.setCell ⟨w.heap.size + 1 + 1, 0, none⟩ (.slice (some ⟨Y0.heap.size, 0, none⟩) nw nw) := ⟨_, rfl⟩
        have s2 : HangSt w Y2 #[.int .i64 k, .int .i64 close, .slice Aw nw kw] (.slice Aq 1 kq) (.slice (some ⟨Y0.heap.size, 0, none⟩) nw nw) (.slice none 0 0) := by rw [hY]; exact s1.set1 _
        have z2 : Y0.heap.size ≤ Y2.heap.size := by rw [hY]; simp <;> omega
        have kp2 : Blk Y2 Y0.heap.size 3 (ints (List.replicate nw 0)).toArray := by rw [hY]; exact kp1.far (by show Y0.heap.size ≠ w.heap.size + 2; omega) _
        rw [← hY]
        refine hK.out _ _ (hSl _ _ _ s2) (fun _ => ?_)
        clear hK K; (try simp only [Act.put, List.setIfInBounds_toArray, List.set_cons_zero, List.set_cons_succ])
        clear hY
        refine wpAnyH_ready (rs := [7]) (by kernel_rfl) (by simp) ?_; refine AllReadyH.cons rfl (fun K hK => ?_) AllReadyH.nil
        go_simp
        obtain ⟨Y3, hY⟩ : ∃ X, X = Y2.alloc (.cells (rngV (List.replicate nw (0, 0))).toArray 60) := ⟨_, rfl⟩
        have s3 : HangSt w Y3 #[.int .i64 k, .int .i64 close, .slice Aw nw kw] (.slice Aq 1 kq) (.slice (some ⟨Y0.heap.size, 0, none⟩) nw nw) (.slice none 0 0) := by rw [hY]; exact s2.alloc _
        have z3 : Y0.heap.size ≤ Y3.heap.size := by rw [hY]; simp <;> omega
        have kp3 : Blk Y3 Y0.heap.size 3 (ints (List.replicate nw 0)).toArray := by rw [hY]; exact kp2.alloc _
        have km3 : Blk Y3 Y2.heap.size 60 (rngV (List.replicate nw (0, 0))).toArray := by rw [hY]; exact Blk.new _ _ _
        rw [← hY]
        refine hK.out _ _ (hSl _ _ _ s3) (fun _ => ?_)
        clear hK K; (try simp only [Act.put, List.setIfInBounds_toArray, List.set_cons_zero, List.set_cons_succ])
        clear hY
        refine wpAnyH_ready (rs := [9]) (by kernel_rfl) (by simp) ?_; refine AllReadyH.cons rfl (fun K hK => ?_) AllReadyH.nil
        have e0 := (s3.b2.cell 0).trans (show _ = some (Value.slice none 0 0) from rfl)
        have f0 := s3.b2.frozen 0
        go_simp
        obtain ⟨Y4, hY⟩ : ∃ X, X = Y3.setCell ⟨w.heap.size + 1 + 1 + 1, 0, none⟩ (.slice (some ⟨Y2.heap.size, 0, none⟩) nw nw) := ⟨_, rfl⟩
        have s4 : HangSt w Y4 #[.int .i64 k, .int .i64 close, .slice Aw nw kw] (.slice Aq 1 kq) (.slice (some ⟨Y0.heap.size, 0, none⟩) nw nw) (.slice (some ⟨Y2.heap.size, 0, none⟩) nw nw) := by rw [hY]; exact s3.set2 _
        have z4 : Y0.heap.size ≤ Y4.heap.size := by rw [hY]; simp <;> omega
        have kp4 : Blk Y4 Y0.heap.size 3 (ints (List.replicate nw 0)).toArray := by rw [hY]; exact kp3.far (by show Y0.heap.size ≠ w.heap.size + 3; omega) _
        have km4 : Blk Y4 Y2.heap.size 60 (rngV (List.replicate nw (0, 0))).toArray := by rw [hY]; exact km3.far (by show Y2.heap.size ≠ w.heap.size + 3; omega) _
        rw [← hY]
        refine hK.out _ _ (hSl _ _ _ s4) (fun _ => ?_)
        clear hK K; (try simp only [Act.put, List.setIfInBounds_toArray, List.set_cons_zero, List.set_cons_succ])
        clear hY
        refine wpAnyH_done (by kernel_rfl) ?_ _
        exact ⟨rfl, _, _, ⟨s4, kp4, km4, Nat.le_trans hzY (by omega), Nat.le_trans hzY (by omega)⟩, rfl⟩
    · go_simp
      obtain ⟨Y1, hY⟩ : ∃ X, X = Y0.alloc (.cells (rngV (List.replicate nw (0, 0))).toArray 60) := ⟨_, rfl⟩
      have s1 : HangSt w Y1 #[.int .i64 k, .int .i64 close, .slice Aw nw kw] (.slice Aq 1 kq) (.slice none 0 0) (.slice none 0 0) := by rw [hY]; exact s0.alloc _
      have z1 : Y0.heap.size ≤ Y1.heap.size := by rw [hY]; simp <;> omega
      have km1 : Blk Y1 Y0.heap.size 60 (rngV (List.replicate nw (0, 0))).toArray := by rw [hY]; exact Blk.new _ _ _
      rw [← hY]
      refine hK.out _ _ (hSl _ _ _ s1) (fun _ => ?_)
      clear hK K; (try simp only [Act.put, List.setIfInBounds_toArray, List.set_cons_zero, List.set_cons_succ])
      clear hY
      refine wpAnyH_ready (rs := [3]) (by kernel_rfl) (by simp) ?_; refine AllReadyH.cons rfl (fun K hK => ?_) AllReadyH.nil
      go_simp
      obtain ⟨Y2, hY⟩ : ∃ X, X = Y1.alloc (.cells (ints (List.replicate nw 0)).toArray 3) := ⟨_, rfl⟩
      have s2 : HangSt w Y2 #[.int .i64 k, .int .i64 close, .slice Aw nw kw] (.slice Aq 1 kq) (.slice none 0 0) (.slice none 0 0) := by rw [hY]; exact s1.alloc _
      have z2 : Y0.heap.size ≤ Y2.heap.size := by rw [hY]; simp <;> omega
      have km2 : Blk Y2 Y0.heap.size 60 (rngV (List.replicate nw (0, 0))).toArray := by rw [hY]; exact km1.alloc _
      have kp2 : Blk Y2 Y1.heap.size 3 (ints (List.replicate nw 0)).toArray := by rw [hY]; exact Blk.new _ _ _
      rw [← hY]
      refine hK.out _ _ (hSl _ _ _ s2) (fun _ => ?_)
      clear hK K; (try simp only [Act.put, List.setIfInBounds_toArray, List.set_cons_zero, List.set_cons_succ])
      clear hY
      refine wpAnyH_ready (rs := [8]) (by kernel_rfl) (by simp) ?_; refine AllReadyH.cons rfl (fun K hK => ?_) AllReadyH.nil
      have e0 := (s2.b1.cell 0).trans (show _ = some (Value.slice none 0 0) from rfl)
      have f0 := s2.b1.frozen 0
      go_simp
      obtain ⟨Y3, hY⟩ : ∃ X, X = Y2.setCell ⟨w.heap.size + 1 + 1, 0, none⟩ (.slice (some ⟨Y1.heap.size, 0, none⟩) nw nw) := ⟨_, rfl⟩
      have s3 : HangSt w Y3 #[.int .i64 k, .int .i64 close, .slice Aw nw kw] (.slice Aq 1 kq) (.slice (some ⟨Y1.heap.size, 0, none⟩) nw nw) (.slice none 0 0) := by rw [hY]; exact s2.set1 _
      have z3 : Y0.heap.size ≤ Y3.heap.size := by rw [hY]; simp <;> omega
      have kp3 : Blk Y3 Y1.heap.size 3 (ints (List.replicate nw 0)).toArray := by rw [hY]; exact kp2.far (by show Y1.heap.size ≠ w.heap.size + 2; omega) _
      have km3 : Blk Y3 Y0.heap.size 60 (rngV (List.replicate nw (0, 0))).toArray := by rw [hY]; exact km2.far (by show Y0.heap.size ≠ w.heap.size + 2; omega) _
      rw [← hY]
      refine hK.out _ _ (hSl _ _ _ s3) (fun _ => ?_)
      clear hK K; (try simp only [Act.put, List.setIfInBounds_toArray, List.set_cons_zero, List.set_cons_succ])
      clear hY
      refine wpAnyH_ready (rs := [9]) (by kernel_rfl) (by simp) ?_; refine AllReadyH.cons rfl (fun K hK => ?_) AllReadyH.nil
      have e0 := (s3.b2.cell 0).trans (show _ = some (Value.slice none 0 0) from rfl)
      have f0 := s3.b2.frozen 0
      go_simp
      obtain ⟨Y4, hY⟩ : ∃ X, X = Y3.setCell ⟨w.heap.size + 1 + 1 + 1, 0, none⟩ (.slice (some ⟨Y0.heap.size, 0, none⟩) nw nw) := ⟨_, rfl⟩
      have s4 : HangSt w Y4 #[.int .i64 k, .int .i64 close, .slice Aw nw kw] (.slice Aq 1 kq) (.slice (some ⟨Y1.heap.size, 0, none⟩) nw nw) (.slice (some ⟨Y0.heap.size, 0, none⟩) nw nw) := by rw [hY]; exact s3.set2 _
      have z4 : Y0.heap.size ≤ Y4.heap.size := by rw [hY]; simp <;> omega
      have kp4 : Blk Y4 Y1.heap.size 3 (ints (List.replicate nw 0)).toArray := by rw [hY]; exact kp3.far (by show Y1.heap.size ≠ w.heap.size + 3; omega) _
      have km4 : Blk Y4 Y0.heap.size 60 (rngV (List.replicate nw (0, 0))).toArray := by rw [hY]; exact km3.far (by show Y0.heap.size ≠ w.heap.size + 3; omega) _
      rw [← hY]
      refine hK.out _ _ (hSl _ _ _ s4) (fun _ => ?_)
      clear hK K; (try simp only [Act.put, List.setIfInBounds_toArray, List.set_cons_zero, List.set_cons_succ])
      clear hY
      refine wpAnyH_done (by kernel_rfl) ?_ _
      exact ⟨rfl, _, _, ⟨s4, kp4, km4, Nat.le_trans hzY (by omega), Nat.le_trans hzY (by omega)⟩, rfl⟩
    -- region 4: end
  · rintro e a W ⟨rfl, gp, gm, hmade, rfl⟩
    have stW := hmade.st.alloc (.cells #[.int .i64 0] 3)
    have c0 := (stW.bm.cell 0).trans (show _ = some (Value.int .i64 k) from rfl)
    have c1 := (stW.bm.cell 1).trans (show _ = some (Value.int .i64 close) from rfl)
    have c2 := (stW.bm.cell 2).trans (show _ = some (Value.slice Aw nw kw) from rfl)
    have c3 := (stW.bp.cell 0).trans (show _ = some (Value.slice Aq 1 kq) from rfl)
    have lp : w.heap.size + 4 ≤ gp := Nat.le_trans hs1 hmade.lp
    have lm : w.heap.size + 4 ≤ gm := Nat.le_trans hs1 hmade.lm
    have hpW := hmade.kp.lt
    have hmW := hmade.km.lt
    have Hmade := hide hmade
    clear stW hmade
    gi_wp2_with fail
    refine ⟨trivial, (hrf _).mono ?_⟩
    rintro e w2 ⟨rfl, rfl⟩
    clear c0 c1 c2 c3
    gi_wp2_with fail
    obtain ⟨B, hB⟩ : ∃ b, b = W.heap.size := ⟨_, rfl⟩
    simp only [← hB, World.size_alloc]
    generalize hwE : (((W.alloc _).alloc _).alloc _) = wE
    have hE : wE.heap.size = B + 3 := by rw [← hwE]; simp [← hB]
    have G : HangG w gp gm B := ⟨lp, lm, by omega, fun e => by have := Hmade.out.kp; have h2 := Hmade.out.km; rw [e] at this; exact absurd rfl (blk_ne_t this h2 (by decide)), by omega, by omega⟩
    have hin0 : HangIn w wE #[.int .i64 k, .int .i64 close, .slice Aw nw kw] (.slice Aq 1 kq) nw gp gm B 0 0 (bestOut (rndC k close hs)).1 (minsL (rndC k close hs) (bestOut (rndC k close hs)).1 0 nw) 0 := by
      have h0 : HangIn w (W.alloc (.cells #[.int .i64 0] 3)) #[.int .i64 k, .int .i64 close, .slice Aw nw kw] (.slice Aq 1 kq) nw gp gm B 0 0 (bestOut (rndC k close hs)).1 (minsL (rndC k close hs) (bestOut (rndC k close hs)).1 0 nw) 0 :=
        ⟨Hmade.out.st.alloc _, by rw [hB]; exact Blk.new _ _ _, ⟨_, Hmade.out.kp.alloc _, by simp [ints], fun i u h => absurd h (by omega)⟩, ⟨_, Hmade.out.km.alloc _, by simp [rngV_length], fun i u h => absurd h (by omega)⟩⟩
      rw [← hwE]
      exact (h0.lat (later_alloc2 (later_refl _) _ _))
    have kme : Blk wE (B + 1) 51 #[.int .i64 k, .int .i64 close, .slice Aw nw kw] := by rw [← hwE]; exact (Blk.newAt (by simp [← hB]) _ _).alloc _
    have kpl : Blk wE (B + 1 + 1) 53 #[.slice Aq 1 kq] := by rw [← hwE]; exact Blk.newAt (by simp [← hB]) _ _
    have hLwE := hin0.st.later
    have hmE := Hm.out.later hLwE
    have hpE := RRI.later Hp.out hLwE
    have lpB : gp < B := by omega
    have lmB : gm < B := by omega
    have hwB : w.heap.size + 4 ≤ B := G.lc
    clear hwE hB hrf
    refine wpIn_one (gf := 40) (lb := #[.pointer (some ⟨B + 1 + 1, 0, none⟩), .pointer (some ⟨B + 1, 0, none⟩)]) (Enc := EncR (rndC k close hs) nw (B + 5)) (Nn := (bestOut (rndC k close hs)).2.2 ≠ 0) rfl (by omega) rfl trivial (enters_of Try.func40 (by kernel_rfl) rfl) ?_ ?_
      (fun W => (bestOut (rndC k close hs)).2.2 = 0 ∧ HangIn w W #[.int .i64 k, .int .i64 close, .slice Aw nw kw] (.slice Aq 1 kq) nw gp gm B nw nw (bestOut (rndC k close hs)).1 (minsL (rndC k close hs) (bestOut (rndC k close hs)).1 0 nw) 1) (fun _ _ => False) ?_ (fun _ _ _ h _ => h)
      (fun a' W => (bestOut (rndC k close hs)).2.2 = 0 ∧ ∃ (g : Nat) (Ap : Option Addr) (np kp : Nat) (Am : Option Addr) (km : Nat), a' = { tmps := #[(.agg #[.int .i64 k, .int .i64 close, .slice Aw nw kw]), .slice Aq 1 kq, .pointer (some ⟨w.heap.size, 0, none⟩), .pointer (some ⟨w.heap.size + 1, 0, none⟩), .pointer (some ⟨w.heap.size + 1 + 1, 0, none⟩), .pointer (some ⟨w.heap.size + 1 + 1 + 1, 0, none⟩), .int .i64 0, .int .i64 0, .pointer (some ⟨B, 0, none⟩), .int .i64 0, .pointer (some ⟨g, 0, none⟩), undef, undef, (.agg #[.int .i64 k, .int .i64 close, .slice Aw nw kw]), .slice Aq 1 kq, .int .i64 0, .int .i64 0, .bool false, undef, .pointer (some ⟨w.heap.size, 2, none⟩), .slice Aw nw kw, .int .i64 (nw : Int), .slice (some ⟨gp, 0, none⟩) nw nw, .pointer (some ⟨w.heap.size, 2, none⟩), .slice Aw nw kw, .int .i64 (nw : Int), .slice (some ⟨gm, 0, none⟩) nw nw, (.agg #[.int .i64 k, .int .i64 close, .slice Aw nw kw]), .slice Aq 1 kq, .func (.func 40) #[] #[.pointer (some ⟨B + 1 + 1, 0, none⟩), .pointer (some ⟨B + 1, 0, none⟩)], .int .i64 0, .agg #[.int .i64 0, .int .i64 (bestOut (rndC k close hs)).2.1, .slice Ap np kp, .slice Am nw km], undef, undef, undef, undef, undef, undef, undef, undef, undef, undef, undef, undef, undef, undef, undef, undef, undef, undef, undef, undef, undef, undef, undef, undef, undef, undef, undef, undef, undef, undef, undef, undef, undef, undef, undef], defers := [] } ∧ B + 5 ≤ g ∧ Blk W g 85 #[.int .i64 0, .int .i64 (bestOut (rndC k close hs)).2.1, .slice Ap np kp, .slice Am nw km] ∧
        RI W Ap np (bestOut (rndC k close hs)).1 ∧ RR W Am nw (minsL (rndC k close hs) (bestOut (rndC k close hs)).1 0 nw) ∧ TypedI (B + 5) W Ap np ∧ TypedX (B + 5) 60 W Am nw ∧ HangIn w W #[.int .i64 k, .int .i64 close, .slice Aw nw kw] (.slice Aq 1 kq) nw gp gm B 0 0 (bestOut (rndC k close hs)).1 (minsL (rndC k close hs) (bestOut (rndC k close hs)).1 0 nw) 0) ?assign ?keep ?body ?done (fun _ _ h => h.elim)
    · intro W hW hs2
      have := rounds_iter (bm := B + 1) (bp := B + 1 + 1) (hmE.later hW) (RRI.later hpE hW) (kme.later hW) (kpl.later hW) hk hn hc Hf.out
      rw [hs2, hE] at this
      exact this
    · rintro args A ⟨_, Ap, np, kp, Am, km, rfl, _⟩; rfl
    · rintro A o ⟨h10, hin⟩ hlt
      exact ⟨h10, hin.putObj (by omega) (by omega) (by omega) (by omega) o⟩
    case assign =>
      rintro l args A K hA hsz hlp ⟨h10, Ap, np, kp, Am, km', rfl, hri, hrr, hty, htx⟩ hK
      gi_wp2_with fail
      have hL := later_alloc (later_refl A) (.cells #[.int .i64 0, .int .i64 (bestOut (rndC k close hs)).2.1, .slice Ap np kp, .slice Am nw km'] 85)
      exact hK _ _ (KeepsOthers.alloc _ _) (fun b _ hlt => Below.heap_alloc _ _ _ hlt) (by simp) ⟨h10, _, Ap, np, kp, Am, km', rfl, by omega, Blk.new _ _ _, hri.later hL, Reads.later hrr hL, hty.later hL, htx.later hL, hin0.lat (Later.trans hA hL)⟩
    case keep =>
      rintro a' A o ⟨h10, g, Ap, np, kp, Am, km', rfl, hg, hb, hri, hrr, hty, htx, hin⟩ _
      have hk5 : ∀ b, B + 5 ≤ b → b < A.heap.size → (A.putObj (wE.heap.size + 1) o).heap[b]? = A.heap[b]? := fun b hb _ => World.putObj_heap_other (by omega)
      have r1 := Reads_from Nat.one_pos hri hty (X := A.putObj (wE.heap.size + 1) o) (by simp) hk5
      have r2 := Reads_from (by omega) hrr htx (X := A.putObj (wE.heap.size + 1) o) (by simp) hk5
      exact ⟨h10, g, Ap, np, kp, Am, km', rfl, hg, Blk.of_eq (World.putObj_heap_other (by omega)) hb, r1.1, r2.1, r1.2, r2.2, hin.putObj (by omega) (by omega) (by omega) (by omega) o⟩
    case body =>
      rintro l a' W ⟨h10, g, Ap, np, kp, Am, km', rfl, hg, hb, hri, hrr, hty, htx, hin⟩ hlt
      obtain ⟨bq, oq, l0, Al, nl, kl, rfl, hl0, hrl, hpc⟩ := Hp.out.get (k := 0) Nat.one_pos
      have hl0' : l0 = idL nw := by simpa using hl0.symm
      subst hl0'
      have hnl : nw = nl := by have := hrl.len; rw [idL_len] at this; exact this.symm
      subst hnl
      have c1 := (hin.st.bp.cell 0).trans (show _ = some (Value.slice (some ⟨bq, oq, none⟩) 1 kq) from rfl)
      have c2 := hpc W hin.st.later
      rw [Nat.add_zero] at c2
      have hbl : (bestOut (rndC k close hs)).1.length = nw := by
        rcases best_full Hf.out rfl with hbo | ⟨p, n, hbo, hpl, _⟩
        · rw [hbo] at h10; exact absurd h10 (by decide)
        · rw [hbo]; exact hpl.len.trans Hm.out.len.symm
      have hnp : np = nw := by have := hri.len; omega
      have Hbl := hide hbl
      have Hnp := hide hnp
      have Hb := hide hb
      have Hri := hide hri
      have Hrr := hide hrr
      have Hty := hide hty
      have Htx := hide htx
      have Hin := hide hin
      have H10 := hide h10
      have Hrl := hide hrl
      clear hbl hnp hb hri hrr hty htx hin h10 hrl hpc hl0
      gi_wp2_with fail
      gi_loopw [37] (fun v wr => ∃ j : Nat, j ≤ nw ∧ v = .int .i64 j ∧ Hid (KeepsOthers W wr) ∧ Hid (KeepF (wE.heap.size + 2) W wr) ∧ Hid (HangIn w wr #[.int .i64 k, .int .i64 close, .slice Aw nw kw] (.slice (some ⟨bq, oq, none⟩) 1 kq) nw gp gm B j j (bestOut (rndC k close hs)).1 (minsL (rndC k close hs) (bestOut (rndC k close hs)).1 0 nw) 0)) (fun v _ => nw - (intOf v).toNat)
      case atStart => exact ⟨0, Nat.zero_le _, rfl, KeepsOthers.refl _, fun _ _ _ => rfl, Hin⟩
      case round =>
        obtain ⟨j, hj, rfl, HKo, HKf, HI⟩ := hrel
        by_cases hlt2 : j < nw
        · have hi1 : (j : Int) < nw := by omega
          obtain ⟨bl, ol, z, rfl, _, hz, hz0⟩ := Hrl.out.get hlt2
          have hzj : z = (j : Int) := by
            unfold idL at hz
            rw [List.getElem?_map, List.getElem?_range hlt2] at hz
            injection hz with hz
            exact hz.symm
          subst hzj
          have z0 := hz0 wr HI.out.st.later
          have hKF : ∀ b, B + 5 ≤ b → b < W.heap.size → wr.heap[b]? = W.heap[b]? := fun b h1 h2 => HKf.out b (by omega) h2
          have r1 := Reads_from Nat.one_pos Hri.out Hty.out HKo.out.size hKF
          have r2 := Reads_from (by omega) Hrr.out Htx.out HKo.out.size hKF
          have hb1 := Blk.of_eq (hKF g hg Hb.out.lt) Hb.out
          obtain ⟨ba, oa, x, rfl, hba, hx, hxc⟩ := RI.get r1.1 (show j < np by rw [Hnp.out]; exact hlt2)
          obtain ⟨bm, om, y, rfl, hbm, hy, hy0, hy1⟩ := RR.get r2.1 hlt2
          have hbaB := (r1.2 (by rw [Hnp.out]; omega) ba oa rfl).1
          have hbmB := (r2.2 (by omega) bm om rfl).1
          have hgl := hb1.lt
          have hsz2 := HI.out.st.b2.lt
          have hSl : ∀ X : World, (∀ b, b < wr.heap.size → b ≠ gp → b ≠ gm → X.heap[b]? = wr.heap[b]?) → (X.cell? ⟨w.heap.size + 1 + 1, 0, none⟩ = some (.slice (some ⟨gp, 0, none⟩) nw nw) ∧ X.cell? ⟨w.heap.size + 1 + 1 + 1, 0, none⟩ = some (.slice (some ⟨gm, 0, none⟩) nw nw) ∧ X.cell? ⟨g, 2, none⟩ = some (.slice (some ⟨ba, oa, none⟩) np kp) ∧ X.cell? ⟨g, 3, none⟩ = some (.slice (some ⟨bm, om, none⟩) nw km') ∧ X.cell? ⟨ba, oa + j, none⟩ = some (.int .i64 x) ∧ X.cell? ⟨bm, om + j * 2, none⟩ = some (.int .i64 y.1) ∧ X.cell? ⟨bm, om + j * 2 + 1, none⟩ = some (.int .i64 y.2)) := fun X hX => by
            have e1 := hX (w.heap.size + 2) (by omega) (by omega) (by omega)
            have e2 := hX (w.heap.size + 3) (by omega) (by omega) (by omega)
            have e3 := hX g hgl (by omega) (by omega)
            have e4 := hX ba hba (by omega) (by omega)
            have e5 := hX bm hbm (by omega) (by omega)
            exact ⟨((Blk.of_eq e1 HI.out.st.b1).cell 0).trans rfl, ((Blk.of_eq e2 HI.out.st.b2).cell 0).trans rfl, ((Blk.of_eq e3 hb1).cell 2).trans rfl, ((Blk.of_eq e3 hb1).cell 3).trans rfl,
              (World.cell?_of_block (a := ⟨ba, oa + j, none⟩) e4).trans (hxc wr (later_refl _)), (World.cell?_of_block (a := ⟨bm, om + j * 2, none⟩) e5).trans hy0, (World.cell?_of_block (a := ⟨bm, om + j * 2 + 1, none⟩) e5).trans hy1⟩
          have HSl := hide hSl
          have Hx := hide hx
          have Hy := hide hy
          clear hSl hx hy hxc hy0 hy1 r1 r2 hb1 hKF hz hz0 c1 c2
          gi_wp2_with fail
          obtain ⟨Y0, hY0⟩ : ∃ X, X = wr.drew := ⟨_, rfl⟩
          have hin0' := HI.out.lat (later_drew (later_refl wr))
          rw [← hY0] at hin0'
          have hYs : ∀ b : Nat, Y0.heap[b]? = wr.heap[b]? := fun b => by rw [hY0]; rfl
          have hYz : Y0.heap.size = wr.heap.size := by rw [hY0]; rfl
          have hS0 := HSl.out Y0 (fun b _ _ _ => hYs b)
          have HI0 := hide hin0'
          clear hin0'
          refine region_round (by kernel_rfl) (by kernel_rfl) (fun ⟨_, _, h⟩ => h) ?_
          rw [← hY0]
          have HYo : Hid (KeepsOthers wr Y0) := by rw [hY0]; exact KeepsOthers.drew wr
          clear hY0
          refine wpAny_of_held (S := fun X => X.cell? ⟨w.heap.size + 1 + 1, 0, none⟩ = some (.slice (some ⟨gp, 0, none⟩) nw nw) ∧ X.cell? ⟨w.heap.size + 1 + 1 + 1, 0, none⟩ = some (.slice (some ⟨gm, 0, none⟩) nw nw) ∧ X.cell? ⟨g, 2, none⟩ = some (.slice (some ⟨ba, oa, none⟩) np kp) ∧ X.cell? ⟨g, 3, none⟩ = some (.slice (some ⟨bm, om, none⟩) nw km') ∧ X.cell? ⟨ba, oa + j, none⟩ = some (.int .i64 x) ∧ X.cell? ⟨bm, om + j * 2, none⟩ = some (.int .i64 y.1) ∧ X.cell? ⟨bm, om + j * 2 + 1, none⟩ = some (.int .i64 y.2)) _ _ _ _ ?_
          have hjn : (j : Int) < np := by rw [Hnp.out]; exact hi1
          obtain ⟨cs, kcs, hcz, hce⟩ := HI0.out.kp
          obtain ⟨ds, kds, hdz, hde⟩ := HI0.out.km
          have e0 := (kcs.cell j).trans (Array.getElem?_eq_getElem (show j < cs.size by omega))
          have f0 := kcs.frozen j
          have hgpx : (ints (bestOut (rndC k close hs)).1)[j]? = some (.int .i64 x) := by unfold ints; rw [List.getElem?_map, Hx.out]; rfl
          have hin1 := HI0.out.setp G hgpx hlt2
          have hin2 := hin1.setm G Hy.out hlt2
          have d0 := ((kds.far (show gm ≠ (⟨gp, j, none⟩ : Addr).block from fun e => G.pm e.symm) (.int .i64 x)).cell (j * 2)).trans (Array.getElem?_eq_getElem (show j * 2 < ds.size by omega))
          have d1 := ((kds.far (show gm ≠ (⟨gp, j, none⟩ : Addr).block from fun e => G.pm e.symm) (.int .i64 x)).cell (j * 2 + 1)).trans (Array.getElem?_eq_getElem (show j * 2 + 1 < ds.size by omega))
          have g0 := (kds.far (show gm ≠ (⟨gp, j, none⟩ : Addr).block from fun e => G.pm e.symm) (.int .i64 x)).frozen (j * 2)
          have g1 := (kds.far (show gm ≠ (⟨gp, j, none⟩ : Addr).block from fun e => G.pm e.symm) (.int .i64 x)).frozen (j * 2 + 1)
          have Hin1 := hide hin1
          have Hin2 := hide hin2
          clear kcs kds hin1 hin2 hce hde
          refine wpAnyH_take (i := 0) (v := ?_) rfl (by kernel_rfl) (by kernel_rfl) (by kernel_rfl) (by intro _ _ _ h; first | exact h | exact absurd h.1 (by simp)) (Or.inl ⟨by rfl, ?_⟩) hS0 ?_; rotate_left; (focus (intro X hSX; (try dsimp only at hSX); go_simp; (try with_reducible rfl))); (try simp only [List.getElem_toArray, List.getElem_cons_zero, List.getElem_cons_succ, Act.put, List.setIfInBounds_toArray, List.set_cons_zero, List.set_cons_succ])
          refine wpAnyH_take (i := 1) (v := ?_) rfl (by kernel_rfl) (by kernel_rfl) (by kernel_rfl) (by intro _ _ _ h; first | exact h | exact absurd h.1 (by simp)) (Or.inl ⟨by rfl, ?_⟩) hS0 ?_; rotate_left; (focus (intro X hSX; (try dsimp only at hSX); go_simp; (try with_reducible rfl))); (try simp only [List.getElem_toArray, List.getElem_cons_zero, List.getElem_cons_succ, Act.put, List.setIfInBounds_toArray, List.set_cons_zero, List.set_cons_succ])
          refine wpAnyH_take (i := 2) (v := ?_) rfl (by kernel_rfl) (by kernel_rfl) (by kernel_rfl) (by intro _ _ _ h; first | exact h | exact absurd h.1 (by simp)) (Or.inl ⟨by rfl, ?_⟩) hS0 ?_; rotate_left; (focus (intro X hSX; (try dsimp only at hSX); go_simp; (try with_reducible rfl))); (try simp only [List.getElem_toArray, List.getElem_cons_zero, List.getElem_cons_succ, Act.put, List.setIfInBounds_toArray, List.set_cons_zero, List.set_cons_succ])
          refine wpAnyH_take (i := 3) (v := ?_) rfl (by kernel_rfl) (by kernel_rfl) (by kernel_rfl) (by intro _ _ _ h; first | exact h | exact absurd h.1 (by simp)) (Or.inl ⟨by rfl, ?_⟩) hS0 ?_; rotate_left; (focus (intro X hSX; (try dsimp only at hSX); go_simp; (try with_reducible rfl))); (try simp only [List.getElem_toArray, List.getElem_cons_zero, List.getElem_cons_succ, Act.put, List.setIfInBounds_toArray, List.set_cons_zero, List.set_cons_succ])
          refine wpAnyH_take (i := 4) (v := ?_) rfl (by kernel_rfl) (by kernel_rfl) (by kernel_rfl) (by intro _ _ _ h; first | exact h | exact absurd h.1 (by simp)) (Or.inl ⟨by rfl, ?_⟩) hS0 ?_; rotate_left; (focus (intro X hSX; (try dsimp only at hSX); go_simp; (try with_reducible rfl))); (try simp only [List.getElem_toArray, List.getElem_cons_zero, List.getElem_cons_succ, Act.put, List.setIfInBounds_toArray, List.set_cons_zero, List.set_cons_succ])
          refine wpAnyH_take (i := 5) (v := ?_) rfl (by kernel_rfl) (by kernel_rfl) (by kernel_rfl) (by intro _ _ _ h; first | exact h | exact absurd h.1 (by simp)) (Or.inl ⟨by rfl, ?_⟩) hS0 ?_; rotate_left; (focus (intro X hSX; (try dsimp only at hSX); go_simp; (try with_reducible rfl))); (try simp only [List.getElem_toArray, List.getElem_cons_zero, List.getElem_cons_succ, Act.put, List.setIfInBounds_toArray, List.set_cons_zero, List.set_cons_succ])
          refine wpAnyH_take (i := 6) (v := ?_) rfl (by kernel_rfl) (by kernel_rfl) (by kernel_rfl) (by intro _ _ _ h; first | exact h | exact absurd h.1 (by simp)) (Or.inl ⟨by rfl, ?_⟩) hS0 ?_; rotate_left; (focus (intro X hSX; (try dsimp only at hSX); go_simp; (try with_reducible rfl))); (try simp only [List.getElem_toArray, List.getElem_cons_zero, List.getElem_cons_succ, Act.put, List.setIfInBounds_toArray, List.set_cons_zero, List.set_cons_succ])
          refine wpAnyH_take (i := 7) (v := ?_) rfl (by kernel_rfl) (by kernel_rfl) (by kernel_rfl) (by intro _ _ _ h; first | exact h | exact absurd h.1 (by simp)) (Or.inl ⟨by rfl, ?_⟩) hS0 ?_; rotate_left; (focus (intro X hSX; (try dsimp only at hSX); go_simp; (try with_reducible rfl))); (try simp only [List.getElem_toArray, List.getElem_cons_zero, List.getElem_cons_succ, Act.put, List.setIfInBounds_toArray, List.set_cons_zero, List.set_cons_succ])
          refine wpAnyH_take (i := 8) (v := ?_) rfl (by kernel_rfl) (by kernel_rfl) (by kernel_rfl) (by intro _ _ _ h; first | exact h | exact absurd h.1 (by simp)) (Or.inl ⟨by rfl, ?_⟩) hS0 ?_; rotate_left; (focus (intro X hSX; (try dsimp only at hSX); go_simp; (try with_reducible rfl))); (try simp only [List.getElem_toArray, List.getElem_cons_zero, List.getElem_cons_succ, Act.put, List.setIfInBounds_toArray, List.set_cons_zero, List.set_cons_succ])
          refine wpAnyH_take (i := 9) (v := ?_) rfl (by kernel_rfl) (by kernel_rfl) (by kernel_rfl) (by intro _ _ _ h; first | exact h | exact absurd h.1 (by simp)) (Or.inl ⟨by rfl, ?_⟩) hS0 ?_; rotate_left; (focus (intro X hSX; (try dsimp only at hSX); go_simp; (try with_reducible rfl))); (try simp only [List.getElem_toArray, List.getElem_cons_zero, List.getElem_cons_succ, Act.put, List.setIfInBounds_toArray, List.set_cons_zero, List.set_cons_succ])
          refine wpAnyH_take (i := 10) (v := ?_) rfl (by kernel_rfl) (by kernel_rfl) (by kernel_rfl) (by intro _ _ _ h; first | exact h | exact absurd h.1 (by simp)) (Or.inl ⟨by rfl, ?_⟩) hS0 ?_; rotate_left; (focus (intro X hSX; (try dsimp only at hSX); go_simp; (try with_reducible rfl))); (try simp only [List.getElem_toArray, List.getElem_cons_zero, List.getElem_cons_succ, Act.put, List.setIfInBounds_toArray, List.set_cons_zero, List.set_cons_succ])
          refine wpAnyH_take (i := 11) (v := ?_) rfl (by kernel_rfl) (by kernel_rfl) (by kernel_rfl) (by intro _ _ _ h; first | exact h | exact absurd h.1 (by simp)) (Or.inl ⟨by rfl, ?_⟩) hS0 ?_; rotate_left; (focus (intro X hSX; (try dsimp only at hSX); go_simp; (try with_reducible rfl))); (try simp only [List.getElem_toArray, List.getElem_cons_zero, List.getElem_cons_succ, Act.put, List.setIfInBounds_toArray, List.set_cons_zero, List.set_cons_succ])
          refine wpAnyH_take (i := 12) (v := ?_) rfl (by kernel_rfl) (by kernel_rfl) (by kernel_rfl) (by intro _ _ _ h; first | exact h | exact absurd h.1 (by simp)) (Or.inl ⟨by rfl, ?_⟩) hS0 ?_; rotate_left; (focus (intro X hSX; (try dsimp only at hSX); go_simp; (try with_reducible rfl))); (try simp only [List.getElem_toArray, List.getElem_cons_zero, List.getElem_cons_succ, Act.put, List.setIfInBounds_toArray, List.set_cons_zero, List.set_cons_succ])
          refine wpAnyH_take (i := 13) (v := ?_) rfl (by kernel_rfl) (by kernel_rfl) (by kernel_rfl) (by intro _ _ _ h; first | exact h | exact absurd h.1 (by simp)) (Or.inl ⟨by rfl, ?_⟩) hS0 ?_; rotate_left; (focus (intro X hSX; (try dsimp only at hSX); go_simp; (try with_reducible rfl))); (try simp only [List.getElem_toArray, List.getElem_cons_zero, List.getElem_cons_succ, Act.put, List.setIfInBounds_toArray, List.set_cons_zero, List.set_cons_succ])
          refine wpAnyH_take (i := 14) (v := ?_) rfl (by kernel_rfl) (by kernel_rfl) (by kernel_rfl) (by intro _ _ _ h; first | exact h | exact absurd h.1 (by simp)) (Or.inl ⟨by rfl, ?_⟩) hS0 ?_; rotate_left; (focus (intro X hSX; (try dsimp only at hSX); go_simp; (try with_reducible rfl))); (try simp only [List.getElem_toArray, List.getElem_cons_zero, List.getElem_cons_succ, Act.put, List.setIfInBounds_toArray, List.set_cons_zero, List.set_cons_succ])
          obtain ⟨Y1, hY1⟩ : ∃ X, X = Y0.setCell ⟨gp, j, none⟩ (.int .i64 x) := ⟨_, rfl⟩
          have hS1 := HSl.out Y1 (fun b _ hb _ => by rw [hY1]; exact (Below.heap_setCell Y0 _ _ b hb).trans (hYs b))
          rw [← hY1] at d0 d1 g0 g1 Hin1 Hin2
          refine wpAnyH_ready (rs := [15]) (by kernel_rfl) (by simp) ?_
          refine AllReadyH.cons rfl (fun K hK => ?_) AllReadyH.nil
          try simp only [List.getElem_toArray, List.getElem_cons_zero, List.getElem_cons_succ]
          go_simp
          rw [← hY1]
          refine hK.out _ _ hS1 (fun _ => ?_)
          clear hK K e0 f0
          have HY1 := hide hY1
          clear hY1
          try simp only [List.getElem_toArray, List.getElem_cons_zero, List.getElem_cons_succ, Act.put, List.setIfInBounds_toArray, List.set_cons_zero, List.set_cons_succ]
          refine wpAnyH_take (i := 16) (v := ?_) rfl (by kernel_rfl) (by kernel_rfl) (by kernel_rfl) (by intro _ _ _ h; first | exact h | exact absurd h.1 (by simp)) (Or.inl ⟨by rfl, ?_⟩) hS1 ?_; rotate_left; (focus (intro X hSX; (try dsimp only at hSX); go_simp; (try with_reducible rfl))); (try simp only [List.getElem_toArray, List.getElem_cons_zero, List.getElem_cons_succ, Act.put, List.setIfInBounds_toArray, List.set_cons_zero, List.set_cons_succ])
          obtain ⟨Y2, hY2⟩ : ∃ X, X = (Y1.setCell ⟨gm, j * 2, none⟩ (.int .i64 y.1)).setCell ⟨gm, j * 2 + 1, none⟩ (.int .i64 y.2) := ⟨_, rfl⟩
          have hS2 := HSl.out Y2 (fun b _ hb hb2 => by rw [hY2]; exact (Below.heap_setCell _ _ _ b hb2).trans ((Below.heap_setCell _ _ _ b hb2).trans (by rw [HY1.out]; exact (Below.heap_setCell Y0 _ _ b hb).trans (hYs b))))
          rw [← hY2] at Hin2
          refine wpAnyH_ready (rs := [17]) (by kernel_rfl) (by simp) ?_
          refine AllReadyH.cons rfl (fun K hK => ?_) AllReadyH.nil
          try simp only [List.getElem_toArray, List.getElem_cons_zero, List.getElem_cons_succ]
          go_simp
          rw [← hY2]
          refine hK.out _ _ hS2 (fun _ => ?_)
          clear hK K
          try simp only [List.getElem_toArray, List.getElem_cons_zero, List.getElem_cons_succ, Act.put, List.setIfInBounds_toArray, List.set_cons_zero, List.set_cons_succ]
          refine wpAnyH_done (by kernel_rfl) ?_ _
          have HY2 := hide hY2
          clear hY2
          gi_wp2_with fail
          go_roundw
          case rel =>
            refine ⟨j + 1, hlt2, by go_num, ?_, ?_, Hin2⟩
            · refine KeepsOthers.trans HKo.out ?_
              rw [HY2.out, HY1.out]
              exact KeepsOthers.trans HYo.out (KeepsOthers.trans (KeepsOthers.setCell _ _ _) (KeepsOthers.trans (KeepsOthers.setCell _ _ _) (KeepsOthers.setCell _ _ _)))
            · intro b h1 h2
              rw [HY2.out, HY1.out]
              have h3 : b ≠ gm := by omega
              have h4 : b ≠ gp := by omega
              exact (Below.heap_setCell _ _ _ b h3).trans ((Below.heap_setCell _ _ _ b h3).trans ((Below.heap_setCell _ _ _ b h4).trans ((hYs b).trans (HKf.out b h1 h2))))
          case measure => simp [intOf]; omega
        · have hjw : nw = j := by omega
          subst hjw
          clear c1 c2
          have mc0 := (HI.out.kc.cell 0).trans (show _ = some (Value.int .i64 0) from rfl)
          have mf0 := HI.out.kc.frozen 0
          gi_wp2_with fail
          refine ⟨KeepsOthers.trans HKo.out (KeepsOthers.setCell _ _ _), fun b h1 h2 => ?_, H10.out, HI.out.setc G 1⟩
          exact (Below.heap_setCell _ _ _ b (by show b ≠ B; omega)).trans (HKf.out b h1 h2)
    case done =>
      rintro W hW hK
      rcases hW with ⟨h10, hL⟩ | ⟨h10, hin⟩
      · have hin := hin0.lat hL
        have c0 := (hin.kc.cell 0).trans (show _ = some (Value.int .i64 0) from rfl)
        have c1 := (hin.st.bp.cell 0).trans (show _ = some (Value.slice Aq 1 kq) from rfl)
        have d1 := (hin.st.b1.cell 0).trans (show _ = some (Value.slice (some ⟨gp, 0, none⟩) nw nw) from rfl)
        have d2 := (hin.st.b2.cell 0).trans (show _ = some (Value.slice (some ⟨gm, 0, none⟩) nw nw) from rfl)
        have f1 := hin.st.b1.frozen 0
        have f2 := hin.st.b2.frozen 0
        have Hin := hide hin
        have H10 := hide h10
        clear hin hL h10
        gi_wp2_with fail
        obtain ⟨W5, hW5⟩ : ∃ X, X = (W.setCell ⟨w.heap.size + 1 + 1, 0, none⟩ (.slice none 0 0)).setCell ⟨w.heap.size + 1 + 1 + 1, 0, none⟩ (.slice none 0 0) := ⟨_, rfl⟩
        have st5 := (Hin.out.st.set1 (.slice none 0 0)).set2 (.slice none 0 0)
        have hK5 : W5.heap[wE.heap.size]? = some (.deferred (some [])) := by
          rw [hW5]
          exact (Below.heap_setCell _ _ _ _ (by show wE.heap.size ≠ w.heap.size + 3; omega)).trans ((Below.heap_setCell _ _ _ _ (by show wE.heap.size ≠ w.heap.size + 2; omega)).trans hK)
        rw [show (W.setCell ⟨w.heap.size + 2, 0, none⟩ (.slice none 0 0)).setCell ⟨w.heap.size + 3, 0, none⟩ (.slice none 0 0) = W5 from hW5.symm] at st5
        rw [← hW5]
        clear hW5 hK
        refine ⟨by simp, .inl ⟨_, _, rfl, run_takeDeferred hK5, ?_⟩⟩
        have y1 := fun (o : Obj) => (((st5.putObj (g := wE.heap.size) (by omega) o).b1.cell 0).trans rfl : _ = some (Value.slice none 0 0))
        have y2 := fun (o : Obj) => (((st5.putObj (g := wE.heap.size) (by omega) o).b2.cell 0).trans rfl : _ = some (Value.slice none 0 0))
        refine ⟨.tuple #[.slice none 0 0, .slice none 0 0, .int .i64 9], by simp [results, Try.results11, go_sem, y1, y2], .inl ⟨H10.out, rfl, later_put st5.later (by omega) _⟩⟩
      · have c0 := (hin.kc.cell 0).trans (show _ = some (Value.int .i64 1) from rfl)
        have c1 := (hin.st.bp.cell 0).trans (show _ = some (Value.slice Aq 1 kq) from rfl)
        have Hin := hide hin
        have H10 := hide h10
        clear hin h10
        gi_wp2_with fail
        clear c0 c1
        obtain ⟨Y0, hY0⟩ : ∃ X, X = W.drew := ⟨_, rfl⟩
        have hin0' : Hid (HangIn w Y0 #[.int .i64 k, .int .i64 close, .slice Aw nw kw] (.slice Aq 1 kq) nw gp gm B nw nw (bestOut (rndC k close hs)).1 (minsL (rndC k close hs) (bestOut (rndC k close hs)).1 0 nw) 1) := by rw [hY0]; exact Hin.out.lat (later_drew (later_refl W))
        have hK0 : Y0.heap[wE.heap.size]? = some (.deferred (some [])) := by rw [hY0]; exact hK
        have hS0 : Y0.cell? ⟨w.heap.size + 1 + 1, 0, none⟩ = some (.slice (some ⟨gp, 0, none⟩) nw nw) ∧ Y0.cell? ⟨w.heap.size + 1 + 1 + 1, 0, none⟩ = some (.slice (some ⟨gm, 0, none⟩) nw nw) := ⟨(hin0'.out.st.b1.cell 0).trans rfl, (hin0'.out.st.b2.cell 0).trans rfl⟩
        refine wpIn_mono (Q := fun e a W' => e = .normal ∧ W'.heap[B + 3]? = some (.deferred (some [])) ∧ HangIn w W' #[.int .i64 k, .int .i64 close, .slice Aw nw kw] (.slice Aq 1 kq) nw gp gm B nw nw (bestOut (rndC k close hs)).1 (minsL (rndC k close hs) (bestOut (rndC k close hs)).1 0 nw) 1 ∧ a = ⟨#[(.agg #[.int .i64 k, .int .i64 close, .slice Aw nw kw]), .slice Aq 1 kq, .pointer (some ⟨w.heap.size, 0, none⟩), .pointer (some ⟨w.heap.size + 1, 0, none⟩), .pointer (some ⟨w.heap.size + 1 + 1, 0, none⟩), .pointer (some ⟨w.heap.size + 1 + 1 + 1, 0, none⟩), .int .i64 0, .int .i64 0, .pointer (some ⟨B, 0, none⟩), undef, undef, undef, undef, (.agg #[.int .i64 k, .int .i64 close, .slice Aw nw kw]), .slice Aq 1 kq, .int .i64 0, .int .i64 0, .bool false, undef, .pointer (some ⟨w.heap.size, 2, none⟩), .slice Aw nw kw, .int .i64 (nw : Int), .slice (some ⟨gp, 0, none⟩) nw nw, .pointer (some ⟨w.heap.size, 2, none⟩), .slice Aw nw kw, .int .i64 (nw : Int), .slice (some ⟨gm, 0, none⟩) nw nw, (.agg #[.int .i64 k, .int .i64 close, .slice Aw nw kw]), .slice Aq 1 kq, .func (.func 40) #[] #[.pointer (some ⟨B + 1 + 1, 0, none⟩), .pointer (some ⟨B + 1, 0, none⟩)], undef, undef, undef, undef, undef, undef, undef, undef, undef, undef, undef, undef, undef, undef, undef, undef, undef, undef, undef, undef, undef, undef, undef, undef, undef, undef, undef, undef, undef, undef, undef, .int .i64 1, .slice Aq 1 kq, .int .i64 1, .bool false, .slice (some ⟨gp, 0, none⟩) nw nw, .slice (some ⟨gm, 0, none⟩) nw nw], [{ target := Target.collected (B + 3), args := #[] }]⟩) ?_ ?_
        · refine wpIn_wide.2 (wp_region_held_drew (S := fun X => X.cell? ⟨w.heap.size + 1 + 1, 0, none⟩ = some (.slice (some ⟨gp, 0, none⟩) nw nw) ∧ X.cell? ⟨w.heap.size + 1 + 1 + 1, 0, none⟩ = some (.slice (some ⟨gm, 0, none⟩) nw nw)) (by kernel_rfl) (by rw [← hY0]; exact hS0) (fun _ => ?_))
          rw [← hY0]
          clear hY0 hK Hin
          refine wpAnyH_take (i := 0) (v := ?_) rfl (by kernel_rfl) (by kernel_rfl) (by kernel_rfl) (by intro _ _ _ h; first | exact h | exact absurd h.1 (by simp)) (Or.inl ⟨by rfl, ?_⟩) hS0 ?_; rotate_left; (focus (intro X hSX; (try dsimp only at hSX); go_simp; (try with_reducible rfl))); (try simp only [List.getElem_toArray, List.getElem_cons_zero, List.getElem_cons_succ, Act.put, List.setIfInBounds_toArray, List.set_cons_zero, List.set_cons_succ])
          refine wpAnyH_take (i := 1) (v := ?_) rfl (by kernel_rfl) (by kernel_rfl) (by kernel_rfl) (by intro _ _ _ h; first | exact h | exact absurd h.1 (by simp)) (Or.inl ⟨by rfl, ?_⟩) hS0 ?_; rotate_left; (focus (intro X hSX; (try dsimp only at hSX); go_simp; (try with_reducible rfl))); (try simp only [List.getElem_toArray, List.getElem_cons_zero, List.getElem_cons_succ, Act.put, List.setIfInBounds_toArray, List.set_cons_zero, List.set_cons_succ])
          obtain ⟨Y1, hY1⟩ : ∃ X, X = Y0.setCell ⟨w.heap.size + 1 + 1, 0, none⟩ (.slice (some ⟨gp, 0, none⟩) nw nw) := ⟨_, rfl⟩
          have hin1 : Hid (HangIn w Y1 #[.int .i64 k, .int .i64 close, .slice Aw nw kw] (.slice Aq 1 kq) nw gp gm B nw nw (bestOut (rndC k close hs)).1 (minsL (rndC k close hs) (bestOut (rndC k close hs)).1 0 nw) 1) := by
            rw [hY1]
            obtain ⟨a1, a2, ⟨cs, a3, a4⟩, ⟨ds, a5, a6⟩⟩ := hin0'.out
            exact ⟨a1.set1 _, a2.far (by show B ≠ w.heap.size + 2; omega) _, ⟨cs, a3.far (by show gp ≠ w.heap.size + 2; omega) _, a4⟩, ⟨ds, a5.far (by show gm ≠ w.heap.size + 2; omega) _, a6⟩⟩
          have hK1 : Y1.heap[wE.heap.size]? = some (.deferred (some [])) := by rw [hY1]; exact (Below.heap_setCell _ _ _ _ (by show wE.heap.size ≠ w.heap.size + 2; omega)).trans hK0
          have e1 := hS0.1
          have f1 := hin0'.out.st.b1.frozen 0
          refine wpAnyH_ready (rs := [2]) (by kernel_rfl) (by simp) ?_
          refine AllReadyH.cons rfl (fun K hK => ?_) AllReadyH.nil
          try simp only [List.getElem_toArray, List.getElem_cons_zero, List.getElem_cons_succ]
          go_simp
          rw [← hY1]
          refine hK.out _ _ ⟨(hin1.out.st.b1.cell 0).trans rfl, (hin1.out.st.b2.cell 0).trans rfl⟩ (fun _ => ?_)
          clear hK K e1 f1 hY1
          try simp only [List.getElem_toArray, List.getElem_cons_zero, List.getElem_cons_succ, Act.put, List.setIfInBounds_toArray, List.set_cons_zero, List.set_cons_succ]
          obtain ⟨Y2, hY2⟩ : ∃ X, X = Y1.setCell ⟨w.heap.size + 1 + 1 + 1, 0, none⟩ (.slice (some ⟨gm, 0, none⟩) nw nw) := ⟨_, rfl⟩
          have hin2 : Hid (HangIn w Y2 #[.int .i64 k, .int .i64 close, .slice Aw nw kw] (.slice Aq 1 kq) nw gp gm B nw nw (bestOut (rndC k close hs)).1 (minsL (rndC k close hs) (bestOut (rndC k close hs)).1 0 nw) 1) := by
            rw [hY2]
            obtain ⟨a1, a2, ⟨cs, a3, a4⟩, ⟨ds, a5, a6⟩⟩ := hin1.out
            exact ⟨a1.set2 _, a2.far (by show B ≠ w.heap.size + 3; omega) _, ⟨cs, a3.far (by show gp ≠ w.heap.size + 3; omega) _, a4⟩, ⟨ds, a5.far (by show gm ≠ w.heap.size + 3; omega) _, a6⟩⟩
          have hK2 : Y2.heap[wE.heap.size]? = some (.deferred (some [])) := by rw [hY2]; exact (Below.heap_setCell _ _ _ _ (by show wE.heap.size ≠ w.heap.size + 3; omega)).trans hK1
          have e2 := (hin1.out.st.b2.cell 0).trans (show _ = some (Value.slice (some ⟨gm, 0, none⟩) nw nw) from rfl)
          have f2 := hin1.out.st.b2.frozen 0
          refine wpAnyH_ready (rs := [3]) (by kernel_rfl) (by simp) ?_
          refine AllReadyH.cons rfl (fun K hK => ?_) AllReadyH.nil
          try simp only [List.getElem_toArray, List.getElem_cons_zero, List.getElem_cons_succ]
          go_simp
          rw [← hY2]
          have hS2 : Y2.cell? ⟨w.heap.size + 1 + 1, 0, none⟩ = some (.slice (some ⟨gp, 0, none⟩) nw nw) ∧ Y2.cell? ⟨w.heap.size + 1 + 1 + 1, 0, none⟩ = some (.slice (some ⟨gm, 0, none⟩) nw nw) := ⟨(hin2.out.st.b1.cell 0).trans rfl, (hin2.out.st.b2.cell 0).trans rfl⟩
          refine hK.out _ _ hS2 (fun _ => ?_)
          clear hK K e2 f2 hY2
          try simp only [List.getElem_toArray, List.getElem_cons_zero, List.getElem_cons_succ, Act.put, List.setIfInBounds_toArray, List.set_cons_zero, List.set_cons_succ]
          refine wpAnyH_take (i := 4) (v := ?_) rfl (by kernel_rfl) (by kernel_rfl) (by kernel_rfl) (by intro _ _ _ h; first | exact h | exact absurd h.1 (by simp)) (Or.inl ⟨by rfl, ?_⟩) hS2 ?_; rotate_left; (focus (intro X hSX; (try dsimp only at hSX); go_simp; (try with_reducible rfl))); (try simp only [List.getElem_toArray, List.getElem_cons_zero, List.getElem_cons_succ, Act.put, List.setIfInBounds_toArray, List.set_cons_zero, List.set_cons_succ])
          refine wpAnyH_done (by kernel_rfl) ?_ _
          exact ⟨rfl, by rw [← hE]; exact hK2, hin2.out, rfl⟩
        · rintro e a W' ⟨rfl, hK2, hin2, rfl⟩
          clear hK0 hS0 hin0' hY0 Hin hK
          have h10 := H10.out
          have hlen : (bestOut (rndC k close hs)).1.length = nw := by
            rcases best_full Hf.out rfl with hbo | ⟨p, n, hbo, hpl, _⟩
            · rw [hbo] at h10; exact absurd h10 (by decide)
            · rw [hbo]; exact hpl.len.trans Hm.out.len.symm
          have Hlen := hide hlen
          clear hlen
          have y1 := fun (o : Obj) => (((hin2.st.putObj (g := B + 3) (by omega) o).b1.cell 0).trans rfl : _ = some (Value.slice (some ⟨gp, 0, none⟩) nw nw))
          have y2 := fun (o : Obj) => (((hin2.st.putObj (g := B + 3) (by omega) o).b2.cell 0).trans rfl : _ = some (Value.slice (some ⟨gm, 0, none⟩) nw nw))
          have hF := fun (o : Obj) => (hin2.putObj (g := B + 3) (by omega) (by omega) (by omega) (by omega) o)
          have HF := hide hF
          have H2 := hide hin2
          clear hF hin2
          gi_wp2_with fail
          refine ⟨by simp, .inl ⟨_, _, rfl, run_takeDeferred hK2, ?_⟩⟩
          refine ⟨.tuple #[.slice (some ⟨gp, 0, none⟩) nw nw, .slice (some ⟨gm, 0, none⟩) nw nw, .int .i64 0], by simp [results, Try.results11, go_sem, y1, y2], .inr ⟨H10.out, _, _, _, _, rfl, (HF.out _).st.later, (HF.out _).done Hlen.out (by simp [minsL])⟩⟩
end Go.Proofs.Ytnlbgaippnjmiaa

/- Facts that a drawn region's operations leave, as words: closets, lists, answers. -/
namespace Go.Proofs.Ytnlbgaippnjmiaa
open Go Go.RowKit

/-- v is a Closet of the program that reads as c -/
def IsClo (c : Clo) (n1 n2 n3 : Nat) (v : Value) (W : World) : Prop :=
  ∃ B1 j1 B2 j2 B3 j3, v = .agg #[.int .i64 c.closets, .int .i64 c.close, .slice B1 n1 j1, .slice B2 n2 j2, .slice B3 n3 j3] ∧ CV W c B1 n1 B2 n2 B3 n3 ∧ n1 ≤ j1 ∧ n2 ≤ j2 ∧ n3 ≤ j3
theorem IsClo.later {c : Clo} {n1 n2 n3 : Nat} {v : Value} {W W' : World} (h : IsClo c n1 n2 n3 v W) (k : Later W W') : IsClo c n1 n2 n3 v W' := by
  obtain ⟨B1, j1, B2, j2, B3, j3, e, hc, h1, h2, h3⟩ := h
  exact ⟨B1, j1, B2, j2, B3, j3, e, hc.later k, h1, h2, h3⟩
/-- v is a list of n numbers -/
def IsL (n : Nat) (l : List Int) (v : Value) (W : World) : Prop := ∃ A k, v = .slice A n k ∧ RI W A n l ∧ n ≤ k
theorem IsL.later {n : Nat} {l : List Int} {v : Value} {W W' : World} (h : IsL n l v W) (k : Later W W') : IsL n l v W' := by
  obtain ⟨A, j, e, hr, hk⟩ := h
  exact ⟨A, j, e, hr.later k, hk⟩
/-- v reads as a list -/
def IsR (n : Nat) (l : List Int) (v : Value) (W : World) : Prop := ∃ A k, v = .slice A n k ∧ RI W A n l
theorem IsR.later {n : Nat} {l : List Int} {v : Value} {W W' : World} (h : IsR n l v W) (k : Later W W') : IsR n l v W' := by
  obtain ⟨A, j, e, hr⟩ := h
  exact ⟨A, j, e, hr.later k⟩
/-- v is a placement -/
def IsP (c : Clo) (n : Nat) (v : Value) (W : World) : Prop := ∃ p, IsPl c p ∧ IsL n p v W
theorem IsP.later {c : Clo} {n : Nat} {v : Value} {W W' : World} (h : IsP c n v W) (k : Later W W') : IsP c n v W' := let ⟨p, h1, h2⟩ := h; ⟨p, h1, h2.later k⟩
/-- v is an answer: a list of n numbers, and an error -/
def IsLE (n : Nat) (l : List Int) (q : Int) (v : Value) (W : World) : Prop := ∃ A k, v = .tuple #[.slice A n k, .int .i64 q] ∧ RI W A n l ∧ n ≤ k
theorem IsLE.later {n : Nat} {l : List Int} {q : Int} {v : Value} {W W' : World} (h : IsLE n l q v W) (k : Later W W') : IsLE n l q v W' := by
  obtain ⟨A, j, e, hr, hk⟩ := h
  exact ⟨A, j, e, hr.later k, hk⟩
/-- v is a new slice of one element -/
def IsNew (t : TypeId) (cs : List Value) (v : Value) (W : World) : Prop := ∃ g, v = .slice (some ⟨g, 0, none⟩) 1 1 ∧ Blk W g t cs.toArray
theorem IsNew.later {t : TypeId} {cs : List Value} {v : Value} {W W' : World} (h : IsNew t cs v W) (k : Later W W') : IsNew t cs v W' := by
  obtain ⟨g, e, hb⟩ := h
  exact ⟨g, e, hb.later k⟩
/-- v points to a new block -/
def IsBox (t : TypeId) (cs : List Value) (v : Value) (W : World) : Prop := ∃ g, v = .pointer (some ⟨g, 0, none⟩) ∧ Blk W g t cs.toArray
theorem IsBox.later {t : TypeId} {cs : List Value} {v : Value} {W W' : World} (h : IsBox t cs v W) (k : Later W W') : IsBox t cs v W' := by
  obtain ⟨g, e, hb⟩ := h
  exact ⟨g, e, hb.later k⟩
/-- v is a row of the caller's own -/
def IsOwn (base : Nat) (t : TypeId) (size n : Nat) (xs : List Value) (v : Value) (W : World) : Prop := W.ownsRow base t size v n xs
theorem IsOwn.later {w0 : World} {t : TypeId} {size n : Nat} {xs : List Value} {v : Value} {W W' : World} (h : IsOwn w0.heap.size t size n xs v W) (k : Later W W') : IsOwn w0.heap.size t size n xs v W' := own_later h k
theorem Blk.one {W : World} {g : Nat} {t : TypeId} {cs : List Value} (h : Blk W g t cs.toArray) : ∀ j u, cs[j]? = some u → W.cell? ((⟨g, 0, none⟩ : Addr).add j) = some u := fun j u hj => by
  rw [add_lit, Nat.zero_add, h.cell, List.getElem?_toArray]; exact hj
end Go.Proofs.Ytnlbgaippnjmiaa

/- XFacts, more: an operation that waits for the value of the operation before it (in a long region `hdep j f h` does not come back: its type is unfolded). -/
namespace Go.Proofs.Ytnlbgaippnjmiaa
open Go Go.RowKit
theorem fact_last {S : List Slot} {s : Slot} {j : Nat} {x : Value} {W : World} (h : S.length = j) (hf : factAt (S ++ [s]) j x W) : s.fact x W := by
  unfold factAt at hf
  rw [List.getElem?_append_right (by omega), h, Nat.sub_self] at hf
  exact hf
theorem dep_last {ops : Array Oper} {k : Nat} {S : List Slot} {s : Slot} {xs : Nat → Value} {W : World} (hdep : ∀ j f, reachB ops f k j = true → factAt (S ++ [s]) j (xs j) W) (j : Nat) (hl : S.length = j) (f : Nat) (hr : reachB ops f k j = true) : s.fact (xs j) W :=
  fact_last hl (hdep j f hr)
theorem lin_det_last {P : Program} {ops : Array Oper} {Q : Exit → Act → World → Prop} {R : World → World → Prop} {w0 : World} {es : List Nat} {tail l : List Oper} {o : Oper} {k j : Nat} {S : List Slot} {s : Slot} {F F' : (Nat → Value) → Act} {v : Value}
    (he : es.contains k = false) (hw : ∀ xs, Region.wanted o (yielded ops (F xs).tmps) = true) (hr : reachB ops 1 k j = true) (hj : S.length = j) (h : ∀ xs W, R w0 W → s.fact (xs j) W → o.quietAt P (F xs) (R W) W v)
    (hF : ∀ xs, (F xs).put o.dst v = F' xs) (hs : Lin P ops Q R w0 es tail l (k + 1) ((S ++ [s]) ++ [.det v]) F') : Lin P ops Q R w0 es tail (o :: l) k (S ++ [s]) F :=
  lin_det he hw (fun xs W hW hd => h xs W hW (dep_last hd j hj 1 hr)) hF hs
end Go.Proofs.Ytnlbgaippnjmiaa
