/- Part 10 of the proof: joined from the texts Seat, Row, Open2. -/
import Derived.Test.YtjilckjhdlabaaaPart9
import Derived.Test.YtjilckjhdlabaaaRows
import Derived.Test.YtjilckjhdlabaaaProg
import Derived.ProofKit
import Derived.Test.YtjilckjhdlabaaaChecked
import Derived.Below
import Derived.IntWalk
set_option linter.unusedSimpArgs false
set_option linter.unusedVariables false
/- Closed facts of the seat's program, and how a row's facts are put together. -/
namespace Go.Proofs.Ytjilckjhdlabaaa
open Go Go.ChangeShapes Go.WideShapes Go.ChangeAt Go.RowKit

theorem seat_1 : (laidOutB Try.prog) = true := by kernel_rfl
theorem seat_2 : (mapsRowed Try.prog) = true := by kernel_rfl
theorem seat_6 : ((Try.prog.stops == [])) = true := by kernel_rfl
theorem seat_8 : ((Try.prog.stopKnobs == [])) = true := by kernel_rfl
theorem seat_22 : ((false == Try.prog.plainKeys)) = true := by kernel_rfl
theorem seat_24 : (Try.prog.stopsHeard) = true := by kernel_rfl
theorem seat_25 : (Try.prog.mayEnter) = true := by kernel_rfl
theorem seat_26 : (Rows.closetStuckRow.lifted == Try.prog.liftsFinal) = true := by kernel_rfl
theorem seat_27 : (Try.prog.make == some Rows.closetStuckRow.make) = true := by kernel_rfl
theorem joined_of {P : Program} {f : FuncId} {fn : Func} {s : ChangeSpec} {c : OpenClaim}
    (h0 : (c.wf (OpenSpec.ofChange s)) = true)
    (h1 : (laidOutB P) = true)
    (h2 : (mapsRowed P) = true)
    (h3 : (fn.params.all (P.readableRec ·)) = true)
    (h4 : (namedTie P c.named s.vars) = true)
    (h5 : ((c.stops == [])) = true)
    (h6 : ((P.stops == [])) = true)
    (h7 : ((c.knobs == [])) = true)
    (h8 : ((P.stopKnobs == [])) = true)
    (h9 : ((c.inPlace == P.inPlace f)) = true)
    (h10 : ((c.unfollowed == P.unfollowed f)) = true)
    (h11 : ((c.recurses == P.recurses f)) = true)
    (h12 : ((c.named == P.varsNamed f)) = true)
    (h13 : ((c.maps == (fn.params.toList ++ s.plain.varTypes P).any (P.mapsRec ·))) = true)
    (h14 : ((c.ifaces == (fn.params.toList ++ s.plain.varTypes P).any (P.ifacesRec ·))) = true)
    (h15 : ((c.mapsOut == P.mapsAmong fn.resultTypes.toList)) = true)
    (h16 : ((c.loops == (fn.params.toList ++ s.plain.varTypes P).any (P.loopsFrom ·))) = true)
    (h17 : ((c.wideKeys == (fn.params.toList ++ s.plain.varTypes P ++ fn.resultTypes.toList).any (P.wideKeysFrom ·))) = true)
    (h18 : (s.vars.all (P.varReadable ·)) = true)
    (h19 : (fn.resultTypes.all (fun t => P.readableRec t && decide (t < P.types.size))) = true)
    (h20 : ((c.ifacesOut == fn.resultTypes.toList.any (P.ifacesRec ·))) = true)
    (h21 : ((c.loopsOut == fn.resultTypes.toList.any (P.loopsFrom ·))) = true)
    (h22 : ((c.plainKeys == P.plainKeys)) = true)
    (h23 : (c.shortTexts.isNone) = true)
    (h24 : (P.stopsHeard) = true)
    (h25 : (P.mayEnter) = true)
    (h26 : ((c.lifted == P.liftsFinal)) = true)
    (h27 : ((P.make == some c.make)) = true)
    (h28 : ((c.kinds == (if c.domain.isEmpty then [] else fn.params.toList.map fun t => match P.underlying t with | some (.int k) => some k | _ => none))) = true)
    (h29 : ((c.pinned == c.pinnedBy)) = true)
    (h30 : ((c.veiled == (fn.params.toList ++ s.plain.varTypes P ++ fn.resultTypes.toList).any (P.veiledRec ·))) = true)
    (h31 : (c.veiledFits P fn.params.toList (fn.params.toList ++ s.plain.varTypes P ++ fn.resultTypes.toList)) = true)
    : joinedFacts P f fn s c = true := by
  unfold joinedFacts
  simp only [Bool.and_eq_true]
  exact ⟨⟨⟨⟨⟨⟨⟨⟨⟨⟨⟨⟨⟨⟨⟨⟨⟨⟨⟨⟨⟨⟨⟨⟨⟨⟨⟨⟨⟨⟨⟨h0, h1⟩, h2⟩, h3⟩, h4⟩, h5⟩, h6⟩, h7⟩, h8⟩, h9⟩, h10⟩, h11⟩, h12⟩, h13⟩, h14⟩, h15⟩, h16⟩, h17⟩, h18⟩, h19⟩, h20⟩, h21⟩, h22⟩, h23⟩, h24⟩, h25⟩, h26⟩, h27⟩, h28⟩, h29⟩, h30⟩, h31⟩
end Go.Proofs.Ytjilckjhdlabaaa

/- A law's row, in general: if each call answers true and leaves the memory that was there, the row holds. -/
namespace Go.Proofs.Ytjilckjhdlabaaa
open Go Go.ChangeShapes Go.WideShapes Go.ChangeAt Go.RowKit

theorem seat_own : ownKnob Try.prog.godebug = none := by kernel_rfl
theorem seat_laid : laidOutB Try.prog = true := by kernel_rfl
section
variable {H : Type} {enc : TypeId × Value → H} {P : Program}
theorem below_trodAll (hl : laidOutB P = true) {W W' : World} (hb : Below W.heap.size W W') : ∀ {ts : List TypeId} {vs : List Value} {ds : List (DataW H)} {ps : List MemPlace},
    (∀ t ∈ ts, P.readableRec t = true ∧ t < P.types.size) → (∀ x ∈ ps, x.block < W.heap.size) → DataW.TrodAll enc P W 0 (fun _ => true) true ts vs ds ps → DataW.TrodAll enc P W' 0 (fun b => decide (b < W.heap.size)) true ts vs ds ps
  | [], vs, ds, ps, _, _, h => by
    obtain ⟨rfl, rfl, rfl⟩ := trodAll_nil h
    exact trodAll_mk0
  | t :: ts, vs, ds, ps, hr, hlt, h => by
    obtain ⟨v, vs', d, ds', p, q, rfl, rfl, rfl, h1, h2⟩ := trodAll_cons h
    have ht := hr t List.mem_cons_self
    exact ⟨p, q, Below.trod hl ht.1 ht.2 h1 hb (fun x hx => hlt x (List.mem_append.2 (.inl hx))),
      below_trodAll hl hb (fun t ht => hr t (List.mem_cons_of_mem _ ht)) (fun x hx => hlt x (List.mem_append.2 (.inr hx))) h2, rfl⟩
theorem trodAll_len {W : World} {base : Nat} {spare : Nat → Bool} {held : Bool} : ∀ {ts : List TypeId} {vs : List Value} {ds : List (DataW H)} {ps : List MemPlace},
    DataW.TrodAll enc P W base spare held ts vs ds ps → ds.length = ts.length
  | [], vs, ds, ps, h => by obtain ⟨rfl, rfl, rfl⟩ := trodAll_nil h; rfl
  | t :: ts, vs, ds, ps, h => by
    obtain ⟨v, vs', d, ds', p, q, rfl, rfl, rfl, h1, h2⟩ := trodAll_cons h
    simp [trodAll_len h2]
end
/-- what a law's call does -/
def Answers (k : Nat) (args : Array Value) (W : World) : Prop := Calls Try.prog k args W fun e W' => e = .returned (.bool true) ∧ Below W.heap.size W W'
set_option maxRecDepth 100000 in
theorem law_lifted {f : Func} {k : Nat} {s : ChangeSpec} (hf : Try.prog.funcs[k]? = some f) (hinit : Try.prog.inits.idxOf? k = none) (hvars : s.vars = [])
    (hres : f.resultTypes = #[4]) (hn : ∀ (H : Type) (ds : List (DataW H)), ds.length = f.params.toList.length → s.fn H ds = { results := [.lit (.bool true)], args := ds })
    (hr : ∀ t ∈ f.params.toList, Try.prog.readableRec t = true ∧ t < Try.prog.types.size)
    (contract : ∀ (H : Type) (enc : TypeId × Value → H) (W : World) (args : Array Value) (ds : List (DataW H)) (p : List MemPlace),
      (∀ (j : Nat) t v, f.params[j]? = some t → args[j]? = some v → ∃ base, Value.okWide Try.prog W .any base t v) →
      DataW.TrodAll enc Try.prog W 0 (fun _ => true) true f.params.toList args.toList ds p → Answers k args W)
    (os : Os) (started : os.Started) (H : Type) (enc : TypeId × Value → H)
    (witness : ∃ (w : World) (tape : Tape) (i : Input), w.os = os ∧ (w.forCall tape i).Shaped Try.prog ∧ i.vars = [] ∧ Input.okWide Try.prog (w.forCall tape i) .any w.heap.size k i ∧
      s.pre6 enc Try.prog f [] false (w.forCall tape i).memory i.args ∧ ({} : Assume).holds Try.prog (lone (Frame.enter Try.prog k i.args .normal) [] (w.forCall tape i))) :
    ReturnsInHanded {} Try.checked os k .any (s.pre6 enc Try.prog f [] false) (s.post enc Try.prog f false true false false) := by
  refine returnsInHanded_of_change (C := Try.checked) seat_own started hinit hf witness ?_
  intro W base args ds gs before hval hW _ _
  have hW' := hW
  rw [hvars] at hW'
  obtain ⟨p, q, hA, hV, rfl, hfz, hnd⟩ := hW'
  have hV2 := trodVars_none hV
  obtain ⟨rfl, rfl⟩ := hV2
  refine (contract H enc W args ds p (fun j t v h1 h2 => ⟨base, hval j t v h1 h2⟩) hA).mono fun e W' ⟨he, hb⟩ => ?_
  subst he
  have hlt : ∀ x ∈ p, x.block < W.heap.size := fun x hx => hW.lt x (by simp [hx])
  have hfn := hn H ds (trodAll_len hA)
  refine ⟨_, rfl, ds, [], _, [], p, [], hW, ?_, ?_, ?_, hb.frame _, fun h => by cases h⟩
  · rw [List.append_nil, hfn, hres]; exact trodAll_mk1 (shut_bool Try.underlying4 true)
  · rw [List.append_nil, hfn]; exact below_trodAll seat_laid hb hr hlt hA
  · rw [List.append_nil, hfn, hvars]; rfl
end Go.Proofs.Ytjilckjhdlabaaa

/- More arguments, opened: lists, numbers, words. -/
namespace Go.Proofs.Ytjilckjhdlabaaa
open Go Go.RowKit Go.ChangeShapes Go.WideShapes Go.Deep Go.Joins

set_option maxRecDepth 100000
/-- a list of words (uint16) -/
def RW (w : World) (A : Option Addr) (n : Nat) (l : List Nat) : Prop := Reads w w.heap.size 1 A n (l.map fun (x : Nat) => Value.int .u16 (x : Int)) ∧ ∀ x ∈ l, x < 65536
theorem RW.later {w W : World} {A : Option Addr} {n : Nat} {l : List Nat} (h : RW w A n l) (k : Later w W) : RW W A n l := ⟨Reads.later h.1 k, h.2⟩
theorem RW.len {w : World} {A : Option Addr} {n : Nat} {l : List Nat} (h : RW w A n l) : n = l.length := by have := h.1.1; simp at this; omega
theorem RW.get {w : World} {A : Option Addr} {n : Nat} {l : List Nat} (h : RW w A n l) {k : Nat} (hk : k < n) :
    ∃ b o x, A = some ⟨b, o, none⟩ ∧ b < w.heap.size ∧ x < 65536 ∧ ∀ W, Later w W → W.cell? ⟨b, o + k, none⟩ = some (.int .u16 (x : Nat)) := by
  obtain ⟨b, o, e, hb, hc⟩ := Reads.lit h.1 (by omega) (by omega)
  have hl : k < l.length := by have := h.len; omega
  exact ⟨b, o, l[k], e, hb, h.2 _ (List.getElem_mem hl), fun W k' => cell_later (hc k _ (by simp [List.getElem?_eq_getElem hl])) k' hb⟩
section
variable {H : Type} {enc : TypeId × Value → H} {w : World}
theorem open_list_ {r : Reach} {b0 : Nat} {v : Value} {d : DataW H} {p : List MemPlace} (hv : Value.okWide Try.prog w r b0 23 v) (h : DataW.Trod enc Try.prog w 0 (fun _ => true) true 23 v d p) :
    ∃ A n k l, v = .slice A n k ∧ RI w A n l ∧ n ≤ maxLen := by
  obtain ⟨A, n, k, rfl⟩ := okWide_slice Try.underlying23 hv
  obtain ⟨f, hf⟩ := h
  exact open_ints_ hf
theorem wf_lo {k : IntKind} {n : Int} (h : (Lit.int k n).wf = true) : k.min ≤ n ∧ n ≤ k.max := by
  simp [Lit.wf] at h; omega
theorem open_int_ {r : Reach} {b0 : Nat} {v : Value} {d : DataW H} {p : List MemPlace} (hv : Value.okWide Try.prog w r b0 3 v) (h : DataW.Trod enc Try.prog w 0 (fun _ => true) true 3 v d p) :
    ∃ n, v = .int .i64 n ∧ i64 n := by
  obtain ⟨n, rfl⟩ := okWide_int Try.underlying3 hv
  obtain ⟨f, hf⟩ := h
  obtain ⟨m, hm, _, hw⟩ := DataW.trod_int Try.underlying3 hf
  simp [Value.cells] at hm
  subst hm
  exact ⟨n, rfl, bounds_i64 hw⟩
theorem open_u16_ {r : Reach} {b0 : Nat} {v : Value} {d : DataW H} {p : List MemPlace} (hv : Value.okWide Try.prog w r b0 65 v) (h : DataW.Trod enc Try.prog w 0 (fun _ => true) true 65 v d p) :
    ∃ n : Nat, v = .int .u16 (n : Int) ∧ n < 65536 := by
  obtain ⟨n, rfl⟩ := okWide_int Try.underlying65 hv
  obtain ⟨f, hf⟩ := h
  obtain ⟨m, hm, _, hw⟩ := DataW.trod_int Try.underlying65 hf
  simp [Value.cells] at hm
  subst hm
  have hw2 := wf_lo hw
  simp [IntKind.min, IntKind.max, IntKind.bits, IntKind.signed] at hw2
  exact ⟨n.toNat, by rw [Int.toNat_of_nonneg hw2.1], by omega⟩
theorem open_u8_ {r : Reach} {b0 : Nat} {v : Value} {d : DataW H} {p : List MemPlace} (hv : Value.okWide Try.prog w r b0 5 v) (h : DataW.Trod enc Try.prog w 0 (fun _ => true) true 5 v d p) :
    ∃ n : Nat, v = .int .u8 (n : Int) ∧ n < 256 := by
  obtain ⟨n, rfl⟩ := okWide_int Try.underlying5 hv
  obtain ⟨f, hf⟩ := h
  obtain ⟨m, hm, _, hw⟩ := DataW.trod_int Try.underlying5 hf
  simp [Value.cells] at hm
  subst hm
  have hw2 := wf_lo hw
  simp [IntKind.min, IntKind.max, IntKind.bits, IntKind.signed] at hw2
  exact ⟨n.toNat, by rw [Int.toNat_of_nonneg hw2.1], by omega⟩
theorem open_words_ {r : Reach} {b0 : Nat} {v : Value} {d : DataW H} {p : List MemPlace} (hv : Value.okWide Try.prog w r b0 56 v) (h : DataW.Trod enc Try.prog w 0 (fun _ => true) true 56 v d p) :
    ∃ A n k l, v = .slice A n k ∧ RW w A n l ∧ n ≤ maxLen := by
  obtain ⟨A, n, k, rfl⟩ := okWide_slice Try.underlying56 hv
  obtain ⟨f, hf⟩ := h
  rcases open_ints Try.underlying56 Try.underlying65 (by kernel_rfl) hf with ⟨hc, _⟩ | ⟨a, len, cap, zs, hc, _, hl, hm, hz, _, hcell, hwf⟩
  · injection hc with hc
    injection hc with e1 e2 e3
    subst e1 e2 e3
    exact ⟨none, 0, 0, [], rfl, ⟨⟨rfl, fun h => absurd h (by omega)⟩, fun x hx => by cases hx⟩, by simp [maxLen]⟩
  · injection hc with hc
    simp only [if_true] at hz
    have hnn : ∀ x ∈ zs, 0 ≤ x ∧ x < 65536 := fun x hx => by
      have hw2 := wf_lo (hwf x hx)
      simp [IntKind.min, IntKind.max, IntKind.bits, IntKind.signed] at hw2
      omega
    refine ⟨some a, len, cap, (zs.take len).map Int.toNat, hc, ⟨⟨by simp; omega, fun hn => ⟨a, rfl, ?_, fun j u hu => ?_⟩⟩, fun x hx => ?_⟩, Nat.le_trans hl hm⟩
    · have := World.block_lt_of_cell? _ _ (hcell 0 (by omega))
      simpa [Addr.add] using this
    · have hj := (List.getElem?_eq_some_iff.1 hu).1
      simp at hj
      rw [hcell j (by omega)]
      have hjz : j < zs.length := by omega
      simp only [List.getElem?_map, List.getElem?_take] at hu
      rw [if_pos (by omega), List.getElem?_eq_getElem hjz] at hu
      simp only [Option.map_some] at hu
      rw [← hu, List.getD_eq_getElem?_getD, List.getElem?_eq_getElem hjz]
      have := (hnn _ (List.getElem_mem hjz)).1
      simp only [Option.getD_some, Int.toNat_of_nonneg this]
    · obtain ⟨y, hy, rfl⟩ := List.mem_map.1 hx
      have := hnn y (List.mem_of_mem_take hy)
      omega
set_option maxRecDepth 100000 in
theorem open_look_ {r : Reach} {b0 : Nat} {v : Value} {d : DataW H} {p : List MemPlace} (hv : Value.okWide Try.prog w r b0 84 v) (h : DataW.Trod enc Try.prog w 0 (fun _ => true) true 84 v d p) :
    ∃ x : Look, v = .agg #[.int .i64 x.horse, .int .i64 x.minute, .bool x.dry] := by
  obtain ⟨cs, rfl, hsz⟩ := okWide_struct Try.underlying84 hv
  obtain ⟨f, hf⟩ := h
  obtain ⟨x, hx⟩ := look_cells (cs := (Value.agg cs).cells.toList) hf
  refine ⟨x, ?_⟩
  obtain ⟨cs⟩ := cs
  simp [Value.cells, Look.cells] at hx
  rw [hx]
end
end Go.Proofs.Ytjilckjhdlabaaa
