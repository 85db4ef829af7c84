/- Part 25 of the proof: joined from the texts RowS. -/
import Derived.Test.YtjilckjhdlabaaaPart10
import Derived.Test.YtjilckjhdlabaaaPart22
import Derived.SizedLaws
set_option linter.unusedSimpArgs false
set_option linter.unusedVariables false
/- A law's row, in general, with the reach of what is read. -/
namespace Go.Proofs.Ytjilckjhdlabaaa
open Go Go.ChangeShapes Go.WideShapes Go.ChangeAt Go.RowKit Go.Deep Go.Joins
set_option maxRecDepth 100000 in
theorem law_lifted_s {f : Func} {k : Nat} {s : ChangeSpec} (hf : Try.prog.funcs[k]? = some f) (hinit : Try.prog.inits.idxOf? k = none) (hvars : s.vars = [])
    (hres : f.resultTypes = #[4]) (hn : ∀ (H : Type) (ds : List (DataW H)), ds.length = f.params.toList.length → s.fn H ds = { results := [.lit (.bool true)], args := ds })
    (hr : ∀ t ∈ f.params.toList, Try.prog.readableRec t = true ∧ t < Try.prog.types.size)
    (contract : ∀ (H : Type) (enc : TypeId × Value → H) (W : World) (args : Array Value) (ds : List (DataW H)) (p : List MemPlace),
      (∀ (j : Nat) t v, f.params[j]? = some t → args[j]? = some v → ∃ base, Value.okWide Try.prog W .any base t v) →
      DataW.TrodAll enc Try.prog W 0 (fun _ => true) true f.params.toList args.toList ds p →
      (∀ (j : Nat) t d, f.params.toList[j]? = some t → ds[j]? = some d → ∀ n ∈ d.weights Try.prog t, n ≤ reachBytes) → Answers k args W)
    (os : Os) (started : os.Started) (H : Type) (enc : TypeId × Value → H)
    (witness : ∃ (w : World) (tape : Tape) (i : Input), w.os = os ∧ (w.forCall tape i).Shaped Try.prog ∧ i.vars = [] ∧ Input.okWide Try.prog (w.forCall tape i) .any w.heap.size k i ∧
      s.pre6 enc Try.prog f [] false (w.forCall tape i).memory i.args ∧ ({} : Assume).holds Try.prog (lone (Frame.enter Try.prog k i.args .normal) [] (w.forCall tape i))) :
    ReturnsInHanded {} Try.checked os k .any (s.pre6 enc Try.prog f [] false) (s.post enc Try.prog f false true false false) := by
  refine returnsInHanded_of_change_sized (C := Try.checked) seat_own started hinit hf witness ?_
  intro W base args ds gs before hval hW _ hsz _
  have hW' := hW
  rw [hvars] at hW'
  obtain ⟨p, q, hA, hV, rfl, hfz, hnd⟩ := hW'
  have hV2 := trodVars_none hV
  obtain ⟨rfl, rfl⟩ := hV2
  have hreach : ∀ (j : Nat) t d, f.params.toList[j]? = some t → ds[j]? = some d → ∀ n ∈ d.weights Try.prog t, n ≤ reachBytes := fun j t d h1 h2 n hn => by
    have h3 := List.all_eq_true.1 hsz n (DataW.weights_mem_each (j := j) (t := t) (d := d) (by rw [List.getElem?_append_left (List.getElem?_eq_some_iff.1 h1).1]; exact h1) (by rw [List.append_nil]; exact h2) n hn)
    exact of_decide_eq_true h3
  refine (contract H enc W args ds p (fun j t v h1 h2 => ⟨base, hval j t v h1 h2⟩) hA hreach).mono fun e W' ⟨he, hb⟩ => ?_
  subst he
  have hlt : ∀ x ∈ p, x.block < W.heap.size := fun x hx => hW.lt x (by simp [hx])
  have hfn := hn H ds (trodAll_len hA)
  refine ⟨_, rfl, ds, [], _, [], p, [], hW, ?_, ?_, ?_, hb.frame _, fun h => by cases h⟩
  · rw [List.append_nil, hfn, hres]; exact trodAll_mk1 (shut_bool Try.underlying4 true)
  · rw [List.append_nil, hfn]; exact below_trodAll seat_laid hb hr hlt hA
  · rw [List.append_nil, hfn, hvars]; rfl
section
variable {H : Type} {enc : TypeId × Value → H} {w : World}
theorem bytes_look : (Try.prog).bytesOf 84 = 24 := by kernel_rfl
theorem reach_looks {fuel : Nat} {A : Option Addr} {n k : Nat} {x : DataW H × List MemPlace} (h : DataW.trod enc Try.prog w 0 (fun _ => true) true fuel 24 [.slice A n k] = some x)
    (hw : ∀ n ∈ x.1.weights Try.prog 24, n ≤ reachBytes) : n * 24 ≤ 140737488351232 := by
  rcases open_slice Try.underlying24 h with ⟨hc, _⟩ | ⟨a, len, cap, m, n', D, Pl, hc, _, hl, _, _, hx, _⟩
  · injection hc with hc; injection hc with _ e1 e2; omega
  · injection hc with hc; injection hc with _ e1 e2
    rw [hx] at hw
    have h1 := hw _ (by unfold DataW.weights; rw [Try.underlying24]; exact List.mem_cons_self)
    rw [bytes_look] at h1
    simp only [List.length_map, List.length_range] at h1
    unfold reachBytes at h1
    subst e1
    have : n * 24 ≤ (n + (m - n)) * 24 := Nat.mul_le_mul_right _ (by omega)
    omega
set_option maxRecDepth 100000 in
theorem closet_reach {A1 A2 A3 : Option Addr} {n1 k1 n2 k2 n3 k3 : Nat} {c : Clo} {d : DataW H} {p : List MemPlace} (h : DataW.Trod enc Try.prog w 0 (fun _ => true) true 26 (.agg #[.int .i64 c.closets, .int .i64 c.close, .slice A1 n1 k1, .slice A2 n2 k2, .slice A3 n3 k3]) d p) (hw : ∀ n ∈ d.weights Try.prog 26, n ≤ reachBytes) : n3 * 24 ≤ 140737488351232 := by
  obtain ⟨fuel, hf0⟩ := h
  obtain ⟨xs, m, _, hd, _, hxl, hf⟩ := DataW.trod_struct Try.underlying26 hf0
  match xs, hxl with
  | [y0, y1, y2, y3, y4], _ =>
    have f4 := hf 4 _ rfl
    simp [Value.cells, cells_int, cells_horses, cells_ints, cells_looks] at f4
    refine reach_looks f4 fun n hn => hw n ?_
    injection hd with hd _
    rw [hd]
    unfold DataW.weights
    rw [Try.underlying26]
    exact DataW.weights_mem_each (j := 4) (t := 24) (d := y4.1) rfl rfl n hn
end
end Go.Proofs.Ytjilckjhdlabaaa
