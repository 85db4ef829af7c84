/- The law TicketCompared holds: at every input its call answers true, and all that was in memory stays as it was. No condition. -/
import Derived.Test.YtbkfnajpbhfneaaPart10
import Derived.Test.YtbkfnajpbhfneaaClTlY
import Derived.Test.YtbkfnajpbhfneaaRows
set_option linter.unusedSimpArgs false
set_option linter.unusedVariables false
namespace Go.Proofs.Ytbkfnajpbhfneaa
open Go Go.ChangeShapes Go.WideShapes Go.ChangeAt Go.RowKit
set_option maxRecDepth 100000
theorem ticketCompared_answers (H : Type) (enc : TypeId × Value → H) (W : World) (args : Array Value) (ds : List (DataW H)) (p : List MemPlace)
    (hval : ∀ (j : Nat) t v, Try.f15.params[j]? = some t → args[j]? = some v → ∃ base, Value.okWide Try.prog W .any base t v)
    (hA : DataW.TrodAll enc Try.prog W 0 (fun _ => true) true Try.f15.params.toList args.toList ds p) : Answers 15 args W := by
  rw [Try.params15] at hA hval
  obtain ⟨v0, vs0, d0, ds0, p0, q0, e0, rfl, rfl, h0, hA⟩ := trodAll_cons hA
  obtain ⟨v1, vs1, d1, ds1, p1, q1, rfl, rfl, rfl, h1, hA⟩ := trodAll_cons hA
  obtain ⟨rfl, rfl, rfl⟩ := trodAll_nil hA
  obtain rfl : args = #[v0, v1] := by cases args; simp_all
  obtain ⟨b0, o0⟩ := hval 0 _ v0 rfl rfl
  obtain ⟨c, A1, n1, k1, A2, n2, k2, A3, n3, k3, rfl, hc, m1, m2, m3⟩ := open_house_ o0 h0
  obtain ⟨b1, o1⟩ := hval 1 _ v1 rfl rfl
  obtain ⟨x1, rfl, hx1⟩ := open_u8_ o1 h1
  unfold maxLen at m1 m2 m3
  exact lawCompared_calls W hc m1 m2 m3 hx1
theorem ticketCompared_facts : joinedFacts Try.prog 15 Try.f15 Rows.ticketComparedSpec Rows.ticketComparedRow = true := joined_of (by kernel_rfl) seat_1 seat_2 (by kernel_rfl) (by kernel_rfl) (by kernel_rfl) seat_6 (by kernel_rfl) seat_8 (by kernel_rfl) (by kernel_rfl) (by kernel_rfl) (by kernel_rfl) (by kernel_rfl) (by kernel_rfl) (by kernel_rfl) (by kernel_rfl) (by kernel_rfl) (by kernel_rfl) (by kernel_rfl) (by kernel_rfl) (by kernel_rfl) seat_22 (by kernel_rfl) seat_24 seat_25 seat_26 seat_27 (by kernel_rfl) (by kernel_rfl) (by kernel_rfl) (by kernel_rfl)
theorem ticketCompared_readable : ∀ t ∈ Try.f15.params.toList, Try.prog.readableRec t = true ∧ t < Try.prog.types.size := fun t ht => by
  have h : (Try.f15.params.toList.all fun t => Try.prog.readableRec t && decide (t < Try.prog.types.size)) = true := by kernel_rfl
  have h2 := List.all_eq_true.1 h t ht
  rw [Bool.and_eq_true, decide_eq_true_eq] at h2
  exact h2
theorem ticketCompared_fn (H : Type) (ds : List (DataW H)) (h : ds.length = Try.f15.params.toList.length) : Rows.ticketComparedSpec.fn H ds = { results := [.lit (.bool true)], args := ds } := by
  rw [Try.params15] at h
  match ds, h with
  | [_, _], _ => rfl
theorem ticketCompared_holds : Rows.TicketComparedSaid :=
  OpenClaim.holds_of_wide 15 Try.f15 rfl rfl rfl rfl rfl rfl rfl ⟨rfl, rfl, rfl, rfl, rfl⟩ rfl rfl rfl rfl rfl (by kernel_rfl) Try.func15 ticketCompared_facts
    (of_decide_eq_true (by kernel_rfl)) (by unfold Func.isWrapper; first | (rw [if_pos (by decide +kernel)]; kernel_rfl) | (rw [if_neg (by decide +kernel)]; exact ⟨rfl, rfl⟩))
    (fun os started H enc _ => law_lifted Try.func15 (by kernel_rfl) rfl rfl ticketCompared_fn ticketCompared_readable ticketCompared_answers os started H enc
      (ChangeSpec.witness6 (enc := enc) (C := Try.checked) false ⟨#[], #[.agg #[.int .i64 0, .int .i64 0, .slice none 0 0, .slice none 0 0, .slice none 0 0], .int .u8 0], []⟩ 8 (by kernel_rfl) (by kernel_rfl) (by kernel_rfl) (by kernel_rfl)))
end Go.Proofs.Ytbkfnajpbhfneaa
