/- The law TicketLeaves holds: at every input its call answers true, and all that was in memory stays as it was. No condition. -/
import Derived.Test.YtbkfnajpbhfneaaPart10
import Derived.Test.YtbkfnajpbhfneaaClTlL
import Derived.Test.YtbkfnajpbhfneaaRows
set_option linter.unusedSimpArgs false
set_option linter.unusedVariables false
namespace Go.Proofs.Ytbkfnajpbhfneaa
open Go Go.ChangeShapes Go.WideShapes Go.ChangeAt Go.RowKit
set_option maxRecDepth 100000
theorem ticketLeaves_answers (H : Type) (enc : TypeId × Value → H) (W : World) (args : Array Value) (ds : List (DataW H)) (p : List MemPlace)
    (hval : ∀ (j : Nat) t v, Try.f8.params[j]? = some t → args[j]? = some v → ∃ base, Value.okWide Try.prog W .any base t v)
    (hA : DataW.TrodAll enc Try.prog W 0 (fun _ => true) true Try.f8.params.toList args.toList ds p) : Answers 8 args W := by
  rw [Try.params8] at hA hval
  obtain ⟨v0, vs0, d0, ds0, p0, q0, e0, rfl, rfl, h0, hA⟩ := trodAll_cons hA
  obtain ⟨rfl, rfl, rfl⟩ := trodAll_nil hA
  obtain rfl : args = #[v0] := by cases args; simp_all
  obtain ⟨b0, o0⟩ := hval 0 _ v0 rfl rfl
  obtain ⟨c, A1, n1, k1, A2, n2, k2, A3, n3, k3, rfl, hc, m1, m2, m3⟩ := open_house_ o0 h0
  unfold maxLen at m1 m2 m3
  exact lawLeaves_calls W hc m1 m2 m3
theorem ticketLeaves_facts : joinedFacts Try.prog 8 Try.f8 Rows.ticketLeavesSpec Rows.ticketLeavesRow = true := joined_of (by kernel_rfl) seat_1 seat_2 (by kernel_rfl) (by kernel_rfl) (by kernel_rfl) seat_6 (by kernel_rfl) seat_8 (by kernel_rfl) (by kernel_rfl) (by kernel_rfl) (by kernel_rfl) (by kernel_rfl) (by kernel_rfl) (by kernel_rfl) (by kernel_rfl) (by kernel_rfl) (by kernel_rfl) (by kernel_rfl) (by kernel_rfl) (by kernel_rfl) seat_22 (by kernel_rfl) seat_24 seat_25 seat_26 seat_27 (by kernel_rfl) (by kernel_rfl) (by kernel_rfl) (by kernel_rfl)
theorem ticketLeaves_readable : ∀ t ∈ Try.f8.params.toList, Try.prog.readableRec t = true ∧ t < Try.prog.types.size := fun t ht => by
  have h : (Try.f8.params.toList.all fun t => Try.prog.readableRec t && decide (t < Try.prog.types.size)) = true := by kernel_rfl
  have h2 := List.all_eq_true.1 h t ht
  rw [Bool.and_eq_true, decide_eq_true_eq] at h2
  exact h2
theorem ticketLeaves_fn (H : Type) (ds : List (DataW H)) (h : ds.length = Try.f8.params.toList.length) : Rows.ticketLeavesSpec.fn H ds = { results := [.lit (.bool true)], args := ds } := by
  rw [Try.params8] at h
  match ds, h with
  | [_], _ => rfl
theorem ticketLeaves_holds : Rows.TicketLeavesSaid :=
  OpenClaim.holds_of_wide 8 Try.f8 rfl rfl rfl rfl rfl rfl rfl ⟨rfl, rfl, rfl, rfl, rfl⟩ rfl rfl rfl rfl rfl (by kernel_rfl) Try.func8 ticketLeaves_facts
    (of_decide_eq_true (by kernel_rfl)) (by unfold Func.isWrapper; first | (rw [if_pos (by decide +kernel)]; kernel_rfl) | (rw [if_neg (by decide +kernel)]; exact ⟨rfl, rfl⟩))
    (fun os started H enc _ => law_lifted Try.func8 (by kernel_rfl) rfl rfl ticketLeaves_fn ticketLeaves_readable ticketLeaves_answers os started H enc
      (ChangeSpec.witness6 (enc := enc) (C := Try.checked) false ⟨#[], #[.agg #[.int .i64 0, .int .i64 0, .slice none 0 0, .slice none 0 0, .slice none 0 0]], []⟩ 8 (by kernel_rfl) (by kernel_rfl) (by kernel_rfl) (by kernel_rfl)))
end Go.Proofs.Ytbkfnajpbhfneaa
