/- The law TopAired holds: at every input its call answers true, and all that was in memory stays as it was. No condition. -/
import Derived.Test.YtnlbgaippnjmiaaPart10
import Derived.Test.YtnlbgaippnjmiaaPart5
import Derived.Test.YtnlbgaippnjmiaaClVpG
import Derived.Test.YtnlbgaippnjmiaaRows
set_option linter.unusedSimpArgs false
set_option linter.unusedVariables false
namespace Go.Proofs.Ytnlbgaippnjmiaa
open Go Go.ChangeShapes Go.WideShapes Go.ChangeAt Go.RowKit
set_option maxRecDepth 100000
theorem topAired_answers (H : Type) (enc : TypeId × Value → H) (W : World) (args : Array Value) (ds : List (DataW H)) (p : List MemPlace)
    (hval : ∀ (j : Nat) t v, Try.f3.params[j]? = some t → args[j]? = some v → ∃ base, Value.okWide Try.prog W .any base t v)
    (hA : DataW.TrodAll enc Try.prog W 0 (fun _ => true) true Try.f3.params.toList args.toList ds p) : Answers 3 args W := by
  rw [Try.params3] at hA hval
  obtain ⟨v0, vs0, d0, ds0, p0, q0, e0, rfl, rfl, h0, hA⟩ := trodAll_cons hA
  obtain ⟨rfl, rfl, rfl⟩ := trodAll_nil hA
  obtain rfl : args = #[v0] := by cases args; simp_all
  obtain ⟨b0, o0⟩ := hval 0 _ v0 rfl rfl
  obtain ⟨c, A1, n1, k1, A2, n2, k2, A3, n3, k3, rfl, hc, hcl, m1, m2, m3⟩ := open_closet_ o0 h0
  unfold maxLen at m1 m2 m3
  exact lawAired_calls W hc hcl m1 m2 m3
theorem topAired_facts : joinedFacts Try.prog 3 Try.f3 Rows.topAiredSpec Rows.topAiredRow = true := joined_of (by kernel_rfl) seat_1 seat_2 (by kernel_rfl) (by kernel_rfl) (by kernel_rfl) seat_6 (by kernel_rfl) seat_8 (by kernel_rfl) (by kernel_rfl) (by kernel_rfl) (by kernel_rfl) (by kernel_rfl) (by kernel_rfl) (by kernel_rfl) (by kernel_rfl) (by kernel_rfl) (by kernel_rfl) (by kernel_rfl) (by kernel_rfl) (by kernel_rfl) seat_22 (by kernel_rfl) seat_24 seat_25 seat_26 seat_27 (by kernel_rfl) (by kernel_rfl) (by kernel_rfl) (by kernel_rfl)
theorem topAired_readable : ∀ t ∈ Try.f3.params.toList, Try.prog.readableRec t = true ∧ t < Try.prog.types.size := fun t ht => by
  have h : (Try.f3.params.toList.all fun t => Try.prog.readableRec t && decide (t < Try.prog.types.size)) = true := by kernel_rfl
  have h2 := List.all_eq_true.1 h t ht
  rw [Bool.and_eq_true, decide_eq_true_eq] at h2
  exact h2
theorem topAired_fn (H : Type) (ds : List (DataW H)) (h : ds.length = Try.f3.params.toList.length) : Rows.topAiredSpec.fn H ds = { results := [.lit (.bool true)], args := ds } := by
  rw [Try.params3] at h
  match ds, h with
  | [_], _ => rfl
theorem topAired_holds : Rows.TopAiredSaid :=
  OpenClaim.holds_of_wide 3 Try.f3 rfl rfl rfl rfl rfl rfl rfl ⟨rfl, rfl, rfl, rfl, rfl⟩ rfl rfl rfl rfl rfl (by kernel_rfl) Try.func3 topAired_facts
    (of_decide_eq_true (by kernel_rfl)) (by unfold Func.isWrapper; first | (rw [if_pos (by decide +kernel)]; kernel_rfl) | (rw [if_neg (by decide +kernel)]; exact ⟨rfl, rfl⟩))
    (fun os started H enc _ => law_lifted Try.func3 (by kernel_rfl) rfl rfl topAired_fn topAired_readable topAired_answers os started H enc
      (ChangeSpec.witness6 (enc := enc) (C := Try.checked) false ⟨#[], #[.agg #[.int .i64 0, .int .i64 0, .slice none 0 0, .slice none 0 0, .slice none 0 0]], []⟩ 8 (by kernel_rfl) (by kernel_rfl) (by kernel_rfl) (by kernel_rfl)))
end Go.Proofs.Ytnlbgaippnjmiaa
