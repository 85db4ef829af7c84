/- The law ClosetMore holds: at every input its call answers true, and all that was in memory stays as it was. No condition. -/
import Derived.Test.YtjilckjhdlabaaaPart10
import Derived.Test.YtjilckjhdlabaaaPart25
import Derived.Test.YtjilckjhdlabaaaClMore
import Derived.Test.YtjilckjhdlabaaaRows
set_option linter.unusedSimpArgs false
set_option linter.unusedVariables false
namespace Go.Proofs.Ytjilckjhdlabaaa
open Go Go.ChangeShapes Go.WideShapes Go.ChangeAt Go.RowKit
set_option maxRecDepth 100000
theorem closetMore_answers (H : Type) (enc : TypeId × Value → H) (W : World) (args : Array Value) (ds : List (DataW H)) (p : List MemPlace)
    (hval : ∀ (j : Nat) t v, Try.f17.params[j]? = some t → args[j]? = some v → ∃ base, Value.okWide Try.prog W .any base t v)
    (hA : DataW.TrodAll enc Try.prog W 0 (fun _ => true) true Try.f17.params.toList args.toList ds p)
    (hreach : ∀ (j : Nat) t d, Try.f17.params.toList[j]? = some t → ds[j]? = some d → ∀ n ∈ d.weights Try.prog t, n ≤ reachBytes) : Answers 17 args W := by
  rw [Try.params17] at hA hval hreach
  obtain ⟨v0, vs0, d0, ds0, p0, q0, e0, rfl, rfl, h0, hA⟩ := trodAll_cons hA
  obtain ⟨v1, vs1, d1, ds1, p1, q1, rfl, rfl, rfl, h1, hA⟩ := trodAll_cons hA
  obtain ⟨v2, vs2, d2, ds2, p2, q2, rfl, rfl, rfl, h2, hA⟩ := trodAll_cons hA
  obtain ⟨v3, vs3, d3, ds3, p3, q3, rfl, rfl, rfl, h3, hA⟩ := trodAll_cons hA
  obtain ⟨v4, vs4, d4, ds4, p4, q4, rfl, rfl, rfl, h4, hA⟩ := trodAll_cons hA
  obtain ⟨rfl, rfl, rfl⟩ := trodAll_nil hA
  obtain rfl : args = #[v0, v1, v2, v3, v4] := by cases args; simp_all
  obtain ⟨b0, o0⟩ := hval 0 _ v0 rfl rfl
  obtain ⟨c, A1, n1, k1, A2, n2, k2, A3, n3, k3, rfl, hc, hcl, m1, m2, m3⟩ := open_closet_ o0 h0
  obtain ⟨b1, o1⟩ := hval 1 _ v1 rfl rfl
  obtain ⟨x1, rfl⟩ := open_look_ o1 h1
  obtain ⟨b2, o2⟩ := hval 2 _ v2 rfl rfl
  obtain ⟨B2, r2, t2, l2, rfl, hr2, mr2⟩ := open_words_ o2 h2
  obtain ⟨b3, o3⟩ := hval 3 _ v3 rfl rfl
  obtain ⟨x3, rfl, hx3⟩ := open_u8_ o3 h3
  obtain ⟨b4, o4⟩ := hval 4 _ v4 rfl rfl
  obtain ⟨x4, rfl, hx4⟩ := open_u8_ o4 h4
  unfold maxLen at m1 m2 mr2
  exact lawMore_calls W hc hcl m1 m2 (closet_reach h0 (hreach 0 _ d0 rfl rfl)) hr2 mr2 hx3 hx4
theorem closetMore_facts : joinedFacts Try.prog 17 Try.f17 Rows.closetMoreSpec Rows.closetMoreRow = true := joined_of (by kernel_rfl) seat_1 seat_2 (by kernel_rfl) (by kernel_rfl) (by kernel_rfl) seat_6 (by kernel_rfl) seat_8 (by kernel_rfl) (by kernel_rfl) (by kernel_rfl) (by kernel_rfl) (by kernel_rfl) (by kernel_rfl) (by kernel_rfl) (by kernel_rfl) (by kernel_rfl) (by kernel_rfl) (by kernel_rfl) (by kernel_rfl) (by kernel_rfl) seat_22 (by kernel_rfl) seat_24 seat_25 seat_26 seat_27 (by kernel_rfl) (by kernel_rfl) (by kernel_rfl) (by kernel_rfl)
theorem closetMore_readable : ∀ t ∈ Try.f17.params.toList, Try.prog.readableRec t = true ∧ t < Try.prog.types.size := fun t ht => by
  have h : (Try.f17.params.toList.all fun t => Try.prog.readableRec t && decide (t < Try.prog.types.size)) = true := by kernel_rfl
  have h2 := List.all_eq_true.1 h t ht
  rw [Bool.and_eq_true, decide_eq_true_eq] at h2
  exact h2
theorem closetMore_fn (H : Type) (ds : List (DataW H)) (h : ds.length = Try.f17.params.toList.length) : Rows.closetMoreSpec.fn H ds = { results := [.lit (.bool true)], args := ds } := by
  rw [Try.params17] at h
  match ds, h with
  | [_, _, _, _, _], _ => rfl
theorem closetMore_holds : Rows.ClosetMoreSaid :=
  OpenClaim.holds_of_wide 17 Try.f17 rfl rfl rfl rfl rfl rfl rfl ⟨rfl, rfl, rfl, rfl, rfl⟩ rfl rfl rfl rfl rfl (by kernel_rfl) Try.func17 closetMore_facts
    (of_decide_eq_true (by kernel_rfl)) (by unfold Func.isWrapper; first | (rw [if_pos (by decide +kernel)]; kernel_rfl) | (rw [if_neg (by decide +kernel)]; exact ⟨rfl, rfl⟩))
    (fun os started H enc _ => law_lifted_s Try.func17 (by kernel_rfl) rfl rfl closetMore_fn closetMore_readable closetMore_answers os started H enc
      (ChangeSpec.witness6 (enc := enc) (C := Try.checked) false ⟨#[], #[.agg #[.int .i64 0, .int .i64 0, .slice none 0 0, .slice none 0 0, .slice none 0 0], .agg #[.int .i64 0, .int .i64 0, .bool false], .slice none 0 0, .int .u8 0, .int .u8 0], []⟩ 8 (by kernel_rfl) (by kernel_rfl) (by kernel_rfl) (by kernel_rfl)))
end Go.Proofs.Ytjilckjhdlabaaa
