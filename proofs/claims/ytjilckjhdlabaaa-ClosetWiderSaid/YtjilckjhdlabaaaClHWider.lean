/- The law ClosetWider holds: at every input its call answers true, and all that was in memory stays as it was. No condition. -/
import Derived.Test.YtjilckjhdlabaaaPart10
import Derived.Test.YtjilckjhdlabaaaClWider
import Derived.Test.YtjilckjhdlabaaaRows
set_option linter.unusedSimpArgs false
set_option linter.unusedVariables false
namespace Go.Proofs.Ytjilckjhdlabaaa
open Go Go.ChangeShapes Go.WideShapes Go.ChangeAt Go.RowKit
set_option maxRecDepth 100000
theorem closetWider_answers (H : Type) (enc : TypeId × Value → H) (W : World) (args : Array Value) (ds : List (DataW H)) (p : List MemPlace)
    (hval : ∀ (j : Nat) t v, Try.f21.params[j]? = some t → args[j]? = some v → ∃ base, Value.okWide Try.prog W .any base t v)
    (hA : DataW.TrodAll enc Try.prog W 0 (fun _ => true) true Try.f21.params.toList args.toList ds p) : Answers 21 args W := by
  rw [Try.params21] at hA hval
  obtain ⟨v0, vs0, d0, ds0, p0, q0, e0, rfl, rfl, h0, hA⟩ := trodAll_cons hA
  obtain ⟨v1, vs1, d1, ds1, p1, q1, rfl, rfl, rfl, h1, hA⟩ := trodAll_cons hA
  obtain ⟨v2, vs2, d2, ds2, p2, q2, rfl, rfl, rfl, h2, hA⟩ := trodAll_cons hA
  obtain ⟨v3, vs3, d3, ds3, p3, q3, rfl, rfl, rfl, h3, hA⟩ := trodAll_cons hA
  obtain ⟨rfl, rfl, rfl⟩ := trodAll_nil hA
  obtain rfl : args = #[v0, v1, v2, v3] := by cases args; simp_all
  obtain ⟨b0, o0⟩ := hval 0 _ v0 rfl rfl
  obtain ⟨c, A1, n1, k1, A2, n2, k2, A3, n3, k3, rfl, hc, hcl, m1, m2, m3⟩ := open_closet_ o0 h0
  obtain ⟨b1, o1⟩ := hval 1 _ v1 rfl rfl
  obtain ⟨x1, rfl, hx1⟩ := open_u8_ o1 h1
  obtain ⟨b2, o2⟩ := hval 2 _ v2 rfl rfl
  obtain ⟨x2, rfl, hx2⟩ := open_u8_ o2 h2
  obtain ⟨b3, o3⟩ := hval 3 _ v3 rfl rfl
  obtain ⟨B3, r3, t3, l3, rfl, hr3, mr3⟩ := open_words_ o3 h3
  unfold maxLen at m1 m2 m3 mr3
  exact lawWider_calls W hc hcl m1 m2 m3 hx1 hx2 hr3 mr3
theorem closetWider_facts : joinedFacts Try.prog 21 Try.f21 Rows.closetWiderSpec Rows.closetWiderRow = true := joined_of (by kernel_rfl) seat_1 seat_2 (by kernel_rfl) (by kernel_rfl) (by kernel_rfl) seat_6 (by kernel_rfl) seat_8 (by kernel_rfl) (by kernel_rfl) (by kernel_rfl) (by kernel_rfl) (by kernel_rfl) (by kernel_rfl) (by kernel_rfl) (by kernel_rfl) (by kernel_rfl) (by kernel_rfl) (by kernel_rfl) (by kernel_rfl) (by kernel_rfl) seat_22 (by kernel_rfl) seat_24 seat_25 seat_26 seat_27 (by kernel_rfl) (by kernel_rfl) (by kernel_rfl) (by kernel_rfl)
theorem closetWider_readable : ∀ t ∈ Try.f21.params.toList, Try.prog.readableRec t = true ∧ t < Try.prog.types.size := fun t ht => by
  have h : (Try.f21.params.toList.all fun t => Try.prog.readableRec t && decide (t < Try.prog.types.size)) = true := by kernel_rfl
  have h2 := List.all_eq_true.1 h t ht
  rw [Bool.and_eq_true, decide_eq_true_eq] at h2
  exact h2
theorem closetWider_fn (H : Type) (ds : List (DataW H)) (h : ds.length = Try.f21.params.toList.length) : Rows.closetWiderSpec.fn H ds = { results := [.lit (.bool true)], args := ds } := by
  rw [Try.params21] at h
  match ds, h with
  | [_, _, _, _], _ => rfl
theorem closetWider_holds : Rows.ClosetWiderSaid :=
  OpenClaim.holds_of_wide 21 Try.f21 rfl rfl rfl rfl rfl rfl rfl ⟨rfl, rfl, rfl, rfl, rfl⟩ rfl rfl rfl rfl rfl (by kernel_rfl) Try.func21 closetWider_facts
    (of_decide_eq_true (by kernel_rfl)) (by unfold Func.isWrapper; first | (rw [if_pos (by decide +kernel)]; kernel_rfl) | (rw [if_neg (by decide +kernel)]; exact ⟨rfl, rfl⟩))
    (fun os started H enc _ => law_lifted Try.func21 (by kernel_rfl) rfl rfl closetWider_fn closetWider_readable closetWider_answers os started H enc
      (ChangeSpec.witness6 (enc := enc) (C := Try.checked) false ⟨#[], #[.agg #[.int .i64 0, .int .i64 0, .slice none 0 0, .slice none 0 0, .slice none 0 0], .int .u8 0, .int .u8 0, .slice none 0 0], []⟩ 8 (by kernel_rfl) (by kernel_rfl) (by kernel_rfl) (by kernel_rfl)))
end Go.Proofs.Ytjilckjhdlabaaa
