/- Part 20 of the proof: joined from the texts AppL. -/
import Derived.Test.YtjilckjhdlabaaaPart19
import Derived.Deep.RegionLawGrows
import Derived.Deep.Onto
set_option linter.unusedSimpArgs false
set_option linter.unusedVariables false
/- append to an empty slice that the call has just made: all that was there stays. -/
namespace Go.Proofs.Ytjilckjhdlabaaa
open Go Go.RowKit

theorem own_empty {W : World} {base g : Nat} {e : TypeId} {size : Nat} (hg : Blk W g e #[]) (hb : base ≤ g) : W.ownsRow base e size (.slice (some ⟨g, 0, none⟩) 0 0) 0 [] :=
  ⟨by simp, .inr ⟨g, 0, #[], rfl, hb, hg, Nat.le_refl _, by unfold maxLen; omega, by simp, by simp⟩⟩
theorem app0_wp {P : Program} {o : Oper} {a : Act} {K : Act → World → Prop} {Q : Exit → Act → World → Prop} {W : World} (base : Nat) (s x : Operand) (t : TypeId) (hgd : o.guard = none)
    (ho : o.op = .call { callee := .builtin .append, args := #[s, x], argTypes := #[t, t] }) (e : TypeId) (z : Value) (size bytes : Nat)
    (ht : P.underlying t = some (.slice e)) (hinfo : (P.info? e).map (fun i => (i.zero, i.size, i.bytes)) = some (some z, size, bytes)) (hzs : z.cells.size = size) (hsz : 0 < size)
    (g : Nat) (hs : a.eval s = .slice (some ⟨g, 0, none⟩) 0 0) (hg : Blk W g e #[]) (hb : base ≤ g)
    (ao : Option Addr) (m c : Nat) (news : List Value) (hx : a.eval x = .slice ao m c) (hl : news.length = m * size) (hc : ∀ ad, ao = some ad → ∀ j u, news[j]? = some u → W.cell? (ad.add j) = some u) (hno : ao = none → m = 0)
    (h1 : ∀ u ∈ news, u.oneCell' = true) (hm : m ≤ maxLen) (hby : m * bytes ≤ 140737488355328)
    (h : ∀ v' w', Later W w' → w'.ownsRow base e size v' m news → K (a.put o.dst v') w') :
    o.wp P a W K Q := by
  obtain ⟨i, hi, hz, h2, h3⟩ := info_parts hinfo
  by_cases hm0 : m = 0
  · subst hm0
    obtain rfl : news = [] := List.eq_nil_of_length_eq_zero (by simpa using hl)
    have hown := own_empty (size := size) hg hb
    have hr : (Builtin.append_ #[t, t] o.type #[.slice (some ⟨g, 0, none⟩) 0 0, .slice ao 0 c]).run P W = .ok (.slice (some ⟨g, 0, none⟩) 0 0) W := by
      cases ao with
      | none => simp [Builtin.append_, run_underlying ht, sizeOf, typeInfo, hi, Builtin.lenOf, Builtin.firstCells, storeCells]
      | some ad => simp [Builtin.append_, run_underlying ht, sizeOf, typeInfo, hi, Builtin.lenOf, Builtin.firstCells, loadCells, loadCellsFrom, storeCells]
    unfold Oper.wp execOp
    simp only [ho, resolve, invoke, builtin, Sem.run_bind, Sem.run_pure, Result.andThen_ok, List.map_toArray, List.map_cons, List.map_nil, hs, hx, hr]
    exact h _ _ (later_refl _) hown
  · cases ao with
    | none => exact absurd (hno rfl) hm0
    | some ad =>
      have h0 := step_append_grows (P := P) (ops := #[o]) (o := o) (a := a) (w := W) (K := K) (Q := Q) (E := False) hgd s x t ho e i z size bytes ht hi hz h2 h3 hzs hsz (some ⟨g, 0, none⟩) 0 0 [] hs (fun h => by cases h) (by simp) (fun b hb j u hj => by simp at hj)
        ad m c news hx hl (hc ad rfl) h1 (by omega) (by omega) (by rw [Nat.zero_add]; exact hby) (fun v' w' hown hgr => by
          rw [Nat.zero_add, List.nil_append] at hown
          exact h v' w' (Later.grown (later_refl W) hgr (fun g' hg' => by cases hg')) (World.ownsRow.mono hown (by have := hg.lt; omega)))
      rwa [if_pos (by simp [Region.wanted, hgd])] at h0
theorem rl_cells {w : World} {A : Option Addr} {n : Nat} {l : List Look} (h : RL w A n l) : ∀ ad, A = some ad → ∀ j u, (looksV l)[j]? = some u → w.cell? (ad.add j) = some u := fun ad hA j u hj => by
  have hlt := (List.getElem?_eq_some_iff.1 hj).1
  have hn : 0 < n := by have := h.1; omega
  obtain ⟨ad', e, _, hc⟩ := h.2 hn
  rw [hA] at e; injection e with e; subst e
  exact hc j u hj
theorem rl_none {w : World} {A : Option Addr} {n : Nat} {l : List Look} (h : RL w A n l) : A = none → n = 0 := fun hA => by
  rcases Nat.eq_zero_or_pos n with h0 | h0
  · exact h0
  · obtain ⟨ad', e, _⟩ := h.2 h0; rw [hA] at e; cases e
theorem rl_one (l : List Look) : ∀ u ∈ looksV l, u.oneCell' = true := fun u hu => by
  simp only [looksV, List.mem_flatMap] at hu
  obtain ⟨x, _, hx⟩ := hu
  simp only [Look.cells, List.mem_cons, List.not_mem_nil, or_false] at hx
  rcases hx with rfl | rfl | rfl <;> rfl
theorem looksV_snoc (l : List Look) (x : Look) : looksV (l ++ [x]) = looksV l ++ x.cells := by simp [looksV]
/-- v is an empty slice of the call's own -/
def IsNil0 (base : Nat) (t : TypeId) (v : Value) (W : World) : Prop := ∃ g, v = .slice (some ⟨g, 0, none⟩) 0 0 ∧ Blk W g t #[] ∧ base ≤ g
theorem IsNil0.later {base : Nat} {t : TypeId} {v : Value} {W W' : World} (h : IsNil0 base t v W) (k : Later W W') : IsNil0 base t v W' := let ⟨g, e, hb, hg⟩ := h; ⟨g, e, hb.later k, hg⟩
/-- v is a slice whose row is the call's own -/
def IsRow (base : Nat) (t : TypeId) (size n : Nat) (xs : List Value) (v : Value) (W : World) : Prop := ∃ A k, v = .slice A n k ∧ W.ownsRow base t size (.slice A n k) n xs
theorem IsRow.later {w0 : World} {t : TypeId} {size n : Nat} {xs : List Value} {v : Value} {W W' : World} (h : IsRow w0.heap.size t size n xs v W) (k : Later W W') : IsRow w0.heap.size t size n xs v W' := let ⟨A, j, e, ho⟩ := h; ⟨A, j, e, own_later ho k⟩
end Go.Proofs.Ytjilckjhdlabaaa
