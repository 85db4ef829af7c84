/- Part 19 of the proof: joined from the texts Fx. -/
import Derived.Test.YtjilckjhdlabaaaPart18
import Derived.Test.YtjilckjhdlabaaaPart12
set_option linter.unusedSimpArgs false
set_option linter.unusedVariables false
/- Facts that a drawn region's operations leave, as words: closets, lists, answers. -/
namespace Go.Proofs.Ytjilckjhdlabaaa
open Go Go.RowKit

/-- v is a Closet of the program that reads as c -/
def IsClo (c : Clo) (n1 n2 n3 : Nat) (v : Value) (W : World) : Prop :=
  ∃ B1 j1 B2 j2 B3 j3, v = .agg #[.int .i64 c.closets, .int .i64 c.close, .slice B1 n1 j1, .slice B2 n2 j2, .slice B3 n3 j3] ∧ CV W c B1 n1 B2 n2 B3 n3 ∧ n1 ≤ j1 ∧ n2 ≤ j2 ∧ n3 ≤ j3
theorem IsClo.later {c : Clo} {n1 n2 n3 : Nat} {v : Value} {W W' : World} (h : IsClo c n1 n2 n3 v W) (k : Later W W') : IsClo c n1 n2 n3 v W' := by
  obtain ⟨B1, j1, B2, j2, B3, j3, e, hc, h1, h2, h3⟩ := h
  exact ⟨B1, j1, B2, j2, B3, j3, e, hc.later k, h1, h2, h3⟩
/-- v is a list of n numbers -/
def IsL (n : Nat) (l : List Int) (v : Value) (W : World) : Prop := ∃ A k, v = .slice A n k ∧ RI W A n l ∧ n ≤ k
theorem IsL.later {n : Nat} {l : List Int} {v : Value} {W W' : World} (h : IsL n l v W) (k : Later W W') : IsL n l v W' := by
  obtain ⟨A, j, e, hr, hk⟩ := h
  exact ⟨A, j, e, hr.later k, hk⟩
/-- v reads as a list -/
def IsR (n : Nat) (l : List Int) (v : Value) (W : World) : Prop := ∃ A k, v = .slice A n k ∧ RI W A n l
theorem IsR.later {n : Nat} {l : List Int} {v : Value} {W W' : World} (h : IsR n l v W) (k : Later W W') : IsR n l v W' := by
  obtain ⟨A, j, e, hr⟩ := h
  exact ⟨A, j, e, hr.later k⟩
/-- v is a placement -/
def IsP (c : Clo) (n : Nat) (v : Value) (W : World) : Prop := ∃ p, IsPl c p ∧ IsL n p v W
theorem IsP.later {c : Clo} {n : Nat} {v : Value} {W W' : World} (h : IsP c n v W) (k : Later W W') : IsP c n v W' := let ⟨p, h1, h2⟩ := h; ⟨p, h1, h2.later k⟩
/-- v is an answer: a list of n numbers, and an error -/
def IsLE (n : Nat) (l : List Int) (q : Int) (v : Value) (W : World) : Prop := ∃ A k, v = .tuple #[.slice A n k, .int .i64 q] ∧ RI W A n l ∧ n ≤ k
theorem IsLE.later {n : Nat} {l : List Int} {q : Int} {v : Value} {W W' : World} (h : IsLE n l q v W) (k : Later W W') : IsLE n l q v W' := by
  obtain ⟨A, j, e, hr, hk⟩ := h
  exact ⟨A, j, e, hr.later k, hk⟩
/-- v is a new slice of one element -/
def IsNew (t : TypeId) (cs : List Value) (v : Value) (W : World) : Prop := ∃ g, v = .slice (some ⟨g, 0, none⟩) 1 1 ∧ Blk W g t cs.toArray
theorem IsNew.later {t : TypeId} {cs : List Value} {v : Value} {W W' : World} (h : IsNew t cs v W) (k : Later W W') : IsNew t cs v W' := by
  obtain ⟨g, e, hb⟩ := h
  exact ⟨g, e, hb.later k⟩
/-- v points to a new block -/
def IsBox (t : TypeId) (cs : List Value) (v : Value) (W : World) : Prop := ∃ g, v = .pointer (some ⟨g, 0, none⟩) ∧ Blk W g t cs.toArray
theorem IsBox.later {t : TypeId} {cs : List Value} {v : Value} {W W' : World} (h : IsBox t cs v W) (k : Later W W') : IsBox t cs v W' := by
  obtain ⟨g, e, hb⟩ := h
  exact ⟨g, e, hb.later k⟩
/-- v is a row of the caller's own -/
def IsOwn (base : Nat) (t : TypeId) (size n : Nat) (xs : List Value) (v : Value) (W : World) : Prop := W.ownsRow base t size v n xs
theorem IsOwn.later {w0 : World} {t : TypeId} {size n : Nat} {xs : List Value} {v : Value} {W W' : World} (h : IsOwn w0.heap.size t size n xs v W) (k : Later W W') : IsOwn w0.heap.size t size n xs v W' := own_later h k
theorem Blk.one {W : World} {g : Nat} {t : TypeId} {cs : List Value} (h : Blk W g t cs.toArray) : ∀ j u, cs[j]? = some u → W.cell? ((⟨g, 0, none⟩ : Addr).add j) = some u := fun j u hj => by
  rw [add_lit, Nat.zero_add, h.cell, List.getElem?_toArray]; exact hj
end Go.Proofs.Ytjilckjhdlabaaa
