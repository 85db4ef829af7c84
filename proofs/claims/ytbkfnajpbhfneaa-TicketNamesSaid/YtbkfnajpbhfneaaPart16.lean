/- Part 16 of the proof: joined from the texts TnA, TnB, TnD, Rset, TnE, TailC. -/
import Derived.Test.YtbkfnajpbhfneaaPart9
import Derived.Test.YtbkfnajpbhfneaaPart2
import Derived.Test.YtbkfnajpbhfneaaPart1
import Derived.Test.YtbkfnajpbhfneaaPart10
set_option linter.unusedSimpArgs false
set_option linter.unusedVariables false
/- two: what it returns lies in blocks of its own; a House in a range of blocks. -/
namespace Go.Proofs.Ytbkfnajpbhfneaa
open Go Go.RowKit
attribute [local go_sem] later_alloc2 later_alloc3 later_alloc4 build_house

def TwoNew (g : Int) (w : World) (e : Ending) (w' : World) : Prop :=
  ∃ a1 a2 a3 : Nat, e = .returned (.agg #[.int .i64 60, .int .i64 g, .slice (some ⟨a1, 0, none⟩) 2 2, .slice (some ⟨a2, 0, none⟩) 3 3, .slice (some ⟨a3, 0, none⟩) 4 4]) ∧ Later w w' ∧ w.heap.size ≤ a1 ∧ w.heap.size ≤ a2 ∧ w.heap.size ≤ a3 ∧ a1 ≠ a2 ∧ a3 < a1 ∧
    Blk w' a1 42 (pairsV [(0, 0), (-5, 5)]).toArray ∧ Blk w' a2 103 (pairsV [(0, 1), (0, 2), (1, 0)]).toArray ∧ Blk w' a3 101 (clipsV fourClips).toArray
set_option maxRecDepth 100000 in
set_option maxHeartbeats 1000000 in
theorem two_new (gr : Int) (w : World) :
    Calls Try.prog 71 #[.int .i64 gr, .slice none 0 0] w (TwoNew gr w) := by
  obtain ⟨W0, hW0⟩ : ∃ X, X = w.alloc (.cells #[.int .i64 0, .int .i64 0, .slice none 0 0, .slice none 0 0, .slice none 0 0] 36) := ⟨_, rfl⟩
  obtain ⟨W1, hW1⟩ : ∃ X, X = W0.alloc (.cells (clipsV fourClips).toArray 101) := ⟨_, rfl⟩
  have hs0 : W0.heap.size = w.heap.size + 1 := by rw [hW0]; simp
  have hL0 : Later w W0 := by rw [hW0]; exact later_alloc (later_refl _) _
  have hL01 : Later W0 W1 := by rw [hW1]; exact later_alloc (later_refl _) _
  have hL1 := Later.trans hL0 hL01
  have kr0 : Blk W0 w.heap.size 36 #[.int .i64 0, .int .i64 0, .slice none 0 0, .slice none 0 0, .slice none 0 0] := by rw [hW0]; exact Blk.new _ _ _
  have kr := kr0.later hL01
  have hown : W1.ownsRow (w.heap.size + 1) 101 3 (.slice (some ⟨w.heap.size + 1, 0, none⟩) 4 4) 4 (clipsV fourClips) := by
    have := World.ownsRow_lit (base := w.heap.size + 1) (e := 101) (size := 3) W0 (clipsV fourClips).toArray 4 (by omega) (by unfold maxLen; omega) rfl
    rw [hs0] at this
    rw [hW1]; exact this
  have kc1 : Blk W1 (w.heap.size + 1) 101 (clipsV fourClips).toArray := by rw [hW1, ← hs0]; exact Blk.new _ _ _
  have Hkc := hide kc1
  have HW0 := hide hW0
  have HW1 := hide hW1
  have Hown := hide hown
  have Hkr := hide kr
  have hs1 : W1.heap.size = w.heap.size + 2 := by rw [hW1]; simp [hs0]
  have Hs1 := hide hs1
  have Hs0 := hide hs0
  clear hW0 hW1 hown kr kr0 hs0 hs1 kc1
  go_enter Try.func71, Try.ntmps71
  go_upto_region 2 with fail
  rw [← HW0.out, show W0.alloc (.cells #[.int .i64 0, .int .i64 0, .int .i64 300, .int .i64 0, .int .i64 1, .int .i64 366, .int .i64 1, .int .i64 0, .int .i64 365, .int .i64 1, .int .i64 1, .int .i64 488] 101) = W1 from HW1.out.symm]
  go_wp2_with fail
  refine (lawBetween_calls 0 0 _).mono ?_
  rintro e w2 ⟨rfl, hL2⟩
  go_wp2_with fail
  refine (lawBetween_calls (-5) 5 _).mono ?_
  rintro e w3 ⟨rfl, hL3⟩
  have hL13 := Later.trans hL2 hL3
  have hbs : w.heap.size + 1 ≤ w3.heap.size := by have := Hs1.out; have := hL13.size; omega
  obtain ⟨w4, hw4⟩ : ∃ X, w3.alloc (.cells #[.int .i64 0, .int .i64 0, .int .i64 (-5), .int .i64 5] 42) = X := ⟨_, rfl⟩
  obtain ⟨w6, hw5⟩ : ∃ X, w4.alloc (.cells #[.int .i64 0, .int .i64 1, .int .i64 0, .int .i64 2, .int .i64 1, .int .i64 0] 103) = X := ⟨_, rfl⟩
  have Hw4 := hide hw4
  have Hw5 := hide hw5
  have hs4 : w4.heap.size = w3.heap.size + 1 := by rw [← hw4]; simp
  have hL34 : Later w3 w4 := by rw [← hw4]; exact later_alloc (later_refl _) _
  have hL45 : Later w4 w6 := by rw [← hw5]; exact later_alloc (later_refl _) _
  have kr4 : Blk w4 w3.heap.size 42 (pairsV [(0, 0), (-5, 5)]).toArray := by rw [← hw4]; exact Blk.new _ _ _
  have kt6 : Blk w6 (w3.heap.size + 1) 103 (pairsV [(0, 1), (0, 2), (1, 0)]).toArray := by rw [← hs4, ← hw5]; exact Blk.new _ _ _
  have kr6 := kr4.later hL45
  have hL16 := Later.trans hL13 (Later.trans hL34 hL45)
  have hL06 := Later.trans hL01 hL16
  have hapo := own_later2 Hown.out hL16
  rw [← Hs0.out] at hapo
  obtain ⟨A', c', hv', hrd⟩ := own_slice hapo
  injection hv' with e1 e2 e3
  subst e1 e3
  have hcp := own_cap hapo
  have hs3 := hL13.size
  have hs1 := Hs1.out
  have kh6 := Hkr.out.later hL16
  have Hkr6 := hide kr6
  have Hkt6 := hide kt6
  have Hkc6 := hide (Hkc.out.later hL16)
  have Hr6 := hide (kr6.reads (size := 2) (n := 2) (xs := pairsV [(0, 0), (-5, 5)]) rfl fun j u hu => by simpa using hu)
  have Ht6 := hide (kt6.reads (size := 2) (n := 3) (xs := pairsV [(0, 1), (0, 2), (1, 0)]) rfl fun j u hu => by simpa using hu)
  have Hkh := hide kh6
  have hke := kh6.row #[.int .i64 60, .int .i64 gr, .slice (some ⟨w3.heap.size, 0, none⟩) 2 2, .slice (some ⟨w3.heap.size + 1, 0, none⟩) 3 3, .slice (some ⟨w.heap.size + 1, 0, none⟩) 4 4]
  have Hke := hide hke
  have Hrd := hide hrd
  have HL06 := hide hL06
  have Hcp := hide hcp
  have Hfr := hide (own_fresh (w0 := W0) (by rw [Hs0.out]; exact own_later2 Hown.out hL16))
  have Hapo := hide hapo
  clear hapo kr6 kt6 kh6 kr4 hw4 hw5 hke hrd hL06 hs1 hcp
  go_wp2_with (rw [Hw4.out, Hw5.out]; refine wpList_store_row rfl _ _ _ rfl w.heap.size _ rfl rfl _ _ Hkh.out (by kernel_rfl) rfl (by simp [Value.oneCell']) ?_)
  have hs0 := Hs0.out
  have hk6 := ((Kept.refl w.heap.size w6).setRow #[.int .i64 60, .int .i64 gr, .slice (some ⟨w3.heap.size, 0, none⟩) 2 2, .slice (some ⟨w3.heap.size + 1, 0, none⟩) 3 3, .slice (some ⟨w.heap.size + 1, 0, none⟩) 4 4])
  have hs1 := Hs1.out
  refine bodyPost_ret (results_cell_row (P := Try.prog) (fn := Try.f71) (p := 4) (ty := 36) (by kernel_rfl) _ _ w.heap.size _ _ _ _ rfl Hke.out Try.underlying36 (by kernel_rfl) (by kernel_rfl)) rfl ⟨w3.heap.size, w3.heap.size + 1, w.heap.size + 1, rfl, later_setRow (Later.trans hL0 HL06.out) (Nat.le_refl _) _, by omega, by omega, by omega, by omega, by omega, Blk.of_eq (setRow_other w6 _ _ _ (by omega)) Hkr6.out, Blk.of_eq (setRow_other w6 _ _ _ (by omega)) Hkt6.out, Blk.of_eq (setRow_other w6 _ _ _ (by omega)) Hkc6.out⟩

/-- v is a House whose rows lie in blocks from lo to hi -/
def HouN (lo hi : Nat) (c : Hou) (n1 n2 n3 : Nat) (v : Value) (W : World) : Prop :=
  ∃ A1 k1 A2 k2 A3 k3, v = .agg #[.int .i64 c.hour, .int .i64 c.grace, .slice A1 n1 k1, .slice A2 n2 k2, .slice A3 n3 k3] ∧ CV W c A1 n1 A2 n2 A3 n3 ∧ ∀ b o, (A1 = some ⟨b, o, none⟩ ∨ A2 = some ⟨b, o, none⟩ ∨ A3 = some ⟨b, o, none⟩) → lo ≤ b ∧ b < hi
theorem HouN.later {lo hi : Nat} {c : Hou} {n1 n2 n3 : Nat} {v : Value} {W X : World} (h : HouN lo hi c n1 n2 n3 v W) (k : Later W X) : HouN lo hi c n1 n2 n3 v X := by
  obtain ⟨A1, k1, A2, k2, A3, k3, e, hc, hb⟩ := h
  exact ⟨A1, k1, A2, k2, A3, k3, e, hc.later k, hb⟩
theorem HouN.far {lo hi g : Nat} {c : Hou} {n1 n2 n3 : Nat} {v : Value} {W X : World} (h : HouN lo hi c n1 n2 n3 v W) (hg : g < lo ∨ hi ≤ g) (k : Kept g W X) : HouN lo hi c n1 n2 n3 v X := by
  obtain ⟨A1, k1, A2, k2, A3, k3, e, hc, hb⟩ := h
  exact ⟨A1, k1, A2, k2, A3, k3, e, ⟨Reads.kept hc.ck (by omega) (fun b o e => by have := hb b o (.inl e); omega) k, Reads.kept hc.tk (by omega) (fun b o e => by have := hb b o (.inr (.inl e)); omega) k, Reads.kept hc.cp (by omega) (fun b o e => by have := hb b o (.inr (.inr e)); omega) k⟩, hb⟩
theorem kept_set (W : World) (g i : Nat) (u : Value) : Kept g W (W.setCell ⟨g, i, none⟩ u) :=
  (Kept.refl g W).setCell i u
/-- a house of three blocks -/
theorem hou_of {lo hi : Nat} {c : Hou} {a1 a2 a3 : Nat} {k1 k2 k3 n1 n2 n3 : Nat} {W : World} (h1 : Blk W a1 42 (pairsV c.clocks).toArray) (h2 : Blk W a2 103 (pairsV c.tickets).toArray) (h3 : Blk W a3 101 (clipsV c.clips).toArray)
    (e1 : c.clocks.length = n1) (e2 : c.tickets.length = n2) (e3 : c.clips.length = n3) (b1 : lo ≤ a1 ∧ a1 < hi) (b2 : lo ≤ a2 ∧ a2 < hi) (b3 : lo ≤ a3 ∧ a3 < hi) :
    HouN lo hi c n1 n2 n3 (.agg #[.int .i64 c.hour, .int .i64 c.grace, .slice (some ⟨a1, 0, none⟩) n1 k1, .slice (some ⟨a2, 0, none⟩) n2 k2, .slice (some ⟨a3, 0, none⟩) n3 k3]) W := by
  refine ⟨_, _, _, _, _, _, rfl, ⟨h1.reads (by rw [pairsV_length, e1]) fun j u hu => by simpa using hu, h2.reads (by rw [pairsV_length, e2]) fun j u hu => by simpa using hu, h3.reads (by rw [clipsV_length, e3]) fun j u hu => by simpa using hu⟩, fun b o h => ?_⟩
  rcases h with h | h | h <;> (injection h with h; injection h with h _; omega)
end Go.Proofs.Ytbkfnajpbhfneaa

/- TicketNames: the answers. -/
namespace Go.Proofs.Ytbkfnajpbhfneaa
open Go Go.RowKit

theorem nx_hours5 : hoursOut (twoH 5 []) = [(1, 1), (2, 2), (0, 0)] := by kernel_rfl
theorem nx_long5 : longOut (twoH 5 []) = [2, 2, 2] := by kernel_rfl
theorem nx_clash10 : clashOut (twoH 5 []) 1 0 = 2 ∧ askedErr (twoH 5 []) (clashDue (twoH 5 []) 1 0) = 0 := ⟨by kernel_rfl, by kernel_rfl⟩
theorem nx_paid5 : paidOut (twoH 5 []) = 1 := by kernel_rfl
theorem nx_free1 : freeOut (twoH 5 []) 1 = (0, 0) ∧ askedErr (twoH 5 []) (freeDue (twoH 5 []) 1) = 0 := ⟨by kernel_rfl, by kernel_rfl⟩
theorem nx_hours0 : hoursOut (twoH 0 []) = (2, 2) :: (2, 3) :: (hoursOut (twoH 0 [])).tail.tail := by kernel_rfl
theorem nx_hours0L : (hoursOut (twoH 0 [])).length = 3 := by kernel_rfl
theorem nx_paid0 : paidOut (twoH 0 []) = 2 := by kernel_rfl
theorem nx_paidT : paidOut turnedH = 3 ∧ askedErr turnedH 0 = 0 := ⟨by kernel_rfl, by kernel_rfl⟩
theorem nx_leave5 : leaveOut (twoH 5 []) = [] ∧ fault (twoH 5 []) = 0 := ⟨by kernel_rfl, by kernel_rfl⟩
theorem nx_truth : truthOut (twoH 5 []) [0, 1] = true ∧ truthOut (twoH 5 []) [0, 0] = false ∧ truthOut (twoH 5 []) [0] = false ∧ truthOut (twoH 5 [lateC]) [0, 1] = false := ⟨by kernel_rfl, by kernel_rfl, by kernel_rfl, by kernel_rfl⟩
theorem nx_play6 : playErr (twoH 5 []) [0, 6] = 2 := by kernel_rfl
theorem nx_badC : askedErr (twoH 5 [lateC]) (clashDue (twoH 5 [lateC]) 0 3) = 2 ∧ askedErr (twoH 5 [lateC]) (clashDue (twoH 5 [lateC]) 1 1) = 6 ∧ askedErr (twoH 5 [lateC]) (clashDue (twoH 5 [lateC]) 0 1) = 11 := ⟨by kernel_rfl, by kernel_rfl, by kernel_rfl⟩
theorem nx_badF : askedErr (twoH 5 [lateC]) (freeDue (twoH 5 [lateC]) 9) = 2 ∧ askedErr (twoH 5 [lateC]) (freeDue (twoH 5 [lateC]) 1) = 8 ∧ askedErr (twoH 5 [lateC]) (freeDue (twoH 5 [lateC]) 0) = 11 := ⟨by kernel_rfl, by kernel_rfl, by kernel_rfl⟩
theorem nx_bad0 : askedErr (twoH 5 [lateC]) 0 = 11 ∧ lookErr (twoH 5 [lateC]) = 11 := ⟨by kernel_rfl, by kernel_rfl⟩
def bareH (h : Int) : Hou := ⟨h, 0, [], [], []⟩
theorem nx_bare : lookErr (bareH 60) = 7 ∧ fault (bareH 1) = 0 := ⟨by kernel_rfl, by kernel_rfl⟩
theorem nx_first5 : firstOut (twoH 5 []) = (0, 7) := by kernel_rfl
/-! the houses with faults -/
def hourH : Hou := { twoH 5 [] with hour := 0 }
def clockH : Hou := { twoH 5 [] with clips := [⟨0, 2, 300⟩, ⟨0, 1, 366⟩, ⟨1, 0, 365⟩, ⟨1, 1, 488⟩] }
def offH : Hou := { twoH 5 [] with clocks := [(0, 31), (-5, 5)] }
def tubH : Hou := { twoH 5 [] with tickets := [(9, 1), (0, 2), (1, 0)] }
def hoursH : Hou := { twoH 5 [] with tickets := [(0, 10), (0, 2), (1, 0)] }
def minuteH : Hou := { twoH 5 [] with clips := [⟨0, 0, 1440⟩, ⟨0, 1, 366⟩, ⟨1, 0, 365⟩, ⟨1, 1, 488⟩] }
def thirdC : Cp := ⟨0, 0, 500⟩
def manyH : Hou := { twoH 5 [] with clips := List.replicate 11 ⟨0, 0, 0⟩ }
def sizesH : Hou := { twoH 5 [] with clocks := [(-30, 30), (-30, 2)] }
theorem nx_faults : fault hourH = 1 ∧ fault (twoH 61 []) = 1 ∧ fault clockH = 1 ∧ fault offH = 1 ∧ fault tubH = 1 ∧ fault hoursH = 1 ∧ fault minuteH = 1 ∧ fault (twoH 5 [thirdC]) = 1 ∧ fault manyH = 3 ∧ fault sizesH = 3 :=
  ⟨by kernel_rfl, by kernel_rfl, by kernel_rfl, by kernel_rfl, by kernel_rfl, by kernel_rfl, by kernel_rfl, by kernel_rfl, by kernel_rfl, by kernel_rfl⟩
section
variable {W : World} {v : Value}
theorem hours5_is (h : IsTwo 5 [] W v) : Calls Try.prog 26 #[v] W fun e w' => ∃ r, e = .returned (.tuple #[r, .int .i64 0]) ∧ Later W w' ∧ IsPairs [(1, 1), (2, 2), (0, 0)] w' r := by
  obtain ⟨A1, k1, A2, k2, A3, k3, rfl, hc, h1, h2, h3⟩ := h
  refine (HoursP_calls (c := twoH 5 []) W hc (by omega) (by omega) (by simp)).mono fun e w' h => ?_
  obtain ⟨A, n, k, e1, hL, hr⟩ := h
  rw [nx_hours5] at hr
  rw [ex_asked5] at e1
  have hn : n = 3 := hr.len
  subst hn
  exact ⟨_, e1, hL, A, k, rfl, hr⟩
theorem long5_is (h : IsTwo 5 [] W v) : Calls Try.prog 31 #[v] W fun e w' => ∃ r, e = .returned (.tuple #[r, .int .i64 0]) ∧ Later W w' ∧ IsInts [2, 2, 2] w' r := by
  obtain ⟨A1, k1, A2, k2, A3, k3, rfl, hc, h1, h2, h3⟩ := h
  refine (LongP_calls (c := twoH 5 []) W hc (by omega) (by omega) (by simp)).mono fun e w' h => ?_
  obtain ⟨A, n, k, e1, hL, hr⟩ := h
  rw [nx_long5] at hr
  rw [ex_asked5] at e1
  have hn : n = 3 := hr.len
  subst hn
  exact ⟨_, e1, hL, A, k, rfl, hr⟩
theorem clash10_is (h : IsTwo 5 [] W v) : Calls Try.prog 35 #[v, .int .i64 1, .int .i64 0] W fun e w' => e = .returned (.tuple #[.int .i64 2, .int .i64 0]) ∧ Later W w' := by
  obtain ⟨A1, k1, A2, k2, A3, k3, rfl, hc, _⟩ := h
  have := ClashP_calls (k1 := k1) (k2 := k2) (k3 := k3) (c := twoH 5 []) (a := 1) (b := 0) W hc (by omega) (by omega) (by simp)
  rw [nx_clash10.1, nx_clash10.2] at this
  exact this
theorem paid5_is (h : IsTwo 5 [] W v) : Calls Try.prog 32 #[v] W fun e w' => e = .returned (.tuple #[.int .i64 1, .int .i64 0]) ∧ Later W w' := by
  obtain ⟨A1, k1, A2, k2, A3, k3, rfl, hc, _⟩ := h
  have := PaidP_calls (k1 := k1) (k2 := k2) (k3 := k3) (c := twoH 5 []) W hc (by omega) (by omega) (by simp)
  rw [nx_paid5, ex_asked5] at this
  exact this
theorem free1_is (h : IsTwo 5 [] W v) : Calls Try.prog 39 #[v, .int .i64 1] W fun e w' => e = .returned (.tuple #[.agg #[.int .i64 0, .int .i64 0], .int .i64 0]) ∧ Later W w' := by
  obtain ⟨A1, k1, A2, k2, A3, k3, rfl, hc, _⟩ := h
  have := FreeP_calls (k1 := k1) (k2 := k2) (k3 := k3) (c := twoH 5 []) (tub := 1) W hc (by omega) (by omega) (by simp)
  rw [nx_free1.1, nx_free1.2] at this
  exact this
theorem hours0_is (h : IsTwo 0 [] W v) : Calls Try.prog 26 #[v] W fun e w' => ∃ r, e = .returned (.tuple #[r, .int .i64 0]) ∧ Later W w' ∧ IsPairs (hoursOut (twoH 0 [])) w' r := by
  obtain ⟨A1, k1, A2, k2, A3, k3, rfl, hc, h1, h2, h3⟩ := h
  refine (HoursP_calls (c := twoH 0 []) W hc (by omega) (by omega) (by simp)).mono fun e w' h => ?_
  obtain ⟨A, n, k, e1, hL, hr⟩ := h
  rw [ex_asked0] at e1
  have hn := hr.len
  subst hn
  exact ⟨_, e1, hL, A, k, rfl, hr⟩
theorem paid0_is (h : IsTwo 0 [] W v) : Calls Try.prog 32 #[v] W fun e w' => e = .returned (.tuple #[.int .i64 2, .int .i64 0]) ∧ Later W w' := by
  obtain ⟨A1, k1, A2, k2, A3, k3, rfl, hc, _⟩ := h
  have := PaidP_calls (k1 := k1) (k2 := k2) (k3 := k3) (c := twoH 0 []) W hc (by omega) (by omega) (by simp)
  rw [nx_paid0, ex_asked0] at this
  exact this
theorem paidT_is (h : IsTurned W v) : Calls Try.prog 32 #[v] W fun e w' => e = .returned (.tuple #[.int .i64 3, .int .i64 0]) ∧ Later W w' := by
  obtain ⟨A1, k1, A2, k2, A3, k3, rfl, hc⟩ := h
  have := PaidP_calls (k1 := k1) (k2 := k2) (k3 := k3) (c := turnedH) W hc (by omega) (by omega) (by omega)
  rw [nx_paidT.1, nx_paidT.2] at this
  exact this
theorem leave5_is (h : IsTwo 5 [] W v) : Calls Try.prog 45 #[v] W fun e w' => ∃ A k, e = .returned (.tuple #[.slice A 0 k, .int .i64 0]) ∧ Later W w' := by
  obtain ⟨A1, k1, A2, k2, A3, k3, rfl, hc, _, _, hk⟩ := h
  refine (LeaveP_calls (k1 := k1) (k2 := k2) (k3 := k3) (c := twoH 5 []) W hc (by omega) (by omega) (by simp)).mono fun e w' h => ?_
  obtain ⟨A, n, k, e1, hL, hr, _⟩ := h
  rw [nx_leave5.1] at hr
  rw [nx_leave5.2] at e1
  have hn : n = 0 := hr.len
  subst hn
  exact ⟨A, k, e1, hL⟩
theorem prove_is {g : Int} {more : List Cp} (h : IsTwo g more W v) (hm1 : more.length ≤ 1) (l : List Int) (cs : Array Value) (hcs : cs = (ints l).toArray) (m : Nat) (hm : m = l.length) (hl : l.length ≤ 100) (b : Bool) (hb : truthOut (twoH g more) l = b) :
    Calls Try.prog 66 #[v, .slice (some ⟨W.heap.size, 0, none⟩) m m] (W.alloc (.cells cs 3)) fun e w' => e = .returned (.bool b) ∧ Later W w' := by
  obtain ⟨A1, k1, A2, k2, A3, k3, rfl, hc, _⟩ := h
  subst hcs hm
  have hr : RI (W.alloc (.cells (ints l).toArray 3)) (some ⟨W.heap.size, 0, none⟩) l.length l := (Blk.new _ _ _).reads (xs := ints l) (by rw [ints_length]; omega) fun j u hu => by simpa using hu
  refine (ProveTruth_calls (c := twoH g more) _ (hc.later (later_alloc (later_refl _) _)) hr (by omega) (by omega) (by omega) (by omega)).mono fun e w' h => ?_
  rw [hb] at h
  exact ⟨h.1, later_of_alloc h.2⟩
theorem play6_is (h : IsTwo 5 [] W v) (cs : Array Value) (hcs : cs = #[.int .i64 0, .int .i64 6]) : Calls Try.prog 57 #[v, .slice (some ⟨W.heap.size, 0, none⟩) 2 2] (W.alloc (.cells cs 3)) fun e w' => ∃ r, e = .returned (.tuple #[r, .int .i64 2]) ∧ Later W w' := by
  obtain ⟨A1, k1, A2, k2, A3, k3, rfl, hc, h1, h2, h3⟩ := h
  subst hcs
  have hr : RI (W.alloc (.cells #[.int .i64 0, .int .i64 6] 3)) (some ⟨W.heap.size, 0, none⟩) 2 [0, 6] := (Blk.new _ _ _).reads (xs := ints [0, 6]) rfl fun j u hu => by simpa [ints] using hu
  refine (PlayP_calls (c := twoH 5 []) _ (hc.later (later_alloc (later_refl _) _)) hr (by omega) (by omega) (by simp) (by omega)).mono fun e w' h => ?_
  obtain ⟨A, k, e1, hL, hr⟩ := h
  rw [nx_play6] at e1
  exact ⟨_, e1, later_of_alloc hL⟩
theorem first5_is (h : IsTwo 5 [] W v) : Calls Try.prog 44 #[v] W fun e w' => e = .returned (.tuple #[.int .i64 0, .int .i64 7]) ∧ Later W w' := by
  obtain ⟨A1, k1, A2, k2, A3, k3, rfl, hc, _, _, hk⟩ := h
  have := FirstP_calls (k1 := k1) (k2 := k2) (k3 := k3) (c := twoH 5 []) W hc (by omega) (by omega) (by simp) hk
  rw [nx_first5] at this
  exact this
end
/-! answers of which the error alone is looked at -/
section
variable {A1 A2 A3 : Option Addr} {n1 k1 n2 k2 n3 k3 : Nat} {c : Hou} {W : World} {q : Int}
theorem clashE {a b : Int} (hc : CV W c A1 n1 A2 n2 A3 n3) (h : n1 ≤ 1000 ∧ n2 ≤ 1000 ∧ n3 ≤ 1000) (hq : askedErr c (clashDue c a b) = q) : Calls Try.prog 35 #[(.agg #[.int .i64 c.hour, .int .i64 c.grace, .slice A1 n1 k1, .slice A2 n2 k2, .slice A3 n3 k3]), .int .i64 a, .int .i64 b] W fun e w' => ∃ o, e = .returned (.tuple #[.int .i64 o, .int .i64 q]) ∧ Later W w' :=
  (ClashP_calls (k1 := k1) (k2 := k2) (k3 := k3) W hc h.1 h.2.1 h.2.2).mono fun e w' h => by rw [hq] at h; exact ⟨_, h⟩
theorem freeE {t : Int} (hc : CV W c A1 n1 A2 n2 A3 n3) (h : n1 ≤ 1000 ∧ n2 ≤ 1000 ∧ n3 ≤ 1000) (hq : askedErr c (freeDue c t) = q) : Calls Try.prog 39 #[(.agg #[.int .i64 c.hour, .int .i64 c.grace, .slice A1 n1 k1, .slice A2 n2 k2, .slice A3 n3 k3]), .int .i64 t] W fun e w' => ∃ o, e = .returned (.tuple #[o, .int .i64 q]) ∧ Later W w' :=
  (FreeP_calls (k1 := k1) (k2 := k2) (k3 := k3) W hc h.1 h.2.1 h.2.2).mono fun e w' h => by rw [hq] at h; exact ⟨_, h⟩
theorem hoursE (hc : CV W c A1 n1 A2 n2 A3 n3) (h : n1 ≤ 1000 ∧ n2 ≤ 1000 ∧ n3 ≤ 1000) (hq : askedErr c 0 = q) : Calls Try.prog 26 #[(.agg #[.int .i64 c.hour, .int .i64 c.grace, .slice A1 n1 k1, .slice A2 n2 k2, .slice A3 n3 k3])] W fun e w' => ∃ o, e = .returned (.tuple #[o, .int .i64 q]) ∧ Later W w' :=
  (HoursP_calls (k1 := k1) (k2 := k2) (k3 := k3) W hc h.1 h.2.1 h.2.2).mono fun e w' h => by
    obtain ⟨A, n, k, e1, hL, _⟩ := h
    rw [hq] at e1
    exact ⟨_, e1, hL⟩
theorem lookE (hc : CV W c A1 n1 A2 n2 A3 n3) (h : n1 ≤ 1000 ∧ n2 ≤ 1000 ∧ n3 ≤ 1000) (hq : lookErr c = q) : Calls Try.prog 42 #[(.agg #[.int .i64 c.hour, .int .i64 c.grace, .slice A1 n1 k1, .slice A2 n2 k2, .slice A3 n3 k3])] W fun e w' => ∃ o p, e = .returned (.tuple #[.int .i64 o, .int .i64 p, .int .i64 q]) ∧ Later W w' :=
  (LookP_calls (k1 := k1) (k2 := k2) (k3 := k3) W hc h.1 h.2.1 h.2.2).mono fun e w' h => by rw [hq] at h; exact ⟨_, _, h⟩
end
theorem bare_cv (h : Int) (W : World) : CV W (bareH h) none 0 none 0 none 0 := ⟨Reads.none_, Reads.none_, Reads.none_⟩
theorem check_n {lo hi : Nat} {c : Hou} {n1 n2 n3 : Nat} {v : Value} {W : World} {q : Int} (h : HouN lo hi c n1 n2 n3 v W) (hn : n1 ≤ 1000 ∧ n2 ≤ 1000 ∧ n3 ≤ 1000) (hq : fault c = q) : Calls Try.prog 67 #[v] W fun e w' => e = .returned (.int .i64 q) ∧ Later W w' := by
  obtain ⟨A1, k1, A2, k2, A3, k3, rfl, hc, _⟩ := h
  exact CheckHouse_eq (k1 := k1) (k2 := k2) (k3 := k3) W hc hq hn.1 hn.2.1 hn.2.2
end Go.Proofs.Ytbkfnajpbhfneaa

/- TicketNames: two with one more clip. -/
namespace Go.Proofs.Ytbkfnajpbhfneaa
open Go Go.RowKit
theorem two1_five (w : World) : Calls Try.prog 71 #[.int .i64 5, .slice (some ⟨w.heap.size, 0, none⟩) 1 1] (w.alloc (.cells #[.int .i64 2, .int .i64 0, .int .i64 360] 101)) fun e w' =>
    ∃ A1 k1 A2 k2 A3 k3, e = .returned (.agg #[.int .i64 60, .int .i64 5, .slice A1 2 k1, .slice A2 3 k2, .slice A3 5 k3]) ∧ Later w w' ∧ CV w' (twoH 5 [lateC]) A1 2 A2 3 A3 5 :=
  (two1_is 5 w).mono fun _ _ ⟨v, e, hL, A1, k1, A2, k2, A3, k3, hv, hc, _⟩ => ⟨A1, k1, A2, k2, A3, k3, by rw [e, hv]; rfl, hL, hc⟩
def Two1New (g : Int) (x : Cp) (w : World) (e : Ending) (w' : World) : Prop :=
  ∃ A1 k1 A2 k2 A3 k3, e = .returned (.agg #[.int .i64 60, .int .i64 g, .slice A1 2 k1, .slice A2 3 k2, .slice A3 (4 + 1) k3]) ∧ Later w w' ∧ CV w' (twoH g [x]) A1 2 A2 3 A3 (4 + 1) ∧ ∀ b o, (A1 = some ⟨b, o, none⟩ ∨ A2 = some ⟨b, o, none⟩ ∨ A3 = some ⟨b, o, none⟩) → w.heap.size ≤ b ∧ b < w'.heap.size
attribute [local go_sem] later_alloc2 later_alloc3 later_alloc4 build_house
set_option maxRecDepth 100000 in
set_option maxHeartbeats 1000000 in
theorem two1_new (gr : Int) (x : Cp) (q : Nat) (w : World) (hq : Blk w q 101 #[.int .i64 x.ticket, .int .i64 x.clock, .int .i64 x.minute]) :
    Calls Try.prog 71 #[.int .i64 gr, .slice (some ⟨q, 0, none⟩) 1 1] w (Two1New gr x w) := by
  obtain ⟨W0, hW0⟩ : ∃ X, X = w.alloc (.cells #[.int .i64 0, .int .i64 0, .slice none 0 0, .slice none 0 0, .slice none 0 0] 36) := ⟨_, rfl⟩
  obtain ⟨W1, hW1⟩ : ∃ X, X = W0.alloc (.cells (clipsV fourClips).toArray 101) := ⟨_, rfl⟩
  have hs0 : W0.heap.size = w.heap.size + 1 := by rw [hW0]; simp
  have hL0 : Later w W0 := by rw [hW0]; exact later_alloc (later_refl _) _
  have hL01 : Later W0 W1 := by rw [hW1]; exact later_alloc (later_refl _) _
  have hL1 := Later.trans hL0 hL01
  have kr0 : Blk W0 w.heap.size 36 #[.int .i64 0, .int .i64 0, .slice none 0 0, .slice none 0 0, .slice none 0 0] := by rw [hW0]; exact Blk.new _ _ _
  have kr := kr0.later hL01
  have hown : W1.ownsRow (w.heap.size + 1) 101 3 (.slice (some ⟨w.heap.size + 1, 0, none⟩) 4 4) 4 (clipsV fourClips) := by
    have := World.ownsRow_lit (base := w.heap.size + 1) (e := 101) (size := 3) W0 (clipsV fourClips).toArray 4 (by omega) (by unfold maxLen; omega) rfl
    rw [hs0] at this
    rw [hW1]; exact this
  have hq1 := fun W (h : Later W1 W) => hq.later (Later.trans hL1 h)
  have HW0 := hide hW0
  have HW1 := hide hW1
  have Hown := hide hown
  have Hq := hide hq1
  have Hkr := hide kr
  have hs1 : W1.heap.size = w.heap.size + 2 := by rw [hW1]; simp [hs0]
  have Hs1 := hide hs1
  have Hs0 := hide hs0
  clear hW0 hW1 hown hq1 hq kr kr0 hs0 hs1
  go_enter Try.func71, Try.ntmps71
  go_upto_region 2 with fail
  rw [← HW0.out, show W0.alloc (.cells #[.int .i64 0, .int .i64 0, .int .i64 300, .int .i64 0, .int .i64 1, .int .i64 366, .int .i64 1, .int .i64 0, .int .i64 365, .int .i64 1, .int .i64 1, .int .i64 488] 101) = W1 from HW1.out.symm]
  go_wp2_with fail
  refine (lawBetween_calls 0 0 _).mono ?_
  rintro e w2 ⟨rfl, hL2⟩
  go_wp2_with fail
  refine (lawBetween_calls (-5) 5 _).mono ?_
  rintro e w3 ⟨rfl, hL3⟩
  have hL13 := Later.trans hL2 hL3
  have hbs : w.heap.size + 1 ≤ w3.heap.size := by have := Hs1.out; have := hL13.size; omega
  go_wp2_with (at_builtin; refine appG rfl (w.heap.size + 1) _ _ 34 rfl 101 (.agg #[.int .i64 0, .int .i64 0, .int .i64 0]) 3 24 Try.underlying34 clip_info rfl (by omega) (.slice (some ⟨w.heap.size + 1, 0, none⟩) 4 4) 4 (clipsV fourClips) rfl (by simp; omega) (own_later2 Hown.out (later_alloc (later_alloc hL13 _) _)) ⟨q, 0, none⟩ 1 1 [.int .i64 x.ticket, .int .i64 x.clock, .int .i64 x.minute] rfl rfl (Blk.one (Hq.out _ (later_alloc (later_alloc hL13 _) _))) (by simp [Value.oneCell']) (by omega) (by omega) (by omega) ?_)
  intro v' w6 hap
  generalize hw4 : w3.alloc _ = w4 at hap
  generalize hw5 : w4.alloc _ = w5 at hap
  have hs4 : w4.heap.size = w3.heap.size + 1 := by rw [← hw4]; simp
  have hL34 : Later w3 w4 := by rw [← hw4]; exact later_alloc (later_refl _) _
  have hL45 : Later w4 w5 := by rw [← hw5]; exact later_alloc (later_refl _) _
  have kr4 : Blk w4 w3.heap.size 42 (pairsV [(0, 0), (-5, 5)]).toArray := by rw [← hw4]; exact Blk.new _ _ _
  have kt5 : Blk w5 (w3.heap.size + 1) 103 (pairsV [(0, 1), (0, 2), (1, 0)]).toArray := by rw [← hs4, ← hw5]; exact Blk.new _ _ _
  have kr5 := kr4.later hL45
  have hL15 := Later.trans hL13 (Later.trans hL34 hL45)
  have hown5 := own_later2 Hown.out hL15
  have hL06 : Later W0 w6 := AppG.later (by rw [Hs0.out]; exact hap) (Later.trans hL01 hL15) (by rw [Hs0.out]; exact hown5)
  have hapo := hap.own
  rw [← Hs0.out] at hapo
  obtain ⟨A', c', hv', hrd⟩ := own_slice hapo
  subst hv'
  have hcp := own_cap hap.own
  have hno : ∀ b, (Value.slice (some ⟨w.heap.size + 1, 0, none⟩) 4 4).ownBlock = some b → b = w.heap.size + 1 := fun b e => by injection e with e; exact e.symm
  have hg := fun b (hb : b < w5.heap.size) (hn : b ≠ w.heap.size + 1) => hap.grown.block b hb (fun e => hn (hno b e.symm))
  have hs3 := hL13.size
  have hs1 := Hs1.out
  have kr6 : Blk w6 w3.heap.size 42 (pairsV [(0, 0), (-5, 5)]).toArray := Blk.of_eq (hg _ kr5.lt (by omega)) kr5
  have kt6 : Blk w6 (w3.heap.size + 1) 103 (pairsV [(0, 1), (0, 2), (1, 0)]).toArray := Blk.of_eq (hg _ kt5.lt (by omega)) kt5
  have kh5 := Hkr.out.later hL15
  have kh6 : Blk w6 w.heap.size 36 #[.int .i64 0, .int .i64 0, .slice none 0 0, .slice none 0 0, .slice none 0 0] := Blk.of_eq (hg _ kh5.lt (by omega)) kh5
  have Hr6 := hide (kr6.reads (size := 2) (n := 2) (xs := pairsV [(0, 0), (-5, 5)]) rfl fun j u hu => by simpa using hu)
  have Ht6 := hide (kt6.reads (size := 2) (n := 3) (xs := pairsV [(0, 1), (0, 2), (1, 0)]) rfl fun j u hu => by simpa using hu)
  have Hlt := hide (And.intro kr6.lt kt6.lt)
  have Hkh := hide kh6
  have hke := kh6.row #[.int .i64 60, .int .i64 gr, .slice (some ⟨w3.heap.size, 0, none⟩) 2 2, .slice (some ⟨w3.heap.size + 1, 0, none⟩) 3 3, .slice A' (4 + 1) c']
  have Hke := hide hke
  have Hrd := hide hrd
  have HL06 := hide hL06
  have Hcp := hide hcp
  have Hfr := hide (own_fresh (w0 := W0) (by rw [Hs0.out]; exact hap.own))
  have Hapo := hide hapo
  clear hap hapo hg hno kr6 kt6 kh6 kr4 kt5 kr5 kh5 hown5 hw4 hw5 hke hrd hL06 hs1 hcp
  go_wp2_with (refine wpList_store_row rfl _ _ _ rfl w.heap.size _ rfl rfl _ _ Hkh.out (by kernel_rfl) rfl (by simp [Value.oneCell']) ?_)
  have hs0 := Hs0.out
  have hk6 := ((Kept.refl w.heap.size w6).setRow #[.int .i64 60, .int .i64 gr, .slice (some ⟨w3.heap.size, 0, none⟩) 2 2, .slice (some ⟨w3.heap.size + 1, 0, none⟩) 3 3, .slice A' (4 + 1) c'])
  have hs1 := Hs1.out
  refine bodyPost_ret (results_cell_row (P := Try.prog) (fn := Try.f71) (p := 4) (ty := 36) (by kernel_rfl) _ _ w.heap.size _ _ _ _ rfl Hke.out Try.underlying36 (by kernel_rfl) (by kernel_rfl)) rfl ⟨_, _, _, _, _, _, rfl, later_setRow (Later.trans hL0 HL06.out) (Nat.le_refl _) _, ⟨?_, ?_, ?_⟩, fun b o h => ?_⟩
  · exact Reads.kept Hr6.out (by omega) (fun b o e => by injection e with e; injection e with e _; omega) hk6
  · exact Reads.kept Ht6.out (by omega) (fun b o e => by injection e with e; injection e with e _; omega) hk6
  · exact Reads.kept (show Reads w6 w6.heap.size 3 A' (4 + 1) (clipsV (fourClips ++ [x])) from by rw [clipsV_snoc]; exact Hrd.out) (by omega) (fun b o e => by have := (Hfr.out b o e).1; omega) hk6
  · have hlt := Hlt.out
    have hsz : (w6.setRow w.heap.size #[.int .i64 60, .int .i64 gr, .slice (some ⟨w3.heap.size, 0, none⟩) 2 2, .slice (some ⟨w3.heap.size + 1, 0, none⟩) 3 3, .slice A' (4 + 1) c']).heap.size = w6.heap.size := by simp
    rw [hsz]
    rcases h with h | h | h
    · injection h with h; injection h with h _; omega
    · injection h with h; injection h with h _; omega
    · have := Hfr.out b o h; omega
/-- two with the clip of the third ticket: in blocks of its own -/
theorem two3_new (w : World) : Calls Try.prog 71 #[.int .i64 5, .slice (some ⟨w.heap.size, 0, none⟩) 1 1] (w.alloc (.cells #[.int .i64 0, .int .i64 0, .int .i64 500] 101)) fun e w' =>
    ∃ v, e = .returned v ∧ Later w w' ∧ HouN w.heap.size w'.heap.size (twoH 5 [thirdC]) 2 3 5 v w' :=
  (two1_new 5 thirdC w.heap.size _ (Blk.new _ _ _)).mono fun _ _ ⟨A1, k1, A2, k2, A3, k3, e, hL, hc, hb⟩ => ⟨_, e, later_of_alloc hL, A1, k1, A2, k2, A3, k3, rfl, hc, fun b o h => by have := hb b o h; rw [World.size_alloc] at this; omega⟩
theorem make_clips11 (W : World) : (Instr.makeSlice 34 (.int .i64 11) (.int .i64 11)).run Try.prog W = .ok (.slice (some ⟨W.heap.size, 0, none⟩) 11 11) (W.alloc (.cells (clipsV manyH.clips).toArray 101)) := by kernel_rfl
end Go.Proofs.Ytbkfnajpbhfneaa

/- Rows of blocks of one type: a store changes one of them. -/
namespace Go.Proofs.Ytbkfnajpbhfneaa
open Go Go.RowKit
theorem Blk.apart {w : World} {g g' : Nat} {t t' : TypeId} {cs cs' : Array Value} (h : Blk w g t cs) (h' : Blk w g' t' cs') (ht : t ≠ t') : g ≠ g' := fun e => by
  subst e
  unfold Blk at h h'
  rw [h] at h'
  injection h' with h'
  injection h' with _ h'
  exact ht h'
/-- blocks of one type, the elder ones first -/
structure Rows (W : World) (t : TypeId) (l : List (Nat × Array Value)) : Prop where
  inc : l.Pairwise fun x y => x.1 < y.1
  blk : ∀ x ∈ l, Blk W x.1 t x.2
section
variable {W X : World} {t t' : TypeId} {l : List (Nat × Array Value)} {b : Nat} {cs : Array Value}
theorem Rows.nil (W : World) (t : TypeId) : Rows W t [] := ⟨List.Pairwise.nil, fun x hx => by cases hx⟩
theorem Rows.get (h : Rows W t l) (j : Nat) (hj : l[j]? = some (b, cs)) : Blk W b t cs := h.blk _ (List.mem_of_getElem? hj)
theorem Rows.later (h : Rows W t l) (k : Later W X) : Rows X t l := ⟨h.inc, fun x hx => (h.blk x hx).later k⟩
theorem Rows.grow (h : Rows W t l) (k : Later W X) (hb : Blk X b t cs) (hlo : W.heap.size ≤ b) : Rows X t (l ++ [(b, cs)]) :=
  ⟨List.pairwise_append.2 ⟨h.inc, List.pairwise_singleton _ _, fun x hx y hy => by
    have := (h.blk x hx).lt
    rw [List.mem_singleton.1 hy]
    exact Nat.lt_of_lt_of_le this hlo⟩, fun x hx => by
    rcases List.mem_append.1 hx with hx | hx
    · exact (h.blk x hx).later k
    · rw [List.mem_singleton.1 hx]; exact hb⟩
theorem Rows.other (h : Rows W t l) (hb : Blk W b t' cs) (ht : t ≠ t') (i : Nat) (u : Value) : Rows (W.setCell ⟨b, i, Option.none⟩ u) t l :=
  ⟨h.inc, fun x hx => Blk.far (p := (⟨b, i, Option.none⟩ : Addr)) (h.blk x hx) ((h.blk x hx).apart hb ht) u⟩
theorem Rows.store (h : Rows W t l) (j : Nat) (hj : l[j]? = some (b, cs)) (i : Nat) (u : Value) : Rows (W.setCell ⟨b, i, Option.none⟩ u) t (l.set j (b, cs.setIfInBounds i u)) := by
  have hjl := (List.getElem?_eq_some_iff.1 hj).1
  have hk := List.pairwise_iff_getElem.1 h.inc
  have hb := h.get j hj
  refine ⟨?_, fun x hx => ?_⟩
  · rw [List.pairwise_iff_getElem]
    intro p q hp hq hpq
    have hp' : p < l.length := by simpa using hp
    have hq' : q < l.length := by simpa using hq
    have key : ∀ (m : Nat) (hm : m < (l.set j (b, cs.setIfInBounds i u)).length), ((l.set j (b, cs.setIfInBounds i u))[m]).1 = (l[m]'(by simpa using hm)).1 := fun m hm => by
      rw [List.getElem_set]
      split
      · rename_i e
        subst e
        have := (List.getElem?_eq_some_iff.1 hj).2
        rw [this]
      · rfl
    rw [key p hp, key q hq]
    exact hk p q hp' hq' hpq
  · obtain ⟨m, hm, rfl⟩ := List.mem_iff_getElem.1 hx
    rw [List.getElem_set]
    have hm' : m < l.length := by simpa using hm
    split
    · exact hb.set_ i u
    · rename_i hne
      have hx := h.get m (List.getElem?_eq_getElem hm')
      refine Blk.far (p := (⟨b, i, Option.none⟩ : Addr)) hx ?_ u
      have he := (List.getElem?_eq_some_iff.1 hj).2
      rcases Nat.lt_or_gt_of_ne hne with hlt | hlt
      · have := hk j m hjl hm' hlt
        rw [he] at this
        exact fun e => by have e' : (l[m]'hm').1 = b := e; rw [e'] at this; exact Nat.lt_irrefl _ this
      · have := hk m j hm' hjl hlt
        rw [he] at this
        exact fun e => by have e' : (l[m]'hm').1 = b := e; rw [e'] at this; exact Nat.lt_irrefl _ this
end
end Go.Proofs.Ytbkfnajpbhfneaa

/- TicketNames: CheckHouse of a house of three blocks. -/
namespace Go.Proofs.Ytbkfnajpbhfneaa
open Go Go.RowKit
theorem Blk.to {W : World} {g : Nat} {t : TypeId} {cs ds : Array Value} (k : Blk W g t cs) (h : cs = ds) : Blk W g t ds := h ▸ k
theorem Blk.neT {w : World} {g g' : Nat} {t t' : TypeId} {cs cs' : Array Value} (h : Blk w g t cs) (h' : Blk w g' t' cs') (ht : t ≠ t') : g ≠ g' := fun e => by
  subst e
  unfold Blk at h h'
  rw [h] at h'
  injection h' with h'
  injection h' with _ h'
  exact ht h'
theorem chk_hou (c : Hou) {a1 a2 a3 : Nat} {k1 k2 k3 n1 n2 n3 : Nat} {W : World} {h g q : Int} {d1 d2 d3 : Array Value} (hq : fault c = q) (hh : c.hour = h) (hg : c.grace = g)
    (h1 : Blk W a1 42 d1) (h2 : Blk W a2 103 d2) (h3 : Blk W a3 101 d3) (f1 : d1 = (pairsV c.clocks).toArray) (f2 : d2 = (pairsV c.tickets).toArray) (f3 : d3 = (clipsV c.clips).toArray)
    (e1 : c.clocks.length = n1) (e2 : c.tickets.length = n2) (e3 : c.clips.length = n3) (hn : n1 ≤ 1000 ∧ n2 ≤ 1000 ∧ n3 ≤ 1000) :
    Calls Try.prog 67 #[.agg #[.int .i64 h, .int .i64 g, .slice (some ⟨a1, 0, none⟩) n1 k1, .slice (some ⟨a2, 0, none⟩) n2 k2, .slice (some ⟨a3, 0, none⟩) n3 k3]] W fun e w' => e = .returned (.int .i64 q) ∧ Later W w' := by
  subst hh hg f1 f2 f3
  exact check_n (hou_of (lo := 0) (hi := a1 + a2 + a3 + 1) h1 h2 h3 e1 e2 e3 (by omega) (by omega) (by omega)) hn hq
end Go.Proofs.Ytbkfnajpbhfneaa

/- A function's text from one of its regions on: what stands there, and what follows. -/
namespace Go.Proofs.Ytbkfnajpbhfneaa
open Go
def startsC (n : Nat) : Code → Bool
  | .region m _ _ => m == n
  | .seq a _ => startsC n a
  | _ => false
def splitC (n : Nat) : Code → Option (Code × Code)
  | .seq a b => if startsC n a then some (a, b) else splitC n b
  | _ => none
def headC (n : Nat) (f : Func) : Code := match f.body with
  | some c => match splitC n c with
    | some p => p.1
    | none => .skip
  | none => .skip
def restC (n : Nat) (f : Func) : Code := match f.body with
  | some c => match splitC n c with
    | some p => p.2
    | none => .skip
  | none => .skip
end Go.Proofs.Ytbkfnajpbhfneaa
