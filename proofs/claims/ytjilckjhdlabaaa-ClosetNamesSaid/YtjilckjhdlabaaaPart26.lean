/- Part 26 of the proof: joined from the texts NamF, TwoN, FactsB, Rset, NamG, TailC. -/
import Derived.Test.YtjilckjhdlabaaaPart8
import Derived.Test.YtjilckjhdlabaaaPart12
import Derived.Test.YtjilckjhdlabaaaPart19
import Derived.Test.YtjilckjhdlabaaaPart1
set_option linter.unusedSimpArgs false
set_option linter.unusedVariables false
/- The document's examples: the answers of the calls that ClosetNames makes. -/
namespace Go.Proofs.Ytjilckjhdlabaaa
open Go Go.RowKit

def small (c : Clo) : Bool := decide (-9223372036854775808 ≤ c.closets ∧ c.closets ≤ 9223372036854775807) && (decide (c.horses.length ≤ 100) && (decide (c.hung.length ≤ 100) && decide (c.looks.length ≤ 100)))
theorem small_out {c : Clo} (h : small c = true) : i64 c.closets ∧ c.horses.length ≤ 1000 ∧ c.hung.length ≤ 1000 ∧ c.looks.length ≤ 1000 := by
  unfold small at h
  simp only [Bool.and_eq_true, decide_eq_true_eq] at h
  obtain ⟨h1, h2, h3, h4⟩ := h
  refine ⟨?_, by omega, by omega, by omega⟩
  unfold i64; omega
/-- v reads as the closet c -/
def IsC (c : Clo) (W : World) (v : Value) : Prop :=
  ∃ A1 k1 A2 k2 A3 k3, v = .agg #[.int .i64 c.closets, .int .i64 c.close, .slice A1 c.horses.length k1, .slice A2 c.hung.length k2, .slice A3 c.looks.length k3] ∧
    CV W c A1 c.horses.length A2 c.hung.length A3 c.looks.length ∧ c.hung.length ≤ k2 ∧ c.looks.length ≤ k3
theorem IsC.later {c : Clo} {W X : World} {v : Value} (h : IsC c W v) (k : Later W X) : IsC c X v := by
  obtain ⟨A1, k1, A2, k2, A3, k3, e, hc, h1, h2⟩ := h
  exact ⟨A1, k1, A2, k2, A3, k3, e, hc.later k, h1, h2⟩
theorem twoC_len (s : Nat) (g : Int) (hs : s ≤ 3) : (twoC s g).looks.length = s := by
  show (twoLooks.take s).length = s
  rw [List.length_take]
  have : twoLooks.length = 3 := rfl
  omega
theorem IsTwo.isC {s : Nat} {g : Int} {W : World} {v : Value} (h : IsTwo s g W v) (hs : s ≤ 3) : IsC (twoC s g) W v := by
  obtain ⟨A1, k1, A2, k2, A3, k3, e, hc, h1, h2⟩ := h
  have := twoC_len s g hs
  refine ⟨A1, k1, A2, k2, A3, k3, ?_, ?_, h1, by rw [this]; exact h2⟩
  · rw [this]; exact e
  · rw [this]; exact hc
theorem two_c (s : Nat) (g : Int) (w : World) (hs : s ≤ 3) : Calls Try.prog 78 #[.int .i64 s, .int .i64 g] w fun e w' => ∃ v, e = .returned v ∧ Later w w' ∧ IsC (twoC s g) w' v :=
  (two_is s g w hs).mono fun _ _ ⟨v, e, hL, h⟩ => ⟨v, e, hL, h.isC hs⟩
section
variable {W : World} {v p d : Value} {c : Clo} {l m : List Int}
theorem play_c (h : IsC c W v) (hp : IsList l W p) (hd : IsList m W d) (sm : small c = true) (hl : l.length ≤ 100) (hm : m.length ≤ 100) {r : List Int} {q : Int} (hr : playL c l m = r) (hq : playErr c l m = q) :
    Calls Try.prog 48 #[v, p, d] W fun e w' => ∃ y, e = .returned (.tuple #[y, .int .i64 q]) ∧ Later W w' ∧ IsList r w' y := by
  obtain ⟨A1, k1, A2, k2, A3, k3, rfl, hc, h1, h2⟩ := h
  obtain ⟨Ap, kp, rfl, hp, hkp⟩ := hp
  obtain ⟨Ad, kd, rfl, hd, hkd⟩ := hd
  obtain ⟨s1, s2, s3, s4⟩ := small_out sm
  refine (PlayP_calls (c := c) W hc s1 s2 s3 s4 h1 hp hkp (by omega) hd (by omega)).mono fun e w' h => ?_
  obtain ⟨A, n, k, e1, hL, hr', hk⟩ := h
  rw [hr] at hr'
  rw [hq] at e1
  obtain rfl : r.length = n := hr'.len.symm
  exact ⟨_, e1, hL, A, k, rfl, hr', hk⟩
theorem bounds_c (h : IsC c W v) (hp : IsList l W p) (sm : small c = true) (hl : l.length ≤ 100) {r : List (Int × Int)} {q : Int} (hr : boundsOut c l = r) (hq : askedErr c (isPlaceB c l) = q) :
    Calls Try.prog 65 #[v, p] W fun e w' => ∃ A k, e = .returned (.tuple #[.slice A r.length k, .int .i64 q]) ∧ Later W w' ∧ RG w' A r.length r := by
  obtain ⟨A1, k1, A2, k2, A3, k3, rfl, hc, h1, h2⟩ := h
  obtain ⟨Ap, kp, rfl, hp, hkp⟩ := hp
  obtain ⟨s1, s2, s3, s4⟩ := small_out sm
  refine (BoundsP_calls (c := c) W hc s1 s2 s3 s4 h1 hp hkp (by omega)).mono fun e w' h => ?_
  obtain ⟨A, n, k, e1, hL, hr'⟩ := h
  rw [hr] at hr'
  rw [hq] at e1
  obtain rfl : r.length = n := hr'.len.symm
  exact ⟨A, k, e1, hL, hr'⟩
theorem right_c {h m : Int} (hv : IsC c W v) (hp : IsList l W p) (sm : small c = true) (hl : l.length ≤ 100) {x q : Int} (hr : rightOut c l h m = (x, q)) :
    Calls Try.prog 66 #[v, p, .int .i64 h, .int .i64 m] W fun e w' => e = .returned (.tuple #[.int .i64 x, .int .i64 q]) ∧ Later W w' := by
  obtain ⟨A1, k1, A2, k2, A3, k3, rfl, hc, h1, h2⟩ := hv
  obtain ⟨Ap, kp, rfl, hp, hkp⟩ := hp
  obtain ⟨s1, s2, s3, s4⟩ := small_out sm
  have := RightP_calls (k1 := k1) (k2 := k2) (k3 := k3) (c := c) (h := h) (m := m) W hc s1 s2 s3 s4 h1 hp hkp (by omega)
  rw [hr] at this
  exact this
theorem good_c {h : Int} (hv : IsC c W v) (hp : IsList l W p) (sm : small c = true) (hl : l.length ≤ 100) {x y q : Int} (hr : goodOut c l h = (x, y, q)) :
    Calls Try.prog 54 #[v, p, .int .i64 h] W fun e w' => e = .returned (.tuple #[.agg #[.int .i64 x, .int .i64 y], .int .i64 q]) ∧ Later W w' := by
  obtain ⟨A1, k1, A2, k2, A3, k3, rfl, hc, h1, h2⟩ := hv
  obtain ⟨Ap, kp, rfl, hp, hkp⟩ := hp
  obtain ⟨s1, s2, s3, s4⟩ := small_out sm
  have := GoodP_calls (k1 := k1) (k2 := k2) (k3 := k3) (c := c) (h := h) W hc s1 s2 s3 s4 h1 hp hkp (by omega)
  rw [hr] at this
  exact this
theorem best_c (hv : IsC c W v) (sm : small c = true) {r : List Int} {x q : Int} (hr : bestOut c = (r, x, q)) :
    Calls Try.prog 49 #[v] W fun e w' => ∃ y, e = .returned (.tuple #[y, .int .i64 x, .int .i64 q]) ∧ Later W w' ∧ IsList r w' y := by
  obtain ⟨A1, k1, A2, k2, A3, k3, rfl, hc, h1, h2⟩ := hv
  obtain ⟨s1, s2, s3, s4⟩ := small_out sm
  refine (BestP_calls (c := c) W hc s1 s2 s3 s4 h1).mono fun e w' h => ?_
  obtain ⟨A, n, k, e1, hL, hr', hk⟩ := h
  rw [hr] at hr' e1
  obtain rfl : r.length = n := hr'.len.symm
  exact ⟨_, e1, hL, A, k, rfl, hr', hk⟩
theorem stuck_c (hv : IsC c W v) (hp : IsList l W p) (sm : small c = true) (hl : l.length ≤ 100) {x q : Int} (hr : stuckOut c l = (x, q)) :
    Calls Try.prog 25 #[v, p] W fun e w' => e = .returned (.tuple #[.int .i64 x, .int .i64 q]) ∧ Later W w' := by
  obtain ⟨A1, k1, A2, k2, A3, k3, rfl, hc, h1, h2⟩ := hv
  obtain ⟨Ap, kp, rfl, hp, hkp⟩ := hp
  obtain ⟨s1, s2, s3, s4⟩ := small_out sm
  have := StuckP_calls (k1 := k1) (k2 := k2) (k3 := k3) (c := c) W hc s1 s2 s3 s4 h1 hp hkp (by omega)
  rw [hr] at this
  exact this
theorem ask_c (hv : IsC c W v) (sm : small c = true) {x y z q : Int} (hr : askOut c = (x, y, z, q)) :
    Calls Try.prog 31 #[v] W fun e w' => e = .returned (.tuple #[.int .i64 x, .int .i64 y, .int .i64 z, .int .i64 q]) ∧ Later W w' := by
  obtain ⟨A1, k1, A2, k2, A3, k3, rfl, hc, h1, h2⟩ := hv
  obtain ⟨s1, s2, s3, s4⟩ := small_out sm
  have := AskP_calls (k1 := k1) (k2 := k2) (k3 := k3) (c := c) W hc s1 s2 s3 s4 h1
  rw [hr] at this
  exact this
theorem first_c (hv : IsC c W v) (sm : small c = true) {x q : Int} (hr : firstOut c = (x, q)) :
    Calls Try.prog 34 #[v] W fun e w' => e = .returned (.tuple #[.int .i64 x, .int .i64 q]) ∧ Later W w' := by
  obtain ⟨A1, k1, A2, k2, A3, k3, rfl, hc, h1, h2⟩ := hv
  obtain ⟨s1, s2, s3, s4⟩ := small_out sm
  have := FirstP_calls (k1 := k1) (k2 := k2) (k3 := k3) (c := c) W hc s1 s2 s3 s4 h1 h2
  rw [hr] at this
  exact this
theorem truth_c (hv : IsC c W v) (hp : IsList l W p) (sm : small c = true) (hl : l.length ≤ 100) {b : Bool} (hr : truthOut c l = b) :
    Calls Try.prog 57 #[v, p] W fun e w' => e = .returned (.bool b) ∧ Later W w' := by
  obtain ⟨A1, k1, A2, k2, A3, k3, rfl, hc, h1, h2⟩ := hv
  obtain ⟨Ap, kp, rfl, hp, hkp⟩ := hp
  obtain ⟨s1, s2, s3, s4⟩ := small_out sm
  have := ProveTruth_calls (k1 := k1) (k2 := k2) (k3 := k3) (kd := kp) (c := c) W hc s1 s2 s3 s4 h1 hp (by omega)
  rw [hr] at this
  exact this
theorem place_c {n : Int} (hv : IsC c W v) (hp : IsList l W p) (sm : small c = true) (hl : l.length ≤ 100) {b : Bool} (hr : placeOut c l n = b) :
    Calls Try.prog 61 #[v, p, .int .i64 n] W fun e w' => e = .returned (.bool b) ∧ Later W w' := by
  obtain ⟨A1, k1, A2, k2, A3, k3, rfl, hc, h1, h2⟩ := hv
  obtain ⟨Ap, kp, rfl, hp, hkp⟩ := hp
  obtain ⟨s1, s2, s3, s4⟩ := small_out sm
  have := ProvePlace_calls (k1 := k1) (k2 := k2) (k3 := k3) (kp := kp) (n := n) (c := c) W hc s1 s2 s3 s4 h1 hp hkp (by omega)
  rw [hr] at this
  exact this
theorem check_c (hv : IsC c W v) (sm : small c = true) {q : Int} (hr : fault c = q) :
    Calls Try.prog 58 #[v] W fun e w' => e = .returned (.int .i64 q) ∧ Later W w' := by
  obtain ⟨A1, k1, A2, k2, A3, k3, rfl, hc, h1, h2⟩ := hv
  obtain ⟨s1, s2, s3, s4⟩ := small_out sm
  exact CheckCloset_eq (k1 := k1) (k3 := k3) W hc hr s1 s2 s3 s4 h1
end
def smallC : Clo := { twoC 0 4 with closets := 2 }
theorem nx1 : playL (twoC 0 4) [0, 2] [21, 33] = [21, 33] := by kernel_rfl
theorem nx2 : playErr (twoC 0 4) [0, 2] [21, 33] = 0 := by kernel_rfl
theorem nx3 : boundsOut (twoC 0 4) [0, 1] = [(24, 26), (33, 36)] := by kernel_rfl
theorem nx4 : askedErr (twoC 0 4) (isPlaceB (twoC 0 4) [0, 1]) = 0 := by kernel_rfl
theorem nx5 : boundsOut (twoC 0 4) [2, 0] = [(20, 22), (30, 33)] := by kernel_rfl
theorem nx6 : askedErr (twoC 0 4) (isPlaceB (twoC 0 4) [2, 0]) = 0 := by kernel_rfl
theorem nx7 : rightOut (twoC 0 4) [0, 1] 0 27 = (1, 0) := by kernel_rfl
theorem nx8 : rightOut (twoC 0 4) [0, 1] 0 40 = (2, 0) := by kernel_rfl
theorem nx9 : goodOut (twoC 0 4) [0, 1] 0 = (26, 29, 0) := by kernel_rfl
theorem nx10 : bestOut smallC = ([0, 1], 36, 0) := by kernel_rfl
theorem nx11 : stuckOut (twoC 0 4) [0, 2] = (0, 7) := by kernel_rfl
theorem nx12 : bestOut (twoC 0 2) = ([], 0, 10) := by kernel_rfl
theorem nx13 : goodOut (twoC 1 2) [0, 1] 1 = (35, 35, 0) := by kernel_rfl
theorem nx14 : truthOut (twoC 2 4) [20, 32] = true := by kernel_rfl
theorem nx15 : truthOut (twoC 2 4) [20, 31] = false := by kernel_rfl
theorem nx16 : truthOut (twoC 0 4) [20, 34] = false := by kernel_rfl
theorem nx17 : placeOut (twoC 0 4) [0, 1] 36 = true := by kernel_rfl
theorem nx18 : placeOut (twoC 0 4) [0, 1] 35 = false := by kernel_rfl
theorem nx19 : placeOut (twoC 0 2) [0, 2] 99 = false := by kernel_rfl
theorem nx20 : placeOut (twoC 0 4) [1, 1] 99 = false := by kernel_rfl
theorem nx21 : placeOut (twoC 3 4) [0, 1] 99 = false := by kernel_rfl
theorem nx22 : playL (twoC 0 4) [0, 1] [21, 34] = [] := by kernel_rfl
theorem nx23 : playErr (twoC 0 4) [0, 1] [21, 34] = 2 := by kernel_rfl
theorem nx24 : playL (twoC 0 4) [0, 3] [21, 33] = [] := by kernel_rfl
theorem nx25 : playErr (twoC 0 4) [0, 3] [21, 33] = 2 := by kernel_rfl
theorem nx26 : rightOut (twoC 3 4) [0, 1] 2 9 = (0, 2) := by kernel_rfl
theorem nx27 : rightOut (twoC 3 4) [0, 1] 0 100 = (0, 2) := by kernel_rfl
theorem nx28 : goodOut (twoC 0 2) [0, 1] 1 = (0, 0, 10) := by kernel_rfl
theorem nx29 : boundsOut (twoC 3 4) [0, 1] = [] := by kernel_rfl
theorem nx30 : askedErr (twoC 3 4) (isPlaceB (twoC 3 4) [0, 1]) = 11 := by kernel_rfl
theorem nx31 : stuckOut (twoC 3 4) [0] = (0, 2) := by kernel_rfl
def oneC : Clo := ⟨1, 0, [], [], []⟩
theorem nx32 : askOut oneC = (0, 0, 0, 7) := by kernel_rfl
theorem nx33 : askOut (twoC 3 4) = (0, 0, 0, 11) := by kernel_rfl
theorem nx34 : firstOut (twoC 2 4) = (0, 7) := by kernel_rfl
end Go.Proofs.Ytjilckjhdlabaaa

/- two: what it returns lies in blocks of its own. -/
namespace Go.Proofs.Ytjilckjhdlabaaa
open Go Go.RowKit
attribute [local go_sem] later_alloc2 later_alloc3 later_alloc4 build_closet

def TwoNew (looks : Nat) (grace : Int) (w : World) (e : Ending) (w' : World) : Prop :=
  ∃ h a l, e = .returned (.agg #[.int .i64 3, .int .i64 60, .slice (some ⟨h, 0, none⟩) 2 2, .slice (some ⟨a, 0, none⟩) 2 2, .slice (some ⟨l, 0, none⟩) looks 3]) ∧ Later w w' ∧ w.heap.size ≤ h ∧ w.heap.size ≤ a ∧ w.heap.size ≤ l ∧
    Blk w' h 119 #[.int .i64 20, .int .i64 22, .int .i64 3, .int .i64 5, .int .i64 30, .int .i64 33, .int .i64 4, .int .i64 grace] ∧ Blk w' a 3 #[.int .i64 0, .int .i64 1] ∧ Blk w' l 120 (looksV twoLooks).toArray
/-- v is a new slice of n elements -/
def IsArr (t : TypeId) (n : Nat) (cs : Array Value) (v : Value) (W : World) : Prop := ∃ g, v = .slice (some ⟨g, 0, none⟩) n n ∧ Blk W g t cs
theorem IsArr.later {t : TypeId} {n : Nat} {cs : Array Value} {v : Value} {W W' : World} (h : IsArr t n cs v W) (k : Later W W') : IsArr t n cs v W' := let ⟨g, e, hb⟩ := h; ⟨g, e, hb.later k⟩

set_option maxRecDepth 100000 in
set_option maxHeartbeats 4000000 in
theorem two_new (looks : Nat) (grace : Int) (w : World) (hl : looks ≤ 3) : Calls Try.prog 78 #[.int .i64 looks, .int .i64 grace] w (TwoNew looks grace w) := by
  have hl3 : (looks : Int) ≤ 3 := by omega
  go_enter Try.func78, Try.ntmps78
  go_wp2_with fail
  generalize hW1 : ((w.alloc _).alloc _) = W1
  have hL1 : Later w W1 := by rw [← hW1]; exact later_alloc2 (later_refl _) _ _
  have hs1 : W1.heap.size = w.heap.size + 1 + 1 := by rw [← hW1]; simp
  have kr : Blk W1 w.heap.size 35 #[.int .i64 0, .int .i64 0, .slice none 0 0, .slice none 0 0, .slice none 0 0] := by rw [← hW1]; exact (Blk.new _ _ _).alloc _
  have kl : Blk W1 (w.heap.size + 1) 120 (looksV twoLooks).toArray := by
    rw [← hW1]
    have := Blk.new (w.alloc (.cells #[.int .i64 0, .int .i64 0, .slice none 0 0, .slice none 0 0, .slice none 0 0] 35)) 120 (looksV twoLooks).toArray
    rw [World.size_alloc] at this; exact this
  clear hW1
  obtain ⟨g, hg⟩ : ∃ g, g = w.heap.size := ⟨_, rfl⟩
  rw [← hg] at kr kl hs1
  simp only [← hg]
  have Hg := hide hg
  have Hkr := hide kr
  have Hkl := hide kl
  have Hs1 := hide hs1
  have hS1 : Later W1 W1.drew := later_drew (later_refl _)
  clear hg kr kl hs1
  refine wp_region_lin (w0 := W1) 10 [] rely_later (by kernel_rfl) (by kernel_rfl) (by kernel_rfl) (by kernel_rfl) (hS1) (.inl rfl) ?_
  simp only [List.take_succ_cons, List.take_zero, List.drop_succ_cons, List.drop_zero]
  refine lin_det (v := ?_) (F' := ?_) (by rfl) (fun _ => by rfl) ?_ ?_ ?_
  rotate_left 2
  focus (intro xs X hX hdep; clear hdep; (try dsimp only); go_simp; (try (first | with_reducible rfl | exact ⟨rfl, rfl⟩ | (exact between_calls 20 22 X))))
  focus (intro xs; (try simp only [Act.put, List.setIfInBounds_toArray, List.set_cons_zero, List.set_cons_succ, Nat.reduceAdd]); rfl)
  refine lin_det (v := ?_) (F' := ?_) (by rfl) (fun _ => by rfl) ?_ ?_ ?_
  rotate_left 2
  focus (intro xs X hX hdep; clear hdep; (try dsimp only); go_simp; (try (first | with_reducible rfl | exact ⟨rfl, rfl⟩ | (fail))))
  focus (intro xs; (try simp only [Act.put, List.setIfInBounds_toArray, List.set_cons_zero, List.set_cons_succ, Nat.reduceAdd]); rfl)
  refine lin_det (v := ?_) (F' := ?_) (by rfl) (fun _ => by rfl) ?_ ?_ ?_
  rotate_left 2
  focus (intro xs X hX hdep; clear hdep; (try dsimp only); go_simp; (try (first | with_reducible rfl | exact ⟨rfl, rfl⟩ | (exact between_calls 30 33 X))))
  focus (intro xs; (try simp only [Act.put, List.setIfInBounds_toArray, List.set_cons_zero, List.set_cons_succ, Nat.reduceAdd]); rfl)
  refine lin_det (v := ?_) (F' := ?_) (by rfl) (fun _ => by rfl) ?_ ?_ ?_
  rotate_left 2
  focus (intro xs X hX hdep; clear hdep; (try dsimp only); go_simp; (try (first | with_reducible rfl | exact ⟨rfl, rfl⟩ | (fail))))
  focus (intro xs; (try simp only [Act.put, List.setIfInBounds_toArray, List.set_cons_zero, List.set_cons_succ, Nat.reduceAdd]); rfl)
  refine lin_det (v := ?_) (F' := ?_) (by rfl) (fun _ => by rfl) ?_ ?_ ?_
  rotate_left 2
  focus (intro xs X hX hdep; clear hdep; (try dsimp only); go_simp; (try (first | with_reducible rfl | exact ⟨rfl, rfl⟩ | (fail))))
  focus (intro xs; (try simp only [Act.put, List.setIfInBounds_toArray, List.set_cons_zero, List.set_cons_succ, Nat.reduceAdd]); rfl)
  refine lin_any (IsArr 119 2 #[.int .i64 20, .int .i64 22, .int .i64 3, .int .i64 5, .int .i64 30, .int .i64 33, .int .i64 4, .int .i64 grace]) true (fun v W W' k h => IsArr.later h k) (F' := ?_) (by rfl) (fun _ => by rfl) ?_ ?_ ?_
  rotate_left 1
  focus (intro xs X hX hdep; skip; clear hdep; intro K hK; (try dsimp only); go_simp; (exact hK.out _ _ rfl (later_alloc (later_refl _) _) ⟨_, rfl, Blk.new _ _ _⟩ (fun _ => ⟨_, rfl, Nat.le_refl _, by simp⟩)))
  focus (intro xs; (try simp only [Act.put, List.setIfInBounds_toArray, List.set_cons_zero, List.set_cons_succ, Nat.reduceAdd]); rfl)
  refine lin_any (IsArr 3 2 #[.int .i64 0, .int .i64 1]) true (fun v W W' k h => IsArr.later h k) (F' := ?_) (by rfl) (fun _ => by rfl) ?_ ?_ ?_
  rotate_left 1
  focus (intro xs X hX hdep; skip; clear hdep; intro K hK; (try dsimp only); go_simp; (exact hK.out _ _ rfl (later_alloc (later_refl _) _) ⟨_, rfl, Blk.new _ _ _⟩ (fun _ => ⟨_, rfl, Nat.le_refl _, by simp⟩)))
  focus (intro xs; (try simp only [Act.put, List.setIfInBounds_toArray, List.set_cons_zero, List.set_cons_succ, Nat.reduceAdd]); rfl)
  refine lin_det (v := ?_) (F' := ?_) (by rfl) (fun _ => by rfl) ?_ ?_ ?_
  rotate_left 2
  focus (intro xs X hX hdep; clear hdep; (try dsimp only); go_simp; (try (first | with_reducible rfl | exact ⟨rfl, rfl⟩ | (fail))))
  focus (intro xs; (try simp only [Act.put, List.setIfInBounds_toArray, List.set_cons_zero, List.set_cons_succ, Nat.reduceAdd]); rfl)
  refine lin_det (v := ?_) (F' := ?_) (by rfl) (fun _ => by rfl) ?_ ?_ ?_
  rotate_left 2
  focus (intro xs X hX hdep; clear hdep; (try dsimp only); go_simp; (try (first | with_reducible rfl | exact ⟨rfl, rfl⟩ | (fail))))
  focus (intro xs; (try simp only [Act.put, List.setIfInBounds_toArray, List.set_cons_zero, List.set_cons_succ, Nat.reduceAdd]); rfl)
  refine lin_det (v := ?_) (F' := ?_) (by rfl) (fun _ => by rfl) ?_ ?_ ?_
  rotate_left 2
  focus (intro xs X hX hdep; clear hdep; (try dsimp only); go_simp; (try (first | with_reducible rfl | exact ⟨rfl, rfl⟩ | (fail))))
  focus (intro xs; (try simp only [Act.put, List.setIfInBounds_toArray, List.set_cons_zero, List.set_cons_succ, Nat.reduceAdd]); rfl)
  intro xs w2 hW hf hfr hfb
  obtain ⟨gh, hx5, hbh⟩ := (show IsArr _ _ _ _ _ from hf 5)
  obtain ⟨ga, hx6, hba⟩ := (show IsArr _ _ _ _ _ from hf 6)
  obtain ⟨b5, hb5, hlo5, _⟩ := hfb 5 rfl
  obtain ⟨b6, hb6, hlo6, _⟩ := hfb 6 rfl
  rw [hx5] at hb5
  rw [hx6] at hb6
  obtain rfl : gh = b5 := by injection hb5
  obtain rfl : ga = b6 := by injection hb6
  simp only [hx5, hx6, Nat.reduceAdd, Nat.zero_add]
  clear hf hfr hfb hx5 hx6 hb5 hb6
  have hkr := Hkr.out.later hW
  have hkl := Hkl.out.later hW
  have Hkr2 := hide hkr
  clear hkr
  go_wp2_with (refine wpList_store_row rfl _ _ _ rfl g _ rfl rfl _ _ Hkr2.out (by kernel_rfl) rfl (by simp [Value.oneCell']) ?_)
  have hs1 := Hs1.out
  have hg := Hg.out
  have hgh : gh ≠ g := by omega
  have hga : ga ≠ g := by omega
  have hgl : g + 1 ≠ g := by omega
  have hke := Hkr2.out.row #[.int .i64 3, .int .i64 60, .slice (some ⟨gh, 0, none⟩) 2 2, .slice (some ⟨ga, 0, none⟩) 2 2, .slice (some ⟨g + 1, 0, none⟩) looks 3]
  refine bodyPost_ret (results_cell_row (P := Try.prog) (fn := Try.f78) (p := 4) (ty := 35) (by kernel_rfl) _ _ g _ _ _ _ rfl hke Try.underlying35 (by kernel_rfl) (by kernel_rfl)) rfl ⟨gh, ga, g + 1, rfl, later_setRow (Later.trans hL1 hW) (by omega) _, by omega, by omega, by omega, hbh.otherRow hgh _, hba.otherRow hga _, hkl.otherRow hgl _⟩
end Go.Proofs.Ytjilckjhdlabaaa

/- XFacts, more: an operation that waits for the value of the operation before it (in a long region `hdep j f h` does not come back: its type is unfolded). -/
namespace Go.Proofs.Ytjilckjhdlabaaa
open Go Go.RowKit
theorem fact_last {S : List Slot} {s : Slot} {j : Nat} {x : Value} {W : World} (h : S.length = j) (hf : factAt (S ++ [s]) j x W) : s.fact x W := by
  unfold factAt at hf
  rw [List.getElem?_append_right (by omega), h, Nat.sub_self] at hf
  exact hf
theorem dep_last {ops : Array Oper} {k : Nat} {S : List Slot} {s : Slot} {xs : Nat → Value} {W : World} (hdep : ∀ j f, reachB ops f k j = true → factAt (S ++ [s]) j (xs j) W) (j : Nat) (hl : S.length = j) (f : Nat) (hr : reachB ops f k j = true) : s.fact (xs j) W :=
  fact_last hl (hdep j f hr)
theorem lin_det_last {P : Program} {ops : Array Oper} {Q : Exit → Act → World → Prop} {R : World → World → Prop} {w0 : World} {es : List Nat} {tail l : List Oper} {o : Oper} {k j : Nat} {S : List Slot} {s : Slot} {F F' : (Nat → Value) → Act} {v : Value}
    (he : es.contains k = false) (hw : ∀ xs, Region.wanted o (yielded ops (F xs).tmps) = true) (hr : reachB ops 1 k j = true) (hj : S.length = j) (h : ∀ xs W, R w0 W → s.fact (xs j) W → o.quietAt P (F xs) (R W) W v)
    (hF : ∀ xs, (F xs).put o.dst v = F' xs) (hs : Lin P ops Q R w0 es tail l (k + 1) ((S ++ [s]) ++ [.det v]) F') : Lin P ops Q R w0 es tail (o :: l) k (S ++ [s]) F :=
  lin_det he hw (fun xs W hW hd => h xs W hW (dep_last hd j hj 1 hr)) hF hs
end Go.Proofs.Ytjilckjhdlabaaa

/- Rows of blocks of one type: a store changes one of them. -/
namespace Go.Proofs.Ytjilckjhdlabaaa
open Go Go.RowKit
theorem Blk.apart {w : World} {g g' : Nat} {t t' : TypeId} {cs cs' : Array Value} (h : Blk w g t cs) (h' : Blk w g' t' cs') (ht : t ≠ t') : g ≠ g' := fun e => by
  subst e
  unfold Blk at h h'
  rw [h] at h'
  injection h' with h'
  injection h' with _ h'
  exact ht h'
/-- blocks of one type, the elder ones first -/
structure Rows (W : World) (t : TypeId) (l : List (Nat × Array Value)) : Prop where
  inc : l.Pairwise fun x y => x.1 < y.1
  blk : ∀ x ∈ l, Blk W x.1 t x.2
section
variable {W X : World} {t t' : TypeId} {l : List (Nat × Array Value)} {b : Nat} {cs : Array Value}
theorem Rows.nil (W : World) (t : TypeId) : Rows W t [] := ⟨List.Pairwise.nil, fun x hx => by cases hx⟩
theorem Rows.get (h : Rows W t l) (j : Nat) (hj : l[j]? = some (b, cs)) : Blk W b t cs := h.blk _ (List.mem_of_getElem? hj)
theorem Rows.later (h : Rows W t l) (k : Later W X) : Rows X t l := ⟨h.inc, fun x hx => (h.blk x hx).later k⟩
theorem Rows.grow (h : Rows W t l) (k : Later W X) (hb : Blk X b t cs) (hlo : W.heap.size ≤ b) : Rows X t (l ++ [(b, cs)]) :=
  ⟨List.pairwise_append.2 ⟨h.inc, List.pairwise_singleton _ _, fun x hx y hy => by
    have := (h.blk x hx).lt
    rw [List.mem_singleton.1 hy]
    exact Nat.lt_of_lt_of_le this hlo⟩, fun x hx => by
    rcases List.mem_append.1 hx with hx | hx
    · exact (h.blk x hx).later k
    · rw [List.mem_singleton.1 hx]; exact hb⟩
theorem Rows.other (h : Rows W t l) (hb : Blk W b t' cs) (ht : t ≠ t') (i : Nat) (u : Value) : Rows (W.setCell ⟨b, i, Option.none⟩ u) t l :=
  ⟨h.inc, fun x hx => Blk.far (p := (⟨b, i, Option.none⟩ : Addr)) (h.blk x hx) ((h.blk x hx).apart hb ht) u⟩
theorem Rows.store (h : Rows W t l) (j : Nat) (hj : l[j]? = some (b, cs)) (i : Nat) (u : Value) : Rows (W.setCell ⟨b, i, Option.none⟩ u) t (l.set j (b, cs.setIfInBounds i u)) := by
  have hjl := (List.getElem?_eq_some_iff.1 hj).1
  have hk := List.pairwise_iff_getElem.1 h.inc
  have hb := h.get j hj
  refine ⟨?_, fun x hx => ?_⟩
  · rw [List.pairwise_iff_getElem]
    intro p q hp hq hpq
    have hp' : p < l.length := by simpa using hp
    have hq' : q < l.length := by simpa using hq
    have key : ∀ (m : Nat) (hm : m < (l.set j (b, cs.setIfInBounds i u)).length), ((l.set j (b, cs.setIfInBounds i u))[m]).1 = (l[m]'(by simpa using hm)).1 := fun m hm => by
      rw [List.getElem_set]
      split
      · rename_i e
        subst e
        have := (List.getElem?_eq_some_iff.1 hj).2
        rw [this]
      · rfl
    rw [key p hp, key q hq]
    exact hk p q hp' hq' hpq
  · obtain ⟨m, hm, rfl⟩ := List.mem_iff_getElem.1 hx
    rw [List.getElem_set]
    have hm' : m < l.length := by simpa using hm
    split
    · exact hb.set_ i u
    · rename_i hne
      have hx := h.get m (List.getElem?_eq_getElem hm')
      refine Blk.far (p := (⟨b, i, Option.none⟩ : Addr)) hx ?_ u
      have he := (List.getElem?_eq_some_iff.1 hj).2
      rcases Nat.lt_or_gt_of_ne hne with hlt | hlt
      · have := hk j m hjl hm' hlt
        rw [he] at this
        exact fun e => by have e' : (l[m]'hm').1 = b := e; rw [e'] at this; exact Nat.lt_irrefl _ this
      · have := hk m j hm' hjl hlt
        rw [he] at this
        exact fun e => by have e' : (l[m]'hm').1 = b := e; rw [e'] at this; exact Nat.lt_irrefl _ this
end
end Go.Proofs.Ytjilckjhdlabaaa

/- ClosetNames: closets with faults; CheckCloset of a Closet whose rows lie in blocks. -/
namespace Go.Proofs.Ytjilckjhdlabaaa
open Go Go.RowKit
def closetsC : Clo := { twoC 0 4 with closets := 5 }
def lastC : Clo := { twoC 0 4 with close := 100 }
def dryC : Clo := { twoC 0 4 with horses := [⟨0, 3, 3, 5⟩, ⟨30, 33, 4, 4⟩] }
def wetC : Clo := { twoC 0 4 with horses := [⟨20, 22, 10, 5⟩, ⟨30, 33, 4, 4⟩] }
def hungC : Clo := { twoC 0 4 with hung := [1, 1] }
def lookC : Clo := { twoC 1 4 with looks := [⟨2, 35, true⟩] }
def manyC : Clo := { twoC 0 4 with looks := List.replicate 6 ⟨0, 0, false⟩ }
def sizesC : Clo := { twoC 0 4 with horses := [⟨1, 50, 3, 5⟩, ⟨1, 41, 4, 4⟩] }
def noneC : Clo := ⟨0, 0, [], [], []⟩
theorem nx_faults : fault closetsC = 3 ∧ fault lastC = 1 ∧ fault dryC = 1 ∧ fault wetC = 1 ∧ fault (twoC 0 31) = 1 ∧ fault hungC = 1 ∧ fault lookC = 1 ∧ fault manyC = 3 ∧ fault sizesC = 3 ∧ fault noneC = 1 :=
  ⟨by kernel_rfl, by kernel_rfl, by kernel_rfl, by kernel_rfl, by kernel_rfl, by kernel_rfl, by kernel_rfl, by kernel_rfl, by kernel_rfl, by kernel_rfl⟩
theorem make_looks6 (W : World) : (Instr.makeSlice 33 (.int .i64 6) (.int .i64 6)).run Try.prog W = .ok (.slice (some ⟨W.heap.size, 0, none⟩) 6 6) (W.alloc (.cells (looksV manyC.looks).toArray 120)) := by kernel_rfl
theorem noneC_cv (W : World) : CV W noneC none noneC.horses.length none noneC.hung.length none noneC.looks.length := ⟨⟨rfl, fun h => absurd h (by decide)⟩, ⟨rfl, fun h => absurd h (by decide)⟩, ⟨rfl, fun h => absurd h (by decide)⟩⟩
theorem Blk.to {W : World} {g : Nat} {t : TypeId} {cs ds : Array Value} (k : Blk W g t cs) (h : cs = ds) : Blk W g t ds := h ▸ k
theorem pre_of {d : Array Value} {l : List Value} (h : d.toList.take l.length = l) (j : Nat) (u : Value) (hu : l[j]? = some u) : d[j]? = some u := by
  rw [← h, List.getElem?_take] at hu
  split at hu
  · simpa using hu
  · cases hu
theorem chk_clo (c : Clo) {h a l k1 k2 k3 n1 n2 n3 : Nat} {W : World} {x y q : Int} {d1 d2 d3 : Array Value} (sm : small c = true) (hq : fault c = q) (hx : c.closets = x) (hy : c.close = y)
    (h1 : Blk W h 119 d1) (h2 : Blk W a 3 d2) (h3 : Blk W l 120 d3) (f1 : d1 = (horsesV c.horses).toArray) (f2 : d2 = (ints c.hung).toArray) (f3 : d3.toList.take (looksV c.looks).length = looksV c.looks)
    (e1 : c.horses.length = n1) (e2 : c.hung.length = n2) (e3 : c.looks.length = n3) (hk : n2 ≤ k2 ∧ n3 ≤ k3) :
    Calls Try.prog 58 #[.agg #[.int .i64 x, .int .i64 y, .slice (some ⟨h, 0, none⟩) n1 k1, .slice (some ⟨a, 0, none⟩) n2 k2, .slice (some ⟨l, 0, none⟩) n3 k3]] W fun e w' => e = .returned (.int .i64 q) ∧ Later W w' := by
  subst hx hy f1 f2 e1 e2 e3
  refine check_c (c := c) ⟨_, k1, _, k2, _, k3, rfl, ⟨?_, ?_, ?_⟩, hk.1, hk.2⟩ sm hq
  · exact h1.reads (by rw [horsesV_length]) fun j u hu => by simpa using hu
  · exact h2.reads (by rw [ints_length, Nat.mul_one]) fun j u hu => by simpa using hu
  · exact h3.reads (by rw [looksV_length]) fun j u hu => pre_of f3 j u hu
end Go.Proofs.Ytjilckjhdlabaaa

/- A function's text from one of its regions on: what stands there, and what follows. -/
namespace Go.Proofs.Ytjilckjhdlabaaa
open Go
def startsC (n : Nat) : Code → Bool
  | .region m _ _ => m == n
  | .seq a _ => startsC n a
  | _ => false
def splitC (n : Nat) : Code → Option (Code × Code)
  | .seq a b => if startsC n a then some (a, b) else splitC n b
  | _ => none
def headC (n : Nat) (f : Func) : Code := match f.body with
  | some c => match splitC n c with
    | some p => p.1
    | none => .skip
  | none => .skip
def restC (n : Nat) (f : Func) : Code := match f.body with
  | some c => match splitC n c with
    | some p => p.2
    | none => .skip
  | none => .skip
end Go.Proofs.Ytjilckjhdlabaaa
