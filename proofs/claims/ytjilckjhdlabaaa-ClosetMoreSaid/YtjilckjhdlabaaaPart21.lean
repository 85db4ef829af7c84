/- Part 21 of the proof: joined from the texts Asks, Askd. -/
import Derived.Test.YtjilckjhdlabaaaPart8
import Derived.Test.YtjilckjhdlabaaaPart11
import Derived.Test.YtjilckjhdlabaaaPart13
set_option linter.unusedSimpArgs false
set_option linter.unusedVariables false
/- ClosetAsks: the plain law and the walk. -/
namespace Go.Proofs.Ytjilckjhdlabaaa
open Go Go.RowKit
attribute [local go_sem] later_alloc2 later_alloc3 later_alloc4

theorem asks_law (c : Clo) :
    (∃ q, q ≠ 0 ∧ askedErr c true = q ∧ askOut c = (0, 0, 0, q)) ∨
    (askedErr c true = 0 ∧ fault c = 0 ∧
      ((c.horses.length = 0 ∧ askOut c = (0, 0, 0, 7)) ∨ (0 < c.horses.length ∧ askOut c = ((askR c (truths c)).1, (askR c (truths c)).2.1, (askR c (truths c)).2.2, 0)))) := by
  by_cases h : askedErr c true = 0
  · obtain ⟨hf, _, hne⟩ := askedErr_zero h
    refine .inr ⟨h, hf, ?_⟩
    by_cases h0 : c.horses.length = 0
    · exact .inl ⟨h0, by unfold askOut; rw [if_neg (by simp [h]), if_pos h0]⟩
    · refine .inr ⟨by omega, ?_⟩
      unfold askOut
      rw [if_neg (by simp [h]), if_neg h0, askR_eq (truthsP_perm hf) (by omega) (by have := truthsP_len hf; omega)]
  · exact .inl ⟨_, h, rfl, by unfold askOut; rw [if_pos h]⟩

set_option maxRecDepth 100000 in
set_option maxHeartbeats 4000000 in
theorem lawAsks_calls {A1 A2 A3 : Option Addr} {n1 k1 n2 k2 n3 k3 : Nat} {c : Clo} (w : World) (hc : CV w c A1 n1 A2 n2 A3 n3) (hcl : i64 c.closets) (b1 : n1 ≤ 9223372036854775807) (b2 : n2 ≤ 9223372036854775807) (b3 : n3 ≤ 9223372036854775807) :
    Calls Try.prog 4 #[(.agg #[.int .i64 c.closets, .int .i64 c.close, .slice A1 n1 k1, .slice A2 n2 k2, .slice A3 n3 k3])] w fun e w' => e = .returned (.bool true) ∧ Later w w' := by
  obtain ⟨w0, hw0⟩ : ∃ W, W = (w.alloc (.cells #[.int .i64 c.closets, .int .i64 c.close, .slice A1 n1 k1, .slice A2 n2 k2, .slice A3 n3 k3] 26)) := ⟨_, rfl⟩; have hbox : ∀ W, Later w0 W → ∀ i, W.cell? ⟨w.heap.size, i, none⟩ = #[.int .i64 c.closets, .int .i64 c.close, .slice A1 n1 k1, .slice A2 n2 k2, .slice A3 n3 k3][i]? := (by rw [hw0]; exact box_cells w #[.int .i64 c.closets, .int .i64 c.close, .slice A1 n1 k1, .slice A2 n2 k2, .slice A3 n3 k3] 26); have hL0 : Later w w0 := (by rw [hw0]; simp); have hc0 := hc.later hL0; have Hw0 := hide hw0; clear hw0
  have hthin := Thin_calls (k1 := k1) (k2 := k2) (k3 := k3) w0 hc0 hcl b1 b2 b3
  cases hth : thinB c with
  | false =>
    rw [hth] at hthin
    have Hthin := hide hthin
    clear hth hthin
    go_enter Try.func4, Try.ntmps4
    go_wp2_with fail
    rw [← Hw0.out]; clear Hw0
    refine Hthin.out.mono ?_
    rintro e w1 ⟨rfl, hL1⟩
    go_wp2_with fail
    refine (awake_calls _).mono ?_
    rintro e w2 ⟨rfl, hL2⟩
    go_wp2_with fail
    go_ret
    exact ⟨rfl, Later.trans hL0 (Later.trans hL1 hL2)⟩
  | true =>
    rw [hth] at hthin
    have hn := And.intro hc.hs.len (And.intro hc.hu.len hc.lk.len)
    unfold thinB at hth
    simp only [Bool.and_eq_true, decide_eq_true_eq] at hth
    have l1 : n1 ≤ 6 := by omega
    have l2 : n2 ≤ 8 := by omega
    have l3 : n3 ≤ 7 := by omega
    have Hthin := hide hthin
    clear hth hthin hn
    obtain ⟨⟨s1, s2, s3, s4⟩, hso⟩ : ∃ q, askOut c = q := ⟨_, rfl⟩
    obtain ⟨q, hq⟩ : ∃ q, askedErr c true = q := ⟨_, rfl⟩
    have law := asks_law c
    rw [hq, hso] at law
    have hsc := fun (B1 B2 B3 : Option Addr) (j1 j2 j3 : Nat) (W : World) (h : CV W c B1 n1 B2 n2 B3 n3) (h2 : n2 ≤ j2) =>
      AskP_calls (k1 := j1) (k2 := j2) (k3 := j3) W h hcl (by omega) (by omega) (by omega) h2
    rw [hso] at hsc
    have hpc := fun (W : World) (h : Later w0 W) => sure_calls (k1 := k1) (k2 := k2) (k3 := k3) W (hc0.later h) hcl (by omega) (by omega) (by omega)
    unfold PlacedPost at hpc
    rw [hq] at hpc
    have hnl := hc.hs.len
    rw [← hnl] at law
    have Hnl := hide hnl
    have Hsc := hide hsc
    have Hpc := hide hpc
    have Hlaw := hide law
    clear hsc hpc law hso hq hnl
    go_enter Try.func4, Try.ntmps4
    go_wp2_with fail
    rw [← Hw0.out]; clear Hw0
    refine Hthin.out.mono ?_
    rintro e w1 ⟨rfl, hL1⟩
    go_wp2_with fail
    refine (lawCloset_calls (k1 := k1) (k2 := k2) (k3 := k3) w1 (hc0.later hL1) (by omega) (by omega) (by omega)).mono ?_
    rintro e w2 ⟨B1, j1, B2, j2, B3, j3, rfl, hL2, hc2, hj1, hj2, hj3⟩
    go_wp2_with fail
    refine (Hsc.out _ _ _ _ _ _ w2 hc2 hj2).mono ?_
    rintro e w3 ⟨rfl, hL3⟩
    have hL03 := Later.trans hL1 (Later.trans hL2 hL3)
    clear hc2 hL1 hL2 hL3
    go_wp2_with fail
    refine (Hpc.out w3 hL03).mono ?_
    rintro e w4 ⟨At, nt, kt, rfl, hL4, hrr⟩
    have hL04 := Later.trans hL03 hL4
    rcases Hlaw.out with ⟨q', hq0, rfl, he⟩ | ⟨rfl, hf, ⟨hn0, he⟩ | ⟨hn0, he⟩⟩
    · injection he with e1 he
      injection he with e2 he
      injection he with e3 e4
      subst e1 e2 e3 e4
      have hqb : (s4 == 0) = false := by simpa using hq0
      have hqb2 : (s4 != 0) = true := by simpa using hq0
      clear hq0
      go_wp2_with fail
      refine (awake_calls _).mono ?_
      rintro e wa ⟨rfl, hLa⟩
      go_wp2_with fail
      go_ret
      exact ⟨rfl, Later.trans hL0 (Later.trans hL04 hLa)⟩
    · injection he with e1 he
      injection he with e2 he
      injection he with e3 e4
      subst e1 e2 e3 e4
      subst hn0
      go_wp2_with fail
      refine (awake_calls _).mono ?_
      rintro e wa ⟨rfl, hLa⟩
      go_wp2_with fail
      go_ret
      exact ⟨rfl, Later.trans hL0 (Later.trans hL04 hLa)⟩
    · have ok := okC_of_fault hf
      have hrr := hrr rfl
      have hmr := (fault_zero hf).2.2.2.2.2.2
      have hnt := hrr.len
      have htl : nt ≤ 1000000 := by rw [hnt, ← (truthsP_perm hf).length_eq]; have := truthsP_len hf; omega
      have hst := Ask_calls (k1 := k1) (k2 := k2) (k3 := k3) (kl := kt) w4 (hc0.later hL04) hrr ok (truths_isDry ok.toOkH) htl
      injection he with e1 he
      injection he with e2 he
      injection he with e3 e4
      rw [← e1, ← e2, ← e3] at hst
      have hz : ((n1 : Int) == 0) = false := by simp; omega
      have Hst := hide hst
      subst e4
      clear hst e1 e2 e3 hrr hmr hnt htl hf ok hn0
      go_wp2_with fail
      refine Hst.out.mono ?_
      rintro e w5 ⟨rfl, hL5⟩
      have hL05 := Later.trans hL04 hL5
      go_wp2_with fail
      refine (awake_calls _).mono ?_
      rintro e wa ⟨rfl, hLa⟩
      go_wp2_with fail
      go_ret
      exact ⟨rfl, Later.trans hL0 (Later.trans hL05 hLa)⟩
end Go.Proofs.Ytjilckjhdlabaaa

/- ClosetAsked: the plain law. -/
namespace Go.Proofs.Ytjilckjhdlabaaa

theorem askIn_spec (f : Nat → Nat → Int) (h : Nat) : ∀ (L : List Nat) (r : Int × Int × Int),
    (L.foldl (askStep f h) r).2.2 ≤ r.2.2 ∧ (∀ m ∈ L, (L.foldl (askStep f h) r).2.2 ≤ f h m) ∧ (L.foldl (askStep f h) r = r ∨ ∃ m ∈ L, L.foldl (askStep f h) r = ((h : Int), (m : Int), f h m))
  | [], r => ⟨Int.le_refl _, fun _ hm => (by cases hm), .inl rfl⟩
  | x :: L, r => by
    obtain ⟨h1, h2, h3⟩ := askIn_spec f h L (askStep f h r x)
    have e : (askStep f h r x).2.2 ≤ r.2.2 ∧ (askStep f h r x).2.2 ≤ f h x ∧ (askStep f h r x = r ∨ askStep f h r x = ((h : Int), (x : Int), f h x)) := by
      unfold askStep
      split
      · exact ⟨by dsimp only; omega, Int.le_refl _, .inr rfl⟩
      · exact ⟨Int.le_refl _, by omega, .inl rfl⟩
    rw [List.foldl_cons]
    refine ⟨by omega, fun m hm => ?_, ?_⟩
    · rcases List.mem_cons.1 hm with rfl | hm
      · omega
      · exact h2 m hm
    · rcases h3 with h3 | ⟨m, hm, h3⟩
      · rcases e.2.2 with e | e
        · exact .inl (by rw [h3, e])
        · exact .inr ⟨x, List.mem_cons_self, by rw [h3, e]⟩
      · exact .inr ⟨m, List.mem_cons_of_mem _ hm, h3⟩
theorem askOuter_spec (f : Nat → Nat → Int) : ∀ (H : List Nat) (r : Int × Int × Int),
    let R := H.foldl (fun r h => (List.range 100).foldl (askStep f h) r) r
    R.2.2 ≤ r.2.2 ∧ (∀ h ∈ H, ∀ m, m < 100 → R.2.2 ≤ f h m) ∧ (R = r ∨ ∃ h ∈ H, ∃ m : Nat, m < 100 ∧ R = ((h : Int), (m : Int), f h m))
  | [], r => ⟨Int.le_refl _, fun _ hm => (by cases hm), .inl rfl⟩
  | x :: H, r => by
    obtain ⟨a1, a2, a3⟩ := askIn_spec f x (List.range 100) r
    obtain ⟨h1, h2, h3⟩ := askOuter_spec f H ((List.range 100).foldl (askStep f x) r)
    intro R
    have hR : R = H.foldl (fun r h => (List.range 100).foldl (askStep f h) r) ((List.range 100).foldl (askStep f x) r) := by
      show (x :: H).foldl _ r = _
      rw [List.foldl_cons]
    rw [← hR] at h1 h2 h3
    refine ⟨by omega, fun h hh m hm => ?_, ?_⟩
    · rcases List.mem_cons.1 hh with rfl | hh
      · have := a2 m (List.mem_range.2 hm); omega
      · exact h2 h hh m hm
    · rcases h3 with h3 | ⟨h, hh, m, hm, h3⟩
      · rcases a3 with a3 | ⟨m, hm, a3⟩
        · exact .inl (by rw [h3, a3])
        · exact .inr ⟨x, List.mem_cons_self, m, List.mem_range.1 hm, by rw [h3, a3]⟩
      · exact .inr ⟨h, List.mem_cons_of_mem _ hh, m, hm, h3⟩
theorem askAll_spec (f : Nat → Nat → Int) (n : Nat) (hn : 0 < n) (a : Int) (ha : f 0 0 < a) :
    ∃ h m : Nat, h < n ∧ m < 100 ∧ askAll f n (0, 0, a) = ((h : Int), (m : Int), f h m) ∧ ∀ h' m', h' < n → m' < 100 → f h m ≤ f h' m' := by
  obtain ⟨h1, h2, h3⟩ := askOuter_spec f (List.range n) (0, 0, a)
  rcases h3 with h3 | ⟨h, hh, m, hm, h3⟩
  · exfalso
    have := h2 0 (List.mem_range.2 hn) 0 (by omega)
    rw [h3] at this
    dsimp only at this
    omega
  · refine ⟨h, m, List.mem_range.1 hh, hm, h3, fun h' m' hh' hm' => ?_⟩
    have := h2 h' (List.mem_range.2 hh') m' hm'
    rw [h3] at this
    exact this
theorem leaves_le (c : Clo) (l : List (List Int)) (h : Nat) (m : Int) : leaves c l h m ≤ l.length := by
  unfold leaves
  have : l.countP (fun d => decide (minuteR c c.hung d h ≤ m)) ≤ l.length := List.countP_le_length
  omega
/-- the closets with one look more -/
def moreC (c : Clo) (l : Look) : Clo := withLooks c (c.looks ++ [l])
theorem okL_more (c : Clo) (l : Look) (d : List Int) (x : Look) : okL (moreC c l) d x = okL c d x := rfl
theorem right_more (c : Clo) (l : Look) (d : List Int) : (rightBits (moreC c l) d == full (moreC c l)) = ((rightBits c d == full c) && okL c d l) := by
  rw [Bool.eq_iff_iff, Bool.and_eq_true, rightBits_full, rightBits_full]
  constructor
  · intro h
    refine ⟨fun j x hx => ?_, ?_⟩
    · exact h j x (by show (c.looks ++ [l])[j]? = some x; rw [List.getElem?_append_left (List.getElem?_eq_some_iff.1 hx).1]; exact hx)
    · exact h c.looks.length l (by show (c.looks ++ [l])[c.looks.length]? = some l; simp)
  · rintro ⟨h1, h2⟩ j x hx
    have hx' : (c.looks ++ [l])[j]? = some x := hx
    rcases Nat.lt_or_ge j c.looks.length with hj | hj
    · rw [List.getElem?_append_left hj] at hx'; exact h1 j x hx'
    · rw [List.getElem?_append_right hj] at hx'
      have : x = l := by
        cases hk : j - c.looks.length with
        | zero => rw [hk] at hx'; simpa using hx'.symm
        | succ k => rw [hk] at hx'; simp at hx'
      rw [this]; exact h2
theorem truths_more (c : Clo) (l : Look) : truths (moreC c l) = (truths c).filter fun d => okL c d l := by
  unfold truths
  rw [List.filter_filter]
  have : allDry (moreC c l) = allDry c := rfl
  rw [this]
  exact List.filter_congr fun d _ => by rw [right_more, Bool.and_comm]
theorem fault_more {c : Clo} (hf : fault c = 0) {l : Look} (hl : lookOk c.horses.length l = true) (hn : c.looks.length ≤ 4) : fault (moreC c l) = 0 := by
  refine fault_looks hf ?_ (by rw [List.length_append]; simp; omega)
  rw [List.all_append, looks_all hf (fun x hx => hx)]
  simp [hl]
/-- what Ask answers, and what is left -/
theorem asked_law {c : Clo} (hf : fault c = 0) (hne : truths c ≠ []) (hn : 0 < c.horses.length) (hk : c.looks.length ≤ 4) :
    ∃ h m : Nat, h < c.horses.length ∧ m < 100 ∧ askOut c = ((h : Int), (m : Int), leaves c (truths c) h m, 0) ∧ (∀ h' m', h' < c.horses.length → m' < 100 → leaves c (truths c) h m ≤ leaves c (truths c) h' (m' : Nat)) ∧
      ∀ t, t ∈ truths c → fault (moreC c ⟨h, m, decide (minuteR c c.hung t h ≤ m)⟩) = 0 ∧
        1 ≤ (truths (moreC c ⟨h, m, decide (minuteR c c.hung t h ≤ m)⟩)).length ∧ ((truths (moreC c ⟨h, m, decide (minuteR c c.hung t h ≤ m)⟩)).length : Int) ≤ leaves c (truths c) h m := by
  have hnp : truthsP c ≠ [] := fun e => hne ((truths_nil hf).2 e)
  have he : askedErr c true = 0 := by unfold askedErr; rw [if_neg (by simp [hf]), if_neg (by simp), if_neg hnp]
  have hlen : (truths c).length ≤ 2000 := by rw [← (truthsP_perm hf).length_eq]; exact truthsP_len hf
  rcases asks_law c with ⟨q, hq, hq2, _⟩ | ⟨_, _, h0 | ⟨_, ho⟩⟩
  · exact absurd (he.symm.trans hq2).symm hq
  · omega
  · obtain ⟨h, m, hh, hm, hr, hmin⟩ := askAll_spec (fun h m => leaves c (truths c) h m) c.horses.length hn 1099511627776 (by have := leaves_le c (truths c) 0 ((0 : Nat) : Int); show leaves c (truths c) 0 ((0 : Nat) : Int) < _; omega)
    have hr' : askR c (truths c) = ((h : Int), (m : Int), leaves c (truths c) h m) := hr
    rw [hr'] at ho
    refine ⟨h, m, hh, hm, ho, hmin, fun t ht => ?_⟩
    have e1 : ∀ (b : Bool) (d : List Int), okL c d ⟨h, m, b⟩ = (decide (minuteR c c.hung d h ≤ m) == b) := fun b d => rfl
    refine ⟨fault_more hf (by unfold lookOk inB; simp; omega) hk, ?_, ?_⟩
    · rw [truths_more]
      refine List.length_pos_iff.2 fun e => ?_
      have : t ∈ (truths c).filter fun d => okL c d ⟨h, m, decide (minuteR c c.hung t h ≤ m)⟩ := List.mem_filter.2 ⟨ht, by rw [e1]; simp⟩
      rw [e] at this; cases this
    · rw [truths_more, ← List.countP_eq_length_filter]
      unfold leaves
      cases hb : decide (minuteR c c.hung t h ≤ m) with
      | true =>
        have : (truths c).countP (fun d => okL c d ⟨h, m, true⟩) = (truths c).countP fun d => decide (minuteR c c.hung d h ≤ m) := List.countP_congr fun d _ => by rw [e1]; simp
        rw [this]; omega
      | false =>
        have h2 : (truths c).countP (fun d => okL c d ⟨h, m, false⟩) = (truths c).countP fun d => !decide (minuteR c c.hung d h ≤ m) := List.countP_congr fun d _ => by rw [e1]; simp
        have h3 := List.length_eq_countP_add_countP (fun d => decide (minuteR c c.hung d h ≤ m)) (l := truths c)
        rw [h2]
        have h4 : (truths c).countP (fun d => !decide (minuteR c c.hung d h ≤ m)) = (truths c).countP (fun a => decide ¬ decide (minuteR c c.hung a h ≤ m) = true) := List.countP_congr fun d _ => by simp
        omega
end Go.Proofs.Ytjilckjhdlabaaa
