/- Part 14 of the proof: joined from the texts TlM, TlN. -/
import Derived.Test.YtbkfnajpbhfneaaPart10
import Derived.Test.YtbkfnajpbhfneaaPart13
set_option linter.unusedSimpArgs false
set_option linter.unusedVariables false
/- Helpers of the laws: ready, in, inside, steady, kept, pick: walks. -/
namespace Go.Proofs.Ytbkfnajpbhfneaa
open Go Go.RowKit

def readyB (c : Hou) : Bool := thinB c && decide (fault c = 0)
theorem ready_calls {A1 A2 A3 : Option Addr} {n1 k1 n2 k2 n3 k3 : Nat} {c : Hou} (w : World) (hc : CV w c A1 n1 A2 n2 A3 n3) (b1 : n1 ≤ 9223372036854775807) (b2 : n2 ≤ 9223372036854775807) (b3 : n3 ≤ 9223372036854775807) :
    Calls Try.prog 49 #[(.agg #[.int .i64 c.hour, .int .i64 c.grace, .slice A1 n1 k1, .slice A2 n2 k2, .slice A3 n3 k3])] w fun e w' => e = .returned (.bool (readyB c)) ∧ Later w w' := by
  obtain ⟨w0, hw0⟩ : ∃ W, W = (w.alloc (.cells #[.int .i64 c.hour, .int .i64 c.grace, .slice A1 n1 k1, .slice A2 n2 k2, .slice A3 n3 k3] 26)) := ⟨_, rfl⟩; have hbox : ∀ W, Later w0 W → ∀ i, W.cell? ⟨w.heap.size, i, none⟩ = #[.int .i64 c.hour, .int .i64 c.grace, .slice A1 n1 k1, .slice A2 n2 k2, .slice A3 n3 k3][i]? := (by rw [hw0]; exact box_cells w #[.int .i64 c.hour, .int .i64 c.grace, .slice A1 n1 k1, .slice A2 n2 k2, .slice A3 n3 k3] 26); have hL0 : Later w w0 := (by rw [hw0]; simp); have hc0 := hc.later hL0; have Hw0 := hide hw0; clear hw0
  have hthin := Thin_calls (k1 := k1) (k2 := k2) (k3 := k3) w0 hc0 b1 b2 b3
  cases hth : thinB c with
  | false =>
    have Hr : Hid (readyB c = false) := by show _ = _; unfold readyB; rw [hth]; rfl
    rw [hth] at hthin
    have Hthin := hide hthin
    clear hth hthin
    go_enter Try.func49, Try.ntmps49
    go_wp2_with fail
    rw [← Hw0.out]; clear Hw0
    refine Hthin.out.mono ?_
    rintro e w1 ⟨rfl, hL1⟩
    go_wp2_with fail
    go_ret
    exact ⟨by rw [Hr.out]; rfl, Later.trans hL0 hL1⟩
  | true =>
    have Hr : Hid (readyB c = decide (fault c = 0)) := by show _ = _; unfold readyB; rw [hth]; rfl
    rw [hth] at hthin
    have hn := And.intro hc.ck.len (And.intro hc.tk.len hc.cp.len)
    unfold thinB at hth
    simp only [Bool.and_eq_true, decide_eq_true_eq] at hth
    have l1 : n1 ≤ 6 := by omega
    have l2 : n2 ≤ 8 := by omega
    have l3 : n3 ≤ 12 := by omega
    have Hthin := hide hthin
    clear hth hthin hn
    have hfc := fun (W : World) (h : Later w0 W) => Fault_calls (k1 := k1) (k2 := k2) (k3 := k3) W (hc0.later h) (by omega) (by omega) (by omega)
    obtain ⟨q, hq⟩ : ∃ q, fault c = q := ⟨_, rfl⟩
    rw [hq] at hfc Hr
    have Hfc := hide hfc
    clear hfc hq
    go_enter Try.func49, Try.ntmps49
    go_wp2_with fail
    rw [← Hw0.out]; clear Hw0
    refine Hthin.out.mono ?_
    rintro e w1 ⟨rfl, hL1⟩
    go_wp2_with fail
    refine (Hfc.out w1 hL1).mono ?_
    rintro e w2 ⟨rfl, hL2⟩
    go_wp2_with fail
    go_ret
    exact ⟨ret_bool (by rw [Hr.out]; first | rfl | (rw [Bool.eq_iff_iff]; simp)), Later.trans hL0 (Later.trans hL1 hL2)⟩
theorem readyB_true {c : Hou} (h : readyB c = true) : thinB c = true ∧ fault c = 0 := by
  unfold readyB at h
  rw [Bool.and_eq_true, decide_eq_true_eq] at h
  exact h

theorem in_calls (n lo hi : Int) (w : World) : Calls Try.prog 61 #[.int .i64 n, .agg #[.int .i64 lo, .int .i64 hi]] w fun e w' => e = .returned (.bool (inB n lo hi)) ∧ Later w w' := by
  obtain ⟨b, hb⟩ : ∃ b, inB n lo hi = b := ⟨_, rfl⟩
  rw [hb]
  unfold inB at hb
  have hw := box_cells w #[.int .i64 lo, .int .i64 hi] 42 _ (later_refl _)
  have x0 := hw 0
  have x1 := hw 1
  simp only [List.getElem?_toArray, List.getElem?_cons_zero, List.getElem?_cons_succ] at x0 x1
  by_cases h1 : n ≥ lo
  · have d1 : decide (lo ≤ n) = true := decide_eq_true h1
    by_cases h2 : n ≤ hi
    · have d2 : decide (n ≤ hi) = true := decide_eq_true h2
      rw [d1, d2] at hb
      subst hb
      clear hw h1 h2
      go_enter Try.func61, Try.ntmps61
      go_wp2_with fail
      go_ret
      exact ⟨rfl, by simp⟩
    · have d2 : decide (n ≤ hi) = false := decide_eq_false h2
      rw [d1, d2] at hb
      subst hb
      clear hw h1 h2
      go_enter Try.func61, Try.ntmps61
      go_wp2_with fail
      go_ret
      exact ⟨rfl, by simp⟩
  · have d1 : decide (lo ≤ n) = false := decide_eq_false h1
    rw [d1] at hb
    subst hb
    clear hw h1
    go_enter Try.func61, Try.ntmps61
    go_wp2_with fail
    go_ret
    exact ⟨rfl, by simp⟩

/-- a verdict is as it must be -/
def SteadyP (v : Int) (is : Bool) : Prop := (v = 1 ∧ is = true) ∨ (v = 2 ∧ is = false) ∨ v = 3
theorem steady_calls {v : Int} {is : Bool} (w : World) (h : SteadyP v is) : Calls Try.prog 59 #[.int .i64 v, .bool is] w fun e w' => e = .returned (.bool true) ∧ Later w w' := by
  rcases h with ⟨rfl, rfl⟩ | ⟨rfl, rfl⟩ | rfl
  · go_enter Try.func59, Try.ntmps59
    go_wp2_with fail
    refine (In_eq (b := true) (by decide) _).mono ?_
    rintro e w1 ⟨rfl, rfl⟩
    go_wp2_with fail
    go_ret
    exact ⟨rfl, by simp⟩
  · go_enter Try.func59, Try.ntmps59
    go_wp2_with fail
    refine (In_eq (b := true) (by decide) _).mono ?_
    rintro e w1 ⟨rfl, rfl⟩
    go_wp2_with fail
    go_ret
    exact ⟨rfl, by simp⟩
  · cases is <;>
    · go_enter Try.func59, Try.ntmps59
      go_wp2_with fail
      refine (In_eq (b := true) (by decide) _).mono ?_
      rintro e w1 ⟨rfl, rfl⟩
      go_wp2_with fail
      go_ret
      exact ⟨rfl, by simp⟩

set_option maxRecDepth 100000 in
theorem inside_calls {A B : Option Addr} {n k j : Nat} {a b : List (Int × Int)} (w : World) (ha : RP w A n a) (hb : RP w B n b) (hn : n ≤ 1000)
    (law : ∀ (i : Nat) (x y : Int × Int), a[i]? = some x → b[i]? = some y → y.1 ≤ x.1 ∧ x.2 ≤ y.2) :
    Calls Try.prog 52 #[.slice A n k, .slice B n j] w fun e w' => e = .returned (.bool true) ∧ Later w w' := by
  have Law := hide law
  have hnn : ((n : Int) != (n : Int)) = false := by simp
  clear law
  go_enter Try.func52, Try.ntmps52
  go_wp2_with fail
  go_loopw [5] (fun v wr => ∃ i : Nat, i ≤ n ∧ v = .int .i64 i ∧ Later w wr) (fun v _ => n - (intOf v).toNat)
  case atStart => exact ⟨0, Nat.zero_le _, rfl, later_refl _⟩
  case round =>
    obtain ⟨i, hi, rfl, hL⟩ := hrel
    by_cases hlt : i < n
    · have hi1 : (i : Int) < n := by omega
      obtain ⟨b1, o1, ⟨x1, x2⟩, rfl, _, hx, hx1, hx2⟩ := ha.get hlt
      obtain ⟨b2, o2, ⟨y1, y2⟩, rfl, _, hy, hy1, hy2⟩ := hb.get hlt
      obtain ⟨h1, h2⟩ := Law.out i _ _ hx hy
      dsimp only at h1 h2 hx1 hx2 hy1 hy2
      have hd1 : decide (x1 < y1) = false := decide_eq_false (by omega)
      have hd2 : decide (y2 < x2) = false := decide_eq_false (by omega)
      have c1 := fun W (hW : Later wr W) => hx1 W (Later.trans hL hW)
      have c2 := fun W (hW : Later wr W) => hx2 W (Later.trans hL hW)
      have c3 := fun W (hW : Later wr W) => hy1 W (Later.trans hL hW)
      have c4 := fun W (hW : Later wr W) => hy2 W (Later.trans hL hW)
      clear hx hy hx1 hx2 hy1 hy2 h1 h2
      go_wp2_with fail
      refine wp_region_ext (w0 := wr) (by kernel_rfl) (by kernel_rfl) (later_refl _) ?_; (repeat (first | go_big_quiet_step ((fail)) | quiet_step ((fail)))); refine wpQuiet_nil ?_; rintro w1 ⟨⟨_, hM1⟩, rfl⟩; (try dsimp only)
      go_wp2_with fail
      go_roundw
      case rel => exact ⟨i + 1, hlt, by go_num, Later.trans hL hM1⟩
      case measure => simp [intOf]; omega
    · have hi1 : ¬ (i : Int) < n := by omega
      clear hlt
      go_wp2_with fail
      go_ret
      exact ⟨rfl, hL⟩

set_option maxRecDepth 100000 in
theorem kept_calls {A B : Option Addr} {n k j : Nat} {a b : List Int} (w : World) (ha : RI w A n a) (hb : RI w B n b) (hn : n ≤ 1000)
    (law : ∀ (i : Nat) (x y : Int), a[i]? = some x → b[i]? = some y → x = 3 ∨ x = y) :
    Calls Try.prog 53 #[.slice A n k, .slice B n j] w fun e w' => e = .returned (.bool true) ∧ Later w w' := by
  have Law := hide law
  have hnn : ((n : Int) == (n : Int)) = true := by simp
  clear law
  go_enter Try.func53, Try.ntmps53
  go_wp2_with fail
  go_loopw [5] (fun v wr => ∃ i : Nat, i ≤ n ∧ v = .int .i64 i ∧ Later w wr) (fun v _ => n - (intOf v).toNat)
  case atStart => exact ⟨0, Nat.zero_le _, rfl, later_refl _⟩
  case round =>
    obtain ⟨i, hi, rfl, hL⟩ := hrel
    by_cases hlt : i < n
    · have hi1 : (i : Int) < n := by omega
      obtain ⟨b1, o1, x, rfl, _, hx, hx1⟩ := ha.get hlt
      obtain ⟨b2, o2, y, rfl, _, hy, hy1⟩ := hb.get hlt
      have h1 := Law.out i _ _ hx hy
      have c1 := fun W (hW : Later wr W) => hx1 W (Later.trans hL hW)
      have c2 := fun W (hW : Later wr W) => hy1 W (Later.trans hL hW)
      have d1 := c1 _ (later_refl _)
      have d2 := c2 _ (later_refl _)
      clear hx hy hx1 hy1
      rcases h1 with rfl | rfl
      · go_wp2_with fail
        refine wp_region_ext (w0 := wr) (by kernel_rfl) (by kernel_rfl) (later_refl _) ?_; (repeat (first | go_big_quiet_step ((fail)) | quiet_step ((fail)))); refine wpQuiet_nil ?_; rintro w1 ⟨⟨_, hM1⟩, rfl⟩; (try dsimp only)
        go_wp2_with fail
        go_roundw
        case rel => exact ⟨i + 1, hlt, by go_num, Later.trans hL hM1⟩
        case measure => simp [intOf]; omega
      · by_cases h3 : x = 3
        · subst h3
          go_wp2_with fail
          refine wp_region_ext (w0 := wr) (by kernel_rfl) (by kernel_rfl) (later_refl _) ?_; (repeat (first | go_big_quiet_step ((fail)) | quiet_step ((fail)))); refine wpQuiet_nil ?_; rintro w1 ⟨⟨_, hM1⟩, rfl⟩; (try dsimp only)
          go_wp2_with fail
          go_roundw
          case rel => exact ⟨i + 1, hlt, by go_num, Later.trans hL hM1⟩
          case measure => simp [intOf]; omega
        · have h4 : (x != 3) = true := by simpa using h3
          have h5 : (x != x) = false := by simp
          clear h3
          go_wp2_with fail
          refine wp_region_ext (w0 := wr) (by kernel_rfl) (by kernel_rfl) (later_refl _) ?_; (repeat (first | go_big_quiet_step ((fail)) | quiet_step ((fail)))); refine wpQuiet_nil ?_; rintro w1 ⟨⟨_, hM1⟩, rfl⟩; (try dsimp only)
          go_wp2_with fail
          go_roundw
          case rel => exact ⟨i + 1, hlt, by go_num, Later.trans hL hM1⟩
          case measure => simp [intOf]; omega
    · have hi1 : ¬ (i : Int) < n := by omega
      clear hlt
      go_wp2_with fail
      go_ret
      exact ⟨rfl, hL⟩

/-- what pick returns: a truth, if there is one -/
def PickPost (c : Hou) (w : World) (e : Ending) (w' : World) : Prop :=
  ∃ A n k b, e = .returned (.tuple #[.slice A n k, .bool b]) ∧ Later w w' ∧ ((b = false ∧ truths c = []) ∨ (b = true ∧ ∃ d, d ∈ truths c ∧ RI w' A n d))
set_option maxRecDepth 100000 in
theorem pick_calls {A1 A2 A3 : Option Addr} {n1 k1 n2 k2 n3 k3 : Nat} {c : Hou} {z : Nat} (w : World) (hc : CV w c A1 n1 A2 n2 A3 n3) (hf : fault c = 0) (hz : z < 65536) :
    Calls Try.prog 56 #[(.agg #[.int .i64 c.hour, .int .i64 c.grace, .slice A1 n1 k1, .slice A2 n2 k2, .slice A3 n3 k3]), .int .u16 (z : Int)] w (PickPost c w) := by
  have ok := okH_of_fault hf
  have hmy := many_le hf
  have hlen : (truths c).length ≤ 2000 := by rw [← (truthsP_perm hf).length_eq]; exact truthsP_len hf
  have htr : ∀ d ∈ truths c, d.length ≤ 4 := fun d hd => by have := (truths_isErr ok d hd).len; have := ok.n1; omega
  obtain ⟨w0, hw0⟩ : ∃ W, W = (w.alloc (.cells #[.int .i64 c.hour, .int .i64 c.grace, .slice A1 n1 k1, .slice A2 n2 k2, .slice A3 n3 k3] 26)) := ⟨_, rfl⟩; have hbox : ∀ W, Later w0 W → ∀ i, W.cell? ⟨w.heap.size, i, none⟩ = #[.int .i64 c.hour, .int .i64 c.grace, .slice A1 n1 k1, .slice A2 n2 k2, .slice A3 n3 k3][i]? := (by rw [hw0]; exact box_cells w #[.int .i64 c.hour, .int .i64 c.grace, .slice A1 n1 k1, .slice A2 n2 k2, .slice A3 n3 k3] 26); have hL0 : Later w w0 := (by rw [hw0]; simp); have hc0 := hc.later hL0; have Hw0 := hide hw0; clear hw0
  have htc := Truths_calls (k1 := k1) (k2 := k2) (k3 := k3) w0 hc0 ok (by omega)
  have Htc := hide htc
  have Hlen := hide hlen
  have Htr := hide htr
  clear htc hlen htr ok hmy hf
  go_enter Try.func56, Try.ntmps56
  go_wp2_with fail
  rw [← Hw0.out]; clear Hw0
  refine Htc.out.mono ?_
  rintro e w1 ⟨A, n, k, rfl, hL1, hrr⟩
  have hnl := hrr.len
  have hn2 : n ≤ 2000 := by have := Hlen.out; omega
  by_cases hn0 : n = 0
  · have Ht0 : Hid (truths c = []) := List.eq_nil_of_length_eq_zero (by omega)
    subst hn0
    clear hnl hrr
    go_wp2_with fail
    refine bodyPost_ret (v := .tuple #[.slice none 0 0, .bool false]) ?_ rfl ⟨none, 0, 0, false, rfl, Later.trans hL0 hL1, .inl ⟨rfl, Ht0.out⟩⟩
    simp [results, Try.results56, go_sem]
  · have hlt : z % n < n := Nat.mod_lt _ (by omega)
    obtain ⟨b, o, d, B, m, j, rfl, hx, hrd, hx0⟩ := hrr.get hlt
    have hm : (z : Int) % (n : Int) = ((z % n : Nat) : Int) := by norm_cast
    have hm2 : (z : Int).tmod (n : Int) = ((z % n : Nat) : Int) := by rw [Int.tmod_eq_emod_of_nonneg (by omega)]; norm_cast
    have hm3 : IntKind.i64.wrap ((z % n : Nat) : Int) = ((z % n : Nat) : Int) := IntWalk.i64_in _ (by have := Nat.mod_le z n; omega)
    have hm4 : IntKind.i64.wrap (z : Int) = (z : Int) := IntWalk.i64_in _ (by omega)
    have hm5 : ¬ n = 0 := by omega
    have hz1 : ((n : Int) == 0) = false := by simp; omega
    have hz2 : ¬ (n : Int) = 0 := by omega
    have hmem : d ∈ truths c := List.mem_of_getElem? hx
    have hd4 := Htr.out d hmem
    have hmd := hrd.len
    generalize z % n = q at *
    have hq2 : (q : Int) < n := by omega
    have Hmem := hide hmem
    have x0 := hx0 w1 (later_refl _)
    have hmb : m ≤ 1000000 := by omega
    clear hnl hrr hx hmem hx0 hmd
    go_wp2_with fail
    refine (list_calls w1 hrd hmb).mono ?_
    rintro e w2 ⟨A2, n2, k2, rfl, hL2, hri, _⟩
    go_wp2_with fail
    refine bodyPost_ret (v := .tuple #[.slice A2 n2 k2, .bool true]) ?_ rfl ⟨A2, n2, k2, true, rfl, Later.trans hL0 (Later.trans hL1 hL2), .inr ⟨rfl, d, Hmem.out, hri⟩⟩
    simp [results, Try.results56, go_sem]
end Go.Proofs.Ytbkfnajpbhfneaa

/- The law's some: houses with some of their clips: walk. -/
namespace Go.Proofs.Ytbkfnajpbhfneaa
open Go Go.RowKit
attribute [local go_sem] later_alloc2 later_alloc3 later_alloc4

theorem rclip_info : (Try.prog.info? 74).map (fun i => (i.zero, i.size, i.bytes)) = some (some (.agg #[.int .i64 0, .int .i64 0, .int .i64 0]), 3, 24) := by kernel_rfl
def SomePost (c : Hou) (bits : Nat) (A1 : Option Addr) (n1 k1 : Nat) (A2 : Option Addr) (n2 k2 : Nat) (w : World) (e : Ending) (w' : World) : Prop :=
  ∃ A m k, e = .returned (.agg #[.int .i64 c.hour, .int .i64 c.grace, .slice A1 n1 k1, .slice A2 n2 k2, .slice A m k]) ∧ Later w w' ∧ RC w' A m (someH c bits).clips
set_option maxRecDepth 100000 in
set_option maxHeartbeats 2000000 in
theorem some_calls {A1 A2 A3 : Option Addr} {n1 k1 n2 k2 n3 k3 : Nat} {c : Hou} {bits : Nat} (w : World) (hc : CV w c A1 n1 A2 n2 A3 n3) (hn3 : n3 ≤ 10) (hb : bits ≤ 1000000) :
    Calls Try.prog 62 #[(.agg #[.int .i64 c.hour, .int .i64 c.grace, .slice A1 n1 k1, .slice A2 n2 k2, .slice A3 n3 k3]), .int .i64 bits] w (SomePost c bits A1 n1 k1 A2 n2 k2 w) := by
  obtain ⟨w0, hw0⟩ : ∃ W, W = (w.alloc (.cells #[.int .i64 c.hour, .int .i64 c.grace, .slice A1 n1 k1, .slice A2 n2 k2, .slice A3 n3 k3] 26)) := ⟨_, rfl⟩; have hbox : ∀ W, Later w0 W → ∀ i, W.cell? ⟨w.heap.size, i, none⟩ = #[.int .i64 c.hour, .int .i64 c.grace, .slice A1 n1 k1, .slice A2 n2 k2, .slice A3 n3 k3][i]? := (by rw [hw0]; exact box_cells w #[.int .i64 c.hour, .int .i64 c.grace, .slice A1 n1 k1, .slice A2 n2 k2, .slice A3 n3 k3] 26); have hL0 : Later w w0 := (by rw [hw0]; simp); have hc0 := hc.later hL0; have Hw0 := hide hw0; clear hw0
  obtain ⟨wB, hwB⟩ : ∃ W, W = w0.alloc (.cells #[.int .i64 0, .int .i64 0, .slice none 0 0, .slice none 0 0, .slice none 0 0] 26) := ⟨_, rfl⟩
  have hs0 : w0.heap.size = w.heap.size + 1 := by rw [Hw0.out]; simp
  have hLB : Later w0 wB := by rw [hwB]; simp
  have hsB : wB.heap.size = w.heap.size + 1 + 1 := by rw [hwB]; simp [hs0]
  have hBr : Blk wB (w.heap.size + 1) 26 #[.int .i64 0, .int .i64 0, .slice none 0 0, .slice none 0 0, .slice none 0 0] := by rw [hwB, ← hs0]; exact Blk.new _ _ _
  have hll := hc.cp.len
  have Hll := hide hll
  have HwB := hide hwB
  have HsB := hide hsB
  have HBr := hide hBr
  clear hwB hs0 hsB hBr hll
  go_enter Try.func62, Try.ntmps62
  go_wp2_with fail
  rw [← Hw0.out, ← HwB.out]
  clear Hw0 HwB
  generalize hw5 : wB.alloc _ = w5
  have hL5 : Later wB w5 := by rw [← hw5]; exact later_alloc (later_refl _) _
  obtain ⟨g3, hg3⟩ : ∃ g, g = w.heap.size + 1 + 1 := ⟨_, rfl⟩
  have hgs : g3 = wB.heap.size := by rw [hg3, HsB.out]
  have hb5 : Blk w5 g3 26 #[.int .i64 c.hour, .int .i64 c.grace, .slice A1 n1 k1, .slice A2 n2 k2, .slice none 0 0] := by rw [← hw5, hgs]; exact Blk.new _ _ _
  have hs5 : g3 < w5.heap.size := hb5.lt
  have hlo : wB.heap.size ≤ g3 := by omega
  have hLB5 : wB.heap.size ≤ w5.heap.size := by omega
  have hbxB := fun W (h : Later wB W) => hbox W (Later.trans hLB h)
  have hcB := hc0.later hLB
  have hlw := Later.trans hL0 hLB
  have hz32 : bits / 2 ^ 64 = 0 := Nat.div_eq_of_lt (by omega)
  simp only [← hg3]
  have Hb5 := hide hb5
  have HgB := hide (show w.heap.size + 1 < g3 by omega)
  clear hb5 hw5 hg3 hgs hbox hc0 hL0 hLB HsB hz32
  go_loopw [6] (fun i wq => ∃ (s m : Nat) (Aw : Option Addr) (kw : Nat), s ≤ n3 ∧ m ≤ s ∧ i = .int .i64 s ∧ Later wB wq ∧ Kept g3 w5 wq ∧ Hid (Blk wq g3 26 #[.int .i64 c.hour, .int .i64 c.grace, .slice A1 n1 k1, .slice A2 n2 k2, .slice Aw m kw]) ∧ Hid (wq.ownsRow w5.heap.size 74 3 (.slice Aw m kw) m (clipsV (someTo c bits s)))) (fun i _ => n3 - (intOf i).toNat)
  case atStart => exact ⟨0, 0, none, 0, Nat.zero_le _, Nat.le_refl _, rfl, hL5, Kept.refl _ _, Hb5, ⟨by simp [clipsV, someTo], .inl ⟨rfl, rfl⟩⟩⟩
  case round =>
    obtain ⟨s, m, Aw, kw, hs, hm, rfl, hLq, hKq, Hbq, Howq⟩ := hrel
    by_cases hlt2 : s < n3
    · obtain ⟨b, o, x, rfl, hbl, hx, hx0, hx1, hx2⟩ := hcB.cp.get hlt2
      have hi1 : (s : Int) < n3 := by omega
      have hs1 : (bits : Int) / 2 ^ min s 64 = ((bits / 2 ^ s : Nat) : Int) := by rw [show min s 64 = s by omega]; norm_cast
      have hs2 : (bits : Int) / 2 ^ s = ((bits / 2 ^ s : Nat) : Int) := by norm_cast
      have hit := someTo_hit (bits := bits) hx
      have miss := @someTo_miss c bits s
      have hc2 : ∀ X, Later wr X → X.cell? ⟨g3, 4, none⟩ = some (.slice Aw m kw) := fun X hX => Hbq.out.cells_later X hX 4
      have hk4 : o + s * 3 + 1 + 1 = o + s * 3 + 2 := rfl
      generalize bits / 2 ^ s = q at *
      clear hx
      by_cases ho : q % 2 = 1
      · have hb1 : ((q : Int) % 2 == 1) = true := by simp; omega
        have hv : clipsV (someTo c bits (s + 1)) = clipsV (someTo c bits s) ++ [.int .i64 x.ticket, .int .i64 x.clock, .int .i64 x.minute] := by
          rw [hit ho]; simp [clipsV, Cp.cells]
        have Hv := hide hv
        clear hv hit miss ho
        go_wp2_with fail
        refine wp_region_held_drew (S := Later wB) (by kernel_rfl) (by simp [hLq]) (fun hS => ?_)
        obtain ⟨w3, hw3⟩ : ∃ W, W = wr.drew := ⟨_, rfl⟩
        have hLr : Later wr w3 := by rw [hw3]; exact later_drew (later_refl _)
        rw [← hw3] at hS ⊢
        clear hw3 hs1 hs2
        refine wpAnyH_take (i := 0) (v := ?_) rfl (by kernel_rfl) (by kernel_rfl) (by kernel_rfl) (by intro _ _ _ h; first | exact h | exact absurd h.1 (by simp)) (Or.inl ⟨by rfl, ?_⟩) hS ?_; rotate_left; (focus (intro X hSX; (try dsimp only at hSX); go_simp; (try with_reducible rfl))); (try simp only [Act.put, List.setIfInBounds_toArray, List.set_cons_zero, List.set_cons_succ])
        refine wpAnyH_take (i := 2) (v := ?_) rfl (by kernel_rfl) (by kernel_rfl) (by kernel_rfl) (by intro _ _ _ h; first | exact h | exact absurd h.1 (by simp)) (Or.inl ⟨by rfl, ?_⟩) hS ?_; rotate_left; (focus (intro X hSX; (try dsimp only at hSX); go_simp; (try with_reducible rfl))); (try simp only [Act.put, List.setIfInBounds_toArray, List.set_cons_zero, List.set_cons_succ])
        refine wpAnyH_take (i := 3) (v := ?_) rfl (by kernel_rfl) (by kernel_rfl) (by kernel_rfl) (by intro _ _ _ h; first | exact h | exact absurd h.1 (by simp)) (Or.inl ⟨by rfl, ?_⟩) hS ?_; rotate_left; (focus (intro X hSX; (try dsimp only at hSX); go_simp; (try with_reducible rfl))); (try simp only [Act.put, List.setIfInBounds_toArray, List.set_cons_zero, List.set_cons_succ])
        refine wpAnyH_take (i := 4) (v := ?_) rfl (by kernel_rfl) (by kernel_rfl) (by kernel_rfl) (by intro _ _ _ h; first | exact h | exact absurd h.1 (by simp)) (Or.inl ⟨by rfl, ?_⟩) hS ?_; rotate_left; (focus (intro X hSX; (try dsimp only at hSX); go_simp; (try with_reducible rfl))); (try simp only [Act.put, List.setIfInBounds_toArray, List.set_cons_zero, List.set_cons_succ])
        refine wpAnyH_take (i := 5) (v := ?_) rfl (by kernel_rfl) (by kernel_rfl) (by kernel_rfl) (by intro _ _ _ h; first | exact h | exact absurd h.1 (by simp)) (Or.inl ⟨by rfl, ?_⟩) hS ?_; rotate_left; (focus (intro X hSX; (try dsimp only at hSX); go_simp; (try with_reducible rfl))); (try simp only [Act.put, List.setIfInBounds_toArray, List.set_cons_zero, List.set_cons_succ])
        refine wpAnyH_take (i := 6) (v := ?_) rfl (by kernel_rfl) (by kernel_rfl) (by kernel_rfl) (by intro _ _ _ h; first | exact h | exact absurd h.1 (by simp)) (Or.inl ⟨by rfl, ?_⟩) hS ?_; rotate_left; (focus (intro X hSX; (try dsimp only at hSX); go_simp; (try with_reducible rfl))); (try simp only [Act.put, List.setIfInBounds_toArray, List.set_cons_zero, List.set_cons_succ])
        refine wpAnyH_ready (rs := [1, 7]) (by kernel_rfl) (by simp) ?_
        refine AllReadyH.cons rfl (fun K hK2 => ?_) (AllReadyH.cons rfl (fun K hK2 => ?_) AllReadyH.nil)
        · go_simp
          refine hK2.out _ _ hS (fun _ => ?_)
          clear hK2 K; (try simp only [Act.put, List.setIfInBounds_toArray, List.set_cons_zero, List.set_cons_succ])
          refine wpAnyH_ready (rs := [7]) (by kernel_rfl) (by simp) ?_; refine AllReadyH.cons rfl (fun K hK2 => ?_) AllReadyH.nil
          go_simp
          refine hK2.out _ _ (later_alloc hS _) (fun hS4 => ?_)
          clear hK2 K; (try simp only [Act.put, List.setIfInBounds_toArray, List.set_cons_zero, List.set_cons_succ])
          refine wpAnyH_ready (rs := [8]) (by kernel_rfl) (by simp) ?_
          refine AllReadyH.cons (o := { dst := some 30, op := Op.call { callee := Callee.builtin Builtin.append, args := #[Operand.tmp 23, Operand.tmp 29], argTypes := #[24, 24] }, type := 24, pos := "outright.go:379", after := #[{ on := 1, ground := Ground.data }, { on := 7, ground := Ground.data }], guard := none }) rfl (fun K hK2 => ?_) AllReadyH.nil
          have hown4 := (own_later2 Howq.out hLr).alloc (.cells #[.int .i64 x.ticket, .int .i64 x.clock, .int .i64 x.minute] 74)
          have knew := Blk.new w3 74 #[.int .i64 x.ticket, .int .i64 x.clock, .int .i64 x.minute]
          have hK4 := (hKq.later hLr).later (later_alloc (later_refl _) (.cells #[.int .i64 x.ticket, .int .i64 x.clock, .int .i64 x.minute] 74))
          have hbk4 := (Hbq.out.later hLr).alloc (.cells #[.int .i64 x.ticket, .int .i64 x.clock, .int .i64 x.minute] 74)
          refine appG_step rfl w5.heap.size _ _ 24 rfl 74 (.agg #[.int .i64 0, .int .i64 0, .int .i64 0]) 3 24 Try.underlying24 rclip_info rfl (by omega) (.slice Aw m kw) m (clipsV (someTo c bits s)) rfl hK4.1 hown4 ⟨w3.heap.size, 0, none⟩ 1 1 [.int .i64 x.ticket, .int .i64 x.clock, .int .i64 x.minute] rfl rfl (fun j u hu => by rw [add_lit, Nat.zero_add, knew.cell, List.getElem?_toArray]; exact hu) (by simp [Value.oneCell']) (by omega) (by omega) (by omega) ?_
          intro v' w4 hap
          obtain ⟨A', c', hv', _⟩ := own_slice hap.own
          subst hv'
          have hr4 : ∀ g, (Value.slice Aw m kw).ownBlock = some g → w5.heap.size ≤ g := fun g hg => (hown4.lt g hg).1
          have hL4 := Later.grown hS4 hap.grown fun g hg => Nat.le_trans hLB5 (hr4 g hg)
          have hK5 := hK4.grown hap.grown hr4
          have hb4' := Blk.of_eq (hap.grown.block g3 hbk4.lt (fun e => by have := hr4 g3 e.symm; omega)) hbk4
          have c24 := hb4'.cell 4
          have f24 := hb4'.frozen 4
          simp only [List.getElem?_toArray, List.getElem?_cons_zero, List.getElem?_cons_succ] at c24
          have Hown5 := hide hap.own
          have Hb4 := hide hb4'
          clear hown4 knew hK4 hbk4 hr4 hap hb4'
          refine hK2.out _ _ hL4 (fun hS5 => ?_)
          clear hK2 K; (try simp only [Act.put, List.setIfInBounds_toArray, List.set_cons_zero, List.set_cons_succ])
          refine wpAnyH_take (i := 9) (v := ?_) rfl (by kernel_rfl) (by kernel_rfl) (by kernel_rfl) (by intro _ _ _ h; first | exact h | exact absurd h.1 (by simp)) (Or.inl ⟨by rfl, ?_⟩) hS5 ?_; rotate_left; (focus (intro X hSX; (try dsimp only at hSX); go_simp; (try with_reducible rfl))); (try simp only [Act.put, List.setIfInBounds_toArray, List.set_cons_zero, List.set_cons_succ])
          refine wpAnyH_ready (rs := [10]) (by kernel_rfl) (by simp) ?_; refine AllReadyH.cons rfl (fun K hK2 => ?_) AllReadyH.nil
          go_simp
          have hS6 := later_set hS5 ⟨g3, 4, none⟩ hlo (.slice A' (m + 1) c')
          have hK6 := hK5.setCell 4 (.slice A' (m + 1) c')
          have hb6 := Hb4.out.set_ 4 (.slice A' (m + 1) c')
          have ho6 := own_block (W' := w4.setCell ⟨g3, 4, none⟩ (.slice A' (m + 1) c')) Hown5.out fun g hg => Below.heap_setCell w4 _ _ g (by have := (Hown5.out.lt g hg).1; show g ≠ g3; omega)
          rw [← Hv.out] at ho6
          have Hb6 := hide hb6
          have Ho6 := hide ho6
          clear hb6 ho6
          refine hK2.out _ _ hS6 (fun _ => ?_)
          clear hK2 K
          refine wpAnyH_done (by kernel_rfl) ?_ _
          gi_wp2_with fail
          go_wp2_with fail
          go_roundw
          case rel => exact ⟨s + 1, m + 1, A', c', by omega, by omega, by go_num, hS6, hK6, Hb6, Ho6⟩
          case measure => simp [intOf]; omega
        · go_simp
          refine hK2.out _ _ (later_alloc hS _) (fun hS4 => ?_)
          clear hK2 K; (try simp only [Act.put, List.setIfInBounds_toArray, List.set_cons_zero, List.set_cons_succ])
          refine wpAnyH_ready (rs := [1]) (by kernel_rfl) (by simp) ?_; refine AllReadyH.cons rfl (fun K hK2 => ?_) AllReadyH.nil
          go_simp
          refine hK2.out _ _ hS4 (fun _ => ?_)
          clear hK2 K; (try simp only [Act.put, List.setIfInBounds_toArray, List.set_cons_zero, List.set_cons_succ])
          refine wpAnyH_ready (rs := [8]) (by kernel_rfl) (by simp) ?_
          refine AllReadyH.cons (o := { dst := some 30, op := Op.call { callee := Callee.builtin Builtin.append, args := #[Operand.tmp 23, Operand.tmp 29], argTypes := #[24, 24] }, type := 24, pos := "outright.go:379", after := #[{ on := 1, ground := Ground.data }, { on := 7, ground := Ground.data }], guard := none }) rfl (fun K hK2 => ?_) AllReadyH.nil
          have hown4 := (own_later2 Howq.out hLr).alloc (.cells #[.int .i64 x.ticket, .int .i64 x.clock, .int .i64 x.minute] 74)
          have knew := Blk.new w3 74 #[.int .i64 x.ticket, .int .i64 x.clock, .int .i64 x.minute]
          have hK4 := (hKq.later hLr).later (later_alloc (later_refl _) (.cells #[.int .i64 x.ticket, .int .i64 x.clock, .int .i64 x.minute] 74))
          have hbk4 := (Hbq.out.later hLr).alloc (.cells #[.int .i64 x.ticket, .int .i64 x.clock, .int .i64 x.minute] 74)
          refine appG_step rfl w5.heap.size _ _ 24 rfl 74 (.agg #[.int .i64 0, .int .i64 0, .int .i64 0]) 3 24 Try.underlying24 rclip_info rfl (by omega) (.slice Aw m kw) m (clipsV (someTo c bits s)) rfl hK4.1 hown4 ⟨w3.heap.size, 0, none⟩ 1 1 [.int .i64 x.ticket, .int .i64 x.clock, .int .i64 x.minute] rfl rfl (fun j u hu => by rw [add_lit, Nat.zero_add, knew.cell, List.getElem?_toArray]; exact hu) (by simp [Value.oneCell']) (by omega) (by omega) (by omega) ?_
          intro v' w4 hap
          obtain ⟨A', c', hv', _⟩ := own_slice hap.own
          subst hv'
          have hr4 : ∀ g, (Value.slice Aw m kw).ownBlock = some g → w5.heap.size ≤ g := fun g hg => (hown4.lt g hg).1
          have hL4 := Later.grown hS4 hap.grown fun g hg => Nat.le_trans hLB5 (hr4 g hg)
          have hK5 := hK4.grown hap.grown hr4
          have hb4' := Blk.of_eq (hap.grown.block g3 hbk4.lt (fun e => by have := hr4 g3 e.symm; omega)) hbk4
          have c24 := hb4'.cell 4
          have f24 := hb4'.frozen 4
          simp only [List.getElem?_toArray, List.getElem?_cons_zero, List.getElem?_cons_succ] at c24
          have Hown5 := hide hap.own
          have Hb4 := hide hb4'
          clear hown4 knew hK4 hbk4 hr4 hap hb4'
          refine hK2.out _ _ hL4 (fun hS5 => ?_)
          clear hK2 K; (try simp only [Act.put, List.setIfInBounds_toArray, List.set_cons_zero, List.set_cons_succ])
          refine wpAnyH_take (i := 9) (v := ?_) rfl (by kernel_rfl) (by kernel_rfl) (by kernel_rfl) (by intro _ _ _ h; first | exact h | exact absurd h.1 (by simp)) (Or.inl ⟨by rfl, ?_⟩) hS5 ?_; rotate_left; (focus (intro X hSX; (try dsimp only at hSX); go_simp; (try with_reducible rfl))); (try simp only [Act.put, List.setIfInBounds_toArray, List.set_cons_zero, List.set_cons_succ])
          refine wpAnyH_ready (rs := [10]) (by kernel_rfl) (by simp) ?_; refine AllReadyH.cons rfl (fun K hK2 => ?_) AllReadyH.nil
          go_simp
          have hS6 := later_set hS5 ⟨g3, 4, none⟩ hlo (.slice A' (m + 1) c')
          have hK6 := hK5.setCell 4 (.slice A' (m + 1) c')
          have hb6 := Hb4.out.set_ 4 (.slice A' (m + 1) c')
          have ho6 := own_block (W' := w4.setCell ⟨g3, 4, none⟩ (.slice A' (m + 1) c')) Hown5.out fun g hg => Below.heap_setCell w4 _ _ g (by have := (Hown5.out.lt g hg).1; show g ≠ g3; omega)
          rw [← Hv.out] at ho6
          have Hb6 := hide hb6
          have Ho6 := hide ho6
          clear hb6 ho6
          refine hK2.out _ _ hS6 (fun _ => ?_)
          clear hK2 K
          refine wpAnyH_done (by kernel_rfl) ?_ _
          gi_wp2_with fail
          go_wp2_with fail
          go_roundw
          case rel => exact ⟨s + 1, m + 1, A', c', by omega, by omega, by go_num, hS6, hK6, Hb6, Ho6⟩
          case measure => simp [intOf]; omega
      · have hb1 : ((q : Int) % 2 == 1) = false := by simp; omega
        have Hmiss := hide (miss ho)
        clear hit miss ho
        go_wp2_with fail
        go_roundw
        case rel => exact ⟨s + 1, m, Aw, kw, by omega, by omega, by go_num, hLq, hKq, Hbq, by rw [Hmiss.out]; exact Howq⟩
        case measure => simp [intOf]; omega
    · have hst : s = n3 := by omega
      subst s
      have hsl : (someH c bits).clips = someTo c bits n3 := by rw [Hll.out]; rfl
      have hrd : RC wr Aw m (someH c bits).clips := by
        rw [hsl]
        obtain ⟨A', c', e, hr⟩ := own_slice Howq.out
        injection e with e1 e2 e3
        subst e1
        exact hr
      have y0 := Hbq.out.cell 0
      have y1 := Hbq.out.cell 1
      have y2 := Hbq.out.cell 2
      have y3 := Hbq.out.cell 3
      have y4 := Hbq.out.cell 4
      have hbr := HBr.out.later hLq
      have x0 := hbr.cell 0
      have x1 := hbr.cell 1
      have x2 := hbr.cell 2
      have x3 := hbr.cell 3
      have x4 := hbr.cell 4
      have xf0 := hbr.frozen 0
      have xf1 := hbr.frozen 1
      have xf2 := hbr.frozen 2
      have xf3 := hbr.frozen 3
      have xf4 := hbr.frozen 4
      have hsz := hbr.lt
      simp only [List.getElem?_toArray, List.getElem?_cons_zero, List.getElem?_cons_succ] at y0 y1 y2 y3 y4 x0 x1 x2 x3 x4
      have hfin : ∀ X, Later w X → Later w (((((X.setCell ⟨w.heap.size + 1, 0, none⟩ (.int .i64 c.hour)).setCell ⟨w.heap.size + 1, 1, none⟩ (.int .i64 c.grace)).setCell ⟨w.heap.size + 1, 2, none⟩ (.slice A1 n1 k1)).setCell ⟨w.heap.size + 1, 3, none⟩ (.slice A2 n2 k2)).setCell ⟨w.heap.size + 1, 4, none⟩ (.slice Aw m kw)) := fun X h =>
        later_set (later_set (later_set (later_set (later_set h _ (Nat.le_succ _) _) _ (Nat.le_succ _) _) _ (Nat.le_succ _) _) _ (Nat.le_succ _) _) _ (Nat.le_succ _) _
      have hlq := Later.trans hlw hLq
      have hne : g3 ≠ w.heap.size + 1 := by have := HgB.out; omega
      have hrow := hrd
      clear hbr
      go_wp2_with fail
      have hko : ∀ (X : World) (i : Nat) (u : Value), Hid (X.ownsRow w5.heap.size 74 3 (.slice Aw m kw) m (clipsV (someTo c bits n3))) → Hid ((X.setCell ⟨w.heap.size + 1, i, none⟩ u).ownsRow w5.heap.size 74 3 (.slice Aw m kw) m (clipsV (someTo c bits n3))) := fun X i u h =>
        own_block h.out fun g hg => Below.heap_setCell X _ _ g (by have h1 := (h.out.lt g hg).1; have h2 := HgB.out; show g ≠ w.heap.size + 1; omega)
      have ho2 := hko _ 4 (.slice Aw m kw) (hko _ 3 (.slice A2 n2 k2) (hko _ 2 (.slice A1 n1 k1) (hko _ 1 (.int .i64 c.grace) (hko _ 0 (.int .i64 c.hour) Howq))))
      refine bodyPost_ret (v := .agg #[.int .i64 c.hour, .int .i64 c.grace, .slice A1 n1 k1, .slice A2 n2 k2, .slice Aw m kw]) ?_ rfl ⟨Aw, m, kw, rfl, hfin _ hlq, ?_⟩
      · simp [results, Try.results62, go_sem, *]
      · rw [hsl]
        obtain ⟨A', c', e, hr⟩ := own_slice ho2.out
        injection e with e1 e2 e3
        subst e1
        exact hr
end Go.Proofs.Ytbkfnajpbhfneaa
