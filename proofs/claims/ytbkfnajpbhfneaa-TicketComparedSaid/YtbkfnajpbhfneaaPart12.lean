/- Part 12 of the proof: joined from the texts TrL. -/
import Derived.Test.YtbkfnajpbhfneaaPart11
set_option linter.unusedSimpArgs false
set_option linter.unusedVariables false
/- The reference's Leaves, Look: walks. -/
namespace Go.Proofs.Ytbkfnajpbhfneaa
open Go Go.RowKit

theorem RRI.getc {w W : World} {A : Option Addr} {n k : Nat} {ll : List (List Int)} (h : RRI w A n ll) (hk : ∀ d ∈ ll, k < d.length) {j : Nat} (hj : j < n) (hL : Later w W) :
    ∃ b o A' n' k' d be oe v, A = some ⟨b, o, none⟩ ∧ A' = some ⟨be, oe, none⟩ ∧ ll[j]? = some d ∧ d.getD k 0 = v ∧ (k : Int) < (n' : Nat) ∧ (∀ W', Later W W' → W'.cell? ⟨b, o + j, none⟩ = some (.slice A' n' k')) ∧ ∀ W', Later W W' → W'.cell? ⟨be, oe + k, none⟩ = some (.int .i64 v) := by
  obtain ⟨b, o, d, A', n', k', rfl, hx, hr, hc⟩ := h.get hj
  have hkd := hk d (List.mem_of_getElem? hx)
  have hn := hr.len
  obtain ⟨be, oe, v, rfl, _, hv, hc2⟩ := hr.get (k := k) (by omega)
  exact ⟨b, o, _, n', k', d, be, oe, v, rfl, rfl, hx, by rw [List.getD_eq_getElem?_getD, hv]; rfl, by omega, fun W' hW => hc W' (Later.trans hL hW), fun W' hW => hc2 W' (Later.trans hL hW)⟩
def leavesTo (l : List (List Int)) (k j : Nat) : Int := (l.take j).foldl (leavesStep l k) 0
theorem leavesTo_succ {l : List (List Int)} {k j : Nat} {d : List Int} (hx : l[j]? = some d) : leavesTo l k (j + 1) = max (leavesTo l k j) (cnt l k (d.getD k 0) : Int) := by
  unfold leavesTo; rw [List.take_add_one, hx, Option.toList_some, List.foldl_append]; rfl
theorem leavesTo_range (l : List (List Int)) (k j : Nat) : 0 ≤ leavesTo l k j ∧ leavesTo l k j ≤ l.length := by
  obtain ⟨h1, _, h3⟩ := leaves_fold l k (l.take j) 0
  unfold leavesTo
  refine ⟨h1, ?_⟩
  rcases h3 with h3 | ⟨d, _, h3⟩
  · omega
  · have : cnt l k (d.getD k 0) ≤ l.length := List.countP_le_length
    omega
set_option maxRecDepth 100000 in
set_option maxHeartbeats 1000000 in
theorem Leaves_calls {Al : Option Addr} {nl kl : Nat} {ll : List (List Int)} (k : Nat) (w : World) (hl : RRI w Al nl ll) (hk : ∀ d ∈ ll, k < d.length) (hn : nl ≤ 100000) :
    Calls Try.prog 55 #[.slice Al nl kl, .int .i64 (k : Int)] w fun e w' => e = .returned (.int .i64 (leaves ll k)) ∧ Later w w' := by
  have hnl := hl.len
  have Hnl := hide hnl
  clear hnl
  go_enter Try.func55, Try.ntmps55
  go_wp2_with fail
  go_loopw [5, 6, 7, 8] (fun m i _ _ wr => ∃ j : Nat, j ≤ nl ∧ i = .int .i64 j ∧ m = .int .i64 (leavesTo ll k j) ∧ Later w wr) (fun _ i _ _ _ => nl - (intOf i).toNat)
  case atStart => exact ⟨0, Nat.zero_le _, rfl, rfl, later_refl _⟩
  case round =>
    obtain ⟨j, hj, rfl, rfl, hL⟩ := hrel
    by_cases hlt : j < nl
    · have hi1 : (j : Int) < nl := by omega
      obtain ⟨d, hx⟩ : ∃ d, ll[j]? = some d := ⟨_, List.getElem?_eq_getElem (by have := Hnl.out; omega)⟩
      have hs := leavesTo_succ (k := k) hx
      have hr := leavesTo_range ll k j
      have hcl : cnt ll k (d.getD k 0) ≤ nl := by have := Hnl.out; rw [this]; exact List.countP_le_length
      have Hs := hide hs
      have Hx := hide hx
      generalize leavesTo ll k j = q at *
      clear hs hx
      go_wp2_with fail
      obtain ⟨wo, hwo⟩ : ∃ W, W = wr := ⟨_, rfl⟩
      rw [← hwo] at hL
      rw [← hwo]
      clear hwo
      go_loopw [7, 8] (fun m i wr => ∃ t : Nat, t ≤ nl ∧ i = .int .i64 t ∧ m = .int .i64 ((ll.take t).countP fun x => decide (x.getD k 0 = d.getD k 0)) ∧ Later w wr) (fun _ i _ => nl - (intOf i).toNat)
      case atStart => exact ⟨0, Nat.zero_le _, rfl, by simp, hL⟩
      case round =>
        obtain ⟨t, ht, rfl, rfl, hLt⟩ := hrel
        by_cases hltt : t < nl
        · have ht1 : (t : Int) < nl := by omega
          obtain ⟨b1, o1, A1, n1, k1, d1, be1, oe1, v1, rfl, rfl, hx1, hv1, hk1, hc1, hd1⟩ := hl.getc hk hltt hLt
          obtain ⟨b2, o2, A2, n2, k2, d2, be2, oe2, v2, hA, rfl, hx2, hv2, hk2, hc2, hd2⟩ := hl.getc hk hlt hLt
          obtain ⟨rfl, rfl⟩ := some_lit hA
          rw [Hx.out] at hx2
          injection hx2 with hx2
          subst hx2
          have hct := countP_take (fun x => decide (x.getD k 0 = d.getD k 0)) ll t d1 hx1
          have hcle := countP_take_le (fun x => decide (x.getD k 0 = d.getD k 0)) ll t
          rw [hv1, hv2] at hct
          rw [hv2] at hcle hcl ⊢
          have Hct := hide hct
          have Hv2 := hide hv2
          generalize (ll.take t).countP (fun x => decide (x.getD k 0 = v2)) = y at *
          clear hct hA hx1 hv1 hv2
          by_cases he : v1 = v2
          · have hb : (v1 == v2) = true := by simp [he]
            have Hc2 : Hid ((ll.take (t + 1)).countP (fun x => decide (x.getD k 0 = v2)) = y + 1) := by show _ = _; rw [Hct.out, if_pos (by simpa using he)]
            clear Hct he
            go_wp2_with fail
            refine wp_region_ext (w0 := wr) (by kernel_rfl) (by kernel_rfl) (later_refl _) ?_; (repeat (first | go_big_quiet_step (((fail))) | quiet_step (((fail))))); refine wpQuiet_nil ?_; rintro w3 ⟨⟨_, hL3⟩, rfl⟩; (try dsimp only)
            go_wp2_with fail
            go_roundw
            case rel => exact ⟨t + 1, hltt, by go_num, by rw [Hc2.out]; rfl, Later.trans hLt hL3⟩
            case measure => simp [intOf]; omega
          · have hb : (v1 == v2) = false := by simp [he]
            have Hc2 : Hid ((ll.take (t + 1)).countP (fun x => decide (x.getD k 0 = v2)) = y) := by show _ = _; rw [Hct.out, if_neg (by simpa using he)]; rfl
            clear Hct he
            go_wp2_with fail
            refine wp_region_ext (w0 := wr) (by kernel_rfl) (by kernel_rfl) (later_refl _) ?_; (repeat (first | go_big_quiet_step (((fail))) | quiet_step (((fail))))); refine wpQuiet_nil ?_; rintro w3 ⟨⟨_, hL3⟩, rfl⟩; (try dsimp only)
            go_wp2_with fail
            go_roundw
            case rel => exact ⟨t + 1, hltt, by go_num, by rw [Hc2.out], Later.trans hLt hL3⟩
            case measure => simp [intOf]; omega
        · have hf : (ll.take t).countP (fun x => decide (x.getD k 0 = d.getD k 0)) = cnt ll k (d.getD k 0) := by
            rw [List.take_of_length_le (by have := Hnl.out; omega)]; rfl
          rw [hf]
          generalize cnt ll k (d.getD k 0) = y at *
          clear hf
          go_wp2_with fail
          go_roundw
          case rel => exact ⟨j + 1, hlt, by go_num, by rw [Hs.out]; first | rfl | (congr 1; rw [Int.max_def]; split <;> split <;> omega), hLt⟩
          case measure => simp [intOf]; omega
    · have hf : Hid (leavesTo ll k j = leaves ll k) := by
        show _ = _; unfold leavesTo leaves; rw [List.take_of_length_le (by have := Hnl.out; omega)]
      generalize leavesTo ll k j = q at *
      go_wp2_with fail
      go_ret
      exact ⟨ret_int hf.out, hL⟩
theorem Leaves_eq {Al : Option Addr} {nl kl : Nat} {ll : List (List Int)} {v : Int} (k : Nat) (hv : leaves ll k = v) (w : World) (hl : RRI w Al nl ll) (hk : ∀ d ∈ ll, k < d.length) (hn : nl ≤ 100000) :
    Calls Try.prog 55 #[.slice Al nl kl, .int .i64 (k : Int)] w fun e w' => e = .returned (.int .i64 v) ∧ Later w w' := by
  rw [← hv]; exact Leaves_calls k w hl hk hn
def lookRTo (l : List (List Int)) (j : Nat) : Nat × Int := ((List.range j).map (· + 1)).foldl (lookStep l) (0, leaves l 0)
theorem lookRTo_succ (l : List (List Int)) (j : Nat) : lookRTo l (j + 1) = if leaves l (j + 1) < (lookRTo l j).2 then (j + 1, leaves l (j + 1)) else lookRTo l j := by
  unfold lookRTo; rw [List.range_succ, List.map_append, List.foldl_append]; rfl
set_option maxRecDepth 100000 in
set_option maxHeartbeats 1000000 in
theorem Look_calls {A1 A2 A3 : Option Addr} {n1 k1 n2 k2 n3 k3 : Nat} {c : Hou} {Al : Option Addr} {nl kl : Nat} {ll : List (List Int)} (w : World) (hc : CV w c A1 n1 A2 n2 A3 n3) (hl : RRI w Al nl ll) (hk : ∀ d ∈ ll, n1 ≤ d.length) (hn : nl ≤ 100000) (h1 : 1 ≤ n1) (h4 : n1 ≤ 1000) :
    Calls Try.prog 43 #[(.agg #[.int .i64 c.hour, .int .i64 c.grace, .slice A1 n1 k1, .slice A2 n2 k2, .slice A3 n3 k3]), .slice Al nl kl] w fun e w' => e = .returned (.tuple #[.int .i64 ((lookR c ll).1 : Nat), .int .i64 (lookR c ll).2]) ∧ Later w w' := by
  have hn1 := hc.ck.len
  have hend : lookRTo ll (n1 - 1) = lookR c ll := by unfold lookRTo lookR; rw [hn1]
  have Hend := hide hend
  clear hn1 hend
  obtain ⟨w0, hw0⟩ : ∃ W, W = (w.alloc (.cells #[.int .i64 c.hour, .int .i64 c.grace, .slice A1 n1 k1, .slice A2 n2 k2, .slice A3 n3 k3] 26)) := ⟨_, rfl⟩; have hbox : ∀ W, Later w0 W → ∀ i, W.cell? ⟨w.heap.size, i, none⟩ = #[.int .i64 c.hour, .int .i64 c.grace, .slice A1 n1 k1, .slice A2 n2 k2, .slice A3 n3 k3][i]? := (by rw [hw0]; exact box_cells w #[.int .i64 c.hour, .int .i64 c.grace, .slice A1 n1 k1, .slice A2 n2 k2, .slice A3 n3 k3] 26); have hL0 : Later w w0 := (by rw [hw0]; simp); have hc0 := hc.later hL0; have Hw0 := hide hw0; clear hw0
  have hl0 := hl.later hL0
  have HLv := hide (fun (W : World) (h : Later w0 W) (k : Nat) (hkk : k < n1) v (hv : leaves ll k = v) => Leaves_eq (kl := kl) k hv W (hl0.later h) (fun d hd => Nat.lt_of_lt_of_le hkk (hk d hd)) hn)
  obtain ⟨q0, hq0⟩ : ∃ q, leaves ll 0 = q := ⟨_, rfl⟩
  have Hq0 := hide hq0
  have hL00 := HLv.out w0 (later_refl _) 0 h1 q0 hq0
  rw [show ((0 : Nat) : Int) = 0 from rfl] at hL00
  have HL00 := hide hL00
  clear hq0 hL00
  go_enter Try.func43, Try.ntmps43
  go_wp2_with fail
  rw [← Hw0.out]; clear Hw0
  refine HL00.out.mono ?_
  rintro e w1 ⟨rfl, hL1⟩
  go_wp2_with fail
  go_loopw [6, 7, 8, 9] (fun a b i _ wr => ∃ j : Nat, j + 1 ≤ n1 ∧ i = .int .i64 ((j : Int) + 1) ∧ a = .int .i64 ((lookRTo ll j).1 : Nat) ∧ b = .int .i64 (lookRTo ll j).2 ∧ Later w0 wr) (fun _ _ i _ _ => n1 - (intOf i).toNat)
  case atStart => exact ⟨0, h1, rfl, rfl, by show _ = Value.int .i64 (leaves ll 0); rw [Hq0.out], hL1⟩
  case round =>
    obtain ⟨j, hj, rfl, rfl, rfl, hL⟩ := hrel
    by_cases hlt : j + 1 < n1
    · have hi1 : (j : Int) + 1 < n1 := by omega
      have hs := lookRTo_succ ll j
      obtain ⟨v, hv⟩ : ∃ v, leaves ll (j + 1) = v := ⟨_, rfl⟩
      have hcall := HLv.out wr hL (j + 1) hlt v hv
      rw [show ((j + 1 : Nat) : Int) = (j : Int) + 1 from rfl] at hcall
      rw [hv] at hs
      obtain ⟨⟨a, b⟩, hab⟩ : ∃ r, lookRTo ll j = r := ⟨_, rfl⟩
      rw [hab] at hs ⊢
      dsimp only at hs ⊢
      have Hs := hide hs
      have Hcall := hide hcall
      clear hs hv hcall hab
      by_cases hvb : v < b
      · rw [if_pos hvb] at Hs
        go_wp2_with fail
        refine Hcall.out.mono ?_
        rintro e w3 ⟨rfl, hL3⟩
        go_wp2_with fail
        go_roundw
        case rel => exact ⟨j + 1, by omega, by go_num, by rw [Hs.out]; rfl, by rw [Hs.out], Later.trans hL hL3⟩
        case measure => simp [intOf]; omega
      · rw [if_neg hvb] at Hs
        go_wp2_with fail
        refine Hcall.out.mono ?_
        rintro e w3 ⟨rfl, hL3⟩
        go_wp2_with fail
        go_roundw
        case rel => exact ⟨j + 1, by omega, by go_num, by rw [Hs.out], by rw [Hs.out], Later.trans hL hL3⟩
        case measure => simp [intOf]; omega
    · have hje : j = n1 - 1 := by omega
      rw [hje, Hend.out]
      have hi1 : ¬ (j : Int) + 1 < n1 := by omega
      rw [← hje]
      obtain ⟨⟨a, b⟩, hab⟩ : ∃ r, lookR c ll = r := ⟨_, rfl⟩
      have Hab := hide hab
      rw [hab]
      dsimp only
      clear hab hje
      go_wp2_with fail
      refine bodyPost_ret (v := .tuple #[.int .i64 (a : Nat), .int .i64 b]) ?_ rfl ⟨by rw [Hab.out], Later.trans hL0 hL⟩
      simp [results, Try.results43, go_sem]
end Go.Proofs.Ytbkfnajpbhfneaa
