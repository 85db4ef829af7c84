/- Part 11 of the proof: joined from the texts RefK, RefM, RefN, RefO, RefP, LvP. -/
import Derived.Test.YtjilckjhdlabaaaPart9
import Derived.Test.YtjilckjhdlabaaaPart6
import Derived.Test.YtjilckjhdlabaaaPart5
set_option linter.unusedSimpArgs false
set_option linter.unusedVariables false
/- The reference's Ask: walk. -/
namespace Go.Proofs.Ytjilckjhdlabaaa
open Go Go.RowKit

set_option maxRecDepth 100000 in
theorem Ask_calls {A1 A2 A3 : Option Addr} {n1 k1 n2 k2 n3 k3 : Nat} {c : Clo} {Al : Option Addr} {nl kl : Nat} {ll : List (List Int)} (w : World) (hc : CV w c A1 n1 A2 n2 A3 n3) (hl : RRI w Al nl ll) (ok : OkC c) (hdry : ∀ d ∈ ll, IsDry c d) (hn : nl ≤ 1000000) :
    Calls Try.prog 33 #[(.agg #[.int .i64 c.closets, .int .i64 c.close, .slice A1 n1 k1, .slice A2 n2 k2, .slice A3 n3 k3]), .slice Al nl kl] w fun e w' => e = .returned (.tuple #[.int .i64 (askR c ll).1, .int .i64 (askR c ll).2.1, .int .i64 (askR c ll).2.2]) ∧ Later w w' := by
  have hn1 := hc.hs.len
  have hn14 : n1 ≤ 4 := by have := ok.len; omega
  have hfin : askR c ll = askTo (fun h m => leaves c ll h (m : Nat)) n1 (0, 0, 1099511627776) := by unfold askR askAll askTo; rw [hn1]
  have Hfin := hide hfin
  have Hn1 := hide hn1
  clear hn1 hfin
  obtain ⟨w0, hw0⟩ : ∃ W, W = (w.alloc (.cells #[.int .i64 c.closets, .int .i64 c.close, .slice A1 n1 k1, .slice A2 n2 k2, .slice A3 n3 k3] 26)) := ⟨_, rfl⟩; have hbox : ∀ W, Later w0 W → ∀ i, W.cell? ⟨w.heap.size, i, none⟩ = #[.int .i64 c.closets, .int .i64 c.close, .slice A1 n1 k1, .slice A2 n2 k2, .slice A3 n3 k3][i]? := (by rw [hw0]; exact box_cells w #[.int .i64 c.closets, .int .i64 c.close, .slice A1 n1 k1, .slice A2 n2 k2, .slice A3 n3 k3] 26); have hL0 : Later w w0 := (by rw [hw0]; simp); have hc0 := hc.later hL0; have Hw0 := hide hw0; clear hw0
  have hl0 := hl.later hL0
  go_enter Try.func33, Try.ntmps33
  go_wp2_with fail
  rw [← Hw0.out]; clear Hw0
  go_loopw [10, 7, 8, 9] (fun x1 x2 x3 x4 wr => ∃ (i : Nat) (r : Int × Int × Int), i ≤ n1 ∧ x1 = .int .i64 i ∧ x2 = .int .i64 r.1 ∧ x3 = .int .i64 r.2.1 ∧ x4 = .int .i64 r.2.2 ∧ Hid (r = askTo (fun h m => leaves c ll h (m : Nat)) i (0, 0, 1099511627776)) ∧ Later w0 wr) (fun x1 _ _ _ _ => n1 - (intOf x1).toNat)
  case atStart => exact ⟨0, (0, 0, 1099511627776), Nat.zero_le _, rfl, rfl, rfl, rfl, rfl, later_refl _⟩
  case round =>
    obtain ⟨i, ⟨r1, r2, r3⟩, hi, rfl, rfl, rfl, rfl, Hr, hL⟩ := hrel
    by_cases hlt : i < n1
    · have hi1 : (i : Int) < n1 := by omega
      have hi2 : (i : Int) < c.horses.length := by have := Hn1.out; omega
      go_wp2_with fail
      go_loopw [11, 7, 8, 9] (fun x1 x2 x3 x4 wv => ∃ (j : Nat) (s : Int × Int × Int), j ≤ 100 ∧ x1 = .int .i64 j ∧ x2 = .int .i64 s.1 ∧ x3 = .int .i64 s.2.1 ∧ x4 = .int .i64 s.2.2 ∧ Hid (s = askIn (fun h m => leaves c ll h (m : Nat)) i j (r1, r2, r3)) ∧ Later w0 wv) (fun x1 _ _ _ _ => 100 - (intOf x1).toNat)
      case atStart => exact ⟨0, (r1, r2, r3), Nat.zero_le _, rfl, rfl, rfl, rfl, rfl, hL⟩
      case round =>
        obtain ⟨j, ⟨s1, s2, s3⟩, hj, rfl, rfl, rfl, rfl, Hs, hLv⟩ := hrel
        by_cases hlt2 : j < 100
        · have hj2 : (j : Int) ≤ 99 := by omega
          have hst := askIn_succ (fun h m => leaves c ll h (m : Nat)) i j (r1, r2, r3)
          rw [← Hs.out] at hst
          have Hst : Hid (askIn (fun h m => leaves c ll h (m : Nat)) i (j + 1) (r1, r2, r3) = if leaves c ll i (j : Int) < s3 then ((i : Int), (j : Int), leaves c ll i (j : Int)) else (s1, s2, s3)) := hst
          clear hst
          go_wp2_with fail
          refine (Leaves_calls _ (hc0.later hLv) (hl0.later hLv) ok hdry hn (by omega) hi2).mono ?_
          rintro e w5 ⟨rfl, hL5⟩
          (try rw [Int.toNat_natCast])
          obtain ⟨z, hz⟩ : ∃ z, leaves c ll i (j : Int) = z := ⟨_, rfl⟩
          rw [hz] at Hst ⊢
          clear hz
          by_cases hls : z < s3
          · have Hs2 : Hid (askIn (fun h m => leaves c ll h (m : Nat)) i (j + 1) (r1, r2, r3) = ((i : Int), (j : Int), z)) := by have := Hst.out; rw [if_pos hls] at this; exact this
            go_wp2_with fail
            go_roundw
            case rel => exact ⟨j + 1, ((i : Int), (j : Int), z), hlt2, by go_num, rfl, rfl, rfl, Hs2.out.symm, Later.trans hLv hL5⟩
            case measure => simp [intOf]; omega
          · have Hs2 : Hid (askIn (fun h m => leaves c ll h (m : Nat)) i (j + 1) (r1, r2, r3) = (s1, s2, s3)) := by have := Hst.out; rw [if_neg hls] at this; exact this
            go_wp2_with fail
            go_roundw
            case rel => exact ⟨j + 1, (s1, s2, s3), hlt2, by go_num, rfl, rfl, rfl, Hs2.out.symm, Later.trans hLv hL5⟩
            case measure => simp [intOf]; omega
        · have hj100 : j = 100 := by omega
          subst hj100
          have Hr2 : Hid ((s1, s2, s3) = askTo (fun h m => leaves c ll h (m : Nat)) (i + 1) (0, 0, 1099511627776)) := by show _ = _; rw [askTo_succ, ← Hr.out]; exact Hs.out
          go_wp2_with fail
          go_roundw
          case rel => exact ⟨i + 1, (s1, s2, s3), hlt, by go_num, rfl, rfl, rfl, Hr2, hLv⟩
          case measure => simp [intOf]; omega
    · have hin : i = n1 := by omega
      subst hin
      have Hou2 : Hid (askR c ll = (r1, r2, r3)) := by show _ = _; rw [Hfin.out, ← Hr.out]
      go_wp2_with fail
      refine bodyPost_ret (v := .tuple #[.int .i64 r1, .int .i64 r2, .int .i64 r3]) ?_ rfl ⟨by rw [Hou2.out], Later.trans hL0 hL⟩
      simp [results, Try.results33, go_sem]
end Go.Proofs.Ytjilckjhdlabaaa

/- The reference's Bits, Before, Shorter: walks. -/
namespace Go.Proofs.Ytjilckjhdlabaaa
open Go Go.RowKit

theorem before_take : ∀ (t : Nat) (a b : List Int), t ≤ a.length → t ≤ b.length → a.take t = b.take t → before a b = before (a.drop t) (b.drop t)
  | 0, a, b, _, _, _ => by simp
  | t + 1, [], b, h, _, _ => by simp at h
  | t + 1, x :: a, [], _, h, _ => by simp at h
  | t + 1, x :: a, y :: b, h1, h2, h => by
    simp only [List.take_succ_cons, List.cons.injEq] at h
    obtain ⟨rfl, h⟩ := h
    simp only [List.length_cons] at h1 h2
    show (if x = x then before a b else decide (x < x)) = _
    rw [if_pos rfl, List.drop_succ_cons, List.drop_succ_cons]
    exact before_take t a b (by omega) (by omega) h

set_option maxRecDepth 100000 in
theorem Before_calls {A B : Option Addr} {n k m j : Nat} {a b : List Int} (w : World) (ha : RI w A n a) (hb : RI w B m b) (hn : n ≤ 1000000) (hm : m ≤ 1000000) :
    Calls Try.prog 64 #[.slice A n k, .slice B m j] w fun e w' => e = .returned (.bool (before a b)) ∧ Later w w' := by
  have hna := ha.len
  have hmb := hb.len
  have Hna := hide hna
  have Hmb := hide hmb
  clear hna hmb
  go_enter Try.func64, Try.ntmps64
  go_wp2_with fail
  go_loopw [5] (fun i wr => ∃ t : Nat, t ≤ n ∧ t ≤ m ∧ i = .int .i64 t ∧ Later w wr ∧ Hid (a.take t = b.take t)) (fun i _ => n - (intOf i).toNat)
  case atStart => exact ⟨0, Nat.zero_le _, Nat.zero_le _, rfl, later_refl _, rfl⟩
  case round =>
    obtain ⟨t, ht, ht2, rfl, hL, Heq⟩ := hrel
    have Hbt : Hid (before a b = before (a.drop t) (b.drop t)) := before_take t a b (by have := Hna.out; omega) (by have := Hmb.out; omega) Heq.out
    by_cases hlt : t < n
    · have hi1 : (t : Int) < n := by omega
      by_cases hlt2 : t < m
      · have hi2 : (t : Int) < m := by omega
        obtain ⟨b1, o1, x, rfl, _, hx, hx0⟩ := ha.get hlt
        obtain ⟨b2, o2, y, rfl, _, hy, hy0⟩ := hb.get hlt2
        have hx0' := fun W (hW : Later wr W) => hx0 W (Later.trans hL hW)
        have hy0' := fun W (hW : Later wr W) => hy0 W (Later.trans hL hW)
        have Hd : Hid (before a b = if x = y then before (a.drop (t + 1)) (b.drop (t + 1)) else decide (x < y)) := by
          show _ = _
          obtain ⟨p1, e1⟩ := List.getElem?_eq_some_iff.1 hx
          obtain ⟨p2, e2⟩ := List.getElem?_eq_some_iff.1 hy
          rw [Hbt.out, List.drop_eq_getElem_cons p1, List.drop_eq_getElem_cons p2, e1, e2]
          rfl
        have Hx := hide hx
        have Hy := hide hy
        clear hx hy hx0 hy0 Hbt
        by_cases hxy : x = y
        · have hb2 : (x != y) = false := by simpa using hxy
          have Hxy := hide hxy
          clear hxy
          go_wp2_with fail
          refine wp_region_ext (w0 := wr) (by kernel_rfl) (by kernel_rfl) (later_refl _) ?_; (repeat (first | go_big_quiet_step (((fail))) | quiet_step (((fail))))); refine wpQuiet_nil ?_; rintro w3 ⟨⟨_, hL3⟩, rfl⟩; (try dsimp only)
          go_wp2_with fail
          go_roundw
          case rel =>
            refine ⟨t + 1, hlt, hlt2, by go_num, Later.trans hL hL3, ?_⟩
            show a.take (t + 1) = b.take (t + 1)
            rw [List.take_add_one, List.take_add_one, Heq.out, Hx.out, Hy.out, Hxy.out]
          case measure => simp [intOf]; omega
        · have hb2 : (x != y) = true := by simpa using hxy
          have Hd2 : Hid (before a b = decide (x < y)) := by show _ = _; rw [Hd.out, if_neg hxy]
          clear hxy Hd
          have hd3 := fun W (hW : Later wr W) => hx0' W hW
          go_wp2_with fail
          refine wp_region_ext (w0 := wr) (by kernel_rfl) (by kernel_rfl) (later_refl _) ?_; (repeat (first | go_big_quiet_step (((fail))) | quiet_step (((fail))))); refine wpQuiet_nil ?_; rintro w3 ⟨⟨_, hL3⟩, rfl⟩; (try dsimp only)
          have hx1' := fun W (hW : Later w3 W) => hx0' W (Later.trans hL3 hW)
          have hy1' := fun W (hW : Later w3 W) => hy0' W (Later.trans hL3 hW)
          clear hx0' hy0' hd3
          go_wp2_with fail
          refine wp_region_ext (w0 := w3) (by kernel_rfl) (by kernel_rfl) (later_refl _) ?_; (repeat (first | go_big_quiet_step (((fail))) | quiet_step (((fail))))); refine wpQuiet_nil ?_; rintro w4 ⟨⟨_, hL4⟩, rfl⟩; (try dsimp only)
          go_wp2_with fail
          go_ret
          exact ⟨by rw [Hd2.out]; rfl, Later.trans hL (Later.trans hL3 hL4)⟩
      · have hi2 : decide ((t : Int) < (m : Int)) = false := by simp; omega
        have hmt : ¬ (n : Int) < (m : Int) := by omega
        have Hd : Hid (before a b = false) := by
          show _ = _
          rw [Hbt.out, List.drop_of_length_le (l := b) (by have := Hmb.out; omega)]
          cases a.drop t <;> rfl
        clear Hbt
        go_wp2_with fail
        go_ret
        exact ⟨by rw [Hd.out]; rfl, hL⟩
    · have hi1 : ¬ (t : Int) < n := by omega
      have hd1 : a.drop t = [] := List.drop_of_length_le (by have := Hna.out; omega)
      have Hd : Hid (before a b = decide (n < m)) := by
        show _ = _
        rw [Hbt.out, hd1]
        by_cases hlt2 : t < m
        · have : t < b.length := by have := Hmb.out; omega
          rw [List.drop_eq_getElem_cons this, decide_eq_true (show n < m by omega)]; rfl
        · rw [List.drop_of_length_le (l := b) (by have := Hmb.out; omega), decide_eq_false (show ¬ n < m by omega)]; rfl
      clear hd1 Hbt
      go_wp2_with fail
      go_ret
      exact ⟨ret_bool (by rw [Hd.out]), hL⟩

set_option maxRecDepth 100000 in
theorem Shorter_calls {A B : Option Addr} {n k m j : Nat} {a b : List Int} (w : World) (ha : RI w A n a) (hb : RI w B m b) (hn : n ≤ 1000000) (hm : m ≤ 1000000) :
    Calls Try.prog 74 #[.slice A n k, .slice B m j] w fun e w' => e = .returned (.bool (shorter a b)) ∧ Later w w' := by
  have hna := ha.len
  have hmb := hb.len
  have hbc := Before_calls (k := k) (j := j) w ha hb hn hm
  by_cases hlt : n < m
  · have hi : (n : Int) < m := by omega
    have Hs : Hid (shorter a b = true) := by show _ = _; unfold shorter; rw [decide_eq_true (by omega)]; rfl
    clear hna hmb hbc
    go_enter Try.func74, Try.ntmps74
    go_wp2_with fail
    go_ret
    exact ⟨by rw [Hs.out]; rfl, later_refl _⟩
  · have hi : ¬ (n : Int) < m := by omega
    by_cases he : n = m
    · have hb1 : ((n : Int) == (m : Int)) = true := by simp [he]
      have Hs : Hid (shorter a b = before a b) := by show _ = _; unfold shorter; rw [decide_eq_false (by omega), show (a.length == b.length) = true by simp; omega]; rfl
      have Hbc := hide hbc
      obtain ⟨q, hq⟩ : ∃ q, before a b = q := ⟨_, rfl⟩
      rw [hq] at Hs Hbc
      clear hna hmb hbc he hq hlt
      go_enter Try.func74, Try.ntmps74
      go_wp2_with fail
      refine Hbc.out.mono ?_
      rintro e w1 ⟨rfl, hL1⟩
      go_wp2_with fail
      go_ret
      exact ⟨ret_bool (by rw [Hs.out]; try simp), hL1⟩
    · have hb1 : ((n : Int) == (m : Int)) = false := by simp; omega
      have Hs : Hid (shorter a b = false) := by show _ = _; unfold shorter; rw [decide_eq_false (by omega), show (a.length == b.length) = false by simp; omega]; rfl
      clear hna hmb hbc he hlt
      go_enter Try.func74, Try.ntmps74
      go_wp2_with fail
      go_ret
      exact ⟨by rw [Hs.out]; rfl, later_refl _⟩

theorem bitList_last : ∀ (j bits p : Nat), bitList (j + 1) bits p = bitList j bits p ++ (if bits / 2 ^ j % 2 = 1 then [((p + j : Nat) : Int)] else [])
  | 0, bits, p => by
    simp only [bitList, Nat.pow_zero, Nat.div_one, Nat.add_zero, List.nil_append]
  | j + 1, bits, p => by
    have ih := bitList_last j (bits / 2) (p + 1)
    have e : bits / 2 / 2 ^ j = bits / 2 ^ (j + 1) := by rw [Nat.div_div_eq_div_mul, Nat.pow_succ, Nat.mul_comm]
    rw [e] at ih
    rw [show p + 1 + j = p + (j + 1) by omega] at ih
    conv => lhs; unfold bitList
    conv => rhs; unfold bitList
    rw [ih]
    split <;> simp
theorem bitList_zero : ∀ (k p : Nat), bitList k 0 p = []
  | 0, _ => rfl
  | k + 1, p => by simp [bitList, bitList_zero k]
theorem bitList_stable : ∀ (k m bits p : Nat), bits < 2 ^ k → bits < 2 ^ m → bitList k bits p = bitList m bits p
  | 0, m, bits, p, h, _ => by
    have : bits = 0 := by simpa using h
    subst this
    rw [bitList_zero, bitList_zero]
  | k + 1, 0, bits, p, _, h => by
    have : bits = 0 := by simpa using h
    subst this
    rw [bitList_zero, bitList_zero]
  | k + 1, m + 1, bits, p, h1, h2 => by
    simp only [bitList]
    rw [bitList_stable k m (bits / 2) (p + 1) (by rw [Nat.pow_succ] at h1; omega) (by rw [Nat.pow_succ] at h2; omega)]
end Go.Proofs.Ytjilckjhdlabaaa

/- The reference's Bits: walk. -/
namespace Go.Proofs.Ytjilckjhdlabaaa
open Go Go.RowKit

def bitsPost (bits : Nat) (w : World) (e : Ending) (w' : World) : Prop := ∃ A n k, e = .returned (.slice A n k) ∧ Later w w' ∧ RI w' A n (bitsR bits) ∧ n ≤ k ∧ Fresh w w' A
theorem bitList_len : ∀ (k bits p : Nat), (bitList k bits p).length ≤ k
  | 0, _, _ => Nat.le_refl _
  | k + 1, bits, p => by
    unfold bitList
    have := bitList_len k (bits / 2) (p + 1)
    split <;> simp <;> omega
theorem shr_nat (a p : Nat) : (a : Int) >>> p = ((a / 2 ^ p : Nat) : Int) := by
  rw [Int.shiftRight_eq_div_pow]; norm_cast
theorem own_cap2 {W : World} {base : Nat} {e : TypeId} {size : Nat} {A : Option Addr} {k n : Nat} {xs : List Value} (h : W.ownsRow base e size (.slice A n k) n xs) : n ≤ k := by
  rcases h.2 with ⟨e, h0⟩ | ⟨g, cap, cur, e, _, _, h1, _⟩
  · injection e with _ e _; omega
  · injection e with _ _ e; omega
set_option maxRecDepth 100000 in
theorem Bits_calls {bits : Nat} (w : World) (hb : bits ≤ 1000000) :
    Calls Try.prog 75 #[.int .i64 bits] w (bitsPost bits w) := by
  go_enter Try.func75, Try.ntmps75
  go_wp2_with fail
  go_loopw [3, 4] (fun v i wr => ∃ p : Nat, p ≤ 20 ∧ i = .int .i64 p ∧ wr.ownsRow w.heap.size 3 1 v (bitList p bits 0).length (ints (bitList p bits 0)) ∧ Later w wr) (fun _ i _ => 20 - (intOf i).toNat)
  case atStart => exact ⟨0, Nat.zero_le _, rfl, World.ownsRow_nil _ _ _ _, later_refl _⟩
  case round =>
    obtain ⟨p, hp, rfl, hown, hL⟩ := hrel
    have hlast := bitList_last p bits 0
    have hlen := bitList_len p bits 0
    rw [Nat.zero_add] at hlast
    have hs : (bits : Int) / 2 ^ p = ((bits / 2 ^ p : Nat) : Int) := by norm_cast
    have hs1 : (bits : Int) / 2 ^ min p 64 = ((bits / 2 ^ p : Nat) : Int) := by rw [show min p 64 = p by omega]; exact hs
    have hend : bits / 2 ^ p = 0 → bitList p bits 0 = bitsR bits := fun h => by
      have : bits < 2 ^ p := (Nat.div_eq_zero_iff_lt (Nat.two_pow_pos p)).1 h
      exact bitList_stable _ _ _ _ this Nat.lt_two_pow_self
    have hp20 : 0 < bits / 2 ^ p → p < 20 := fun h => by
      rcases Nat.lt_or_ge p 20 with h1 | h1
      · exact h1
      · have h2 : 2 ^ 20 ≤ 2 ^ p := Nat.pow_le_pow_right (by omega) h1
        rw [Nat.div_eq_of_lt (by omega)] at h
        cases h
    generalize bits / 2 ^ p = q at *
    by_cases h0 : 0 < q
    · have h1 : 0 < (q : Int) := by omega
      have hp2 := hp20 h0
      by_cases ho : q % 2 = 1
      · have hb1 : ((q : Int) % 2 == 1) = true := by simp; omega
        rw [if_pos ho] at hlast
        have Hlast := hide hlast
        clear hlast hend hp20 ho
        go_wp2_with (at_builtin; go_must (refine own_append (w0 := w) (W := wr) (te := 3) rfl _ _ 23 rfl 3 (.int .i64 0) 1 8 Try.underlying23 int_info rfl Nat.one_pos u3 (bitList p bits 0).length (ints (bitList p bits 0)) rfl hL hown [.int .i64 p] rfl rfl ?_ (by omega) (by omega) ?_; (simp [Value.oneCell']); intro v' w4 hap; have hown4 := hap.own; have hL4 := hap.later; clear hap))
        go_roundw
        case rel =>
          refine ⟨p + 1, hp2, by go_num, ?_, hL4⟩
          rw [Hlast.out, List.length_append, ints_snoc]; exact hown4
        case measure => simp [intOf]; omega
      · have hb1 : ((q : Int) % 2 == 1) = false := by simp; omega
        rw [if_neg ho, List.append_nil] at hlast
        have Hlast := hide hlast
        clear hlast hend hp20 ho
        go_wp2_with fail
        go_roundw
        case rel => exact ⟨p + 1, hp2, by go_num, by rw [Hlast.out]; exact hown, hL⟩
        case measure => simp [intOf]; omega
    · have hq : q = 0 := by omega
      subst hq
      have he := hend rfl
      rw [he] at hown
      clear hlast hlen hend he hp20
      obtain ⟨A, k, rfl, hrd, hfr⟩ := own_slice2 hown
      have hcp := own_cap2 hown
      go_wp2_with fail
      go_ret
      exact ⟨A, _, k, rfl, hL, hrd, hcp, hfr⟩
end Go.Proofs.Ytjilckjhdlabaaa

/- The reference's All, First: walks. -/
namespace Go.Proofs.Ytjilckjhdlabaaa
open Go Go.RowKit

def natInts (l : List Nat) : List Int := l.map fun (x : Nat) => (x : Int)
theorem natInts_snoc (l : List Nat) (x : Nat) : natInts (l ++ [x]) = natInts l ++ [(x : Int)] := by simp [natInts]
def allBitsTo (c : Clo) (j : Nat) : List Nat := (List.range j).map fun (n : Nat) => rightBits c (nth c.horses n)
theorem allBitsTo_succ (c : Clo) (j : Nat) : allBitsTo c (j + 1) = allBitsTo c j ++ [rightBits c (nth c.horses j)] := by simp [allBitsTo, List.range_succ]
theorem allBitsTo_end (c : Clo) (j : Nat) (h : (j : Int) = many c) : allBitsTo c j = allBits c := by
  unfold allBits allDry allBitsTo
  rw [← h, Int.toNat_natCast, List.map_map]; rfl
theorem allBits_lt {c : Clo} (hn : c.looks.length ≤ 5) : ∀ x ∈ allBits c, x < 1000000 := fun x hx => by
  unfold allBits at hx
  obtain ⟨d, _, rfl⟩ := List.mem_map.1 hx
  have := bitsOf_lt (c.looks.map (okL c d))
  rw [List.length_map] at this
  have h2 := pow_le5 hn
  unfold rightBits; omega

set_option maxRecDepth 100000 in
theorem All_calls {A1 A2 A3 : Option Addr} {n1 k1 n2 k2 n3 k3 : Nat} {c : Clo} (w : World) (hc : CV w c A1 n1 A2 n2 A3 n3) (ok : OkC c) (hm : many c ≤ 2000) :
    Calls Try.prog 37 #[(.agg #[.int .i64 c.closets, .int .i64 c.close, .slice A1 n1 k1, .slice A2 n2 k2, .slice A3 n3 k3])] w fun e w' => ∃ A m k, e = .returned (.slice A m k) ∧ Later w w' ∧ RI w' A m (natInts (allBits c)) := by
  have okh : ∀ h ∈ c.horses, 1 ≤ h.lo ∧ h.lo ≤ h.hi ∧ h.hi ≤ 60 := fun h hh => by have := ok.horse h hh; omega
  have hn1 := hc.hs.len
  have hn3 := hc.lk.len
  have hl1 : n1 ≤ 1000 := by have := ok.len; omega
  have hl3 : n3 ≤ 5 := by have := ok.nlooks; omega
  have hmr := many_range okh
  clear hn1 hn3
  obtain ⟨w0, hw0⟩ : ∃ W, W = (w.alloc (.cells #[.int .i64 c.closets, .int .i64 c.close, .slice A1 n1 k1, .slice A2 n2 k2, .slice A3 n3 k3] 26)) := ⟨_, rfl⟩; have hbox : ∀ W, Later w0 W → ∀ i, W.cell? ⟨w.heap.size, i, none⟩ = #[.int .i64 c.closets, .int .i64 c.close, .slice A1 n1 k1, .slice A2 n2 k2, .slice A3 n3 k3][i]? := (by rw [hw0]; exact box_cells w #[.int .i64 c.closets, .int .i64 c.close, .slice A1 n1 k1, .slice A2 n2 k2, .slice A3 n3 k3] 26); have hL0 : Later w w0 := (by rw [hw0]; simp); have hc0 := hc.later hL0; have Hw0 := hide hw0; clear hw0
  go_enter Try.func37, Try.ntmps37
  go_wp2_with fail
  rw [← Hw0.out]; clear Hw0
  go_loopw [3, 4] (fun v i wr => ∃ j : Nat, (j : Int) ≤ many c ∧ i = .int .i64 j ∧ wr.ownsRow w0.heap.size 3 1 v j (ints (natInts (allBitsTo c j))) ∧ Later w0 wr) (fun _ i _ => (many c - intOf i).toNat)
  case atStart => exact ⟨0, by omega, rfl, World.ownsRow_nil _ _ _ _, later_refl _⟩
  case round =>
    obtain ⟨j, hj, rfl, hown, hL⟩ := hrel
    go_wp2_with fail
    refine (Many_calls _ (hc0.later hL) okh (by omega)).mono ?_
    rintro e w1 ⟨rfl, hL1⟩
    have hL2 := Later.trans hL hL1
    have hown1 := own_later hown hL1
    by_cases hlt : (j : Int) < many c
    · have hj2 : j ≤ 2000 := by omega
      have hdry := nth_isDry ok.toOkH (j : Int)
      have hsu := allBitsTo_succ c j
      have hS0 : Later w0 w1.drew := later_drew hL2
      have hNth := fun (W : World) (hW : Later w0 W) => Nth_calls (k1 := k1) (k2 := k2) (k3 := k3) (n := (j : Int)) W (hc0.later hW) okh hl1 (by omega) (by omega)
      obtain ⟨d, hd⟩ : ∃ d, nth c.horses (j : Int) = d := ⟨_, rfl⟩
      rw [hd] at hdry hsu
      simp only [hd] at hNth
      have HNth := hide hNth
      have Hsu := hide hsu
      clear hNth hsu hd hown
      go_wp2_with fail
      go_region_held3 (fun W => Later w0 W) ((((repeat (first | assumption | refine later_drew ?_ | refine later_alloc ?_ _ | refine later_set ?_ _ (Nat.le_add_right _ _) _ | refine later_set ?_ _ (Nat.le_refl _) _)); done)))
        (first
          | (go_at_call 90; go_must (refine (Right_calls _ (hc0.later hL5) hri ok hdry).mono ?_; rintro e w6 ⟨rfl, hL6a⟩; have hL6 := Later.trans hL5 hL6a; have hown6 := own_later hown5 hL6a))
          | (go_at_call 46; go_must (refine (HNth.out _ hS0).mono ?_; rintro e w5 ⟨Ad, nd, kd, rfl, hL5a, hri, hfr⟩; have hL5 := Later.trans hS0 hL5a; have hown5 := own_later (own_later hown1 (later_drew (later_refl _))) hL5a))
          | (refine own_append_step (w0 := w0) (W := w6) (te := 3) rfl (.tmp 11) (.tmp 17) 23 rfl 3 (.int .i64 0) 1 8 Try.underlying23 int_info rfl (by omega) u3 j (ints (natInts (allBitsTo c j))) rfl hL6 hown6 [.int .i64 (rightBits c d : Nat)] rfl rfl ?_ (by omega) (by omega) ?_; (simp [Value.oneCell']); intro v' w7 hap; have hown7 := hap.own; have hL7 := hap.later; clear hap))
      go_wp2_with fail
      go_roundw
      case rel =>
        refine ⟨j + 1, by omega, by go_num, ?_, hL7⟩
        rw [Hsu.out, natInts_snoc, ints_snoc]; exact hown7
      case measure => simp [intOf]; omega
    · have hjm : (j : Int) = many c := by omega
      have hf := allBitsTo_end c j hjm
      rw [hf] at hown1
      obtain ⟨A, k, rfl, hrd⟩ := own_slice hown1
      clear hf hown hown1 hjm
      go_wp2_with fail
      go_ret
      exact ⟨A, _, k, rfl, Later.trans hL0 hL2, hrd⟩

set_option maxRecDepth 100000 in
theorem First_calls {A1 A2 A3 : Option Addr} {n1 k1 n2 k2 n3 k3 : Nat} {c : Clo} {A : Option Addr} {n k : Nat} {all : List Nat} (w : World) (hc : CV w c A1 n1 A2 n2 A3 n3) (ha : RI w A n (natInts all)) (hn : n ≤ 1000000) (hn3 : n3 ≤ 5) (hb : ∀ x ∈ all, x < 1000000) :
    Calls Try.prog 40 #[(.agg #[.int .i64 c.closets, .int .i64 c.close, .slice A1 n1 k1, .slice A2 n2 k2, .slice A3 n3 k3]), .slice A n k] w fun e w' => e = .returned (.int .i64 (firstR c all)) ∧ Later w w' := by
  have hl3 := hc.lk.len
  have Hl3 := hide hl3
  clear hl3
  obtain ⟨w0, hw0⟩ : ∃ W, W = (w.alloc (.cells #[.int .i64 c.closets, .int .i64 c.close, .slice A1 n1 k1, .slice A2 n2 k2, .slice A3 n3 k3] 26)) := ⟨_, rfl⟩; have hbox : ∀ W, Later w0 W → ∀ i, W.cell? ⟨w.heap.size, i, none⟩ = #[.int .i64 c.closets, .int .i64 c.close, .slice A1 n1 k1, .slice A2 n2 k2, .slice A3 n3 k3][i]? := (by rw [hw0]; exact box_cells w #[.int .i64 c.closets, .int .i64 c.close, .slice A1 n1 k1, .slice A2 n2 k2, .slice A3 n3 k3] 26); have hL0 : Later w w0 := (by rw [hw0]; simp); have hc0 := hc.later hL0; have Hw0 := hide hw0; clear hw0
  go_enter Try.func40, Try.ntmps40
  go_wp2_with fail
  rw [← Hw0.out]; clear Hw0
  go_loopw [5] (fun i wr => ∃ t : Nat, t ≤ n3 ∧ i = .int .i64 t ∧ Later w0 wr ∧ Hid (∀ s, s < t → (!can all (2 ^ (s + 1) - 1)) = false)) (fun i _ => n3 - (intOf i).toNat)
  case atStart => exact ⟨0, Nat.zero_le _, rfl, later_refl _, fun s hs => by omega⟩
  case round =>
    obtain ⟨t, ht, rfl, hL, Hno⟩ := hrel
    by_cases hlt : t < n3
    · have hi1 : (t : Int) < n3 := by omega
      have hv : wrap64 (wrap64 (2 * 2 ^ t) - 1) = ((2 ^ (t + 1) - 1 : Nat) : Int) := by
        have h5 := pow_le5 (show t ≤ 5 by omega)
        have h6 := Nat.two_pow_pos t
        rw [pow_int, Nat.pow_succ]
        generalize 2 ^ t = m at *
        unfold wrap64; omega
      have hlk : 2 ^ (t + 1) - 1 < 1000000 := by
        have h5 := pow_le5 (show t + 1 ≤ 5 by omega)
        omega
      have hcan := Can_calls (k := k) (looks := 2 ^ (t + 1) - 1) wr ((ha.later hL0).later hL) hn hlk hb
      obtain ⟨q, hq⟩ : ∃ q, can all (2 ^ (t + 1) - 1) = q := ⟨_, rfl⟩
      rw [hq] at hcan
      have Hq := hide hq
      have Hv := hide hv
      have Hcan := hide hcan
      clear hq hv hcan
      go_wp2_with fail
      rw [Hv.out]
      refine Hcan.out.mono ?_
      rintro e w2 ⟨rfl, rfl⟩
      cases q with
      | true =>
        go_wp2_with fail
        go_roundw
        case rel =>
          refine ⟨t + 1, hlt, by go_num, hL, fun s hs => ?_⟩
          rcases Nat.lt_succ_iff_lt_or_eq.1 hs with h | rfl
          · exact Hno.out s h
          · rw [Hq.out]; rfl
        case measure => simp [intOf]; omega
      | false =>
        have hf : firstR c all = t := by
          unfold firstR
          rw [find_range_some (j := t) (by have := Hl3.out; omega) (by rw [Hq.out]; rfl) Hno.out]
        have Hf := hide hf
        clear hf
        go_wp2_with fail
        go_ret
        exact ⟨ret_int Hf.out.symm, Later.trans hL0 hL⟩
    · have hf : firstR c all = -1 := by
        unfold firstR
        rw [find_range_none fun s hs => Hno.out s (by have := Hl3.out; omega)]
      have Hf := hide hf
      clear hf
      go_wp2_with fail
      go_ret
      exact ⟨ret_int Hf.out.symm, Later.trans hL0 hL⟩
end Go.Proofs.Ytjilckjhdlabaaa

/- The reference's Leave: walk. -/
namespace Go.Proofs.Ytjilckjhdlabaaa
open Go Go.RowKit

theorem full_lt2 (c : Clo) : full c < 2 ^ c.looks.length := by unfold full; have := Nat.two_pow_pos c.looks.length; omega
theorem andNot_all : ∀ n : Nat, n < 6 → ∀ j : Nat, j < 2 ^ n → bits .andNot .i64 ((2 ^ n - 1 : Nat) : Int) (j : Int) = ((2 ^ n - 1 - j : Nat) : Int) := by decide +kernel
theorem andNot_full {c : Clo} (h : c.looks.length ≤ 5) {j f : Nat} (hf : full c = f) (hj : j ≤ f) : bits .andNot .i64 (f : Int) (j : Int) = ((f - j : Nat) : Int) := by
  subst hf
  have := full_lt2 c
  exact andNot_all _ (by omega) j (by omega)
def leaveTo (c : Clo) (all : List Nat) (j : Nat) : List Int := (List.range j).foldl (leaveStep c all) (bitsR (full c))
theorem leaveTo_succ (c : Clo) (all : List Nat) (j : Nat) : leaveTo c all (j + 1) = leaveStep c all (leaveTo c all j) j := by
  unfold leaveTo; rw [List.range_succ, List.foldl_append]; rfl
theorem bitsR_len (bits : Nat) : (bitsR bits).length ≤ bits := bitList_len _ _ _
def LeaveRPost (c : Clo) (all : List Nat) (w : World) (e : Ending) (w' : World) : Prop := ∃ A n k, e = .returned (.slice A n k) ∧ Later w w' ∧ RI w' A n (leaveR c all) ∧ n ≤ k
set_option maxRecDepth 100000 in
theorem Leave_calls {A1 A2 A3 : Option Addr} {n1 k1 n2 k2 n3 k3 : Nat} {c : Clo} {A : Option Addr} {n k : Nat} {all : List Nat} (w : World) (hc : CV w c A1 n1 A2 n2 A3 n3) (ha : RI w A n (natInts all)) (hn : n ≤ 1000000) (hn3 : n3 ≤ 5) (hb : ∀ x ∈ all, x < 1000000) :
    Calls Try.prog 39 #[(.agg #[.int .i64 c.closets, .int .i64 c.close, .slice A1 n1 k1, .slice A2 n2 k2, .slice A3 n3 k3]), .slice A n k] w (LeaveRPost c all w) := by
  have hl3 := hc.lk.len
  have hf31 : full c ≤ 31 := by have := pow_le5 hn3; unfold full; rw [← hl3]; omega
  have hfull := fun (W : World) (h : CV W c A1 n1 A2 n2 A3 n3) => Full_calls (k1 := k1) (k2 := k2) (k3 := k3) W h hn3
  have hend : leaveR c all = leaveTo c all (full c + 1) := rfl
  obtain ⟨f, hf⟩ : ∃ f, full c = f := ⟨_, rfl⟩
  have hst0 : ∀ j, leaveTo c all (j + 1) = if shorter (bitsR j) (leaveTo c all j) && can all (f - j) then bitsR j else leaveTo c all j := fun j => by rw [leaveTo_succ, ← hf]; rfl
  have h0 : leaveTo c all 0 = bitsR f := by unfold leaveTo; rw [hf]; rfl
  rw [hf] at hf31 hend
  simp only [hf] at hfull
  have Hl3 := hide hl3
  have Hf := hide hf
  have Hfull := hide hfull
  have Hend := hide hend
  have Hst0 := hide hst0
  have H0 := hide h0
  clear hl3 hf hfull hend hst0 h0
  obtain ⟨w0, hw0⟩ : ∃ W, W = (w.alloc (.cells #[.int .i64 c.closets, .int .i64 c.close, .slice A1 n1 k1, .slice A2 n2 k2, .slice A3 n3 k3] 26)) := ⟨_, rfl⟩; have hbox : ∀ W, Later w0 W → ∀ i, W.cell? ⟨w.heap.size, i, none⟩ = #[.int .i64 c.closets, .int .i64 c.close, .slice A1 n1 k1, .slice A2 n2 k2, .slice A3 n3 k3][i]? := (by rw [hw0]; exact box_cells w #[.int .i64 c.closets, .int .i64 c.close, .slice A1 n1 k1, .slice A2 n2 k2, .slice A3 n3 k3] 26); have hL0 : Later w w0 := (by rw [hw0]; simp); have hc0 := hc.later hL0; have Hw0 := hide hw0; clear hw0
  go_enter Try.func39, Try.ntmps39
  go_wp2_with fail
  rw [← Hw0.out]; clear Hw0
  refine (Hfull.out _ hc0).mono ?_
  rintro e w1 ⟨rfl, hL1⟩
  go_wp2_with fail
  refine (Bits_calls w1 (by omega)).mono ?_
  rintro e w2 ⟨Ab, nb, kb, rfl, hL2, hrb, hkb, _⟩
  have hL02 := Later.trans hL1 hL2
  have hnb := bitsR_len f
  have hlb := hrb.len
  rw [← H0.out] at hrb
  have hnb31 : nb ≤ 31 := by omega
  clear hnb hlb
  go_wp2_with fail
  go_loopw [5, 6] (fun v i wr => ∃ (j : Nat) (Ax : Option Addr) (nx kx : Nat), j ≤ f + 1 ∧ i = .int .i64 j ∧ v = .slice Ax nx kx ∧ RI wr Ax nx (leaveTo c all j) ∧ nx ≤ kx ∧ nx ≤ 31 ∧ Later w0 wr) (fun _ i _ => f + 1 - (intOf i).toNat)
  case atStart => exact ⟨0, Ab, nb, kb, by omega, rfl, rfl, hrb, hkb, hnb31, hL02⟩
  case round =>
    obtain ⟨j, Ax, nx, kx, hj, rfl, rfl, hrx, hkx, hx31, hL⟩ := hrel
    go_wp2_with fail
    refine (Hfull.out _ (hc0.later hL)).mono ?_
    rintro e w3 ⟨rfl, hL3⟩
    by_cases hlt : j ≤ f
    · have hi1 : (j : Int) ≤ f := by omega
      go_wp2_with fail
      refine (Bits_calls w3 (by omega)).mono ?_
      rintro e w4 ⟨Ay, ny, ky, rfl, hL4, hry, hky, _⟩
      have hny := bitsR_len j
      have hly := hry.len
      have hny31 : ny ≤ 31 := by omega
      clear hny hly
      have hrx4 := hrx.later (Later.trans hL3 hL4)
      have hsc := Shorter_calls (k := ky) (j := kx) w4 hry hrx4 (by omega) (by omega)
      have hst := Hst0.out j
      obtain ⟨s, hs⟩ : ∃ s, shorter (bitsR j) (leaveTo c all j) = s := ⟨_, rfl⟩
      rw [hs] at hsc hst
      have Hsc := hide hsc
      have Hst := hide hst
      clear hsc hst hs
      have hL04 := Later.trans hL (Later.trans hL3 hL4)
      cases s with
      | false =>
        go_wp2_with fail
        refine Hsc.out.mono ?_
        rintro e w5 ⟨rfl, hL5⟩
        go_wp2_with fail
        go_roundw
        case rel =>
          refine ⟨j + 1, Ax, nx, kx, by omega, by go_num, rfl, ?_, hkx, hx31, Later.trans hL04 hL5⟩
          rw [Hst.out]; exact hrx4.later hL5
        case measure => simp [intOf]; omega
      | true =>
        go_wp2_with fail
        refine Hsc.out.mono ?_
        rintro e w5 ⟨rfl, hL5⟩
        have hL05 := Later.trans hL04 hL5
        go_wp2_with fail
        refine (Hfull.out _ (hc0.later hL05)).mono ?_
        rintro e w6 ⟨rfl, hL6⟩
        go_wp2_with fail
        have han := andNot_full (by have := Hl3.out; omega) Hf.out hlt
        have hcc := Can_calls (k := k) (looks := f - j) w6 ((ha.later hL0).later (Later.trans hL05 hL6)) hn (by omega) hb
        obtain ⟨q, hq⟩ : ∃ q, can all (f - j) = q := ⟨_, rfl⟩
        rw [hq] at hcc Hst
        rw [han]
        have Hcc := hide hcc
        clear hcc hq han
        refine Hcc.out.mono ?_
        rintro e w7 ⟨rfl, rfl⟩
        have hL06 := Later.trans hL05 hL6
        have hry6 := hry.later (Later.trans hL5 hL6)
        cases q with
        | true =>
          go_wp2_with fail
          go_roundw
          case rel =>
            refine ⟨j + 1, Ay, ny, ky, by omega, by go_num, rfl, ?_, hky, hny31, hL06⟩
            rw [Hst.out]; exact hry6
          case measure => simp [intOf]; omega
        | false =>
          go_wp2_with fail
          go_roundw
          case rel =>
            refine ⟨j + 1, Ax, nx, kx, by omega, by go_num, rfl, ?_, hkx, hx31, hL06⟩
            rw [Hst.out]; exact hrx4.later (Later.trans hL5 hL6)
          case measure => simp [intOf]; omega
    · have hj1 : j = f + 1 := by omega
      subst hj1
      have hi1 : ¬ ((f + 1 : Nat) : Int) ≤ f := by omega
      rw [← Hend.out] at hrx
      have hL3' := Later.trans hL hL3
      go_wp2_with fail
      go_ret
      exact ⟨Ax, nx, kx, rfl, Later.trans hL0 hL3', hrx.later hL3, hkx⟩
end Go.Proofs.Ytjilckjhdlabaaa

/- The plain laws of First and Leave: what the program finds is what the reference has. -/
namespace Go.Proofs.Ytjilckjhdlabaaa
open Go Go.RowKit

theorem possible_iff {c : Clo} (ok : OkC c) (out : List Int) : possibleP c out = true ↔ ∃ d ∈ dryAll c.horses, ∀ (j : Nat) (l : Look), c.looks[j]? = some l → (j : Int) ∈ out ∨ okL c d l = true := by
  unfold possibleP
  rw [List.any_eq_true]
  constructor
  · rintro ⟨d, hd, h⟩; exact ⟨d, hd, (rightP_iff ok out).1 h⟩
  · rintro ⟨d, hd, h⟩; exact ⟨d, hd, (rightP_iff ok out).2 h⟩
theorem and_beq_iff (a b : Nat) : (a &&& b == b) = true ↔ ∀ j, b.testBit j = true → a.testBit j = true := by
  rw [beq_iff_eq]
  constructor
  · intro h j hj
    rw [← h, Nat.testBit_and, Bool.and_eq_true] at hj
    exact hj.1
  · intro h
    apply Nat.eq_of_testBit_eq
    intro j
    rw [Nat.testBit_and]
    cases hb : b.testBit j with
    | true => simp [h j hb]
    | false => simp
theorem can_iff {c : Clo} (hf : fault c = 0) (looks : Nat) : can (allBits c) looks = true ↔ ∃ d ∈ dryAll c.horses, ∀ j, looks.testBit j = true → (rightBits c d).testBit j = true := by
  unfold can allBits
  rw [List.any_eq_true]
  constructor
  · rintro ⟨x, hx, h⟩
    obtain ⟨d, hd, rfl⟩ := List.mem_map.1 hx
    exact ⟨d, ((allDry_perm hf).mem_iff).2 hd, (and_beq_iff _ _).1 h⟩
  · rintro ⟨d, hd, h⟩
    exact ⟨_, List.mem_map.2 ⟨d, ((allDry_perm hf).mem_iff).1 hd, rfl⟩, (and_beq_iff _ _).2 h⟩
theorem rightBits_bit {c : Clo} {d : List Int} {j : Nat} {l : Look} (h : c.looks[j]? = some l) : (rightBits c d).testBit j = okL c d l := by
  rw [rightBits_testBit, List.getD_eq_getElem?_getD, List.getElem?_map, h]; rfl
theorem mask_bits {c : Clo} (hf : fault c = 0) {looks : Nat} {out : List Int} (h : ∀ j, j < c.looks.length → (looks.testBit j = true ↔ ¬ (j : Int) ∈ out)) (hn : ∀ j, c.looks.length ≤ j → looks.testBit j = false) :
    can (allBits c) looks = possibleP c out := by
  rw [Bool.eq_iff_iff, can_iff hf, possible_iff (okC_of_fault hf)]
  constructor
  · rintro ⟨d, hd, hl⟩
    refine ⟨d, hd, fun j l hj => ?_⟩
    have hlt := (List.getElem?_eq_some_iff.1 hj).1
    by_cases hm : (j : Int) ∈ out
    · exact .inl hm
    · right; rw [← rightBits_bit hj]; exact hl j ((h j hlt).2 hm)
  · rintro ⟨d, hd, hl⟩
    refine ⟨d, hd, fun j hj => ?_⟩
    rcases Nat.lt_or_ge j c.looks.length with hlt | hge
    · have he := List.getElem?_eq_getElem hlt
      rw [rightBits_bit he]
      rcases hl j _ he with h1 | h1
      · exact absurd h1 ((h j hlt).1 hj)
      · exact h1
    · rw [hn j hge] at hj; cases hj

/-! ### First -/
theorem first_bit {c : Clo} (hf : fault c = 0) {i : Nat} (hi : i < c.looks.length) : firstBad c i = !can (allBits c) (2 ^ (i + 1) - 1) := by
  unfold firstBad
  congr 1
  rw [Bool.eq_iff_iff, can_iff hf, possible_iff (okC_take (okC_of_fault hf) _)]
  constructor
  · rintro ⟨d, hd, h⟩
    refine ⟨d, hd, fun j hj => ?_⟩
    rw [Nat.testBit_two_pow_sub_one, decide_eq_true_eq] at hj
    have he := List.getElem?_eq_getElem (l := c.looks) (i := j) (by omega)
    rw [rightBits_bit he]
    have := h j _ (show (withLooks c (c.looks.take (i + 1))).looks[j]? = _ by show (c.looks.take (i + 1))[j]? = _; rw [List.getElem?_take_of_lt hj]; exact he)
    rcases this with h1 | h1
    · cases h1
    · exact h1
  · rintro ⟨d, hd, h⟩
    refine ⟨d, hd, fun j l hj => .inr ?_⟩
    have hj2 : (c.looks.take (i + 1))[j]? = some l := hj
    rw [List.getElem?_take] at hj2
    split at hj2
    · rename_i hlt
      have := h j (by rw [Nat.testBit_two_pow_sub_one, decide_eq_true_eq]; exact hlt)
      rw [rightBits_bit hj2] at this
      exact this
    · cases hj2
theorem find_congr {P Q : Nat → Bool} {n : Nat} (h : ∀ i, i < n → P i = Q i) : (List.range n).find? P = (List.range n).find? Q := by
  have : ∀ (l : List Nat), (∀ i ∈ l, P i = Q i) → l.find? P = l.find? Q := fun l => by
    induction l with
    | nil => intro _; rfl
    | cons x l ih => intro hl; rw [List.find?_cons, List.find?_cons, hl x List.mem_cons_self, ih fun i hi => hl i (List.mem_cons_of_mem _ hi)]
  exact this _ fun i hi => h i (by simpa using hi)
theorem first_law (c : Clo) : (fault c ≠ 0 ∧ firstOut c = (0, fault c)) ∨
    (fault c = 0 ∧ ((∃ j : Nat, j < c.looks.length ∧ firstR c (allBits c) = j ∧ firstOut c = ((j : Int), 0)) ∨ (firstR c (allBits c) = -1 ∧ firstOut c = (0, 7)))) := by
  by_cases hf : fault c = 0
  · right
    refine ⟨hf, ?_⟩
    have hc := find_congr (n := c.looks.length) fun i hi => first_bit hf hi
    unfold firstOut firstR
    rw [if_neg (by simp [hf]), hc]
    cases hq : (List.range c.looks.length).find? (fun n => !can (allBits c) (2 ^ (n + 1) - 1)) with
    | none => exact .inr ⟨rfl, rfl⟩
    | some j =>
      have := List.mem_of_find?_eq_some hq
      exact .inl ⟨j, by simpa using this, rfl, rfl⟩
  · exact .inl ⟨hf, by unfold firstOut; rw [if_pos hf]⟩

/-! ### Leave -/
theorem bitList_mem : ∀ (k bits p j : Nat), bits < 2 ^ k → ((j : Int) ∈ bitList k bits p ↔ p ≤ j ∧ bits.testBit (j - p) = true)
  | 0, bits, p, j, h => by
    have : bits = 0 := by simpa using h
    subst this
    simp [bitList]
  | k + 1, bits, p, j, h => by
    have hk : bits / 2 < 2 ^ k := by rw [Nat.pow_succ] at h; omega
    have ih := bitList_mem k (bits / 2) (p + 1) j hk
    have hrest : p + 1 ≤ j → bits.testBit (j - p) = (bits / 2).testBit (j - (p + 1)) := fun hj => by
      rw [show j - p = (j - (p + 1)) + 1 by omega, Nat.testBit_succ]
    have hzero : bits.testBit 0 = decide (bits % 2 = 1) := Nat.testBit_zero bits
    unfold bitList
    split
    · rename_i hb
      simp only [List.mem_cons]
      rw [ih]
      constructor
      · rintro (h1 | ⟨h1, h2⟩)
        · have : j = p := by omega
          subst this
          exact ⟨Nat.le_refl _, by rw [Nat.sub_self, hzero]; simp [hb]⟩
        · exact ⟨by omega, by rw [hrest h1]; exact h2⟩
      · rintro ⟨h1, h2⟩
        rcases Nat.eq_or_lt_of_le h1 with rfl | hlt
        · exact .inl rfl
        · exact .inr ⟨hlt, by rw [← hrest hlt]; exact h2⟩
    · rename_i hb
      rw [ih]
      constructor
      · rintro ⟨h1, h2⟩
        exact ⟨by omega, by rw [hrest h1]; exact h2⟩
      · rintro ⟨h1, h2⟩
        rcases Nat.eq_or_lt_of_le h1 with rfl | hlt
        · rw [Nat.sub_self, hzero] at h2
          simp [hb] at h2
        · exact ⟨hlt, by rw [← hrest hlt]; exact h2⟩
theorem bitsR_mem (bits j : Nat) : (j : Int) ∈ bitsR bits ↔ bits.testBit j = true := by
  unfold bitsR
  rw [bitList_mem bits bits 0 j Nat.lt_two_pow_self]
  simp
theorem can_bits {c : Clo} (hf : fault c = 0) {bits : Nat} (hb : bits < 2 ^ c.looks.length) : can (allBits c) (full c - bits) = possibleP c (bitsR bits) := by
  have ht : ∀ j, (full c - bits).testBit j = (decide (j < c.looks.length) && !bits.testBit j) := fun j => by
    unfold full
    rw [show 2 ^ c.looks.length - 1 - bits = 2 ^ c.looks.length - (bits + 1) by omega]
    exact Nat.testBit_two_pow_sub_succ hb j
  refine mask_bits hf (fun j hj => ?_) fun j hj => ?_
  · rw [ht, bitsR_mem]; simp [hj]
  · rw [ht]; simp; omega
theorem before_trans : ∀ (a b c : List Int), before a b = true → before b c = true → before a c = true
  | [], [], _, h, _ => by simp [before] at h
  | [], _ :: _, [], _, h => by simp [before] at h
  | [], _ :: _, _ :: _, _, _ => rfl
  | _ :: _, [], _, h, _ => by simp [before] at h
  | _ :: _, _ :: _, [], _, h => by simp [before] at h
  | x :: a, y :: b, z :: c, h1, h2 => by
    simp only [before] at h1 h2 ⊢
    by_cases e1 : x = y
    · subst e1
      rw [if_pos rfl] at h1
      by_cases e2 : x = z
      · subst e2
        rw [if_pos rfl] at h2 ⊢
        exact before_trans a b c h1 h2
      · rw [if_neg e2] at h2 ⊢; exact h2
    · rw [if_neg e1, decide_eq_true_eq] at h1
      by_cases e2 : y = z
      · subst e2
        rw [if_neg e1]; simpa using h1
      · rw [if_neg e2, decide_eq_true_eq] at h2
        rw [if_neg (by omega)]; simp; omega
theorem before_irrefl : ∀ (a : List Int), before a a = false
  | [] => rfl
  | x :: a => by simp [before, before_irrefl a]
theorem shorter_trans {a b c : List Int} (h1 : shorter a b = true) (h2 : shorter b c = true) : shorter a c = true := by
  unfold shorter at *
  simp only [Bool.or_eq_true, Bool.and_eq_true, decide_eq_true_eq, beq_iff_eq] at *
  rcases h1 with h1 | ⟨h1, h3⟩ <;> rcases h2 with h2 | ⟨h2, h4⟩
  · left; omega
  · left; omega
  · left; omega
  · right; exact ⟨by omega, before_trans a b c h3 h4⟩
theorem shorter_irrefl (a : List Int) : shorter a a = false := by unfold shorter; simp [before_irrefl]
/-- a fold that keeps the shortest of those with a property -/
theorem leaveFold (P : List Int → Bool) (f : Nat → List Int) (Q : Nat → Bool) (hQ : ∀ b, Q b = P (f b)) : ∀ (L : List Nat) (b0 : List Int), P b0 = true →
    (P (L.foldl (fun best b => if shorter (f b) best && Q b then f b else best) b0) = true ∧
     ((L.foldl (fun best b => if shorter (f b) best && Q b then f b else best) b0) = b0 ∨ (∃ b ∈ L, (L.foldl (fun best b => if shorter (f b) best && Q b then f b else best) b0) = f b)) ∧
     (∀ y, P y = true → shorter y b0 = false → shorter y (L.foldl (fun best b => if shorter (f b) best && Q b then f b else best) b0) = false) ∧
     (∀ b ∈ L, P (f b) = true → shorter (f b) (L.foldl (fun best b => if shorter (f b) best && Q b then f b else best) b0) = false))
  | [], b0, h => ⟨h, .inl rfl, fun _ _ h => h, fun b hb => by cases hb⟩
  | b :: L, b0, h => by
    rw [List.foldl_cons]
    by_cases hs : (shorter (f b) b0 && Q b) = true
    · rw [if_pos hs]
      rw [Bool.and_eq_true, hQ] at hs
      obtain ⟨h1, h2, h3, h4⟩ := leaveFold P f Q hQ L (f b) hs.2
      have hb := h3 (f b) hs.2 (shorter_irrefl _)
      refine ⟨h1, ?_, fun y hy hn => h3 y hy ?_, fun x hx hp => ?_⟩
      · rcases h2 with h2 | ⟨x, hx, h2⟩
        · exact .inr ⟨b, List.mem_cons_self, h2⟩
        · exact .inr ⟨x, List.mem_cons_of_mem _ hx, h2⟩
      · cases hc : shorter y (f b) with
        | false => rfl
        | true => rw [shorter_trans hc hs.1] at hn; cases hn
      · rcases List.mem_cons.1 hx with rfl | hx
        · exact hb
        · exact h4 x hx hp
    · rw [if_neg hs]
      obtain ⟨h1, h2, h3, h4⟩ := leaveFold P f Q hQ L b0 h
      refine ⟨h1, ?_, h3, fun x hx hp => ?_⟩
      · rcases h2 with h2 | ⟨x, hx, h2⟩
        · exact .inl h2
        · exact .inr ⟨x, List.mem_cons_of_mem _ hx, h2⟩
      · rcases List.mem_cons.1 hx with rfl | hx
        · refine h3 _ hp ?_
          rw [hQ, hp, Bool.and_true] at hs
          simpa using hs
        · exact h4 x hx hp
/-- the sets of m more numbers from f on, below n -/
def comb (n : Nat) : Nat → Nat → List Int → List (List Int)
  | 0, _, out => [out]
  | m + 1, f, out => (List.range' f (n - m - f)).flatMap fun i => comb n m (i + 1) (out ++ [(i : Int)])
theorem leaveGo_find (c : Clo) (n : Nat) : ∀ (m f : Nat) (out : List Int), leaveGo c n m f out = (comb n m f out).find? (possibleP c)
  | 0, f, out => by
    unfold leaveGo comb
    rw [List.find?_cons, List.find?_nil]
    cases possibleP c out <;> rfl
  | m + 1, f, out => by
    unfold leaveGo comb
    rw [List.find?_flatMap]
    congr 1
    funext i
    exact leaveGo_find c n m (i + 1) _
def combs (n : Nat) : List (List Int) := (List.range' 0 (n + 1)).flatMap fun m => comb n m 0 []
theorem leaveP_find (c : Clo) : leaveP c = (combs c.looks.length).find? (possibleP c) := by
  unfold leaveP combs
  rw [List.find?_flatMap]
  congr 1
  funext m
  exact leaveGo_find c _ m 0 []
def sortedB : List (List Int) → Bool
  | [] => true
  | a :: l => l.all (shorter a) && sortedB l
theorem sortedB_pairwise : ∀ (l : List (List Int)), sortedB l = true → l.Pairwise (fun a b => shorter a b = true)
  | [], _ => List.Pairwise.nil
  | a :: l, h => by
    simp only [sortedB, Bool.and_eq_true, List.all_eq_true] at h
    exact List.Pairwise.cons h.1 (sortedB_pairwise l h.2)
theorem combs_facts : ∀ n, n < 6 → sortedB (combs n) = true ∧ ((combs n).all fun l => (List.range (2 ^ n)).any fun b => bitsR b == l) = true ∧ ((List.range (2 ^ n)).all fun b => (combs n).contains (bitsR b)) = true := by
  decide +kernel
theorem combs_sorted {n : Nat} (h : n < 6) : (combs n).Pairwise (fun a b => shorter a b = true) := sortedB_pairwise _ (combs_facts n h).1
theorem combs_bits {n : Nat} (h : n < 6) {l : List Int} (hl : l ∈ combs n) : ∃ b, b < 2 ^ n ∧ bitsR b = l := by
  have := List.all_eq_true.1 (combs_facts n h).2.1 l hl
  rw [List.any_eq_true] at this
  obtain ⟨b, hb, e⟩ := this
  exact ⟨b, by simpa using hb, by simpa using e⟩
theorem combs_has {n : Nat} (h : n < 6) {b : Nat} (hb : b < 2 ^ n) : bitsR b ∈ combs n := by
  have := List.all_eq_true.1 (combs_facts n h).2.2 b (by simpa using hb)
  exact List.contains_iff_mem.1 this
theorem find_sorted {P : List Int → Bool} : ∀ {l : List (List Int)} {x : List Int}, l.Pairwise (fun a b => shorter a b = true) → l.find? P = some x → x ∈ l ∧ P x = true ∧ ∀ y ∈ l, P y = true → y = x ∨ shorter x y = true
  | [], x, _, h => by cases h
  | a :: l, x, hp, h => by
    have hp2 := List.pairwise_cons.1 hp
    rw [List.find?_cons] at h
    split at h
    · rename_i ha
      injection h with h
      subst h
      refine ⟨List.mem_cons_self, ha, fun y hy _ => ?_⟩
      rcases List.mem_cons.1 hy with rfl | hy
      · exact .inl rfl
      · exact .inr (hp2.1 y hy)
    · rename_i ha
      obtain ⟨h1, h2, h3⟩ := find_sorted hp2.2 h
      refine ⟨List.mem_cons_of_mem _ h1, h2, fun y hy hP => ?_⟩
      rcases List.mem_cons.1 hy with rfl | hy
      · rw [hP] at ha; cases ha
      · exact h3 y hy hP
theorem full_lt (c : Clo) : full c < 2 ^ c.looks.length := by unfold full; have := Nat.two_pow_pos c.looks.length; omega
theorem leaveP_some {c : Clo} (hf : fault c = 0) : ∃ l, leaveP c = some l ∧ l ∈ combs c.looks.length ∧ possibleP c l = true ∧ ∀ y ∈ combs c.looks.length, possibleP c y = true → y = l ∨ shorter l y = true := by
  have ok := okC_of_fault hf
  have h6 : c.looks.length < 6 := by have := ok.nlooks; omega
  have hfull : possibleP c (bitsR (full c)) = true := by
    rw [← can_bits hf (full_lt c), Nat.sub_self, can_iff hf]
    obtain ⟨d, hd⟩ := dryAll_ne c.horses fun h hh => by have := ok.horse h hh; omega
    exact ⟨d, hd, fun j hj => by simp at hj⟩
  cases h : leaveP c with
  | none =>
    rw [leaveP_find, List.find?_eq_none] at h
    exact absurd hfull (h _ (combs_has h6 (full_lt c)))
  | some l =>
    have h2 := h
    rw [leaveP_find] at h2
    exact ⟨l, rfl, find_sorted (combs_sorted h6) h2⟩
theorem leave_law {c : Clo} (hf : fault c = 0) : leaveOut c = leaveR c (allBits c) := by
  have ok := okC_of_fault hf
  have h6 : c.looks.length < 6 := by have := ok.nlooks; omega
  obtain ⟨l, hl, hmem, hP, hmin⟩ := leaveP_some hf
  have hQ : ∀ b, (fun b => can (allBits c) (full c - b)) b = (fun b => can (allBits c) (full c - b)) b := fun _ => rfl
  have hcan : ∀ b, b < 2 ^ c.looks.length → can (allBits c) (full c - b) = possibleP c (bitsR b) := fun b hb => can_bits hf hb
  have hstep : leaveR c (allBits c) = (List.range (full c + 1)).foldl (fun best b => if shorter (bitsR b) best && possibleP c (bitsR b) then bitsR b else best) (bitsR (full c)) := by
    unfold leaveR
    have : ∀ (L : List Nat) (b0 : List Int), (∀ b ∈ L, b < 2 ^ c.looks.length) → L.foldl (leaveStep c (allBits c)) b0 = L.foldl (fun best b => if shorter (bitsR b) best && possibleP c (bitsR b) then bitsR b else best) b0 := fun L => by
      induction L with
      | nil => intro _ _; rfl
      | cons b L ih =>
        intro b0 h
        rw [List.foldl_cons, List.foldl_cons, ih _ fun x hx => h x (List.mem_cons_of_mem _ hx)]
        unfold leaveStep
        rw [hcan b (h b List.mem_cons_self)]
    exact this _ _ fun b hb => by have := full_lt c; simp at hb; omega
  have hfp : possibleP c (bitsR (full c)) = true := by
    rw [← can_bits hf (full_lt c), Nat.sub_self, can_iff hf]
    obtain ⟨d, hd⟩ := dryAll_ne c.horses fun h hh => by have := ok.horse h hh; omega
    exact ⟨d, hd, fun j hj => by simp at hj⟩
  obtain ⟨h1, h2, h3, h4⟩ := leaveFold (possibleP c) bitsR (fun b => possibleP c (bitsR b)) (fun _ => rfl) (List.range (full c + 1)) (bitsR (full c)) hfp
  rw [← hstep] at h1 h2 h3 h4
  unfold leaveOut
  rw [if_pos hf, hl, Option.getD_some]
  have hin : leaveR c (allBits c) ∈ combs c.looks.length := by
    rcases h2 with h2 | ⟨b, hb, h2⟩
    · rw [h2]; exact combs_has h6 (full_lt c)
    · rw [h2]; exact combs_has h6 (by have := full_lt c; simp at hb; omega)
  rcases hmin _ hin h1 with h5 | h5
  · exact h5.symm
  · obtain ⟨b, hb, hbl⟩ := combs_bits h6 hmem
    have h6 := h4 b (by unfold full; simp; omega) (by rw [hbl]; exact hP)
    rw [hbl, h5] at h6
    cases h6
end Go.Proofs.Ytjilckjhdlabaaa
