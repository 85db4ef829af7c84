/- The law TicketEnds: walk. -/
import Derived.Test.YtbkfnajpbhfneaaPart14
import Derived.Test.YtbkfnajpbhfneaaPart13
import Derived.Test.YtbkfnajpbhfneaaPart7
set_option linter.unusedSimpArgs false
set_option linter.unusedVariables false
namespace Go.Proofs.Ytbkfnajpbhfneaa
open Go Go.RowKit
attribute [local go_sem] later_alloc2 later_alloc3 later_alloc4

def hitTo (f : List Int → Int) (x : Int) (l : List (List Int)) (j : Nat) : Bool := (l.take j).any fun d => decide (f d = x)
theorem hitTo_succ {f : List Int → Int} {x : Int} {l : List (List Int)} {j : Nat} {d : List Int} (h : l[j]? = some d) : hitTo f x l (j + 1) = (hitTo f x l j || decide (f d = x)) := by
  unfold hitTo
  rw [List.take_add_one, h]
  simp
theorem hitTo_all {f : List Int → Int} {x : Int} {l : List (List Int)} {j : Nat} (hj : l.length ≤ j) (h : l.any (fun d => decide (f d = x)) = true) : hitTo f x l j = true := by
  unfold hitTo
  rw [List.take_of_length_le hj]
  exact h
def metV (p q r s : Bool) : Int := (if p then 1 else 0) + (if q then 2 else 0) + (if r then 4 else 0) + (if s then 8 else 0)
/-- how far the four ends are counted -/
def MetAt (i m : Value) (p q r s a b c d : Bool) : Prop :=
  (i = .int .i64 0 ∧ m = .int .i64 (metV p q r s)) ∨ (i = .int .i64 1 ∧ m = .int .i64 (metV (p || a) q r s)) ∨ (i = .int .i64 2 ∧ m = .int .i64 (metV (p || a) (q || b) r s)) ∨
  (i = .int .i64 3 ∧ m = .int .i64 (metV (p || a) (q || b) (r || c) s)) ∨ (i = .int .i64 4 ∧ m = .int .i64 (metV (p || a) (q || b) (r || c) (s || d)))
/-- v points to a new block, no older than base -/
def IsNBox (base : Nat) (t : TypeId) (cs : List Value) (v : Value) (W : World) : Prop := ∃ g, v = .pointer (some ⟨g, 0, none⟩) ∧ Blk W g t cs.toArray ∧ base ≤ g
theorem IsNBox.later {base : Nat} {t : TypeId} {cs : List Value} {v : Value} {W W' : World} (h : IsNBox base t cs v W) (k : Later W W') : IsNBox base t cs v W' := let ⟨g, e, hb, hg⟩ := h; ⟨g, e, hb.later k, hg⟩
theorem met_or (p q r s : Bool) : bits .or .i64 (metV p q r s) 1 = metV true q r s ∧ bits .or .i64 (metV p q r s) 2 = metV p true r s ∧ bits .or .i64 (metV p q r s) 4 = metV p q true s ∧ bits .or .i64 (metV p q r s) 8 = metV p q r true := by
  cases p <;> cases q <;> cases r <;> cases s <;> decide
theorem lin_end_last {P : Program} {ops : Array Oper} {Q : Exit → Act → World → Prop} {R : World → World → Prop} {w0 : World} {es : List Nat} {tail : List Oper} {k j : Nat} {S : List Slot} {s : Slot} {F : (Nat → Value) → Act}
    (h : ∀ xs W, R w0 W → s.fact (xs j) W → wpList P ops Q tail (F xs) W) (hj : S.length = j) : Lin P ops Q R w0 es tail [] k (S ++ [s]) F := fun xs W hW hf _ _ => h xs W hW (fact_last hj (hf j))
set_option maxRecDepth 100000 in
set_option maxHeartbeats 8000000 in
theorem lawEnds_calls {A1 A2 A3 : Option Addr} {n1 k1 n2 k2 n3 k3 : Nat} {c : Hou} {p q : Nat} (w : World) (hc : CV w c A1 n1 A2 n2 A3 n3) (b1 : n1 ≤ 9223372036854775807) (b2 : n2 ≤ 9223372036854775807) (b3 : n3 ≤ 9223372036854775807) (hp : p < 256) (hq : q < 256) :
    Calls Try.prog 9 #[(.agg #[.int .i64 c.hour, .int .i64 c.grace, .slice A1 n1 k1, .slice A2 n2 k2, .slice A3 n3 k3]), .int .u8 p, .int .u8 q] w fun e w' => e = .returned (.bool true) ∧ Later w w' := by
  obtain ⟨w0, hw0⟩ : ∃ W, W = (w.alloc (.cells #[.int .i64 c.hour, .int .i64 c.grace, .slice A1 n1 k1, .slice A2 n2 k2, .slice A3 n3 k3] 26)) := ⟨_, rfl⟩; have hbox : ∀ W, Later w0 W → ∀ i, W.cell? ⟨w.heap.size, i, none⟩ = #[.int .i64 c.hour, .int .i64 c.grace, .slice A1 n1 k1, .slice A2 n2 k2, .slice A3 n3 k3][i]? := (by rw [hw0]; exact box_cells w #[.int .i64 c.hour, .int .i64 c.grace, .slice A1 n1 k1, .slice A2 n2 k2, .slice A3 n3 k3] 26); have hL0 : Later w w0 := (by rw [hw0]; simp); have hc0 := hc.later hL0; have Hw0 := hide hw0; clear hw0
  have hrdy := ready_calls (k1 := k1) (k2 := k2) (k3 := k3) w0 hc0 b1 b2 b3
  cases hth : readyB c with
  | false =>
    rw [hth] at hrdy
    have Hrdy := hide hrdy
    clear hth hrdy
    go_enter Try.func9, Try.ntmps9
    go_wp2_with fail
    rw [← Hw0.out]; clear Hw0
    refine Hrdy.out.mono ?_
    rintro e w1 ⟨rfl, hL1⟩
    go_wp2_with fail
    refine (awake_calls _).mono ?_
    rintro e w2 ⟨rfl, hL2⟩
    go_wp2_with fail
    go_ret
    exact ⟨rfl, Later.trans hL0 (Later.trans hL1 hL2)⟩
  | true =>
    rw [hth] at hrdy
    have hn1 := hc.ck.len
    have hn2 := hc.tk.len
    have hn3 := hc.cp.len
    have hf := (readyB_true hth).2
    have ok := okH_of_fault hf
    have hmy := many_le hf
    have l1 : n1 ≤ 4 := by have := ok.n1; omega
    have l2 : n2 ≤ 6 := by have := ok.n2; omega
    have l3 : n3 ≤ 10 := by have := ok.n3; omega
    have Hn1 := hide hn1
    have Hn2 := hide hn2
    have Hn3 := hide hn3
    have Hf := hide hf
    have Hmy := hide hmy
    have Hrdy := hide hrdy
    clear hth hrdy hn1 hn2 hn3 hf hmy
    have hbxa := fun W (hW : Later w0 W) => hbox W hW 2
    have hbxb := fun W (hW : Later w0 W) => hbox W hW 3
    simp only [List.getElem?_toArray, List.getElem?_cons_zero, List.getElem?_cons_succ] at hbxa hbxb
    by_cases hn : n1 = 0
    · have hnb : ((n1 : Int) == 0) = true := by simp [hn]
      clear hn
      go_enter Try.func9, Try.ntmps9
      go_wp2_with fail
      rw [← Hw0.out]; clear Hw0
      refine Hrdy.out.mono ?_
      rintro e w1 ⟨rfl, hL1⟩
      have hx1 := hbxa w1 hL1
      have hx2 := hbxb w1 hL1
      go_wp2_with fail
      refine (awake_calls _).mono ?_
      rintro e wa ⟨rfl, hLa⟩
      go_wp2_with fail
      go_ret
      exact ⟨rfl, Later.trans hL0 (Later.trans hL1 hLa)⟩
    · have hnb : ((n1 : Int) == 0) = false := by simp; omega
      obtain ⟨k, gza⟩ : ∃ k, p % n1 = k := ⟨_, rfl⟩
      have za1 : (p : Int).tmod (n1 : Int) = (k : Int) := by rw [← gza, Int.tmod_eq_emod_of_nonneg (by omega)]; norm_cast
      have za2 : (p : Int) % (n1 : Int) = (k : Int) := by rw [← gza]; norm_cast
      have hza : k < n1 := by rw [← gza]; exact Nat.mod_lt _ (by omega)
      have za3 : IntKind.i64.wrap (k : Int) = (k : Int) := IntWalk.i64_in _ (by omega)
      have za4 : ¬ n1 = 0 := by omega
      have za5 : ¬ (n1 : Int) = 0 := by omega
      have za6 : IntKind.i64.wrap (p : Int) = (p : Int) := IntWalk.i64_in _ (by omega)
      clear gza
      by_cases hm : n2 = 0
      · have hmb : ((n2 : Int) == 0) = true := by simp [hm]
        clear hm hn
        go_enter Try.func9, Try.ntmps9
        go_wp2_with fail
        rw [← Hw0.out]; clear Hw0
        refine Hrdy.out.mono ?_
        rintro e w1 ⟨rfl, hL1⟩
        have hx1 := hbxa w1 hL1
        have hx2 := hbxb w1 hL1
        go_wp2_with fail
        refine (awake_calls _).mono ?_
        rintro e wa ⟨rfl, hLa⟩
        go_wp2_with fail
        go_ret
        exact ⟨rfl, Later.trans hL0 (Later.trans hL1 hLa)⟩
      · have hmb : ((n2 : Int) == 0) = false := by simp; omega
        obtain ⟨n, gzb⟩ : ∃ k, q % n2 = k := ⟨_, rfl⟩
        have zb1 : (q : Int).tmod (n2 : Int) = (n : Int) := by rw [← gzb, Int.tmod_eq_emod_of_nonneg (by omega)]; norm_cast
        have zb2 : (q : Int) % (n2 : Int) = (n : Int) := by rw [← gzb]; norm_cast
        have hzb : n < n2 := by rw [← gzb]; exact Nat.mod_lt _ (by omega)
        have zb3 : IntKind.i64.wrap (n : Int) = (n : Int) := IntWalk.i64_in _ (by omega)
        have zb4 : ¬ n2 = 0 := by omega
        have zb5 : ¬ (n2 : Int) = 0 := by omega
        have zb6 : IntKind.i64.wrap (q : Int) = (q : Int) := IntWalk.i64_in _ (by omega)
        clear gzb
        clear hn hm
        have hcl := fun (B1 B2 B3 : Option Addr) (j1 j2 j3 : Nat) (W : World) (h : CV W c B1 n1 B2 n2 B3 n3) => ClocksP_calls (k1 := j1) (k2 := j2) (k3 := j3) W h (by omega) (by omega) (by omega)
        have hcp := fun (B1 B2 B3 : Option Addr) (j1 j2 j3 : Nat) (W : World) (h : CV W c B1 n1 B2 n2 B3 n3) => HoursP_calls (k1 := j1) (k2 := j2) (k3 := j3) W h (by omega) (by omega) (by omega)
        have hsu := fun (W : World) (h : Later w0 W) => sure_calls (k1 := k1) (k2 := k2) (k3 := k3) W (hc0.later h) (by omega) (by omega) (by omega)
        unfold PairsPost at hcl hcp
        unfold SurePost at hsu
        have hkk : (k : Int) < n1 := by omega
        have hnn : (n : Int) < n2 := by omega
        rcases asked_cases Hf.out with ⟨he, hne, htn⟩ | ⟨he, _, htn⟩
        · have hlc : (clocksOut c).length = n1 := by unfold clocksOut; rw [if_pos he, List.length_map, List.length_range, Hn1.out]
          have hlh : (hoursOut c).length = n2 := by unfold hoursOut; rw [if_pos he, List.length_map, List.length_range, Hn2.out]
          have hen := fun (r s : Int × Int) (hr : (clocksOut c)[k]? = some r) (hs : (hoursOut c)[n]? = some s) => ends_reached (k := k) (n := n) he hr hs
          have htr := truths_isErr ok
          have hlen : (truths c).length ≤ 2000 := by rw [← (truthsP_perm Hf.out).length_eq]; exact truthsP_len Hf.out
          have hne1 : ((n1 : Int) != (n1 : Int)) = false := by simp
          have hne2 : ((n2 : Int) != (n2 : Int)) = false := by simp
          rw [he] at hcl hcp
          simp only [he] at hsu
          have Hcl := hide hcl
          have Hcp := hide hcp
          have Hsu := hide hsu
          have Hlc := hide hlc
          have Hlh := hide hlh
          have Hen := hide hen
          have Htr := hide htr
          have Hlen := hide hlen
          clear hcl hcp hsu hlc hlh hen htr hlen he hne htn
          go_enter Try.func9, Try.ntmps9
          go_wp2_with fail
          rw [← Hw0.out]; clear Hw0
          refine Hrdy.out.mono ?_
          rintro e w1 ⟨rfl, hL1⟩
          have hx1 := fun W (hW : Later w1 W) => hbxa W (Later.trans hL1 hW)
          have hx2 := fun W (hW : Later w1 W) => hbxb W (Later.trans hL1 hW)
          have hx3 := hx1 w1 (later_refl _)
          have hx4 := hx2 w1 (later_refl _)
          go_wp2_with fail
          refine wp_region_ext (w0 := w1) (by kernel_rfl) (by kernel_rfl) (later_refl _) ?_; (repeat (first | go_big_quiet_step ((fail)) | quiet_step ((fail)))); refine wpQuiet_nil ?_; rintro w2 ⟨⟨_, hM2⟩, rfl⟩; (try dsimp only)
          have hL2 := Later.trans hL1 hM2
          clear hx1 hx2 hx3 hx4
          go_wp2_with fail
          refine (lawHouse_calls (k1 := k1) (k2 := k2) (k3 := k3) w2 (hc0.later hL2) (by omega) (by omega) (by omega)).mono ?_
          rintro e wd ⟨B1d, j1d, B2d, j2d, B3d, j3d, rfl, hMd, hcd, hj1d, hj2d, hj3d⟩
          have hLd := Later.trans hL2 hMd
          go_wp2_with fail
          refine (Hcl.out _ _ _ _ _ _ wd hcd).mono ?_
          rintro e w3 ⟨Ac, nc, kc, rfl, hM3, hrc⟩
          have hL3 := Later.trans hLd hM3
          clear hcd hj1d hj2d hj3d hMd hLd hM3
          go_wp2_with fail
          refine (lawHouse_calls (k1 := k1) (k2 := k2) (k3 := k3) w3 (hc0.later hL3) (by omega) (by omega) (by omega)).mono ?_
          rintro e wd ⟨B1d, j1d, B2d, j2d, B3d, j3d, rfl, hMd, hcd, hj1d, hj2d, hj3d⟩
          have hLd := Later.trans hL3 hMd
          go_wp2_with fail
          refine (Hcp.out _ _ _ _ _ _ wd hcd).mono ?_
          rintro e w4 ⟨Ah, nh, kh, rfl, hM4, hrh⟩
          have hL4 := Later.trans hLd hM4
          have hM34 := Later.trans hMd hM4
          clear hcd hj1d hj2d hj3d hMd hLd hM4
          go_wp2_with fail
          refine (Hsu.out w4 hL4).mono ?_
          rintro e w5 ⟨As, ns, ks, rfl, hM5, hrs⟩
          have hL5 := Later.trans hL4 hM5
          replace hrs := hrs trivial
          have hns := hrs.len
          have hns2 : ns ≤ 2000 := by have := Hlen.out; omega
          have hnc := hrc.len
          rw [Hlc.out] at hnc
          subst nc
          have hnh := hrh.len
          rw [Hlh.out] at hnh
          subst nh
          have hrc5 := hrc.later (Later.trans hM34 hM5)
          have hrh5 := hrh.later hM5
          obtain ⟨bc, oc, ⟨r1, r2⟩, rfl, _, hr, hr1, hr2⟩ := hrc5.get hza
          obtain ⟨bh, oh, ⟨s1, s2⟩, rfl, _, hs, hs1, hs2⟩ := hrh5.get hzb
          have hen := Hen.out _ _ hr hs
          dsimp only at hen hr1 hr2 hs1 hs2
          have Hen2 := hide hen
          have Hns := hide hns
          have hx3 := hbxa w5 hL5
          have hx4 := hbxb w5 hL5
          clear hen hr hs hrc hrh hrc5 hrh5 hns Hen hbxa hbxb
          go_wp2_with fail
          clear hx3 hx4
          go_loopw [15, 16] (fun m i wr => ∃ j : Nat, j ≤ ns ∧ i = .int .i64 j ∧ m = .int .i64 (metV (hitTo (fun d => d.getD k 0) r1 (truths c) j) (hitTo (fun d => d.getD k 0) r2 (truths c) j) (hitTo (fun d => hoursR c d n) s1 (truths c) j) (hitTo (fun d => hoursR c d n) s2 (truths c) j)) ∧ Later w5 wr) (fun _ i _ => ns - (intOf i).toNat)
          case atStart => exact ⟨0, Nat.zero_le _, rfl, rfl, later_refl _⟩
          case round =>
            obtain ⟨j, hj, rfl, rfl, hL⟩ := hrel
            have hL0r := Later.trans hL5 hL
            by_cases hlt : j < ns
            · have hi1 : (j : Int) < ns := by omega
              obtain ⟨bt, ot, d, Ad, nd, kd, rfl, hd, hrd, hdx⟩ := hrs.get hlt
              have hdr := Htr.out d (List.mem_of_getElem? hd)
              have hnd := hrd.len
              have hkd : k < nd := by have := hdr.len; have := Hn1.out; omega
              have hkd2 : (k : Int) < nd := by omega
              obtain ⟨be, oe, x, rfl, _, hx, hx0⟩ := hrd.get hkd
              have hgx : d.getD k 0 = x := by rw [List.getD_eq_getElem?_getD, hx]; rfl
              have t1 := hitTo_succ (f := fun d => d.getD k 0) (x := r1) hd
              have t2 := hitTo_succ (f := fun d => d.getD k 0) (x := r2) hd
              have t3 := hitTo_succ (f := fun d => hoursR c d n) (x := s1) hd
              have t4 := hitTo_succ (f := fun d => hoursR c d n) (x := s2) hd
              obtain ⟨v, hv⟩ : ∃ v, hoursR c d n = v := ⟨_, rfl⟩
              have hhr := fun (W : World) (h : Later wr W) => Hours_eq (k1 := k1) (k2 := k2) (k3 := k3) (kd := kd) (t := (n : Int)) hv W (hc0.later (Later.trans hL0r h)) (hrd.later (Later.trans hL h)) ok hdr
              rw [hgx] at t1 t2
              rw [hv] at t3 t4
              generalize hitTo (fun d => d.getD k 0) r1 (truths c) j = p0 at *
              generalize hitTo (fun d => d.getD k 0) r2 (truths c) j = p1 at *
              generalize hitTo (fun d => hoursR c d n) s1 (truths c) j = p2 at *
              generalize hitTo (fun d => hoursR c d n) s2 (truths c) j = p3 at *
              have T1 := hide t1
              have T2 := hide t2
              have T3 := hide t3
              have T4 := hide t4
              have Hhr := hide hhr
              have d0 := fun W (hW : Later wr W) => hdx W (Later.trans hL hW)
              have e0 := fun W (hW : Later wr W) => hx0 W (Later.trans hL hW)
              have g1 := fun W (hW : Later wr W) => hr1 W (Later.trans hL hW)
              have g2 := fun W (hW : Later wr W) => hr2 W (Later.trans hL hW)
              have g3 := fun W (hW : Later wr W) => hs1 W (Later.trans hL hW)
              have g4 := fun W (hW : Later wr W) => hs2 W (Later.trans hL hW)
              have hbx := fun W (hW : Later wr W) => hbox W (Later.trans hL0r hW)
              clear t1 t2 t3 t4 hhr hdx hx0 hr1 hr2 hs1 hs2 hd hx hgx hv hbox hnd hkd
              go_wp2_with fail
              refine wp_region_ext (w0 := wr) (by kernel_rfl) (by kernel_rfl) (later_refl _) ?_; (repeat (first | go_big_quiet_step (((go_at_call 50; exact calls_ext (by simp) (Hhr.out _ (by simp))))) | quiet_step (((go_at_call 50; exact calls_ext (by simp) (Hhr.out _ (by simp))))))); refine wpQuiet_nil ?_; rintro w7 ⟨⟨_, hM7⟩, rfl⟩; (try dsimp only)
              have d7 := fun W (hW : Later w7 W) => d0 W (Later.trans hM7 hW)
              have e7 := fun W (hW : Later w7 W) => e0 W (Later.trans hM7 hW)
              have f1 := fun W (hW : Later w7 W) => g1 W (Later.trans hM7 hW)
              have f2 := fun W (hW : Later w7 W) => g2 W (Later.trans hM7 hW)
              have f3 := fun W (hW : Later w7 W) => g3 W (Later.trans hM7 hW)
              have f4 := fun W (hW : Later w7 W) => g4 W (Later.trans hM7 hW)
              clear d0 e0 g1 g2 g3 g4 hbx
              go_upto_region 16 with fail
              have hS7 : Later w7 w7.drew := later_drew (later_refl _)
              obtain ⟨a, ha⟩ : ∃ q, (x == r1) = q := ⟨_, rfl⟩
              obtain ⟨b, hb⟩ : ∃ q, (x == r2) = q := ⟨_, rfl⟩
              obtain ⟨c1, hc1⟩ : ∃ q, (v == s1) = q := ⟨_, rfl⟩
              obtain ⟨d1, hd1⟩ : ∃ q, (v == s2) = q := ⟨_, rfl⟩
              have hka : decide (x = r1) = a := ha
              have hkb : decide (x = r2) = b := hb
              have hkc : decide (v = s1) = c1 := hc1
              have hkd : decide (v = s2) = d1 := hd1
              have t1 := T1.out
              have t2 := T2.out
              have t3 := T3.out
              have t4 := T4.out
              rw [hka] at t1
              rw [hkb] at t2
              rw [hkc] at t3
              rw [hkd] at t4
              have U1 := hide t1
              have U2 := hide t2
              have U3 := hide t3
              have U4 := hide t4
              clear T1 T2 T3 T4 t1 t2 t3 t4 hka hkb hkc hkd
              refine wp_region_lin (w0 := w7) 42 [] rely_later (by kernel_rfl) (by kernel_rfl) (by kernel_rfl) (by kernel_rfl) (hS7) (.inl rfl) ?_
              simp only [List.take_succ_cons, List.take_zero, List.drop_succ_cons, List.drop_zero]
              refine lin_det (v := ?_) (F' := ?_) (by rfl) (fun _ => by rfl) ?_ ?_ ?_
              rotate_left 2
              focus (intro xs X hX hdep; clear hdep; (try dsimp only); go_simp; (try (first | with_reducible rfl | exact ⟨rfl, rfl⟩ | (fail))))
              focus (intro xs; (try simp only [Act.put, List.setIfInBounds_toArray, List.set_cons_zero, List.set_cons_succ, Nat.reduceAdd]); rfl)
              refine lin_det (v := ?_) (F' := ?_) (by rfl) (fun _ => by rfl) ?_ ?_ ?_
              rotate_left 2
              focus (intro xs X hX hdep; clear hdep; (try dsimp only); go_simp; (try (first | with_reducible rfl | exact ⟨rfl, rfl⟩ | (fail))))
              focus (intro xs; (try simp only [Act.put, List.setIfInBounds_toArray, List.set_cons_zero, List.set_cons_succ, Nat.reduceAdd]); rfl)
              refine lin_det (v := ?_) (F' := ?_) (by rfl) (fun _ => by rfl) ?_ ?_ ?_
              rotate_left 2
              focus (intro xs X hX hdep; clear hdep; (try dsimp only); go_simp; (try (first | with_reducible rfl | exact ⟨rfl, rfl⟩ | (fail))))
              focus (intro xs; (try simp only [Act.put, List.setIfInBounds_toArray, List.set_cons_zero, List.set_cons_succ, Nat.reduceAdd]); rfl)
              refine lin_det (v := ?_) (F' := ?_) (by rfl) (fun _ => by rfl) ?_ ?_ ?_
              rotate_left 2
              focus (intro xs X hX hdep; clear hdep; (try dsimp only); go_simp; (try (first | with_reducible rfl | exact ⟨rfl, rfl⟩ | (fail))))
              focus (intro xs; (try simp only [Act.put, List.setIfInBounds_toArray, List.set_cons_zero, List.set_cons_succ, Nat.reduceAdd]); rfl)
              refine lin_det (v := ?_) (F' := ?_) (by rfl) (fun _ => by rfl) ?_ ?_ ?_
              rotate_left 2
              focus (intro xs X hX hdep; clear hdep; (try dsimp only); go_simp; (try (first | with_reducible rfl | exact ⟨rfl, rfl⟩ | (fail))))
              focus (intro xs; (try simp only [Act.put, List.setIfInBounds_toArray, List.set_cons_zero, List.set_cons_succ, Nat.reduceAdd]); rfl)
              refine lin_det (v := ?_) (F' := ?_) (by rfl) (fun _ => by rfl) ?_ ?_ ?_
              rotate_left 2
              focus (intro xs X hX hdep; clear hdep; (try dsimp only); go_simp; (try (first | with_reducible rfl | exact ⟨rfl, rfl⟩ | (fail))))
              focus (intro xs; (try simp only [Act.put, List.setIfInBounds_toArray, List.set_cons_zero, List.set_cons_succ, Nat.reduceAdd]); rfl)
              refine lin_det (v := ?_) (F' := ?_) (by rfl) (fun _ => by rfl) ?_ ?_ ?_
              rotate_left 2
              focus (intro xs X hX hdep; clear hdep; (try dsimp only); go_simp; (try (first | with_reducible rfl | exact ⟨rfl, rfl⟩ | (fail))))
              focus (intro xs; (try simp only [Act.put, List.setIfInBounds_toArray, List.set_cons_zero, List.set_cons_succ, Nat.reduceAdd]); rfl)
              refine lin_det (v := ?_) (F' := ?_) (by rfl) (fun _ => by rfl) ?_ ?_ ?_
              rotate_left 2
              focus (intro xs X hX hdep; clear hdep; (try dsimp only); go_simp; (try (first | with_reducible rfl | exact ⟨rfl, rfl⟩ | (fail))))
              focus (intro xs; (try simp only [Act.put, List.setIfInBounds_toArray, List.set_cons_zero, List.set_cons_succ, Nat.reduceAdd]); rfl)
              refine lin_det (v := ?_) (F' := ?_) (by rfl) (fun _ => by rfl) ?_ ?_ ?_
              rotate_left 2
              focus (intro xs X hX hdep; clear hdep; (try dsimp only); go_simp; (try (first | with_reducible rfl | exact ⟨rfl, rfl⟩ | (fail))))
              focus (intro xs; (try simp only [Act.put, List.setIfInBounds_toArray, List.set_cons_zero, List.set_cons_succ, Nat.reduceAdd]); rfl)
              refine lin_det (v := ?_) (F' := ?_) (by rfl) (fun _ => by rfl) ?_ ?_ ?_
              rotate_left 2
              focus (intro xs X hX hdep; clear hdep; (try dsimp only); go_simp; (try (first | with_reducible rfl | exact ⟨rfl, rfl⟩ | (fail))))
              focus (intro xs; (try simp only [Act.put, List.setIfInBounds_toArray, List.set_cons_zero, List.set_cons_succ, Nat.reduceAdd]); rfl)
              refine lin_det (v := ?_) (F' := ?_) (by rfl) (fun _ => by rfl) ?_ ?_ ?_
              rotate_left 2
              focus (intro xs X hX hdep; clear hdep; (try dsimp only); go_simp; (try (first | with_reducible rfl | exact ⟨rfl, rfl⟩ | (fail))))
              focus (intro xs; (try simp only [Act.put, List.setIfInBounds_toArray, List.set_cons_zero, List.set_cons_succ, Nat.reduceAdd]); rfl)
              refine lin_det (v := ?_) (F' := ?_) (by rfl) (fun _ => by rfl) ?_ ?_ ?_
              rotate_left 2
              focus (intro xs X hX hdep; clear hdep; (try dsimp only); go_simp; (try (first | with_reducible rfl | exact ⟨rfl, rfl⟩ | (fail))))
              focus (intro xs; (try simp only [Act.put, List.setIfInBounds_toArray, List.set_cons_zero, List.set_cons_succ, Nat.reduceAdd]); rfl)
              refine lin_det (v := ?_) (F' := ?_) (by rfl) (fun _ => by rfl) ?_ ?_ ?_
              rotate_left 2
              focus (intro xs X hX hdep; clear hdep; (try dsimp only); go_simp; (try (first | with_reducible rfl | exact ⟨rfl, rfl⟩ | (fail))))
              focus (intro xs; (try simp only [Act.put, List.setIfInBounds_toArray, List.set_cons_zero, List.set_cons_succ, Nat.reduceAdd]); rfl)
              refine lin_det (v := ?_) (F' := ?_) (by rfl) (fun _ => by rfl) ?_ ?_ ?_
              rotate_left 2
              focus (intro xs X hX hdep; clear hdep; (try dsimp only); go_simp; (try (first | with_reducible rfl | exact ⟨rfl, rfl⟩ | (fail))))
              focus (intro xs; (try simp only [Act.put, List.setIfInBounds_toArray, List.set_cons_zero, List.set_cons_succ, Nat.reduceAdd]); rfl)
              refine lin_det (v := ?_) (F' := ?_) (by rfl) (fun _ => by rfl) ?_ ?_ ?_
              rotate_left 2
              focus (intro xs X hX hdep; clear hdep; (try dsimp only); go_simp; (try (first | with_reducible rfl | exact ⟨rfl, rfl⟩ | (fail))))
              focus (intro xs; (try simp only [Act.put, List.setIfInBounds_toArray, List.set_cons_zero, List.set_cons_succ, Nat.reduceAdd]); rfl)
              refine lin_det (v := ?_) (F' := ?_) (by rfl) (fun _ => by rfl) ?_ ?_ ?_
              rotate_left 2
              focus (intro xs X hX hdep; clear hdep; (try dsimp only); go_simp; (try (first | with_reducible rfl | exact ⟨rfl, rfl⟩ | (fail))))
              focus (intro xs; (try simp only [Act.put, List.setIfInBounds_toArray, List.set_cons_zero, List.set_cons_succ, Nat.reduceAdd]); rfl)
              refine lin_det (v := ?_) (F' := ?_) (by rfl) (fun _ => by rfl) ?_ ?_ ?_
              rotate_left 2
              focus (intro xs X hX hdep; clear hdep; (try dsimp only); go_simp; (try (first | with_reducible rfl | exact ⟨rfl, rfl⟩ | (fail))))
              focus (intro xs; (try simp only [Act.put, List.setIfInBounds_toArray, List.set_cons_zero, List.set_cons_succ, Nat.reduceAdd]); rfl)
              refine lin_det (v := ?_) (F' := ?_) (by rfl) (fun _ => by rfl) ?_ ?_ ?_
              rotate_left 2
              focus (intro xs X hX hdep; clear hdep; (try dsimp only); go_simp; (try (first | with_reducible rfl | exact ⟨rfl, rfl⟩ | (fail))))
              focus (intro xs; (try simp only [Act.put, List.setIfInBounds_toArray, List.set_cons_zero, List.set_cons_succ, Nat.reduceAdd]); rfl)
              refine lin_det (v := ?_) (F' := ?_) (by rfl) (fun _ => by rfl) ?_ ?_ ?_
              rotate_left 2
              focus (intro xs X hX hdep; clear hdep; (try dsimp only); go_simp; (try (first | with_reducible rfl | exact ⟨rfl, rfl⟩ | (fail))))
              focus (intro xs; (try simp only [Act.put, List.setIfInBounds_toArray, List.set_cons_zero, List.set_cons_succ, Nat.reduceAdd]); rfl)
              refine lin_det (v := ?_) (F' := ?_) (by rfl) (fun _ => by rfl) ?_ ?_ ?_
              rotate_left 2
              focus (intro xs X hX hdep; clear hdep; (try dsimp only); go_simp; (try (first | with_reducible rfl | exact ⟨rfl, rfl⟩ | (fail))))
              focus (intro xs; (try simp only [Act.put, List.setIfInBounds_toArray, List.set_cons_zero, List.set_cons_succ, Nat.reduceAdd]); rfl)
              refine lin_det (v := ?_) (F' := ?_) (by rfl) (fun _ => by rfl) ?_ ?_ ?_
              rotate_left 2
              focus (intro xs X hX hdep; clear hdep; (try dsimp only); go_simp; (try (first | with_reducible rfl | exact ⟨rfl, rfl⟩ | (fail))))
              focus (intro xs; (try simp only [Act.put, List.setIfInBounds_toArray, List.set_cons_zero, List.set_cons_succ, Nat.reduceAdd]); rfl)
              refine lin_det (v := ?_) (F' := ?_) (by rfl) (fun _ => by rfl) ?_ ?_ ?_
              rotate_left 2
              focus (intro xs X hX hdep; clear hdep; (try dsimp only); go_simp; (try (first | with_reducible rfl | exact ⟨rfl, rfl⟩ | (fail))))
              focus (intro xs; (try simp only [Act.put, List.setIfInBounds_toArray, List.set_cons_zero, List.set_cons_succ, Nat.reduceAdd]); rfl)
              refine lin_det (v := ?_) (F' := ?_) (by rfl) (fun _ => by rfl) ?_ ?_ ?_
              rotate_left 2
              focus (intro xs X hX hdep; clear hdep; (try dsimp only); go_simp; (try (first | with_reducible rfl | exact ⟨rfl, rfl⟩ | (fail))))
              focus (intro xs; (try simp only [Act.put, List.setIfInBounds_toArray, List.set_cons_zero, List.set_cons_succ, Nat.reduceAdd]); rfl)
              refine lin_det (v := ?_) (F' := ?_) (by rfl) (fun _ => by rfl) ?_ ?_ ?_
              rotate_left 2
              focus (intro xs X hX hdep; clear hdep; (try dsimp only); go_simp; (try (first | with_reducible rfl | exact ⟨rfl, rfl⟩ | (fail))))
              focus (intro xs; (try simp only [Act.put, List.setIfInBounds_toArray, List.set_cons_zero, List.set_cons_succ, Nat.reduceAdd]); rfl)
              refine lin_det (v := ?_) (F' := ?_) (by rfl) (fun _ => by rfl) ?_ ?_ ?_
              rotate_left 2
              focus (intro xs X hX hdep; clear hdep; (try dsimp only); go_simp; (try (first | with_reducible rfl | exact ⟨rfl, rfl⟩ | (fail))))
              focus (intro xs; (try simp only [Act.put, List.setIfInBounds_toArray, List.set_cons_zero, List.set_cons_succ, Nat.reduceAdd]); rfl)
              refine lin_det (v := ?_) (F' := ?_) (by rfl) (fun _ => by rfl) ?_ ?_ ?_
              rotate_left 2
              focus (intro xs X hX hdep; clear hdep; (try dsimp only); go_simp; (try (first | with_reducible rfl | exact ⟨rfl, rfl⟩ | (fail))))
              focus (intro xs; (try simp only [Act.put, List.setIfInBounds_toArray, List.set_cons_zero, List.set_cons_succ, Nat.reduceAdd]); rfl)
              refine lin_det (v := ?_) (F' := ?_) (by rfl) (fun _ => by rfl) ?_ ?_ ?_
              rotate_left 2
              focus (intro xs X hX hdep; clear hdep; (try dsimp only); go_simp; (try (first | with_reducible rfl | exact ⟨rfl, rfl⟩ | (fail))))
              focus (intro xs; (try simp only [Act.put, List.setIfInBounds_toArray, List.set_cons_zero, List.set_cons_succ, Nat.reduceAdd]); rfl)
              refine lin_det (v := ?_) (F' := ?_) (by rfl) (fun _ => by rfl) ?_ ?_ ?_
              rotate_left 2
              focus (intro xs X hX hdep; clear hdep; (try dsimp only); go_simp; (try (first | with_reducible rfl | exact ⟨rfl, rfl⟩ | (fail))))
              focus (intro xs; (try simp only [Act.put, List.setIfInBounds_toArray, List.set_cons_zero, List.set_cons_succ, Nat.reduceAdd]); rfl)
              refine lin_det (v := ?_) (F' := ?_) (by rfl) (fun _ => by rfl) ?_ ?_ ?_
              rotate_left 2
              focus (intro xs X hX hdep; clear hdep; (try dsimp only); go_simp; (try (first | with_reducible rfl | exact ⟨rfl, rfl⟩ | (fail))))
              focus (intro xs; (try simp only [Act.put, List.setIfInBounds_toArray, List.set_cons_zero, List.set_cons_succ, Nat.reduceAdd]); rfl)
              refine lin_det (v := ?_) (F' := ?_) (by rfl) (fun _ => by rfl) ?_ ?_ ?_
              rotate_left 2
              focus (intro xs X hX hdep; clear hdep; (try dsimp only); go_simp; (try (first | with_reducible rfl | exact ⟨rfl, rfl⟩ | (fail))))
              focus (intro xs; (try simp only [Act.put, List.setIfInBounds_toArray, List.set_cons_zero, List.set_cons_succ, Nat.reduceAdd]); rfl)
              refine lin_det (v := ?_) (F' := ?_) (by rfl) (fun _ => by rfl) ?_ ?_ ?_
              rotate_left 2
              focus (intro xs X hX hdep; clear hdep; (try dsimp only); go_simp; (try (first | with_reducible rfl | exact ⟨rfl, rfl⟩ | (fail))))
              focus (intro xs; (try simp only [Act.put, List.setIfInBounds_toArray, List.set_cons_zero, List.set_cons_succ, Nat.reduceAdd]); rfl)
              refine lin_det (v := ?_) (F' := ?_) (by rfl) (fun _ => by rfl) ?_ ?_ ?_
              rotate_left 2
              focus (intro xs X hX hdep; clear hdep; (try dsimp only); go_simp; (try (first | with_reducible rfl | exact ⟨rfl, rfl⟩ | (fail))))
              focus (intro xs; (try simp only [Act.put, List.setIfInBounds_toArray, List.set_cons_zero, List.set_cons_succ, Nat.reduceAdd]); rfl)
              refine lin_det (v := ?_) (F' := ?_) (by rfl) (fun _ => by rfl) ?_ ?_ ?_
              rotate_left 2
              focus (intro xs X hX hdep; clear hdep; (try dsimp only); go_simp; (try (first | with_reducible rfl | exact ⟨rfl, rfl⟩ | (fail))))
              focus (intro xs; (try simp only [Act.put, List.setIfInBounds_toArray, List.set_cons_zero, List.set_cons_succ, Nat.reduceAdd]); rfl)
              refine lin_det (v := ?_) (F' := ?_) (by rfl) (fun _ => by rfl) ?_ ?_ ?_
              rotate_left 2
              focus (intro xs X hX hdep; clear hdep; (try dsimp only); go_simp; (try (first | with_reducible rfl | exact ⟨rfl, rfl⟩ | (fail))))
              focus (intro xs; (try simp only [Act.put, List.setIfInBounds_toArray, List.set_cons_zero, List.set_cons_succ, Nat.reduceAdd]); rfl)
              refine lin_det (v := ?_) (F' := ?_) (by rfl) (fun _ => by rfl) ?_ ?_ ?_
              rotate_left 2
              focus (intro xs X hX hdep; clear hdep; (try dsimp only); go_simp; (try (first | with_reducible rfl | exact ⟨rfl, rfl⟩ | (fail))))
              focus (intro xs; (try simp only [Act.put, List.setIfInBounds_toArray, List.set_cons_zero, List.set_cons_succ, Nat.reduceAdd]); rfl)
              refine lin_det (v := ?_) (F' := ?_) (by rfl) (fun _ => by rfl) ?_ ?_ ?_
              rotate_left 2
              focus (intro xs X hX hdep; clear hdep; (try dsimp only); go_simp; (try (first | with_reducible rfl | exact ⟨rfl, rfl⟩ | (fail))))
              focus (intro xs; (try simp only [Act.put, List.setIfInBounds_toArray, List.set_cons_zero, List.set_cons_succ, Nat.reduceAdd]); rfl)
              refine lin_det (v := ?_) (F' := ?_) (by rfl) (fun _ => by rfl) ?_ ?_ ?_
              rotate_left 2
              focus (intro xs X hX hdep; clear hdep; (try dsimp only); go_simp; (try (first | with_reducible rfl | exact ⟨rfl, rfl⟩ | (fail))))
              focus (intro xs; (try simp only [Act.put, List.setIfInBounds_toArray, List.set_cons_zero, List.set_cons_succ, Nat.reduceAdd]); rfl)
              refine lin_det (v := ?_) (F' := ?_) (by rfl) (fun _ => by rfl) ?_ ?_ ?_
              rotate_left 2
              focus (intro xs X hX hdep; clear hdep; (try dsimp only); go_simp; (try (first | with_reducible rfl | exact ⟨rfl, rfl⟩ | (fail))))
              focus (intro xs; (try simp only [Act.put, List.setIfInBounds_toArray, List.set_cons_zero, List.set_cons_succ, Nat.reduceAdd]); rfl)
              refine lin_det (v := ?_) (F' := ?_) (by rfl) (fun _ => by rfl) ?_ ?_ ?_
              rotate_left 2
              focus (intro xs X hX hdep; clear hdep; (try dsimp only); go_simp; (try (first | with_reducible rfl | exact ⟨rfl, rfl⟩ | (fail))))
              focus (intro xs; (try simp only [Act.put, List.setIfInBounds_toArray, List.set_cons_zero, List.set_cons_succ, Nat.reduceAdd]); rfl)
              refine lin_det (v := ?_) (F' := ?_) (by rfl) (fun _ => by rfl) ?_ ?_ ?_
              rotate_left 2
              focus (intro xs X hX hdep; clear hdep; (try dsimp only); go_simp; (try (first | with_reducible rfl | exact ⟨rfl, rfl⟩ | (fail))))
              focus (intro xs; (try simp only [Act.put, List.setIfInBounds_toArray, List.set_cons_zero, List.set_cons_succ, Nat.reduceAdd]); rfl)
              refine lin_det (v := ?_) (F' := ?_) (by rfl) (fun _ => by rfl) ?_ ?_ ?_
              rotate_left 2
              focus (intro xs X hX hdep; clear hdep; (try dsimp only); go_simp; (try (first | with_reducible rfl | exact ⟨rfl, rfl⟩ | (fail))))
              focus (intro xs; (try simp only [Act.put, List.setIfInBounds_toArray, List.set_cons_zero, List.set_cons_succ, Nat.reduceAdd]); rfl)
              refine lin_any (IsNBox w7.heap.size 70 [.bool false, .bool false, .bool false, .bool false]) false (fun v W W' k h => IsNBox.later h k) (F' := ?_) (by rfl) (fun _ => by rfl) ?_ ?_ ?_
              rotate_left 1
              focus (intro xs X hX hdep; skip; clear hdep; intro K hK; (try dsimp only); go_simp; (refine hK.out _ _ rfl (later_alloc (later_refl _) _) ⟨X.heap.size, ?_, Blk.new X _ _, hX.size⟩ (fun h => by cases h); (focus (simp only [slotOf]; rfl))))
              focus (intro xs; (try simp only [Act.put, List.setIfInBounds_toArray, List.set_cons_zero, List.set_cons_succ, Nat.reduceAdd]); rfl)

              refine lin_end_last (j := 41) ?_ (by kernel_rfl)
              intro xs w8 hW hE
              obtain ⟨gE, hx41, hbE, hgE⟩ := (show IsNBox _ _ _ _ _ from hE)
              clear hE
              simp only [hx41, Nat.reduceAdd, Nat.zero_add]
              clear hx41
              have hM8 := Later.trans hM7 hW
              have hL8 := Later.trans hL hM8
              have e0 := hbE.cell 0
              have e1 := hbE.cell 1
              have e2 := hbE.cell 2
              have e3 := hbE.cell 3
              have q0 := hbE.frozen 0
              have q1 := hbE.frozen 1
              have q2 := hbE.frozen 2
              have q3 := hbE.frozen 3
              simp only [List.getElem?_toArray, List.getElem?_cons_zero, List.getElem?_cons_succ] at e0 e1 e2 e3
              go_upto_region 17 with fail
              obtain ⟨w9, hw9⟩ : ∃ W, W = (((w8.setCell ⟨gE, 0, none⟩ (.bool a)).setCell ⟨gE, 1, none⟩ (.bool b)).setCell ⟨gE, 2, none⟩ (.bool c1)).setCell ⟨gE, 3, none⟩ (.bool d1) := ⟨_, rfl⟩
              have hM9 : Later w7 w9 := by rw [hw9]; exact later_set (later_set (later_set (later_set hW _ hgE _) _ hgE _) _ hgE _) _ hgE _
              have hb9 : Blk w9 gE 70 #[.bool a, .bool b, .bool c1, .bool d1] := by rw [hw9]; exact (((hbE.set_ 0 _).set_ 1 _).set_ 2 _).set_ 3 _
              rw [← hw9]
              have hL9 := Later.trans hL (Later.trans hM7 hM9)
              have hz0 := fun W (hW : Later w9 W) => (hb9.later hW).cell 0
              have hz1 := fun W (hW : Later w9 W) => (hb9.later hW).cell 1
              have hz2 := fun W (hW : Later w9 W) => (hb9.later hW).cell 2
              have hz3 := fun W (hW : Later w9 W) => (hb9.later hW).cell 3
              simp only [List.getElem?_toArray, List.getElem?_cons_zero, List.getElem?_cons_succ] at hz0 hz1 hz2 hz3
              clear hw9 e0 e1 e2 e3 q0 q1 q2 q3 hbE hb9 d7 e7 f1 f2 f3 f4 hM8 hL8 hW hM9 ha hb hc1 hd1
              go_wp2_with fail
              go_loopw [15, 19] (fun m i W => MetAt i m p0 p1 p2 p3 a b c1 d1 ∧ Later w9 W) (fun _ i _ => 4 - (intOf i).toNat)
              case atStart => exact ⟨.inl ⟨rfl, rfl⟩, later_refl _⟩
              case round =>
                obtain ⟨hmet, hLi⟩ := hrel
                obtain ⟨W, rfl⟩ : ∃ q : World, q = wr := ⟨wr, rfl⟩
                rcases hmet with ⟨rfl, rfl⟩ | ⟨rfl, rfl⟩ | ⟨rfl, rfl⟩ | ⟨rfl, rfl⟩ | ⟨rfl, rfl⟩
                · cases a
                  · have hz := hz0 W hLi
                    go_wp2_with fail
                    go_roundw
                    case rel => exact ⟨.inr (.inl ⟨rfl, by rw [Bool.or_false]⟩), hLi⟩
                    case measure => simp [intOf]
                  · have hz := hz0 W hLi
                    go_wp2_with fail
                    go_roundw
                    case rel => exact ⟨.inr (.inl ⟨rfl, by rw [(met_or _ _ _ _).1, Bool.or_true]⟩), hLi⟩
                    case measure => simp [intOf]
                · cases b
                  · have hz := hz1 W hLi
                    go_wp2_with fail
                    go_roundw
                    case rel => exact ⟨.inr (.inr (.inl ⟨rfl, by rw [Bool.or_false]⟩)), hLi⟩
                    case measure => simp [intOf]
                  · have hz := hz1 W hLi
                    go_wp2_with fail
                    go_roundw
                    case rel => exact ⟨.inr (.inr (.inl ⟨rfl, by rw [(met_or _ _ _ _).2.1, Bool.or_true]⟩)), hLi⟩
                    case measure => simp [intOf]
                · cases c1
                  · have hz := hz2 W hLi
                    go_wp2_with fail
                    go_roundw
                    case rel => exact ⟨.inr (.inr (.inr (.inl ⟨rfl, by rw [Bool.or_false]⟩))), hLi⟩
                    case measure => simp [intOf]
                  · have hz := hz2 W hLi
                    go_wp2_with fail
                    go_roundw
                    case rel => exact ⟨.inr (.inr (.inr (.inl ⟨rfl, by rw [(met_or _ _ _ _).2.2.1, Bool.or_true]⟩))), hLi⟩
                    case measure => simp [intOf]
                · cases d1
                  · have hz := hz3 W hLi
                    go_wp2_with fail
                    go_roundw
                    case rel => exact ⟨.inr (.inr (.inr (.inr ⟨rfl, by rw [Bool.or_false]⟩))), hLi⟩
                    case measure => simp [intOf]
                  · have hz := hz3 W hLi
                    go_wp2_with fail
                    go_roundw
                    case rel => exact ⟨.inr (.inr (.inr (.inr ⟨rfl, by rw [(met_or _ _ _ _).2.2.2, Bool.or_true]⟩))), hLi⟩
                    case measure => simp [intOf]
                · go_wp2_with fail
                  go_roundw
                  case rel => exact ⟨j + 1, hlt, by go_num, by rw [U1.out, U2.out, U3.out, U4.out], Later.trans hL9 hLi⟩
                  case measure => simp [intOf]; omega
            · have hi1 : ¬ (j : Int) < ns := by omega
              have hmet : metV (hitTo (fun d => d.getD k 0) r1 (truths c) j) (hitTo (fun d => d.getD k 0) r2 (truths c) j) (hitTo (fun d => hoursR c d n) s1 (truths c) j) (hitTo (fun d => hoursR c d n) s2 (truths c) j) = 15 := by
                obtain ⟨h1, h2, h3, h4⟩ := Hen2.out
                have hle : (truths c).length ≤ j := by have := Hns.out; omega
                rw [hitTo_all hle h1, hitTo_all hle h2, hitTo_all hle h3, hitTo_all hle h4]; rfl
              rw [hmet]
              clear hlt hmet
              go_wp2_with fail
              refine (awake_calls _).mono ?_
              rintro e wa ⟨rfl, hLa⟩
              go_wp2_with fail
              go_ret
              exact ⟨rfl, Later.trans hL0 (Later.trans hL0r hLa)⟩
        · rw [he] at hcl hcp
          simp only [he] at hsu
          have Hcl := hide hcl
          have Hcp := hide hcp
          have Hsu := hide hsu
          clear hcl hcp hsu he htn
          go_enter Try.func9, Try.ntmps9
          go_wp2_with fail
          rw [← Hw0.out]; clear Hw0
          refine Hrdy.out.mono ?_
          rintro e w1 ⟨rfl, hL1⟩
          have hx1 := fun W (hW : Later w1 W) => hbxa W (Later.trans hL1 hW)
          have hx2 := fun W (hW : Later w1 W) => hbxb W (Later.trans hL1 hW)
          have hx3 := hx1 w1 (later_refl _)
          have hx4 := hx2 w1 (later_refl _)
          go_wp2_with fail
          refine wp_region_ext (w0 := w1) (by kernel_rfl) (by kernel_rfl) (later_refl _) ?_; (repeat (first | go_big_quiet_step ((fail)) | quiet_step ((fail)))); refine wpQuiet_nil ?_; rintro w2 ⟨⟨_, hM2⟩, rfl⟩; (try dsimp only)
          have hL2 := Later.trans hL1 hM2
          clear hx1 hx2 hx3 hx4
          go_wp2_with fail
          refine (lawHouse_calls (k1 := k1) (k2 := k2) (k3 := k3) w2 (hc0.later hL2) (by omega) (by omega) (by omega)).mono ?_
          rintro e wd ⟨B1d, j1d, B2d, j2d, B3d, j3d, rfl, hMd, hcd, hj1d, hj2d, hj3d⟩
          have hLd := Later.trans hL2 hMd
          go_wp2_with fail
          refine (Hcl.out _ _ _ _ _ _ wd hcd).mono ?_
          rintro e w3 ⟨Ac, nc, kc, rfl, hM3, _⟩
          have hL3 := Later.trans hLd hM3
          clear hcd hj1d hj2d hj3d hMd hLd hM3
          go_wp2_with fail
          refine (lawHouse_calls (k1 := k1) (k2 := k2) (k3 := k3) w3 (hc0.later hL3) (by omega) (by omega) (by omega)).mono ?_
          rintro e wd ⟨B1d, j1d, B2d, j2d, B3d, j3d, rfl, hMd, hcd, hj1d, hj2d, hj3d⟩
          have hLd := Later.trans hL3 hMd
          go_wp2_with fail
          refine (Hcp.out _ _ _ _ _ _ wd hcd).mono ?_
          rintro e w4 ⟨Ah, nh, kh, rfl, hM4, _⟩
          have hL4 := Later.trans hLd hM4
          clear hcd hj1d hj2d hj3d hMd hLd hM4
          go_wp2_with fail
          refine (Hsu.out w4 hL4).mono ?_
          rintro e w5 ⟨As, ns, ks, rfl, hM5, _⟩
          have hL5 := Later.trans hL4 hM5
          go_wp2_with fail
          refine (awake_calls _).mono ?_
          rintro e wa ⟨rfl, hLa⟩
          go_wp2_with fail
          go_ret
          exact ⟨rfl, Later.trans hL0 (Later.trans hL5 hLa)⟩
end Go.Proofs.Ytbkfnajpbhfneaa
