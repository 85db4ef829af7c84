/- The law TicketMore: walk. -/
import Derived.Test.YtbkfnajpbhfneaaPart14
import Derived.Test.YtbkfnajpbhfneaaPart13
import Derived.RegionTactic
set_option linter.unusedSimpArgs false
set_option linter.unusedVariables false
namespace Go.Proofs.Ytbkfnajpbhfneaa
open Go Go.RowKit
attribute [local go_sem] later_alloc2 later_alloc3 later_alloc4

/-- appG, bounded by the bytes alone -/
theorem appGL {P : Program} {ops : Array Oper} {rest : List Oper} {o : Oper} {a : Act} {Q : Exit → Act → World → Prop} {W : World} (hgd : o.guard = none) (base : Nat) (s x : Operand) (t : TypeId)
    (ho : o.op = .call { callee := .builtin .append, args := #[s, x], argTypes := #[t, t] }) (e : TypeId) (z : Value) (size bytes : Nat)
    (ht : P.underlying t = some (.slice e)) (hinfo : (P.info? e).map (fun i => (i.zero, i.size, i.bytes)) = some (some z, size, bytes)) (hzs : z.cells.size = size) (hsz : 0 < size)
    (v : Value) (n : Nat) (xs : List Value) (hs : a.eval s = v) (hb : base ≤ W.heap.size) (hown : W.ownsRow base e size v n xs)
    (ad : Addr) (m c : Nat) (news : List Value) (hx : a.eval x = .slice (some ad) m c) (hl : news.length = m * size) (hc : ∀ j u, news[j]? = some u → W.cell? (ad.add j) = some u) (h1 : ∀ u ∈ news, u.oneCell' = true)
    (hn : n + m ≤ maxLen) (hby : (n + m) * bytes ≤ 140737488355328)
    (h : ∀ v' w', AppG base W w' e size v v' n m xs news → wpList P ops Q rest (a.put o.dst v') w') :
    wpList P ops Q (o :: rest) a W := by
  refine wpList_plain hgd fun _ hK => ?_
  obtain ⟨i, hi, hz, h2, h3⟩ := info_parts hinfo
  obtain ⟨v', w', hr, k2, k3, _, k5⟩ := run_append_own_at (P := P) W base t o.type e i z size bytes ht hi hz h2 h3 hzs hsz v n xs hown ad m c news hl hc h1 hn hby hb
  unfold Oper.wp execOp
  simp only [ho, resolve, invoke, builtin, Sem.run_bind, Sem.run_pure, Result.andThen_ok, List.map_toArray, List.map_cons, List.map_nil, hs, hx, hr]
  exact hK _ _ (h v' w' ⟨k2, k3, k5⟩)
theorem bitsR_ten : ∀ b : Nat, b < 1024 → (bitList 10 b 0).length ≤ 10 := fun b _ => bitListLen 10 b 0
theorem leave_ten {c : Hou} (hf : fault c = 0) : (leaveOut c).length ≤ 10 := by
  obtain ⟨B, hB, e, _, _⟩ := leave_min hf
  have h5 := (okH_of_fault hf).n3
  rw [e, bitsR_fuel hB]
  exact Nat.le_trans (bitListLen _ _ _) h5

set_option maxRecDepth 100000 in
set_option maxHeartbeats 16000000 in
theorem lawMore_calls {A1 A2 A3 : Option Addr} {n1 k1 n2 k2 n3 k3 : Nat} {c : Hou} {l : Cp} (w : World) (hc : CV w c A1 n1 A2 n2 A3 n3) (b1 : n1 ≤ 9223372036854775807) (b2 : n2 ≤ 9223372036854775807) (hb24 : n3 * 24 ≤ 140737488351232) :
    Calls Try.prog 12 #[(.agg #[.int .i64 c.hour, .int .i64 c.grace, .slice A1 n1 k1, .slice A2 n2 k2, .slice A3 n3 k3]), .agg #[.int .i64 l.ticket, .int .i64 l.clock, .int .i64 l.minute]] w fun e w' => e = .returned (.bool true) ∧ Later w w' := by
  obtain ⟨w0, hw0⟩ : ∃ W, W = (w.alloc (.cells #[.int .i64 c.hour, .int .i64 c.grace, .slice A1 n1 k1, .slice A2 n2 k2, .slice A3 n3 k3] 26)).alloc (.cells #[.int .i64 l.ticket, .int .i64 l.clock, .int .i64 l.minute] 74) := ⟨_, rfl⟩
  have hLw : Later (w.alloc (.cells #[.int .i64 c.hour, .int .i64 c.grace, .slice A1 n1 k1, .slice A2 n2 k2, .slice A3 n3 k3] 26)) w0 := by rw [hw0]; exact later_alloc (later_refl _) _
  have hbox : ∀ W, Later w0 W → ∀ i, W.cell? ⟨w.heap.size, i, none⟩ = #[.int .i64 c.hour, .int .i64 c.grace, .slice A1 n1 k1, .slice A2 n2 k2, .slice A3 n3 k3][i]? := fun W hW => box_cells w #[.int .i64 c.hour, .int .i64 c.grace, .slice A1 n1 k1, .slice A2 n2 k2, .slice A3 n3 k3] 26 W (Later.trans hLw hW)
  have hbxl : ∀ W, Later w0 W → ∀ i, W.cell? ⟨w.heap.size + 1, i, none⟩ = #[Value.int .i64 l.ticket, .int .i64 l.clock, .int .i64 l.minute][i]? := fun W hW i => by
    have := box_cells (w.alloc (.cells #[.int .i64 c.hour, .int .i64 c.grace, .slice A1 n1 k1, .slice A2 n2 k2, .slice A3 n3 k3] 26)) #[Value.int .i64 l.ticket, .int .i64 l.clock, .int .i64 l.minute] 74 W (by rw [← hw0]; exact hW) i
    rw [World.size_alloc] at this
    exact this
  have hL0 : Later w w0 := Later.trans (later_alloc (later_refl _) _) hLw
  have hc0 := hc.later hL0
  have hn3l := hc.cp.len
  have hl3 : (clipsV c.clips).length = n3 * 3 := by rw [clipsV_length, ← hn3l]
  obtain ⟨w9, hw9⟩ : ∃ W, W = w0.alloc (.cells #[.int .i64 c.hour, .int .i64 c.grace, .slice A1 n1 k1, .slice A2 n2 k2, .slice A3 n3 k3] 26) := ⟨_, rfl⟩
  obtain ⟨g9, hg9⟩ : ∃ g, g = w0.heap.size := ⟨_, rfl⟩
  have hb9 : Blk w9 g9 26 #[.int .i64 c.hour, .int .i64 c.grace, .slice A1 n1 k1, .slice A2 n2 k2, .slice A3 n3 k3] := by rw [hw9, hg9]; exact Blk.new _ _ _
  have hL9 : Later w0 w9 := by rw [hw9]; exact later_alloc (later_refl _) _
  have hg9s : g9 < w9.heap.size := hb9.lt
  have hlo9 : w0.heap.size ≤ g9 := Nat.le_of_eq hg9.symm
  have hb9w := fun W (hW : Later w9 W) => hbox W (Later.trans hL9 hW)
  have hb9l := fun W (hW : Later w9 W) => hbxl W (Later.trans hL9 hW)
  have Hw0 := hide hw0
  have Hw9 := hide hw9
  have Hg9 := hide hg9
  have Hl3 := hide hl3
  clear hw0 hw9 hg9 hLw hn3l hl3 hbxl
  go_enter Try.func12, Try.ntmps12
  go_upto_region 1 with fail
  rw [← Hw0.out]; clear Hw0
  go_upto_region 2 with fail
  rw [← Hw9.out, ← Hg9.out]
  clear Hw9 Hg9
  have hS9 : Later w9 w9.drew := later_drew (later_refl _)
  refine wp_region_lin (w0 := w9) 6 [] rely_later (by kernel_rfl) (by kernel_rfl) (by kernel_rfl) (by kernel_rfl) (hS9) (.inl rfl) ?_
  simp only [List.take_succ_cons, List.take_zero, List.drop_succ_cons, List.drop_zero]
  refine lin_any (IsNil0 w9.heap.size 74) false (fun v W W' k h => IsNil0.later h k) (F' := ?_) (by rfl) (fun _ => by rfl) ?_ ?_ ?_
  rotate_left 1
  focus (intro xs X hX hdep; skip; clear hdep; intro K hK; (try dsimp only); go_simp; (exact hK.out _ _ rfl (later_alloc (later_refl _) _) ⟨_, rfl, Blk.new _ _ _, hX.size⟩ (fun h => by cases h)))
  focus (intro xs; (try simp only [Act.put, List.setIfInBounds_toArray, List.set_cons_zero, List.set_cons_succ, Nat.reduceAdd]); rfl)
  refine lin_det (v := ?_) (F' := ?_) (by rfl) (fun _ => by rfl) ?_ ?_ ?_
  rotate_left 2
  focus (intro xs X hX hdep; clear hdep; (try dsimp only); go_simp; (try (first | with_reducible rfl | exact ⟨rfl, rfl⟩ | (fail))))
  focus (intro xs; (try simp only [Act.put, List.setIfInBounds_toArray, List.set_cons_zero, List.set_cons_succ, Nat.reduceAdd]); rfl)
  refine lin_det (v := ?_) (F' := ?_) (by rfl) (fun _ => by rfl) ?_ ?_ ?_
  rotate_left 2
  focus (intro xs X hX hdep; clear hdep; (try dsimp only); go_simp; (try (first | with_reducible rfl | exact ⟨rfl, rfl⟩ | (fail))))
  focus (intro xs; (try simp only [Act.put, List.setIfInBounds_toArray, List.set_cons_zero, List.set_cons_succ, Nat.reduceAdd]); rfl)
  refine lin_any (IsRow w9.heap.size 74 3 n3 (clipsV c.clips)) false (fun v W W' k h => IsRow.later h k) (F' := ?_) (by rfl) (fun _ => by rfl) ?_ ?_ ?_
  rotate_left 1
  focus (intro xs X hX hdep; obtain ⟨g, e0, hbk, hbg⟩ := (show IsNil0 _ _ _ _ from hdep 0 1 (by kernel_rfl)); clear hdep; intro K hK; (try dsimp only); (refine app0_wp w9.heap.size _ _ 24 rfl rfl 74 (.agg #[.int .i64 0, .int .i64 0, .int .i64 0]) 3 24 Try.underlying24 rclip_info rfl (by omega) g (by exact e0) hbk hbg A3 n3 k3 (clipsV c.clips) rfl Hl3.out (reads_cells (hc0.later (Later.trans hL9 hX)).cp) (reads_none hc0.cp) (clips_one _) (by unfold maxLen; omega) (by omega) (fun v' w' hL hown => ?_); obtain ⟨A, k, rfl, _⟩ := own_slice (w0 := w9) hown; exact hK.out _ _ rfl hL ⟨A, k, rfl, hown⟩ (fun h => by cases h)))
  focus (intro xs; (try simp only [Act.put, List.setIfInBounds_toArray, List.set_cons_zero, List.set_cons_succ, Nat.reduceAdd]); rfl)
  refine lin_det (v := ?_) (F' := ?_) (by rfl) (fun _ => by rfl) ?_ ?_ ?_
  rotate_left 2
  focus (intro xs X hX hdep; clear hdep; (try dsimp only); go_simp; (try (first | with_reducible rfl | exact ⟨rfl, rfl⟩ | (fail))))
  focus (intro xs; (try simp only [Act.put, List.setIfInBounds_toArray, List.set_cons_zero, List.set_cons_succ, Nat.reduceAdd]); rfl)
  refine lin_any (IsNew 74 [.int .i64 l.ticket, .int .i64 l.clock, .int .i64 l.minute]) false (fun v W W' k h => IsNew.later h k) (F' := ?_) (by rfl) (fun _ => by rfl) ?_ ?_ ?_
  rotate_left 1
  focus (intro xs X hX hdep; skip; clear hdep; intro K hK; (try dsimp only); go_simp; (exact hK.out _ _ rfl (later_alloc (later_refl _) _) ⟨_, rfl, Blk.new _ _ _⟩ (fun h => by cases h)))
  focus (intro xs; (try simp only [Act.put, List.setIfInBounds_toArray, List.set_cons_zero, List.set_cons_succ, Nat.reduceAdd]); rfl)
  intro xs w10 hW hf hfr hfb
  obtain ⟨Ar, kr, hx3, hor⟩ := (show IsRow _ _ _ _ _ _ _ from hf 3)
  obtain ⟨gn, hx5, hbn⟩ := (show IsNew _ _ _ _ from hf 5)
  simp only [hx3, hx5, Nat.reduceAdd, Nat.zero_add]
  clear hf hfr hfb hx3 hx5
  have hL10 := Later.trans hL9 hW
  have hb10 := hb9.later hW
  have hsz10 := hW.size
  clear hb9
  go_wp2_with (at_builtin; refine appGL rfl w9.heap.size _ _ 24 rfl 74 (.agg #[.int .i64 0, .int .i64 0, .int .i64 0]) 3 24 Try.underlying24 rclip_info rfl (by omega) _ n3 (clipsV c.clips) rfl hsz10 hor ⟨gn, 0, none⟩ 1 1 [.int .i64 l.ticket, .int .i64 l.clock, .int .i64 l.minute] rfl rfl hbn.one (by simp [Value.oneCell']) (by unfold maxLen; omega) (by omega) ?_)
  intro v' w11 hap
  obtain ⟨Ax, kx, rfl, _⟩ := own_slice (w0 := w9) hap.own
  have hown := hap.own
  have hM11 := hap.later (w := w9) hW hor
  have hL11 := Later.trans hL9 hM11
  have hb11 : Blk w11 g9 26 #[.int .i64 c.hour, .int .i64 c.grace, .slice A1 n1 k1, .slice A2 n2 k2, .slice A3 n3 k3] := Blk.of_eq (hap.grown.block g9 hb10.lt (fun e => by have := (hor.lt g9 e.symm).1; omega)) hb10
  have hk4 := hb11.cell 4
  have hkf := hb11.frozen 4
  simp only [List.getElem?_toArray, List.getElem?_cons_zero, List.getElem?_cons_succ] at hk4
  clear hap hor hbn hb10 hW
  go_upto_region 3 with fail
  obtain ⟨w12, hw12⟩ : ∃ W, W = w11.setCell ⟨g9, 4, none⟩ (.slice Ax (n3 + 1) kx) := ⟨_, rfl⟩
  have hb12 : Blk w12 g9 26 #[.int .i64 c.hour, .int .i64 c.grace, .slice A1 n1 k1, .slice A2 n2 k2, .slice Ax (n3 + 1) kx] := by rw [hw12]; exact hb11.set_ 4 _
  have hL12 : Later w0 w12 := by rw [hw12]; exact later_set hL11 _ hlo9 _
  have hox : w12.ownsRow w9.heap.size 74 3 (.slice Ax (n3 + 1) kx) (n3 + 1) (clipsV c.clips ++ [.int .i64 l.ticket, .int .i64 l.clock, .int .i64 l.minute]) := by
    rw [hw12]
    exact own_block hown fun g hg => Below.heap_setCell w11 _ _ g (by have := (hown.lt g hg).1; show g ≠ g9; omega)
  have hcx : CV w12 (moreH c l) A1 n1 A2 n2 Ax (n3 + 1) := ⟨(hc0.later hL12).ck, (hc0.later hL12).tk, by
    have := Reads.of_own hox
    rw [show clipsV c.clips ++ [.int .i64 l.ticket, .int .i64 l.clock, .int .i64 l.minute] = clipsV (c.clips ++ [l]) by rw [clipsV_snoc]; rfl] at this
    exact this⟩
  rw [← hw12]
  have hbx12 := fun W (hW : Later w12 W) => (hb12.later hW).cell
  have hy0 := fun W hW => hbx12 W hW 0
  have hy1 := fun W hW => hbx12 W hW 1
  have hy2 := fun W hW => hbx12 W hW 2
  have hy3 := fun W hW => hbx12 W hW 3
  have hy4 := fun W hW => hbx12 W hW 4
  simp only [List.getElem?_toArray, List.getElem?_cons_zero, List.getElem?_cons_succ] at hy0 hy1 hy2 hy3 hy4
  have hT12 : Later w12 w12 := later_refl _
  have hbx0 := fun W (hW : Later w12 W) => hbox W (Later.trans hL12 hW)
  have hrdy := ready_calls (k1 := k1) (k2 := k2) (k3 := k3) w12 (hc0.later hL12) b1 b2 (by omega)
  clear hw12 hb11 hb12 hk4 hkf hown hox hbx12 hM11 hL11 hb9w hb9l hS9 hbox Hl3
  cases hth : readyB c with
  | false =>
    rw [hth] at hrdy
    have Hrdy := hide hrdy
    clear hth hrdy
    go_wp2_with fail
    refine Hrdy.out.mono ?_
    rintro e w13 ⟨rfl, hM13⟩
    have hL13 := Later.trans hL12 hM13
    go_wp2_with fail
    refine (awake_calls _).mono ?_
    rintro e wa ⟨rfl, hLa⟩
    go_wp2_with fail
    go_ret
    exact ⟨rfl, Later.trans hL0 (Later.trans hL13 hLa)⟩
  | true =>
    rw [hth] at hrdy
    have hn1 := hc.ck.len
    have hn2 := hc.tk.len
    have hn3 := hc.cp.len
    have hf := (readyB_true hth).2
    have ok := okH_of_fault hf
    have hmy := many_le hf
    have l1 : n1 ≤ 4 := by have := ok.n1; omega
    have l2 : n2 ≤ 6 := by have := ok.n2; omega
    have l3 : n3 ≤ 10 := by have := ok.n3; omega
    have Hrdy := hide hrdy
    have Hf := hide hf
    have Hn1 := hide hn1
    clear hth hrdy hn1 hn2 hn3 hf hmy
    obtain ⟨xc, hxc⟩ : ∃ q, moreH c l = q := ⟨_, rfl⟩
    have hlw : ∀ hx : fault xc = 0, (leaveOut c).length ≤ (leaveOut xc).length ∧ (leaveOut xc).length ≤ (leaveOut c).length + 1 ∧ (leaveOut xc = [] → Narrow c xc ∧ List.Sublist (truthsP xc) (truthsP c) ∧ 0 < c.clocks.length) := by rw [← hxc]; exact fun hx => more_law Hf.out hx
    have hxce : xc.hour = c.hour := by rw [← hxc]; rfl
    have hy0x : ∀ W, Later w12 W → W.cell? ⟨g9, 0, none⟩ = some (.int .i64 xc.hour) := by rw [hxce]; exact hy0
    have hxcg : xc.grace = c.grace := by rw [← hxc]; rfl
    have hy1x : ∀ W, Later w12 W → W.cell? ⟨g9, 1, none⟩ = some (.int .i64 xc.grace) := by rw [hxcg]; exact hy1
    rw [hxc] at hcx
    have hrdx := fun (W : World) (hW : Later w12 W) => ready_calls (k1 := k1) (k2 := k2) (k3 := kx) W (hcx.later hW) b1 b2 (by omega)
    have Hlw := hide hlw
    clear hxc hxce hxcg hy0 hy1 hlw
    go_wp2_with fail
    refine Hrdy.out.mono ?_
    rintro e w13 ⟨rfl, hM13⟩
    have hL13 := Later.trans hL12 hM13
    cases hth2 : readyB xc with
    | false =>
      rw [hth2] at hrdx
      have Hrdx := hide hrdx
      clear hrdx hth2
      go_wp2_with fail
      refine (Hrdx.out w13 hM13).mono ?_
      rintro e w14 ⟨rfl, hM14⟩
      have hL14 := Later.trans hL13 hM14
      go_wp2_with fail
      refine (awake_calls _).mono ?_
      rintro e wa ⟨rfl, hLa⟩
      go_wp2_with fail
      go_ret
      exact ⟨rfl, Later.trans hL0 (Later.trans hL14 hLa)⟩
    | true =>
      rw [hth2] at hrdx
      have hfx := (readyB_true hth2).2
      have Hrdx := hide hrdx
      have Hfx := hide hfx
      clear hrdx hth2
      obtain ⟨hlv, hlv2, hnar⟩ := Hlw.out hfx
      have hten := leave_ten Hf.out
      have hlc := fun (B1 B2 B3 : Option Addr) (j1 j2 j3 : Nat) (W : World) (h : CV W c B1 n1 B2 n2 B3 n3) => LeaveP_calls (k1 := j1) (k2 := j2) (k3 := j3) W h (by omega) (by omega) (by omega)
      have hlx := fun (B1 B2 B3 : Option Addr) (j1 j2 j3 : Nat) (W : World) (h : CV W xc B1 n1 B2 n2 B3 (n3 + 1)) => LeaveP_calls (k1 := j1) (k2 := j2) (k3 := j3) W h (by omega) (by omega) (by omega)
      unfold LeavePost at hlc hlx
      rw [Hf.out] at hlc
      rw [hfx] at hlx
      have Hlc := hide hlc
      have Hlx := hide hlx
      have Hlv := hide hlv
      have Hlv2 := hide hlv2
      have Hnar := hide hnar
      have Hten := hide hten
      clear hfx hlc hlx hlv hlv2 hnar hten
      go_wp2_with fail
      refine (Hrdx.out w13 hM13).mono ?_
      rintro e w14 ⟨rfl, hM14⟩
      have hK14 := Later.trans hM13 hM14
      have hL14 := Later.trans hL12 hK14
      go_wp2_with fail
      refine (lawHouse_calls (k1 := k1) (k2 := k2) (k3 := k3) w14 (hc0.later hL14) (by omega) (by omega) (by omega)).mono ?_
      rintro e wa ⟨B1a, j1a, B2a, j2a, B3a, j3a, rfl, hMa, hca, hj1a, hj2a, hj3a⟩
      have hLa := Later.trans hL14 hMa
      go_wp2_with fail
      refine (Hlc.out _ _ _ _ _ _ wa hca).mono ?_
      rintro e w15 ⟨Al, nl, kl, rfl, hM15, hrl, _⟩
      have hK15 := Later.trans hK14 (Later.trans hMa hM15)
      have hL15 := Later.trans hL12 hK15
      clear hca hj1a hj2a hj3a hMa hLa hM14 hM13
      go_wp2_with fail
      refine (lawHouse_calls (k1 := k1) (k2 := k2) (k3 := kx) w15 (hcx.later hK15) (by omega) (by omega) (by omega)).mono ?_
      rintro e wa ⟨B1a, j1a, B2a, j2a, B3a, j3a, rfl, hMa, hca, hj1a, hj2a, hj3a⟩
      have hLa := Later.trans hL15 hMa
      go_wp2_with fail
      refine (Hlx.out _ _ _ _ _ _ wa hca).mono ?_
      rintro e w16 ⟨Am, nm, km, rfl, hM16, hrm, _⟩
      have hK16 := Later.trans hK15 (Later.trans hMa hM16)
      have hL16 := Later.trans hL12 hK16
      have hnl := hrl.len
      have hnm := hrm.len
      have hnm1 : ¬ (nm : Int) < (nl : Int) := by have := Hlv.out; omega
      have hnm2 : ¬ (nl : Int) + 1 < (nm : Int) := by have := Hlv2.out; omega
      have hnm3 : IntKind.i64.wrap ((nl : Int) + 1) = (nl : Int) + 1 := IntWalk.i64_in _ (by have := Hten.out; omega)
      have Hnm := hide hnm
      clear hca hj1a hj2a hj3a hMa hLa hM15 hM16 hnm hrm hrl hnl
      by_cases hl0 : nm = 0
      · subst hl0
        have hl1 : ¬ (0 : Int) < ((0 : Nat) : Int) := by omega
        have hln : leaveOut xc = [] := List.eq_nil_of_length_eq_zero Hnm.out.symm
        obtain ⟨hN, hsb, hck⟩ := Hnar.out hln
        obtain ⟨e1, e2, hlk⟩ := hN.look hsb hck
        obtain ⟨lc1, lc2, hord⟩ := hN.clocks
        have ecc := hN.ec
        have ecx := hN.ex
        have hcc := fun (B1 B2 B3 : Option Addr) (j1 j2 j3 : Nat) (W : World) (h : CV W c B1 n1 B2 n2 B3 n3) => ClocksP_calls (k1 := j1) (k2 := j2) (k3 := j3) W h (by omega) (by omega) (by omega)
        have hcxx := fun (B1 B2 B3 : Option Addr) (j1 j2 j3 : Nat) (W : World) (h : CV W xc B1 n1 B2 n2 B3 (n3 + 1)) => ClocksP_calls (k1 := j1) (k2 := j2) (k3 := j3) W h (by omega) (by omega) (by omega)
        have hpc := fun (B1 B2 B3 : Option Addr) (j1 j2 j3 : Nat) (W : World) (h : CV W c B1 n1 B2 n2 B3 n3) => LookP_calls (k1 := j1) (k2 := j2) (k3 := j3) W h (by omega) (by omega) (by omega)
        have hpx := fun (B1 B2 B3 : Option Addr) (j1 j2 j3 : Nat) (W : World) (h : CV W xc B1 n1 B2 n2 B3 (n3 + 1)) => LookP_calls (k1 := j1) (k2 := j2) (k3 := j3) W h (by omega) (by omega) (by omega)
        unfold PairsPost at hcc hcxx
        rw [ecc] at hcc
        rw [ecx] at hcxx
        rw [e1] at hpc
        rw [e2] at hpx
        obtain ⟨u, hu⟩ : ∃ q, (lookOut c).2 = q := ⟨_, rfl⟩
        obtain ⟨v, hv⟩ : ∃ q, (lookOut xc).2 = q := ⟨_, rfl⟩
        rw [hu] at hpc hlk
        rw [hv] at hpx hlk
        have Hcc := hide hcc
        have Hcx := hide hcxx
        have Hpc := hide hpc
        have Hpx := hide hpx
        have Hord := hide hord
        have Hlc1 := hide lc1
        have Hlc2 := hide lc2
        clear hln hN hsb hck e1 e2 hord lc1 lc2 ecc ecx hcc hcxx hpc hpx hu hv
        go_wp2_with fail
        refine (lawHouse_calls (k1 := k1) (k2 := k2) (k3 := k3) w16 (hc0.later hL16) (by omega) (by omega) (by omega)).mono ?_
        rintro e wa ⟨B1a, j1a, B2a, j2a, B3a, j3a, rfl, hMa, hca, hj1a, hj2a, hj3a⟩
        have hLa := Later.trans hL16 hMa
        go_wp2_with fail
        refine (Hcc.out _ _ _ _ _ _ wa hca).mono ?_
        rintro e w17 ⟨Ac, nc, kc, rfl, hM17, hrc⟩
        have hQ17 := Later.trans hMa hM17
        have hK17 := Later.trans hK16 hQ17
        have hL17 := Later.trans hL12 hK17
        clear hca hj1a hj2a hj3a hMa hLa hM17
        go_wp2_with fail
        refine (lawHouse_calls (k1 := k1) (k2 := k2) (k3 := kx) w17 (hcx.later hK17) (by omega) (by omega) (by omega)).mono ?_
        rintro e wa ⟨B1a, j1a, B2a, j2a, B3a, j3a, rfl, hMa, hca, hj1a, hj2a, hj3a⟩
        have hLa := Later.trans hL17 hMa
        go_wp2_with fail
        refine (Hcx.out _ _ _ _ _ _ wa hca).mono ?_
        rintro e w18 ⟨Ad, nd, kd, rfl, hM18, hrd⟩
        have hQ18 := Later.trans hMa hM18
        have hK18 := Later.trans hK17 hQ18
        have hL18 := Later.trans hL12 hK18
        clear hca hj1a hj2a hj3a hMa hLa hM18
        go_wp2_with fail
        refine (lawHouse_calls (k1 := k1) (k2 := k2) (k3 := k3) w18 (hc0.later hL18) (by omega) (by omega) (by omega)).mono ?_
        rintro e wa ⟨B1a, j1a, B2a, j2a, B3a, j3a, rfl, hMa, hca, hj1a, hj2a, hj3a⟩
        have hLa := Later.trans hL18 hMa
        go_wp2_with fail
        refine (Hpc.out _ _ _ _ _ _ wa hca).mono ?_
        rintro e w19 ⟨rfl, hM19⟩
        have hQ19 := Later.trans hMa hM19
        have hK19 := Later.trans hK18 hQ19
        have hL19 := Later.trans hL12 hK19
        clear hca hj1a hj2a hj3a hMa hLa hM19
        go_wp2_with fail
        refine (lawHouse_calls (k1 := k1) (k2 := k2) (k3 := kx) w19 (hcx.later hK19) (by omega) (by omega) (by omega)).mono ?_
        rintro e wa ⟨B1a, j1a, B2a, j2a, B3a, j3a, rfl, hMa, hca, hj1a, hj2a, hj3a⟩
        have hLa := Later.trans hL19 hMa
        go_wp2_with fail
        refine (Hpx.out _ _ _ _ _ _ wa hca).mono ?_
        rintro e w20 ⟨rfl, hM20⟩
        have hQ20 := Later.trans hMa hM20
        have hK20 := Later.trans hK19 hQ20
        have hL20 := Later.trans hL12 hK20
        have hQ1820 := Later.trans hQ19 hQ20
        have hnc := hrc.len
        have hnd := hrd.len
        rw [Hlc1.out, ← Hn1.out] at hnc
        rw [Hlc2.out, ← Hn1.out] at hnd
        subst nc nd
        have hin := inside_calls (k := kd) (j := kc) w20 (hrd.later hQ1820) (hrc.later (Later.trans hQ18 hQ1820)) (by omega) (fun i a b ha hb => Hord.out i a b ha hb)
        have Hin := hide hin
        clear hca hj1a hj2a hj3a hMa hLa hM20 hrc hrd hin
        go_wp2_with fail
        refine (Hin.out).mono ?_
        rintro e w21 ⟨rfl, hM21⟩
        have hL21 := Later.trans hL20 hM21
        go_wp2_with fail
        refine (awake_calls _).mono ?_
        rintro e wa ⟨rfl, hLa⟩
        go_wp2_with fail
        go_ret
        exact ⟨rfl, Later.trans hL0 (Later.trans hL21 hLa)⟩
      · have hl1 : (0 : Int) < (nm : Int) := by omega
        clear hl0
        go_wp2_with fail
        refine (awake_calls _).mono ?_
        rintro e wa ⟨rfl, hLa⟩
        go_wp2_with fail
        go_ret
        exact ⟨rfl, Later.trans hL0 (Later.trans hL16 hLa)⟩
end Go.Proofs.Ytbkfnajpbhfneaa
