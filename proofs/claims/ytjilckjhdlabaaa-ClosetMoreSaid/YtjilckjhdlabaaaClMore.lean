/- ClosetMore: the walk. -/
import Derived.Test.YtjilckjhdlabaaaPart23
import Derived.Test.YtjilckjhdlabaaaPart20
import Derived.Test.YtjilckjhdlabaaaPart21
import Derived.Test.YtjilckjhdlabaaaPart12
import Derived.RegionTactic
set_option linter.unusedSimpArgs false
set_option linter.unusedVariables false
namespace Go.Proofs.Ytjilckjhdlabaaa
open Go Go.RowKit
attribute [local go_sem] later_alloc2 later_alloc3 later_alloc4

/-- appG, bounded by the bytes alone -/
theorem appGL {P : Program} {ops : Array Oper} {rest : List Oper} {o : Oper} {a : Act} {Q : Exit → Act → World → Prop} {W : World} (hgd : o.guard = none) (base : Nat) (s x : Operand) (t : TypeId)
    (ho : o.op = .call { callee := .builtin .append, args := #[s, x], argTypes := #[t, t] }) (e : TypeId) (z : Value) (size bytes : Nat)
    (ht : P.underlying t = some (.slice e)) (hinfo : (P.info? e).map (fun i => (i.zero, i.size, i.bytes)) = some (some z, size, bytes)) (hzs : z.cells.size = size) (hsz : 0 < size)
    (v : Value) (n : Nat) (xs : List Value) (hs : a.eval s = v) (hb : base ≤ W.heap.size) (hown : W.ownsRow base e size v n xs)
    (ad : Addr) (m c : Nat) (news : List Value) (hx : a.eval x = .slice (some ad) m c) (hl : news.length = m * size) (hc : ∀ j u, news[j]? = some u → W.cell? (ad.add j) = some u) (h1 : ∀ u ∈ news, u.oneCell' = true)
    (hn : n + m ≤ maxLen) (hby : (n + m) * bytes ≤ 140737488355328)
    (h : ∀ v' w', AppG base W w' e size v v' n m xs news → wpList P ops Q rest (a.put o.dst v') w') :
    wpList P ops Q (o :: rest) a W := by
  refine wpList_plain hgd fun _ hK => ?_
  obtain ⟨i, hi, hz, h2, h3⟩ := info_parts hinfo
  obtain ⟨v', w', hr, k2, k3, _, k5⟩ := run_append_own_at (P := P) W base t o.type e i z size bytes ht hi hz h2 h3 hzs hsz v n xs hown ad m c news hl hc h1 hn hby hb
  unfold Oper.wp execOp
  simp only [ho, resolve, invoke, builtin, Sem.run_bind, Sem.run_pure, Result.andThen_ok, List.map_toArray, List.map_cons, List.map_nil, hs, hx, hr]
  exact hK _ _ (h v' w' ⟨k2, k3, k5⟩)
theorem bitsR_five : ∀ b : Nat, b < 32 → (bitsR b).length ≤ 5 := by decide +kernel
theorem leave_five {c : Clo} (hf : fault c = 0) : (leaveOut c).length ≤ 5 := by
  obtain ⟨B, hB, e, _, _⟩ := leave_min hf
  rw [e]
  refine bitsR_five B ?_
  have h5 : c.looks.length ≤ 5 := (okC_of_fault hf).nlooks
  exact Nat.lt_of_lt_of_le hB (Nat.pow_le_pow_right (by omega) h5)

set_option maxRecDepth 100000 in
set_option maxHeartbeats 16000000 in
theorem lawMore_calls {A1 A2 A3 : Option Addr} {n1 k1 n2 k2 n3 k3 : Nat} {c : Clo} {l : Look} {Aw : Option Addr} {nw kw : Nat} {ws : List Nat} {x y : Nat} (w : World) (hc : CV w c A1 n1 A2 n2 A3 n3) (hcl : i64 c.closets) (b1 : n1 ≤ 9223372036854775807) (b2 : n2 ≤ 9223372036854775807) (hb24 : n3 * 24 ≤ 140737488351232)
    (hw : RW w Aw nw ws) (hnw : nw ≤ 9223372036854775807) (hx : x < 256) (hy : y < 256) :
    Calls Try.prog 17 #[(.agg #[.int .i64 c.closets, .int .i64 c.close, .slice A1 n1 k1, .slice A2 n2 k2, .slice A3 n3 k3]), .agg #[.int .i64 l.horse, .int .i64 l.minute, .bool l.dry], .slice Aw nw kw, .int .u8 x, .int .u8 y] w fun e w' => e = .returned (.bool true) ∧ Later w w' := by
  obtain ⟨w0, hw0⟩ : ∃ W, W = (w.alloc (.cells #[.int .i64 c.closets, .int .i64 c.close, .slice A1 n1 k1, .slice A2 n2 k2, .slice A3 n3 k3] 26)).alloc (.cells #[.int .i64 l.horse, .int .i64 l.minute, .bool l.dry] 84) := ⟨_, rfl⟩
  have hLw : Later (w.alloc (.cells #[.int .i64 c.closets, .int .i64 c.close, .slice A1 n1 k1, .slice A2 n2 k2, .slice A3 n3 k3] 26)) w0 := by rw [hw0]; exact later_alloc (later_refl _) _
  have hbox : ∀ W, Later w0 W → ∀ i, W.cell? ⟨w.heap.size, i, none⟩ = #[.int .i64 c.closets, .int .i64 c.close, .slice A1 n1 k1, .slice A2 n2 k2, .slice A3 n3 k3][i]? := fun W hW => box_cells w #[.int .i64 c.closets, .int .i64 c.close, .slice A1 n1 k1, .slice A2 n2 k2, .slice A3 n3 k3] 26 W (Later.trans hLw hW)
  have hbxl : ∀ W, Later w0 W → ∀ i, W.cell? ⟨w.heap.size + 1, i, none⟩ = #[Value.int .i64 l.horse, .int .i64 l.minute, .bool l.dry][i]? := fun W hW i => by
    have := box_cells (w.alloc (.cells #[.int .i64 c.closets, .int .i64 c.close, .slice A1 n1 k1, .slice A2 n2 k2, .slice A3 n3 k3] 26)) #[Value.int .i64 l.horse, .int .i64 l.minute, .bool l.dry] 84 W (by rw [← hw0]; exact hW) i
    rw [World.size_alloc] at this
    exact this
  have hL0 : Later w w0 := Later.trans (later_alloc (later_refl _) _) hLw
  have hc0 := hc.later hL0
  have hw0' := hw.later hL0
  have hn3l := hc.lk.len
  have hl3 : (looksV c.looks).length = n3 * 3 := by rw [looksV_length, ← hn3l]
  obtain ⟨w9, hw9⟩ : ∃ W, W = w0.alloc (.cells #[.int .i64 c.closets, .int .i64 c.close, .slice A1 n1 k1, .slice A2 n2 k2, .slice A3 n3 k3] 26) := ⟨_, rfl⟩
  obtain ⟨g9, hg9⟩ : ∃ g, g = w0.heap.size := ⟨_, rfl⟩
  have hb9 : Blk w9 g9 26 #[.int .i64 c.closets, .int .i64 c.close, .slice A1 n1 k1, .slice A2 n2 k2, .slice A3 n3 k3] := by rw [hw9, hg9]; exact Blk.new _ _ _
  have hL9 : Later w0 w9 := by rw [hw9]; exact later_alloc (later_refl _) _
  have hg9s : g9 < w9.heap.size := hb9.lt
  have hlo9 : w0.heap.size ≤ g9 := Nat.le_of_eq hg9.symm
  have hb9w := fun W (hW : Later w9 W) => hbox W (Later.trans hL9 hW)
  have hb9l := fun W (hW : Later w9 W) => hbxl W (Later.trans hL9 hW)
  have Hw0 := hide hw0
  have Hw9 := hide hw9
  have Hg9 := hide hg9
  have Hl3 := hide hl3
  clear hw0 hw9 hg9 hLw hn3l hl3 hbxl
  go_enter Try.func17, Try.ntmps17
  go_upto_region 1 with fail
  rw [← Hw0.out]; clear Hw0
  go_upto_region 2 with fail
  rw [← Hw9.out, ← Hg9.out]
  clear Hw9 Hg9
  have hS9 : Later w9 w9.drew := later_drew (later_refl _)
  refine wp_region_lin (w0 := w9) 6 [] rely_later (by kernel_rfl) (by kernel_rfl) (by kernel_rfl) (by kernel_rfl) (hS9) (.inl rfl) ?_
  simp only [List.take_succ_cons, List.take_zero, List.drop_succ_cons, List.drop_zero]
  refine lin_any (IsNil0 w9.heap.size 84) false (fun v W W' k h => IsNil0.later h k) (F' := ?_) (by rfl) (fun _ => by rfl) ?_ ?_ ?_
  rotate_left 1
  focus (intro xs X hX hdep; skip; clear hdep; intro K hK; (try dsimp only); go_simp; (exact hK.out _ _ rfl (later_alloc (later_refl _) _) ⟨_, rfl, Blk.new _ _ _, hX.size⟩ (fun h => by cases h)))
  focus (intro xs; (try simp only [Act.put, List.setIfInBounds_toArray, List.set_cons_zero, List.set_cons_succ, Nat.reduceAdd]); rfl)
  refine lin_det (v := ?_) (F' := ?_) (by rfl) (fun _ => by rfl) ?_ ?_ ?_
  rotate_left 2
  focus (intro xs X hX hdep; clear hdep; (try dsimp only); go_simp; (try (first | with_reducible rfl | exact ⟨rfl, rfl⟩ | (fail))))
  focus (intro xs; (try simp only [Act.put, List.setIfInBounds_toArray, List.set_cons_zero, List.set_cons_succ, Nat.reduceAdd]); rfl)
  refine lin_det (v := ?_) (F' := ?_) (by rfl) (fun _ => by rfl) ?_ ?_ ?_
  rotate_left 2
  focus (intro xs X hX hdep; clear hdep; (try dsimp only); go_simp; (try (first | with_reducible rfl | exact ⟨rfl, rfl⟩ | (fail))))
  focus (intro xs; (try simp only [Act.put, List.setIfInBounds_toArray, List.set_cons_zero, List.set_cons_succ, Nat.reduceAdd]); rfl)
  refine lin_any (IsRow w9.heap.size 84 3 n3 (looksV c.looks)) false (fun v W W' k h => IsRow.later h k) (F' := ?_) (by rfl) (fun _ => by rfl) ?_ ?_ ?_
  rotate_left 1
  focus (intro xs X hX hdep; obtain ⟨g, e0, hbk, hbg⟩ := (show IsNil0 _ _ _ _ from hdep 0 1 (by kernel_rfl)); clear hdep; intro K hK; (try dsimp only); (refine app0_wp w9.heap.size _ _ 24 rfl rfl 84 (.agg #[.int .i64 0, .int .i64 0, .bool false]) 3 24 Try.underlying24 rlook_info rfl (by omega) g (by exact e0) hbk hbg A3 n3 k3 (looksV c.looks) rfl Hl3.out (rl_cells (hc0.later (Later.trans hL9 hX)).lk) (rl_none hc0.lk) (rl_one _) (by unfold maxLen; omega) (by omega) (fun v' w' hL hown => ?_); obtain ⟨A, k, rfl, _⟩ := own_slice (w0 := w9) hown; exact hK.out _ _ rfl hL ⟨A, k, rfl, hown⟩ (fun h => by cases h)))
  focus (intro xs; (try simp only [Act.put, List.setIfInBounds_toArray, List.set_cons_zero, List.set_cons_succ, Nat.reduceAdd]); rfl)
  refine lin_det (v := ?_) (F' := ?_) (by rfl) (fun _ => by rfl) ?_ ?_ ?_
  rotate_left 2
  focus (intro xs X hX hdep; clear hdep; (try dsimp only); go_simp; (try (first | with_reducible rfl | exact ⟨rfl, rfl⟩ | (fail))))
  focus (intro xs; (try simp only [Act.put, List.setIfInBounds_toArray, List.set_cons_zero, List.set_cons_succ, Nat.reduceAdd]); rfl)
  refine lin_any (IsNew 84 [.int .i64 l.horse, .int .i64 l.minute, .bool l.dry]) false (fun v W W' k h => IsNew.later h k) (F' := ?_) (by rfl) (fun _ => by rfl) ?_ ?_ ?_
  rotate_left 1
  focus (intro xs X hX hdep; skip; clear hdep; intro K hK; (try dsimp only); go_simp; (exact hK.out _ _ rfl (later_alloc (later_refl _) _) ⟨_, rfl, Blk.new _ _ _⟩ (fun h => by cases h)))
  focus (intro xs; (try simp only [Act.put, List.setIfInBounds_toArray, List.set_cons_zero, List.set_cons_succ, Nat.reduceAdd]); rfl)
  intro xs w10 hW hf hfr hfb
  obtain ⟨Ar, kr, hx3, hor⟩ := (show IsRow _ _ _ _ _ _ _ from hf 3)
  obtain ⟨gn, hx5, hbn⟩ := (show IsNew _ _ _ _ from hf 5)
  simp only [hx3, hx5, Nat.reduceAdd, Nat.zero_add]
  clear hf hfr hfb hx3 hx5
  have hL10 := Later.trans hL9 hW
  have hb10 := hb9.later hW
  have hsz10 := hW.size
  clear hb9
  go_wp2_with (at_builtin; refine appGL rfl w9.heap.size _ _ 24 rfl 84 (.agg #[.int .i64 0, .int .i64 0, .bool false]) 3 24 Try.underlying24 rlook_info rfl (by omega) _ n3 (looksV c.looks) rfl hsz10 hor ⟨gn, 0, none⟩ 1 1 [.int .i64 l.horse, .int .i64 l.minute, .bool l.dry] rfl rfl hbn.one (by simp [Value.oneCell']) (by unfold maxLen; omega) (by omega) ?_)
  intro v' w11 hap
  obtain ⟨Ax, kx, rfl, _⟩ := own_slice (w0 := w9) hap.own
  have hown := hap.own
  have hM11 := hap.later (w := w9) hW hor
  have hL11 := Later.trans hL9 hM11
  have hb11 : Blk w11 g9 26 #[.int .i64 c.closets, .int .i64 c.close, .slice A1 n1 k1, .slice A2 n2 k2, .slice A3 n3 k3] := Blk.of_eq (hap.grown.block g9 hb10.lt (fun e => by have := (hor.lt g9 e.symm).1; omega)) hb10
  have hk4 := hb11.cell 4
  have hkf := hb11.frozen 4
  simp only [List.getElem?_toArray, List.getElem?_cons_zero, List.getElem?_cons_succ] at hk4
  clear hap hor hbn hb10 hW
  go_upto_region 3 with fail
  obtain ⟨w12, hw12⟩ : ∃ W, W = w11.setCell ⟨g9, 4, none⟩ (.slice Ax (n3 + 1) kx) := ⟨_, rfl⟩
  have hb12 : Blk w12 g9 26 #[.int .i64 c.closets, .int .i64 c.close, .slice A1 n1 k1, .slice A2 n2 k2, .slice Ax (n3 + 1) kx] := by rw [hw12]; exact hb11.set_ 4 _
  have hL12 : Later w0 w12 := by rw [hw12]; exact later_set hL11 _ hlo9 _
  have hox : w12.ownsRow w9.heap.size 84 3 (.slice Ax (n3 + 1) kx) (n3 + 1) (looksV c.looks ++ [.int .i64 l.horse, .int .i64 l.minute, .bool l.dry]) := by
    rw [hw12]
    exact own_block hown fun g hg => Below.heap_setCell w11 _ _ g (by have := (hown.lt g hg).1; show g ≠ g9; omega)
  have hcx : CV w12 (moreC c l) A1 n1 A2 n2 Ax (n3 + 1) := ⟨(hc0.later hL12).hs, (hc0.later hL12).hu, by
    have := Reads.of_own hox
    rw [show looksV c.looks ++ [.int .i64 l.horse, .int .i64 l.minute, .bool l.dry] = looksV (c.looks ++ [l]) by rw [looksV_snoc]; rfl] at this
    exact this⟩
  rw [← hw12]
  have hbx12 := fun W (hW : Later w12 W) => (hb12.later hW).cell
  have hy0 := fun W hW => hbx12 W hW 0
  have hy1 := fun W hW => hbx12 W hW 1
  have hy2 := fun W hW => hbx12 W hW 2
  have hy3 := fun W hW => hbx12 W hW 3
  have hy4 := fun W hW => hbx12 W hW 4
  simp only [List.getElem?_toArray, List.getElem?_cons_zero, List.getElem?_cons_succ] at hy0 hy1 hy2 hy3 hy4
  have hT12 : Later w12 w12 := later_refl _
  have hbx0 := fun W (hW : Later w12 W) => hbox W (Later.trans hL12 hW)
  have hrdy := ready_calls (k1 := k1) (k2 := k2) (k3 := k3) w12 (hc0.later hL12) hcl b1 b2 (by omega)
  clear hw12 hb11 hb12 hk4 hkf hown hox hbx12 hM11 hL11 hb9w hb9l hS9 hbox Hl3
  cases hth : readyB c with
  | false =>
    rw [hth] at hrdy
    have Hrdy := hide hrdy
    clear hth hrdy
    go_wp2_with fail
    refine Hrdy.out.mono ?_
    rintro e w13 ⟨rfl, hM13⟩
    have hL13 := Later.trans hL12 hM13
    go_wp2_with fail
    refine (awake_calls _).mono ?_
    rintro e wa ⟨rfl, hLa⟩
    go_wp2_with fail
    go_ret
    exact ⟨rfl, Later.trans hL0 (Later.trans hL13 hLa)⟩
  | true =>
    rw [hth] at hrdy
    have hn1 := hc.hs.len
    have hn2 := hc.hu.len
    have hn3 := hc.lk.len
    have hf := (readyB_true hth).2
    have ok := okC_of_fault hf
    have l1 : n1 ≤ 4 := by have := ok.len; omega
    have l2 : n2 ≤ 4 := by have := ok.len; have := ok.hung.len; omega
    have l3 : n3 ≤ 5 := by have := ok.nlooks; omega
    have Hn1 := hide hn1
    have Hn2 := hide hn2
    have Hn3 := hide hn3
    have Hf := hide hf
    have Hrdy := hide hrdy
    clear hth hrdy hn1 hn2 hn3 hf
    obtain ⟨xc, hxc⟩ : ∃ q, moreC c l = q := ⟨_, rfl⟩
    have hxcl : xc.closets = c.closets := by rw [← hxc]; rfl
    have hxh : xc.horses = c.horses := by rw [← hxc]; rfl
    have hlw : ∀ hx : fault xc = 0, (leaveOut c).length ≤ (leaveOut xc).length ∧ (leaveOut xc).length ≤ (leaveOut c).length + 1 ∧ (leaveOut xc = [] → Narrow c xc) := by rw [← hxc]; exact fun hx => more_law Hf.out hx
    have hxi : i64 xc.closets := by rw [hxcl]; exact hcl
    have hy0x : ∀ W, Later w12 W → W.cell? ⟨g9, 0, none⟩ = some (.int .i64 xc.closets) := by rw [hxcl]; exact hy0
    have hxce : xc.close = c.close := by rw [← hxc]; rfl
    have hy1x : ∀ W, Later w12 W → W.cell? ⟨g9, 1, none⟩ = some (.int .i64 xc.close) := by rw [hxce]; exact hy1
    rw [hxc] at hcx
    have hrdx := fun (W : World) (hW : Later w12 W) => ready_calls (k1 := k1) (k2 := k2) (k3 := kx) W (hcx.later hW) hxi b1 b2 (by omega)
    have Hlw := hide hlw
    have Hxh := hide hxh
    clear hxc hxcl hxh hxce hy0 hy1 hlw
    go_wp2_with fail
    refine Hrdy.out.mono ?_
    rintro e w13 ⟨rfl, hM13⟩
    have hL13 := Later.trans hL12 hM13
    cases hth2 : readyB xc with
    | false =>
      rw [hth2] at hrdx
      have Hrdx := hide hrdx
      clear hrdx hth2
      go_wp2_with fail
      refine (Hrdx.out w13 hM13).mono ?_
      rintro e w14 ⟨rfl, hM14⟩
      have hL14 := Later.trans hL13 hM14
      go_wp2_with fail
      refine (awake_calls _).mono ?_
      rintro e wa ⟨rfl, hLa⟩
      go_wp2_with fail
      go_ret
      exact ⟨rfl, Later.trans hL0 (Later.trans hL14 hLa)⟩
    | true =>
      rw [hth2] at hrdx
      have hfx := (readyB_true hth2).2
      have Hrdx := hide hrdx
      have Hfx := hide hfx
      clear hrdx hth2
      by_cases hn0 : n1 = 0
      · have hz : ((n1 : Int) == 0) = true := by simp [hn0]
        clear hn0 hfx
        go_wp2_with fail
        refine (Hrdx.out w13 hM13).mono ?_
        rintro e w14 ⟨rfl, hM14⟩
        have hK14 := Later.trans hM13 hM14
        have hL14 := Later.trans hL13 hM14
        go_wp2_with fail
        refine (awake_calls _).mono ?_
        rintro e wa ⟨rfl, hLa⟩
        go_wp2_with fail
        go_ret
        exact ⟨rfl, Later.trans hL0 (Later.trans hL14 hLa)⟩
      · have hz : ((n1 : Int) == 0) = false := by simp; omega
        obtain ⟨hlv, hlv2, hnar⟩ := Hlw.out hfx
        have hfive := leave_five Hf.out
        have hlc := fun (B1 B2 B3 : Option Addr) (j1 j2 j3 : Nat) (W : World) (h : CV W c B1 n1 B2 n2 B3 n3) (h2 : n2 ≤ j2) =>
          LeaveP_calls (k1 := j1) (k2 := j2) (k3 := j3) W h hcl (by omega) (by omega) (by omega) h2
        have hlx := fun (B1 B2 B3 : Option Addr) (j1 j2 j3 : Nat) (W : World) (h : CV W xc B1 n1 B2 n2 B3 (n3 + 1)) (h2 : n2 ≤ j2) =>
          LeaveP_calls (k1 := j1) (k2 := j2) (k3 := j3) W h hxi (by omega) (by omega) (by omega) h2
        unfold LeavePost at hlc hlx
        rw [Hf.out] at hlc
        rw [hfx] at hlx
        have Hlc := hide hlc
        have Hlx := hide hlx
        have Hlv := hide hlv
        have Hlv2 := hide hlv2
        have Hnar := hide hnar
        have Hfive := hide hfive
        have Hn0 := hide hn0
        clear hfx hlc hlx hlv hlv2 hnar hfive hn0
        go_wp2_with fail
        refine (Hrdx.out w13 hM13).mono ?_
        rintro e w14 ⟨rfl, hM14⟩
        have hK14 := Later.trans hM13 hM14
        have hL14 := Later.trans hL12 hK14
        go_wp2_with fail
        refine (lawCloset_calls (k1 := k1) (k2 := k2) (k3 := k3) w14 (hc0.later hL14) (by omega) (by omega) (by omega)).mono ?_
        rintro e wa ⟨B1a, j1a, B2a, j2a, B3a, j3a, rfl, hMa, hca, hj1a, hj2a, hj3a⟩
        have hLa := Later.trans hL14 hMa
        go_wp2_with fail
        refine (Hlc.out _ _ _ _ _ _ wa hca hj2a).mono ?_
        rintro e w15 ⟨Al, nl, kl, rfl, hM15, hrl, _⟩
        have hK15 := Later.trans hK14 (Later.trans hMa hM15)
        have hL15 := Later.trans hL12 hK15
        clear hca hj1a hj2a hj3a hMa hLa hM14 hM13
        go_wp2_with fail
        refine (lawCloset_calls (k1 := k1) (k2 := k2) (k3 := kx) w15 (hcx.later hK15) (by omega) (by omega) (by omega)).mono ?_
        rintro e wa ⟨B1a, j1a, B2a, j2a, B3a, j3a, rfl, hMa, hca, hj1a, hj2a, hj3a⟩
        have hLa := Later.trans hL15 hMa
        go_wp2_with fail
        refine (Hlx.out _ _ _ _ _ _ wa hca hj2a).mono ?_
        rintro e w16 ⟨Am, nm, km, rfl, hM16, hrm, _⟩
        have hK16 := Later.trans hK15 (Later.trans hMa hM16)
        have hL16 := Later.trans hL12 hK16
        have hnl := hrl.len
        have hnm := hrm.len
        have hnm1 : ¬ (nm : Int) < (nl : Int) := by have := Hlv.out; omega
        have hnm2 : ¬ (nl : Int) + 1 < (nm : Int) := by have := Hlv2.out; omega
        have hnm3 : IntKind.i64.wrap ((nl : Int) + 1) = (nl : Int) + 1 := IntWalk.i64_in _ (by have := Hfive.out; omega)
        have Hnm := hide hnm
        clear hca hj1a hj2a hj3a hMa hLa hM15 hM16 hnm hrm hrl hnl
        by_cases hl0 : nm = 0
        · subst hl0
          have hl1 : ¬ (0 : Int) < ((0 : Nat) : Int) := by omega
          have hln : leaveOut xc = [] := List.eq_nil_of_length_eq_zero Hnm.out.symm
          have hN := Hnar.out hln
          have HN := hide hN
          have hn0 := Hn0.out
          obtain ⟨k, hk⟩ : ∃ k, x % n1 = k := ⟨_, rfl⟩
          obtain ⟨m, hm⟩ : ∃ k, y % 100 = k := ⟨_, rfl⟩
          have hkn : k < n1 := by rw [← hk]; exact Nat.mod_lt _ (by omega)
          have hmn : m < 100 := by omega
          have hv1 : ¬ (n1 : Int) = 0 := by omega
          have hv2 : (x : Int).tmod (n1 : Int) = (k : Int) := by rw [← hk, Int.tmod_eq_emod_of_nonneg (by omega)]; norm_cast
          have hv3 : IntKind.i64.wrap (k : Int) = (k : Int) := IntWalk.i64_in _ (by omega)
          have hv4 : (x : Int) % (n1 : Int) = (k : Int) := by rw [← hk]; norm_cast
          have hv6 : IntKind.i64.wrap (x : Int) = (x : Int) := IntWalk.i64_in _ (by omega)
          have hv7 : IntKind.i64.wrap (y : Int) = (y : Int) := IntWalk.i64_in _ (by omega)
          have hv8 : (y : Int).tmod 100 = (m : Int) := by rw [← hm, Int.tmod_eq_emod_of_nonneg (by omega)]; norm_cast
          have hv9 : IntKind.i64.wrap (m : Int) = (m : Int) := IntWalk.i64_in _ (by omega)
          have hv10 : (y : Int) % 100 = (m : Int) := by rw [← hm]; norm_cast
          have hS16 : Later w16 w16.drew := later_drew (later_refl _)
          have hb16 := fun W (hW : Later w16 W) => hbx0 W (Later.trans hK16 hW)
          have Hhk := hide hk
          have Hhm := hide hm
          clear hk hm hln hN
          go_upto_region 11 with fail
          refine wp_region_lin (w0 := w16) 15 [] rely_later (by kernel_rfl) (by kernel_rfl) (by kernel_rfl) (by kernel_rfl) (hS16) (.inl rfl) ?_
          simp only [List.take_succ_cons, List.take_zero, List.drop_succ_cons, List.drop_zero]
          refine lin_det (v := ?_) (F' := ?_) (by rfl) (fun _ => by rfl) ?_ ?_ ?_
          rotate_left 2
          focus (intro xs X hX hdep; clear hdep; (try dsimp only); go_simp; (try (first | with_reducible rfl | exact ⟨rfl, rfl⟩ | (fail))))
          focus (intro xs; (try simp only [Act.put, List.setIfInBounds_toArray, List.set_cons_zero, List.set_cons_succ, Nat.reduceAdd]); rfl)
          refine lin_det (v := ?_) (F' := ?_) (by rfl) (fun _ => by rfl) ?_ ?_ ?_
          rotate_left 2
          focus (intro xs X hX hdep; clear hdep; (try dsimp only); go_simp; (try (first | with_reducible rfl | exact ⟨rfl, rfl⟩ | (fail))))
          focus (intro xs; (try simp only [Act.put, List.setIfInBounds_toArray, List.set_cons_zero, List.set_cons_succ, Nat.reduceAdd]); rfl)
          refine lin_any (IsP c n1) false (fun v W W' k h => IsP.later h k) (F' := ?_) (by rfl) (fun _ => by rfl) ?_ ?_ ?_
          rotate_left 1
          focus (intro xs X hX hdep; skip; clear hdep; intro K hK; (try dsimp only); go_simp; (refine (Placed_calls (k1 := k1) (k2 := k2) (k3 := k3) (kw := kw) X (hc0.later (Later.trans hL16 hX)) ok (hw0'.later (Later.trans hL16 hX)) hnw).mono ?_; rintro e W' ⟨A, k, p, rfl, hL, hr, hk, hpl⟩; rw [← Hn1.out] at hr hk ⊢; exact hK.out _ _ rfl hL ⟨p, hpl, A, k, rfl, hr, hk⟩ (fun h => by cases h)))
          focus (intro xs; (try simp only [Act.put, List.setIfInBounds_toArray, List.set_cons_zero, List.set_cons_succ, Nat.reduceAdd]); rfl)
          refine lin_det (v := ?_) (F' := ?_) (by rfl) (fun _ => by rfl) ?_ ?_ ?_
          rotate_left 2
          focus (intro xs X hX hdep; clear hdep; (try dsimp only); go_simp; (try (first | with_reducible rfl | exact ⟨rfl, rfl⟩ | (fail))))
          focus (intro xs; (try simp only [Act.put, List.setIfInBounds_toArray, List.set_cons_zero, List.set_cons_succ, Nat.reduceAdd]); rfl)
          refine lin_det (v := ?_) (F' := ?_) (by rfl) (fun _ => by rfl) ?_ ?_ ?_
          rotate_left 2
          focus (intro xs X hX hdep; clear hdep; (try dsimp only); go_simp; (try (first | with_reducible rfl | exact ⟨rfl, rfl⟩ | (fail))))
          focus (intro xs; (try simp only [Act.put, List.setIfInBounds_toArray, List.set_cons_zero, List.set_cons_succ, Nat.reduceAdd]); rfl)
          refine lin_det (v := ?_) (F' := ?_) (by rfl) (fun _ => by rfl) ?_ ?_ ?_
          rotate_left 2
          focus (intro xs X hX hdep; clear hdep; (try dsimp only); go_simp; (try (first | with_reducible rfl | exact ⟨rfl, rfl⟩ | (fail))))
          focus (intro xs; (try simp only [Act.put, List.setIfInBounds_toArray, List.set_cons_zero, List.set_cons_succ, Nat.reduceAdd]); rfl)
          refine lin_det (v := ?_) (F' := ?_) (by rfl) (fun _ => by rfl) ?_ ?_ ?_
          rotate_left 2
          focus (intro xs X hX hdep; clear hdep; (try dsimp only); go_simp; (try (first | with_reducible rfl | exact ⟨rfl, rfl⟩ | (fail))))
          focus (intro xs; (try simp only [Act.put, List.setIfInBounds_toArray, List.set_cons_zero, List.set_cons_succ, Nat.reduceAdd]); rfl)
          refine lin_det (v := ?_) (F' := ?_) (by rfl) (fun _ => by rfl) ?_ ?_ ?_
          rotate_left 2
          focus (intro xs X hX hdep; clear hdep; (try dsimp only); go_simp; (try (first | with_reducible rfl | exact ⟨rfl, rfl⟩ | (fail))))
          focus (intro xs; (try simp only [Act.put, List.setIfInBounds_toArray, List.set_cons_zero, List.set_cons_succ, Nat.reduceAdd]); rfl)
          refine lin_det (v := ?_) (F' := ?_) (by rfl) (fun _ => by rfl) ?_ ?_ ?_
          rotate_left 2
          focus (intro xs X hX hdep; clear hdep; (try dsimp only); go_simp; (try (first | with_reducible rfl | exact ⟨rfl, rfl⟩ | (fail))))
          focus (intro xs; (try simp only [Act.put, List.setIfInBounds_toArray, List.set_cons_zero, List.set_cons_succ, Nat.reduceAdd]); rfl)
          refine lin_det (v := ?_) (F' := ?_) (by rfl) (fun _ => by rfl) ?_ ?_ ?_
          rotate_left 2
          focus (intro xs X hX hdep; clear hdep; (try dsimp only); go_simp; (try (first | with_reducible rfl | exact ⟨rfl, rfl⟩ | (fail))))
          focus (intro xs; (try simp only [Act.put, List.setIfInBounds_toArray, List.set_cons_zero, List.set_cons_succ, Nat.reduceAdd]); rfl)
          refine lin_det (v := ?_) (F' := ?_) (by rfl) (fun _ => by rfl) ?_ ?_ ?_
          rotate_left 2
          focus (intro xs X hX hdep; clear hdep; (try dsimp only); go_simp; (try (first | with_reducible rfl | exact ⟨rfl, rfl⟩ | (fail))))
          focus (intro xs; (try simp only [Act.put, List.setIfInBounds_toArray, List.set_cons_zero, List.set_cons_succ, Nat.reduceAdd]); rfl)
          refine lin_det (v := ?_) (F' := ?_) (by rfl) (fun _ => by rfl) ?_ ?_ ?_
          rotate_left 2
          focus (intro xs X hX hdep; clear hdep; (try dsimp only); go_simp; (try (first | with_reducible rfl | exact ⟨rfl, rfl⟩ | (fail))))
          focus (intro xs; (try simp only [Act.put, List.setIfInBounds_toArray, List.set_cons_zero, List.set_cons_succ, Nat.reduceAdd]); rfl)
          refine lin_any (IsP c n1) false (fun v W W' k h => IsP.later h k) (F' := ?_) (by rfl) (fun _ => by rfl) ?_ ?_ ?_
          rotate_left 1
          focus (intro xs X hX hdep; have hpp := (show IsP _ _ _ _ from hdep 2 1 (by kernel_rfl)); clear hdep; intro K hK; (try dsimp only); go_simp; (exact hK.out _ _ rfl (later_refl _) hpp (fun h => by cases h)))
          focus (intro xs; (try simp only [Act.put, List.setIfInBounds_toArray, List.set_cons_zero, List.set_cons_succ, Nat.reduceAdd]); rfl)
          refine lin_det (v := ?_) (F' := ?_) (by rfl) (fun _ => by rfl) ?_ ?_ ?_
          rotate_left 2
          focus (intro xs X hX hdep; clear hdep; (try dsimp only); go_simp; (try (first | with_reducible rfl | exact ⟨rfl, rfl⟩ | (fail))))
          focus (intro xs; (try simp only [Act.put, List.setIfInBounds_toArray, List.set_cons_zero, List.set_cons_succ, Nat.reduceAdd]); rfl)
          refine lin_det (v := ?_) (F' := ?_) (by rfl) (fun _ => by rfl) ?_ ?_ ?_
          rotate_left 2
          focus (intro xs X hX hdep; clear hdep; (try dsimp only); go_simp; (try (first | with_reducible rfl | exact ⟨rfl, rfl⟩ | (fail))))
          focus (intro xs; (try simp only [Act.put, List.setIfInBounds_toArray, List.set_cons_zero, List.set_cons_succ, Nat.reduceAdd]); rfl)
          intro xs w17 hW hf hfr hfb
          obtain ⟨p, hpl, Ap, kp, hx2, hrp, hkp⟩ := (show IsP _ _ _ _ from hf 12)
          simp only [hx2, Nat.reduceAdd, Nat.zero_add]
          have hK17 := Later.trans hK16 hW
          have hL17 := Later.trans hL16 hW
          clear hf hfr hfb hx2 hW hb16 hv1 hv2 hv3 hv4 hv6 hv7 hv8 hv9 hv10
          have hN := HN.out
          have hplx : IsPl xc p := hN.pl hpl
          obtain ⟨ec0, ex0, lc0, lx0, hord⟩ := hN.bounds hpl
          have ecc := hN.ec
          have ecx := hN.ex
          have hkpt := hN.kept hpl
          have hsoo := hN.sooner
          obtain ⟨hr0, hr1, hr2⟩ := hN.right hpl (k := k) (m := (m : Int)) (by have := Hn1.out; omega) (by omega) (by omega)
          obtain ⟨⟨u, ue⟩, hu⟩ : ∃ q, rightOut c p k m = q := ⟨_, rfl⟩
          obtain ⟨⟨v, ve⟩, hv⟩ : ∃ q, rightOut xc p k m = q := ⟨_, rfl⟩
          rw [hu] at hr0 hr2
          rw [hv] at hr1 hr2
          dsimp only at hr0 hr1 hr2
          subst hr0 hr1
          have hbc := fun (B1 B2 B3 : Option Addr) (j1 j2 j3 : Nat) (W : World) (h : CV W c B1 n1 B2 n2 B3 n3) (h2 : n2 ≤ j2) (Aq : Option Addr) (kq : Nat) (hq : RI W Aq n1 p) (hk : n1 ≤ kq) =>
            BoundsP_calls (k1 := j1) (k2 := j2) (k3 := j3) (kp := kq) W h hcl (by omega) (by omega) (by omega) h2 hq hk (by omega)
          have hbxc := fun (B1 B2 B3 : Option Addr) (j1 j2 j3 : Nat) (W : World) (h : CV W xc B1 n1 B2 n2 B3 (n3 + 1)) (h2 : n2 ≤ j2) (Aq : Option Addr) (kq : Nat) (hq : RI W Aq n1 p) (hk : n1 ≤ kq) =>
            BoundsP_calls (k1 := j1) (k2 := j2) (k3 := j3) (kp := kq) W h hxi (by omega) (by omega) (by omega) h2 hq hk (by omega)
          unfold BoundsPost at hbc hbxc
          rw [ec0] at hbc
          rw [ex0] at hbxc
          have hrc := fun (B1 B2 B3 : Option Addr) (j1 j2 j3 : Nat) (W : World) (hcv : CV W c B1 n1 B2 n2 B3 n3) (h2 : n2 ≤ j2) (Aq : Option Addr) (kq : Nat) (hq : RI W Aq n1 p) (hk : n1 ≤ kq) =>
            RightP_calls (k1 := j1) (k2 := j2) (k3 := j3) (kp := kq) (h := (k : Int)) (m := (m : Int)) W hcv hcl (by omega) (by omega) (by omega) h2 hq hk (by omega)
          have hrx := fun (B1 B2 B3 : Option Addr) (j1 j2 j3 : Nat) (W : World) (hcv : CV W xc B1 n1 B2 n2 B3 (n3 + 1)) (h2 : n2 ≤ j2) (Aq : Option Addr) (kq : Nat) (hq : RI W Aq n1 p) (hk : n1 ≤ kq) =>
            RightP_calls (k1 := j1) (k2 := j2) (k3 := j3) (kp := kq) (h := (k : Int)) (m := (m : Int)) W hcv hxi (by omega) (by omega) (by omega) h2 hq hk (by omega)
          rw [hu] at hrc
          rw [hv] at hrx
          have hkc := fun (W : World) (hW : Later w12 W) (hp : RI W Ap n1 p) => kept_calls (c := c) (x := xc) (k1 := k1) (k2 := k2) (k3 := k3) (i1 := k1) (i2 := k2) (i3 := kx) (kp := kp) W (hc0.later (Later.trans hL12 hW)) hcl (hcx.later hW) hxi ecc ecx hp hpl hplx hkpt
          have hsc := fun (W : World) (hW : Later w12 W) => sooner_calls (k1 := k1) (k2 := k2) (k3 := k3) (i1 := k1) (i2 := k2) (i3 := kx) W (hc0.later (Later.trans hL12 hW)) hcl (hcx.later hW) hxi (by omega) (by omega) (by omega) (by omega) (by omega) (by omega) hsoo
          have Hbc := hide hbc
          have Hbx := hide hbxc
          have Hrc := hide hrc
          have Hrx := hide hrx
          have Hkc := hide hkc
          have Hsc := hide hsc
          have Hord := hide hord
          have Hlx0 := hide lx0
          have Hlc0 := hide lc0
          have Hr2 := hide hr2
          clear hN hbc hbxc hrc hrx hkc hsc hord lx0 lc0 ec0 ex0 hkpt hsoo hu hv hr2
          go_wp2_with fail
          refine (lawCloset_calls (k1 := k1) (k2 := k2) (k3 := k3) w17 (hc0.later hL17) (by omega) (by omega) (by omega)).mono ?_
          rintro e wa ⟨B1a, j1a, B2a, j2a, B3a, j3a, rfl, hMa, hca, hj1a, hj2a, hj3a⟩
          have hLa := Later.trans hL17 hMa
          go_wp2_with fail
          refine (list_calls _ (hrp.later hMa) (by omega)).mono ?_
          rintro e wb ⟨Ab, nb, kb, rfl, hMb, hrb, hkb, _⟩
          have hLb := Later.trans hMa hMb
          have hnb := hrb.len
          rw [← hrp.len] at hnb
          subst nb
          go_wp2_with fail
          refine (Hbc.out _ _ _ _ _ _ wb (hca.later hMb) hj2a _ _ hrb hkb).mono ?_
          rintro e w18 ⟨As, ns, ks, rfl, hM18, hrs⟩
          have hQ18 := Later.trans hMa (Later.trans hMb hM18)
          have hK18 := Later.trans hK17 hQ18
          have hL18 := Later.trans hL12 hK18
          clear hca hrb hj1a hj2a hj3a hMa hMb hLa hLb hM18
          go_wp2_with fail
          refine (lawCloset_calls (k1 := k1) (k2 := k2) (k3 := kx) w18 (hcx.later hK18) (by omega) (by omega) (by omega)).mono ?_
          rintro e wa ⟨B1a, j1a, B2a, j2a, B3a, j3a, rfl, hMa, hca, hj1a, hj2a, hj3a⟩
          have hLa := Later.trans hL18 hMa
          go_wp2_with fail
          refine (list_calls _ (hrp.later (Later.trans hQ18 hMa)) (by omega)).mono ?_
          rintro e wb ⟨Ab, nb, kb, rfl, hMb, hrb, hkb, _⟩
          have hLb := Later.trans (Later.trans hQ18 hMa) hMb
          have hnb := hrb.len
          rw [← hrp.len] at hnb
          subst nb
          go_wp2_with fail
          refine (Hbx.out _ _ _ _ _ _ wb (hca.later hMb) hj2a _ _ hrb hkb).mono ?_
          rintro e w19 ⟨At, nt, kt, rfl, hM19, hrt⟩
          have hQ1819 := Later.trans hMa (Later.trans hMb hM19)
          have hQ19 := Later.trans hQ18 hQ1819
          have hK19 := Later.trans hK18 hQ1819
          have hL19 := Later.trans hL12 hK19
          clear hca hrb hj1a hj2a hj3a hMa hMb hLa hLb hM19
          go_wp2_with fail
          refine (lawCloset_calls (k1 := k1) (k2 := k2) (k3 := k3) w19 (hc0.later hL19) (by omega) (by omega) (by omega)).mono ?_
          rintro e wa ⟨B1a, j1a, B2a, j2a, B3a, j3a, rfl, hMa, hca, hj1a, hj2a, hj3a⟩
          have hLa := Later.trans hL19 hMa
          go_wp2_with fail
          refine (list_calls _ (hrp.later (Later.trans hQ19 hMa)) (by omega)).mono ?_
          rintro e wb ⟨Ab, nb, kb, rfl, hMb, hrb, hkb, _⟩
          have hLb := Later.trans (Later.trans hQ19 hMa) hMb
          have hnb := hrb.len
          rw [← hrp.len] at hnb
          subst nb
          go_wp2_with fail
          refine (Hrc.out _ _ _ _ _ _ wb (hca.later hMb) hj2a _ _ hrb hkb).mono ?_
          rintro e w20 ⟨rfl, hM20⟩
          have hQ1920 := Later.trans hMa (Later.trans hMb hM20)
          have hQ1820 := Later.trans hQ1819 hQ1920
          have hQ20 := Later.trans hQ19 hQ1920
          have hK20 := Later.trans hK19 hQ1920
          have hL20 := Later.trans hL12 hK20
          clear hca hrb hj1a hj2a hj3a hMa hMb hLa hLb hM20
          go_wp2_with fail
          refine (lawCloset_calls (k1 := k1) (k2 := k2) (k3 := kx) w20 (hcx.later hK20) (by omega) (by omega) (by omega)).mono ?_
          rintro e wa ⟨B1a, j1a, B2a, j2a, B3a, j3a, rfl, hMa, hca, hj1a, hj2a, hj3a⟩
          have hLa := Later.trans hL20 hMa
          go_wp2_with fail
          refine (list_calls _ (hrp.later (Later.trans hQ20 hMa)) (by omega)).mono ?_
          rintro e wb ⟨Ab, nb, kb, rfl, hMb, hrb, hkb, _⟩
          have hLb := Later.trans (Later.trans hQ20 hMa) hMb
          have hnb := hrb.len
          rw [← hrp.len] at hnb
          subst nb
          go_wp2_with fail
          refine (Hrx.out _ _ _ _ _ _ wb (hca.later hMb) hj2a _ _ hrb hkb).mono ?_
          rintro e w21 ⟨rfl, hM21⟩
          have hQ2021 := Later.trans hMa (Later.trans hMb hM21)
          have hQ1821 := Later.trans hQ1820 hQ2021
          have hQ1921 := Later.trans hQ1920 hQ2021
          have hQ21 := Later.trans hQ20 hQ2021
          have hK21 := Later.trans hK20 hQ2021
          have hL21 := Later.trans hL12 hK21
          have hns := hrs.len
          have hnt := hrt.len
          rw [Hlc0.out, ← Hn1.out] at hns
          rw [Hlx0.out, ← Hn1.out] at hnt
          subst ns nt
          have hin := inside_calls (k := kt) (j := ks) w21 (hrt.later hQ1921) (hrs.later hQ1821) (by omega) (fun i a b ha hb => by have := Hord.out i b a hb ha; omega)
          have Hin := hide hin
          clear hca hrb hj1a hj2a hj3a hMa hMb hLa hLb hM21 hrs hrt hin
          rcases Hr2.out with rfl | rfl
          · go_wp2_with fail
            refine (Hin.out).mono ?_
            rintro e w22 ⟨rfl, hM22⟩
            have hQ22 := Later.trans hQ21 hM22
            have hK22 := Later.trans hK21 hM22
            go_wp2_with fail
            refine (Hkc.out w22 hK22 (hrp.later hQ22)).mono ?_
            rintro e w23 ⟨rfl, hM23⟩
            have hK23 := Later.trans hK22 hM23
            go_wp2_with fail
            refine (Hsc.out w23 hK23).mono ?_
            rintro e w24 ⟨rfl, hM24⟩
            have hK24 := Later.trans hK23 hM24
            have hL24 := Later.trans hL12 hK24
            go_wp2_with fail
            refine (awake_calls _).mono ?_
            rintro e wa ⟨rfl, hLa⟩
            go_wp2_with fail
            go_ret
            exact ⟨rfl, Later.trans hL0 (Later.trans hL24 hLa)⟩
          · have hee : ((u : Int) == u) = true := by simp
            cases h3 : ((u : Int) == 3)
            · go_wp2_with fail
              refine (Hin.out).mono ?_
              rintro e w22 ⟨rfl, hM22⟩
              have hQ22 := Later.trans hQ21 hM22
              have hK22 := Later.trans hK21 hM22
              go_wp2_with fail
              refine (Hkc.out w22 hK22 (hrp.later hQ22)).mono ?_
              rintro e w23 ⟨rfl, hM23⟩
              have hK23 := Later.trans hK22 hM23
              go_wp2_with fail
              refine (Hsc.out w23 hK23).mono ?_
              rintro e w24 ⟨rfl, hM24⟩
              have hK24 := Later.trans hK23 hM24
              have hL24 := Later.trans hL12 hK24
              go_wp2_with fail
              refine (awake_calls _).mono ?_
              rintro e wa ⟨rfl, hLa⟩
              go_wp2_with fail
              go_ret
              exact ⟨rfl, Later.trans hL0 (Later.trans hL24 hLa)⟩
            · go_wp2_with fail
              refine (Hin.out).mono ?_
              rintro e w22 ⟨rfl, hM22⟩
              have hQ22 := Later.trans hQ21 hM22
              have hK22 := Later.trans hK21 hM22
              go_wp2_with fail
              refine (Hkc.out w22 hK22 (hrp.later hQ22)).mono ?_
              rintro e w23 ⟨rfl, hM23⟩
              have hK23 := Later.trans hK22 hM23
              go_wp2_with fail
              refine (Hsc.out w23 hK23).mono ?_
              rintro e w24 ⟨rfl, hM24⟩
              have hK24 := Later.trans hK23 hM24
              have hL24 := Later.trans hL12 hK24
              go_wp2_with fail
              refine (awake_calls _).mono ?_
              rintro e wa ⟨rfl, hLa⟩
              go_wp2_with fail
              go_ret
              exact ⟨rfl, Later.trans hL0 (Later.trans hL24 hLa)⟩
        · have hl1 : (0 : Int) < (nm : Int) := by omega
          clear hl0
          go_wp2_with fail
          refine (awake_calls _).mono ?_
          rintro e wa ⟨rfl, hLa⟩
          go_wp2_with fail
          go_ret
          exact ⟨rfl, Later.trans hL0 (Later.trans hL16 hLa)⟩
end Go.Proofs.Ytjilckjhdlabaaa
