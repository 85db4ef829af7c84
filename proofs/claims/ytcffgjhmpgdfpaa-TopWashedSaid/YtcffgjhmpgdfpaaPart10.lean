/- Part 10 of the proof: joined from the texts UnS, UnT, UnV, UnU, UnW. -/
import Derived.Test.YtcffgjhmpgdfpaaPart9
set_option linter.unusedSimpArgs false
set_option linter.unusedVariables false
/- TopWashed: what the program says of the house with the ticket: walk. -/
namespace Go.Proofs.Ytcffgjhmpgdfpaa
open Go Go.RowKit
attribute [local go_sem] later_alloc2 later_alloc3 later_alloc4
theorem wclip_info : (Try.prog.info? 60).map (fun i => (i.zero, i.size, i.bytes)) = some (some (.agg #[.int .i64 0, .int .i64 0, .int .i64 0]), 3, 24) := by kernel_rfl
theorem hoursV_pos {h : Hou} (ok : OkH h) {L : Int} (hL : 0 ≤ L ∧ L ≤ 240) (hg : h.grace < L) : IntKind.i64.wrap ((L - h.grace + h.hour - 1).tdiv h.hour) = hoursV h L := by
  have := ok.hour
  have := ok.grace
  have e : hoursV h L = (L - h.grace + h.hour - 1).tdiv h.hour := by
    unfold hoursV
    rw [Int.max_eq_right (by omega), Int.tdiv_eq_ediv_of_nonneg (by omega)]
  rw [e]
  rw [Int.tdiv_eq_ediv_of_nonneg (by omega)]
  have h1 : 0 ≤ (L - h.grace + h.hour - 1) / h.hour := Int.ediv_nonneg (by omega) (by omega)
  have h2 : (L - h.grace + h.hour - 1) / h.hour ≤ L - h.grace + h.hour - 1 := Int.ediv_le_self _ (by omega)
  exact IntWalk.i64_in _ (by omega)
theorem hoursV_neg {h : Hou} (ok : OkH h) {L : Int} (hg : ¬ h.grace < L) : IntKind.i64.wrap ((h.hour - 1).tdiv h.hour) = hoursV h L := by
  have := ok.hour
  have e : hoursV h L = 0 := by
    unfold hoursV
    rw [Int.max_eq_left (by omega), Int.zero_add]
    exact Int.ediv_eq_zero_of_lt (by omega) (by omega)
  rw [e, Int.tdiv_eq_ediv_of_nonneg (by omega), Int.ediv_eq_zero_of_lt (by omega) (by omega)]
  rfl
set_option maxRecDepth 100000 in
set_option maxHeartbeats 10000000 in
theorem washD (w w8 : World) {u0 u1 u2 u3 u4 u5 u6 u7 u8 u9 u10 u11 u12 u13 u14 u15 u16 u19 u21 u22 u23 u26 u27 u28 u29 u30 u31 u32 u33 u34 u35 u36 u37 u38 u39 u40 u41 u42 u43 u44 u45 u46 u47 u48 u49 u50 u51 u52 u53 u54 u55 u56 u57 u58 u59 u60 u61 u62 u63 u64 u65 u66 u67 u68 u69 u70 u71 u72 u73 u74 u75 u76 u77 u78 u79 u80 u81 u82 u83 u84 u85 u86 u87 u88 u89 u90 u91 u92 u93 u94 u95 u96 u97 u98 u99 u100 u101 u102 u103 u104 u105 u106 u107 u108 u109 u110 u111 u112 u113 u114 u115 u116 u117 u118 u119 u120 u121 u122 u123 u124 u125 u126 u127 u128 u129 u130 u131 u132 u133 u134 u135 u136 u137 u138 u139 u140 u141 u142 u143 u144 u145 u146 u147 u148 u149 u150 u151 u152 u153 u154 u155 u156 u157 u158 u159 u160 u161 u162 u163 u164 u165 u166 u167 u168 u169 u170 u171 u172 u173 u174 u175 u176 u177 u178 u179 u180 u181 u182 u183 u184 u185 u186 u187 u188 u189 u190 u191 u192 u193 u194 u195 u196 u197 u198 u199 u200 u201 u202 u203 u204 u205 u206 u207 u208 u209 u210 u211 u212 u213 u214 u215 u216 u217 u218 u219 u220 u221 u222 u223 u224 u225 u226 u227 u228 u229 u230 u231 u232 u233 u234 u235 u236 u237 u238 u239 u240 u241 u242 u243 u244 u245 u246 u247 u248 u249 u250 u251 u252 u253 u254 u255 u256 u257 u258 u259 u260 u261 u262 u263 u264 u265 u266 u267 u268 u269 u270 u271 u272 u273 u274 u275 u276 u277 u278 u279 u280 u281 u282 u283 u284 u285 u286 u287 u288 u289 u290 u291 u292 u293 u294 u295 u296 u297 u298 u299 u300 : Value} {h Y : Hou} {B Bt Bc Au Av : Option Addr} {nu jB n2 kt n3 kc' ku kv gy tn : Nat} {L D : Int}
    (K : Act → World → Prop) (hK : ∀ a W, Code.wp Try.prog (restC 35 Try.f3) (bodyPost Try.prog Try.f3 fun e w' => e = .returned (.bool true) ∧ Later w w') a W → K a W) (hLa8 : Later w w8)
    (hcy : CV w8 Y B nu Bt (n2 + 1) Bc (n3 + 2)) (hb8 : Blk w8 gy 26 #[.int .i64 Y.hour, .int .i64 Y.grace, .slice B nu jB, .slice Bt (n2 + 1) kt, .slice Bc (n3 + 2) kc'])
    (hru : RI w8 Au 1 [(tn : Int)]) (hrv : RI w8 Av 1 [D]) (okh : OkH h) (hYh : Y.hour = h.hour) (hYg : Y.grace = h.grace) (hnu : nu ≤ 4) (l2 : n2 ≤ 6) (l3 : n3 ≤ 10) (bL : 0 ≤ L ∧ L ≤ 240)
    (hlaw : WashFacts Y n2 tn (hoursV h L) D) :
    Code.wp Try.prog (headC 35 Try.f3) (Exit.then K (bodyPost Try.prog Try.f3 fun e w' => e = .returned (.bool true) ∧ Later w w')) ⟨#[u0, u1, u2, u3, u4, u5, u6, u7, u8, u9, u10, u11, u12, u13, u14, u15, u16, .slice Au 1 ku, .slice Av 1 kv, u19, .int .i64 L, u21, u22, u23, .pointer (some ⟨gy, 0, none⟩), .int .i64 (n2 : Int), u26, u27, u28, u29, u30, u31, u32, u33, u34, u35, u36, u37, u38, u39, u40, u41, u42, u43, u44, u45, u46, u47, u48, u49, u50, u51, u52, u53, u54, u55, u56, u57, u58, u59, u60, u61, u62, u63, u64, u65, u66, u67, u68, u69, u70, u71, u72, u73, u74, u75, u76, u77, u78, u79, u80, u81, u82, u83, u84, u85, u86, u87, u88, u89, u90, u91, u92, u93, u94, u95, u96, u97, u98, u99, u100, u101, u102, u103, u104, u105, u106, u107, u108, u109, u110, u111, u112, u113, u114, u115, u116, u117, u118, u119, u120, u121, u122, u123, u124, u125, u126, u127, u128, u129, u130, u131, u132, u133, u134, u135, u136, u137, u138, u139, u140, u141, u142, u143, u144, u145, u146, u147, u148, u149, u150, u151, u152, u153, u154, u155, u156, u157, u158, u159, u160, u161, u162, u163, u164, u165, u166, u167, u168, u169, u170, u171, u172, u173, u174, u175, u176, u177, u178, u179, u180, u181, u182, u183, u184, u185, u186, u187, u188, u189, u190, u191, u192, u193, u194, u195, u196, u197, u198, u199, u200, u201, u202, u203, u204, u205, u206, u207, u208, u209, u210, u211, u212, u213, u214, u215, u216, u217, u218, u219, u220, u221, u222, u223, u224, u225, u226, u227, u228, u229, u230, u231, u232, u233, u234, u235, u236, u237, u238, u239, u240, u241, u242, u243, u244, u245, u246, u247, u248, u249, u250, u251, u252, u253, u254, u255, u256, u257, u258, u259, u260, u261, u262, u263, u264, u265, u266, u267, u268, u269, u270, u271, u272, u273, u274, u275, u276, u277, u278, u279, u280, u281, u282, u283, u284, u285, u286, u287, u288, u289, u290, u291, u292, u293, u294, u295, u296, u297, u298, u299, u300], []⟩ w8 := by
  have hK2 : ∀ a W, Code.wp Try.prog (Code.seq _ _) (bodyPost Try.prog Try.f3 fun e w' => e = .returned (.bool true) ∧ Later w w') a W → K a W := hK
  clear hK
  show Code.wp Try.prog (Code.region _ _ _) _ _ _
  have d0 := fun X (h : Later w8 X) => ((hb8.later h).cell 0).trans (show _ = some (Value.int .i64 Y.hour) from rfl)
  have d1 := fun X (h : Later w8 X) => ((hb8.later h).cell 1).trans (show _ = some (Value.int .i64 Y.grace) from rfl)
  have d2 := fun X (h : Later w8 X) => ((hb8.later h).cell 2).trans (show _ = some (Value.slice B nu jB) from rfl)
  have d3 := fun X (h : Later w8 X) => ((hb8.later h).cell 3).trans (show _ = some (Value.slice Bt (n2 + 1) kt) from rfl)
  have d4 := fun X (h : Later w8 X) => ((hb8.later h).cell 4).trans (show _ = some (Value.slice Bc (n3 + 2) kc') from rfl)
  obtain ⟨bu, ou, xu, rfl, _, hxu, hxu0⟩ := hru.get (k := 0) (by omega)
  simp only [List.getElem?_cons_zero, Option.some.injEq] at hxu
  subst hxu
  obtain ⟨bv, ov, xv, rfl, _, hxv, hxv0⟩ := hrv.get (k := 0) (by omega)
  simp only [List.getElem?_cons_zero, Option.some.injEq] at hxv
  subst hxv
  simp only [Nat.add_zero, Nat.zero_mul] at hxu0 hxv0
  have Hcy := hide hcy
  have hl1 : nu ≤ 1000 := by omega
  have hl2 : n2 + 1 ≤ 1000 := by omega
  have hl3 : n3 + 2 ≤ 1000 := by omega
  have hl8 := later_refl w8
  have HYh := hide hYh
  have HYg := hide hYg
  clear hcy hb8 hru hrv
  obtain ⟨f1, f2, f3, f4, f5, f6⟩ := hlaw
  have HF3 := hide f3
  have HF4 := hide f4
  have HF5 := hide f5
  have HF6 := hide f6
  have HF2 := hide f2
  have hho := fun (B1 B2 B3 : Option Addr) (j1 j2 j3 : Nat) (W : World) (h : CV W Y B1 nu B2 (n2 + 1) B3 (n3 + 2)) => HoursP_calls (c := Y) (k1 := j1) (k2 := j2) (k3 := j3) W h hl1 hl2 hl3
  rw [f1] at hho
  have Hho := hide hho
  clear f1 f2 f3 f4 f5 f6 hho
  obtain ⟨hv, hhv⟩ : ∃ q, hoursV h L = q := ⟨_, rfl⟩
  have e0 := d0 w8 (later_refl _)
  have e1 := d1 w8 (later_refl _)
  have hkh := okh.hour
  have hkg := okh.grace
  rw [← hYh] at hkh
  rw [← hYg] at hkg
  clear hYh hYg
  have hne0 : ¬ Y.hour = 0 := by omega
  have hneb : (Y.hour == 0) = false := by simpa using hne0
  have hw0 : IntKind.i64.wrap (L - Y.grace) = L - Y.grace := IntWalk.i64_in _ (by omega)
  dsimp only
  go_cut [26] from 26 to 231 (fun (v26 : Value) (W : World) => v26 = .int .i64 hv ∧ w8 = W)
  case first =>
    by_cases hg : Y.grace < L
    · have hw1 : IntKind.i64.wrap (L - Y.grace + Y.hour) = L - Y.grace + Y.hour := IntWalk.i64_in _ (by omega)
      have hw2 : IntKind.i64.wrap (L - Y.grace + Y.hour - 1) = L - Y.grace + Y.hour - 1 := IntWalk.i64_in _ (by omega)
      have hw3 := hoursV_pos okh bL (by rw [← HYg.out]; exact hg)
      rw [hhv, ← HYg.out, ← HYh.out] at hw3
      go_wp2_with fail
      go_meet
      case rel => exact ⟨rfl, rfl⟩
    · have hw2 : IntKind.i64.wrap (Y.hour - 1) = Y.hour - 1 := IntWalk.i64_in _ (by omega)
      have hw1 : IntKind.i64.wrap Y.hour = Y.hour := IntWalk.i64_in _ (by omega)
      have hw3 := hoursV_neg okh (L := L) (by rw [← HYg.out]; exact hg)
      rw [hhv, ← HYh.out] at hw3
      go_wp2_with fail
      go_meet
      case rel => exact ⟨rfl, rfl⟩
  case rest =>
    obtain ⟨rfl, rfl⟩ := hcut
    clear e0 e1 hw0 hne0 hneb hkh hkg
    rw [hhv] at HF3
    clear hhv
    go_wp2_with fail
    refine (lawHouse_calls (c := Y) (k1 := jB) (k2 := kt) (k3 := kc') w8 Hcy.out hl1 hl2 hl3).mono ?_
    rintro e wa ⟨B1a, j1a, B2a, j2a, B3a, j3a, rfl, hMa, hca, _⟩
    go_wp2_with fail
    refine (Hho.out _ _ _ _ _ _ wa hca).mono ?_
    rintro e wb ⟨Ah, nh, kh, rfl, hMb, hrh⟩
    have hnh := hrh.len
    rw [HF2.out] at hnh
    subst hnh
    have hLb := Later.trans hMa hMb
    clear hca hMa hMb Hho
    go_upto_region 37 with fail
    have hSb : Later wb wb.drew := later_drew (later_refl _)
    have p0 := fun X (h : Later wb X) => d0 X (Later.trans hLb h)
    have p1 := fun X (h : Later wb X) => d1 X (Later.trans hLb h)
    have p2 := fun X (h : Later wb X) => d2 X (Later.trans hLb h)
    have p3 := fun X (h : Later wb X) => d3 X (Later.trans hLb h)
    have p4 := fun X (h : Later wb X) => d4 X (Later.trans hLb h)
    have pu := fun X (h : Later wb X) => hxu0 X (Later.trans hLb h)
    refine wp_region_lin (w0 := wb) 10 [8] rely_later (by kernel_rfl) (by kernel_rfl) (by kernel_rfl) (by kernel_rfl) (hSb) (.inr (by intro _ _ _ _ _ h; first | exact h | exact absurd h.1 (by simp))) ?_
    simp only [List.take_succ_cons, List.take_zero, List.drop_succ_cons, List.drop_zero]
    refine lin_det (v := ?_) (F' := ?_) (by rfl) (fun _ => by rfl) ?_ ?_ ?_
    rotate_left 2
    focus (intro xs X hX hdep; clear hdep; (try dsimp only); go_simp; (try (first | with_reducible rfl | exact ⟨rfl, rfl⟩ | (fail))))
    focus (intro xs; (try simp only [Act.put, List.setIfInBounds_toArray, List.set_cons_zero, List.set_cons_succ, Nat.reduceAdd]); rfl)
    refine lin_any (IsHou Y nu (n2 + 1) (n3 + 2)) false (fun v W W' k h => IsHou.later h k) (F' := ?_) (by rfl) (fun _ => by rfl) ?_ ?_ ?_
    rotate_left 1
    focus (intro xs X hX hdep; skip; clear hdep; intro K hK; (try dsimp only); go_simp; (refine (lawHouse_calls (c := Y) (k1 := jB) (k2 := kt) (k3 := kc') X (Hcy.out.later (Later.trans hLb hX)) hl1 hl2 hl3).mono ?_; rintro e W' ⟨B1, j1, B2, j2, B3, j3, rfl, hL, hcv, h1, h2, h3, _⟩; exact hK.out _ _ rfl hL ⟨B1, j1, B2, j2, B3, j3, rfl, hcv, h1, h2, h3⟩ (fun h => by cases h)))
    focus (intro xs; (try simp only [Act.put, List.setIfInBounds_toArray, List.set_cons_zero, List.set_cons_succ, Nat.reduceAdd]); rfl)
    refine lin_det (v := ?_) (F' := ?_) (by rfl) (fun _ => by rfl) ?_ ?_ ?_
    rotate_left 2
    focus (intro xs X hX hdep; clear hdep; (try dsimp only); go_simp; (try (first | with_reducible rfl | exact ⟨rfl, rfl⟩ | (fail))))
    focus (intro xs; (try simp only [Act.put, List.setIfInBounds_toArray, List.set_cons_zero, List.set_cons_succ, Nat.reduceAdd]); rfl)
    refine lin_det (v := ?_) (F' := ?_) (by rfl) (fun _ => by rfl) ?_ ?_ ?_
    rotate_left 2
    focus (intro xs X hX hdep; clear hdep; (try dsimp only); go_simp; (try (first | with_reducible rfl | exact ⟨rfl, rfl⟩ | (fail))))
    focus (intro xs; (try simp only [Act.put, List.setIfInBounds_toArray, List.set_cons_zero, List.set_cons_succ, Nat.reduceAdd]); rfl)
    refine lin_det (v := ?_) (F' := ?_) (by rfl) (fun _ => by rfl) ?_ ?_ ?_
    rotate_left 2
    focus (intro xs X hX hdep; clear hdep; (try dsimp only); go_simp; (try (first | with_reducible rfl | exact ⟨rfl, rfl⟩ | (fail))))
    focus (intro xs; (try simp only [Act.put, List.setIfInBounds_toArray, List.set_cons_zero, List.set_cons_succ, Nat.reduceAdd]); rfl)
    refine lin_det (v := ?_) (F' := ?_) (by rfl) (fun _ => by rfl) ?_ ?_ ?_
    rotate_left 2
    focus (intro xs X hX hdep; obtain ⟨B1, j1, B2, j2, B3, j3, e1, hcv, _⟩ := (show IsHou _ _ _ _ _ _ from hdep 1 1 (by kernel_rfl)); have hgc := FreeP_calls (c := Y) (k1 := j1) (k2 := j2) (k3 := j3) (tub := (tn : Int)) X hcv hl1 hl2 hl3; rw [HF4.out, HF5.out] at hgc; have Hgc := hide hgc; clear hgc; clear hdep; (try dsimp only); go_simp; (try (first | with_reducible rfl | exact ⟨rfl, rfl⟩ | (exact Hgc.out))))
    focus (intro xs; (try simp only [Act.put, List.setIfInBounds_toArray, List.set_cons_zero, List.set_cons_succ, Nat.reduceAdd]); rfl)
    refine lin_det (v := ?_) (F' := ?_) (by rfl) (fun _ => by rfl) ?_ ?_ ?_
    rotate_left 2
    focus (intro xs X hX hdep; clear hdep; (try dsimp only); go_simp; (try (first | with_reducible rfl | exact ⟨rfl, rfl⟩ | (fail))))
    focus (intro xs; (try simp only [Act.put, List.setIfInBounds_toArray, List.set_cons_zero, List.set_cons_succ, Nat.reduceAdd]); rfl)
    refine lin_det (v := ?_) (F' := ?_) (by rfl) (fun _ => by rfl) ?_ ?_ ?_
    rotate_left 2
    focus (intro xs X hX hdep; clear hdep; (try dsimp only); go_simp; (try (first | with_reducible rfl | exact ⟨rfl, rfl⟩ | (fail))))
    focus (intro xs; (try simp only [Act.put, List.setIfInBounds_toArray, List.set_cons_zero, List.set_cons_succ, Nat.reduceAdd]); rfl)
    refine lin_pure (v := ?_) (F' := ?_) (fun _ => by rfl) ?_ ?_ ?_
    rotate_left 2
    focus (intro xs X hX hdep; clear hdep hX; intro X; (try dsimp only); go_simp; (try (first | with_reducible rfl | rfl)))
    focus (intro xs; (try simp only [Act.put, List.setIfInBounds_toArray, List.set_cons_zero, List.set_cons_succ, Nat.reduceAdd]); rfl)
    refine lin_any (IsBox 65 [.int .i64 0, .int .i64 0]) true (fun v W W' k h => IsBox.later h k) (F' := ?_) (by rfl) (fun _ => by rfl) ?_ ?_ ?_
    rotate_left 1
    focus (intro xs X hX hdep; skip; clear hdep; intro K hK; (try dsimp only); go_simp; (exact hK.out _ _ rfl (later_alloc (later_refl _) _) ⟨_, rfl, Blk.new _ _ _⟩ (fun _ => ⟨_, rfl, Nat.le_refl _, by simp⟩)))
    focus (intro xs; (try simp only [Act.put, List.setIfInBounds_toArray, List.set_cons_zero, List.set_cons_succ, Nat.reduceAdd]); rfl)
    intro xs w14 hW hf hfr hfb
    obtain ⟨gb, hx9, hbk⟩ := (show IsBox _ _ _ _ from hf 9)
    obtain ⟨b', hb1', hlob, _⟩ := hfb 9 rfl
    rw [hx9] at hb1'
    obtain rfl : gb = b' := by injection hb1'
    simp only [hx9, Nat.reduceAdd, Nat.zero_add]
    clear hf hfr hfb hx9 hb1' p0 p1 p2 p3 p4 pu
    have k0 := (hbk.cell 0).trans (show _ = some (Value.int .i64 0) from rfl)
    have k1 := (hbk.cell 1).trans (show _ = some (Value.int .i64 0) from rfl)
    have kf0 := hbk.frozen 0
    have kf1 := hbk.frozen 1
    obtain ⟨w15, hw15⟩ : ∃ W, W = (w14.setCell ⟨gb, 0, none⟩ (.int .i64 D)).setCell ⟨gb, 1, none⟩ (.int .i64 D) := ⟨_, rfl⟩
    have hb15 : Blk w15 gb 65 #[.int .i64 D, .int .i64 D] := by rw [hw15]; exact (hbk.set_ 0 _).set_ 1 _
    have hL15 : Later wb w15 := by rw [hw15]; exact later_set (later_set hW _ hlob _) _ hlob _
    have Hw15 := hide hw15
    have Hb15 := hide hb15
    clear hw15 hb15 hbk hW
    go_upto_region 38 with fail
    rw [← Hw15.out]
    clear k0 k1 kf0 kf1 Hw15 hSb
    obtain ⟨bh, oh, y, rfl, _, hy, hy0, hy1⟩ := hrh.get (k := n2) (by omega)
    rw [HF3.out] at hy
    obtain rfl : (hv, hv) = y := by injection hy
    have hL815 := Later.trans hLb hL15
    have y0 := fun X (h : Later w15 X) => hy0 X (Later.trans hL15 h)
    have y1 := fun X (h : Later w15 X) => hy1 X (Later.trans hL15 h)
    have z0 := fun X (h : Later w15 X) => ((Hb15.out.later h).cell 0).trans (show _ = some (Value.int .i64 D) from rfl)
    have z1 := fun X (h : Later w15 X) => ((Hb15.out.later h).cell 1).trans (show _ = some (Value.int .i64 D) from rfl)
    have zv := fun X (h : Later w15 X) => hxv0 X (Later.trans hL815 h)
    dsimp only at y0 y1
    have hwn : IntKind.i64.wrap ((n2 : Int) + 1) = (n2 : Int) + 1 := IntWalk.i64_in _ (by omega)
    have hnn : (((n2 + 1 : Nat) : Int) != (n2 : Int) + 1) = false := by simp
    have hnl : (n2 : Int) < ((n2 + 1 : Nat) : Int) := by omega
    have hnl2 : (n2 : Int) < (n2 : Int) + 1 := by omega
    have hvv : (hv != hv) = false := by simp
    have hdd : (D != D) = false := by simp
    have hll := later_refl w15
    clear hrh hy0 hy1 hy hxu0 hxv0 Hb15
    refine wp_region_ext (w0 := w15) (by kernel_rfl) (by kernel_rfl) (later_refl _) ?_; (repeat (first | go_big_quiet_step (((fail))) | quiet_step (((fail))))); refine wpQuiet_nil ?_; rintro w16 ⟨⟨_, hM16⟩, rfl⟩; (try dsimp only)
    clear y0 y1 z0 z1 zv hll
    have hL816 := Later.trans hL815 hM16
    clear hL815 hM16 hL15 hLb hwn hnn hnl hnl2 hvv hdd
    go_wp2_with fail
    go_loopw [31] (fun v wr => ∃ j : Nat, j ≤ n2 ∧ v = .int .i64 j ∧ Later w8 wr) (fun v _ => n2 - (intOf v).toNat)
    case atStart => exact ⟨0, Nat.zero_le _, rfl, hL816⟩
    case round =>
      obtain ⟨j, hj, rfl, hL⟩ := hrel
      by_cases hlt : j < n2
      · have hi1 : (j : Int) < n2 := by omega
        obtain ⟨m1, m2⟩ := HF6.out j hlt
        have M1 := hide m1
        have M2 := hide m2
        have p0 := fun X (h : Later wr X) => d0 X (Later.trans hL h)
        have p1 := fun X (h : Later wr X) => d1 X (Later.trans hL h)
        have p2 := fun X (h : Later wr X) => d2 X (Later.trans hL h)
        have p3 := fun X (h : Later wr X) => d3 X (Later.trans hL h)
        have p4 := fun X (h : Later wr X) => d4 X (Later.trans hL h)
        have hlr := later_refl wr
        clear m1 m2
        go_wp2_with fail
        refine (lawHouse_calls (c := Y) (k1 := jB) (k2 := kt) (k3 := kc') wr (Hcy.out.later hL) hl1 hl2 hl3).mono ?_
        rintro e wa ⟨B1a, j1a, B2a, j2a, B3a, j3a, rfl, hMa, hca, _⟩
        have hcl := ClashP_calls (c := Y) (a := (j : Int)) (b := (n2 : Int)) (k1 := j1a) (k2 := j2a) (k3 := j3a) wa hca hl1 hl2 hl3
        rw [M1.out, M2.out] at hcl
        have Hcl := hide hcl
        clear hcl p0 p1 p2 p3 p4 hlr
        go_wp2_with fail
        refine Hcl.out.mono ?_
        rintro e wb2 ⟨rfl, hMb2⟩
        have hLr := Later.trans hL (Later.trans hMa hMb2)
        go_wp2_with fail
        go_roundw
        case rel => exact ⟨j + 1, hlt, by go_num, hLr⟩
        case measure => simp [intOf]; omega
      · have hi1 : ¬ (j : Int) < n2 := by omega
        go_wp2_with fail
        refine (washed_calls _).mono ?_
        rintro e wa ⟨rfl, hLw⟩
        go_wp2_with fail
        go_ret
        exact ⟨rfl, Later.trans hLa8 (Later.trans hL hLw)⟩
end Go.Proofs.Ytcffgjhmpgdfpaa

/- TopWashed: the ticket of the first woman, and what the program says of it: walk. -/
namespace Go.Proofs.Ytcffgjhmpgdfpaa
open Go Go.RowKit
attribute [local go_sem] later_alloc2 later_alloc3 later_alloc4
set_option maxRecDepth 100000 in
set_option maxHeartbeats 100000000 in
theorem washC (w x0 : World) {u0 u1 u2 u3 u4 u5 u6 u7 u8 u10 u11 u12 u13 u14 u15 u16 u19 u24 u25 u26 u27 u28 u29 u30 u31 u32 u33 u34 u35 u36 u37 u38 u39 u40 u41 u42 u43 u44 u45 u46 u47 u48 u49 u50 u51 u52 u53 u54 u55 u56 u57 u58 u59 u60 u61 u62 u63 u64 u65 u66 u67 u68 u69 u70 u71 u72 u73 u74 u75 u76 u77 u78 u79 u80 u81 u82 u83 u84 u85 u86 u87 u88 u89 u90 u91 u92 u93 u94 u95 u96 u97 u98 u99 u100 u101 u102 u103 u104 u105 u106 u107 u108 u109 u110 u111 u112 u113 u114 u115 u116 u117 u118 u119 u120 u121 u122 u123 u124 u125 u126 u127 u128 u129 u130 u131 u132 u133 u134 u135 u136 u137 u138 u139 u140 u141 u142 u143 u144 u145 u146 u147 u148 u149 u150 u151 u152 u153 u154 u155 u156 u157 u158 u159 u160 u161 u162 u163 u164 u165 u166 u167 u168 u169 u170 u171 u172 u173 u174 u175 u176 u177 u178 u179 u180 u181 u182 u183 u184 u185 u186 u187 u188 u189 u190 u191 u192 u193 u194 u195 u196 u197 u198 u199 u200 u201 u202 u203 u204 u205 u206 u207 u208 u209 u210 u211 u212 u213 u214 u215 u216 u217 u218 u219 u220 u221 u222 u223 u224 u225 u226 u227 u228 u229 u230 u231 u232 u233 u234 u235 u236 u237 u238 u239 u240 u241 u242 u243 u244 u245 u246 u247 u248 u249 u250 u251 u252 u253 u254 u255 u256 u257 u258 u259 u260 u261 u262 u263 u264 u265 u266 u267 u268 u269 u270 u271 u272 u273 u274 u275 u276 u277 u278 u279 u280 u281 u282 u283 u284 u285 u286 u287 u288 u289 u290 u291 u292 u293 u294 u295 u296 u297 u298 u299 u300 : Value} {h : Hou} {t : List Int} {B A2 A3 Au Av : Option Addr} {nu jB n2 k2 n3 k3 ku kv gx k tn : Nat} {L D Bg En : Int} {x5 x6 x7 x8 : Value}
    (K : Act → World → Prop) (hK : ∀ a W, Code.wp Try.prog (restC 29 Try.f3) (bodyPost Try.prog Try.f3 fun e w' => e = .returned (.bool true) ∧ Later w w') a W → K a W) (hLa : Later w x0)
    (hcv : CV x0 (setH h t) B nu A2 n2 A3 n3) (hx : Blk x0 gx 28 #[.int .i64 h.hour, .int .i64 h.grace, .slice B nu jB, .slice A2 n2 k2, .slice A3 n3 k3, x5, x6, x7, x8])
    (hru : RI x0 Au 1 [(tn : Int)]) (hrv : RI x0 Av 1 [D]) (okh : OkH h) (hnu : nu ≤ 4) (bL : 0 ≤ L ∧ L ≤ 240)
    (hlaw : fault (washH h t tn k Bg En) = 0 → WashFacts (washH h t tn k Bg En) h.tickets.length tn (hoursV h L) D) :
    Code.wp Try.prog (headC 29 Try.f3) (Exit.then K (bodyPost Try.prog Try.f3 fun e w' => e = .returned (.bool true) ∧ Later w w')) ⟨#[u0, u1, u2, u3, u4, u5, u6, u7, u8, .pointer (some ⟨gx, 0, none⟩), u10, u11, u12, u13, u14, u15, u16, .slice Au 1 ku, .slice Av 1 kv, u19, .int .i64 L, .int .i64 (k : Int), .int .i64 Bg, .int .i64 En, u24, u25, u26, u27, u28, u29, u30, u31, u32, u33, u34, u35, u36, u37, u38, u39, u40, u41, u42, u43, u44, u45, u46, u47, u48, u49, u50, u51, u52, u53, u54, u55, u56, u57, u58, u59, u60, u61, u62, u63, u64, u65, u66, u67, u68, u69, u70, u71, u72, u73, u74, u75, u76, u77, u78, u79, u80, u81, u82, u83, u84, u85, u86, u87, u88, u89, u90, u91, u92, u93, u94, u95, u96, u97, u98, u99, u100, u101, u102, u103, u104, u105, u106, u107, u108, u109, u110, u111, u112, u113, u114, u115, u116, u117, u118, u119, u120, u121, u122, u123, u124, u125, u126, u127, u128, u129, u130, u131, u132, u133, u134, u135, u136, u137, u138, u139, u140, u141, u142, u143, u144, u145, u146, u147, u148, u149, u150, u151, u152, u153, u154, u155, u156, u157, u158, u159, u160, u161, u162, u163, u164, u165, u166, u167, u168, u169, u170, u171, u172, u173, u174, u175, u176, u177, u178, u179, u180, u181, u182, u183, u184, u185, u186, u187, u188, u189, u190, u191, u192, u193, u194, u195, u196, u197, u198, u199, u200, u201, u202, u203, u204, u205, u206, u207, u208, u209, u210, u211, u212, u213, u214, u215, u216, u217, u218, u219, u220, u221, u222, u223, u224, u225, u226, u227, u228, u229, u230, u231, u232, u233, u234, u235, u236, u237, u238, u239, u240, u241, u242, u243, u244, u245, u246, u247, u248, u249, u250, u251, u252, u253, u254, u255, u256, u257, u258, u259, u260, u261, u262, u263, u264, u265, u266, u267, u268, u269, u270, u271, u272, u273, u274, u275, u276, u277, u278, u279, u280, u281, u282, u283, u284, u285, u286, u287, u288, u289, u290, u291, u292, u293, u294, u295, u296, u297, u298, u299, u300], []⟩ x0 := by
  have hK2 : ∀ a W, Code.wp Try.prog (Code.seq _ _) (bodyPost Try.prog Try.f3 fun e w' => e = .returned (.bool true) ∧ Later w w') a W → K a W := hK
  clear hK
  show Code.wp Try.prog (Code.region _ _ _) _ _ _
  have q0 := (hx.cell 0).trans (show _ = some (Value.int .i64 h.hour) from rfl)
  have q1 := (hx.cell 1).trans (show _ = some (Value.int .i64 h.grace) from rfl)
  have q2 := (hx.cell 2).trans (show _ = some (Value.slice B nu jB) from rfl)
  have q3 := (hx.cell 3).trans (show _ = some (Value.slice A2 n2 k2) from rfl)
  have q4 := (hx.cell 4).trans (show _ = some (Value.slice A3 n3 k3) from rfl)
  have hn2 : n2 = h.tickets.length := hcv.tk.len
  have hn3 : n3 = h.clips.length := hcv.cp.len
  have l2 : n2 ≤ 6 := by have := okh.n2; omega
  have l3 : n3 ≤ 10 := by have := okh.n3; omega
  obtain ⟨w1, hw1⟩ : ∃ X, X = x0.alloc (.cells #[.int .i64 h.hour, .int .i64 h.grace, .slice B nu jB, .slice A2 n2 k2, .slice A3 n3 k3] 26) := ⟨_, rfl⟩
  obtain ⟨gy, hgy⟩ : ∃ g, g = x0.heap.size := ⟨_, rfl⟩
  have hb1 : Blk w1 gy 26 #[.int .i64 h.hour, .int .i64 h.grace, .slice B nu jB, .slice A2 n2 k2, .slice A3 n3 k3] := by rw [hw1, hgy]; exact Blk.new _ _ _
  have hL1 : Later x0 w1 := by rw [hw1]; exact later_alloc (later_refl _) _
  have hlo : x0.heap.size ≤ gy := by omega
  have hl3 : (pairsV h.tickets).length = n2 * 2 := by rw [pairsV_length]; omega
  have hl4 : (clipsV h.clips).length = n3 * 3 := by rw [clipsV_length]; omega
  have Hw1 := hide hw1
  have Hgy := hide hgy
  have Hb1 := hide hb1
  have Hl3 := hide hl3
  have Hl4 := hide hl4
  have Hn2 := hide hn2
  have Hn3 := hide hn3
  have Hlaw := hide hlaw
  clear hw1 hgy hb1 hl3 hl4 hlaw hx hn2 hn3
  go_upto_region 30 with fail
  rw [← Hw1.out, ← Hgy.out]
  clear q0 q1 q2 q3 q4
  have c3 := fun X (h : Later w1 X) => ((Hb1.out.later h).cell 3).trans (show _ = some (Value.slice A2 n2 k2) from rfl)
  have c3w := c3 w1 (later_refl _)
  go_upto_region 31 with fail
  clear c3w
  obtain ⟨bu, ou, xu, rfl, _, hxu, hxu0⟩ := hru.get (k := 0) (by omega)
  simp only [List.getElem?_cons_zero, Option.some.injEq] at hxu
  subst hxu
  obtain ⟨bv, ov, xv, rfl, _, hxv, hxv0⟩ := hrv.get (k := 0) (by omega)
  simp only [List.getElem?_cons_zero, Option.some.injEq] at hxv
  subst hxv
  simp only [Nat.add_zero, Nat.zero_mul] at hxu0 hxv0
  have hxu1 := fun X (h : Later w1 X) => hxu0 X (Later.trans hL1 h)
  have hS1 : Later w1 w1.drew := later_drew (later_refl _)
  refine wp_region_lin (w0 := w1) 9 [] rely_later (by kernel_rfl) (by kernel_rfl) (by kernel_rfl) (by kernel_rfl) (hS1) (.inl rfl) ?_
  simp only [List.take_succ_cons, List.take_zero, List.drop_succ_cons, List.drop_zero]
  refine lin_any (IsNil0 w1.heap.size 58) false (fun v W W' k h => IsNil0.later h k) (F' := ?_) (by rfl) (fun _ => by rfl) ?_ ?_ ?_
  rotate_left 1
  focus (intro xs X hX hdep; skip; clear hdep; intro K hK; (try dsimp only); go_simp; (exact hK.out _ _ rfl (later_alloc (later_refl _) _) ⟨_, rfl, Blk.new _ _ _, hX.size⟩ (fun h => by cases h)))
  focus (intro xs; (try simp only [Act.put, List.setIfInBounds_toArray, List.set_cons_zero, List.set_cons_succ, Nat.reduceAdd]); rfl)
  refine lin_det (v := ?_) (F' := ?_) (by rfl) (fun _ => by rfl) ?_ ?_ ?_
  rotate_left 2
  focus (intro xs X hX hdep; clear hdep; (try dsimp only); go_simp; (try (first | with_reducible rfl | exact ⟨rfl, rfl⟩ | (fail))))
  focus (intro xs; (try simp only [Act.put, List.setIfInBounds_toArray, List.set_cons_zero, List.set_cons_succ, Nat.reduceAdd]); rfl)
  refine lin_det (v := ?_) (F' := ?_) (by rfl) (fun _ => by rfl) ?_ ?_ ?_
  rotate_left 2
  focus (intro xs X hX hdep; clear hdep; (try dsimp only); go_simp; (try (first | with_reducible rfl | exact ⟨rfl, rfl⟩ | (fail))))
  focus (intro xs; (try simp only [Act.put, List.setIfInBounds_toArray, List.set_cons_zero, List.set_cons_succ, Nat.reduceAdd]); rfl)
  refine lin_any (IsRow w1.heap.size 58 2 n2 (pairsV h.tickets)) false (fun v W W' k h => IsRow.later h k) (F' := ?_) (by rfl) (fun _ => by rfl) ?_ ?_ ?_
  rotate_left 1
  focus (intro xs X hX hdep; obtain ⟨g, e0, hbk, hbg⟩ := (show IsNil0 _ _ _ _ from hdep 0 1 (by kernel_rfl)); clear hdep; intro K hK; (try dsimp only); (refine app0_wp w1.heap.size _ _ 23 rfl rfl 58 (.agg #[.int .i64 0, .int .i64 0]) 2 16 Try.underlying23 rticket_info rfl (by omega) g (by exact e0) hbk hbg A2 n2 k2 (pairsV h.tickets) rfl Hl3.out (reads_cells (hcv.later (Later.trans hL1 hX)).tk) (reads_none hcv.tk) (pairs_one _) (by unfold maxLen; omega) (by omega) (fun v' w' hL hown => ?_); obtain ⟨A, k, rfl, _⟩ := own_slice (w0 := w1) hown; exact hK.out _ _ rfl hL ⟨A, k, rfl, hown⟩ (fun h => by cases h)))
  focus (intro xs; (try simp only [Act.put, List.setIfInBounds_toArray, List.set_cons_zero, List.set_cons_succ, Nat.reduceAdd]); rfl)
  refine lin_det (v := ?_) (F' := ?_) (by rfl) (fun _ => by rfl) ?_ ?_ ?_
  rotate_left 2
  focus (intro xs X hX hdep; clear hdep; (try dsimp only); go_simp; (try (first | with_reducible rfl | exact ⟨rfl, rfl⟩ | (fail))))
  focus (intro xs; (try simp only [Act.put, List.setIfInBounds_toArray, List.set_cons_zero, List.set_cons_succ, Nat.reduceAdd]); rfl)
  refine lin_det (v := ?_) (F' := ?_) (by rfl) (fun _ => by rfl) ?_ ?_ ?_
  rotate_left 2
  focus (intro xs X hX hdep; clear hdep; (try dsimp only); go_simp; (try (first | with_reducible rfl | exact ⟨rfl, rfl⟩ | (fail))))
  focus (intro xs; (try simp only [Act.put, List.setIfInBounds_toArray, List.set_cons_zero, List.set_cons_succ, Nat.reduceAdd]); rfl)
  refine lin_det (v := ?_) (F' := ?_) (by rfl) (fun _ => by rfl) ?_ ?_ ?_
  rotate_left 2
  focus (intro xs X hX hdep; clear hdep; (try dsimp only); go_simp; (try (first | with_reducible rfl | exact ⟨rfl, rfl⟩ | (fail))))
  focus (intro xs; (try simp only [Act.put, List.setIfInBounds_toArray, List.set_cons_zero, List.set_cons_succ, Nat.reduceAdd]); rfl)
  refine lin_det (v := ?_) (F' := ?_) (by rfl) (fun _ => by rfl) ?_ ?_ ?_
  rotate_left 2
  focus (intro xs X hX hdep; clear hdep; (try dsimp only); go_simp; (try (first | with_reducible rfl | exact ⟨rfl, rfl⟩ | (fail))))
  focus (intro xs; (try simp only [Act.put, List.setIfInBounds_toArray, List.set_cons_zero, List.set_cons_succ, Nat.reduceAdd]); rfl)
  refine lin_any (IsNew 58 [.int .i64 (tn : Int), .int .i64 9]) false (fun v W W' k h => IsNew.later h k) (F' := ?_) (by rfl) (fun _ => by rfl) ?_ ?_ ?_
  rotate_left 1
  focus (intro xs X hX hdep; skip; clear hdep; intro K hK; (try dsimp only); go_simp; (exact hK.out _ _ rfl (later_alloc (later_refl _) _) ⟨_, rfl, Blk.new _ _ _⟩ (fun h => by cases h)))
  focus (intro xs; (try simp only [Act.put, List.setIfInBounds_toArray, List.set_cons_zero, List.set_cons_succ, Nat.reduceAdd]); rfl)
  intro xs w2 hW hf hfr hfb
  obtain ⟨Ar, kr, hx3, hor⟩ := (show IsRow _ _ _ _ _ _ _ from hf 3)
  obtain ⟨gn, hx8, hbn⟩ := (show IsNew _ _ _ _ from hf 8)
  simp only [hx3, hx8, Nat.reduceAdd, Nat.zero_add]
  clear hf hfr hfb hx3 hx8
  have hb2 := Hb1.out.later hW
  have hsz2 := hW.size
  have Hor := hide hor
  have Hbn := hide hbn
  have Hb2 := hide hb2
  clear hor hbn hb2
  go_wp2_with (at_builtin; refine appG rfl w1.heap.size _ _ 23 rfl 58 (.agg #[.int .i64 0, .int .i64 0]) 2 16 Try.underlying23 rticket_info rfl (by omega) _ n2 (pairsV h.tickets) rfl hsz2 Hor.out ⟨gn, 0, none⟩ 1 1 [.int .i64 (tn : Int), .int .i64 9] rfl rfl Hbn.out.one (by simp [Value.oneCell']) (by omega) (by omega) (by omega) ?_)
  intro v' w3 hap
  have hr : w3.ownsRow w1.heap.size 58 2 v' (n2 + 1) (pairsV h.tickets ++ [.int .i64 (tn : Int), .int .i64 9]) := hap.own
  obtain ⟨gt, kt, rfl⟩ := own_form hr (by omega)
  have hM3 : Later w1 w3 := Later.grown hW hap.grown (fun g hg => (Hor.out.lt g hg).1)
  have hgyl : gy < w1.heap.size := Hb1.out.lt
  have hb3 := Blk.of_eq (hap.grown.block gy Hb2.out.lt (fun e => by have := (Hor.out.lt gy e.symm).1; omega)) Hb2.out
  have c3 := (hb3.cell 3).trans (show _ = some (Value.slice A2 n2 k2) from rfl)
  have f3 := hb3.frozen 3
  have hgty : gt ≠ gy := fun e => by have := (hr.lt gt rfl).1; omega
  obtain ⟨w4, hw4⟩ : ∃ X, X = w3.setCell ⟨gy, 3, none⟩ (.slice (some ⟨gt, 0, none⟩) (n2 + 1) kt) := ⟨_, rfl⟩
  have hb4 : Blk w4 gy 26 #[.int .i64 h.hour, .int .i64 h.grace, .slice B nu jB, .slice (some ⟨gt, 0, none⟩) (n2 + 1) kt, .slice A3 n3 k3] := by rw [hw4]; exact hb3.set_ 3 _
  have hr4 : w4.ownsRow w1.heap.size 58 2 (.slice (some ⟨gt, 0, none⟩) (n2 + 1) kt) (n2 + 1) (pairsV h.tickets ++ [.int .i64 (tn : Int), .int .i64 9]) := by
    rw [hw4]; exact own_block hr (fun g hg => Below.heap_setCell _ _ _ g (by injection hg with hg; show g ≠ gy; exact fun e => hgty (hg.trans e)))
  have hL4 : Later x0 w4 := by rw [hw4]; exact later_set (Later.trans hL1 hM3) _ hlo _
  have Hw4 := hide hw4
  have Hr4 := hide hr4
  have Hb4 := hide hb4
  clear hap hr hb3 hw4 hr4 hb4 hxu1 hW hM3 hsz2 Hor Hbn Hb2
  go_upto_region 32 with fail
  rw [← Hw4.out]
  clear c3 f3 Hw4
  have hLz := later_alloc (later_refl w4) (.cells #[] 60)
  have hnew := Blk.new w4 60 #[]
  have c4 := ((Hb4.out.later hLz).cell 4).trans (show _ = some (Value.slice A3 n3 k3) from rfl)
  have HLz := hide hLz
  have Hnew := hide hnew
  clear hLz hnew
  go_wp2_with (at_builtin; go_loud (refine app0 rfl w4.heap.size _ _ 24 rfl 60 (.agg #[.int .i64 0, .int .i64 0, .int .i64 0]) 3 24 Try.underlying24 wclip_info rfl (by omega) w4.heap.size rfl Hnew.out (Nat.le_refl _) A3 n3 k3 (clipsV h.clips) rfl Hl4.out (reads_cells (hcv.later (Later.trans hL4 HLz.out)).cp) (reads_none hcv.cp) (clips_one _) (by unfold maxLen; omega) (by omega) ?_))
  intro v5 w5 hM5 hown5
  obtain ⟨Ac, kc, rfl, _⟩ := own_slice (w0 := w4) hown5
  have hM45 := Later.trans HLz.out hM5
  have hM6 := later_alloc hM45 (.cells #[.int .i64 n2, .int .i64 k, .int .i64 Bg, .int .i64 n2, .int .i64 k, .int .i64 En] 60)
  have ho6 := own_laterb hown5 (later_alloc (later_refl w5) (.cells #[.int .i64 n2, .int .i64 k, .int .i64 Bg, .int .i64 n2, .int .i64 k, .int .i64 En] 60))
  have hbn := Blk.new w5 60 [Value.int .i64 (n2 : Int), .int .i64 (k : Int), .int .i64 Bg, .int .i64 (n2 : Int), .int .i64 (k : Int), .int .i64 En].toArray
  have HM6 := hide hM6
  have Ho6 := hide ho6
  have Hbn := hide hbn
  clear hown5 ho6 hbn hM6 c4 hM5
  go_wp2_with (at_builtin; go_loud (refine appG rfl w4.heap.size _ _ 24 rfl 60 (.agg #[.int .i64 0, .int .i64 0, .int .i64 0]) 3 24 Try.underlying24 wclip_info rfl (by omega) _ n3 (clipsV h.clips) rfl HM6.out.size Ho6.out ⟨w5.heap.size, 0, none⟩ 2 2 [.int .i64 (n2 : Int), .int .i64 (k : Int), .int .i64 Bg, .int .i64 (n2 : Int), .int .i64 (k : Int), .int .i64 En] rfl rfl Hbn.out.one (by simp [Value.oneCell']) (by omega) (by omega) (by omega) ?_))
  intro v7 w7 hap
  have hr : w7.ownsRow w4.heap.size 60 3 v7 (n3 + 2) (clipsV h.clips ++ [.int .i64 (n2 : Int), .int .i64 (k : Int), .int .i64 Bg, .int .i64 (n2 : Int), .int .i64 (k : Int), .int .i64 En]) := hap.own
  obtain ⟨gc, kc', rfl⟩ := own_form hr (by omega)
  have hM7 : Later w4 w7 := Later.grown HM6.out hap.grown (fun g hg => (Ho6.out.lt g hg).1)
  have hb7 := Hb4.out.later hM7
  have hr7 := own_laterb Hr4.out hM7
  have c4 := (hb7.cell 4).trans (show _ = some (Value.slice A3 n3 k3) from rfl)
  have f4 := hb7.frozen 4
  have hgyl4 : gy < w4.heap.size := Hb4.out.lt
  have hgcy : gc ≠ gy := fun e => by have := (hr.lt gc rfl).1; omega
  obtain ⟨w8, hw8⟩ : ∃ X, X = w7.setCell ⟨gy, 4, none⟩ (.slice (some ⟨gc, 0, none⟩) (n3 + 2) kc') := ⟨_, rfl⟩
  obtain ⟨Y, hY⟩ : ∃ Y, washH h t tn k Bg En = Y := ⟨_, rfl⟩
  have hYh : Y.hour = h.hour := by rw [← hY]; rfl
  have hYg : Y.grace = h.grace := by rw [← hY]; rfl
  have hb8 : Blk w8 gy 26 #[.int .i64 Y.hour, .int .i64 Y.grace, .slice B nu jB, .slice (some ⟨gt, 0, none⟩) (n2 + 1) kt, .slice (some ⟨gc, 0, none⟩) (n3 + 2) kc'] := by rw [hYh, hYg, hw8]; exact hb7.set_ 4 _
  have hL8 : Later x0 w8 := by rw [hw8]; exact later_set (Later.trans hL4 hM7) _ hlo _
  have hrt : RP w8 (some ⟨gt, 0, none⟩) (n2 + 1) Y.tickets := by
    have h1 := own_block (W' := w8) hr7 (fun g hg => by rw [hw8]; exact Below.heap_setCell _ _ _ g (by injection hg with hg; show g ≠ gy; exact fun e => hgty (hg.trans e)))
    rw [← hY]
    show RP w8 _ _ (h.tickets ++ [((tn : Int), 9)])
    have e : pairsV (h.tickets ++ [((tn : Int), (9 : Int))]) = pairsV h.tickets ++ [.int .i64 (tn : Int), .int .i64 9] := pairsV_one _ _
    unfold RP
    rw [e]
    exact Reads.of_own h1
  have hrc : RC w8 (some ⟨gc, 0, none⟩) (n3 + 2) Y.clips := by
    have h1 := own_block (W' := w8) hr (fun g hg => by rw [hw8]; exact Below.heap_setCell _ _ _ g (by injection hg with hg; show g ≠ gy; exact fun e => hgcy (hg.trans e)))
    rw [← hY]
    show RC w8 _ _ (h.clips ++ [⟨(h.tickets.length : Int), (k : Int), Bg⟩, ⟨(h.tickets.length : Int), (k : Int), En⟩])
    have e : clipsV (h.clips ++ [⟨(h.tickets.length : Int), (k : Int), Bg⟩, ⟨(h.tickets.length : Int), (k : Int), En⟩]) = clipsV h.clips ++ [.int .i64 (n2 : Int), .int .i64 (k : Int), .int .i64 Bg, .int .i64 (n2 : Int), .int .i64 (k : Int), .int .i64 En] := by
      rw [← Hn2.out]; simp [clipsV, Cp.cells]
    unfold RC
    rw [e]
    exact Reads.of_own h1
  have hck : RP w8 B nu Y.clocks := by rw [← hY]; exact (hcv.later hL8).ck
  have hcy : CV w8 Y B nu (some ⟨gt, 0, none⟩) (n2 + 1) (some ⟨gc, 0, none⟩) (n3 + 2) := ⟨hck, hrt, hrc⟩
  have hlaw := Hlaw.out
  rw [hY, ← Hn2.out] at hlaw
  have d0 := (hb8.cell 0).trans (show _ = some (Value.int .i64 Y.hour) from rfl)
  have d1 := (hb8.cell 1).trans (show _ = some (Value.int .i64 Y.grace) from rfl)
  have d2 := (hb8.cell 2).trans (show _ = some (Value.slice B nu jB) from rfl)
  have d3 := (hb8.cell 3).trans (show _ = some (Value.slice (some ⟨gt, 0, none⟩) (n2 + 1) kt) from rfl)
  have d4 := (hb8.cell 4).trans (show _ = some (Value.slice (some ⟨gc, 0, none⟩) (n3 + 2) kc') from rfl)
  have Hw8 := hide hw8
  have hLa8 := Later.trans hLa hL8
  clear hap hr hb7 hr7 hw8 hrt hrc hck hY hM45 Ho6 Hbn HM6 Hnew HLz Hr4 Hb4 Hlaw hgyl hgyl4
  go_upto_region 33 with fail
  rw [← Hw8.out]
  clear f4 c4 Hw8
  have hl1 : nu ≤ 1000 := by omega
  have hl2 : n2 + 1 ≤ 1000 := by omega
  have hl3 : n3 + 2 ≤ 1000 := by omega
  have hfc := Fault_calls (c := Y) (k1 := jB) (k2 := kt) (k3 := kc') w8 hcy hl1 hl2 hl3
  obtain ⟨q, hq⟩ : ∃ q, fault Y = q := ⟨_, rfl⟩
  rw [hq] at hfc hlaw
  have Hfc := hide hfc
  have Hcy := hide hcy
  have Hb8 := hide hb8
  have HYh := hide hYh
  have HYg := hide hYg
  have hl8 := later_refl w8
  clear hfc hq hcy hb8 hYh hYg
  by_cases h0 : q = 0
  · subst h0
    have hlw := hlaw rfl
    have Hlw := hide hlw
    clear hlaw hlw
    go_wp2_with fail
    refine Hfc.out.mono ?_
    rintro e w9 ⟨rfl, hL9⟩
    go_upto_region 35 with fail
    have hL09 := Later.trans hL8 hL9
    refine washD (Y := Y) (kt := kt) (kc' := kc') (jB := jB) w w9 _ ?_ (Later.trans hLa8 hL9) (Hcy.out.later hL9) (Hb8.out.later hL9) (hru.later hL09) (hrv.later hL09) okh HYh.out HYg.out hnu l2 l3 bL Hlw.out
    assumption
  · have hqb : (q != 0) = true := by simpa using h0
    clear hlaw
    go_wp2_with fail
    refine Hfc.out.mono ?_
    rintro e w9 ⟨rfl, hL9⟩
    go_wp2_with fail
    refine (washed_calls _).mono ?_
    rintro e wa ⟨rfl, hLb⟩
    go_wp2_with fail
    go_ret
    exact ⟨rfl, Later.trans hLa8 (Later.trans hL9 hLb)⟩
end Go.Proofs.Ytcffgjhmpgdfpaa

/- TopWashed: Play of the first woman, and what her ticket is clipped with: walk. -/
namespace Go.Proofs.Ytcffgjhmpgdfpaa
open Go Go.RowKit
theorem ri_new (W : World) (n : Int) : RI (W.alloc (.cells #[.int .i64 n] 3)) (some ⟨W.heap.size, 0, none⟩) 1 [n] :=
  ureads (Blk.new W 3 #[.int .i64 n]) (xs := ints [n]) rfl fun j u hu => by simpa [ints] using hu
/-- v is a Floor of the program that reads as f -/
def IsFlo (f : Flo) (n1 n2 n3 nq : Nat) (a b c d e : Int) (v : Value) (W : World) : Prop :=
  ∃ B1 j1 B2 j2 B3 j3 Bq jq, v = .agg #[.int .i64 a, .int .i64 b, .slice B1 n1 j1, .slice B2 n2 j2, .slice B3 n3 j3, .int .i64 c, .int .i64 d, .int .i64 e, .slice Bq nq jq] ∧ FV W f B1 n1 B2 n2 B3 n3 Bq nq
theorem IsFlo.later {f : Flo} {n1 n2 n3 nq : Nat} {a b c d e : Int} {v : Value} {W W' : World} (h : IsFlo f n1 n2 n3 nq a b c d e v W) (k : Later W W') : IsFlo f n1 n2 n3 nq a b c d e v W' :=
  let ⟨B1, j1, B2, j2, B3, j3, Bq, jq, e, h⟩ := h; ⟨B1, j1, B2, j2, B3, j3, Bq, jq, e, h.later k⟩
/-- v is the answer of Play: two lists of one number -/
def IsPlay (a b : Int) (v : Value) (W : World) : Prop := ∃ A k B j, v = .tuple #[.slice A 1 k, .slice B 1 j, .int .i64 0] ∧ RI W A 1 [a] ∧ RI W B 1 [b]
theorem IsPlay.later {a b : Int} {v : Value} {W W' : World} (h : IsPlay a b v W) (k : Later W W') : IsPlay a b v W' := let ⟨A, i, B, j, e, h1, h2⟩ := h; ⟨A, i, B, j, e, h1.later k, h2.later k⟩
theorem ri_blk {W : World} {g : Nat} {n : Int} (h : Blk W g 3 [Value.int .i64 n].toArray) : RI W (some ⟨g, 0, none⟩) 1 [n] := ureads h (xs := ints [n]) rfl fun j u hu => by simpa [ints] using hu
attribute [local go_sem] later_alloc2 later_alloc3 later_alloc4
set_option maxRecDepth 100000 in
set_option maxHeartbeats 10000000 in
theorem washB2 (w w3 : World) {u0 u1 u4 u5 u6 u7 u10 u11 u12 u13 u15 u16 u17 u18 u19 u20 u21 u22 u23 u24 u25 u26 u27 u28 u29 u30 u31 u32 u33 u34 u35 u36 u37 u38 u39 u40 u41 u42 u43 u44 u45 u46 u47 u48 u49 u50 u51 u52 u53 u54 u55 u56 u57 u58 u59 u60 u61 u62 u63 u64 u65 u66 u67 u68 u69 u70 u71 u72 u73 u74 u75 u76 u77 u78 u79 u80 u81 u82 u83 u84 u85 u86 u87 u88 u89 u90 u91 u92 u93 u94 u95 u96 u97 u98 u99 u100 u101 u102 u103 u104 u105 u106 u107 u108 u109 u110 u111 u112 u113 u114 u115 u116 u117 u118 u119 u120 u121 u122 u123 u124 u125 u126 u127 u128 u129 u130 u131 u132 u133 u134 u135 u136 u137 u138 u139 u140 u141 u142 u143 u144 u145 u146 u147 u148 u149 u150 u151 u152 u153 u154 u155 u156 u157 u158 u159 u160 u161 u162 u163 u164 u165 u166 u167 u168 u169 u170 u171 u172 u173 u174 u175 u176 u177 u178 u179 u180 u181 u182 u183 u184 u185 u186 u187 u188 u189 u190 u191 u192 u193 u194 u195 u196 u197 u198 u199 u200 u201 u202 u203 u204 u205 u206 u207 u208 u209 u210 u211 u212 u213 u214 u215 u216 u217 u218 u219 u220 u221 u222 u223 u224 u225 u226 u227 u228 u229 u230 u231 u232 u233 u234 u235 u236 u237 u238 u239 u240 u241 u242 u243 u244 u245 u246 u247 u248 u249 u250 u251 u252 u253 u254 u255 u256 u257 u258 u259 u260 u261 u262 u263 u264 u265 u266 u267 u268 u269 u270 u271 u272 u273 u274 u275 u276 u277 u278 u279 u280 u281 u282 u283 u284 u285 u286 u287 u288 u289 u290 u291 u292 u293 u294 u295 u296 u297 u298 u299 u300 : Value} {f : Flo} {t frm : List Int} {A1 B A2 A3 Aq At Av Bv : Option Addr} {n1 k1 nu jB n2 k2 n3 k3 nq kq nt kt m kw jv gf gx gu p : Nat}
    (K : Act → World → Prop) (hK : ∀ a W, Code.wp Try.prog (restC 23 Try.f3) (bodyPost Try.prog Try.f3 fun e w' => e = .returned (.bool true) ∧ Later w w') a W → K a W) (hLa : Later w w3)
    (hcf3 : FV w3 f A1 n1 A2 n2 A3 n3 Aq nq) (hcx3 : FV w3 (setF f t) B nu A2 n2 A3 n3 Aq nq)
    (hbf : Blk w3 gf 28 #[.int .i64 f.house.hour, .int .i64 f.house.grace, .slice A1 n1 k1, .slice A2 n2 k2, .slice A3 n3 k3, .int .i64 f.tubs, .int .i64 f.opn, .int .i64 f.closing, .slice Aq nq kq]) (hbx3 : Blk w3 gx 28 #[.int .i64 f.house.hour, .int .i64 f.house.grace, .slice B nu jB, .slice A2 n2 k2, .slice A3 n3 k3, .int .i64 f.tubs, .int .i64 f.opn, .int .i64 f.closing, .slice Aq nq kq])
    (hbk : Blk w3 gu 51 #[.slice Av m kw, .slice Bv nq jv]) (hfrm : lows (givenR (setF f t)) = frm) (hr1 : RI w3 Av m frm) (hr2 : RI w3 Bv nq (lows f.queue))
    (hrt : RI w3 At nt t) (ok : OkF f) (ht : t ∈ truths f.house) (hg : givenT f ≠ []) (hM : ∀ i, i < f.house.clips.length → trueM f.house t i ≤ f.opn) (hq0 : 0 < nq) (ht0 : 0 < nt) (hp : p < 256) :
    Code.wp Try.prog (headC 23 Try.f3) (Exit.then K (bodyPost Try.prog Try.f3 fun e w' => e = .returned (.bool true) ∧ Later w w')) ⟨#[u0, u1, .int .u8 (p : Int), .pointer (some ⟨gf, 0, none⟩), u4, u5, u6, u7, .slice At nt kt, .pointer (some ⟨gx, 0, none⟩), u10, u11, u12, u13, .pointer (some ⟨gu, 0, none⟩), u15, u16, u17, u18, u19, u20, u21, u22, u23, u24, u25, u26, u27, u28, u29, u30, u31, u32, u33, u34, u35, u36, u37, u38, u39, u40, u41, u42, u43, u44, u45, u46, u47, u48, u49, u50, u51, u52, u53, u54, u55, u56, u57, u58, u59, u60, u61, u62, u63, u64, u65, u66, u67, u68, u69, u70, u71, u72, u73, u74, u75, u76, u77, u78, u79, u80, u81, u82, u83, u84, u85, u86, u87, u88, u89, u90, u91, u92, u93, u94, u95, u96, u97, u98, u99, u100, u101, u102, u103, u104, u105, u106, u107, u108, u109, u110, u111, u112, u113, u114, u115, u116, u117, u118, u119, u120, u121, u122, u123, u124, u125, u126, u127, u128, u129, u130, u131, u132, u133, u134, u135, u136, u137, u138, u139, u140, u141, u142, u143, u144, u145, u146, u147, u148, u149, u150, u151, u152, u153, u154, u155, u156, u157, u158, u159, u160, u161, u162, u163, u164, u165, u166, u167, u168, u169, u170, u171, u172, u173, u174, u175, u176, u177, u178, u179, u180, u181, u182, u183, u184, u185, u186, u187, u188, u189, u190, u191, u192, u193, u194, u195, u196, u197, u198, u199, u200, u201, u202, u203, u204, u205, u206, u207, u208, u209, u210, u211, u212, u213, u214, u215, u216, u217, u218, u219, u220, u221, u222, u223, u224, u225, u226, u227, u228, u229, u230, u231, u232, u233, u234, u235, u236, u237, u238, u239, u240, u241, u242, u243, u244, u245, u246, u247, u248, u249, u250, u251, u252, u253, u254, u255, u256, u257, u258, u259, u260, u261, u262, u263, u264, u265, u266, u267, u268, u269, u270, u271, u272, u273, u274, u275, u276, u277, u278, u279, u280, u281, u282, u283, u284, u285, u286, u287, u288, u289, u290, u291, u292, u293, u294, u295, u296, u297, u298, u299, u300], []⟩ w3 := by
  have hK2 : ∀ a W, Code.wp Try.prog (Code.seq _ _) (bodyPost Try.prog Try.f3 fun e w' => e = .returned (.bool true) ∧ Later w w') a W → K a W := hK
  clear hK
  show Code.wp Try.prog (Code.region _ _ _) _ _ _
  dsimp only
  have Hfrm := hide hfrm
  have Hbk := hide hbk
  clear hfrm hbk
  have okx := setF_ok ok ht
  have hnq5 : nq ≤ 5 := by have := ok.queue; have := hcf3.q.len; omega
  obtain ⟨bq, oq, yq, rfl, _, hyq, hyq0, _⟩ := hcf3.q.get hq0
  simp only [Nat.zero_mul, Nat.add_zero] at hyq0
  obtain ⟨L, hLe⟩ : ∃ L, yq.1 = L := ⟨_, rfl⟩
  rw [hLe] at hyq0
  have h0 : (lows f.queue)[0]? = some L := by unfold lows; rw [List.getElem?_map, hyq, ← hLe]; rfl
  have hLr : 0 ≤ L ∧ L ≤ 240 := by have := ok.wash yq (List.mem_of_getElem? hyq); omega
  have hask : askF (setF f t) = 0 := by rw [askF_setF ok ht, if_neg hg]
  have ha1 : areErrors (givenR (setF f t)) frm = true := by rw [← Hfrm.out]; exact areErrors_lows _ (fun r hr => (givenR_range okx r hr).2.1)
  have ha2 : areErrors (setF f t).queue (lows f.queue) = true := areErrors_lows f.queue (fun r hr => (ok.wash r hr).2.1)
  have hn1 : nu ≤ 1000 := by have h1 := (okH_of_fault okx.house).n1; have h2 := hcx3.cv.ck.len; omega
  have hn2 : n2 ≤ 1000 := by have h1 := (okH_of_fault okx.house).n2; have h2 := hcx3.cv.tk.len; omega
  have hn3 : n3 ≤ 1000 := by have h1 := (okH_of_fault okx.house).n3; have h2 := hcx3.cv.cp.len; omega
  have hpl : ∀ (B1 B2 B3 Bq Au Am Ao : Option Addr) (j1 j2 j3 jq ku km ko : Nat) (W : World) (h : FV W (setF f t) B1 nu B2 n2 B3 n3 Bq nq) (hu : RI W Au m frm) (hm : RI W Am nq (lows f.queue)) (ho : RI W Ao 1 [0]),
      Calls Try.prog 12 #[(.agg #[.int .i64 f.house.hour, .int .i64 f.house.grace, .slice B1 nu j1, .slice B2 n2 j2, .slice B3 n3 j3, .int .i64 f.tubs, .int .i64 f.opn, .int .i64 f.closing, .slice Bq nq jq]), .agg #[.slice Au m ku, .slice Am nq km], .slice Ao 1 ko] W (PlayOne (setF f t) frm L W) := fun B1 B2 B3 Bq Au Am Ao j1 j2 j3 jq ku km ko W h hu hm ho =>
    Play_one (f := setF f t) (k1 := j1) (k2 := j2) (k3 := j3) (kq := jq) (ku := ku) (km := km) (ko := ko) W h hn1 hn2 hn3 (by omega) hq0 hu hm ho hask ha1 ha2 h0
  unfold PlayOne at hpl
  obtain ⟨tn, htn⟩ : ∃ n, (givenT f).getD (argMin frm) 0 = n := ⟨_, rfl⟩
  obtain ⟨M, hMe⟩ : ∃ n, minL frm = n := ⟨_, rfl⟩
  rw [show givenT (setF f t) = givenT f from rfl, htn, hMe] at hpl
  obtain ⟨D, hD⟩ : ∃ D, M + L = D := ⟨_, rfl⟩
  rw [hD] at hpl
  have hfl : ∀ (W : World) (h : FV W (setF f t) B nu A2 n2 A3 n3 (some ⟨bq, oq, none⟩) nq), Calls Try.prog 11 #[(.agg #[.int .i64 f.house.hour, .int .i64 f.house.grace, .slice B nu jB, .slice A2 n2 k2, .slice A3 n3 k3, .int .i64 f.tubs, .int .i64 f.opn, .int .i64 f.closing, .slice (some ⟨bq, oq, none⟩) nq kq])] W fun e w' => ∃ B1 j1 B2 j2 B3 j3 Bq jq, e = .returned (.agg #[.int .i64 f.house.hour, .int .i64 f.house.grace, .slice B1 nu j1, .slice B2 n2 j2, .slice B3 n3 j3, .int .i64 f.tubs, .int .i64 f.opn, .int .i64 f.closing, .slice Bq nq jq]) ∧ Later W w' ∧ FV w' (setF f t) B1 nu B2 n2 B3 n3 Bq nq := fun W h =>
    lawFloor_calls (f := setF f t) (k1 := jB) (k2 := k2) (k3 := k3) (kq := kq) W h hn1 hn2 hn3 (by omega)
  have e0 := fun X (h : Later w3 X) => ((hbx3.later h).cell 0).trans (show _ = some (Value.int .i64 f.house.hour) from rfl)
  have e1 := fun X (h : Later w3 X) => ((hbx3.later h).cell 1).trans (show _ = some (Value.int .i64 f.house.grace) from rfl)
  have e2 := fun X (h : Later w3 X) => ((hbx3.later h).cell 2).trans (show _ = some (Value.slice B nu jB) from rfl)
  have e3 := fun X (h : Later w3 X) => ((hbx3.later h).cell 3).trans (show _ = some (Value.slice A2 n2 k2) from rfl)
  have e4 := fun X (h : Later w3 X) => ((hbx3.later h).cell 4).trans (show _ = some (Value.slice A3 n3 k3) from rfl)
  have e5 := fun X (h : Later w3 X) => ((hbx3.later h).cell 5).trans (show _ = some (Value.int .i64 f.tubs) from rfl)
  have e6 := fun X (h : Later w3 X) => ((hbx3.later h).cell 6).trans (show _ = some (Value.int .i64 f.opn) from rfl)
  have e7 := fun X (h : Later w3 X) => ((hbx3.later h).cell 7).trans (show _ = some (Value.int .i64 f.closing) from rfl)
  have e8 := fun X (h : Later w3 X) => ((hbx3.later h).cell 8).trans (show _ = some (Value.slice (some ⟨bq, oq, none⟩) nq kq) from rfl)
  have u0' := fun X (h : Later w3 X) => ((Hbk.out.later h).cell 0).trans (show _ = some (Value.slice Av m kw) from rfl)
  have u1' := fun X (h : Later w3 X) => ((Hbk.out.later h).cell 1).trans (show _ = some (Value.slice Bv nq jv) from rfl)
  have Hpl := hide hpl
  have Hfl2 := hide hfl
  have HL := hide hLe
  have HMe := hide hMe
  have HD := hide hD
  have Htn := hide htn
  have hS3 : Later w3 w3.drew := later_drew (later_refl _)
  clear hpl hfl hLe hMe hD htn ha1 ha2 hask h0 hyq Hbk
  refine wp_region_lin (w0 := w3) 12 [] rely_later (by kernel_rfl) (by kernel_rfl) (by kernel_rfl) (by kernel_rfl) (hS3) (.inl rfl) ?_
  simp only [List.take_succ_cons, List.take_zero, List.drop_succ_cons, List.drop_zero]
  refine lin_det (v := ?_) (F' := ?_) (by rfl) (fun _ => by rfl) ?_ ?_ ?_
  rotate_left 2
  focus (intro xs X hX hdep; clear hdep; (try dsimp only); go_simp; (try (first | with_reducible rfl | exact ⟨rfl, rfl⟩ | (fail))))
  focus (intro xs; (try simp only [Act.put, List.setIfInBounds_toArray, List.set_cons_zero, List.set_cons_succ, Nat.reduceAdd]); rfl)
  refine lin_any (IsFlo (setF f t) nu n2 n3 nq f.house.hour f.house.grace f.tubs f.opn f.closing) false (fun v W W' k h => IsFlo.later h k) (F' := ?_) (by rfl) (fun _ => by rfl) ?_ ?_ ?_
  rotate_left 1
  focus (intro xs X hX hdep; skip; clear hdep; intro K hK; (try dsimp only); go_simp; (refine (Hfl2.out X (hcx3.later hX)).mono ?_; rintro e W' ⟨B1, j1, B2, j2, B3, j3, Bq, jq, rfl, hL, hcv⟩; exact hK.out _ _ rfl hL ⟨B1, j1, B2, j2, B3, j3, Bq, jq, rfl, hcv⟩ (fun h => by cases h)))
  focus (intro xs; (try simp only [Act.put, List.setIfInBounds_toArray, List.set_cons_zero, List.set_cons_succ, Nat.reduceAdd]); rfl)
  refine lin_det (v := ?_) (F' := ?_) (by rfl) (fun _ => by rfl) ?_ ?_ ?_
  rotate_left 2
  focus (intro xs X hX hdep; clear hdep; (try dsimp only); go_simp; (try (first | with_reducible rfl | exact ⟨rfl, rfl⟩ | (fail))))
  focus (intro xs; (try simp only [Act.put, List.setIfInBounds_toArray, List.set_cons_zero, List.set_cons_succ, Nat.reduceAdd]); rfl)
  refine lin_any (IsNew 3 [.int .i64 0]) false (fun v W W' k h => IsNew.later h k) (F' := ?_) (by rfl) (fun _ => by rfl) ?_ ?_ ?_
  rotate_left 1
  focus (intro xs X hX hdep; skip; clear hdep; intro K hK; (try dsimp only); go_simp; (exact hK.out _ _ rfl (later_alloc (later_refl _) _) ⟨_, rfl, Blk.new _ _ _⟩ (fun h => by cases h)))
  focus (intro xs; (try simp only [Act.put, List.setIfInBounds_toArray, List.set_cons_zero, List.set_cons_succ, Nat.reduceAdd]); rfl)
  refine lin_any (IsPlay tn D) false (fun v W W' k h => IsPlay.later h k) (F' := ?_) (by rfl) (fun _ => by rfl) ?_ ?_ ?_
  rotate_left 1
  focus (intro xs X hX hdep; obtain ⟨B1, j1, B2, j2, B3, j3, Bq, jq, e1, hcv⟩ := (show IsFlo (setF f t) nu n2 n3 nq f.house.hour f.house.grace f.tubs f.opn f.closing _ _ from hdep 1 1 (by kernel_rfl)); obtain ⟨gn, e3, hbn⟩ := (show IsNew _ _ _ _ from hdep 3 1 (by kernel_rfl)); clear hdep; intro K hK; (try dsimp only); go_simp; (refine (Hpl.out B1 B2 B3 Bq Av Bv _ j1 j2 j3 jq kw jv 1 X hcv (hr1.later hX) (hr2.later hX) (ri_blk hbn)).mono ?_; rintro e W' ⟨A, ka, Ab, kb, rfl, hL, hrA, hrB⟩; exact hK.out _ _ rfl hL ⟨A, ka, Ab, kb, rfl, hrA, hrB⟩ (fun h => by cases h)))
  focus (intro xs; (try simp only [Act.put, List.setIfInBounds_toArray, List.set_cons_zero, List.set_cons_succ, Nat.reduceAdd]); rfl)
  refine lin_any (IsPlay tn D) false (fun v W W' k h => IsPlay.later h k) (F' := ?_) (by rfl) (fun _ => by rfl) ?_ ?_ ?_
  rotate_left 1
  focus (intro xs X hX hdep; obtain ⟨A, ka, Ab, kb, e4, hrA, hrB⟩ := (show IsPlay _ _ _ _ from hdep 4 1 (by kernel_rfl)); clear hdep; intro K hK; (try dsimp only); go_simp; (exact hK.out _ _ rfl (later_refl _) ⟨A, ka, Ab, kb, rfl, hrA, hrB⟩ (fun h => by cases h)))
  focus (intro xs; (try simp only [Act.put, List.setIfInBounds_toArray, List.set_cons_zero, List.set_cons_succ, Nat.reduceAdd]); rfl)
  refine lin_any (IsR 1 [(tn : Int)]) false (fun v W W' k h => IsR.later h k) (F' := ?_) (by rfl) (fun _ => by rfl) ?_ ?_ ?_
  rotate_left 1
  focus (intro xs X hX hdep; obtain ⟨A, ka, Ab, kb, e4, hrA, hrB⟩ := (show IsPlay _ _ _ _ from hdep 5 1 (by kernel_rfl)); clear hdep; intro K hK; (try dsimp only); go_simp; (exact hK.out _ _ rfl (later_refl _) ⟨A, ka, rfl, hrA⟩ (fun h => by cases h)))
  focus (intro xs; (try simp only [Act.put, List.setIfInBounds_toArray, List.set_cons_zero, List.set_cons_succ, Nat.reduceAdd]); rfl)
  refine lin_any (IsR 1 [D]) false (fun v W W' k h => IsR.later h k) (F' := ?_) (by rfl) (fun _ => by rfl) ?_ ?_ ?_
  rotate_left 1
  focus (intro xs X hX hdep; obtain ⟨A, ka, Ab, kb, e4, hrA, hrB⟩ := (show IsPlay _ _ _ _ from hdep 5 1 (by kernel_rfl)); clear hdep; intro K hK; (try dsimp only); go_simp; (exact hK.out _ _ rfl (later_refl _) ⟨Ab, kb, rfl, hrB⟩ (fun h => by cases h)))
  focus (intro xs; (try simp only [Act.put, List.setIfInBounds_toArray, List.set_cons_zero, List.set_cons_succ, Nat.reduceAdd]); rfl)
  refine lin_det (v := ?_) (F' := ?_) (by rfl) (fun _ => by rfl) ?_ ?_ ?_
  rotate_left 2
  focus (intro xs X hX hdep; obtain ⟨A, ka, Ab, kb, e4, hrA, hrB⟩ := (show IsPlay _ _ _ _ from hdep 5 1 (by kernel_rfl)); clear hdep; (try dsimp only); go_simp; (try (first | with_reducible rfl | exact ⟨rfl, rfl⟩ | (fail))))
  focus (intro xs; (try simp only [Act.put, List.setIfInBounds_toArray, List.set_cons_zero, List.set_cons_succ, Nat.reduceAdd]); rfl)
  refine lin_any (IsR 1 [(tn : Int)]) false (fun v W W' k h => IsR.later h k) (F' := ?_) (by rfl) (fun _ => by rfl) ?_ ?_ ?_
  rotate_left 1
  focus (intro xs X hX hdep; obtain ⟨A, ka, e4, hrA⟩ := (show IsR _ _ _ _ from hdep 6 1 (by kernel_rfl)); clear hdep; intro K hK; (try dsimp only); go_simp; (exact hK.out _ _ rfl (later_refl _) ⟨A, ka, rfl, hrA⟩ (fun h => by cases h)))
  focus (intro xs; (try simp only [Act.put, List.setIfInBounds_toArray, List.set_cons_zero, List.set_cons_succ, Nat.reduceAdd]); rfl)
  refine lin_any (IsR 1 [D]) false (fun v W W' k h => IsR.later h k) (F' := ?_) (by rfl) (fun _ => by rfl) ?_ ?_ ?_
  rotate_left 1
  focus (intro xs X hX hdep; obtain ⟨A, ka, e4, hrA⟩ := (show IsR _ _ _ _ from hdep 7 1 (by kernel_rfl)); clear hdep; intro K hK; (try dsimp only); go_simp; (exact hK.out _ _ rfl (later_refl _) ⟨A, ka, rfl, hrA⟩ (fun h => by cases h)))
  focus (intro xs; (try simp only [Act.put, List.setIfInBounds_toArray, List.set_cons_zero, List.set_cons_succ, Nat.reduceAdd]); rfl)
  refine lin_det (v := ?_) (F' := ?_) (by rfl) (fun _ => by rfl) ?_ ?_ ?_
  rotate_left 2
  focus (intro xs X hX hdep; clear hdep; (try dsimp only); go_simp; (try (first | with_reducible rfl | exact ⟨rfl, rfl⟩ | (fail))))
  focus (intro xs; (try simp only [Act.put, List.setIfInBounds_toArray, List.set_cons_zero, List.set_cons_succ, Nat.reduceAdd]); rfl)
  intro xs w6 hK6 hf hfr hfb
  obtain ⟨Aa, ka, hx9, hrA⟩ := (show IsR _ _ _ _ from hf 9)
  obtain ⟨Ab, kb, hx10, hrB⟩ := (show IsR _ _ _ _ from hf 10)
  simp only [hx9, hx10, Nat.reduceAdd, Nat.zero_add]
  clear hf hfr hfb hx9 hx10
  have hL6 := Later.trans hLa hK6
  have hcx6 := hcx3.later hK6
  have hbx6 := hbx3.later hK6
  have hrt6 := hrt.later hK6
  have hyq6 := hyq0 w6 hK6
  have b8 := ((hbf.later hK6).cell 8).trans (show _ = some (Value.slice (some ⟨bq, oq, none⟩) nq kq) from rfl)
  have hq1 : (0 : Int) < nq := by omega
  have hnt := hrt.len
  have he := truths_isErr (okH_of_fault ok.house) t ht
  have hnt4 : nt ≤ 4 := by have h1 := (okH_of_fault ok.house).n1; have h2 := he.len; omega
  obtain ⟨k, hkm⟩ : ∃ k, p % nt = k := ⟨_, rfl⟩
  have zk1 : (p : Int).tmod (nt : Int) = (k : Int) := by rw [← hkm, Int.tmod_eq_emod_of_nonneg (by omega)]; norm_cast
  have zk2 : (p : Int) % (nt : Int) = (k : Int) := by rw [← hkm]; norm_cast
  have hkl : k < nt := by rw [← hkm]; exact Nat.mod_lt _ ht0
  have zk3 : IntKind.i64.wrap (k : Int) = (k : Int) := IntWalk.i64_in _ (by omega)
  have zk4 : ¬ nt = 0 := by omega
  have zk5 : ¬ (nt : Int) = 0 := by omega
  have zk6 : IntKind.i64.wrap (p : Int) = (p : Int) := IntWalk.i64_in _ (by omega)
  have zk7 : ((nt : Int) == 0) = false := by simp; omega
  obtain ⟨bt, ot, tk, rfl, _, htk, htk0⟩ := hrt6.get hkl
  have htd : t.getD k 0 = tk := by rw [List.getD_eq_getElem?_getD, htk]; rfl
  have htr : -30 ≤ tk ∧ tk ≤ 30 := by
    have hkc : k < f.house.clocks.length := by have := he.len; omega
    have h1 := he.mem k _ _ (List.getElem?_eq_getElem hkc) htk
    have h2 := (okH_of_fault ok.house).clock _ (List.getElem_mem hkc)
    omega
  have hMr : 0 ≤ M ∧ M ≤ 1469 := by
    have hne : frm ≠ [] := fun e => hg (by
      have h1 := lows_setF ok ht
      rw [Hfrm.out, e] at h1
      exact List.map_eq_nil_iff.1 h1.symm)
    have h1 := minL_mem hne
    rw [HMe.out] at h1
    have h2 : M ∈ lows (givenR (setF f t)) := by rw [Hfrm.out]; exact h1
    obtain ⟨r, hr, hrM⟩ := List.mem_map.1 h2
    have h3 := givenR_range okx r hr
    omega
  obtain ⟨Bg, hBg⟩ : ∃ x, M + tk = x := ⟨_, rfl⟩
  obtain ⟨En, hEn⟩ : ∃ x, D + tk = x := ⟨_, rfl⟩
  have hw1 : IntKind.i64.wrap (D - L) = M := by rw [← HD.out, show M + L - L = M by omega]; exact IntWalk.i64_in _ (by omega)
  have hw2 : IntKind.i64.wrap (M + tk) = Bg := by rw [hBg]; exact IntWalk.i64_in _ (by omega)
  have hw3 : IntKind.i64.wrap (D + tk) = En := by rw [hEn]; exact IntWalk.i64_in _ (by have := HD.out; omega)
  have hki : (k : Int) < nt := by omega
  have hlaw : fault (washH f.house t tn k Bg En) = 0 → WashFacts (washH f.house t tn k Bg En) f.house.tickets.length tn (hoursV f.house L) D := by
    have h1 := wash_plain (k := k) (L := L) ok ht hg hM (M := M) (tn := tn) (by rw [Hfrm.out]; exact HMe.out) (by rw [Hfrm.out]; exact Htn.out) hLr.1 htd
    rw [HD.out, hBg, hEn] at h1
    exact h1
  obtain ⟨bA, oA, xA, rfl, _, hxA, hxA0⟩ := hrB.get (k := 0) (by omega)
  simp only [List.getElem?_cons_zero, Option.some.injEq] at hxA
  subst hxA
  simp only [Nat.add_zero, Nat.zero_mul] at hxA0
  have hnu4 : nu ≤ 4 := by have h1 := (okH_of_fault okx.house).n1; have h2 := hcx3.cv.ck.len; omega
  have okh := okH_of_fault ok.house
  have Hlaw := hide hlaw
  have HLr := hide hLr
  have Hcx6 := hide hcx6
  have Hbx6 := hide hbx6
  clear hlaw hBg hEn hkm htd htk e0 e1 e2 e3 e4 e5 e6 e7 e8 u0' u1' hyq0 hS3 hcf3 hcx3 hbf hbx3 hrt hrt6 hr1 hr2 hcx6 hbx6 he hM okx hp zk2 Hpl Hfl2 hnt hLr
  go_upto_region 28 with fail
  have hS6 : Later w6 w6.drew := later_drew (later_refl _)
  clear b8 hyq6
  refine wp_region_lin (w0 := w6) 20 [] rely_later (by kernel_rfl) (by kernel_rfl) (by kernel_rfl) (by kernel_rfl) (hS6) (.inl rfl) ?_
  simp only [List.take_succ_cons, List.take_zero, List.drop_succ_cons, List.drop_zero]
  refine lin_det (v := ?_) (F' := ?_) (by rfl) (fun _ => by rfl) ?_ ?_ ?_
  rotate_left 2
  focus (intro xs X hX hdep; clear hdep; (try dsimp only); go_simp; (try (first | with_reducible rfl | exact ⟨rfl, rfl⟩ | (fail))))
  focus (intro xs; (try simp only [Act.put, List.setIfInBounds_toArray, List.set_cons_zero, List.set_cons_succ, Nat.reduceAdd]); rfl)
  refine lin_det (v := ?_) (F' := ?_) (by rfl) (fun _ => by rfl) ?_ ?_ ?_
  rotate_left 2
  focus (intro xs X hX hdep; clear hdep; (try dsimp only); go_simp; (try (first | with_reducible rfl | exact ⟨rfl, rfl⟩ | (fail))))
  focus (intro xs; (try simp only [Act.put, List.setIfInBounds_toArray, List.set_cons_zero, List.set_cons_succ, Nat.reduceAdd]); rfl)
  refine lin_det (v := ?_) (F' := ?_) (by rfl) (fun _ => by rfl) ?_ ?_ ?_
  rotate_left 2
  focus (intro xs X hX hdep; clear hdep; (try dsimp only); go_simp; (try (first | with_reducible rfl | exact ⟨rfl, rfl⟩ | (fail))))
  focus (intro xs; (try simp only [Act.put, List.setIfInBounds_toArray, List.set_cons_zero, List.set_cons_succ, Nat.reduceAdd]); rfl)
  refine lin_det (v := ?_) (F' := ?_) (by rfl) (fun _ => by rfl) ?_ ?_ ?_
  rotate_left 2
  focus (intro xs X hX hdep; clear hdep; (try dsimp only); go_simp; (try (first | with_reducible rfl | exact ⟨rfl, rfl⟩ | (fail))))
  focus (intro xs; (try simp only [Act.put, List.setIfInBounds_toArray, List.set_cons_zero, List.set_cons_succ, Nat.reduceAdd]); rfl)
  refine lin_det (v := ?_) (F' := ?_) (by rfl) (fun _ => by rfl) ?_ ?_ ?_
  rotate_left 2
  focus (intro xs X hX hdep; clear hdep; (try dsimp only); go_simp; (try (first | with_reducible rfl | exact ⟨rfl, rfl⟩ | (fail))))
  focus (intro xs; (try simp only [Act.put, List.setIfInBounds_toArray, List.set_cons_zero, List.set_cons_succ, Nat.reduceAdd]); rfl)
  refine lin_det (v := ?_) (F' := ?_) (by rfl) (fun _ => by rfl) ?_ ?_ ?_
  rotate_left 2
  focus (intro xs X hX hdep; clear hdep; (try dsimp only); go_simp; (try (first | with_reducible rfl | exact ⟨rfl, rfl⟩ | (fail))))
  focus (intro xs; (try simp only [Act.put, List.setIfInBounds_toArray, List.set_cons_zero, List.set_cons_succ, Nat.reduceAdd]); rfl)
  refine lin_det (v := ?_) (F' := ?_) (by rfl) (fun _ => by rfl) ?_ ?_ ?_
  rotate_left 2
  focus (intro xs X hX hdep; clear hdep; (try dsimp only); go_simp; (try (first | with_reducible rfl | exact ⟨rfl, rfl⟩ | (fail))))
  focus (intro xs; (try simp only [Act.put, List.setIfInBounds_toArray, List.set_cons_zero, List.set_cons_succ, Nat.reduceAdd]); rfl)
  refine lin_det (v := ?_) (F' := ?_) (by rfl) (fun _ => by rfl) ?_ ?_ ?_
  rotate_left 2
  focus (intro xs X hX hdep; clear hdep; (try dsimp only); go_simp; (try (first | with_reducible rfl | exact ⟨rfl, rfl⟩ | (fail))))
  focus (intro xs; (try simp only [Act.put, List.setIfInBounds_toArray, List.set_cons_zero, List.set_cons_succ, Nat.reduceAdd]); rfl)
  refine lin_det (v := ?_) (F' := ?_) (by rfl) (fun _ => by rfl) ?_ ?_ ?_
  rotate_left 2
  focus (intro xs X hX hdep; clear hdep; (try dsimp only); go_simp; (try (first | with_reducible rfl | exact ⟨rfl, rfl⟩ | (fail))))
  focus (intro xs; (try simp only [Act.put, List.setIfInBounds_toArray, List.set_cons_zero, List.set_cons_succ, Nat.reduceAdd]); rfl)
  refine lin_det (v := ?_) (F' := ?_) (by rfl) (fun _ => by rfl) ?_ ?_ ?_
  rotate_left 2
  focus (intro xs X hX hdep; clear hdep; (try dsimp only); go_simp; (try (first | with_reducible rfl | exact ⟨rfl, rfl⟩ | (fail))))
  focus (intro xs; (try simp only [Act.put, List.setIfInBounds_toArray, List.set_cons_zero, List.set_cons_succ, Nat.reduceAdd]); rfl)
  refine lin_det (v := ?_) (F' := ?_) (by rfl) (fun _ => by rfl) ?_ ?_ ?_
  rotate_left 2
  focus (intro xs X hX hdep; clear hdep; (try dsimp only); go_simp; (try (first | with_reducible rfl | exact ⟨rfl, rfl⟩ | (fail))))
  focus (intro xs; (try simp only [Act.put, List.setIfInBounds_toArray, List.set_cons_zero, List.set_cons_succ, Nat.reduceAdd]); rfl)
  refine lin_det (v := ?_) (F' := ?_) (by rfl) (fun _ => by rfl) ?_ ?_ ?_
  rotate_left 2
  focus (intro xs X hX hdep; clear hdep; (try dsimp only); go_simp; (try (first | with_reducible rfl | exact ⟨rfl, rfl⟩ | (fail))))
  focus (intro xs; (try simp only [Act.put, List.setIfInBounds_toArray, List.set_cons_zero, List.set_cons_succ, Nat.reduceAdd]); rfl)
  refine lin_det (v := ?_) (F' := ?_) (by rfl) (fun _ => by rfl) ?_ ?_ ?_
  rotate_left 2
  focus (intro xs X hX hdep; clear hdep; (try dsimp only); go_simp; (try (first | with_reducible rfl | exact ⟨rfl, rfl⟩ | (fail))))
  focus (intro xs; (try simp only [Act.put, List.setIfInBounds_toArray, List.set_cons_zero, List.set_cons_succ, Nat.reduceAdd]); rfl)
  refine lin_det (v := ?_) (F' := ?_) (by rfl) (fun _ => by rfl) ?_ ?_ ?_
  rotate_left 2
  focus (intro xs X hX hdep; clear hdep; (try dsimp only); go_simp; (try (first | with_reducible rfl | exact ⟨rfl, rfl⟩ | (fail))))
  focus (intro xs; (try simp only [Act.put, List.setIfInBounds_toArray, List.set_cons_zero, List.set_cons_succ, Nat.reduceAdd]); rfl)
  refine lin_det (v := ?_) (F' := ?_) (by rfl) (fun _ => by rfl) ?_ ?_ ?_
  rotate_left 2
  focus (intro xs X hX hdep; clear hdep; (try dsimp only); go_simp; (try (first | with_reducible rfl | exact ⟨rfl, rfl⟩ | (fail))))
  focus (intro xs; (try simp only [Act.put, List.setIfInBounds_toArray, List.set_cons_zero, List.set_cons_succ, Nat.reduceAdd]); rfl)
  refine lin_det (v := ?_) (F' := ?_) (by rfl) (fun _ => by rfl) ?_ ?_ ?_
  rotate_left 2
  focus (intro xs X hX hdep; clear hdep; (try dsimp only); go_simp; (try (first | with_reducible rfl | exact ⟨rfl, rfl⟩ | (fail))))
  focus (intro xs; (try simp only [Act.put, List.setIfInBounds_toArray, List.set_cons_zero, List.set_cons_succ, Nat.reduceAdd]); rfl)
  refine lin_det (v := ?_) (F' := ?_) (by rfl) (fun _ => by rfl) ?_ ?_ ?_
  rotate_left 2
  focus (intro xs X hX hdep; clear hdep; (try dsimp only); go_simp; (try (first | with_reducible rfl | exact ⟨rfl, rfl⟩ | (fail))))
  focus (intro xs; (try simp only [Act.put, List.setIfInBounds_toArray, List.set_cons_zero, List.set_cons_succ, Nat.reduceAdd]); rfl)
  refine lin_det (v := ?_) (F' := ?_) (by rfl) (fun _ => by rfl) ?_ ?_ ?_
  rotate_left 2
  focus (intro xs X hX hdep; clear hdep; (try dsimp only); go_simp; (try (first | with_reducible rfl | exact ⟨rfl, rfl⟩ | (fail))))
  focus (intro xs; (try simp only [Act.put, List.setIfInBounds_toArray, List.set_cons_zero, List.set_cons_succ, Nat.reduceAdd]); rfl)
  refine lin_det (v := ?_) (F' := ?_) (by rfl) (fun _ => by rfl) ?_ ?_ ?_
  rotate_left 2
  focus (intro xs X hX hdep; clear hdep; (try dsimp only); go_simp; (try (first | with_reducible rfl | exact ⟨rfl, rfl⟩ | (fail))))
  focus (intro xs; (try simp only [Act.put, List.setIfInBounds_toArray, List.set_cons_zero, List.set_cons_succ, Nat.reduceAdd]); rfl)
  refine lin_det (v := ?_) (F' := ?_) (by rfl) (fun _ => by rfl) ?_ ?_ ?_
  rotate_left 2
  focus (intro xs X hX hdep; clear hdep; (try dsimp only); go_simp; (try (first | with_reducible rfl | exact ⟨rfl, rfl⟩ | (fail))))
  focus (intro xs; (try simp only [Act.put, List.setIfInBounds_toArray, List.set_cons_zero, List.set_cons_succ, Nat.reduceAdd]); rfl)
  intro xs w7 hK7 hf hfr hfb
  clear hf hfr hfb
  simp only [Nat.reduceAdd, Nat.zero_add]
  go_upto_region 29 with fail
  refine washC w w7 _ ?_ (Later.trans hL6 hK7) (Hcx6.out.later hK7).cv (Hbx6.out.later hK7) (hrA.later hK7) (hrB.later hK7) okh hnu4 HLr.out Hlaw.out
  assumption
end Go.Proofs.Ytcffgjhmpgdfpaa

/- TopWashed: the truth of the floor, and Play: walk. -/
namespace Go.Proofs.Ytcffgjhmpgdfpaa
open Go Go.RowKit
theorem ints_take {l : List Int} {t : Nat} {x : Int} (h : l[t]? = some x) : ints (l.take (t + 1)) = ints (l.take t) ++ [.int .i64 x] := by
  rw [List.take_add_one, h]; unfold ints; simp
attribute [local go_sem] later_alloc2 later_alloc3 later_alloc4
set_option maxRecDepth 100000 in
set_option maxHeartbeats 10000000 in
theorem washB (w x0 : World) {u0 u1 u4 u5 u6 u7 u10 u11 u13 u14 u15 u16 u17 u18 u19 u20 u21 u22 u23 u24 u25 u26 u27 u28 u29 u30 u31 u32 u33 u34 u35 u36 u37 u38 u39 u40 u41 u42 u43 u44 u45 u46 u47 u48 u49 u50 u51 u52 u53 u54 u55 u56 u57 u58 u59 u60 u61 u62 u63 u64 u65 u66 u67 u68 u69 u70 u71 u72 u73 u74 u75 u76 u77 u78 u79 u80 u81 u82 u83 u84 u85 u86 u87 u88 u89 u90 u91 u92 u93 u94 u95 u96 u97 u98 u99 u100 u101 u102 u103 u104 u105 u106 u107 u108 u109 u110 u111 u112 u113 u114 u115 u116 u117 u118 u119 u120 u121 u122 u123 u124 u125 u126 u127 u128 u129 u130 u131 u132 u133 u134 u135 u136 u137 u138 u139 u140 u141 u142 u143 u144 u145 u146 u147 u148 u149 u150 u151 u152 u153 u154 u155 u156 u157 u158 u159 u160 u161 u162 u163 u164 u165 u166 u167 u168 u169 u170 u171 u172 u173 u174 u175 u176 u177 u178 u179 u180 u181 u182 u183 u184 u185 u186 u187 u188 u189 u190 u191 u192 u193 u194 u195 u196 u197 u198 u199 u200 u201 u202 u203 u204 u205 u206 u207 u208 u209 u210 u211 u212 u213 u214 u215 u216 u217 u218 u219 u220 u221 u222 u223 u224 u225 u226 u227 u228 u229 u230 u231 u232 u233 u234 u235 u236 u237 u238 u239 u240 u241 u242 u243 u244 u245 u246 u247 u248 u249 u250 u251 u252 u253 u254 u255 u256 u257 u258 u259 u260 u261 u262 u263 u264 u265 u266 u267 u268 u269 u270 u271 u272 u273 u274 u275 u276 u277 u278 u279 u280 u281 u282 u283 u284 u285 u286 u287 u288 u289 u290 u291 u292 u293 u294 u295 u296 u297 u298 u299 u300 : Value} {f : Flo} {t : List Int} {A1 B A2 A3 Aq At As : Option Addr} {n1 k1 nu jB n2 k2 n3 k3 nq kq nt kt m ks gf gx p : Nat}
    (K : Act → World → Prop) (hK : ∀ a W, Code.wp Try.prog (restC 14 Try.f3) (bodyPost Try.prog Try.f3 fun e w' => e = .returned (.bool true) ∧ Later w w') a W → K a W) (hLa : Later w x0)
    (hcf : FV x0 f A1 n1 A2 n2 A3 n3 Aq nq) (hcx : FV x0 (setF f t) B nu A2 n2 A3 n3 Aq nq)
    (hbf : Blk x0 gf 28 #[.int .i64 f.house.hour, .int .i64 f.house.grace, .slice A1 n1 k1, .slice A2 n2 k2, .slice A3 n3 k3, .int .i64 f.tubs, .int .i64 f.opn, .int .i64 f.closing, .slice Aq nq kq]) (hbx : Blk x0 gx 28 #[.int .i64 f.house.hour, .int .i64 f.house.grace, .slice B nu jB, .slice A2 n2 k2, .slice A3 n3 k3, .int .i64 f.tubs, .int .i64 f.opn, .int .i64 f.closing, .slice Aq nq kq])
    (hrt : RI x0 At nt t) (hrs : RP x0 As m (givenR (setF f t))) (ok : OkF f) (ht : t ∈ truths f.house) (hg : givenT f ≠ []) (hM : ∀ i, i < f.house.clips.length → trueM f.house t i ≤ f.opn) (hq0 : 0 < nq) (ht0 : 0 < nt) (hp : p < 256) :
    Code.wp Try.prog (headC 14 Try.f3) (Exit.then K (bodyPost Try.prog Try.f3 fun e w' => e = .returned (.bool true) ∧ Later w w')) ⟨#[u0, u1, .int .u8 (p : Int), .pointer (some ⟨gf, 0, none⟩), u4, u5, u6, u7, .slice At nt kt, .pointer (some ⟨gx, 0, none⟩), u10, u11, .slice As m ks, u13, u14, u15, u16, u17, u18, u19, u20, u21, u22, u23, u24, u25, u26, u27, u28, u29, u30, u31, u32, u33, u34, u35, u36, u37, u38, u39, u40, u41, u42, u43, u44, u45, u46, u47, u48, u49, u50, u51, u52, u53, u54, u55, u56, u57, u58, u59, u60, u61, u62, u63, u64, u65, u66, u67, u68, u69, u70, u71, u72, u73, u74, u75, u76, u77, u78, u79, u80, u81, u82, u83, u84, u85, u86, u87, u88, u89, u90, u91, u92, u93, u94, u95, u96, u97, u98, u99, u100, u101, u102, u103, u104, u105, u106, u107, u108, u109, u110, u111, u112, u113, u114, u115, u116, u117, u118, u119, u120, u121, u122, u123, u124, u125, u126, u127, u128, u129, u130, u131, u132, u133, u134, u135, u136, u137, u138, u139, u140, u141, u142, u143, u144, u145, u146, u147, u148, u149, u150, u151, u152, u153, u154, u155, u156, u157, u158, u159, u160, u161, u162, u163, u164, u165, u166, u167, u168, u169, u170, u171, u172, u173, u174, u175, u176, u177, u178, u179, u180, u181, u182, u183, u184, u185, u186, u187, u188, u189, u190, u191, u192, u193, u194, u195, u196, u197, u198, u199, u200, u201, u202, u203, u204, u205, u206, u207, u208, u209, u210, u211, u212, u213, u214, u215, u216, u217, u218, u219, u220, u221, u222, u223, u224, u225, u226, u227, u228, u229, u230, u231, u232, u233, u234, u235, u236, u237, u238, u239, u240, u241, u242, u243, u244, u245, u246, u247, u248, u249, u250, u251, u252, u253, u254, u255, u256, u257, u258, u259, u260, u261, u262, u263, u264, u265, u266, u267, u268, u269, u270, u271, u272, u273, u274, u275, u276, u277, u278, u279, u280, u281, u282, u283, u284, u285, u286, u287, u288, u289, u290, u291, u292, u293, u294, u295, u296, u297, u298, u299, u300], []⟩ x0 := by
  have hK2 : ∀ a W, Code.wp Try.prog (Code.seq _ _) (bodyPost Try.prog Try.f3 fun e w' => e = .returned (.bool true) ∧ Later w w') a W → K a W := hK
  clear hK
  show Code.wp Try.prog (Code.region _ _ _) _ _ _
  dsimp only
  have okx := setF_ok ok ht
  have hnq : nq = f.queue.length := hcf.q.len
  have hnq5 : nq ≤ 5 := by have := ok.queue; omega
  have hm4 : m ≤ 4 := by have h1 := hrs.len; have h2 := givenT_len ok; have h3 : (givenR (setF f t)).length = (givenT f).length := by unfold givenR; rw [List.length_map]; rfl
                         omega
  have b8 := fun X (h : Later x0 X) => ((hbf.later h).cell 8).trans (show _ = some (Value.slice Aq nq kq) from rfl)
  obtain ⟨frm, hfrm⟩ : ∃ l, lows (givenR (setF f t)) = l := ⟨_, rfl⟩
  have hfl : frm.length = m := by rw [← hfrm]; unfold lows; rw [List.length_map]; exact hrs.len.symm
  obtain ⟨w1, hw1⟩ : ∃ X, X = x0.alloc (.cells #[.slice none 0 0, .slice none 0 0] 51) := ⟨_, rfl⟩
  obtain ⟨gu, hgu⟩ : ∃ g, g = x0.heap.size := ⟨_, rfl⟩
  have hb1 : Blk w1 gu 51 #[.slice none 0 0, .slice none 0 0] := by rw [hw1, hgu]; exact Blk.new _ _ _
  have hL1 : Later x0 w1 := by rw [hw1]; exact later_alloc (later_refl _) _
  have hlo : x0.heap.size ≤ gu := by omega
  have Hw1 := hide hw1
  have Hgu := hide hgu
  have Hb1 := hide hb1
  have Hfrm := hide hfrm
  have Hnq := hide hnq
  have Hfl := hide hfl
  clear hw1 hgu hb1 hfrm hnq hfl
  go_upto_region 15 with fail
  rw [← Hw1.out, ← Hgu.out]
  go_wp2_with fail
  go_loopw [15] (fun i wr => ∃ (j : Nat) (Av : Option Addr) (kv : Nat), j ≤ m ∧ i = .int .i64 j ∧ Later x0 wr ∧ Kept gu w1 wr ∧ Hid (Blk wr gu 51 #[.slice Av j kv, .slice none 0 0]) ∧ Hid (wr.ownsRow w1.heap.size 3 1 (.slice Av j kv) j (ints (frm.take j)))) (fun i _ => m - (intOf i).toNat)
  case atStart => exact ⟨0, none, 0, Nat.zero_le _, rfl, hL1, Kept.refl _ _, Hb1, World.ownsRow_nil _ _ _ _⟩
  case round =>
    obtain ⟨j, Av, kv, hj, rfl, hL, hKp, Hbk, Hown⟩ := hrel
    by_cases hlt : j < m
    · obtain ⟨b, o, y, rfl, _, hy, hy0, _⟩ := hrs.get hlt
      have hi1 : (j : Int) < m := by omega
      have hx : frm[j]? = some y.1 := by rw [← Hfrm.out]; unfold lows; rw [List.getElem?_map, hy]; rfl
      have Hv := hide (ints_take hx)
      have hc2 : ∀ X, Later wr X → X.cell? ⟨gu, 0, none⟩ = some (.slice Av j kv) := fun X hX => Hbk.out.cells_later X hX 0
      have hxa := fun W (hW : Later wr W) => hy0 W (Later.trans hL hW)
      have hS : Later wr wr.drew := later_drew (later_refl _)
      clear hx hy hy0
      go_wp2_with fail
      refine wp_region_lin (w0 := wr) 8 [] rely_later (by kernel_rfl) (by kernel_rfl) (by kernel_rfl) (by kernel_rfl) (hS) (.inl rfl) ?_
      simp only [List.take_succ_cons, List.take_zero, List.drop_succ_cons, List.drop_zero]
      refine lin_det (v := ?_) (F' := ?_) (by rfl) (fun _ => by rfl) ?_ ?_ ?_
      rotate_left 2
      focus (intro xs X hX hdep; clear hdep; (try dsimp only); go_simp; (try (first | with_reducible rfl | exact ⟨rfl, rfl⟩ | (fail))))
      focus (intro xs; (try simp only [Act.put, List.setIfInBounds_toArray, List.set_cons_zero, List.set_cons_succ, Nat.reduceAdd]); rfl)
      refine lin_det (v := ?_) (F' := ?_) (by rfl) (fun _ => by rfl) ?_ ?_ ?_
      rotate_left 2
      focus (intro xs X hX hdep; clear hdep; (try dsimp only); go_simp; (try (first | with_reducible rfl | exact ⟨rfl, rfl⟩ | (fail))))
      focus (intro xs; (try simp only [Act.put, List.setIfInBounds_toArray, List.set_cons_zero, List.set_cons_succ, Nat.reduceAdd]); rfl)
      refine lin_det (v := ?_) (F' := ?_) (by rfl) (fun _ => by rfl) ?_ ?_ ?_
      rotate_left 2
      focus (intro xs X hX hdep; clear hdep; (try dsimp only); go_simp; (try (first | with_reducible rfl | exact ⟨rfl, rfl⟩ | (fail))))
      focus (intro xs; (try simp only [Act.put, List.setIfInBounds_toArray, List.set_cons_zero, List.set_cons_succ, Nat.reduceAdd]); rfl)
      refine lin_det (v := ?_) (F' := ?_) (by rfl) (fun _ => by rfl) ?_ ?_ ?_
      rotate_left 2
      focus (intro xs X hX hdep; clear hdep; (try dsimp only); go_simp; (try (first | with_reducible rfl | exact ⟨rfl, rfl⟩ | (fail))))
      focus (intro xs; (try simp only [Act.put, List.setIfInBounds_toArray, List.set_cons_zero, List.set_cons_succ, Nat.reduceAdd]); rfl)
      refine lin_det (v := ?_) (F' := ?_) (by rfl) (fun _ => by rfl) ?_ ?_ ?_
      rotate_left 2
      focus (intro xs X hX hdep; clear hdep; (try dsimp only); go_simp; (try (first | with_reducible rfl | exact ⟨rfl, rfl⟩ | (fail))))
      focus (intro xs; (try simp only [Act.put, List.setIfInBounds_toArray, List.set_cons_zero, List.set_cons_succ, Nat.reduceAdd]); rfl)
      refine lin_det (v := ?_) (F' := ?_) (by rfl) (fun _ => by rfl) ?_ ?_ ?_
      rotate_left 2
      focus (intro xs X hX hdep; clear hdep; (try dsimp only); go_simp; (try (first | with_reducible rfl | exact ⟨rfl, rfl⟩ | (fail))))
      focus (intro xs; (try simp only [Act.put, List.setIfInBounds_toArray, List.set_cons_zero, List.set_cons_succ, Nat.reduceAdd]); rfl)
      refine lin_det (v := ?_) (F' := ?_) (by rfl) (fun _ => by rfl) ?_ ?_ ?_
      rotate_left 2
      focus (intro xs X hX hdep; clear hdep; (try dsimp only); go_simp; (try (first | with_reducible rfl | exact ⟨rfl, rfl⟩ | (fail))))
      focus (intro xs; (try simp only [Act.put, List.setIfInBounds_toArray, List.set_cons_zero, List.set_cons_succ, Nat.reduceAdd]); rfl)
      refine lin_any (IsNew 3 [.int .i64 y.1]) false (fun v W W' k h => IsNew.later h k) (F' := ?_) (by rfl) (fun _ => by rfl) ?_ ?_ ?_
      rotate_left 1
      focus (intro xs X hX hdep; skip; clear hdep; intro K hK; (try dsimp only); go_simp; (exact hK.out _ _ rfl (later_alloc (later_refl _) _) ⟨_, rfl, Blk.new _ _ _⟩ (fun h => by cases h)))
      focus (intro xs; (try simp only [Act.put, List.setIfInBounds_toArray, List.set_cons_zero, List.set_cons_succ, Nat.reduceAdd]); rfl)
      intro xs W hW hf hfr hfb
      obtain ⟨g, hx7, hbn⟩ := (show IsNew _ _ _ _ from hf 7)
      simp only [hx7, Nat.reduceAdd, Nat.zero_add]
      clear hf hfr hfb hx7
      have hown4 := own_laterb Hown.out hW
      have hbk4 := Hbk.out.later hW
      have hL4 := Later.trans hL hW
      have hK4 := hKp.later hW
      have Hbn := hide hbn
      clear hbn
      go_wp2_with (at_builtin; refine appG rfl w1.heap.size _ _ 35 rfl 3 (.int .i64 0) 1 8 Try.underlying35 int_info rfl (by omega) (.slice Av j kv) j (ints (frm.take j)) rfl hK4.1 hown4 ⟨g, 0, none⟩ 1 1 [.int .i64 y.1] rfl rfl Hbn.out.one (by simp [Value.oneCell']) (by omega) (by omega) (by omega) ?_)
      intro v' w4 hap
      obtain ⟨A', c', hv', _⟩ := own_slice (w0 := w1) hap.own
      subst hv'
      have hr4 : ∀ g, (Value.slice Av j kv).ownBlock = some g → w1.heap.size ≤ g := fun g hg => (hown4.lt g hg).1
      have hL5 := Later.grown hL4 hap.grown fun g hg => Nat.le_trans hL1.size (hr4 g hg)
      have hK5 := hK4.grown hap.grown hr4
      have hgul : gu < w1.heap.size := Hb1.out.lt
      have hb4' := Blk.of_eq (hap.grown.block gu hbk4.lt (fun e => by have := hr4 gu e.symm; omega)) hbk4
      have c24 := hb4'.cell 0
      have f24 := hb4'.frozen 0
      simp only [List.getElem?_toArray, List.getElem?_cons_zero, List.getElem?_cons_succ] at c24
      have HS6 := hide (later_set hL5 ⟨gu, 0, none⟩ hlo (.slice A' (j + 1) c'))
      have HK6 := hide (hK5.setCell 0 (.slice A' (j + 1) c'))
      have Hb6 := hide (hb4'.set_ 0 (.slice A' (j + 1) c'))
      have ho6 := own_block (W' := w4.setCell ⟨gu, 0, none⟩ (.slice A' (j + 1) c')) hap.own fun g hg => Below.heap_setCell w4 _ _ g (by have := (hap.own.lt g hg).1; show g ≠ gu; omega)
      rw [← Hv.out] at ho6
      have Ho6 := hide ho6
      clear ho6 hown4 hK4 hbk4 hr4 hap hb4' hL5 hK5 hL4
      go_wp2_with fail
      go_roundw
      case rel => exact ⟨j + 1, A', c', by omega, by go_num, HS6.out, HK6.out, Hb6, Ho6⟩
      case measure => simp [intOf]; omega
    · obtain ⟨w2, rfl⟩ : ∃ x, x = wr := ⟨wr, rfl⟩
      have hjm : m = j := by omega
      subst hjm
      obtain ⟨hr1, hf1⟩ : RI w2 Av m frm ∧ Fresh w1 w2 Av := by
        have ho := Hown.out
        rw [List.take_of_length_le (by rw [Hfl.out]; exact Nat.le_refl _)] at ho
        obtain ⟨A', c', e, hr⟩ := own_slice (w0 := w1) ho
        injection e with e1 e2 e3
        subst e1
        exact ⟨hr, own_fresh (w0 := w1) ho⟩
      have hgul : gu < w1.heap.size := Hb1.out.lt
      have hgul2 : gu < w2.heap.size := Hbk.out.lt
      have Hr1 := hide hr1
      have Hne1 := hide (fun b o (e : Av = some ⟨b, o, none⟩) => show b ≠ gu by have := (hf1 b o e).1; omega)
      clear Hown hKp hr1 hf1
      go_wp2_with fail
      obtain ⟨kw, rfl⟩ : ∃ x, x = kv := ⟨_, rfl⟩
      go_loopw [16] (fun i wr => ∃ (j : Nat) (Bv : Option Addr) (jv : Nat), j ≤ nq ∧ i = .int .i64 j ∧ Later x0 wr ∧ Kept gu w2 wr ∧ Hid (Blk wr gu 51 #[.slice Av m kw, .slice Bv j jv]) ∧ Hid (wr.ownsRow w2.heap.size 3 1 (.slice Bv j jv) j (ints ((lows f.queue).take j)))) (fun i _ => nq - (intOf i).toNat)
      case atStart => exact ⟨0, none, 0, Nat.zero_le _, rfl, hL, Kept.refl _ _, Hbk, World.ownsRow_nil _ _ _ _⟩
      case round =>
        have hL2 := hL
        clear hL Hbk
        obtain ⟨j, Bv, jv, hj, rfl, hL, hKp, Hbk, Hown⟩ := hrel
        have q8 := fun W (h : Later wr W) => b8 W (Later.trans hL h)
        by_cases hlt : j < nq
        · obtain ⟨b, o, y, rfl, _, hy, hy0, _⟩ := hcf.q.get hlt
          have hi1 : (j : Int) < nq := by omega
          have hx : (lows f.queue)[j]? = some y.1 := by unfold lows; rw [List.getElem?_map, hy]; rfl
          have Hv := hide (ints_take hx)
          have hc2 : ∀ X, Later wr X → X.cell? ⟨gu, 1, none⟩ = some (.slice Bv j jv) := fun X hX => Hbk.out.cells_later X hX 1
          have hxa := fun W (hW : Later wr W) => hy0 W (Later.trans hL hW)
          have hS : Later wr wr.drew := later_drew (later_refl _)
          have hlr := later_refl wr
          clear hx hy hy0
          go_wp2_with fail
          refine wp_region_lin (w0 := wr) 9 [] rely_later (by kernel_rfl) (by kernel_rfl) (by kernel_rfl) (by kernel_rfl) (hS) (.inl rfl) ?_
          simp only [List.take_succ_cons, List.take_zero, List.drop_succ_cons, List.drop_zero]
          refine lin_det (v := ?_) (F' := ?_) (by rfl) (fun _ => by rfl) ?_ ?_ ?_
          rotate_left 2
          focus (intro xs X hX hdep; clear hdep; (try dsimp only); go_simp; (try (first | with_reducible rfl | exact ⟨rfl, rfl⟩ | (fail))))
          focus (intro xs; (try simp only [Act.put, List.setIfInBounds_toArray, List.set_cons_zero, List.set_cons_succ, Nat.reduceAdd]); rfl)
          refine lin_det (v := ?_) (F' := ?_) (by rfl) (fun _ => by rfl) ?_ ?_ ?_
          rotate_left 2
          focus (intro xs X hX hdep; clear hdep; (try dsimp only); go_simp; (try (first | with_reducible rfl | exact ⟨rfl, rfl⟩ | (fail))))
          focus (intro xs; (try simp only [Act.put, List.setIfInBounds_toArray, List.set_cons_zero, List.set_cons_succ, Nat.reduceAdd]); rfl)
          refine lin_det (v := ?_) (F' := ?_) (by rfl) (fun _ => by rfl) ?_ ?_ ?_
          rotate_left 2
          focus (intro xs X hX hdep; clear hdep; (try dsimp only); go_simp; (try (first | with_reducible rfl | exact ⟨rfl, rfl⟩ | (fail))))
          focus (intro xs; (try simp only [Act.put, List.setIfInBounds_toArray, List.set_cons_zero, List.set_cons_succ, Nat.reduceAdd]); rfl)
          refine lin_det (v := ?_) (F' := ?_) (by rfl) (fun _ => by rfl) ?_ ?_ ?_
          rotate_left 2
          focus (intro xs X hX hdep; clear hdep; (try dsimp only); go_simp; (try (first | with_reducible rfl | exact ⟨rfl, rfl⟩ | (fail))))
          focus (intro xs; (try simp only [Act.put, List.setIfInBounds_toArray, List.set_cons_zero, List.set_cons_succ, Nat.reduceAdd]); rfl)
          refine lin_det (v := ?_) (F' := ?_) (by rfl) (fun _ => by rfl) ?_ ?_ ?_
          rotate_left 2
          focus (intro xs X hX hdep; clear hdep; (try dsimp only); go_simp; (try (first | with_reducible rfl | exact ⟨rfl, rfl⟩ | (fail))))
          focus (intro xs; (try simp only [Act.put, List.setIfInBounds_toArray, List.set_cons_zero, List.set_cons_succ, Nat.reduceAdd]); rfl)
          refine lin_det (v := ?_) (F' := ?_) (by rfl) (fun _ => by rfl) ?_ ?_ ?_
          rotate_left 2
          focus (intro xs X hX hdep; clear hdep; (try dsimp only); go_simp; (try (first | with_reducible rfl | exact ⟨rfl, rfl⟩ | (fail))))
          focus (intro xs; (try simp only [Act.put, List.setIfInBounds_toArray, List.set_cons_zero, List.set_cons_succ, Nat.reduceAdd]); rfl)
          refine lin_det (v := ?_) (F' := ?_) (by rfl) (fun _ => by rfl) ?_ ?_ ?_
          rotate_left 2
          focus (intro xs X hX hdep; clear hdep; (try dsimp only); go_simp; (try (first | with_reducible rfl | exact ⟨rfl, rfl⟩ | (fail))))
          focus (intro xs; (try simp only [Act.put, List.setIfInBounds_toArray, List.set_cons_zero, List.set_cons_succ, Nat.reduceAdd]); rfl)
          refine lin_det (v := ?_) (F' := ?_) (by rfl) (fun _ => by rfl) ?_ ?_ ?_
          rotate_left 2
          focus (intro xs X hX hdep; clear hdep; (try dsimp only); go_simp; (try (first | with_reducible rfl | exact ⟨rfl, rfl⟩ | (fail))))
          focus (intro xs; (try simp only [Act.put, List.setIfInBounds_toArray, List.set_cons_zero, List.set_cons_succ, Nat.reduceAdd]); rfl)
          refine lin_any (IsNew 3 [.int .i64 y.1]) false (fun v W W' k h => IsNew.later h k) (F' := ?_) (by rfl) (fun _ => by rfl) ?_ ?_ ?_
          rotate_left 1
          focus (intro xs X hX hdep; skip; clear hdep; intro K hK; (try dsimp only); go_simp; (exact hK.out _ _ rfl (later_alloc (later_refl _) _) ⟨_, rfl, Blk.new _ _ _⟩ (fun h => by cases h)))
          focus (intro xs; (try simp only [Act.put, List.setIfInBounds_toArray, List.set_cons_zero, List.set_cons_succ, Nat.reduceAdd]); rfl)
          intro xs W hW hf hfr hfb
          obtain ⟨g, hx7, hbn⟩ := (show IsNew _ _ _ _ from hf 8)
          simp only [hx7, Nat.reduceAdd, Nat.zero_add]
          clear hf hfr hfb hx7
          have hown4 := own_laterb Hown.out hW
          have hbk4 := Hbk.out.later hW
          have hL4 := Later.trans hL hW
          have hK4 := hKp.later hW
          have Hbn := hide hbn
          clear hbn
          go_wp2_with (at_builtin; refine appG rfl w2.heap.size _ _ 35 rfl 3 (.int .i64 0) 1 8 Try.underlying35 int_info rfl (by omega) (.slice Bv j jv) j (ints ((lows f.queue).take j)) rfl hK4.1 hown4 ⟨g, 0, none⟩ 1 1 [.int .i64 y.1] rfl rfl Hbn.out.one (by simp [Value.oneCell']) (by omega) (by omega) (by omega) ?_)
          intro v' w4 hap
          obtain ⟨A', c', hv', _⟩ := own_slice (w0 := w2) hap.own
          subst hv'
          have hr4 : ∀ g, (Value.slice Bv j jv).ownBlock = some g → w2.heap.size ≤ g := fun g hg => (hown4.lt g hg).1
          have hL5 := Later.grown hL4 hap.grown fun g hg => Nat.le_trans hL2.size (hr4 g hg)
          have hK5 := hK4.grown hap.grown hr4
          have hb4' := Blk.of_eq (hap.grown.block gu hbk4.lt (fun e => by have := hr4 gu e.symm; omega)) hbk4
          have c24 := hb4'.cell 1
          have f24 := hb4'.frozen 1
          simp only [List.getElem?_toArray, List.getElem?_cons_zero, List.getElem?_cons_succ] at c24
          have HS6 := hide (later_set hL5 ⟨gu, 1, none⟩ hlo (.slice A' (j + 1) c'))
          have HK6 := hide (hK5.setCell 1 (.slice A' (j + 1) c'))
          have Hb6 := hide (hb4'.set_ 1 (.slice A' (j + 1) c'))
          have ho6 := own_block (W' := w4.setCell ⟨gu, 1, none⟩ (.slice A' (j + 1) c')) hap.own fun g hg => Below.heap_setCell w4 _ _ g (by have := (hap.own.lt g hg).1; show g ≠ gu; omega)
          rw [← Hv.out] at ho6
          have Ho6 := hide ho6
          clear ho6 hown4 hK4 hbk4 hr4 hap hb4' hL5 hK5 hL4
          go_wp2_with fail
          go_roundw
          case rel => exact ⟨j + 1, A', c', by omega, by go_num, HS6.out, HK6.out, Hb6, Ho6⟩
          case measure => simp [intOf]; omega
        · obtain ⟨w3, rfl⟩ : ∃ x, x = wr := ⟨wr, rfl⟩
          have hjm : nq = j := by omega
          subst hjm
          have hr2 : RI w3 Bv nq (lows f.queue) := by
            have ho := Hown.out
            rw [List.take_of_length_le (by unfold lows; rw [List.length_map, ← Hnq.out]; exact Nat.le_refl _)] at ho
            obtain ⟨A', c', e, hr⟩ := own_slice (w0 := w2) ho
            injection e with e1 e2 e3
            subst e1
            exact hr
          have hr1 : RI w3 Av m frm := Reads.kept Hr1.out (by omega) Hne1.out hKp
          have hq8 := q8 w3 (later_refl _)
          clear Hown hKp Hr1 Hne1 q8 b8
          go_upto_region 23 with fail
          clear hq8
          refine washB2 w w3 _ ?_ (Later.trans hLa hL) (hcf.later hL) (hcx.later hL) (hbf.later hL) (hbx.later hL) Hbk.out Hfrm.out hr1 hr2 (hrt.later hL) ok ht hg hM hq0 ht0 hp
          assumption
end Go.Proofs.Ytcffgjhmpgdfpaa

/- The law TopWashed: walk. -/
namespace Go.Proofs.Ytcffgjhmpgdfpaa
open Go Go.RowKit
attribute [local go_sem] later_alloc2 later_alloc3 later_alloc4
set_option maxRecDepth 100000 in
set_option maxHeartbeats 10000000 in
theorem lawWashed_calls {A1 A2 A3 Aq : Option Addr} {n1 k1 n2 k2 n3 k3 nq kq : Nat} {f : Flo} {z p : Nat} (w : World) (hc : FV w f A1 n1 A2 n2 A3 n3 Aq nq) (m1 : n1 ≤ 9223372036854775807) (m2 : n2 ≤ 9223372036854775807) (m3 : n3 ≤ 9223372036854775807) (hz : z < 65536) (hp : p < 256) :
    Calls Try.prog 3 #[(.agg #[.int .i64 f.house.hour, .int .i64 f.house.grace, .slice A1 n1 k1, .slice A2 n2 k2, .slice A3 n3 k3, .int .i64 f.tubs, .int .i64 f.opn, .int .i64 f.closing, .slice Aq nq kq]), .int .u16 (z : Int), .int .u8 (p : Int)] w fun e w' => e = .returned (.bool true) ∧ Later w w' := by
  have hnqf : nq = f.queue.length := hc.q.len
  have h1 := hc.cv.ck.len
  have h2 := hc.cv.tk.len
  have h3 := hc.cv.cp.len
  obtain ⟨w0, hw0⟩ : ∃ W, W = w.alloc (.cells #[.int .i64 f.house.hour, .int .i64 f.house.grace, .slice A1 n1 k1, .slice A2 n2 k2, .slice A3 n3 k3, .int .i64 f.tubs, .int .i64 f.opn, .int .i64 f.closing, .slice Aq nq kq] 28) := ⟨_, rfl⟩
  have hbox : ∀ W, Later w0 W → ∀ i, W.cell? ⟨w.heap.size, i, none⟩ = #[.int .i64 f.house.hour, .int .i64 f.house.grace, .slice A1 n1 k1, .slice A2 n2 k2, .slice A3 n3 k3, .int .i64 f.tubs, .int .i64 f.opn, .int .i64 f.closing, .slice Aq nq kq][i]? := (by rw [hw0]; exact box_cells w #[.int .i64 f.house.hour, .int .i64 f.house.grace, .slice A1 n1 k1, .slice A2 n2 k2, .slice A3 n3 k3, .int .i64 f.tubs, .int .i64 f.opn, .int .i64 f.closing, .slice Aq nq kq] 28)
  have hL0 : Later w w0 := (by rw [hw0]; simp)
  have hc0 := hc.later hL0
  have Hw0 := hide hw0
  clear hw0
  have b0 := fun W (h : Later w0 W) => hbox W h 0
  have b1 := fun W (h : Later w0 W) => hbox W h 1
  have b2 := fun W (h : Later w0 W) => hbox W h 2
  have b3 := fun W (h : Later w0 W) => hbox W h 3
  have b4 := fun W (h : Later w0 W) => hbox W h 4
  have b5 := fun W (h : Later w0 W) => hbox W h 5
  have b6 := fun W (h : Later w0 W) => hbox W h 6
  have b7 := fun W (h : Later w0 W) => hbox W h 7
  have b8 := fun W (h : Later w0 W) => hbox W h 8
  simp only [List.getElem?_toArray, List.getElem?_cons_zero, List.getElem?_cons_succ] at b0 b1 b2 b3 b4 b5 b6 b7 b8
  clear hbox
  have hLs := later_refl w0
  have hthin := SThin_calls (k1 := k1) (k2 := k2) (k3 := k3) (kq := kq) w0 hc0 m1 m2 m3
  cases hT : thinF f with
  | false =>
    rw [hT] at hthin
    have Hthin := hide hthin
    clear hthin hT h1 h2 h3 hnqf
    go_enter Try.func3, Try.ntmps3
    go_upto_region 1 with fail
    rw [← Hw0.out]
    go_wp2_with fail
    refine Hthin.out.mono ?_
    rintro e w1 ⟨rfl, hL1⟩
    go_wp2_with fail
    refine (washed_calls _).mono ?_
    rintro e wa ⟨rfl, hLa⟩
    go_wp2_with fail
    go_ret
    exact ⟨rfl, Later.trans hL0 (Later.trans hL1 hLa)⟩
  | true =>
    rw [hT] at hthin
    have hsm : n1 ≤ 1000 ∧ n2 ≤ 1000 ∧ n3 ≤ 1000 ∧ nq ≤ 1000 := by
      unfold thinF at hT
      simp only [Bool.and_eq_true, decide_eq_true_eq] at hT
      have := thinB_small hT.1.1
      have := hT.1.2
      omega
    obtain ⟨hn1, hn2, hn3, hnq⟩ := hsm
    obtain ⟨q, hq⟩ : ∃ q, faultF f = q := ⟨_, rfl⟩
    have hfl := fun W (h : Later w0 W) => SFault_calls (k1 := k1) (k2 := k2) (k3 := k3) (kq := kq) W (hc0.later h) hq hn1 hn2 hn3 hnq
    have Hthin := hide hthin
    have Hfl := hide hfl
    have Hq := hide hq
    have Hnq := hide hnqf
    have H1 := hide h1
    have H2 := hide h2
    have H3 := hide h3
    clear hthin hT hfl hq hnqf h1 h2 h3
    by_cases h0 : q = 0
    · subst h0
      by_cases hqz : nq = 0
      · subst hqz
        go_enter Try.func3, Try.ntmps3
        go_upto_region 1 with fail
        rw [← Hw0.out]
        go_wp2_with fail
        refine Hthin.out.mono ?_
        rintro e w1 ⟨rfl, hL1⟩
        have g8 := b8 w1 hL1
        go_wp2_with fail
        refine (Hfl.out _ hL1).mono ?_
        rintro e w2 ⟨rfl, hL2⟩
        have hL02 := Later.trans hL1 hL2
        go_wp2_with fail
        refine (washed_calls _).mono ?_
        rintro e wa ⟨rfl, hLa⟩
        go_wp2_with fail
        go_ret
        exact ⟨rfl, Later.trans hL0 (Later.trans hL02 hLa)⟩
      by_cases hcz : n1 = 0
      · subst hcz
        have hqb : ((nq : Int) == 0) = false := by simp; omega
        go_enter Try.func3, Try.ntmps3
        go_upto_region 1 with fail
        rw [← Hw0.out]
        go_wp2_with fail
        refine Hthin.out.mono ?_
        rintro e w1 ⟨rfl, hL1⟩
        go_wp2_with fail
        refine (Hfl.out _ hL1).mono ?_
        rintro e w2 ⟨rfl, hL2⟩
        have hL02 := Later.trans hL1 hL2
        go_wp2_with fail
        refine (washed_calls _).mono ?_
        rintro e wa ⟨rfl, hLa⟩
        go_wp2_with fail
        go_ret
        exact ⟨rfl, Later.trans hL0 (Later.trans hL02 hLa)⟩
      · have hqb : ((nq : Int) == 0) = false := by simp; omega
        have hcb : ((n1 : Int) == 0) = false := by simp; omega
        have ok := faultF_zero.1 Hq.out
        have okh := okH_of_fault ok.house
        have hmany := many_le ok.house
        have hlen : (truths f.house).length ≤ 2000 := by rw [← (truthsP_perm ok.house).length_eq]; exact truthsP_len ok.house
        have hbf : Blk w0 w.heap.size 28 #[.int .i64 f.house.hour, .int .i64 f.house.grace, .slice A1 n1 k1, .slice A2 n2 k2, .slice A3 n3 k3, .int .i64 f.tubs, .int .i64 f.opn, .int .i64 f.closing, .slice Aq nq kq] := by rw [Hw0.out]; exact Blk.new _ _ _
        have Hbf := hide hbf
        clear hbf
        go_enter Try.func3, Try.ntmps3
        go_upto_region 1 with fail
        rw [← Hw0.out]
        go_wp2_with fail
        refine Hthin.out.mono ?_
        rintro e w1 ⟨rfl, hL1⟩
        go_wp2_with fail
        refine (Hfl.out _ hL1).mono ?_
        rintro e w2 ⟨rfl, hL2⟩
        have hL02 := Later.trans hL1 hL2
        clear hL1 hL2 Hthin Hfl
        go_upto_region 3 with fail
        go_wp2_with fail
        refine (Truths_calls (c := f.house) (k1 := k1) (k2 := k2) (k3 := k3) _ (hc0.later hL02).cv okh (by omega)).mono ?_
        rintro e w3 ⟨Al, m, kl, rfl, hL3, hrr⟩
        have hL03 := Later.trans hL02 hL3
        have hml := hrr.len
        have hm2 : m ≤ 2000 := by omega
        have hm0 : 0 < m := by
          rcases Nat.eq_zero_or_pos m with h | h
          · exact absurd (List.eq_nil_of_length_eq_zero (by omega)) ok.ne
          · exact h
        obtain ⟨a, hka⟩ : ∃ k, z % m = k := ⟨_, rfl⟩
        have za1 : (z : Int).tmod (m : Int) = (a : Int) := by rw [← hka, Int.tmod_eq_emod_of_nonneg (by omega)]; norm_cast
        have hal : a < m := by rw [← hka]; exact Nat.mod_lt _ hm0
        have za3 : IntKind.i64.wrap (a : Int) = (a : Int) := IntWalk.i64_in _ (by omega)
        have za4 : ¬ m = 0 := by omega
        have za5 : ¬ (m : Int) = 0 := by omega
        have za6 : IntKind.i64.wrap (z : Int) = (z : Int) := IntWalk.i64_in _ (by omega)
        have za7 : ((m : Int) == 0) = false := by simp; omega
        have za8 : (a : Int) < m := by omega
        obtain ⟨ba, oa, t, At, nt, kt, rfl, hx, hrd, hx0⟩ := hrr.get hal
        have ht : t ∈ truths f.house := List.mem_of_getElem? hx
        have he := truths_isErr okh t ht
        have hntl := hrd.len
        have hnt1 : nt = n1 := by have := he.len; have := H1.out; omega
        subst hnt1
        have hn14 : nt ≤ 4 := by have := okh.n1; have := H1.out; omega
        have x0 := hx0 w3 (later_refl _)
        have hc3 := hc0.later hL03
        have Hntl := hide hntl
        clear hrr hml hka hx hx0 hlen hmany hL3 hntl
        go_upto_region 5 with fail
        clear x0 za1 za3 za4 za5 za6 za7
        have g0 := b0 w3 hL03
        have g1 := b1 w3 hL03
        have g2 := b2 w3 hL03
        have g3 := b3 w3 hL03
        have g4 := b4 w3 hL03
        have g5 := b5 w3 hL03
        have g6 := b6 w3 hL03
        have g7 := b7 w3 hL03
        have g8 := b8 w3 hL03
        go_wp2_with fail
        refine (set_calls (k1 := k1) (k2 := k2) (k3 := k3) (kq := kq) (ku := kt) w3 hc3 hrd (by omega)).mono ?_
        rintro e w4 ⟨B, jB, rfl, hL4, hcx⟩
        clear g0 g1 g2 g3 g4 g5 g6 g7 g8
        obtain ⟨w5, hw5⟩ : ∃ X, X = w4.alloc (.cells #[.int .i64 f.house.hour, .int .i64 f.house.grace, .slice B nt jB, .slice A2 n2 k2, .slice A3 n3 k3, .int .i64 f.tubs, .int .i64 f.opn, .int .i64 f.closing, .slice Aq nq kq] 28) := ⟨_, rfl⟩
        obtain ⟨gx, hgx⟩ : ∃ g, g = w4.heap.size := ⟨_, rfl⟩
        have hbx : Blk w5 gx 28 #[.int .i64 f.house.hour, .int .i64 f.house.grace, .slice B nt jB, .slice A2 n2 k2, .slice A3 n3 k3, .int .i64 f.tubs, .int .i64 f.opn, .int .i64 f.closing, .slice Aq nq kq] := by rw [hw5, hgx]; exact Blk.new _ _ _
        have hL5 : Later w4 w5 := by rw [hw5]; exact later_alloc (later_refl _) _
        have hL05 := Later.trans hL03 (Later.trans hL4 hL5)
        have hcx5 := hcx.later hL5
        have hrd5 := hrd.later (Later.trans hL4 hL5)
        have Hw5 := hide hw5
        have Hgx := hide hgx
        have Hbx := hide hbx
        clear hw5 hgx hbx hcx hrd hc3 hL4 hL5
        go_upto_region 6 with fail
        rw [← Hw5.out, ← Hgx.out]
        go_wp2_with fail
        go_loopw [10] (fun v wr => ∃ j : Nat, j ≤ n3 ∧ v = .int .i64 j ∧ Later w5 wr ∧ Hid (∀ i, i < j → trueM f.house t i ≤ f.opn)) (fun v _ => n3 - (intOf v).toNat)
        case atStart => exact ⟨0, Nat.zero_le _, rfl, later_refl _, fun i hi => absurd hi (by omega)⟩
        case round =>
          obtain ⟨j, hj, rfl, hL, Hall⟩ := hrel
          have hL0r := Later.trans hL05 hL
          have q0 := fun X (h : Later wr X) => b0 X (Later.trans hL0r h)
          have q1 := fun X (h : Later wr X) => b1 X (Later.trans hL0r h)
          have q2 := fun X (h : Later wr X) => b2 X (Later.trans hL0r h)
          have q3 := fun X (h : Later wr X) => b3 X (Later.trans hL0r h)
          have q4 := fun X (h : Later wr X) => b4 X (Later.trans hL0r h)
          have q6 := fun X (h : Later wr X) => b6 X (Later.trans hL0r h)
          have hlr := later_refl wr
          by_cases hlt : j < n3
          · have hi1 : (j : Int) < n3 := by omega
            have htr := fun (W : World) (h : Later wr W) => True_calls (c := f.house) (k1 := k1) (k2 := k2) (k3 := k3) (kd := kt) (i := j) W (hc0.later (Later.trans hL0r h)).cv (hrd5.later (Later.trans hL h)) okh he hlt
            obtain ⟨mj, hmj⟩ : ∃ x, trueM f.house t j = x := ⟨_, rfl⟩
            rw [hmj] at htr
            have Htr := hide htr
            have Hmj := hide hmj
            clear htr hmj
            by_cases hgt : f.opn < mj
            · go_wp2_with fail
              refine wp_region_ext (w0 := wr) (by kernel_rfl) (by kernel_rfl) (later_refl _) ?_; (repeat (first | go_big_quiet_step (((go_at_call 9; exact calls_ext (by simp) (Htr.out _ (by (repeat (first | assumption | exact Ext.h _ | refine later_drew ?_ | refine later_alloc ?_ _ | refine later_set ?_ _ (Nat.le_add_right _ _) _ | refine later_set ?_ _ (Nat.le_refl _) _)); done))))) | quiet_step (((go_at_call 9; exact calls_ext (by simp) (Htr.out _ (by (repeat (first | assumption | exact Ext.h _ | refine later_drew ?_ | refine later_alloc ?_ _ | refine later_set ?_ _ (Nat.le_add_right _ _) _ | refine later_set ?_ _ (Nat.le_refl _) _)); done))))))); refine wpQuiet_nil ?_; rintro w6 ⟨⟨_, hM6⟩, rfl⟩; (try dsimp only)
              have hL06 := Later.trans hL0r hM6
              go_wp2_with fail
              refine (washed_calls _).mono ?_
              rintro e wa ⟨rfl, hLa⟩
              go_wp2_with fail
              go_ret
              exact ⟨rfl, Later.trans hL0 (Later.trans hL06 hLa)⟩
            · go_wp2_with fail
              refine wp_region_ext (w0 := wr) (by kernel_rfl) (by kernel_rfl) (later_refl _) ?_; (repeat (first | go_big_quiet_step (((go_at_call 9; exact calls_ext (by simp) (Htr.out _ (by (repeat (first | assumption | exact Ext.h _ | refine later_drew ?_ | refine later_alloc ?_ _ | refine later_set ?_ _ (Nat.le_add_right _ _) _ | refine later_set ?_ _ (Nat.le_refl _) _)); done))))) | quiet_step (((go_at_call 9; exact calls_ext (by simp) (Htr.out _ (by (repeat (first | assumption | exact Ext.h _ | refine later_drew ?_ | refine later_alloc ?_ _ | refine later_set ?_ _ (Nat.le_add_right _ _) _ | refine later_set ?_ _ (Nat.le_refl _) _)); done))))))); refine wpQuiet_nil ?_; rintro w6 ⟨⟨_, hM6⟩, rfl⟩; (try dsimp only)
              go_wp2_with fail
              go_roundw
              case rel => exact ⟨j + 1, by omega, by go_num, Later.trans hL hM6, fun i hi => by
                rcases (by omega : i < j ∨ i = j) with h | rfl
                · exact Hall.out i h
                · rw [Hmj.out]; omega⟩
              case measure => simp [intOf]; omega
          · have hM : ∀ i, i < f.house.clips.length → trueM f.house t i ≤ f.opn := fun i hi => Hall.out i (by have := H3.out; omega)
            have HM := hide hM
            clear hM
            have e0 := ((Hbx.out.later hL).cell 0).trans (show _ = some (Value.int .i64 f.house.hour) from rfl)
            have e1 := ((Hbx.out.later hL).cell 1).trans (show _ = some (Value.int .i64 f.house.grace) from rfl)
            have e2 := ((Hbx.out.later hL).cell 2).trans (show _ = some (Value.slice B nt jB) from rfl)
            have e3 := ((Hbx.out.later hL).cell 3).trans (show _ = some (Value.slice A2 n2 k2) from rfl)
            have e4 := ((Hbx.out.later hL).cell 4).trans (show _ = some (Value.slice A3 n3 k3) from rfl)
            have e5 := ((Hbx.out.later hL).cell 5).trans (show _ = some (Value.int .i64 f.tubs) from rfl)
            have e6 := ((Hbx.out.later hL).cell 6).trans (show _ = some (Value.int .i64 f.opn) from rfl)
            have e7 := ((Hbx.out.later hL).cell 7).trans (show _ = some (Value.int .i64 f.closing) from rfl)
            have e8 := ((Hbx.out.later hL).cell 8).trans (show _ = some (Value.slice Aq nq kq) from rfl)
            have hfl : ∀ (W : World) (h : FV W (setF f t) B nt A2 n2 A3 n3 Aq nq), Calls Try.prog 11 #[(.agg #[.int .i64 f.house.hour, .int .i64 f.house.grace, .slice B nt jB, .slice A2 n2 k2, .slice A3 n3 k3, .int .i64 f.tubs, .int .i64 f.opn, .int .i64 f.closing, .slice Aq nq kq])] W fun e w' => ∃ B1 j1 B2 j2 B3 j3 Bq jq, e = .returned (.agg #[.int .i64 f.house.hour, .int .i64 f.house.grace, .slice B1 nt j1, .slice B2 n2 j2, .slice B3 n3 j3, .int .i64 f.tubs, .int .i64 f.opn, .int .i64 f.closing, .slice Bq nq jq]) ∧ Later W w' ∧ FV w' (setF f t) B1 nt B2 n2 B3 n3 Bq nq := fun W h =>
              lawFloor_calls (f := setF f t) (k1 := jB) (k2 := k2) (k3 := k3) (kq := kq) W h (by omega) hn2 hn3 hnq
            have hgv : ∀ (B1 B2 B3 Bq : Option Addr) (j1 j2 j3 jq : Nat) (W : World) (h : FV W (setF f t) B1 nt B2 n2 B3 n3 Bq nq), Calls Try.prog 10 #[(.agg #[.int .i64 f.house.hour, .int .i64 f.house.grace, .slice B1 nt j1, .slice B2 n2 j2, .slice B3 n3 j3, .int .i64 f.tubs, .int .i64 f.opn, .int .i64 f.closing, .slice Bq nq jq])] W (GivenPost (setF f t) W) := fun B1 B2 B3 Bq j1 j2 j3 jq W h =>
              Given_u (f := setF f t) (k1 := j1) (k2 := j2) (k3 := j3) (kq := jq) W h (by omega) hn2 hn3 hnq
            have hask := askF_setF ok ht
            have Hfl2 := hide hfl
            have Hgv := hide hgv
            have Hask := hide hask
            clear hfl hgv hask Hall
            go_wp2_with fail
            refine (Hfl2.out wr (hcx5.later hL)).mono ?_
            rintro e w6 ⟨B1, j1, B2, j2, B3, j3, Bq, jq, rfl, hL6, hcv6⟩
            clear e0 e1 e2 e3 e4 e5 e6 e7 e8 Hfl2
            go_wp2_with fail
            refine (Hgv.out _ _ _ _ _ _ _ _ w6 hcv6).mono ?_
            have hLr6 := Later.trans hL hL6
            rintro e w7 (⟨hn0, rfl, hL7⟩ | ⟨hn0, As, ks, Af, kf, mm, rfl, hL7, hrs, hrp⟩)
            · have h8 : askF (setF f t) = 8 := by
                have := Hask.out
                split at this
                · exact this
                · exact absurd this hn0
              rw [h8]
              have hL07 := Later.trans hL05 (Later.trans hLr6 hL7)
              clear h8 hn0 hcv6
              go_wp2_with fail
              refine (washed_calls _).mono ?_
              rintro e wa ⟨rfl, hLa⟩
              go_wp2_with fail
              go_ret
              exact ⟨rfl, Later.trans hL0 (Later.trans hL07 hLa)⟩
            · have hgn : givenT f ≠ [] := fun e => by
                have := Hask.out
                rw [if_pos e, hn0] at this
                omega
              have hL57 := Later.trans hLr6 hL7
              have hL07 := Later.trans hL05 hL57
              clear hcv6
              go_upto_region 14 with fail
              refine washB w w7 _ ?_ (Later.trans hL0 hL07) (hc0.later hL07) (hcx5.later hL57) (Hbf.out.later hL07) (Hbx.out.later hL57) (hrd5.later hL57) hrp ok ht hgn HM.out (by omega) (by omega) hp
              assumption
    · have hqb : (q != 0) = true := by simpa using h0
      go_enter Try.func3, Try.ntmps3
      go_upto_region 1 with fail
      rw [← Hw0.out]
      go_wp2_with fail
      refine Hthin.out.mono ?_
      rintro e w1 ⟨rfl, hL1⟩
      go_wp2_with fail
      refine (Hfl.out _ hL1).mono ?_
      rintro e w2 ⟨rfl, hL2⟩
      have hL02 := Later.trans hL1 hL2
      go_wp2_with fail
      refine (washed_calls _).mono ?_
      rintro e wa ⟨rfl, hLa⟩
      go_wp2_with fail
      go_ret
      exact ⟨rfl, Later.trans hL0 (Later.trans hL02 hLa)⟩
end Go.Proofs.Ytcffgjhmpgdfpaa
