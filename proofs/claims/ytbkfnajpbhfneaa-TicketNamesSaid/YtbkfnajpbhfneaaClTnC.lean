/- The law TicketNames: walk. -/
import Derived.Test.YtbkfnajpbhfneaaPart16
set_option linter.unusedSimpArgs false
set_option linter.unusedVariables false
namespace Go.Proofs.Ytbkfnajpbhfneaa
open Go Go.RowKit
attribute [local go_sem] later_alloc2 later_alloc3 later_alloc4
set_option maxRecDepth 100000 in
set_option maxHeartbeats 100000000 in
theorem lawNamesB (w x0 : World) {u1 u3 u5 u7 u9 u11 u13 u15 u17 u19 u21 u22 u24 u25 u26 u27 u28 u29 u30 u31 u32 u33 u34 u35 u36 u37 u38 u39 u40 u41 u42 u43 u44 u45 u46 u47 u48 u49 u50 u51 u52 u53 u54 u55 u56 u57 u58 u59 u60 u61 u62 u63 u64 u65 u66 u67 u68 u69 u70 u71 u72 u73 u74 u75 u76 u77 u78 u79 u80 u81 u82 u83 u84 u85 u86 u87 u88 u89 u90 u91 u92 u93 u94 u95 u96 u97 u98 u99 u100 u101 u102 u103 u104 u105 u106 u107 u108 u109 u110 u111 u112 u113 u114 u115 u116 u117 u118 u119 u120 u121 u122 u123 u124 u125 u126 u127 u128 u129 u130 u131 u132 u133 u134 u135 u136 u137 u138 u139 u140 u141 u142 u143 u144 u145 u146 u147 u148 u149 u150 u151 u152 u153 u154 u155 u156 u157 u158 u159 u160 u161 u162 u163 u164 u165 u166 u167 u168 u169 u170 u171 u172 u173 u174 u175 u176 u177 u178 u179 u180 u181 u182 u183 u184 u185 u186 u187 u188 u189 u190 u191 u192 u193 u194 u195 u196 u197 u198 u199 u200 u201 u202 u203 u204 u205 u206 u207 u208 u209 u210 u211 u212 u213 u214 u215 u216 u217 u218 u219 u220 u221 u222 u223 u224 u225 u226 u227 u228 u229 u230 u231 u232 u233 u234 u235 u236 u237 u238 u239 u240 u241 u242 u243 u244 u245 u246 u247 u248 u249 u250 u251 u252 u253 u254 u255 u256 u257 u258 u259 u260 u261 u262 u263 u264 u265 u266 u267 u268 u269 u270 u271 u272 u273 u274 u275 u276 u277 u278 u279 u280 u281 u282 u283 u284 u285 u286 u287 u288 u289 u290 u291 u292 u293 u294 u295 u296 u297 u298 u299 u300 u301 u302 u303 u304 u305 u306 u307 u308 u309 u310 u311 u312 u313 u314 u315 u316 u317 u318 u319 u320 u321 u322 u323 u324 u325 u326 u327 u328 u329 u330 u331 u332 u333 u334 u335 u336 u337 u338 u339 u340 u341 u342 u343 u344 u345 u346 u347 u348 u349 u350 u351 u352 u353 u354 u355 u356 u357 u358 u359 u360 u361 u362 u363 u364 u365 u366 u367 u368 u369 u370 u371 u372 u373 u374 u375 u376 u377 u378 u379 u380 u381 u382 u383 u384 u385 u386 u387 u388 u389 u390 u391 u392 u393 u394 u395 u396 u397 u398 u399 u400 u401 u402 u403 u404 u405 u406 u407 u408 u409 u410 u411 u412 u413 u414 u415 u416 u417 u418 u419 u420 u421 u422 u423 u424 u425 u426 u427 u428 u429 u430 u431 u432 u433 u434 u435 : Value} (K : Act → World → Prop) (hK : ∀ a W, Code.wp Try.prog (restC 27 Try.f20) (bodyPost Try.prog Try.f20 fun e w' => e = .returned (.bool true) ∧ Later w w') a W → K a W) (hLa : Later w x0) :
    Code.wp Try.prog (headC 27 Try.f20) (Exit.then K (bodyPost Try.prog Try.f20 fun e w' => e = .returned (.bool true) ∧ Later w w')) ⟨#[.bool false, u1, .int .i64 2, u3, .int .i64 2, u5, .int .i64 6, u7, .int .i64 11, u9, .int .i64 2, u11, .int .i64 8, u13, .int .i64 11, u15, .int .i64 11, u17, .int .i64 11, u19, .int .i64 7, u21, u22, .int .i64 7, u24, u25, u26, u27, u28, u29, u30, u31, u32, u33, u34, u35, u36, u37, u38, u39, u40, u41, u42, u43, u44, u45, u46, u47, u48, u49, u50, u51, u52, u53, u54, u55, u56, u57, u58, u59, u60, u61, u62, u63, u64, u65, u66, u67, u68, u69, u70, u71, u72, u73, u74, u75, u76, u77, u78, u79, u80, u81, u82, u83, u84, u85, u86, u87, u88, u89, u90, u91, u92, u93, u94, u95, u96, u97, u98, u99, u100, u101, u102, u103, u104, u105, u106, u107, u108, u109, u110, u111, u112, u113, u114, u115, u116, u117, u118, u119, u120, u121, u122, u123, u124, u125, u126, u127, u128, u129, u130, u131, u132, u133, u134, u135, u136, u137, u138, u139, u140, u141, u142, u143, u144, u145, u146, u147, u148, u149, u150, u151, u152, u153, u154, u155, u156, u157, u158, u159, u160, u161, u162, u163, u164, u165, u166, u167, u168, u169, u170, u171, u172, u173, u174, u175, u176, u177, u178, u179, u180, u181, u182, u183, u184, u185, u186, u187, u188, u189, u190, u191, u192, u193, u194, u195, u196, u197, u198, u199, u200, u201, u202, u203, u204, u205, u206, u207, u208, u209, u210, u211, u212, u213, u214, u215, u216, u217, u218, u219, u220, u221, u222, u223, u224, u225, u226, u227, u228, u229, u230, u231, u232, u233, u234, u235, u236, u237, u238, u239, u240, u241, u242, u243, u244, u245, u246, u247, u248, u249, u250, u251, u252, u253, u254, u255, u256, u257, u258, u259, u260, u261, u262, u263, u264, u265, u266, u267, u268, u269, u270, u271, u272, u273, u274, u275, u276, u277, u278, u279, u280, u281, u282, u283, u284, u285, u286, u287, u288, u289, u290, u291, u292, u293, u294, u295, u296, u297, u298, u299, u300, u301, u302, u303, u304, u305, u306, u307, u308, u309, u310, u311, u312, u313, u314, u315, u316, u317, u318, u319, u320, u321, u322, u323, u324, u325, u326, u327, u328, u329, u330, u331, u332, u333, u334, u335, u336, u337, u338, u339, u340, u341, u342, u343, u344, u345, u346, u347, u348, u349, u350, u351, u352, u353, u354, u355, u356, u357, u358, u359, u360, u361, u362, u363, u364, u365, u366, u367, u368, u369, u370, u371, u372, u373, u374, u375, u376, u377, u378, u379, u380, u381, u382, u383, u384, u385, u386, u387, u388, u389, u390, u391, u392, u393, u394, u395, u396, u397, u398, u399, u400, u401, u402, u403, u404, u405, u406, u407, u408, u409, u410, u411, u412, u413, u414, u415, u416, u417, u418, u419, u420, u421, u422, u423, u424, u425, u426, u427, u428, u429, u430, u431, u432, u433, u434, u435], []⟩ x0 := by
  have hK2 : ∀ a W, Code.wp Try.prog (Code.seq _ _) (bodyPost Try.prog Try.f20 fun e w' => e = .returned (.bool true) ∧ Later w w') a W → K a W := hK
  clear hK
  show Code.wp Try.prog (Code.region _ _ _) _ _ _
  have RP := Rows.nil x0 42
  have RQ := Rows.nil x0 103
  have RR := Rows.nil x0 101
  go_wp2_with fail
  refine (two_new 5 _).mono ?_
  rintro e x1 ⟨p0, q0, r0, rfl, hL, lp0, lq0, lr0, np0, nr0, kp0, kq0, kr0⟩
  replace RP := RP.grow hL kp0 lp0
  replace RQ := RQ.grow hL kq0 lq0
  replace RR := RR.grow hL kr0 lr0
  replace hLa := Later.trans hLa hL
  clear hL lp0 lq0 lr0 np0 nr0 kp0 kq0 kr0
  go_wp2_with fail
  refine (two_new 61 _).mono ?_
  rintro e x2 ⟨p1, q1, r1, rfl, hL, lp1, lq1, lr1, np1, nr1, kp1, kq1, kr1⟩
  replace RP := RP.grow hL kp1 lp1
  replace RQ := RQ.grow hL kq1 lq1
  replace RR := RR.grow hL kr1 lr1
  replace hLa := Later.trans hLa hL
  clear hL lp1 lq1 lr1 np1 nr1 kp1 kq1 kr1
  go_wp2_with fail
  refine (two_new 5 _).mono ?_
  rintro e x3 ⟨p2, q2, r2, rfl, hL, lp2, lq2, lr2, np2, nr2, kp2, kq2, kr2⟩
  replace RP := RP.grow hL kp2 lp2
  replace RQ := RQ.grow hL kq2 lq2
  have lor2 := Nat.le_trans hLa.size lr2
  replace RR := RR.grow hL kr2 lr2
  replace hLa := Later.trans hLa hL
  clear hL lp2 lq2 lr2 np2 nr2 kp2 kq2 kr2
  go_wp2_with fail
  refine (two_new 5 _).mono ?_
  rintro e x4 ⟨p3, q3, r3, rfl, hL, lp3, lq3, lr3, np3, nr3, kp3, kq3, kr3⟩
  have lop3 := Nat.le_trans hLa.size lp3
  replace RP := RP.grow hL kp3 lp3
  replace RQ := RQ.grow hL kq3 lq3
  replace RR := RR.grow hL kr3 lr3
  replace hLa := Later.trans hLa hL
  clear hL lp3 lq3 lr3 np3 nr3 kp3 kq3 kr3
  go_wp2_with fail
  refine (two_new 5 _).mono ?_
  rintro e x5 ⟨p4, q4, r4, rfl, hL, lp4, lq4, lr4, np4, nr4, kp4, kq4, kr4⟩
  replace RP := RP.grow hL kp4 lp4
  have loq4 := Nat.le_trans hLa.size lq4
  replace RQ := RQ.grow hL kq4 lq4
  replace RR := RR.grow hL kr4 lr4
  replace hLa := Later.trans hLa hL
  clear hL lp4 lq4 lr4 np4 nr4 kp4 kq4 kr4
  go_wp2_with fail
  refine (two_new 5 _).mono ?_
  rintro e x6 ⟨p5, q5, r5, rfl, hL, lp5, lq5, lr5, np5, nr5, kp5, kq5, kr5⟩
  replace RP := RP.grow hL kp5 lp5
  have loq5 := Nat.le_trans hLa.size lq5
  replace RQ := RQ.grow hL kq5 lq5
  replace RR := RR.grow hL kr5 lr5
  replace hLa := Later.trans hLa hL
  clear hL lp5 lq5 lr5 np5 nr5 kp5 kq5 kr5
  go_wp2_with fail
  refine (two_new 5 _).mono ?_
  rintro e x7 ⟨p6, q6, r6, rfl, hL, lp6, lq6, lr6, np6, nr6, kp6, kq6, kr6⟩
  replace RP := RP.grow hL kp6 lp6
  replace RQ := RQ.grow hL kq6 lq6
  have lor6 := Nat.le_trans hLa.size lr6
  replace RR := RR.grow hL kr6 lr6
  replace hLa := Later.trans hLa hL
  clear hL lp6 lq6 lr6 np6 nr6 kp6 kq6 kr6
  have uur2 := (RR.get (b := r2) (cs := (clipsV fourClips).toArray) 2 rfl).lt
  have uup3 := (RP.get (b := p3) (cs := (pairsV [(0, 0), (-5, 5)]).toArray) 3 rfl).lt
  have uuq4 := (RQ.get (b := q4) (cs := (pairsV [(0, 1), (0, 2), (1, 0)]).toArray) 4 rfl).lt
  have uuq5 := (RQ.get (b := q5) (cs := (pairsV [(0, 1), (0, 2), (1, 0)]).toArray) 5 rfl).lt
  have uur6 := (RR.get (b := r6) (cs := (clipsV fourClips).toArray) 6 rfl).lt
  go_wp2_with fail
  refine (two3_new _).mono ?_
  rintro e x8 ⟨v7, rfl, hL, h7⟩
  have sz7 := hL.size
  replace RP := RP.later hL
  replace RQ := RQ.later hL
  replace RR := RR.later hL
  replace hLa := Later.trans hLa hL
  clear hL
  go_wp2_with fail
  refine (two_new 5 _).mono ?_
  rintro e x9 ⟨p8, q8, r8, rfl, hL, lp8, lq8, lr8, np8, nr8, kp8, kq8, kr8⟩
  replace RP := RP.grow hL kp8 lp8
  replace RQ := RQ.grow hL kq8 lq8
  replace RR := RR.grow hL kr8 lr8
  replace h7 := h7.later hL
  replace hLa := Later.trans hLa hL
  have hS8 := hL
  clear hL lp8 lq8 lr8 np8 nr8 kp8 kq8 kr8
  go_wp2_with fail
  refine (two_new 5 _).mono ?_
  rintro e x10 ⟨p9, q9, r9, rfl, hL, lp9, lq9, lr9, np9, nr9, kp9, kq9, kr9⟩
  have lop9 := Nat.le_trans hLa.size lp9
  replace RP := RP.grow hL kp9 lp9
  replace RQ := RQ.grow hL kq9 lq9
  replace RR := RR.grow hL kr9 lr9
  replace h7 := h7.later hL
  replace hLa := Later.trans hLa hL
  have hS9 := hL
  clear hL lq9 lr9 np9 nr9 kp9 kq9 kr9
  obtain ⟨A7, j7, B7, i7, C7, m7, rfl, hc7, hb7⟩ := h7
  have h7 : HouN x7.heap.size x8.heap.size (twoH 5 [thirdC]) 2 3 5 (.agg #[.int .i64 60, .int .i64 5, .slice A7 2 j7, .slice B7 3 i7, .slice C7 5 m7]) x10 := ⟨_, _, _, _, _, _, rfl, hc7, hb7⟩
  clear hc7 hb7
  obtain ⟨s7, hs7⟩ : ∃ s, x7.heap.size = s := ⟨_, rfl⟩
  obtain ⟨s8, hs8⟩ : ∃ s, x8.heap.size = s := ⟨_, rfl⟩
  rw [hs7, hs8] at h7
  rw [hs7] at uur2 uup3 uuq4 uuq5 uur6
  have ua9 : s8 ≤ p9 := by rw [← hs8]; exact Nat.le_trans hS8.size lp9
  have hz89 : s8 ≤ x10.heap.size := by rw [← hs8]; exact (Later.trans hS8 hS9).size
  clear hs7 hs8 hS8 hS9 lp9 sz7
  go_upto_region 28 with fail
  obtain ⟨sE, hsE⟩ : ∃ s, x10.heap.size = s := ⟨_, rfl⟩
  rw [hsE]
  have HsE := hide hsE
  clear hsE
  obtain ⟨y0, hy0⟩ : ∃ X, x10.alloc (.cells #[Value.int .i64 60, Value.int .i64 5, Value.slice (some ⟨p0, 0, none⟩) 2 2, Value.slice (some ⟨q0, 0, none⟩) 3 3, Value.slice (some ⟨r0, 0, none⟩) 4 4] 36) = X := ⟨_, rfl⟩
  obtain ⟨y1, hy1⟩ : ∃ X, y0.alloc (.cells #[Value.int .i64 60, Value.int .i64 61, Value.slice (some ⟨p1, 0, none⟩) 2 2, Value.slice (some ⟨q1, 0, none⟩) 3 3, Value.slice (some ⟨r1, 0, none⟩) 4 4] 36) = X := ⟨_, rfl⟩
  obtain ⟨y2, hy2⟩ : ∃ X, y1.alloc (.cells #[Value.int .i64 60, Value.int .i64 5, Value.slice (some ⟨p2, 0, none⟩) 2 2, Value.slice (some ⟨q2, 0, none⟩) 3 3, Value.slice (some ⟨r2, 0, none⟩) 4 4] 36) = X := ⟨_, rfl⟩
  obtain ⟨y3, hy3⟩ : ∃ X, y2.alloc (.cells #[Value.int .i64 60, Value.int .i64 5, Value.slice (some ⟨p3, 0, none⟩) 2 2, Value.slice (some ⟨q3, 0, none⟩) 3 3, Value.slice (some ⟨r3, 0, none⟩) 4 4] 36) = X := ⟨_, rfl⟩
  obtain ⟨y4, hy4⟩ : ∃ X, y3.alloc (.cells #[Value.int .i64 60, Value.int .i64 5, Value.slice (some ⟨p4, 0, none⟩) 2 2, Value.slice (some ⟨q4, 0, none⟩) 3 3, Value.slice (some ⟨r4, 0, none⟩) 4 4] 36) = X := ⟨_, rfl⟩
  obtain ⟨y5, hy5⟩ : ∃ X, y4.alloc (.cells #[Value.int .i64 60, Value.int .i64 5, Value.slice (some ⟨p5, 0, none⟩) 2 2, Value.slice (some ⟨q5, 0, none⟩) 3 3, Value.slice (some ⟨r5, 0, none⟩) 4 4] 36) = X := ⟨_, rfl⟩
  obtain ⟨y6, hy6⟩ : ∃ X, y5.alloc (.cells #[Value.int .i64 60, Value.int .i64 5, Value.slice (some ⟨p6, 0, none⟩) 2 2, Value.slice (some ⟨q6, 0, none⟩) 3 3, Value.slice (some ⟨r6, 0, none⟩) 4 4] 36) = X := ⟨_, rfl⟩
  obtain ⟨y7, hy7⟩ : ∃ X, y6.alloc (.cells #[Value.int .i64 (twoH 5 [thirdC]).hour, .int .i64 (twoH 5 [thirdC]).grace, .slice A7 2 j7, .slice B7 3 i7, .slice C7 5 m7] 36) = X := ⟨_, rfl⟩
  obtain ⟨y8, hy8⟩ : ∃ X, y7.alloc (.cells #[Value.int .i64 60, Value.int .i64 5, Value.slice (some ⟨p8, 0, none⟩) 2 2, Value.slice (some ⟨q8, 0, none⟩) 3 3, Value.slice (some ⟨r8, 0, none⟩) 4 4] 36) = X := ⟨_, rfl⟩
  obtain ⟨y9, hy9⟩ : ∃ X, y8.alloc (.cells #[Value.int .i64 60, Value.int .i64 5, Value.slice (some ⟨p9, 0, none⟩) 2 2, Value.slice (some ⟨q9, 0, none⟩) 3 3, Value.slice (some ⟨r9, 0, none⟩) 4 4] 36) = X := ⟨_, rfl⟩
  rw [hy0, hy1, hy2, hy3, hy4, hy5, hy6, hy7, hy8, hy9]
  have RB := Rows.nil x10 36
  have loE := hLa.size
  rw [HsE.out] at loE
  have afE := Nat.le_trans hz89 (Nat.le_of_eq HsE.out)
  have hz0 : x10.heap.size = sE := by exact HsE.out
  have kb : Blk y0 (sE) 36 #[Value.int .i64 60, Value.int .i64 5, Value.slice (some ⟨p0, 0, none⟩) 2 2, Value.slice (some ⟨q0, 0, none⟩) 3 3, Value.slice (some ⟨r0, 0, none⟩) 4 4] := by rw [← hz0, ← hy0]; exact Blk.new _ _ _
  have hL : Later x10 y0 := by rw [← hy0]; exact later_alloc (later_refl _) _
  replace RB := RB.grow hL kb (Nat.le_of_eq hz0)
  replace RP := RP.later hL
  replace RQ := RQ.later hL
  replace RR := RR.later hL
  replace h7 := h7.later hL
  replace hLa := Later.trans hLa hL
  clear hL kb
  have hz1 : y0.heap.size = sE + 1 := by rw [← hy0, World.size_alloc, hz0]
  have kb : Blk y1 (sE + 1) 36 #[Value.int .i64 60, Value.int .i64 61, Value.slice (some ⟨p1, 0, none⟩) 2 2, Value.slice (some ⟨q1, 0, none⟩) 3 3, Value.slice (some ⟨r1, 0, none⟩) 4 4] := by rw [← hz1, ← hy1]; exact Blk.new _ _ _
  have hL : Later y0 y1 := by rw [← hy1]; exact later_alloc (later_refl _) _
  replace RB := RB.grow hL kb (Nat.le_of_eq hz1)
  replace RP := RP.later hL
  replace RQ := RQ.later hL
  replace RR := RR.later hL
  replace h7 := h7.later hL
  replace hLa := Later.trans hLa hL
  clear hL kb
  have hz2 : y1.heap.size = sE + 1 + 1 := by rw [← hy1, World.size_alloc, hz1]
  have kb : Blk y2 (sE + 1 + 1) 36 #[Value.int .i64 60, Value.int .i64 5, Value.slice (some ⟨p2, 0, none⟩) 2 2, Value.slice (some ⟨q2, 0, none⟩) 3 3, Value.slice (some ⟨r2, 0, none⟩) 4 4] := by rw [← hz2, ← hy2]; exact Blk.new _ _ _
  have hL : Later y1 y2 := by rw [← hy2]; exact later_alloc (later_refl _) _
  replace RB := RB.grow hL kb (Nat.le_of_eq hz2)
  replace RP := RP.later hL
  replace RQ := RQ.later hL
  replace RR := RR.later hL
  replace h7 := h7.later hL
  replace hLa := Later.trans hLa hL
  clear hL kb
  have hz3 : y2.heap.size = sE + 1 + 1 + 1 := by rw [← hy2, World.size_alloc, hz2]
  have kb : Blk y3 (sE + 1 + 1 + 1) 36 #[Value.int .i64 60, Value.int .i64 5, Value.slice (some ⟨p3, 0, none⟩) 2 2, Value.slice (some ⟨q3, 0, none⟩) 3 3, Value.slice (some ⟨r3, 0, none⟩) 4 4] := by rw [← hz3, ← hy3]; exact Blk.new _ _ _
  have hL : Later y2 y3 := by rw [← hy3]; exact later_alloc (later_refl _) _
  replace RB := RB.grow hL kb (Nat.le_of_eq hz3)
  replace RP := RP.later hL
  replace RQ := RQ.later hL
  replace RR := RR.later hL
  replace h7 := h7.later hL
  replace hLa := Later.trans hLa hL
  clear hL kb
  have hz4 : y3.heap.size = sE + 1 + 1 + 1 + 1 := by rw [← hy3, World.size_alloc, hz3]
  have kb : Blk y4 (sE + 1 + 1 + 1 + 1) 36 #[Value.int .i64 60, Value.int .i64 5, Value.slice (some ⟨p4, 0, none⟩) 2 2, Value.slice (some ⟨q4, 0, none⟩) 3 3, Value.slice (some ⟨r4, 0, none⟩) 4 4] := by rw [← hz4, ← hy4]; exact Blk.new _ _ _
  have hL : Later y3 y4 := by rw [← hy4]; exact later_alloc (later_refl _) _
  replace RB := RB.grow hL kb (Nat.le_of_eq hz4)
  replace RP := RP.later hL
  replace RQ := RQ.later hL
  replace RR := RR.later hL
  replace h7 := h7.later hL
  replace hLa := Later.trans hLa hL
  clear hL kb
  have hz5 : y4.heap.size = sE + 1 + 1 + 1 + 1 + 1 := by rw [← hy4, World.size_alloc, hz4]
  have kb : Blk y5 (sE + 1 + 1 + 1 + 1 + 1) 36 #[Value.int .i64 60, Value.int .i64 5, Value.slice (some ⟨p5, 0, none⟩) 2 2, Value.slice (some ⟨q5, 0, none⟩) 3 3, Value.slice (some ⟨r5, 0, none⟩) 4 4] := by rw [← hz5, ← hy5]; exact Blk.new _ _ _
  have hL : Later y4 y5 := by rw [← hy5]; exact later_alloc (later_refl _) _
  replace RB := RB.grow hL kb (Nat.le_of_eq hz5)
  replace RP := RP.later hL
  replace RQ := RQ.later hL
  replace RR := RR.later hL
  replace h7 := h7.later hL
  replace hLa := Later.trans hLa hL
  clear hL kb
  have hz6 : y5.heap.size = sE + 1 + 1 + 1 + 1 + 1 + 1 := by rw [← hy5, World.size_alloc, hz5]
  have kb : Blk y6 (sE + 1 + 1 + 1 + 1 + 1 + 1) 36 #[Value.int .i64 60, Value.int .i64 5, Value.slice (some ⟨p6, 0, none⟩) 2 2, Value.slice (some ⟨q6, 0, none⟩) 3 3, Value.slice (some ⟨r6, 0, none⟩) 4 4] := by rw [← hz6, ← hy6]; exact Blk.new _ _ _
  have hL : Later y5 y6 := by rw [← hy6]; exact later_alloc (later_refl _) _
  replace RB := RB.grow hL kb (Nat.le_of_eq hz6)
  replace RP := RP.later hL
  replace RQ := RQ.later hL
  replace RR := RR.later hL
  replace h7 := h7.later hL
  replace hLa := Later.trans hLa hL
  clear hL kb
  have hz7 : y6.heap.size = sE + 1 + 1 + 1 + 1 + 1 + 1 + 1 := by rw [← hy6, World.size_alloc, hz6]
  have kb : Blk y7 (sE + 1 + 1 + 1 + 1 + 1 + 1 + 1) 36 #[Value.int .i64 (twoH 5 [thirdC]).hour, .int .i64 (twoH 5 [thirdC]).grace, .slice A7 2 j7, .slice B7 3 i7, .slice C7 5 m7] := by rw [← hz7, ← hy7]; exact Blk.new _ _ _
  have hL : Later y6 y7 := by rw [← hy7]; exact later_alloc (later_refl _) _
  replace RB := RB.grow hL kb (Nat.le_of_eq hz7)
  replace RP := RP.later hL
  replace RQ := RQ.later hL
  replace RR := RR.later hL
  replace h7 := h7.later hL
  replace hLa := Later.trans hLa hL
  clear hL kb
  have hz8 : y7.heap.size = sE + 1 + 1 + 1 + 1 + 1 + 1 + 1 + 1 := by rw [← hy7, World.size_alloc, hz7]
  have kb : Blk y8 (sE + 1 + 1 + 1 + 1 + 1 + 1 + 1 + 1) 36 #[Value.int .i64 60, Value.int .i64 5, Value.slice (some ⟨p8, 0, none⟩) 2 2, Value.slice (some ⟨q8, 0, none⟩) 3 3, Value.slice (some ⟨r8, 0, none⟩) 4 4] := by rw [← hz8, ← hy8]; exact Blk.new _ _ _
  have hL : Later y7 y8 := by rw [← hy8]; exact later_alloc (later_refl _) _
  replace RB := RB.grow hL kb (Nat.le_of_eq hz8)
  replace RP := RP.later hL
  replace RQ := RQ.later hL
  replace RR := RR.later hL
  replace h7 := h7.later hL
  replace hLa := Later.trans hLa hL
  clear hL kb
  have hz9 : y8.heap.size = sE + 1 + 1 + 1 + 1 + 1 + 1 + 1 + 1 + 1 := by rw [← hy8, World.size_alloc, hz8]
  have kb : Blk y9 (sE + 1 + 1 + 1 + 1 + 1 + 1 + 1 + 1 + 1) 36 #[Value.int .i64 60, Value.int .i64 5, Value.slice (some ⟨p9, 0, none⟩) 2 2, Value.slice (some ⟨q9, 0, none⟩) 3 3, Value.slice (some ⟨r9, 0, none⟩) 4 4] := by rw [← hz9, ← hy9]; exact Blk.new _ _ _
  have hL : Later y8 y9 := by rw [← hy9]; exact later_alloc (later_refl _) _
  replace RB := RB.grow hL kb (Nat.le_of_eq hz9)
  replace RP := RP.later hL
  replace RQ := RQ.later hL
  replace RR := RR.later hL
  replace h7 := h7.later hL
  replace hLa := Later.trans hLa hL
  clear hL kb
  clear hy0 hz0 hy1 hz1 hy2 hz2 hy3 hz3 hy4 hz4 hy5 hz5 hy6 hz6 hy7 hz7 hy8 hz8 hy9 hz9
  replace RP : Rows y9 42 [(p0, (pairsV [(0, 0), (-5, 5)]).toArray), (p1, (pairsV [(0, 0), (-5, 5)]).toArray), (p2, (pairsV [(0, 0), (-5, 5)]).toArray), (p3, (pairsV [(0, 0), (-5, 5)]).toArray), (p4, (pairsV [(0, 0), (-5, 5)]).toArray), (p5, (pairsV [(0, 0), (-5, 5)]).toArray), (p6, (pairsV [(0, 0), (-5, 5)]).toArray), (p8, (pairsV [(0, 0), (-5, 5)]).toArray), (p9, (pairsV [(0, 0), (-5, 5)]).toArray)] := RP
  replace RQ : Rows y9 103 [(q0, (pairsV [(0, 1), (0, 2), (1, 0)]).toArray), (q1, (pairsV [(0, 1), (0, 2), (1, 0)]).toArray), (q2, (pairsV [(0, 1), (0, 2), (1, 0)]).toArray), (q3, (pairsV [(0, 1), (0, 2), (1, 0)]).toArray), (q4, (pairsV [(0, 1), (0, 2), (1, 0)]).toArray), (q5, (pairsV [(0, 1), (0, 2), (1, 0)]).toArray), (q6, (pairsV [(0, 1), (0, 2), (1, 0)]).toArray), (q8, (pairsV [(0, 1), (0, 2), (1, 0)]).toArray), (q9, (pairsV [(0, 1), (0, 2), (1, 0)]).toArray)] := RQ
  replace RR : Rows y9 101 [(r0, (clipsV fourClips).toArray), (r1, (clipsV fourClips).toArray), (r2, (clipsV fourClips).toArray), (r3, (clipsV fourClips).toArray), (r4, (clipsV fourClips).toArray), (r5, (clipsV fourClips).toArray), (r6, (clipsV fourClips).toArray), (r8, (clipsV fourClips).toArray), (r9, (clipsV fourClips).toArray)] := RR
  replace RB : Rows y9 36 [(sE, #[Value.int .i64 60, Value.int .i64 5, Value.slice (some ⟨p0, 0, none⟩) 2 2, Value.slice (some ⟨q0, 0, none⟩) 3 3, Value.slice (some ⟨r0, 0, none⟩) 4 4]), (sE + 1, #[Value.int .i64 60, Value.int .i64 61, Value.slice (some ⟨p1, 0, none⟩) 2 2, Value.slice (some ⟨q1, 0, none⟩) 3 3, Value.slice (some ⟨r1, 0, none⟩) 4 4]), (sE + 1 + 1, #[Value.int .i64 60, Value.int .i64 5, Value.slice (some ⟨p2, 0, none⟩) 2 2, Value.slice (some ⟨q2, 0, none⟩) 3 3, Value.slice (some ⟨r2, 0, none⟩) 4 4]), (sE + 1 + 1 + 1, #[Value.int .i64 60, Value.int .i64 5, Value.slice (some ⟨p3, 0, none⟩) 2 2, Value.slice (some ⟨q3, 0, none⟩) 3 3, Value.slice (some ⟨r3, 0, none⟩) 4 4]), (sE + 1 + 1 + 1 + 1, #[Value.int .i64 60, Value.int .i64 5, Value.slice (some ⟨p4, 0, none⟩) 2 2, Value.slice (some ⟨q4, 0, none⟩) 3 3, Value.slice (some ⟨r4, 0, none⟩) 4 4]), (sE + 1 + 1 + 1 + 1 + 1, #[Value.int .i64 60, Value.int .i64 5, Value.slice (some ⟨p5, 0, none⟩) 2 2, Value.slice (some ⟨q5, 0, none⟩) 3 3, Value.slice (some ⟨r5, 0, none⟩) 4 4]), (sE + 1 + 1 + 1 + 1 + 1 + 1, #[Value.int .i64 60, Value.int .i64 5, Value.slice (some ⟨p6, 0, none⟩) 2 2, Value.slice (some ⟨q6, 0, none⟩) 3 3, Value.slice (some ⟨r6, 0, none⟩) 4 4]), (sE + 1 + 1 + 1 + 1 + 1 + 1 + 1, #[Value.int .i64 (twoH 5 [thirdC]).hour, .int .i64 (twoH 5 [thirdC]).grace, .slice A7 2 j7, .slice B7 3 i7, .slice C7 5 m7]), (sE + 1 + 1 + 1 + 1 + 1 + 1 + 1 + 1, #[Value.int .i64 60, Value.int .i64 5, Value.slice (some ⟨p8, 0, none⟩) 2 2, Value.slice (some ⟨q8, 0, none⟩) 3 3, Value.slice (some ⟨r8, 0, none⟩) 4 4]), (sE + 1 + 1 + 1 + 1 + 1 + 1 + 1 + 1 + 1, #[Value.int .i64 60, Value.int .i64 5, Value.slice (some ⟨p9, 0, none⟩) 2 2, Value.slice (some ⟨q9, 0, none⟩) 3 3, Value.slice (some ⟨r9, 0, none⟩) 4 4])] := RB
  have cb : y9.cell? ⟨sE, 0, none⟩ = some _ := ((RB.get 0 rfl).cell 0).trans rfl
  have cf := (RB.get 0 rfl).frozen 0
  go_upto_region 29 with fail
  clear cb cf
  obtain ⟨z1, hz⟩ : ∃ X : World, X = (y9).setCell ⟨sE, 0, none⟩ (Value.int .i64 0) := ⟨_, rfl⟩
  rw [← hz]
  have kt := RB.get 0 rfl
  replace RP := RP.other kt (by decide) 0 (Value.int .i64 0)
  replace RQ := RQ.other kt (by decide) 0 (Value.int .i64 0)
  replace RR := RR.other kt (by decide) 0 (Value.int .i64 0)
  replace RB := (show Rows _ _ [(sE, (#[Value.int .i64 60, Value.int .i64 5, Value.slice (some ⟨p0, 0, none⟩) 2 2, Value.slice (some ⟨q0, 0, none⟩) 3 3, Value.slice (some ⟨r0, 0, none⟩) 4 4]).setIfInBounds 0 (Value.int .i64 0)), (sE + 1, #[Value.int .i64 60, Value.int .i64 61, Value.slice (some ⟨p1, 0, none⟩) 2 2, Value.slice (some ⟨q1, 0, none⟩) 3 3, Value.slice (some ⟨r1, 0, none⟩) 4 4]), (sE + 1 + 1, #[Value.int .i64 60, Value.int .i64 5, Value.slice (some ⟨p2, 0, none⟩) 2 2, Value.slice (some ⟨q2, 0, none⟩) 3 3, Value.slice (some ⟨r2, 0, none⟩) 4 4]), (sE + 1 + 1 + 1, #[Value.int .i64 60, Value.int .i64 5, Value.slice (some ⟨p3, 0, none⟩) 2 2, Value.slice (some ⟨q3, 0, none⟩) 3 3, Value.slice (some ⟨r3, 0, none⟩) 4 4]), (sE + 1 + 1 + 1 + 1, #[Value.int .i64 60, Value.int .i64 5, Value.slice (some ⟨p4, 0, none⟩) 2 2, Value.slice (some ⟨q4, 0, none⟩) 3 3, Value.slice (some ⟨r4, 0, none⟩) 4 4]), (sE + 1 + 1 + 1 + 1 + 1, #[Value.int .i64 60, Value.int .i64 5, Value.slice (some ⟨p5, 0, none⟩) 2 2, Value.slice (some ⟨q5, 0, none⟩) 3 3, Value.slice (some ⟨r5, 0, none⟩) 4 4]), (sE + 1 + 1 + 1 + 1 + 1 + 1, #[Value.int .i64 60, Value.int .i64 5, Value.slice (some ⟨p6, 0, none⟩) 2 2, Value.slice (some ⟨q6, 0, none⟩) 3 3, Value.slice (some ⟨r6, 0, none⟩) 4 4]), (sE + 1 + 1 + 1 + 1 + 1 + 1 + 1, #[Value.int .i64 (twoH 5 [thirdC]).hour, .int .i64 (twoH 5 [thirdC]).grace, .slice A7 2 j7, .slice B7 3 i7, .slice C7 5 m7]), (sE + 1 + 1 + 1 + 1 + 1 + 1 + 1 + 1, #[Value.int .i64 60, Value.int .i64 5, Value.slice (some ⟨p8, 0, none⟩) 2 2, Value.slice (some ⟨q8, 0, none⟩) 3 3, Value.slice (some ⟨r8, 0, none⟩) 4 4]), (sE + 1 + 1 + 1 + 1 + 1 + 1 + 1 + 1 + 1, #[Value.int .i64 60, Value.int .i64 5, Value.slice (some ⟨p9, 0, none⟩) 2 2, Value.slice (some ⟨q9, 0, none⟩) 3 3, Value.slice (some ⟨r9, 0, none⟩) 4 4])] from RB.store 0 rfl 0 (Value.int .i64 0))
  replace h7 := h7.far (g := sE) (by have := afE; omega) (kept_set _ _ 0 (Value.int .i64 0))
  clear kt
  replace hLa := later_set (hLa) (⟨sE, 0, none⟩ : Addr) (show w.heap.size ≤ sE by have := loE; omega) (Value.int .i64 0)
  rw [← hz] at RB
  rw [← hz] at RP
  rw [← hz] at RQ
  rw [← hz] at RR
  rw [← hz] at h7
  rw [← hz] at hLa
  clear hz
  have ca0 : z1.cell? ⟨sE + 1 + 1, 4, none⟩ = some (Value.slice (some ⟨r2, 0, none⟩) 4 4) := ((RB.get 2 rfl).cell 4).trans rfl
  have cb : z1.cell? ⟨r2, 1, none⟩ = some _ := ((RR.get 2 rfl).cell 1).trans rfl
  have cf := (RR.get 2 rfl).frozen 1
  go_upto_region 30 with fail
  clear ca0 cb cf
  obtain ⟨z2, hz⟩ : ∃ X : World, X = (z1).setCell ⟨r2, 1, none⟩ (Value.int .i64 2) := ⟨_, rfl⟩
  rw [← hz]
  have kt := RR.get 2 rfl
  replace RP := RP.other kt (by decide) 1 (Value.int .i64 2)
  replace RQ := RQ.other kt (by decide) 1 (Value.int .i64 2)
  replace RB := RB.other kt (by decide) 1 (Value.int .i64 2)
  replace RR := (show Rows _ _ [(r0, (clipsV fourClips).toArray), (r1, (clipsV fourClips).toArray), (r2, ((clipsV fourClips).toArray).setIfInBounds 1 (Value.int .i64 2)), (r3, (clipsV fourClips).toArray), (r4, (clipsV fourClips).toArray), (r5, (clipsV fourClips).toArray), (r6, (clipsV fourClips).toArray), (r8, (clipsV fourClips).toArray), (r9, (clipsV fourClips).toArray)] from RR.store 2 rfl 1 (Value.int .i64 2))
  replace h7 := h7.far (g := r2) (by have := uur2; omega) (kept_set _ _ 1 (Value.int .i64 2))
  clear kt
  replace hLa := later_set (hLa) (⟨r2, 1, none⟩ : Addr) (show w.heap.size ≤ r2 by have := lor2; omega) (Value.int .i64 2)
  rw [← hz] at RB
  rw [← hz] at RP
  rw [← hz] at RQ
  rw [← hz] at RR
  rw [← hz] at h7
  rw [← hz] at hLa
  clear hz
  have cb := fun (W : World) (h : Later z2 W) => (((RB.get 3 rfl).later h).cell 2).trans (show _ = some (Value.slice (some ⟨p3, 0, none⟩) 2 2) from rfl)
  refine wp_region_ext_tail (w0 := z2) 4 (by kernel_rfl) (by kernel_rfl) (later_refl _) ?_; simp only [List.take_succ_cons, List.take_zero, List.drop_succ_cons, List.drop_zero]; (repeat (first | go_big_quiet_step ((((go_at_call 51; exact calls_ext (by simp) (lawBetween_calls _ _ _))))) | quiet_step ((((go_at_call 51; exact calls_ext (by simp) (lawBetween_calls _ _ _))))))); refine wpQuiet_nil ?_; rintro zq ⟨⟨_, hL⟩, rfl⟩; (try dsimp only)
  clear cb
  replace RB := RB.later hL
  replace RP := RP.later hL
  replace RQ := RQ.later hL
  replace RR := RR.later hL
  replace h7 := h7.later hL
  replace hLa := Later.trans hLa hL
  clear hL
  have cb0 : zq.cell? ⟨p3, 0, none⟩ = some _ := ((RP.get 3 rfl).cell 0).trans rfl
  have cf0 := (RP.get 3 rfl).frozen 0
  have cb1 : zq.cell? ⟨p3, 1, none⟩ = some _ := ((RP.get 3 rfl).cell 1).trans rfl
  have cf1 := (RP.get 3 rfl).frozen 1
  go_upto_region 31 with fail
  clear cb0 cb1 cf0 cf1
  obtain ⟨z3, hz⟩ : ∃ X : World, X = ((zq).setCell ⟨p3, 0, none⟩ (Value.int .i64 0)).setCell ⟨p3, 1, none⟩ (Value.int .i64 31) := ⟨_, rfl⟩
  rw [← hz]
  have kt := RP.get 3 rfl
  replace RQ := RQ.other kt (by decide) 0 (Value.int .i64 0)
  replace RR := RR.other kt (by decide) 0 (Value.int .i64 0)
  replace RB := RB.other kt (by decide) 0 (Value.int .i64 0)
  replace RP := (show Rows _ _ [(p0, (pairsV [(0, 0), (-5, 5)]).toArray), (p1, (pairsV [(0, 0), (-5, 5)]).toArray), (p2, (pairsV [(0, 0), (-5, 5)]).toArray), (p3, ((pairsV [(0, 0), (-5, 5)]).toArray).setIfInBounds 0 (Value.int .i64 0)), (p4, (pairsV [(0, 0), (-5, 5)]).toArray), (p5, (pairsV [(0, 0), (-5, 5)]).toArray), (p6, (pairsV [(0, 0), (-5, 5)]).toArray), (p8, (pairsV [(0, 0), (-5, 5)]).toArray), (p9, (pairsV [(0, 0), (-5, 5)]).toArray)] from RP.store 3 rfl 0 (Value.int .i64 0))
  replace h7 := h7.far (g := p3) (by have := uup3; omega) (kept_set _ _ 0 (Value.int .i64 0))
  clear kt
  have kt := RP.get 3 rfl
  replace RQ := RQ.other kt (by decide) 1 (Value.int .i64 31)
  replace RR := RR.other kt (by decide) 1 (Value.int .i64 31)
  replace RB := RB.other kt (by decide) 1 (Value.int .i64 31)
  replace RP := (show Rows _ _ [(p0, (pairsV [(0, 0), (-5, 5)]).toArray), (p1, (pairsV [(0, 0), (-5, 5)]).toArray), (p2, (pairsV [(0, 0), (-5, 5)]).toArray), (p3, (((pairsV [(0, 0), (-5, 5)]).toArray).setIfInBounds 0 (Value.int .i64 0)).setIfInBounds 1 (Value.int .i64 31)), (p4, (pairsV [(0, 0), (-5, 5)]).toArray), (p5, (pairsV [(0, 0), (-5, 5)]).toArray), (p6, (pairsV [(0, 0), (-5, 5)]).toArray), (p8, (pairsV [(0, 0), (-5, 5)]).toArray), (p9, (pairsV [(0, 0), (-5, 5)]).toArray)] from RP.store 3 rfl 1 (Value.int .i64 31))
  replace h7 := h7.far (g := p3) (by have := uup3; omega) (kept_set _ _ 1 (Value.int .i64 31))
  clear kt
  replace hLa := later_set (later_set (hLa) (⟨p3, 0, none⟩ : Addr) (show w.heap.size ≤ p3 by have := lop3; omega) (Value.int .i64 0)) (⟨p3, 1, none⟩ : Addr) (show w.heap.size ≤ p3 by have := lop3; omega) (Value.int .i64 31)
  rw [← hz] at RB
  rw [← hz] at RP
  rw [← hz] at RQ
  rw [← hz] at RR
  rw [← hz] at h7
  rw [← hz] at hLa
  clear hz
  have ca0 : z3.cell? ⟨sE + 1 + 1 + 1 + 1, 3, none⟩ = some (Value.slice (some ⟨q4, 0, none⟩) 3 3) := ((RB.get 4 rfl).cell 3).trans rfl
  have cb : z3.cell? ⟨q4, 0, none⟩ = some _ := ((RQ.get 4 rfl).cell 0).trans rfl
  have cf := (RQ.get 4 rfl).frozen 0
  go_upto_region 32 with fail
  clear ca0 cb cf
  obtain ⟨z4, hz⟩ : ∃ X : World, X = (z3).setCell ⟨q4, 0, none⟩ (Value.int .i64 9) := ⟨_, rfl⟩
  rw [← hz]
  have kt := RQ.get 4 rfl
  replace RP := RP.other kt (by decide) 0 (Value.int .i64 9)
  replace RR := RR.other kt (by decide) 0 (Value.int .i64 9)
  replace RB := RB.other kt (by decide) 0 (Value.int .i64 9)
  replace RQ := (show Rows _ _ [(q0, (pairsV [(0, 1), (0, 2), (1, 0)]).toArray), (q1, (pairsV [(0, 1), (0, 2), (1, 0)]).toArray), (q2, (pairsV [(0, 1), (0, 2), (1, 0)]).toArray), (q3, (pairsV [(0, 1), (0, 2), (1, 0)]).toArray), (q4, ((pairsV [(0, 1), (0, 2), (1, 0)]).toArray).setIfInBounds 0 (Value.int .i64 9)), (q5, (pairsV [(0, 1), (0, 2), (1, 0)]).toArray), (q6, (pairsV [(0, 1), (0, 2), (1, 0)]).toArray), (q8, (pairsV [(0, 1), (0, 2), (1, 0)]).toArray), (q9, (pairsV [(0, 1), (0, 2), (1, 0)]).toArray)] from RQ.store 4 rfl 0 (Value.int .i64 9))
  replace h7 := h7.far (g := q4) (by have := uuq4; omega) (kept_set _ _ 0 (Value.int .i64 9))
  clear kt
  replace hLa := later_set (hLa) (⟨q4, 0, none⟩ : Addr) (show w.heap.size ≤ q4 by have := loq4; omega) (Value.int .i64 9)
  rw [← hz] at RB
  rw [← hz] at RP
  rw [← hz] at RQ
  rw [← hz] at RR
  rw [← hz] at h7
  rw [← hz] at hLa
  clear hz
  have ca0 : z4.cell? ⟨sE + 1 + 1 + 1 + 1 + 1, 3, none⟩ = some (Value.slice (some ⟨q5, 0, none⟩) 3 3) := ((RB.get 5 rfl).cell 3).trans rfl
  have cb : z4.cell? ⟨q5, 1, none⟩ = some _ := ((RQ.get 5 rfl).cell 1).trans rfl
  have cf := (RQ.get 5 rfl).frozen 1
  go_upto_region 33 with fail
  clear ca0 cb cf
  obtain ⟨z5, hz⟩ : ∃ X : World, X = (z4).setCell ⟨q5, 1, none⟩ (Value.int .i64 10) := ⟨_, rfl⟩
  rw [← hz]
  have kt := RQ.get 5 rfl
  replace RP := RP.other kt (by decide) 1 (Value.int .i64 10)
  replace RR := RR.other kt (by decide) 1 (Value.int .i64 10)
  replace RB := RB.other kt (by decide) 1 (Value.int .i64 10)
  replace RQ := (show Rows _ _ [(q0, (pairsV [(0, 1), (0, 2), (1, 0)]).toArray), (q1, (pairsV [(0, 1), (0, 2), (1, 0)]).toArray), (q2, (pairsV [(0, 1), (0, 2), (1, 0)]).toArray), (q3, (pairsV [(0, 1), (0, 2), (1, 0)]).toArray), (q4, ((pairsV [(0, 1), (0, 2), (1, 0)]).toArray).setIfInBounds 0 (Value.int .i64 9)), (q5, ((pairsV [(0, 1), (0, 2), (1, 0)]).toArray).setIfInBounds 1 (Value.int .i64 10)), (q6, (pairsV [(0, 1), (0, 2), (1, 0)]).toArray), (q8, (pairsV [(0, 1), (0, 2), (1, 0)]).toArray), (q9, (pairsV [(0, 1), (0, 2), (1, 0)]).toArray)] from RQ.store 5 rfl 1 (Value.int .i64 10))
  replace h7 := h7.far (g := q5) (by have := uuq5; omega) (kept_set _ _ 1 (Value.int .i64 10))
  clear kt
  replace hLa := later_set (hLa) (⟨q5, 1, none⟩ : Addr) (show w.heap.size ≤ q5 by have := loq5; omega) (Value.int .i64 10)
  rw [← hz] at RB
  rw [← hz] at RP
  rw [← hz] at RQ
  rw [← hz] at RR
  rw [← hz] at h7
  rw [← hz] at hLa
  clear hz
  have ca0 : z5.cell? ⟨sE + 1 + 1 + 1 + 1 + 1 + 1, 4, none⟩ = some (Value.slice (some ⟨r6, 0, none⟩) 4 4) := ((RB.get 6 rfl).cell 4).trans rfl
  have cb : z5.cell? ⟨r6, 2, none⟩ = some _ := ((RR.get 6 rfl).cell 2).trans rfl
  have cf := (RR.get 6 rfl).frozen 2
  go_upto_region 34 with fail
  clear ca0 cb cf
  obtain ⟨z6, hz⟩ : ∃ X : World, X = (z5).setCell ⟨r6, 2, none⟩ (Value.int .i64 1440) := ⟨_, rfl⟩
  rw [← hz]
  have kt := RR.get 6 rfl
  replace RP := RP.other kt (by decide) 2 (Value.int .i64 1440)
  replace RQ := RQ.other kt (by decide) 2 (Value.int .i64 1440)
  replace RB := RB.other kt (by decide) 2 (Value.int .i64 1440)
  replace RR := (show Rows _ _ [(r0, (clipsV fourClips).toArray), (r1, (clipsV fourClips).toArray), (r2, ((clipsV fourClips).toArray).setIfInBounds 1 (Value.int .i64 2)), (r3, (clipsV fourClips).toArray), (r4, (clipsV fourClips).toArray), (r5, (clipsV fourClips).toArray), (r6, ((clipsV fourClips).toArray).setIfInBounds 2 (Value.int .i64 1440)), (r8, (clipsV fourClips).toArray), (r9, (clipsV fourClips).toArray)] from RR.store 6 rfl 2 (Value.int .i64 1440))
  replace h7 := h7.far (g := r6) (by have := uur6; omega) (kept_set _ _ 2 (Value.int .i64 1440))
  clear kt
  replace hLa := later_set (hLa) (⟨r6, 2, none⟩ : Addr) (show w.heap.size ≤ r6 by have := lor6; omega) (Value.int .i64 1440)
  rw [← hz] at RB
  rw [← hz] at RP
  rw [← hz] at RQ
  rw [← hz] at RR
  rw [← hz] at h7
  rw [← hz] at hLa
  clear hz
  obtain ⟨zB, hzm⟩ : ∃ X, z6.alloc (.cells (clipsV manyH.clips).toArray 101) = X := ⟨_, rfl⟩
  obtain ⟨gB, hgm⟩ : ∃ g, z6.heap.size = g := ⟨_, rfl⟩
  have hL : Later z6 zB := by rw [← hzm]; exact later_alloc (later_refl _) _
  have kgB : Blk zB gB 101 (clipsV manyH.clips).toArray := by rw [← hzm, ← hgm]; exact Blk.new _ _ _
  have hmk : (Instr.makeSlice 34 (.int .i64 11) (.int .i64 11)).run Try.prog z6 = .ok (.slice (some ⟨gB, 0, none⟩) 11 11) zB := by rw [← hzm, ← hgm]; exact make_clips11 _
  clear hzm hgm
  replace RB := RB.later hL
  replace RP := RP.later hL
  replace RQ := RQ.later hL
  replace RR := RR.later hL
  replace h7 := h7.later hL
  replace hLa := Later.trans hLa hL
  clear hL
  have cb : zB.cell? ⟨sE + 1 + 1 + 1 + 1 + 1 + 1 + 1 + 1, 4, none⟩ = some _ := ((RB.get 8 rfl).cell 4).trans rfl
  have cf := (RB.get 8 rfl).frozen 4
  go_upto_region 35 with fail
  clear cb cf hmk
  obtain ⟨z7, hz⟩ : ∃ X : World, X = (zB).setCell ⟨sE + 1 + 1 + 1 + 1 + 1 + 1 + 1 + 1, 4, none⟩ (Value.slice (some ⟨gB, 0, none⟩) 11 11) := ⟨_, rfl⟩
  rw [← hz]
  have kt := RB.get 8 rfl
  replace RP := RP.other kt (by decide) 4 (Value.slice (some ⟨gB, 0, none⟩) 11 11)
  replace RQ := RQ.other kt (by decide) 4 (Value.slice (some ⟨gB, 0, none⟩) 11 11)
  replace RR := RR.other kt (by decide) 4 (Value.slice (some ⟨gB, 0, none⟩) 11 11)
  replace kgB := Blk.far (p := (⟨sE + 1 + 1 + 1 + 1 + 1 + 1 + 1 + 1, 4, none⟩ : Addr)) kgB (kgB.apart kt (by decide)) (Value.slice (some ⟨gB, 0, none⟩) 11 11)
  replace RB := (show Rows _ _ [(sE, (#[Value.int .i64 60, Value.int .i64 5, Value.slice (some ⟨p0, 0, none⟩) 2 2, Value.slice (some ⟨q0, 0, none⟩) 3 3, Value.slice (some ⟨r0, 0, none⟩) 4 4]).setIfInBounds 0 (Value.int .i64 0)), (sE + 1, #[Value.int .i64 60, Value.int .i64 61, Value.slice (some ⟨p1, 0, none⟩) 2 2, Value.slice (some ⟨q1, 0, none⟩) 3 3, Value.slice (some ⟨r1, 0, none⟩) 4 4]), (sE + 1 + 1, #[Value.int .i64 60, Value.int .i64 5, Value.slice (some ⟨p2, 0, none⟩) 2 2, Value.slice (some ⟨q2, 0, none⟩) 3 3, Value.slice (some ⟨r2, 0, none⟩) 4 4]), (sE + 1 + 1 + 1, #[Value.int .i64 60, Value.int .i64 5, Value.slice (some ⟨p3, 0, none⟩) 2 2, Value.slice (some ⟨q3, 0, none⟩) 3 3, Value.slice (some ⟨r3, 0, none⟩) 4 4]), (sE + 1 + 1 + 1 + 1, #[Value.int .i64 60, Value.int .i64 5, Value.slice (some ⟨p4, 0, none⟩) 2 2, Value.slice (some ⟨q4, 0, none⟩) 3 3, Value.slice (some ⟨r4, 0, none⟩) 4 4]), (sE + 1 + 1 + 1 + 1 + 1, #[Value.int .i64 60, Value.int .i64 5, Value.slice (some ⟨p5, 0, none⟩) 2 2, Value.slice (some ⟨q5, 0, none⟩) 3 3, Value.slice (some ⟨r5, 0, none⟩) 4 4]), (sE + 1 + 1 + 1 + 1 + 1 + 1, #[Value.int .i64 60, Value.int .i64 5, Value.slice (some ⟨p6, 0, none⟩) 2 2, Value.slice (some ⟨q6, 0, none⟩) 3 3, Value.slice (some ⟨r6, 0, none⟩) 4 4]), (sE + 1 + 1 + 1 + 1 + 1 + 1 + 1, #[Value.int .i64 (twoH 5 [thirdC]).hour, .int .i64 (twoH 5 [thirdC]).grace, .slice A7 2 j7, .slice B7 3 i7, .slice C7 5 m7]), (sE + 1 + 1 + 1 + 1 + 1 + 1 + 1 + 1, (#[Value.int .i64 60, Value.int .i64 5, Value.slice (some ⟨p8, 0, none⟩) 2 2, Value.slice (some ⟨q8, 0, none⟩) 3 3, Value.slice (some ⟨r8, 0, none⟩) 4 4]).setIfInBounds 4 (Value.slice (some ⟨gB, 0, none⟩) 11 11)), (sE + 1 + 1 + 1 + 1 + 1 + 1 + 1 + 1 + 1, #[Value.int .i64 60, Value.int .i64 5, Value.slice (some ⟨p9, 0, none⟩) 2 2, Value.slice (some ⟨q9, 0, none⟩) 3 3, Value.slice (some ⟨r9, 0, none⟩) 4 4])] from RB.store 8 rfl 4 (Value.slice (some ⟨gB, 0, none⟩) 11 11))
  replace h7 := h7.far (g := sE + 1 + 1 + 1 + 1 + 1 + 1 + 1 + 1) (by have := afE; omega) (kept_set _ _ 4 (Value.slice (some ⟨gB, 0, none⟩) 11 11))
  clear kt
  replace hLa := later_set (hLa) (⟨sE + 1 + 1 + 1 + 1 + 1 + 1 + 1 + 1, 4, none⟩ : Addr) (show w.heap.size ≤ sE + 1 + 1 + 1 + 1 + 1 + 1 + 1 + 1 by have := loE; omega) (Value.slice (some ⟨gB, 0, none⟩) 11 11)
  rw [← hz] at RB
  rw [← hz] at RP
  rw [← hz] at RQ
  rw [← hz] at RR
  rw [← hz] at h7
  rw [← hz] at kgB
  rw [← hz] at hLa
  clear hz
  have kbx := RB.get 9 rfl
  have kpx := RP.get 8 rfl
  have hS0 : z7.drew.cell? ⟨sE + 1 + 1 + 1 + 1 + 1 + 1 + 1 + 1 + 1, 2, none⟩ = some (Value.slice (some ⟨p9, 0, none⟩) 2 2) := (kbx.cell 2).trans rfl
  refine wp_region_held_drew (S := fun X => X.cell? ⟨sE + 1 + 1 + 1 + 1 + 1 + 1 + 1 + 1 + 1, 2, none⟩ = some (Value.slice (some ⟨p9, 0, none⟩) 2 2)) (by kernel_rfl) hS0 (fun hS => ?_)
  refine wpAnyH_take (i := 0) (v := ?_) rfl (by kernel_rfl) (by kernel_rfl) (by kernel_rfl) (by intro _ _ _ h; first | exact h | exact absurd h.1 (by simp)) (Or.inl ⟨by rfl, ?_⟩) hS ?_; rotate_left; (focus (intro X hSX; (try dsimp only at hSX); go_simp; (try with_reducible rfl))); (try simp only [Act.put, List.setIfInBounds_toArray, List.set_cons_zero, List.set_cons_succ])
  refine wpAnyH_take (i := 1) (v := ?_) rfl (by kernel_rfl) (by kernel_rfl) (by kernel_rfl) (by intro _ _ _ h; first | exact h | exact absurd h.1 (by simp)) (Or.inl ⟨by rfl, ?_⟩) hS ?_; rotate_left; (focus (intro X hSX; (try dsimp only at hSX); go_simp; (try with_reducible rfl))); (try simp only [Act.put, List.setIfInBounds_toArray, List.set_cons_zero, List.set_cons_succ])
  refine wpAnyH_take (i := 2) (v := ?_) rfl (by kernel_rfl) (by kernel_rfl) (by kernel_rfl) (by intro _ _ _ h; first | exact h | exact absurd h.1 (by simp)) (Or.inl ⟨by rfl, ?_⟩) hS ?_; rotate_left; (focus (intro X hSX; (try dsimp only at hSX); go_simp; (try with_reducible rfl))); (try simp only [Act.put, List.setIfInBounds_toArray, List.set_cons_zero, List.set_cons_succ])
  refine wpAnyH_take (i := 3) (v := ?_) rfl (by kernel_rfl) (by kernel_rfl) (by kernel_rfl) (by intro _ _ _ h; first | exact h | exact absurd h.1 (by simp)) (Or.inl ⟨by rfl, ?_⟩) hS ?_; rotate_left; (focus (intro X hSX; (try dsimp only at hSX); go_simp; (try with_reducible rfl))); (try simp only [Act.put, List.setIfInBounds_toArray, List.set_cons_zero, List.set_cons_succ])
  refine wpAnyH_ready (rs := [4]) (by kernel_rfl) (by simp) ?_; refine AllReadyH.cons rfl (fun K hK => ?_) AllReadyH.nil
  go_simp
  refine (lawBetween_calls (-30) 30 _).mono ?_
  rintro e w2 ⟨rfl, hL2⟩
  have hLA := Later.trans (later_drew (later_refl z7)) hL2
  have hSw2 : w2.cell? ⟨sE + 1 + 1 + 1 + 1 + 1 + 1 + 1 + 1 + 1, 2, none⟩ = some (Value.slice (some ⟨p9, 0, none⟩) 2 2) := ((kbx.later hLA).cell 2).trans rfl
  refine hK.out _ _ hSw2 (fun _ => ?_)
  clear hK K; (try simp only [Act.put, List.setIfInBounds_toArray, List.set_cons_zero, List.set_cons_succ])
  refine wpAnyH_ready (rs := [5]) (by kernel_rfl) (by simp) ?_; refine AllReadyH.cons rfl (fun K hK => ?_) AllReadyH.nil
  go_simp
  refine (lawBetween_calls (-30) 2 _).mono ?_
  rintro e w3 ⟨rfl, hL2⟩
  have hL := Later.trans hLA hL2
  have hSw3 : w3.cell? ⟨sE + 1 + 1 + 1 + 1 + 1 + 1 + 1 + 1 + 1, 2, none⟩ = some (Value.slice (some ⟨p9, 0, none⟩) 2 2) := ((kbx.later hL).cell 2).trans rfl
  refine hK.out _ _ hSw3 (fun _ => ?_)
  clear hK K; (try simp only [Act.put, List.setIfInBounds_toArray, List.set_cons_zero, List.set_cons_succ])
  replace kbx := kbx.later hL
  replace kpx := kpx.later hL
  replace RB := RB.later hL
  replace RP := RP.later hL
  replace RQ := RQ.later hL
  replace RR := RR.later hL
  replace h7 := h7.later hL
  replace kgB := kgB.later hL
  replace hLa := Later.trans hLa hL
  clear hL hLA hL2 hSw2
  have d0 : w3.cell? ⟨p9, 0, none⟩ = some _ := (kpx.cell 0).trans rfl
  have f0 := kpx.frozen 0
  have d1 : w3.cell? ⟨p9, 1, none⟩ = some _ := (kpx.cell 1).trans rfl
  have f1 := kpx.frozen 1
  have hpb := kbx.apart kpx (by decide)
  have k4 := (kpx.set_ 0 (Value.int .i64 (-30))).set_ 1 (Value.int .i64 30)
  have kx := Blk.far (p := (⟨p9, 1, none⟩ : Addr)) (Blk.far (p := (⟨p9, 0, none⟩ : Addr)) kbx hpb (Value.int .i64 (-30))) hpb (Value.int .i64 30)
  have hS4 : (((w3).setCell ⟨p9, 0, none⟩ (Value.int .i64 (-30))).setCell ⟨p9, 1, none⟩ (Value.int .i64 30)).cell? ⟨sE + 1 + 1 + 1 + 1 + 1 + 1 + 1 + 1 + 1, 2, none⟩ = some (Value.slice (some ⟨p9, 0, none⟩) 2 2) := (kx.cell 2).trans rfl
  have e0 : (((w3).setCell ⟨p9, 0, none⟩ (Value.int .i64 (-30))).setCell ⟨p9, 1, none⟩ (Value.int .i64 30)).cell? ⟨p9, 2, none⟩ = some _ := (k4.cell 2).trans rfl
  have g0 := k4.frozen 2
  have e1 : (((w3).setCell ⟨p9, 0, none⟩ (Value.int .i64 (-30))).setCell ⟨p9, 1, none⟩ (Value.int .i64 30)).cell? ⟨p9, 3, none⟩ = some _ := (k4.cell 3).trans rfl
  have g1 := k4.frozen 3
  refine wpAnyH_take (i := 6) (v := ?_) rfl (by kernel_rfl) (by kernel_rfl) (by kernel_rfl) (by intro _ _ _ h; first | exact h | exact absurd h.1 (by simp)) (Or.inl ⟨by rfl, ?_⟩) hSw3 ?_; rotate_left; (focus (intro X hSX; (try dsimp only at hSX); go_simp; (try with_reducible rfl))); (try simp only [Act.put, List.setIfInBounds_toArray, List.set_cons_zero, List.set_cons_succ])
  refine wpAnyH_ready (rs := [7]) (by kernel_rfl) (by simp) ?_; refine AllReadyH.cons rfl (fun K hK => ?_) AllReadyH.nil
  go_simp
  refine hK.out _ _ hS4 (fun _ => ?_)
  clear hK K; (try simp only [Act.put, List.setIfInBounds_toArray, List.set_cons_zero, List.set_cons_succ])
  refine wpAnyH_take (i := 8) (v := ?_) rfl (by kernel_rfl) (by kernel_rfl) (by kernel_rfl) (by intro _ _ _ h; first | exact h | exact absurd h.1 (by simp)) (Or.inl ⟨by rfl, ?_⟩) hS4 ?_; rotate_left; (focus (intro X hSX; (try dsimp only at hSX); go_simp; (try with_reducible rfl))); (try simp only [Act.put, List.setIfInBounds_toArray, List.set_cons_zero, List.set_cons_succ])
  refine wpAnyH_ready (rs := [9]) (by kernel_rfl) (by simp) ?_; refine AllReadyH.cons rfl (fun K hK => ?_) AllReadyH.nil
  go_simp
  have k5 := (kx.far (p := (⟨p9, 2, none⟩ : Addr)) hpb (Value.int .i64 (-30))).far (p := (⟨p9, 3, none⟩ : Addr)) hpb (Value.int .i64 2)
  refine hK.out _ _ ((k5.cell 2).trans rfl) (fun _ => ?_)
  clear hK K; (try simp only [Act.put, List.setIfInBounds_toArray, List.set_cons_zero, List.set_cons_succ])
  refine wpAnyH_done (by kernel_rfl) ?_ _
  clear hS hS0 hSw3 hS4 k4 kx k5 kbx kpx d0 d1 f0 f1 e0 e1 g0 g1 hpb
  obtain ⟨z8, hz⟩ : ∃ X : World, X = ((((w3).setCell ⟨p9, 0, none⟩ (Value.int .i64 (-30))).setCell ⟨p9, 1, none⟩ (Value.int .i64 30)).setCell ⟨p9, 2, none⟩ (Value.int .i64 (-30))).setCell ⟨p9, 3, none⟩ (Value.int .i64 2) := ⟨_, rfl⟩
  rw [← hz]
  have kt := RP.get 8 rfl
  replace RQ := RQ.other kt (by decide) 0 (Value.int .i64 (-30))
  replace RR := RR.other kt (by decide) 0 (Value.int .i64 (-30))
  replace RB := RB.other kt (by decide) 0 (Value.int .i64 (-30))
  replace kgB := Blk.far (p := (⟨p9, 0, none⟩ : Addr)) kgB (kgB.apart kt (by decide)) (Value.int .i64 (-30))
  replace RP := (show Rows _ _ [(p0, (pairsV [(0, 0), (-5, 5)]).toArray), (p1, (pairsV [(0, 0), (-5, 5)]).toArray), (p2, (pairsV [(0, 0), (-5, 5)]).toArray), (p3, (((pairsV [(0, 0), (-5, 5)]).toArray).setIfInBounds 0 (Value.int .i64 0)).setIfInBounds 1 (Value.int .i64 31)), (p4, (pairsV [(0, 0), (-5, 5)]).toArray), (p5, (pairsV [(0, 0), (-5, 5)]).toArray), (p6, (pairsV [(0, 0), (-5, 5)]).toArray), (p8, (pairsV [(0, 0), (-5, 5)]).toArray), (p9, ((pairsV [(0, 0), (-5, 5)]).toArray).setIfInBounds 0 (Value.int .i64 (-30)))] from RP.store 8 rfl 0 (Value.int .i64 (-30)))
  replace h7 := h7.far (g := p9) (by have := ua9; omega) (kept_set _ _ 0 (Value.int .i64 (-30)))
  clear kt
  have kt := RP.get 8 rfl
  replace RQ := RQ.other kt (by decide) 1 (Value.int .i64 30)
  replace RR := RR.other kt (by decide) 1 (Value.int .i64 30)
  replace RB := RB.other kt (by decide) 1 (Value.int .i64 30)
  replace kgB := Blk.far (p := (⟨p9, 1, none⟩ : Addr)) kgB (kgB.apart kt (by decide)) (Value.int .i64 30)
  replace RP := (show Rows _ _ [(p0, (pairsV [(0, 0), (-5, 5)]).toArray), (p1, (pairsV [(0, 0), (-5, 5)]).toArray), (p2, (pairsV [(0, 0), (-5, 5)]).toArray), (p3, (((pairsV [(0, 0), (-5, 5)]).toArray).setIfInBounds 0 (Value.int .i64 0)).setIfInBounds 1 (Value.int .i64 31)), (p4, (pairsV [(0, 0), (-5, 5)]).toArray), (p5, (pairsV [(0, 0), (-5, 5)]).toArray), (p6, (pairsV [(0, 0), (-5, 5)]).toArray), (p8, (pairsV [(0, 0), (-5, 5)]).toArray), (p9, (((pairsV [(0, 0), (-5, 5)]).toArray).setIfInBounds 0 (Value.int .i64 (-30))).setIfInBounds 1 (Value.int .i64 30))] from RP.store 8 rfl 1 (Value.int .i64 30))
  replace h7 := h7.far (g := p9) (by have := ua9; omega) (kept_set _ _ 1 (Value.int .i64 30))
  clear kt
  have kt := RP.get 8 rfl
  replace RQ := RQ.other kt (by decide) 2 (Value.int .i64 (-30))
  replace RR := RR.other kt (by decide) 2 (Value.int .i64 (-30))
  replace RB := RB.other kt (by decide) 2 (Value.int .i64 (-30))
  replace kgB := Blk.far (p := (⟨p9, 2, none⟩ : Addr)) kgB (kgB.apart kt (by decide)) (Value.int .i64 (-30))
  replace RP := (show Rows _ _ [(p0, (pairsV [(0, 0), (-5, 5)]).toArray), (p1, (pairsV [(0, 0), (-5, 5)]).toArray), (p2, (pairsV [(0, 0), (-5, 5)]).toArray), (p3, (((pairsV [(0, 0), (-5, 5)]).toArray).setIfInBounds 0 (Value.int .i64 0)).setIfInBounds 1 (Value.int .i64 31)), (p4, (pairsV [(0, 0), (-5, 5)]).toArray), (p5, (pairsV [(0, 0), (-5, 5)]).toArray), (p6, (pairsV [(0, 0), (-5, 5)]).toArray), (p8, (pairsV [(0, 0), (-5, 5)]).toArray), (p9, ((((pairsV [(0, 0), (-5, 5)]).toArray).setIfInBounds 0 (Value.int .i64 (-30))).setIfInBounds 1 (Value.int .i64 30)).setIfInBounds 2 (Value.int .i64 (-30)))] from RP.store 8 rfl 2 (Value.int .i64 (-30)))
  replace h7 := h7.far (g := p9) (by have := ua9; omega) (kept_set _ _ 2 (Value.int .i64 (-30)))
  clear kt
  have kt := RP.get 8 rfl
  replace RQ := RQ.other kt (by decide) 3 (Value.int .i64 2)
  replace RR := RR.other kt (by decide) 3 (Value.int .i64 2)
  replace RB := RB.other kt (by decide) 3 (Value.int .i64 2)
  replace kgB := Blk.far (p := (⟨p9, 3, none⟩ : Addr)) kgB (kgB.apart kt (by decide)) (Value.int .i64 2)
  replace RP := (show Rows _ _ [(p0, (pairsV [(0, 0), (-5, 5)]).toArray), (p1, (pairsV [(0, 0), (-5, 5)]).toArray), (p2, (pairsV [(0, 0), (-5, 5)]).toArray), (p3, (((pairsV [(0, 0), (-5, 5)]).toArray).setIfInBounds 0 (Value.int .i64 0)).setIfInBounds 1 (Value.int .i64 31)), (p4, (pairsV [(0, 0), (-5, 5)]).toArray), (p5, (pairsV [(0, 0), (-5, 5)]).toArray), (p6, (pairsV [(0, 0), (-5, 5)]).toArray), (p8, (pairsV [(0, 0), (-5, 5)]).toArray), (p9, (((((pairsV [(0, 0), (-5, 5)]).toArray).setIfInBounds 0 (Value.int .i64 (-30))).setIfInBounds 1 (Value.int .i64 30)).setIfInBounds 2 (Value.int .i64 (-30))).setIfInBounds 3 (Value.int .i64 2))] from RP.store 8 rfl 3 (Value.int .i64 2))
  replace h7 := h7.far (g := p9) (by have := ua9; omega) (kept_set _ _ 3 (Value.int .i64 2))
  clear kt
  replace hLa := later_set (later_set (later_set (later_set (hLa) (⟨p9, 0, none⟩ : Addr) (show w.heap.size ≤ p9 by have := lop9; omega) (Value.int .i64 (-30))) (⟨p9, 1, none⟩ : Addr) (show w.heap.size ≤ p9 by have := lop9; omega) (Value.int .i64 30)) (⟨p9, 2, none⟩ : Addr) (show w.heap.size ≤ p9 by have := lop9; omega) (Value.int .i64 (-30))) (⟨p9, 3, none⟩ : Addr) (show w.heap.size ≤ p9 by have := lop9; omega) (Value.int .i64 2)
  rw [← hz] at RB
  rw [← hz] at RP
  rw [← hz] at RQ
  rw [← hz] at RR
  rw [← hz] at h7
  rw [← hz] at kgB
  rw [← hz] at hLa
  clear hz
  have hLz := later_refl z8
  have HRB := hide RB
  have HRP := hide RP
  have HRQ := hide RQ
  have HRR := hide RR
  have Hh7 := hide h7
  have HkgB := hide kgB
  have HhLa := hide hLa
  clear RB RP RQ RR h7 kgB hLa
  have kb := (HRB.out.get 0 rfl).to (show _ = #[Value.int .i64 0, Value.int .i64 5, Value.slice (some ⟨p0, 0, none⟩) 2 2, Value.slice (some ⟨q0, 0, none⟩) 3 3, Value.slice (some ⟨r0, 0, none⟩) 4 4] by kernel_rfl)
  have hkB := fun W (h : Later z8 W) => kb.cells_later W h
  have b0 := fun W (h : Later z8 W) => hkB W h 0
  have b1 := fun W (h : Later z8 W) => hkB W h 1
  have b2 := fun W (h : Later z8 W) => hkB W h 2
  have b3 := fun W (h : Later z8 W) => hkB W h 3
  have b4 := fun W (h : Later z8 W) => hkB W h 4
  simp only [List.getElem?_toArray, List.getElem?_cons_zero, List.getElem?_cons_succ] at b0 b1 b2 b3 b4
  clear hkB kb
  go_wp2_with fail
  refine (chk_hou (n1 := 2) (n2 := 3) (n3 := 4) hourH (nx_faults.1) rfl rfl ((HRP.out.get 0 rfl).later hLz) ((HRQ.out.get 0 rfl).later hLz) ((HRR.out.get 0 rfl).later hLz) (by kernel_rfl) (by kernel_rfl) (by kernel_rfl) rfl rfl rfl (by omega)).mono ?_
  rintro e xc ⟨rfl, hL⟩
  replace hLz := Later.trans hLz hL
  clear hL b0 b1 b2 b3 b4
  have kb := (HRB.out.get 1 rfl).to (show _ = #[Value.int .i64 60, Value.int .i64 61, Value.slice (some ⟨p1, 0, none⟩) 2 2, Value.slice (some ⟨q1, 0, none⟩) 3 3, Value.slice (some ⟨r1, 0, none⟩) 4 4] by kernel_rfl)
  have hkB := fun W (h : Later z8 W) => kb.cells_later W h
  have b0 := fun W (h : Later z8 W) => hkB W h 0
  have b1 := fun W (h : Later z8 W) => hkB W h 1
  have b2 := fun W (h : Later z8 W) => hkB W h 2
  have b3 := fun W (h : Later z8 W) => hkB W h 3
  have b4 := fun W (h : Later z8 W) => hkB W h 4
  simp only [List.getElem?_toArray, List.getElem?_cons_zero, List.getElem?_cons_succ] at b0 b1 b2 b3 b4
  clear hkB kb
  go_wp2_with fail
  refine (chk_hou (n1 := 2) (n2 := 3) (n3 := 4) (twoH 61 []) (nx_faults.2.1) rfl rfl ((HRP.out.get 1 rfl).later hLz) ((HRQ.out.get 1 rfl).later hLz) ((HRR.out.get 1 rfl).later hLz) (by kernel_rfl) (by kernel_rfl) (by kernel_rfl) rfl rfl rfl (by omega)).mono ?_
  rintro e xc ⟨rfl, hL⟩
  replace hLz := Later.trans hLz hL
  clear hL b0 b1 b2 b3 b4
  have kb := (HRB.out.get 2 rfl).to (show _ = #[Value.int .i64 60, Value.int .i64 5, Value.slice (some ⟨p2, 0, none⟩) 2 2, Value.slice (some ⟨q2, 0, none⟩) 3 3, Value.slice (some ⟨r2, 0, none⟩) 4 4] by kernel_rfl)
  have hkB := fun W (h : Later z8 W) => kb.cells_later W h
  have b0 := fun W (h : Later z8 W) => hkB W h 0
  have b1 := fun W (h : Later z8 W) => hkB W h 1
  have b2 := fun W (h : Later z8 W) => hkB W h 2
  have b3 := fun W (h : Later z8 W) => hkB W h 3
  have b4 := fun W (h : Later z8 W) => hkB W h 4
  simp only [List.getElem?_toArray, List.getElem?_cons_zero, List.getElem?_cons_succ] at b0 b1 b2 b3 b4
  clear hkB kb
  go_wp2_with fail
  refine (chk_hou (n1 := 2) (n2 := 3) (n3 := 4) clockH (nx_faults.2.2.1) rfl rfl ((HRP.out.get 2 rfl).later hLz) ((HRQ.out.get 2 rfl).later hLz) ((HRR.out.get 2 rfl).later hLz) (by kernel_rfl) (by kernel_rfl) (by kernel_rfl) rfl rfl rfl (by omega)).mono ?_
  rintro e xc ⟨rfl, hL⟩
  replace hLz := Later.trans hLz hL
  clear hL b0 b1 b2 b3 b4
  have kb := (HRB.out.get 3 rfl).to (show _ = #[Value.int .i64 60, Value.int .i64 5, Value.slice (some ⟨p3, 0, none⟩) 2 2, Value.slice (some ⟨q3, 0, none⟩) 3 3, Value.slice (some ⟨r3, 0, none⟩) 4 4] by kernel_rfl)
  have hkB := fun W (h : Later z8 W) => kb.cells_later W h
  have b0 := fun W (h : Later z8 W) => hkB W h 0
  have b1 := fun W (h : Later z8 W) => hkB W h 1
  have b2 := fun W (h : Later z8 W) => hkB W h 2
  have b3 := fun W (h : Later z8 W) => hkB W h 3
  have b4 := fun W (h : Later z8 W) => hkB W h 4
  simp only [List.getElem?_toArray, List.getElem?_cons_zero, List.getElem?_cons_succ] at b0 b1 b2 b3 b4
  clear hkB kb
  go_wp2_with fail
  refine (chk_hou (n1 := 2) (n2 := 3) (n3 := 4) offH (nx_faults.2.2.2.1) rfl rfl ((HRP.out.get 3 rfl).later hLz) ((HRQ.out.get 3 rfl).later hLz) ((HRR.out.get 3 rfl).later hLz) (by kernel_rfl) (by kernel_rfl) (by kernel_rfl) rfl rfl rfl (by omega)).mono ?_
  rintro e xc ⟨rfl, hL⟩
  replace hLz := Later.trans hLz hL
  clear hL b0 b1 b2 b3 b4
  have kb := (HRB.out.get 4 rfl).to (show _ = #[Value.int .i64 60, Value.int .i64 5, Value.slice (some ⟨p4, 0, none⟩) 2 2, Value.slice (some ⟨q4, 0, none⟩) 3 3, Value.slice (some ⟨r4, 0, none⟩) 4 4] by kernel_rfl)
  have hkB := fun W (h : Later z8 W) => kb.cells_later W h
  have b0 := fun W (h : Later z8 W) => hkB W h 0
  have b1 := fun W (h : Later z8 W) => hkB W h 1
  have b2 := fun W (h : Later z8 W) => hkB W h 2
  have b3 := fun W (h : Later z8 W) => hkB W h 3
  have b4 := fun W (h : Later z8 W) => hkB W h 4
  simp only [List.getElem?_toArray, List.getElem?_cons_zero, List.getElem?_cons_succ] at b0 b1 b2 b3 b4
  clear hkB kb
  go_wp2_with fail
  refine (chk_hou (n1 := 2) (n2 := 3) (n3 := 4) tubH (nx_faults.2.2.2.2.1) rfl rfl ((HRP.out.get 4 rfl).later hLz) ((HRQ.out.get 4 rfl).later hLz) ((HRR.out.get 4 rfl).later hLz) (by kernel_rfl) (by kernel_rfl) (by kernel_rfl) rfl rfl rfl (by omega)).mono ?_
  rintro e xc ⟨rfl, hL⟩
  replace hLz := Later.trans hLz hL
  clear hL b0 b1 b2 b3 b4
  have kb := (HRB.out.get 5 rfl).to (show _ = #[Value.int .i64 60, Value.int .i64 5, Value.slice (some ⟨p5, 0, none⟩) 2 2, Value.slice (some ⟨q5, 0, none⟩) 3 3, Value.slice (some ⟨r5, 0, none⟩) 4 4] by kernel_rfl)
  have hkB := fun W (h : Later z8 W) => kb.cells_later W h
  have b0 := fun W (h : Later z8 W) => hkB W h 0
  have b1 := fun W (h : Later z8 W) => hkB W h 1
  have b2 := fun W (h : Later z8 W) => hkB W h 2
  have b3 := fun W (h : Later z8 W) => hkB W h 3
  have b4 := fun W (h : Later z8 W) => hkB W h 4
  simp only [List.getElem?_toArray, List.getElem?_cons_zero, List.getElem?_cons_succ] at b0 b1 b2 b3 b4
  clear hkB kb
  go_wp2_with fail
  refine (chk_hou (n1 := 2) (n2 := 3) (n3 := 4) hoursH (nx_faults.2.2.2.2.2.1) rfl rfl ((HRP.out.get 5 rfl).later hLz) ((HRQ.out.get 5 rfl).later hLz) ((HRR.out.get 5 rfl).later hLz) (by kernel_rfl) (by kernel_rfl) (by kernel_rfl) rfl rfl rfl (by omega)).mono ?_
  rintro e xc ⟨rfl, hL⟩
  replace hLz := Later.trans hLz hL
  clear hL b0 b1 b2 b3 b4
  have kb := (HRB.out.get 6 rfl).to (show _ = #[Value.int .i64 60, Value.int .i64 5, Value.slice (some ⟨p6, 0, none⟩) 2 2, Value.slice (some ⟨q6, 0, none⟩) 3 3, Value.slice (some ⟨r6, 0, none⟩) 4 4] by kernel_rfl)
  have hkB := fun W (h : Later z8 W) => kb.cells_later W h
  have b0 := fun W (h : Later z8 W) => hkB W h 0
  have b1 := fun W (h : Later z8 W) => hkB W h 1
  have b2 := fun W (h : Later z8 W) => hkB W h 2
  have b3 := fun W (h : Later z8 W) => hkB W h 3
  have b4 := fun W (h : Later z8 W) => hkB W h 4
  simp only [List.getElem?_toArray, List.getElem?_cons_zero, List.getElem?_cons_succ] at b0 b1 b2 b3 b4
  clear hkB kb
  go_wp2_with fail
  refine (chk_hou (n1 := 2) (n2 := 3) (n3 := 4) minuteH (nx_faults.2.2.2.2.2.2.1) rfl rfl ((HRP.out.get 6 rfl).later hLz) ((HRQ.out.get 6 rfl).later hLz) ((HRR.out.get 6 rfl).later hLz) (by kernel_rfl) (by kernel_rfl) (by kernel_rfl) rfl rfl rfl (by omega)).mono ?_
  rintro e xc ⟨rfl, hL⟩
  replace hLz := Later.trans hLz hL
  clear hL b0 b1 b2 b3 b4
  have kb := (HRB.out.get 7 rfl).to (show _ = #[Value.int .i64 (twoH 5 [thirdC]).hour, .int .i64 (twoH 5 [thirdC]).grace, .slice A7 2 j7, .slice B7 3 i7, .slice C7 5 m7] by kernel_rfl)
  have hkB := fun W (h : Later z8 W) => kb.cells_later W h
  have b0 := fun W (h : Later z8 W) => hkB W h 0
  have b1 := fun W (h : Later z8 W) => hkB W h 1
  have b2 := fun W (h : Later z8 W) => hkB W h 2
  have b3 := fun W (h : Later z8 W) => hkB W h 3
  have b4 := fun W (h : Later z8 W) => hkB W h 4
  simp only [List.getElem?_toArray, List.getElem?_cons_zero, List.getElem?_cons_succ] at b0 b1 b2 b3 b4
  clear hkB kb
  go_wp2_with fail
  refine (check_n (Hh7.out.later hLz) (by omega) (nx_faults.2.2.2.2.2.2.2.1)).mono ?_
  rintro e xc ⟨rfl, hL⟩
  replace hLz := Later.trans hLz hL
  clear hL b0 b1 b2 b3 b4
  have kb := (HRB.out.get 8 rfl).to (show _ = #[Value.int .i64 60, Value.int .i64 5, Value.slice (some ⟨p8, 0, none⟩) 2 2, Value.slice (some ⟨q8, 0, none⟩) 3 3, Value.slice (some ⟨gB, 0, none⟩) 11 11] by kernel_rfl)
  have hkB := fun W (h : Later z8 W) => kb.cells_later W h
  have b0 := fun W (h : Later z8 W) => hkB W h 0
  have b1 := fun W (h : Later z8 W) => hkB W h 1
  have b2 := fun W (h : Later z8 W) => hkB W h 2
  have b3 := fun W (h : Later z8 W) => hkB W h 3
  have b4 := fun W (h : Later z8 W) => hkB W h 4
  simp only [List.getElem?_toArray, List.getElem?_cons_zero, List.getElem?_cons_succ] at b0 b1 b2 b3 b4
  clear hkB kb
  go_wp2_with fail
  refine (chk_hou (n1 := 2) (n2 := 3) (n3 := 11) manyH (nx_faults.2.2.2.2.2.2.2.2.1) rfl rfl ((HRP.out.get 7 rfl).later hLz) ((HRQ.out.get 7 rfl).later hLz) (HkgB.out.later hLz) (by kernel_rfl) (by kernel_rfl) (by kernel_rfl) rfl rfl rfl (by omega)).mono ?_
  rintro e xc ⟨rfl, hL⟩
  replace hLz := Later.trans hLz hL
  clear hL b0 b1 b2 b3 b4
  have kb := (HRB.out.get 9 rfl).to (show _ = #[Value.int .i64 60, Value.int .i64 5, Value.slice (some ⟨p9, 0, none⟩) 2 2, Value.slice (some ⟨q9, 0, none⟩) 3 3, Value.slice (some ⟨r9, 0, none⟩) 4 4] by kernel_rfl)
  have hkB := fun W (h : Later z8 W) => kb.cells_later W h
  have b0 := fun W (h : Later z8 W) => hkB W h 0
  have b1 := fun W (h : Later z8 W) => hkB W h 1
  have b2 := fun W (h : Later z8 W) => hkB W h 2
  have b3 := fun W (h : Later z8 W) => hkB W h 3
  have b4 := fun W (h : Later z8 W) => hkB W h 4
  simp only [List.getElem?_toArray, List.getElem?_cons_zero, List.getElem?_cons_succ] at b0 b1 b2 b3 b4
  clear hkB kb
  go_wp2_with fail
  refine (chk_hou (n1 := 2) (n2 := 3) (n3 := 4) sizesH (nx_faults.2.2.2.2.2.2.2.2.2) rfl rfl ((HRP.out.get 8 rfl).later hLz) ((HRQ.out.get 8 rfl).later hLz) ((HRR.out.get 8 rfl).later hLz) (by kernel_rfl) (by kernel_rfl) (by kernel_rfl) rfl rfl rfl (by omega)).mono ?_
  rintro e xc ⟨rfl, hL⟩
  replace hLz := Later.trans hLz hL
  clear hL b0 b1 b2 b3 b4
  go_wp2_with fail
  refine (CheckHouse_eq (c := bareH 1) _ (bare_cv 1 _) nx_bare.2 (by omega) (by omega) (by omega)).mono ?_
  rintro e xc ⟨rfl, hL⟩
  have hLa := Later.trans HhLa.out (Later.trans hLz hL)
  clear hL hLz
  go_wp2_with fail
  refine (awake_calls _).mono ?_
  rintro e xc ⟨rfl, hL⟩
  go_wp2_with fail
  go_ret
  exact ⟨rfl, Later.trans hLa hL⟩
set_option maxRecDepth 100000 in
set_option maxHeartbeats 100000000 in
theorem lawNames_calls (w : World) : Calls Try.prog 20 #[] w fun e w' => e = .returned (.bool true) ∧ Later w w' := by
  go_enter Try.func20, Try.ntmps20
  have hLa := later_refl w
  go_wp2_with fail
  refine (two0_is 5 _).mono ?_
  rintro e x1 ⟨vt, rfl, hL, ht⟩
  replace hLa := Later.trans hLa hL
  clear hL
  go_wp2_with fail
  refine (clocks_is ht).mono ?_
  rintro e x2 ⟨vc, rfl, hL, hc⟩
  replace hLa := Later.trans hLa hL
  clear hL
  clear ht
  go_wp2_with fail
  refine (two0_is 5 _).mono ?_
  rintro e x3 ⟨vt, rfl, hL, ht⟩
  replace hc := hc.later hL
  replace hLa := Later.trans hLa hL
  clear hL
  go_wp2_with fail
  refine (hours5_is ht).mono ?_
  rintro e x4 ⟨vh, rfl, hL, hh⟩
  replace hc := hc.later hL
  replace hLa := Later.trans hLa hL
  clear hL
  clear ht
  go_wp2_with fail
  refine (two0_is 5 _).mono ?_
  rintro e x5 ⟨vt, rfl, hL, ht⟩
  replace hc := hc.later hL
  replace hh := hh.later hL
  replace hLa := Later.trans hLa hL
  clear hL
  go_wp2_with fail
  refine (long5_is ht).mono ?_
  rintro e x6 ⟨vl, rfl, hL, hl⟩
  replace hc := hc.later hL
  replace hh := hh.later hL
  replace hLa := Later.trans hLa hL
  clear hL
  clear ht
  go_wp2_with fail
  refine (two0_is 5 _).mono ?_
  rintro e x7 ⟨vt, rfl, hL, ht⟩
  replace hc := hc.later hL
  replace hh := hh.later hL
  replace hl := hl.later hL
  replace hLa := Later.trans hLa hL
  clear hL
  go_wp2_with fail
  refine (clash10_is ht).mono ?_
  rintro e x8 ⟨rfl, hL⟩
  replace hc := hc.later hL
  replace hh := hh.later hL
  replace hl := hl.later hL
  replace hLa := Later.trans hLa hL
  clear hL
  clear ht
  go_wp2_with fail
  refine (two0_is 5 _).mono ?_
  rintro e x9 ⟨vt, rfl, hL, ht⟩
  replace hc := hc.later hL
  replace hh := hh.later hL
  replace hl := hl.later hL
  replace hLa := Later.trans hLa hL
  clear hL
  go_wp2_with fail
  refine (paid5_is ht).mono ?_
  rintro e x10 ⟨rfl, hL⟩
  replace hc := hc.later hL
  replace hh := hh.later hL
  replace hl := hl.later hL
  replace hLa := Later.trans hLa hL
  clear hL
  clear ht
  go_wp2_with fail
  refine (two0_is 5 _).mono ?_
  rintro e x11 ⟨vt, rfl, hL, ht⟩
  replace hc := hc.later hL
  replace hh := hh.later hL
  replace hl := hl.later hL
  replace hLa := Later.trans hLa hL
  clear hL
  go_wp2_with fail
  refine (free1_is ht).mono ?_
  rintro e x12 ⟨rfl, hL⟩
  replace hc := hc.later hL
  replace hh := hh.later hL
  replace hl := hl.later hL
  replace hLa := Later.trans hLa hL
  clear hL
  clear ht
  obtain ⟨wR, hwR⟩ : ∃ X, X = x12.alloc (.cells #[.int .i64 0, .int .i64 0] 42) := ⟨_, rfl⟩
  have hL : Later x12 wR := by rw [hwR]; exact later_alloc (later_refl _) _
  have kb : Blk wR x12.heap.size 42 #[.int .i64 0, .int .i64 0] := by rw [hwR]; exact Blk.new _ _ _
  obtain ⟨gR, hgR⟩ : ∃ g, x12.heap.size = g := ⟨_, rfl⟩
  rw [hgR] at kb
  have HgR := hide hgR
  have HwR := hide hwR
  have HbR := hide kb
  clear hwR hgR kb
  replace hc := hc.later hL
  replace hh := hh.later hL
  replace hl := hl.later hL
  replace hLa := Later.trans hLa hL
  have hLR := later_refl wR
  clear hL
  go_upto_region 7 with fail
  rw [← HwR.out, HgR.out]
  clear HwR HgR
  go_wp2_with fail
  refine (two0_is 0 _).mono ?_
  rintro e x13 ⟨vt, rfl, hL, ht⟩
  replace hc := hc.later hL
  replace hh := hh.later hL
  replace hl := hl.later hL
  replace hLa := Later.trans hLa hL
  replace hLR := Later.trans hLR hL
  clear hL
  go_wp2_with fail
  refine (hours0_is ht).mono ?_
  rintro e x14 ⟨vs, rfl, hL, hs⟩
  replace hc := hc.later hL
  replace hh := hh.later hL
  replace hl := hl.later hL
  replace hLa := Later.trans hLa hL
  replace hLR := Later.trans hLR hL
  clear hL
  clear ht
  go_wp2_with fail
  refine (two0_is 0 _).mono ?_
  rintro e x15 ⟨vt, rfl, hL, ht⟩
  replace hc := hc.later hL
  replace hh := hh.later hL
  replace hl := hl.later hL
  replace hs := hs.later hL
  replace hLa := Later.trans hLa hL
  replace hLR := Later.trans hLR hL
  clear hL
  go_wp2_with fail
  refine (paid0_is ht).mono ?_
  rintro e x16 ⟨rfl, hL⟩
  replace hc := hc.later hL
  replace hh := hh.later hL
  replace hl := hl.later hL
  replace hs := hs.later hL
  replace hLa := Later.trans hLa hL
  replace hLR := Later.trans hLR hL
  clear hL
  clear ht
  go_wp2_with fail
  refine (turned_is _).mono ?_
  rintro e x17 ⟨vt, rfl, hL, ht⟩
  replace hc := hc.later hL
  replace hh := hh.later hL
  replace hl := hl.later hL
  replace hs := hs.later hL
  replace hLa := Later.trans hLa hL
  replace hLR := Later.trans hLR hL
  clear hL
  go_wp2_with fail
  refine (paidT_is ht).mono ?_
  rintro e x18 ⟨rfl, hL⟩
  replace hc := hc.later hL
  replace hh := hh.later hL
  replace hl := hl.later hL
  replace hs := hs.later hL
  replace hLa := Later.trans hLa hL
  replace hLR := Later.trans hLR hL
  clear hL
  clear ht
  go_wp2_with fail
  refine (two0_is 5 _).mono ?_
  rintro e x19 ⟨vt, rfl, hL, ht⟩
  replace hc := hc.later hL
  replace hh := hh.later hL
  replace hl := hl.later hL
  replace hs := hs.later hL
  replace hLa := Later.trans hLa hL
  replace hLR := Later.trans hLR hL
  clear hL
  go_wp2_with fail
  refine (leave5_is ht).mono ?_
  rintro e x20 ⟨Av, kv, rfl, hL⟩
  replace hc := hc.later hL
  replace hh := hh.later hL
  replace hl := hl.later hL
  replace hs := hs.later hL
  replace hLa := Later.trans hLa hL
  replace hLR := Later.trans hLR hL
  clear hL
  clear ht
  obtain ⟨wz, rfl⟩ : ∃ W, W = x20 := ⟨_, rfl⟩
  obtain ⟨Ac, kc, rfl, hc⟩ := hc
  obtain ⟨Ah, kh, rfl, hh⟩ := hh
  obtain ⟨Al, kl, rfl, hl⟩ := hl
  obtain ⟨As, ks, rfl, hs⟩ := hs
  rw [nx_hours0L] at *
  rw [nx_hours0] at hs
  obtain ⟨bc, oc, y, rfl, _, hy, y0, y1⟩ := hc.get (k := 0) (by simp)
  obtain ⟨bh, oh, z, rfl, _, hz, z0, z1⟩ := hh.get (k := 0) (by simp)
  obtain ⟨bh', oh', z', ez', _, hz', z2, z3⟩ := hh.get (k := 1) (by simp)
  obtain ⟨rfl, rfl⟩ := some_lit ez'
  obtain ⟨bh'', oh'', z'', ez'', _, hz'', z4, z5⟩ := hh.get (k := 2) (by simp)
  obtain ⟨rfl, rfl⟩ := some_lit ez''
  obtain ⟨bs, os, u, rfl, _, hu, u0, u1⟩ := hs.get (k := 0) (by omega)
  obtain ⟨bs', os', u', eu', _, hu', u2, u3⟩ := hs.get (k := 1) (by omega)
  obtain ⟨rfl, rfl⟩ := some_lit eu'
  simp only [List.getElem?_cons_succ, List.getElem?_cons_zero, Option.some.injEq] at hy hz hz' hz'' hu hu'
  subst hy hz hz' hz'' hu hu'
  simp only [Nat.zero_mul, Nat.add_zero, Nat.one_mul] at y0 y1 z0 z1 z2 z3 z4 z5 u0 u1 u2 u3
  have k0 := fun W (h : Later wz W) => HbR.out.cells_later W (Later.trans hLR h) 0
  have k1 := fun W (h : Later wz W) => HbR.out.cells_later W (Later.trans hLR h) 1
  simp only [List.getElem?_toArray, List.getElem?_cons_zero, List.getElem?_cons_succ] at k0 k1
  have Hl := hide hl
  have HLa := hide hLa
  clear hl hc hh hs hLa hLR HbR
  have hS0 : Later wz wz.drew := later_drew (later_refl _)
  have hzz : Later wz wz := later_refl _
  simp only [List.length_cons, List.length_nil, Nat.zero_add, Nat.reduceAdd]
  go_upto_region 11 with fail
  simp only [List.append_eq, List.cons_append, List.nil_append]
  go_cut [210] from 210 to 210 (fun v W => v = .bool false ∧ Later w W)
  case first =>
    refine wp_region_lin (w0 := wz) 127 [] rely_later (by kernel_rfl) (by kernel_rfl) (by kernel_rfl) (by kernel_rfl) (hS0) (.inl rfl) ?_
    simp only [List.take_succ_cons, List.take_zero, List.drop_succ_cons, List.drop_zero]
    refine lin_det (v := ?_) (F' := ?_) (by rfl) (fun _ => by rfl) ?_ ?_ ?_
    rotate_left 2
    focus (intro xs X hX hdep; clear hdep; (try dsimp only); go_simp; (try (first | with_reducible rfl | exact ⟨rfl, rfl⟩ | (fail))))
    focus (intro xs; (try simp only [Act.put, List.setIfInBounds_toArray, List.set_cons_zero, List.set_cons_succ, Nat.reduceAdd]); rfl)
    refine lin_det (v := ?_) (F' := ?_) (by rfl) (fun _ => by rfl) ?_ ?_ ?_
    rotate_left 2
    focus (intro xs X hX hdep; clear hdep; (try dsimp only); go_simp; (try (first | with_reducible rfl | exact ⟨rfl, rfl⟩ | (fail))))
    focus (intro xs; (try simp only [Act.put, List.setIfInBounds_toArray, List.set_cons_zero, List.set_cons_succ, Nat.reduceAdd]); rfl)
    refine lin_det (v := ?_) (F' := ?_) (by rfl) (fun _ => by rfl) ?_ ?_ ?_
    rotate_left 2
    focus (intro xs X hX hdep; clear hdep; (try dsimp only); go_simp; (try (first | with_reducible rfl | exact ⟨rfl, rfl⟩ | (fail))))
    focus (intro xs; (try simp only [Act.put, List.setIfInBounds_toArray, List.set_cons_zero, List.set_cons_succ, Nat.reduceAdd]); rfl)
    refine lin_det (v := ?_) (F' := ?_) (by rfl) (fun _ => by rfl) ?_ ?_ ?_
    rotate_left 2
    focus (intro xs X hX hdep; clear hdep; (try dsimp only); go_simp; (try (first | with_reducible rfl | exact ⟨rfl, rfl⟩ | (fail))))
    focus (intro xs; (try simp only [Act.put, List.setIfInBounds_toArray, List.set_cons_zero, List.set_cons_succ, Nat.reduceAdd]); rfl)
    refine lin_det (v := ?_) (F' := ?_) (by rfl) (fun _ => by rfl) ?_ ?_ ?_
    rotate_left 2
    focus (intro xs X hX hdep; clear hdep; (try dsimp only); go_simp; (try (first | with_reducible rfl | exact ⟨rfl, rfl⟩ | (fail))))
    focus (intro xs; (try simp only [Act.put, List.setIfInBounds_toArray, List.set_cons_zero, List.set_cons_succ, Nat.reduceAdd]); rfl)
    refine lin_det (v := ?_) (F' := ?_) (by rfl) (fun _ => by rfl) ?_ ?_ ?_
    rotate_left 2
    focus (intro xs X hX hdep; clear hdep; (try dsimp only); go_simp; (try (first | with_reducible rfl | exact ⟨rfl, rfl⟩ | (fail))))
    focus (intro xs; (try simp only [Act.put, List.setIfInBounds_toArray, List.set_cons_zero, List.set_cons_succ, Nat.reduceAdd]); rfl)
    refine lin_det (v := ?_) (F' := ?_) (by rfl) (fun _ => by rfl) ?_ ?_ ?_
    rotate_left 2
    focus (intro xs X hX hdep; clear hdep; (try dsimp only); go_simp; (try (first | with_reducible rfl | exact ⟨rfl, rfl⟩ | (fail))))
    focus (intro xs; (try simp only [Act.put, List.setIfInBounds_toArray, List.set_cons_zero, List.set_cons_succ, Nat.reduceAdd]); rfl)
    refine lin_det (v := ?_) (F' := ?_) (by rfl) (fun _ => by rfl) ?_ ?_ ?_
    rotate_left 2
    focus (intro xs X hX hdep; clear hdep; (try dsimp only); go_simp; (try (first | with_reducible rfl | exact ⟨rfl, rfl⟩ | (fail))))
    focus (intro xs; (try simp only [Act.put, List.setIfInBounds_toArray, List.set_cons_zero, List.set_cons_succ, Nat.reduceAdd]); rfl)
    refine lin_det (v := ?_) (F' := ?_) (by rfl) (fun _ => by rfl) ?_ ?_ ?_
    rotate_left 2
    focus (intro xs X hX hdep; clear hdep; (try dsimp only); go_simp; (try (first | with_reducible rfl | exact ⟨rfl, rfl⟩ | (fail))))
    focus (intro xs; (try simp only [Act.put, List.setIfInBounds_toArray, List.set_cons_zero, List.set_cons_succ, Nat.reduceAdd]); rfl)
    refine lin_det (v := ?_) (F' := ?_) (by rfl) (fun _ => by rfl) ?_ ?_ ?_
    rotate_left 2
    focus (intro xs X hX hdep; clear hdep; (try dsimp only); go_simp; (try (first | with_reducible rfl | exact ⟨rfl, rfl⟩ | (fail))))
    focus (intro xs; (try simp only [Act.put, List.setIfInBounds_toArray, List.set_cons_zero, List.set_cons_succ, Nat.reduceAdd]); rfl)
    refine lin_det (v := ?_) (F' := ?_) (by rfl) (fun _ => by rfl) ?_ ?_ ?_
    rotate_left 2
    focus (intro xs X hX hdep; clear hdep; (try dsimp only); go_simp; (try (first | with_reducible rfl | exact ⟨rfl, rfl⟩ | (fail))))
    focus (intro xs; (try simp only [Act.put, List.setIfInBounds_toArray, List.set_cons_zero, List.set_cons_succ, Nat.reduceAdd]); rfl)
    refine lin_det (v := ?_) (F' := ?_) (by rfl) (fun _ => by rfl) ?_ ?_ ?_
    rotate_left 2
    focus (intro xs X hX hdep; clear hdep; (try dsimp only); go_simp; (try (first | with_reducible rfl | exact ⟨rfl, rfl⟩ | (exact lawBetween_calls _ _ X))))
    focus (intro xs; (try simp only [Act.put, List.setIfInBounds_toArray, List.set_cons_zero, List.set_cons_succ, Nat.reduceAdd]); rfl)
    refine lin_det (v := ?_) (F' := ?_) (by rfl) (fun _ => by rfl) ?_ ?_ ?_
    rotate_left 2
    focus (intro xs X hX hdep; clear hdep; (try dsimp only); go_simp; (try (first | with_reducible rfl | exact ⟨rfl, rfl⟩ | (fail))))
    focus (intro xs; (try simp only [Act.put, List.setIfInBounds_toArray, List.set_cons_zero, List.set_cons_succ, Nat.reduceAdd]); rfl)
    refine lin_det (v := ?_) (F' := ?_) (by rfl) (fun _ => by rfl) ?_ ?_ ?_
    rotate_left 2
    focus (intro xs X hX hdep; clear hdep; (try dsimp only); go_simp; (try (first | with_reducible rfl | exact ⟨rfl, rfl⟩ | (fail))))
    focus (intro xs; (try simp only [Act.put, List.setIfInBounds_toArray, List.set_cons_zero, List.set_cons_succ, Nat.reduceAdd]); rfl)
    refine lin_det (v := ?_) (F' := ?_) (by rfl) (fun _ => by rfl) ?_ ?_ ?_
    rotate_left 2
    focus (intro xs X hX hdep; clear hdep; (try dsimp only); go_simp; (try (first | with_reducible rfl | exact ⟨rfl, rfl⟩ | (fail))))
    focus (intro xs; (try simp only [Act.put, List.setIfInBounds_toArray, List.set_cons_zero, List.set_cons_succ, Nat.reduceAdd]); rfl)
    refine lin_det (v := ?_) (F' := ?_) (by rfl) (fun _ => by rfl) ?_ ?_ ?_
    rotate_left 2
    focus (intro xs X hX hdep; clear hdep; (try dsimp only); go_simp; (try (first | with_reducible rfl | exact ⟨rfl, rfl⟩ | (fail))))
    focus (intro xs; (try simp only [Act.put, List.setIfInBounds_toArray, List.set_cons_zero, List.set_cons_succ, Nat.reduceAdd]); rfl)
    refine lin_det (v := ?_) (F' := ?_) (by rfl) (fun _ => by rfl) ?_ ?_ ?_
    rotate_left 2
    focus (intro xs X hX hdep; clear hdep; (try dsimp only); go_simp; (try (first | with_reducible rfl | exact ⟨rfl, rfl⟩ | (fail))))
    focus (intro xs; (try simp only [Act.put, List.setIfInBounds_toArray, List.set_cons_zero, List.set_cons_succ, Nat.reduceAdd]); rfl)
    refine lin_det (v := ?_) (F' := ?_) (by rfl) (fun _ => by rfl) ?_ ?_ ?_
    rotate_left 2
    focus (intro xs X hX hdep; clear hdep; (try dsimp only); go_simp; (try (first | with_reducible rfl | exact ⟨rfl, rfl⟩ | (fail))))
    focus (intro xs; (try simp only [Act.put, List.setIfInBounds_toArray, List.set_cons_zero, List.set_cons_succ, Nat.reduceAdd]); rfl)
    refine lin_det (v := ?_) (F' := ?_) (by rfl) (fun _ => by rfl) ?_ ?_ ?_
    rotate_left 2
    focus (intro xs X hX hdep; clear hdep; (try dsimp only); go_simp; (try (first | with_reducible rfl | exact ⟨rfl, rfl⟩ | (fail))))
    focus (intro xs; (try simp only [Act.put, List.setIfInBounds_toArray, List.set_cons_zero, List.set_cons_succ, Nat.reduceAdd]); rfl)
    refine lin_det (v := ?_) (F' := ?_) (by rfl) (fun _ => by rfl) ?_ ?_ ?_
    rotate_left 2
    focus (intro xs X hX hdep; clear hdep; (try dsimp only); go_simp; (try (first | with_reducible rfl | exact ⟨rfl, rfl⟩ | (fail))))
    focus (intro xs; (try simp only [Act.put, List.setIfInBounds_toArray, List.set_cons_zero, List.set_cons_succ, Nat.reduceAdd]); rfl)
    refine lin_det (v := ?_) (F' := ?_) (by rfl) (fun _ => by rfl) ?_ ?_ ?_
    rotate_left 2
    focus (intro xs X hX hdep; clear hdep; (try dsimp only); go_simp; (try (first | with_reducible rfl | exact ⟨rfl, rfl⟩ | (fail))))
    focus (intro xs; (try simp only [Act.put, List.setIfInBounds_toArray, List.set_cons_zero, List.set_cons_succ, Nat.reduceAdd]); rfl)
    refine lin_det (v := ?_) (F' := ?_) (by rfl) (fun _ => by rfl) ?_ ?_ ?_
    rotate_left 2
    focus (intro xs X hX hdep; clear hdep; (try dsimp only); go_simp; (try (first | with_reducible rfl | exact ⟨rfl, rfl⟩ | (fail))))
    focus (intro xs; (try simp only [Act.put, List.setIfInBounds_toArray, List.set_cons_zero, List.set_cons_succ, Nat.reduceAdd]); rfl)
    refine lin_det (v := ?_) (F' := ?_) (by rfl) (fun _ => by rfl) ?_ ?_ ?_
    rotate_left 2
    focus (intro xs X hX hdep; clear hdep; (try dsimp only); go_simp; (try (first | with_reducible rfl | exact ⟨rfl, rfl⟩ | (fail))))
    focus (intro xs; (try simp only [Act.put, List.setIfInBounds_toArray, List.set_cons_zero, List.set_cons_succ, Nat.reduceAdd]); rfl)
    refine lin_det (v := ?_) (F' := ?_) (by rfl) (fun _ => by rfl) ?_ ?_ ?_
    rotate_left 2
    focus (intro xs X hX hdep; clear hdep; (try dsimp only); go_simp; (try (first | with_reducible rfl | exact ⟨rfl, rfl⟩ | (fail))))
    focus (intro xs; (try simp only [Act.put, List.setIfInBounds_toArray, List.set_cons_zero, List.set_cons_succ, Nat.reduceAdd]); rfl)
    refine lin_det (v := ?_) (F' := ?_) (by rfl) (fun _ => by rfl) ?_ ?_ ?_
    rotate_left 2
    focus (intro xs X hX hdep; clear hdep; (try dsimp only); go_simp; (try (first | with_reducible rfl | exact ⟨rfl, rfl⟩ | (fail))))
    focus (intro xs; (try simp only [Act.put, List.setIfInBounds_toArray, List.set_cons_zero, List.set_cons_succ, Nat.reduceAdd]); rfl)
    refine lin_det (v := ?_) (F' := ?_) (by rfl) (fun _ => by rfl) ?_ ?_ ?_
    rotate_left 2
    focus (intro xs X hX hdep; clear hdep; (try dsimp only); go_simp; (try (first | with_reducible rfl | exact ⟨rfl, rfl⟩ | (fail))))
    focus (intro xs; (try simp only [Act.put, List.setIfInBounds_toArray, List.set_cons_zero, List.set_cons_succ, Nat.reduceAdd]); rfl)
    refine lin_det (v := ?_) (F' := ?_) (by rfl) (fun _ => by rfl) ?_ ?_ ?_
    rotate_left 2
    focus (intro xs X hX hdep; clear hdep; (try dsimp only); go_simp; (try (first | with_reducible rfl | exact ⟨rfl, rfl⟩ | (fail))))
    focus (intro xs; (try simp only [Act.put, List.setIfInBounds_toArray, List.set_cons_zero, List.set_cons_succ, Nat.reduceAdd]); rfl)
    refine lin_det (v := ?_) (F' := ?_) (by rfl) (fun _ => by rfl) ?_ ?_ ?_
    rotate_left 2
    focus (intro xs X hX hdep; clear hdep; (try dsimp only); go_simp; (try (first | with_reducible rfl | exact ⟨rfl, rfl⟩ | (exact lawBetween_calls _ _ X))))
    focus (intro xs; (try simp only [Act.put, List.setIfInBounds_toArray, List.set_cons_zero, List.set_cons_succ, Nat.reduceAdd]); rfl)
    refine lin_det (v := ?_) (F' := ?_) (by rfl) (fun _ => by rfl) ?_ ?_ ?_
    rotate_left 2
    focus (intro xs X hX hdep; clear hdep; (try dsimp only); go_simp; (try (first | with_reducible rfl | exact ⟨rfl, rfl⟩ | (fail))))
    focus (intro xs; (try simp only [Act.put, List.setIfInBounds_toArray, List.set_cons_zero, List.set_cons_succ, Nat.reduceAdd]); rfl)
    refine lin_det (v := ?_) (F' := ?_) (by rfl) (fun _ => by rfl) ?_ ?_ ?_
    rotate_left 2
    focus (intro xs X hX hdep; clear hdep; (try dsimp only); go_simp; (try (first | with_reducible rfl | exact ⟨rfl, rfl⟩ | (fail))))
    focus (intro xs; (try simp only [Act.put, List.setIfInBounds_toArray, List.set_cons_zero, List.set_cons_succ, Nat.reduceAdd]); rfl)
    refine lin_det (v := ?_) (F' := ?_) (by rfl) (fun _ => by rfl) ?_ ?_ ?_
    rotate_left 2
    focus (intro xs X hX hdep; clear hdep; (try dsimp only); go_simp; (try (first | with_reducible rfl | exact ⟨rfl, rfl⟩ | (fail))))
    focus (intro xs; (try simp only [Act.put, List.setIfInBounds_toArray, List.set_cons_zero, List.set_cons_succ, Nat.reduceAdd]); rfl)
    refine lin_det (v := ?_) (F' := ?_) (by rfl) (fun _ => by rfl) ?_ ?_ ?_
    rotate_left 2
    focus (intro xs X hX hdep; clear hdep; (try dsimp only); go_simp; (try (first | with_reducible rfl | exact ⟨rfl, rfl⟩ | (fail))))
    focus (intro xs; (try simp only [Act.put, List.setIfInBounds_toArray, List.set_cons_zero, List.set_cons_succ, Nat.reduceAdd]); rfl)
    refine lin_det (v := ?_) (F' := ?_) (by rfl) (fun _ => by rfl) ?_ ?_ ?_
    rotate_left 2
    focus (intro xs X hX hdep; clear hdep; (try dsimp only); go_simp; (try (first | with_reducible rfl | exact ⟨rfl, rfl⟩ | (fail))))
    focus (intro xs; (try simp only [Act.put, List.setIfInBounds_toArray, List.set_cons_zero, List.set_cons_succ, Nat.reduceAdd]); rfl)
    refine lin_det (v := ?_) (F' := ?_) (by rfl) (fun _ => by rfl) ?_ ?_ ?_
    rotate_left 2
    focus (intro xs X hX hdep; clear hdep; (try dsimp only); go_simp; (try (first | with_reducible rfl | exact ⟨rfl, rfl⟩ | (fail))))
    focus (intro xs; (try simp only [Act.put, List.setIfInBounds_toArray, List.set_cons_zero, List.set_cons_succ, Nat.reduceAdd]); rfl)
    refine lin_det (v := ?_) (F' := ?_) (by rfl) (fun _ => by rfl) ?_ ?_ ?_
    rotate_left 2
    focus (intro xs X hX hdep; clear hdep; (try dsimp only); go_simp; (try (first | with_reducible rfl | exact ⟨rfl, rfl⟩ | (exact lawBetween_calls _ _ X))))
    focus (intro xs; (try simp only [Act.put, List.setIfInBounds_toArray, List.set_cons_zero, List.set_cons_succ, Nat.reduceAdd]); rfl)
    refine lin_det (v := ?_) (F' := ?_) (by rfl) (fun _ => by rfl) ?_ ?_ ?_
    rotate_left 2
    focus (intro xs X hX hdep; clear hdep; (try dsimp only); go_simp; (try (first | with_reducible rfl | exact ⟨rfl, rfl⟩ | (fail))))
    focus (intro xs; (try simp only [Act.put, List.setIfInBounds_toArray, List.set_cons_zero, List.set_cons_succ, Nat.reduceAdd]); rfl)
    refine lin_det (v := ?_) (F' := ?_) (by rfl) (fun _ => by rfl) ?_ ?_ ?_
    rotate_left 2
    focus (intro xs X hX hdep; clear hdep; (try dsimp only); go_simp; (try (first | with_reducible rfl | exact ⟨rfl, rfl⟩ | (fail))))
    focus (intro xs; (try simp only [Act.put, List.setIfInBounds_toArray, List.set_cons_zero, List.set_cons_succ, Nat.reduceAdd]); rfl)
    refine lin_det (v := ?_) (F' := ?_) (by rfl) (fun _ => by rfl) ?_ ?_ ?_
    rotate_left 2
    focus (intro xs X hX hdep; clear hdep; (try dsimp only); go_simp; (try (first | with_reducible rfl | exact ⟨rfl, rfl⟩ | (fail))))
    focus (intro xs; (try simp only [Act.put, List.setIfInBounds_toArray, List.set_cons_zero, List.set_cons_succ, Nat.reduceAdd]); rfl)
    refine lin_det (v := ?_) (F' := ?_) (by rfl) (fun _ => by rfl) ?_ ?_ ?_
    rotate_left 2
    focus (intro xs X hX hdep; clear hdep; (try dsimp only); go_simp; (try (first | with_reducible rfl | exact ⟨rfl, rfl⟩ | (fail))))
    focus (intro xs; (try simp only [Act.put, List.setIfInBounds_toArray, List.set_cons_zero, List.set_cons_succ, Nat.reduceAdd]); rfl)
    refine lin_det (v := ?_) (F' := ?_) (by rfl) (fun _ => by rfl) ?_ ?_ ?_
    rotate_left 2
    focus (intro xs X hX hdep; clear hdep; (try dsimp only); go_simp; (try (first | with_reducible rfl | exact ⟨rfl, rfl⟩ | (fail))))
    focus (intro xs; (try simp only [Act.put, List.setIfInBounds_toArray, List.set_cons_zero, List.set_cons_succ, Nat.reduceAdd]); rfl)
    refine lin_det (v := ?_) (F' := ?_) (by rfl) (fun _ => by rfl) ?_ ?_ ?_
    rotate_left 2
    focus (intro xs X hX hdep; clear hdep; (try dsimp only); go_simp; (try (first | with_reducible rfl | exact ⟨rfl, rfl⟩ | (fail))))
    focus (intro xs; (try simp only [Act.put, List.setIfInBounds_toArray, List.set_cons_zero, List.set_cons_succ, Nat.reduceAdd]); rfl)
    refine lin_det (v := ?_) (F' := ?_) (by rfl) (fun _ => by rfl) ?_ ?_ ?_
    rotate_left 2
    focus (intro xs X hX hdep; clear hdep; (try dsimp only); go_simp; (try (first | with_reducible rfl | exact ⟨rfl, rfl⟩ | (exact lawBetween_calls _ _ X))))
    focus (intro xs; (try simp only [Act.put, List.setIfInBounds_toArray, List.set_cons_zero, List.set_cons_succ, Nat.reduceAdd]); rfl)
    refine lin_det (v := ?_) (F' := ?_) (by rfl) (fun _ => by rfl) ?_ ?_ ?_
    rotate_left 2
    focus (intro xs X hX hdep; clear hdep; (try dsimp only); go_simp; (try (first | with_reducible rfl | exact ⟨rfl, rfl⟩ | (fail))))
    focus (intro xs; (try simp only [Act.put, List.setIfInBounds_toArray, List.set_cons_zero, List.set_cons_succ, Nat.reduceAdd]); rfl)
    refine lin_det (v := ?_) (F' := ?_) (by rfl) (fun _ => by rfl) ?_ ?_ ?_
    rotate_left 2
    focus (intro xs X hX hdep; clear hdep; (try dsimp only); go_simp; (try (first | with_reducible rfl | exact ⟨rfl, rfl⟩ | (fail))))
    focus (intro xs; (try simp only [Act.put, List.setIfInBounds_toArray, List.set_cons_zero, List.set_cons_succ, Nat.reduceAdd]); rfl)
    refine lin_det (v := ?_) (F' := ?_) (by rfl) (fun _ => by rfl) ?_ ?_ ?_
    rotate_left 2
    focus (intro xs X hX hdep; clear hdep; (try dsimp only); go_simp; (try (first | with_reducible rfl | exact ⟨rfl, rfl⟩ | (fail))))
    focus (intro xs; (try simp only [Act.put, List.setIfInBounds_toArray, List.set_cons_zero, List.set_cons_succ, Nat.reduceAdd]); rfl)
    refine lin_det (v := ?_) (F' := ?_) (by rfl) (fun _ => by rfl) ?_ ?_ ?_
    rotate_left 2
    focus (intro xs X hX hdep; clear hdep; (try dsimp only); go_simp; (try (first | with_reducible rfl | exact ⟨rfl, rfl⟩ | (fail))))
    focus (intro xs; (try simp only [Act.put, List.setIfInBounds_toArray, List.set_cons_zero, List.set_cons_succ, Nat.reduceAdd]); rfl)
    refine lin_det (v := ?_) (F' := ?_) (by rfl) (fun _ => by rfl) ?_ ?_ ?_
    rotate_left 2
    focus (intro xs X hX hdep; clear hdep; (try dsimp only); go_simp; (try (first | with_reducible rfl | exact ⟨rfl, rfl⟩ | (fail))))
    focus (intro xs; (try simp only [Act.put, List.setIfInBounds_toArray, List.set_cons_zero, List.set_cons_succ, Nat.reduceAdd]); rfl)
    refine lin_det (v := ?_) (F' := ?_) (by rfl) (fun _ => by rfl) ?_ ?_ ?_
    rotate_left 2
    focus (intro xs X hX hdep; clear hdep; (try dsimp only); go_simp; (try (first | with_reducible rfl | exact ⟨rfl, rfl⟩ | (fail))))
    focus (intro xs; (try simp only [Act.put, List.setIfInBounds_toArray, List.set_cons_zero, List.set_cons_succ, Nat.reduceAdd]); rfl)
    refine lin_det (v := ?_) (F' := ?_) (by rfl) (fun _ => by rfl) ?_ ?_ ?_
    rotate_left 2
    focus (intro xs X hX hdep; clear hdep; (try dsimp only); go_simp; (try (first | with_reducible rfl | exact ⟨rfl, rfl⟩ | (fail))))
    focus (intro xs; (try simp only [Act.put, List.setIfInBounds_toArray, List.set_cons_zero, List.set_cons_succ, Nat.reduceAdd]); rfl)
    refine lin_det (v := ?_) (F' := ?_) (by rfl) (fun _ => by rfl) ?_ ?_ ?_
    rotate_left 2
    focus (intro xs X hX hdep; clear hdep; (try dsimp only); go_simp; (try (first | with_reducible rfl | exact ⟨rfl, rfl⟩ | (fail))))
    focus (intro xs; (try simp only [Act.put, List.setIfInBounds_toArray, List.set_cons_zero, List.set_cons_succ, Nat.reduceAdd]); rfl)
    refine lin_any (fun v W => IsInts [2, 2, 2] W v) false (fun v W W' h k => IsInts.later k h) (F' := ?_) (by rfl) (fun _ => by rfl) ?_ ?_ ?_
    rotate_left 1
    focus (intro xs X hX hdep; skip; clear hdep; intro K hK; (try dsimp only); go_simp; (exact hK.out _ _ rfl (later_alloc (later_refl _) _) (newInts _ [2, 2, 2] _ rfl) (fun h => by cases h)))
    focus (intro xs; (try simp only [Act.put, List.setIfInBounds_toArray, List.set_cons_zero, List.set_cons_succ, Nat.reduceAdd]); rfl)
    refine lin_det_last (j := 50) (v := ?_) (F' := ?_) (by rfl) (fun _ => by rfl) (by kernel_rfl) (by kernel_rfl) ?_ ?_ ?_
    rotate_left 2
    focus (intro xs X hX hs; obtain ⟨A, k, e, hr⟩ := (show IsInts _ _ _ from hs); (try dsimp only); go_simp; (try (first | with_reducible rfl | exact ⟨rfl, rfl⟩ | (exact ints_true (Hl.out.later hX) hr (by simp)))))
    focus (intro xs; (try simp only [Act.put, List.setIfInBounds_toArray, List.set_cons_zero, List.set_cons_succ, Nat.reduceAdd]); rfl)
    refine lin_det (v := ?_) (F' := ?_) (by rfl) (fun _ => by rfl) ?_ ?_ ?_
    rotate_left 2
    focus (intro xs X hX hdep; clear hdep; (try dsimp only); go_simp; (try (first | with_reducible rfl | exact ⟨rfl, rfl⟩ | (fail))))
    focus (intro xs; (try simp only [Act.put, List.setIfInBounds_toArray, List.set_cons_zero, List.set_cons_succ, Nat.reduceAdd]); rfl)
    refine lin_det (v := ?_) (F' := ?_) (by rfl) (fun _ => by rfl) ?_ ?_ ?_
    rotate_left 2
    focus (intro xs X hX hdep; clear hdep; (try dsimp only); go_simp; (try (first | with_reducible rfl | exact ⟨rfl, rfl⟩ | (fail))))
    focus (intro xs; (try simp only [Act.put, List.setIfInBounds_toArray, List.set_cons_zero, List.set_cons_succ, Nat.reduceAdd]); rfl)
    refine lin_det (v := ?_) (F' := ?_) (by rfl) (fun _ => by rfl) ?_ ?_ ?_
    rotate_left 2
    focus (intro xs X hX hdep; clear hdep; (try dsimp only); go_simp; (try (first | with_reducible rfl | exact ⟨rfl, rfl⟩ | (fail))))
    focus (intro xs; (try simp only [Act.put, List.setIfInBounds_toArray, List.set_cons_zero, List.set_cons_succ, Nat.reduceAdd]); rfl)
    refine lin_det (v := ?_) (F' := ?_) (by rfl) (fun _ => by rfl) ?_ ?_ ?_
    rotate_left 2
    focus (intro xs X hX hdep; clear hdep; (try dsimp only); go_simp; (try (first | with_reducible rfl | exact ⟨rfl, rfl⟩ | (fail))))
    focus (intro xs; (try simp only [Act.put, List.setIfInBounds_toArray, List.set_cons_zero, List.set_cons_succ, Nat.reduceAdd]); rfl)
    refine lin_det (v := ?_) (F' := ?_) (by rfl) (fun _ => by rfl) ?_ ?_ ?_
    rotate_left 2
    focus (intro xs X hX hdep; clear hdep; (try dsimp only); go_simp; (try (first | with_reducible rfl | exact ⟨rfl, rfl⟩ | (fail))))
    focus (intro xs; (try simp only [Act.put, List.setIfInBounds_toArray, List.set_cons_zero, List.set_cons_succ, Nat.reduceAdd]); rfl)
    refine lin_det (v := ?_) (F' := ?_) (by rfl) (fun _ => by rfl) ?_ ?_ ?_
    rotate_left 2
    focus (intro xs X hX hdep; clear hdep; (try dsimp only); go_simp; (try (first | with_reducible rfl | exact ⟨rfl, rfl⟩ | (fail))))
    focus (intro xs; (try simp only [Act.put, List.setIfInBounds_toArray, List.set_cons_zero, List.set_cons_succ, Nat.reduceAdd]); rfl)
    refine lin_det (v := ?_) (F' := ?_) (by rfl) (fun _ => by rfl) ?_ ?_ ?_
    rotate_left 2
    focus (intro xs X hX hdep; clear hdep; (try dsimp only); go_simp; (try (first | with_reducible rfl | exact ⟨rfl, rfl⟩ | (fail))))
    focus (intro xs; (try simp only [Act.put, List.setIfInBounds_toArray, List.set_cons_zero, List.set_cons_succ, Nat.reduceAdd]); rfl)
    refine lin_det (v := ?_) (F' := ?_) (by rfl) (fun _ => by rfl) ?_ ?_ ?_
    rotate_left 2
    focus (intro xs X hX hdep; clear hdep; (try dsimp only); go_simp; (try (first | with_reducible rfl | exact ⟨rfl, rfl⟩ | (fail))))
    focus (intro xs; (try simp only [Act.put, List.setIfInBounds_toArray, List.set_cons_zero, List.set_cons_succ, Nat.reduceAdd]); rfl)
    refine lin_det (v := ?_) (F' := ?_) (by rfl) (fun _ => by rfl) ?_ ?_ ?_
    rotate_left 2
    focus (intro xs X hX hdep; clear hdep; (try dsimp only); go_simp; (try (first | with_reducible rfl | exact ⟨rfl, rfl⟩ | (fail))))
    focus (intro xs; (try simp only [Act.put, List.setIfInBounds_toArray, List.set_cons_zero, List.set_cons_succ, Nat.reduceAdd]); rfl)
    refine lin_det (v := ?_) (F' := ?_) (by rfl) (fun _ => by rfl) ?_ ?_ ?_
    rotate_left 2
    focus (intro xs X hX hdep; clear hdep; (try dsimp only); go_simp; (try (first | with_reducible rfl | exact ⟨rfl, rfl⟩ | (fail))))
    focus (intro xs; (try simp only [Act.put, List.setIfInBounds_toArray, List.set_cons_zero, List.set_cons_succ, Nat.reduceAdd]); rfl)
    refine lin_det (v := ?_) (F' := ?_) (by rfl) (fun _ => by rfl) ?_ ?_ ?_
    rotate_left 2
    focus (intro xs X hX hdep; clear hdep; (try dsimp only); go_simp; (try (first | with_reducible rfl | exact ⟨rfl, rfl⟩ | (fail))))
    focus (intro xs; (try simp only [Act.put, List.setIfInBounds_toArray, List.set_cons_zero, List.set_cons_succ, Nat.reduceAdd]); rfl)
    refine lin_det (v := ?_) (F' := ?_) (by rfl) (fun _ => by rfl) ?_ ?_ ?_
    rotate_left 2
    focus (intro xs X hX hdep; clear hdep; (try dsimp only); go_simp; (try (first | with_reducible rfl | exact ⟨rfl, rfl⟩ | (fail))))
    focus (intro xs; (try simp only [Act.put, List.setIfInBounds_toArray, List.set_cons_zero, List.set_cons_succ, Nat.reduceAdd]); rfl)
    refine lin_det (v := ?_) (F' := ?_) (by rfl) (fun _ => by rfl) ?_ ?_ ?_
    rotate_left 2
    focus (intro xs X hX hdep; clear hdep; (try dsimp only); go_simp; (try (first | with_reducible rfl | exact ⟨rfl, rfl⟩ | (fail))))
    focus (intro xs; (try simp only [Act.put, List.setIfInBounds_toArray, List.set_cons_zero, List.set_cons_succ, Nat.reduceAdd]); rfl)
    refine lin_det (v := ?_) (F' := ?_) (by rfl) (fun _ => by rfl) ?_ ?_ ?_
    rotate_left 2
    focus (intro xs X hX hdep; clear hdep; (try dsimp only); go_simp; (try (first | with_reducible rfl | exact ⟨rfl, rfl⟩ | (fail))))
    focus (intro xs; (try simp only [Act.put, List.setIfInBounds_toArray, List.set_cons_zero, List.set_cons_succ, Nat.reduceAdd]); rfl)
    refine lin_det (v := ?_) (F' := ?_) (by rfl) (fun _ => by rfl) ?_ ?_ ?_
    rotate_left 2
    focus (intro xs X hX hdep; clear hdep; (try dsimp only); go_simp; (try (first | with_reducible rfl | exact ⟨rfl, rfl⟩ | (fail))))
    focus (intro xs; (try simp only [Act.put, List.setIfInBounds_toArray, List.set_cons_zero, List.set_cons_succ, Nat.reduceAdd]); rfl)
    refine lin_det (v := ?_) (F' := ?_) (by rfl) (fun _ => by rfl) ?_ ?_ ?_
    rotate_left 2
    focus (intro xs X hX hdep; clear hdep; (try dsimp only); go_simp; (try (first | with_reducible rfl | exact ⟨rfl, rfl⟩ | (fail))))
    focus (intro xs; (try simp only [Act.put, List.setIfInBounds_toArray, List.set_cons_zero, List.set_cons_succ, Nat.reduceAdd]); rfl)
    refine lin_det (v := ?_) (F' := ?_) (by rfl) (fun _ => by rfl) ?_ ?_ ?_
    rotate_left 2
    focus (intro xs X hX hdep; clear hdep; (try dsimp only); go_simp; (try (first | with_reducible rfl | exact ⟨rfl, rfl⟩ | (fail))))
    focus (intro xs; (try simp only [Act.put, List.setIfInBounds_toArray, List.set_cons_zero, List.set_cons_succ, Nat.reduceAdd]); rfl)
    refine lin_det (v := ?_) (F' := ?_) (by rfl) (fun _ => by rfl) ?_ ?_ ?_
    rotate_left 2
    focus (intro xs X hX hdep; clear hdep; (try dsimp only); go_simp; (try (first | with_reducible rfl | exact ⟨rfl, rfl⟩ | (fail))))
    focus (intro xs; (try simp only [Act.put, List.setIfInBounds_toArray, List.set_cons_zero, List.set_cons_succ, Nat.reduceAdd]); rfl)
    refine lin_det (v := ?_) (F' := ?_) (by rfl) (fun _ => by rfl) ?_ ?_ ?_
    rotate_left 2
    focus (intro xs X hX hdep; clear hdep; (try dsimp only); go_simp; (try (first | with_reducible rfl | exact ⟨rfl, rfl⟩ | (fail))))
    focus (intro xs; (try simp only [Act.put, List.setIfInBounds_toArray, List.set_cons_zero, List.set_cons_succ, Nat.reduceAdd]); rfl)
    refine lin_det (v := ?_) (F' := ?_) (by rfl) (fun _ => by rfl) ?_ ?_ ?_
    rotate_left 2
    focus (intro xs X hX hdep; clear hdep; (try dsimp only); go_simp; (try (first | with_reducible rfl | exact ⟨rfl, rfl⟩ | (fail))))
    focus (intro xs; (try simp only [Act.put, List.setIfInBounds_toArray, List.set_cons_zero, List.set_cons_succ, Nat.reduceAdd]); rfl)
    refine lin_det (v := ?_) (F' := ?_) (by rfl) (fun _ => by rfl) ?_ ?_ ?_
    rotate_left 2
    focus (intro xs X hX hdep; clear hdep; (try dsimp only); go_simp; (try (first | with_reducible rfl | exact ⟨rfl, rfl⟩ | (fail))))
    focus (intro xs; (try simp only [Act.put, List.setIfInBounds_toArray, List.set_cons_zero, List.set_cons_succ, Nat.reduceAdd]); rfl)
    refine lin_det (v := ?_) (F' := ?_) (by rfl) (fun _ => by rfl) ?_ ?_ ?_
    rotate_left 2
    focus (intro xs X hX hdep; clear hdep; (try dsimp only); go_simp; (try (first | with_reducible rfl | exact ⟨rfl, rfl⟩ | (fail))))
    focus (intro xs; (try simp only [Act.put, List.setIfInBounds_toArray, List.set_cons_zero, List.set_cons_succ, Nat.reduceAdd]); rfl)
    refine lin_det (v := ?_) (F' := ?_) (by rfl) (fun _ => by rfl) ?_ ?_ ?_
    rotate_left 2
    focus (intro xs X hX hdep; clear hdep; (try dsimp only); go_simp; (try (first | with_reducible rfl | exact ⟨rfl, rfl⟩ | (fail))))
    focus (intro xs; (try simp only [Act.put, List.setIfInBounds_toArray, List.set_cons_zero, List.set_cons_succ, Nat.reduceAdd]); rfl)
    refine lin_det (v := ?_) (F' := ?_) (by rfl) (fun _ => by rfl) ?_ ?_ ?_
    rotate_left 2
    focus (intro xs X hX hdep; clear hdep; (try dsimp only); go_simp; (try (first | with_reducible rfl | exact ⟨rfl, rfl⟩ | (fail))))
    focus (intro xs; (try simp only [Act.put, List.setIfInBounds_toArray, List.set_cons_zero, List.set_cons_succ, Nat.reduceAdd]); rfl)
    refine lin_det (v := ?_) (F' := ?_) (by rfl) (fun _ => by rfl) ?_ ?_ ?_
    rotate_left 2
    focus (intro xs X hX hdep; clear hdep; (try dsimp only); go_simp; (try (first | with_reducible rfl | exact ⟨rfl, rfl⟩ | (exact lawBetween_calls _ _ X))))
    focus (intro xs; (try simp only [Act.put, List.setIfInBounds_toArray, List.set_cons_zero, List.set_cons_succ, Nat.reduceAdd]); rfl)
    refine lin_det (v := ?_) (F' := ?_) (by rfl) (fun _ => by rfl) ?_ ?_ ?_
    rotate_left 2
    focus (intro xs X hX hdep; clear hdep; (try dsimp only); go_simp; (try (first | with_reducible rfl | exact ⟨rfl, rfl⟩ | (fail))))
    focus (intro xs; (try simp only [Act.put, List.setIfInBounds_toArray, List.set_cons_zero, List.set_cons_succ, Nat.reduceAdd]); rfl)
    refine lin_det (v := ?_) (F' := ?_) (by rfl) (fun _ => by rfl) ?_ ?_ ?_
    rotate_left 2
    focus (intro xs X hX hdep; clear hdep; (try dsimp only); go_simp; (try (first | with_reducible rfl | exact ⟨rfl, rfl⟩ | (fail))))
    focus (intro xs; (try simp only [Act.put, List.setIfInBounds_toArray, List.set_cons_zero, List.set_cons_succ, Nat.reduceAdd]); rfl)
    refine lin_det (v := ?_) (F' := ?_) (by rfl) (fun _ => by rfl) ?_ ?_ ?_
    rotate_left 2
    focus (intro xs X hX hdep; clear hdep; (try dsimp only); go_simp; (try (first | with_reducible rfl | exact ⟨rfl, rfl⟩ | (fail))))
    focus (intro xs; (try simp only [Act.put, List.setIfInBounds_toArray, List.set_cons_zero, List.set_cons_succ, Nat.reduceAdd]); rfl)
    refine lin_det (v := ?_) (F' := ?_) (by rfl) (fun _ => by rfl) ?_ ?_ ?_
    rotate_left 2
    focus (intro xs X hX hdep; clear hdep; (try dsimp only); go_simp; (try (first | with_reducible rfl | exact ⟨rfl, rfl⟩ | (fail))))
    focus (intro xs; (try simp only [Act.put, List.setIfInBounds_toArray, List.set_cons_zero, List.set_cons_succ, Nat.reduceAdd]); rfl)
    refine lin_det (v := ?_) (F' := ?_) (by rfl) (fun _ => by rfl) ?_ ?_ ?_
    rotate_left 2
    focus (intro xs X hX hdep; clear hdep; (try dsimp only); go_simp; (try (first | with_reducible rfl | exact ⟨rfl, rfl⟩ | (fail))))
    focus (intro xs; (try simp only [Act.put, List.setIfInBounds_toArray, List.set_cons_zero, List.set_cons_succ, Nat.reduceAdd]); rfl)
    refine lin_det (v := ?_) (F' := ?_) (by rfl) (fun _ => by rfl) ?_ ?_ ?_
    rotate_left 2
    focus (intro xs X hX hdep; clear hdep; (try dsimp only); go_simp; (try (first | with_reducible rfl | exact ⟨rfl, rfl⟩ | (fail))))
    focus (intro xs; (try simp only [Act.put, List.setIfInBounds_toArray, List.set_cons_zero, List.set_cons_succ, Nat.reduceAdd]); rfl)
    refine lin_det (v := ?_) (F' := ?_) (by rfl) (fun _ => by rfl) ?_ ?_ ?_
    rotate_left 2
    focus (intro xs X hX hdep; clear hdep; (try dsimp only); go_simp; (try (first | with_reducible rfl | exact ⟨rfl, rfl⟩ | (fail))))
    focus (intro xs; (try simp only [Act.put, List.setIfInBounds_toArray, List.set_cons_zero, List.set_cons_succ, Nat.reduceAdd]); rfl)
    refine lin_det (v := ?_) (F' := ?_) (by rfl) (fun _ => by rfl) ?_ ?_ ?_
    rotate_left 2
    focus (intro xs X hX hdep; clear hdep; (try dsimp only); go_simp; (try (first | with_reducible rfl | exact ⟨rfl, rfl⟩ | (fail))))
    focus (intro xs; (try simp only [Act.put, List.setIfInBounds_toArray, List.set_cons_zero, List.set_cons_succ, Nat.reduceAdd]); rfl)
    refine lin_det (v := ?_) (F' := ?_) (by rfl) (fun _ => by rfl) ?_ ?_ ?_
    rotate_left 2
    focus (intro xs X hX hdep; clear hdep; (try dsimp only); go_simp; (try (first | with_reducible rfl | exact ⟨rfl, rfl⟩ | (fail))))
    focus (intro xs; (try simp only [Act.put, List.setIfInBounds_toArray, List.set_cons_zero, List.set_cons_succ, Nat.reduceAdd]); rfl)
    refine lin_det (v := ?_) (F' := ?_) (by rfl) (fun _ => by rfl) ?_ ?_ ?_
    rotate_left 2
    focus (intro xs X hX hdep; clear hdep; (try dsimp only); go_simp; (try (first | with_reducible rfl | exact ⟨rfl, rfl⟩ | (fail))))
    focus (intro xs; (try simp only [Act.put, List.setIfInBounds_toArray, List.set_cons_zero, List.set_cons_succ, Nat.reduceAdd]); rfl)
    refine lin_det (v := ?_) (F' := ?_) (by rfl) (fun _ => by rfl) ?_ ?_ ?_
    rotate_left 2
    focus (intro xs X hX hdep; clear hdep; (try dsimp only); go_simp; (try (first | with_reducible rfl | exact ⟨rfl, rfl⟩ | (fail))))
    focus (intro xs; (try simp only [Act.put, List.setIfInBounds_toArray, List.set_cons_zero, List.set_cons_succ, Nat.reduceAdd]); rfl)
    refine lin_det (v := ?_) (F' := ?_) (by rfl) (fun _ => by rfl) ?_ ?_ ?_
    rotate_left 2
    focus (intro xs X hX hdep; clear hdep; (try dsimp only); go_simp; (try (first | with_reducible rfl | exact ⟨rfl, rfl⟩ | (fail))))
    focus (intro xs; (try simp only [Act.put, List.setIfInBounds_toArray, List.set_cons_zero, List.set_cons_succ, Nat.reduceAdd]); rfl)
    refine lin_det (v := ?_) (F' := ?_) (by rfl) (fun _ => by rfl) ?_ ?_ ?_
    rotate_left 2
    focus (intro xs X hX hdep; clear hdep; (try dsimp only); go_simp; (try (first | with_reducible rfl | exact ⟨rfl, rfl⟩ | (fail))))
    focus (intro xs; (try simp only [Act.put, List.setIfInBounds_toArray, List.set_cons_zero, List.set_cons_succ, Nat.reduceAdd]); rfl)
    refine lin_det (v := ?_) (F' := ?_) (by rfl) (fun _ => by rfl) ?_ ?_ ?_
    rotate_left 2
    focus (intro xs X hX hdep; clear hdep; (try dsimp only); go_simp; (try (first | with_reducible rfl | exact ⟨rfl, rfl⟩ | (fail))))
    focus (intro xs; (try simp only [Act.put, List.setIfInBounds_toArray, List.set_cons_zero, List.set_cons_succ, Nat.reduceAdd]); rfl)
    refine lin_det (v := ?_) (F' := ?_) (by rfl) (fun _ => by rfl) ?_ ?_ ?_
    rotate_left 2
    focus (intro xs X hX hdep; clear hdep; (try dsimp only); go_simp; (try (first | with_reducible rfl | exact ⟨rfl, rfl⟩ | (fail))))
    focus (intro xs; (try simp only [Act.put, List.setIfInBounds_toArray, List.set_cons_zero, List.set_cons_succ, Nat.reduceAdd]); rfl)
    refine lin_det (v := ?_) (F' := ?_) (by rfl) (fun _ => by rfl) ?_ ?_ ?_
    rotate_left 2
    focus (intro xs X hX hdep; clear hdep; (try dsimp only); go_simp; (try (first | with_reducible rfl | exact ⟨rfl, rfl⟩ | (exact lawBetween_calls _ _ X))))
    focus (intro xs; (try simp only [Act.put, List.setIfInBounds_toArray, List.set_cons_zero, List.set_cons_succ, Nat.reduceAdd]); rfl)
    refine lin_det (v := ?_) (F' := ?_) (by rfl) (fun _ => by rfl) ?_ ?_ ?_
    rotate_left 2
    focus (intro xs X hX hdep; clear hdep; (try dsimp only); go_simp; (try (first | with_reducible rfl | exact ⟨rfl, rfl⟩ | (fail))))
    focus (intro xs; (try simp only [Act.put, List.setIfInBounds_toArray, List.set_cons_zero, List.set_cons_succ, Nat.reduceAdd]); rfl)
    refine lin_det (v := ?_) (F' := ?_) (by rfl) (fun _ => by rfl) ?_ ?_ ?_
    rotate_left 2
    focus (intro xs X hX hdep; clear hdep; (try dsimp only); go_simp; (try (first | with_reducible rfl | exact ⟨rfl, rfl⟩ | (fail))))
    focus (intro xs; (try simp only [Act.put, List.setIfInBounds_toArray, List.set_cons_zero, List.set_cons_succ, Nat.reduceAdd]); rfl)
    refine lin_det (v := ?_) (F' := ?_) (by rfl) (fun _ => by rfl) ?_ ?_ ?_
    rotate_left 2
    focus (intro xs X hX hdep; clear hdep; (try dsimp only); go_simp; (try (first | with_reducible rfl | exact ⟨rfl, rfl⟩ | (fail))))
    focus (intro xs; (try simp only [Act.put, List.setIfInBounds_toArray, List.set_cons_zero, List.set_cons_succ, Nat.reduceAdd]); rfl)
    refine lin_det (v := ?_) (F' := ?_) (by rfl) (fun _ => by rfl) ?_ ?_ ?_
    rotate_left 2
    focus (intro xs X hX hdep; clear hdep; (try dsimp only); go_simp; (try (first | with_reducible rfl | exact ⟨rfl, rfl⟩ | (fail))))
    focus (intro xs; (try simp only [Act.put, List.setIfInBounds_toArray, List.set_cons_zero, List.set_cons_succ, Nat.reduceAdd]); rfl)
    refine lin_det (v := ?_) (F' := ?_) (by rfl) (fun _ => by rfl) ?_ ?_ ?_
    rotate_left 2
    focus (intro xs X hX hdep; clear hdep; (try dsimp only); go_simp; (try (first | with_reducible rfl | exact ⟨rfl, rfl⟩ | (fail))))
    focus (intro xs; (try simp only [Act.put, List.setIfInBounds_toArray, List.set_cons_zero, List.set_cons_succ, Nat.reduceAdd]); rfl)
    refine lin_det (v := ?_) (F' := ?_) (by rfl) (fun _ => by rfl) ?_ ?_ ?_
    rotate_left 2
    focus (intro xs X hX hdep; clear hdep; (try dsimp only); go_simp; (try (first | with_reducible rfl | exact ⟨rfl, rfl⟩ | (fail))))
    focus (intro xs; (try simp only [Act.put, List.setIfInBounds_toArray, List.set_cons_zero, List.set_cons_succ, Nat.reduceAdd]); rfl)
    refine lin_det (v := ?_) (F' := ?_) (by rfl) (fun _ => by rfl) ?_ ?_ ?_
    rotate_left 2
    focus (intro xs X hX hdep; clear hdep; (try dsimp only); go_simp; (try (first | with_reducible rfl | exact ⟨rfl, rfl⟩ | (exact lawBetween_calls _ _ X))))
    focus (intro xs; (try simp only [Act.put, List.setIfInBounds_toArray, List.set_cons_zero, List.set_cons_succ, Nat.reduceAdd]); rfl)
    refine lin_det (v := ?_) (F' := ?_) (by rfl) (fun _ => by rfl) ?_ ?_ ?_
    rotate_left 2
    focus (intro xs X hX hdep; clear hdep; (try dsimp only); go_simp; (try (first | with_reducible rfl | exact ⟨rfl, rfl⟩ | (fail))))
    focus (intro xs; (try simp only [Act.put, List.setIfInBounds_toArray, List.set_cons_zero, List.set_cons_succ, Nat.reduceAdd]); rfl)
    refine lin_det (v := ?_) (F' := ?_) (by rfl) (fun _ => by rfl) ?_ ?_ ?_
    rotate_left 2
    focus (intro xs X hX hdep; clear hdep; (try dsimp only); go_simp; (try (first | with_reducible rfl | exact ⟨rfl, rfl⟩ | (fail))))
    focus (intro xs; (try simp only [Act.put, List.setIfInBounds_toArray, List.set_cons_zero, List.set_cons_succ, Nat.reduceAdd]); rfl)
    refine lin_det (v := ?_) (F' := ?_) (by rfl) (fun _ => by rfl) ?_ ?_ ?_
    rotate_left 2
    focus (intro xs X hX hdep; clear hdep; (try dsimp only); go_simp; (try (first | with_reducible rfl | exact ⟨rfl, rfl⟩ | (fail))))
    focus (intro xs; (try simp only [Act.put, List.setIfInBounds_toArray, List.set_cons_zero, List.set_cons_succ, Nat.reduceAdd]); rfl)
    refine lin_det (v := ?_) (F' := ?_) (by rfl) (fun _ => by rfl) ?_ ?_ ?_
    rotate_left 2
    focus (intro xs X hX hdep; clear hdep; (try dsimp only); go_simp; (try (first | with_reducible rfl | exact ⟨rfl, rfl⟩ | (fail))))
    focus (intro xs; (try simp only [Act.put, List.setIfInBounds_toArray, List.set_cons_zero, List.set_cons_succ, Nat.reduceAdd]); rfl)
    refine lin_det (v := ?_) (F' := ?_) (by rfl) (fun _ => by rfl) ?_ ?_ ?_
    rotate_left 2
    focus (intro xs X hX hdep; clear hdep; (try dsimp only); go_simp; (try (first | with_reducible rfl | exact ⟨rfl, rfl⟩ | (fail))))
    focus (intro xs; (try simp only [Act.put, List.setIfInBounds_toArray, List.set_cons_zero, List.set_cons_succ, Nat.reduceAdd]); rfl)
    refine lin_det (v := ?_) (F' := ?_) (by rfl) (fun _ => by rfl) ?_ ?_ ?_
    rotate_left 2
    focus (intro xs X hX hdep; clear hdep; (try dsimp only); go_simp; (try (first | with_reducible rfl | exact ⟨rfl, rfl⟩ | (fail))))
    focus (intro xs; (try simp only [Act.put, List.setIfInBounds_toArray, List.set_cons_zero, List.set_cons_succ, Nat.reduceAdd]); rfl)
    refine lin_det (v := ?_) (F' := ?_) (by rfl) (fun _ => by rfl) ?_ ?_ ?_
    rotate_left 2
    focus (intro xs X hX hdep; clear hdep; (try dsimp only); go_simp; (try (first | with_reducible rfl | exact ⟨rfl, rfl⟩ | (fail))))
    focus (intro xs; (try simp only [Act.put, List.setIfInBounds_toArray, List.set_cons_zero, List.set_cons_succ, Nat.reduceAdd]); rfl)
    refine lin_det (v := ?_) (F' := ?_) (by rfl) (fun _ => by rfl) ?_ ?_ ?_
    rotate_left 2
    focus (intro xs X hX hdep; clear hdep; (try dsimp only); go_simp; (try (first | with_reducible rfl | exact ⟨rfl, rfl⟩ | (fail))))
    focus (intro xs; (try simp only [Act.put, List.setIfInBounds_toArray, List.set_cons_zero, List.set_cons_succ, Nat.reduceAdd]); rfl)
    refine lin_det (v := ?_) (F' := ?_) (by rfl) (fun _ => by rfl) ?_ ?_ ?_
    rotate_left 2
    focus (intro xs X hX hdep; clear hdep; (try dsimp only); go_simp; (try (first | with_reducible rfl | exact ⟨rfl, rfl⟩ | (fail))))
    focus (intro xs; (try simp only [Act.put, List.setIfInBounds_toArray, List.set_cons_zero, List.set_cons_succ, Nat.reduceAdd]); rfl)
    refine lin_det (v := ?_) (F' := ?_) (by rfl) (fun _ => by rfl) ?_ ?_ ?_
    rotate_left 2
    focus (intro xs X hX hdep; clear hdep; (try dsimp only); go_simp; (try (first | with_reducible rfl | exact ⟨rfl, rfl⟩ | (fail))))
    focus (intro xs; (try simp only [Act.put, List.setIfInBounds_toArray, List.set_cons_zero, List.set_cons_succ, Nat.reduceAdd]); rfl)
    refine lin_det (v := ?_) (F' := ?_) (by rfl) (fun _ => by rfl) ?_ ?_ ?_
    rotate_left 2
    focus (intro xs X hX hdep; clear hdep; (try dsimp only); go_simp; (try (first | with_reducible rfl | exact ⟨rfl, rfl⟩ | (fail))))
    focus (intro xs; (try simp only [Act.put, List.setIfInBounds_toArray, List.set_cons_zero, List.set_cons_succ, Nat.reduceAdd]); rfl)
    refine lin_det (v := ?_) (F' := ?_) (by rfl) (fun _ => by rfl) ?_ ?_ ?_
    rotate_left 2
    focus (intro xs X hX hdep; clear hdep; (try dsimp only); go_simp; (try (first | with_reducible rfl | exact ⟨rfl, rfl⟩ | (fail))))
    focus (intro xs; (try simp only [Act.put, List.setIfInBounds_toArray, List.set_cons_zero, List.set_cons_succ, Nat.reduceAdd]); rfl)
    refine lin_det (v := ?_) (F' := ?_) (by rfl) (fun _ => by rfl) ?_ ?_ ?_
    rotate_left 2
    focus (intro xs X hX hdep; clear hdep; (try dsimp only); go_simp; (try (first | with_reducible rfl | exact ⟨rfl, rfl⟩ | (fail))))
    focus (intro xs; (try simp only [Act.put, List.setIfInBounds_toArray, List.set_cons_zero, List.set_cons_succ, Nat.reduceAdd]); rfl)
    refine lin_det (v := ?_) (F' := ?_) (by rfl) (fun _ => by rfl) ?_ ?_ ?_
    rotate_left 2
    focus (intro xs X hX hdep; clear hdep; (try dsimp only); go_simp; (try (first | with_reducible rfl | exact ⟨rfl, rfl⟩ | (fail))))
    focus (intro xs; (try simp only [Act.put, List.setIfInBounds_toArray, List.set_cons_zero, List.set_cons_succ, Nat.reduceAdd]); rfl)
    refine lin_det (v := ?_) (F' := ?_) (by rfl) (fun _ => by rfl) ?_ ?_ ?_
    rotate_left 2
    focus (intro xs X hX hdep; clear hdep; (try dsimp only); go_simp; (try (first | with_reducible rfl | exact ⟨rfl, rfl⟩ | (fail))))
    focus (intro xs; (try simp only [Act.put, List.setIfInBounds_toArray, List.set_cons_zero, List.set_cons_succ, Nat.reduceAdd]); rfl)
    refine lin_det (v := ?_) (F' := ?_) (by rfl) (fun _ => by rfl) ?_ ?_ ?_
    rotate_left 2
    focus (intro xs X hX hdep; clear hdep; (try dsimp only); go_simp; (try (first | with_reducible rfl | exact ⟨rfl, rfl⟩ | (fail))))
    focus (intro xs; (try simp only [Act.put, List.setIfInBounds_toArray, List.set_cons_zero, List.set_cons_succ, Nat.reduceAdd]); rfl)
    refine lin_det (v := ?_) (F' := ?_) (by rfl) (fun _ => by rfl) ?_ ?_ ?_
    rotate_left 2
    focus (intro xs X hX hdep; clear hdep; (try dsimp only); go_simp; (try (first | with_reducible rfl | exact ⟨rfl, rfl⟩ | (fail))))
    focus (intro xs; (try simp only [Act.put, List.setIfInBounds_toArray, List.set_cons_zero, List.set_cons_succ, Nat.reduceAdd]); rfl)
    refine lin_det (v := ?_) (F' := ?_) (by rfl) (fun _ => by rfl) ?_ ?_ ?_
    rotate_left 2
    focus (intro xs X hX hdep; clear hdep; (try dsimp only); go_simp; (try (first | with_reducible rfl | exact ⟨rfl, rfl⟩ | (fail))))
    focus (intro xs; (try simp only [Act.put, List.setIfInBounds_toArray, List.set_cons_zero, List.set_cons_succ, Nat.reduceAdd]); rfl)
    refine lin_det (v := ?_) (F' := ?_) (by rfl) (fun _ => by rfl) ?_ ?_ ?_
    rotate_left 2
    focus (intro xs X hX hdep; clear hdep; (try dsimp only); go_simp; (try (first | with_reducible rfl | exact ⟨rfl, rfl⟩ | (fail))))
    focus (intro xs; (try simp only [Act.put, List.setIfInBounds_toArray, List.set_cons_zero, List.set_cons_succ, Nat.reduceAdd]); rfl)
    refine lin_det (v := ?_) (F' := ?_) (by rfl) (fun _ => by rfl) ?_ ?_ ?_
    rotate_left 2
    focus (intro xs X hX hdep; clear hdep; (try dsimp only); go_simp; (try (first | with_reducible rfl | exact ⟨rfl, rfl⟩ | (fail))))
    focus (intro xs; (try simp only [Act.put, List.setIfInBounds_toArray, List.set_cons_zero, List.set_cons_succ, Nat.reduceAdd]); rfl)
    refine lin_det (v := ?_) (F' := ?_) (by rfl) (fun _ => by rfl) ?_ ?_ ?_
    rotate_left 2
    focus (intro xs X hX hdep; clear hdep; (try dsimp only); go_simp; (try (first | with_reducible rfl | exact ⟨rfl, rfl⟩ | (fail))))
    focus (intro xs; (try simp only [Act.put, List.setIfInBounds_toArray, List.set_cons_zero, List.set_cons_succ, Nat.reduceAdd]); rfl)
    refine lin_det (v := ?_) (F' := ?_) (by rfl) (fun _ => by rfl) ?_ ?_ ?_
    rotate_left 2
    focus (intro xs X hX hdep; clear hdep; (try dsimp only); go_simp; (try (first | with_reducible rfl | exact ⟨rfl, rfl⟩ | (fail))))
    focus (intro xs; (try simp only [Act.put, List.setIfInBounds_toArray, List.set_cons_zero, List.set_cons_succ, Nat.reduceAdd]); rfl)
    refine lin_det (v := ?_) (F' := ?_) (by rfl) (fun _ => by rfl) ?_ ?_ ?_
    rotate_left 2
    focus (intro xs X hX hdep; clear hdep; (try dsimp only); go_simp; (try (first | with_reducible rfl | exact ⟨rfl, rfl⟩ | (fail))))
    focus (intro xs; (try simp only [Act.put, List.setIfInBounds_toArray, List.set_cons_zero, List.set_cons_succ, Nat.reduceAdd]); rfl)
    refine lin_det (v := ?_) (F' := ?_) (by rfl) (fun _ => by rfl) ?_ ?_ ?_
    rotate_left 2
    focus (intro xs X hX hdep; clear hdep; (try dsimp only); go_simp; (try (first | with_reducible rfl | exact ⟨rfl, rfl⟩ | (fail))))
    focus (intro xs; (try simp only [Act.put, List.setIfInBounds_toArray, List.set_cons_zero, List.set_cons_succ, Nat.reduceAdd]); rfl)
    refine lin_det (v := ?_) (F' := ?_) (by rfl) (fun _ => by rfl) ?_ ?_ ?_
    rotate_left 2
    focus (intro xs X hX hdep; clear hdep; (try dsimp only); go_simp; (try (first | with_reducible rfl | exact ⟨rfl, rfl⟩ | (fail))))
    focus (intro xs; (try simp only [Act.put, List.setIfInBounds_toArray, List.set_cons_zero, List.set_cons_succ, Nat.reduceAdd]); rfl)
    refine lin_det (v := ?_) (F' := ?_) (by rfl) (fun _ => by rfl) ?_ ?_ ?_
    rotate_left 2
    focus (intro xs X hX hdep; clear hdep; (try dsimp only); go_simp; (try (first | with_reducible rfl | exact ⟨rfl, rfl⟩ | (fail))))
    focus (intro xs; (try simp only [Act.put, List.setIfInBounds_toArray, List.set_cons_zero, List.set_cons_succ, Nat.reduceAdd]); rfl)
    refine lin_det (v := ?_) (F' := ?_) (by rfl) (fun _ => by rfl) ?_ ?_ ?_
    rotate_left 2
    focus (intro xs X hX hdep; clear hdep; (try dsimp only); go_simp; (try (first | with_reducible rfl | exact ⟨rfl, rfl⟩ | (fail))))
    focus (intro xs; (try simp only [Act.put, List.setIfInBounds_toArray, List.set_cons_zero, List.set_cons_succ, Nat.reduceAdd]); rfl)
    intro xs W hW hf hfr hfb
    clear hf hfr hfb
    go_wp2_with fail
    go_meet
    case rel => exact ⟨rfl, Later.trans HLa.out hW⟩
  case rest =>
  obtain ⟨rfl, hLa⟩ := hcut
  obtain ⟨xA, rfl⟩ : ∃ W : World, W = wc := ⟨_, rfl⟩
  clear y0 y1 z0 z1 z2 z3 z4 z5 u0 u1 u2 u3 k0 k1 hzz hS0 Hl HLa
  go_wp2_with fail
  refine (two0_is 5 _).mono ?_
  rintro e x21 ⟨vt, rfl, hL, ht⟩
  replace hLa := Later.trans hLa hL
  clear hL
  go_wp2_with fail
  refine (prove_is ht (by simp) [0, 1] _ rfl _ rfl (by simp) _ nx_truth.1).mono ?_
  rintro e x22 ⟨rfl, hL⟩
  replace hLa := Later.trans hLa hL
  clear hL
  clear ht
  go_wp2_with fail
  refine (two0_is 5 _).mono ?_
  rintro e x23 ⟨vt, rfl, hL, ht⟩
  replace hLa := Later.trans hLa hL
  clear hL
  go_wp2_with fail
  refine (prove_is ht (by simp) [0, 0] _ rfl _ rfl (by simp) _ nx_truth.2.1).mono ?_
  rintro e x24 ⟨rfl, hL⟩
  replace hLa := Later.trans hLa hL
  clear hL
  clear ht
  go_wp2_with fail
  refine (two0_is 5 _).mono ?_
  rintro e x25 ⟨vt, rfl, hL, ht⟩
  replace hLa := Later.trans hLa hL
  clear hL
  go_wp2_with fail
  refine (prove_is ht (by simp) [0] _ rfl _ rfl (by simp) _ nx_truth.2.2.1).mono ?_
  rintro e x26 ⟨rfl, hL⟩
  replace hLa := Later.trans hLa hL
  clear hL
  clear ht
  go_wp2_with fail
  refine (late_calls _).mono ?_
  rintro e x27 ⟨rfl, hL⟩
  replace hLa := Later.trans hLa hL
  clear hL
  go_wp2_with fail
  refine (two1_is 5 _).mono ?_
  rintro e x28 ⟨vt, rfl, hL, ht⟩
  replace hLa := Later.trans hLa hL
  clear hL
  go_wp2_with fail
  refine (prove_is ht (by simp) [0, 1] _ rfl _ rfl (by simp) _ nx_truth.2.2.2).mono ?_
  rintro e x29 ⟨rfl, hL⟩
  replace hLa := Later.trans hLa hL
  clear hL
  clear ht
  go_wp2_with fail
  refine (late_calls _).mono ?_
  rintro e x30 ⟨rfl, hL⟩
  replace hLa := Later.trans hLa hL
  clear hL
  go_wp2_with fail
  refine (two1_five _).mono ?_
  rintro e x31 ⟨B1, j1, B2, j2, B3, j3, rfl, hL, hcb⟩
  replace hLa := Later.trans hLa hL
  clear hL
  obtain ⟨wB, hwB⟩ : ∃ X, X = x31.alloc (.cells #[.int .i64 60, .int .i64 5, .slice B1 2 j1, .slice B2 3 j2, .slice B3 5 j3] 36) := ⟨_, rfl⟩
  have hL : Later x31 wB := by rw [hwB]; exact later_alloc (later_refl _) _
  have kb : Blk wB x31.heap.size 36 #[.int .i64 60, .int .i64 5, .slice B1 2 j1, .slice B2 3 j2, .slice B3 5 j3] := by rw [hwB]; exact Blk.new _ _ _
  obtain ⟨gB, hgB⟩ : ∃ g, x31.heap.size = g := ⟨_, rfl⟩
  rw [hgB] at kb
  have HgB := hide hgB
  have HwB := hide hwB
  have HbB := hide kb
  clear hwB hgB kb
  replace hcb := hcb.later hL
  replace hLa := Later.trans hLa hL
  have hLB := later_refl wB
  clear hL
  go_upto_region 16 with fail
  rw [← HwB.out, HgB.out]
  clear HwB HgB
  have hkB := fun W (h : Later wB W) => HbB.out.cells_later W h
  have b0 := fun W (h : Later wB W) => hkB W h 0
  have b1 := fun W (h : Later wB W) => hkB W h 1
  have b2 := fun W (h : Later wB W) => hkB W h 2
  have b3 := fun W (h : Later wB W) => hkB W h 3
  have b4 := fun W (h : Later wB W) => hkB W h 4
  simp only [List.getElem?_toArray, List.getElem?_cons_zero, List.getElem?_cons_succ] at b0 b1 b2 b3 b4
  clear hkB HbB
  go_wp2_with fail
  refine (two0_is 5 _).mono ?_
  rintro e x32 ⟨vt, rfl, hL, ht⟩
  replace hcb := hcb.later hL
  replace hLa := Later.trans hLa hL
  replace hLB := Later.trans hLB hL
  clear hL
  go_wp2_with fail
  refine (play6_is ht _ rfl).mono ?_
  rintro e x33 ⟨vp, rfl, hL⟩
  replace hcb := hcb.later hL
  replace hLa := Later.trans hLa hL
  replace hLB := Later.trans hLB hL
  clear hL
  clear ht
  go_wp2_with fail
  refine (clashE (c := twoH 5 [lateC]) (k1 := j1) (k2 := j2) (k3 := j3) (a := 0) (b := 3) hcb ⟨by omega, by omega, by omega⟩ nx_badC.1).mono ?_
  rintro e x34 ⟨vo, rfl, hL⟩
  replace hcb := hcb.later hL
  replace hLa := Later.trans hLa hL
  replace hLB := Later.trans hLB hL
  clear hL
  go_wp2_with fail
  refine (clashE (c := twoH 5 [lateC]) (k1 := j1) (k2 := j2) (k3 := j3) (a := 1) (b := 1) hcb ⟨by omega, by omega, by omega⟩ nx_badC.2.1).mono ?_
  rintro e x35 ⟨vo, rfl, hL⟩
  replace hcb := hcb.later hL
  replace hLa := Later.trans hLa hL
  replace hLB := Later.trans hLB hL
  clear hL
  go_wp2_with fail
  refine (clashE (c := twoH 5 [lateC]) (k1 := j1) (k2 := j2) (k3 := j3) (a := 0) (b := 1) hcb ⟨by omega, by omega, by omega⟩ nx_badC.2.2).mono ?_
  rintro e x36 ⟨vo, rfl, hL⟩
  replace hcb := hcb.later hL
  replace hLa := Later.trans hLa hL
  replace hLB := Later.trans hLB hL
  clear hL
  go_wp2_with fail
  refine (freeE (c := twoH 5 [lateC]) (k1 := j1) (k2 := j2) (k3 := j3) (t := 9) hcb ⟨by omega, by omega, by omega⟩ nx_badF.1).mono ?_
  rintro e x37 ⟨vo, rfl, hL⟩
  replace hcb := hcb.later hL
  replace hLa := Later.trans hLa hL
  replace hLB := Later.trans hLB hL
  clear hL
  go_wp2_with fail
  refine (freeE (c := twoH 5 [lateC]) (k1 := j1) (k2 := j2) (k3 := j3) (t := 1) hcb ⟨by omega, by omega, by omega⟩ nx_badF.2.1).mono ?_
  rintro e x38 ⟨vo, rfl, hL⟩
  replace hcb := hcb.later hL
  replace hLa := Later.trans hLa hL
  replace hLB := Later.trans hLB hL
  clear hL
  go_wp2_with fail
  refine (freeE (c := twoH 5 [lateC]) (k1 := j1) (k2 := j2) (k3 := j3) (t := 0) hcb ⟨by omega, by omega, by omega⟩ nx_badF.2.2).mono ?_
  rintro e x39 ⟨vo, rfl, hL⟩
  replace hcb := hcb.later hL
  replace hLa := Later.trans hLa hL
  replace hLB := Later.trans hLB hL
  clear hL
  go_wp2_with fail
  refine (hoursE (c := twoH 5 [lateC]) (k1 := j1) (k2 := j2) (k3 := j3) hcb ⟨by omega, by omega, by omega⟩ nx_bad0.1).mono ?_
  rintro e x40 ⟨vo, rfl, hL⟩
  replace hcb := hcb.later hL
  replace hLa := Later.trans hLa hL
  replace hLB := Later.trans hLB hL
  clear hL
  go_wp2_with fail
  refine (lookE (c := twoH 5 [lateC]) (k1 := j1) (k2 := j2) (k3 := j3) hcb ⟨by omega, by omega, by omega⟩ nx_bad0.2).mono ?_
  rintro e x41 ⟨vo, vo2, rfl, hL⟩
  replace hcb := hcb.later hL
  replace hLa := Later.trans hLa hL
  replace hLB := Later.trans hLB hL
  clear hL
  go_wp2_with fail
  refine (lookE (c := bareH 60) (bare_cv 60 _) ⟨by omega, by omega, by omega⟩ nx_bare.1).mono ?_
  rintro e x42 ⟨vo, vo2, rfl, hL⟩
  replace hcb := hcb.later hL
  replace hLa := Later.trans hLa hL
  replace hLB := Later.trans hLB hL
  clear hL
  go_wp2_with fail
  refine (two0_is 5 _).mono ?_
  rintro e x43 ⟨vt, rfl, hL, ht⟩
  replace hcb := hcb.later hL
  replace hLa := Later.trans hLa hL
  replace hLB := Later.trans hLB hL
  clear hL
  go_wp2_with fail
  refine (first5_is ht).mono ?_
  rintro e x44 ⟨rfl, hL⟩
  replace hcb := hcb.later hL
  replace hLa := Later.trans hLa hL
  replace hLB := Later.trans hLB hL
  clear hL
  clear ht
  clear hcb b0 b1 b2 b3 b4 hLB
  go_upto_region 27 with fail
  refine lawNamesB w _ _ ?_ hLa
  assumption
end Go.Proofs.Ytbkfnajpbhfneaa
