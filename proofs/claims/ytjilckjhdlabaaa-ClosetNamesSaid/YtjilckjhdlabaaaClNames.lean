/- ClosetNames: the walk (printed by gen_names.py). -/
import Derived.Test.YtjilckjhdlabaaaPart26
set_option linter.unusedSimpArgs false
set_option linter.unusedVariables false
namespace Go.Proofs.Ytjilckjhdlabaaa
open Go Go.RowKit
attribute [local go_sem] later_alloc2 later_alloc3 later_alloc4

theorem beside_from {wx W : World} (hL : Later wx W) : Calls Try.prog 80 #[] W fun e w' => ∃ v, e = .returned v ∧ Later wx w' ∧ IsList [0, 1] w' v :=
  (beside_is W).mono fun _ _ ⟨v, e, h1, h2⟩ => ⟨v, e, Later.trans hL h1, h2⟩
theorem oneC_cv (W : World) : CV W oneC none oneC.horses.length none oneC.hung.length none oneC.looks.length := ⟨⟨rfl, fun h => absurd h (by decide)⟩, ⟨rfl, fun h => absurd h (by decide)⟩, ⟨rfl, fun h => absurd h (by decide)⟩⟩
theorem build_one (W : World) : (Instr.build 35 #[(0, .int .i64 1)]).run Try.prog W = .ok (.agg #[.int .i64 1, .int .i64 0, .slice none 0 0, .slice none 0 0, .slice none 0 0]) W :=
  run_build W _ _ _ (by kernel_rfl)
attribute [local go_sem] build_one
theorem rg2 {w : World} {A : Option Addr} {x y : Int × Int} (h : RG w A [x, y].length [x, y]) : ∃ b o, A = some ⟨b, o, none⟩ ∧
    ∀ X, Later w X → X.cell? ⟨b, o, none⟩ = some (.int .i64 x.1) ∧ X.cell? ⟨b, o + 1, none⟩ = some (.int .i64 x.2) ∧ X.cell? ⟨b, o + 2, none⟩ = some (.int .i64 y.1) ∧ X.cell? ⟨b, o + 3, none⟩ = some (.int .i64 y.2) := by
  obtain ⟨b, o, e, hb, hc⟩ := Reads.lit h (by omega) (by simp)
  refine ⟨b, o, e, fun X hX => ?_⟩
  have hk := fun j u hj => (Below.cell hX (p := ⟨b, o + j, none⟩) hb).trans (hc j u hj)
  exact ⟨hk 0 _ rfl, hk 1 _ rfl, hk 2 _ rfl, hk 3 _ rfl⟩
set_option maxRecDepth 100000 in
set_option maxHeartbeats 100000000 in
theorem lawNamesB (w x0 : World) {u1 u3 u5 u7 u9 u11 u13 u14 u15 u17 u19 u20 u22 u24 u25 u26 u27 u28 u29 u30 u31 u32 u33 u34 u35 u36 u37 u38 u39 u40 u41 u42 u43 u44 u45 u46 u47 u48 u49 u50 u51 u52 u53 u54 u55 u56 u57 u58 u59 u60 u61 u62 u63 u64 u65 u66 u67 u68 u69 u70 u71 u72 u73 u74 u75 u76 u77 u78 u79 u80 u81 u82 u83 u84 u85 u86 u87 u88 u89 u90 u91 u92 u93 u94 u95 u96 u97 u98 u99 u100 u101 u102 u103 u104 u105 u106 u107 u108 u109 u110 u111 u112 u113 u114 u115 u116 u117 u118 u119 u120 u121 u122 u123 u124 u125 u126 u127 u128 u129 u130 u131 u132 u133 u134 u135 u136 u137 u138 u139 u140 u141 u142 u143 u144 u145 u146 u147 u148 u149 u150 u151 u152 u153 u154 u155 u156 u157 u158 u159 u160 u161 u162 u163 u164 u165 u166 u167 u168 u169 u170 u171 u172 u173 u174 u175 u176 u177 u178 u179 u180 u181 u182 u183 u184 u185 u186 u187 u188 u189 u190 u191 u192 u193 u194 u195 u196 u197 u198 u199 u200 u201 u202 u203 u204 u205 u206 u207 u208 u209 u210 u211 u212 u213 u214 u215 u216 u217 u218 u219 u220 u221 u222 u223 u224 u225 u226 u227 u228 u229 u230 u231 u232 u233 u234 u235 u236 u237 u238 u239 u240 u241 u242 u243 u244 u245 u246 u247 u248 u249 u250 u251 u252 u253 u254 u255 u256 u257 u258 u259 u260 u261 u262 u263 u264 u265 u266 u267 u268 u269 u270 u271 u272 u273 u274 u275 u276 u277 u278 u279 u280 u281 u282 u283 u284 u285 u286 u287 u288 u289 u290 u291 u292 u293 u294 u295 u296 u297 u298 u299 u300 u301 u302 u303 u304 u305 u306 u307 u308 u309 u310 u311 u312 u313 u314 u315 u316 u317 u318 u319 u320 u321 u322 u323 u324 u325 u326 u327 u328 u329 u330 u331 u332 u333 u334 u335 u336 u337 u338 u339 u340 u341 u342 u343 u344 u345 u346 u347 u348 u349 u350 u351 u352 u353 u354 u355 u356 u357 u358 u359 u360 u361 u362 u363 u364 u365 u366 u367 u368 u369 u370 u371 u372 u373 u374 u375 u376 u377 u378 u379 u380 u381 u382 u383 u384 u385 u386 u387 u388 u389 u390 u391 u392 u393 u394 u395 u396 u397 u398 u399 u400 u401 u402 u403 u404 u405 u406 u407 u408 u409 u410 u411 u412 u413 u414 u415 u416 u417 u418 u419 u420 u421 u422 u423 u424 u425 u426 u427 u428 u429 u430 u431 u432 u433 u434 u435 u436 u437 : Value} (K : Act → World → Prop) (hK : ∀ a W, Code.wp Try.prog (restC 27 Try.f22) (bodyPost Try.prog Try.f22 fun e w' => e = .returned (.bool true) ∧ Later w w') a W → K a W) (hLa : Later w x0) :
    Code.wp Try.prog (headC 27 Try.f22) (Exit.then K (bodyPost Try.prog Try.f22 fun e w' => e = .returned (.bool true) ∧ Later w w')) ⟨#[.bool false, u1, .int .i64 2, u3, .int .i64 2, u5, .int .i64 2, u7, .int .i64 2, u9, .int .i64 10, u11, .int .i64 11, u13, u14, u15, .int .i64 2, u17, .int .i64 7, u19, u20, .int .i64 11, u22, .int .i64 7, u24, u25, u26, u27, u28, u29, u30, u31, u32, u33, u34, u35, u36, u37, u38, u39, u40, u41, u42, u43, u44, u45, u46, u47, u48, u49, u50, u51, u52, u53, u54, u55, u56, u57, u58, u59, u60, u61, u62, u63, u64, u65, u66, u67, u68, u69, u70, u71, u72, u73, u74, u75, u76, u77, u78, u79, u80, u81, u82, u83, u84, u85, u86, u87, u88, u89, u90, u91, u92, u93, u94, u95, u96, u97, u98, u99, u100, u101, u102, u103, u104, u105, u106, u107, u108, u109, u110, u111, u112, u113, u114, u115, u116, u117, u118, u119, u120, u121, u122, u123, u124, u125, u126, u127, u128, u129, u130, u131, u132, u133, u134, u135, u136, u137, u138, u139, u140, u141, u142, u143, u144, u145, u146, u147, u148, u149, u150, u151, u152, u153, u154, u155, u156, u157, u158, u159, u160, u161, u162, u163, u164, u165, u166, u167, u168, u169, u170, u171, u172, u173, u174, u175, u176, u177, u178, u179, u180, u181, u182, u183, u184, u185, u186, u187, u188, u189, u190, u191, u192, u193, u194, u195, u196, u197, u198, u199, u200, u201, u202, u203, u204, u205, u206, u207, u208, u209, u210, u211, u212, u213, u214, u215, u216, u217, u218, u219, u220, u221, u222, u223, u224, u225, u226, u227, u228, u229, u230, u231, u232, u233, u234, u235, u236, u237, u238, u239, u240, u241, u242, u243, u244, u245, u246, u247, u248, u249, u250, u251, u252, u253, u254, u255, u256, u257, u258, u259, u260, u261, u262, u263, u264, u265, u266, u267, u268, u269, u270, u271, u272, u273, u274, u275, u276, u277, u278, u279, u280, u281, u282, u283, u284, u285, u286, u287, u288, u289, u290, u291, u292, u293, u294, u295, u296, u297, u298, u299, u300, u301, u302, u303, u304, u305, u306, u307, u308, u309, u310, u311, u312, u313, u314, u315, u316, u317, u318, u319, u320, u321, u322, u323, u324, u325, u326, u327, u328, u329, u330, u331, u332, u333, u334, u335, u336, u337, u338, u339, u340, u341, u342, u343, u344, u345, u346, u347, u348, u349, u350, u351, u352, u353, u354, u355, u356, u357, u358, u359, u360, u361, u362, u363, u364, u365, u366, u367, u368, u369, u370, u371, u372, u373, u374, u375, u376, u377, u378, u379, u380, u381, u382, u383, u384, u385, u386, u387, u388, u389, u390, u391, u392, u393, u394, u395, u396, u397, u398, u399, u400, u401, u402, u403, u404, u405, u406, u407, u408, u409, u410, u411, u412, u413, u414, u415, u416, u417, u418, u419, u420, u421, u422, u423, u424, u425, u426, u427, u428, u429, u430, u431, u432, u433, u434, u435, u436, u437], []⟩ x0 := by
  have hK2 : ∀ a W, Code.wp Try.prog (Code.seq _ _) (bodyPost Try.prog Try.f22 fun e w' => e = .returned (.bool true) ∧ Later w w') a W → K a W := hK
  clear hK
  show Code.wp Try.prog (Code.region _ _ _) _ _ _
  have RH := Rows.nil x0 119
  have RA := Rows.nil x0 3
  have RL := Rows.nil x0 120
  go_wp2_with fail
  refine (two_new 0 4 _ (by omega)).mono ?_
  rintro e x1 ⟨h0, a0, l0, rfl, hL, lh0, la0, ll0, kh0, ka0, kl0⟩
  replace RH := RH.grow hL kh0 lh0
  replace RA := RA.grow hL ka0 la0
  replace RL := RL.grow hL kl0 ll0
  replace hLa := Later.trans hLa hL
  clear hL lh0 la0 ll0 kh0 ka0 kl0
  go_wp2_with fail
  refine (two_new 0 4 _ (by omega)).mono ?_
  rintro e x2 ⟨h1, a1, l1, rfl, hL, lh1, la1, ll1, kh1, ka1, kl1⟩
  replace RH := RH.grow hL kh1 lh1
  replace RA := RA.grow hL ka1 la1
  replace RL := RL.grow hL kl1 ll1
  replace hLa := Later.trans hLa hL
  clear hL lh1 la1 ll1 kh1 ka1 kl1
  go_wp2_with fail
  refine (two_new 0 4 _ (by omega)).mono ?_
  rintro e x3 ⟨h2, a2, l2, rfl, hL, lh2, la2, ll2, kh2, ka2, kl2⟩
  have loh2 := Nat.le_trans hLa.size lh2
  replace RH := RH.grow hL kh2 lh2
  replace RA := RA.grow hL ka2 la2
  replace RL := RL.grow hL kl2 ll2
  replace hLa := Later.trans hLa hL
  clear hL lh2 la2 ll2 kh2 ka2 kl2
  go_wp2_with fail
  refine (two_new 0 4 _ (by omega)).mono ?_
  rintro e x4 ⟨h3, a3, l3, rfl, hL, lh3, la3, ll3, kh3, ka3, kl3⟩
  have loh3 := Nat.le_trans hLa.size lh3
  replace RH := RH.grow hL kh3 lh3
  replace RA := RA.grow hL ka3 la3
  replace RL := RL.grow hL kl3 ll3
  replace hLa := Later.trans hLa hL
  clear hL lh3 la3 ll3 kh3 ka3 kl3
  go_wp2_with fail
  refine (two_new 0 31 _ (by omega)).mono ?_
  rintro e x5 ⟨h4, a4, l4, rfl, hL, lh4, la4, ll4, kh4, ka4, kl4⟩
  replace RH := RH.grow hL kh4 lh4
  replace RA := RA.grow hL ka4 la4
  replace RL := RL.grow hL kl4 ll4
  replace hLa := Later.trans hLa hL
  clear hL lh4 la4 ll4 kh4 ka4 kl4
  go_wp2_with fail
  refine (two_new 0 4 _ (by omega)).mono ?_
  rintro e x6 ⟨h5, a5, l5, rfl, hL, lh5, la5, ll5, kh5, ka5, kl5⟩
  replace RH := RH.grow hL kh5 lh5
  replace RA := RA.grow hL ka5 la5
  replace RL := RL.grow hL kl5 ll5
  replace hLa := Later.trans hLa hL
  clear hL lh5 la5 ll5 kh5 ka5 kl5
  go_wp2_with fail
  refine (two_new 1 4 _ (by omega)).mono ?_
  rintro e x7 ⟨h6, a6, l6, rfl, hL, lh6, la6, ll6, kh6, ka6, kl6⟩
  replace RH := RH.grow hL kh6 lh6
  replace RA := RA.grow hL ka6 la6
  have lol6 := Nat.le_trans hLa.size ll6
  replace RL := RL.grow hL kl6 ll6
  replace hLa := Later.trans hLa hL
  clear hL lh6 la6 ll6 kh6 ka6 kl6
  go_wp2_with fail
  refine (two_new 0 4 _ (by omega)).mono ?_
  rintro e x8 ⟨h7, a7, l7, rfl, hL, lh7, la7, ll7, kh7, ka7, kl7⟩
  replace RH := RH.grow hL kh7 lh7
  replace RA := RA.grow hL ka7 la7
  replace RL := RL.grow hL kl7 ll7
  replace hLa := Later.trans hLa hL
  clear hL lh7 la7 ll7 kh7 ka7 kl7
  go_wp2_with fail
  refine (two_new 0 4 _ (by omega)).mono ?_
  rintro e x9 ⟨h8, a8, l8, rfl, hL, lh8, la8, ll8, kh8, ka8, kl8⟩
  have loh8 := Nat.le_trans hLa.size lh8
  replace RH := RH.grow hL kh8 lh8
  replace RA := RA.grow hL ka8 la8
  replace RL := RL.grow hL kl8 ll8
  replace hLa := Later.trans hLa hL
  clear hL lh8 la8 ll8 kh8 ka8 kl8
  go_upto_region 28 with fail
  obtain ⟨sE, hsE⟩ : ∃ s, x9.heap.size = s := ⟨_, rfl⟩
  rw [hsE]
  have HsE := hide hsE
  clear hsE
  obtain ⟨y0, hy0⟩ : ∃ X, x9.alloc (.cells #[Value.int .i64 3, Value.int .i64 60, Value.slice (some ⟨h0, 0, none⟩) 2 2, Value.slice (some ⟨a0, 0, none⟩) 2 2, Value.slice (some ⟨l0, 0, none⟩) 0 3] 35) = X := ⟨_, rfl⟩
  obtain ⟨y1, hy1⟩ : ∃ X, y0.alloc (.cells #[Value.int .i64 3, Value.int .i64 60, Value.slice (some ⟨h1, 0, none⟩) 2 2, Value.slice (some ⟨a1, 0, none⟩) 2 2, Value.slice (some ⟨l1, 0, none⟩) 0 3] 35) = X := ⟨_, rfl⟩
  obtain ⟨y2, hy2⟩ : ∃ X, y1.alloc (.cells #[Value.int .i64 3, Value.int .i64 60, Value.slice (some ⟨h2, 0, none⟩) 2 2, Value.slice (some ⟨a2, 0, none⟩) 2 2, Value.slice (some ⟨l2, 0, none⟩) 0 3] 35) = X := ⟨_, rfl⟩
  obtain ⟨y3, hy3⟩ : ∃ X, y2.alloc (.cells #[Value.int .i64 3, Value.int .i64 60, Value.slice (some ⟨h3, 0, none⟩) 2 2, Value.slice (some ⟨a3, 0, none⟩) 2 2, Value.slice (some ⟨l3, 0, none⟩) 0 3] 35) = X := ⟨_, rfl⟩
  obtain ⟨y4, hy4⟩ : ∃ X, y3.alloc (.cells #[Value.int .i64 3, Value.int .i64 60, Value.slice (some ⟨h4, 0, none⟩) 2 2, Value.slice (some ⟨a4, 0, none⟩) 2 2, Value.slice (some ⟨l4, 0, none⟩) 0 3] 35) = X := ⟨_, rfl⟩
  obtain ⟨y5, hy5⟩ : ∃ X, y4.alloc (.cells #[Value.int .i64 3, Value.int .i64 60, Value.slice (some ⟨h5, 0, none⟩) 2 2, Value.slice (some ⟨a5, 0, none⟩) 2 2, Value.slice (some ⟨l5, 0, none⟩) 0 3] 35) = X := ⟨_, rfl⟩
  obtain ⟨y6, hy6⟩ : ∃ X, y5.alloc (.cells #[Value.int .i64 3, Value.int .i64 60, Value.slice (some ⟨h6, 0, none⟩) 2 2, Value.slice (some ⟨a6, 0, none⟩) 2 2, Value.slice (some ⟨l6, 0, none⟩) 1 3] 35) = X := ⟨_, rfl⟩
  obtain ⟨y7, hy7⟩ : ∃ X, y6.alloc (.cells #[Value.int .i64 3, Value.int .i64 60, Value.slice (some ⟨h7, 0, none⟩) 2 2, Value.slice (some ⟨a7, 0, none⟩) 2 2, Value.slice (some ⟨l7, 0, none⟩) 0 3] 35) = X := ⟨_, rfl⟩
  obtain ⟨y8, hy8⟩ : ∃ X, y7.alloc (.cells #[Value.int .i64 3, Value.int .i64 60, Value.slice (some ⟨h8, 0, none⟩) 2 2, Value.slice (some ⟨a8, 0, none⟩) 2 2, Value.slice (some ⟨l8, 0, none⟩) 0 3] 35) = X := ⟨_, rfl⟩
  rw [hy0, hy1, hy2, hy3, hy4, hy5, hy6, hy7, hy8]
  have RB := Rows.nil x9 35
  have loE := hLa.size
  rw [HsE.out] at loE
  have hz0 : x9.heap.size = sE := by exact HsE.out
  have kb : Blk y0 (sE) 35 #[Value.int .i64 3, Value.int .i64 60, Value.slice (some ⟨h0, 0, none⟩) 2 2, Value.slice (some ⟨a0, 0, none⟩) 2 2, Value.slice (some ⟨l0, 0, none⟩) 0 3] := by rw [← hz0, ← hy0]; exact Blk.new _ _ _
  have hL : Later x9 y0 := by rw [← hy0]; exact later_alloc (later_refl _) _
  replace RB := RB.grow hL kb (Nat.le_of_eq hz0)
  replace RH := RH.later hL
  replace RA := RA.later hL
  replace RL := RL.later hL
  replace hLa := Later.trans hLa hL
  clear hL kb
  have hz1 : y0.heap.size = sE + 1 := by rw [← hy0, World.size_alloc, hz0]
  have kb : Blk y1 (sE + 1) 35 #[Value.int .i64 3, Value.int .i64 60, Value.slice (some ⟨h1, 0, none⟩) 2 2, Value.slice (some ⟨a1, 0, none⟩) 2 2, Value.slice (some ⟨l1, 0, none⟩) 0 3] := by rw [← hz1, ← hy1]; exact Blk.new _ _ _
  have hL : Later y0 y1 := by rw [← hy1]; exact later_alloc (later_refl _) _
  replace RB := RB.grow hL kb (Nat.le_of_eq hz1)
  replace RH := RH.later hL
  replace RA := RA.later hL
  replace RL := RL.later hL
  replace hLa := Later.trans hLa hL
  clear hL kb
  have hz2 : y1.heap.size = sE + 1 + 1 := by rw [← hy1, World.size_alloc, hz1]
  have kb : Blk y2 (sE + 1 + 1) 35 #[Value.int .i64 3, Value.int .i64 60, Value.slice (some ⟨h2, 0, none⟩) 2 2, Value.slice (some ⟨a2, 0, none⟩) 2 2, Value.slice (some ⟨l2, 0, none⟩) 0 3] := by rw [← hz2, ← hy2]; exact Blk.new _ _ _
  have hL : Later y1 y2 := by rw [← hy2]; exact later_alloc (later_refl _) _
  replace RB := RB.grow hL kb (Nat.le_of_eq hz2)
  replace RH := RH.later hL
  replace RA := RA.later hL
  replace RL := RL.later hL
  replace hLa := Later.trans hLa hL
  clear hL kb
  have hz3 : y2.heap.size = sE + 1 + 1 + 1 := by rw [← hy2, World.size_alloc, hz2]
  have kb : Blk y3 (sE + 1 + 1 + 1) 35 #[Value.int .i64 3, Value.int .i64 60, Value.slice (some ⟨h3, 0, none⟩) 2 2, Value.slice (some ⟨a3, 0, none⟩) 2 2, Value.slice (some ⟨l3, 0, none⟩) 0 3] := by rw [← hz3, ← hy3]; exact Blk.new _ _ _
  have hL : Later y2 y3 := by rw [← hy3]; exact later_alloc (later_refl _) _
  replace RB := RB.grow hL kb (Nat.le_of_eq hz3)
  replace RH := RH.later hL
  replace RA := RA.later hL
  replace RL := RL.later hL
  replace hLa := Later.trans hLa hL
  clear hL kb
  have hz4 : y3.heap.size = sE + 1 + 1 + 1 + 1 := by rw [← hy3, World.size_alloc, hz3]
  have kb : Blk y4 (sE + 1 + 1 + 1 + 1) 35 #[Value.int .i64 3, Value.int .i64 60, Value.slice (some ⟨h4, 0, none⟩) 2 2, Value.slice (some ⟨a4, 0, none⟩) 2 2, Value.slice (some ⟨l4, 0, none⟩) 0 3] := by rw [← hz4, ← hy4]; exact Blk.new _ _ _
  have hL : Later y3 y4 := by rw [← hy4]; exact later_alloc (later_refl _) _
  replace RB := RB.grow hL kb (Nat.le_of_eq hz4)
  replace RH := RH.later hL
  replace RA := RA.later hL
  replace RL := RL.later hL
  replace hLa := Later.trans hLa hL
  clear hL kb
  have hz5 : y4.heap.size = sE + 1 + 1 + 1 + 1 + 1 := by rw [← hy4, World.size_alloc, hz4]
  have kb : Blk y5 (sE + 1 + 1 + 1 + 1 + 1) 35 #[Value.int .i64 3, Value.int .i64 60, Value.slice (some ⟨h5, 0, none⟩) 2 2, Value.slice (some ⟨a5, 0, none⟩) 2 2, Value.slice (some ⟨l5, 0, none⟩) 0 3] := by rw [← hz5, ← hy5]; exact Blk.new _ _ _
  have hL : Later y4 y5 := by rw [← hy5]; exact later_alloc (later_refl _) _
  replace RB := RB.grow hL kb (Nat.le_of_eq hz5)
  replace RH := RH.later hL
  replace RA := RA.later hL
  replace RL := RL.later hL
  replace hLa := Later.trans hLa hL
  clear hL kb
  have hz6 : y5.heap.size = sE + 1 + 1 + 1 + 1 + 1 + 1 := by rw [← hy5, World.size_alloc, hz5]
  have kb : Blk y6 (sE + 1 + 1 + 1 + 1 + 1 + 1) 35 #[Value.int .i64 3, Value.int .i64 60, Value.slice (some ⟨h6, 0, none⟩) 2 2, Value.slice (some ⟨a6, 0, none⟩) 2 2, Value.slice (some ⟨l6, 0, none⟩) 1 3] := by rw [← hz6, ← hy6]; exact Blk.new _ _ _
  have hL : Later y5 y6 := by rw [← hy6]; exact later_alloc (later_refl _) _
  replace RB := RB.grow hL kb (Nat.le_of_eq hz6)
  replace RH := RH.later hL
  replace RA := RA.later hL
  replace RL := RL.later hL
  replace hLa := Later.trans hLa hL
  clear hL kb
  have hz7 : y6.heap.size = sE + 1 + 1 + 1 + 1 + 1 + 1 + 1 := by rw [← hy6, World.size_alloc, hz6]
  have kb : Blk y7 (sE + 1 + 1 + 1 + 1 + 1 + 1 + 1) 35 #[Value.int .i64 3, Value.int .i64 60, Value.slice (some ⟨h7, 0, none⟩) 2 2, Value.slice (some ⟨a7, 0, none⟩) 2 2, Value.slice (some ⟨l7, 0, none⟩) 0 3] := by rw [← hz7, ← hy7]; exact Blk.new _ _ _
  have hL : Later y6 y7 := by rw [← hy7]; exact later_alloc (later_refl _) _
  replace RB := RB.grow hL kb (Nat.le_of_eq hz7)
  replace RH := RH.later hL
  replace RA := RA.later hL
  replace RL := RL.later hL
  replace hLa := Later.trans hLa hL
  clear hL kb
  have hz8 : y7.heap.size = sE + 1 + 1 + 1 + 1 + 1 + 1 + 1 + 1 := by rw [← hy7, World.size_alloc, hz7]
  have kb : Blk y8 (sE + 1 + 1 + 1 + 1 + 1 + 1 + 1 + 1) 35 #[Value.int .i64 3, Value.int .i64 60, Value.slice (some ⟨h8, 0, none⟩) 2 2, Value.slice (some ⟨a8, 0, none⟩) 2 2, Value.slice (some ⟨l8, 0, none⟩) 0 3] := by rw [← hz8, ← hy8]; exact Blk.new _ _ _
  have hL : Later y7 y8 := by rw [← hy8]; exact later_alloc (later_refl _) _
  replace RB := RB.grow hL kb (Nat.le_of_eq hz8)
  replace RH := RH.later hL
  replace RA := RA.later hL
  replace RL := RL.later hL
  replace hLa := Later.trans hLa hL
  clear hL kb
  clear hy0 hz0 hy1 hz1 hy2 hz2 hy3 hz3 hy4 hz4 hy5 hz5 hy6 hz6 hy7 hz7 hy8 hz8
  replace RH : Rows y8 119 [(h0, #[.int .i64 20, .int .i64 22, .int .i64 3, .int .i64 5, .int .i64 30, .int .i64 33, .int .i64 4, .int .i64 4]), (h1, #[.int .i64 20, .int .i64 22, .int .i64 3, .int .i64 5, .int .i64 30, .int .i64 33, .int .i64 4, .int .i64 4]), (h2, #[.int .i64 20, .int .i64 22, .int .i64 3, .int .i64 5, .int .i64 30, .int .i64 33, .int .i64 4, .int .i64 4]), (h3, #[.int .i64 20, .int .i64 22, .int .i64 3, .int .i64 5, .int .i64 30, .int .i64 33, .int .i64 4, .int .i64 4]), (h4, #[.int .i64 20, .int .i64 22, .int .i64 3, .int .i64 5, .int .i64 30, .int .i64 33, .int .i64 4, .int .i64 31]), (h5, #[.int .i64 20, .int .i64 22, .int .i64 3, .int .i64 5, .int .i64 30, .int .i64 33, .int .i64 4, .int .i64 4]), (h6, #[.int .i64 20, .int .i64 22, .int .i64 3, .int .i64 5, .int .i64 30, .int .i64 33, .int .i64 4, .int .i64 4]), (h7, #[.int .i64 20, .int .i64 22, .int .i64 3, .int .i64 5, .int .i64 30, .int .i64 33, .int .i64 4, .int .i64 4]), (h8, #[.int .i64 20, .int .i64 22, .int .i64 3, .int .i64 5, .int .i64 30, .int .i64 33, .int .i64 4, .int .i64 4])] := RH
  replace RA : Rows y8 3 [(a0, #[.int .i64 0, .int .i64 1]), (a1, #[.int .i64 0, .int .i64 1]), (a2, #[.int .i64 0, .int .i64 1]), (a3, #[.int .i64 0, .int .i64 1]), (a4, #[.int .i64 0, .int .i64 1]), (a5, #[.int .i64 0, .int .i64 1]), (a6, #[.int .i64 0, .int .i64 1]), (a7, #[.int .i64 0, .int .i64 1]), (a8, #[.int .i64 0, .int .i64 1])] := RA
  replace RL : Rows y8 120 [(l0, (looksV twoLooks).toArray), (l1, (looksV twoLooks).toArray), (l2, (looksV twoLooks).toArray), (l3, (looksV twoLooks).toArray), (l4, (looksV twoLooks).toArray), (l5, (looksV twoLooks).toArray), (l6, (looksV twoLooks).toArray), (l7, (looksV twoLooks).toArray), (l8, (looksV twoLooks).toArray)] := RL
  replace RB : Rows y8 35 [(sE, #[Value.int .i64 3, Value.int .i64 60, Value.slice (some ⟨h0, 0, none⟩) 2 2, Value.slice (some ⟨a0, 0, none⟩) 2 2, Value.slice (some ⟨l0, 0, none⟩) 0 3]), (sE + 1, #[Value.int .i64 3, Value.int .i64 60, Value.slice (some ⟨h1, 0, none⟩) 2 2, Value.slice (some ⟨a1, 0, none⟩) 2 2, Value.slice (some ⟨l1, 0, none⟩) 0 3]), (sE + 1 + 1, #[Value.int .i64 3, Value.int .i64 60, Value.slice (some ⟨h2, 0, none⟩) 2 2, Value.slice (some ⟨a2, 0, none⟩) 2 2, Value.slice (some ⟨l2, 0, none⟩) 0 3]), (sE + 1 + 1 + 1, #[Value.int .i64 3, Value.int .i64 60, Value.slice (some ⟨h3, 0, none⟩) 2 2, Value.slice (some ⟨a3, 0, none⟩) 2 2, Value.slice (some ⟨l3, 0, none⟩) 0 3]), (sE + 1 + 1 + 1 + 1, #[Value.int .i64 3, Value.int .i64 60, Value.slice (some ⟨h4, 0, none⟩) 2 2, Value.slice (some ⟨a4, 0, none⟩) 2 2, Value.slice (some ⟨l4, 0, none⟩) 0 3]), (sE + 1 + 1 + 1 + 1 + 1, #[Value.int .i64 3, Value.int .i64 60, Value.slice (some ⟨h5, 0, none⟩) 2 2, Value.slice (some ⟨a5, 0, none⟩) 2 2, Value.slice (some ⟨l5, 0, none⟩) 0 3]), (sE + 1 + 1 + 1 + 1 + 1 + 1, #[Value.int .i64 3, Value.int .i64 60, Value.slice (some ⟨h6, 0, none⟩) 2 2, Value.slice (some ⟨a6, 0, none⟩) 2 2, Value.slice (some ⟨l6, 0, none⟩) 1 3]), (sE + 1 + 1 + 1 + 1 + 1 + 1 + 1, #[Value.int .i64 3, Value.int .i64 60, Value.slice (some ⟨h7, 0, none⟩) 2 2, Value.slice (some ⟨a7, 0, none⟩) 2 2, Value.slice (some ⟨l7, 0, none⟩) 0 3]), (sE + 1 + 1 + 1 + 1 + 1 + 1 + 1 + 1, #[Value.int .i64 3, Value.int .i64 60, Value.slice (some ⟨h8, 0, none⟩) 2 2, Value.slice (some ⟨a8, 0, none⟩) 2 2, Value.slice (some ⟨l8, 0, none⟩) 0 3])] := RB
  have cb : y8.cell? ⟨sE, 0, none⟩ = some _ := ((RB.get 0 rfl).cell 0).trans rfl
  have cf := (RB.get 0 rfl).frozen 0
  go_upto_region 29 with fail
  clear cb cf
  obtain ⟨z1, hz⟩ : ∃ X : World, X = (y8).setCell ⟨sE, 0, none⟩ (Value.int .i64 5) := ⟨_, rfl⟩
  rw [← hz]
  have kt := RB.get 0 rfl
  replace RH := RH.other kt (by decide) 0 (Value.int .i64 5)
  replace RA := RA.other kt (by decide) 0 (Value.int .i64 5)
  replace RL := RL.other kt (by decide) 0 (Value.int .i64 5)
  replace RB := (show Rows _ _ [(sE, (#[Value.int .i64 3, Value.int .i64 60, Value.slice (some ⟨h0, 0, none⟩) 2 2, Value.slice (some ⟨a0, 0, none⟩) 2 2, Value.slice (some ⟨l0, 0, none⟩) 0 3]).setIfInBounds 0 (Value.int .i64 5)), (sE + 1, #[Value.int .i64 3, Value.int .i64 60, Value.slice (some ⟨h1, 0, none⟩) 2 2, Value.slice (some ⟨a1, 0, none⟩) 2 2, Value.slice (some ⟨l1, 0, none⟩) 0 3]), (sE + 1 + 1, #[Value.int .i64 3, Value.int .i64 60, Value.slice (some ⟨h2, 0, none⟩) 2 2, Value.slice (some ⟨a2, 0, none⟩) 2 2, Value.slice (some ⟨l2, 0, none⟩) 0 3]), (sE + 1 + 1 + 1, #[Value.int .i64 3, Value.int .i64 60, Value.slice (some ⟨h3, 0, none⟩) 2 2, Value.slice (some ⟨a3, 0, none⟩) 2 2, Value.slice (some ⟨l3, 0, none⟩) 0 3]), (sE + 1 + 1 + 1 + 1, #[Value.int .i64 3, Value.int .i64 60, Value.slice (some ⟨h4, 0, none⟩) 2 2, Value.slice (some ⟨a4, 0, none⟩) 2 2, Value.slice (some ⟨l4, 0, none⟩) 0 3]), (sE + 1 + 1 + 1 + 1 + 1, #[Value.int .i64 3, Value.int .i64 60, Value.slice (some ⟨h5, 0, none⟩) 2 2, Value.slice (some ⟨a5, 0, none⟩) 2 2, Value.slice (some ⟨l5, 0, none⟩) 0 3]), (sE + 1 + 1 + 1 + 1 + 1 + 1, #[Value.int .i64 3, Value.int .i64 60, Value.slice (some ⟨h6, 0, none⟩) 2 2, Value.slice (some ⟨a6, 0, none⟩) 2 2, Value.slice (some ⟨l6, 0, none⟩) 1 3]), (sE + 1 + 1 + 1 + 1 + 1 + 1 + 1, #[Value.int .i64 3, Value.int .i64 60, Value.slice (some ⟨h7, 0, none⟩) 2 2, Value.slice (some ⟨a7, 0, none⟩) 2 2, Value.slice (some ⟨l7, 0, none⟩) 0 3]), (sE + 1 + 1 + 1 + 1 + 1 + 1 + 1 + 1, #[Value.int .i64 3, Value.int .i64 60, Value.slice (some ⟨h8, 0, none⟩) 2 2, Value.slice (some ⟨a8, 0, none⟩) 2 2, Value.slice (some ⟨l8, 0, none⟩) 0 3])] from RB.store 0 rfl 0 (Value.int .i64 5))
  clear kt
  replace hLa := later_set (hLa) (⟨sE, 0, none⟩ : Addr) (show w.heap.size ≤ sE by have := loE; omega) (Value.int .i64 5)
  rw [← hz] at RB
  rw [← hz] at RH
  rw [← hz] at RA
  rw [← hz] at RL
  rw [← hz] at hLa
  clear hz
  have cb : z1.cell? ⟨sE + 1, 1, none⟩ = some _ := ((RB.get 1 rfl).cell 1).trans rfl
  have cf := (RB.get 1 rfl).frozen 1
  go_upto_region 30 with fail
  clear cb cf
  obtain ⟨z2, hz⟩ : ∃ X : World, X = (z1).setCell ⟨sE + 1, 1, none⟩ (Value.int .i64 100) := ⟨_, rfl⟩
  rw [← hz]
  have kt := RB.get 1 rfl
  replace RH := RH.other kt (by decide) 1 (Value.int .i64 100)
  replace RA := RA.other kt (by decide) 1 (Value.int .i64 100)
  replace RL := RL.other kt (by decide) 1 (Value.int .i64 100)
  replace RB := (show Rows _ _ [(sE, (#[Value.int .i64 3, Value.int .i64 60, Value.slice (some ⟨h0, 0, none⟩) 2 2, Value.slice (some ⟨a0, 0, none⟩) 2 2, Value.slice (some ⟨l0, 0, none⟩) 0 3]).setIfInBounds 0 (Value.int .i64 5)), (sE + 1, (#[Value.int .i64 3, Value.int .i64 60, Value.slice (some ⟨h1, 0, none⟩) 2 2, Value.slice (some ⟨a1, 0, none⟩) 2 2, Value.slice (some ⟨l1, 0, none⟩) 0 3]).setIfInBounds 1 (Value.int .i64 100)), (sE + 1 + 1, #[Value.int .i64 3, Value.int .i64 60, Value.slice (some ⟨h2, 0, none⟩) 2 2, Value.slice (some ⟨a2, 0, none⟩) 2 2, Value.slice (some ⟨l2, 0, none⟩) 0 3]), (sE + 1 + 1 + 1, #[Value.int .i64 3, Value.int .i64 60, Value.slice (some ⟨h3, 0, none⟩) 2 2, Value.slice (some ⟨a3, 0, none⟩) 2 2, Value.slice (some ⟨l3, 0, none⟩) 0 3]), (sE + 1 + 1 + 1 + 1, #[Value.int .i64 3, Value.int .i64 60, Value.slice (some ⟨h4, 0, none⟩) 2 2, Value.slice (some ⟨a4, 0, none⟩) 2 2, Value.slice (some ⟨l4, 0, none⟩) 0 3]), (sE + 1 + 1 + 1 + 1 + 1, #[Value.int .i64 3, Value.int .i64 60, Value.slice (some ⟨h5, 0, none⟩) 2 2, Value.slice (some ⟨a5, 0, none⟩) 2 2, Value.slice (some ⟨l5, 0, none⟩) 0 3]), (sE + 1 + 1 + 1 + 1 + 1 + 1, #[Value.int .i64 3, Value.int .i64 60, Value.slice (some ⟨h6, 0, none⟩) 2 2, Value.slice (some ⟨a6, 0, none⟩) 2 2, Value.slice (some ⟨l6, 0, none⟩) 1 3]), (sE + 1 + 1 + 1 + 1 + 1 + 1 + 1, #[Value.int .i64 3, Value.int .i64 60, Value.slice (some ⟨h7, 0, none⟩) 2 2, Value.slice (some ⟨a7, 0, none⟩) 2 2, Value.slice (some ⟨l7, 0, none⟩) 0 3]), (sE + 1 + 1 + 1 + 1 + 1 + 1 + 1 + 1, #[Value.int .i64 3, Value.int .i64 60, Value.slice (some ⟨h8, 0, none⟩) 2 2, Value.slice (some ⟨a8, 0, none⟩) 2 2, Value.slice (some ⟨l8, 0, none⟩) 0 3])] from RB.store 1 rfl 1 (Value.int .i64 100))
  clear kt
  replace hLa := later_set (hLa) (⟨sE + 1, 1, none⟩ : Addr) (show w.heap.size ≤ sE + 1 by have := loE; omega) (Value.int .i64 100)
  rw [← hz] at RB
  rw [← hz] at RH
  rw [← hz] at RA
  rw [← hz] at RL
  rw [← hz] at hLa
  clear hz
  have cb := fun (W : World) (h : Later z2 W) => (((RB.get 2 rfl).later h).cell 2).trans (show _ = some (Value.slice (some ⟨h2, 0, none⟩) 2 2) from rfl)
  refine wp_region_ext_tail (w0 := z2) 5 (by kernel_rfl) (by kernel_rfl) (later_refl _) ?_; simp only [List.take_succ_cons, List.take_zero, List.drop_succ_cons, List.drop_zero]; (repeat (first | go_big_quiet_step ((((go_at_call 81; exact calls_ext (by simp) (between_calls _ _ _))))) | quiet_step ((((go_at_call 81; exact calls_ext (by simp) (between_calls _ _ _))))))); refine wpQuiet_nil ?_; rintro zq ⟨⟨_, hL⟩, rfl⟩; (try dsimp only)
  clear cb
  replace RB := RB.later hL
  replace RH := RH.later hL
  replace RA := RA.later hL
  replace RL := RL.later hL
  replace hLa := Later.trans hLa hL
  clear hL
  have cb0 : zq.cell? ⟨h2, 0, none⟩ = some _ := ((RH.get 2 rfl).cell 0).trans rfl
  have cf0 := (RH.get 2 rfl).frozen 0
  have cb1 : zq.cell? ⟨h2, 1, none⟩ = some _ := ((RH.get 2 rfl).cell 1).trans rfl
  have cf1 := (RH.get 2 rfl).frozen 1
  go_upto_region 31 with fail
  clear cb0 cb1 cf0 cf1
  obtain ⟨z3, hz⟩ : ∃ X : World, X = ((zq).setCell ⟨h2, 0, none⟩ (Value.int .i64 0)).setCell ⟨h2, 1, none⟩ (Value.int .i64 3) := ⟨_, rfl⟩
  rw [← hz]
  have kt := RH.get 2 rfl
  replace RA := RA.other kt (by decide) 0 (Value.int .i64 0)
  replace RL := RL.other kt (by decide) 0 (Value.int .i64 0)
  replace RB := RB.other kt (by decide) 0 (Value.int .i64 0)
  replace RH := (show Rows _ _ [(h0, #[.int .i64 20, .int .i64 22, .int .i64 3, .int .i64 5, .int .i64 30, .int .i64 33, .int .i64 4, .int .i64 4]), (h1, #[.int .i64 20, .int .i64 22, .int .i64 3, .int .i64 5, .int .i64 30, .int .i64 33, .int .i64 4, .int .i64 4]), (h2, (#[.int .i64 20, .int .i64 22, .int .i64 3, .int .i64 5, .int .i64 30, .int .i64 33, .int .i64 4, .int .i64 4]).setIfInBounds 0 (Value.int .i64 0)), (h3, #[.int .i64 20, .int .i64 22, .int .i64 3, .int .i64 5, .int .i64 30, .int .i64 33, .int .i64 4, .int .i64 4]), (h4, #[.int .i64 20, .int .i64 22, .int .i64 3, .int .i64 5, .int .i64 30, .int .i64 33, .int .i64 4, .int .i64 31]), (h5, #[.int .i64 20, .int .i64 22, .int .i64 3, .int .i64 5, .int .i64 30, .int .i64 33, .int .i64 4, .int .i64 4]), (h6, #[.int .i64 20, .int .i64 22, .int .i64 3, .int .i64 5, .int .i64 30, .int .i64 33, .int .i64 4, .int .i64 4]), (h7, #[.int .i64 20, .int .i64 22, .int .i64 3, .int .i64 5, .int .i64 30, .int .i64 33, .int .i64 4, .int .i64 4]), (h8, #[.int .i64 20, .int .i64 22, .int .i64 3, .int .i64 5, .int .i64 30, .int .i64 33, .int .i64 4, .int .i64 4])] from RH.store 2 rfl 0 (Value.int .i64 0))
  clear kt
  have kt := RH.get 2 rfl
  replace RA := RA.other kt (by decide) 1 (Value.int .i64 3)
  replace RL := RL.other kt (by decide) 1 (Value.int .i64 3)
  replace RB := RB.other kt (by decide) 1 (Value.int .i64 3)
  replace RH := (show Rows _ _ [(h0, #[.int .i64 20, .int .i64 22, .int .i64 3, .int .i64 5, .int .i64 30, .int .i64 33, .int .i64 4, .int .i64 4]), (h1, #[.int .i64 20, .int .i64 22, .int .i64 3, .int .i64 5, .int .i64 30, .int .i64 33, .int .i64 4, .int .i64 4]), (h2, ((#[.int .i64 20, .int .i64 22, .int .i64 3, .int .i64 5, .int .i64 30, .int .i64 33, .int .i64 4, .int .i64 4]).setIfInBounds 0 (Value.int .i64 0)).setIfInBounds 1 (Value.int .i64 3)), (h3, #[.int .i64 20, .int .i64 22, .int .i64 3, .int .i64 5, .int .i64 30, .int .i64 33, .int .i64 4, .int .i64 4]), (h4, #[.int .i64 20, .int .i64 22, .int .i64 3, .int .i64 5, .int .i64 30, .int .i64 33, .int .i64 4, .int .i64 31]), (h5, #[.int .i64 20, .int .i64 22, .int .i64 3, .int .i64 5, .int .i64 30, .int .i64 33, .int .i64 4, .int .i64 4]), (h6, #[.int .i64 20, .int .i64 22, .int .i64 3, .int .i64 5, .int .i64 30, .int .i64 33, .int .i64 4, .int .i64 4]), (h7, #[.int .i64 20, .int .i64 22, .int .i64 3, .int .i64 5, .int .i64 30, .int .i64 33, .int .i64 4, .int .i64 4]), (h8, #[.int .i64 20, .int .i64 22, .int .i64 3, .int .i64 5, .int .i64 30, .int .i64 33, .int .i64 4, .int .i64 4])] from RH.store 2 rfl 1 (Value.int .i64 3))
  clear kt
  replace hLa := later_set (later_set (hLa) (⟨h2, 0, none⟩ : Addr) (show w.heap.size ≤ h2 by have := loh2; omega) (Value.int .i64 0)) (⟨h2, 1, none⟩ : Addr) (show w.heap.size ≤ h2 by have := loh2; omega) (Value.int .i64 3)
  rw [← hz] at RB
  rw [← hz] at RH
  rw [← hz] at RA
  rw [← hz] at RL
  rw [← hz] at hLa
  clear hz
  have ca0 : z3.cell? ⟨sE + 1 + 1 + 1, 2, none⟩ = some (Value.slice (some ⟨h3, 0, none⟩) 2 2) := ((RB.get 3 rfl).cell 2).trans rfl
  have cb : z3.cell? ⟨h3, 2, none⟩ = some _ := ((RH.get 3 rfl).cell 2).trans rfl
  have cf := (RH.get 3 rfl).frozen 2
  go_upto_region 32 with fail
  clear ca0 cb cf
  obtain ⟨z4, hz⟩ : ∃ X : World, X = (z3).setCell ⟨h3, 2, none⟩ (Value.int .i64 10) := ⟨_, rfl⟩
  rw [← hz]
  have kt := RH.get 3 rfl
  replace RA := RA.other kt (by decide) 2 (Value.int .i64 10)
  replace RL := RL.other kt (by decide) 2 (Value.int .i64 10)
  replace RB := RB.other kt (by decide) 2 (Value.int .i64 10)
  replace RH := (show Rows _ _ [(h0, #[.int .i64 20, .int .i64 22, .int .i64 3, .int .i64 5, .int .i64 30, .int .i64 33, .int .i64 4, .int .i64 4]), (h1, #[.int .i64 20, .int .i64 22, .int .i64 3, .int .i64 5, .int .i64 30, .int .i64 33, .int .i64 4, .int .i64 4]), (h2, ((#[.int .i64 20, .int .i64 22, .int .i64 3, .int .i64 5, .int .i64 30, .int .i64 33, .int .i64 4, .int .i64 4]).setIfInBounds 0 (Value.int .i64 0)).setIfInBounds 1 (Value.int .i64 3)), (h3, (#[.int .i64 20, .int .i64 22, .int .i64 3, .int .i64 5, .int .i64 30, .int .i64 33, .int .i64 4, .int .i64 4]).setIfInBounds 2 (Value.int .i64 10)), (h4, #[.int .i64 20, .int .i64 22, .int .i64 3, .int .i64 5, .int .i64 30, .int .i64 33, .int .i64 4, .int .i64 31]), (h5, #[.int .i64 20, .int .i64 22, .int .i64 3, .int .i64 5, .int .i64 30, .int .i64 33, .int .i64 4, .int .i64 4]), (h6, #[.int .i64 20, .int .i64 22, .int .i64 3, .int .i64 5, .int .i64 30, .int .i64 33, .int .i64 4, .int .i64 4]), (h7, #[.int .i64 20, .int .i64 22, .int .i64 3, .int .i64 5, .int .i64 30, .int .i64 33, .int .i64 4, .int .i64 4]), (h8, #[.int .i64 20, .int .i64 22, .int .i64 3, .int .i64 5, .int .i64 30, .int .i64 33, .int .i64 4, .int .i64 4])] from RH.store 3 rfl 2 (Value.int .i64 10))
  clear kt
  replace hLa := later_set (hLa) (⟨h3, 2, none⟩ : Addr) (show w.heap.size ≤ h3 by have := loh3; omega) (Value.int .i64 10)
  rw [← hz] at RB
  rw [← hz] at RH
  rw [← hz] at RA
  rw [← hz] at RL
  rw [← hz] at hLa
  clear hz
  obtain ⟨zA, hzm⟩ : ∃ X, z4.alloc (.cells #[Value.int .i64 1, Value.int .i64 1] 3) = X := ⟨_, rfl⟩
  obtain ⟨gA, hgm⟩ : ∃ g, z4.heap.size = g := ⟨_, rfl⟩
  have hL : Later z4 zA := by rw [← hzm]; exact later_alloc (later_refl _) _
  have kgA : Blk zA gA 3 #[Value.int .i64 1, Value.int .i64 1] := by rw [← hzm, ← hgm]; exact Blk.new _ _ _
  have cf := fun (W : World) (h : Later z4 W) => (RB.get 5 rfl).frozen_later W h 3
  have cb := fun (W : World) (h : Later z4 W) => ((RB.get 5 rfl).cells_later W h 3).trans (show _ = some (Value.slice (some ⟨a5, 0, none⟩) 2 2) from rfl)
  go_upto_region 33 with fail
  clear cb cf hzm hgm
  replace RB := RB.later hL
  replace RH := RH.later hL
  replace RA := RA.later hL
  replace RL := RL.later hL
  replace hLa := Later.trans hLa hL
  clear hL
  obtain ⟨z5, hz⟩ : ∃ X : World, X = (zA).setCell ⟨sE + 1 + 1 + 1 + 1 + 1, 3, none⟩ (Value.slice (some ⟨gA, 0, none⟩) 2 2) := ⟨_, rfl⟩
  rw [← hz]
  have kt := RB.get 5 rfl
  replace RH := RH.other kt (by decide) 3 (Value.slice (some ⟨gA, 0, none⟩) 2 2)
  replace RA := RA.other kt (by decide) 3 (Value.slice (some ⟨gA, 0, none⟩) 2 2)
  replace RL := RL.other kt (by decide) 3 (Value.slice (some ⟨gA, 0, none⟩) 2 2)
  replace kgA := Blk.far (p := (⟨sE + 1 + 1 + 1 + 1 + 1, 3, none⟩ : Addr)) kgA (kgA.apart kt (by decide)) (Value.slice (some ⟨gA, 0, none⟩) 2 2)
  replace RB := (show Rows _ _ [(sE, (#[Value.int .i64 3, Value.int .i64 60, Value.slice (some ⟨h0, 0, none⟩) 2 2, Value.slice (some ⟨a0, 0, none⟩) 2 2, Value.slice (some ⟨l0, 0, none⟩) 0 3]).setIfInBounds 0 (Value.int .i64 5)), (sE + 1, (#[Value.int .i64 3, Value.int .i64 60, Value.slice (some ⟨h1, 0, none⟩) 2 2, Value.slice (some ⟨a1, 0, none⟩) 2 2, Value.slice (some ⟨l1, 0, none⟩) 0 3]).setIfInBounds 1 (Value.int .i64 100)), (sE + 1 + 1, #[Value.int .i64 3, Value.int .i64 60, Value.slice (some ⟨h2, 0, none⟩) 2 2, Value.slice (some ⟨a2, 0, none⟩) 2 2, Value.slice (some ⟨l2, 0, none⟩) 0 3]), (sE + 1 + 1 + 1, #[Value.int .i64 3, Value.int .i64 60, Value.slice (some ⟨h3, 0, none⟩) 2 2, Value.slice (some ⟨a3, 0, none⟩) 2 2, Value.slice (some ⟨l3, 0, none⟩) 0 3]), (sE + 1 + 1 + 1 + 1, #[Value.int .i64 3, Value.int .i64 60, Value.slice (some ⟨h4, 0, none⟩) 2 2, Value.slice (some ⟨a4, 0, none⟩) 2 2, Value.slice (some ⟨l4, 0, none⟩) 0 3]), (sE + 1 + 1 + 1 + 1 + 1, (#[Value.int .i64 3, Value.int .i64 60, Value.slice (some ⟨h5, 0, none⟩) 2 2, Value.slice (some ⟨a5, 0, none⟩) 2 2, Value.slice (some ⟨l5, 0, none⟩) 0 3]).setIfInBounds 3 (Value.slice (some ⟨gA, 0, none⟩) 2 2)), (sE + 1 + 1 + 1 + 1 + 1 + 1, #[Value.int .i64 3, Value.int .i64 60, Value.slice (some ⟨h6, 0, none⟩) 2 2, Value.slice (some ⟨a6, 0, none⟩) 2 2, Value.slice (some ⟨l6, 0, none⟩) 1 3]), (sE + 1 + 1 + 1 + 1 + 1 + 1 + 1, #[Value.int .i64 3, Value.int .i64 60, Value.slice (some ⟨h7, 0, none⟩) 2 2, Value.slice (some ⟨a7, 0, none⟩) 2 2, Value.slice (some ⟨l7, 0, none⟩) 0 3]), (sE + 1 + 1 + 1 + 1 + 1 + 1 + 1 + 1, #[Value.int .i64 3, Value.int .i64 60, Value.slice (some ⟨h8, 0, none⟩) 2 2, Value.slice (some ⟨a8, 0, none⟩) 2 2, Value.slice (some ⟨l8, 0, none⟩) 0 3])] from RB.store 5 rfl 3 (Value.slice (some ⟨gA, 0, none⟩) 2 2))
  clear kt
  replace hLa := later_set (hLa) (⟨sE + 1 + 1 + 1 + 1 + 1, 3, none⟩ : Addr) (show w.heap.size ≤ sE + 1 + 1 + 1 + 1 + 1 by have := loE; omega) (Value.slice (some ⟨gA, 0, none⟩) 2 2)
  rw [← hz] at RB
  rw [← hz] at RH
  rw [← hz] at RA
  rw [← hz] at RL
  rw [← hz] at kgA
  rw [← hz] at hLa
  clear hz
  have ca0 : z5.cell? ⟨sE + 1 + 1 + 1 + 1 + 1 + 1, 4, none⟩ = some (Value.slice (some ⟨l6, 0, none⟩) 1 3) := ((RB.get 6 rfl).cell 4).trans rfl
  have cb : z5.cell? ⟨l6, 0, none⟩ = some _ := ((RL.get 6 rfl).cell 0).trans rfl
  have cf := (RL.get 6 rfl).frozen 0
  go_upto_region 34 with fail
  clear ca0 cb cf
  obtain ⟨z6, hz⟩ : ∃ X : World, X = (z5).setCell ⟨l6, 0, none⟩ (Value.int .i64 2) := ⟨_, rfl⟩
  rw [← hz]
  have kt := RL.get 6 rfl
  replace RH := RH.other kt (by decide) 0 (Value.int .i64 2)
  replace RA := RA.other kt (by decide) 0 (Value.int .i64 2)
  replace RB := RB.other kt (by decide) 0 (Value.int .i64 2)
  replace kgA := Blk.far (p := (⟨l6, 0, none⟩ : Addr)) kgA (kgA.apart kt (by decide)) (Value.int .i64 2)
  replace RL := (show Rows _ _ [(l0, (looksV twoLooks).toArray), (l1, (looksV twoLooks).toArray), (l2, (looksV twoLooks).toArray), (l3, (looksV twoLooks).toArray), (l4, (looksV twoLooks).toArray), (l5, (looksV twoLooks).toArray), (l6, ((looksV twoLooks).toArray).setIfInBounds 0 (Value.int .i64 2)), (l7, (looksV twoLooks).toArray), (l8, (looksV twoLooks).toArray)] from RL.store 6 rfl 0 (Value.int .i64 2))
  clear kt
  replace hLa := later_set (hLa) (⟨l6, 0, none⟩ : Addr) (show w.heap.size ≤ l6 by have := lol6; omega) (Value.int .i64 2)
  rw [← hz] at RB
  rw [← hz] at RH
  rw [← hz] at RA
  rw [← hz] at RL
  rw [← hz] at kgA
  rw [← hz] at hLa
  clear hz
  obtain ⟨zB, hzm⟩ : ∃ X, z6.alloc (.cells (looksV manyC.looks).toArray 120) = X := ⟨_, rfl⟩
  obtain ⟨gB, hgm⟩ : ∃ g, z6.heap.size = g := ⟨_, rfl⟩
  have hL : Later z6 zB := by rw [← hzm]; exact later_alloc (later_refl _) _
  have kgB : Blk zB gB 120 (looksV manyC.looks).toArray := by rw [← hzm, ← hgm]; exact Blk.new _ _ _
  have hmk : (Instr.makeSlice 33 (.int .i64 6) (.int .i64 6)).run Try.prog z6 = .ok (.slice (some ⟨gB, 0, none⟩) 6 6) zB := by rw [← hzm, ← hgm]; exact make_looks6 _
  clear hzm hgm
  replace kgA := kgA.later hL
  replace RB := RB.later hL
  replace RH := RH.later hL
  replace RA := RA.later hL
  replace RL := RL.later hL
  replace hLa := Later.trans hLa hL
  clear hL
  have cb : zB.cell? ⟨sE + 1 + 1 + 1 + 1 + 1 + 1 + 1, 4, none⟩ = some _ := ((RB.get 7 rfl).cell 4).trans rfl
  have cf := (RB.get 7 rfl).frozen 4
  go_upto_region 35 with fail
  clear cb cf hmk
  obtain ⟨z7, hz⟩ : ∃ X : World, X = (zB).setCell ⟨sE + 1 + 1 + 1 + 1 + 1 + 1 + 1, 4, none⟩ (Value.slice (some ⟨gB, 0, none⟩) 6 6) := ⟨_, rfl⟩
  rw [← hz]
  have kt := RB.get 7 rfl
  replace RH := RH.other kt (by decide) 4 (Value.slice (some ⟨gB, 0, none⟩) 6 6)
  replace RA := RA.other kt (by decide) 4 (Value.slice (some ⟨gB, 0, none⟩) 6 6)
  replace RL := RL.other kt (by decide) 4 (Value.slice (some ⟨gB, 0, none⟩) 6 6)
  replace kgA := Blk.far (p := (⟨sE + 1 + 1 + 1 + 1 + 1 + 1 + 1, 4, none⟩ : Addr)) kgA (kgA.apart kt (by decide)) (Value.slice (some ⟨gB, 0, none⟩) 6 6)
  replace kgB := Blk.far (p := (⟨sE + 1 + 1 + 1 + 1 + 1 + 1 + 1, 4, none⟩ : Addr)) kgB (kgB.apart kt (by decide)) (Value.slice (some ⟨gB, 0, none⟩) 6 6)
  replace RB := (show Rows _ _ [(sE, (#[Value.int .i64 3, Value.int .i64 60, Value.slice (some ⟨h0, 0, none⟩) 2 2, Value.slice (some ⟨a0, 0, none⟩) 2 2, Value.slice (some ⟨l0, 0, none⟩) 0 3]).setIfInBounds 0 (Value.int .i64 5)), (sE + 1, (#[Value.int .i64 3, Value.int .i64 60, Value.slice (some ⟨h1, 0, none⟩) 2 2, Value.slice (some ⟨a1, 0, none⟩) 2 2, Value.slice (some ⟨l1, 0, none⟩) 0 3]).setIfInBounds 1 (Value.int .i64 100)), (sE + 1 + 1, #[Value.int .i64 3, Value.int .i64 60, Value.slice (some ⟨h2, 0, none⟩) 2 2, Value.slice (some ⟨a2, 0, none⟩) 2 2, Value.slice (some ⟨l2, 0, none⟩) 0 3]), (sE + 1 + 1 + 1, #[Value.int .i64 3, Value.int .i64 60, Value.slice (some ⟨h3, 0, none⟩) 2 2, Value.slice (some ⟨a3, 0, none⟩) 2 2, Value.slice (some ⟨l3, 0, none⟩) 0 3]), (sE + 1 + 1 + 1 + 1, #[Value.int .i64 3, Value.int .i64 60, Value.slice (some ⟨h4, 0, none⟩) 2 2, Value.slice (some ⟨a4, 0, none⟩) 2 2, Value.slice (some ⟨l4, 0, none⟩) 0 3]), (sE + 1 + 1 + 1 + 1 + 1, (#[Value.int .i64 3, Value.int .i64 60, Value.slice (some ⟨h5, 0, none⟩) 2 2, Value.slice (some ⟨a5, 0, none⟩) 2 2, Value.slice (some ⟨l5, 0, none⟩) 0 3]).setIfInBounds 3 (Value.slice (some ⟨gA, 0, none⟩) 2 2)), (sE + 1 + 1 + 1 + 1 + 1 + 1, #[Value.int .i64 3, Value.int .i64 60, Value.slice (some ⟨h6, 0, none⟩) 2 2, Value.slice (some ⟨a6, 0, none⟩) 2 2, Value.slice (some ⟨l6, 0, none⟩) 1 3]), (sE + 1 + 1 + 1 + 1 + 1 + 1 + 1, (#[Value.int .i64 3, Value.int .i64 60, Value.slice (some ⟨h7, 0, none⟩) 2 2, Value.slice (some ⟨a7, 0, none⟩) 2 2, Value.slice (some ⟨l7, 0, none⟩) 0 3]).setIfInBounds 4 (Value.slice (some ⟨gB, 0, none⟩) 6 6)), (sE + 1 + 1 + 1 + 1 + 1 + 1 + 1 + 1, #[Value.int .i64 3, Value.int .i64 60, Value.slice (some ⟨h8, 0, none⟩) 2 2, Value.slice (some ⟨a8, 0, none⟩) 2 2, Value.slice (some ⟨l8, 0, none⟩) 0 3])] from RB.store 7 rfl 4 (Value.slice (some ⟨gB, 0, none⟩) 6 6))
  clear kt
  replace hLa := later_set (hLa) (⟨sE + 1 + 1 + 1 + 1 + 1 + 1 + 1, 4, none⟩ : Addr) (show w.heap.size ≤ sE + 1 + 1 + 1 + 1 + 1 + 1 + 1 by have := loE; omega) (Value.slice (some ⟨gB, 0, none⟩) 6 6)
  rw [← hz] at RB
  rw [← hz] at RH
  rw [← hz] at RA
  rw [← hz] at RL
  rw [← hz] at kgA
  rw [← hz] at kgB
  rw [← hz] at hLa
  clear hz
  have kbx := RB.get 8 rfl
  have kpx := RH.get 8 rfl
  have hS0 : z7.drew.cell? ⟨sE + 1 + 1 + 1 + 1 + 1 + 1 + 1 + 1, 2, none⟩ = some (Value.slice (some ⟨h8, 0, none⟩) 2 2) := (kbx.cell 2).trans rfl
  refine wp_region_held_drew (S := fun X => X.cell? ⟨sE + 1 + 1 + 1 + 1 + 1 + 1 + 1 + 1, 2, none⟩ = some (Value.slice (some ⟨h8, 0, none⟩) 2 2)) (by kernel_rfl) hS0 (fun hS => ?_)
  refine wpAnyH_take (i := 0) (v := ?_) rfl (by kernel_rfl) (by kernel_rfl) (by kernel_rfl) (by intro _ _ _ h; first | exact h | exact absurd h.1 (by simp)) (Or.inl ⟨by rfl, ?_⟩) hS ?_; rotate_left; (focus (intro X hSX; (try dsimp only at hSX); go_simp; (try with_reducible rfl))); (try simp only [Act.put, List.setIfInBounds_toArray, List.set_cons_zero, List.set_cons_succ])
  refine wpAnyH_take (i := 1) (v := ?_) rfl (by kernel_rfl) (by kernel_rfl) (by kernel_rfl) (by intro _ _ _ h; first | exact h | exact absurd h.1 (by simp)) (Or.inl ⟨by rfl, ?_⟩) hS ?_; rotate_left; (focus (intro X hSX; (try dsimp only at hSX); go_simp; (try with_reducible rfl))); (try simp only [Act.put, List.setIfInBounds_toArray, List.set_cons_zero, List.set_cons_succ])
  refine wpAnyH_take (i := 2) (v := ?_) rfl (by kernel_rfl) (by kernel_rfl) (by kernel_rfl) (by intro _ _ _ h; first | exact h | exact absurd h.1 (by simp)) (Or.inl ⟨by rfl, ?_⟩) hS ?_; rotate_left; (focus (intro X hSX; (try dsimp only at hSX); go_simp; (try with_reducible rfl))); (try simp only [Act.put, List.setIfInBounds_toArray, List.set_cons_zero, List.set_cons_succ])
  refine wpAnyH_take (i := 3) (v := ?_) rfl (by kernel_rfl) (by kernel_rfl) (by kernel_rfl) (by intro _ _ _ h; first | exact h | exact absurd h.1 (by simp)) (Or.inl ⟨by rfl, ?_⟩) hS ?_; rotate_left; (focus (intro X hSX; (try dsimp only at hSX); go_simp; (try with_reducible rfl))); (try simp only [Act.put, List.setIfInBounds_toArray, List.set_cons_zero, List.set_cons_succ])
  refine wpAnyH_ready (rs := [4]) (by kernel_rfl) (by simp) ?_; refine AllReadyH.cons rfl (fun K hK => ?_) AllReadyH.nil
  go_simp
  refine (between_calls 1 50 _).mono ?_
  rintro e w2 ⟨rfl, hL2⟩
  have hLA := Later.trans (later_drew (later_refl z7)) hL2
  have hSw2 : w2.cell? ⟨sE + 1 + 1 + 1 + 1 + 1 + 1 + 1 + 1, 2, none⟩ = some (Value.slice (some ⟨h8, 0, none⟩) 2 2) := ((kbx.later hLA).cell 2).trans rfl
  refine hK.out _ _ hSw2 (fun _ => ?_)
  clear hK K; (try simp only [Act.put, List.setIfInBounds_toArray, List.set_cons_zero, List.set_cons_succ])
  refine wpAnyH_ready (rs := [5]) (by kernel_rfl) (by simp) ?_; refine AllReadyH.cons rfl (fun K hK => ?_) AllReadyH.nil
  go_simp
  refine (between_calls 1 41 _).mono ?_
  rintro e w3 ⟨rfl, hL2⟩
  have hL := Later.trans hLA hL2
  have hSw3 : w3.cell? ⟨sE + 1 + 1 + 1 + 1 + 1 + 1 + 1 + 1, 2, none⟩ = some (Value.slice (some ⟨h8, 0, none⟩) 2 2) := ((kbx.later hL).cell 2).trans rfl
  refine hK.out _ _ hSw3 (fun _ => ?_)
  clear hK K; (try simp only [Act.put, List.setIfInBounds_toArray, List.set_cons_zero, List.set_cons_succ])
  replace kbx := kbx.later hL
  replace kpx := kpx.later hL
  replace RB := RB.later hL
  replace RH := RH.later hL
  replace RA := RA.later hL
  replace RL := RL.later hL
  replace kgA := kgA.later hL
  replace kgB := kgB.later hL
  replace hLa := Later.trans hLa hL
  clear hL hLA hL2 hSw2
  have d0 : w3.cell? ⟨h8, 0, none⟩ = some _ := (kpx.cell 0).trans rfl
  have f0 := kpx.frozen 0
  have d1 : w3.cell? ⟨h8, 1, none⟩ = some _ := (kpx.cell 1).trans rfl
  have f1 := kpx.frozen 1
  have hpb := kbx.apart kpx (by decide)
  have k4 := (kpx.set_ 0 (Value.int .i64 1)).set_ 1 (Value.int .i64 50)
  have kx := Blk.far (p := (⟨h8, 1, none⟩ : Addr)) (Blk.far (p := (⟨h8, 0, none⟩ : Addr)) kbx hpb (Value.int .i64 1)) hpb (Value.int .i64 50)
  have hS4 : (((w3).setCell ⟨h8, 0, none⟩ (Value.int .i64 1)).setCell ⟨h8, 1, none⟩ (Value.int .i64 50)).cell? ⟨sE + 1 + 1 + 1 + 1 + 1 + 1 + 1 + 1, 2, none⟩ = some (Value.slice (some ⟨h8, 0, none⟩) 2 2) := (kx.cell 2).trans rfl
  have e0 : (((w3).setCell ⟨h8, 0, none⟩ (Value.int .i64 1)).setCell ⟨h8, 1, none⟩ (Value.int .i64 50)).cell? ⟨h8, 4, none⟩ = some _ := (k4.cell 4).trans rfl
  have g0 := k4.frozen 4
  have e1 : (((w3).setCell ⟨h8, 0, none⟩ (Value.int .i64 1)).setCell ⟨h8, 1, none⟩ (Value.int .i64 50)).cell? ⟨h8, 5, none⟩ = some _ := (k4.cell 5).trans rfl
  have g1 := k4.frozen 5
  refine wpAnyH_take (i := 6) (v := ?_) rfl (by kernel_rfl) (by kernel_rfl) (by kernel_rfl) (by intro _ _ _ h; first | exact h | exact absurd h.1 (by simp)) (Or.inl ⟨by rfl, ?_⟩) hSw3 ?_; rotate_left; (focus (intro X hSX; (try dsimp only at hSX); go_simp; (try with_reducible rfl))); (try simp only [Act.put, List.setIfInBounds_toArray, List.set_cons_zero, List.set_cons_succ])
  refine wpAnyH_take (i := 7) (v := ?_) rfl (by kernel_rfl) (by kernel_rfl) (by kernel_rfl) (by intro _ _ _ h; first | exact h | exact absurd h.1 (by simp)) (Or.inl ⟨by rfl, ?_⟩) hSw3 ?_; rotate_left; (focus (intro X hSX; (try dsimp only at hSX); go_simp; (try with_reducible rfl))); (try simp only [Act.put, List.setIfInBounds_toArray, List.set_cons_zero, List.set_cons_succ])
  refine wpAnyH_ready (rs := [8]) (by kernel_rfl) (by simp) ?_; refine AllReadyH.cons rfl (fun K hK => ?_) AllReadyH.nil
  go_simp
  refine hK.out _ _ hS4 (fun _ => ?_)
  clear hK K; (try simp only [Act.put, List.setIfInBounds_toArray, List.set_cons_zero, List.set_cons_succ])
  refine wpAnyH_take (i := 9) (v := ?_) rfl (by kernel_rfl) (by kernel_rfl) (by kernel_rfl) (by intro _ _ _ h; first | exact h | exact absurd h.1 (by simp)) (Or.inl ⟨by rfl, ?_⟩) hS4 ?_; rotate_left; (focus (intro X hSX; (try dsimp only at hSX); go_simp; (try with_reducible rfl))); (try simp only [Act.put, List.setIfInBounds_toArray, List.set_cons_zero, List.set_cons_succ])
  refine wpAnyH_take (i := 10) (v := ?_) rfl (by kernel_rfl) (by kernel_rfl) (by kernel_rfl) (by intro _ _ _ h; first | exact h | exact absurd h.1 (by simp)) (Or.inl ⟨by rfl, ?_⟩) hS4 ?_; rotate_left; (focus (intro X hSX; (try dsimp only at hSX); go_simp; (try with_reducible rfl))); (try simp only [Act.put, List.setIfInBounds_toArray, List.set_cons_zero, List.set_cons_succ])
  refine wpAnyH_ready (rs := [11]) (by kernel_rfl) (by simp) ?_; refine AllReadyH.cons rfl (fun K hK => ?_) AllReadyH.nil
  go_simp
  have k5 := (kx.far (p := (⟨h8, 4, none⟩ : Addr)) hpb (Value.int .i64 1)).far (p := (⟨h8, 5, none⟩ : Addr)) hpb (Value.int .i64 41)
  refine hK.out _ _ ((k5.cell 2).trans rfl) (fun _ => ?_)
  clear hK K; (try simp only [Act.put, List.setIfInBounds_toArray, List.set_cons_zero, List.set_cons_succ])
  refine wpAnyH_done (by kernel_rfl) ?_ _
  clear hS hS0 hSw3 hS4 k4 kx k5 kbx kpx d0 d1 f0 f1 e0 e1 g0 g1 hpb
  obtain ⟨z8, hz⟩ : ∃ X : World, X = ((((w3).setCell ⟨h8, 0, none⟩ (Value.int .i64 1)).setCell ⟨h8, 1, none⟩ (Value.int .i64 50)).setCell ⟨h8, 4, none⟩ (Value.int .i64 1)).setCell ⟨h8, 5, none⟩ (Value.int .i64 41) := ⟨_, rfl⟩
  rw [← hz]
  have kt := RH.get 8 rfl
  replace RA := RA.other kt (by decide) 0 (Value.int .i64 1)
  replace RL := RL.other kt (by decide) 0 (Value.int .i64 1)
  replace RB := RB.other kt (by decide) 0 (Value.int .i64 1)
  replace kgA := Blk.far (p := (⟨h8, 0, none⟩ : Addr)) kgA (kgA.apart kt (by decide)) (Value.int .i64 1)
  replace kgB := Blk.far (p := (⟨h8, 0, none⟩ : Addr)) kgB (kgB.apart kt (by decide)) (Value.int .i64 1)
  replace RH := (show Rows _ _ [(h0, #[.int .i64 20, .int .i64 22, .int .i64 3, .int .i64 5, .int .i64 30, .int .i64 33, .int .i64 4, .int .i64 4]), (h1, #[.int .i64 20, .int .i64 22, .int .i64 3, .int .i64 5, .int .i64 30, .int .i64 33, .int .i64 4, .int .i64 4]), (h2, ((#[.int .i64 20, .int .i64 22, .int .i64 3, .int .i64 5, .int .i64 30, .int .i64 33, .int .i64 4, .int .i64 4]).setIfInBounds 0 (Value.int .i64 0)).setIfInBounds 1 (Value.int .i64 3)), (h3, (#[.int .i64 20, .int .i64 22, .int .i64 3, .int .i64 5, .int .i64 30, .int .i64 33, .int .i64 4, .int .i64 4]).setIfInBounds 2 (Value.int .i64 10)), (h4, #[.int .i64 20, .int .i64 22, .int .i64 3, .int .i64 5, .int .i64 30, .int .i64 33, .int .i64 4, .int .i64 31]), (h5, #[.int .i64 20, .int .i64 22, .int .i64 3, .int .i64 5, .int .i64 30, .int .i64 33, .int .i64 4, .int .i64 4]), (h6, #[.int .i64 20, .int .i64 22, .int .i64 3, .int .i64 5, .int .i64 30, .int .i64 33, .int .i64 4, .int .i64 4]), (h7, #[.int .i64 20, .int .i64 22, .int .i64 3, .int .i64 5, .int .i64 30, .int .i64 33, .int .i64 4, .int .i64 4]), (h8, (#[.int .i64 20, .int .i64 22, .int .i64 3, .int .i64 5, .int .i64 30, .int .i64 33, .int .i64 4, .int .i64 4]).setIfInBounds 0 (Value.int .i64 1))] from RH.store 8 rfl 0 (Value.int .i64 1))
  clear kt
  have kt := RH.get 8 rfl
  replace RA := RA.other kt (by decide) 1 (Value.int .i64 50)
  replace RL := RL.other kt (by decide) 1 (Value.int .i64 50)
  replace RB := RB.other kt (by decide) 1 (Value.int .i64 50)
  replace kgA := Blk.far (p := (⟨h8, 1, none⟩ : Addr)) kgA (kgA.apart kt (by decide)) (Value.int .i64 50)
  replace kgB := Blk.far (p := (⟨h8, 1, none⟩ : Addr)) kgB (kgB.apart kt (by decide)) (Value.int .i64 50)
  replace RH := (show Rows _ _ [(h0, #[.int .i64 20, .int .i64 22, .int .i64 3, .int .i64 5, .int .i64 30, .int .i64 33, .int .i64 4, .int .i64 4]), (h1, #[.int .i64 20, .int .i64 22, .int .i64 3, .int .i64 5, .int .i64 30, .int .i64 33, .int .i64 4, .int .i64 4]), (h2, ((#[.int .i64 20, .int .i64 22, .int .i64 3, .int .i64 5, .int .i64 30, .int .i64 33, .int .i64 4, .int .i64 4]).setIfInBounds 0 (Value.int .i64 0)).setIfInBounds 1 (Value.int .i64 3)), (h3, (#[.int .i64 20, .int .i64 22, .int .i64 3, .int .i64 5, .int .i64 30, .int .i64 33, .int .i64 4, .int .i64 4]).setIfInBounds 2 (Value.int .i64 10)), (h4, #[.int .i64 20, .int .i64 22, .int .i64 3, .int .i64 5, .int .i64 30, .int .i64 33, .int .i64 4, .int .i64 31]), (h5, #[.int .i64 20, .int .i64 22, .int .i64 3, .int .i64 5, .int .i64 30, .int .i64 33, .int .i64 4, .int .i64 4]), (h6, #[.int .i64 20, .int .i64 22, .int .i64 3, .int .i64 5, .int .i64 30, .int .i64 33, .int .i64 4, .int .i64 4]), (h7, #[.int .i64 20, .int .i64 22, .int .i64 3, .int .i64 5, .int .i64 30, .int .i64 33, .int .i64 4, .int .i64 4]), (h8, ((#[.int .i64 20, .int .i64 22, .int .i64 3, .int .i64 5, .int .i64 30, .int .i64 33, .int .i64 4, .int .i64 4]).setIfInBounds 0 (Value.int .i64 1)).setIfInBounds 1 (Value.int .i64 50))] from RH.store 8 rfl 1 (Value.int .i64 50))
  clear kt
  have kt := RH.get 8 rfl
  replace RA := RA.other kt (by decide) 4 (Value.int .i64 1)
  replace RL := RL.other kt (by decide) 4 (Value.int .i64 1)
  replace RB := RB.other kt (by decide) 4 (Value.int .i64 1)
  replace kgA := Blk.far (p := (⟨h8, 4, none⟩ : Addr)) kgA (kgA.apart kt (by decide)) (Value.int .i64 1)
  replace kgB := Blk.far (p := (⟨h8, 4, none⟩ : Addr)) kgB (kgB.apart kt (by decide)) (Value.int .i64 1)
  replace RH := (show Rows _ _ [(h0, #[.int .i64 20, .int .i64 22, .int .i64 3, .int .i64 5, .int .i64 30, .int .i64 33, .int .i64 4, .int .i64 4]), (h1, #[.int .i64 20, .int .i64 22, .int .i64 3, .int .i64 5, .int .i64 30, .int .i64 33, .int .i64 4, .int .i64 4]), (h2, ((#[.int .i64 20, .int .i64 22, .int .i64 3, .int .i64 5, .int .i64 30, .int .i64 33, .int .i64 4, .int .i64 4]).setIfInBounds 0 (Value.int .i64 0)).setIfInBounds 1 (Value.int .i64 3)), (h3, (#[.int .i64 20, .int .i64 22, .int .i64 3, .int .i64 5, .int .i64 30, .int .i64 33, .int .i64 4, .int .i64 4]).setIfInBounds 2 (Value.int .i64 10)), (h4, #[.int .i64 20, .int .i64 22, .int .i64 3, .int .i64 5, .int .i64 30, .int .i64 33, .int .i64 4, .int .i64 31]), (h5, #[.int .i64 20, .int .i64 22, .int .i64 3, .int .i64 5, .int .i64 30, .int .i64 33, .int .i64 4, .int .i64 4]), (h6, #[.int .i64 20, .int .i64 22, .int .i64 3, .int .i64 5, .int .i64 30, .int .i64 33, .int .i64 4, .int .i64 4]), (h7, #[.int .i64 20, .int .i64 22, .int .i64 3, .int .i64 5, .int .i64 30, .int .i64 33, .int .i64 4, .int .i64 4]), (h8, (((#[.int .i64 20, .int .i64 22, .int .i64 3, .int .i64 5, .int .i64 30, .int .i64 33, .int .i64 4, .int .i64 4]).setIfInBounds 0 (Value.int .i64 1)).setIfInBounds 1 (Value.int .i64 50)).setIfInBounds 4 (Value.int .i64 1))] from RH.store 8 rfl 4 (Value.int .i64 1))
  clear kt
  have kt := RH.get 8 rfl
  replace RA := RA.other kt (by decide) 5 (Value.int .i64 41)
  replace RL := RL.other kt (by decide) 5 (Value.int .i64 41)
  replace RB := RB.other kt (by decide) 5 (Value.int .i64 41)
  replace kgA := Blk.far (p := (⟨h8, 5, none⟩ : Addr)) kgA (kgA.apart kt (by decide)) (Value.int .i64 41)
  replace kgB := Blk.far (p := (⟨h8, 5, none⟩ : Addr)) kgB (kgB.apart kt (by decide)) (Value.int .i64 41)
  replace RH := (show Rows _ _ [(h0, #[.int .i64 20, .int .i64 22, .int .i64 3, .int .i64 5, .int .i64 30, .int .i64 33, .int .i64 4, .int .i64 4]), (h1, #[.int .i64 20, .int .i64 22, .int .i64 3, .int .i64 5, .int .i64 30, .int .i64 33, .int .i64 4, .int .i64 4]), (h2, ((#[.int .i64 20, .int .i64 22, .int .i64 3, .int .i64 5, .int .i64 30, .int .i64 33, .int .i64 4, .int .i64 4]).setIfInBounds 0 (Value.int .i64 0)).setIfInBounds 1 (Value.int .i64 3)), (h3, (#[.int .i64 20, .int .i64 22, .int .i64 3, .int .i64 5, .int .i64 30, .int .i64 33, .int .i64 4, .int .i64 4]).setIfInBounds 2 (Value.int .i64 10)), (h4, #[.int .i64 20, .int .i64 22, .int .i64 3, .int .i64 5, .int .i64 30, .int .i64 33, .int .i64 4, .int .i64 31]), (h5, #[.int .i64 20, .int .i64 22, .int .i64 3, .int .i64 5, .int .i64 30, .int .i64 33, .int .i64 4, .int .i64 4]), (h6, #[.int .i64 20, .int .i64 22, .int .i64 3, .int .i64 5, .int .i64 30, .int .i64 33, .int .i64 4, .int .i64 4]), (h7, #[.int .i64 20, .int .i64 22, .int .i64 3, .int .i64 5, .int .i64 30, .int .i64 33, .int .i64 4, .int .i64 4]), (h8, ((((#[.int .i64 20, .int .i64 22, .int .i64 3, .int .i64 5, .int .i64 30, .int .i64 33, .int .i64 4, .int .i64 4]).setIfInBounds 0 (Value.int .i64 1)).setIfInBounds 1 (Value.int .i64 50)).setIfInBounds 4 (Value.int .i64 1)).setIfInBounds 5 (Value.int .i64 41))] from RH.store 8 rfl 5 (Value.int .i64 41))
  clear kt
  replace hLa := later_set (later_set (later_set (later_set (hLa) (⟨h8, 0, none⟩ : Addr) (show w.heap.size ≤ h8 by have := loh8; omega) (Value.int .i64 1)) (⟨h8, 1, none⟩ : Addr) (show w.heap.size ≤ h8 by have := loh8; omega) (Value.int .i64 50)) (⟨h8, 4, none⟩ : Addr) (show w.heap.size ≤ h8 by have := loh8; omega) (Value.int .i64 1)) (⟨h8, 5, none⟩ : Addr) (show w.heap.size ≤ h8 by have := loh8; omega) (Value.int .i64 41)
  rw [← hz] at RB
  rw [← hz] at RH
  rw [← hz] at RA
  rw [← hz] at RL
  rw [← hz] at kgA
  rw [← hz] at kgB
  rw [← hz] at hLa
  clear hz
  have hLz := later_refl z8
  have HRB := hide RB
  have HRH := hide RH
  have HRA := hide RA
  have HRL := hide RL
  have HkgA := hide kgA
  have HkgB := hide kgB
  have HhLa := hide hLa
  clear RB RH RA RL kgA kgB hLa
  have kb := (HRB.out.get 0 rfl).to (show _ = #[Value.int .i64 5, Value.int .i64 60, Value.slice (some ⟨h0, 0, none⟩) 2 2, Value.slice (some ⟨a0, 0, none⟩) 2 2, Value.slice (some ⟨l0, 0, none⟩) 0 3] by kernel_rfl)
  have hkB := fun W (h : Later z8 W) => kb.cells_later W h
  have b0 := fun W (h : Later z8 W) => hkB W h 0
  have b1 := fun W (h : Later z8 W) => hkB W h 1
  have b2 := fun W (h : Later z8 W) => hkB W h 2
  have b3 := fun W (h : Later z8 W) => hkB W h 3
  have b4 := fun W (h : Later z8 W) => hkB W h 4
  simp only [List.getElem?_toArray, List.getElem?_cons_zero, List.getElem?_cons_succ] at b0 b1 b2 b3 b4
  clear hkB kb
  go_wp2_with fail
  refine (chk_clo (n1 := 2) (n2 := 2) (n3 := 0) closetsC rfl (nx_faults.1) rfl rfl ((HRH.out.get 0 rfl).later hLz) ((HRA.out.get 0 rfl).later hLz) ((HRL.out.get 0 rfl).later hLz) (by kernel_rfl) (by kernel_rfl) (by kernel_rfl) rfl rfl rfl (by omega)).mono ?_
  rintro e xc ⟨rfl, hL⟩
  replace hLz := Later.trans hLz hL
  clear hL b0 b1 b2 b3 b4
  have kb := (HRB.out.get 1 rfl).to (show _ = #[Value.int .i64 3, Value.int .i64 100, Value.slice (some ⟨h1, 0, none⟩) 2 2, Value.slice (some ⟨a1, 0, none⟩) 2 2, Value.slice (some ⟨l1, 0, none⟩) 0 3] by kernel_rfl)
  have hkB := fun W (h : Later z8 W) => kb.cells_later W h
  have b0 := fun W (h : Later z8 W) => hkB W h 0
  have b1 := fun W (h : Later z8 W) => hkB W h 1
  have b2 := fun W (h : Later z8 W) => hkB W h 2
  have b3 := fun W (h : Later z8 W) => hkB W h 3
  have b4 := fun W (h : Later z8 W) => hkB W h 4
  simp only [List.getElem?_toArray, List.getElem?_cons_zero, List.getElem?_cons_succ] at b0 b1 b2 b3 b4
  clear hkB kb
  go_wp2_with fail
  refine (chk_clo (n1 := 2) (n2 := 2) (n3 := 0) lastC rfl (nx_faults.2.1) rfl rfl ((HRH.out.get 1 rfl).later hLz) ((HRA.out.get 1 rfl).later hLz) ((HRL.out.get 1 rfl).later hLz) (by kernel_rfl) (by kernel_rfl) (by kernel_rfl) rfl rfl rfl (by omega)).mono ?_
  rintro e xc ⟨rfl, hL⟩
  replace hLz := Later.trans hLz hL
  clear hL b0 b1 b2 b3 b4
  have kb := (HRB.out.get 2 rfl).to (show _ = #[Value.int .i64 3, Value.int .i64 60, Value.slice (some ⟨h2, 0, none⟩) 2 2, Value.slice (some ⟨a2, 0, none⟩) 2 2, Value.slice (some ⟨l2, 0, none⟩) 0 3] by kernel_rfl)
  have hkB := fun W (h : Later z8 W) => kb.cells_later W h
  have b0 := fun W (h : Later z8 W) => hkB W h 0
  have b1 := fun W (h : Later z8 W) => hkB W h 1
  have b2 := fun W (h : Later z8 W) => hkB W h 2
  have b3 := fun W (h : Later z8 W) => hkB W h 3
  have b4 := fun W (h : Later z8 W) => hkB W h 4
  simp only [List.getElem?_toArray, List.getElem?_cons_zero, List.getElem?_cons_succ] at b0 b1 b2 b3 b4
  clear hkB kb
  go_wp2_with fail
  refine (chk_clo (n1 := 2) (n2 := 2) (n3 := 0) dryC rfl (nx_faults.2.2.1) rfl rfl ((HRH.out.get 2 rfl).later hLz) ((HRA.out.get 2 rfl).later hLz) ((HRL.out.get 2 rfl).later hLz) (by kernel_rfl) (by kernel_rfl) (by kernel_rfl) rfl rfl rfl (by omega)).mono ?_
  rintro e xc ⟨rfl, hL⟩
  replace hLz := Later.trans hLz hL
  clear hL b0 b1 b2 b3 b4
  have kb := (HRB.out.get 3 rfl).to (show _ = #[Value.int .i64 3, Value.int .i64 60, Value.slice (some ⟨h3, 0, none⟩) 2 2, Value.slice (some ⟨a3, 0, none⟩) 2 2, Value.slice (some ⟨l3, 0, none⟩) 0 3] by kernel_rfl)
  have hkB := fun W (h : Later z8 W) => kb.cells_later W h
  have b0 := fun W (h : Later z8 W) => hkB W h 0
  have b1 := fun W (h : Later z8 W) => hkB W h 1
  have b2 := fun W (h : Later z8 W) => hkB W h 2
  have b3 := fun W (h : Later z8 W) => hkB W h 3
  have b4 := fun W (h : Later z8 W) => hkB W h 4
  simp only [List.getElem?_toArray, List.getElem?_cons_zero, List.getElem?_cons_succ] at b0 b1 b2 b3 b4
  clear hkB kb
  go_wp2_with fail
  refine (chk_clo (n1 := 2) (n2 := 2) (n3 := 0) wetC rfl (nx_faults.2.2.2.1) rfl rfl ((HRH.out.get 3 rfl).later hLz) ((HRA.out.get 3 rfl).later hLz) ((HRL.out.get 3 rfl).later hLz) (by kernel_rfl) (by kernel_rfl) (by kernel_rfl) rfl rfl rfl (by omega)).mono ?_
  rintro e xc ⟨rfl, hL⟩
  replace hLz := Later.trans hLz hL
  clear hL b0 b1 b2 b3 b4
  have kb := (HRB.out.get 4 rfl).to (show _ = #[Value.int .i64 3, Value.int .i64 60, Value.slice (some ⟨h4, 0, none⟩) 2 2, Value.slice (some ⟨a4, 0, none⟩) 2 2, Value.slice (some ⟨l4, 0, none⟩) 0 3] by kernel_rfl)
  have hkB := fun W (h : Later z8 W) => kb.cells_later W h
  have b0 := fun W (h : Later z8 W) => hkB W h 0
  have b1 := fun W (h : Later z8 W) => hkB W h 1
  have b2 := fun W (h : Later z8 W) => hkB W h 2
  have b3 := fun W (h : Later z8 W) => hkB W h 3
  have b4 := fun W (h : Later z8 W) => hkB W h 4
  simp only [List.getElem?_toArray, List.getElem?_cons_zero, List.getElem?_cons_succ] at b0 b1 b2 b3 b4
  clear hkB kb
  go_wp2_with fail
  refine (chk_clo (n1 := 2) (n2 := 2) (n3 := 0) (twoC 0 31) rfl (nx_faults.2.2.2.2.1) rfl rfl ((HRH.out.get 4 rfl).later hLz) ((HRA.out.get 4 rfl).later hLz) ((HRL.out.get 4 rfl).later hLz) (by kernel_rfl) (by kernel_rfl) (by kernel_rfl) rfl rfl rfl (by omega)).mono ?_
  rintro e xc ⟨rfl, hL⟩
  replace hLz := Later.trans hLz hL
  clear hL b0 b1 b2 b3 b4
  have kb := (HRB.out.get 5 rfl).to (show _ = #[Value.int .i64 3, Value.int .i64 60, Value.slice (some ⟨h5, 0, none⟩) 2 2, Value.slice (some ⟨gA, 0, none⟩) 2 2, Value.slice (some ⟨l5, 0, none⟩) 0 3] by kernel_rfl)
  have hkB := fun W (h : Later z8 W) => kb.cells_later W h
  have b0 := fun W (h : Later z8 W) => hkB W h 0
  have b1 := fun W (h : Later z8 W) => hkB W h 1
  have b2 := fun W (h : Later z8 W) => hkB W h 2
  have b3 := fun W (h : Later z8 W) => hkB W h 3
  have b4 := fun W (h : Later z8 W) => hkB W h 4
  simp only [List.getElem?_toArray, List.getElem?_cons_zero, List.getElem?_cons_succ] at b0 b1 b2 b3 b4
  clear hkB kb
  go_wp2_with fail
  refine (chk_clo (n1 := 2) (n2 := 2) (n3 := 0) hungC rfl (nx_faults.2.2.2.2.2.1) rfl rfl ((HRH.out.get 5 rfl).later hLz) (HkgA.out.later hLz) ((HRL.out.get 5 rfl).later hLz) (by kernel_rfl) (by kernel_rfl) (by kernel_rfl) rfl rfl rfl (by omega)).mono ?_
  rintro e xc ⟨rfl, hL⟩
  replace hLz := Later.trans hLz hL
  clear hL b0 b1 b2 b3 b4
  have kb := (HRB.out.get 6 rfl).to (show _ = #[Value.int .i64 3, Value.int .i64 60, Value.slice (some ⟨h6, 0, none⟩) 2 2, Value.slice (some ⟨a6, 0, none⟩) 2 2, Value.slice (some ⟨l6, 0, none⟩) 1 3] by kernel_rfl)
  have hkB := fun W (h : Later z8 W) => kb.cells_later W h
  have b0 := fun W (h : Later z8 W) => hkB W h 0
  have b1 := fun W (h : Later z8 W) => hkB W h 1
  have b2 := fun W (h : Later z8 W) => hkB W h 2
  have b3 := fun W (h : Later z8 W) => hkB W h 3
  have b4 := fun W (h : Later z8 W) => hkB W h 4
  simp only [List.getElem?_toArray, List.getElem?_cons_zero, List.getElem?_cons_succ] at b0 b1 b2 b3 b4
  clear hkB kb
  go_wp2_with fail
  refine (chk_clo (n1 := 2) (n2 := 2) (n3 := 1) lookC rfl (nx_faults.2.2.2.2.2.2.1) rfl rfl ((HRH.out.get 6 rfl).later hLz) ((HRA.out.get 6 rfl).later hLz) ((HRL.out.get 6 rfl).later hLz) (by kernel_rfl) (by kernel_rfl) (by kernel_rfl) rfl rfl rfl (by omega)).mono ?_
  rintro e xc ⟨rfl, hL⟩
  replace hLz := Later.trans hLz hL
  clear hL b0 b1 b2 b3 b4
  have kb := (HRB.out.get 7 rfl).to (show _ = #[Value.int .i64 3, Value.int .i64 60, Value.slice (some ⟨h7, 0, none⟩) 2 2, Value.slice (some ⟨a7, 0, none⟩) 2 2, Value.slice (some ⟨gB, 0, none⟩) 6 6] by kernel_rfl)
  have hkB := fun W (h : Later z8 W) => kb.cells_later W h
  have b0 := fun W (h : Later z8 W) => hkB W h 0
  have b1 := fun W (h : Later z8 W) => hkB W h 1
  have b2 := fun W (h : Later z8 W) => hkB W h 2
  have b3 := fun W (h : Later z8 W) => hkB W h 3
  have b4 := fun W (h : Later z8 W) => hkB W h 4
  simp only [List.getElem?_toArray, List.getElem?_cons_zero, List.getElem?_cons_succ] at b0 b1 b2 b3 b4
  clear hkB kb
  go_wp2_with fail
  refine (chk_clo (n1 := 2) (n2 := 2) (n3 := 6) manyC rfl (nx_faults.2.2.2.2.2.2.2.1) rfl rfl ((HRH.out.get 7 rfl).later hLz) ((HRA.out.get 7 rfl).later hLz) (HkgB.out.later hLz) (by kernel_rfl) (by kernel_rfl) (by kernel_rfl) rfl rfl rfl (by omega)).mono ?_
  rintro e xc ⟨rfl, hL⟩
  replace hLz := Later.trans hLz hL
  clear hL b0 b1 b2 b3 b4
  have kb := (HRB.out.get 8 rfl).to (show _ = #[Value.int .i64 3, Value.int .i64 60, Value.slice (some ⟨h8, 0, none⟩) 2 2, Value.slice (some ⟨a8, 0, none⟩) 2 2, Value.slice (some ⟨l8, 0, none⟩) 0 3] by kernel_rfl)
  have hkB := fun W (h : Later z8 W) => kb.cells_later W h
  have b0 := fun W (h : Later z8 W) => hkB W h 0
  have b1 := fun W (h : Later z8 W) => hkB W h 1
  have b2 := fun W (h : Later z8 W) => hkB W h 2
  have b3 := fun W (h : Later z8 W) => hkB W h 3
  have b4 := fun W (h : Later z8 W) => hkB W h 4
  simp only [List.getElem?_toArray, List.getElem?_cons_zero, List.getElem?_cons_succ] at b0 b1 b2 b3 b4
  clear hkB kb
  go_wp2_with fail
  refine (chk_clo (n1 := 2) (n2 := 2) (n3 := 0) sizesC rfl (nx_faults.2.2.2.2.2.2.2.2.1) rfl rfl ((HRH.out.get 8 rfl).later hLz) ((HRA.out.get 8 rfl).later hLz) ((HRL.out.get 8 rfl).later hLz) (by kernel_rfl) (by kernel_rfl) (by kernel_rfl) rfl rfl rfl (by omega)).mono ?_
  rintro e xc ⟨rfl, hL⟩
  replace hLz := Later.trans hLz hL
  clear hL b0 b1 b2 b3 b4
  go_wp2_with fail
  refine (check_c (c := noneC) ⟨none, 0, none, 0, none, 0, rfl, noneC_cv _, Nat.le_refl _, Nat.le_refl _⟩ rfl (nx_faults.2.2.2.2.2.2.2.2.2)).mono ?_
  rintro e xc ⟨rfl, hL⟩
  have hLa := Later.trans HhLa.out (Later.trans hLz hL)
  clear hL hLz
  go_wp2_with fail
  refine (awake_calls _).mono ?_
  rintro e xc ⟨rfl, hL⟩
  go_wp2_with fail
  go_ret
  exact ⟨rfl, Later.trans hLa hL⟩
set_option maxRecDepth 100000 in
set_option maxHeartbeats 100000000 in
theorem lawNames_calls (w : World) : Calls Try.prog 22 #[] w fun e w' => e = .returned (.bool true) ∧ Later w w' := by
  have hLa : Later w w := later_refl _
  go_enter Try.func22, Try.ntmps22
  go_wp2_with fail
  refine (two_c 0 4 _ (by omega)).mono ?_
  rintro e wx ⟨vt, rfl, hL, ht⟩
  replace hLa := Later.trans hLa hL
  clear hL
  go_wp2_with fail
  refine (apart_is _).mono ?_
  rintro e wx ⟨vp, rfl, hL, hp⟩
  replace ht := ht.later hL
  replace hLa := Later.trans hLa hL
  clear hL
  go_wp2_with fail
  refine (play_c (ht.later (later_alloc (later_refl _) _)) (hp.later (later_alloc (later_refl _) _)) (newList2 _ _ _) rfl (by simp) (by simp) nx1 nx2).mono ?_
  rintro e wx ⟨v1, rfl, hL, h1⟩
  replace hL := later_of_alloc hL
  replace hLa := Later.trans hLa hL
  clear hL
  clear ht hp
  go_wp2_with fail
  refine (two_c 0 4 _ (by omega)).mono ?_
  rintro e wx ⟨vt, rfl, hL, ht⟩
  replace h1 := h1.later hL
  replace hLa := Later.trans hLa hL
  clear hL
  go_wp2_with fail
  refine (beside_is _).mono ?_
  rintro e wx ⟨vp, rfl, hL, hp⟩
  replace h1 := h1.later hL
  replace ht := ht.later hL
  replace hLa := Later.trans hLa hL
  clear hL
  go_wp2_with fail
  refine (bounds_c ht hp rfl (by simp) nx3 nx4).mono ?_
  rintro e wx ⟨A3, k3, rfl, hL, h3⟩
  replace h1 := h1.later hL
  replace hLa := Later.trans hLa hL
  clear hL
  clear ht hp
  go_wp2_with fail
  refine (two_c 0 4 _ (by omega)).mono ?_
  rintro e wx ⟨vt, rfl, hL, ht⟩
  replace h1 := h1.later hL
  replace h3 := h3.later hL
  replace hLa := Later.trans hLa hL
  clear hL
  go_wp2_with fail
  refine (bounds_c (ht.later (later_alloc (later_refl _) _)) (newList2 _ _ _) rfl (by simp) nx5 nx6).mono ?_
  rintro e wx ⟨A5, k5, rfl, hL, h5⟩
  replace hL := later_of_alloc hL
  replace h1 := h1.later hL
  replace h3 := h3.later hL
  replace hLa := Later.trans hLa hL
  clear hL
  clear ht
  go_wp2_with fail
  refine (two_c 0 4 _ (by omega)).mono ?_
  rintro e wx ⟨vt, rfl, hL, ht⟩
  replace h1 := h1.later hL
  replace h3 := h3.later hL
  replace h5 := h5.later hL
  replace hLa := Later.trans hLa hL
  clear hL
  go_wp2_with fail
  refine (beside_is _).mono ?_
  rintro e wx ⟨vp, rfl, hL, hp⟩
  replace h1 := h1.later hL
  replace h3 := h3.later hL
  replace h5 := h5.later hL
  replace ht := ht.later hL
  replace hLa := Later.trans hLa hL
  clear hL
  go_wp2_with fail
  refine (right_c ht hp rfl (by simp) nx7).mono ?_
  rintro e wx ⟨rfl, hL⟩
  replace h1 := h1.later hL
  replace h3 := h3.later hL
  replace h5 := h5.later hL
  replace hLa := Later.trans hLa hL
  clear hL
  clear ht hp
  go_wp2_with fail
  refine (two_c 0 4 _ (by omega)).mono ?_
  rintro e wx ⟨vt, rfl, hL, ht⟩
  replace h1 := h1.later hL
  replace h3 := h3.later hL
  replace h5 := h5.later hL
  replace hLa := Later.trans hLa hL
  clear hL
  go_wp2_with fail
  refine (beside_is _).mono ?_
  rintro e wx ⟨vp, rfl, hL, hp⟩
  replace h1 := h1.later hL
  replace h3 := h3.later hL
  replace h5 := h5.later hL
  replace ht := ht.later hL
  replace hLa := Later.trans hLa hL
  clear hL
  go_wp2_with fail
  refine (right_c ht hp rfl (by simp) nx8).mono ?_
  rintro e wx ⟨rfl, hL⟩
  replace h1 := h1.later hL
  replace h3 := h3.later hL
  replace h5 := h5.later hL
  replace hLa := Later.trans hLa hL
  clear hL
  clear ht hp
  go_wp2_with fail
  refine (two_c 0 4 _ (by omega)).mono ?_
  rintro e wx ⟨vt, rfl, hL, ht⟩
  replace h1 := h1.later hL
  replace h3 := h3.later hL
  replace h5 := h5.later hL
  replace hLa := Later.trans hLa hL
  clear hL
  go_wp2_with fail
  refine (beside_is _).mono ?_
  rintro e wx ⟨vp, rfl, hL, hp⟩
  replace h1 := h1.later hL
  replace h3 := h3.later hL
  replace h5 := h5.later hL
  replace ht := ht.later hL
  replace hLa := Later.trans hLa hL
  clear hL
  go_wp2_with fail
  refine (good_c ht hp rfl (by simp) nx9).mono ?_
  rintro e wx ⟨rfl, hL⟩
  replace h1 := h1.later hL
  replace h3 := h3.later hL
  replace h5 := h5.later hL
  replace hLa := Later.trans hLa hL
  clear hL
  clear ht hp
  go_wp2_with fail
  have b11 := Blk.new wx 61 #[.int .i64 26, .int .i64 29]
  have hL := later_alloc (later_refl wx) (.cells #[.int .i64 26, .int .i64 29] 61)
  obtain ⟨g11, hg⟩ : ∃ g, g = wx.heap.size := ⟨_, rfl⟩
  rw [← hg] at b11
  simp only [← hg]
  clear hg
  generalize wx.alloc _ = wx at hL b11 ⊢
  (try replace hLq := Later.trans hLq hL)
  replace h1 := h1.later hL
  replace h3 := h3.later hL
  replace h5 := h5.later hL
  replace hLa := Later.trans hLa hL
  clear hL
  refine (two_is 0 4 _ (by omega)).mono ?_
  rintro e wx ⟨vt, rfl, hL, ht⟩
  replace h1 := h1.later hL
  replace h3 := h3.later hL
  replace h5 := h5.later hL
  replace b11 := b11.later hL
  replace hLa := Later.trans hLa hL
  clear hL
  obtain ⟨B1, j1, B2, j2, B3, j3, rfl, hct, hj2, hj3⟩ := ht
  go_wp2_with fail
  refine (best_c (c := smallC) ⟨B1, j1, B2, j2, B3, j3, rfl, ⟨(hct.later (later_alloc (later_refl _) _)).hs, (hct.later (later_alloc (later_refl _) _)).hu, (hct.later (later_alloc (later_refl _) _)).lk⟩, hj2, hj3⟩ rfl nx10).mono ?_
  rintro e wx ⟨v14, rfl, hL, h14⟩
  replace hL := later_of_alloc hL
  replace h1 := h1.later hL
  replace h3 := h3.later hL
  replace h5 := h5.later hL
  replace b11 := b11.later hL
  replace hLa := Later.trans hLa hL
  clear hL
  clear hct hj2 hj3
  go_wp2_with fail
  refine (two_c 0 4 _ (by omega)).mono ?_
  rintro e wx ⟨vt, rfl, hL, ht⟩
  replace h1 := h1.later hL
  replace h3 := h3.later hL
  replace h5 := h5.later hL
  replace b11 := b11.later hL
  replace h14 := h14.later hL
  replace hLa := Later.trans hLa hL
  clear hL
  go_wp2_with fail
  refine (apart_is _).mono ?_
  rintro e wx ⟨vp, rfl, hL, hp⟩
  replace h1 := h1.later hL
  replace h3 := h3.later hL
  replace h5 := h5.later hL
  replace b11 := b11.later hL
  replace h14 := h14.later hL
  replace ht := ht.later hL
  replace hLa := Later.trans hLa hL
  clear hL
  go_wp2_with fail
  refine (stuck_c ht hp rfl (by simp) nx11).mono ?_
  rintro e wx ⟨rfl, hL⟩
  replace h1 := h1.later hL
  replace h3 := h3.later hL
  replace h5 := h5.later hL
  replace b11 := b11.later hL
  replace h14 := h14.later hL
  replace hLa := Later.trans hLa hL
  clear hL
  clear ht hp
  go_wp2_with fail
  refine (two_c 0 2 _ (by omega)).mono ?_
  rintro e wx ⟨vt, rfl, hL, ht⟩
  replace h1 := h1.later hL
  replace h3 := h3.later hL
  replace h5 := h5.later hL
  replace b11 := b11.later hL
  replace h14 := h14.later hL
  replace hLa := Later.trans hLa hL
  clear hL
  go_wp2_with fail
  refine (best_c ht rfl nx12).mono ?_
  rintro e wx ⟨v19, rfl, hL, _⟩
  replace h1 := h1.later hL
  replace h3 := h3.later hL
  replace h5 := h5.later hL
  replace b11 := b11.later hL
  replace h14 := h14.later hL
  replace hLa := Later.trans hLa hL
  clear hL
  clear ht
  go_wp2_with fail
  refine (two_c 1 2 _ (by omega)).mono ?_
  rintro e wx ⟨vt, rfl, hL, ht⟩
  replace h1 := h1.later hL
  replace h3 := h3.later hL
  replace h5 := h5.later hL
  replace b11 := b11.later hL
  replace h14 := h14.later hL
  replace hLa := Later.trans hLa hL
  clear hL
  go_wp2_with fail
  refine (beside_is _).mono ?_
  rintro e wx ⟨vp, rfl, hL, hp⟩
  replace h1 := h1.later hL
  replace h3 := h3.later hL
  replace h5 := h5.later hL
  replace b11 := b11.later hL
  replace h14 := h14.later hL
  replace ht := ht.later hL
  replace hLa := Later.trans hLa hL
  clear hL
  go_wp2_with fail
  refine (good_c ht hp rfl (by simp) nx13).mono ?_
  rintro e wx ⟨rfl, hL⟩
  replace h1 := h1.later hL
  replace h3 := h3.later hL
  replace h5 := h5.later hL
  replace b11 := b11.later hL
  replace h14 := h14.later hL
  replace hLa := Later.trans hLa hL
  clear hL
  clear ht hp
  obtain ⟨r3b, r3o, rfl, q3⟩ := rg2 h3
  obtain ⟨r5b, r5o, rfl, q5⟩ := rg2 h5
  clear h3 h5
  have hLq : Later wx wx := later_refl _
  replace q3 := fun {Y : World} (hY : Later wx Y) X (h : Later Y X) => q3 X (Later.trans hY h)
  replace q5 := fun {Y : World} (hY : Later wx Y) X (h : Later Y X) => q5 X (Later.trans hY h)
  go_upto_region 13 with fail
  have b22 := Blk.new wx 61 #[.int .i64 35, .int .i64 35]
  have hL := later_alloc (later_refl wx) (.cells #[.int .i64 35, .int .i64 35] 61)
  obtain ⟨g22, hg⟩ : ∃ g, g = wx.heap.size := ⟨_, rfl⟩
  rw [← hg] at b22
  simp only [← hg]
  clear hg
  generalize wx.alloc _ = wx at hL b22 ⊢
  (try replace hLq := Later.trans hLq hL)
  replace h1 := h1.later hL
  replace b11 := b11.later hL
  replace h14 := h14.later hL
  replace hLa := Later.trans hLa hL
  clear hL
  have hT : Later wx wx := later_refl _
  have c11 := fun X (h : Later wx X) => (b11.later h).cell
  have c22 := fun X (h : Later wx X) => (b22.later h).cell
  have k110 := fun X h => c11 X h 0
  have k111 := fun X h => c11 X h 1
  have k220 := fun X h => c22 X h 0
  have k221 := fun X h => c22 X h 1
  simp only [List.getElem?_toArray, List.getElem?_cons_zero, List.getElem?_cons_succ] at k110 k111 k220 k221
  replace q3 := q3 hLq
  replace q5 := q5 hLq
  clear c11 c22 b11 b22 hLq
  simp only [List.append_eq, List.cons_append, List.nil_append]
  have hS : Later wx wx.drew := later_drew (later_refl _)
  go_cut [205] from 205 to 205 (fun v W => v = .bool false ∧ Later w W)
  case first =>
    refine wp_region_lin (w0 := wx) 109 [] rely_later (by kernel_rfl) (by kernel_rfl) (by kernel_rfl) (by kernel_rfl) (hS) (.inl rfl) ?_
    simp only [List.take_succ_cons, List.take_zero, List.drop_succ_cons, List.drop_zero]
    refine lin_det (v := ?_) (F' := ?_) (by rfl) (fun _ => by rfl) ?_ ?_ ?_
    rotate_left 2
    focus (intro xs X hX hdep; clear hdep; (try dsimp only); go_simp; (try (first | with_reducible rfl | exact ⟨rfl, rfl⟩ | (fail))))
    focus (intro xs; (try simp only [Act.put, List.setIfInBounds_toArray, List.set_cons_zero, List.set_cons_succ, Nat.reduceAdd]); rfl)
    refine lin_det (v := ?_) (F' := ?_) (by rfl) (fun _ => by rfl) ?_ ?_ ?_
    rotate_left 2
    focus (intro xs X hX hdep; clear hdep; (try dsimp only); go_simp; (try (first | with_reducible rfl | exact ⟨rfl, rfl⟩ | (fail))))
    focus (intro xs; (try simp only [Act.put, List.setIfInBounds_toArray, List.set_cons_zero, List.set_cons_succ, Nat.reduceAdd]); rfl)
    refine lin_det (v := ?_) (F' := ?_) (by rfl) (fun _ => by rfl) ?_ ?_ ?_
    rotate_left 2
    focus (intro xs X hX hdep; clear hdep; (try dsimp only); go_simp; (try (first | with_reducible rfl | exact ⟨rfl, rfl⟩ | (fail))))
    focus (intro xs; (try simp only [Act.put, List.setIfInBounds_toArray, List.set_cons_zero, List.set_cons_succ, Nat.reduceAdd]); rfl)
    refine lin_det (v := ?_) (F' := ?_) (by rfl) (fun _ => by rfl) ?_ ?_ ?_
    rotate_left 2
    focus (intro xs X hX hdep; clear hdep; (try dsimp only); go_simp; (try (first | with_reducible rfl | exact ⟨rfl, rfl⟩ | (fail))))
    focus (intro xs; (try simp only [Act.put, List.setIfInBounds_toArray, List.set_cons_zero, List.set_cons_succ, Nat.reduceAdd]); rfl)
    refine lin_any (fun v W => IsList [21, 33] W v) false (fun v W W' k h => IsList.later h k) (F' := ?_) (by rfl) (fun _ => by rfl) ?_ ?_ ?_
    rotate_left 1
    focus (intro xs X hX hdep; skip; clear hdep; intro K hK; (try dsimp only); go_simp; (exact hK.out _ _ rfl (later_alloc (later_refl _) _) (newList2 _ _ _) (fun h => by cases h)))
    focus (intro xs; (try simp only [Act.put, List.setIfInBounds_toArray, List.set_cons_zero, List.set_cons_succ, Nat.reduceAdd]); rfl)
    refine lin_det_last (j := 4) (v := ?_) (F' := ?_) (by rfl) (fun _ => by rfl) (by kernel_rfl) (by kernel_rfl) ?_ ?_ ?_
    rotate_left 2
    focus (intro xs X hX hd; replace hd : IsList [21, 33] X (xs 4) := hd; (try dsimp only); go_simp; exact same_is (h1.later hX) hd (by simp))
    focus (intro xs; (try simp only [Act.put, List.setIfInBounds_toArray, List.set_cons_zero, List.set_cons_succ, Nat.reduceAdd]); rfl)
    refine lin_det (v := ?_) (F' := ?_) (by rfl) (fun _ => by rfl) ?_ ?_ ?_
    rotate_left 2
    focus (intro xs X hX hdep; clear hdep; (try dsimp only); go_simp; (try (first | with_reducible rfl | exact ⟨rfl, rfl⟩ | (fail))))
    focus (intro xs; (try simp only [Act.put, List.setIfInBounds_toArray, List.set_cons_zero, List.set_cons_succ, Nat.reduceAdd]); rfl)
    refine lin_det (v := ?_) (F' := ?_) (by rfl) (fun _ => by rfl) ?_ ?_ ?_
    rotate_left 2
    focus (intro xs X hX hdep; clear hdep; (try dsimp only); go_simp; (try (first | with_reducible rfl | exact ⟨rfl, rfl⟩ | (fail))))
    focus (intro xs; (try simp only [Act.put, List.setIfInBounds_toArray, List.set_cons_zero, List.set_cons_succ, Nat.reduceAdd]); rfl)
    refine lin_det (v := ?_) (F' := ?_) (by rfl) (fun _ => by rfl) ?_ ?_ ?_
    rotate_left 2
    focus (intro xs X hX hdep; clear hdep; (try dsimp only); go_simp; (try (first | with_reducible rfl | exact ⟨rfl, rfl⟩ | (fail))))
    focus (intro xs; (try simp only [Act.put, List.setIfInBounds_toArray, List.set_cons_zero, List.set_cons_succ, Nat.reduceAdd]); rfl)
    refine lin_det (v := ?_) (F' := ?_) (by rfl) (fun _ => by rfl) ?_ ?_ ?_
    rotate_left 2
    focus (intro xs X hX hdep; clear hdep; (try dsimp only); go_simp; (try (first | with_reducible rfl | exact ⟨rfl, rfl⟩ | (fail))))
    focus (intro xs; (try simp only [Act.put, List.setIfInBounds_toArray, List.set_cons_zero, List.set_cons_succ, Nat.reduceAdd]); rfl)
    refine lin_det (v := ?_) (F' := ?_) (by rfl) (fun _ => by rfl) ?_ ?_ ?_
    rotate_left 2
    focus (intro xs X hX hdep; clear hdep; (try dsimp only); go_simp; (try (first | with_reducible rfl | exact ⟨rfl, rfl⟩ | (fail))))
    focus (intro xs; (try simp only [Act.put, List.setIfInBounds_toArray, List.set_cons_zero, List.set_cons_succ, Nat.reduceAdd]); rfl)
    refine lin_det (v := ?_) (F' := ?_) (by rfl) (fun _ => by rfl) ?_ ?_ ?_
    rotate_left 2
    focus (intro xs X hX hdep; clear hdep; (try dsimp only); go_simp; (try (first | with_reducible rfl | exact ⟨rfl, rfl⟩ | (fail))))
    focus (intro xs; (try simp only [Act.put, List.setIfInBounds_toArray, List.set_cons_zero, List.set_cons_succ, Nat.reduceAdd]); rfl)
    refine lin_det (v := ?_) (F' := ?_) (by rfl) (fun _ => by rfl) ?_ ?_ ?_
    rotate_left 2
    focus (intro xs X hX hdep; clear hdep; (try dsimp only); go_simp; (try (first | with_reducible rfl | exact ⟨rfl, rfl⟩ | (fail))))
    focus (intro xs; (try simp only [Act.put, List.setIfInBounds_toArray, List.set_cons_zero, List.set_cons_succ, Nat.reduceAdd]); rfl)
    refine lin_det (v := ?_) (F' := ?_) (by rfl) (fun _ => by rfl) ?_ ?_ ?_
    rotate_left 2
    focus (intro xs X hX hdep; clear hdep; (try dsimp only); go_simp; (try (first | with_reducible rfl | exact ⟨rfl, rfl⟩ | (fail))))
    focus (intro xs; (try simp only [Act.put, List.setIfInBounds_toArray, List.set_cons_zero, List.set_cons_succ, Nat.reduceAdd]); rfl)
    refine lin_det (v := ?_) (F' := ?_) (by rfl) (fun _ => by rfl) ?_ ?_ ?_
    rotate_left 2
    focus (intro xs X hX hdep; clear hdep; (try dsimp only); go_simp; (try (first | with_reducible rfl | exact ⟨rfl, rfl⟩ | (fail))))
    focus (intro xs; (try simp only [Act.put, List.setIfInBounds_toArray, List.set_cons_zero, List.set_cons_succ, Nat.reduceAdd]); rfl)
    refine lin_det (v := ?_) (F' := ?_) (by rfl) (fun _ => by rfl) ?_ ?_ ?_
    rotate_left 2
    focus (intro xs X hX hdep; clear hdep; (try dsimp only); go_simp; (try (first | with_reducible rfl | exact ⟨rfl, rfl⟩ | (fail))))
    focus (intro xs; (try simp only [Act.put, List.setIfInBounds_toArray, List.set_cons_zero, List.set_cons_succ, Nat.reduceAdd]); rfl)
    refine lin_det (v := ?_) (F' := ?_) (by rfl) (fun _ => by rfl) ?_ ?_ ?_
    rotate_left 2
    focus (intro xs X hX hdep; clear hdep; (try dsimp only); go_simp; (try (first | with_reducible rfl | exact ⟨rfl, rfl⟩ | (fail))))
    focus (intro xs; (try simp only [Act.put, List.setIfInBounds_toArray, List.set_cons_zero, List.set_cons_succ, Nat.reduceAdd]); rfl)
    refine lin_det (v := ?_) (F' := ?_) (by rfl) (fun _ => by rfl) ?_ ?_ ?_
    rotate_left 2
    focus (intro xs X hX hdep; clear hdep; (try dsimp only); go_simp; (try (first | with_reducible rfl | exact ⟨rfl, rfl⟩ | (fail))))
    focus (intro xs; (try simp only [Act.put, List.setIfInBounds_toArray, List.set_cons_zero, List.set_cons_succ, Nat.reduceAdd]); rfl)
    refine lin_det (v := ?_) (F' := ?_) (by rfl) (fun _ => by rfl) ?_ ?_ ?_
    rotate_left 2
    focus (intro xs X hX hdep; clear hdep; (try dsimp only); go_simp; (try (first | with_reducible rfl | exact ⟨rfl, rfl⟩ | (fail))))
    focus (intro xs; (try simp only [Act.put, List.setIfInBounds_toArray, List.set_cons_zero, List.set_cons_succ, Nat.reduceAdd]); rfl)
    refine lin_det (v := ?_) (F' := ?_) (by rfl) (fun _ => by rfl) ?_ ?_ ?_
    rotate_left 2
    focus (intro xs X hX hdep; clear hdep; (try dsimp only); go_simp; (try (first | with_reducible rfl | exact ⟨rfl, rfl⟩ | (fail))))
    focus (intro xs; (try simp only [Act.put, List.setIfInBounds_toArray, List.set_cons_zero, List.set_cons_succ, Nat.reduceAdd]); rfl)
    refine lin_det (v := ?_) (F' := ?_) (by rfl) (fun _ => by rfl) ?_ ?_ ?_
    rotate_left 2
    focus (intro xs X hX hdep; clear hdep; (try dsimp only); go_simp; (try (first | with_reducible rfl | exact ⟨rfl, rfl⟩ | (fail))))
    focus (intro xs; (try simp only [Act.put, List.setIfInBounds_toArray, List.set_cons_zero, List.set_cons_succ, Nat.reduceAdd]); rfl)
    refine lin_det (v := ?_) (F' := ?_) (by rfl) (fun _ => by rfl) ?_ ?_ ?_
    rotate_left 2
    focus (intro xs X hX hdep; clear hdep; (try dsimp only); go_simp; (try (first | with_reducible rfl | exact ⟨rfl, rfl⟩ | (exact between_calls 24 26 X))))
    focus (intro xs; (try simp only [Act.put, List.setIfInBounds_toArray, List.set_cons_zero, List.set_cons_succ, Nat.reduceAdd]); rfl)
    refine lin_det (v := ?_) (F' := ?_) (by rfl) (fun _ => by rfl) ?_ ?_ ?_
    rotate_left 2
    focus (intro xs X hX hdep; clear hdep; (try dsimp only); go_simp; (try (first | with_reducible rfl | exact ⟨rfl, rfl⟩ | (fail))))
    focus (intro xs; (try simp only [Act.put, List.setIfInBounds_toArray, List.set_cons_zero, List.set_cons_succ, Nat.reduceAdd]); rfl)
    refine lin_det (v := ?_) (F' := ?_) (by rfl) (fun _ => by rfl) ?_ ?_ ?_
    rotate_left 2
    focus (intro xs X hX hdep; clear hdep; (try dsimp only); go_simp; (try (first | with_reducible rfl | exact ⟨rfl, rfl⟩ | (fail))))
    focus (intro xs; (try simp only [Act.put, List.setIfInBounds_toArray, List.set_cons_zero, List.set_cons_succ, Nat.reduceAdd]); rfl)
    refine lin_det (v := ?_) (F' := ?_) (by rfl) (fun _ => by rfl) ?_ ?_ ?_
    rotate_left 2
    focus (intro xs X hX hdep; clear hdep; (try dsimp only); go_simp; (try (first | with_reducible rfl | exact ⟨rfl, rfl⟩ | (fail))))
    focus (intro xs; (try simp only [Act.put, List.setIfInBounds_toArray, List.set_cons_zero, List.set_cons_succ, Nat.reduceAdd]); rfl)
    refine lin_det (v := ?_) (F' := ?_) (by rfl) (fun _ => by rfl) ?_ ?_ ?_
    rotate_left 2
    focus (intro xs X hX hdep; clear hdep; (try dsimp only); go_simp; (try (first | with_reducible rfl | exact ⟨rfl, rfl⟩ | (fail))))
    focus (intro xs; (try simp only [Act.put, List.setIfInBounds_toArray, List.set_cons_zero, List.set_cons_succ, Nat.reduceAdd]); rfl)
    refine lin_det (v := ?_) (F' := ?_) (by rfl) (fun _ => by rfl) ?_ ?_ ?_
    rotate_left 2
    focus (intro xs X hX hdep; clear hdep; (try dsimp only); go_simp; (try (first | with_reducible rfl | exact ⟨rfl, rfl⟩ | (fail))))
    focus (intro xs; (try simp only [Act.put, List.setIfInBounds_toArray, List.set_cons_zero, List.set_cons_succ, Nat.reduceAdd]); rfl)
    refine lin_det (v := ?_) (F' := ?_) (by rfl) (fun _ => by rfl) ?_ ?_ ?_
    rotate_left 2
    focus (intro xs X hX hdep; clear hdep; (try dsimp only); go_simp; (try (first | with_reducible rfl | exact ⟨rfl, rfl⟩ | (fail))))
    focus (intro xs; (try simp only [Act.put, List.setIfInBounds_toArray, List.set_cons_zero, List.set_cons_succ, Nat.reduceAdd]); rfl)
    refine lin_det (v := ?_) (F' := ?_) (by rfl) (fun _ => by rfl) ?_ ?_ ?_
    rotate_left 2
    focus (intro xs X hX hdep; clear hdep; (try dsimp only); go_simp; (try (first | with_reducible rfl | exact ⟨rfl, rfl⟩ | (exact between_calls 33 36 X))))
    focus (intro xs; (try simp only [Act.put, List.setIfInBounds_toArray, List.set_cons_zero, List.set_cons_succ, Nat.reduceAdd]); rfl)
    refine lin_det (v := ?_) (F' := ?_) (by rfl) (fun _ => by rfl) ?_ ?_ ?_
    rotate_left 2
    focus (intro xs X hX hdep; clear hdep; (try dsimp only); go_simp; (try (first | with_reducible rfl | exact ⟨rfl, rfl⟩ | (fail))))
    focus (intro xs; (try simp only [Act.put, List.setIfInBounds_toArray, List.set_cons_zero, List.set_cons_succ, Nat.reduceAdd]); rfl)
    refine lin_det (v := ?_) (F' := ?_) (by rfl) (fun _ => by rfl) ?_ ?_ ?_
    rotate_left 2
    focus (intro xs X hX hdep; clear hdep; (try dsimp only); go_simp; (try (first | with_reducible rfl | exact ⟨rfl, rfl⟩ | (fail))))
    focus (intro xs; (try simp only [Act.put, List.setIfInBounds_toArray, List.set_cons_zero, List.set_cons_succ, Nat.reduceAdd]); rfl)
    refine lin_det (v := ?_) (F' := ?_) (by rfl) (fun _ => by rfl) ?_ ?_ ?_
    rotate_left 2
    focus (intro xs X hX hdep; clear hdep; (try dsimp only); go_simp; (try (first | with_reducible rfl | exact ⟨rfl, rfl⟩ | (fail))))
    focus (intro xs; (try simp only [Act.put, List.setIfInBounds_toArray, List.set_cons_zero, List.set_cons_succ, Nat.reduceAdd]); rfl)
    refine lin_det (v := ?_) (F' := ?_) (by rfl) (fun _ => by rfl) ?_ ?_ ?_
    rotate_left 2
    focus (intro xs X hX hdep; clear hdep; (try dsimp only); go_simp; (try (first | with_reducible rfl | exact ⟨rfl, rfl⟩ | (fail))))
    focus (intro xs; (try simp only [Act.put, List.setIfInBounds_toArray, List.set_cons_zero, List.set_cons_succ, Nat.reduceAdd]); rfl)
    refine lin_det (v := ?_) (F' := ?_) (by rfl) (fun _ => by rfl) ?_ ?_ ?_
    rotate_left 2
    focus (intro xs X hX hdep; clear hdep; (try dsimp only); go_simp; (try (first | with_reducible rfl | exact ⟨rfl, rfl⟩ | (fail))))
    focus (intro xs; (try simp only [Act.put, List.setIfInBounds_toArray, List.set_cons_zero, List.set_cons_succ, Nat.reduceAdd]); rfl)
    refine lin_det (v := ?_) (F' := ?_) (by rfl) (fun _ => by rfl) ?_ ?_ ?_
    rotate_left 2
    focus (intro xs X hX hdep; clear hdep; (try dsimp only); go_simp; (try (first | with_reducible rfl | exact ⟨rfl, rfl⟩ | (fail))))
    focus (intro xs; (try simp only [Act.put, List.setIfInBounds_toArray, List.set_cons_zero, List.set_cons_succ, Nat.reduceAdd]); rfl)
    refine lin_det (v := ?_) (F' := ?_) (by rfl) (fun _ => by rfl) ?_ ?_ ?_
    rotate_left 2
    focus (intro xs X hX hdep; clear hdep; (try dsimp only); go_simp; (try (first | with_reducible rfl | exact ⟨rfl, rfl⟩ | (fail))))
    focus (intro xs; (try simp only [Act.put, List.setIfInBounds_toArray, List.set_cons_zero, List.set_cons_succ, Nat.reduceAdd]); rfl)
    refine lin_det (v := ?_) (F' := ?_) (by rfl) (fun _ => by rfl) ?_ ?_ ?_
    rotate_left 2
    focus (intro xs X hX hdep; clear hdep; (try dsimp only); go_simp; (try (first | with_reducible rfl | exact ⟨rfl, rfl⟩ | (fail))))
    focus (intro xs; (try simp only [Act.put, List.setIfInBounds_toArray, List.set_cons_zero, List.set_cons_succ, Nat.reduceAdd]); rfl)
    refine lin_det (v := ?_) (F' := ?_) (by rfl) (fun _ => by rfl) ?_ ?_ ?_
    rotate_left 2
    focus (intro xs X hX hdep; clear hdep; (try dsimp only); go_simp; (try (first | with_reducible rfl | exact ⟨rfl, rfl⟩ | (fail))))
    focus (intro xs; (try simp only [Act.put, List.setIfInBounds_toArray, List.set_cons_zero, List.set_cons_succ, Nat.reduceAdd]); rfl)
    refine lin_det (v := ?_) (F' := ?_) (by rfl) (fun _ => by rfl) ?_ ?_ ?_
    rotate_left 2
    focus (intro xs X hX hdep; clear hdep; (try dsimp only); go_simp; (try (first | with_reducible rfl | exact ⟨rfl, rfl⟩ | (fail))))
    focus (intro xs; (try simp only [Act.put, List.setIfInBounds_toArray, List.set_cons_zero, List.set_cons_succ, Nat.reduceAdd]); rfl)
    refine lin_det (v := ?_) (F' := ?_) (by rfl) (fun _ => by rfl) ?_ ?_ ?_
    rotate_left 2
    focus (intro xs X hX hdep; clear hdep; (try dsimp only); go_simp; (try (first | with_reducible rfl | exact ⟨rfl, rfl⟩ | (fail))))
    focus (intro xs; (try simp only [Act.put, List.setIfInBounds_toArray, List.set_cons_zero, List.set_cons_succ, Nat.reduceAdd]); rfl)
    refine lin_det (v := ?_) (F' := ?_) (by rfl) (fun _ => by rfl) ?_ ?_ ?_
    rotate_left 2
    focus (intro xs X hX hdep; clear hdep; (try dsimp only); go_simp; (try (first | with_reducible rfl | exact ⟨rfl, rfl⟩ | (fail))))
    focus (intro xs; (try simp only [Act.put, List.setIfInBounds_toArray, List.set_cons_zero, List.set_cons_succ, Nat.reduceAdd]); rfl)
    refine lin_det (v := ?_) (F' := ?_) (by rfl) (fun _ => by rfl) ?_ ?_ ?_
    rotate_left 2
    focus (intro xs X hX hdep; clear hdep; (try dsimp only); go_simp; (try (first | with_reducible rfl | exact ⟨rfl, rfl⟩ | (fail))))
    focus (intro xs; (try simp only [Act.put, List.setIfInBounds_toArray, List.set_cons_zero, List.set_cons_succ, Nat.reduceAdd]); rfl)
    refine lin_det (v := ?_) (F' := ?_) (by rfl) (fun _ => by rfl) ?_ ?_ ?_
    rotate_left 2
    focus (intro xs X hX hdep; clear hdep; (try dsimp only); go_simp; (try (first | with_reducible rfl | exact ⟨rfl, rfl⟩ | (fail))))
    focus (intro xs; (try simp only [Act.put, List.setIfInBounds_toArray, List.set_cons_zero, List.set_cons_succ, Nat.reduceAdd]); rfl)
    refine lin_det (v := ?_) (F' := ?_) (by rfl) (fun _ => by rfl) ?_ ?_ ?_
    rotate_left 2
    focus (intro xs X hX hdep; clear hdep; (try dsimp only); go_simp; (try (first | with_reducible rfl | exact ⟨rfl, rfl⟩ | (fail))))
    focus (intro xs; (try simp only [Act.put, List.setIfInBounds_toArray, List.set_cons_zero, List.set_cons_succ, Nat.reduceAdd]); rfl)
    refine lin_det (v := ?_) (F' := ?_) (by rfl) (fun _ => by rfl) ?_ ?_ ?_
    rotate_left 2
    focus (intro xs X hX hdep; clear hdep; (try dsimp only); go_simp; (try (first | with_reducible rfl | exact ⟨rfl, rfl⟩ | (exact between_calls 20 22 X))))
    focus (intro xs; (try simp only [Act.put, List.setIfInBounds_toArray, List.set_cons_zero, List.set_cons_succ, Nat.reduceAdd]); rfl)
    refine lin_det (v := ?_) (F' := ?_) (by rfl) (fun _ => by rfl) ?_ ?_ ?_
    rotate_left 2
    focus (intro xs X hX hdep; clear hdep; (try dsimp only); go_simp; (try (first | with_reducible rfl | exact ⟨rfl, rfl⟩ | (fail))))
    focus (intro xs; (try simp only [Act.put, List.setIfInBounds_toArray, List.set_cons_zero, List.set_cons_succ, Nat.reduceAdd]); rfl)
    refine lin_det (v := ?_) (F' := ?_) (by rfl) (fun _ => by rfl) ?_ ?_ ?_
    rotate_left 2
    focus (intro xs X hX hdep; clear hdep; (try dsimp only); go_simp; (try (first | with_reducible rfl | exact ⟨rfl, rfl⟩ | (fail))))
    focus (intro xs; (try simp only [Act.put, List.setIfInBounds_toArray, List.set_cons_zero, List.set_cons_succ, Nat.reduceAdd]); rfl)
    refine lin_det (v := ?_) (F' := ?_) (by rfl) (fun _ => by rfl) ?_ ?_ ?_
    rotate_left 2
    focus (intro xs X hX hdep; clear hdep; (try dsimp only); go_simp; (try (first | with_reducible rfl | exact ⟨rfl, rfl⟩ | (fail))))
    focus (intro xs; (try simp only [Act.put, List.setIfInBounds_toArray, List.set_cons_zero, List.set_cons_succ, Nat.reduceAdd]); rfl)
    refine lin_det (v := ?_) (F' := ?_) (by rfl) (fun _ => by rfl) ?_ ?_ ?_
    rotate_left 2
    focus (intro xs X hX hdep; clear hdep; (try dsimp only); go_simp; (try (first | with_reducible rfl | exact ⟨rfl, rfl⟩ | (fail))))
    focus (intro xs; (try simp only [Act.put, List.setIfInBounds_toArray, List.set_cons_zero, List.set_cons_succ, Nat.reduceAdd]); rfl)
    refine lin_det (v := ?_) (F' := ?_) (by rfl) (fun _ => by rfl) ?_ ?_ ?_
    rotate_left 2
    focus (intro xs X hX hdep; clear hdep; (try dsimp only); go_simp; (try (first | with_reducible rfl | exact ⟨rfl, rfl⟩ | (fail))))
    focus (intro xs; (try simp only [Act.put, List.setIfInBounds_toArray, List.set_cons_zero, List.set_cons_succ, Nat.reduceAdd]); rfl)
    refine lin_det (v := ?_) (F' := ?_) (by rfl) (fun _ => by rfl) ?_ ?_ ?_
    rotate_left 2
    focus (intro xs X hX hdep; clear hdep; (try dsimp only); go_simp; (try (first | with_reducible rfl | exact ⟨rfl, rfl⟩ | (fail))))
    focus (intro xs; (try simp only [Act.put, List.setIfInBounds_toArray, List.set_cons_zero, List.set_cons_succ, Nat.reduceAdd]); rfl)
    refine lin_det (v := ?_) (F' := ?_) (by rfl) (fun _ => by rfl) ?_ ?_ ?_
    rotate_left 2
    focus (intro xs X hX hdep; clear hdep; (try dsimp only); go_simp; (try (first | with_reducible rfl | exact ⟨rfl, rfl⟩ | (exact between_calls 30 33 X))))
    focus (intro xs; (try simp only [Act.put, List.setIfInBounds_toArray, List.set_cons_zero, List.set_cons_succ, Nat.reduceAdd]); rfl)
    refine lin_det (v := ?_) (F' := ?_) (by rfl) (fun _ => by rfl) ?_ ?_ ?_
    rotate_left 2
    focus (intro xs X hX hdep; clear hdep; (try dsimp only); go_simp; (try (first | with_reducible rfl | exact ⟨rfl, rfl⟩ | (fail))))
    focus (intro xs; (try simp only [Act.put, List.setIfInBounds_toArray, List.set_cons_zero, List.set_cons_succ, Nat.reduceAdd]); rfl)
    refine lin_det (v := ?_) (F' := ?_) (by rfl) (fun _ => by rfl) ?_ ?_ ?_
    rotate_left 2
    focus (intro xs X hX hdep; clear hdep; (try dsimp only); go_simp; (try (first | with_reducible rfl | exact ⟨rfl, rfl⟩ | (fail))))
    focus (intro xs; (try simp only [Act.put, List.setIfInBounds_toArray, List.set_cons_zero, List.set_cons_succ, Nat.reduceAdd]); rfl)
    refine lin_det (v := ?_) (F' := ?_) (by rfl) (fun _ => by rfl) ?_ ?_ ?_
    rotate_left 2
    focus (intro xs X hX hdep; clear hdep; (try dsimp only); go_simp; (try (first | with_reducible rfl | exact ⟨rfl, rfl⟩ | (fail))))
    focus (intro xs; (try simp only [Act.put, List.setIfInBounds_toArray, List.set_cons_zero, List.set_cons_succ, Nat.reduceAdd]); rfl)
    refine lin_det (v := ?_) (F' := ?_) (by rfl) (fun _ => by rfl) ?_ ?_ ?_
    rotate_left 2
    focus (intro xs X hX hdep; clear hdep; (try dsimp only); go_simp; (try (first | with_reducible rfl | exact ⟨rfl, rfl⟩ | (fail))))
    focus (intro xs; (try simp only [Act.put, List.setIfInBounds_toArray, List.set_cons_zero, List.set_cons_succ, Nat.reduceAdd]); rfl)
    refine lin_det (v := ?_) (F' := ?_) (by rfl) (fun _ => by rfl) ?_ ?_ ?_
    rotate_left 2
    focus (intro xs X hX hdep; clear hdep; (try dsimp only); go_simp; (try (first | with_reducible rfl | exact ⟨rfl, rfl⟩ | (fail))))
    focus (intro xs; (try simp only [Act.put, List.setIfInBounds_toArray, List.set_cons_zero, List.set_cons_succ, Nat.reduceAdd]); rfl)
    refine lin_det (v := ?_) (F' := ?_) (by rfl) (fun _ => by rfl) ?_ ?_ ?_
    rotate_left 2
    focus (intro xs X hX hdep; clear hdep; (try dsimp only); go_simp; (try (first | with_reducible rfl | exact ⟨rfl, rfl⟩ | (fail))))
    focus (intro xs; (try simp only [Act.put, List.setIfInBounds_toArray, List.set_cons_zero, List.set_cons_succ, Nat.reduceAdd]); rfl)
    refine lin_det (v := ?_) (F' := ?_) (by rfl) (fun _ => by rfl) ?_ ?_ ?_
    rotate_left 2
    focus (intro xs X hX hdep; clear hdep; (try dsimp only); go_simp; (try (first | with_reducible rfl | exact ⟨rfl, rfl⟩ | (fail))))
    focus (intro xs; (try simp only [Act.put, List.setIfInBounds_toArray, List.set_cons_zero, List.set_cons_succ, Nat.reduceAdd]); rfl)
    refine lin_det (v := ?_) (F' := ?_) (by rfl) (fun _ => by rfl) ?_ ?_ ?_
    rotate_left 2
    focus (intro xs X hX hdep; clear hdep; (try dsimp only); go_simp; (try (first | with_reducible rfl | exact ⟨rfl, rfl⟩ | (fail))))
    focus (intro xs; (try simp only [Act.put, List.setIfInBounds_toArray, List.set_cons_zero, List.set_cons_succ, Nat.reduceAdd]); rfl)
    refine lin_det (v := ?_) (F' := ?_) (by rfl) (fun _ => by rfl) ?_ ?_ ?_
    rotate_left 2
    focus (intro xs X hX hdep; clear hdep; (try dsimp only); go_simp; (try (first | with_reducible rfl | exact ⟨rfl, rfl⟩ | (fail))))
    focus (intro xs; (try simp only [Act.put, List.setIfInBounds_toArray, List.set_cons_zero, List.set_cons_succ, Nat.reduceAdd]); rfl)
    refine lin_det (v := ?_) (F' := ?_) (by rfl) (fun _ => by rfl) ?_ ?_ ?_
    rotate_left 2
    focus (intro xs X hX hdep; clear hdep; (try dsimp only); go_simp; (try (first | with_reducible rfl | exact ⟨rfl, rfl⟩ | (fail))))
    focus (intro xs; (try simp only [Act.put, List.setIfInBounds_toArray, List.set_cons_zero, List.set_cons_succ, Nat.reduceAdd]); rfl)
    refine lin_det (v := ?_) (F' := ?_) (by rfl) (fun _ => by rfl) ?_ ?_ ?_
    rotate_left 2
    focus (intro xs X hX hdep; clear hdep; (try dsimp only); go_simp; (try (first | with_reducible rfl | exact ⟨rfl, rfl⟩ | (fail))))
    focus (intro xs; (try simp only [Act.put, List.setIfInBounds_toArray, List.set_cons_zero, List.set_cons_succ, Nat.reduceAdd]); rfl)
    refine lin_det (v := ?_) (F' := ?_) (by rfl) (fun _ => by rfl) ?_ ?_ ?_
    rotate_left 2
    focus (intro xs X hX hdep; clear hdep; (try dsimp only); go_simp; (try (first | with_reducible rfl | exact ⟨rfl, rfl⟩ | (fail))))
    focus (intro xs; (try simp only [Act.put, List.setIfInBounds_toArray, List.set_cons_zero, List.set_cons_succ, Nat.reduceAdd]); rfl)
    refine lin_det (v := ?_) (F' := ?_) (by rfl) (fun _ => by rfl) ?_ ?_ ?_
    rotate_left 2
    focus (intro xs X hX hdep; clear hdep; (try dsimp only); go_simp; (try (first | with_reducible rfl | exact ⟨rfl, rfl⟩ | (fail))))
    focus (intro xs; (try simp only [Act.put, List.setIfInBounds_toArray, List.set_cons_zero, List.set_cons_succ, Nat.reduceAdd]); rfl)
    refine lin_det (v := ?_) (F' := ?_) (by rfl) (fun _ => by rfl) ?_ ?_ ?_
    rotate_left 2
    focus (intro xs X hX hdep; clear hdep; (try dsimp only); go_simp; (try (first | with_reducible rfl | exact ⟨rfl, rfl⟩ | (fail))))
    focus (intro xs; (try simp only [Act.put, List.setIfInBounds_toArray, List.set_cons_zero, List.set_cons_succ, Nat.reduceAdd]); rfl)
    refine lin_det (v := ?_) (F' := ?_) (by rfl) (fun _ => by rfl) ?_ ?_ ?_
    rotate_left 2
    focus (intro xs X hX hdep; clear hdep; (try dsimp only); go_simp; (try (first | with_reducible rfl | exact ⟨rfl, rfl⟩ | (fail))))
    focus (intro xs; (try simp only [Act.put, List.setIfInBounds_toArray, List.set_cons_zero, List.set_cons_succ, Nat.reduceAdd]); rfl)
    refine lin_det (v := ?_) (F' := ?_) (by rfl) (fun _ => by rfl) ?_ ?_ ?_
    rotate_left 2
    focus (intro xs X hX hdep; clear hdep; (try dsimp only); go_simp; (try (first | with_reducible rfl | exact ⟨rfl, rfl⟩ | (fail))))
    focus (intro xs; (try simp only [Act.put, List.setIfInBounds_toArray, List.set_cons_zero, List.set_cons_succ, Nat.reduceAdd]); rfl)
    refine lin_det (v := ?_) (F' := ?_) (by rfl) (fun _ => by rfl) ?_ ?_ ?_
    rotate_left 2
    focus (intro xs X hX hdep; clear hdep; (try dsimp only); go_simp; (try (first | with_reducible rfl | exact ⟨rfl, rfl⟩ | (fail))))
    focus (intro xs; (try simp only [Act.put, List.setIfInBounds_toArray, List.set_cons_zero, List.set_cons_succ, Nat.reduceAdd]); rfl)
    refine lin_det (v := ?_) (F' := ?_) (by rfl) (fun _ => by rfl) ?_ ?_ ?_
    rotate_left 2
    focus (intro xs X hX hdep; clear hdep; (try dsimp only); go_simp; (try (first | with_reducible rfl | exact ⟨rfl, rfl⟩ | (fail))))
    focus (intro xs; (try simp only [Act.put, List.setIfInBounds_toArray, List.set_cons_zero, List.set_cons_succ, Nat.reduceAdd]); rfl)
    refine lin_det (v := ?_) (F' := ?_) (by rfl) (fun _ => by rfl) ?_ ?_ ?_
    rotate_left 2
    focus (intro xs X hX hdep; clear hdep; (try dsimp only); go_simp; (try (first | with_reducible rfl | exact ⟨rfl, rfl⟩ | (fail))))
    focus (intro xs; (try simp only [Act.put, List.setIfInBounds_toArray, List.set_cons_zero, List.set_cons_succ, Nat.reduceAdd]); rfl)
    refine lin_det (v := ?_) (F' := ?_) (by rfl) (fun _ => by rfl) ?_ ?_ ?_
    rotate_left 2
    focus (intro xs X hX hdep; clear hdep; (try dsimp only); go_simp; (try (first | with_reducible rfl | exact ⟨rfl, rfl⟩ | (fail))))
    focus (intro xs; (try simp only [Act.put, List.setIfInBounds_toArray, List.set_cons_zero, List.set_cons_succ, Nat.reduceAdd]); rfl)
    refine lin_det (v := ?_) (F' := ?_) (by rfl) (fun _ => by rfl) ?_ ?_ ?_
    rotate_left 2
    focus (intro xs X hX hdep; clear hdep; (try dsimp only); go_simp; (try (first | with_reducible rfl | exact ⟨rfl, rfl⟩ | (fail))))
    focus (intro xs; (try simp only [Act.put, List.setIfInBounds_toArray, List.set_cons_zero, List.set_cons_succ, Nat.reduceAdd]); rfl)
    refine lin_det (v := ?_) (F' := ?_) (by rfl) (fun _ => by rfl) ?_ ?_ ?_
    rotate_left 2
    focus (intro xs X hX hdep; clear hdep; (try dsimp only); go_simp; (try (first | with_reducible rfl | exact ⟨rfl, rfl⟩ | (fail))))
    focus (intro xs; (try simp only [Act.put, List.setIfInBounds_toArray, List.set_cons_zero, List.set_cons_succ, Nat.reduceAdd]); rfl)
    refine lin_det (v := ?_) (F' := ?_) (by rfl) (fun _ => by rfl) ?_ ?_ ?_
    rotate_left 2
    focus (intro xs X hX hdep; clear hdep; (try dsimp only); go_simp; (try (first | with_reducible rfl | exact ⟨rfl, rfl⟩ | (fail))))
    focus (intro xs; (try simp only [Act.put, List.setIfInBounds_toArray, List.set_cons_zero, List.set_cons_succ, Nat.reduceAdd]); rfl)
    refine lin_det (v := ?_) (F' := ?_) (by rfl) (fun _ => by rfl) ?_ ?_ ?_
    rotate_left 2
    focus (intro xs X hX hdep; clear hdep; (try dsimp only); go_simp; (try (first | with_reducible rfl | exact ⟨rfl, rfl⟩ | (fail))))
    focus (intro xs; (try simp only [Act.put, List.setIfInBounds_toArray, List.set_cons_zero, List.set_cons_succ, Nat.reduceAdd]); rfl)
    refine lin_det (v := ?_) (F' := ?_) (by rfl) (fun _ => by rfl) ?_ ?_ ?_
    rotate_left 2
    focus (intro xs X hX hdep; clear hdep; (try dsimp only); go_simp; (try (first | with_reducible rfl | exact ⟨rfl, rfl⟩ | (exact between_calls 26 29 X))))
    focus (intro xs; (try simp only [Act.put, List.setIfInBounds_toArray, List.set_cons_zero, List.set_cons_succ, Nat.reduceAdd]); rfl)
    refine lin_det (v := ?_) (F' := ?_) (by rfl) (fun _ => by rfl) ?_ ?_ ?_
    rotate_left 2
    focus (intro xs X hX hdep; clear hdep; (try dsimp only); go_simp; (try (first | with_reducible rfl | exact ⟨rfl, rfl⟩ | (fail))))
    focus (intro xs; (try simp only [Act.put, List.setIfInBounds_toArray, List.set_cons_zero, List.set_cons_succ, Nat.reduceAdd]); rfl)
    refine lin_det (v := ?_) (F' := ?_) (by rfl) (fun _ => by rfl) ?_ ?_ ?_
    rotate_left 2
    focus (intro xs X hX hdep; clear hdep; (try dsimp only); go_simp; (try (first | with_reducible rfl | exact ⟨rfl, rfl⟩ | (fail))))
    focus (intro xs; (try simp only [Act.put, List.setIfInBounds_toArray, List.set_cons_zero, List.set_cons_succ, Nat.reduceAdd]); rfl)
    refine lin_det (v := ?_) (F' := ?_) (by rfl) (fun _ => by rfl) ?_ ?_ ?_
    rotate_left 2
    focus (intro xs X hX hdep; clear hdep; (try dsimp only); go_simp; (try (first | with_reducible rfl | exact ⟨rfl, rfl⟩ | (fail))))
    focus (intro xs; (try simp only [Act.put, List.setIfInBounds_toArray, List.set_cons_zero, List.set_cons_succ, Nat.reduceAdd]); rfl)
    refine lin_det (v := ?_) (F' := ?_) (by rfl) (fun _ => by rfl) ?_ ?_ ?_
    rotate_left 2
    focus (intro xs X hX hdep; clear hdep; (try dsimp only); go_simp; (try (first | with_reducible rfl | exact ⟨rfl, rfl⟩ | (fail))))
    focus (intro xs; (try simp only [Act.put, List.setIfInBounds_toArray, List.set_cons_zero, List.set_cons_succ, Nat.reduceAdd]); rfl)
    refine lin_det (v := ?_) (F' := ?_) (by rfl) (fun _ => by rfl) ?_ ?_ ?_
    rotate_left 2
    focus (intro xs X hX hdep; clear hdep; (try dsimp only); go_simp; (try (first | with_reducible rfl | exact ⟨rfl, rfl⟩ | (fail))))
    focus (intro xs; (try simp only [Act.put, List.setIfInBounds_toArray, List.set_cons_zero, List.set_cons_succ, Nat.reduceAdd]); rfl)
    refine lin_det (v := ?_) (F' := ?_) (by rfl) (fun _ => by rfl) ?_ ?_ ?_
    rotate_left 2
    focus (intro xs X hX hdep; clear hdep; (try dsimp only); go_simp; (try (first | with_reducible rfl | exact ⟨rfl, rfl⟩ | (fail))))
    focus (intro xs; (try simp only [Act.put, List.setIfInBounds_toArray, List.set_cons_zero, List.set_cons_succ, Nat.reduceAdd]); rfl)
    refine lin_det (v := ?_) (F' := ?_) (by rfl) (fun _ => by rfl) ?_ ?_ ?_
    rotate_left 2
    focus (intro xs X hX hdep; clear hdep; (try dsimp only); go_simp; (try (first | with_reducible rfl | exact ⟨rfl, rfl⟩ | (fail))))
    focus (intro xs; (try simp only [Act.put, List.setIfInBounds_toArray, List.set_cons_zero, List.set_cons_succ, Nat.reduceAdd]); rfl)
    refine lin_det (v := ?_) (F' := ?_) (by rfl) (fun _ => by rfl) ?_ ?_ ?_
    rotate_left 2
    focus (intro xs X hX hdep; clear hdep; (try dsimp only); go_simp; (try (first | with_reducible rfl | exact ⟨rfl, rfl⟩ | (fail))))
    focus (intro xs; (try simp only [Act.put, List.setIfInBounds_toArray, List.set_cons_zero, List.set_cons_succ, Nat.reduceAdd]); rfl)
    refine lin_any (fun v W => IsList [0, 1] W v) false (fun v W W' k h => IsList.later h k) (F' := ?_) (by rfl) (fun _ => by rfl) ?_ ?_ ?_
    rotate_left 1
    focus (intro xs X hX hdep; skip; clear hdep; intro K hK; (try dsimp only); go_simp; (refine (beside_is X).mono ?_; rintro e W' ⟨v, rfl, hL, hh⟩; exact hK.out _ _ rfl hL hh (fun h => by cases h)))
    focus (intro xs; (try simp only [Act.put, List.setIfInBounds_toArray, List.set_cons_zero, List.set_cons_succ, Nat.reduceAdd]); rfl)
    refine lin_det_last (j := 85) (v := ?_) (F' := ?_) (by rfl) (fun _ => by rfl) (by kernel_rfl) (by kernel_rfl) ?_ ?_ ?_
    rotate_left 2
    focus (intro xs X hX hd; replace hd : IsList [0, 1] X (xs 85) := hd; (try dsimp only); go_simp; exact same_is (h14.later hX) hd (by simp))
    focus (intro xs; (try simp only [Act.put, List.setIfInBounds_toArray, List.set_cons_zero, List.set_cons_succ, Nat.reduceAdd]); rfl)
    refine lin_det (v := ?_) (F' := ?_) (by rfl) (fun _ => by rfl) ?_ ?_ ?_
    rotate_left 2
    focus (intro xs X hX hdep; clear hdep; (try dsimp only); go_simp; (try (first | with_reducible rfl | exact ⟨rfl, rfl⟩ | (fail))))
    focus (intro xs; (try simp only [Act.put, List.setIfInBounds_toArray, List.set_cons_zero, List.set_cons_succ, Nat.reduceAdd]); rfl)
    refine lin_det (v := ?_) (F' := ?_) (by rfl) (fun _ => by rfl) ?_ ?_ ?_
    rotate_left 2
    focus (intro xs X hX hdep; clear hdep; (try dsimp only); go_simp; (try (first | with_reducible rfl | exact ⟨rfl, rfl⟩ | (fail))))
    focus (intro xs; (try simp only [Act.put, List.setIfInBounds_toArray, List.set_cons_zero, List.set_cons_succ, Nat.reduceAdd]); rfl)
    refine lin_det (v := ?_) (F' := ?_) (by rfl) (fun _ => by rfl) ?_ ?_ ?_
    rotate_left 2
    focus (intro xs X hX hdep; clear hdep; (try dsimp only); go_simp; (try (first | with_reducible rfl | exact ⟨rfl, rfl⟩ | (fail))))
    focus (intro xs; (try simp only [Act.put, List.setIfInBounds_toArray, List.set_cons_zero, List.set_cons_succ, Nat.reduceAdd]); rfl)
    refine lin_det (v := ?_) (F' := ?_) (by rfl) (fun _ => by rfl) ?_ ?_ ?_
    rotate_left 2
    focus (intro xs X hX hdep; clear hdep; (try dsimp only); go_simp; (try (first | with_reducible rfl | exact ⟨rfl, rfl⟩ | (fail))))
    focus (intro xs; (try simp only [Act.put, List.setIfInBounds_toArray, List.set_cons_zero, List.set_cons_succ, Nat.reduceAdd]); rfl)
    refine lin_det (v := ?_) (F' := ?_) (by rfl) (fun _ => by rfl) ?_ ?_ ?_
    rotate_left 2
    focus (intro xs X hX hdep; clear hdep; (try dsimp only); go_simp; (try (first | with_reducible rfl | exact ⟨rfl, rfl⟩ | (fail))))
    focus (intro xs; (try simp only [Act.put, List.setIfInBounds_toArray, List.set_cons_zero, List.set_cons_succ, Nat.reduceAdd]); rfl)
    refine lin_det (v := ?_) (F' := ?_) (by rfl) (fun _ => by rfl) ?_ ?_ ?_
    rotate_left 2
    focus (intro xs X hX hdep; clear hdep; (try dsimp only); go_simp; (try (first | with_reducible rfl | exact ⟨rfl, rfl⟩ | (fail))))
    focus (intro xs; (try simp only [Act.put, List.setIfInBounds_toArray, List.set_cons_zero, List.set_cons_succ, Nat.reduceAdd]); rfl)
    refine lin_det (v := ?_) (F' := ?_) (by rfl) (fun _ => by rfl) ?_ ?_ ?_
    rotate_left 2
    focus (intro xs X hX hdep; clear hdep; (try dsimp only); go_simp; (try (first | with_reducible rfl | exact ⟨rfl, rfl⟩ | (fail))))
    focus (intro xs; (try simp only [Act.put, List.setIfInBounds_toArray, List.set_cons_zero, List.set_cons_succ, Nat.reduceAdd]); rfl)
    refine lin_det (v := ?_) (F' := ?_) (by rfl) (fun _ => by rfl) ?_ ?_ ?_
    rotate_left 2
    focus (intro xs X hX hdep; clear hdep; (try dsimp only); go_simp; (try (first | with_reducible rfl | exact ⟨rfl, rfl⟩ | (fail))))
    focus (intro xs; (try simp only [Act.put, List.setIfInBounds_toArray, List.set_cons_zero, List.set_cons_succ, Nat.reduceAdd]); rfl)
    refine lin_det (v := ?_) (F' := ?_) (by rfl) (fun _ => by rfl) ?_ ?_ ?_
    rotate_left 2
    focus (intro xs X hX hdep; clear hdep; (try dsimp only); go_simp; (try (first | with_reducible rfl | exact ⟨rfl, rfl⟩ | (fail))))
    focus (intro xs; (try simp only [Act.put, List.setIfInBounds_toArray, List.set_cons_zero, List.set_cons_succ, Nat.reduceAdd]); rfl)
    refine lin_det (v := ?_) (F' := ?_) (by rfl) (fun _ => by rfl) ?_ ?_ ?_
    rotate_left 2
    focus (intro xs X hX hdep; clear hdep; (try dsimp only); go_simp; (try (first | with_reducible rfl | exact ⟨rfl, rfl⟩ | (fail))))
    focus (intro xs; (try simp only [Act.put, List.setIfInBounds_toArray, List.set_cons_zero, List.set_cons_succ, Nat.reduceAdd]); rfl)
    refine lin_det (v := ?_) (F' := ?_) (by rfl) (fun _ => by rfl) ?_ ?_ ?_
    rotate_left 2
    focus (intro xs X hX hdep; clear hdep; (try dsimp only); go_simp; (try (first | with_reducible rfl | exact ⟨rfl, rfl⟩ | (fail))))
    focus (intro xs; (try simp only [Act.put, List.setIfInBounds_toArray, List.set_cons_zero, List.set_cons_succ, Nat.reduceAdd]); rfl)
    refine lin_det (v := ?_) (F' := ?_) (by rfl) (fun _ => by rfl) ?_ ?_ ?_
    rotate_left 2
    focus (intro xs X hX hdep; clear hdep; (try dsimp only); go_simp; (try (first | with_reducible rfl | exact ⟨rfl, rfl⟩ | (fail))))
    focus (intro xs; (try simp only [Act.put, List.setIfInBounds_toArray, List.set_cons_zero, List.set_cons_succ, Nat.reduceAdd]); rfl)
    refine lin_det (v := ?_) (F' := ?_) (by rfl) (fun _ => by rfl) ?_ ?_ ?_
    rotate_left 2
    focus (intro xs X hX hdep; clear hdep; (try dsimp only); go_simp; (try (first | with_reducible rfl | exact ⟨rfl, rfl⟩ | (fail))))
    focus (intro xs; (try simp only [Act.put, List.setIfInBounds_toArray, List.set_cons_zero, List.set_cons_succ, Nat.reduceAdd]); rfl)
    refine lin_det (v := ?_) (F' := ?_) (by rfl) (fun _ => by rfl) ?_ ?_ ?_
    rotate_left 2
    focus (intro xs X hX hdep; clear hdep; (try dsimp only); go_simp; (try (first | with_reducible rfl | exact ⟨rfl, rfl⟩ | (fail))))
    focus (intro xs; (try simp only [Act.put, List.setIfInBounds_toArray, List.set_cons_zero, List.set_cons_succ, Nat.reduceAdd]); rfl)
    refine lin_det (v := ?_) (F' := ?_) (by rfl) (fun _ => by rfl) ?_ ?_ ?_
    rotate_left 2
    focus (intro xs X hX hdep; clear hdep; (try dsimp only); go_simp; (try (first | with_reducible rfl | exact ⟨rfl, rfl⟩ | (fail))))
    focus (intro xs; (try simp only [Act.put, List.setIfInBounds_toArray, List.set_cons_zero, List.set_cons_succ, Nat.reduceAdd]); rfl)
    refine lin_det (v := ?_) (F' := ?_) (by rfl) (fun _ => by rfl) ?_ ?_ ?_
    rotate_left 2
    focus (intro xs X hX hdep; clear hdep; (try dsimp only); go_simp; (try (first | with_reducible rfl | exact ⟨rfl, rfl⟩ | (fail))))
    focus (intro xs; (try simp only [Act.put, List.setIfInBounds_toArray, List.set_cons_zero, List.set_cons_succ, Nat.reduceAdd]); rfl)
    refine lin_det (v := ?_) (F' := ?_) (by rfl) (fun _ => by rfl) ?_ ?_ ?_
    rotate_left 2
    focus (intro xs X hX hdep; clear hdep; (try dsimp only); go_simp; (try (first | with_reducible rfl | exact ⟨rfl, rfl⟩ | (fail))))
    focus (intro xs; (try simp only [Act.put, List.setIfInBounds_toArray, List.set_cons_zero, List.set_cons_succ, Nat.reduceAdd]); rfl)
    refine lin_det (v := ?_) (F' := ?_) (by rfl) (fun _ => by rfl) ?_ ?_ ?_
    rotate_left 2
    focus (intro xs X hX hdep; clear hdep; (try dsimp only); go_simp; (try (first | with_reducible rfl | exact ⟨rfl, rfl⟩ | (fail))))
    focus (intro xs; (try simp only [Act.put, List.setIfInBounds_toArray, List.set_cons_zero, List.set_cons_succ, Nat.reduceAdd]); rfl)
    refine lin_det (v := ?_) (F' := ?_) (by rfl) (fun _ => by rfl) ?_ ?_ ?_
    rotate_left 2
    focus (intro xs X hX hdep; clear hdep; (try dsimp only); go_simp; (try (first | with_reducible rfl | exact ⟨rfl, rfl⟩ | (fail))))
    focus (intro xs; (try simp only [Act.put, List.setIfInBounds_toArray, List.set_cons_zero, List.set_cons_succ, Nat.reduceAdd]); rfl)
    refine lin_det (v := ?_) (F' := ?_) (by rfl) (fun _ => by rfl) ?_ ?_ ?_
    rotate_left 2
    focus (intro xs X hX hdep; clear hdep; (try dsimp only); go_simp; (try (first | with_reducible rfl | exact ⟨rfl, rfl⟩ | (fail))))
    focus (intro xs; (try simp only [Act.put, List.setIfInBounds_toArray, List.set_cons_zero, List.set_cons_succ, Nat.reduceAdd]); rfl)
    refine lin_det (v := ?_) (F' := ?_) (by rfl) (fun _ => by rfl) ?_ ?_ ?_
    rotate_left 2
    focus (intro xs X hX hdep; clear hdep; (try dsimp only); go_simp; (try (first | with_reducible rfl | exact ⟨rfl, rfl⟩ | (exact between_calls 35 35 X))))
    focus (intro xs; (try simp only [Act.put, List.setIfInBounds_toArray, List.set_cons_zero, List.set_cons_succ, Nat.reduceAdd]); rfl)
    refine lin_det (v := ?_) (F' := ?_) (by rfl) (fun _ => by rfl) ?_ ?_ ?_
    rotate_left 2
    focus (intro xs X hX hdep; clear hdep; (try dsimp only); go_simp; (try (first | with_reducible rfl | exact ⟨rfl, rfl⟩ | (fail))))
    focus (intro xs; (try simp only [Act.put, List.setIfInBounds_toArray, List.set_cons_zero, List.set_cons_succ, Nat.reduceAdd]); rfl)
    intro xs wy hL hf hfr hfb
    clear hf hfr hfb
    go_wp2_with fail
    go_meet
    case rel => exact ⟨rfl, Later.trans hLa hL⟩
  case rest =>
  obtain ⟨rfl, hLa⟩ := hcut
  obtain ⟨wy, rfl⟩ : ∃ W : World, W = wc := ⟨_, rfl⟩
  clear k110 k111 k220 k221 q3 q5 h1 h14 hS hT
  obtain ⟨wx, rfl⟩ : ∃ W : World, W = wy := ⟨_, rfl⟩
  go_wp2_with fail
  refine (two_c 2 4 _ (by omega)).mono ?_
  rintro e wx ⟨vt, rfl, hL, ht⟩
  replace hLa := Later.trans hLa hL
  clear hL
  go_wp2_with fail
  refine (truth_c (ht.later (later_alloc (later_refl _) _)) (newList2 _ _ _) rfl (by simp) nx14).mono ?_
  rintro e wx ⟨rfl, hL⟩
  replace hL := later_of_alloc hL
  replace hLa := Later.trans hLa hL
  clear hL
  clear ht
  go_wp2_with fail
  refine (two_c 2 4 _ (by omega)).mono ?_
  rintro e wx ⟨vt, rfl, hL, ht⟩
  replace hLa := Later.trans hLa hL
  clear hL
  go_wp2_with fail
  refine (truth_c (ht.later (later_alloc (later_refl _) _)) (newList2 _ _ _) rfl (by simp) nx15).mono ?_
  rintro e wx ⟨rfl, hL⟩
  replace hL := later_of_alloc hL
  replace hLa := Later.trans hLa hL
  clear hL
  clear ht
  go_wp2_with fail
  refine (two_c 0 4 _ (by omega)).mono ?_
  rintro e wx ⟨vt, rfl, hL, ht⟩
  replace hLa := Later.trans hLa hL
  clear hL
  go_wp2_with fail
  refine (truth_c (ht.later (later_alloc (later_refl _) _)) (newList2 _ _ _) rfl (by simp) nx16).mono ?_
  rintro e wx ⟨rfl, hL⟩
  replace hL := later_of_alloc hL
  replace hLa := Later.trans hLa hL
  clear hL
  clear ht
  go_wp2_with fail
  refine (two_c 0 4 _ (by omega)).mono ?_
  rintro e wx ⟨vt, rfl, hL, ht⟩
  replace hLa := Later.trans hLa hL
  clear hL
  go_wp2_with fail
  refine (beside_is _).mono ?_
  rintro e wx ⟨vp, rfl, hL, hp⟩
  replace ht := ht.later hL
  replace hLa := Later.trans hLa hL
  clear hL
  go_wp2_with fail
  refine (place_c ht hp rfl (by simp) nx17).mono ?_
  rintro e wx ⟨rfl, hL⟩
  replace hLa := Later.trans hLa hL
  clear hL
  clear ht hp
  go_wp2_with fail
  refine (two_c 0 4 _ (by omega)).mono ?_
  rintro e wx ⟨vt, rfl, hL, ht⟩
  replace hLa := Later.trans hLa hL
  clear hL
  go_wp2_with fail
  refine (beside_is _).mono ?_
  rintro e wx ⟨vp, rfl, hL, hp⟩
  replace ht := ht.later hL
  replace hLa := Later.trans hLa hL
  clear hL
  go_wp2_with fail
  refine (place_c ht hp rfl (by simp) nx18).mono ?_
  rintro e wx ⟨rfl, hL⟩
  replace hLa := Later.trans hLa hL
  clear hL
  clear ht hp
  go_wp2_with fail
  refine (two_c 0 2 _ (by omega)).mono ?_
  rintro e wx ⟨vt, rfl, hL, ht⟩
  replace hLa := Later.trans hLa hL
  clear hL
  go_wp2_with fail
  refine (apart_is _).mono ?_
  rintro e wx ⟨vp, rfl, hL, hp⟩
  replace ht := ht.later hL
  replace hLa := Later.trans hLa hL
  clear hL
  go_wp2_with fail
  refine (place_c ht hp rfl (by simp) nx19).mono ?_
  rintro e wx ⟨rfl, hL⟩
  replace hLa := Later.trans hLa hL
  clear hL
  clear ht hp
  go_wp2_with fail
  refine (two_c 0 4 _ (by omega)).mono ?_
  rintro e wx ⟨vt, rfl, hL, ht⟩
  replace hLa := Later.trans hLa hL
  clear hL
  go_wp2_with fail
  refine (place_c (ht.later (later_alloc (later_refl _) _)) (newList2 _ _ _) rfl (by simp) nx20).mono ?_
  rintro e wx ⟨rfl, hL⟩
  replace hL := later_of_alloc hL
  replace hLa := Later.trans hLa hL
  clear hL
  clear ht
  go_wp2_with fail
  refine (two_c 3 4 _ (by omega)).mono ?_
  rintro e wx ⟨vt, rfl, hL, ht⟩
  replace hLa := Later.trans hLa hL
  clear hL
  go_wp2_with fail
  refine (beside_is _).mono ?_
  rintro e wx ⟨vp, rfl, hL, hp⟩
  replace ht := ht.later hL
  replace hLa := Later.trans hLa hL
  clear hL
  go_wp2_with fail
  refine (place_c ht hp rfl (by simp) nx21).mono ?_
  rintro e wx ⟨rfl, hL⟩
  replace hLa := Later.trans hLa hL
  clear hL
  clear ht hp
  go_wp2_with fail
  refine (two_c 0 4 _ (by omega)).mono ?_
  rintro e wx ⟨vt, rfl, hL, ht⟩
  replace hLa := Later.trans hLa hL
  clear hL
  go_wp2_with fail
  refine (beside_is _).mono ?_
  rintro e wx ⟨vp, rfl, hL, hp⟩
  replace ht := ht.later hL
  replace hLa := Later.trans hLa hL
  clear hL
  go_wp2_with fail
  refine (play_c (ht.later (later_alloc (later_refl _) _)) (hp.later (later_alloc (later_refl _) _)) (newList2 _ _ _) rfl (by simp) (by simp) nx22 nx23).mono ?_
  rintro e wx ⟨vz, rfl, hL, _⟩
  replace hL := later_of_alloc hL
  replace hLa := Later.trans hLa hL
  clear hL
  clear ht hp
  go_wp2_with fail
  refine (two_c 0 4 _ (by omega)).mono ?_
  rintro e wx ⟨vt, rfl, hL, ht⟩
  replace hLa := Later.trans hLa hL
  clear hL
  have hp := newList2 wx 0 3
  have hd := newList2 (wx.alloc (.cells #[.int .i64 0, .int .i64 3] 3)) 21 33
  rw [World.size_alloc] at hd
  go_wp2_with fail
  refine (play_c (c := twoC 0 4) (l := [0, 3]) (m := [21, 33]) (ht.later (later_alloc2 (later_refl _) _ _)) (hp.later (later_alloc (later_refl _) _)) hd rfl (by simp) (by simp) nx24 nx25).mono ?_
  rintro e wx ⟨vz, rfl, hL, _⟩
  replace hL := later_of_alloc hL
  replace hL := later_of_alloc hL
  replace hLa := Later.trans hLa hL
  clear hL
  clear ht hp hd
  go_wp2_with fail
  refine (two_c 3 4 _ (by omega)).mono ?_
  rintro e wx ⟨vt, rfl, hL, ht⟩
  replace hLa := Later.trans hLa hL
  clear hL
  go_wp2_with fail
  refine (beside_is _).mono ?_
  rintro e wx ⟨vp, rfl, hL, hp⟩
  replace ht := ht.later hL
  replace hLa := Later.trans hLa hL
  clear hL
  go_wp2_with fail
  refine (right_c ht hp rfl (by simp) nx26).mono ?_
  rintro e wx ⟨rfl, hL⟩
  replace hLa := Later.trans hLa hL
  clear hL
  clear ht hp
  go_wp2_with fail
  refine (two_c 3 4 _ (by omega)).mono ?_
  rintro e wx ⟨vt, rfl, hL, ht⟩
  replace hLa := Later.trans hLa hL
  clear hL
  go_wp2_with fail
  refine (beside_is _).mono ?_
  rintro e wx ⟨vp, rfl, hL, hp⟩
  replace ht := ht.later hL
  replace hLa := Later.trans hLa hL
  clear hL
  go_wp2_with fail
  refine (right_c ht hp rfl (by simp) nx27).mono ?_
  rintro e wx ⟨rfl, hL⟩
  replace hLa := Later.trans hLa hL
  clear hL
  clear ht hp
  go_wp2_with fail
  refine (two_c 0 2 _ (by omega)).mono ?_
  rintro e wx ⟨vt, rfl, hL, ht⟩
  replace hLa := Later.trans hLa hL
  clear hL
  go_wp2_with fail
  refine (beside_is _).mono ?_
  rintro e wx ⟨vp, rfl, hL, hp⟩
  replace ht := ht.later hL
  replace hLa := Later.trans hLa hL
  clear hL
  go_wp2_with fail
  refine (good_c ht hp rfl (by simp) nx28).mono ?_
  rintro e wx ⟨rfl, hL⟩
  replace hLa := Later.trans hLa hL
  clear hL
  clear ht hp
  go_wp2_with fail
  refine (two_c 3 4 _ (by omega)).mono ?_
  rintro e wx ⟨vt, rfl, hL, ht⟩
  replace hLa := Later.trans hLa hL
  clear hL
  go_wp2_with fail
  refine (beside_is _).mono ?_
  rintro e wx ⟨vp, rfl, hL, hp⟩
  replace ht := ht.later hL
  replace hLa := Later.trans hLa hL
  clear hL
  go_wp2_with fail
  refine (bounds_c ht hp rfl (by simp) nx29 nx30).mono ?_
  rintro e wx ⟨Az, kz, rfl, hL, _⟩
  replace hLa := Later.trans hLa hL
  clear hL
  clear ht hp
  go_wp2_with fail
  refine (two_c 3 4 _ (by omega)).mono ?_
  rintro e wx ⟨vt, rfl, hL, ht⟩
  replace hLa := Later.trans hLa hL
  clear hL
  go_wp2_with fail
  refine (stuck_c (ht.later (later_alloc (later_refl _) _)) (newList1 _ _) rfl (by simp) nx31).mono ?_
  rintro e wx ⟨rfl, hL⟩
  replace hL := later_of_alloc hL
  replace hLa := Later.trans hLa hL
  clear hL
  clear ht
  go_wp2_with fail
  refine (ask_c (c := oneC) ⟨none, 0, none, 0, none, 0, rfl, oneC_cv _, Nat.le_refl _, Nat.le_refl _⟩ rfl nx32).mono ?_
  rintro e wx ⟨rfl, hL⟩
  replace hLa := Later.trans hLa hL
  clear hL
  go_wp2_with fail
  refine (two_c 3 4 _ (by omega)).mono ?_
  rintro e wx ⟨vt, rfl, hL, ht⟩
  replace hLa := Later.trans hLa hL
  clear hL
  go_wp2_with fail
  refine (ask_c ht rfl nx33).mono ?_
  rintro e wx ⟨rfl, hL⟩
  replace hLa := Later.trans hLa hL
  clear hL
  clear ht
  go_wp2_with fail
  refine (two_c 2 4 _ (by omega)).mono ?_
  rintro e wx ⟨vt, rfl, hL, ht⟩
  replace hLa := Later.trans hLa hL
  clear hL
  go_wp2_with fail
  refine (first_c ht rfl nx34).mono ?_
  rintro e wx ⟨rfl, hL⟩
  replace hLa := Later.trans hLa hL
  clear hL
  clear ht
  go_upto_region 27 with fail
  refine lawNamesB w _ _ ?_ hLa
  assumption
end Go.Proofs.Ytjilckjhdlabaaa
