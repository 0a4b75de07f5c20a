/- CheckUnit's last phase. -/
import Derived.Test.YtcpjplkbmflglaaD10
namespace Go.Proofs.Ytcpjplkbmflglaa
open Go.RowKit
attribute [local go_sem] run_store_float
set_option linter.unusedVariables false
/-- What is left of a body behind k of its parts. -/
def tlo : Nat → Option Code → Option Code
  | 0, c => c
  | n + 1, some (.seq _ b) => tlo n (some b)
  | _ + 1, c => c
theorem wp_at {P : Program} {Q : Exit → Act → World → Prop} {a : Act} {w : World} {o : Option Code} {c : Code} (h : o = some c) (hw : c.wp P Q a w) : ∀ d, o = some d → d.wp P Q a w := fun d hd => by rw [h] at hd; cases hd; exact hw
def G9 (fs : List Fd) (made : List Bool) : Flt3 := match P9 fs made with
  | .inr f => (9, f, 0)
  | .inl _ => (0, 0, 0)
set_option maxRecDepth 100000 in
set_option maxHeartbeats 8000000 in
theorem ph9 (A : Option Addr) (c : Nat) (fs : List LF) (w : World) (gm : Nat) (made : List Bool) (W : World) (hS : Fs w (.slice A fs.length c) W) (hn : fs.length ≤ 1048576) (hM : BB W gm made) (hml : made.length = fs.length) (u0 u3 u4 u5 u6 u7 u8 u9 u10 u11 u12 u13 u14 u15 u16 u17 u18 u19 u20 u21 u22 u23 u24 u25 u26 u27 u28 u29 u30 u31 u32 u33 u34 u35 u36 u37 u38 u39 u41 u42 u43 u44 u45 u46 u47 u48 u49 u50 u51 u52 u53 u54 u55 u56 u57 u58 u59 u60 u61 u62 u63 u64 u65 u66 u67 u68 u69 u70 u71 u72 u73 u74 u75 u76 u77 u78 u79 u80 u81 u82 u83 u84 u85 u86 u87 u88 u89 u90 u91 u92 u93 u94 u95 u96 u97 u98 u99 u100 u101 u102 u103 u104 u105 u106 u107 u108 u109 u110 u111 u112 u113 u114 u115 u116 u117 u118 u119 u120 u121 u122 u123 u124 u125 u126 u127 u128 u129 u130 u131 u132 u133 u134 u135 u136 u137 u138 u139 u140 u141 u142 u143 u144 u145 u146 u147 u148 u149 u150 u151 u152 u153 u154 u155 u156 u157 u158 u159 u160 u161 u162 u163 u164 u165 u166 u167 u168 u169 u170 u171 u172 u173 u174 u175 u176 u177 u178 u179 u180 u181 u182 u183 u184 u185 u186 u187 u188 u189 u190 u191 u192 u193 u194 u195 u196 u197 u198 u199 u200 u201 u202 u203 u204 u205 u206 u207 u208 u209 u210 u211 u212 u213 u214 u215 u216 u217 u218 u219 u220 u221 u222 u223 u224 u225 u226 u227 u228 u229 u230 u231 u232 u233 u234 u235 u236 u237 u238 u239 u240 u241 u242 u243 u244 u245 u246 u247 u248 u249 u250 u251 u252 u253 u254 u255 u256 u257 u258 u259 u260 u261 u262 u263 u264 u265 u266 u267 u268 u269 u270 u271 u272 u273 u274 u275 u276 u277 u278 u279 u280 u281 u282 u283 u284 u285 u286 u287 u288 u289 u290 u291 u292 u293 u294 u295 u296 u297 u298 u299 u300 u301 u302 u303 u304 u305 u306 u307 u308 u309 u310 u311 u312 u313 u314 u315 u316 u317 u318 u319 u320 u321 u322 u323 u324 u325 u326 u327 u328 u329 u330 u331 u332 u333 u334 u335 u336 u337 u338 u339 u340 u341 u342 u343 u344 u345 u346 u347 u348 u349 u350 u351 u352 u353 u354 u355 u356 u357 u358 u359 u360 u361 u362 u363 u364 u365 u366 u367 u368 u369 u370 u371 u372 u373 u374 u375 u376 u377 u378 u379 u380 u381 u382 u383 u384 u385 u386 u387 u388 u389 u390 u391 u392 u393 u394 u395 u396 u397 u398 u399 u400 u401 u402 u403 u404 u405 u406 u407 u408 u409 u410 u411 u412 u413 u414 u415 u416 u417 u418 u419 u420 u421 u422 u423 u424 u425 u426 u427 u428 u429 u430 u431 u432 u433 u434 u435 u436 u437 u438 u439 u440 u441 u442 u443 u444 u445 u446 u447 u448 u449 u450 u451 u452 u453 u454 u455 u456 u457 u458 u459 u460 u461 u462 u463 u464 u465 u466 u467 u468 u469 u470 u471 u472 : Value) :
    ∀ d, tlo 12 Try.f8.body = some d → d.wp Try.prog (bodyPost Try.prog Try.f8 fun e W' => e = .returned (fltV (G9 (fs.map LF.fd) made)) ∧ Below w.heap.size w W') { tmps := #[u0, (.pointer (some ⟨w.heap.size, 0, none⟩)), (.pointer (some ⟨w.heap.size + 1, 0, none⟩)), u3, u4, u5, u6, u7, u8, u9, u10, u11, u12, u13, u14, u15, u16, u17, u18, u19, u20, u21, u22, u23, u24, u25, u26, u27, u28, u29, u30, u31, u32, u33, u34, u35, u36, u37, u38, u39, (.slice (some ⟨gm, 0, none⟩) fs.length fs.length), u41, u42, u43, u44, u45, u46, u47, u48, u49, u50, u51, u52, u53, u54, u55, u56, u57, u58, u59, u60, u61, u62, u63, u64, u65, u66, u67, u68, u69, u70, u71, u72, u73, u74, u75, u76, u77, u78, u79, u80, u81, u82, u83, u84, u85, u86, u87, u88, u89, u90, u91, u92, u93, u94, u95, u96, u97, u98, u99, u100, u101, u102, u103, u104, u105, u106, u107, u108, u109, u110, u111, u112, u113, u114, u115, u116, u117, u118, u119, u120, u121, u122, u123, u124, u125, u126, u127, u128, u129, u130, u131, u132, u133, u134, u135, u136, u137, u138, u139, u140, u141, u142, u143, u144, u145, u146, u147, u148, u149, u150, u151, u152, u153, u154, u155, u156, u157, u158, u159, u160, u161, u162, u163, u164, u165, u166, u167, u168, u169, u170, u171, u172, u173, u174, u175, u176, u177, u178, u179, u180, u181, u182, u183, u184, u185, u186, u187, u188, u189, u190, u191, u192, u193, u194, u195, u196, u197, u198, u199, u200, u201, u202, u203, u204, u205, u206, u207, u208, u209, u210, u211, u212, u213, u214, u215, u216, u217, u218, u219, u220, u221, u222, u223, u224, u225, u226, u227, u228, u229, u230, u231, u232, u233, u234, u235, u236, u237, u238, u239, u240, u241, u242, u243, u244, u245, u246, u247, u248, u249, u250, u251, u252, u253, u254, u255, u256, u257, u258, u259, u260, u261, u262, u263, u264, u265, u266, u267, u268, u269, u270, u271, u272, u273, u274, u275, u276, u277, u278, u279, u280, u281, u282, u283, u284, u285, u286, u287, u288, u289, u290, u291, u292, u293, u294, u295, u296, u297, u298, u299, u300, u301, u302, u303, u304, u305, u306, u307, u308, u309, u310, u311, u312, u313, u314, u315, u316, u317, u318, u319, u320, u321, u322, u323, u324, u325, u326, u327, u328, u329, u330, u331, u332, u333, u334, u335, u336, u337, u338, u339, u340, u341, u342, u343, u344, u345, u346, u347, u348, u349, u350, u351, u352, u353, u354, u355, u356, u357, u358, u359, u360, u361, u362, u363, u364, u365, u366, u367, u368, u369, u370, u371, u372, u373, u374, u375, u376, u377, u378, u379, u380, u381, u382, u383, u384, u385, u386, u387, u388, u389, u390, u391, u392, u393, u394, u395, u396, u397, u398, u399, u400, u401, u402, u403, u404, u405, u406, u407, u408, u409, u410, u411, u412, u413, u414, u415, u416, u417, u418, u419, u420, u421, u422, u423, u424, u425, u426, u427, u428, u429, u430, u431, u432, u433, u434, u435, u436, u437, u438, u439, u440, u441, u442, u443, u444, u445, u446, u447, u448, u449, u450, u451, u452, u453, u454, u455, u456, u457, u458, u459, u460, u461, u462, u463, u464, u465, u466, u467, u468, u469, u470, u471, u472], defers := [] } W := by
  refine wp_at rfl ?_
  have HS := Lib.hid hS; have HMB := Lib.hid hM
  have ub0 := hS.ub.cell 0
  have hz0 := hS.ub.lt
  clear hS hM
  go_wp2
  clear ub0 hz0
  go_loopw [457] (fun v wr => ∃ p : Nat, p ≤ fs.length ∧ v = .int .i64 p ∧ Hid (p = 0 ∨ P9 (fs.map LF.fd) made = loopS (chk (fine9 made)) p (fs.length - p) ()) ∧ Hid (Fs w (.slice A fs.length c) wr) ∧ Hid (BB wr gm made)) (fun v _ => fs.length - (intOf v).toNat)
  case atStart => exact ⟨0, Nat.zero_le _, rfl, Lib.hid (.inl rfl), HS, HMB⟩
  case round =>
    clear HS HMB
    obtain ⟨p, hp, rfl, HB, HS, HMB⟩ := hrel
    have hz0 := HS.out.ub.lt
    have hz1 := HS.out.rb.lt
    by_cases hlt : p < fs.length
    · obtain ⟨m, hm⟩ : ∃ m, fs.length - p = m + 1 := ⟨fs.length - p - 1, by omega⟩
      have HM := Lib.hid hm
      obtain ⟨mv, hmv⟩ : ∃ v, made[p]? = some v := ⟨_, List.getElem?_eq_getElem (by omega)⟩
      have cm := HMB.out.cell hmv
      have k1 : p < fs.length := hlt
      have k2 : (p : Int) < fs.length := by omega
      have HF9 : Hid (fine9 made p = mv) := by unfold fine9; rw [hmv]; exact Lib.hid rfl
      clear hm hmv
      by_cases h0 : p = 0
      · have HN : Hid (P9 (fs.map LF.fd) made = loopS (chk (fine9 made)) (p + 1) (fs.length - (p + 1)) ()) := by
          unfold P9; rw [List.length_map, h0]; exact Lib.hid rfl
        have h0b : decide ((0 : Int) < p) = false := decide_eq_false (by omega)
        have h0c : decide (0 < p) = false := decide_eq_false (by omega)
        clear h0
        go_wp2
        exact ⟨⟨p + 1, by omega, by go_num, Lib.hid (.inr HN.out), HS, HMB⟩, by simp [intOf]; omega⟩
      · have HB2 : Hid (P9 (fs.map LF.fd) made = loopS (chk (fine9 made)) p (fs.length - p) ()) := Lib.hid (HB.out.resolve_left h0)
        have h0b : decide ((0 : Int) < p) = true := decide_eq_true (by omega)
        have h0c : (0 : Int) < p := by omega
        have h0d : 0 < p := by omega
        clear h0
        cases mv
        · have HQ : Hid (G9 (fs.map LF.fd) made = (9, (p : Int), 0)) := by
            unfold G9; rw [HB2.out, HM.out, loopS_bad (chk_f HF9.out)]; exact Lib.hid rfl
          obtain ⟨r0, r1, r2⟩ := box3 HS.out.rb
          have g0 := HS.out.rb.frozen 0
          have g1 := HS.out.rb.frozen 1
          have g2 := HS.out.rb.frozen 2
          go_wp2
          refine bodyPost_ret (by simp [results, Try.results8, go_sem, *]; rfl) rfl ?_
          exact ⟨by rw [HQ.out]; rfl, ((HS.out.bel.setCell (by simp) _).setCell (by simp) _).setCell (by simp) _⟩
        · go_wp2
          exact ⟨⟨p + 1, by omega, by go_num, Lib.hid (.inr (by rw [HB2.out, HM.out, loopS_ok (chk_t HF9.out), show fs.length - (p + 1) = m by have := HM.out; omega])), HS, HMB⟩, by simp [intOf]; omega⟩
    · have HQ : Hid (G9 (fs.map LF.fd) made = (0, 0, 0)) := by
        unfold G9
        by_cases h0 : p = 0
        · unfold P9; rw [List.length_map, show fs.length - 1 = 0 by omega]; exact Lib.hid rfl
        · rw [HB.out.resolve_left h0, show fs.length - p = 0 by omega]; exact Lib.hid rfl
      obtain ⟨r0, r1, r2⟩ := box3 HS.out.rb
      have g0 := HS.out.rb.frozen 0
      have g1 := HS.out.rb.frozen 1
      have g2 := HS.out.rb.frozen 2
      go_wp2
      refine bodyPost_ret (by simp [results, Try.results8, go_sem, *]; rfl) rfl ?_
      exact ⟨by rw [HQ.out]; rfl, ((HS.out.bel.setCell (by simp) _).setCell (by simp) _).setCell (by simp) _⟩
end Go.Proofs.Ytcpjplkbmflglaa
