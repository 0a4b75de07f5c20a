/- The program's CheckUnit: codes 1 to 3; whole. -/
import Derived.Test.YtcpjplkbmflglaaE4
import Derived.Test.YtcpjplkbmflglaaC2z
import Derived.Test.YtcpjplkbmflglaaC4
namespace Go.Proofs.Ytcpjplkbmflglaa
open Go.RowKit
attribute [local go_sem] run_store_float
set_option linter.unusedVariables false
def G3 (fs : List Fd) : Flt3 := match P3 fs with
  | .inr (f, n) => (3, f, n)
  | .inl _ => G4 fs
def G2 (fs : List Fd) : Flt3 := match P2 fs with
  | .inr f => (2, f, 0)
  | .inl _ => G3 fs
/-- The program's CheckUnit. -/
def checkP (fs : List Fd) : Flt3 := if ok1B fs = false then (1, 0, 0) else G2 fs
theorem okW_of {fs : List LF} (h : (F1 (fs.map LF.fd)).1 = 0) (hc : ∀ f ∈ fs, f.ns.length ≤ 1048576) (hf : ∀ f ∈ fs, fitF f) (hk : ∀ f ∈ fs, ∀ l ∈ f.ns, l.nd.kids.length ≤ l.kc) : ∀ f ∈ fs, OkW f ∧ ∀ l ∈ f.ns, l.nd.kids.length ≤ 200 := fun f hfm => by
  obtain ⟨h1, h2, h3⟩ := F1_zero h
  obtain ⟨i, hi⟩ := List.getElem?_of_mem hfm
  have hil : i < (fs.map LF.fd).length := by rw [List.length_map]; exact (List.getElem?_eq_some_iff.1 hi).1
  have e3 := find2_all h3 i hil
  have sh : ∀ k l, f.ns[k]? = some l → shapeB (f.ns.map LN.nd) k l.nd = true := fun k l hk => by
    have := e3 k (by rw [len_at hi]; exact (List.getElem?_eq_some_iff.1 hk).1)
    unfold fine3 at this
    rwa [fd_at hi, show f.fd.nodes = f.ns.map LN.nd from rfl, nd_atD hk] at this
  refine ⟨⟨okU_of h hc f hfm, hf f hfm, fun k n hn hk12 => ?_, hk f hfm, fun l hl hk26 => ?_⟩, fun l hl => ?_⟩
  · rw [List.getElem?_map] at hn
    obtain ⟨l, hl, rfl⟩ := Option.map_eq_some_iff.1 hn
    have := (shape_parts (sh k l hl)).2.2
    rw [okB_12 _ _ _ hk12] at this
    unfold ok12 at this
    simp only [Bool.and_eq_true, decide_eq_true_eq] at this
    exact this.1
  · obtain ⟨k, hk2⟩ := List.getElem?_of_mem hl
    have := okB_refs (shape_parts (sh k l hk2)).2.2 (.inl hk26)
    omega
  · obtain ⟨k, hk2⟩ := List.getElem?_of_mem hl
    exact (shape_parts (sh k l hk2)).1
theorem F1_ok {fs : List Fd} (h1 : ok1B fs = true) (h2 : P2 fs = .inl ()) (h3 : P3 fs = .inl ()) : (F1 fs).1 = 0 := by
  unfold F1
  rw [if_neg (by rw [h1]; decide), h2, h3]
set_option maxRecDepth 100000 in
set_option maxHeartbeats 20000000 in
theorem ph3 (A : Option Addr) (c : Nat) (fs : List LF) (w : World) (lo : Nat) (W : World) (hS : Fs w (.slice A fs.length c) W) (hn : fs.length ≤ 1048576) (hR : RdF w lo A fs) (hlo : lo ≤ w.heap.size) (hF : ∀ f ∈ fs, fitF f) (hcap : ∀ f ∈ fs, f.ns.length ≤ 1048576) (hkc : ∀ f ∈ fs, ∀ l ∈ f.ns, l.nd.kids.length ≤ l.kc) (h1 : ok1B (fs.map LF.fd) = true) (h2 : P2 (fs.map LF.fd) = .inl ()) (u0 u3 u4 u5 u6 u7 u8 u9 u10 u11 u12 u13 u14 u15 u16 u17 u18 u19 u20 u21 u22 u23 u24 u25 u26 u27 u28 u29 u30 u31 u32 u33 u34 u35 u36 u37 u38 u39 u40 u41 u42 u43 u44 u45 u46 u47 u48 u49 u50 u51 u52 u53 u54 u55 u56 u57 u58 u59 u60 u61 u62 u63 u64 u65 u66 u67 u68 u69 u70 u71 u72 u73 u74 u75 u76 u77 u78 u79 u80 u81 u82 u83 u84 u85 u86 u87 u88 u89 u90 u91 u92 u93 u94 u95 u96 u97 u98 u99 u100 u101 u102 u103 u104 u105 u106 u107 u108 u109 u110 u111 u112 u113 u114 u115 u116 u117 u118 u119 u120 u121 u122 u123 u124 u125 u126 u127 u128 u129 u130 u131 u132 u133 u134 u135 u136 u137 u138 u139 u140 u141 u142 u143 u144 u145 u146 u147 u148 u149 u150 u151 u152 u153 u154 u155 u156 u157 u158 u159 u160 u161 u162 u163 u164 u165 u166 u167 u168 u169 u170 u171 u172 u173 u174 u175 u176 u177 u178 u179 u180 u181 u182 u183 u184 u185 u186 u187 u188 u189 u190 u191 u192 u193 u194 u195 u196 u197 u198 u199 u200 u201 u202 u203 u204 u205 u206 u207 u208 u209 u210 u211 u212 u213 u214 u215 u216 u217 u218 u219 u220 u221 u222 u223 u224 u225 u226 u227 u228 u229 u230 u231 u232 u233 u234 u235 u236 u237 u238 u239 u240 u241 u242 u243 u244 u245 u246 u247 u248 u249 u250 u251 u252 u253 u254 u255 u256 u257 u258 u259 u260 u261 u262 u263 u264 u265 u266 u267 u268 u269 u270 u271 u272 u273 u274 u275 u276 u277 u278 u279 u280 u281 u282 u283 u284 u285 u286 u287 u288 u289 u290 u291 u292 u293 u294 u295 u296 u297 u298 u299 u300 u301 u302 u303 u304 u305 u306 u307 u308 u309 u310 u311 u312 u313 u314 u315 u316 u317 u318 u319 u320 u321 u322 u323 u324 u325 u326 u327 u328 u329 u330 u331 u332 u333 u334 u335 u336 u337 u338 u339 u340 u341 u342 u343 u344 u345 u346 u347 u348 u349 u350 u351 u352 u353 u354 u355 u356 u357 u358 u359 u360 u361 u362 u363 u364 u365 u366 u367 u368 u369 u370 u371 u372 u373 u374 u375 u376 u377 u378 u379 u380 u381 u382 u383 u384 u385 u386 u387 u388 u389 u390 u391 u392 u393 u394 u395 u396 u397 u398 u399 u400 u401 u402 u403 u404 u405 u406 u407 u408 u409 u410 u411 u412 u413 u414 u415 u416 u417 u418 u419 u420 u421 u422 u423 u424 u425 u426 u427 u428 u429 u430 u431 u432 u433 u434 u435 u436 u437 u438 u439 u440 u441 u442 u443 u444 u445 u446 u447 u448 u449 u450 u451 u452 u453 u454 u455 u456 u457 u458 u459 u460 u461 u462 u463 u464 u465 u466 u467 u468 u469 u470 u471 u472 : Value) :
    ∀ d, tlo 5 Try.f8.body = some d → d.wp Try.prog (bodyPost Try.prog Try.f8 fun e W' => e = .returned (fltV (G3 (fs.map LF.fd))) ∧ Below w.heap.size w W') { tmps := #[u0, (.pointer (some ⟨w.heap.size, 0, none⟩)), (.pointer (some ⟨w.heap.size + 1, 0, none⟩)), u3, u4, u5, u6, u7, u8, u9, u10, u11, u12, u13, u14, u15, u16, u17, u18, u19, u20, u21, u22, u23, u24, u25, u26, u27, u28, u29, u30, u31, u32, u33, u34, u35, u36, u37, u38, u39, u40, u41, u42, u43, u44, u45, u46, u47, u48, u49, u50, u51, u52, u53, u54, u55, u56, u57, u58, u59, u60, u61, u62, u63, u64, u65, u66, u67, u68, u69, u70, u71, u72, u73, u74, u75, u76, u77, u78, u79, u80, u81, u82, u83, u84, u85, u86, u87, u88, u89, u90, u91, u92, u93, u94, u95, u96, u97, u98, u99, u100, u101, u102, u103, u104, u105, u106, u107, u108, u109, u110, u111, u112, u113, u114, u115, u116, u117, u118, u119, u120, u121, u122, u123, u124, u125, u126, u127, u128, u129, u130, u131, u132, u133, u134, u135, u136, u137, u138, u139, u140, u141, u142, u143, u144, u145, u146, u147, u148, u149, u150, u151, u152, u153, u154, u155, u156, u157, u158, u159, u160, u161, u162, u163, u164, u165, u166, u167, u168, u169, u170, u171, u172, u173, u174, u175, u176, u177, u178, u179, u180, u181, u182, u183, u184, u185, u186, u187, u188, u189, u190, u191, u192, u193, u194, u195, u196, u197, u198, u199, u200, u201, u202, u203, u204, u205, u206, u207, u208, u209, u210, u211, u212, u213, u214, u215, u216, u217, u218, u219, u220, u221, u222, u223, u224, u225, u226, u227, u228, u229, u230, u231, u232, u233, u234, u235, u236, u237, u238, u239, u240, u241, u242, u243, u244, u245, u246, u247, u248, u249, u250, u251, u252, u253, u254, u255, u256, u257, u258, u259, u260, u261, u262, u263, u264, u265, u266, u267, u268, u269, u270, u271, u272, u273, u274, u275, u276, u277, u278, u279, u280, u281, u282, u283, u284, u285, u286, u287, u288, u289, u290, u291, u292, u293, u294, u295, u296, u297, u298, u299, u300, u301, u302, u303, u304, u305, u306, u307, u308, u309, u310, u311, u312, u313, u314, u315, u316, u317, u318, u319, u320, u321, u322, u323, u324, u325, u326, u327, u328, u329, u330, u331, u332, u333, u334, u335, u336, u337, u338, u339, u340, u341, u342, u343, u344, u345, u346, u347, u348, u349, u350, u351, u352, u353, u354, u355, u356, u357, u358, u359, u360, u361, u362, u363, u364, u365, u366, u367, u368, u369, u370, u371, u372, u373, u374, u375, u376, u377, u378, u379, u380, u381, u382, u383, u384, u385, u386, u387, u388, u389, u390, u391, u392, u393, u394, u395, u396, u397, u398, u399, u400, u401, u402, u403, u404, u405, u406, u407, u408, u409, u410, u411, u412, u413, u414, u415, u416, u417, u418, u419, u420, u421, u422, u423, u424, u425, u426, u427, u428, u429, u430, u431, u432, u433, u434, u435, u436, u437, u438, u439, u440, u441, u442, u443, u444, u445, u446, u447, u448, u449, u450, u451, u452, u453, u454, u455, u456, u457, u458, u459, u460, u461, u462, u463, u464, u465, u466, u467, u468, u469, u470, u471, u472], defers := [] } W := by
  refine wp_at rfl ?_
  have H1 := Lib.hid h1; have H2 := Lib.hid h2
  clear h1 h2
  have HS := Lib.hid hS; have HR := Lib.hid hR; have HF := Lib.hid hF; have HCAP := Lib.hid hcap; have HKC := Lib.hid hkc
  have ub0 := hS.ub.cell 0
  have hz0 := hS.ub.lt
  have hz1 := hS.rb.lt
  clear hS hR hF hcap hkc
  go_wp2
  clear ub0
  rename_i K0 hK0
  have HK0 := Lib.hid hK0
  clear hK0
  go_loopw [92] (fun v wr => ∃ (p : Nat), p ≤ fs.length ∧ v = .int .i64 p ∧ Hid (P3 (fs.map LF.fd) = loop2 (in2 (fine3 (fs.map LF.fd)) (lenAt (fs.map LF.fd))) p (fs.length - p) ()) ∧ Hid (Fs w (.slice A fs.length c) wr)) (fun v _ => fs.length - (intOf v).toNat)
  case atStart => exact ⟨0, Nat.zero_le _, rfl, Lib.hid (by unfold P3 find2; rw [List.length_map]; rfl), HS⟩
  case round =>
    clear HS hz0 hz1
    obtain ⟨p, hp, rfl, HB, HS⟩ := hrel
    have hz0 := HS.out.ub.lt
    have hz1 := HS.out.rb.lt
    by_cases hlt : p < fs.length
    · obtain ⟨f, hpf⟩ : ∃ f, fs[p]? = some f := ⟨_, List.getElem?_eq_getElem hlt⟩
      obtain ⟨b, off, rfl, hlob, hb, c0, c1, c2, c3, c4, c5, c6, -⟩ := rdF_at (HR.out.below HS.out.bel) hpf
      have hfm := List.mem_of_getElem? hpf
      have HPF := Lib.hid hpf
      have HFM := Lib.hid hfm
      have hfn := HCAP.out f hfm
      obtain ⟨m, hm⟩ : ∃ m, fs.length - p = m + 1 := ⟨fs.length - p - 1, by omega⟩
      have HM := Lib.hid hm
      have hpl : (p : Int) < fs.length := by omega
      obtain ⟨w2, hw2⟩ : ∃ wo : World, wo = wr := ⟨_, rfl⟩
      obtain rfl := hw2
      have HS0 := Lib.hid (HS.out.alloc (.cells #[.string f.name, .int .i64 f.line, .int .i64 f.params, .bool f.rest, .slice f.va f.vars.length f.vc, .slice f.ua f.ups.length f.uc, .slice f.na f.ns.length f.nc] 47))
      have HX0 := Lib.hid (Blk.new w2 47 #[.string f.name, .int .i64 f.line, .int .i64 f.params, .bool f.rest, .slice f.va f.vars.length f.vc, .slice f.ua f.ups.length f.uc, .slice f.na f.ns.length f.nc])
      have HIN : Hid (in2 (fine3 (fs.map LF.fd)) (lenAt (fs.map LF.fd)) p () = loopS (chk (fine3 (fs.map LF.fd) p)) 0 f.ns.length ()) := Lib.hid (by unfold in2; rw [len_at hpf]; rfl)
      clear hpf hfm hm
      go_wp2
      clear c0 c1 c2 c3 c4 c5 c6 hb
      go_loopw [100] (fun v wx => ∃ (q : Nat), q ≤ f.ns.length ∧ v = .int .i64 q ∧ Hid (in2 (fine3 (fs.map LF.fd)) (lenAt (fs.map LF.fd)) p () = loopS (chk (fine3 (fs.map LF.fd) p)) q (f.ns.length - q) ()) ∧ Hid (Fs w (.slice (some ⟨b, off, none⟩) fs.length c) wx) ∧ Hid (Blk wx w2.heap.size 47 #[.string f.name, .int .i64 f.line, .int .i64 f.params, .bool f.rest, .slice f.va f.vars.length f.vc, .slice f.ua f.ups.length f.uc, .slice f.na f.ns.length f.nc])) (fun v _ => f.ns.length - (intOf v).toNat)
      case atStart => exact ⟨0, Nat.zero_le _, rfl, HIN, HS0, HX0⟩
      case round =>
        clear HIN HS0 HX0 HS
        obtain ⟨q, hq, rfl, HIN, HS, HX⟩ := hrel
        have x0 := HX.out.cell 0
        have x1 := HX.out.cell 1
        have x2 := HX.out.cell 2
        have x3 := HX.out.cell 3
        have x4 := HX.out.cell 4
        have x5 := HX.out.cell 5
        have x6 := HX.out.cell 6
        simp at x0 x1 x2 x3 x4 x5 x6
        have hxl := HX.out.lt
        by_cases hql : q < f.ns.length
        · obtain ⟨l, hl⟩ : ∃ l, f.ns[q]? = some l := ⟨_, List.getElem?_eq_getElem hql⟩
          obtain ⟨m2, hm2⟩ : ∃ m, f.ns.length - q = m + 1 := ⟨f.ns.length - q - 1, by omega⟩
          have HM2 := Lib.hid hm2
          have hqi : (q : Int) < f.ns.length := by omega
          have HL := Lib.hid hl
          have HOK := Lib.hid ((HR.out.2 f HFM.out).below HS.out.bel)
          have HF3 : Hid (fine3 (fs.map LF.fd) p q = shapeB (f.ns.map LN.nd) q l.nd) := Lib.hid (by unfold fine3; rw [fd_at HPF.out, show f.fd.nodes = f.ns.map LN.nd from rfl, nd_atD hl])
          clear hl hm2
          go_wp2_with fail
          refine (nok_any f l _ lo q HOK.out hfn (HF.out f HFM.out).2.2.2.2 HL.out).mono ?_
          rintro e w3 ⟨rfl, hb3⟩
          have HS3 := Lib.hid (HS.out.below hb3)
          have HX3 := Lib.hid (HX.out.below hb3 HX.out.lt)
          obtain ⟨sb, hsb⟩ : ∃ sb, sb = shapeB (f.ns.map LN.nd) q l.nd := ⟨_, rfl⟩
          rw [← hsb] at HF3 ⊢
          clear hb3 hsb x0 x1 x2 x3 x4 x5 x6 hxl HS HX
          cases sb with
          | true =>
            go_wp2
            exact ⟨⟨q + 1, by omega, by go_num, Lib.hid (by rw [HIN.out, HM2.out, loopS_ok (chk_t HF3.out), show f.ns.length - (q + 1) = m2 by have := HM2.out; omega]), HS3, HX3⟩, by simp [intOf]; omega⟩
          | false =>
            have HQ : Hid (G3 (fs.map LF.fd) = (3, (p : Int), (q : Int))) := Lib.hid (by unfold G3; rw [HB.out, HM.out, loop2_bad (n := q) (by rw [HIN.out, HM2.out, loopS_bad (chk_f HF3.out)])])
            obtain ⟨r0, r1, r2⟩ := box3 HS3.out.rb
            have g0 := HS3.out.rb.frozen 0
            have g1 := HS3.out.rb.frozen 1
            have g2 := HS3.out.rb.frozen 2
            have hbel := HS3.out.bel
            have hz9 := HS3.out.rb.lt
            have hz8 := HS3.out.ub.lt
            go_wp2
            refine bodyPost_ret (by simp [results, Try.results8, go_sem, *]; rfl) rfl ?_
            exact ⟨by rw [HQ.out]; rfl, (by (repeat (first | with_reducible assumption | with_reducible exact Below.refl _ _ | with_reducible refine Below.drew ?_ | with_reducible refine bl_drewN _ ?_ | ((with_reducible refine bl_alloc ?_ _ ?_); · (first | omega | (simp; done) | (simp; omega))) | ((with_reducible refine bl_set ?_ _ ?_); · (first | omega | (simp; done) | (simp; omega))))))⟩
        · have hqq : q = f.ns.length := by omega
          have HNX : Hid (P3 (fs.map LF.fd) = loop2 (in2 (fine3 (fs.map LF.fd)) (lenAt (fs.map LF.fd))) (p + 1) (fs.length - (p + 1)) ()) := Lib.hid (by rw [HB.out, HM.out, loop2_ok (s' := ()) (by rw [HIN.out, hqq, Nat.sub_self]; rfl), show fs.length - (p + 1) = m by have := HM.out; omega])
          go_wp2
          exact ⟨⟨p + 1, by omega, by go_num, HNX, HS⟩, by simp [intOf]; omega⟩
    · have HP3 : Hid (P3 (fs.map LF.fd) = .inl ()) := Lib.hid (by rw [HB.out, show fs.length - p = 0 by omega]; rfl)
      have HG : Hid (G3 (fs.map LF.fd) = G4 (fs.map LF.fd)) := Lib.hid (by unfold G3; rw [HP3.out])
      have hok := okW_of (F1_ok H1.out H2.out HP3.out) HCAP.out HF.out HKC.out
      have HOK := Lib.hid hok
      clear hok
      go_wp2
      have hend := ph4 A c fs w lo _ HS.out hn HR.out hlo (fun f hf => (HOK.out f hf).1) (fun f hf => (HOK.out f hf).2)
      rw [← HG.out] at hend
      refine HK0.out _ _ ?_
      exact hend _ _ _ _ _ _ _ _ _ _ _ _ _ _ _ _ _ _ _ _ _ _ _ _ _ _ _ _ _ _ _ _ _ _ _ _ _ _ _ _ _ _ _ _ _ _ _ _ _ _ _ _ _ _ _ _ _ _ _ _ _ _ _ _ _ _ _ _ _ _ _ _ _ _ _ _ _ _ _ _ _ _ _ _ _ _ _ _ _ _ _ _ _ _ _ _ _ _ _ _ _ _ _ _ _ _ _ _ _ _ _ _ _ _ _ _ _ _ _ _ _ _ _ _ _ _ _ _ _ _ _ _ _ _ _ _ _ _ _ _ _ _ _ _ _ _ _ _ _ _ _ _ _ _ _ _ _ _ _ _ _ _ _ _ _ _ _ _ _ _ _ _ _ _ _ _ _ _ _ _ _ _ _ _ _ _ _ _ _ _ _ _ _ _ _ _ _ _ _ _ _ _ _ _ _ _ _ _ _ _ _ _ _ _ _ _ _ _ _ _ _ _ _ _ _ _ _ _ _ _ _ _ _ _ _ _ _ _ _ _ _ _ _ _ _ _ _ _ _ _ _ _ _ _ _ _ _ _ _ _ _ _ _ _ _ _ _ _ _ _ _ _ _ _ _ _ _ _ _ _ _ _ _ _ _ _ _ _ _ _ _ _ _ _ _ _ _ _ _ _ _ _ _ _ _ _ _ _ _ _ _ _ _ _ _ _ _ _ _ _ _ _ _ _ _ _ _ _ _ _ _ _ _ _ _ _ _ _ _ _ _ _ _ _ _ _ _ _ _ _ _ _ _ _ _ _ _ _ _ _ _ _ _ _ _ _ _ _ _ _ _ _ _ _ _ _ _ _ _ _ _ _ _ _ _ _ _ _ _ _ _ _ _ _ _ _ _ _ _ _ _ _ _ _ _ _ _ _ _ _ _ _ _ _ _ _ _ _ _ _ _ _ _ _ _ _ _ _ _ _ _ _ _ _ _ _ _ _ _ _ _ _ _ _ _ _ _ _ _ _ _ _ _ _ _ _ _ _ _ _ _ _ _ _ _ _ _ _ _ _ _ _ rfl
set_option maxRecDepth 100000 in
set_option maxHeartbeats 20000000 in
theorem ph2 (A : Option Addr) (c : Nat) (fs : List LF) (w : World) (lo : Nat) (W : World) (hS : Fs w (.slice A fs.length c) W) (hn : fs.length ≤ 1048576) (hR : RdF w lo A fs) (hlo : lo ≤ w.heap.size) (hF : ∀ f ∈ fs, fitF f) (hcap : ∀ f ∈ fs, f.ns.length ≤ 1048576) (hkc : ∀ f ∈ fs, ∀ l ∈ f.ns, l.nd.kids.length ≤ l.kc) (h1 : ok1B (fs.map LF.fd) = true) (u0 u3 u4 u5 u6 u7 u8 u9 u10 u11 u12 u13 u14 u15 u16 u17 u18 u19 u20 u21 u22 u23 u24 u25 u26 u27 u28 u29 u30 u31 u32 u33 u34 u35 u36 u37 u38 u39 u40 u41 u42 u43 u44 u45 u46 u47 u48 u49 u50 u51 u52 u53 u54 u55 u56 u57 u58 u59 u60 u61 u62 u63 u64 u65 u66 u67 u68 u69 u70 u71 u72 u73 u74 u75 u76 u77 u78 u79 u80 u81 u82 u83 u84 u85 u86 u87 u88 u89 u90 u91 u92 u93 u94 u95 u96 u97 u98 u99 u100 u101 u102 u103 u104 u105 u106 u107 u108 u109 u110 u111 u112 u113 u114 u115 u116 u117 u118 u119 u120 u121 u122 u123 u124 u125 u126 u127 u128 u129 u130 u131 u132 u133 u134 u135 u136 u137 u138 u139 u140 u141 u142 u143 u144 u145 u146 u147 u148 u149 u150 u151 u152 u153 u154 u155 u156 u157 u158 u159 u160 u161 u162 u163 u164 u165 u166 u167 u168 u169 u170 u171 u172 u173 u174 u175 u176 u177 u178 u179 u180 u181 u182 u183 u184 u185 u186 u187 u188 u189 u190 u191 u192 u193 u194 u195 u196 u197 u198 u199 u200 u201 u202 u203 u204 u205 u206 u207 u208 u209 u210 u211 u212 u213 u214 u215 u216 u217 u218 u219 u220 u221 u222 u223 u224 u225 u226 u227 u228 u229 u230 u231 u232 u233 u234 u235 u236 u237 u238 u239 u240 u241 u242 u243 u244 u245 u246 u247 u248 u249 u250 u251 u252 u253 u254 u255 u256 u257 u258 u259 u260 u261 u262 u263 u264 u265 u266 u267 u268 u269 u270 u271 u272 u273 u274 u275 u276 u277 u278 u279 u280 u281 u282 u283 u284 u285 u286 u287 u288 u289 u290 u291 u292 u293 u294 u295 u296 u297 u298 u299 u300 u301 u302 u303 u304 u305 u306 u307 u308 u309 u310 u311 u312 u313 u314 u315 u316 u317 u318 u319 u320 u321 u322 u323 u324 u325 u326 u327 u328 u329 u330 u331 u332 u333 u334 u335 u336 u337 u338 u339 u340 u341 u342 u343 u344 u345 u346 u347 u348 u349 u350 u351 u352 u353 u354 u355 u356 u357 u358 u359 u360 u361 u362 u363 u364 u365 u366 u367 u368 u369 u370 u371 u372 u373 u374 u375 u376 u377 u378 u379 u380 u381 u382 u383 u384 u385 u386 u387 u388 u389 u390 u391 u392 u393 u394 u395 u396 u397 u398 u399 u400 u401 u402 u403 u404 u405 u406 u407 u408 u409 u410 u411 u412 u413 u414 u415 u416 u417 u418 u419 u420 u421 u422 u423 u424 u425 u426 u427 u428 u429 u430 u431 u432 u433 u434 u435 u436 u437 u438 u439 u440 u441 u442 u443 u444 u445 u446 u447 u448 u449 u450 u451 u452 u453 u454 u455 u456 u457 u458 u459 u460 u461 u462 u463 u464 u465 u466 u467 u468 u469 u470 u471 u472 : Value) :
    ∀ d, tlo 4 Try.f8.body = some d → d.wp Try.prog (bodyPost Try.prog Try.f8 fun e W' => e = .returned (fltV (G2 (fs.map LF.fd))) ∧ Below w.heap.size w W') { tmps := #[u0, (.pointer (some ⟨w.heap.size, 0, none⟩)), (.pointer (some ⟨w.heap.size + 1, 0, none⟩)), u3, u4, u5, u6, u7, u8, u9, u10, u11, u12, u13, u14, u15, u16, u17, u18, u19, u20, u21, u22, u23, u24, u25, u26, u27, u28, u29, u30, u31, u32, u33, u34, u35, u36, u37, u38, u39, u40, u41, u42, u43, u44, u45, u46, u47, u48, u49, u50, u51, u52, u53, u54, u55, u56, u57, u58, u59, u60, u61, u62, u63, u64, u65, u66, u67, u68, u69, u70, u71, u72, u73, u74, u75, u76, u77, u78, u79, u80, u81, u82, u83, u84, u85, u86, u87, u88, u89, u90, u91, u92, u93, u94, u95, u96, u97, u98, u99, u100, u101, u102, u103, u104, u105, u106, u107, u108, u109, u110, u111, u112, u113, u114, u115, u116, u117, u118, u119, u120, u121, u122, u123, u124, u125, u126, u127, u128, u129, u130, u131, u132, u133, u134, u135, u136, u137, u138, u139, u140, u141, u142, u143, u144, u145, u146, u147, u148, u149, u150, u151, u152, u153, u154, u155, u156, u157, u158, u159, u160, u161, u162, u163, u164, u165, u166, u167, u168, u169, u170, u171, u172, u173, u174, u175, u176, u177, u178, u179, u180, u181, u182, u183, u184, u185, u186, u187, u188, u189, u190, u191, u192, u193, u194, u195, u196, u197, u198, u199, u200, u201, u202, u203, u204, u205, u206, u207, u208, u209, u210, u211, u212, u213, u214, u215, u216, u217, u218, u219, u220, u221, u222, u223, u224, u225, u226, u227, u228, u229, u230, u231, u232, u233, u234, u235, u236, u237, u238, u239, u240, u241, u242, u243, u244, u245, u246, u247, u248, u249, u250, u251, u252, u253, u254, u255, u256, u257, u258, u259, u260, u261, u262, u263, u264, u265, u266, u267, u268, u269, u270, u271, u272, u273, u274, u275, u276, u277, u278, u279, u280, u281, u282, u283, u284, u285, u286, u287, u288, u289, u290, u291, u292, u293, u294, u295, u296, u297, u298, u299, u300, u301, u302, u303, u304, u305, u306, u307, u308, u309, u310, u311, u312, u313, u314, u315, u316, u317, u318, u319, u320, u321, u322, u323, u324, u325, u326, u327, u328, u329, u330, u331, u332, u333, u334, u335, u336, u337, u338, u339, u340, u341, u342, u343, u344, u345, u346, u347, u348, u349, u350, u351, u352, u353, u354, u355, u356, u357, u358, u359, u360, u361, u362, u363, u364, u365, u366, u367, u368, u369, u370, u371, u372, u373, u374, u375, u376, u377, u378, u379, u380, u381, u382, u383, u384, u385, u386, u387, u388, u389, u390, u391, u392, u393, u394, u395, u396, u397, u398, u399, u400, u401, u402, u403, u404, u405, u406, u407, u408, u409, u410, u411, u412, u413, u414, u415, u416, u417, u418, u419, u420, u421, u422, u423, u424, u425, u426, u427, u428, u429, u430, u431, u432, u433, u434, u435, u436, u437, u438, u439, u440, u441, u442, u443, u444, u445, u446, u447, u448, u449, u450, u451, u452, u453, u454, u455, u456, u457, u458, u459, u460, u461, u462, u463, u464, u465, u466, u467, u468, u469, u470, u471, u472], defers := [] } W := by
  refine wp_at rfl ?_
  have H1 := Lib.hid h1
  clear h1
  have HS := Lib.hid hS; have HR := Lib.hid hR; have HF := Lib.hid hF; have HCAP := Lib.hid hcap; have HKC := Lib.hid hkc
  have ub0 := hS.ub.cell 0
  have hz0 := hS.ub.lt
  have hz1 := hS.rb.lt
  clear hS hR hF hcap hkc
  go_wp2
  clear ub0
  rename_i K0 hK0
  have HK0 := Lib.hid hK0
  clear hK0
  go_loopw [79] (fun v wr => ∃ (p : Nat), p ≤ fs.length ∧ v = .int .i64 p ∧ Hid (P2 (fs.map LF.fd) = loopS (chk (fine2 (fs.map LF.fd))) p (fs.length - p) ()) ∧ Hid (Fs w (.slice A fs.length c) wr)) (fun v _ => fs.length - (intOf v).toNat)
  case atStart => exact ⟨0, Nat.zero_le _, rfl, Lib.hid (by unfold P2 find1; rw [List.length_map]; rfl), HS⟩
  case round =>
    clear HS hz0 hz1
    obtain ⟨p, hp, rfl, HB, HS⟩ := hrel
    have hz0 := HS.out.ub.lt
    have hz1 := HS.out.rb.lt
    by_cases hlt : p < fs.length
    · obtain ⟨f, hpf⟩ : ∃ f, fs[p]? = some f := ⟨_, List.getElem?_eq_getElem hlt⟩
      have hfm := List.mem_of_getElem? hpf
      have HPF := Lib.hid hpf
      have HFM := Lib.hid hfm
      obtain ⟨m, hm⟩ : ∃ m, fs.length - p = m + 1 := ⟨fs.length - p - 1, by omega⟩
      have HM := Lib.hid hm
      have hpl : (p : Int) < fs.length := by omega
      have ub0 := HS.out.ub.cell 0
      simp at ub0
      have HF2 : Hid (fine2 (fs.map LF.fd) p = headB f.fd p) := Lib.hid (by unfold fine2; rw [fd_at hpf])
      have HRW := Lib.hid (HR.out.below HS.out.bel)
      clear hpf hfm hm
      go_wp2_with fail
      refine (ihead_any A c fs f _ lo p HRW.out (by unfold maxLen; omega) (HF.out f HFM.out) HPF.out).mono ?_
      rintro e w3 ⟨rfl, hb3⟩
      have HS3 := Lib.hid (HS.out.below hb3)
      obtain ⟨sb, hsb⟩ : ∃ sb, sb = headB f.fd p := ⟨_, rfl⟩
      rw [← hsb] at HF2 ⊢
      clear hb3 hsb ub0 HS HRW
      cases sb with
      | true =>
        go_wp2
        exact ⟨⟨p + 1, by omega, by go_num, Lib.hid (by rw [HB.out, HM.out, loopS_ok (chk_t HF2.out), show fs.length - (p + 1) = m by have := HM.out; omega]), HS3⟩, by simp [intOf]; omega⟩
      | false =>
        have HQ : Hid (G2 (fs.map LF.fd) = (2, (p : Int), 0)) := Lib.hid (by unfold G2; rw [HB.out, HM.out, loopS_bad (chk_f HF2.out)])
        obtain ⟨r0, r1, r2⟩ := box3 HS3.out.rb
        have g0 := HS3.out.rb.frozen 0
        have g1 := HS3.out.rb.frozen 1
        have g2 := HS3.out.rb.frozen 2
        have hbel := HS3.out.bel
        have hz9 := HS3.out.rb.lt
        have hz8 := HS3.out.ub.lt
        go_wp2
        refine bodyPost_ret (by simp [results, Try.results8, go_sem, *]; rfl) rfl ?_
        exact ⟨by rw [HQ.out]; rfl, (by (repeat (first | with_reducible assumption | with_reducible exact Below.refl _ _ | with_reducible refine Below.drew ?_ | with_reducible refine bl_drewN _ ?_ | ((with_reducible refine bl_alloc ?_ _ ?_); · (first | omega | (simp; done) | (simp; omega))) | ((with_reducible refine bl_set ?_ _ ?_); · (first | omega | (simp; done) | (simp; omega))))))⟩
    · have HP2 : Hid (P2 (fs.map LF.fd) = .inl ()) := Lib.hid (by rw [HB.out, show fs.length - p = 0 by omega]; rfl)
      have HG : Hid (G2 (fs.map LF.fd) = G3 (fs.map LF.fd)) := Lib.hid (by unfold G2; rw [HP2.out])
      go_wp2
      have hend := ph3 A c fs w lo _ HS.out hn HR.out hlo HF.out HCAP.out HKC.out H1.out HP2.out
      rw [← HG.out] at hend
      refine HK0.out _ _ ?_
      exact hend _ _ _ _ _ _ _ _ _ _ _ _ _ _ _ _ _ _ _ _ _ _ _ _ _ _ _ _ _ _ _ _ _ _ _ _ _ _ _ _ _ _ _ _ _ _ _ _ _ _ _ _ _ _ _ _ _ _ _ _ _ _ _ _ _ _ _ _ _ _ _ _ _ _ _ _ _ _ _ _ _ _ _ _ _ _ _ _ _ _ _ _ _ _ _ _ _ _ _ _ _ _ _ _ _ _ _ _ _ _ _ _ _ _ _ _ _ _ _ _ _ _ _ _ _ _ _ _ _ _ _ _ _ _ _ _ _ _ _ _ _ _ _ _ _ _ _ _ _ _ _ _ _ _ _ _ _ _ _ _ _ _ _ _ _ _ _ _ _ _ _ _ _ _ _ _ _ _ _ _ _ _ _ _ _ _ _ _ _ _ _ _ _ _ _ _ _ _ _ _ _ _ _ _ _ _ _ _ _ _ _ _ _ _ _ _ _ _ _ _ _ _ _ _ _ _ _ _ _ _ _ _ _ _ _ _ _ _ _ _ _ _ _ _ _ _ _ _ _ _ _ _ _ _ _ _ _ _ _ _ _ _ _ _ _ _ _ _ _ _ _ _ _ _ _ _ _ _ _ _ _ _ _ _ _ _ _ _ _ _ _ _ _ _ _ _ _ _ _ _ _ _ _ _ _ _ _ _ _ _ _ _ _ _ _ _ _ _ _ _ _ _ _ _ _ _ _ _ _ _ _ _ _ _ _ _ _ _ _ _ _ _ _ _ _ _ _ _ _ _ _ _ _ _ _ _ _ _ _ _ _ _ _ _ _ _ _ _ _ _ _ _ _ _ _ _ _ _ _ _ _ _ _ _ _ _ _ _ _ _ _ _ _ _ _ _ _ _ _ _ _ _ _ _ _ _ _ _ _ _ _ _ _ _ _ _ _ _ _ _ _ _ _ _ _ _ _ _ _ _ _ _ _ _ _ _ _ _ _ _ _ _ _ _ _ _ _ _ _ _ _ _ _ _ _ _ _ _ _ _ _ _ _ _ _ _ _ _ _ _ _ _ rfl
set_option maxRecDepth 100000 in
set_option maxHeartbeats 20000000 in
/-- CheckUnit of the program. -/
theorem icheck_any (A : Option Addr) (c : Nat) (fs : List LF) (w : World) (lo : Nat) (hR : RdF w lo A fs) (hlo : lo ≤ w.heap.size) (hn : fs.length ≤ 1048576) (hF : ∀ f ∈ fs, fitF f) (ht : totW (fun f => f.ns.length) fs ≤ 1048576) (hkc : ∀ f ∈ fs, ∀ l ∈ f.ns, l.nd.kids.length ≤ l.kc) :
    Calls Try.prog 8 #[.agg #[.slice A fs.length c]] w fun e w' => e = .returned (fltV (checkP (fs.map LF.fd))) ∧ Below w.heap.size w w' := by
  have htn : totN (fs.map LF.fd) = totW (fun f => f.ns.length) fs := by
    unfold totN
    rw [totW_map]
    congr 1
    funext f
    simp [LF.fd]
  have HTN := Lib.hid htn
  have HR := Lib.hid hR; have HF := Lib.hid hF; have HKC := Lib.hid hkc; have HCAP := Lib.hid (cap_ns ht); have HT := Lib.hid ht
  have HS0 : Hid (Fs w (.slice A fs.length c) ((w.alloc (.cells #[(.slice A fs.length c)] 31)).alloc (.cells #[.int .i64 0, .int .i64 0, .int .i64 0] 27))) := Lib.hid ⟨(Blk.new _ _ _).alloc _, Blk.new_at (by simp), below_new2 _ _ _⟩
  clear hR hF hkc htn ht
  go_enter Try.func8, Try.ntmps8
  go_wp2
  go_loopw [3, 51] (fun tv v wr => ∃ (p : Nat) (T : Nat), p ≤ fs.length ∧ v = .int .i64 p ∧ tv = .int .i64 T ∧ Hid (T = totW (fun f => f.ns.length) (fs.take p)) ∧ T ≤ 1048576 ∧ Hid (Fs w (.slice A fs.length c) wr)) (fun _ v _ => fs.length - (intOf v).toNat)
  case atStart => exact ⟨0, 0, Nat.zero_le _, rfl, rfl, Lib.hid rfl, by omega, HS0⟩
  case round =>
    clear HS0
    obtain ⟨p, T, hp, rfl, rfl, HTT, hT, HS⟩ := hrel
    have hz0 := HS.out.ub.lt
    have hz1 := HS.out.rb.lt
    by_cases hlt : p < fs.length
    · obtain ⟨f, hpf⟩ : ∃ f, fs[p]? = some f := ⟨_, List.getElem?_eq_getElem hlt⟩
      obtain ⟨b, off, rfl, hlob, hb, c0, c1, c2, c3, c4, c5, c6, -⟩ := rdF_at (HR.out.below HS.out.bel) hpf
      have htk := totW_take (fun f : LF => f.ns.length) fs p f hpf
      have htl := totW_le (fun f : LF => f.ns.length) fs (p + 1)
      have HT2 : Hid (T + f.ns.length = totW (fun f => f.ns.length) (fs.take (p + 1))) := Lib.hid (by rw [htk, HTT.out])
      have hT2 : T + f.ns.length ≤ 1048576 := by have := HT2.out; have := HT.out; omega
      have hpl : (p : Int) < fs.length := by omega
      have HS2 := Lib.hid (HS.out.alloc (.cells #[.string f.name, .int .i64 f.line, .int .i64 f.params, .bool f.rest, .slice f.va f.vars.length f.vc, .slice f.ua f.ups.length f.uc, .slice f.na f.ns.length f.nc] 47))
      clear hpf htk htl
      go_wp2
      exact ⟨⟨p + 1, T + f.ns.length, by omega, by go_num, by go_num, HT2, hT2, HS2⟩, by simp [intOf]; omega⟩
    · have hpp : p = fs.length := by omega
      have HTO : Hid (totN (fs.map LF.fd) = T) := Lib.hid (by rw [HTN.out, HTT.out, hpp, List.take_length])
      have ub0 := HS.out.ub.cell 0
      simp at ub0
      clear hpp
      by_cases q1 : fs.length < 1
      · have HQ : Hid (checkP (fs.map LF.fd) = (1, 0, 0)) := Lib.hid (by
          unfold checkP ok1B; rw [if_pos (by rw [decide_eq_false_iff_not, List.length_map]; omega)])
        have q1b : decide ((fs.length : Int) < 1) = true := decide_eq_true (by omega)
        obtain ⟨r0, r1, r2⟩ := box3 HS.out.rb
        have g0 := HS.out.rb.frozen 0
        have g1 := HS.out.rb.frozen 1
        have g2 := HS.out.rb.frozen 2
        have hbel := HS.out.bel
        have hz9 := HS.out.rb.lt
        have hz8 := HS.out.ub.lt
        go_wp2
        refine bodyPost_ret (by simp [results, Try.results8, go_sem, *]; rfl) rfl ?_
        exact ⟨by rw [HQ.out]; rfl, (by (repeat (first | with_reducible assumption | with_reducible exact Below.refl _ _ | with_reducible refine Below.drew ?_ | with_reducible refine bl_drewN _ ?_ | ((with_reducible refine bl_alloc ?_ _ ?_); · (first | omega | (simp; done) | (simp; omega))) | ((with_reducible refine bl_set ?_ _ ?_); · (first | omega | (simp; done) | (simp; omega))))))⟩
      · have q1b : decide ((fs.length : Int) < 1) = false := decide_eq_false (by omega)
        by_cases q2 : 300 < fs.length
        · have HQ : Hid (checkP (fs.map LF.fd) = (1, 0, 0)) := Lib.hid (by
            unfold checkP ok1B; rw [if_pos (by rw [decide_eq_false_iff_not, List.length_map]; omega)])
          have q2b : decide ((300 : Int) < fs.length) = true := decide_eq_true (by omega)
          have q2c : decide (300 < fs.length) = true := decide_eq_true (by omega)
          obtain ⟨r0, r1, r2⟩ := box3 HS.out.rb
          have g0 := HS.out.rb.frozen 0
          have g1 := HS.out.rb.frozen 1
          have g2 := HS.out.rb.frozen 2
          have hbel := HS.out.bel
          have hz9 := HS.out.rb.lt
          have hz8 := HS.out.ub.lt
          go_wp2
          refine bodyPost_ret (by simp [results, Try.results8, go_sem, *]; rfl) rfl ?_
          exact ⟨by rw [HQ.out]; rfl, (by (repeat (first | with_reducible assumption | with_reducible exact Below.refl _ _ | with_reducible refine Below.drew ?_ | with_reducible refine bl_drewN _ ?_ | ((with_reducible refine bl_alloc ?_ _ ?_); · (first | omega | (simp; done) | (simp; omega))) | ((with_reducible refine bl_set ?_ _ ?_); · (first | omega | (simp; done) | (simp; omega))))))⟩
        · have q2b : decide ((300 : Int) < fs.length) = false := decide_eq_false (by omega)
          have q2c : decide (300 < fs.length) = false := decide_eq_false (by omega)
          by_cases q3 : 3000 < T
          · have HQ : Hid (checkP (fs.map LF.fd) = (1, 0, 0)) := Lib.hid (by
              unfold checkP ok1B; rw [if_pos (by rw [decide_eq_false_iff_not, HTO.out]; omega)])
            have q3b : decide ((3000 : Int) < T) = true := decide_eq_true (by omega)
            have q3c : decide (3000 < T) = true := decide_eq_true (by omega)
            obtain ⟨r0, r1, r2⟩ := box3 HS.out.rb
            have g0 := HS.out.rb.frozen 0
            have g1 := HS.out.rb.frozen 1
            have g2 := HS.out.rb.frozen 2
            have hbel := HS.out.bel
            have hz9 := HS.out.rb.lt
            have hz8 := HS.out.ub.lt
            go_wp2
            refine bodyPost_ret (by simp [results, Try.results8, go_sem, *]; rfl) rfl ?_
            exact ⟨by rw [HQ.out]; rfl, (by (repeat (first | with_reducible assumption | with_reducible exact Below.refl _ _ | with_reducible refine Below.drew ?_ | with_reducible refine bl_drewN _ ?_ | ((with_reducible refine bl_alloc ?_ _ ?_); · (first | omega | (simp; done) | (simp; omega))) | ((with_reducible refine bl_set ?_ _ ?_); · (first | omega | (simp; done) | (simp; omega))))))⟩
          · have q3b : decide ((3000 : Int) < T) = false := decide_eq_false (by omega)
            have q3c : decide (3000 < T) = false := decide_eq_false (by omega)
            have HK1 : Hid (ok1B (fs.map LF.fd) = true) := Lib.hid (by
              unfold ok1B; rw [decide_eq_true_eq, List.length_map, HTO.out]; omega)
            have HG : Hid (checkP (fs.map LF.fd) = G2 (fs.map LF.fd)) := Lib.hid (by unfold checkP; rw [if_neg (by rw [HK1.out]; decide)])
            rename_i K0 hK0
            have HK0 := Lib.hid hK0
            clear hK0
            go_wp2
            refine HK0.out _ _ ?_
            apply wp_seq_k
            intro K1 hK1
            have HKK := Lib.hid hK1
            clear hK1
            go_wp2
            have hend := ph2 A c fs w lo _ HS.out hn HR.out hlo HF.out HCAP.out HKC.out HK1.out
            rw [← HG.out] at hend
            refine HKK.out _ _ ?_
            exact hend _ _ _ _ _ _ _ _ _ _ _ _ _ _ _ _ _ _ _ _ _ _ _ _ _ _ _ _ _ _ _ _ _ _ _ _ _ _ _ _ _ _ _ _ _ _ _ _ _ _ _ _ _ _ _ _ _ _ _ _ _ _ _ _ _ _ _ _ _ _ _ _ _ _ _ _ _ _ _ _ _ _ _ _ _ _ _ _ _ _ _ _ _ _ _ _ _ _ _ _ _ _ _ _ _ _ _ _ _ _ _ _ _ _ _ _ _ _ _ _ _ _ _ _ _ _ _ _ _ _ _ _ _ _ _ _ _ _ _ _ _ _ _ _ _ _ _ _ _ _ _ _ _ _ _ _ _ _ _ _ _ _ _ _ _ _ _ _ _ _ _ _ _ _ _ _ _ _ _ _ _ _ _ _ _ _ _ _ _ _ _ _ _ _ _ _ _ _ _ _ _ _ _ _ _ _ _ _ _ _ _ _ _ _ _ _ _ _ _ _ _ _ _ _ _ _ _ _ _ _ _ _ _ _ _ _ _ _ _ _ _ _ _ _ _ _ _ _ _ _ _ _ _ _ _ _ _ _ _ _ _ _ _ _ _ _ _ _ _ _ _ _ _ _ _ _ _ _ _ _ _ _ _ _ _ _ _ _ _ _ _ _ _ _ _ _ _ _ _ _ _ _ _ _ _ _ _ _ _ _ _ _ _ _ _ _ _ _ _ _ _ _ _ _ _ _ _ _ _ _ _ _ _ _ _ _ _ _ _ _ _ _ _ _ _ _ _ _ _ _ _ _ _ _ _ _ _ _ _ _ _ _ _ _ _ _ _ _ _ _ _ _ _ _ _ _ _ _ _ _ _ _ _ _ _ _ _ _ _ _ _ _ _ _ _ _ _ _ _ _ _ _ _ _ _ _ _ _ _ _ _ _ _ _ _ _ _ _ _ _ _ _ _ _ _ _ _ _ _ _ _ _ _ _ _ _ _ _ _ _ _ _ _ _ _ _ _ _ _ _ _ _ _ _ _ _ _ _ _ _ _ _ _ _ _ _ _ _ _ _ _ _ rfl
end Go.Proofs.Ytcpjplkbmflglaa
