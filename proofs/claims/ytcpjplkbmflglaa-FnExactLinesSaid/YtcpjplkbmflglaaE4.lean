/- CheckUnit's phase of code 4. -/
import Derived.Test.YtcpjplkbmflglaaE5
namespace Go.Proofs.Ytcpjplkbmflglaa
open Go.RowKit
attribute [local go_sem] run_store_float
set_option linter.unusedVariables false
def uput (u : List Int) (k : Int) : List Int := u.set k.toNat ((u[k.toNat]?).getD 0 + 1)
def unode (u : List Int) (n : Nd) : List Int := n.kids.foldl uput u
def usedP (ns : List Nd) : List Int := ns.foldl unode (List.replicate ns.length 0)
def fine4p (ns : List Nd) (n : Nat) : Bool := if n + 1 = ns.length then (ndAt ns n).kind == 1 else ((usedP ns)[n]?).getD 0 == 1
def P4p (fs : List Fd) : Unit ⊕ (Nat × Nat) := find2 (fun i => fine4p (nodesAt fs i)) (lenAt fs) fs.length
def G4 (fs : List Fd) : Flt3 := match P4p fs with
  | .inr (f, n) => (4, f, n)
  | .inl _ => G5 fs
/-- No more than c kids have been counted. -/
def UBd (c : Nat) (u : List Int) : Prop := ∀ (i : Nat) (y : Int), u[i]? = some y → 0 ≤ y ∧ y ≤ c
theorem UBd.start (len : Nat) : UBd 0 (List.replicate len 0) := fun i y h => by
  rw [List.getElem?_replicate] at h
  split at h
  · injection h with h; omega
  · cases h
theorem UBd.put {c : Nat} {u : List Int} (h : UBd c u) {q : Nat} {x : Int} (hq : u[q]? = some x) : UBd (c + 1) (u.set q (x + 1)) := fun i y hy => by
  by_cases e : q = i
  · subst e
    rw [List.getElem?_set] at hy
    simp at hy
    have := h q x hq
    omega
  · rw [List.getElem?_set_ne e] at hy
    have := h i y hy
    omega
set_option maxRecDepth 100000 in
set_option maxHeartbeats 20000000 in
theorem ph4 (A : Option Addr) (c : Nat) (fs : List LF) (w : World) (lo : Nat) (W : World) (hS : Fs w (.slice A fs.length c) W) (hn : fs.length ≤ 1048576) (hR : RdF w lo A fs) (hlo : lo ≤ w.heap.size) (hO : ∀ f ∈ fs, OkW f) (hK : ∀ f ∈ fs, ∀ l ∈ f.ns, l.nd.kids.length ≤ 200) (u0 u3 u4 u5 u6 u7 u8 u9 u10 u11 u12 u13 u14 u15 u16 u17 u18 u19 u20 u21 u22 u23 u24 u25 u26 u27 u28 u29 u30 u31 u32 u33 u34 u35 u36 u37 u38 u39 u40 u41 u42 u43 u44 u45 u46 u47 u48 u49 u50 u51 u52 u53 u54 u55 u56 u57 u58 u59 u60 u61 u62 u63 u64 u65 u66 u67 u68 u69 u70 u71 u72 u73 u74 u75 u76 u77 u78 u79 u80 u81 u82 u83 u84 u85 u86 u87 u88 u89 u90 u91 u92 u93 u94 u95 u96 u97 u98 u99 u100 u101 u102 u103 u104 u105 u106 u107 u108 u109 u110 u111 u112 u113 u114 u115 u116 u117 u118 u119 u120 u121 u122 u123 u124 u125 u126 u127 u128 u129 u130 u131 u132 u133 u134 u135 u136 u137 u138 u139 u140 u141 u142 u143 u144 u145 u146 u147 u148 u149 u150 u151 u152 u153 u154 u155 u156 u157 u158 u159 u160 u161 u162 u163 u164 u165 u166 u167 u168 u169 u170 u171 u172 u173 u174 u175 u176 u177 u178 u179 u180 u181 u182 u183 u184 u185 u186 u187 u188 u189 u190 u191 u192 u193 u194 u195 u196 u197 u198 u199 u200 u201 u202 u203 u204 u205 u206 u207 u208 u209 u210 u211 u212 u213 u214 u215 u216 u217 u218 u219 u220 u221 u222 u223 u224 u225 u226 u227 u228 u229 u230 u231 u232 u233 u234 u235 u236 u237 u238 u239 u240 u241 u242 u243 u244 u245 u246 u247 u248 u249 u250 u251 u252 u253 u254 u255 u256 u257 u258 u259 u260 u261 u262 u263 u264 u265 u266 u267 u268 u269 u270 u271 u272 u273 u274 u275 u276 u277 u278 u279 u280 u281 u282 u283 u284 u285 u286 u287 u288 u289 u290 u291 u292 u293 u294 u295 u296 u297 u298 u299 u300 u301 u302 u303 u304 u305 u306 u307 u308 u309 u310 u311 u312 u313 u314 u315 u316 u317 u318 u319 u320 u321 u322 u323 u324 u325 u326 u327 u328 u329 u330 u331 u332 u333 u334 u335 u336 u337 u338 u339 u340 u341 u342 u343 u344 u345 u346 u347 u348 u349 u350 u351 u352 u353 u354 u355 u356 u357 u358 u359 u360 u361 u362 u363 u364 u365 u366 u367 u368 u369 u370 u371 u372 u373 u374 u375 u376 u377 u378 u379 u380 u381 u382 u383 u384 u385 u386 u387 u388 u389 u390 u391 u392 u393 u394 u395 u396 u397 u398 u399 u400 u401 u402 u403 u404 u405 u406 u407 u408 u409 u410 u411 u412 u413 u414 u415 u416 u417 u418 u419 u420 u421 u422 u423 u424 u425 u426 u427 u428 u429 u430 u431 u432 u433 u434 u435 u436 u437 u438 u439 u440 u441 u442 u443 u444 u445 u446 u447 u448 u449 u450 u451 u452 u453 u454 u455 u456 u457 u458 u459 u460 u461 u462 u463 u464 u465 u466 u467 u468 u469 u470 u471 u472 : Value) :
    ∀ d, tlo 6 Try.f8.body = some d → d.wp Try.prog (bodyPost Try.prog Try.f8 fun e W' => e = .returned (fltV (G4 (fs.map LF.fd))) ∧ Below w.heap.size w W') { tmps := #[u0, (.pointer (some ⟨w.heap.size, 0, none⟩)), (.pointer (some ⟨w.heap.size + 1, 0, none⟩)), u3, u4, u5, u6, u7, u8, u9, u10, u11, u12, u13, u14, u15, u16, u17, u18, u19, u20, u21, u22, u23, u24, u25, u26, u27, u28, u29, u30, u31, u32, u33, u34, u35, u36, u37, u38, u39, u40, u41, u42, u43, u44, u45, u46, u47, u48, u49, u50, u51, u52, u53, u54, u55, u56, u57, u58, u59, u60, u61, u62, u63, u64, u65, u66, u67, u68, u69, u70, u71, u72, u73, u74, u75, u76, u77, u78, u79, u80, u81, u82, u83, u84, u85, u86, u87, u88, u89, u90, u91, u92, u93, u94, u95, u96, u97, u98, u99, u100, u101, u102, u103, u104, u105, u106, u107, u108, u109, u110, u111, u112, u113, u114, u115, u116, u117, u118, u119, u120, u121, u122, u123, u124, u125, u126, u127, u128, u129, u130, u131, u132, u133, u134, u135, u136, u137, u138, u139, u140, u141, u142, u143, u144, u145, u146, u147, u148, u149, u150, u151, u152, u153, u154, u155, u156, u157, u158, u159, u160, u161, u162, u163, u164, u165, u166, u167, u168, u169, u170, u171, u172, u173, u174, u175, u176, u177, u178, u179, u180, u181, u182, u183, u184, u185, u186, u187, u188, u189, u190, u191, u192, u193, u194, u195, u196, u197, u198, u199, u200, u201, u202, u203, u204, u205, u206, u207, u208, u209, u210, u211, u212, u213, u214, u215, u216, u217, u218, u219, u220, u221, u222, u223, u224, u225, u226, u227, u228, u229, u230, u231, u232, u233, u234, u235, u236, u237, u238, u239, u240, u241, u242, u243, u244, u245, u246, u247, u248, u249, u250, u251, u252, u253, u254, u255, u256, u257, u258, u259, u260, u261, u262, u263, u264, u265, u266, u267, u268, u269, u270, u271, u272, u273, u274, u275, u276, u277, u278, u279, u280, u281, u282, u283, u284, u285, u286, u287, u288, u289, u290, u291, u292, u293, u294, u295, u296, u297, u298, u299, u300, u301, u302, u303, u304, u305, u306, u307, u308, u309, u310, u311, u312, u313, u314, u315, u316, u317, u318, u319, u320, u321, u322, u323, u324, u325, u326, u327, u328, u329, u330, u331, u332, u333, u334, u335, u336, u337, u338, u339, u340, u341, u342, u343, u344, u345, u346, u347, u348, u349, u350, u351, u352, u353, u354, u355, u356, u357, u358, u359, u360, u361, u362, u363, u364, u365, u366, u367, u368, u369, u370, u371, u372, u373, u374, u375, u376, u377, u378, u379, u380, u381, u382, u383, u384, u385, u386, u387, u388, u389, u390, u391, u392, u393, u394, u395, u396, u397, u398, u399, u400, u401, u402, u403, u404, u405, u406, u407, u408, u409, u410, u411, u412, u413, u414, u415, u416, u417, u418, u419, u420, u421, u422, u423, u424, u425, u426, u427, u428, u429, u430, u431, u432, u433, u434, u435, u436, u437, u438, u439, u440, u441, u442, u443, u444, u445, u446, u447, u448, u449, u450, u451, u452, u453, u454, u455, u456, u457, u458, u459, u460, u461, u462, u463, u464, u465, u466, u467, u468, u469, u470, u471, u472], defers := [] } W := by
  refine wp_at rfl ?_
  have HS := Lib.hid hS; have HR := Lib.hid hR; have HO := Lib.hid hO; have HK := Lib.hid hK
  have ub0 := hS.ub.cell 0
  have hz0 := hS.ub.lt
  have hz1 := hS.rb.lt
  clear hS hR hO hK
  go_wp2
  clear ub0
  rename_i K0 hK0
  have HK0 := Lib.hid hK0
  clear hK0
  go_loopw [115] (fun v wr => ∃ (p : Nat), p ≤ fs.length ∧ v = .int .i64 p ∧ Hid (P4p (fs.map LF.fd) = loop2 (in2 (fun i => fine4p (nodesAt (fs.map LF.fd) i)) (lenAt (fs.map LF.fd))) p (fs.length - p) ()) ∧ Hid (Fs w (.slice A fs.length c) wr)) (fun v _ => fs.length - (intOf v).toNat)
  case atStart => exact ⟨0, Nat.zero_le _, rfl, Lib.hid (by unfold P4p find2; rw [List.length_map]; rfl), HS⟩
  case round =>
    clear HS hz0 hz1
    obtain ⟨p, hp, rfl, HB, HS⟩ := hrel
    have hz0 := HS.out.ub.lt
    have hz1 := HS.out.rb.lt
    by_cases hlt : p < fs.length
    · obtain ⟨f, hpf⟩ : ∃ f, fs[p]? = some f := ⟨_, List.getElem?_eq_getElem hlt⟩
      obtain ⟨b, off, rfl, hlob, hb, c0, c1, c2, c3, c4, c5, c6, -⟩ := rdF_at (HR.out.below HS.out.bel) hpf
      have hfm := List.mem_of_getElem? hpf
      have HFM := Lib.hid hfm
      have HOF := Lib.hid (HO.out f hfm)
      have HKF := Lib.hid (HK.out f hfm)
      have hfn := HOF.out.ok.cn
      have hpos := HOF.out.ok.pos
      have hmk := mk36 f.ns.length hfn
      obtain ⟨m, hm⟩ : ∃ m, fs.length - p = m + 1 := ⟨fs.length - p - 1, by omega⟩
      have HM := Lib.hid hm
      have hpl : (p : Int) < fs.length := by omega
      obtain ⟨w2, hw2⟩ : ∃ wo : World, wo = wr := ⟨_, rfl⟩
      obtain rfl := hw2
      have HT0 : Hid (T5 w (.slice (some ⟨b, off, none⟩) fs.length c) f w2.heap.size (w2.heap.size + 1) (List.replicate f.ns.length 0) ((w2.alloc (.cells #[.string f.name, .int .i64 f.line, .int .i64 f.params, .bool f.rest, .slice f.va f.vars.length f.vc, .slice f.ua f.ups.length f.uc, .slice f.na f.ns.length f.nc] 47)).alloc (.cells (madeCells #[Value.int .i64 0] f.ns.length) 3))) :=
        Lib.hid ⟨(HS.out.alloc _).alloc _, (Blk.new _ _ _).alloc _, BI.make_at (by simp), by omega, by omega⟩
      have HIN : Hid (in2 (fun i => fine4p (nodesAt (fs.map LF.fd) i)) (lenAt (fs.map LF.fd)) p () = loopS (chk (fine4p (f.ns.map LN.nd))) 0 f.ns.length ()) := Lib.hid (by
        unfold in2 find1; rw [len_at hpf]; show loopS (chk (fine4p (nodesAt (fs.map LF.fd) p))) 0 f.ns.length () = _; rw [nodes_at hpf])
      clear hpf hfm hm
      go_wp2
      clear c0 c1 c2 c3 c4 c5 c6 hb hmk
      go_loopw [127] (fun v wx => ∃ (q : Nat) (u : List Int), q ≤ f.ns.length ∧ v = .int .i64 q ∧ u.length = f.ns.length ∧ Hid (UBd (q * 200) u) ∧ Hid (usedP (f.ns.map LN.nd) = ((f.ns.map LN.nd).drop q).foldl unode u) ∧ Hid (T5 w (.slice (some ⟨b, off, none⟩) fs.length c) f w2.heap.size (w2.heap.size + 1) u wx)) (fun v _ => f.ns.length - (intOf v).toNat)
      case atStart => exact ⟨0, _, Nat.zero_le _, rfl, List.length_replicate, Lib.hid (by rw [Nat.zero_mul]; exact UBd.start _), Lib.hid (by unfold usedP; rw [List.length_map]; rfl), HT0⟩
      case round =>
        clear HT0
        obtain ⟨q, u, hq, rfl, hul, HU, HP, HT⟩ := hrel
        have x6 := HT.out.fb.cell 6
        simp at x6
        have hfl := HT.out.fb.lt
        by_cases hql : q < f.ns.length
        · obtain ⟨l, hl⟩ : ∃ l, f.ns[q]? = some l := ⟨_, List.getElem?_eq_getElem hql⟩
          obtain ⟨b3, off3, hna, hlo3, hb3, d0, d1, d2, d3, d4, d5, d6, d7, hok⟩ := rdN_at ((HR.out.2 f HFM.out).2.2.below HT.out.fs.bel) hl
          have HKI := Lib.hid (HOF.out.ok.ia q l.nd (nd_at hl))
          have HOKK := Lib.hid ((HR.out.2 f HFM.out).2.2.2 l (List.mem_of_getElem? hl)).2
          have hkl := HKF.out l (List.mem_of_getElem? hl)
          have HPS : Hid (usedP (f.ns.map LN.nd) = ((f.ns.map LN.nd).drop (q + 1)).foldl unode (l.nd.kids.foldl uput u)) := Lib.hid (by
            obtain ⟨q1, q2⟩ := List.getElem?_eq_some_iff.1 (nd_at hl)
            rw [HP.out, List.drop_eq_getElem_cons q1, q2, List.foldl_cons]
            rfl)
          rw [hna]
          obtain ⟨w4, hw4⟩ : ∃ wo : World, wo = wr := ⟨_, rfl⟩
          obtain rfl := hw4
          have HT4 := Lib.hid (HT.out.below (below_new w4 (.cells #[.int .i64 l.nd.kind, .int .i64 l.nd.line, .int .i64 l.nd.op, .int .i64 l.nd.num, .float .f64 l.nd.flt, .string l.nd.str, .slice l.ra l.nd.refs.length l.rc, .slice l.ka l.nd.kids.length l.kc] 52)))
          have hqi : (q : Int) < f.ns.length := by omega
          clear hl hna hok hlo3 HT HP
          go_wp2
          clear x6 d0 d1 d2 d3 d4 d5 d6 d7 hb3 hfl
          go_loopw [134] (fun v wx => ∃ (j : Nat) (u' : List Int), j ≤ l.nd.kids.length ∧ v = .int .i64 j ∧ u'.length = f.ns.length ∧ Hid (UBd (q * 200 + j) u') ∧ Hid (l.nd.kids.foldl uput u = (l.nd.kids.drop j).foldl uput u') ∧ Hid (T5 w (.slice (some ⟨b, off, none⟩) fs.length c) f w2.heap.size (w2.heap.size + 1) u' wx)) (fun v _ => l.nd.kids.length - (intOf v).toNat)
          case atStart => exact ⟨0, u, Nat.zero_le _, rfl, hul, HU, Lib.hid rfl, HT4⟩
          case round =>
            clear HT4 HU hul
            obtain ⟨j, u', hj, rfl, hul, HU, HF, HT⟩ := hrel
            have hgl := HT.out.db.lt
            by_cases hjl : j < l.nd.kids.length
            · obtain ⟨k, hk⟩ : ∃ k, l.nd.kids[j]? = some k := ⟨_, List.getElem?_eq_getElem hjl⟩
              obtain ⟨k0, k1⟩ := HKI.out k (List.mem_of_getElem? hk)
              obtain ⟨y, rfl⟩ : ∃ y : Nat, k = y := ⟨k.toNat, by omega⟩
              obtain ⟨x, hx⟩ : ∃ x, u'[y]? = some x := ⟨_, List.getElem?_eq_getElem (by omega)⟩
              have hxb := HU.out y x hx
              have cx := HT.out.db.cell hx
              have fy := HT.out.db.fz y
              obtain ⟨b5, off5, hka, hlo5, hb5, ck⟩ := rdI_at (HOKK.out.below HT.out.fs.bel) hk
              rw [hka]
              have HU2 : Hid (UBd (q * 200 + (j + 1)) (u'.set y (x + 1))) := Lib.hid (HU.out.put hx)
              have HF2 : Hid (l.nd.kids.foldl uput u = (l.nd.kids.drop (j + 1)).foldl uput (u'.set y (x + 1))) := Lib.hid (by
                obtain ⟨q1, q2⟩ := List.getElem?_eq_some_iff.1 hk
                rw [HF.out, List.drop_eq_getElem_cons q1, q2, List.foldl_cons]
                congr 1
                unfold uput
                rw [Int.toNat_natCast, hx]
                rfl)
              have HT2 := Lib.hid (HT.out.set_ y (x + 1))
              have hji : (j : Int) < l.nd.kids.length := by omega
              have hyi : (y : Int) < f.ns.length := by omega
              have hyl : y < f.ns.length := by omega
              have hxm : 0 ≤ x ∧ x ≤ 1000000000 := by omega
              clear hk hx hka hlo5 HT HF HU hxb
              go_wp2
              exact ⟨⟨j + 1, u'.set y (x + 1), by omega, by go_num, by rw [List.length_set]; exact hul, HU2, HF2, HT2⟩, by simp [intOf]; omega⟩
            · have HE : Hid (usedP (f.ns.map LN.nd) = ((f.ns.map LN.nd).drop (q + 1)).foldl unode u') := Lib.hid (by
                rw [HPS.out, HF.out, List.drop_of_length_le (by omega)]; rfl)
              have HU3 : Hid (UBd ((q + 1) * 200) u') := Lib.hid (fun i y hy => by have := HU.out i y hy; omega)
              clear HF
              go_wp2
              exact ⟨⟨q + 1, u', by omega, by go_num, hul, HU3, HE, HT⟩, by simp [intOf]; omega⟩
        · have hqq : q = f.ns.length := by omega
          have HDE : Hid (usedP (f.ns.map LN.nd) = u) := Lib.hid (by rw [HP.out, hqq, ← List.length_map (f := LN.nd), List.drop_length]; rfl)
          have hl1 : ((f.ns.length : Int) - 1) = ((f.ns.length - 1 : Nat) : Int) := by omega
          clear hqq HP
          go_wp2
          clear x6 hfl hq hql
          go_loopw [153] (fun v wx => ∃ (q : Nat), q ≤ f.ns.length ∧ v = .int .i64 q ∧ Hid (in2 (fun i => fine4p (nodesAt (fs.map LF.fd) i)) (lenAt (fs.map LF.fd)) p () = loopS (chk (fine4p (f.ns.map LN.nd))) q (f.ns.length - q) ()) ∧ Hid (T5 w (.slice (some ⟨b, off, none⟩) fs.length c) f w2.heap.size (w2.heap.size + 1) u wx)) (fun v _ => f.ns.length - (intOf v).toNat)
          case atStart => exact ⟨0, Nat.zero_le _, rfl, HIN, HT⟩
          case round =>
            clear HIN HT
            obtain ⟨q, hq, rfl, HIN, HT⟩ := hrel
            have hgl := HT.out.db.lt
            have hbel := HT.out.fs.bel
            have hfl := HT.out.fb.lt
            by_cases hql : q < f.ns.length
            · obtain ⟨x, hx⟩ : ∃ x, u[q]? = some x := ⟨_, List.getElem?_eq_getElem (by omega)⟩
              have cx := HT.out.db.cell hx
              obtain ⟨m2, hm2⟩ : ∃ m, f.ns.length - q = m + 1 := ⟨f.ns.length - q - 1, by omega⟩
              have HM2 := Lib.hid hm2
              have hqi : (q : Int) < f.ns.length := by omega
              obtain ⟨l, hl⟩ : ∃ l, f.ns[q]? = some l := ⟨_, List.getElem?_eq_getElem hql⟩
              obtain ⟨b3, off3, hna, hlo3, hb3, d0, -⟩ := rdN_at ((HR.out.2 f HFM.out).2.2.below HT.out.fs.bel) hl
              have x6 := HT.out.fb.cell 6
              simp at x6
              rw [hna] at x6
              by_cases hlast : q + 1 = f.ns.length
              · have hb1 : decide ((q : Int) < ((f.ns.length - 1 : Nat) : Int)) = false := decide_eq_false (by omega)
                have hb2 : ((q : Int) == ((f.ns.length - 1 : Nat) : Int)) = true := by rw [beq_iff_eq]; omega
                have hb3' : decide (q < f.ns.length - 1) = false := decide_eq_false (by omega)
                have hqe : f.ns.length - 1 = q := by omega
                have HF4 : Hid (fine4p (f.ns.map LN.nd) q = (l.nd.kind == 1)) := Lib.hid (by unfold fine4p; rw [List.length_map, if_pos hlast, nd_atD hl])
                clear hx hm2 hl hna hlo3 hlast
                rw [hqe]
                rw [hqe] at hb1 hb2 hb3' hl1
                by_cases k1 : l.nd.kind = 1
                · have e1 : (l.nd.kind == 1) = true := by rw [k1]; rfl
                  have e2 : (l.nd.kind != 1) = false := by rw [k1]; rfl
                  have HT1 : Hid (fine4p (f.ns.map LN.nd) q = true) := Lib.hid (by rw [HF4.out, e1])
                  clear k1
                  go_wp2
                  exact ⟨⟨q + 1, by omega, by go_num, Lib.hid (by rw [HIN.out, HM2.out, loopS_ok (chk_t HT1.out), show f.ns.length - (q + 1) = m2 by have := HM2.out; omega]), HT⟩, by simp [intOf]; omega⟩
                · have e1 : (l.nd.kind == 1) = false := beq_eq_false_iff_ne.2 k1
                  have e2 : (l.nd.kind != 1) = true := by simp [bne, e1]
                  have HT1 : Hid (fine4p (f.ns.map LN.nd) q = false) := Lib.hid (by rw [HF4.out, e1])
                  clear k1
                  obtain ⟨r0, r1, r2⟩ := box3 HT.out.fs.rb
                  have g0 := HT.out.fs.rb.frozen 0
                  have g1 := HT.out.fs.rb.frozen 1
                  have g2 := HT.out.fs.rb.frozen 2
                  have HQ : Hid (G4 (fs.map LF.fd) = (4, (p : Int), (q : Int))) := Lib.hid (by unfold G4; rw [HB.out, HM.out, loop2_bad (n := q) (by rw [HIN.out, HM2.out, loopS_bad (chk_f HT1.out)])])
                  go_wp2
                  refine bodyPost_ret (by simp [results, Try.results8, go_sem, *]; rfl) rfl ?_
                  exact ⟨by rw [HQ.out]; rfl, (by (repeat (first | with_reducible assumption | with_reducible exact Below.refl _ _ | with_reducible refine Below.drew ?_ | with_reducible refine bl_drewN _ ?_ | ((with_reducible refine bl_alloc ?_ _ ?_); · (first | omega | (simp; done) | (simp; omega))) | ((with_reducible refine bl_set ?_ _ ?_); · (first | omega | (simp; done) | (simp; omega))))))⟩
              · have hb1 : decide ((q : Int) < ((f.ns.length - 1 : Nat) : Int)) = true := decide_eq_true (by omega)
                have hb1' : (q : Int) < ((f.ns.length - 1 : Nat) : Int) := by omega
                have hb1'' : q < f.ns.length - 1 := by omega
                have hb2 : ((q : Int) == ((f.ns.length - 1 : Nat) : Int)) = false := beq_eq_false_iff_ne.2 (by omega)
                have hb2' : (q == (f.ns.length - 1)) = false := beq_eq_false_iff_ne.2 (by omega)
                have HF4 : Hid (fine4p (f.ns.map LN.nd) q = (x == 1)) := Lib.hid (by unfold fine4p; rw [List.length_map, if_neg hlast, HDE.out, hx]; rfl)
                clear hx hm2 hl hna hlo3 hlast
                by_cases k1 : x = 1
                · have e1 : (x == 1) = true := by rw [k1]; rfl
                  have e2 : (x != 1) = false := by rw [k1]; rfl
                  have HT1 : Hid (fine4p (f.ns.map LN.nd) q = true) := Lib.hid (by rw [HF4.out, e1])
                  clear k1
                  go_wp2
                  exact ⟨⟨q + 1, by omega, by go_num, Lib.hid (by rw [HIN.out, HM2.out, loopS_ok (chk_t HT1.out), show f.ns.length - (q + 1) = m2 by have := HM2.out; omega]), HT⟩, by simp [intOf]; omega⟩
                · have e1 : (x == 1) = false := beq_eq_false_iff_ne.2 k1
                  have e2 : (x != 1) = true := by simp [bne, e1]
                  have HT1 : Hid (fine4p (f.ns.map LN.nd) q = false) := Lib.hid (by rw [HF4.out, e1])
                  clear k1
                  obtain ⟨r0, r1, r2⟩ := box3 HT.out.fs.rb
                  have g0 := HT.out.fs.rb.frozen 0
                  have g1 := HT.out.fs.rb.frozen 1
                  have g2 := HT.out.fs.rb.frozen 2
                  have HQ : Hid (G4 (fs.map LF.fd) = (4, (p : Int), (q : Int))) := Lib.hid (by unfold G4; rw [HB.out, HM.out, loop2_bad (n := q) (by rw [HIN.out, HM2.out, loopS_bad (chk_f HT1.out)])])
                  go_wp2
                  refine bodyPost_ret (by simp [results, Try.results8, go_sem, *]; rfl) rfl ?_
                  exact ⟨by rw [HQ.out]; rfl, (by (repeat (first | with_reducible assumption | with_reducible exact Below.refl _ _ | with_reducible refine Below.drew ?_ | with_reducible refine bl_drewN _ ?_ | ((with_reducible refine bl_alloc ?_ _ ?_); · (first | omega | (simp; done) | (simp; omega))) | ((with_reducible refine bl_set ?_ _ ?_); · (first | omega | (simp; done) | (simp; omega))))))⟩
            · have hqq : q = f.ns.length := by omega
              have HNX : Hid (P4p (fs.map LF.fd) = loop2 (in2 (fun i => fine4p (nodesAt (fs.map LF.fd) i)) (lenAt (fs.map LF.fd))) (p + 1) (fs.length - (p + 1)) ()) := Lib.hid (by rw [HB.out, HM.out, loop2_ok (s' := ()) (by rw [HIN.out, hqq, Nat.sub_self]; rfl), show fs.length - (p + 1) = m by have := HM.out; omega])
              go_wp2
              exact ⟨⟨p + 1, by omega, by go_num, HNX, Lib.hid HT.out.fs⟩, by simp [intOf]; omega⟩
    · have HG : Hid (G4 (fs.map LF.fd) = G5 (fs.map LF.fd)) := Lib.hid (by unfold G4; rw [HB.out, show fs.length - p = 0 by omega]; rfl)
      go_wp2
      have hend := ph5 A c fs w lo _ HS.out hn HR.out hlo HO.out
      rw [← HG.out] at hend
      refine HK0.out _ _ ?_
      exact hend _ _ _ _ _ _ _ _ _ _ _ _ _ _ _ _ _ _ _ _ _ _ _ _ _ _ _ _ _ _ _ _ _ _ _ _ _ _ _ _ _ _ _ _ _ _ _ _ _ _ _ _ _ _ _ _ _ _ _ _ _ _ _ _ _ _ _ _ _ _ _ _ _ _ _ _ _ _ _ _ _ _ _ _ _ _ _ _ _ _ _ _ _ _ _ _ _ _ _ _ _ _ _ _ _ _ _ _ _ _ _ _ _ _ _ _ _ _ _ _ _ _ _ _ _ _ _ _ _ _ _ _ _ _ _ _ _ _ _ _ _ _ _ _ _ _ _ _ _ _ _ _ _ _ _ _ _ _ _ _ _ _ _ _ _ _ _ _ _ _ _ _ _ _ _ _ _ _ _ _ _ _ _ _ _ _ _ _ _ _ _ _ _ _ _ _ _ _ _ _ _ _ _ _ _ _ _ _ _ _ _ _ _ _ _ _ _ _ _ _ _ _ _ _ _ _ _ _ _ _ _ _ _ _ _ _ _ _ _ _ _ _ _ _ _ _ _ _ _ _ _ _ _ _ _ _ _ _ _ _ _ _ _ _ _ _ _ _ _ _ _ _ _ _ _ _ _ _ _ _ _ _ _ _ _ _ _ _ _ _ _ _ _ _ _ _ _ _ _ _ _ _ _ _ _ _ _ _ _ _ _ _ _ _ _ _ _ _ _ _ _ _ _ _ _ _ _ _ _ _ _ _ _ _ _ _ _ _ _ _ _ _ _ _ _ _ _ _ _ _ _ _ _ _ _ _ _ _ _ _ _ _ _ _ _ _ _ _ _ _ _ _ _ _ _ _ _ _ _ _ _ _ _ _ _ _ _ _ _ _ _ _ _ _ _ _ _ _ _ _ _ _ _ _ _ _ _ _ _ _ _ _ _ _ _ _ _ _ _ _ _ _ _ _ _ _ _ _ _ _ _ _ _ _ _ _ _ _ _ _ _ _ _ _ _ _ _ _ _ _ _ _ _ _ _ _ _ _ _ _ _ _ _ _ _ _ _ _ _ _ _ _ rfl
end Go.Proofs.Ytcpjplkbmflglaa
