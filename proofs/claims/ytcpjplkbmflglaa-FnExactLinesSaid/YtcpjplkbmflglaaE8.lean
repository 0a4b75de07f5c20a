/- CheckUnit's phase of code 8. -/
import Derived.Test.YtcpjplkbmflglaaE9
namespace Go.Proofs.Ytcpjplkbmflglaa
open Go.RowKit
attribute [local go_sem] run_store_float
set_option linter.unusedVariables false
def evsD (x : Fd) : List Ev := traceN x.nodes x.nodes.length (x.nodes.length - 1) (seen0 x.params x.vars.length) false
theorem evs_fd (f : LF) : evsD f.fd = evsOf f := by unfold evsD evsOf; simp [LF.fd]
def bad8 (fs : List Fd) (i : Nat) : List Bool := (evsD (fdAt fs i)).foldl (st8 fs (fdAt fs i)) (List.replicate (lenAt fs i) false)
def step8p (fs : List Fd) (i n : Nat) (made : List Bool) : Option (List Bool) :=
  let nd := ndAt (fdAt fs i).nodes n
  let b := ((bad8 fs i)[n]?).getD false
  if nd.kind = 36 then (if b || (decide (ref0 nd ≤ i) || (made[(ref0 nd).toNat]?).getD false) then none else some (made.set (ref0 nd).toNat true))
  else if b then none else some made
def in8p (fs : List Fd) (i : Nat) (made : List Bool) : List Bool ⊕ Nat := loopS (step8p fs i) 0 (lenAt fs i) made
def P8p (fs : List Fd) : List Bool ⊕ (Nat × Nat) := loop2 (in8p fs) 0 fs.length (List.replicate fs.length false)
def G8 (fs : List Fd) : Flt3 := match P8p fs with
  | .inr (f, n) => (8, f, n)
  | .inl made => G9 fs made
/-- The world of code 8 at one fn. -/
structure T8 (w : World) (U : Value) (f : LF) (Xf ga p1 gm : Nat) (bad made : List Bool) (W : World) : Prop where
  fs : Fs w U W
  fb : Blk W Xf 47 #[.string f.name, .int .i64 f.line, .int .i64 f.params, .bool f.rest, .slice f.va f.vars.length f.vc, .slice f.ua f.ups.length f.uc, .slice f.na f.ns.length f.nc]
  pb : Blk W p1 55 #[.slice (some ⟨ga, 0, none⟩) f.ns.length f.ns.length]
  ab : BB W ga bad
  mb : BB W gm made
  n1 : ga ≠ gm
  n2 : ga ≠ Xf
  n3 : ga ≠ p1
  n4 : gm ≠ Xf
  n5 : gm ≠ p1
  n6 : w.heap.size + 1 < ga
  n7 : w.heap.size + 1 < gm
theorem T8.alloc {w W : World} {U : Value} {f : LF} {Xf ga p1 gm : Nat} {bad made : List Bool} (h : T8 w U f Xf ga p1 gm bad made W) (o : Obj) : T8 w U f Xf ga p1 gm bad made (W.alloc o) := ⟨h.fs.alloc o, h.fb.alloc o, h.pb.alloc o, h.ab.alloc o, h.mb.alloc o, h.n1, h.n2, h.n3, h.n4, h.n5, h.n6, h.n7⟩
theorem T8.drew {w W : World} {U : Value} {f : LF} {Xf ga p1 gm : Nat} {bad made : List Bool} (h : T8 w U f Xf ga p1 gm bad made W) : T8 w U f Xf ga p1 gm bad made W.drew := ⟨h.fs.drew, h.fb, h.pb, h.ab, h.mb, h.n1, h.n2, h.n3, h.n4, h.n5, h.n6, h.n7⟩
theorem T8.setA {w W : World} {U : Value} {f : LF} {Xf ga p1 gm : Nat} {bad made : List Bool} (h : T8 w U f Xf ga p1 gm bad made W) (k : Nat) (v : Bool) : T8 w U f Xf ga p1 gm (bad.set k v) made (W.setCell ⟨ga, k, none⟩ (.bool v)) :=
  have hb : But (fun x => x = ga) W (W.setCell ⟨ga, k, none⟩ (.bool v)) := But.set (P := fun x => x = ga) (But.refl _ _) (show ga = ga from rfl) k _
  ⟨h.fs.but hb (fun x hx => by have := h.n6; omega), hb.blk h.fb (fun e => h.n2 e.symm), hb.blk h.pb (fun e => h.n3 e.symm), h.ab.set_ k v, h.mb.but hb (fun e => h.n1 e.symm), h.n1, h.n2, h.n3, h.n4, h.n5, h.n6, h.n7⟩
theorem T8.setM {w W : World} {U : Value} {f : LF} {Xf ga p1 gm : Nat} {bad made : List Bool} (h : T8 w U f Xf ga p1 gm bad made W) (k : Nat) (v : Bool) : T8 w U f Xf ga p1 gm bad (made.set k v) (W.setCell ⟨gm, k, none⟩ (.bool v)) :=
  have hb : But (fun x => x = gm) W (W.setCell ⟨gm, k, none⟩ (.bool v)) := But.set (P := fun x => x = gm) (But.refl _ _) (show gm = gm from rfl) k _
  ⟨h.fs.but hb (fun x hx => by have := h.n7; omega), hb.blk h.fb (fun e => h.n4 e.symm), hb.blk h.pb (fun e => h.n5 e.symm), h.ab.but hb (fun e => h.n1 e), h.mb.set_ k v, h.n1, h.n2, h.n3, h.n4, h.n5, h.n6, h.n7⟩
set_option maxRecDepth 100000 in
set_option maxHeartbeats 20000000 in
theorem ph8 (A : Option Addr) (c : Nat) (fs : List LF) (w : World) (lo : Nat) (W : World) (hS : Fs w (.slice A fs.length c) W) (hn : fs.length ≤ 1048576) (hR : RdF w lo A fs) (hlo : lo ≤ w.heap.size) (hO : ∀ f ∈ fs, OkW f) (href : ∀ f ∈ fs, ∀ (n : Nat) (l : LN), f.ns[n]? = some l → l.nd.kind = 36 → 0 < l.nd.refs.length ∧ 0 ≤ ref0 l.nd ∧ ref0 l.nd < fs.length) (u0 u3 u4 u5 u6 u7 u8 u9 u10 u11 u12 u13 u14 u15 u16 u17 u18 u19 u20 u21 u22 u23 u24 u25 u26 u27 u28 u29 u30 u31 u32 u33 u34 u35 u36 u37 u38 u39 u40 u41 u42 u43 u44 u45 u46 u47 u48 u49 u50 u51 u52 u53 u54 u55 u56 u57 u58 u59 u60 u61 u62 u63 u64 u65 u66 u67 u68 u69 u70 u71 u72 u73 u74 u75 u76 u77 u78 u79 u80 u81 u82 u83 u84 u85 u86 u87 u88 u89 u90 u91 u92 u93 u94 u95 u96 u97 u98 u99 u100 u101 u102 u103 u104 u105 u106 u107 u108 u109 u110 u111 u112 u113 u114 u115 u116 u117 u118 u119 u120 u121 u122 u123 u124 u125 u126 u127 u128 u129 u130 u131 u132 u133 u134 u135 u136 u137 u138 u139 u140 u141 u142 u143 u144 u145 u146 u147 u148 u149 u150 u151 u152 u153 u154 u155 u156 u157 u158 u159 u160 u161 u162 u163 u164 u165 u166 u167 u168 u169 u170 u171 u172 u173 u174 u175 u176 u177 u178 u179 u180 u181 u182 u183 u184 u185 u186 u187 u188 u189 u190 u191 u192 u193 u194 u195 u196 u197 u198 u199 u200 u201 u202 u203 u204 u205 u206 u207 u208 u209 u210 u211 u212 u213 u214 u215 u216 u217 u218 u219 u220 u221 u222 u223 u224 u225 u226 u227 u228 u229 u230 u231 u232 u233 u234 u235 u236 u237 u238 u239 u240 u241 u242 u243 u244 u245 u246 u247 u248 u249 u250 u251 u252 u253 u254 u255 u256 u257 u258 u259 u260 u261 u262 u263 u264 u265 u266 u267 u268 u269 u270 u271 u272 u273 u274 u275 u276 u277 u278 u279 u280 u281 u282 u283 u284 u285 u286 u287 u288 u289 u290 u291 u292 u293 u294 u295 u296 u297 u298 u299 u300 u301 u302 u303 u304 u305 u306 u307 u308 u309 u310 u311 u312 u313 u314 u315 u316 u317 u318 u319 u320 u321 u322 u323 u324 u325 u326 u327 u328 u329 u330 u331 u332 u333 u334 u335 u336 u337 u338 u339 u340 u341 u342 u343 u344 u345 u346 u347 u348 u349 u350 u351 u352 u353 u354 u355 u356 u357 u358 u359 u360 u361 u362 u363 u364 u365 u366 u367 u368 u369 u370 u371 u372 u373 u374 u375 u376 u377 u378 u379 u380 u381 u382 u383 u384 u385 u386 u387 u388 u389 u390 u391 u392 u393 u394 u395 u396 u397 u398 u399 u400 u401 u402 u403 u404 u405 u406 u407 u408 u409 u410 u411 u412 u413 u414 u415 u416 u417 u418 u419 u420 u421 u422 u423 u424 u425 u426 u427 u428 u429 u430 u431 u432 u433 u434 u435 u436 u437 u438 u439 u440 u441 u442 u443 u444 u445 u446 u447 u448 u449 u450 u451 u452 u453 u454 u455 u456 u457 u458 u459 u460 u461 u462 u463 u464 u465 u466 u467 u468 u469 u470 u471 u472 : Value) :
    ∀ d, tlo 10 Try.f8.body = some d → d.wp Try.prog (bodyPost Try.prog Try.f8 fun e W' => e = .returned (fltV (G8 (fs.map LF.fd))) ∧ Below w.heap.size w W') { tmps := #[u0, (.pointer (some ⟨w.heap.size, 0, none⟩)), (.pointer (some ⟨w.heap.size + 1, 0, none⟩)), u3, u4, u5, u6, u7, u8, u9, u10, u11, u12, u13, u14, u15, u16, u17, u18, u19, u20, u21, u22, u23, u24, u25, u26, u27, u28, u29, u30, u31, u32, u33, u34, u35, u36, u37, u38, u39, u40, u41, u42, u43, u44, u45, u46, u47, u48, u49, u50, u51, u52, u53, u54, u55, u56, u57, u58, u59, u60, u61, u62, u63, u64, u65, u66, u67, u68, u69, u70, u71, u72, u73, u74, u75, u76, u77, u78, u79, u80, u81, u82, u83, u84, u85, u86, u87, u88, u89, u90, u91, u92, u93, u94, u95, u96, u97, u98, u99, u100, u101, u102, u103, u104, u105, u106, u107, u108, u109, u110, u111, u112, u113, u114, u115, u116, u117, u118, u119, u120, u121, u122, u123, u124, u125, u126, u127, u128, u129, u130, u131, u132, u133, u134, u135, u136, u137, u138, u139, u140, u141, u142, u143, u144, u145, u146, u147, u148, u149, u150, u151, u152, u153, u154, u155, u156, u157, u158, u159, u160, u161, u162, u163, u164, u165, u166, u167, u168, u169, u170, u171, u172, u173, u174, u175, u176, u177, u178, u179, u180, u181, u182, u183, u184, u185, u186, u187, u188, u189, u190, u191, u192, u193, u194, u195, u196, u197, u198, u199, u200, u201, u202, u203, u204, u205, u206, u207, u208, u209, u210, u211, u212, u213, u214, u215, u216, u217, u218, u219, u220, u221, u222, u223, u224, u225, u226, u227, u228, u229, u230, u231, u232, u233, u234, u235, u236, u237, u238, u239, u240, u241, u242, u243, u244, u245, u246, u247, u248, u249, u250, u251, u252, u253, u254, u255, u256, u257, u258, u259, u260, u261, u262, u263, u264, u265, u266, u267, u268, u269, u270, u271, u272, u273, u274, u275, u276, u277, u278, u279, u280, u281, u282, u283, u284, u285, u286, u287, u288, u289, u290, u291, u292, u293, u294, u295, u296, u297, u298, u299, u300, u301, u302, u303, u304, u305, u306, u307, u308, u309, u310, u311, u312, u313, u314, u315, u316, u317, u318, u319, u320, u321, u322, u323, u324, u325, u326, u327, u328, u329, u330, u331, u332, u333, u334, u335, u336, u337, u338, u339, u340, u341, u342, u343, u344, u345, u346, u347, u348, u349, u350, u351, u352, u353, u354, u355, u356, u357, u358, u359, u360, u361, u362, u363, u364, u365, u366, u367, u368, u369, u370, u371, u372, u373, u374, u375, u376, u377, u378, u379, u380, u381, u382, u383, u384, u385, u386, u387, u388, u389, u390, u391, u392, u393, u394, u395, u396, u397, u398, u399, u400, u401, u402, u403, u404, u405, u406, u407, u408, u409, u410, u411, u412, u413, u414, u415, u416, u417, u418, u419, u420, u421, u422, u423, u424, u425, u426, u427, u428, u429, u430, u431, u432, u433, u434, u435, u436, u437, u438, u439, u440, u441, u442, u443, u444, u445, u446, u447, u448, u449, u450, u451, u452, u453, u454, u455, u456, u457, u458, u459, u460, u461, u462, u463, u464, u465, u466, u467, u468, u469, u470, u471, u472], defers := [] } W := by
  refine wp_at rfl ?_
  have HS := Lib.hid hS; have HR := Lib.hid hR; have HO := Lib.hid hO; have HREF := Lib.hid href
  have ub0 := hS.ub.cell 0
  have hz0 := hS.ub.lt
  have hz1 := hS.rb.lt
  have hmk := mk55 fs.length hn
  have HMB : Hid (BB (W.alloc (.cells (madeCells #[Value.bool false] fs.length) 4)) W.heap.size (List.replicate fs.length false)) := Lib.hid (BB.make_at rfl)
  have HS1 := Lib.hid (hS.alloc (.cells (madeCells #[Value.bool false] fs.length) 4))
  clear hS hR hO href
  go_wp2
  clear ub0 hmk
  obtain ⟨gm, hgm⟩ : ∃ g, g = W.heap.size := ⟨_, rfl⟩
  rw [← hgm] at HMB ⊢
  have hgml : w.heap.size + 1 < gm := by omega
  clear hgm
  rename_i K0 hK0
  have HK0 := Lib.hid hK0
  clear hK0
  go_loopw [397] (fun v wr => ∃ (p : Nat) (made : List Bool), p ≤ fs.length ∧ v = .int .i64 p ∧ made.length = fs.length ∧ Hid (P8p (fs.map LF.fd) = loop2 (in8p (fs.map LF.fd)) p (fs.length - p) made) ∧ Hid (Fs w (.slice A fs.length c) wr) ∧ Hid (BB wr gm made)) (fun v _ => fs.length - (intOf v).toNat)
  case atStart => exact ⟨0, _, Nat.zero_le _, rfl, List.length_replicate, Lib.hid (by unfold P8p; rw [List.length_map]; rfl), HS1, HMB⟩
  case round =>
    clear HS HS1 HMB hz0 hz1
    obtain ⟨p, made, hp, rfl, hml, HB, HS, HMB⟩ := hrel
    have hz0 := HS.out.ub.lt
    have hz1 := HS.out.rb.lt
    have hz2 := HMB.out.lt
    by_cases hlt : p < fs.length
    · obtain ⟨f, hpf⟩ : ∃ f, fs[p]? = some f := ⟨_, List.getElem?_eq_getElem hlt⟩
      obtain ⟨b, off, rfl, hlob, hb, c0, c1, c2, c3, c4, c5, c6, -⟩ := rdF_at (HR.out.below HS.out.bel) hpf
      have hfm := List.mem_of_getElem? hpf
      have HPF := Lib.hid hpf
      have HFM := Lib.hid hfm
      have HOF := Lib.hid (HO.out f hfm)
      have hfn := HOF.out.ok.cn
      have hmk := mk55 f.ns.length hfn
      obtain ⟨m, hm⟩ : ∃ m, fs.length - p = m + 1 := ⟨fs.length - p - 1, by omega⟩
      have HM := Lib.hid hm
      have ub0 := HS.out.ub.cell 0
      simp at ub0
      have hpl : (p : Int) < fs.length := by omega
      have hul : Hid (∀ g ∈ fs, g.ups.length ≤ 200) := Lib.hid (fun g hg => (HO.out g hg).ok.un)
      obtain ⟨w2, hw2⟩ : ∃ wo : World, wo = wr := ⟨_, rfl⟩
      obtain rfl := hw2
      have HT0 : Hid (T8 w (.slice (some ⟨b, off, none⟩) fs.length c) f w2.heap.size (w2.heap.size + 1) (w2.heap.size + 1 + 1) gm (List.replicate f.ns.length false) made (((w2.alloc (.cells #[.string f.name, .int .i64 f.line, .int .i64 f.params, .bool f.rest, .slice f.va f.vars.length f.vc, .slice f.ua f.ups.length f.uc, .slice f.na f.ns.length f.nc] 47)).alloc (.cells (madeCells #[Value.bool false] f.ns.length) 4)).alloc (.cells #[.slice (some ⟨w2.heap.size + 1, 0, none⟩) f.ns.length f.ns.length] 55))) :=
        Lib.hid ⟨((HS.out.alloc _).alloc _).alloc _, ((Blk.new _ _ _).alloc _).alloc _, Blk.new_at (by simp), (BB.make_at (by simp)).alloc _, ((HMB.out.alloc _).alloc _).alloc _, by omega, by omega, by omega, by omega, by omega, by omega, by omega⟩
      have HIN : Hid (in8p (fs.map LF.fd) p made = loopS (step8p (fs.map LF.fd) p) 0 f.ns.length made) := Lib.hid (by unfold in8p; rw [len_at hpf])
      have HBD : Hid (bad8 (fs.map LF.fd) p = (evsOf f).foldl (st8 (fs.map LF.fd) f.fd) (List.replicate f.ns.length false)) := Lib.hid (by unfold bad8; rw [fd_at hpf, len_at hpf, evs_fd])
      clear hpf hfm hm
      go_wp2_with fail
      refine (scopes8_any f w2.heap.size (w2.heap.size + 1 + 1) w.heap.size (w2.heap.size + 1) lo _ c fs w _ (List.replicate f.ns.length false) HOF.out HT0.out.fs.bel (HR.out.2 f HFM.out).2.2 (by omega) HT0.out.fb HT0.out.pb HT0.out.fs.ub HR.out HFM.out hlo hn (by omega) hul.out (HREF.out f HFM.out) HT0.out.ab (by simp) List.length_replicate (by omega) (by omega)).mono ?_
      rintro e w3 ⟨rfl, hB3, hX3⟩
      have hT3 : T8 w (.slice (some ⟨b, off, none⟩) fs.length c) f w2.heap.size (w2.heap.size + 1) (w2.heap.size + 1 + 1) gm (bad8 (fs.map LF.fd) p) made w3 :=
        ⟨HT0.out.fs.but hX3 (fun k hk => by omega), hX3.blk HT0.out.fb (by omega), hX3.blk HT0.out.pb (by omega), by rw [HBD.out]; exact hB3, HT0.out.mb.but hX3 (by omega), HT0.out.n1, HT0.out.n2, HT0.out.n3, HT0.out.n4, HT0.out.n5, HT0.out.n6, HT0.out.n7⟩
      have HT3 := Lib.hid hT3
      have hbl : Hid ((bad8 (fs.map LF.fd) p).length = f.ns.length) := Lib.hid (by rw [HBD.out, st8_len, List.length_replicate])
      obtain ⟨bad, hbad⟩ : ∃ bad, bad = bad8 (fs.map LF.fd) p := ⟨_, rfl⟩
      rw [← hbad] at HT3 hbl
      have HBAD := Lib.hid hbad
      have x6 := HT3.out.fb.cell 6
      simp at x6
      have hx3 := HT3.out.fb.lt
      have hsz3 := hX3.size
      clear hB3 hX3 hT3 HT0 hbad c0 c1 c2 c3 c4 c5 c6 ub0 hmk hb
      go_wp2
      clear x6 hx3
      go_loopw [412] (fun v wx => ∃ (q : Nat) (mk : List Bool), q ≤ f.ns.length ∧ v = .int .i64 q ∧ mk.length = fs.length ∧ Hid (in8p (fs.map LF.fd) p made = loopS (step8p (fs.map LF.fd) p) q (f.ns.length - q) mk) ∧ Hid (T8 w (.slice (some ⟨b, off, none⟩) fs.length c) f w2.heap.size (w2.heap.size + 1) (w2.heap.size + 1 + 1) gm bad mk wx)) (fun v _ => f.ns.length - (intOf v).toNat)
      case atStart => exact ⟨0, made, Nat.zero_le _, rfl, hml, HIN, HT3⟩
      case round =>
        clear HT3 HIN
        obtain ⟨q, mk, hq, rfl, hmkl, HIN, HT⟩ := hrel
        have hx3 := HT.out.fb.lt
        have hx4 := HT.out.pb.lt
        have hx5 := HT.out.ab.lt
        have hx6 := HT.out.mb.lt
        have hx7 := HT.out.fs.rb.lt
        have hbel := HT.out.fs.bel
        have p10 := HT.out.pb.cell 0
        simp at p10
        by_cases hql : q < f.ns.length
        · obtain ⟨l, hl⟩ : ∃ l, f.ns[q]? = some l := ⟨_, List.getElem?_eq_getElem hql⟩
          obtain ⟨b3, off3, hna, hlo3, hb3, c0, c1, c2, c3, c4, c5, c6, c7, hok⟩ := rdN_at ((HR.out.2 f HFM.out).2.2.below hbel) hl
          have HRF := Lib.hid (HREF.out f HFM.out q l hl)
          obtain ⟨d, hd⟩ : ∃ d, bad[q]? = some d := ⟨_, List.getElem?_eq_getElem (by have := hbl.out; omega)⟩
          have cd := HT.out.ab.cell hd
          have fd := HT.out.ab.fz q
          obtain ⟨m2, hm2⟩ : ∃ m, f.ns.length - q = m + 1 := ⟨f.ns.length - q - 1, by omega⟩
          have HM2 := Lib.hid hm2
          have HST : Hid (step8p (fs.map LF.fd) p q mk = if l.nd.kind = 36 then (if d || (decide (ref0 l.nd ≤ p) || (mk[(ref0 l.nd).toNat]?).getD false) then none else some (mk.set (ref0 l.nd).toNat true)) else if d then none else some mk) := Lib.hid (by
            unfold step8p
            rw [fd_at HPF.out, show f.fd.nodes = f.ns.map LN.nd from rfl, nd_atD hl, ← HBAD.out, hd]
            rfl)
          have HD := Lib.hid hd
          have HOKR := Lib.hid hok.1
          have hqi : (q : Int) < f.ns.length := by omega
          rw [hna]
          clear hl hna hd hm2 hok hlo3
          by_cases k36 : l.nd.kind = 36
          · have e36 : (l.nd.kind == 36) = true := by rw [k36]; rfl
            obtain ⟨r1, r2, r3⟩ := HRF.out k36
            obtain ⟨rf, hrf⟩ : ∃ rf, l.nd.refs[0]? = some rf := ⟨_, List.getElem?_eq_getElem r1⟩
            have hr0 : ref0 l.nd = rf := by unfold ref0; rw [hrf]; rfl
            rw [hr0] at r2 r3
            obtain ⟨g, rfl⟩ : ∃ g : Nat, rf = g := ⟨rf.toNat, by omega⟩
            have HST2 : Hid (step8p (fs.map LF.fd) p q mk = if d || (decide (g ≤ p) || (mk[g]?).getD false) then none else some (mk.set g true)) := Lib.hid (by rw [HST.out, if_pos k36, hr0, Int.toNat_natCast]; simp only [Int.ofNat_le])
            obtain ⟨b4, off4, hra, -, hb4, cr⟩ := rdI_at HOKR.out hrf
            rw [Nat.add_zero] at cr
            rw [hra] at c6
            have hrl : (0 : Int) < l.nd.refs.length := by omega
            have hxa : l.nd.refs.length ≠ 0 := by omega
            have hgl : g < fs.length := by omega
            obtain ⟨e, he⟩ : ∃ e, mk[g]? = some e := ⟨_, List.getElem?_eq_getElem (by omega)⟩
            have ce := HT.out.mb.cell he
            have fe := HT.out.mb.fz g
            have HE := Lib.hid he
            have n1 := HT.out.n1
            clear k36 hrf hr0 hra HRF HST he
            cases d with
            | true =>
              have HQ : Hid (G8 (fs.map LF.fd) = (8, (p : Int), (q : Int))) := Lib.hid (by unfold G8; rw [HB.out, HM.out, loop2_bad (by rw [HIN.out, HM2.out, loopS_bad (by rw [HST2.out]; rfl)])])
              obtain ⟨r0, r1', r2'⟩ := box3 HT.out.fs.rb
              have g0 := HT.out.fs.rb.frozen 0
              have g1 := HT.out.fs.rb.frozen 1
              have g2 := HT.out.fs.rb.frozen 2
              have n6 := HT.out.n6
              have n7 := HT.out.n7
              go_wp2
              go_region
              go_wp2
              refine bodyPost_ret (by simp [results, Try.results8, go_sem, *]; rfl) rfl ?_
              exact ⟨by rw [HQ.out]; rfl, (by (repeat (first | with_reducible assumption | with_reducible exact Below.refl _ _ | with_reducible refine Below.drew ?_ | with_reducible refine bl_drewN _ ?_ | ((with_reducible refine bl_alloc ?_ _ ?_); · (first | omega | (simp; done) | (simp; omega))) | ((with_reducible refine bl_set ?_ _ ?_); · (first | omega | (simp; done) | (simp; omega))))))⟩
            | false =>
              by_cases hgp : g ≤ p
              · have hgb : decide ((g : Int) ≤ p) = true := decide_eq_true (by omega)
                have hgb2 : decide (g ≤ p) = true := decide_eq_true hgp
                have HQ : Hid (G8 (fs.map LF.fd) = (8, (p : Int), (q : Int))) := Lib.hid (by unfold G8; rw [HB.out, HM.out, loop2_bad (by rw [HIN.out, HM2.out, loopS_bad (by rw [HST2.out, hgb2]; rfl)])])
                obtain ⟨r0, r1', r2'⟩ := box3 HT.out.fs.rb
                have g0 := HT.out.fs.rb.frozen 0
                have g1 := HT.out.fs.rb.frozen 1
                have g2 := HT.out.fs.rb.frozen 2
                have n6 := HT.out.n6
                have n7 := HT.out.n7
                go_wp2
                go_region
                go_wp2
                refine bodyPost_ret (by simp [results, Try.results8, go_sem, *]; rfl) rfl ?_
                exact ⟨by rw [HQ.out]; rfl, (by (repeat (first | with_reducible assumption | with_reducible exact Below.refl _ _ | with_reducible refine Below.drew ?_ | with_reducible refine bl_drewN _ ?_ | ((with_reducible refine bl_alloc ?_ _ ?_); · (first | omega | (simp; done) | (simp; omega))) | ((with_reducible refine bl_set ?_ _ ?_); · (first | omega | (simp; done) | (simp; omega))))))⟩
              · have hgb : decide ((g : Int) ≤ p) = false := decide_eq_false (by omega)
                have hgb2 : decide (g ≤ p) = false := decide_eq_false hgp
                cases e with
                | true =>
                  have HQ : Hid (G8 (fs.map LF.fd) = (8, (p : Int), (q : Int))) := Lib.hid (by unfold G8; rw [HB.out, HM.out, loop2_bad (by rw [HIN.out, HM2.out, loopS_bad (by rw [HST2.out, hgb2, HE.out]; rfl)])])
                  obtain ⟨r0, r1', r2'⟩ := box3 HT.out.fs.rb
                  have g0 := HT.out.fs.rb.frozen 0
                  have g1 := HT.out.fs.rb.frozen 1
                  have g2 := HT.out.fs.rb.frozen 2
                  have n6 := HT.out.n6
                  have n7 := HT.out.n7
                  go_wp2
                  go_region
                  go_wp2
                  refine bodyPost_ret (by simp [results, Try.results8, go_sem, *]; rfl) rfl ?_
                  exact ⟨by rw [HQ.out]; rfl, (by (repeat (first | with_reducible assumption | with_reducible exact Below.refl _ _ | with_reducible refine Below.drew ?_ | with_reducible refine bl_drewN _ ?_ | ((with_reducible refine bl_alloc ?_ _ ?_); · (first | omega | (simp; done) | (simp; omega))) | ((with_reducible refine bl_set ?_ _ ?_); · (first | omega | (simp; done) | (simp; omega))))))⟩
                | false =>
                  have HSO : Hid (step8p (fs.map LF.fd) p q mk = some (mk.set g true)) := Lib.hid (by rw [HST2.out, hgb2, HE.out]; rfl)
                  have HT2 : Hid (T8 w (.slice (some ⟨b, off, none⟩) fs.length c) f w2.heap.size (w2.heap.size + 1) (w2.heap.size + 1 + 1) gm bad (mk.set g true) (((wr.setCell ⟨w2.heap.size + 1, q, none⟩ (.bool false)).setCell ⟨gm, g, none⟩ (.bool true)).alloc (.cells #[.int .i64 l.nd.kind, .int .i64 l.nd.line, .int .i64 l.nd.op, .int .i64 l.nd.num, .float .f64 l.nd.flt, .string l.nd.str, .slice (some ⟨b4, off4, none⟩) l.nd.refs.length l.rc, .slice l.ka l.nd.kids.length l.kc] 52)).drew) := Lib.hid (by
                    have := (HT.out.setA q false).setM g true
                    rw [set_get HD.out] at this
                    exact (this.alloc _).drew)
                  go_wp2
                  go_region
                  go_wp2
                  exact ⟨⟨q + 1, mk.set g true, by omega, by go_num, by rw [List.length_set]; exact hmkl, Lib.hid (by rw [HIN.out, HM2.out, loopS_ok HSO.out, show f.ns.length - (q + 1) = m2 by have := HM2.out; omega]), HT2⟩, by simp [intOf]; omega⟩
          · have e36 : (l.nd.kind == 36) = false := beq_eq_false_iff_ne.2 k36
            have HST2 : Hid (step8p (fs.map LF.fd) p q mk = if d then none else some mk) := Lib.hid (by rw [HST.out, if_neg k36])
            clear k36
            cases d with
            | true =>
              have HQ : Hid (G8 (fs.map LF.fd) = (8, (p : Int), (q : Int))) := Lib.hid (by unfold G8; rw [HB.out, HM.out, loop2_bad (by rw [HIN.out, HM2.out, loopS_bad (by rw [HST2.out]; rfl)])])
              obtain ⟨r0, r1', r2'⟩ := box3 HT.out.fs.rb
              have g0 := HT.out.fs.rb.frozen 0
              have g1 := HT.out.fs.rb.frozen 1
              have g2 := HT.out.fs.rb.frozen 2
              have n6 := HT.out.n6
              have n7 := HT.out.n7
              go_wp2
              refine bodyPost_ret (by simp [results, Try.results8, go_sem, *]; rfl) rfl ?_
              exact ⟨by rw [HQ.out]; rfl, (by (repeat (first | with_reducible assumption | with_reducible exact Below.refl _ _ | with_reducible refine Below.drew ?_ | with_reducible refine bl_drewN _ ?_ | ((with_reducible refine bl_alloc ?_ _ ?_); · (first | omega | (simp; done) | (simp; omega))) | ((with_reducible refine bl_set ?_ _ ?_); · (first | omega | (simp; done) | (simp; omega))))))⟩
            | false =>
              have HSO : Hid (step8p (fs.map LF.fd) p q mk = some mk) := Lib.hid (by rw [HST2.out]; rfl)
              have HT2 := Lib.hid (HT.out.alloc (.cells #[.int .i64 l.nd.kind, .int .i64 l.nd.line, .int .i64 l.nd.op, .int .i64 l.nd.num, .float .f64 l.nd.flt, .string l.nd.str, .slice l.ra l.nd.refs.length l.rc, .slice l.ka l.nd.kids.length l.kc] 52))
              go_wp2
              exact ⟨⟨q + 1, mk, by omega, by go_num, hmkl, Lib.hid (by rw [HIN.out, HM2.out, loopS_ok HSO.out, show f.ns.length - (q + 1) = m2 by have := HM2.out; omega]), HT2⟩, by simp [intOf]; omega⟩
        · have hqq : q = f.ns.length := by omega
          have HNX : Hid (P8p (fs.map LF.fd) = loop2 (in8p (fs.map LF.fd)) (p + 1) (fs.length - (p + 1)) mk) := Lib.hid (by rw [HB.out, HM.out, loop2_ok (s' := mk) (by rw [HIN.out, hqq, Nat.sub_self]; rfl), show fs.length - (p + 1) = m by have := HM.out; omega])
          go_wp2
          exact ⟨⟨p + 1, mk, by omega, by go_num, hmkl, HNX, Lib.hid HT.out.fs, Lib.hid HT.out.mb⟩, by simp [intOf]; omega⟩
    · have HG : Hid (G8 (fs.map LF.fd) = G9 (fs.map LF.fd) made) := Lib.hid (by unfold G8; rw [HB.out, show fs.length - p = 0 by omega]; rfl)
      go_wp2
      have hend := ph9 A c fs w gm made _ HS.out hn HMB.out hml
      rw [← HG.out] at hend
      refine HK0.out _ _ ?_
      exact hend _ _ _ _ _ _ _ _ _ _ _ _ _ _ _ _ _ _ _ _ _ _ _ _ _ _ _ _ _ _ _ _ _ _ _ _ _ _ _ _ _ _ _ _ _ _ _ _ _ _ _ _ _ _ _ _ _ _ _ _ _ _ _ _ _ _ _ _ _ _ _ _ _ _ _ _ _ _ _ _ _ _ _ _ _ _ _ _ _ _ _ _ _ _ _ _ _ _ _ _ _ _ _ _ _ _ _ _ _ _ _ _ _ _ _ _ _ _ _ _ _ _ _ _ _ _ _ _ _ _ _ _ _ _ _ _ _ _ _ _ _ _ _ _ _ _ _ _ _ _ _ _ _ _ _ _ _ _ _ _ _ _ _ _ _ _ _ _ _ _ _ _ _ _ _ _ _ _ _ _ _ _ _ _ _ _ _ _ _ _ _ _ _ _ _ _ _ _ _ _ _ _ _ _ _ _ _ _ _ _ _ _ _ _ _ _ _ _ _ _ _ _ _ _ _ _ _ _ _ _ _ _ _ _ _ _ _ _ _ _ _ _ _ _ _ _ _ _ _ _ _ _ _ _ _ _ _ _ _ _ _ _ _ _ _ _ _ _ _ _ _ _ _ _ _ _ _ _ _ _ _ _ _ _ _ _ _ _ _ _ _ _ _ _ _ _ _ _ _ _ _ _ _ _ _ _ _ _ _ _ _ _ _ _ _ _ _ _ _ _ _ _ _ _ _ _ _ _ _ _ _ _ _ _ _ _ _ _ _ _ _ _ _ _ _ _ _ _ _ _ _ _ _ _ _ _ _ _ _ _ _ _ _ _ _ _ _ _ _ _ _ _ _ _ _ _ _ _ _ _ _ _ _ _ _ _ _ _ _ _ _ _ _ _ _ _ _ _ _ _ _ _ _ _ _ _ _ _ _ _ _ _ _ _ _ _ _ _ _ _ _ _ _ _ _ _ _ _ _ _ _ _ _ _ _ _ _ _ _ _ _ _ _ _ _ _ _ _ _ _ _ _ _ _ _ _ _ _ _ _ _ _ _ _ _ _ _ _ _ _ _ rfl
end Go.Proofs.Ytcpjplkbmflglaa
