/- CheckUnit's phase of code 6: words. -/
import Derived.Test.YtcpjplkbmflglaaE7
namespace Go.Proofs.Ytcpjplkbmflglaa
open Go.RowKit
attribute [local go_sem] run_store_float
set_option linter.unusedVariables false
def look6 (s : Sc1) (x : Int) : Bool := match s with
  | none => false
  | some (k, b) => if x = k then b else false
theorem info56 : (Try.prog.info? 56).map (fun i => (i.zero, i.size, i.bytes)) = some (some (Value.map none), 1, 8) := by kernel_rfl
theorem mk53 (n : Nat) (hn : n ≤ 1048576) (W : World) : (Instr.makeSlice 53 (.int .i64 (n : Int)) (.int .i64 (n : Int))).run Try.prog W = .ok (.slice (some ⟨W.heap.size, 0, none⟩) n n) (W.alloc (.cells (madeCells #[Value.map none] n) 56)) := by
  obtain ⟨i0, hi0, hz0, hz1, hz2⟩ := info_parts info56
  have hmk := run_make (P := Try.prog) W 53 56 i0 _ Try.underlying53 hi0 hz0 .i64 .i64 (n : Int) (n : Int) (by omega) (by omega) (by rw [hz2]; omega) (by omega)
  rw [hz1, Nat.mul_one, Int.toNat_natCast] at hmk
  exact hmk
theorem look56 {w : World} {u : Value} {hi : Nat} {s : Sc1} (h : cellIs w hi u s) (x : Int) : (Instr.lookup 56 u (.int .i64 x) false).run Try.prog w = .ok (.bool (look6 s x)) w := by
  have hc : ∀ e, (Instr.checkKey e 10000 3 (.int .i64 x)).run Try.prog w = .ok () w := fun e => MapKept.run_checkKey (k := .int .i64 x) Try.underlying3 (by simp [MapKept.IsKey]) e 9999
  have hz : (zeroValue 4).run Try.prog w = .ok (.bool false) w := by kernel_rfl
  cases s with
  | none =>
    unfold cellIs at h
    subst h
    have hf : Instr.findNow (.int .i64) (.int .i64 x) [] 0 = some none := rfl
    simp [Instr.lookup, run_underlying Try.underlying56, hc, MapKept.run_findKey Try.underlying3 hf, Result.andThen, look6, hz]
  | some p =>
    obtain ⟨k, b⟩ := p
    obtain ⟨r, rfl, -, hb⟩ := h
    unfold entry at hb
    by_cases e : x = k
    · subst e
      have hf : Instr.findNow (.int .i64) (.int .i64 x) (#[{ key := Value.int .i64 x, val := Value.bool b, born := 0 }] : Array MapEntry).toList 0 = some (some (0, Value.bool b)) := by
        simp [Instr.findNow, Instr.sameNow]
      simp [Instr.lookup, run_underlying Try.underlying56, MapKept.run_getObj_map hb, hc, MapKept.run_findKey Try.underlying3 hf, Result.andThen, look6]
    · have eb : (x == k) = false := beq_eq_false_iff_ne.2 e
      have hf : Instr.findNow (.int .i64) (.int .i64 x) (#[{ key := Value.int .i64 k, val := Value.bool b, born := 0 }] : Array MapEntry).toList 0 = some none := by
        simp [Instr.findNow, Instr.sameNow, eb]
      simp [Instr.lookup, run_underlying Try.underlying56, MapKept.run_getObj_map hb, hc, MapKept.run_findKey Try.underlying3 hf, Result.andThen, look6, hz, e]
/-- One reference at a node: (bad, declared). -/
def ref6 (kind : Int) (nv nu nf : Nat) (sc : Sc1) (st : Bool × List Bool) (v : Int) : Bool × List Bool :=
  if kind = 27 then (st.1 || (decide (v < 0) || decide ((nu : Int) ≤ v)), st.2)
  else if kind = 36 then (st.1 || (decide (v < 0) || decide ((nf : Int) ≤ v)), st.2)
  else if v < 0 ∨ (nv : Int) ≤ v then (true, st.2)
  else if declK kind then (st.1 || (st.2[v.toNat]?).getD false, st.2.set v.toNat true)
  else if kind = 26 then (st.1 || !look6 sc v, st.2)
  else st
def sc6A (fs : List Fd) (i : Nat) : List Sc1 := (evsD (fdAt fs i)).foldl (st6 (fdAt fs i).nodes) (List.replicate (lenAt fs i) none)
def step6p (fs : List Fd) (i n : Nat) (dec : List Bool) : Option (List Bool) :=
  let x := fdAt fs i
  let nd := ndAt x.nodes n
  let r := nd.refs.foldl (ref6 nd.kind x.vars.length x.ups.length fs.length (((sc6A fs i)[n]?).getD none)) (false, dec)
  if r.1 then none else some r.2
def in6p (fs : List Fd) (i : Nat) (_ : Unit) : Unit ⊕ Nat := match loopS (step6p fs i) 0 (lenAt fs i) (seen0 (fdAt fs i).params (fdAt fs i).vars.length) with
  | .inl _ => .inl ()
  | .inr n => .inr n
def P6p (fs : List Fd) : Unit ⊕ (Nat × Nat) := loop2 (in6p fs) 0 fs.length ()
def G6 (fs : List Fd) : Flt3 := match P6p fs with
  | .inr (f, n) => (6, f, n)
  | .inl _ => G7 fs
theorem idecl_any (k : Int) (w : World) : Calls Try.prog 26 #[.int .i64 k] w fun e w' => e = .returned (.bool (declK k)) ∧ w = w' := by
  unfold declK
  by_cases h2 : (k == 2) = true
  · go_enter Try.func26, Try.ntmps26
    go_wp2
    go_ret
    exact ⟨by simp [h2], rfl⟩
  · by_cases h7 : (k == 7) = true
    · rw [Bool.not_eq_true] at h2
      go_enter Try.func26, Try.ntmps26
      go_wp2
      go_ret
      exact ⟨by simp [h2, h7], rfl⟩
    · by_cases h8 : (k == 8) = true
      · rw [Bool.not_eq_true] at h2 h7
        go_enter Try.func26, Try.ntmps26
        go_wp2
        go_ret
        exact ⟨by simp [h2, h7, h8], rfl⟩
      · rw [Bool.not_eq_true] at h2 h7 h8
        go_enter Try.func26, Try.ntmps26
        go_wp2
        go_ret
        exact ⟨by simp [h2, h7, h8], rfl⟩
theorem ref6_len (kind : Int) (nv nu nf : Nat) (sc : Sc1) : ∀ (vs : List Int) (st : Bool × List Bool), (vs.foldl (ref6 kind nv nu nf sc) st).2.length = st.2.length := by
  intro vs
  induction vs with
  | nil => intro st; rfl
  | cons v r ih =>
    intro st
    rw [List.foldl_cons, ih]
    unfold ref6
    repeat' split
    all_goals first | rfl | rw [List.length_set]
/-- What has been found bad stays so. -/
theorem ref6_bad (kind : Int) (nv nu nf : Nat) (sc : Sc1) : ∀ (vs : List Int) (dec : List Bool), (vs.foldl (ref6 kind nv nu nf sc) (true, dec)).1 = true := by
  intro vs
  induction vs with
  | nil => intro dec; rfl
  | cons v r ih =>
    intro dec
    rw [List.foldl_cons]
    have : ∃ d, ref6 kind nv nu nf sc (true, dec) v = (true, d) := by
      unfold ref6
      repeat' split
      all_goals exact ⟨_, rfl⟩
    obtain ⟨d, hd⟩ := this
    rw [hd]
    exact ih d
/-- Behind code 6 a new function's number is one. -/
theorem P6p_ref {fs : List Fd} (h : P6p fs = .inl ()) (i : Nat) (hi : i < fs.length) (n : Nat) (hn : n < lenAt fs i) (hk : (ndAt (fdAt fs i).nodes n).kind = 36) (hr : 0 < (ndAt (fdAt fs i).nodes n).refs.length) : 0 ≤ ref0 (ndAt (fdAt fs i).nodes n) ∧ ref0 (ndAt (fdAt fs i).nodes n) < fs.length := by
  obtain ⟨_, _, h1⟩ := loop2_all _ _ _ _ h i hi
  rw [Nat.zero_add] at h1
  unfold in6p at h1
  cases h2 : loopS (step6p fs i) 0 (lenAt fs i) (seen0 (fdAt fs i).params (fdAt fs i).vars.length) with
  | inr m => rw [h2] at h1; simp at h1
  | inl s =>
    obtain ⟨s1, s2, h3⟩ := loopS_all _ _ _ _ h2 n hn
    rw [Nat.zero_add] at h3
    unfold step6p at h3
    simp only at h3
    obtain ⟨v, hv⟩ : ∃ v, (ndAt (fdAt fs i).nodes n).refs[0]? = some v := ⟨_, List.getElem?_eq_getElem hr⟩
    have hr0 : ref0 (ndAt (fdAt fs i).nodes n) = v := by unfold ref0; rw [hv]; rfl
    rw [hr0]
    obtain ⟨r, hrr⟩ : ∃ r, (ndAt (fdAt fs i).nodes n).refs = v :: r := by
      cases hc : (ndAt (fdAt fs i).nodes n).refs with
      | nil => rw [hc] at hr; simp at hr
      | cons a r => rw [hc] at hv; simp at hv; exact ⟨r, by rw [hv]⟩
    rw [hrr, List.foldl_cons, hk] at h3
    have e1 : ref6 36 (fdAt fs i).vars.length (fdAt fs i).ups.length fs.length (((sc6A fs i)[n]?).getD none) (false, s1) v = (decide (v < 0) || decide ((fs.length : Int) ≤ v), s1) := by
      unfold ref6; rw [if_neg (by decide), if_pos rfl]; simp
    rw [e1] at h3
    by_cases hb : v < 0 ∨ (fs.length : Int) ≤ v
    · have : (decide (v < 0) || decide ((fs.length : Int) ≤ v)) = true := by simpa using hb
      rw [this, ref6_bad] at h3
      simp at h3
    · omega
theorem Sm.keep {W W' : World} {ga hi g : Nat} {S : List Sc1} {cs : Array Value} {ty : TypeId} (h : Sm W ga hi S) (hg : Blk W g ty cs) (hne : g ≠ ga) (hb : But (· = g) W W') : Sm W' ga hi S := by
  obtain ⟨cells, h1, h2, h3⟩ := h
  refine ⟨cells, hb.blk h1 (fun e => hne e.symm), h2, fun n s u hs hu => ?_⟩
  have := h3 n s u hs hu
  cases s with
  | none => exact this
  | some p =>
    obtain ⟨v, b⟩ := p
    obtain ⟨r, q1, q2, q3⟩ := this
    refine ⟨r, q1, q2, (hb.block r (Array.getElem?_eq_some_iff.1 q3).1 (fun e => ?_)).trans q3⟩
    subst e
    unfold Blk at hg
    rw [hg] at q3; cases q3
theorem Sm.below {W W' : World} {ga hi : Nat} {S : List Sc1} (h : Sm W ga hi S) (hb : Below W.heap.size W W') : Sm W' ga hi S := by
  obtain ⟨cells, h1, h2, h3⟩ := h
  refine ⟨cells, h1.below hb h1.lt, h2, fun n s u hs hu => ?_⟩
  have := h3 n s u hs hu
  cases s with
  | none => exact this
  | some p =>
    obtain ⟨v, b⟩ := p
    obtain ⟨r, q1, q2, q3⟩ := this
    exact ⟨r, q1, q2, (hb.block r (Array.getElem?_eq_some_iff.1 q3).1).trans q3⟩
theorem Sm.make {W : World} {ga hi n : Nat} (h : Blk W ga 56 (madeCells #[Value.map none] n)) : Sm W ga hi (List.replicate n none) := by
  have e : madeCells #[Value.map none] n = (List.replicate n (Value.map none)).toArray := by
    unfold madeCells
    apply Array.ext'
    simp [Nat.mod_one]
    refine List.ext_getElem (by simp) fun i h1 h2 => ?_
    simp
  rw [e] at h
  refine ⟨_, h, by simp, fun k s u hs hu => ?_⟩
  rw [List.getElem?_replicate] at hs hu
  split at hs
  · injection hs with hs
    subst hs
    split at hu
    · injection hu with hu; exact hu.symm
    · contradiction
  · cases hs
end Go.Proofs.Ytcpjplkbmflglaa
namespace Go.Proofs.Ytcpjplkbmflglaa
open Go.RowKit
attribute [local go_sem] run_store_float
set_option linter.unusedVariables false
/-- The world of code 6 at one fn. -/
structure T6q (w : World) (U : Value) (f : LF) (Xf ga p1 gd hi : Nat) (S : List Sc1) (dec : List Bool) (W : World) : Prop where
  fs : Fs w U W
  fb : Blk W Xf 47 #[.string f.name, .int .i64 f.line, .int .i64 f.params, .bool f.rest, .slice f.va f.vars.length f.vc, .slice f.ua f.ups.length f.uc, .slice f.na f.ns.length f.nc]
  pb : Blk W p1 53 #[.slice (some ⟨ga, 0, none⟩) f.ns.length f.ns.length]
  sm : Sm W ga hi S
  db : BB W gd dec
  n1 : gd ≠ ga
  n2 : gd ≠ Xf
  n3 : gd ≠ p1
  n6 : w.heap.size + 1 < gd
theorem T6q.below {w W W' : World} {U : Value} {f : LF} {Xf ga p1 gd hi : Nat} {S : List Sc1} {dec : List Bool} (h : T6q w U f Xf ga p1 gd hi S dec W) (hb : Below W.heap.size W W') : T6q w U f Xf ga p1 gd hi S dec W' := ⟨h.fs.below hb, h.fb.below hb h.fb.lt, h.pb.below hb h.pb.lt, h.sm.below hb, h.db.below hb, h.n1, h.n2, h.n3, h.n6⟩
theorem T6q.set_ {w W : World} {U : Value} {f : LF} {Xf ga p1 gd hi : Nat} {S : List Sc1} {dec : List Bool} (h : T6q w U f Xf ga p1 gd hi S dec W) (k : Nat) (v : Bool) : T6q w U f Xf ga p1 gd hi S (dec.set k v) (W.setCell ⟨gd, k, none⟩ (.bool v)) :=
  have hb : But (fun x => x = gd) W (W.setCell ⟨gd, k, none⟩ (.bool v)) := But.set (P := fun x => x = gd) (But.refl _ _) (show gd = gd from rfl) k _
  ⟨h.fs.but hb (fun x hx => by have := h.n6; omega), hb.blk h.fb (fun e => h.n2 e.symm), hb.blk h.pb (fun e => h.n3 e.symm), h.sm.keep h.db h.n1 hb, h.db.set_ k v, h.n1, h.n2, h.n3, h.n6⟩
theorem ref6_27 {kind : Int} {nv nu nf : Nat} {sc : Sc1} {st : Bool × List Bool} {v : Int} (h : kind = 27) : ref6 kind nv nu nf sc st v = (st.1 || (decide (v < 0) || decide ((nu : Int) ≤ v)), st.2) := if_pos h
theorem ref6_36 {kind : Int} {nv nu nf : Nat} {sc : Sc1} {st : Bool × List Bool} {v : Int} (h : kind = 36) : ref6 kind nv nu nf sc st v = (st.1 || (decide (v < 0) || decide ((nf : Int) ≤ v)), st.2) := by
  unfold ref6; rw [if_neg (by omega), if_pos h]
theorem ref6_out {kind : Int} {nv nu nf : Nat} {sc : Sc1} {st : Bool × List Bool} {v : Int} (h1 : kind ≠ 27) (h2 : kind ≠ 36) (h : v < 0 ∨ (nv : Int) ≤ v) : ref6 kind nv nu nf sc st v = (true, st.2) := by
  unfold ref6; rw [if_neg h1, if_neg h2, if_pos h]
theorem ref6_decl {kind : Int} {nv nu nf : Nat} {sc : Sc1} {st : Bool × List Bool} {v : Int} (h1 : kind ≠ 27) (h2 : kind ≠ 36) (h : ¬ (v < 0 ∨ (nv : Int) ≤ v)) (hd : declK kind = true) : ref6 kind nv nu nf sc st v = (st.1 || (st.2[v.toNat]?).getD false, st.2.set v.toNat true) := by
  unfold ref6; rw [if_neg h1, if_neg h2, if_neg h, if_pos hd]
theorem ref6_26 {kind : Int} {nv nu nf : Nat} {sc : Sc1} {st : Bool × List Bool} {v : Int} (h : ¬ (v < 0 ∨ (nv : Int) ≤ v)) (hk : kind = 26) : ref6 kind nv nu nf sc st v = (st.1 || !look6 sc v, st.2) := by
  subst hk
  unfold ref6; rw [if_neg (by decide), if_neg (by decide), if_neg h, if_neg (by decide), if_pos rfl]
theorem ref6_else {kind : Int} {nv nu nf : Nat} {sc : Sc1} {st : Bool × List Bool} {v : Int} (h1 : kind ≠ 27) (h2 : kind ≠ 36) (h : ¬ (v < 0 ∨ (nv : Int) ≤ v)) (hd : declK kind = false) (h3 : kind ≠ 26) : ref6 kind nv nu nf sc st v = st := by
  unfold ref6; rw [if_neg h1, if_neg h2, if_neg h, if_neg (by rw [hd]; decide), if_neg h3]
set_option maxRecDepth 100000 in
set_option maxHeartbeats 40000000 in
theorem ph6 (A : Option Addr) (c : Nat) (fs : List LF) (w : World) (lo : Nat) (W : World) (hS : Fs w (.slice A fs.length c) W) (hn : fs.length ≤ 1048576) (hR : RdF w lo A fs) (hlo : lo ≤ w.heap.size) (hO : ∀ f ∈ fs, OkW f) (u0 u3 u4 u5 u6 u7 u8 u9 u10 u11 u12 u13 u14 u15 u16 u17 u18 u19 u20 u21 u22 u23 u24 u25 u26 u27 u28 u29 u30 u31 u32 u33 u34 u35 u36 u37 u38 u39 u40 u41 u42 u43 u44 u45 u46 u47 u48 u49 u50 u51 u52 u53 u54 u55 u56 u57 u58 u59 u60 u61 u62 u63 u64 u65 u66 u67 u68 u69 u70 u71 u72 u73 u74 u75 u76 u77 u78 u79 u80 u81 u82 u83 u84 u85 u86 u87 u88 u89 u90 u91 u92 u93 u94 u95 u96 u97 u98 u99 u100 u101 u102 u103 u104 u105 u106 u107 u108 u109 u110 u111 u112 u113 u114 u115 u116 u117 u118 u119 u120 u121 u122 u123 u124 u125 u126 u127 u128 u129 u130 u131 u132 u133 u134 u135 u136 u137 u138 u139 u140 u141 u142 u143 u144 u145 u146 u147 u148 u149 u150 u151 u152 u153 u154 u155 u156 u157 u158 u159 u160 u161 u162 u163 u164 u165 u166 u167 u168 u169 u170 u171 u172 u173 u174 u175 u176 u177 u178 u179 u180 u181 u182 u183 u184 u185 u186 u187 u188 u189 u190 u191 u192 u193 u194 u195 u196 u197 u198 u199 u200 u201 u202 u203 u204 u205 u206 u207 u208 u209 u210 u211 u212 u213 u214 u215 u216 u217 u218 u219 u220 u221 u222 u223 u224 u225 u226 u227 u228 u229 u230 u231 u232 u233 u234 u235 u236 u237 u238 u239 u240 u241 u242 u243 u244 u245 u246 u247 u248 u249 u250 u251 u252 u253 u254 u255 u256 u257 u258 u259 u260 u261 u262 u263 u264 u265 u266 u267 u268 u269 u270 u271 u272 u273 u274 u275 u276 u277 u278 u279 u280 u281 u282 u283 u284 u285 u286 u287 u288 u289 u290 u291 u292 u293 u294 u295 u296 u297 u298 u299 u300 u301 u302 u303 u304 u305 u306 u307 u308 u309 u310 u311 u312 u313 u314 u315 u316 u317 u318 u319 u320 u321 u322 u323 u324 u325 u326 u327 u328 u329 u330 u331 u332 u333 u334 u335 u336 u337 u338 u339 u340 u341 u342 u343 u344 u345 u346 u347 u348 u349 u350 u351 u352 u353 u354 u355 u356 u357 u358 u359 u360 u361 u362 u363 u364 u365 u366 u367 u368 u369 u370 u371 u372 u373 u374 u375 u376 u377 u378 u379 u380 u381 u382 u383 u384 u385 u386 u387 u388 u389 u390 u391 u392 u393 u394 u395 u396 u397 u398 u399 u400 u401 u402 u403 u404 u405 u406 u407 u408 u409 u410 u411 u412 u413 u414 u415 u416 u417 u418 u419 u420 u421 u422 u423 u424 u425 u426 u427 u428 u429 u430 u431 u432 u433 u434 u435 u436 u437 u438 u439 u440 u441 u442 u443 u444 u445 u446 u447 u448 u449 u450 u451 u452 u453 u454 u455 u456 u457 u458 u459 u460 u461 u462 u463 u464 u465 u466 u467 u468 u469 u470 u471 u472 : Value) :
    ∀ d, tlo 8 Try.f8.body = some d → d.wp Try.prog (bodyPost Try.prog Try.f8 fun e W' => e = .returned (fltV (G6 (fs.map LF.fd))) ∧ Below w.heap.size w W') { tmps := #[u0, (.pointer (some ⟨w.heap.size, 0, none⟩)), (.pointer (some ⟨w.heap.size + 1, 0, none⟩)), u3, u4, u5, u6, u7, u8, u9, u10, u11, u12, u13, u14, u15, u16, u17, u18, u19, u20, u21, u22, u23, u24, u25, u26, u27, u28, u29, u30, u31, u32, u33, u34, u35, u36, u37, u38, u39, u40, u41, u42, u43, u44, u45, u46, u47, u48, u49, u50, u51, u52, u53, u54, u55, u56, u57, u58, u59, u60, u61, u62, u63, u64, u65, u66, u67, u68, u69, u70, u71, u72, u73, u74, u75, u76, u77, u78, u79, u80, u81, u82, u83, u84, u85, u86, u87, u88, u89, u90, u91, u92, u93, u94, u95, u96, u97, u98, u99, u100, u101, u102, u103, u104, u105, u106, u107, u108, u109, u110, u111, u112, u113, u114, u115, u116, u117, u118, u119, u120, u121, u122, u123, u124, u125, u126, u127, u128, u129, u130, u131, u132, u133, u134, u135, u136, u137, u138, u139, u140, u141, u142, u143, u144, u145, u146, u147, u148, u149, u150, u151, u152, u153, u154, u155, u156, u157, u158, u159, u160, u161, u162, u163, u164, u165, u166, u167, u168, u169, u170, u171, u172, u173, u174, u175, u176, u177, u178, u179, u180, u181, u182, u183, u184, u185, u186, u187, u188, u189, u190, u191, u192, u193, u194, u195, u196, u197, u198, u199, u200, u201, u202, u203, u204, u205, u206, u207, u208, u209, u210, u211, u212, u213, u214, u215, u216, u217, u218, u219, u220, u221, u222, u223, u224, u225, u226, u227, u228, u229, u230, u231, u232, u233, u234, u235, u236, u237, u238, u239, u240, u241, u242, u243, u244, u245, u246, u247, u248, u249, u250, u251, u252, u253, u254, u255, u256, u257, u258, u259, u260, u261, u262, u263, u264, u265, u266, u267, u268, u269, u270, u271, u272, u273, u274, u275, u276, u277, u278, u279, u280, u281, u282, u283, u284, u285, u286, u287, u288, u289, u290, u291, u292, u293, u294, u295, u296, u297, u298, u299, u300, u301, u302, u303, u304, u305, u306, u307, u308, u309, u310, u311, u312, u313, u314, u315, u316, u317, u318, u319, u320, u321, u322, u323, u324, u325, u326, u327, u328, u329, u330, u331, u332, u333, u334, u335, u336, u337, u338, u339, u340, u341, u342, u343, u344, u345, u346, u347, u348, u349, u350, u351, u352, u353, u354, u355, u356, u357, u358, u359, u360, u361, u362, u363, u364, u365, u366, u367, u368, u369, u370, u371, u372, u373, u374, u375, u376, u377, u378, u379, u380, u381, u382, u383, u384, u385, u386, u387, u388, u389, u390, u391, u392, u393, u394, u395, u396, u397, u398, u399, u400, u401, u402, u403, u404, u405, u406, u407, u408, u409, u410, u411, u412, u413, u414, u415, u416, u417, u418, u419, u420, u421, u422, u423, u424, u425, u426, u427, u428, u429, u430, u431, u432, u433, u434, u435, u436, u437, u438, u439, u440, u441, u442, u443, u444, u445, u446, u447, u448, u449, u450, u451, u452, u453, u454, u455, u456, u457, u458, u459, u460, u461, u462, u463, u464, u465, u466, u467, u468, u469, u470, u471, u472], defers := [] } W := by
  refine wp_at rfl ?_
  have HS := Lib.hid hS; have HR := Lib.hid hR; have HO := Lib.hid hO
  have ub0 := hS.ub.cell 0
  have hz0 := hS.ub.lt
  have hz1 := hS.rb.lt
  clear hS hR hO
  go_wp2
  clear ub0
  rename_i K0 hK0
  have HK0 := Lib.hid hK0
  clear hK0
  go_loopw [244] (fun v wr => ∃ (p : Nat), p ≤ fs.length ∧ v = .int .i64 p ∧ Hid (P6p (fs.map LF.fd) = loop2 (in6p (fs.map LF.fd)) p (fs.length - p) ()) ∧ Hid (Fs w (.slice A fs.length c) wr)) (fun v _ => fs.length - (intOf v).toNat)
  case atStart => exact ⟨0, Nat.zero_le _, rfl, Lib.hid (by unfold P6p; rw [List.length_map]; rfl), HS⟩
  case round =>
    clear HS hz0 hz1
    obtain ⟨p, hp, rfl, HB, HS⟩ := hrel
    have hz0 := HS.out.ub.lt
    have hz1 := HS.out.rb.lt
    by_cases hlt : p < fs.length
    · obtain ⟨f, hpf⟩ : ∃ f, fs[p]? = some f := ⟨_, List.getElem?_eq_getElem hlt⟩
      obtain ⟨b, off, rfl, hlob, hb, c0, c1, c2, c3, c4, c5, c6, -⟩ := rdF_at (HR.out.below HS.out.bel) hpf
      have hfm := List.mem_of_getElem? hpf
      have HPF := Lib.hid hpf
      have HFM := Lib.hid hfm
      have HOF := Lib.hid (HO.out f hfm)
      have hfn := HOF.out.ok.cn
      have hvn := HOF.out.ok.vn
      have hpar0 := HOF.out.ok.p0
      have hpar1 := HOF.out.ok.p1
      have hmk3 := mk53 f.ns.length hfn
      have hmk := mk55 f.vars.length (by omega)
      obtain ⟨m, hm⟩ : ∃ m, fs.length - p = m + 1 := ⟨fs.length - p - 1, by omega⟩
      have HM := Lib.hid hm
      have ub0 := HS.out.ub.cell 0
      simp at ub0
      have hpl : (p : Int) < fs.length := by omega
      obtain ⟨w2, hw2⟩ : ∃ wo : World, wo = wr := ⟨_, rfl⟩
      obtain rfl := hw2
      obtain ⟨hi, hhi⟩ : ∃ hi, hi = w2.heap.size + 3 := ⟨_, rfl⟩
      have HHI := Lib.hid hhi
      have HTA : Hid (Fs w (.slice (some ⟨b, off, none⟩) fs.length c) (((w2.alloc (.cells #[.string f.name, .int .i64 f.line, .int .i64 f.params, .bool f.rest, .slice f.va f.vars.length f.vc, .slice f.ua f.ups.length f.uc, .slice f.na f.ns.length f.nc] 47)).alloc (.cells (madeCells #[Value.map none] f.ns.length) 56)).alloc (.cells #[.slice (some ⟨w2.heap.size + 1, 0, none⟩) f.ns.length f.ns.length] 53)) ∧ Blk (((w2.alloc (.cells #[.string f.name, .int .i64 f.line, .int .i64 f.params, .bool f.rest, .slice f.va f.vars.length f.vc, .slice f.ua f.ups.length f.uc, .slice f.na f.ns.length f.nc] 47)).alloc (.cells (madeCells #[Value.map none] f.ns.length) 56)).alloc (.cells #[.slice (some ⟨w2.heap.size + 1, 0, none⟩) f.ns.length f.ns.length] 53)) w2.heap.size 47 #[.string f.name, .int .i64 f.line, .int .i64 f.params, .bool f.rest, .slice f.va f.vars.length f.vc, .slice f.ua f.ups.length f.uc, .slice f.na f.ns.length f.nc] ∧ Blk (((w2.alloc (.cells #[.string f.name, .int .i64 f.line, .int .i64 f.params, .bool f.rest, .slice f.va f.vars.length f.vc, .slice f.ua f.ups.length f.uc, .slice f.na f.ns.length f.nc] 47)).alloc (.cells (madeCells #[Value.map none] f.ns.length) 56)).alloc (.cells #[.slice (some ⟨w2.heap.size + 1, 0, none⟩) f.ns.length f.ns.length] 53)) (w2.heap.size + 1 + 1) 53 #[.slice (some ⟨w2.heap.size + 1, 0, none⟩) f.ns.length f.ns.length] ∧ Sm (((w2.alloc (.cells #[.string f.name, .int .i64 f.line, .int .i64 f.params, .bool f.rest, .slice f.va f.vars.length f.vc, .slice f.ua f.ups.length f.uc, .slice f.na f.ns.length f.nc] 47)).alloc (.cells (madeCells #[Value.map none] f.ns.length) 56)).alloc (.cells #[.slice (some ⟨w2.heap.size + 1, 0, none⟩) f.ns.length f.ns.length] 53)) (w2.heap.size + 1) hi (List.replicate f.ns.length none)) :=
        Lib.hid ⟨((HS.out.alloc _).alloc _).alloc _, ((Blk.new _ _ _).alloc _).alloc _, Blk.new_at (by simp), Sm.make ((Blk.new_at (by simp)).alloc _)⟩
      have HIN : Hid (in6p (fs.map LF.fd) p () = match loopS (step6p (fs.map LF.fd) p) 0 f.ns.length (seen0 f.params f.vars.length) with
          | .inl _ => .inl ()
          | .inr n => .inr n) := Lib.hid (by unfold in6p; rw [len_at hpf, fd_at hpf]; rfl)
      have HSA : Hid (sc6A (fs.map LF.fd) p = (evsOf f).foldl (st6 (f.ns.map LN.nd)) (List.replicate f.ns.length none)) := Lib.hid (by unfold sc6A; rw [fd_at hpf, len_at hpf, evs_fd]; rfl)
      clear hpf hfm hm hhi
      go_wp2_with fail
      refine (scopes6_any f w2.heap.size (w2.heap.size + 1 + 1) (w2.heap.size + 1) lo w _ hi (by simp [HHI.out]) (List.replicate f.ns.length none) HOF.out HTA.out.1.bel (HR.out.2 f HFM.out).2.2 (by omega) HTA.out.2.1 HTA.out.2.2.1 HTA.out.2.2.2 (by simp) List.length_replicate (by omega) (by omega)).mono ?_
      rintro e w3 ⟨rfl, hB3, hX3⟩
      have hsz3 : w2.heap.size + 3 ≤ w3.heap.size := by have := hX3.size; simpa using this
      obtain ⟨S, hSS⟩ : ∃ S, S = sc6A (fs.map LF.fd) p := ⟨_, rfl⟩
      have HSL : Hid (S.length = f.ns.length) := Lib.hid (by rw [hSS, HSA.out, st6_len, List.length_replicate])
      rw [← HSA.out, ← hSS] at hB3
      have HSS := Lib.hid hSS
      have hT3 : T6q w (.slice (some ⟨b, off, none⟩) fs.length c) f w2.heap.size (w2.heap.size + 1) (w2.heap.size + 1 + 1) w3.heap.size hi S (List.replicate f.vars.length false) (w3.alloc (.cells (madeCells #[Value.bool false] f.vars.length) 4)) :=
        ⟨(HTA.out.1.but hX3 (fun k hk => by omega)).alloc _, (hX3.blk HTA.out.2.1 (by omega)).alloc _, (hX3.blk HTA.out.2.2.1 (by omega)).alloc _, hB3.below (below_new _ _), BB.make_at rfl, by omega, by omega, by omega, by omega⟩
      have HT3 := Lib.hid hT3
      have x4 := (hX3.blk HTA.out.2.1 (by omega)).cell 4
      have x2 := (hX3.blk HTA.out.2.1 (by omega)).cell 2
      simp at x4 x2
      obtain ⟨gd, hgd⟩ : ∃ gd, gd = w3.heap.size := ⟨_, rfl⟩
      have hgd1 : w2.heap.size + 3 ≤ gd := by omega
      have hx3 : w2.heap.size < w3.heap.size := by omega
      clear hB3 hX3 hT3 HTA hSS c0 c1 c2 c3 c4 c5 c6 ub0 hmk3 hb hsz3
      go_wp2
      clear x4 x2 hx3 hmk
      rw [← hgd] at HT3 ⊢
      clear hgd
      go_loopw [262] (fun v wx => ∃ (k : Nat), (k : Int) ≤ f.params ∧ v = .int .i64 k ∧ Hid (T6q w (.slice (some ⟨b, off, none⟩) fs.length c) f w2.heap.size (w2.heap.size + 1) (w2.heap.size + 1 + 1) gd hi S (List.replicate k true ++ List.replicate (f.vars.length - k) false) wx)) (fun v _ => f.params.toNat - (intOf v).toNat)
      case atStart => exact ⟨0, by simpa using hpar0, rfl, by simpa using HT3⟩
      case round =>
        clear HT3
        obtain ⟨k, hk, rfl, HT⟩ := hrel
        have hgl := HT.out.db.lt
        have hx3 := HT.out.fb.lt
        by_cases hkl : (k : Int) < f.params
        · have hkv : k < f.vars.length := by omega
          have hkv2 : (k : Int) < f.vars.length := by omega
          have cd := HT.out.db.cell (rep_at2 k f.vars.length hkv)
          have fd := HT.out.db.fz k
          have HT2 : Hid (T6q w (.slice (some ⟨b, off, none⟩) fs.length c) f w2.heap.size (w2.heap.size + 1) (w2.heap.size + 1 + 1) gd hi S (List.replicate (k + 1) true ++ List.replicate (f.vars.length - (k + 1)) false) (wr.setCell ⟨gd, k, none⟩ (.bool true))) := Lib.hid (by rw [← rep_set2 k _ hkv]; exact HT.out.set_ k true)
          clear HT
          go_wp2
          exact ⟨⟨k + 1, by omega, by go_num, HT2⟩, by simp [intOf]; omega⟩
        · have hkk : k = f.params.toNat := by omega
          have HT0 : Hid (T6q w (.slice (some ⟨b, off, none⟩) fs.length c) f w2.heap.size (w2.heap.size + 1) (w2.heap.size + 1 + 1) gd hi S (seen0 f.params f.vars.length) wr) := Lib.hid (by unfold seen0; rw [← hkk]; exact HT.out)
          have x6 := HT.out.fb.cell 6
          simp at x6
          clear HT hkk
          go_wp2
          clear x6 hx3 hgl hk hkl
          go_loopw [272] (fun v wx => ∃ (q : Nat) (dec : List Bool), q ≤ f.ns.length ∧ v = .int .i64 q ∧ dec.length = f.vars.length ∧ Hid (loopS (step6p (fs.map LF.fd) p) 0 f.ns.length (seen0 f.params f.vars.length) = loopS (step6p (fs.map LF.fd) p) q (f.ns.length - q) dec) ∧ Hid (T6q w (.slice (some ⟨b, off, none⟩) fs.length c) f w2.heap.size (w2.heap.size + 1) (w2.heap.size + 1 + 1) gd hi S dec wx)) (fun v _ => f.ns.length - (intOf v).toNat)
          case atStart => exact ⟨0, _, Nat.zero_le _, rfl, by unfold seen0; simp; omega, Lib.hid rfl, HT0⟩
          case round =>
            clear HT0
            obtain ⟨q, dec, hq, rfl, hdl, HLS, HT⟩ := hrel
            have hgl := HT.out.db.lt
            have hbel := HT.out.fs.bel
            by_cases hql : q < f.ns.length
            · obtain ⟨l, hl⟩ : ∃ l, f.ns[q]? = some l := ⟨_, List.getElem?_eq_getElem hql⟩
              obtain ⟨b3, off3, hna, hlo3, hb3, c0, c1, c2, c3, c4, c5, c6, c7, hok⟩ := rdN_at ((HR.out.2 f HFM.out).2.2.below hbel) hl
              obtain ⟨m2, hm2⟩ : ∃ m, f.ns.length - q = m + 1 := ⟨f.ns.length - q - 1, by omega⟩
              have HM2 := Lib.hid hm2
              obtain ⟨sc, hsc⟩ : ∃ sc, S[q]? = some sc := ⟨_, List.getElem?_eq_getElem (by have := HSL.out; omega)⟩
              have HSC := Lib.hid hsc
              have HST : Hid (step6p (fs.map LF.fd) p q dec = if (l.nd.refs.foldl (ref6 l.nd.kind f.vars.length f.ups.length fs.length sc) (false, dec)).1 then none else some (l.nd.refs.foldl (ref6 l.nd.kind f.vars.length f.ups.length fs.length sc) (false, dec)).2) := Lib.hid (by
                have e1 : ndAt f.fd.nodes q = l.nd := nd_atD hl
                have e2 : (sc6A (fs.map LF.fd) p)[q]? = some sc := by rw [← HSS.out]; exact hsc
                unfold step6p
                simp only [fd_at HPF.out, List.length_map, e1, e2, Option.getD_some]
                rfl)
              have HOKN := Lib.hid ((HR.out.2 f HFM.out).2.2.2 l (List.mem_of_getElem? hl)).1
              have hrl := (HOF.out.fit.2.2.2.2 l (List.mem_of_getElem? hl)).2.1
              unfold maxLen at hrl
              have hqi : (q : Int) < f.ns.length := by omega
              rw [hna]
              obtain ⟨w4, hw4⟩ : ∃ wo : World, wo = wr := ⟨_, rfl⟩
              obtain rfl := hw4
              have HT4 := Lib.hid (HT.out.below (below_new w4 (.cells #[.int .i64 l.nd.kind, .int .i64 l.nd.line, .int .i64 l.nd.op, .int .i64 l.nd.num, .float .f64 l.nd.flt, .string l.nd.str, .slice l.ra l.nd.refs.length l.rc, .slice l.ka l.nd.kids.length l.kc] 52)))
              have HNB4 := Lib.hid (Blk.new w4 52 #[.int .i64 l.nd.kind, .int .i64 l.nd.line, .int .i64 l.nd.op, .int .i64 l.nd.num, .float .f64 l.nd.flt, .string l.nd.str, .slice l.ra l.nd.refs.length l.rc, .slice l.ka l.nd.kids.length l.kc])
              have hgd4 : gd < w4.heap.size := hgl
              clear hl hna hm2 hok hlo3 hsc HT
              go_wp2
              clear c0 c1 c2 c3 c4 c5 c6 c7 hb3 hbel hgl
              go_loopw [33, 280] (fun bv v wx => ∃ (r : Nat) (bad : Bool) (dec' : List Bool), r ≤ l.nd.refs.length ∧ v = .int .i64 r ∧ bv = .bool bad ∧ dec'.length = f.vars.length ∧ Hid ((l.nd.refs.foldl (ref6 l.nd.kind f.vars.length f.ups.length fs.length sc) (false, dec)) = ((l.nd.refs.drop r).foldl (ref6 l.nd.kind f.vars.length f.ups.length fs.length sc) (bad, dec'))) ∧ Hid (T6q w (.slice (some ⟨b, off, none⟩) fs.length c) f w2.heap.size (w2.heap.size + 1) (w2.heap.size + 1 + 1) gd hi S dec' wx) ∧ Hid (Blk wx w4.heap.size 52 #[.int .i64 l.nd.kind, .int .i64 l.nd.line, .int .i64 l.nd.op, .int .i64 l.nd.num, .float .f64 l.nd.flt, .string l.nd.str, .slice l.ra l.nd.refs.length l.rc, .slice l.ka l.nd.kids.length l.kc])) (fun _ v _ => l.nd.refs.length - (intOf v).toNat)
              case atStart => exact ⟨0, false, dec, Nat.zero_le _, rfl, rfl, hdl, Lib.hid rfl, HT4, HNB4⟩
              case round =>
                clear HT4 HNB4 hdl
                obtain ⟨r, bad, dec', hr, rfl, rfl, hdl, HFO, HT, HNB⟩ := hrel
                have hn0 := HNB.out.cell 0
                have hx4 := HT.out.fb.cell 4
                have hx5 := HT.out.fb.cell 5
                have hub := HT.out.fs.ub.cell 0
                have hp10 := HT.out.pb.cell 0
                simp at hn0 hx4 hx5 hub hp10
                have hgl := HT.out.db.lt
                have hfl := HT.out.fb.lt
                have hpl1 := HT.out.pb.lt
                have hnl := HNB.out.lt
                have hul := HT.out.fs.ub.lt
                by_cases hrlt : r < l.nd.refs.length
                · obtain ⟨v, hv⟩ : ∃ v, l.nd.refs[r]? = some v := ⟨_, List.getElem?_eq_getElem hrlt⟩
                  obtain ⟨b5, off5, hra, hlo5, hb5, cr⟩ := rdI_at (HOKN.out.below HT.out.fs.bel) hv
                  have HFO2 : Hid ((l.nd.refs.foldl (ref6 l.nd.kind f.vars.length f.ups.length fs.length sc) (false, dec)) = ((l.nd.refs.drop (r + 1)).foldl (ref6 l.nd.kind f.vars.length f.ups.length fs.length sc) ((ref6 l.nd.kind f.vars.length f.ups.length fs.length sc) (bad, dec') v))) := Lib.hid (by
                    obtain ⟨q1, q2⟩ := List.getElem?_eq_some_iff.1 hv
                    rw [HFO.out, List.drop_eq_getElem_cons q1, q2, List.foldl_cons])
                  rw [hra]
                  rw [hra] at HNB
                  have hri : (r : Int) < l.nd.refs.length := by omega
                  clear hv hra hlo5 HFO
                  have HFO := HFO2
                  clear HFO2
                  by_cases k27 : l.nd.kind = 27
                  · have e27 : (l.nd.kind == 27) = true := by rw [k27]; rfl
                    have K := Lib.hid k27
                    clear k27
                    cases bad with
                    | true =>
                      have HZ : Hid ((l.nd.refs.foldl (ref6 l.nd.kind f.vars.length f.ups.length fs.length sc) (false, dec)) = ((l.nd.refs.drop (r + 1)).foldl (ref6 l.nd.kind f.vars.length f.ups.length fs.length sc) (true, dec'))) := Lib.hid (by rw [HFO.out, ref6_27 K.out, Bool.true_or])
                      clear HFO
                      go_wp2
                      exact ⟨⟨r + 1, true, dec', by omega, by go_num, rfl, hdl, HZ, HT, HNB⟩, by simp [intOf]; omega⟩
                    | false =>
                      by_cases i1 : v < 0
                      · have i1b : decide (v < 0) = true := decide_eq_true i1
                        have HZ : Hid ((l.nd.refs.foldl (ref6 l.nd.kind f.vars.length f.ups.length fs.length sc) (false, dec)) = ((l.nd.refs.drop (r + 1)).foldl (ref6 l.nd.kind f.vars.length f.ups.length fs.length sc) (true, dec'))) := Lib.hid (by rw [HFO.out, ref6_27 K.out, i1b, Bool.true_or, Bool.or_true])
                        clear HFO
                        go_wp2
                        exact ⟨⟨r + 1, true, dec', by omega, by go_num, rfl, hdl, HZ, HT, HNB⟩, by simp [intOf]; omega⟩
                      · have i1b : decide (v < 0) = false := decide_eq_false i1
                        by_cases i2 : (f.ups.length : Int) ≤ v
                        · have i2b : decide ((f.ups.length : Int) ≤ v) = true := decide_eq_true i2
                          have HZ : Hid ((l.nd.refs.foldl (ref6 l.nd.kind f.vars.length f.ups.length fs.length sc) (false, dec)) = ((l.nd.refs.drop (r + 1)).foldl (ref6 l.nd.kind f.vars.length f.ups.length fs.length sc) (true, dec'))) := Lib.hid (by rw [HFO.out, ref6_27 K.out, i2b, Bool.or_true, Bool.or_true])
                          clear HFO
                          go_wp2
                          exact ⟨⟨r + 1, true, dec', by omega, by go_num, rfl, hdl, HZ, HT, HNB⟩, by simp [intOf]; omega⟩
                        · have i2b : decide ((f.ups.length : Int) ≤ v) = false := decide_eq_false i2
                          have HZ : Hid ((l.nd.refs.foldl (ref6 l.nd.kind f.vars.length f.ups.length fs.length sc) (false, dec)) = ((l.nd.refs.drop (r + 1)).foldl (ref6 l.nd.kind f.vars.length f.ups.length fs.length sc) (false, dec'))) := Lib.hid (by rw [HFO.out, ref6_27 K.out, i1b, i2b, Bool.or_false, Bool.or_false])
                          clear HFO
                          go_wp2
                          exact ⟨⟨r + 1, false, dec', by omega, by go_num, rfl, hdl, HZ, HT, HNB⟩, by simp [intOf]; omega⟩
                  · have e27 : (l.nd.kind == 27) = false := beq_eq_false_iff_ne.2 k27
                    by_cases k36 : l.nd.kind = 36
                    · have e36 : (l.nd.kind == 36) = true := by rw [k36]; rfl
                      have K := Lib.hid k36
                      clear k27 k36
                      cases bad with
                      | true =>
                        have HZ : Hid ((l.nd.refs.foldl (ref6 l.nd.kind f.vars.length f.ups.length fs.length sc) (false, dec)) = ((l.nd.refs.drop (r + 1)).foldl (ref6 l.nd.kind f.vars.length f.ups.length fs.length sc) (true, dec'))) := Lib.hid (by rw [HFO.out, ref6_36 K.out, Bool.true_or])
                        clear HFO
                        go_wp2
                        exact ⟨⟨r + 1, true, dec', by omega, by go_num, rfl, hdl, HZ, HT, HNB⟩, by simp [intOf]; omega⟩
                      | false =>
                        by_cases i1 : v < 0
                        · have i1b : decide (v < 0) = true := decide_eq_true i1
                          have HZ : Hid ((l.nd.refs.foldl (ref6 l.nd.kind f.vars.length f.ups.length fs.length sc) (false, dec)) = ((l.nd.refs.drop (r + 1)).foldl (ref6 l.nd.kind f.vars.length f.ups.length fs.length sc) (true, dec'))) := Lib.hid (by rw [HFO.out, ref6_36 K.out, i1b, Bool.true_or, Bool.or_true])
                          clear HFO
                          go_wp2
                          exact ⟨⟨r + 1, true, dec', by omega, by go_num, rfl, hdl, HZ, HT, HNB⟩, by simp [intOf]; omega⟩
                        · have i1b : decide (v < 0) = false := decide_eq_false i1
                          by_cases i2 : (fs.length : Int) ≤ v
                          · have i2b : decide ((fs.length : Int) ≤ v) = true := decide_eq_true i2
                            have HZ : Hid ((l.nd.refs.foldl (ref6 l.nd.kind f.vars.length f.ups.length fs.length sc) (false, dec)) = ((l.nd.refs.drop (r + 1)).foldl (ref6 l.nd.kind f.vars.length f.ups.length fs.length sc) (true, dec'))) := Lib.hid (by rw [HFO.out, ref6_36 K.out, i2b, Bool.or_true, Bool.or_true])
                            clear HFO
                            go_wp2
                            exact ⟨⟨r + 1, true, dec', by omega, by go_num, rfl, hdl, HZ, HT, HNB⟩, by simp [intOf]; omega⟩
                          · have i2b : decide ((fs.length : Int) ≤ v) = false := decide_eq_false i2
                            have HZ : Hid ((l.nd.refs.foldl (ref6 l.nd.kind f.vars.length f.ups.length fs.length sc) (false, dec)) = ((l.nd.refs.drop (r + 1)).foldl (ref6 l.nd.kind f.vars.length f.ups.length fs.length sc) (false, dec'))) := Lib.hid (by rw [HFO.out, ref6_36 K.out, i1b, i2b, Bool.or_false, Bool.or_false])
                            clear HFO
                            go_wp2
                            exact ⟨⟨r + 1, false, dec', by omega, by go_num, rfl, hdl, HZ, HT, HNB⟩, by simp [intOf]; omega⟩
                    · have e36 : (l.nd.kind == 36) = false := beq_eq_false_iff_ne.2 k36
                      have K27 := Lib.hid k27; have K36 := Lib.hid k36
                      clear k27 k36
                      by_cases i1 : v < 0
                      · have i1b : decide (v < 0) = true := decide_eq_true i1
                        have HZ : Hid ((l.nd.refs.foldl (ref6 l.nd.kind f.vars.length f.ups.length fs.length sc) (false, dec)) = ((l.nd.refs.drop (r + 1)).foldl (ref6 l.nd.kind f.vars.length f.ups.length fs.length sc) (true, dec'))) := Lib.hid (by rw [HFO.out, ref6_out K27.out K36.out (.inl i1)])
                        clear HFO
                        go_wp2
                        exact ⟨⟨r + 1, true, dec', by omega, by go_num, rfl, hdl, HZ, HT, HNB⟩, by simp [intOf]; omega⟩
                      · have i1b : decide (v < 0) = false := decide_eq_false i1
                        by_cases i2 : (f.vars.length : Int) ≤ v
                        · have i2b : decide ((f.vars.length : Int) ≤ v) = true := decide_eq_true i2
                          have HZ : Hid ((l.nd.refs.foldl (ref6 l.nd.kind f.vars.length f.ups.length fs.length sc) (false, dec)) = ((l.nd.refs.drop (r + 1)).foldl (ref6 l.nd.kind f.vars.length f.ups.length fs.length sc) (true, dec'))) := Lib.hid (by rw [HFO.out, ref6_out K27.out K36.out (.inr i2)])
                          clear HFO
                          go_wp2
                          exact ⟨⟨r + 1, true, dec', by omega, by go_num, rfl, hdl, HZ, HT, HNB⟩, by simp [intOf]; omega⟩
                        · have i2b : decide ((f.vars.length : Int) ≤ v) = false := decide_eq_false i2
                          have HIR : Hid (¬ (v < 0 ∨ (f.vars.length : Int) ≤ v)) := Lib.hid (by omega)
                          obtain ⟨y, rfl⟩ : ∃ y : Nat, v = y := ⟨v.toNat, by omega⟩
                          have hyl : y < f.vars.length := by omega
                          have hyi : (y : Int) < f.vars.length := by omega
                          have i2c : decide (f.vars.length ≤ y) = false := decide_eq_false (by omega)
                          obtain ⟨d, hd⟩ : ∃ d, dec'[y]? = some d := ⟨_, List.getElem?_eq_getElem (by omega)⟩
                          have HD := Lib.hid hd
                          have cd := HT.out.db.cell hd
                          have fd := HT.out.db.fz y
                          clear hd i1 i2
                          by_cases hdk : declK l.nd.kind = true
                          · have HT2 := Lib.hid (HT.out.set_ y true)
                            have HNB2 := Lib.hid ((But.set (P := fun x => x = gd) (But.refl _ _) (show gd = gd from rfl) y (.bool true)).blk HNB.out (by omega))
                            cases bad with
                            | true =>
                              have HZ : Hid ((l.nd.refs.foldl (ref6 l.nd.kind f.vars.length f.ups.length fs.length sc) (false, dec)) = ((l.nd.refs.drop (r + 1)).foldl (ref6 l.nd.kind f.vars.length f.ups.length fs.length sc) (true, (dec'.set y true)))) := Lib.hid (by rw [HFO.out, ref6_decl K27.out K36.out HIR.out hdk, Bool.true_or, Int.toNat_natCast])
                              clear HFO
                              go_wp2_with (go_at_call 26; refine (idecl_any _ _).mono ?_; rintro e w1 ⟨rfl, rfl⟩)
                              exact ⟨⟨r + 1, true, (dec'.set y true), by omega, by go_num, rfl, by rw [List.length_set]; exact hdl, HZ, HT2, HNB2⟩, by simp [intOf]; omega⟩
                            | false =>
                              have HZ : Hid ((l.nd.refs.foldl (ref6 l.nd.kind f.vars.length f.ups.length fs.length sc) (false, dec)) = ((l.nd.refs.drop (r + 1)).foldl (ref6 l.nd.kind f.vars.length f.ups.length fs.length sc) (d, (dec'.set y true)))) := Lib.hid (by rw [HFO.out, ref6_decl K27.out K36.out HIR.out hdk, Bool.false_or, Int.toNat_natCast, HD.out, Option.getD_some])
                              clear HFO
                              go_wp2_with (go_at_call 26; refine (idecl_any _ _).mono ?_; rintro e w1 ⟨rfl, rfl⟩)
                              exact ⟨⟨r + 1, d, (dec'.set y true), by omega, by go_num, rfl, by rw [List.length_set]; exact hdl, HZ, HT2, HNB2⟩, by simp [intOf]; omega⟩
                          · have hdk2 : declK l.nd.kind = false := Bool.eq_false_iff.2 hdk
                            clear hdk
                            by_cases k26 : l.nd.kind = 26
                            · have e26 : (l.nd.kind == 26) = true := by rw [k26]; rfl
                              have K26 := Lib.hid k26
                              clear k26
                              cases bad with
                              | true =>
                                have HZ : Hid ((l.nd.refs.foldl (ref6 l.nd.kind f.vars.length f.ups.length fs.length sc) (false, dec)) = ((l.nd.refs.drop (r + 1)).foldl (ref6 l.nd.kind f.vars.length f.ups.length fs.length sc) (true, dec'))) := Lib.hid (by rw [HFO.out, ref6_26 HIR.out K26.out, Bool.true_or])
                                clear HFO
                                go_wp2_with (go_at_call 26; refine (idecl_any _ _).mono ?_; rintro e w1 ⟨rfl, rfl⟩)
                                exact ⟨⟨r + 1, true, dec', by omega, by go_num, rfl, hdl, HZ, HT, HNB⟩, by simp [intOf]; omega⟩
                              | false =>
                                obtain ⟨cells, hcb, hcl, hcs⟩ := HT.out.sm
                                obtain ⟨u, hu⟩ : ∃ u, cells[q]? = some u := ⟨_, List.getElem?_eq_getElem (by have := HSL.out; omega)⟩
                                have hci := hcs q sc u HSC.out hu
                                have hlook := look56 hci (y : Int)
                                have cu : wr.cell? ⟨w2.heap.size + 1, q, none⟩ = some u := by rw [hcb.cell]; simpa using hu
                                clear hcb hcl hcs hu hci
                                have HZ : Hid ((l.nd.refs.foldl (ref6 l.nd.kind f.vars.length f.ups.length fs.length sc) (false, dec)) = ((l.nd.refs.drop (r + 1)).foldl (ref6 l.nd.kind f.vars.length f.ups.length fs.length sc) ((!look6 sc (y : Int)), dec'))) := Lib.hid (by rw [HFO.out, ref6_26 HIR.out K26.out, Bool.false_or])
                                clear HFO
                                go_wp2_with (go_at_call 26; refine (idecl_any _ _).mono ?_; rintro e w1 ⟨rfl, rfl⟩)
                                exact ⟨⟨r + 1, (!look6 sc (y : Int)), dec', by omega, by go_num, rfl, hdl, HZ, HT, HNB⟩, by simp [intOf]; omega⟩
                            · have e26 : (l.nd.kind == 26) = false := beq_eq_false_iff_ne.2 k26
                              have K26 := Lib.hid k26
                              clear k26
                              have HZ : Hid ((l.nd.refs.foldl (ref6 l.nd.kind f.vars.length f.ups.length fs.length sc) (false, dec)) = ((l.nd.refs.drop (r + 1)).foldl (ref6 l.nd.kind f.vars.length f.ups.length fs.length sc) (bad, dec'))) := Lib.hid (by rw [HFO.out, ref6_else K27.out K36.out HIR.out hdk2 K26.out])
                              clear HFO
                              go_wp2_with (go_at_call 26; refine (idecl_any _ _).mono ?_; rintro e w1 ⟨rfl, rfl⟩)
                              exact ⟨⟨r + 1, bad, dec', by omega, by go_num, rfl, hdl, HZ, HT, HNB⟩, by simp [intOf]; omega⟩
                · have HE : Hid ((l.nd.refs.foldl (ref6 l.nd.kind f.vars.length f.ups.length fs.length sc) (false, dec)) = (bad, dec')) := Lib.hid (by rw [HFO.out, List.drop_of_length_le (by omega)]; rfl)
                  cases bad with
                  | true =>
                    have HQ : Hid (G6 (fs.map LF.fd) = (6, (p : Int), (q : Int))) := Lib.hid (by unfold G6; rw [HB.out, HM.out, loop2_bad (n := q) (by rw [HIN.out, HLS.out, HM2.out, loopS_bad (by rw [HST.out, HE.out]; rfl)])])
                    obtain ⟨r0, r1, r2⟩ := box3 HT.out.fs.rb
                    have g0 := HT.out.fs.rb.frozen 0
                    have g1 := HT.out.fs.rb.frozen 1
                    have g2 := HT.out.fs.rb.frozen 2
                    have hbel := HT.out.fs.bel
                    go_wp2
                    refine bodyPost_ret (by simp [results, Try.results8, go_sem, *]; rfl) rfl ?_
                    exact ⟨by rw [HQ.out]; rfl, (by (repeat (first | with_reducible assumption | with_reducible exact Below.refl _ _ | with_reducible refine Below.drew ?_ | with_reducible refine bl_drewN _ ?_ | ((with_reducible refine bl_alloc ?_ _ ?_); · (first | omega | (simp; done) | (simp; omega))) | ((with_reducible refine bl_set ?_ _ ?_); · (first | omega | (simp; done) | (simp; omega))))))⟩
                  | false =>
                    go_wp2
                    exact ⟨⟨q + 1, dec', by omega, by go_num, hdl, Lib.hid (by rw [HLS.out, HM2.out, loopS_ok (s' := dec') (by rw [HST.out, HE.out]; rfl), show f.ns.length - (q + 1) = m2 by have := HM2.out; omega]), HT⟩, by simp [intOf]; omega⟩
            · have hqq : q = f.ns.length := by omega
              have HNX : Hid (P6p (fs.map LF.fd) = loop2 (in6p (fs.map LF.fd)) (p + 1) (fs.length - (p + 1)) ()) := Lib.hid (by rw [HB.out, HM.out, loop2_ok (s' := ()) (by rw [HIN.out, HLS.out, hqq, Nat.sub_self]; rfl), show fs.length - (p + 1) = m by have := HM.out; omega])
              go_wp2
              exact ⟨⟨p + 1, by omega, by go_num, HNX, Lib.hid HT.out.fs⟩, by simp [intOf]; omega⟩
    · have HPI : Hid (P6p (fs.map LF.fd) = .inl ()) := Lib.hid (by rw [HB.out, show fs.length - p = 0 by omega]; rfl)
      have HG : Hid (G6 (fs.map LF.fd) = G7 (fs.map LF.fd)) := Lib.hid (by unfold G6; rw [HPI.out])
      have HREF : Hid (∀ f ∈ fs, ∀ (n : Nat) (l : LN), f.ns[n]? = some l → l.nd.kind = 36 → 0 < l.nd.refs.length ∧ 0 ≤ ref0 l.nd ∧ ref0 l.nd < fs.length) := Lib.hid (fun f hf n l hl hk => by
        obtain ⟨i, hi⟩ := List.getElem?_of_mem hf
        have hr := (HO.out f hf).ok.rf l (List.mem_of_getElem? hl) (.inr hk)
        have e1 : ndAt (fdAt (fs.map LF.fd) i).nodes n = l.nd := by rw [fd_at hi]; exact nd_atD hl
        have := P6p_ref HPI.out i (by rw [List.length_map]; exact (List.getElem?_eq_some_iff.1 hi).1) n (by rw [len_at hi]; exact (List.getElem?_eq_some_iff.1 hl).1) (by rw [e1]; exact hk) (by rw [e1]; exact hr)
        rw [e1, List.length_map] at this
        exact ⟨hr, this.1, this.2⟩)
      go_wp2
      have hend := ph7 A c fs w lo _ HS.out hn HR.out hlo HO.out HREF.out
      rw [← HG.out] at hend
      refine HK0.out _ _ ?_
      exact hend _ _ _ _ _ _ _ _ _ _ _ _ _ _ _ _ _ _ _ _ _ _ _ _ _ _ _ _ _ _ _ _ _ _ _ _ _ _ _ _ _ _ _ _ _ _ _ _ _ _ _ _ _ _ _ _ _ _ _ _ _ _ _ _ _ _ _ _ _ _ _ _ _ _ _ _ _ _ _ _ _ _ _ _ _ _ _ _ _ _ _ _ _ _ _ _ _ _ _ _ _ _ _ _ _ _ _ _ _ _ _ _ _ _ _ _ _ _ _ _ _ _ _ _ _ _ _ _ _ _ _ _ _ _ _ _ _ _ _ _ _ _ _ _ _ _ _ _ _ _ _ _ _ _ _ _ _ _ _ _ _ _ _ _ _ _ _ _ _ _ _ _ _ _ _ _ _ _ _ _ _ _ _ _ _ _ _ _ _ _ _ _ _ _ _ _ _ _ _ _ _ _ _ _ _ _ _ _ _ _ _ _ _ _ _ _ _ _ _ _ _ _ _ _ _ _ _ _ _ _ _ _ _ _ _ _ _ _ _ _ _ _ _ _ _ _ _ _ _ _ _ _ _ _ _ _ _ _ _ _ _ _ _ _ _ _ _ _ _ _ _ _ _ _ _ _ _ _ _ _ _ _ _ _ _ _ _ _ _ _ _ _ _ _ _ _ _ _ _ _ _ _ _ _ _ _ _ _ _ _ _ _ _ _ _ _ _ _ _ _ _ _ _ _ _ _ _ _ _ _ _ _ _ _ _ _ _ _ _ _ _ _ _ _ _ _ _ _ _ _ _ _ _ _ _ _ _ _ _ _ _ _ _ _ _ _ _ _ _ _ _ _ _ _ _ _ _ _ _ _ _ _ _ _ _ _ _ _ _ _ _ _ _ _ _ _ _ _ _ _ _ _ _ _ _ _ _ _ _ _ _ _ _ _ _ _ _ _ _ _ _ _ _ _ _ _ _ _ _ _ _ _ _ _ _ _ _ _ _ _ _ _ _ _ _ _ _ _ _ _ _ _ _ _ _ _ _ _ _ _ _ _ _ _ _ _ _ _ _ _ _ _ rfl
end Go.Proofs.Ytcpjplkbmflglaa
