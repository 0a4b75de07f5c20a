/- A map keyed by values: equality of values, look-up, entry. -/
import Derived.Test.YtchlolfdinakiaaP5
import Derived.Laws.StructEq
import Derived.Laws.Tables
import Derived.Carry
namespace Go.Proofs.Ytchlolfdinakiaa
open Go.RowKit
attribute [local go_sem] run_store_float

theorem veq_comm (k n : Int) (f : Nat) (s : ByteArray) (r : Int) (k' n' : Int) (f' : Nat) (s' : ByteArray) (r' : Int) : veq k n f s r k' n' f' s' r' = veq k' n' f' s' r' k n f s r := by
  have hf : (FloatKind.f64.format.order f f' == some .eq) = (FloatKind.f64.format.order f' f == some .eq) := by
    show (Flt.F.order f f' == _) = (Flt.F.order f' f == _)
    rcases Flt.cases_fin f with ⟨v, h⟩ | ⟨s, h⟩ | ⟨s, t, h⟩
    · rcases Flt.cases_fin f' with ⟨v', h'⟩ | ⟨s', h'⟩ | ⟨s', t', h'⟩
      · rw [Flt.fin_order h h', Flt.fin_order h' h]
        rcases Flt.cmp_cases v v' with ⟨g, e⟩ | ⟨g, e⟩ | ⟨g, e⟩
        · rw [e, Flt.cmp_gt g]; rfl
        · subst g; rfl
        · rw [e, Flt.cmp_lt g]; rfl
      · rw [Flt.order_inf_fin h' h]
        obtain ⟨t, m, e, g1, _⟩ := h
        unfold Ieee.Format.order
        rw [h', g1]
        cases s' <;> rfl
      · rw [Flt.order_nan h', Flt.order_nan' h']
    · rcases Flt.cases_fin f' with ⟨v', h'⟩ | ⟨s', h'⟩ | ⟨s', t', h'⟩
      · rw [Flt.order_inf_fin h h']
        obtain ⟨t, m, e, g1, _⟩ := h'
        unfold Ieee.Format.order
        rw [h, g1]
        cases s <;> rfl
      · unfold Ieee.Format.order
        rw [h, h']
        cases s <;> cases s' <;> rfl
      · rw [Flt.order_nan h', Flt.order_nan' h']
    · rw [Flt.order_nan h, Flt.order_nan' h]
  unfold veq
  rw [hf]
  congr 1
  · congr 1
    · congr 1
      congr 1
      · rw [Bool.eq_iff_iff]; simp; exact eq_comm
      · rw [Bool.eq_iff_iff]; simp; exact eq_comm
    · simp only [decide_eq_decide]; exact eq_comm
  · rw [Bool.eq_iff_iff]; simp; exact eq_comm

/-- A key as Go's value. -/
def kv (p : Pr) : Value := .agg #[.int .i64 p.kk, .int .i64 p.kn, .float .f64 p.kf, .string p.ks, .int .i64 p.kr]

theorem run_equalIn_float (d : Nat) (a b : Nat) (w : World) : (Op.equalIn (d + 1) 23 (.float .f64 a) (.float .f64 b)).run Try.prog w = .ok (FloatKind.f64.format.order a b == some .eq) w := by
  simp [Op.equalIn, run_underlying Try.underlying23, Op.floatEq]
theorem eq28 (k n r k' n' r' : Int) (f f' : Nat) (s s' : ByteArray) (w : World) : (Op.equalIn 10000 28 (.agg #[.int .i64 k, .int .i64 n, .float .f64 f, .string s, .int .i64 r]) (.agg #[.int .i64 k', .int .i64 n', .float .f64 f', .string s', .int .i64 r'])).run Try.prog w = .ok (veq k n f s r k' n' f' s' r') w := by
  have u3 := Try.underlying3
  have u2 := Try.underlying2
  have u9 := Try.underlying9
  have a3 := Try.isAgg3
  have z3 := Try.sizeOf3
  have a2 := Try.isAgg2
  have z2 := Try.sizeOf2
  have a9 := Try.isAgg9
  have z9 := Try.sizeOf9
  have a23 := Try.isAgg23
  have z23 := Try.sizeOf23
  have hfl := run_equalIn_float 9998 f f'
  have hS : Try.prog.underlying 28 = some (.struct (Try.prog.fieldsOf 28)) := by kernel_rfl
  rw [show (10000 : Nat) = 9999 + 1 from rfl, run_equalIn_agg w 9999 28 _ _ hS (by kernel_rfl)]
  simp only [Program.fieldsOf, Try.underlying28]
  go_simp
  unfold veq
  by_cases h1 : k = k' <;> by_cases h2 : n = n' <;> by_cases h3 : FloatKind.f64.format.order f f' = some Ordering.eq <;> by_cases h4 : s.toList = s'.toList <;> by_cases h5 : r = r' <;> simp [h1, h2, h3, h4, h5]

theorem ck_plain {P : Program} (e : Bool) (n : Nat) (t : TypeId) (d : TypeDesc) (v : Value) (h : P.underlying t = some d) (h1 : ∀ m, d ≠ .interface m) (h2 : ∀ a b, d ≠ .array a b) (h3 : ∀ f, d ≠ .struct f) (W : World) : (Instr.checkKey e (n + 1) t v).run P W = .ok () W := by
  rw [Instr.checkKey]
  simp only [Sem.run_bind, run_underlying h, Result.andThen_ok]
  split <;> simp_all
theorem check28 (e : Bool) (k n r : Int) (f : Nat) (s : ByteArray) (w : World) : (Instr.checkKey e 10000 28 (.agg #[.int .i64 k, .int .i64 n, .float .f64 f, .string s, .int .i64 r])).run Try.prog w = .ok () w := by
  have a3 := Try.isAgg3
  have z3 := Try.sizeOf3
  have a2 := Try.isAgg2
  have z2 := Try.sizeOf2
  have a9 := Try.isAgg9
  have z9 := Try.sizeOf9
  have a23 := Try.isAgg23
  have z23 := Try.sizeOf23
  have c3 : ∀ (x : Int) (W : World), (Instr.checkKey e 9999 3 (.int .i64 x)).run Try.prog W = .ok () W := fun x W => ck_plain e 9998 3 _ _ Try.underlying3 (fun _ => by simp) (fun _ _ => by simp) (fun _ => by simp) W
  have c2 : ∀ (x : Int) (W : World), (Instr.checkKey e 9999 2 (.int .i64 x)).run Try.prog W = .ok () W := fun x W => ck_plain e 9998 2 _ _ Try.underlying2 (fun _ => by simp) (fun _ _ => by simp) (fun _ => by simp) W
  have c23 : ∀ (x : Nat) (W : World), (Instr.checkKey e 9999 23 (.float .f64 x)).run Try.prog W = .ok () W := fun x W => ck_plain e 9998 23 _ _ Try.underlying23 (fun _ => by simp) (fun _ _ => by simp) (fun _ => by simp) W
  have c9 : ∀ (x : ByteArray) (W : World), (Instr.checkKey e 9999 9 (.string x)).run Try.prog W = .ok () W := fun x W => ck_plain e 9998 9 _ _ Try.underlying9 (fun _ => by simp) (fun _ _ => by simp) (fun _ => by simp) W
  rw [show (10000 : Nat) = 9999 + 1 from rfl, Instr.checkKey]
  simp only [Sem.run_bind, run_underlying Try.underlying28, Result.andThen_ok]
  rw [← Array.forIn_toList]
  go_simp

/-- The entries of a map that holds these keys, each true. -/
def Keys : List MapEntry → List Pr → Prop
  | [], [] => True
  | e :: es, q :: qs => e.key = kv q ∧ e.val = .bool true ∧ Keys es qs
  | _, _ => False
theorem Keys.push {es : List MapEntry} {qs : List Pr} (h : Keys es qs) (e : MapEntry) (q : Pr) (h1 : e.key = kv q) (h2 : e.val = .bool true) : Keys (es ++ [e]) (qs ++ [q]) := by
  induction es generalizing qs with
  | nil => cases qs with
    | nil => exact ⟨h1, h2, trivial⟩
    | cons q qs => exact h.elim
  | cons a es ih => cases qs with
    | nil => exact h.elim
    | cons b qs => exact ⟨h.1, h.2.1, ih h.2.2⟩

theorem find28 (p : Pr) (w : World) : ∀ (es : List MapEntry) (qs : List Pr) (i : Nat), Keys es qs →
    (dup qs p = false → (Instr.findAsking 28 (kv p) es i).run Try.prog w = .ok none w) ∧ (dup qs p = true → ∃ j, (Instr.findAsking 28 (kv p) es i).run Try.prog w = .ok (some (j, .bool true)) w)
  | [], [], i, _ => ⟨fun _ => by simp [Instr.findAsking], fun h => by simp [dup] at h⟩
  | [], _ :: _, _, h => h.elim
  | _ :: _, [], _, h => h.elim
  | e :: es, q :: qs, i, h => by
    obtain ⟨h1, h2, h3⟩ := h
    have ih := find28 p w es qs (i + 1) h3
    have he := eq28 p.kk p.kn p.kr q.kk q.kn q.kr p.kf q.kf p.ks q.ks w
    rw [veq_comm] at he
    have he' : (Op.equal 28 (kv p) e.key).run Try.prog w = .ok (veq q.kk q.kn q.kf q.ks q.kr p.kk p.kn p.kf p.ks p.kr) w := by rw [h1]; exact he
    have hd : dup (q :: qs) p = (veq q.kk q.kn q.kf q.ks q.kr p.kk p.kn p.kf p.ks p.kr || dup qs p) := rfl
    rw [hd]
    cases hv : veq q.kk q.kn q.kf q.ks q.kr p.kk p.kn p.kf p.ks p.kr
    · rw [hv] at he'
      refine ⟨fun h => ?_, fun h => ?_⟩
      · simp [Instr.findAsking, he', ih.1 (by simpa using h)]
      · obtain ⟨j, hj⟩ := ih.2 (by simpa using h)
        exact ⟨j, by simp [Instr.findAsking, he', hj]⟩
    · rw [hv] at he'
      refine ⟨fun h => by simp at h, fun _ => ⟨i, by simp [Instr.findAsking, he', h2]⟩⟩

theorem findNow_struct (p : Pr) (fs : Array Field) (es : List MapEntry) (i : Nat) : Instr.findNow (.struct fs) (kv p) es i = none ∨ (es = [] ∧ Instr.findNow (.struct fs) (kv p) es i = some none) := by
  cases es with
  | nil => exact .inr ⟨rfl, rfl⟩
  | cons e es => exact .inl rfl
theorem findKey28 (p : Pr) (w : World) (es : List MapEntry) (qs : List Pr) (h : Keys es qs) :
    (dup qs p = false → (Instr.findKey 28 (kv p) es).run Try.prog w = .ok none w) ∧ (dup qs p = true → ∃ j, (Instr.findKey 28 (kv p) es).run Try.prog w = .ok (some (j, .bool true)) w) := by
  have hf := find28 p w es qs 0 h
  unfold Instr.findKey
  simp only [Sem.run_bind, run_underlying Try.underlying28, Result.andThen_ok]
  rcases findNow_struct p _ es 0 with hn | ⟨he, hn⟩
  · rw [hn]; exact hf
  · rw [hn]
    subst he
    cases qs with
    | nil => exact ⟨fun _ => rfl, fun h => by simp [dup] at h⟩
    | cons q qs => exact h.elim

/-- Block g is the map of these keys. -/
def MapIs (w : World) (g : Nat) (qs : List Pr) : Prop := ∃ es clock, w.heap[g]? = some (.map es clock) ∧ Keys es.toList qs

theorem zero4 (w : World) : (zeroValue 4).run Try.prog w = .ok (.bool false) w := by kernel_rfl

theorem look93 {w : World} {g : Nat} {qs : List Pr} (h : MapIs w g qs) (p : Pr) : (Instr.lookup 93 (.map (some g)) (.agg #[.int .i64 p.kk, .int .i64 p.kn, .float .f64 p.kf, .string p.ks, .int .i64 p.kr]) false).run Try.prog w = .ok (.bool (dup qs p)) w := by
  obtain ⟨es, clock, hg, hk⟩ := h
  have hf := findKey28 p w es.toList qs hk
  have hc := fun e => check28 e p.kk p.kn p.kr p.kf p.ks w
  unfold Instr.lookup
  simp only [Sem.run_bind, run_underlying Try.underlying93, Result.andThen_ok]
  have hobj : (getObj g).run Try.prog w = .ok (.map es clock) w := by simp [getObj, Sem.run, hg]
  simp only [hobj, Result.andThen_ok]
  simp only [Sem.run_bind, Sem.run_pure, Result.andThen_ok, hc]
  cases hd : dup qs p
  · have h1 := hf.1 hd
    unfold kv at h1
    simp only [h1, Result.andThen_ok, zero4, Sem.run_bind, Sem.run_pure]
    rfl
  · obtain ⟨j, h1⟩ := hf.2 hd
    unfold kv at h1
    simp only [h1, Result.andThen_ok]
    rfl

/-- Only block g has turned. -/
structure Only (g : Nat) (w w' : World) : Prop where
  os : w'.os = w.os
  tape : w'.tape = w.tape
  output : w'.output = w.output
  size : w'.heap.size = w.heap.size
  block : ∀ k, k ≠ g → w'.heap[k]? = w.heap[k]?
theorem Only.below {g B : Nat} {w w' : World} (h : Only g w w') (hB : B ≤ g) : Below B w w' := ⟨h.os, h.tape, h.output, Nat.le_of_eq h.size.symm, fun k hk => h.block k (by omega)⟩

theorem upd93 {w : World} {g : Nat} {qs : List Pr} (h : MapIs w g qs) (p : Pr) (hd : dup qs p = false) : ∃ w', (Instr.mapUpdate 93 (.map (some g)) (.agg #[.int .i64 p.kk, .int .i64 p.kn, .float .f64 p.kf, .string p.ks, .int .i64 p.kr]) (.bool true)).run Try.prog w = .ok () w' ∧ MapIs w' g (qs ++ [p]) ∧ Only g w w' := by
  obtain ⟨es, clock, hg, hk⟩ := h
  have hf := (findKey28 p w es.toList qs hk).1 hd
  have hc := fun e => check28 e p.kk p.kn p.kr p.kf p.ks w
  have hlt : g < w.heap.size := (Array.getElem?_eq_some_iff.1 hg).1
  have hobj : (getObj g).run Try.prog w = .ok (.map es clock) w := by simp [getObj, Sem.run, hg]
  unfold kv at hf
  refine ⟨{ w with heap := w.heap.setIfInBounds g (.map (es.push { key := kv p, val := .bool true, born := clock }) (clock + 1)) }, ?_, ⟨_, _, Array.getElem?_setIfInBounds_self_of_lt hlt, ?_⟩, rfl, rfl, rfl, by simp, fun k hk => Array.getElem?_setIfInBounds_ne (Ne.symm hk)⟩
  · unfold Instr.mapUpdate
    simp only [Sem.run_bind, run_underlying Try.underlying93, Result.andThen_ok]
    simp only [hobj, Result.andThen_ok]
    simp only [Sem.run_bind, Result.andThen_ok, hc, hf]
    simp [setObj, Sem.run, hg, kv]
  · rw [Array.toList_push]
    exact hk.push _ _ rfl rfl

end Go.Proofs.Ytchlolfdinakiaa
