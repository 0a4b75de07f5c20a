/- Plain law: what is heard of told bytes. No program in sight. -/
import Derived.Test.YtchlolfdinakiaaDoorH3
import Derived.Test.YtchlolfdinakiaaDoorE10
namespace Go.Proofs.YtchlolfdinakiaaDoor
open Go.RowKit

/-- If the bytes are those of some report, the reader stands well: ahead of it lies what 'tail' says, and what it has read is as 'cond' says. -/
def Trk (l : List UInt8) (p : Nat) (bad : Bool) (tail : Rp → List UInt8) (cond : Rp → Prop) : Prop := ∀ r, okRp r → tellB r = l → bad = false ∧ l.drop p = tail r ∧ cond r
theorem Trk.num {l : List UInt8} {p p' : Nat} {bad bad' : Bool} {tail : Rp → List UInt8} {cond : Rp → Prop} {n : Int} (f : Rp → Int) (tail' : Rp → List UInt8) (h : Trk l p bad tail cond) (hr : NumRd l p bad n p' bad') (hf : ∀ r, okRp r → tellB r = l → cond r → i64 (f r) ∧ tail r = numB (f r) ++ tail' r) :
    Trk l p' bad' tail' (fun r => cond r ∧ n = f r) := fun r hok ht => by
  obtain ⟨h1, h2, h3⟩ := h r hok ht
  obtain ⟨hi, he⟩ := hf r hok ht h3
  obtain ⟨a, b, c⟩ := hr.2.2.2.2.2 (f r) (tail' r) hi (by rw [h2, he])
  refine ⟨by rw [c, h1], ?_, h3, a⟩
  rw [b, ← List.drop_drop, h2, he, List.drop_left]
theorem Trk.text {l : List UInt8} {p p' : Nat} {bad bad' : Bool} {tail : Rp → List UInt8} {cond : Rp → Prop} {s : ByteArray} (f : Rp → ByteArray) (tail' : Rp → List UInt8) (h : Trk l p bad tail cond) (hr : TextRd l p bad s p' bad') (hf : ∀ r, okRp r → tellB r = l → cond r → tail r = textB (f r) ++ tail' r) :
    Trk l p' bad' tail' (fun r => cond r ∧ s = f r) := fun r hok ht => by
  obtain ⟨h1, h2, h3⟩ := h r hok ht
  have he := hf r hok ht h3
  obtain ⟨a, b, c⟩ := hr.2.2.2.2.2 (f r) (tail' r) h1 (by rw [h2, he])
  refine ⟨c, ?_, h3, a⟩
  rw [b, ← List.drop_drop, h2, he, List.drop_left]
theorem Trk.mono {l : List UInt8} {p : Nat} {bad : Bool} {tail tail' : Rp → List UInt8} {cond cond' : Rp → Prop} (h : Trk l p bad tail cond) (hc : ∀ r, okRp r → tellB r = l → cond r → cond' r ∧ tail r = tail' r) : Trk l p bad tail' cond' := fun r hok ht => by
  obtain ⟨h1, h2, h3⟩ := h r hok ht
  obtain ⟨a, b⟩ := hc r hok ht h3
  exact ⟨h1, by rw [h2, b], a⟩

/-- What still lies ahead. -/
def tl4 (r : Rp) : List UInt8 := textB r.trace
def tl3 (r : Rp) : List UInt8 := textB r.err ++ tl4 r
def tlV (k : Nat) (r : Rp) : List UInt8 := (r.vals.drop k).flatMap textB ++ tl3 r
def tl2 (r : Rp) : List UInt8 := numB r.vals.length ++ tlV 0 r
def tlR (k : Nat) (r : Rp) : List UInt8 := (r.recs.drop k).flatMap recB ++ tl2 r
def tl1 (r : Rp) : List UInt8 := numB r.recs.length ++ tlR 0 r
def tlM (r : Rp) : List UInt8 := numB r.made ++ tl1 r
def tlT (r : Rp) : List UInt8 := numB r.ticks ++ tlM r
def tlC (r : Rp) : List UInt8 := numB r.code ++ tlT r
theorem tlC_tell (r : Rp) : tellB r = tlC r := by
  unfold tellB valsB recsB headB tlC tlT tlM tl1 tlR tl2 tlV tl3 tl4
  simp [List.append_assoc]
theorem trk_start (l : List UInt8) : Trk l 0 false tlC (fun _ => True) := fun r _ ht => ⟨rfl, by rw [List.drop_zero, ← ht, tlC_tell], trivial⟩
/-- The record that comes next. -/
def nx (k : Nat) (r : Rp) : Rc := r.recs.getD k ⟨0, 0, 0, 0, ⟨#[]⟩⟩
def nv (k : Nat) (r : Rp) : ByteArray := r.vals.getD k ⟨#[]⟩
theorem nx_at {k : Nat} {r : Rp} (h : k < r.recs.length) : r.recs[k]? = some (nx k r) := by
  unfold nx; rw [List.getD_eq_getElem?_getD, List.getElem?_eq_getElem h]; rfl
theorem nv_at {k : Nat} {r : Rp} (h : k < r.vals.length) : r.vals[k]? = some (nv k r) := by
  unfold nv; rw [List.getD_eq_getElem?_getD, List.getElem?_eq_getElem h]; rfl
theorem tlR_step {k : Nat} {r : Rp} (h : k < r.recs.length) : tlR k r = numB (nx k r).kind ++ (numB (nx k r).task ++ (numB (nx k r).fn ++ (numB (nx k r).line ++ (textB (nx k r).text ++ tlR (k + 1) r)))) := by
  have hx := nx_at h
  rw [List.getElem?_eq_getElem h] at hx
  injection hx with hx
  unfold tlR
  rw [List.drop_eq_getElem_cons h, List.flatMap_cons, hx]
  unfold recB
  simp [List.append_assoc]
theorem tlV_step {k : Nat} {r : Rp} (h : k < r.vals.length) : tlV k r = textB (nv k r) ++ tlV (k + 1) r := by
  have hx := nv_at h
  rw [List.getElem?_eq_getElem h] at hx
  injection hx with hx
  unfold tlV
  rw [List.drop_eq_getElem_cons h, List.flatMap_cons, hx, List.append_assoc]
theorem tlR_end {k : Nat} {r : Rp} (h : r.recs.length ≤ k) : tlR k r = tl2 r := by
  unfold tlR; rw [List.drop_eq_nil_of_le h]; rfl
theorem tlV_end {k : Nat} {r : Rp} (h : r.vals.length ≤ k) : tlV k r = tl3 r := by
  unfold tlV; rw [List.drop_eq_nil_of_le h]; rfl

/-- What has been heard of the head. -/
def HC (code ticks made : Int) (r : Rp) : Prop := code = r.code ∧ ticks = r.ticks ∧ made = r.made
/-- .. and of k records, n still to come. -/
def HR (code ticks made : Int) (ps : List Rc) (n : Int) (r : Rp) : Prop := HC code ticks made r ∧ ps = r.recs.take ps.length ∧ n = (r.recs.length : Int) - ps.length ∧ ps.length ≤ r.recs.length
def HV (code ticks made : Int) (ps : List Rc) (vs : List ByteArray) (n : Int) (r : Rp) : Prop := HC code ticks made r ∧ ps = r.recs ∧ vs = r.vals.take vs.length ∧ n = (r.vals.length : Int) - vs.length ∧ vs.length ≤ r.vals.length

theorem trk_head {l : List UInt8} {p1 p2 p3 p4 : Nat} {b1 b2 b3 b4 : Bool} {code ticks made n : Int} (h1 : NumRd l 0 false code p1 b1) (h2 : NumRd l p1 b1 ticks p2 b2) (h3 : NumRd l p2 b2 made p3 b3) (h4 : NumRd l p3 b3 n p4 b4) : Trk l p4 b4 (tlR 0) (HR code ticks made [] n) := by
  have t1 := (trk_start l).num (fun r => r.code) tlT h1 (fun r hok _ _ => ⟨hok.1, rfl⟩)
  have t2 := t1.num (fun r => r.ticks) tlM h2 (fun r hok _ _ => ⟨hok.2.1, rfl⟩)
  have t3 := t2.num (fun r => r.made) tl1 h3 (fun r hok _ _ => ⟨hok.2.2.1, rfl⟩)
  have t4 := t3.num (fun r => (r.recs.length : Int)) (tlR 0) h4 (fun r hok _ _ => by
    have := hok.2.2.2.2.2.2.2.1
    exact ⟨⟨by omega, by omega⟩, rfl⟩)
  refine t4.mono fun r hok _ hc => ⟨⟨⟨hc.1.1.1.2, hc.1.1.2, hc.1.2⟩, rfl, by rw [hc.2]; simp, Nat.zero_le _⟩, rfl⟩
theorem trk_rec {l : List UInt8} {p0 p1 p2 p3 p4 p5 : Nat} {b0 b1 b2 b3 b4 b5 : Bool} {code ticks made n : Int} {ps : List Rc} {x : Rc} (h : Trk l p0 b0 (tlR ps.length) (HR code ticks made ps n)) (hn : 0 < n)
    (h1 : NumRd l p0 b0 x.kind p1 b1) (h2 : NumRd l p1 b1 x.task p2 b2) (h3 : NumRd l p2 b2 x.fn p3 b3) (h4 : NumRd l p3 b3 x.line p4 b4) (h5 : TextRd l p4 b4 x.text p5 b5) : Trk l p5 b5 (tlR (ps.length + 1)) (HR code ticks made (ps ++ [x]) (n - 1)) := by
  have ok : ∀ r, okRp r → HR code ticks made ps n r → ps.length < r.recs.length ∧ okRc (nx ps.length r) := fun r hok hc => by
    have hlt : ps.length < r.recs.length := by have := hc.2.2.1; omega
    exact ⟨hlt, hok.2.2.2.1 _ (List.mem_of_getElem? (nx_at hlt))⟩
  have t1 := h.num (fun r => (nx ps.length r).kind) _ h1 (fun r hok _ hc => ⟨(ok r hok hc).2.1, tlR_step (ok r hok hc).1⟩)
  have t2 := t1.num (fun r => (nx ps.length r).task) _ h2 (fun r hok _ hc => ⟨(ok r hok hc.1).2.2.1, rfl⟩)
  have t3 := t2.num (fun r => (nx ps.length r).fn) _ h3 (fun r hok _ hc => ⟨(ok r hok hc.1.1).2.2.2.1, rfl⟩)
  have t4 := t3.num (fun r => (nx ps.length r).line) _ h4 (fun r hok _ hc => ⟨(ok r hok hc.1.1.1).2.2.2.2.1, rfl⟩)
  have t5 := t4.text (fun r => (nx ps.length r).text) _ h5 (fun r hok _ hc => rfl)
  refine t5.mono fun r hok _ hc => ?_
  obtain ⟨⟨⟨⟨⟨hc0, e1⟩, e2⟩, e3⟩, e4⟩, e5⟩ := hc
  have hlt := (ok r hok hc0).1
  obtain ⟨a, b, c, d⟩ := hc0
  refine ⟨⟨a, ?_, by simp; omega, by simp; omega⟩, rfl⟩
  have hx : x = nx ps.length r := by
    obtain ⟨x1, x2, x3, x4, x5⟩ := x
    simp only at e1 e2 e3 e4 e5
    rw [e1, e2, e3, e4, e5]
  rw [List.length_append, List.length_singleton, List.take_add_one, nx_at hlt, ← b, hx]; rfl
theorem trk_mid {l : List UInt8} {p0 p1 : Nat} {b0 b1 : Bool} {code ticks made n n1 : Int} {ps : List Rc} (h : Trk l p0 b0 (tlR ps.length) (HR code ticks made ps n)) (hn : n ≤ 0 ∨ b0 = true) (h1 : NumRd l p0 b0 n1 p1 b1) : Trk l p1 b1 (tlV 0) (HV code ticks made ps [] n1) := by
  have t0 : Trk l p0 b0 tl2 (fun r => HC code ticks made r ∧ ps = r.recs) := fun r hok ht => by
    obtain ⟨a, b, c, d, e, f⟩ := h r hok ht
    have hlen : r.recs.length = ps.length := by
      rcases hn with hn | hn
      · omega
      · rw [a] at hn; cases hn
    refine ⟨a, by rw [b, tlR_end (by omega)], c, ?_⟩
    rw [← hlen, List.take_length] at d
    exact d
  have t1 := t0.num (fun r => (r.vals.length : Int)) (tlV 0) h1 (fun r hok _ _ => by
    have := hok.2.2.2.2.2.2.2.2
    exact ⟨⟨by omega, by omega⟩, rfl⟩)
  exact t1.mono fun r hok _ hc => ⟨⟨hc.1.1, hc.1.2, rfl, by rw [hc.2]; simp, Nat.zero_le _⟩, rfl⟩
theorem trk_val {l : List UInt8} {p0 p1 : Nat} {b0 b1 : Bool} {code ticks made n : Int} {ps : List Rc} {vs : List ByteArray} {s : ByteArray} (h : Trk l p0 b0 (tlV vs.length) (HV code ticks made ps vs n)) (hn : 0 < n)
    (h1 : TextRd l p0 b0 s p1 b1) : Trk l p1 b1 (tlV (vs.length + 1)) (HV code ticks made ps (vs ++ [s]) (n - 1)) := by
  have ok : ∀ r, HV code ticks made ps vs n r → vs.length < r.vals.length := fun r hc => by have := hc.2.2.2.1; omega
  have t1 := h.text (fun r => nv vs.length r) _ h1 (fun r hok _ hc => tlV_step (ok r hc))
  refine t1.mono fun r hok _ hc => ?_
  have hlt := ok r hc.1
  obtain ⟨⟨a, b, c, d, e⟩, f⟩ := hc
  refine ⟨⟨a, b, ?_, by simp; omega, by simp; omega⟩, rfl⟩
  rw [List.length_append, List.length_singleton, List.take_add_one, nv_at hlt, ← c, f]; rfl
/-- All has been read: if the bytes are those of a report, it is this one. -/
theorem trk_end {l : List UInt8} {p0 p1 p2 : Nat} {b0 b1 b2 : Bool} {code ticks made n : Int} {ps : List Rc} {vs : List ByteArray} {er tr : ByteArray} (h : Trk l p0 b0 (tlV vs.length) (HV code ticks made ps vs n)) (hn : n ≤ 0 ∨ b0 = true)
    (h1 : TextRd l p0 b0 er p1 b1) (h2 : TextRd l p1 b1 tr p2 b2) : ∀ r, okRp r → tellB r = l → b2 = false ∧ r = ⟨code, ps, vs, er, tr, ticks, made⟩ := by
  have t0 : Trk l p0 b0 tl3 (fun r => HC code ticks made r ∧ ps = r.recs ∧ vs = r.vals) := fun r hok ht => by
    obtain ⟨a, b, c, d, e, f, g⟩ := h r hok ht
    have hlen : r.vals.length = vs.length := by
      rcases hn with hn | hn
      · omega
      · rw [a] at hn; cases hn
    refine ⟨a, by rw [b, tlV_end (by omega)], c, d, ?_⟩
    rw [← hlen, List.take_length] at e
    exact e
  have t1 := t0.text (fun r => r.err) tl4 h1 (fun r hok _ _ => rfl)
  have t2 := t1.text (fun r => r.trace) (fun _ => []) h2 (fun r hok _ _ => by unfold tl4; simp)
  intro r hok ht
  obtain ⟨a, -, ⟨⟨⟨c1, c2, c3⟩, d, e⟩, f⟩, g⟩ := t2 r hok ht
  refine ⟨a, ?_⟩
  obtain ⟨r1, r2, r3, r4, r5, r6, r7⟩ := r
  simp only at c1 c2 c3 d e f g
  rw [c1, c2, c3, d, e, f, g]

/-- What is heard of bytes. -/
def zeroRp : Rp := ⟨0, [], [], ⟨#[]⟩, ⟨#[]⟩, 0, 0⟩
def HearIs (l : List UInt8) (r : Rp) : Prop := (1000000 < l.length ∧ r = zeroRp) ∨ (l.length ≤ 1000000 ∧ (r = zeroRp ∨ (tellB r = l ∧ okRp r)) ∧ ∀ x, okRp x → tellB x = l → r = x)
theorem HearIs.eq {l : List UInt8} {a b : Rp} (ha : HearIs l a) (hb : HearIs l b) : a = b := by
  rcases ha with ⟨h1, rfl⟩ | ⟨h1, h2, h3⟩
  · rcases hb with ⟨h4, rfl⟩ | ⟨h4, h5, h6⟩
    · rfl
    · omega
  · rcases hb with ⟨h4, rfl⟩ | ⟨h4, h5, h6⟩
    · omega
    · rcases h2 with rfl | ⟨h2, h2'⟩
      · rcases h5 with rfl | ⟨h5, h5'⟩
        · rfl
        · exact h3 b h5' h5
      · exact (h6 a h2' h2).symm
end Go.Proofs.YtchlolfdinakiaaDoor
