/- The reference's first look at a unit: codes 1 to 3. -/
import Derived.Test.YtcpjplkbmflglaaB8
import Derived.Test.YtcpjplkbmflglaaB10
namespace Go.Proofs.Ytcpjplkbmflglaa
open Go.RowKit
attribute [local go_sem] run_store_float
set_option linter.unusedVariables false
abbrev Flt3 := Int × Int × Int
def fltV (x : Flt3) : Value := .agg #[.int .i64 x.1, .int .i64 x.2.1, .int .i64 x.2.2]
/-- A loop that ends at the first index at which the step fails. -/
def loopS {σ : Type} (step : Nat → σ → Option σ) : Nat → Nat → σ → σ ⊕ Nat
  | _, 0, s => .inl s
  | i, m + 1, s => match step i s with
    | none => .inr i
    | some s' => loopS step (i + 1) m s'
/-- .. of such loops. -/
def loop2 {σ : Type} (inner : Nat → σ → σ ⊕ Nat) : Nat → Nat → σ → σ ⊕ (Nat × Nat)
  | _, 0, s => .inl s
  | i, m + 1, s => match inner i s with
    | .inr n => .inr (i, n)
    | .inl s' => loop2 inner (i + 1) m s'
def chk (P : Nat → Bool) (i : Nat) (_ : Unit) : Option Unit := if P i then some () else none
def find1 (P : Nat → Bool) (n : Nat) : Unit ⊕ Nat := loopS (chk P) 0 n ()
def in2 (P : Nat → Nat → Bool) (len : Nat → Nat) (i : Nat) (_ : Unit) : Unit ⊕ Nat := find1 (P i) (len i)
def find2 (P : Nat → Nat → Bool) (len : Nat → Nat) (n : Nat) : Unit ⊕ (Nat × Nat) := loop2 (in2 P len) 0 n ()
theorem loopS_ok {σ : Type} {step : Nat → σ → Option σ} {i m : Nat} {s s' : σ} (h : step i s = some s') : loopS step i (m + 1) s = loopS step (i + 1) m s' := by
  rw [loopS, h]
theorem loopS_bad {σ : Type} {step : Nat → σ → Option σ} {i m : Nat} {s : σ} (h : step i s = none) : loopS step i (m + 1) s = .inr i := by
  rw [loopS, h]
theorem loop2_ok {σ : Type} {inner : Nat → σ → σ ⊕ Nat} {i m : Nat} {s s' : σ} (h : inner i s = .inl s') : loop2 inner i (m + 1) s = loop2 inner (i + 1) m s' := by
  rw [loop2, h]
theorem loop2_bad {σ : Type} {inner : Nat → σ → σ ⊕ Nat} {i m n : Nat} {s : σ} (h : inner i s = .inr n) : loop2 inner i (m + 1) s = .inr (i, n) := by
  rw [loop2, h]
theorem chk_t {P : Nat → Bool} {i : Nat} (h : P i = true) : chk P i () = some () := by simp [chk, h]
theorem chk_f {P : Nat → Bool} {i : Nat} (h : P i = false) : chk P i () = none := by simp [chk, h]
def noFd : Fd := ⟨⟨#[]⟩, 0, 0, false, [], [], []⟩
def fdAt (fs : List Fd) (i : Nat) : Fd := (fs[i]?).getD noFd
def noNd : Nd := ⟨0, 0, 0, 0, 0, ⟨#[]⟩, [], []⟩
def ndAt (ns : List Nd) (i : Nat) : Nd := (ns[i]?).getD noNd
def totN (fs : List Fd) : Nat := totW (fun x => x.nodes.length) fs
def fine2 (fs : List Fd) (i : Nat) : Bool := headB (fdAt fs i) i
def fine3 (fs : List Fd) (i n : Nat) : Bool := shapeB (fdAt fs i).nodes n (ndAt (fdAt fs i).nodes n)
def lenAt (fs : List Fd) (i : Nat) : Nat := (fdAt fs i).nodes.length
def P2 (fs : List Fd) : Unit ⊕ Nat := find1 (fine2 fs) fs.length
def P3 (fs : List Fd) : Unit ⊕ (Nat × Nat) := find2 (fine3 fs) (lenAt fs) fs.length
def ok1B (fs : List Fd) : Bool := decide (0 < fs.length ∧ fs.length ≤ 300 ∧ totN fs ≤ 3000)
/-- Codes 1 to 3. -/
def F1 (fs : List Fd) : Flt3 := if ok1B fs = false then (1, 0, 0) else match P2 fs with
  | .inr f => (2, f, 0)
  | .inl _ => match P3 fs with
    | .inr (f, n) => (3, f, n)
    | .inl _ => (0, 0, 0)
theorem fd_at {fs : List LF} {i : Nat} {f : LF} (h : fs[i]? = some f) : fdAt (fs.map LF.fd) i = f.fd := by simp [fdAt, h]
theorem nd_atD {ls : List LN} {k : Nat} {l : LN} (h : ls[k]? = some l) : ndAt (ls.map LN.nd) k = l.nd := by simp [ndAt, h]
theorem box3 {w : World} {g : Nat} {t : TypeId} {a b c : Value} (hb : Blk w g t #[a, b, c]) : w.cell? ⟨g, 0, none⟩ = some a ∧ w.cell? ⟨g, 1, none⟩ = some b ∧ w.cell? ⟨g, 2, none⟩ = some c :=
  ⟨hb.cell 0, hb.cell 1, hb.cell 2⟩
/-- The boxes of a look at a unit. -/
structure Fs (w : World) (U : Value) (W : World) : Prop where
  ub : Blk W w.heap.size 31 #[U]
  rb : Blk W (w.heap.size + 1) 27 #[.int .i64 0, .int .i64 0, .int .i64 0]
  bel : Below w.heap.size w W
theorem Fs.below {w W W' : World} {U : Value} (h : Fs w U W) (hb : Below W.heap.size W W') : Fs w U W' := ⟨h.ub.below hb h.ub.lt, h.rb.below hb h.rb.lt, h.bel.trans (hb.mono h.bel.size)⟩
theorem Fs.alloc {w W : World} {U : Value} (h : Fs w U W) (o : Obj) : Fs w U (W.alloc o) := h.below (below_new W o)
theorem Fs.drew {w W : World} {U : Value} (h : Fs w U W) : Fs w U W.drew := ⟨h.ub, h.rb, h.bel.drew⟩
theorem Fs.but {w W W' : World} {U : Value} {P : Nat → Prop} (h : Fs w U W) (hb : But P W W') (hP : ∀ k, P k → w.heap.size + 1 < k) : Fs w U W' :=
  ⟨hb.blk h.ub (fun hp => by have := hP _ hp; omega), hb.blk h.rb (fun hp => by have := hP _ hp; omega), h.bel.trans (hb.below (fun k hk => by have := hP k hk; omega) h.bel.size)⟩
theorem totW_map {α β : Type} (g : β → Nat) (h : α → β) : ∀ xs : List α, totW g (xs.map h) = totW (fun x => g (h x)) xs := by
  intro xs
  induction xs with
  | nil => rfl
  | cons x r ih => simp only [List.map_cons, totW, ih]
set_option maxRecDepth 100000 in
set_option maxHeartbeats 8000000 in
theorem first_any (A : Option Addr) (c : Nat) (fs : List LF) (w : World) (lo : Nat) (h : RdF w lo A fs) (hn : fs.length ≤ 1048576) (hf : ∀ f ∈ fs, fitF f) (ht : totW (fun f => f.ns.length) fs ≤ 1048576) :
    Calls Try.prog 18 #[.agg #[.slice A fs.length c]] w fun e w' => e = .returned (fltV (F1 (fs.map LF.fd))) ∧ Below w.heap.size w w' := by
  have H := Lib.hid h; have HF := Lib.hid hf; have HT := Lib.hid ht
  have htn : totN (fs.map LF.fd) = totW (fun f => f.ns.length) fs := by
    unfold totN
    rw [totW_map]
    congr 1
    funext f
    simp [LF.fd]
  have HTN := Lib.hid htn
  clear h hf ht htn
  go_enter Try.func18, Try.ntmps18
  go_wp2
  go_loopw [3, 12] (fun s v wr => ∃ p : Nat, p ≤ fs.length ∧ v = .int .i64 p ∧ s = .int .i64 (totW (fun f => f.ns.length) (fs.take p) : Nat) ∧ Fs w (.slice A fs.length c) wr) (fun _ v _ => fs.length - (intOf v).toNat)
  case atStart => exact ⟨0, Nat.zero_le _, rfl, rfl, ⟨(Blk.new _ _ _).alloc _, Blk.new_at (by simp), below_new2 _ _ _⟩⟩
  case round =>
    obtain ⟨p, hp, rfl, rfl, hS⟩ := hrel
    have ub0 := hS.ub.cell 0
    have HS := Lib.hid hS
    have hsz := hS.rb.lt
    by_cases hlt : p < fs.length
    · obtain ⟨f, hpf⟩ : ∃ f, fs[p]? = some f := ⟨_, List.getElem?_eq_getElem hlt⟩
      obtain ⟨b, off, rfl, hlo, hb, c0, c1, c2, c3, c4, c5, c6, -⟩ := rdF_at (H.out.below hS.bel) hpf
      have htk := Lib.hid (totW_take (fun f : LF => f.ns.length) fs p f hpf)
      have hle := totW_le (fun f : LF => f.ns.length) fs (p + 1)
      have h1 := htk.out
      have h2 := HT.out
      have k1 : totW (fun f : LF => f.ns.length) (fs.take p) ≤ 1048576 := by omega
      have k2 : f.ns.length ≤ 1048576 := by omega
      obtain ⟨T, hT⟩ : ∃ T, T = totW (fun f : LF => f.ns.length) (fs.take p) := ⟨_, rfl⟩
      rw [← hT] at k1 ⊢
      have HTT := Lib.hid hT
      clear hS hpf h1 h2 hle hT
      go_wp2
      exact ⟨⟨p + 1, by omega, by go_num, by rw [htk.out, ← HTT.out]; go_num, HS.out.alloc _⟩, by simp [intOf]; omega⟩
    · have hpp : p = fs.length := by omega
      subst hpp
      rw [List.take_length]
      obtain ⟨T, hT⟩ : ∃ T, T = totW (fun f : LF => f.ns.length) fs := ⟨_, rfl⟩
      rw [← hT]
      have hTN : totN (fs.map LF.fd) = T := by rw [HTN.out, hT]
      have hT1 : T ≤ 1048576 := by have := HT.out; omega
      have HTT := Lib.hid hTN
      clear hS hT hTN
      by_cases z0 : fs.length = 0 ∨ 300 < fs.length ∨ 3000 < T
      · have HQ : Hid (F1 (fs.map LF.fd) = (1, 0, 0)) := by
          unfold F1 ok1B
          rw [decide_eq_false (by rw [List.length_map, HTT.out]; omega), if_pos rfl]; exact Lib.hid rfl
        have hzb : ((fs.length : Int) == 0) = true ∨ ((fs.length : Int) == 0) = false ∧ 300 < fs.length ∨ ((fs.length : Int) == 0) = false ∧ fs.length ≤ 300 ∧ 3000 < T := by
          by_cases q0 : fs.length = 0
          · exact .inl (by simp [q0])
          · by_cases q1 : 300 < fs.length
            · exact .inr (.inl ⟨beq_eq_false_iff_ne.2 (by omega), q1⟩)
            · exact .inr (.inr ⟨beq_eq_false_iff_ne.2 (by omega), by omega, by omega⟩)
        clear z0
        rcases hzb with hzb | ⟨hzb, hz1⟩ | ⟨hzb, hz1, hz2⟩
        all_goals
          go_wp2_with fail
          refine (fault_any _ _ _ _).mono ?_
          rintro e w5 ⟨rfl, hb5⟩
          have HR5 := HS.out.below hb5
          obtain ⟨r0, r1, r2⟩ := box3 HR5.rb
          have g0 := HR5.rb.frozen 0
          have g1 := HR5.rb.frozen 1
          have g2 := HR5.rb.frozen 2
          have HR6 := Lib.hid HR5
          clear HR5 hb5
          go_wp2
          refine bodyPost_ret (by simp [results, Try.results18, go_sem, *]; rfl) rfl ?_
          exact ⟨by rw [HQ.out]; rfl, ((HR6.out.bel.setCell (by simp) _).setCell (by simp) _).setCell (by simp) _⟩
      · have hzb : ((fs.length : Int) == 0) = false := beq_eq_false_iff_ne.2 (by omega)
        have hz1 : fs.length ≤ 300 := by omega
        have hz2 : T ≤ 3000 := by omega
        have HO : Hid (F1 (fs.map LF.fd) = match P2 (fs.map LF.fd) with
            | .inr f => ((2 : Int), (f : Int), (0 : Int))
            | .inl _ => match P3 (fs.map LF.fd) with
              | .inr (f, n) => (3, (f : Int), (n : Int))
              | .inl _ => (0, 0, 0)) := by
          unfold F1 ok1B
          rw [decide_eq_true (by rw [List.length_map, HTT.out]; omega), if_neg (by simp)]; exact Lib.hid rfl
        have hpos : 0 < fs.length := by omega
        clear z0
        obtain ⟨w1, hw1⟩ : ∃ wo : World, wo = wr := ⟨_, rfl⟩
        obtain rfl := hw1
        go_wp2
        go_loopw [40] (fun v wr => ∃ p : Nat, p ≤ fs.length ∧ v = .int .i64 p ∧ P2 (fs.map LF.fd) = loopS (chk (fine2 (fs.map LF.fd))) p (fs.length - p) () ∧ Fs w (.slice A fs.length c) wr) (fun v _ => fs.length - (intOf v).toNat)
        case atStart => exact ⟨0, Nat.zero_le _, rfl, by unfold P2 find1; rw [List.length_map]; rfl, HS.out⟩
        case round =>
          clear HS ub0
          obtain ⟨p, hp, rfl, hB, hS⟩ := hrel
          have ub0 := hS.ub.cell 0
          have HS := Lib.hid hS
          have HB := Lib.hid hB
          have hsz := hS.rb.lt
          by_cases hlt : p < fs.length
          · obtain ⟨f, hpf⟩ : ∃ f, fs[p]? = some f := ⟨_, List.getElem?_eq_getElem hlt⟩
            have HPF := Lib.hid hpf
            obtain ⟨m, hm⟩ : ∃ m, fs.length - p = m + 1 := ⟨fs.length - p - 1, by omega⟩
            have HM := Lib.hid hm
            have hfine : Hid (fine2 (fs.map LF.fd) p = headB f.fd p) := by unfold fine2; rw [fd_at hpf]; exact Lib.hid rfl
            clear hS hB hpf hm
            cases hh : headB f.fd p
            · have HQ : Hid (F1 (fs.map LF.fd) = (2, (p : Int), 0)) := by
                rw [HO.out, HB.out, HM.out, loopS_bad (chk_f (by rw [hfine.out]; exact hh))]; exact Lib.hid rfl
              go_wp2_with fail
              refine (head_any _ _ fs f _ lo p (H.out.below HS.out.bel) (by unfold maxLen; omega) (HF.out f (List.mem_of_getElem? HPF.out)) HPF.out).mono ?_
              rintro e w2 ⟨rfl, hb2⟩
              have HS2 := Lib.hid (HS.out.below hb2)
              clear hb2
              go_wp2_with fail
              refine (fault_any _ _ _ _).mono ?_
              rintro e w5 ⟨rfl, hb5⟩
              have HR5 := HS2.out.below hb5
              obtain ⟨r0, r1, r2⟩ := box3 HR5.rb
              have g0 := HR5.rb.frozen 0
              have g1 := HR5.rb.frozen 1
              have g2 := HR5.rb.frozen 2
              have HR6 := Lib.hid HR5
              clear HR5 hb5
              go_wp2
              refine bodyPost_ret (by simp [results, Try.results18, go_sem, *]; rfl) rfl ?_
              exact ⟨by rw [HQ.out]; rfl, ((HR6.out.bel.setCell (by simp) _).setCell (by simp) _).setCell (by simp) _⟩
            · have hh' := Lib.hid hh
              go_wp2_with fail
              refine (head_any _ _ fs f _ lo p (H.out.below HS.out.bel) (by unfold maxLen; omega) (HF.out f (List.mem_of_getElem? HPF.out)) HPF.out).mono ?_
              rintro e w2 ⟨rfl, hb2⟩
              have HS2 := Lib.hid (HS.out.below hb2)
              clear hb2
              go_wp2
              exact ⟨⟨p + 1, by omega, by go_num, by rw [HB.out, HM.out, loopS_ok (chk_t (by rw [hfine.out]; exact hh'.out)), show fs.length - (p + 1) = m by have := HM.out; omega], HS2.out⟩, by simp [intOf]; omega⟩
          · have hpp : p = fs.length := by omega
            have HO2 : Hid (F1 (fs.map LF.fd) = match P3 (fs.map LF.fd) with
              | .inr (f, n) => ((3 : Int), (f : Int), (n : Int))
              | .inl _ => (0, 0, 0)) := by
              rw [HO.out, hB, hpp, Nat.sub_self]; exact Lib.hid rfl
            clear hS hB HB HO hlt hp
            subst hpp
            obtain ⟨w2, hw2⟩ : ∃ wo : World, wo = wr := ⟨_, rfl⟩
            obtain rfl := hw2
            go_wp2
            go_loopw [53] (fun v wr => ∃ p : Nat, p ≤ fs.length ∧ v = .int .i64 p ∧ P3 (fs.map LF.fd) = loop2 (in2 (fine3 (fs.map LF.fd)) (lenAt (fs.map LF.fd))) p (fs.length - p) () ∧ Fs w (.slice A fs.length c) wr) (fun v _ => fs.length - (intOf v).toNat)
            case atStart => exact ⟨0, Nat.zero_le _, rfl, by unfold P3 find2; rw [List.length_map]; rfl, HS.out⟩
            case round =>
              clear HS ub0
              obtain ⟨p, hp, rfl, hB, hS⟩ := hrel
              have ub0 := hS.ub.cell 0
              have HS := Lib.hid hS
              have HB := Lib.hid hB
              have hsz := hS.rb.lt
              by_cases hlt : p < fs.length
              · obtain ⟨f, hpf⟩ : ∃ f, fs[p]? = some f := ⟨_, List.getElem?_eq_getElem hlt⟩
                obtain ⟨b, off, rfl, hlo, hb, c0, c1, c2, c3, c4, c5, c6, hokf⟩ := rdF_at (H.out.below hS.bel) hpf
                have HNW := Lib.hid (H.out.2 f (List.mem_of_getElem? hpf)).2.2
                have HFF := Lib.hid (HF.out f (List.mem_of_getElem? hpf))
                have hfl := HFF.out.2.2.2.1
                have hfl2 := hfl
                unfold maxLen at hfl
                obtain ⟨m, hm⟩ : ∃ m, fs.length - p = m + 1 := ⟨fs.length - p - 1, by omega⟩
                have HM := Lib.hid hm
                have HPF := Lib.hid hpf
                have HIN : Hid (find1 (fine3 (fs.map LF.fd) p) (lenAt (fs.map LF.fd) p) = loopS (chk (fine3 (fs.map LF.fd) p)) 0 f.ns.length ()) := by
                  unfold find1 lenAt; rw [fd_at hpf, show f.fd.nodes.length = f.ns.length from by simp [LF.fd]]; exact Lib.hid rfl
                have hpl : (p : Int) < fs.length := by omega
                clear hS hB hpf hm hokf
                obtain ⟨w3, hw3⟩ : ∃ wo : World, wo = wr := ⟨_, rfl⟩
                obtain rfl := hw3
                go_wp2
                go_loopw [63] (fun v wr => ∃ q : Nat, q ≤ f.ns.length ∧ v = .int .i64 q ∧ find1 (fine3 (fs.map LF.fd) p) (lenAt (fs.map LF.fd) p) = loopS (chk (fine3 (fs.map LF.fd) p)) q (f.ns.length - q) () ∧ Fs w (.slice (some ⟨b, off, none⟩) fs.length c) wr) (fun v _ => f.ns.length - (intOf v).toNat)
                case atStart => exact ⟨0, Nat.zero_le _, rfl, HIN.out, HS.out⟩
                case round =>
                  clear HS ub0 c0 c1 c2 c3 c4 c5 c6
                  obtain ⟨q, hq, rfl, hC, hS⟩ := hrel
                  have ub0 := hS.ub.cell 0
                  have HS := Lib.hid hS
                  have HC := Lib.hid hC
                  have hsz := hS.rb.lt
                  obtain ⟨b', off', e', hlo', hb', c0, c1, c2, c3, c4, c5, c6, hokf⟩ := rdF_at (H.out.below hS.bel) HPF.out
                  obtain ⟨rfl, rfl⟩ : b' = b ∧ off' = off := by cases e'; exact ⟨rfl, rfl⟩
                  by_cases hql : q < f.ns.length
                  · obtain ⟨l, hl⟩ : ∃ l, f.ns[q]? = some l := ⟨_, List.getElem?_eq_getElem hql⟩
                    obtain ⟨r, hr⟩ : ∃ r, f.ns.length - q = r + 1 := ⟨f.ns.length - q - 1, by omega⟩
                    have HRR := Lib.hid hr
                    have HLL := Lib.hid hl
                    have hfine : Hid (fine3 (fs.map LF.fd) p q = shapeB (f.ns.map LN.nd) q l.nd) := by
                      unfold fine3; rw [fd_at HPF.out, show f.fd.nodes = f.ns.map LN.nd from rfl, nd_atD hl]; exact Lib.hid rfl
                    clear hS hC hl hr hokf e'
                    cases hh : shapeB (f.ns.map LN.nd) q l.nd
                    · have HQ : Hid (F1 (fs.map LF.fd) = (3, (p : Int), (q : Int))) := by
                        rw [HO2.out, HB.out, HM.out, loop2_bad (n := q) (by unfold in2; rw [HC.out, HRR.out, loopS_bad (chk_f (by rw [hfine.out]; exact hh))])]; exact Lib.hid rfl
                      go_wp2_with fail
                      refine (shape_any _ _ f.ns l _ lo q (HNW.out.below HS.out.bel) hfl2 HFF.out.2.2.2.2 hql HLL.out).mono ?_
                      rintro e w2 ⟨rfl, hb2⟩
                      have HS2 := Lib.hid (HS.out.below hb2)
                      clear hb2
                      go_wp2_with fail
                      refine (fault_any _ _ _ _).mono ?_
                      rintro e w5 ⟨rfl, hb5⟩
                      have HR5 := HS2.out.below hb5
                      obtain ⟨r0, r1, r2⟩ := box3 HR5.rb
                      have g0 := HR5.rb.frozen 0
                      have g1 := HR5.rb.frozen 1
                      have g2 := HR5.rb.frozen 2
                      have HR6 := Lib.hid HR5
                      clear HR5 hb5
                      go_wp2
                      refine bodyPost_ret (by simp [results, Try.results18, go_sem, *]; rfl) rfl ?_
                      exact ⟨by rw [HQ.out]; rfl, ((HR6.out.bel.setCell (by simp) _).setCell (by simp) _).setCell (by simp) _⟩
                    · have hh' := Lib.hid hh
                      go_wp2_with fail
                      refine (shape_any _ _ f.ns l _ lo q (HNW.out.below HS.out.bel) hfl2 HFF.out.2.2.2.2 hql HLL.out).mono ?_
                      rintro e w2 ⟨rfl, hb2⟩
                      have HS2 := Lib.hid (HS.out.below hb2)
                      clear hb2
                      go_wp2
                      exact ⟨⟨q + 1, by omega, by go_num, by rw [HC.out, HRR.out, loopS_ok (chk_t (by rw [hfine.out]; exact hh'.out)), show f.ns.length - (q + 1) = r by have := HRR.out; omega], HS2.out⟩, by simp [intOf]; omega⟩
                  · have hqq : q = f.ns.length := by omega
                    have HIN2 : Hid (find1 (fine3 (fs.map LF.fd) p) (lenAt (fs.map LF.fd) p) = .inl ()) := by
                      rw [hC, hqq, Nat.sub_self]; exact Lib.hid rfl
                    clear hS hC hokf e'
                    go_wp2
                    exact ⟨⟨p + 1, by omega, by go_num, by rw [HB.out, HM.out, loop2_ok (show in2 (fine3 (fs.map LF.fd)) (lenAt (fs.map LF.fd)) p () = .inl () from HIN2.out), show fs.length - (p + 1) = m by have := HM.out; omega], HS.out⟩, by simp [intOf]; omega⟩
              · have hpp : p = fs.length := by omega
                have HQ : Hid (F1 (fs.map LF.fd) = (0, 0, 0)) := by
                  rw [HO2.out, hB, hpp, Nat.sub_self]; exact Lib.hid rfl
                clear hS hB
                obtain ⟨r0, r1, r2⟩ := box3 HS.out.rb
                have g0 := HS.out.rb.frozen 0
                have g1 := HS.out.rb.frozen 1
                have g2 := HS.out.rb.frozen 2
                go_wp2
                refine bodyPost_ret (by simp [results, Try.results18, go_sem, *]; rfl) rfl ?_
                exact ⟨by rw [HQ.out]; rfl, ((HS.out.bel.setCell (by simp) _).setCell (by simp) _).setCell (by simp) _⟩
end Go.Proofs.Ytcpjplkbmflglaa
