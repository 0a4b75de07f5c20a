/- The reference's second look at a unit: codes 4 and 5. -/
import Derived.Test.YtcpjplkbmflglaaB11
namespace Go.Proofs.Ytcpjplkbmflglaa
open Go.RowKit
attribute [local go_sem] run_store_float
set_option linter.unusedVariables false
def fine4 (ns : List Nd) (n : Nat) : Bool := if n + 1 = ns.length then (parF ns)[n]? == some (-1) && (ndAt ns n).kind == 1 else decide (0 ≤ ((parF ns)[n]?).getD 0)
def fine5 (ns : List Nd) (n : Nat) : Bool := decide (((depF (parF ns) ns.length)[n]?).getD 0 ≤ 100)
def nodesAt (fs : List Fd) (i : Nat) : List Nd := (fdAt fs i).nodes
def P4 (fs : List Fd) : Unit ⊕ (Nat × Nat) := find2 (fun i => fine4 (nodesAt fs i)) (lenAt fs) fs.length
def P5 (fs : List Fd) : Unit ⊕ (Nat × Nat) := find2 (fun i => fine5 (nodesAt fs i)) (lenAt fs) fs.length
def F2 (fs : List Fd) : Flt3 := match P4 fs with
  | .inr (f, n) => (4, f, n)
  | .inl _ => match P5 fs with
    | .inr (f, n) => (5, f, n)
    | .inl _ => (0, 0, 0)
/-- .. and the tree of one function, at block X. -/
structure Ts (w : World) (U : Value) (X gp gd n : Nat) (par dep : List Int) (W : World) : Prop where
  fs : Fs w U W
  tb : Blk W X 73 #[.slice (some ⟨gp, 0, none⟩) n n, .slice (some ⟨gd, 0, none⟩) n n]
  bp : BI W gp par
  bd : BI W gd dep
theorem Ts.below {w W W' : World} {U : Value} {X gp gd n : Nat} {par dep : List Int} (h : Ts w U X gp gd n par dep W) (hb : Below W.heap.size W W') : Ts w U X gp gd n par dep W' := ⟨h.fs.below hb, h.tb.below hb h.tb.lt, h.bp.below hb, h.bd.below hb⟩
theorem nodes_at {fs : List LF} {i : Nat} {f : LF} (h : fs[i]? = some f) : nodesAt (fs.map LF.fd) i = f.ns.map LN.nd := by
  unfold nodesAt; rw [fd_at h]; rfl
theorem len_at {fs : List LF} {i : Nat} {f : LF} (h : fs[i]? = some f) : lenAt (fs.map LF.fd) i = f.ns.length := by
  unfold lenAt; rw [fd_at h]; simp [LF.fd]
theorem fine4_last {ns : List Nd} {n : Nat} (h : n + 1 = ns.length) : fine4 ns n = ((parF ns)[n]? == some (-1) && (ndAt ns n).kind == 1) := by unfold fine4; rw [if_pos h]
theorem fine4_in {ns : List Nd} {n : Nat} (h : ¬ n + 1 = ns.length) : fine4 ns n = decide (0 ≤ ((parF ns)[n]?).getD 0) := by unfold fine4; rw [if_neg h]
theorem depF_len (par : List Int) (n : Nat) : (depF par n).length = n := by
  unfold depF
  have : ∀ (es : List Nat) (d : List Int), (es.foldl (dstep par) d).length = d.length := by
    intro es
    induction es with
    | nil => intro d; rfl
    | cons e r ih => intro d; rw [List.foldl_cons, ih, dstep_len]
  rw [this, List.length_replicate]
set_option maxRecDepth 100000 in
set_option maxHeartbeats 8000000 in
theorem second_any (A : Option Addr) (c : Nat) (fs : List LF) (w : World) (lo : Nat) (h : RdF w lo A fs) (hn : fs.length ≤ 1048576) (hf : ∀ f ∈ fs, fitF f) (hcap : ∀ f ∈ fs, f.ns.length ≤ 1048576) (hok : ∀ f ∈ fs, 0 < f.ns.length ∧ InAll (f.ns.map LN.nd)) :
    Calls Try.prog 19 #[.agg #[.slice A fs.length c]] w fun e w' => e = .returned (fltV (F2 (fs.map LF.fd))) ∧ Below w.heap.size w w' := by
  have H := Lib.hid h; have HF := Lib.hid hf; have HCAP := Lib.hid hcap; have HOK := Lib.hid hok
  have HOF : Hid (F2 (fs.map LF.fd) = match P4 (fs.map LF.fd) with
      | .inr (f, n) => ((4 : Int), (f : Int), (n : Int))
      | .inl _ => match P5 (fs.map LF.fd) with
        | .inr (f, n) => (5, (f : Int), (n : Int))
        | .inl _ => (0, 0, 0)) := Lib.hid rfl
  clear h hf hcap hok
  go_enter Try.func19, Try.ntmps19
  go_wp2
  go_loopw [14] (fun v wr => ∃ p : Nat, p ≤ fs.length ∧ v = .int .i64 p ∧ P4 (fs.map LF.fd) = loop2 (in2 (fun i => fine4 (nodesAt (fs.map LF.fd) i)) (lenAt (fs.map LF.fd))) p (fs.length - p) () ∧ Fs w (.slice A fs.length c) wr) (fun v _ => fs.length - (intOf v).toNat)
  case atStart => exact ⟨0, Nat.zero_le _, rfl, by unfold P4 find2; rw [List.length_map]; rfl, ⟨(Blk.new _ _ _).alloc _, Blk.new_at (by simp), below_new2 _ _ _⟩⟩
  case round =>
    obtain ⟨p, hp, rfl, hB, hS⟩ := hrel
    have ub0 := hS.ub.cell 0
    have HS := Lib.hid hS
    have HB := Lib.hid hB
    have hsz := hS.rb.lt
    have hsz0 : w.heap.size < wr.heap.size := by omega
    by_cases hlt : p < fs.length
    · obtain ⟨f, hpf⟩ : ∃ f, fs[p]? = some f := ⟨_, List.getElem?_eq_getElem hlt⟩
      obtain ⟨b, off, rfl, hlo, hb, c0, c1, c2, c3, c4, c5, c6, hokf⟩ := rdF_at (H.out.below hS.bel) hpf
      have HNW := Lib.hid (H.out.2 f (List.mem_of_getElem? hpf)).2.2
      have HFF := Lib.hid (HF.out f (List.mem_of_getElem? hpf))
      have HOKF := Lib.hid (HOK.out f (List.mem_of_getElem? hpf))
      have hfn := HCAP.out f (List.mem_of_getElem? hpf)
      obtain ⟨m, hm⟩ : ∃ m, fs.length - p = m + 1 := ⟨fs.length - p - 1, by omega⟩
      have HM := Lib.hid hm
      have HPF := Lib.hid hpf
      obtain ⟨par, hpar⟩ : ∃ par, parF (f.ns.map LN.nd) = par := ⟨_, rfl⟩
      have HPL : Hid (par.length = f.ns.length) := by rw [← hpar, parF_len, List.length_map]; exact Lib.hid rfl
      have HPA := Lib.hid hpar
      obtain ⟨dep, hdep⟩ : ∃ dep, depF par f.ns.length = dep := ⟨_, rfl⟩
      have HDL : Hid (dep.length = f.ns.length) := by rw [← hdep, depF_len]; exact Lib.hid rfl
      have HDE := Lib.hid hdep
      have HIN : Hid (in2 (fun i => fine4 (nodesAt (fs.map LF.fd) i)) (lenAt (fs.map LF.fd)) p () = loopS (chk (fine4 (f.ns.map LN.nd))) 0 f.ns.length ()) := by
        unfold in2 find1; rw [len_at hpf]; show Hid (loopS (chk (fine4 (nodesAt (fs.map LF.fd) p))) 0 f.ns.length () = _); rw [nodes_at hpf]; exact Lib.hid rfl
      have hpl : (p : Int) < fs.length := by omega
      have hfp : 0 < f.ns.length := HOKF.out.1
      clear hS hB hpf hm hokf hpar hdep
      obtain ⟨w3, hw3⟩ : ∃ wo : World, wo = wr := ⟨_, rfl⟩
      obtain rfl := hw3
      go_wp2_with fail
      refine (grow_any _ _ f.ns _ lo (HNW.out.below HS.out.bel) hfn HFF.out.2.2.2.2 HOKF.out.1 (fun k l hk => HOKF.out.2 k l.nd (nd_at hk))).mono ?_
      rintro e w4 ⟨gp, gd, rfl, hbp, hbd, hgp, hgd, hb4⟩
      rw [HPA.out] at hbp hbd
      rw [HDE.out] at hbd
      obtain ⟨hc4, hf4⟩ := bcell hb4
      have hq4 := hb4.size
      have HTS := Lib.hid (⟨(HS.out.below hb4).alloc _, Blk.new _ _ _, hbp.alloc _, hbd.alloc _⟩ : Ts w (.slice (some ⟨b, off, none⟩) fs.length c) w4.heap.size gp gd f.ns.length par dep (w4.alloc (.cells #[.slice (some ⟨gp, 0, none⟩) f.ns.length f.ns.length, .slice (some ⟨gd, 0, none⟩) f.ns.length f.ns.length] 73)))
      obtain ⟨X, hX⟩ : ∃ X, X = w4.heap.size := ⟨_, rfl⟩
      have hsz4 : w.heap.size < w4.heap.size := by omega
      have hbz : b < w4.heap.size := by omega
      clear hbp hbd hb4 hgp hgd
      go_wp2
      go_loopw [27] (fun v wr => ∃ q : Nat, q ≤ f.ns.length ∧ v = .int .i64 q ∧ in2 (fun i => fine4 (nodesAt (fs.map LF.fd) i)) (lenAt (fs.map LF.fd)) p () = loopS (chk (fine4 (f.ns.map LN.nd))) q (f.ns.length - q) () ∧ Ts w (.slice (some ⟨b, off, none⟩) fs.length c) w4.heap.size gp gd f.ns.length par dep wr) (fun v _ => f.ns.length - (intOf v).toNat)
      case atStart => exact ⟨0, Nat.zero_le _, rfl, HIN.out, HTS.out⟩
      case round =>
        clear HTS ub0 c0 c1 c2 c3 c4 c5 c6 hc4 hf4
        obtain ⟨q, hq, rfl, hC, hT⟩ := hrel
        have ub0 := hT.fs.ub.cell 0
        obtain ⟨d0, d1⟩ := box2 hT.tb
        have HT := Lib.hid hT
        have HC := Lib.hid hC
        have hszt := hT.tb.lt
        obtain ⟨b', off', e', hlo', hb', c0, c1, c2, c3, c4, c5, c6, hokf⟩ := rdF_at (H.out.below hT.fs.bel) HPF.out
        obtain ⟨rfl, rfl⟩ : b' = b ∧ off' = off := by cases e'; exact ⟨rfl, rfl⟩
        by_cases hql : q < f.ns.length
        · obtain ⟨l, hl⟩ : ∃ l, f.ns[q]? = some l := ⟨_, List.getElem?_eq_getElem hql⟩
          obtain ⟨r, hr⟩ : ∃ r, f.ns.length - q = r + 1 := ⟨f.ns.length - q - 1, by omega⟩
          have HRR := Lib.hid hr
          have HLL := Lib.hid hl
          have hqi : (q : Int) < f.ns.length := by omega
          obtain ⟨bn, offn, hna, hlon, hbn, n0, -, -, -, -, -, -, -, -⟩ := rdN_at (HNW.out.below hT.fs.bel) hl
          rw [hna] at c6
          obtain ⟨pv, hpv⟩ : ∃ v, par[q]? = some v := ⟨_, List.getElem?_eq_getElem (by have := HPL.out; omega)⟩
          have cpv := hT.bp.cell hpv
          have HPV := Lib.hid hpv
          clear hT hC hl hr hokf e' hpv
          by_cases hlast : q + 1 = f.ns.length
          · have hlb : ((q : Int) == (f.ns.length : Int) - 1) = true := by rw [beq_iff_eq]; omega
            by_cases h1 : pv = -1
            · by_cases hk : l.nd.kind = 1
              · have HFN : Hid (fine4 (f.ns.map LN.nd) q = true) := by
                  rw [fine4_last (by rw [List.length_map]; omega), HPA.out, HPV.out, nd_atD HLL.out]; rw [h1, hk]; exact Lib.hid rfl
                rw [hk] at n0
                subst h1
                clear hk hlast
                go_wp2
                exact ⟨⟨q + 1, by omega, by go_num, by rw [HC.out, HRR.out, loopS_ok (chk_t HFN.out), show f.ns.length - (q + 1) = r by have := HRR.out; omega], HT.out⟩, by simp [intOf]; omega⟩
              · have HFN : Hid (fine4 (f.ns.map LN.nd) q = false) := by
                  rw [fine4_last (by rw [List.length_map]; omega), HPA.out, HPV.out, nd_atD HLL.out]; rw [beq_eq_false_iff_ne.2 hk, Bool.and_false]; exact Lib.hid rfl
                have hkb : (l.nd.kind != 1) = true := by simp [hk]
                have hkc : (l.nd.kind == 1) = false := beq_eq_false_iff_ne.2 hk
                subst h1
                clear hk hlast
                have HQ : Hid (F2 (fs.map LF.fd) = (4, (p : Int), (q : Int))) := by
                  rw [HOF.out, HB.out, HM.out, loop2_bad (n := q) (by rw [HC.out, HRR.out, loopS_bad (chk_f HFN.out)])]; exact Lib.hid rfl
                have HS2 := Lib.hid HT.out.fs
                go_wp2_with fail
                refine (fault_any _ _ _ _).mono ?_
                rintro e w5 ⟨rfl, hb5⟩
                have HR5 := HS2.out.below hb5
                obtain ⟨r0, r1, r2⟩ := box3 HR5.rb
                have g0 := HR5.rb.frozen 0
                have g1 := HR5.rb.frozen 1
                have g2 := HR5.rb.frozen 2
                have HR6 := Lib.hid HR5
                clear HR5 hb5
                go_wp2
                refine bodyPost_ret (by simp [results, Try.results19, go_sem, *]; rfl) rfl ?_
                exact ⟨by rw [HQ.out]; rfl, ((HR6.out.bel.setCell (by simp) _).setCell (by simp) _).setCell (by simp) _⟩
            · have HFN : Hid (fine4 (f.ns.map LN.nd) q = false) := by
                rw [fine4_last (by rw [List.length_map]; omega), HPA.out, HPV.out, nd_atD HLL.out]; rw [show (some pv == some (-1)) = false from by simp [h1], Bool.false_and]; exact Lib.hid rfl
              have hpb : (pv != -1) = true := by simp [h1]
              have hpc : (pv == -1) = false := beq_eq_false_iff_ne.2 h1
              clear h1 hlast
              have HQ : Hid (F2 (fs.map LF.fd) = (4, (p : Int), (q : Int))) := by
                rw [HOF.out, HB.out, HM.out, loop2_bad (n := q) (by rw [HC.out, HRR.out, loopS_bad (chk_f HFN.out)])]; exact Lib.hid rfl
              have HS2 := Lib.hid HT.out.fs
              go_wp2_with fail
              refine (fault_any _ _ _ _).mono ?_
              rintro e w5 ⟨rfl, hb5⟩
              have HR5 := HS2.out.below hb5
              obtain ⟨r0, r1, r2⟩ := box3 HR5.rb
              have g0 := HR5.rb.frozen 0
              have g1 := HR5.rb.frozen 1
              have g2 := HR5.rb.frozen 2
              have HR6 := Lib.hid HR5
              clear HR5 hb5
              go_wp2
              refine bodyPost_ret (by simp [results, Try.results19, go_sem, *]; rfl) rfl ?_
              exact ⟨by rw [HQ.out]; rfl, ((HR6.out.bel.setCell (by simp) _).setCell (by simp) _).setCell (by simp) _⟩
          · have hlb : ((q : Int) == (f.ns.length : Int) - 1) = false := beq_eq_false_iff_ne.2 (by omega)
            by_cases h1 : pv < 0
            · have HFN : Hid (fine4 (f.ns.map LN.nd) q = false) := by
                rw [fine4_in (by rw [List.length_map]; omega), HPA.out, HPV.out]; exact Lib.hid (decide_eq_false (by simp; omega))
              clear hlast
              have HQ : Hid (F2 (fs.map LF.fd) = (4, (p : Int), (q : Int))) := by
                rw [HOF.out, HB.out, HM.out, loop2_bad (n := q) (by rw [HC.out, HRR.out, loopS_bad (chk_f HFN.out)])]; exact Lib.hid rfl
              have HS2 := Lib.hid HT.out.fs
              go_wp2_with fail
              refine (fault_any _ _ _ _).mono ?_
              rintro e w5 ⟨rfl, hb5⟩
              have HR5 := HS2.out.below hb5
              obtain ⟨r0, r1, r2⟩ := box3 HR5.rb
              have g0 := HR5.rb.frozen 0
              have g1 := HR5.rb.frozen 1
              have g2 := HR5.rb.frozen 2
              have HR6 := Lib.hid HR5
              clear HR5 hb5
              go_wp2
              refine bodyPost_ret (by simp [results, Try.results19, go_sem, *]; rfl) rfl ?_
              exact ⟨by rw [HQ.out]; rfl, ((HR6.out.bel.setCell (by simp) _).setCell (by simp) _).setCell (by simp) _⟩
            · have HFN : Hid (fine4 (f.ns.map LN.nd) q = true) := by
                rw [fine4_in (by rw [List.length_map]; omega), HPA.out, HPV.out]; exact Lib.hid (decide_eq_true (by simp; omega))
              have hpos : 0 ≤ pv := by omega
              have hpb : decide (pv < 0) = false := decide_eq_false h1
              clear hlast
              go_wp2
              exact ⟨⟨q + 1, by omega, by go_num, by rw [HC.out, HRR.out, loopS_ok (chk_t HFN.out), show f.ns.length - (q + 1) = r by have := HRR.out; omega], HT.out⟩, by simp [intOf]; omega⟩
        · have hqq : q = f.ns.length := by omega
          have HIN2 : Hid (in2 (fun i => fine4 (nodesAt (fs.map LF.fd) i)) (lenAt (fs.map LF.fd)) p () = .inl ()) := by
            rw [hC, hqq, Nat.sub_self]; exact Lib.hid rfl
          clear hT hC hokf e'
          go_wp2
          exact ⟨⟨p + 1, by omega, by go_num, by rw [HB.out, HM.out, loop2_ok HIN2.out, show fs.length - (p + 1) = m by have := HM.out; omega], HT.out.fs⟩, by simp [intOf]; omega⟩
    · have hpp : p = fs.length := by omega
      have HOF2 : Hid (F2 (fs.map LF.fd) = match P5 (fs.map LF.fd) with
          | .inr (f, n) => ((5 : Int), (f : Int), (n : Int))
          | .inl _ => (0, 0, 0)) := by
        rw [HOF.out, hB, hpp, Nat.sub_self]; exact Lib.hid rfl
      clear hS hB HB HOF hlt hp
      subst hpp
      obtain ⟨w2, hw2⟩ : ∃ wo : World, wo = wr := ⟨_, rfl⟩
      obtain rfl := hw2
      go_wp2
      go_loopw [72] (fun v wr => ∃ p : Nat, p ≤ fs.length ∧ v = .int .i64 p ∧ P5 (fs.map LF.fd) = loop2 (in2 (fun i => fine5 (nodesAt (fs.map LF.fd) i)) (lenAt (fs.map LF.fd))) p (fs.length - p) () ∧ Fs w (.slice A fs.length c) wr) (fun v _ => fs.length - (intOf v).toNat)
      case atStart => exact ⟨0, Nat.zero_le _, rfl, by unfold P5 find2; rw [List.length_map]; rfl, HS.out⟩
      case round =>
        obtain ⟨p, hp, rfl, hB, hS⟩ := hrel
        have ub0 := hS.ub.cell 0
        have HS := Lib.hid hS
        have HB := Lib.hid hB
        have hsz := hS.rb.lt
        have hsz0 : w.heap.size < wr.heap.size := by omega
        by_cases hlt : p < fs.length
        · obtain ⟨f, hpf⟩ : ∃ f, fs[p]? = some f := ⟨_, List.getElem?_eq_getElem hlt⟩
          obtain ⟨b, off, rfl, hlo, hb, c0, c1, c2, c3, c4, c5, c6, hokf⟩ := rdF_at (H.out.below hS.bel) hpf
          have HNW := Lib.hid (H.out.2 f (List.mem_of_getElem? hpf)).2.2
          have HFF := Lib.hid (HF.out f (List.mem_of_getElem? hpf))
          have HOKF := Lib.hid (HOK.out f (List.mem_of_getElem? hpf))
          have hfn := HCAP.out f (List.mem_of_getElem? hpf)
          obtain ⟨m, hm⟩ : ∃ m, fs.length - p = m + 1 := ⟨fs.length - p - 1, by omega⟩
          have HM := Lib.hid hm
          have HPF := Lib.hid hpf
          obtain ⟨par, hpar⟩ : ∃ par, parF (f.ns.map LN.nd) = par := ⟨_, rfl⟩
          have HPL : Hid (par.length = f.ns.length) := by rw [← hpar, parF_len, List.length_map]; exact Lib.hid rfl
          have HPA := Lib.hid hpar
          obtain ⟨dep, hdep⟩ : ∃ dep, depF par f.ns.length = dep := ⟨_, rfl⟩
          have HDL : Hid (dep.length = f.ns.length) := by rw [← hdep, depF_len]; exact Lib.hid rfl
          have HDE := Lib.hid hdep
          have HIN : Hid (in2 (fun i => fine5 (nodesAt (fs.map LF.fd) i)) (lenAt (fs.map LF.fd)) p () = loopS (chk (fine5 (f.ns.map LN.nd))) 0 f.ns.length ()) := by
            unfold in2 find1; rw [len_at hpf]; show Hid (loopS (chk (fine5 (nodesAt (fs.map LF.fd) p))) 0 f.ns.length () = _); rw [nodes_at hpf]; exact Lib.hid rfl
          have hpl : (p : Int) < fs.length := by omega
          have hfp : 0 < f.ns.length := HOKF.out.1
          clear hS hB hpf hm hokf hpar hdep
          obtain ⟨w3, hw3⟩ : ∃ wo : World, wo = wr := ⟨_, rfl⟩
          obtain rfl := hw3
          go_wp2_with fail
          refine (grow_any _ _ f.ns _ lo (HNW.out.below HS.out.bel) hfn HFF.out.2.2.2.2 HOKF.out.1 (fun k l hk => HOKF.out.2 k l.nd (nd_at hk))).mono ?_
          rintro e w4 ⟨gp, gd, rfl, hbp, hbd, hgp, hgd, hb4⟩
          rw [HPA.out] at hbp hbd
          rw [HDE.out] at hbd
          obtain ⟨hc4, hf4⟩ := bcell hb4
          have hq4 := hb4.size
          have HTS := Lib.hid (⟨(HS.out.below hb4).alloc _, Blk.new _ _ _, hbp.alloc _, hbd.alloc _⟩ : Ts w (.slice (some ⟨b, off, none⟩) fs.length c) w4.heap.size gp gd f.ns.length par dep (w4.alloc (.cells #[.slice (some ⟨gp, 0, none⟩) f.ns.length f.ns.length, .slice (some ⟨gd, 0, none⟩) f.ns.length f.ns.length] 73)))
          obtain ⟨X, hX⟩ : ∃ X, X = w4.heap.size := ⟨_, rfl⟩
          have hsz4 : w.heap.size < w4.heap.size := by omega
          have hbz : b < w4.heap.size := by omega
          clear hbp hbd hb4 hgp hgd
          go_wp2
          go_loopw [89] (fun v wr => ∃ q : Nat, q ≤ f.ns.length ∧ v = .int .i64 q ∧ in2 (fun i => fine5 (nodesAt (fs.map LF.fd) i)) (lenAt (fs.map LF.fd)) p () = loopS (chk (fine5 (f.ns.map LN.nd))) q (f.ns.length - q) () ∧ Ts w (.slice (some ⟨b, off, none⟩) fs.length c) w4.heap.size gp gd f.ns.length par dep wr) (fun v _ => f.ns.length - (intOf v).toNat)
          case atStart => exact ⟨0, Nat.zero_le _, rfl, HIN.out, HTS.out⟩
          case round =>
            clear HTS ub0 c0 c1 c2 c3 c4 c5 c6 hc4 hf4
            obtain ⟨q, hq, rfl, hC, hT⟩ := hrel
            have ub0 := hT.fs.ub.cell 0
            obtain ⟨d0, d1⟩ := box2 hT.tb
            have HT := Lib.hid hT
            have HC := Lib.hid hC
            have hszt := hT.tb.lt
            obtain ⟨b', off', e', hlo', hb', c0, c1, c2, c3, c4, c5, c6, hokf⟩ := rdF_at (H.out.below hT.fs.bel) HPF.out
            obtain ⟨rfl, rfl⟩ : b' = b ∧ off' = off := by cases e'; exact ⟨rfl, rfl⟩
            by_cases hql : q < f.ns.length
            · obtain ⟨l, hl⟩ : ∃ l, f.ns[q]? = some l := ⟨_, List.getElem?_eq_getElem hql⟩
              obtain ⟨r, hr⟩ : ∃ r, f.ns.length - q = r + 1 := ⟨f.ns.length - q - 1, by omega⟩
              have HRR := Lib.hid hr
              have HLL := Lib.hid hl
              have hqi : (q : Int) < f.ns.length := by omega
              obtain ⟨dv, hdv⟩ : ∃ v, dep[q]? = some v := ⟨_, List.getElem?_eq_getElem (by have := HDL.out; omega)⟩
              have cdv := hT.bd.cell hdv
              have hfe : Hid (fine5 (f.ns.map LN.nd) q = decide (dv ≤ 100)) := by
                unfold fine5
                rw [List.length_map, HPA.out, HDE.out, hdv]; exact Lib.hid rfl
              clear hT hC hl hr hokf e' hdv
              by_cases h1 : 100 < dv
              · have HFN : Hid (fine5 (f.ns.map LN.nd) q = false) := by rw [hfe.out]; exact Lib.hid (decide_eq_false (by omega))
                have HQ : Hid (F2 (fs.map LF.fd) = (5, (p : Int), (q : Int))) := by
                  rw [HOF2.out, HB.out, HM.out, loop2_bad (n := q) (by rw [HC.out, HRR.out, loopS_bad (chk_f HFN.out)])]; exact Lib.hid rfl
                have HS2 := Lib.hid HT.out.fs
                go_wp2_with fail
                refine (fault_any _ _ _ _).mono ?_
                rintro e w5 ⟨rfl, hb5⟩
                have HR5 := HS2.out.below hb5
                obtain ⟨r0, r1, r2⟩ := box3 HR5.rb
                have g0 := HR5.rb.frozen 0
                have g1 := HR5.rb.frozen 1
                have g2 := HR5.rb.frozen 2
                have HR6 := Lib.hid HR5
                clear HR5 hb5
                go_wp2
                refine bodyPost_ret (by simp [results, Try.results19, go_sem, *]; rfl) rfl ?_
                exact ⟨by rw [HQ.out]; rfl, ((HR6.out.bel.setCell (by simp) _).setCell (by simp) _).setCell (by simp) _⟩
              · have HFN : Hid (fine5 (f.ns.map LN.nd) q = true) := by rw [hfe.out]; exact Lib.hid (decide_eq_true (by omega))
                go_wp2
                exact ⟨⟨q + 1, by omega, by go_num, by rw [HC.out, HRR.out, loopS_ok (chk_t HFN.out), show f.ns.length - (q + 1) = r by have := HRR.out; omega], HT.out⟩, by simp [intOf]; omega⟩
            · have hqq : q = f.ns.length := by omega
              have HIN2 : Hid (in2 (fun i => fine5 (nodesAt (fs.map LF.fd) i)) (lenAt (fs.map LF.fd)) p () = .inl ()) := by
                rw [hC, hqq, Nat.sub_self]; exact Lib.hid rfl
              clear hT hC hokf e'
              go_wp2
              exact ⟨⟨p + 1, by omega, by go_num, by rw [HB.out, HM.out, loop2_ok HIN2.out, show fs.length - (p + 1) = m by have := HM.out; omega], HT.out.fs⟩, by simp [intOf]; omega⟩
        · have hpp : p = fs.length := by omega
          have HQ : Hid (F2 (fs.map LF.fd) = (0, 0, 0)) := by
            rw [HOF2.out, hB, hpp, Nat.sub_self]; exact Lib.hid rfl
          clear hS hB
          obtain ⟨r0, r1, r2⟩ := box3 HS.out.rb
          have g0 := HS.out.rb.frozen 0
          have g1 := HS.out.rb.frozen 1
          have g2 := HS.out.rb.frozen 2
          go_wp2
          refine bodyPost_ret (by simp [results, Try.results19, go_sem, *]; rfl) rfl ?_
          exact ⟨by rw [HQ.out]; rfl, ((HS.out.bel.setCell (by simp) _).setCell (by simp) _).setCell (by simp) _⟩
end Go.Proofs.Ytcpjplkbmflglaa
