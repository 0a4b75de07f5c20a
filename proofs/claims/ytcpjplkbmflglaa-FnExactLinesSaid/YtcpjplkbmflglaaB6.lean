/- The reference's tree of a function's nodes: parents and depths. -/
import Derived.Test.YtcpjplkbmflglaaW0
import Derived.Test.YtcpjplkbmflglaaB5
import Derived.Deep.DeepCutAuto
import Derived.BigRegion
namespace Go.Proofs.Ytcpjplkbmflglaa
open Go.RowKit
attribute [local go_sem] run_store_float
set_option linter.unusedVariables false
def edgeK (kids : List Int) (i : Nat) : List (Nat × Nat) := kids.map fun k => (k.toNat, i)
/-- Each kid with its parent. -/
def edges : List Nd → Nat → List (Nat × Nat)
  | [], _ => []
  | n :: r, i => edgeK n.kids i ++ edges r (i + 1)
def pstep (par : List Int) (e : Nat × Nat) : List Int := par.set e.1 (if par[e.1]? = some (-2) then (e.2 : Int) else -3)
def parG (ns : List Nd) : List Int := (edges ns 0).foldl pstep (List.replicate ns.length (-2))
def parF (ns : List Nd) : List Int := if (parG ns)[ns.length - 1]? = some (-2) then (parG ns).set (ns.length - 1) (-1) else parG ns
def dstep (par dep : List Int) (i : Nat) : List Int := match par[i]? with
  | none => dep
  | some p => if 0 ≤ p then dep.set i (dep[p.toNat]?.getD 0 + 1) else dep
def downs (k : Nat) : List Nat := (List.range k).reverse
def depF (par : List Int) (n : Nat) : List Int := (downs (n - 1)).foldl (dstep par) (List.replicate n 0)
theorem edges_take (ns : List Nd) : ∀ (i k : Nat) (n : Nd), ns[k]? = some n → edges (ns.take (k + 1)) i = edges (ns.take k) i ++ edgeK n.kids (i + k) := by
  induction ns with
  | nil => intro i k n h; simp at h
  | cons m r ih =>
    intro i k n h
    cases k with
    | zero => simp at h; subst h; simp [edges]
    | succ k =>
      simp only [List.take_succ_cons, edges]
      rw [ih (i + 1) k n (by simpa using h), List.append_assoc, show i + 1 + k = i + (k + 1) by omega]
theorem pstep_len (par : List Int) (e : Nat × Nat) : (pstep par e).length = par.length := by simp [pstep]
theorem dstep_len (par dep : List Int) (i : Nat) : (dstep par dep i).length = dep.length := by
  unfold dstep
  split
  · rfl
  · split <;> simp
theorem downs_succ (k : Nat) : downs (k + 1) = k :: downs k := by simp [downs, List.range_succ]
/-- The state of l3grow: the boxes and the two arrays. -/
structure Gs (w : World) (n g gp gd : Nat) (par dep : List Int) (W : World) : Prop where
  res : Blk W w.heap.size 73 #[.slice none 0 0, .slice none 0 0]
  box : Blk W g 73 #[.slice (some ⟨gp, 0, none⟩) n n, .slice (some ⟨gd, 0, none⟩) n n]
  bp : BI W gp par
  bd : BI W gd dep
  lp : par.length = n
  ld : dep.length = n
  og : w.heap.size < g
  op : w.heap.size < gp
  od : w.heap.size < gd
  ne1 : g ≠ gp
  ne2 : g ≠ gd
  ne3 : gp ≠ gd
  bel : Below w.heap.size w W
section
variable {w W : World} {n g gp gd : Nat} {par dep : List Int}
theorem Gs.setp (h : Gs w n g gp gd par dep W) (k : Nat) (v : Int) : Gs w n g gp gd (par.set k v) dep (W.setCell ⟨gp, k, none⟩ (.int .i64 v)) :=
  ⟨h.res.far (by have := h.op; simp; omega) _, h.box.far (by simpa using h.ne1) _, h.bp.set_ k v, h.bd.far (by simpa using h.ne3.symm) _, by simpa using h.lp, h.ld, h.og, h.op, h.od, h.ne1, h.ne2, h.ne3, h.bel.setCell (Nat.le_of_lt h.op) _⟩
theorem Gs.setd (h : Gs w n g gp gd par dep W) (k : Nat) (v : Int) : Gs w n g gp gd par (dep.set k v) (W.setCell ⟨gd, k, none⟩ (.int .i64 v)) :=
  ⟨h.res.far (by have := h.od; simp; omega) _, h.box.far (by simpa using h.ne2) _, h.bp.far (by simpa using h.ne3) _, h.bd.set_ k v, h.lp, by simpa using h.ld, h.og, h.op, h.od, h.ne1, h.ne2, h.ne3, h.bel.setCell (Nat.le_of_lt h.od) _⟩
theorem Gs.drew (h : Gs w n g gp gd par dep W) : Gs w n g gp gd par dep W.drew := ⟨h.res, h.box, h.bp, h.bd, h.lp, h.ld, h.og, h.op, h.od, h.ne1, h.ne2, h.ne3, h.bel.drew⟩
theorem Blk.new_at {w : World} {t : TypeId} {cs : Array Value} {g : Nat} (h : g = w.heap.size) : Blk (w.alloc (.cells cs t)) g t cs := by subst h; exact Blk.new w t cs
theorem BI.make_at {w : World} {n g : Nat} (h : g = w.heap.size) : BI (w.alloc (.cells (madeCells #[Value.int .i64 0] n) 3)) g (List.replicate n 0) := by subst h; exact BI.make n
theorem box2 {w : World} {g : Nat} {t : TypeId} {a b : Value} (hb : Blk w g t #[a, b]) : w.cell? ⟨g, 0, none⟩ = some a ∧ w.cell? ⟨g, 1, none⟩ = some b :=
  ⟨hb.cell 0, hb.cell 1⟩
end
/-- Parents lie behind their kids. -/
def UpL (n : Nat) (par : List Int) : Prop := ∀ (j : Nat) (p : Int), par[j]? = some p → 0 ≤ p → (j : Int) < p ∧ p < n
theorem edges_mem : ∀ (ns : List Nd) (i : Nat) (e : Nat × Nat), e ∈ edges ns i → ∃ (k : Nat) (n : Nd), ns[k]? = some n ∧ e.2 = i + k ∧ ∃ q ∈ n.kids, e.1 = q.toNat := by
  intro ns
  induction ns with
  | nil => intro i e h; simp [edges] at h
  | cons m r ih =>
    intro i e h
    simp only [edges, List.mem_append] at h
    rcases h with h | h
    · simp only [edgeK, List.mem_map] at h
      obtain ⟨q, hq, rfl⟩ := h
      exact ⟨0, m, rfl, rfl, q, hq, rfl⟩
    · obtain ⟨k, n, h1, h2, h3⟩ := ih _ _ h
      exact ⟨k + 1, n, by simpa using h1, by omega, h3⟩
theorem pstep_up {n : Nat} {par : List Int} {e : Nat × Nat} (he : e.1 < e.2 ∧ e.2 < n) (h : UpL n par) : UpL n (pstep par e) := fun j p hp h0 => by
  unfold pstep at hp
  rw [List.getElem?_set] at hp
  split at hp
  · rename_i hj
    split at hp
    · injection hp with hp
      split at hp <;> omega
    · simp at hp
  · exact h j p hp h0
theorem fold_up {n : Nat} : ∀ (es : List (Nat × Nat)) (par : List Int), (∀ e ∈ es, e.1 < e.2 ∧ e.2 < n) → UpL n par → UpL n (es.foldl pstep par) := by
  intro es
  induction es with
  | nil => intro par _ h; exact h
  | cons e r ih => intro par he h; exact ih _ (fun x hx => he x (List.mem_cons_of_mem _ hx)) (pstep_up (he e (by simp)) h)
theorem foldp_len : ∀ (es : List (Nat × Nat)) (par : List Int), (es.foldl pstep par).length = par.length := by
  intro es
  induction es with
  | nil => intro par; rfl
  | cons e r ih => intro par; rw [List.foldl_cons, ih, pstep_len]
theorem parG_len (ns : List Nd) : (parG ns).length = ns.length := by
  unfold parG
  rw [foldp_len, List.length_replicate]
theorem parF_len (ns : List Nd) : (parF ns).length = ns.length := by
  unfold parF
  split
  · rw [List.length_set, parG_len]
  · exact parG_len ns
def InAll (ns : List Nd) : Prop := ∀ (k : Nat) (n : Nd), ns[k]? = some n → kidsIn n k
theorem edges_ok {ns : List Nd} (h : InAll ns) : ∀ e ∈ edges ns 0, e.1 < e.2 ∧ e.2 < ns.length := fun e he => by
  obtain ⟨k, n, h1, h2, q, hq, h3⟩ := edges_mem ns 0 e he
  have := h k n h1 q hq
  have hk := (List.getElem?_eq_some_iff.1 h1).1
  omega
theorem parG_up {ns : List Nd} (h : InAll ns) : UpL ns.length (parG ns) := fold_up _ _ (edges_ok h) (fun j p hp h0 => by
  rw [List.getElem?_replicate] at hp
  split at hp
  · injection hp with hp; omega
  · simp at hp)
theorem parF_up {ns : List Nd} (h : InAll ns) : UpL ns.length (parF ns) := by
  unfold parF
  split
  · intro j p hp h0
    rw [List.getElem?_set] at hp
    split at hp
    · split at hp
      · injection hp with hp; omega
      · simp at hp
    · exact parG_up h j p hp h0
  · exact parG_up h
theorem rep_at (k n : Nat) (h : k < n) : (List.replicate k (-2 : Int) ++ List.replicate (n - k) 0)[k]? = some 0 := by
  rw [List.getElem?_append_right (by simp), List.length_replicate, Nat.sub_self, List.getElem?_replicate, if_pos (by omega)]
theorem rep_set (k n : Nat) (h : k < n) : (List.replicate k (-2 : Int) ++ List.replicate (n - k) 0).set k (-2) = List.replicate (k + 1) (-2) ++ List.replicate (n - (k + 1)) 0 := by
  rw [List.set_append_right _ _ (by simp), List.length_replicate, Nat.sub_self, show n - k = (n - (k + 1)) + 1 by omega, List.replicate_succ, List.set_cons_zero, List.replicate_succ', List.append_assoc]
  rfl
def GrS (w : World) (n : Nat) (e : Ending) (w' : World) (par dep : List Int) : Prop := ∃ gp gd : Nat, e = .returned (.agg #[.slice (some ⟨gp, 0, none⟩) n n, .slice (some ⟨gd, 0, none⟩) n n]) ∧ BI w' gp par ∧ BI w' gd dep ∧ w.heap.size ≤ gp ∧ w.heap.size ≤ gd ∧ Below w.heap.size w w'
theorem info3' : (Try.prog.info? 3).map (fun i => (i.zero, i.size, i.bytes)) = some (some (Value.int .i64 0), 1, 8) := by kernel_rfl
set_option maxRecDepth 100000 in
set_option maxHeartbeats 4000000 in
theorem grow_any (A : Option Addr) (c : Nat) (ls : List LN) (w : World) (lo : Nat) (h : RdN w lo A ls) (hn : ls.length ≤ 1048576) (hf : ∀ l ∈ ls, fitN l) (hpos : 0 < ls.length) (hin : ∀ k l, ls[k]? = some l → kidsIn l.nd k) :
    Calls Try.prog 39 #[.slice A ls.length c] w fun e w' => GrS w ls.length e w' (parF (ls.map LN.nd)) (depF (parF (ls.map LN.nd)) ls.length) := by
  have H := Lib.hid h; have HF := Lib.hid hf; have HI := Lib.hid hin
  obtain ⟨n, hN⟩ : ∃ n, n = ls.length := ⟨_, rfl⟩
  rw [← hN] at hn hpos ⊢
  have HN := Lib.hid hN
  clear h hf hin hN
  obtain ⟨i0, hi0, hz0, hz1, hz2⟩ := info_parts info3'
  have hmk := fun (W : World) => run_make (P := Try.prog) W 36 3 i0 _ Try.underlying36 hi0 hz0 .i64 .i64 (n : Int) (n : Int) (by omega) (by omega) (by rw [hz2]; omega) (by omega)
  rw [hz1, Nat.mul_one, Int.toNat_natCast] at hmk
  clear hz0 hz1 hz2 hi0
  go_enter Try.func39, Try.ntmps39
  go_upto_region 1 with fail
  go_cut [3] (fun s wx => ∃ g gp gd : Nat, s = .pointer (some ⟨g, 0, none⟩) ∧ Gs w n g gp gd (List.replicate n 0) (List.replicate n 0) wx)
  case first =>
    go_region
    all_goals (go_wp2_with fail; go_meet)
    all_goals (first | (refine ⟨w.heap.size + 1, w.heap.size + 1 + 1, w.heap.size + 1 + 1 + 1, rfl, Gs.drew ⟨?_, ?_, ?_, ?_, ?_, ?_, ?_, ?_, ?_, ?_, ?_, ?_, ?_⟩⟩ <;> (first | omega | (simp; done) | ((repeat (first | ((with_reducible refine Blk.new_at ?_); (simp; done)) | ((with_reducible refine BI.make_at ?_); (simp; done)) | with_reducible refine Blk.alloc ?_ _ | with_reducible refine BI.alloc ?_ _)); done) | exact ((((below_new _ _).alloc (by simp) _).alloc (by simp; omega) _).alloc (by simp; omega) _))) | (refine ⟨w.heap.size + 1, w.heap.size + 1 + 1 + 1, w.heap.size + 1 + 1, rfl, Gs.drew ⟨?_, ?_, ?_, ?_, ?_, ?_, ?_, ?_, ?_, ?_, ?_, ?_, ?_⟩⟩ <;> (first | omega | (simp; done) | ((repeat (first | ((with_reducible refine Blk.new_at ?_); (simp; done)) | ((with_reducible refine BI.make_at ?_); (simp; done)) | with_reducible refine Blk.alloc ?_ _ | with_reducible refine BI.alloc ?_ _)); done) | exact ((((below_new _ _).alloc (by simp) _).alloc (by simp; omega) _).alloc (by simp; omega) _))) | (refine ⟨w.heap.size + 1 + 1, w.heap.size + 1, w.heap.size + 1 + 1 + 1, rfl, Gs.drew ⟨?_, ?_, ?_, ?_, ?_, ?_, ?_, ?_, ?_, ?_, ?_, ?_, ?_⟩⟩ <;> (first | omega | (simp; done) | ((repeat (first | ((with_reducible refine Blk.new_at ?_); (simp; done)) | ((with_reducible refine BI.make_at ?_); (simp; done)) | with_reducible refine Blk.alloc ?_ _ | with_reducible refine BI.alloc ?_ _)); done) | exact ((((below_new _ _).alloc (by simp) _).alloc (by simp; omega) _).alloc (by simp; omega) _))) | (refine ⟨w.heap.size + 1 + 1, w.heap.size + 1 + 1 + 1, w.heap.size + 1, rfl, Gs.drew ⟨?_, ?_, ?_, ?_, ?_, ?_, ?_, ?_, ?_, ?_, ?_, ?_, ?_⟩⟩ <;> (first | omega | (simp; done) | ((repeat (first | ((with_reducible refine Blk.new_at ?_); (simp; done)) | ((with_reducible refine BI.make_at ?_); (simp; done)) | with_reducible refine Blk.alloc ?_ _ | with_reducible refine BI.alloc ?_ _)); done) | exact ((((below_new _ _).alloc (by simp) _).alloc (by simp; omega) _).alloc (by simp; omega) _))) | (refine ⟨w.heap.size + 1 + 1 + 1, w.heap.size + 1, w.heap.size + 1 + 1, rfl, Gs.drew ⟨?_, ?_, ?_, ?_, ?_, ?_, ?_, ?_, ?_, ?_, ?_, ?_, ?_⟩⟩ <;> (first | omega | (simp; done) | ((repeat (first | ((with_reducible refine Blk.new_at ?_); (simp; done)) | ((with_reducible refine BI.make_at ?_); (simp; done)) | with_reducible refine Blk.alloc ?_ _ | with_reducible refine BI.alloc ?_ _)); done) | exact ((((below_new _ _).alloc (by simp) _).alloc (by simp; omega) _).alloc (by simp; omega) _))) | (refine ⟨w.heap.size + 1 + 1 + 1, w.heap.size + 1 + 1, w.heap.size + 1, rfl, Gs.drew ⟨?_, ?_, ?_, ?_, ?_, ?_, ?_, ?_, ?_, ?_, ?_, ?_, ?_⟩⟩ <;> (first | omega | (simp; done) | ((repeat (first | ((with_reducible refine Blk.new_at ?_); (simp; done)) | ((with_reducible refine BI.make_at ?_); (simp; done)) | with_reducible refine Blk.alloc ?_ _ | with_reducible refine BI.alloc ?_ _)); done) | exact ((((below_new _ _).alloc (by simp) _).alloc (by simp; omega) _).alloc (by simp; omega) _))))
  case rest =>
    clear hmk
    obtain ⟨g, gp, gd, rfl, hG0⟩ := hcut
    go_wp2
    go_loopw [19] (fun i wr => ∃ k : Nat, k ≤ n ∧ i = .int .i64 k ∧ Gs w n g gp gd (List.replicate k (-2) ++ List.replicate (n - k) 0) (List.replicate n 0) wr) (fun i _ => n - (intOf i).toNat)
    case atStart => exact ⟨0, Nat.zero_le _, rfl, by simpa using hG0⟩
    case round =>
      clear hG0
      obtain ⟨k, hk, rfl, hG⟩ := hrel
      by_cases hlt : k < n
      · obtain ⟨c0, c1⟩ := box2 hG.box
        have hd := hG.bp.cell (k := k) (x := 0) (rep_at k n hlt)
        have fz := hG.bp.fz k
        have HG := Lib.hid hG
        clear hG
        go_wp2
        refine ⟨⟨k + 1, by omega, by go_num, ?_⟩, by simp [intOf]; omega⟩
        have := HG.out.setp k (-2)
        rw [rep_set k n hlt] at this
        exact this
      · have hkk : k = n := by omega
        subst hkk
        have hG2 : Gs w k g gp gd ((edges (List.take 0 (ls.map LN.nd)) 0).foldl pstep (List.replicate k (-2))) (List.replicate k 0) wr := by simpa [edges] using hG
        have HG0 := Lib.hid hG2
        clear hG hG2
        obtain ⟨w1, rfl⟩ : ∃ wo : World, wo = wr := ⟨_, rfl⟩
        clear hk hlt
        go_wp2
        go_loopw [29] (fun i wr => ∃ i' : Nat, i' ≤ k ∧ i = .int .i64 i' ∧ Gs w k g gp gd ((edges (List.take i' (ls.map LN.nd)) 0).foldl pstep (List.replicate k (-2))) (List.replicate k 0) wr) (fun i _ => k - (intOf i).toNat)
        case atStart => exact ⟨0, Nat.zero_le _, rfl, HG0.out⟩
        case round =>
          clear HG0
          obtain ⟨i, hi, rfl, hG⟩ := hrel
          by_cases hlt : i < k
          · obtain ⟨l, hl⟩ : ∃ l, ls[i]? = some l := ⟨_, List.getElem?_eq_getElem (by have := HN.out; omega)⟩
            obtain ⟨b, off, rfl, hlo, hb, -, -, -, -, -, -, -, c7, -⟩ := rdN_at (H.out.below hG.bel) hl
            have HOK := Lib.hid (H.out.2 l (List.mem_of_getElem? hl)).2
            have HL := Lib.hid (nd_at hl)
            have hkin := Lib.hid (HI.out i l hl)
            have hkl := (HF.out l (List.mem_of_getElem? hl)).2.2
            unfold maxLen at hkl
            obtain ⟨nd, ra, rc, ka, kc⟩ := l
            dsimp only at c7 HL hkin hkl
            have hG2 : Gs w k g gp gd ((edges (List.take i (ls.map LN.nd)) 0 ++ edgeK (nd.kids.take 0) i).foldl pstep (List.replicate k (-2))) (List.replicate k 0) wr := by simpa [edgeK] using hG
            have HG0 := Lib.hid hG2
            have hbl := hG.bel
            have HBL := Lib.hid hbl
            have hlen : i < ls.length := by have := HN.out; omega
            obtain ⟨w2, rfl⟩ : ∃ wo : World, wo = wr := ⟨_, rfl⟩
            clear hG hG2 hbl
            go_wp2
            go_loopw [38] (fun j wr => ∃ j' : Nat, j' ≤ nd.kids.length ∧ j = .int .i64 j' ∧ Gs w k g gp gd ((edges (List.take i (ls.map LN.nd)) 0 ++ edgeK (nd.kids.take j') i).foldl pstep (List.replicate k (-2))) (List.replicate k 0) wr) (fun j _ => nd.kids.length - (intOf j).toNat)
            case atStart => exact ⟨0, Nat.zero_le _, rfl, HG0.out⟩
            case round =>
              clear HG0
              obtain ⟨j, hj, rfl, hG⟩ := hrel
              by_cases hjl : j < nd.kids.length
              · obtain ⟨q, hq⟩ : ∃ q, nd.kids[j]? = some q := ⟨_, List.getElem?_eq_getElem hjl⟩
                obtain ⟨hq0, hq1⟩ := hkin.out q (List.mem_of_getElem? hq)
                obtain ⟨q, rfl⟩ : ∃ q' : Nat, q = q' := ⟨q.toNat, by omega⟩
                have hpe := Lib.hid (show (edges (List.take i (ls.map LN.nd)) 0 ++ edgeK (nd.kids.take (j + 1)) i).foldl pstep (List.replicate k (-2)) = pstep ((edges (List.take i (ls.map LN.nd)) 0 ++ edgeK (nd.kids.take j) i).foldl pstep (List.replicate k (-2))) (q, i) from by
                  rw [List.take_add_one, hq]
                  simp [edgeK, List.foldl_append])
                generalize hpar : (edges (List.take i (ls.map LN.nd)) 0 ++ edgeK (nd.kids.take j) i).foldl pstep (List.replicate k (-2)) = par at *
                clear hpar
                have hqk : q < k := by omega
                obtain ⟨v, hv⟩ : ∃ v, par[q]? = some v := ⟨_, List.getElem?_eq_getElem (by rw [hG.lp]; exact hqk)⟩
                obtain ⟨a0, a1⟩ := box2 hG.box
                have hd := hG.bp.cell hv
                have fz := hG.bp.fz q
                obtain ⟨b', off', rfl, hlo', hb', hcq⟩ := rdI_at (HOK.out.below hG.bel) hq
                have HG := Lib.hid hG
                have HV := Lib.hid hv
                have k1 : (q : Int) < k := by omega
                clear hG hv hq hq1 hq0
                by_cases hv2 : v = -2
                · subst hv2
                  go_wp2
                  refine ⟨⟨j + 1, by omega, by go_num, ?_⟩, by simp [intOf]; omega⟩
                  rw [hpe.out]
                  unfold pstep
                  rw [if_pos HV.out]
                  exact HG.out.setp q i
                · have hvb : (v == -2) = false := by simpa using hv2
                  have HV2 := Lib.hid hv2
                  clear hv2
                  go_wp2
                  refine ⟨⟨j + 1, by omega, by go_num, ?_⟩, by simp [intOf]; omega⟩
                  rw [hpe.out]
                  unfold pstep
                  rw [if_neg (fun h => HV2.out (by have := HV.out.symm.trans h; injection this))]
                  exact HG.out.setp q (-3)
              · have hjj : j = nd.kids.length := by omega
                subst hjj
                rw [List.take_length] at hG
                have hG2 := hG
                rw [← show edges (List.take (i + 1) (ls.map LN.nd)) 0 = edges (List.take i (ls.map LN.nd)) 0 ++ edgeK nd.kids i from by simpa using edges_take (ls.map LN.nd) 0 i nd HL.out] at hG2
                have HG2 := Lib.hid hG2
                clear hG hG2
                go_wp2
                exact ⟨⟨i + 1, by omega, by go_num, HG2.out⟩, by simp [intOf]; omega⟩
          · have hik : i = k := by omega
            subst hik
            have hnl : (ls.map LN.nd).length = i := by rw [List.length_map]; exact HN.out.symm
            rw [List.take_of_length_le (by omega)] at hG
            have hG2 : Gs w i g gp gd (parG (ls.map LN.nd)) (List.replicate i 0) wr := by unfold parG; rw [hnl]; exact hG
            have hIA : InAll (ls.map LN.nd) := fun k n hk => by
              rw [List.getElem?_map] at hk
              obtain ⟨l, hl, rfl⟩ := Option.map_eq_some_iff.1 hk
              exact HI.out k l hl
            have hup := parF_up hIA
            rw [hnl] at hup
            have HUP0 := Lib.hid hup
            have HNL := Lib.hid hnl
            obtain ⟨v, hv⟩ : ∃ v, (parG (ls.map LN.nd))[i - 1]? = some v := ⟨_, List.getElem?_eq_getElem (by rw [hG2.lp]; omega)⟩
            obtain ⟨a0, a1⟩ := box2 hG2.box
            have cv := hG2.bp.cell hv
            have fz := hG2.bp.fz (i - 1)
            have HGG := Lib.hid hG2
            have hi1 : ((i - 1 : Nat) : Int) = (i : Int) - 1 := by omega
            have HV := Lib.hid hv
            obtain ⟨w3, rfl⟩ : ∃ wo : World, wo = wr := ⟨_, rfl⟩
            obtain ⟨k, rfl⟩ : ∃ k, k = i := ⟨_, rfl⟩
            clear hG hG2 hv hIA hup hnl hi hlt
            have k1 : (0 : Int) ≤ (k : Int) - 1 := by omega
            have k2 : ((k : Int) - 1).toNat = k - 1 := by omega
            clear hi1
            by_cases hv2 : v = -2
            · subst hv2
              have hpf : parF (ls.map LN.nd) = (parG (ls.map LN.nd)).set (k - 1) (-1) := by unfold parF; rw [HNL.out, if_pos HV.out]
              have hG3 : Gs w k g gp gd (parF (ls.map LN.nd)) (List.replicate k 0) (w3.setCell ⟨gp, k - 1, none⟩ (.int .i64 (-1))) := by rw [hpf]; exact HGG.out.setp (k - 1) (-1)
              have HG3 := Lib.hid hG3
              obtain ⟨par, hP⟩ : ∃ par, par = parF (ls.map LN.nd) := ⟨_, rfl⟩
              have HP := Lib.hid hP
              rw [← HP.out] at HG3 HUP0
              have HUP := HUP0
              clear hpf hG3 hP HGG
              go_wp2
              go_loopw [9] (fun s wr => ∃ (m : Nat) (dep : List Int) (z : Int), s = .int .i64 z ∧ m ≤ k - 1 ∧ z + 1 = m ∧ Gs w k g gp gd par dep wr ∧ (downs m).foldl (dstep par) dep = depF par k ∧ ∀ x ∈ dep, 0 ≤ x ∧ x ≤ k - m) (fun s _ => (intOf s + 1).toNat)
              case atStart => exact ⟨k - 1, List.replicate k 0, _, rfl, Nat.le_refl _, by omega, HG3.out, rfl, fun x hx => by rw [List.eq_of_mem_replicate hx]; omega⟩
              case round =>
                obtain ⟨m, dep, z, rfl, hm, hz, hG, hF, hbd⟩ := hrel
                obtain ⟨a0, a1⟩ := box2 hG.box
                have HG := Lib.hid hG
                have HF2 := Lib.hid hF
                have HBD := Lib.hid hbd
                by_cases h0 : 0 ≤ z
                · obtain ⟨q, rfl⟩ : ∃ q : Nat, z = q := ⟨z.toNat, by omega⟩
                  obtain rfl : m = q + 1 := by omega
                  have hqk : q < k := by omega
                  obtain ⟨v, hv⟩ : ∃ v, par[q]? = some v := ⟨_, List.getElem?_eq_getElem (by rw [hG.lp]; exact hqk)⟩
                  have cv := hG.bp.cell hv
                  by_cases hv0 : 0 ≤ v
                  · obtain ⟨u1, u2⟩ := HUP.out q v hv hv0
                    obtain ⟨p, rfl⟩ : ∃ p : Nat, v = p := ⟨v.toNat, by omega⟩
                    obtain ⟨d, hd⟩ : ∃ d, dep[p]? = some d := ⟨_, List.getElem?_eq_getElem (by rw [hG.ld]; omega)⟩
                    have cd := hG.bd.cell hd
                    obtain ⟨d0, hd0⟩ : ∃ d, dep[q]? = some d := ⟨_, List.getElem?_eq_getElem (by rw [hG.ld]; omega)⟩
                    have cd0 := hG.bd.cell hd0
                    have fz := hG.bd.fz q
                    obtain ⟨e1, e2⟩ := hbd d (List.mem_of_getElem? hd)
                    have hds := Lib.hid (show dstep par dep q = dep.set q (d + 1) from by unfold dstep; rw [hv]; dsimp only; rw [if_pos hv0, Int.toNat_natCast, hd]; rfl)
                    have k1 : (p : Int) < k := by omega
                    have k2 : p < k := by omega
                    have k3 : d + 1 ≤ 9223372036854775807 := by omega
                    clear hG hF hbd hz hv hd hd0 u1 u2
                    go_wp2
                    go_region
                    go_wp2
                    refine ⟨⟨q, dep.set q (d + 1), _, rfl, by omega, by omega, (HG.out.setd q (d + 1)).drew, by rw [← hds.out]; have := HF2.out; rw [downs_succ] at this; exact this, fun x hx => ?_⟩, by first | (simp [intOf]; done) | (simp [intOf]; omega)⟩
                    rcases List.mem_or_eq_of_mem_set hx with hx | rfl
                    · have := HBD.out x hx; omega
                    · omega
                  · have hds := Lib.hid (show dstep par dep q = dep from by unfold dstep; rw [hv]; dsimp only; rw [if_neg hv0])
                    clear hG hF hbd hz hv
                    go_wp2
                    refine ⟨⟨q, dep, _, rfl, by omega, by omega, HG.out, by have := HF2.out; rw [downs_succ, List.foldl_cons, hds.out] at this; exact this, fun x hx => ?_⟩, by first | (simp [intOf]; done) | (simp [intOf]; omega)⟩
                    have := HBD.out x hx; omega
                · obtain rfl : m = 0 := by omega
                  have hdep : dep = depF par k := HF2.out
                  subst hdep
                  obtain ⟨r0, r1⟩ := box2 hG.res
                  have f0 := hG.res.frozen 0
                  have f1 := hG.res.frozen 1
                  clear hG hF hbd hz
                  go_wp2
                  refine bodyPost_ret (by simp [results, Try.results39, go_sem, *]; rfl) rfl ?_
                  have hG := HG.out
                  rw [← HP.out]
                  have e1 : gp ≠ w.heap.size := by have := hG.op; omega
                  have e2 : gd ≠ w.heap.size := by have := hG.od; omega
                  exact ⟨gp, gd, rfl, (hG.bp.far (by simpa using e1) _).far (by simpa using e1) _, (hG.bd.far (by simpa using e2) _).far (by simpa using e2) _, Nat.le_of_lt hG.op, Nat.le_of_lt hG.od, (hG.bel.setCell (Nat.le_refl _) _).setCell (Nat.le_refl _) _⟩
            · have hvb : (v == -2) = false := by simpa using hv2
              have hpf : parF (ls.map LN.nd) = parG (ls.map LN.nd) := by unfold parF; rw [HNL.out, if_neg (fun h => hv2 (by have := HV.out.symm.trans h; injection this))]
              have hG3 : Gs w k g gp gd (parF (ls.map LN.nd)) (List.replicate k 0) w3 := by rw [hpf]; exact HGG.out
              have HG3 := Lib.hid hG3
              obtain ⟨par, hP⟩ : ∃ par, par = parF (ls.map LN.nd) := ⟨_, rfl⟩
              have HP := Lib.hid hP
              rw [← HP.out] at HG3 HUP0
              have HUP := HUP0
              clear hpf hG3 hP HGG hv2
              go_wp2
              go_loopw [9] (fun s wr => ∃ (m : Nat) (dep : List Int) (z : Int), s = .int .i64 z ∧ m ≤ k - 1 ∧ z + 1 = m ∧ Gs w k g gp gd par dep wr ∧ (downs m).foldl (dstep par) dep = depF par k ∧ ∀ x ∈ dep, 0 ≤ x ∧ x ≤ k - m) (fun s _ => (intOf s + 1).toNat)
              case atStart => exact ⟨k - 1, List.replicate k 0, _, rfl, Nat.le_refl _, by omega, HG3.out, rfl, fun x hx => by rw [List.eq_of_mem_replicate hx]; omega⟩
              case round =>
                obtain ⟨m, dep, z, rfl, hm, hz, hG, hF, hbd⟩ := hrel
                obtain ⟨a0, a1⟩ := box2 hG.box
                have HG := Lib.hid hG
                have HF2 := Lib.hid hF
                have HBD := Lib.hid hbd
                by_cases h0 : 0 ≤ z
                · obtain ⟨q, rfl⟩ : ∃ q : Nat, z = q := ⟨z.toNat, by omega⟩
                  obtain rfl : m = q + 1 := by omega
                  have hqk : q < k := by omega
                  obtain ⟨v, hv⟩ : ∃ v, par[q]? = some v := ⟨_, List.getElem?_eq_getElem (by rw [hG.lp]; exact hqk)⟩
                  have cv := hG.bp.cell hv
                  by_cases hv0 : 0 ≤ v
                  · obtain ⟨u1, u2⟩ := HUP.out q v hv hv0
                    obtain ⟨p, rfl⟩ : ∃ p : Nat, v = p := ⟨v.toNat, by omega⟩
                    obtain ⟨d, hd⟩ : ∃ d, dep[p]? = some d := ⟨_, List.getElem?_eq_getElem (by rw [hG.ld]; omega)⟩
                    have cd := hG.bd.cell hd
                    obtain ⟨d0, hd0⟩ : ∃ d, dep[q]? = some d := ⟨_, List.getElem?_eq_getElem (by rw [hG.ld]; omega)⟩
                    have cd0 := hG.bd.cell hd0
                    have fz := hG.bd.fz q
                    obtain ⟨e1, e2⟩ := hbd d (List.mem_of_getElem? hd)
                    have hds := Lib.hid (show dstep par dep q = dep.set q (d + 1) from by unfold dstep; rw [hv]; dsimp only; rw [if_pos hv0, Int.toNat_natCast, hd]; rfl)
                    have k1 : (p : Int) < k := by omega
                    have k2 : p < k := by omega
                    have k3 : d + 1 ≤ 9223372036854775807 := by omega
                    clear hG hF hbd hz hv hd hd0 u1 u2
                    go_wp2
                    go_region
                    go_wp2
                    refine ⟨⟨q, dep.set q (d + 1), _, rfl, by omega, by omega, (HG.out.setd q (d + 1)).drew, by rw [← hds.out]; have := HF2.out; rw [downs_succ] at this; exact this, fun x hx => ?_⟩, by first | (simp [intOf]; done) | (simp [intOf]; omega)⟩
                    rcases List.mem_or_eq_of_mem_set hx with hx | rfl
                    · have := HBD.out x hx; omega
                    · omega
                  · have hds := Lib.hid (show dstep par dep q = dep from by unfold dstep; rw [hv]; dsimp only; rw [if_neg hv0])
                    clear hG hF hbd hz hv
                    go_wp2
                    refine ⟨⟨q, dep, _, rfl, by omega, by omega, HG.out, by have := HF2.out; rw [downs_succ, List.foldl_cons, hds.out] at this; exact this, fun x hx => ?_⟩, by first | (simp [intOf]; done) | (simp [intOf]; omega)⟩
                    have := HBD.out x hx; omega
                · obtain rfl : m = 0 := by omega
                  have hdep : dep = depF par k := HF2.out
                  subst hdep
                  obtain ⟨r0, r1⟩ := box2 hG.res
                  have f0 := hG.res.frozen 0
                  have f1 := hG.res.frozen 1
                  clear hG hF hbd hz
                  go_wp2
                  refine bodyPost_ret (by simp [results, Try.results39, go_sem, *]; rfl) rfl ?_
                  have hG := HG.out
                  rw [← HP.out]
                  have e1 : gp ≠ w.heap.size := by have := hG.op; omega
                  have e2 : gd ≠ w.heap.size := by have := hG.od; omega
                  exact ⟨gp, gd, rfl, (hG.bp.far (by simpa using e1) _).far (by simpa using e1) _, (hG.bd.far (by simpa using e2) _).far (by simpa using e2) _, Nat.le_of_lt hG.op, Nat.le_of_lt hG.od, (hG.bel.setCell (Nat.le_refl _) _).setCell (Nat.le_refl _) _⟩
end Go.Proofs.Ytcpjplkbmflglaa
