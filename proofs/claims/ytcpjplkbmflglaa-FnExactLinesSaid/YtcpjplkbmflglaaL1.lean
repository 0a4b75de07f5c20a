/- Parents and counts: what code 4 asks, both ways. -/
import Derived.Test.YtcpjplkbmflglaaE5
import Derived.Test.YtcpjplkbmflglaaE4
namespace Go.Proofs.Ytcpjplkbmflglaa
open Go.RowKit
set_option linter.unusedVariables false
/-- How many edges lead up from k. -/
def cntE (es : List (Nat × Nat)) (k : Nat) : Nat := es.countP (fun e => e.1 == k)
def parR (es : List (Nat × Nat)) (k : Nat) (x : Int) : Prop := (cntE es k = 0 ∧ x = -2) ∨ (cntE es k = 1 ∧ ∃ i : Nat, (k, i) ∈ es ∧ x = i) ∨ (2 ≤ cntE es k ∧ x = -3)
theorem cntE_snoc (es : List (Nat × Nat)) (e : Nat × Nat) (k : Nat) : cntE (es ++ [e]) k = cntE es k + if e.1 = k then 1 else 0 := by
  unfold cntE
  rw [List.countP_append, List.countP_singleton]
  simp
theorem pstep_rel {n : Nat} {pre : List (Nat × Nat)} {par : List Int} {e : Nat × Nat} (he : e.1 < n) (h : ∀ k, k < n → ∃ x, par[k]? = some x ∧ parR pre k x) : ∀ k, k < n → ∃ x, (pstep par e)[k]? = some x ∧ parR (pre ++ [e]) k x := fun k hk => by
  obtain ⟨x, hx, hr⟩ := h k hk
  have hkl := (List.getElem?_eq_some_iff.1 hx).1
  unfold pstep
  by_cases ek : e.1 = k
  · rw [ek, List.getElem?_set_self hkl]
    refine ⟨_, rfl, ?_⟩
    have hc := cntE_snoc pre e k
    rw [if_pos ek] at hc
    have hm : (k, e.2) ∈ pre ++ [e] := List.mem_append.2 (.inr (by rw [List.mem_singleton]; exact Prod.ext ek.symm rfl))
    rw [hx]
    rcases hr with ⟨h0, rfl⟩ | ⟨h1, i, hi, rfl⟩ | ⟨h2, rfl⟩
    · rw [if_pos rfl]
      exact .inr (.inl ⟨by omega, e.2, hm, rfl⟩)
    · rw [if_neg (fun hh => by have := Option.some.inj hh; omega)]
      exact .inr (.inr ⟨by omega, rfl⟩)
    · rw [if_neg (fun hh => by have := Option.some.inj hh; omega)]
      exact .inr (.inr ⟨by omega, rfl⟩)
  · rw [List.getElem?_set_ne ek]
    refine ⟨x, hx, ?_⟩
    have hc := cntE_snoc pre e k
    rw [if_neg ek] at hc
    rcases hr with ⟨h0, rfl⟩ | ⟨h1, i, hi, rfl⟩ | ⟨h2, rfl⟩
    · exact .inl ⟨by omega, rfl⟩
    · exact .inr (.inl ⟨by omega, i, List.mem_append_left _ hi, rfl⟩)
    · exact .inr (.inr ⟨by omega, rfl⟩)
theorem pfold_rel {n : Nat} : ∀ (es pre : List (Nat × Nat)) (par : List Int), (∀ e ∈ es, e.1 < n) → (∀ k, k < n → ∃ x, par[k]? = some x ∧ parR pre k x) → ∀ k, k < n → ∃ x, (es.foldl pstep par)[k]? = some x ∧ parR (pre ++ es) k x := by
  intro es
  induction es with
  | nil => intro pre par _ h k hk; rw [List.append_nil]; exact h k hk
  | cons e r ih =>
    intro pre par he h k hk
    have := ih (pre ++ [e]) (pstep par e) (fun e' h' => he e' (List.mem_cons_of_mem _ h')) (pstep_rel (he e List.mem_cons_self) h) k hk
    rw [List.append_assoc] at this
    exact this
theorem parG_rel {ns : List Nd} (h : InAll ns) {k : Nat} (hk : k < ns.length) : ∃ x, (parG ns)[k]? = some x ∧ parR (edges ns 0) k x := by
  have := pfold_rel (n := ns.length) (edges ns 0) [] (List.replicate ns.length (-2)) (fun e he => by have := edges_ok h e he; omega) (fun j hj => ⟨-2, by rw [List.getElem?_replicate, if_pos hj], .inl ⟨rfl, rfl⟩⟩) k hk
  rw [List.nil_append] at this
  exact this
def ustep (u : List Int) (e : Nat × Nat) : List Int := u.set e.1 ((u[e.1]?).getD 0 + 1)
theorem used_edges : ∀ (ns : List Nd) (i : Nat) (u : List Int), ns.foldl unode u = (edges ns i).foldl ustep u := by
  intro ns
  induction ns with
  | nil => intro i u; rfl
  | cons n r ih =>
    intro i u
    rw [List.foldl_cons, edges, List.foldl_append, ih (i + 1)]
    congr 1
    unfold unode edgeK
    rw [List.foldl_map]
    rfl
theorem ufold_len : ∀ (es : List (Nat × Nat)) (u : List Int), (es.foldl ustep u).length = u.length := by
  intro es
  induction es with
  | nil => intro u; rfl
  | cons e r ih => intro u; rw [List.foldl_cons, ih]; unfold ustep; rw [List.length_set]
theorem ufold_at : ∀ (es : List (Nat × Nat)) (u : List Int) (k : Nat) (x : Int), u[k]? = some x → (es.foldl ustep u)[k]? = some (x + cntE es k) := by
  intro es
  induction es with
  | nil => intro u k x h; simpa [cntE] using h
  | cons e r ih =>
    intro u k x h
    rw [List.foldl_cons]
    have hkl := (List.getElem?_eq_some_iff.1 h).1
    by_cases ek : e.1 = k
    · have h2 : (ustep u e)[k]? = some (x + 1) := by unfold ustep; rw [ek, List.getElem?_set_self hkl, h]; rfl
      rw [ih _ k _ h2]
      have : cntE (e :: r) k = cntE r k + 1 := by unfold cntE; rw [List.countP_cons_of_pos (by simpa using ek)]
      rw [this]
      congr 1
      omega
    · have h2 : (ustep u e)[k]? = some x := by unfold ustep; rw [List.getElem?_set_ne ek, h]
      rw [ih _ k _ h2]
      have : cntE (e :: r) k = cntE r k := by unfold cntE; rw [List.countP_cons_of_neg (by simpa using ek)]
      rw [this]
theorem used_at {ns : List Nd} {k : Nat} (hk : k < ns.length) : (usedP ns)[k]? = some (cntE (edges ns 0) k : Int) := by
  unfold usedP
  rw [used_edges ns 0, ufold_at _ _ k 0 (by rw [List.getElem?_replicate, if_pos hk])]
  simp
theorem cntE_zero {es : List (Nat × Nat)} {k : Nat} (h : ∀ e ∈ es, e.1 ≠ k) : cntE es k = 0 := by
  unfold cntE
  rw [List.countP_eq_zero]
  intro e he
  simpa using h e he
theorem last_no_edge {ns : List Nd} (h : InAll ns) {k : Nat} (hk : k + 1 = ns.length) : cntE (edges ns 0) k = 0 := cntE_zero fun e he => by have := edges_ok h e he; omega
theorem parF_other {ns : List Nd} {k : Nat} (hk : k + 1 ≠ ns.length) (hkl : k < ns.length) : (parF ns)[k]? = (parG ns)[k]? := by
  unfold parF
  split
  · rw [List.getElem?_set_ne (by omega)]
  · rfl
theorem parF_last {ns : List Nd} (h : InAll ns) {k : Nat} (hk : k + 1 = ns.length) : (parF ns)[k]? = some (-1) := by
  obtain ⟨x, hx, hr⟩ := parG_rel h (show k < ns.length by omega)
  have hc := last_no_edge h hk
  have hx2 : x = -2 := by
    rcases hr with ⟨-, e⟩ | ⟨h1, -⟩ | ⟨h2, -⟩
    · exact e
    · omega
    · omega
  subst hx2
  have e1 : ns.length - 1 = k := by omega
  unfold parF
  rw [e1, if_pos hx, List.getElem?_set_self (by rw [parG_len]; omega)]
theorem fine4_eq {ns : List Nd} (h : InAll ns) {k : Nat} (hk : k < ns.length) : fine4p ns k = fine4 ns k := by
  unfold fine4p fine4
  by_cases hl : k + 1 = ns.length
  · rw [if_pos hl, if_pos hl, parF_last h hl]
    simp
  · rw [if_neg hl, if_neg hl, used_at hk, parF_other hl hk]
    obtain ⟨x, hx, hr⟩ := parG_rel h hk
    rw [hx]
    simp only [Option.getD_some]
    rcases hr with ⟨h0, rfl⟩ | ⟨h1, i, -, rfl⟩ | ⟨h2, rfl⟩
    · rw [h0]; rfl
    · rw [h1]; simp
    · have : ((cntE (edges ns 0) k : Int) == 1) = false := beq_eq_false_iff_ne.2 (by omega)
      rw [this]; rfl
/-- Each node below the last has just one parent. -/
def Tree (ns : List Nd) : Prop := ∀ k, k + 1 < ns.length → cntE (edges ns 0) k = 1
theorem tree_of {ns : List Nd} (h : InAll ns) (hf : ∀ k, k < ns.length → fine4 ns k = true) : Tree ns := fun k hk => by
  have := hf k (by omega)
  rw [← fine4_eq h (by omega)] at this
  unfold fine4p at this
  rw [if_neg (by omega), used_at (by omega)] at this
  simp at this
  omega
theorem countP_one {α : Type} {p : α → Bool} {l : List α} (h : l.countP p = 1) {a b : α} (ha : a ∈ l) (pa : p a = true) (hb : b ∈ l) (pb : p b = true) : a = b := by
  rw [List.countP_eq_length_filter] at h
  obtain ⟨c, hc⟩ := List.length_eq_one_iff.1 h
  have h1 : a ∈ l.filter p := List.mem_filter.2 ⟨ha, pa⟩
  have h2 : b ∈ l.filter p := List.mem_filter.2 ⟨hb, pb⟩
  rw [hc, List.mem_singleton] at h1 h2
  rw [h1, h2]
theorem edge_of_kid : ∀ (ns : List Nd) (i m : Nat) (n : Nd) (k : Int), ns[m]? = some n → k ∈ n.kids → (k.toNat, i + m) ∈ edges ns i := by
  intro ns
  induction ns with
  | nil => intro i m n k h; simp at h
  | cons a r ih =>
    intro i m n k h hk
    rw [edges]
    cases m with
    | zero =>
      simp at h; subst h
      exact List.mem_append_left _ (List.mem_map.2 ⟨k, hk, rfl⟩)
    | succ m =>
      have := ih (i + 1) m n k (by simpa using h) hk
      rw [show i + 1 + m = i + (m + 1) by omega] at this
      exact List.mem_append_right _ this
/-- A kid's parent. -/
theorem par_of_kid {ns : List Nd} (h : InAll ns) (ht : Tree ns) {m : Nat} {n : Nd} {k : Nat} (hm : ns[m]? = some n) (hk : (k : Int) ∈ n.kids) : (parF ns)[k]? = some (m : Int) := by
  have hml := (List.getElem?_eq_some_iff.1 hm).1
  have hkm := (h m n hm k hk).2
  have hkl : k + 1 < ns.length := by omega
  rw [parF_other (by omega) (by omega)]
  obtain ⟨x, hx, hr⟩ := parG_rel h (show k < ns.length by omega)
  have h1 := ht k hkl
  rcases hr with ⟨h0, -⟩ | ⟨-, i, hi, rfl⟩ | ⟨h2, -⟩
  · omega
  · have he := edge_of_kid ns 0 m n k hm hk
    rw [Int.toNat_natCast, Nat.zero_add] at he
    have := countP_one (p := fun e : Nat × Nat => e.1 == k) h1 hi (by simp) he (by simp)
    rw [hx]
    have := congrArg Prod.snd this
    simp at this
    rw [this]
  · omega
/-- Each node below the last is a kid. -/
theorem kid_of {ns : List Nd} (h : InAll ns) (ht : Tree ns) {k : Nat} (hk : k + 1 < ns.length) : ∃ (m : Nat) (n : Nd), ns[m]? = some n ∧ (k : Int) ∈ n.kids := by
  have h1 := ht k hk
  have : 0 < (edges ns 0).countP (fun e => e.1 == k) := by unfold cntE at h1; omega
  obtain ⟨e, he, hp⟩ := List.countP_pos_iff.1 this
  obtain ⟨m, n, hm, -, q, hq, e1⟩ := edges_mem ns 0 e he
  have hq0 := (h m n hm q hq).1
  simp at hp
  refine ⟨m, n, hm, ?_⟩
  have : q = (k : Int) := by omega
  rwa [this] at hq
theorem cntE_append (a b : List (Nat × Nat)) (k : Nat) : cntE (a ++ b) k = cntE a k + cntE b k := by unfold cntE; rw [List.countP_append]
theorem cnt_kids : ∀ (ns : List Nd) (i m : Nat) (n : Nd) (k : Nat), ns[m]? = some n → (∀ q ∈ n.kids, 0 ≤ q) → n.kids.count (k : Int) ≤ cntE (edges ns i) k := by
  intro ns
  induction ns with
  | nil => intro i m n k h; simp at h
  | cons a r ih =>
    intro i m n k h h0
    rw [edges, cntE_append]
    cases m with
    | zero =>
      simp at h; subst h
      have : a.kids.count (k : Int) ≤ cntE (edgeK a.kids i) k := by
        unfold cntE edgeK
        rw [List.countP_map, List.count_eq_countP]
        refine List.countP_mono_left fun q hq e => ?_
        have : q = (k : Int) := by simpa using e
        simp [this]
      omega
    | succ m =>
      have := ih (i + 1) m n k (by simpa using h) h0
      omega
theorem count_two {l : List Int} {i j : Nat} {x : Int} (hij : i < j) (hi : l[i]? = some x) (hj : l[j]? = some x) : 2 ≤ l.count x := by
  have e : l = l.take j ++ l.drop j := (List.take_append_drop j l).symm
  rw [e, List.count_append]
  have h1 : 0 < (l.take j).count x := List.count_pos_iff.2 (List.mem_of_getElem? (i := i) (by rw [List.getElem?_take, if_pos hij]; exact hi))
  have h2 : 0 < (l.drop j).count x := List.count_pos_iff.2 (List.mem_of_getElem? (i := 0) (by rw [List.getElem?_drop]; exact hj))
  omega
theorem placeG_at : ∀ (ks : List Int) (x : Int) (s j : Nat), ks[j]? = some x → (∀ i, i < j → ks[i]? ≠ some x) → placeG ks x s = ((s + j : Nat) : Int) := by
  intro ks
  induction ks with
  | nil => intro x s j h; simp at h
  | cons k r ih =>
    intro x s j h h0
    rw [placeG]
    cases j with
    | zero => simp at h; rw [if_pos h]; rfl
    | succ j =>
      have hne : ¬ k = x := fun e => h0 0 (by omega) (by simp [e])
      rw [if_neg hne, ih x (s + 1) j (by simpa using h) (fun i hi => by have := h0 (i + 1) (by omega); simpa using this)]
      congr 1
      omega
/-- A kid's place. -/
theorem place_kid {ns : List Nd} (h : InAll ns) (ht : Tree ns) {m : Nat} {n : Nd} {k j : Nat} (hm : ns[m]? = some n) (hk : n.kids[j]? = some (k : Int)) : placeL n.kids k = (j : Int) := by
  have hml := (List.getElem?_eq_some_iff.1 hm).1
  have hkm := (h m n hm k (List.mem_of_getElem? hk)).2
  have h1 := ht k (by omega)
  have hc := cnt_kids ns 0 m n k hm (fun q hq => (h m n hm q hq).1)
  unfold placeL
  rw [placeG_at n.kids k 0 j hk (fun i hi e => by have := count_two hi e hk; omega), Nat.zero_add]
theorem placeG_mem : ∀ (ks : List Int) (x : Int) (s : Nat), 0 ≤ placeG ks x s ↔ x ∈ ks := by
  intro ks
  induction ks with
  | nil => intro x s; simp [placeG]
  | cons k r ih =>
    intro x s
    rw [placeG]
    by_cases e : k = x
    · rw [if_pos e]; simp [e]
    · rw [if_neg e, ih]; simp; exact fun h => absurd h.symm e
theorem placeL_mem (ks : List Int) (x : Int) : 0 ≤ placeL ks x ↔ x ∈ ks := placeG_mem ks x 0
end Go.Proofs.Ytcpjplkbmflglaa
namespace Go.Proofs.Ytcpjplkbmflglaa
open Go.RowKit
set_option linter.unusedVariables false
theorem dfold_len (par : List Int) : ∀ (l : List Nat) (d : List Int), (l.foldl (dstep par) d).length = d.length := by
  intro l
  induction l with
  | nil => intro d; rfl
  | cons i r ih => intro d; rw [List.foldl_cons, ih, dstep_len]
theorem dstep_other {par d : List Int} {i k : Nat} (h : i ≠ k) : (dstep par d i)[k]? = d[k]? := by
  unfold dstep
  split
  · rfl
  · split
    · rw [List.getElem?_set_ne h]
    · rfl
theorem ddown_other {par : List Int} : ∀ (j : Nat) (d : List Int) (k : Nat), j ≤ k → ((downs j).foldl (dstep par) d)[k]? = d[k]? := by
  intro j
  induction j with
  | zero => intro d k _; rfl
  | succ j ih =>
    intro d k hk
    rw [downs_succ, List.foldl_cons, ih _ k (by omega), dstep_other (by omega)]
theorem ddown_at {par : List Int} : ∀ (j : Nat) (d : List Int) (i p : Nat), i < j → j ≤ d.length → par[i]? = some (p : Int) → i < p → p < d.length → ∃ x, ((downs j).foldl (dstep par) d)[p]? = some x ∧ ((downs j).foldl (dstep par) d)[i]? = some (x + 1) := by
  intro j
  induction j with
  | zero => intro d i p hi; omega
  | succ j ih =>
    intro d i p hi hj hp hip hpl
    rw [downs_succ, List.foldl_cons]
    by_cases e : i = j
    · subst e
      obtain ⟨x, hx⟩ : ∃ x, d[p]? = some x := ⟨_, List.getElem?_eq_getElem hpl⟩
      refine ⟨x, ?_, ?_⟩
      · rw [ddown_other _ _ _ (by omega), dstep_other (by omega)]; exact hx
      · rw [ddown_other _ _ _ (Nat.le_refl _)]
        unfold dstep
        rw [hp]
        simp only
        rw [if_pos (by omega), List.getElem?_set_self (by omega), Int.toNat_natCast, hx]
        rfl
    · exact ih _ i p (by omega) (by rw [dstep_len]; omega) hp hip (by rw [dstep_len]; exact hpl)
/-- The reference's depth of a kid. -/
theorem depF_kid {ns : List Nd} (h : InAll ns) (ht : Tree ns) {m : Nat} {n : Nd} {k : Nat} (hm : ns[m]? = some n) (hk : (k : Int) ∈ n.kids) : ∃ x, (depF (parF ns) ns.length)[m]? = some x ∧ (depF (parF ns) ns.length)[k]? = some (x + 1) := by
  have hml := (List.getElem?_eq_some_iff.1 hm).1
  have hkm := (h m n hm k hk).2
  unfold depF
  exact ddown_at (ns.length - 1) _ k m (by omega) (by simp) (par_of_kid h ht hm hk) (by omega) (by simpa using hml)
theorem depF_last {ns : List Nd} {k : Nat} (hk : k + 1 = ns.length) : (depF (parF ns) ns.length)[k]? = some 0 := by
  unfold depF
  rw [ddown_other _ _ _ (by omega), List.getElem?_replicate, if_pos (by omega)]
theorem kset_len (n : Nat) : ∀ (ks : List Int) (d : List Int), (ks.foldl (kset n) d).length = d.length := by
  intro ks
  induction ks with
  | nil => intro d; rfl
  | cons k r ih => intro d; rw [List.foldl_cons, ih]; unfold kset; rw [List.length_set]
theorem kfold_other (n : Nat) : ∀ (ks : List Int) (d : List Int) (k : Nat), (∀ q ∈ ks, q.toNat ≠ k) → (ks.foldl (kset n) d)[k]? = d[k]? := by
  intro ks
  induction ks with
  | nil => intro d k _; rfl
  | cons q r ih =>
    intro d k h
    rw [List.foldl_cons, ih _ k (fun q' h' => h q' (List.mem_cons_of_mem _ h'))]
    unfold kset
    rw [List.getElem?_set_ne (h q List.mem_cons_self)]
theorem kfold_at (n : Nat) : ∀ (ks : List Int) (d : List Int) (k : Nat) (x : Int), (∀ q ∈ ks, 0 ≤ q ∧ q < n) → d[n]? = some x → (k : Int) ∈ ks → k < d.length → (ks.foldl (kset n) d)[k]? = some (x + 1) := by
  intro ks
  induction ks with
  | nil => intro d k x _ _ hk; simp at hk
  | cons q r ih =>
    intro d k x h hx hk hkl
    rw [List.foldl_cons]
    have hq := h q List.mem_cons_self
    have hn : (kset n d q)[n]? = some x := by unfold kset; rw [List.getElem?_set_ne (by omega), hx]
    by_cases hkr : (k : Int) ∈ r
    · exact ih _ k x (fun q' h' => h q' (List.mem_cons_of_mem _ h')) hn hkr (by unfold kset; rw [List.length_set]; exact hkl)
    · have e : q = (k : Int) := by
        rcases List.mem_cons.1 hk with e | e
        · exact e.symm
        · exact absurd e hkr
      rw [kfold_other n r _ k (fun q' h' e' => hkr (by have := h q' (List.mem_cons_of_mem _ h'); have e2 : q' = (k : Int) := by omega
                                                       rwa [e2] at h'))]
      unfold kset
      rw [e, Int.toNat_natCast, List.getElem?_set_self hkl, hx]
      rfl
theorem dpfold_len (ns : List Nd) : ∀ (l : List Nat) (d : List Int), (l.foldl (dpstep ns) d).length = d.length := by
  intro l
  induction l with
  | nil => intro d; rfl
  | cons i r ih => intro d; rw [List.foldl_cons, ih]; unfold dpstep; rw [kset_len]
theorem kids_at {ns : List Nd} (h : InAll ns) (i : Nat) : ∀ q ∈ (ndAt ns i).kids, 0 ≤ q ∧ q < i := fun q hq => by
  unfold ndAt at hq
  cases hn : ns[i]? with
  | none => rw [hn] at hq; simp [noNd] at hq
  | some n => rw [hn] at hq; exact h i n hn q hq
theorem dpdown_other {ns : List Nd} (h : InAll ns) : ∀ (j : Nat) (d : List Int) (k : Nat), (∀ i, i < j → (k : Int) ∉ (ndAt ns i).kids) → ((downs j).foldl (dpstep ns) d)[k]? = d[k]? := by
  intro j
  induction j with
  | zero => intro d k _; rfl
  | succ j ih =>
    intro d k hk
    rw [downs_succ, List.foldl_cons, ih _ k (fun i hi => hk i (by omega))]
    unfold dpstep
    refine kfold_other j _ d k (fun q hq e => hk j (by omega) ?_)
    have := kids_at h j q hq
    have e2 : q = (k : Int) := by omega
    rwa [e2] at hq
theorem dpdown_at {ns : List Nd} (h : InAll ns) (ht : Tree ns) {m : Nat} {n : Nd} {k : Nat} (hm : ns[m]? = some n) (hk : (k : Int) ∈ n.kids) : ∀ (j : Nat) (d : List Int), m < j → d.length = ns.length → ∃ x, ((downs j).foldl (dpstep ns) d)[m]? = some x ∧ ((downs j).foldl (dpstep ns) d)[k]? = some (x + 1) := by
  have hml := (List.getElem?_eq_some_iff.1 hm).1
  have hkm := (h m n hm k hk).2
  intro j
  induction j with
  | zero => intro d hj; omega
  | succ j ih =>
    intro d hj hd
    rw [downs_succ, List.foldl_cons]
    by_cases e : m = j
    · subst e
      obtain ⟨x, hx⟩ : ∃ x, d[m]? = some x := ⟨_, List.getElem?_eq_getElem (by omega)⟩
      have hnd : ndAt ns m = n := by unfold ndAt; rw [hm]; rfl
      refine ⟨x, ?_, ?_⟩
      · rw [dpdown_other h m _ m (fun i hi hmi => by have := kids_at h i m hmi; omega)]
        unfold dpstep
        rw [kfold_other m _ d m (fun q hq e => by have := kids_at h m q hq; omega)]
        exact hx
      · rw [dpdown_other h m _ k (fun i hi hki => by
          have hi2 : i < ns.length := by omega
          obtain ⟨n', hn'⟩ : ∃ n', ns[i]? = some n' := ⟨_, List.getElem?_eq_getElem hi2⟩
          have e2 : ndAt ns i = n' := by unfold ndAt; rw [hn']; rfl
          rw [e2] at hki
          have p1 := par_of_kid h ht hm hk
          have p2 := par_of_kid h ht hn' hki
          rw [p1] at p2
          have := Option.some.inj p2
          omega)]
        unfold dpstep
        exact kfold_at m _ d k x (kids_at h m) hx (by rw [hnd]; exact hk) (by omega)
    · exact ih _ (by omega) (by unfold dpstep; rw [kset_len]; exact hd)
theorem depP_kid {ns : List Nd} (h : InAll ns) (ht : Tree ns) {m : Nat} {n : Nd} {k : Nat} (hm : ns[m]? = some n) (hk : (k : Int) ∈ n.kids) : ∃ x, (depP ns)[m]? = some x ∧ (depP ns)[k]? = some (x + 1) :=
  dpdown_at h ht hm hk ns.length _ (List.getElem?_eq_some_iff.1 hm).1 (by simp)
theorem depP_last {ns : List Nd} (h : InAll ns) {k : Nat} (hk : k + 1 = ns.length) : (depP ns)[k]? = some 0 := by
  unfold depP
  rw [dpdown_other h _ _ k (fun i hi hki => by have := kids_at h i k hki; omega), List.getElem?_replicate, if_pos (by omega)]
theorem dep_eq {ns : List Nd} (h : InAll ns) (ht : Tree ns) : ∀ (g k : Nat), k + g + 1 = ns.length ∨ (k < ns.length ∧ ns.length ≤ k + g + 1) → (depP ns)[k]? = (depF (parF ns) ns.length)[k]? := by
  intro g
  induction g with
  | zero =>
    intro k hk
    rw [depP_last h (by omega), depF_last (by omega)]
  | succ g ih =>
    intro k hk
    by_cases hl : k + 1 = ns.length
    · rw [depP_last h hl, depF_last hl]
    · obtain ⟨m, n, hm, hkm⟩ := kid_of h ht (k := k) (by omega)
      have hml := (List.getElem?_eq_some_iff.1 hm).1
      have hlt := (h m n hm k hkm).2
      obtain ⟨x, hx, hxk⟩ := depP_kid h ht hm hkm
      obtain ⟨y, hy, hyk⟩ := depF_kid h ht hm hkm
      have := ih m (by omega)
      rw [hx, hy] at this
      rw [hxk, hyk, Option.some.inj this]
theorem fine5_eq {ns : List Nd} (h : InAll ns) (ht : Tree ns) {k : Nat} (hk : k < ns.length) : fine5p ns k = fine5 ns k := by
  unfold fine5p fine5
  rw [dep_eq h ht ns.length k (by omega)]
end Go.Proofs.Ytcpjplkbmflglaa
namespace Go.Proofs.Ytcpjplkbmflglaa
open Go.RowKit
set_option linter.unusedVariables false
theorem visUp_fuel {ns : List Nd} {par : List Int} (hup : UpL ns.length par) (v : Int) : ∀ (f1 f2 : Nat) (below up : Int), (0 ≤ up → (ns.length : Int) - up ≤ f1 ∧ (ns.length : Int) - up ≤ f2) → visUp ns par v f1 below up = visUp ns par v f2 below up := by
  intro f1
  induction f1 with
  | zero =>
    intro f2 below up h
    cases f2 with
    | zero => rfl
    | succ f2 =>
      rw [visUp, visUp]
      by_cases h0 : up < 0
      · rw [if_pos h0]
      · rw [if_neg h0]
        have := h (by omega)
        rw [List.getElem?_eq_none (by omega)]
  | succ f1 ih =>
    intro f2 below up h
    by_cases h0 : up < 0
    · cases f2 with
      | zero => rw [visUp, visUp, if_pos h0]
      | succ f2 => rw [visUp, visUp, if_pos h0, if_pos h0]
    · have hh := h (by omega)
      cases f2 with
      | zero =>
        rw [visUp, visUp, if_neg h0, List.getElem?_eq_none (by omega)]
      | succ f2 =>
        rw [visUp, visUp, if_neg h0, if_neg h0]
        cases hn : ns[up.toNat]? with
        | none => rfl
        | some n =>
          simp only
          congr 1
          refine ih f2 up _ (fun hp => ?_)
          have hl := (List.getElem?_eq_some_iff.1 hn).1
          cases hpp : par[up.toNat]? with
          | none => rw [hpp] at hp; simp at hp
          | some p =>
            rw [hpp] at hp
            simp only [Option.getD_some] at hp ⊢
            have := hup up.toNat p hpp hp
            omega
theorem inUp_fuel {ns : List Nd} {par : List Int} (hup : UpL ns.length par) : ∀ (f1 f2 : Nat) (below up : Int), (0 ≤ up → (ns.length : Int) - up ≤ f1 ∧ (ns.length : Int) - up ≤ f2) → inUp ns par f1 below up = inUp ns par f2 below up := by
  intro f1
  induction f1 with
  | zero =>
    intro f2 below up h
    cases f2 with
    | zero => rfl
    | succ f2 =>
      rw [inUp, inUp]
      by_cases h0 : up < 0
      · rw [if_pos h0]
      · rw [if_neg h0]
        have := h (by omega)
        rw [List.getElem?_eq_none (by omega)]
  | succ f1 ih =>
    intro f2 below up h
    by_cases h0 : up < 0
    · cases f2 with
      | zero => rw [inUp, inUp, if_pos h0]
      | succ f2 => rw [inUp, inUp, if_pos h0, if_pos h0]
    · have hh := h (by omega)
      cases f2 with
      | zero =>
        rw [inUp, inUp, if_neg h0, List.getElem?_eq_none (by omega)]
      | succ f2 =>
        rw [inUp, inUp, if_neg h0, if_neg h0]
        cases hn : ns[up.toNat]? with
        | none => rfl
        | some n =>
          simp only
          congr 1
          refine ih f2 up _ (fun hp => ?_)
          have hl := (List.getElem?_eq_some_iff.1 hn).1
          cases hpp : par[up.toNat]? with
          | none => rw [hpp] at hp; simp at hp
          | some p =>
            rw [hpp] at hp
            simp only [Option.getD_some] at hp ⊢
            have := hup up.toNat p hpp hp
            omega
/-- What is in scope at a kid. -/
theorem visB_kid {ns : List Nd} (h : InAll ns) (ht : Tree ns) (params v : Int) {m : Nat} {n : Nd} {k j : Nat} (hm : ns[m]? = some n) (hk : n.kids[j]? = some (k : Int)) : visB ns (parF ns) params k v = (visB ns (parF ns) params m v || visStep ns n j v) := by
  have hml := (List.getElem?_eq_some_iff.1 hm).1
  have hp := par_of_kid h ht hm (List.mem_of_getElem? hk)
  have hpl := place_kid h ht hm hk
  have hup := parF_up h
  unfold visB
  rw [hp, Option.getD_some]
  obtain ⟨L, hL⟩ : ∃ L, ns.length = L + 1 := ⟨ns.length - 1, by omega⟩
  have e1 : visUp ns (parF ns) v ns.length (k : Int) (m : Int) = (visStep ns n j v || visUp ns (parF ns) v ns.length (m : Int) (((parF ns)[m]?).getD (-1))) := by
    have e2 : visUp ns (parF ns) v ns.length (m : Int) (((parF ns)[m]?).getD (-1)) = visUp ns (parF ns) v L (m : Int) (((parF ns)[m]?).getD (-1)) := by
      refine visUp_fuel hup v _ _ _ _ (fun h0 => ?_)
      cases hpm : (parF ns)[m]? with
      | none => rw [hpm] at h0; simp at h0
      | some p =>
        rw [hpm] at h0
        simp only [Option.getD_some] at h0 ⊢
        have := hup m p hpm h0
        omega
    rw [e2, hL, visUp, if_neg (by omega), Int.toNat_natCast, hm]
    simp only
    rw [hpl]
  rw [e1]
  cases decide (v < params) <;> cases visStep ns n j v <;> simp
theorem inB_kid {ns : List Nd} (h : InAll ns) (ht : Tree ns) {m : Nat} {n : Nd} {k : Nat} (hm : ns[m]? = some n) (hk : (k : Int) ∈ n.kids) : inB ns (parF ns) k = (((n.kind == 6 || n.kind == 7 || n.kind == 8) && n.kids[n.kids.length - 1]? == some (k : Int)) || inB ns (parF ns) m) := by
  have hml := (List.getElem?_eq_some_iff.1 hm).1
  have hp := par_of_kid h ht hm hk
  have hup := parF_up h
  unfold inB
  rw [hp, Option.getD_some]
  obtain ⟨L, hL⟩ : ∃ L, ns.length = L + 1 := ⟨ns.length - 1, by omega⟩
  have e2 : inUp ns (parF ns) ns.length (m : Int) (((parF ns)[m]?).getD (-1)) = inUp ns (parF ns) L (m : Int) (((parF ns)[m]?).getD (-1)) := by
    refine inUp_fuel hup _ _ _ _ (fun h0 => ?_)
    cases hpm : (parF ns)[m]? with
    | none => rw [hpm] at h0; simp at h0
    | some p =>
      rw [hpm] at h0
      simp only [Option.getD_some] at h0 ⊢
      have := hup m p hpm h0
      omega
  rw [e2, hL, inUp, if_neg (by omega), Int.toNat_natCast, hm]
theorem visB_last {ns : List Nd} (h : InAll ns) (params v : Int) {k : Nat} (hk : k + 1 = ns.length) : visB ns (parF ns) params k v = decide (v < params) := by
  unfold visB
  rw [parF_last h hk, Option.getD_some, ← hk, visUp, if_pos (by omega), Bool.or_false]
theorem inB_last {ns : List Nd} (h : InAll ns) {k : Nat} (hk : k + 1 = ns.length) : inB ns (parF ns) k = false := by
  unfold inB
  rw [parF_last h hk, Option.getD_some, ← hk, inUp, if_pos (by omega)]
/-- What is in scope at a node, as a list. -/
def insF (ns : List Nd) (params : Int) (nv n : Nat) : List Bool := (List.range nv).map fun (v : Nat) => visB ns (parF ns) params n (v : Int)
theorem insF_at {ns : List Nd} {params : Int} {nv n v : Nat} (hv : v < nv) : (insF ns params nv n)[v]? = some (visB ns (parF ns) params n (v : Int)) := by
  unfold insF
  rw [List.getElem?_map, List.getElem?_range hv]
  rfl
theorem insF_len (ns : List Nd) (params : Int) (nv n : Nat) : (insF ns params nv n).length = nv := by simp [insF]
theorem setR_at : ∀ (vs : List Int) (ins : List Bool) (v : Nat), v < ins.length → (setR ins vs)[v]? = some ((ins[v]?).getD false || decide ((v : Int) ∈ vs)) := by
  intro vs
  induction vs with
  | nil => intro ins v hv; rw [setR, List.getElem?_eq_getElem hv]; simp
  | cons x r ih =>
    intro ins v hv
    rw [setR]
    split
    · rename_i hx
      rw [ih _ v (by rw [List.length_set]; exact hv)]
      by_cases e : x.toNat = v
      · have ex : x = (v : Int) := by omega
        rw [e, List.getElem?_set_self hv, ex]
        simp
      · rw [List.getElem?_set_ne e]
        have hne : ¬ ((v : Int) = x) := by omega
        simp [hne]
    · rename_i hx
      rw [ih _ v hv]
      have hne : ¬ ((v : Int) = x) := by omega
      simp [hne]
theorem ext_bool {a b : List Bool} {n : Nat} (ha : a.length = n) (hb : b.length = n) (h : ∀ v, v < n → a[v]? = b[v]?) : a = b := List.ext_getElem? fun v => by
  by_cases e : v < n
  · exact h v e
  · rw [List.getElem?_eq_none (by omega), List.getElem?_eq_none (by omega)]
theorem mem_foldl_trace {F : List Ev × List Bool → Int → List Ev × List Bool} {tr : Int → List Bool → List Ev} (hF : ∀ acc k, (F acc k).1 = acc.1 ++ tr k acc.2) : ∀ (ks : List Int) (e : Ev) (s : List Bool), e ∈ (ks.foldl F ([], s)).1 ↔ ∃ j k, ks[j]? = some k ∧ e ∈ tr k ((ks.take j).foldl F ([], s)).2 := by
  intro ks e s
  have gen : ∀ n, n ≤ ks.length → (e ∈ ((ks.take n).foldl F ([], s)).1 ↔ ∃ j k, j < n ∧ ks[j]? = some k ∧ e ∈ tr k ((ks.take j).foldl F ([], s)).2) := by
    intro n
    induction n with
    | zero => intro _; simp
    | succ n ih =>
      intro hn
      obtain ⟨k, hk⟩ : ∃ k, ks[n]? = some k := ⟨_, List.getElem?_eq_getElem (by omega)⟩
      rw [List.take_add_one, hk, List.foldl_append]
      simp only [Option.toList_some, List.foldl_cons, List.foldl_nil]
      rw [hF, List.mem_append, ih (by omega)]
      constructor
      · rintro (⟨j, k', hj, h1, h2⟩ | h)
        · exact ⟨j, k', by omega, h1, h2⟩
        · exact ⟨n, k, by omega, hk, h⟩
      · rintro ⟨j, k', hj, h1, h2⟩
        by_cases e : j = n
        · subst e
          rw [hk] at h1
          cases h1
          exact .inr h2
        · exact .inl ⟨j, k', by omega, h1, h2⟩
  have := gen ks.length (Nat.le_refl _)
  rw [List.take_length] at this
  rw [this]
  constructor
  · rintro ⟨j, k, -, h1, h2⟩; exact ⟨j, k, h1, h2⟩
  · rintro ⟨j, k, h1, h2⟩; exact ⟨j, k, (List.getElem?_eq_some_iff.1 h1).1, h1, h2⟩
abbrev FK (ns : List Nd) (fuel : Nat) (loop : Bool) : List Ev × List Bool → Int → List Ev × List Bool := fun acc k => (acc.1 ++ traceN ns fuel k.toNat acc.2 loop, if (ndAt ns k.toNat).kind = 2 then setR acc.2 (ndAt ns k.toNat).refs else acc.2)
theorem decl2 {n : Nd} {v : Int} (h : declK n.kind = true) : declB n v = decide (v ∈ n.refs) := by
  unfold declB declC
  rw [h, Bool.true_and]
  simp only [placeL_mem]
/-- What a block's lets have put in scope ahead of its kid j. -/
theorem fold_scope {ns : List Nd} (fuel : Nat) (loop : Bool) (ks : List Int) (ins : List Bool) : ∀ j, j ≤ ks.length → ((ks.take j).foldl (FK ns fuel loop) ([], ins)).2.length = ins.length ∧ ∀ v, v < ins.length → ((ks.take j).foldl (FK ns fuel loop) ([], ins)).2[v]? = some ((ins[v]?).getD false || (ks.take j).any (letK ns (v : Int))) := by
  intro j
  induction j with
  | zero => intro _; exact ⟨rfl, fun v hv => by rw [List.take_zero]; simp [List.getElem?_eq_getElem hv]⟩
  | succ j ih =>
    intro hj
    obtain ⟨h1, h2⟩ := ih (by omega)
    obtain ⟨k, hk⟩ : ∃ k, ks[j]? = some k := ⟨_, List.getElem?_eq_getElem (by omega)⟩
    rw [List.take_add_one, hk, List.foldl_append]
    simp only [Option.toList_some, List.foldl_cons, List.foldl_nil, List.any_append, List.any_cons, List.any_nil, Bool.or_false]
    have hlet : ∀ v : Int, letK ns v k = ((ndAt ns k.toNat).kind == 2 && decide (v ∈ (ndAt ns k.toNat).refs)) := fun v => by
      unfold letK ndAt
      cases hn : ns[k.toNat]? with
      | none => rfl
      | some m =>
        simp only [Option.getD_some]
        by_cases hk2 : m.kind = 2
        · rw [decl2 (by unfold declK; rw [hk2]; rfl)]
        · rw [beq_eq_false_iff_ne.2 hk2, Bool.false_and, Bool.false_and]
    by_cases hk2 : (ndAt ns k.toNat).kind = 2
    · rw [if_pos hk2]
      refine ⟨by rw [setR_len]; exact h1, fun v hv => ?_⟩
      rw [setR_at _ _ v (by rw [h1]; exact hv), h2 v hv, hlet, hk2]
      simp [Bool.or_assoc]
    · rw [if_neg hk2]
      refine ⟨h1, fun v hv => ?_⟩
      rw [h2 v hv, hlet, beq_eq_false_iff_ne.2 hk2]
      simp
/-- All that is told is right. -/
theorem trace_right {ns : List Nd} (h : InAll ns) (ht : Tree ns) (params : Int) (nv : Nat) (hloop : LoopKids ns) (htry : ∀ (k : Nat) (n : Nd), ns[k]? = some n → n.kind = 12 → n.kids.length = 2) : ∀ (fuel m : Nat), m < fuel → m < ns.length → ∀ e ∈ traceN ns fuel m (insF ns params nv m) (inB ns (parF ns) m), e.1 < ns.length ∧ e = (e.1, insF ns params nv e.1, inB ns (parF ns) e.1) := by
  intro fuel
  induction fuel with
  | zero => intro m hm; omega
  | succ fuel ih =>
    intro m hm hml e he
    obtain ⟨n, hn⟩ : ∃ n, ns[m]? = some n := ⟨_, List.getElem?_eq_getElem hml⟩
    have hnd : ndAt ns m = n := by unfold ndAt; rw [hn]; rfl
    have hki := h m n hn
    rw [traceN] at he
    simp only [hnd] at he
    rcases List.mem_cons.1 he with rfl | he
    · exact ⟨hml, rfl⟩
    -- one kid, rightly called
    have kid : ∀ (j : Nat) (k : Int) (ins : List Bool) (loop : Bool), n.kids[j]? = some k → ins.length = nv → (∀ v, v < nv → ins[v]? = some (visB ns (parF ns) params m (v : Int) || visStep ns n j (v : Int))) → loop = (((n.kind == 6 || n.kind == 7 || n.kind == 8) && n.kids[n.kids.length - 1]? == some k) || inB ns (parF ns) m) → e ∈ traceN ns fuel k.toNat ins loop → e.1 < ns.length ∧ e = (e.1, insF ns params nv e.1, inB ns (parF ns) e.1) := by
      intro j k ins loop hk hl hv hlp hek
      obtain ⟨k0, k1⟩ := hki k (List.mem_of_getElem? hk)
      obtain ⟨q, rfl⟩ : ∃ q : Nat, k = q := ⟨k.toNat, by omega⟩
      rw [Int.toNat_natCast] at hek
      have e1 : ins = insF ns params nv q := ext_bool hl (insF_len _ _ _ _) fun v hvl => by
        rw [hv v hvl, insF_at hvl, visB_kid h ht params v hn hk]
      have e2 : loop = inB ns (parF ns) q := by rw [hlp, inB_kid h ht hn (List.mem_of_getElem? hk)]
      rw [e1, e2] at hek
      exact ih q (by omega) (by omega) e hek
    have base : ∀ v, v < nv → (insF ns params nv m)[v]? = some (visB ns (parF ns) params m (v : Int)) := fun v hv => insF_at hv
    by_cases h1 : n.kind = 1
    · rw [if_pos h1] at he
      obtain ⟨j, k, hk, hek⟩ := (mem_foldl_trace (F := FK ns fuel (inB ns (parF ns) m)) (tr := fun k s => traceN ns fuel k.toNat s (inB ns (parF ns) m)) (fun acc k => rfl) n.kids e (insF ns params nv m)).1 he
      obtain ⟨s1, s2⟩ := fold_scope (ns := ns) fuel (inB ns (parF ns) m) n.kids (insF ns params nv m) j (Nat.le_of_lt (List.getElem?_eq_some_iff.1 hk).1)
      rw [insF_len] at s1 s2
      refine kid j k _ _ hk s1 (fun v hv => ?_) ?_ hek
      · rw [s2 v hv, base v hv, Option.getD_some]
        unfold visStep
        rw [h1, Int.toNat_natCast]
        simp
      · rw [h1]; rfl
    · rw [if_neg h1] at he
      by_cases h2 : n.kind = 6 ∨ n.kind = 7 ∨ n.kind = 8
      · rw [if_pos h2] at he
        have hlk := hloop m n hn h2
        rcases List.mem_append.1 he with he | he
        · obtain ⟨k, hk, hek⟩ := List.mem_flatMap.1 he
          obtain ⟨j, hj⟩ := List.getElem?_of_mem hk
          rw [List.getElem?_take] at hj
          split at hj
          · rename_i hjl
            refine kid j k _ _ hj (insF_len _ _ _ _) (fun v hv => ?_) ?_ hek
            · rw [base v hv]
              congr 1
              unfold visStep
              have e1 : (n.kind == 1) = false := beq_eq_false_iff_ne.2 h1
              have e2 : (((j : Nat) : Int) == (n.kids.length : Int) - 1) = false := beq_eq_false_iff_ne.2 (by omega)
              rw [e1, e2]
              simp
            · have hne : (n.kids[n.kids.length - 1]? == some k) = false := by
                rw [beq_eq_false_iff_ne]
                intro hh
                obtain ⟨k0, k1⟩ := hki k (List.mem_of_getElem? hj)
                obtain ⟨q, rfl⟩ : ∃ q : Nat, k = q := ⟨k.toNat, by omega⟩
                have p1 := place_kid h ht hn hj
                have p2 := place_kid h ht hn hh
                rw [p1] at p2
                omega
              rw [hne, Bool.and_false, Bool.false_or]
          · cases hj
        · obtain ⟨k, hk⟩ : ∃ k, n.kids[n.kids.length - 1]? = some k := ⟨_, List.getElem?_eq_getElem (by omega)⟩
          rw [hk, Option.getD_some] at he
          refine kid (n.kids.length - 1) k _ _ hk ?_ (fun v hv => ?_) ?_ he
          · split
            · exact insF_len _ _ _ _
            · rw [setR_len]; exact insF_len _ _ _ _
          · have e1 : (n.kind == 1) = false := beq_eq_false_iff_ne.2 h1
            have e2 : (((n.kids.length - 1 : Nat) : Int) == (n.kids.length : Int) - 1) = true := by rw [beq_iff_eq]; omega
            by_cases h6 : n.kind = 6
            · rw [if_pos h6, base v hv]
              unfold visStep
              rw [e1, h6]
              simp
            · rw [if_neg h6, setR_at _ _ v (by rw [insF_len]; exact hv), base v hv, Option.getD_some]
              have hd : declK n.kind = true := by
                rcases h2 with h2 | h2 | h2
                · exact absurd h2 h6
                · unfold declK; rw [h2]; rfl
                · unfold declK; rw [h2]; rfl
              have e3 : (n.kind == 7 || n.kind == 8 || n.kind == 12) = true := by
                rcases h2 with h2 | h2 | h2
                · exact absurd h2 h6
                · rw [h2]; rfl
                · rw [h2]; rfl
              unfold visStep
              rw [e1, e2, e3, decl2 hd]
              simp
          · have e3 : (n.kind == 6 || n.kind == 7 || n.kind == 8) = true := by
              rcases h2 with h2 | h2 | h2 <;> rw [h2] <;> rfl
            rw [e3, hk]
            simp
      · rw [if_neg h2] at he
        have e1 : (n.kind == 1) = false := beq_eq_false_iff_ne.2 h1
        have e6 : (n.kind == 6 || n.kind == 7 || n.kind == 8) = false := by
          have a : (n.kind == 6) = false := beq_eq_false_iff_ne.2 (fun x => h2 (.inl x))
          have b : (n.kind == 7) = false := beq_eq_false_iff_ne.2 (fun x => h2 (.inr (.inl x)))
          have c : (n.kind == 8) = false := beq_eq_false_iff_ne.2 (fun x => h2 (.inr (.inr x)))
          rw [a, b, c]; rfl
        by_cases h12 : n.kind = 12
        · rw [if_pos h12] at he
          have hl2 := htry m n hn h12
          obtain ⟨ka, hka⟩ : ∃ k, n.kids[0]? = some k := ⟨_, List.getElem?_eq_getElem (by omega)⟩
          obtain ⟨kb, hkb⟩ : ∃ k, n.kids[1]? = some k := ⟨_, List.getElem?_eq_getElem (by omega)⟩
          rw [hka, hkb, Option.getD_some, Option.getD_some] at he
          rcases List.mem_append.1 he with he | he
          · refine kid 0 ka _ _ hka (insF_len _ _ _ _) (fun v hv => ?_) ?_ he
            · rw [base v hv]
              unfold visStep
              rw [e1, hl2]
              simp
            · rw [e6]; simp
          · refine kid 1 kb _ _ hkb (by rw [setR_len]; exact insF_len _ _ _ _) (fun v hv => ?_) ?_ he
            · rw [setR_at _ _ v (by rw [insF_len]; exact hv), base v hv, Option.getD_some]
              unfold visStep
              rw [e1, hl2, h12, decl2 (by unfold declK; rw [h12]; rfl)]
              simp
            · rw [e6]; simp
        · rw [if_neg h12] at he
          obtain ⟨k, hk, hek⟩ := List.mem_flatMap.1 he
          obtain ⟨j, hj⟩ := List.getElem?_of_mem hk
          have e7 : (n.kind == 7 || n.kind == 8 || n.kind == 12) = false := by
            have a : (n.kind == 7) = false := beq_eq_false_iff_ne.2 (fun x => h2 (.inr (.inl x)))
            have b : (n.kind == 8) = false := beq_eq_false_iff_ne.2 (fun x => h2 (.inr (.inr x)))
            have c : (n.kind == 12) = false := beq_eq_false_iff_ne.2 h12
            rw [a, b, c]; rfl
          refine kid j k _ _ hj (insF_len _ _ _ _) (fun v hv => ?_) ?_ hek
          · rw [base v hv]
            unfold visStep
            rw [e1, e7]
            simp
          · rw [e6]; simp
end Go.Proofs.Ytcpjplkbmflglaa
