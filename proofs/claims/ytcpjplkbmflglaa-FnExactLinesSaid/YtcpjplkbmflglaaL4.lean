/- The program's CheckUnit is the reference's. -/
import Derived.Test.YtcpjplkbmflglaaL1
import Derived.Test.YtcpjplkbmflglaaE3
namespace Go.Proofs.Ytcpjplkbmflglaa
open Go.RowKit
set_option linter.unusedVariables false
theorem trace_head (ns : List Nd) (fuel m : Nat) (ins : List Bool) (loop : Bool) (h : 0 < fuel) : (m, ins, loop) ∈ traceN ns fuel m ins loop := by
  obtain ⟨f, rfl⟩ : ∃ f, fuel = f + 1 := ⟨fuel - 1, by omega⟩
  rw [traceN]
  exact List.mem_cons_self
/-- Each kid is walked, and what a kid tells is told. -/
theorem trace_kids {ns : List Nd} (fuel m : Nat) (ins : List Bool) (loop : Bool) {n : Nd} (hn : ns[m]? = some n) (hloop : LoopKids ns) (htry : n.kind = 12 → n.kids.length = 2) :
    (∀ k ∈ n.kids, ∃ ins' loop', ∀ e, e ∈ traceN ns fuel k.toNat ins' loop' → e ∈ traceN ns (fuel + 1) m ins loop) ∧
    (∀ e ∈ traceN ns (fuel + 1) m ins loop, e = (m, ins, loop) ∨ ∃ k ∈ n.kids, ∃ ins' loop', e ∈ traceN ns fuel k.toNat ins' loop' ∧ ∀ e', e' ∈ traceN ns fuel k.toNat ins' loop' → e' ∈ traceN ns (fuel + 1) m ins loop) := by
  have hnd : ndAt ns m = n := by unfold ndAt; rw [hn]; rfl
  have hu : traceN ns (fuel + 1) m ins loop = (m, ins, loop) :: (
      if n.kind = 1 then (n.kids.foldl (FK ns fuel loop) ([], ins)).1
      else if n.kind = 6 ∨ n.kind = 7 ∨ n.kind = 8 then (n.kids.take (n.kids.length - 1)).flatMap (fun k => traceN ns fuel k.toNat ins loop) ++ traceN ns fuel ((n.kids[n.kids.length - 1]?).getD 0).toNat (if n.kind = 6 then ins else setR ins n.refs) true
      else if n.kind = 12 then traceN ns fuel ((n.kids[0]?).getD 0).toNat ins loop ++ traceN ns fuel ((n.kids[1]?).getD 0).toNat (setR ins n.refs) loop
      else n.kids.flatMap (fun k => traceN ns fuel k.toNat ins loop)) := by
    rw [traceN]
    simp only [hnd]
  rw [hu]
  by_cases h1 : n.kind = 1
  · simp only [if_pos h1]
    have hm := fun e => mem_foldl_trace (F := FK ns fuel loop) (tr := fun k s => traceN ns fuel k.toNat s loop) (fun acc k => rfl) n.kids e ins
    refine ⟨fun k hk => ?_, fun e he => ?_⟩
    · obtain ⟨j, hj⟩ := List.getElem?_of_mem hk
      exact ⟨_, _, fun e he => List.mem_cons_of_mem _ ((hm e).2 ⟨j, k, hj, he⟩)⟩
    · rcases List.mem_cons.1 he with he | he
      · exact .inl he
      · obtain ⟨j, k, hj, hk⟩ := (hm e).1 he
        exact .inr ⟨k, List.mem_of_getElem? hj, _, _, hk, fun e' he' => List.mem_cons_of_mem _ ((hm e').2 ⟨j, k, hj, he'⟩)⟩
  · simp only [if_neg h1]
    by_cases h2 : n.kind = 6 ∨ n.kind = 7 ∨ n.kind = 8
    · simp only [if_pos h2]
      have hlk := hloop m n hn h2
      obtain ⟨kl, hkl⟩ : ∃ k, n.kids[n.kids.length - 1]? = some k := ⟨_, List.getElem?_eq_getElem (by omega)⟩
      rw [hkl, Option.getD_some]
      refine ⟨fun k hk => ?_, fun e he => ?_⟩
      · obtain ⟨j, hj⟩ := List.getElem?_of_mem hk
        by_cases hjl : j < n.kids.length - 1
        · exact ⟨ins, loop, fun e he => List.mem_cons_of_mem _ (List.mem_append_left _ (List.mem_flatMap.2 ⟨k, List.mem_of_getElem? (i := j) (by rw [List.getElem?_take, if_pos hjl]; exact hj), he⟩))⟩
        · have hjj : j = n.kids.length - 1 := by have := (List.getElem?_eq_some_iff.1 hj).1; omega
          rw [hjj, hkl] at hj
          cases hj
          exact ⟨_, _, fun e he => List.mem_cons_of_mem _ (List.mem_append_right _ he)⟩
      · rcases List.mem_cons.1 he with he | he
        · exact .inl he
        · rcases List.mem_append.1 he with he | he
          · obtain ⟨k, hk, hek⟩ := List.mem_flatMap.1 he
            exact .inr ⟨k, List.mem_of_mem_take hk, _, _, hek, fun e' he' => List.mem_cons_of_mem _ (List.mem_append_left _ (List.mem_flatMap.2 ⟨k, hk, he'⟩))⟩
          · exact .inr ⟨kl, List.mem_of_getElem? hkl, _, _, he, fun e' he' => List.mem_cons_of_mem _ (List.mem_append_right _ he')⟩
    · simp only [if_neg h2]
      by_cases h12 : n.kind = 12
      · simp only [if_pos h12]
        have hl2 := htry h12
        obtain ⟨ka, hka⟩ : ∃ k, n.kids[0]? = some k := ⟨_, List.getElem?_eq_getElem (by omega)⟩
        obtain ⟨kb, hkb⟩ : ∃ k, n.kids[1]? = some k := ⟨_, List.getElem?_eq_getElem (by omega)⟩
        rw [hka, hkb, Option.getD_some, Option.getD_some]
        refine ⟨fun k hk => ?_, fun e he => ?_⟩
        · obtain ⟨j, hj⟩ := List.getElem?_of_mem hk
          have hjl := (List.getElem?_eq_some_iff.1 hj).1
          by_cases h0 : j = 0
          · rw [h0, hka] at hj
            cases hj
            exact ⟨_, _, fun e he => List.mem_cons_of_mem _ (List.mem_append_left _ he)⟩
          · have h1 : j = 1 := by omega
            rw [h1, hkb] at hj
            cases hj
            exact ⟨_, _, fun e he => List.mem_cons_of_mem _ (List.mem_append_right _ he)⟩
        · rcases List.mem_cons.1 he with he | he
          · exact .inl he
          · rcases List.mem_append.1 he with he | he
            · exact .inr ⟨ka, List.mem_of_getElem? hka, _, _, he, fun e' he' => List.mem_cons_of_mem _ (List.mem_append_left _ he')⟩
            · exact .inr ⟨kb, List.mem_of_getElem? hkb, _, _, he, fun e' he' => List.mem_cons_of_mem _ (List.mem_append_right _ he')⟩
      · simp only [if_neg h12]
        refine ⟨fun k hk => ⟨ins, loop, fun e he => List.mem_cons_of_mem _ (List.mem_flatMap.2 ⟨k, hk, he⟩)⟩, fun e he => ?_⟩
        rcases List.mem_cons.1 he with he | he
        · exact .inl he
        · obtain ⟨k, hk, hek⟩ := List.mem_flatMap.1 he
          exact .inr ⟨k, hk, _, _, hek, fun e' he' => List.mem_cons_of_mem _ (List.mem_flatMap.2 ⟨k, hk, he'⟩)⟩
/-- A kid of what is told is told. -/
theorem trace_down {ns : List Nd} (h : InAll ns) (hloop : LoopKids ns) (htry : ∀ (k : Nat) (n : Nd), ns[k]? = some n → n.kind = 12 → n.kids.length = 2) : ∀ (fuel m : Nat) (ins : List Bool) (loop : Bool), m < fuel → m < ns.length → ∀ e ∈ traceN ns fuel m ins loop, ∀ n, ns[e.1]? = some n → ∀ k ∈ n.kids, ∃ e' ∈ traceN ns fuel m ins loop, (e'.1 : Int) = k := by
  intro fuel
  induction fuel with
  | zero => intro m ins loop hm; omega
  | succ fuel ih =>
    intro m ins loop hm hml e he n' hn' k hk
    obtain ⟨n, hn⟩ : ∃ n, ns[m]? = some n := ⟨_, List.getElem?_eq_getElem hml⟩
    obtain ⟨s1, s2⟩ := trace_kids fuel m ins loop hn hloop (htry m n hn)
    rcases s2 e he with rfl | ⟨q, hq, ins', loop', heq, hsub⟩
    · simp only at hn'
      rw [hn] at hn'
      have e0 : n = n' := Option.some.inj hn'
      rw [← e0] at hk
      obtain ⟨ins', loop', hs⟩ := s1 k hk
      have hkk := h m n hn k hk
      exact ⟨_, hs _ (trace_head ns fuel k.toNat ins' loop' (by omega)), by simp only; omega⟩
    · have hqq := h m n hn q hq
      obtain ⟨e', he', e1⟩ := ih q.toNat ins' loop' (by omega) (by omega) e heq n' hn' k hk
      exact ⟨e', hsub e' he', e1⟩
/-- Every node is told of. -/
theorem trace_all {ns : List Nd} (h : InAll ns) (ht : Tree ns) (hloop : LoopKids ns) (htry : ∀ (k : Nat) (n : Nd), ns[k]? = some n → n.kind = 12 → n.kids.length = 2) (ins : List Bool) (loop : Bool) (hpos : 0 < ns.length) : ∀ (g k : Nat), k < ns.length → ns.length ≤ k + g + 1 → ∃ e ∈ traceN ns ns.length (ns.length - 1) ins loop, e.1 = k := by
  intro g
  induction g with
  | zero =>
    intro k hk hg
    exact ⟨_, trace_head ns ns.length _ ins loop hpos, by simp only; omega⟩
  | succ g ih =>
    intro k hk hg
    by_cases hl : k + 1 = ns.length
    · exact ⟨_, trace_head ns ns.length _ ins loop hpos, by simp only; omega⟩
    · obtain ⟨m, n, hm, hkm⟩ := kid_of h ht (k := k) (by omega)
      have hml := (List.getElem?_eq_some_iff.1 hm).1
      have hlt := (h m n hm k hkm).2
      obtain ⟨e, he, e1⟩ := ih m hml (by omega)
      obtain ⟨e', he', e2⟩ := trace_down h hloop htry ns.length (ns.length - 1) ins loop (by omega) (by omega) e he n (by rw [e1]; exact hm) k hkm
      exact ⟨e', he', by omega⟩
theorem foldl_congr_mem {α β : Type} {f g : β → α → β} : ∀ (l : List α) (s : β), (∀ a ∈ l, ∀ s, f s a = g s a) → l.foldl f s = l.foldl g s := by
  intro l
  induction l with
  | nil => intro s _; rfl
  | cons a r ih => intro s h; rw [List.foldl_cons, List.foldl_cons, h a List.mem_cons_self, ih _ (fun a' h' => h a' (List.mem_cons_of_mem _ h'))]
abbrev fsStep {α : Type} (c : Nat → Bool) (φ : Nat → α → α) (d : α) : List α → Ev → List α := fun st e => if c e.1 then st.set e.1 (φ e.1 ((st[e.1]?).getD d)) else st
theorem fold_no {α : Type} (c : Nat → Bool) (φ : Nat → α → α) (d : α) : ∀ (T : List Ev) (st : List α) (n : Nat) (x : α), st[n]? = some x → (c n = false ∨ ∀ e ∈ T, e.1 ≠ n) → (T.foldl (fsStep c φ d) st)[n]? = some x := by
  intro T
  induction T with
  | nil => intro st n x hx _; exact hx
  | cons e r ih =>
    intro st n x hx h
    rw [List.foldl_cons]
    refine ih _ n x ?_ (h.imp id fun h e' he' => h e' (List.mem_cons_of_mem _ he'))
    unfold fsStep
    by_cases en : e.1 = n
    · rcases h with h | h
      · rw [en, h]; exact hx
      · exact absurd en (h e List.mem_cons_self)
    · split
      · rw [List.getElem?_set_ne en]; exact hx
      · exact hx
theorem fold_yes {α : Type} (c : Nat → Bool) (φ : Nat → α → α) (d : α) (hid : ∀ n x, φ n (φ n x) = φ n x) : ∀ (T : List Ev) (st : List α) (n : Nat) (x : α), st[n]? = some x → c n = true → (∃ e ∈ T, e.1 = n) → (T.foldl (fsStep c φ d) st)[n]? = some (φ n x) := by
  intro T
  induction T with
  | nil => intro st n x hx _ h; obtain ⟨e, he, -⟩ := h; cases he
  | cons e r ih =>
    intro st n x hx hc h
    have hnl := (List.getElem?_eq_some_iff.1 hx).1
    rw [List.foldl_cons]
    by_cases en : e.1 = n
    · have h1 : (fsStep c φ d st e)[n]? = some (φ n x) := by
        unfold fsStep
        rw [en, hc, if_pos rfl, hx, Option.getD_some, List.getElem?_set_self hnl]
      by_cases hr : ∃ e' ∈ r, e'.1 = n
      · rw [ih _ n _ h1 hc hr, hid]
      · exact fold_no c φ d r _ n _ h1 (.inr fun e' he' e1 => hr ⟨e', he', e1⟩)
    · have h1 : (fsStep c φ d st e)[n]? = some x := by
        unfold fsStep
        split
        · rw [List.getElem?_set_ne en]; exact hx
        · exact hx
      obtain ⟨e', he', e1⟩ := h
      rcases List.mem_cons.1 he' with rfl | he'
      · exact absurd e1 en
      · exact ih _ n x h1 hc ⟨e', he', e1⟩
/-- A fn that passed codes 1 to 4. -/
structure FnOk (x : Fd) : Prop where
  ia : InAll x.nodes
  pos : 0 < x.nodes.length
  lk : LoopKids x.nodes
  tk : ∀ (k : Nat) (n : Nd), x.nodes[k]? = some n → n.kind = 12 → n.kids.length = 2
  p0 : 0 ≤ x.params
  p1 : x.params ≤ x.vars.length
  tr : Tree x.nodes
  r1 : ∀ n ∈ x.nodes, n.kind = 26 ∨ n.kind = 27 ∨ n.kind = 36 → n.refs.length = 1
  r0 : ∀ n ∈ x.nodes, declK n.kind = false → n.kind ≠ 26 → n.kind ≠ 27 → n.kind ≠ 36 → n.refs = []
theorem seen0_ins {x : Fd} (h : FnOk x) : seen0 x.params x.vars.length = insF x.nodes x.params x.vars.length (x.nodes.length - 1) := by
  have hp := h.pos
  have h0 := h.p0
  have h1 := h.p1
  refine ext_bool (n := x.vars.length) (by unfold seen0; simp; omega) (insF_len _ _ _ _) fun v hv => ?_
  rw [insF_at hv, visB_last h.ia _ _ (by omega)]
  unfold seen0
  by_cases hvp : v < x.params.toNat
  · rw [List.getElem?_append_left (by simpa using hvp), List.getElem?_replicate, if_pos hvp, decide_eq_true (by omega)]
  · rw [List.getElem?_append_right (by simpa using hvp), List.getElem?_replicate, List.length_replicate, if_pos (by omega), decide_eq_false (by omega)]
theorem evsD_right {x : Fd} (h : FnOk x) : ∀ e ∈ evsD x, e.1 < x.nodes.length ∧ e = (e.1, insF x.nodes x.params x.vars.length e.1, inB x.nodes (parF x.nodes) e.1) := by
  have hp := h.pos
  unfold evsD
  rw [seen0_ins h, ← inB_last h.ia (k := x.nodes.length - 1) (by omega)]
  exact trace_right h.ia h.tr x.params x.vars.length h.lk h.tk x.nodes.length (x.nodes.length - 1) (by omega) (by omega)
theorem evsD_all {x : Fd} (h : FnOk x) {k : Nat} (hk : k < x.nodes.length) : ∃ e ∈ evsD x, e.1 = k := trace_all h.ia h.tr h.lk h.tk _ _ h.pos x.nodes.length k hk (by omega)
theorem out7_at {x : Fd} (h : FnOk x) {n : Nat} (hn : n < x.nodes.length) : ((evsD x).foldl (out7 x.nodes) (List.replicate x.nodes.length false))[n]? = some (brk (ndAt x.nodes n).kind (inB x.nodes (parF x.nodes) n)) := by
  rw [foldl_congr_mem (g := fsStep (fun _ => true) (fun (n : Nat) (_ : Bool) => brk (ndAt x.nodes n).kind (inB x.nodes (parF x.nodes) n)) false) (evsD x) _ (fun e he s => by
    obtain ⟨-, e2⟩ := evsD_right h e he
    unfold out7
    rw [e2]
    rfl)]
  exact fold_yes (fun _ => true) (fun (n : Nat) (_ : Bool) => brk (ndAt x.nodes n).kind (inB x.nodes (parF x.nodes) n)) false (fun _ _ => rfl) (evsD x) _ n false (by rw [List.getElem?_replicate, if_pos hn]) rfl (evsD_all h hn)
theorem st6_at {x : Fd} (h : FnOk x) {n : Nat} (hn : n < x.nodes.length) : ((evsD x).foldl (st6 x.nodes) (List.replicate x.nodes.length none))[n]? = some (if (ndAt x.nodes n).kind = 26 then some (ref0 (ndAt x.nodes n), vis6 (insF x.nodes x.params x.vars.length n) (ref0 (ndAt x.nodes n))) else none) := by
  rw [foldl_congr_mem (g := fsStep (fun n : Nat => (ndAt x.nodes n).kind == 26) (fun (n : Nat) (_ : Sc1) => some (ref0 (ndAt x.nodes n), vis6 (insF x.nodes x.params x.vars.length n) (ref0 (ndAt x.nodes n)))) none) (evsD x) _ (fun e he s => by
    obtain ⟨-, e2⟩ := evsD_right h e he
    unfold st6
    rw [e2]
    simp only [fsStep, beq_iff_eq])]
  have hs : (List.replicate x.nodes.length (none : Sc1))[n]? = some none := by rw [List.getElem?_replicate, if_pos hn]
  by_cases hk : (ndAt x.nodes n).kind = 26
  · rw [if_pos hk]
    exact fold_yes (fun n : Nat => (ndAt x.nodes n).kind == 26) (fun (n : Nat) (_ : Sc1) => some (ref0 (ndAt x.nodes n), vis6 (insF x.nodes x.params x.vars.length n) (ref0 (ndAt x.nodes n)))) none (fun _ _ => rfl) (evsD x) _ n none hs (by simp [hk]) (evsD_all h hn)
  · rw [if_neg hk]
    exact fold_no _ _ _ (evsD x) _ n none hs (.inl (beq_eq_false_iff_ne.2 hk))
theorem st8_at {fs : List Fd} {x : Fd} (h : FnOk x) {n : Nat} (hn : n < x.nodes.length) : ((evsD x).foldl (st8 fs x) (List.replicate x.nodes.length false))[n]? = some (if (ndAt x.nodes n).kind = 37 then !x.rest else if (ndAt x.nodes n).kind = 36 then (fdAt fs (ref0 (ndAt x.nodes n)).toNat).ups.any (up8 (insF x.nodes x.params x.vars.length n) x.ups.length) else false) := by
  obtain ⟨φ, hφ⟩ : ∃ φ : Nat → Bool → Bool, φ = fun n b => if (ndAt x.nodes n).kind = 37 then !x.rest else (b || (fdAt fs (ref0 (ndAt x.nodes n)).toNat).ups.any (up8 (insF x.nodes x.params x.vars.length n) x.ups.length)) := ⟨_, rfl⟩
  rw [foldl_congr_mem (g := fsStep (fun n : Nat => (ndAt x.nodes n).kind == 37 || (ndAt x.nodes n).kind == 36) φ false) (evsD x) _ (fun e he s => by
    obtain ⟨-, e2⟩ := evsD_right h e he
    unfold st8
    rw [e2, hφ]
    simp only
    by_cases k37 : (ndAt x.nodes e.1).kind = 37
    · simp [fsStep, k37]
    · by_cases k36 : (ndAt x.nodes e.1).kind = 36
      · simp [fsStep, k36]
      · simp [fsStep, k37, k36])]
  have hs : (List.replicate x.nodes.length false)[n]? = some false := by rw [List.getElem?_replicate, if_pos hn]
  have hid : ∀ n b, φ n (φ n b) = φ n b := fun n b => by
    rw [hφ]
    simp only
    split
    · rfl
    · rw [Bool.or_assoc, Bool.or_self]
  have hv : ∀ b, φ n b = if (ndAt x.nodes n).kind = 37 then !x.rest else (b || (fdAt fs (ref0 (ndAt x.nodes n)).toNat).ups.any (up8 (insF x.nodes x.params x.vars.length n) x.ups.length)) := fun b => by rw [hφ]
  by_cases k37 : (ndAt x.nodes n).kind = 37
  · rw [fold_yes (fun n : Nat => (ndAt x.nodes n).kind == 37 || (ndAt x.nodes n).kind == 36) φ false hid (evsD x) _ n false hs (by simp [k37]) (evsD_all h hn), hv, if_pos k37, if_pos k37]
  · by_cases k36 : (ndAt x.nodes n).kind = 36
    · rw [fold_yes (fun n : Nat => (ndAt x.nodes n).kind == 37 || (ndAt x.nodes n).kind == 36) φ false hid (evsD x) _ n false hs (by simp [k36]) (evsD_all h hn), hv, if_neg k37, if_neg k37, if_pos k36, Bool.false_or]
    · rw [fold_no (fun n : Nat => (ndAt x.nodes n).kind == 37 || (ndAt x.nodes n).kind == 36) φ false (evsD x) _ n false hs (.inl (by simp [k37, k36])), if_neg k37, if_neg k36]
theorem loopS_congr {σ : Type} {f g : Nat → σ → Option σ} : ∀ (m i : Nat) (s : σ), (∀ k, i ≤ k → k < i + m → ∀ s, f k s = g k s) → loopS f i m s = loopS g i m s := by
  intro m
  induction m with
  | zero => intro i s _; rfl
  | succ m ih =>
    intro i s h
    rw [loopS, loopS, h i (Nat.le_refl _) (by omega)]
    cases g i s with
    | none => rfl
    | some s' => exact ih (i + 1) s' (fun k h1 h2 => h k (by omega) (by omega))
theorem loop2_congr {σ : Type} {f g : Nat → σ → σ ⊕ Nat} : ∀ (m i : Nat) (s : σ), (∀ k, i ≤ k → k < i + m → ∀ s, f k s = g k s) → loop2 f i m s = loop2 g i m s := by
  intro m
  induction m with
  | zero => intro i s _; rfl
  | succ m ih =>
    intro i s h
    rw [loop2, loop2, h i (Nat.le_refl _) (by omega)]
    cases g i s with
    | inr n => rfl
    | inl s' => exact ih (i + 1) s' (fun k h1 h2 => h k (by omega) (by omega))
theorem find2_congr {f g : Nat → Nat → Bool} {len : Nat → Nat} {n : Nat} (h : ∀ i, i < n → ∀ k, k < len i → f i k = g i k) : find2 f len n = find2 g len n := by
  unfold find2
  refine loop2_congr n 0 () (fun i _ hi _ => ?_)
  unfold in2 find1
  refine loopS_congr _ 0 () (fun k _ hk _ => ?_)
  unfold chk
  rw [h i (by omega) k (by omega)]
theorem up8_eq {x : Fd} (h : FnOk x) {n : Nat} (us : List Up) : us.any (up8 (insF x.nodes x.params x.vars.length n) x.ups.length) = !upsB x.nodes (parF x.nodes) x.params x.vars.length x.ups.length n us := by
  unfold upsB
  induction us with
  | nil => rfl
  | cons p r ih =>
    rw [List.any_cons, List.all_cons, ih, Bool.not_and]
    congr 1
    obtain ⟨loc, ix⟩ := p
    unfold up8 upB
    simp only
    cases loc with
    | false =>
      simp only [Bool.false_eq_true, if_false]
      by_cases a : ix < 0
      · simp [a]
      · by_cases b : (x.ups.length : Int) ≤ ix
        · simp [a, b]
        · simp [a, b]; omega
    | true =>
      simp only [if_true]
      rw [insF_len]
      by_cases a : ix < 0
      · have e1 : decide (0 ≤ ix ∧ ix < (x.vars.length : Int)) = false := decide_eq_false (by omega)
        rw [e1]; simp [a]
      · by_cases b : (x.vars.length : Int) ≤ ix
        · have e1 : decide (0 ≤ ix ∧ ix < (x.vars.length : Int)) = false := decide_eq_false (by omega)
          rw [e1]; simp [b]
        · obtain ⟨y, rfl⟩ : ∃ y : Nat, ix = y := ⟨ix.toNat, by omega⟩
          have e1 : decide (0 ≤ (y : Int) ∧ (y : Int) < (x.vars.length : Int)) = true := decide_eq_true (by omega)
          rw [e1, Int.toNat_natCast, insF_at (by omega), decide_eq_false a, decide_eq_false b]
          simp
theorem step8_eq {fs : List Fd} {i n : Nat} (h : FnOk (fdAt fs i)) (hn : n < lenAt fs i) (made : List Bool) : step8p fs i n made = step8 fs i n made := by
  have hb : (bad8 fs i)[n]? = _ := st8_at (fs := fs) h (n := n) hn
  unfold step8p step8
  simp only
  by_cases k36 : (ndAt (fdAt fs i).nodes n).kind = 36
  · have k37 : ¬ (ndAt (fdAt fs i).nodes n).kind = 37 := by omega
    rw [if_neg k37, if_pos k36, up8_eq h] at hb
    rw [hb, Option.getD_some, if_pos k36, if_neg (show ¬ ((ndAt (fdAt fs i).nodes n).kind = 37 ∧ (fdAt fs i).rest = false) from fun hh => k37 hh.1), if_neg (show ¬ ((ndAt (fdAt fs i).nodes n).kind ≠ 36) from fun hh => hh k36)]
    by_cases c1 : ref0 (ndAt (fdAt fs i).nodes n) ≤ i
    · simp [c1]
    · by_cases c2 : made[(ref0 (ndAt (fdAt fs i).nodes n)).toNat]? = some true
      · simp [c1, c2]
      · have c3 : (made[(ref0 (ndAt (fdAt fs i).nodes n)).toNat]?).getD false = false := by
          cases hm : made[(ref0 (ndAt (fdAt fs i).nodes n)).toNat]? with
          | none => rfl
          | some b =>
            cases b with
            | false => rfl
            | true => exact absurd hm c2
        rw [c3, decide_eq_false c1]
        cases hu : upsB (fdAt fs i).nodes (parF (fdAt fs i).nodes) (fdAt fs i).params (fdAt fs i).vars.length (fdAt fs i).ups.length n (fdAt fs (ref0 (ndAt (fdAt fs i).nodes n)).toNat).ups <;> simp [c1, c2]
  · rw [if_neg k36]
    by_cases k37 : (ndAt (fdAt fs i).nodes n).kind = 37
    · rw [if_pos k37] at hb
      rw [hb, Option.getD_some]
      cases hr : (fdAt fs i).rest with
      | false => simp [k37]
      | true => simp [k37]
    · rw [if_neg k37, if_neg k36] at hb
      rw [hb, Option.getD_some, if_neg (show ¬ ((ndAt (fdAt fs i).nodes n).kind = 37 ∧ (fdAt fs i).rest = false) from fun hh => k37 hh.1), if_pos k36]
      rfl
theorem refs_go {x : Fd} {fs : List Fd} {kind : Int} {sc : Sc1} {n : Nat} (hd : declK kind = true) : ∀ (vs : List Int) (dec : List Bool), (if (vs.foldl (ref6 kind x.vars.length x.ups.length fs.length sc) (false, dec)).1 then none else some (vs.foldl (ref6 kind x.vars.length x.ups.length fs.length sc) (false, dec)).2) = if (refsGo x.nodes (parF x.nodes) x.params x.vars.length kind n vs dec).1 then some (refsGo x.nodes (parF x.nodes) x.params x.vars.length kind n vs dec).2 else none := by
  have k26 : kind ≠ 26 := fun e => by rw [e] at hd; revert hd; decide
  have k27 : kind ≠ 27 := fun e => by rw [e] at hd; revert hd; decide
  have k36 : kind ≠ 36 := fun e => by rw [e] at hd; revert hd; decide
  intro vs
  induction vs with
  | nil => intro dec; rfl
  | cons v r ih =>
    intro dec
    rw [List.foldl_cons, refsGo]
    by_cases hv : v < 0 ∨ (x.vars.length : Int) ≤ v
    · rw [if_pos hv, ref6_out k27 k36 hv, ref6_bad]
      simp
    · rw [if_neg hv, if_neg k26, ref6_decl k27 k36 hv hd, Bool.false_or]
      by_cases hs : dec[v.toNat]? = some true
      · rw [if_pos hs, hs, Option.getD_some, ref6_bad]
        simp
      · rw [if_neg hs]
        have : (dec[v.toNat]?).getD false = false := by
          cases hm : dec[v.toNat]? with
          | none => rfl
          | some b =>
            cases b with
            | false => rfl
            | true => exact absurd hm hs
        rw [this]
        exact ih _
theorem step6_eq {fs : List Fd} {i n : Nat} (h : FnOk (fdAt fs i)) (hn : n < lenAt fs i) (dec : List Bool) : step6p fs i n dec = step6 fs i n dec := by
  have hb := st6_at h (n := n) hn
  have hmem : ndAt (fdAt fs i).nodes n ∈ (fdAt fs i).nodes := by
    have hn' : n < (fdAt fs i).nodes.length := hn
    unfold ndAt
    rw [List.getElem?_eq_getElem hn']
    exact List.getElem_mem hn'
  unfold step6p step6 sc6A
  unfold lenAt
  rw [hb, Option.getD_some]
  simp only
  obtain ⟨nd, hnd⟩ : ∃ nd, nd = ndAt (fdAt fs i).nodes n := ⟨_, rfl⟩
  rw [← hnd] at hmem ⊢
  have one : nd.kind = 26 ∨ nd.kind = 27 ∨ nd.kind = 36 → nd.refs = [ref0 nd] := fun hk => by
    have := h.r1 nd hmem hk
    obtain ⟨v, hv⟩ := List.length_eq_one_iff.1 this
    unfold ref0
    rw [hv]
    rfl
  unfold refsB
  by_cases k27 : nd.kind = 27
  · rw [if_pos k27, one (.inr (.inl k27)), List.foldl_cons, List.foldl_nil, ref6_27 k27]
    by_cases a : ref0 nd < 0
    · rw [decide_eq_true a, decide_eq_false (show ¬ (0 ≤ ref0 nd ∧ ref0 nd < ((fdAt fs i).ups.length : Int)) by omega)]; rfl
    · by_cases b : ((fdAt fs i).ups.length : Int) ≤ ref0 nd
      · rw [decide_eq_true b, decide_eq_false (show ¬ (0 ≤ ref0 nd ∧ ref0 nd < ((fdAt fs i).ups.length : Int)) by omega)]; simp
      · rw [decide_eq_false a, decide_eq_false b, decide_eq_true (show (0 ≤ ref0 nd ∧ ref0 nd < ((fdAt fs i).ups.length : Int)) by omega)]; rfl
  · rw [if_neg k27]
    by_cases k36 : nd.kind = 36
    · rw [if_pos k36, one (.inr (.inr k36)), List.foldl_cons, List.foldl_nil, ref6_36 k36]
      by_cases a : ref0 nd < 0
      · rw [decide_eq_true a, decide_eq_false (show ¬ (0 ≤ ref0 nd ∧ ref0 nd < (fs.length : Int)) by omega)]; rfl
      · by_cases b : (fs.length : Int) ≤ ref0 nd
        · rw [decide_eq_true b, decide_eq_false (show ¬ (0 ≤ ref0 nd ∧ ref0 nd < (fs.length : Int)) by omega)]; simp
        · rw [decide_eq_false a, decide_eq_false b, decide_eq_true (show (0 ≤ ref0 nd ∧ ref0 nd < (fs.length : Int)) by omega)]; rfl
    · rw [if_neg k36]
      by_cases k26 : nd.kind = 26
      · rw [if_pos k26, one (.inl k26), List.foldl_cons, List.foldl_nil, refsGo]
        by_cases hv : ref0 nd < 0 ∨ ((fdAt fs i).vars.length : Int) ≤ ref0 nd
        · rw [if_pos hv, ref6_out k27 k36 hv]; rfl
        · rw [if_neg hv, if_pos k26, ref6_26 hv k26, Bool.false_or]
          obtain ⟨y, hy⟩ : ∃ y : Nat, ref0 nd = y := ⟨(ref0 nd).toNat, by omega⟩
          have e1 : look6 (some (ref0 nd, vis6 (insF (fdAt fs i).nodes (fdAt fs i).params (fdAt fs i).vars.length n) (ref0 nd))) (ref0 nd) = visB (fdAt fs i).nodes (parF (fdAt fs i).nodes) (fdAt fs i).params n (ref0 nd) := by
            unfold look6
            simp only [if_true]
            unfold vis6
            rw [insF_len, hy, Int.toNat_natCast, insF_at (by omega), decide_eq_true (show (0 : Int) ≤ y by omega), decide_eq_true (show (y : Int) < (fdAt fs i).vars.length by omega)]
            rfl
          rw [e1]
          cases visB (fdAt fs i).nodes (parF (fdAt fs i).nodes) (fdAt fs i).params n (ref0 nd) <;> rfl
      · by_cases hd : declK nd.kind = true
        · exact refs_go hd nd.refs dec
        · rw [h.r0 nd hmem (Bool.eq_false_iff.2 hd) k26 k27 k36]
          rfl
theorem ok_refs {ns : List Nd} {a : Nat} {n : Nd} (h : okB ns a n = true) (h2 : declK n.kind = false) (h26 : n.kind ≠ 26) (h27 : n.kind ≠ 27) (h36 : n.kind ≠ 36) : n.refs = [] := by
  have d2 : n.kind ≠ 2 := fun e => by rw [e] at h2; exact absurd h2 (by decide)
  have d7 : n.kind ≠ 7 := fun e => by rw [e] at h2; exact absurd h2 (by decide)
  have d8 : n.kind ≠ 8 := fun e => by rw [e] at h2; exact absurd h2 (by decide)
  have d12 : n.kind ≠ 12 := fun e => by rw [e] at h2; exact absurd h2 (by decide)
  have key : (n.refs.length : Int) = 0 := by
    by_cases k1 : n.kind = 1
    · rw [okB_1 _ _ _ k1] at h; unfold ok1 at h; simp only [Bool.and_eq_true] at h; exact bare_refs h.2
    by_cases k3 : n.kind = 3
    · rw [okB_3 _ _ _ k3] at h; unfold ok3 at h; simp only [Bool.and_eq_true] at h; exact bare_refs h.2.2.1
    by_cases k4 : n.kind = 4
    · rw [okB_4 _ _ _ k4] at h; unfold ok4 at h; simp only [Bool.and_eq_true] at h; exact bare_refs h.2.2
    by_cases k5 : n.kind = 5
    · rw [okB_5 _ _ _ k5] at h; unfold ok5 at h; simp only [Bool.and_eq_true] at h; exact bare_refs h.2.2.2
    by_cases k6 : n.kind = 6
    · rw [okB_6 _ _ _ k6] at h; unfold ok6 at h; simp only [Bool.and_eq_true] at h; exact bare_refs h.2.2.2
    by_cases k9 : n.kind = 9
    · rw [okB_9 _ _ _ k9] at h; unfold ok9 at h; simp only [Bool.and_eq_true] at h; exact bare_refs h.2
    by_cases k10 : n.kind = 10
    · rw [okB_10 _ _ _ k10] at h; unfold ok9 at h; simp only [Bool.and_eq_true] at h; exact bare_refs h.2
    by_cases k11 : n.kind = 11
    · rw [okB_11 _ _ _ k11] at h; unfold ok11 at h; simp only [Bool.and_eq_true] at h; exact bare_refs h.2
    by_cases k13 : n.kind = 13
    · rw [okB_13 _ _ _ k13] at h; unfold ok13 at h; simp only [Bool.and_eq_true] at h; exact bare_refs h.2.2
    by_cases k14 : n.kind = 14
    · rw [okB_14 _ _ _ k14] at h; unfold ok4 at h; simp only [Bool.and_eq_true] at h; exact bare_refs h.2.2
    by_cases k20 : n.kind = 20
    · rw [okB_20 _ _ _ k20] at h; unfold ok20 at h; simp only [Bool.and_eq_true] at h; exact bare_refs h.2
    by_cases k21 : n.kind = 21
    · rw [okB_21 _ _ _ k21] at h; unfold ok20 at h; simp only [Bool.and_eq_true] at h; exact bare_refs h.2
    by_cases k22 : n.kind = 22
    · rw [okB_22 _ _ _ k22] at h; unfold ok20 at h; simp only [Bool.and_eq_true] at h; exact bare_refs h.2
    by_cases k23 : n.kind = 23
    · rw [okB_23 _ _ _ k23] at h; unfold ok23 at h; simp only [Bool.and_eq_true] at h; exact bare_refs h.2
    by_cases k24 : n.kind = 24
    · rw [okB_24 _ _ _ k24] at h; unfold ok24 at h; simp only [Bool.and_eq_true] at h; exact bare_refs h.2.2
    by_cases k25 : n.kind = 25
    · rw [okB_25 _ _ _ k25] at h; unfold ok25 at h; simp only [Bool.and_eq_true] at h; exact bare_refs h.2.2
    by_cases k28 : n.kind = 28
    · rw [okB_28 _ _ _ k28] at h; unfold ok28 at h; simp only [Bool.and_eq_true] at h; exact bare_refs h.2.2
    by_cases k29 : n.kind = 29
    · rw [okB_29 _ _ _ k29] at h; unfold ok29 at h; simp only [Bool.and_eq_true] at h; exact bare_refs h.2.2
    by_cases k30 : n.kind = 30
    · rw [okB_30 _ _ _ k30] at h; unfold ok29 at h; simp only [Bool.and_eq_true] at h; exact bare_refs h.2.2
    by_cases k31 : n.kind = 31
    · rw [okB_31 _ _ _ k31] at h; unfold ok31 at h; simp only [Bool.and_eq_true] at h; exact bare_refs h.2.2.2
    by_cases k32 : n.kind = 32
    · rw [okB_32 _ _ _ k32] at h; unfold ok32 at h; simp only [Bool.and_eq_true] at h; exact bare_refs h.2.2.2
    by_cases k33 : n.kind = 33
    · rw [okB_33 _ _ _ k33] at h; unfold ok29 at h; simp only [Bool.and_eq_true] at h; exact bare_refs h.2.2
    by_cases k34 : n.kind = 34
    · rw [okB_34 _ _ _ k34] at h; unfold ok34 at h; simp only [Bool.and_eq_true] at h; exact bare_refs h.2.2
    by_cases k35 : n.kind = 35
    · rw [okB_35 _ _ _ k35] at h; unfold ok35 at h; simp only [Bool.and_eq_true] at h; exact bare_refs h.2.2.2
    by_cases k37 : n.kind = 37
    · rw [okB_37 _ _ _ k37] at h; unfold ok20 at h; simp only [Bool.and_eq_true] at h; exact bare_refs h.2
    by_cases k38 : n.kind = 38
    · rw [okB_38 _ _ _ k38] at h; unfold ok38 at h; simp only [Bool.and_eq_true] at h; exact bare_refs h.2.2
    unfold okB at h
    simp only [if_neg d2, if_neg d7, if_neg d8, if_neg d12, if_neg h26, if_neg h27, if_neg h36, if_neg k1, if_neg k3, if_neg k4, if_neg k5, if_neg k6, if_neg k9, if_neg k10, if_neg k11, if_neg k13, if_neg k14, if_neg k20, if_neg k21, if_neg k22, if_neg k23, if_neg k24, if_neg k25, if_neg k28, if_neg k29, if_neg k30, if_neg k31, if_neg k32, if_neg k33, if_neg k34, if_neg k35, if_neg k37, if_neg k38] at h
    cases h
  exact List.eq_nil_of_length_eq_zero (by omega)
/-- What the first looks leave. -/
theorem fnOk_of {fs : List Fd} (h2 : P2 fs = .inl ()) (h3 : P3 fs = .inl ()) {i : Nat} (hi : i < fs.length) : InAll (fdAt fs i).nodes ∧ (Tree (fdAt fs i).nodes → FnOk (fdAt fs i)) := by
  have e2 := find1_all h2 i hi
  have e3 := find2_all h3 i hi
  have sh : ∀ k n, (fdAt fs i).nodes[k]? = some n → shapeB (fdAt fs i).nodes k n = true := fun k n hk => by
    have := e3 k (List.getElem?_eq_some_iff.1 hk).1
    unfold fine3 at this
    rwa [show ndAt (fdAt fs i).nodes k = n from by unfold ndAt; rw [hk]; rfl] at this
  have ia : InAll (fdAt fs i).nodes := fun k n hk => (shape_parts (sh k n hk)).2.1
  refine ⟨ia, fun tr => ?_⟩
  unfold fine2 headB headC at e2
  simp only [Bool.and_eq_true, decide_eq_true_eq] at e2
  obtain ⟨q1, q2, q3, ⟨q4, q5⟩, -⟩ := e2
  refine ⟨ia, q1, fun k n hk hkk => okB_loop (shape_parts (sh k n hk)).2.2 hkk, fun k n hk hk12 => ?_, q4, q5, tr, fun n hn hk => ?_, fun n hn a1 a2 a3 a4 => ?_⟩
  · have := (shape_parts (sh k n hk)).2.2
    rw [okB_12 _ _ _ hk12] at this
    unfold ok12 at this
    simp only [Bool.and_eq_true, decide_eq_true_eq] at this
    exact this.1
  · obtain ⟨k, hk2⟩ := List.getElem?_of_mem hn
    exact okB_refs (shape_parts (sh k n hk2)).2.2 hk
  · obtain ⟨k, hk2⟩ := List.getElem?_of_mem hn
    exact ok_refs (shape_parts (sh k n hk2)).2.2 a1 a2 a3 a4
theorem check_eq (fs : List Fd) : checkP fs = checkS fs := by
  unfold checkP checkS F1
  by_cases h1 : ok1B fs = false
  · rw [if_pos h1, if_pos h1]; rfl
  · rw [if_neg h1, if_neg h1]
    unfold G2
    cases h2 : P2 fs with
    | inr f => rfl
    | inl u =>
      simp only
      unfold G3
      cases h3 : P3 fs with
      | inr x => rfl
      | inl u =>
        simp only [ne_eq, not_true_eq_false, if_false]
        unfold G4 F2
        have e4 : P4p fs = P4 fs := find2_congr fun i hi k hk => fine4_eq (fnOk_of h2 h3 hi).1 hk
        rw [e4]
        cases h4 : P4 fs with
        | inr x => rfl
        | inl u =>
          simp only
          have hok : ∀ i, i < fs.length → FnOk (fdAt fs i) := fun i hi => by
            obtain ⟨a, b⟩ := fnOk_of h2 h3 hi
            exact b (tree_of a fun k hk => find2_all h4 i hi k hk)
          unfold G5
          have e5 : P5p fs = P5 fs := find2_congr fun i hi k hk => fine5_eq (hok i hi).ia (hok i hi).tr hk
          rw [e5]
          cases h5 : P5 fs with
          | inr x => rfl
          | inl u =>
            simp only [not_true_eq_false, if_false]
            unfold G6 F3
            have e6 : P6p fs = P6 fs := loop2_congr _ _ _ fun i _ hi s => by
              unfold in6p in6
              have := loopS_congr (f := step6p fs i) (g := step6 fs i) (lenAt fs i) 0 (seen0 (fdAt fs i).params (fdAt fs i).vars.length) fun k _ hk s => step6_eq (hok i (by omega)) (by omega) s
              rw [this]
              cases loopS (step6 fs i) 0 (lenAt fs i) (seen0 (fdAt fs i).params (fdAt fs i).vars.length) <;> rfl
            rw [e6]
            cases h6 : P6 fs with
            | inr x => rfl
            | inl u =>
              simp only
              unfold G7
              have e7 : P7p fs = P7 fs := find2_congr fun i hi k hk => by
                unfold fine7p out7A fine7 nodesAt
                rw [show lenAt fs i = (fdAt fs i).nodes.length from rfl, out7_at (hok i hi) hk]
                rfl
              rw [e7]
              cases h7 : P7 fs with
              | inr x => rfl
              | inl u =>
                simp only
                unfold G8
                have e8 : P8p fs = P8 fs := loop2_congr _ _ _ fun i _ hi s => by
                  unfold in8p in8
                  exact loopS_congr _ _ _ fun k _ hk s => step8_eq (hok i (by omega)) (by omega) s
                rw [e8]
                cases h8 : P8 fs with
                | inr x => rfl
                | inl made => rfl
end Go.Proofs.Ytcpjplkbmflglaa
