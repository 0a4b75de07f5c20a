/- A profile is known by its counts: a list that ascends, whose members are the places with their counts. -/
import Derived.Test.YtchlolfdinakiaaQi0
namespace Go.Proofs.Ytchlolfdinakiaa.Q
open Go.RowKit Go.Sort
def Asc (l : List Ct) : Prop := l.Pairwise fun a b => ltC a b = true
theorem lt_iff (a b : Ct) : ltC a b = true ↔ a.fn < b.fn ∨ (a.fn = b.fn ∧ a.line < b.line) := by simp [ltC]
theorem asc_ext : ∀ l l' : List Ct, Asc l → Asc l' → (∀ x, x ∈ l ↔ x ∈ l') → l = l'
  | [], [], _, _, _ => rfl
  | [], b :: s, _, _, h => absurd ((h b).2 (by simp)) (by simp)
  | a :: r, [], _, _, h => absurd ((h a).1 (by simp)) (by simp)
  | a :: r, b :: s, h1, h2, h => by
    obtain ⟨h1a, h1r⟩ := List.pairwise_cons.1 h1
    obtain ⟨h2b, h2s⟩ := List.pairwise_cons.1 h2
    have e : a = b := by
      rcases List.mem_cons.1 ((h a).1 (by simp)) with e | e
      · exact e
      · rcases List.mem_cons.1 ((h b).2 (by simp)) with e' | e'
        · exact e'.symm
        · have l1 := (lt_iff _ _).1 (h2b a e)
          have l2 := (lt_iff _ _).1 (h1a b e')
          omega
    subst e
    rw [asc_ext r s h1r h2s fun x => ⟨fun hx => ?_, fun hx => ?_⟩]
    · rcases List.mem_cons.1 ((h x).1 (by simp [hx])) with e | e
      · subst e; have := (lt_iff _ _).1 (h1a x hx); omega
      · exact e
    · rcases List.mem_cons.1 ((h x).2 (by simp [hx])) with e | e
      · subst e; have := (lt_iff _ _).1 (h2b x hx); omega
      · exact e
theorem hit_true_id (fn line : Int) : ∀ l : List Ct, (∀ y ∈ l, ¬ (y.fn = fn ∧ y.line = line)) → hitGo fn line true l = l
  | [], _ => by simp [hitGo]
  | c :: r, h => by
    have hc := h c (by simp)
    rw [hitGo, if_neg (by simp), if_neg (by simpa [eqC] using hc), hit_true_id fn line r fun y hy => h y (by simp [hy])]
/-- The list with one more hit. -/
theorem hit_spec (fn line : Int) : ∀ l : List Ct, Asc l →
    (∀ y ∈ hitGo fn line false l, (¬ (y.fn = fn ∧ y.line = line) ∧ y ∈ l) ∨ (y.fn = fn ∧ y.line = line ∧ ((∃ z ∈ l, z.fn = fn ∧ z.line = line ∧ y.hits = z.hits + 1) ∨ ((∀ z ∈ l, ¬ (z.fn = fn ∧ z.line = line)) ∧ y.hits = 1)))) ∧
    (∀ z ∈ l, ∃ y ∈ hitGo fn line false l, y.fn = z.fn ∧ y.line = z.line) ∧ (∃ y ∈ hitGo fn line false l, y.fn = fn ∧ y.line = line) ∧ Asc (hitGo fn line false l)
  | [], _ => by simp [hitGo, Asc]
  | c :: r, h => by
    obtain ⟨hc, hr⟩ := List.pairwise_cons.1 h
    obtain ⟨i1, i2, i3, i4⟩ := hit_spec fn line r hr
    rw [hitGo]
    by_cases hg : gtC c fn line = true
    · have hg' : fn < c.fn ∨ (c.fn = fn ∧ line < c.line) := by simpa [gtC] using hg
      have hne : ∀ y ∈ c :: r, ¬ (y.fn = fn ∧ y.line = line) := fun y hy => by
        rcases List.mem_cons.1 hy with rfl | hy
        · omega
        · have := (lt_iff _ _).1 (hc y hy); omega
      rw [if_pos ⟨rfl, hg⟩, hit_true_id fn line r fun y hy => hne y (by simp [hy])]
      refine ⟨fun y hy => ?_, fun z hz => ⟨z, List.mem_cons_of_mem _ hz, rfl, rfl⟩, ⟨⟨fn, line, 1⟩, by simp, rfl, rfl⟩, ?_⟩
      · rcases List.mem_cons.1 hy with rfl | hy
        · exact .inr ⟨rfl, rfl, .inr ⟨hne, rfl⟩⟩
        · exact .inl ⟨hne y hy, hy⟩
      · refine List.pairwise_cons.2 ⟨fun y hy => (lt_iff _ _).2 ?_, h⟩
        rcases List.mem_cons.1 hy with rfl | hy
        · simp only; omega
        · have := (lt_iff _ _).1 (hc y hy); simp only; omega
    · have hg' : ¬ (fn < c.fn ∨ (c.fn = fn ∧ line < c.line)) := by simpa [gtC] using hg
      rw [if_neg (by simp [hg])]
      by_cases he : eqC c fn line = true
      · have he' : c.fn = fn ∧ c.line = line := by simpa [eqC] using he
        have hne : ∀ y ∈ r, ¬ (y.fn = fn ∧ y.line = line) := fun y hy => by have := (lt_iff _ _).1 (hc y hy); omega
        rw [if_pos he, hit_true_id fn line r hne]
        refine ⟨fun y hy => ?_, fun z hz => ?_, ⟨⟨c.fn, c.line, c.hits + 1⟩, by simp, he'.1, he'.2⟩, ?_⟩
        · rcases List.mem_cons.1 hy with rfl | hy
          · exact .inr ⟨he'.1, he'.2, .inl ⟨c, by simp, he'.1, he'.2, rfl⟩⟩
          · exact .inl ⟨hne y hy, by simp [hy]⟩
        · rcases List.mem_cons.1 hz with rfl | hz
          · exact ⟨_, List.mem_cons_self, rfl, rfl⟩
          · exact ⟨z, by simp [hz], rfl, rfl⟩
        · exact List.pairwise_cons.2 ⟨fun y hy => (lt_iff _ _).2 (by have := (lt_iff _ _).1 (hc y hy); simpa using this), hr⟩
      · have he' : ¬ (c.fn = fn ∧ c.line = line) := by simpa [eqC] using he
        rw [if_neg he]
        refine ⟨fun y hy => ?_, fun z hz => ?_, ?_, ?_⟩
        · rcases List.mem_cons.1 hy with rfl | hy
          · exact .inl ⟨he', by simp⟩
          · rcases i1 y hy with ⟨a, b⟩ | ⟨a, b, d | ⟨d, e⟩⟩
            · exact .inl ⟨a, by simp [b]⟩
            · obtain ⟨z, hz, e⟩ := d; exact .inr ⟨a, b, .inl ⟨z, by simp [hz], e⟩⟩
            · refine .inr ⟨a, b, .inr ⟨fun z hz => ?_, e⟩⟩
              rcases List.mem_cons.1 hz with rfl | hz
              · exact he'
              · exact d z hz
        · rcases List.mem_cons.1 hz with rfl | hz
          · exact ⟨_, List.mem_cons_self, rfl, rfl⟩
          · obtain ⟨y, hy, e⟩ := i2 z hz; exact ⟨y, by simp [hy], e⟩
        · obtain ⟨y, hy, e⟩ := i3; exact ⟨y, by simp [hy], e⟩
        · refine List.pairwise_cons.2 ⟨fun y hy => (lt_iff _ _).2 ?_, i4⟩
          rcases i1 y hy with ⟨a, b⟩ | ⟨a, b, -⟩
          · exact (lt_iff _ _).1 (hc y b)
          · omega
/-- What the counts of these records are. -/
structure Is (l : List Ct) (rs : List Rc) : Prop where
  asc : Asc l
  each : ∀ x ∈ l, x.hits = tally x.fn x.line rs ∧ 0 < x.hits
  all : ∀ f g, 0 < tally f g rs → ∃ x ∈ l, x.fn = f ∧ x.line = g
theorem Is.eq {l l' : List Ct} {rs : List Rc} (h : Is l rs) (h' : Is l' rs) : l = l' := by
  have one : ∀ {l l' : List Ct}, Is l rs → Is l' rs → ∀ x, x ∈ l → x ∈ l' := fun h h' x hx => by
    obtain ⟨e, p⟩ := h.each x hx
    obtain ⟨y, hy, e1, e2⟩ := h'.all x.fn x.line (by omega)
    obtain ⟨e3, -⟩ := h'.each y hy
    have : y = x := by
      cases x; cases y
      simp only at *
      subst e1 e2
      simp only [Ct.mk.injEq, true_and]
      omega
    exact this ▸ hy
  exact asc_ext l l' h.asc h'.asc fun x => ⟨one h h' x, one h' h x⟩
theorem prof_is (rs : List Rc) : ∀ k, Is (prof (rs.take k)) (rs.take k)
  | 0 => by simp [prof]; exact ⟨by simp [Asc], by simp, by simp [tally]⟩
  | k + 1 => by
    have h := prof_is rs k
    cases hx : rs[k]? with
    | none =>
      have : rs.take (k + 1) = rs.take k := by
        have := List.getElem?_eq_none_iff.1 hx
        rw [List.take_of_length_le (by omega), List.take_of_length_le (by omega)]
      rw [this]; exact h
    | some x =>
      rw [prof_step rs k x hx]
      have ht := fun f l => tally_step f l rs k x hx
      have hb := fun f l => tally_bd f l (rs.take k)
      unfold stepP
      split
      · rename_i hk
        obtain ⟨i1, i2, i3, i4⟩ := hit_spec x.fn x.line _ h.asc
        refine ⟨i4, fun y hy => ?_, fun f g hp => ?_⟩
        · rw [ht]
          rcases i1 y hy with ⟨a, b⟩ | ⟨a, b, ⟨z, hz, e1, e2, e3⟩ | ⟨d, e⟩⟩
          · rw [if_neg (fun hh => a ⟨hh.2.1.symm, hh.2.2.symm⟩)]
            have := h.each y b; omega
          · rw [if_pos ⟨hk, a.symm, b.symm⟩]
            have := h.each z hz
            rw [a, b]
            rw [e1, e2] at this
            omega
          · rw [if_pos ⟨hk, a.symm, b.symm⟩, a, b]
            have h0 : ¬ 0 < tally x.fn x.line (rs.take k) := fun hp => by
              obtain ⟨z, hz, e1, e2⟩ := h.all _ _ hp
              exact d z hz ⟨e1, e2⟩
            have := hb x.fn x.line
            omega
        · rw [ht] at hp
          by_cases e : x.kind = 1 ∧ x.fn = f ∧ x.line = g
          · obtain ⟨y, hy, e1, e2⟩ := i3
            exact ⟨y, hy, e1.trans e.2.1, e2.trans e.2.2⟩
          · rw [if_neg e] at hp
            obtain ⟨z, hz, e1, e2⟩ := h.all f g (by omega)
            obtain ⟨y, hy, a, b⟩ := i2 z hz
            exact ⟨y, hy, a.trans e1, b.trans e2⟩
      · rename_i hk
        refine ⟨h.asc, fun y hy => ?_, fun f g hp => ?_⟩
        · rw [ht, if_neg (fun hh => hk hh.1)]; have := h.each y hy; omega
        · rw [ht, if_neg (fun hh => hk hh.1)] at hp; exact h.all f g (by omega)
end Go.Proofs.Ytchlolfdinakiaa.Q
