/- What has been taken out of the map, put in order, is the profile. -/
import Derived.Test.YtchlolfdinakiaaQk
import Derived.Test.YtchlolfdinakiaaQj
namespace Go.Proofs.Ytchlolfdinakiaa.Q
open Go.Shelf Go.RowKit Go.Lib Go.Sort
theorem tally_pos (f l : Int) : ∀ rs : List Rc, 0 < tally f l rs → ∃ x ∈ rs, x.fn = f ∧ x.line = l
  | [], h => by simp [tally] at h
  | x :: r, h => by
    simp only [tally] at h
    by_cases e : x.kind = 1 ∧ x.fn = f ∧ x.line = l
    · exact ⟨x, by simp, e.2⟩
    · rw [if_neg e] at h
      obtain ⟨y, hy, e⟩ := tally_pos f l r (by omega)
      exact ⟨y, by simp [hy], e⟩
theorem done_is {H : Type} {acc l : List Ct} {D : DataW H} {left : Lit → Bool} {rs : List Rc} (h : Done acc D left) (hl : ∀ k, left k = false) (hc : Cnt D rs) (hi : ∀ x ∈ rs, i64 x.fn ∧ i64 x.line)
    (hp : l.Perm acc) (hs : l.Pairwise fun a b => ltC b a = false) : Is l rs := by
  have ho : l.Pairwise fun a b => ¬ (a.fn = b.fn ∧ a.line = b.line) := (hp.pairwise_iff (fun {a b} h e => h ⟨e.1.symm, e.2.symm⟩)).2 h.once
  refine ⟨(List.pairwise_and_iff.2 ⟨hs, ho⟩).imp fun {a b} hh => ?_, fun x hx => ?_, fun f g hg => ?_⟩
  · rw [lt_iff]
    have h1 := hh.1
    simp [ltC] at h1
    have h2 := hh.2
    omega
  · obtain ⟨a1, a2, a3, a4, a5⟩ := h.each x (hp.mem_iff.1 hx)
    have e1 := hc.at_ _ _ a1 a2
    rw [a5] at e1
    have e2 : x.hits = tally x.fn x.line rs := by simpa using e1
    have e3 := hc.has _ _ a1 a2
    rw [a4] at e3
    have e4 : 0 < tally x.fn x.line rs := by simpa using e3.symm
    exact ⟨e2, by omega⟩
  · obtain ⟨x, hx, e1, e2⟩ := tally_pos f g rs hg
    obtain ⟨i1, i2⟩ := hi x hx
    rw [e1] at i1
    rw [e2] at i2
    obtain ⟨y, hy, e⟩ := h.all f g i1 i2 (by rw [hc.has f g i1 i2]; simpa using hg) (hl _)
    exact ⟨y, hp.mem_iff.2 hy, e⟩
theorem perm_of {d d' : Array Ct} (h : PermIn 0 d.size d d') : d'.toList.Perm d.toList := by
  obtain ⟨h1, -, h3⟩ := h
  have e1 : d'.extract 0 d.size = d' := by rw [← h1]; simp
  have e2 : d.extract 0 d.size = d := by simp
  rw [e1, e2] at h3
  exact h3
theorem sorted_of {d : Array Ct} (h : SortedIn ltC 0 d.size d) : d.toList.Pairwise fun a b => ltC b a = false := by
  rw [List.pairwise_iff_getElem]
  intro i j hi hj hij
  have := h i j (Nat.zero_le _) hij (by simpa using hj)
  have hi' : i < d.size := by simpa using hi
  have hj' : j < d.size := by simpa using hj
  rw [getElem!_pos d j hj', getElem!_pos d i hi'] at this
  simpa using this
theorem svK0 (n : Nat) (h : n ≤ 1) : Lib.swapperK n svE 25 = n + 1 := by
  rcases Nat.le_one_iff_eq_zero_or_eq_one.1 h with rfl | rfl <;> simp [Lib.swapperK]
theorem sort_tiny (p : Option Addr) (n c : Nat) (h1 : n ≤ 1) (la lb : Array Value) (w : World) :
    Calls Try.prog 76 #[.iface 68 (.slice p n c), .func (.func 77) la lb] w fun e w' => e = .returned (.tuple #[]) ∧ ∃ os, w' = grow w os := by
  have hf : ∃ f, Try.prog.funcs.findIdx? (·.name == "internal/reflectlite" ++ ".Swapper$" ++ toString (swapperK n svE 25)) = some f := by
    rw [svK0 n h1]
    rcases Nat.le_one_iff_eq_zero_or_eq_one.1 h1 with rfl | rfl
    · exact ⟨102, by kernel_rfl⟩
    · exact ⟨103, by kernel_rfl⟩
  obtain ⟨f, hf⟩ := hf
  exact Any.sort_Slice_tiny Try.laysGg6 68 106 svT svE (by kernel_rfl) (by kernel_rfl) (by kernel_rfl) (by kernel_rfl) 25 (fun _ => by kernel_rfl) p n c h1 f hf (.func 77) la lb w
end Go.Proofs.Ytchlolfdinakiaa.Q
