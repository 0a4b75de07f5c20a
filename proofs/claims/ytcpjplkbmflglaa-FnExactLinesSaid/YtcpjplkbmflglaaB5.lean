/- The reference's look at a node. -/
import Derived.Test.YtcpjplkbmflglaaB4
namespace Go.Proofs.Ytcpjplkbmflglaa
open Go.RowKit
attribute [local go_sem] run_store_float
set_option linter.unusedVariables false
/-- All kids lie ahead. -/
def kidsIn (n : Nd) (a : Nat) : Prop := ∀ k ∈ n.kids, 0 ≤ k ∧ k < a
instance (n : Nd) (a : Nat) : Decidable (kidsIn n a) := by unfold kidsIn; infer_instance
def shapeB (ns : List Nd) (a : Nat) (n : Nd) : Bool :=
  decide (n.kids.length ≤ 200) && (decide (kidsIn n a) && ((if isStat n.kind then decide (1 ≤ n.line ∧ n.line ≤ 100000) else decide (n.line = 0)) && okB ns a n))
theorem shapeB_many {ns : List Nd} {a : Nat} {n : Nd} (h : 200 < n.kids.length) : shapeB ns a n = false := by
  unfold shapeB
  rw [decide_eq_false (by omega)]
  rfl
theorem shapeB_out {ns : List Nd} {a : Nat} {n : Nd} (h : ¬ kidsIn n a) : shapeB ns a n = false := by
  unfold shapeB
  rw [decide_eq_false h, Bool.false_and, Bool.and_false]
theorem shapeB_in {ns : List Nd} {a : Nat} {n : Nd} (h0 : n.kids.length ≤ 200) (h : kidsIn n a) : shapeB ns a n = ((if isStat n.kind then decide (1 ≤ n.line ∧ n.line ≤ 100000) else decide (n.line = 0)) && okB ns a n) := by
  unfold shapeB
  rw [decide_eq_true h, decide_eq_true h0]
  rfl
set_option maxHeartbeats 1000000 in
theorem shape_any (A : Option Addr) (c : Nat) (ls : List LN) (l : LN) (w : World) (lo : Nat) (a : Nat) (h : RdN w lo A ls) (hn : ls.length ≤ maxLen) (hf : ∀ l ∈ ls, fitN l) (ha : a < ls.length) (hl : ls[a]? = some l) :
    Calls Try.prog 38 #[.slice A ls.length c, .int .i64 a] w fun e w' => e = .returned (.bool (shapeB (ls.map LN.nd) a l.nd)) ∧ Below w.heap.size w w' := by
  have HL := Lib.hid hl
  obtain ⟨hf1, hf2', hf3⟩ := hf l (List.mem_of_getElem? hl)
  have hn' := hn
  unfold maxLen at hn' hf1 hf2' hf3
  have HF := Lib.hid hf
  have H := Lib.hid h
  obtain ⟨b, off, rfl, hlo, hb, c0, c1, c2, c3, c4, c5, c6, c7, hok⟩ := rdN_at h hl
  have HOK := Lib.hid hok
  clear h hf hl hok
  by_cases h0 : 200 < l.nd.kids.length
  · rw [shapeB_many h0]
    go_enter Try.func38, Try.ntmps38
    go_wp2
    go_ret
    exact ⟨rfl, below_new _ _⟩
  · by_cases hz : l.nd.kids.length = 0
    · have hkd : l.nd.kids = [] := List.eq_nil_of_length_eq_zero hz
      have HV := Lib.hid (shapeB_in (ns := (ls.map LN.nd)) (a := a) (n := l.nd) (by omega) (by unfold kidsIn; rw [hkd]; simp))
      rw [hz] at c7
      clear hkd
      go_enter Try.func38, Try.ntmps38
      go_wp2
      go_loop [19] (fun v => v = .int .i64 0) (fun _ => 0)
      case atStart => rfl
      case round =>
        subst hrel
        cases hs : isStat l.nd.kind
        · have HS := Lib.hid hs
          by_cases hline : l.nd.line = 0
          · have HLI := Lib.hid hline
            have hl0 : (l.nd.line == 0) = true := by simp [hline]
            clear hline
            go_wp2_with fail
            refine (stat_any _ _).mono ?_
            rintro e w1 ⟨rfl, rfl⟩
            go_wp2_with fail
            refine (sex_any _ _ ls l _ lo a (H.out.alloc _) hn HF.out ha HL.out HS.out).mono ?_
            rintro e w1 ⟨rfl, hb1⟩
            have HB1 := below_then hb1
            go_wp2
            go_ret
            exact ⟨by rw [HV.out, HS.out, if_neg (by simp), decide_eq_true HLI.out, Bool.true_and]; rfl, HB1⟩
          · have hl0 : (l.nd.line == 0) = false := by simpa using hline
            have HLI := Lib.hid hline
            clear hline
            go_wp2_with fail
            refine (stat_any _ _).mono ?_
            rintro e w1 ⟨rfl, rfl⟩
            go_wp2
            go_ret
            exact ⟨by rw [HV.out, HS.out, if_neg (by simp), decide_eq_false HLI.out, Bool.false_and]; rfl, below_new _ _⟩
        · have HS := Lib.hid hs
          by_cases hline : 1 ≤ l.nd.line ∧ l.nd.line ≤ 100000
          · have HLI := Lib.hid hline
            obtain ⟨hl1, hl2⟩ := hline
            go_wp2_with fail
            refine (stat_any _ _).mono ?_
            rintro e w1 ⟨rfl, rfl⟩
            go_wp2_with fail
            refine (sst_any _ _ ls l _ lo a (H.out.alloc _) hn HF.out ha HL.out HS.out).mono ?_
            rintro e w1 ⟨rfl, hb1⟩
            have HB1 := below_then hb1
            go_wp2
            go_ret
            exact ⟨by rw [HV.out, HS.out, if_pos rfl, decide_eq_true HLI.out, Bool.true_and]; rfl, HB1⟩
          · have HLI := Lib.hid hline
            by_cases hl1 : l.nd.line < 1
            · clear hline
              go_wp2_with fail
              refine (stat_any _ _).mono ?_
              rintro e w1 ⟨rfl, rfl⟩
              go_wp2
              go_ret
              exact ⟨by rw [HV.out, HS.out, if_pos rfl, decide_eq_false HLI.out, Bool.false_and]; rfl, below_new _ _⟩
            · have hl2 : 100000 < l.nd.line := by omega
              clear hline
              go_wp2_with fail
              refine (stat_any _ _).mono ?_
              rintro e w1 ⟨rfl, rfl⟩
              go_wp2
              go_ret
              exact ⟨by rw [HV.out, HS.out, if_pos rfl, decide_eq_false HLI.out, Bool.false_and]; rfl, below_new _ _⟩
    obtain ⟨b2, off2, hka, hlo2, hb2, hcell⟩ := HOK.out.2 (by omega)
    rw [hka] at c7
    have HC := Lib.hid hcell
    have hpos : 0 < l.nd.kids.length := by omega
    clear hka hcell hz
    go_enter Try.func38, Try.ntmps38
    go_wp2
    go_loop [19] (fun v => ∃ p : Nat, p ≤ l.nd.kids.length ∧ v = .int .i64 p ∧ ∀ k ∈ l.nd.kids.take p, 0 ≤ k ∧ k < a) (fun v => l.nd.kids.length - (intOf v).toNat)
    case atStart => exact ⟨0, Nat.zero_le _, rfl, by simp⟩
    case round =>
      obtain ⟨p, hp2, rfl, hB⟩ := hrel
      have HB := Lib.hid hB
      clear hB
      by_cases hlt : p < l.nd.kids.length
      · obtain ⟨k, hk⟩ : ∃ k, l.nd.kids[p]? = some k := ⟨_, List.getElem?_eq_getElem hlt⟩
        have e0 : w.cell? ⟨b2, off2 + p, none⟩ = some (.int .i64 k) := by simpa using HC.out p k hk 0 _ rfl
        have HK := Lib.hid hk
        clear hk
        by_cases hneg : k < 0
        · have HV := Lib.hid (shapeB_out (ns := (ls.map LN.nd)) (a := a) (n := l.nd) (fun h => by have := h k (List.mem_of_getElem? HK.out); omega))
          go_wp2
          go_ret
          exact ⟨by rw [HV.out]; rfl, below_new _ _⟩
        · by_cases hge : (a : Int) ≤ k
          · have HV := Lib.hid (shapeB_out (ns := (ls.map LN.nd)) (a := a) (n := l.nd) (fun h => by have := h k (List.mem_of_getElem? HK.out); omega))
            go_wp2
            go_ret
            exact ⟨by rw [HV.out]; rfl, below_new _ _⟩
          · go_wp2
            go_round
            case rel => exact ⟨p + 1, by omega, by go_num, fun k' hk' => by
              rw [List.take_add_one, HK.out] at hk'
              rcases List.mem_append.1 hk' with hk' | hk'
              · exact HB.out k' hk'
              · simp at hk'; subst hk'; omega⟩
            case measure => simp [intOf]; omega
      · have hjj : p = l.nd.kids.length := by omega
        subst hjj
        have HI : Hid (kidsIn l.nd a) := by
          have := HB.out
          rw [List.take_length] at this
          exact this
        have HV := Lib.hid (shapeB_in (ns := (ls.map LN.nd)) (a := a) (n := l.nd) (by omega) HI.out)
        clear HB
        cases hs : isStat l.nd.kind
        · have HS := Lib.hid hs
          by_cases hline : l.nd.line = 0
          · have HLI := Lib.hid hline
            have hl0 : (l.nd.line == 0) = true := by simp [hline]
            clear hline
            go_wp2_with fail
            refine (stat_any _ _).mono ?_
            rintro e w1 ⟨rfl, rfl⟩
            go_wp2_with fail
            refine (sex_any _ _ ls l _ lo a (H.out.alloc _) hn HF.out ha HL.out HS.out).mono ?_
            rintro e w1 ⟨rfl, hb1⟩
            have HB1 := below_then hb1
            go_wp2
            go_ret
            exact ⟨by rw [HV.out, HS.out, if_neg (by simp), decide_eq_true HLI.out, Bool.true_and]; rfl, HB1⟩
          · have hl0 : (l.nd.line == 0) = false := by simpa using hline
            have HLI := Lib.hid hline
            clear hline
            go_wp2_with fail
            refine (stat_any _ _).mono ?_
            rintro e w1 ⟨rfl, rfl⟩
            go_wp2
            go_ret
            exact ⟨by rw [HV.out, HS.out, if_neg (by simp), decide_eq_false HLI.out, Bool.false_and]; rfl, below_new _ _⟩
        · have HS := Lib.hid hs
          by_cases hline : 1 ≤ l.nd.line ∧ l.nd.line ≤ 100000
          · have HLI := Lib.hid hline
            obtain ⟨hl1, hl2⟩ := hline
            go_wp2_with fail
            refine (stat_any _ _).mono ?_
            rintro e w1 ⟨rfl, rfl⟩
            go_wp2_with fail
            refine (sst_any _ _ ls l _ lo a (H.out.alloc _) hn HF.out ha HL.out HS.out).mono ?_
            rintro e w1 ⟨rfl, hb1⟩
            have HB1 := below_then hb1
            go_wp2
            go_ret
            exact ⟨by rw [HV.out, HS.out, if_pos rfl, decide_eq_true HLI.out, Bool.true_and]; rfl, HB1⟩
          · have HLI := Lib.hid hline
            by_cases hl1 : l.nd.line < 1
            · clear hline
              go_wp2_with fail
              refine (stat_any _ _).mono ?_
              rintro e w1 ⟨rfl, rfl⟩
              go_wp2
              go_ret
              exact ⟨by rw [HV.out, HS.out, if_pos rfl, decide_eq_false HLI.out, Bool.false_and]; rfl, below_new _ _⟩
            · have hl2 : 100000 < l.nd.line := by omega
              clear hline
              go_wp2_with fail
              refine (stat_any _ _).mono ?_
              rintro e w1 ⟨rfl, rfl⟩
              go_wp2
              go_ret
              exact ⟨by rw [HV.out, HS.out, if_pos rfl, decide_eq_false HLI.out, Bool.false_and]; rfl, below_new _ _⟩
end Go.Proofs.Ytcpjplkbmflglaa
