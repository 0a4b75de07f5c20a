/- The program's reader of numbers: strconv.Atoi, the closure. -/
import Derived.Test.YtchlolfdinakiaaDoorX2
import Derived.Test.YtchlolfdinakiaaDoorH5
import Derived.Lib.AtoiErrMem
namespace Go.Proofs.YtchlolfdinakiaaDoor
open Go.RowKit
attribute [local go_sem] run_store_float

/-- The two errors of the library's that a numeral can end in. -/
def ErrV (w : World) : Prop := (∃ ev, w.cell? ⟨2, 0, none⟩ = some ev ∧ (ev = .nilIface ∨ ∃ te pe, ev = .iface te pe)) ∧ (∃ ev, w.cell? ⟨3, 0, none⟩ = some ev ∧ (ev = .nilIface ∨ ∃ te pe, ev = .iface te pe)) ∧ 3 < w.heap.size
theorem But.errV {P : Nat → Prop} {w w' : World} (h : But P w w') (hE : ErrV w) (h2 : ∀ k, P k → 3 < k) : ErrV w' := by
  obtain ⟨⟨e1, a1, b1⟩, ⟨e2, a2, b2⟩, c⟩ := hE
  exact ⟨⟨e1, (World.cell?_of_block (h.block 2 (by omega) (fun hp => by have := h2 _ hp; omega))).trans a1, b1⟩, ⟨e2, (World.cell?_of_block (h.block 3 c (fun hp => by have := h2 _ hp; omega))).trans a2, b2⟩, Nat.lt_of_lt_of_le c h.size⟩
def AtoiP (s : ByteArray) (w : World) (e : Ending) (w' : World) : Prop := ∃ (n : Int) (er : Value), e = .returned (.tuple #[.int .i64 n, er]) ∧ i64 n ∧ (er = .nilIface ∨ ∃ N, er = .iface 100 (.pointer (some ⟨N, 0, none⟩))) ∧ Below w.heap.size w w' ∧ ∀ v, Lib.atoiAll s.data.toList = .ok v → n = v ∧ er = .nilIface
theorem atoi_any (s : ByteArray) (hlim : s.size ≤ 1000000) (w : World) (hE : ErrV w) : Calls Tryd.prog 44 #[.string s] w (AtoiP s w) := by
  obtain ⟨⟨e1, a1, b1⟩, ⟨e2, a2, b2⟩, c⟩ := hE
  cases h : Lib.atoiAll s.data.toList
  case ok v =>
    refine (Tryd.strconv_Atoi_ok s (by omega) v h w).mono ?_
    rintro e w' ⟨rfl, hw⟩
    refine ⟨v, .nilIface, rfl, Lib.atoiAll_bounds h, .inl rfl, ?_, fun v' hv => ?_⟩
    · rcases hw with rfl | ⟨t, rfl⟩
      · exact Below.refl _ _
      · exact Lib.bytesWorld_below _ _ _
    · rw [h] at hv; injection hv with hv; exact ⟨hv, rfl⟩
  case range =>
    refine (Tryd.strconv_Atoi_range s (by omega) h e2 w a2 b2).mono ?_
    rintro e w' ⟨N, rfl, _, _, hb⟩
    exact ⟨_, _, rfl, Lib.atoiSat_bounds _, .inr ⟨N, rfl⟩, hb, fun v hv => by rw [h] at hv; cases hv⟩
  · refine (Tryd.strconv_Atoi_syntax s (by omega) (h.trans (by rfl)) e1 w a1 b1).mono ?_
    rintro e w' ⟨N, rfl, _, _, hb⟩
    exact ⟨0, _, rfl, ⟨by decide, by decide⟩, .inr ⟨N, rfl⟩, hb, fun v hv => by rw [h] at hv; cases hv⟩

theorem itoa_no32 (m : Int) : ∀ c ∈ Lib.itoa m, c ≠ 32 := by
  intro c hc
  have dig : ∀ u, c ∈ Lib.decDigits u → c ≠ 32 := fun u h e => by
    have := dd_dig u c h
    rw [e] at this
    exact absurd this (by decide)
  unfold Lib.itoa at hc
  split at hc
  · rcases List.mem_cons.1 hc with rfl | hc
    · decide
    · exact dig _ hc
  · exact dig _ hc
/-- The space that a reader finds is the one behind the numeral. -/
theorem spc_end {l rest : List UInt8} {p k : Nat} {m : Int} (hm : i64 m) (hl : l.drop p = numB m ++ rest) (hpk : p ≤ k) (hk : ∀ j, p ≤ j → j < k → l[j]? ≠ some 32) (h21 : k ≤ p + 21) (hend : l.length ≤ k ∨ l[k]? = some 32 ∨ k = p + 21) :
    k = p + (Lib.itoa m).length ∧ l[k]? = some 32 ∧ (l.drop p).take (k - p) = Lib.itoa m := by
  have hlen := Lib.itoa_length_le m hm.1 hm.2
  have e0 : l.drop p = Lib.itoa m ++ 32 :: rest := by rw [hl]; unfold numB; simp
  have at_ : ∀ i, l[p + i]? = (Lib.itoa m ++ 32 :: rest)[i]? := fun i => by rw [← e0, List.getElem?_drop]
  have h32 : l[p + (Lib.itoa m).length]? = some 32 := by rw [at_, List.getElem?_append_right (Nat.le_refl _), Nat.sub_self]; rfl
  have hle : k ≤ p + (Lib.itoa m).length := by
    rcases Nat.lt_or_ge (p + (Lib.itoa m).length) k with h | h
    · exact absurd h32 (hk _ (by omega) h)
    · exact h
  have hkk : k = p + (Lib.itoa m).length := by
    rcases Nat.lt_or_ge k (p + (Lib.itoa m).length) with h | h
    · exfalso
      have hlt : k - p < (Lib.itoa m).length := by omega
      have hc : l[k]? = some (Lib.itoa m)[k - p] := by
        have := at_ (k - p)
        rw [show p + (k - p) = k by omega, List.getElem?_append_left hlt, List.getElem?_eq_getElem hlt] at this
        exact this
      rcases hend with h' | h' | h'
      · rw [List.getElem?_eq_none h'] at hc; cases hc
      · rw [h'] at hc
        injection hc with hc
        exact itoa_no32 m _ (List.getElem_mem hlt) hc.symm
      · omega
    · omega
  refine ⟨hkk, by rw [hkk]; exact h32, ?_⟩
  rw [hkk, Nat.add_sub_cancel_left, e0, List.take_left]
theorem numRd_no {l : List UInt8} {p k : Nat} {bad : Bool} (hp : p ≤ l.length) (hpk : p ≤ k) (hk : ∀ j, p ≤ j → j < k → l[j]? ≠ some 32) (h21 : k ≤ p + 21) (hend : l.length ≤ k ∨ l[k]? = some 32 ∨ k = p + 21) (hx : l[k]? ≠ some 32) : NumRd l p bad 0 p true :=
  ⟨⟨by decide, by decide⟩, Nat.le_refl _, hp, fun _ => rfl, (fun h => by cases h), fun m rest hm hl => absurd (spc_end hm hl hpk hk h21 hend).2.1 hx⟩
theorem numRd_yes {l : List UInt8} {p k : Nat} {ok ok' : Bool} {n : Int} {er : Value} (hpk : p ≤ k) (hkl : k < l.length) (hk : ∀ j, p ≤ j → j < k → l[j]? ≠ some 32) (h21 : k ≤ p + 21) (hx : l[k]? = some 32) (hn : i64 n)
    (hv : ∀ v, Lib.atoiAll ((l.drop p).take (k - p)) = .ok v → n = v ∧ er = .nilIface) (hok : ok' = true ↔ ok = true ∧ er = .nilIface) : NumRd l p (!ok) n (k + 1) (!ok') := by
  refine ⟨hn, by omega, by omega, fun h => ?_, fun _ => by omega, fun m rest hm hl => ?_⟩
  · cases ok with
    | true => cases h
    | false => cases h' : ok' with
      | false => rfl
      | true => exact absurd (hok.1 h').1 (by simp)
  · obtain ⟨a, b, c⟩ := spc_end hm hl hpk hk h21 (.inr (.inl hx))
    rw [c] at hv
    obtain ⟨d, e⟩ := hv m (atoi_itoa m hm)
    refine ⟨d, by unfold numB; rw [List.length_append]; simp; omega, ?_⟩
    cases ok with
    | true => rw [hok.2 ⟨rfl, e⟩]
    | false => cases h' : ok' with
      | false => rfl
      | true => exact absurd (hok.1 h').1 (by simp)
theorem cell1 {w : World} {g : Nat} {t : TypeId} {a : Value} (hb : Blk w g t #[a]) : w.cell? ⟨g, 0, none⟩ = some a := hb.cell 0
theorem blk_ne {w : World} {g g' : Nat} {t t' : TypeId} {cs cs' : Array Value} (h : Blk w g t cs) (h' : Blk w g' t' cs') (hne : t ≠ t') : g ≠ g' := by
  rintro rfl
  unfold Blk at h h'
  rw [h] at h'
  injection h' with h'
  injection h' with _ ht
  exact hne ht
theorem conv_part {w : World} {lo b off : Nat} {l : List UInt8} (hb : RdL encB 1 w lo (some ⟨b, off, none⟩) l) (p k cc : Nat) (hpk : p ≤ k) (hk : k ≤ l.length) : (convert 35 9 (.slice (some ⟨b, off + p, none⟩) (k - p) cc)).run Tryd.prog w = .ok (.string ⟨((l.drop p).take (k - p)).toArray⟩) w := by
  by_cases h0 : 0 < k - p
  · exact conv_win hb p (k - p) cc (by omega) h0 0
  · have e : k - p = 0 := by omega
    rw [e]
    exact conv_zero w _ cc 0
def InP (l : List UInt8) (p : Nat) (ok : Bool) (bi bk : Nat) (w : World) (e : Ending) (w' : World) : Prop :=
  ∃ (n : Int) (p' : Nat) (ok' : Bool), e = .returned (.int .i64 n) ∧ NumRd l p (!ok) n p' (!ok') ∧ Blk w' bi 3 #[.int .i64 (p' : Int)] ∧ Blk w' bk 4 #[.bool ok'] ∧ But (fun x => x = bi ∨ x = bk) w w'
set_option maxRecDepth 100000 in
set_option maxHeartbeats 1600000 in
theorem inumH_any (A : Option Addr) (c : Nat) (l : List UInt8) (p : Nat) (ok : Bool) (bi bb bk : Nat) (w : World) (lo : Nat) (hb : RdL encB 1 w lo A l) (hi : Blk w bi 3 #[.int .i64 (p : Int)]) (hbb : Blk w bb 35 #[.slice A l.length c]) (hk : Blk w bk 4 #[.bool ok])
    (hne : ∀ b o, A = some ⟨b, o, none⟩ → b ≠ bi ∧ b ≠ bk) (hp : p ≤ l.length) (hcap : l.length ≤ c) (hcm : c ≤ maxLen) (hE : ErrV w) :
    Calls Tryd.prog 43 #[.pointer (some ⟨bi, 0, none⟩), .pointer (some ⟨bb, 0, none⟩), .pointer (some ⟨bk, 0, none⟩)] w (InP l p ok bi bk w) := by
  unfold maxLen at hcm
  have x1 := cell1 hi
  have x2 := cell1 hbb
  have x3 := cell1 hk
  have f1 := hi.frozen 0
  have f3 := hk.frozen 0
  have n12 := blk_ne hi hbb (by decide)
  have n13 := blk_ne hi hk (by decide)
  have n23 := blk_ne hbb hk (by decide)
  have HB := Lib.hid hb
  have HI := Lib.hid hi
  have HBB := Lib.hid hbb
  have HK := Lib.hid hk
  have HN := Lib.hid hne
  have HE := Lib.hid hE
  clear hb hi hbb hk hne hE
  go_enter Tryd.func43, Tryd.ntmps43
  go_wp2
  go_loop [4] (fun s => ∃ k : Nat, p ≤ k ∧ k ≤ l.length ∧ k ≤ p + 21 ∧ s = .int .i64 (k : Int) ∧ Hid (∀ j, p ≤ j → j < k → l[j]? ≠ some 32)) (fun s => l.length - (intOf s).toNat)
  case atStart => exact ⟨p, Nat.le_refl _, hp, by omega, rfl, Lib.hid (fun j h1 h2 => by omega)⟩
  case round =>
    obtain ⟨k, hpk, hkl, h21, rfl, H32⟩ := hrel
    by_cases g1 : k < l.length
    · obtain ⟨b, off, rfl, -, hbl, hcell⟩ := rdB_at HB.out g1
      rw [show l[k] = l.getD k 0 from (List.getD_eq_getElem?_getD.trans (by rw [List.getElem?_eq_getElem g1]; rfl)).symm] at hcell
      obtain ⟨d, hd⟩ : ∃ d : Nat, d = (l.getD k 0).toNat := ⟨_, rfl⟩
      rw [← hd] at hcell
      have HD := Lib.hid hd
      clear hd
      have q1 : (0 : Int) ≤ (k : Int) := by omega
      have q2 : (k : Int) < l.length := by omega
      by_cases h32 : d = 32
      · subst h32
        have hcv := conv_part HB.out p k (c - p) hpk (by omega)
        have s1 : (0 : Int) ≤ (p : Int) := by omega
        have s2 : (p : Int) ≤ (k : Int) := by omega
        have s3 : (k : Int) ≤ (c : Int) := by omega
        have s4 : ¬ c = p := by omega
        have hsz : (⟨((l.drop p).take (k - p)).toArray⟩ : ByteArray).size ≤ 1000000 := by
          show ((l.drop p).take (k - p)).toArray.size ≤ 1000000
          rw [List.size_toArray, List.length_take]; omega
        go_wp2_with fail
        refine (atoi_any _ hsz _ HE.out).mono ?_
        rintro e w1 ⟨n, er, rfl, hn, her, hb1, hv⟩
        have HV := Lib.hid hv
        have HI1 := HI.out.below hb1 HI.out.lt
        have HK1 := HK.out.below hb1 HK.out.lt
        have y1 := cell1 HI1
        have y3 := cell1 HK1
        have g1' := HI1.frozen 0
        have g3' := HK1.frozen 0
        have HI2 := Lib.hid HI1
        have HK2 := Lib.hid HK1
        have HBW := Lib.hid hb1
        have H32' : l[k]? = some 32 := by
          rw [getD_at g1]
          exact congrArg some (UInt8.toNat_inj.1 HD.out.symm)
        have H32s := Lib.hid H32'
        clear HI1 HK1 hb1 hv hcv x1 x2 x3 f1 f3 hcell H32'
        have fin : ∀ (ok' : Bool), (ok' = true ↔ ok = true ∧ er = .nilIface) → InP l p ok bi bk w (.returned (.int .i64 n)) ((w1.setCell ⟨bk, 0, none⟩ (.bool ok')).setCell ⟨bi, 0, none⟩ (.int .i64 ((k : Int) + 1))) := fun ok' hok =>
          ⟨n, k + 1, ok', rfl, numRd_yes hpk g1 H32.out h21 H32s.out hn HV.out hok, (HI2.out.far (by simpa using n13) _).set_ 0 _, (HK2.out.set_ 0 _).far (by simpa using Ne.symm n13) _, ((But.of_below HBW.out).set (.inr rfl) _ _).set (.inl rfl) _ _⟩
        have FIN := Lib.hid fin
        clear fin
        cases ok with
        | false =>
          go_wp2
          go_ret
          exact FIN.out false (by simp)
        | true =>
          rcases her with rfl | ⟨N, rfl⟩
          · go_wp2
            go_ret
            exact FIN.out true (by simp)
          · go_wp2
            go_ret
            exact FIN.out false (by simp)
      · have t2 : ((d : Int) == 32) = false := by simp; omega
        have t2b : ((d : Int) != 32) = true := by simp; omega
        by_cases hk21 : k < p + 21
        · have t3 : (k : Int) - (p : Int) < 21 := by omega
          go_wp2
          refine ⟨⟨k + 1, by omega, by omega, by omega, by go_num, Lib.hid (fun j h1 h2 => ?_)⟩, by simp [intOf]; omega⟩
          by_cases e : j = k
          · subst e; exact ne32 g1 HD.out h32
          · exact H32.out j h1 (by omega)
        · have t3 : decide ((k : Int) - (p : Int) < 21) = false := by simp; omega
          go_wp2
          go_ret
          refine ⟨0, p, false, rfl, numRd_no hp hpk H32.out h21 (.inr (.inr (by omega))) (ne32 g1 HD.out h32), HI.out.far (by simpa using n13) _, ?_, (But.refl (fun x => x = bi ∨ x = bk) _).set (.inr rfl) _ _⟩
          exact HK.out.set_ 0 (.bool false)
    · have g2 : k = l.length := by omega
      subst g2
      go_wp2
      go_ret
      refine ⟨0, p, false, rfl, numRd_no hp hpk H32.out h21 (.inl (Nat.le_refl _)) (by rw [List.getElem?_eq_none (Nat.le_refl _)]; simp), HI.out.far (by simpa using n13) _, ?_, (But.refl (fun x => x = bi ∨ x = bk) _).set (.inr rfl) _ _⟩
      exact HK.out.set_ 0 (.bool false)

def ItP (l : List UInt8) (p : Nat) (ok : Bool) (bi bk : Nat) (w : World) (e : Ending) (w' : World) : Prop :=
  ∃ (s : ByteArray) (p' : Nat) (ok' : Bool), e = .returned (.string s) ∧ TextRd l p (!ok) s p' (!ok') ∧ Blk w' bi 3 #[.int .i64 (p' : Int)] ∧ Blk w' bk 4 #[.bool ok'] ∧ But (fun x => x = bi ∨ x = bk) w w'
set_option maxRecDepth 100000 in
set_option maxHeartbeats 1600000 in
theorem itxtH_any (A : Option Addr) (c : Nat) (l : List UInt8) (p : Nat) (ok : Bool) (bf bi bb bk : Nat) (w : World) (lo : Nat) (hb : RdL encB 1 w lo A l) (hf : Blk w bf 69 #[.func (.func 43) #[] #[.pointer (some ⟨bi, 0, none⟩), .pointer (some ⟨bb, 0, none⟩), .pointer (some ⟨bk, 0, none⟩)]]) (hi : Blk w bi 3 #[.int .i64 (p : Int)]) (hbb : Blk w bb 35 #[.slice A l.length c]) (hk : Blk w bk 4 #[.bool ok])
    (hne : ∀ b o, A = some ⟨b, o, none⟩ → b ≠ bi ∧ b ≠ bk) (hl : l.length ≤ 1000000) (hp : p ≤ l.length) (hcap : l.length ≤ c) (hcm : c ≤ maxLen) (hE : ErrV w) :
    Calls Tryd.prog 45 #[.pointer (some ⟨bf, 0, none⟩), .pointer (some ⟨bk, 0, none⟩), .pointer (some ⟨bb, 0, none⟩), .pointer (some ⟨bi, 0, none⟩)] w (ItP l p ok bi bk w) := by
  have hcm' : c ≤ 9223372036854775807 := by unfold maxLen at hcm; omega
  have x0 := cell1 hf
  have n12 := blk_ne hi hbb (by decide)
  have n13 := blk_ne hi hk (by decide)
  have n23 := blk_ne hbb hk (by decide)
  have hC := inumH_any A c l p ok bi bb bk w lo hb hi hbb hk hne hp hcap hcm hE
  have HB := Lib.hid hb
  have HBB := Lib.hid hbb
  have HN := Lib.hid hne
  clear hb hi hbb hk hne hE hf hcm
  go_enter Tryd.func45, Tryd.ntmps45
  go_wp2_with (go_at_call 43; refine hC.mono ?_; rintro e w1 ⟨n, p1, ok1, rfl, hrd, hi1, hk1, hbut⟩; refine Hid.out ?_)
  refine Lib.hid ?_
  have x1 := cell1 hi1
  have x3 := cell1 hk1
  have f1 := hi1.frozen 0
  have f3 := hk1.frozen 0
  have hbb1 := hbut.blk HBB.out (by rintro (e | e); exact n12 e.symm; exact n23 e)
  have x2 := cell1 hbb1
  have hp1 := hrd.2.2.1
  have HR := Lib.hid hrd
  have HI := Lib.hid hi1
  have HK := Lib.hid hk1
  have HU := Lib.hid hbut
  have HB1 := Lib.hid (hbut.rd HB.out (fun g o _ e => by have := HN.out g o e; rintro (h | h); exact this.1 h; exact this.2 h))
  clear hC hrd hi1 hk1 hbut hbb1 x0
  have badF : (ok1 = false ∨ n < 0 ∨ (l.length : Int) - p1 < n) → ItP l p ok bi bk w (.returned (.string ⟨#[]⟩)) (w1.setCell ⟨bk, 0, none⟩ (.bool false)) := fun hx =>
    ⟨⟨#[]⟩, p1, false, rfl, textRd_bad hl HR.out (hx.imp (fun h => by rw [h]; rfl) id), HI.out.far (by simpa using n13) _, HK.out.set_ 0 _, HU.out.set (.inr rfl) _ _⟩
  have BAD := Lib.hid badF
  clear badF
  cases ok1 with
  | false =>
    go_wp2
    go_ret
    exact BAD.out (by simp)
  | true =>
    by_cases hn : n < 0
    · go_wp2
      go_ret
      exact BAD.out (.inr (.inl hn))
    · obtain ⟨m, rfl⟩ : ∃ m : Nat, n = m := ⟨n.toNat, by omega⟩
      by_cases hbig : (l.length : Int) - p1 < m
      · go_wp2
        go_ret
        exact BAD.out (.inr (.inr hbig))
      · have hfit : p1 + m ≤ l.length := by omega
        have h5 := HR.out.2.2.2.2.1 rfl
        obtain ⟨b, off, rfl, -, -, -⟩ := HB1.out (by omega)
        have hcv0 := conv_part HB1.out p1 (p1 + m) (c - p1) (by omega) hfit
        rw [Nat.add_sub_cancel_left] at hcv0
        have hB2 := (HU.out.set (g := bi) (.inl rfl) 0 (.int .i64 ((p1 : Int) + (m : Int)))).rd HB.out (fun g o _ e => by have := HN.out g o e; rintro (h | h); exact this.1 h; exact this.2 h)
        have hcv := conv_part hB2 p1 (p1 + m) (c - p1) (by omega) hfit
        rw [Nat.add_sub_cancel_left] at hcv
        have s1 : (0 : Int) ≤ (p1 : Int) := by omega
        have s3 : (p1 : Int) + (m : Int) ≤ (c : Int) := by omega
        have fin : ItP l p ok bi bk w (.returned (.string ⟨((l.drop p1).take m).toArray⟩)) (w1.setCell ⟨bi, 0, none⟩ (.int .i64 ((p1 : Int) + (m : Int)))) :=
          ⟨_, p1 + m, true, rfl, textRd_good hl HR.out hfit, HI.out.set_ 0 _, HK.out.far (by simpa using Ne.symm n13) _, HU.out.set (.inl rfl) _ _⟩
        have FIN := Lib.hid fin
        clear fin hcv0 hB2
        by_cases hcp : c = p1
        · obtain rfl : m = 0 := by omega
          subst hcp
          have hcz := conv_zero (w1.setCell ⟨bi, 0, none⟩ (.int .i64 (c : Int))) (some ⟨b, off, none⟩) 0 0
          have hcz' : (convert 35 9 (.slice (some ⟨b, off, none⟩) 0 0)).run Tryd.prog (w1.setCell ⟨bi, 0, none⟩ (.int .i64 (c : Int))) = .ok (.string ⟨#[]⟩) (w1.setCell ⟨bi, 0, none⟩ (.int .i64 (c : Int))) := hcz
          clear hcv hcz
          go_wp2
          go_ret
          have := FIN.out
          simp at this
          exact this
        · go_wp2
          go_ret
          exact FIN.out
end Go.Proofs.YtchlolfdinakiaaDoor
