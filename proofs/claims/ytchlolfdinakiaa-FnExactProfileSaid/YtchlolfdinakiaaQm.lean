/- Profile of the program: the map is filled. -/
import Derived.Test.YtchlolfdinakiaaQl
import Derived.Maps.OwnSet
namespace Go.Proofs.Ytchlolfdinakiaa.Q
open Go.RowKit Go.Maps
open Go.Maps (Keyed)
open Go.Sort (putRowK size_putRowK cell?_putRowK_other)
attribute [local go_sem] run_store_float
def PrP (w : World) (r : Rp) (e : Ending) (w' : World) : Prop := ∃ A c, e = .returned (.slice A (prof r.recs).length c) ∧ RdL encC 3 w' w.heap.size A (prof r.recs) ∧ Wr w' w.heap.size A (prof r.recs).length 3 106 ∧ Below w.heap.size w w'

set_option maxRecDepth 100000 in
set_option maxHeartbeats 4000000 in
theorem iprof_any (H : Type) (A A' : Option Addr) (c c' : Nat) (r : Rp) (w : World) (lo : Nat) (h : RdL encR 5 w lo A r.recs) (hn : r.recs.length ≤ 1048576) (hi : ∀ x ∈ r.recs, i64 x.fn ∧ i64 x.line) :
    Calls Try.prog 39 #[.agg #[.int .i64 r.code, .slice A r.recs.length c, .slice A' r.vals.length c', .string r.err, .string r.trace, .int .i64 r.ticks, .int .i64 r.made]] w (PrP w r) := by
  have hmm := @run_makeMap Try.prog
  have hw0 := (below_new w (.cells #[.int .i64 r.code, .slice A r.recs.length c, .slice A' r.vals.length c', .string r.err, .string r.trace, .int .i64 r.ticks, .int .i64 r.made] 72)).alloc (by simp) (.map #[] 0)
  have e1 : (w.alloc (.cells #[.int .i64 r.code, .slice A r.recs.length c, .slice A' r.vals.length c', .string r.err, .string r.trace, .int .i64 r.ticks, .int .i64 r.made] 72)).heap.size = w.heap.size + 1 := by simp
  have hm0 : ((w.alloc (.cells #[.int .i64 r.code, .slice A r.recs.length c, .slice A' r.vals.length c', .string r.err, .string r.trace, .int .i64 r.ticks, .int .i64 r.made] 72)).alloc (.map #[] 0)).ownsMap Try.prog 104 (plainElem Try.prog 3) (w.heap.size + 1) 0 (.map ([] : List (Lit × DataW H))) := by
    have := World.ownsMap_made (H := H) (w.alloc (.cells #[.int .i64 r.code, .slice A r.recs.length c, .slice A' r.vals.length c', .string r.err, .string r.trace, .int .i64 r.ticks, .int .i64 r.made] 72)) Try.prog 104 (plainElem Try.prog 3)
    rw [e1] at this; exact this
  go_enter Try.func39, Try.ntmps39
  go_wp2
  go_loopw [13] (fun i wr => ∃ (k : Nat) (D : DataW H), k ≤ r.recs.length ∧ i = .int .i64 k ∧ wr.ownsMap Try.prog 104 (plainElem Try.prog 3) (w.heap.size + 1) k D ∧ Cnt D (r.recs.take k) ∧ Below w.heap.size w wr) (fun i _ => r.recs.length - (intOf i).toNat)
  case atStart => exact ⟨0, _, Nat.zero_le _, rfl, hm0, ⟨fun f l _ _ => by simp [tally]; rfl, fun f l _ _ => by simp [tally]; rfl⟩, hw0⟩
  case round =>
    obtain ⟨k, D, hk, rfl, hown, hcnt, hbel⟩ := hrel
    clear hw0 hm0 e1
    by_cases hlt : k < r.recs.length
    · obtain ⟨x, hpk⟩ : ∃ x, r.recs[k]? = some x := ⟨_, List.getElem?_eq_getElem hlt⟩
      obtain ⟨b, off, e0, hlo, hb, c0, c1, c2, c3, c4⟩ := rdR_at (h.below hbel) hpk
      obtain ⟨hx1, hx2⟩ := hi x (List.mem_of_getElem? hpk)
      have k1 : (0 : Int) ≤ k := by omega
      have k2 : (k : Int) < r.recs.length := by omega
      have hwr := hbel.size
      subst e0
      clear h
      by_cases hkd : x.kind = 1
      · rw [hkd] at c0
        have HC := Lib.hid (cnt_step hown.isMap hcnt hpk hkd hx1 hx2)
        have htl := tally_bd x.fn x.line (r.recs.take k)
        have hlen : (r.recs.take k).length ≤ k := by rw [List.length_take]; omega
        have hat0 := hcnt.at_ _ _ hx1 hx2
        generalize tally x.fn x.line (r.recs.take k) = N at *
        obtain ⟨cc, hat, hlook, v0, st, w1, hent, hg1, hlook1, hput⟩ := bump ((hown.alloc (.cells #[.int .i64 1, .int .i64 x.task, .int .i64 x.fn, .int .i64 x.line, .string x.text] 99)).drew) (by unfold maxLen; omega) hx1 hx2
        rw [hat0] at hat
        have hcN : N = cc := by simpa using hat
        subst hcN
        obtain ⟨w2, hsto, hown2, hg2⟩ := hput (N + 1) (by unfold i64; omega)
        have hsto' : (Instr.entryStore 102 (.map (some (w.heap.size + 1))) (.int .i64 st) (.int .i64 (N + 1))).run Try.prog w1 = .ok () w2 := hsto
        have hent' : (Instr.mapEntry 102 (.map (some (w.heap.size + 1))) (.agg #[.int .i64 x.fn, .int .i64 x.line])).run Try.prog (wr.alloc (.cells #[.int .i64 1, .int .i64 x.task, .int .i64 x.fn, .int .i64 x.line, .string x.text] 99)).drew = .ok (.tuple #[v0, .int .i64 st]) w1 := hent
        clear hsto hent
        have hwp : IntKind.i64.wrap (N + 1) = N + 1 := IntWalk.i64_in _ (by omega)
        have HL := Lib.hid ((hbel.alloc hbel.size (.cells #[.int .i64 1, .int .i64 x.task, .int .i64 x.fn, .int .i64 x.line, .string x.text] 99)).drew.grown hg2 (by simp; omega) (fun j hj => by cases hj; omega))
        have HO := Lib.hid hown2
        have d2 : w1.cell? ⟨wr.heap.size, 2, none⟩ = some (.int .i64 x.fn) := by rw [World.cell?_of_block (hg1.block _ (by simp) (by simp; have := hown.lt; omega))]; exact (Blk.new wr 99 #[.int .i64 1, .int .i64 x.task, .int .i64 x.fn, .int .i64 x.line, .string x.text]).cell 2
        have d3 : w1.cell? ⟨wr.heap.size, 3, none⟩ = some (.int .i64 x.line) := by rw [World.cell?_of_block (hg1.block _ (by simp) (by simp; have := hown.lt; omega))]; exact (Blk.new wr 99 #[.int .i64 1, .int .i64 x.task, .int .i64 x.fn, .int .i64 x.line, .string x.text]).cell 3
        clear hown hcnt hbel hpk hat hat0 hput hown2 hg2 hkd hg1
        go_wp2
        go_region
        go_wp2
        exact ⟨⟨k + 1, _, by omega, by go_num, HO.out, HC.out, HL.out⟩, by simp [intOf]; omega⟩
      · have HC := Lib.hid (cnt_stay hcnt hpk hkd)
        have HL := Lib.hid (hbel.alloc hbel.size (.cells #[.int .i64 x.kind, .int .i64 x.task, .int .i64 x.fn, .int .i64 x.line, .string x.text] 99))
        have HO := Lib.hid (hown.alloc (.cells #[.int .i64 x.kind, .int .i64 x.task, .int .i64 x.fn, .int .i64 x.line, .string x.text] 99))
        clear hown hcnt hbel hpk
        go_wp2
        exact ⟨⟨k + 1, _, by omega, by go_num, HO.out.mono (by omega), HC.out, HL.out⟩, by simp [intOf]; omega⟩
    · have hkk : k = r.recs.length := by omega
      subst hkk
      rw [List.take_length] at hcnt
      have hi0 := Lib.hid hi
      clear h hi hmm
      obtain ⟨W, hW⟩ : ∃ W, W = wr := ⟨wr, rfl⟩
      subst hW
      have hbox := Blk.new W 68 #[.slice none 0 0]
      have hown1 := hown.alloc (.cells #[.slice none 0 0] 68)
      have HB := Lib.hid hbox
      have HL := Lib.hid (hbel.alloc hbel.size (.cells #[.slice none 0 0] 68))
      have HC := Lib.hid hcnt
      have hlo := hown.lt
      have hwr := hbel.size
      have e1 : (W.alloc (.cells #[.slice none 0 0] 68)).heap.size = W.heap.size + 1 := by simp
      clear hown hbel hcnt hbox
      go_wp2_with (first
        | (at_range; refine wpList_range_own _ rfl _ 102 rfl 104 3 law104 Try.underlying102 _ (w.heap.size + 1) r.recs.length D rfl hown1 ?_; intro w0 hrg0 hg0 hs0)
        | go_in)
      go_frame
      rw [e1] at hrg0 hs0 ⊢
      have hb0 : Hid (Blk w0 W.heap.size 68 #[.slice none 0 0]) := Lib.hid ((hg0.block _ (by simp) (by simp)).trans HB.out)
      have HL0 := Lib.hid (HL.out.grown hg0 (by simp; omega) (fun j hj => by cases hj))
      have hsl := hown1.size_le
      clear HB HL hown1 hg0
      go_loopw [8] (fun _ wx => ∃ (left : Lit → Bool) (cnt : Nat) (acc : List Ct) (v : Value), Hid (wx.ranges Try.prog 104 (plainElem Try.prog 3) (w.heap.size + 1) (W.heap.size + 1) r.recs.length D left cnt) ∧ acc.length + cnt ≤ Maps.size D ∧ Hid (Blk wx W.heap.size 68 #[v]) ∧ Hid (OwC wx (W.heap.size + 1 + 1) v acc) ∧ Hid (Done acc D left) ∧ Hid (Below w.heap.size w wx) ∧ W.heap.size + 1 + 1 ≤ wx.heap.size) (fun _ wx => wx.rangeLeft (w.heap.size + 1) (W.heap.size + 1))
      case atStart => exact ⟨_, _, [], _, Lib.hid hrg0, by simp, hb0, Lib.hid (World.ownsRow_nil _ _ _ _), Lib.hid (Done.start D), HL0, by omega⟩
      case round =>
        obtain ⟨left, cnt, acc, v, hrg, hcs, hbx, how, hdn, hbel, hsz⟩ := hrel
        clear hrg0 hb0 HL0
        obtain ⟨va, vc, rfl, -, -⟩ := ow_rd (enc := encC) (fun _ => rfl) how.out
        have hrg' := hrg.out
        have cz := hbx.out.cell 0
        go_wp2_with (first
          | (at_next; go_loud (refine wpList_next_ranges _ rfl _ rfl 104 law104 (plainElem Try.prog 3) (fun p : Int × Int => Value.agg #[.int .i64 p.1, .int .i64 p.2]) (fun c : Int => Value.int .i64 c) (fun key kl hk => by obtain ⟨p, e, -⟩ := key_inv hk; exact ⟨p, e⟩) (fun u y hu => by obtain ⟨c, rfl, _⟩ := plainElem_int_inv Try.underlying3 hu; exact ⟨c, rfl⟩) (w.heap.size + 1) (W.heap.size + 1) r.recs.length D left cnt rfl hrg' ?_ ?_))
          | go_in)
        · intro hc0 hl0
          have hB := hbx.out
          have d0 : wr.cell? ⟨W.heap.size, 0, none⟩ = some (.slice va acc.length vc) := hB.cell 0
          have f0 : ∀ os : Array Obj, (Sort.grow wr os).cell? ⟨W.heap.size, 0, none⟩ = some (.slice va acc.length vc) := fun os => by rw [Sort.cell?_grow _ _ _ hB.lt]; exact d0
          have hlo2 : w.heap.size ≤ W.heap.size := by omega
          have HP := Lib.hid (prof_is r.recs r.recs.length)
          have HI := Lib.hid hi0.out
          by_cases hln : acc.length ≤ 1
          · have HQ : Hid (acc = prof r.recs) := by
              have := HP.out
              rw [List.take_length] at this
              exact (done_is hdn.out hl0 HC.out HI.out (List.Perm.refl _) (by match acc, hln with | [], _ => exact List.Pairwise.nil | [a], _ => simp)).eq this
            clear hrg hrg' cz hdn hB
            go_wp2_with fail
            refine (sort_tiny va acc.length vc hln #[] _ _).mono ?_
            rintro e w1 ⟨rfl, os, rfl⟩
            have d1 := f0 os
            have hg : Below wr.heap.size wr (Sort.grow wr os) := ⟨rfl, rfl, rfl, by simp [Sort.grow], fun k hk => Array.getElem?_append_left hk⟩
            obtain ⟨A1, c1, e, hr, hw⟩ := ow_rd (enc := encC) (fun _ => rfl) how.out
            cases e
            have HR := Lib.hid (hr.below hg)
            have HW := Lib.hid (hw.below hg)
            have HB := Lib.hid (hbel.out.trans (hg.mono hbel.out.size))
            clear hr hw hg hbel how hbx d0 f0
            go_wp2
            go_ret
            unfold PrP
            rw [← HQ.out]
            exact ⟨_, _, rfl, HR.out.lower (by omega), HW.out.lower (by omega), HB.out⟩
          · obtain ⟨g, rfl, hgl, hgh⟩ : ∃ g, va = some ⟨g, 0, none⟩ ∧ W.heap.size + 1 + 1 ≤ g ∧ g < wr.heap.size := by
              rcases how.out.2 with ⟨e, e0⟩ | ⟨g, cap, cur, e, -⟩
              · omega
              · cases e
                exact ⟨g, rfl, own_in how.out rfl⟩
            have hS := sort_counts g 0 vc W.heap.size acc.toArray (by simp; omega) (by simp; omega) wr (holds_own how.out) hgh (by simpa using d0) hB.lt (by omega)
            simp only [List.size_toArray] at hS
            have HH := Lib.hid how.out
            have HE := Lib.hid hbel.out
            have HDN := Lib.hid hdn.out
            have hBl := hB.lt
            clear hrg hrg' cz hdn hB hbel how hbx
            go_wp2_with fail
            refine hS.mono ?_
            rintro e w1 ⟨rfl, d', n, os, hpm, hso, rfl⟩
            have hsd : d'.size = acc.length := by simpa using hpm.1
            have hpm' := perm_of (d := acc.toArray) (d' := d') (by simpa using hpm)
            have hso' := sorted_of (d := d') (by rw [hsd]; exact hso)
            have HQ : Hid (d'.toList = prof r.recs) := by
              have := HP.out
              rw [List.take_length] at this
              exact (done_is HDN.out hl0 HC.out HI.out hpm' hso').eq this
            have d1 : (Sort.grow (putRowK encC 3 (Sort.ahead wr n) g 0 d') os).cell? ⟨W.heap.size, 0, none⟩ = some (.slice (some ⟨g, 0, none⟩) acc.length vc) := by
              rw [Sort.cell?_grow _ _ _ (by rw [size_putRowK]; exact hBl), cell?_putRowK_other _ _ _ g 0 d' _ (by show W.heap.size ≠ g; omega)]
              exact d0
            have HR := Lib.hid (sorted_reads HH.out d' hsd n os)
            have HB := Lib.hid (HE.out.trans ((put_but (w := wr) (n := n) (g := g) (d := d') (os := os)).below (fun k hk => by omega) HE.out.size))
            have HL : Hid (acc.length = (prof r.recs).length) := Lib.hid (by rw [← HQ.out]; simpa using hsd.symm)
            clear hS hpm hso hpm' hso' hsd d0 f0
            generalize Sort.grow (putRowK encC 3 (Sort.ahead wr n) g 0 d') os = w1 at *
            go_wp2
            go_ret
            unfold PrP
            rw [← HL.out, ← HQ.out]
            exact ⟨_, _, rfl, HR.out.1.lower (by omega), HR.out.2.lower (by omega), HB.out⟩
        · intro pf pl cc kl yd yp w1 cnt1 hkx hlx hv hat hrg1 hlt1 hg1 hs1 hen
          obtain ⟨p, ep, hp1, hp2⟩ := key_inv hkx
          obtain ⟨p1, p2⟩ := p
          simp at ep
          obtain ⟨rfl, rfl⟩ := ep
          rw [key104 hp1 hp2] at hkx
          have ekl : kf pf pl = kl := by injection hkx
          subst ekl
          obtain ⟨c', ec, hy, hwc⟩ := plainElem_int_inv Try.underlying3 hv
          cases ec
          have hat : ∀ z, D.atKey (kf pf pl) z = .lit (.int .i64 cc) := fun z => by rw [hat z]; exact congrArg Prod.fst hy
          have HD := Lib.hid (hdn.out.step hp1 hp2 hlx hat)
          have hb1 : Blk w1 W.heap.size 68 #[.slice va acc.length vc] := (hg1.block _ (by have := hbx.out.lt; omega) (by simp)).trans hbx.out
          have hrow1 : w1.ownsRow (W.heap.size + 1 + 1) 106 3 (.slice va acc.length vc) acc.length (acc.flatMap encC) := (But.of_grown hg1).row how.out (fun g hg e => by have := (own_in how.out hg).1; injection e with e; omega)
          have HL1 := Lib.hid (hbel.out.grown hg1 (by omega) (fun j hj => by cases hj; omega))
          have d0 : w1.cell? ⟨W.heap.size, 0, none⟩ = some (.slice va acc.length vc) := hb1.cell 0
          have hsz1 : W.heap.size + 1 + 1 ≤ w1.heap.size := by omega
          have hsz0 : W.heap.size < w1.heap.size := by omega
          have HS1 := Lib.hid hs1
          have HB0 := Lib.hid hb1
          have HN := Lib.hid (hnews_at (w1.alloc (.cells #[.int .i64 pf, .int .i64 pl] 104)) [.int .i64 pf, .int .i64 pl, .int .i64 cc] (w1.heap.size + 1) (by simp))
          have HR := Lib.hid (World.ownsRow.alloc (World.ownsRow.alloc hrow1 (.cells #[.int .i64 pf, .int .i64 pl] 104)) (.cells #[.int .i64 pf, .int .i64 pl, .int .i64 cc] 106))
          have HB1 := Lib.hid ((hb1.alloc (.cells #[.int .i64 pf, .int .i64 pl] 104)).alloc (.cells #[.int .i64 pf, .int .i64 pl, .int .i64 cc] 106))
          obtain ⟨i0, hi, hz0, hz1, hz2⟩ := info_parts info106
          clear hb1 hkx hv hat hdn hbel how hbx cz hrg'
          have HRG := Lib.hid hrg1
          have HG := Lib.hid hg1
          clear hrg1 hg1 hs1 hsz
          go_wp2_with (at_builtin; go_loud (refine wpList_append_own_at _ rfl _ _ 68 rfl (W.heap.size + 1 + 1) 106 i0 _ 3 24 Try.underlying68 hi hz0 hz1 hz2 rfl (by decide) _ _ _ rfl HR.out ⟨w1.heap.size + 1, 0, none⟩ 1 1 [.int .i64 pf, .int .i64 pl, .int .i64 cc] rfl rfl HN.out (by intro u' hu'; simp at hu'; rcases hu' with rfl | rfl | rfl <;> rfl) (by unfold maxLen; omega) (by omega) (by simp; omega) ?_); intro v2 w2 hown_w2 hgrow_w2 _ hat_w2; refine Hid.out ?_)
          refine Lib.hid ?_
          have hown2 : OwC w2 (W.heap.size + 1 + 1) v2 (acc ++ [⟨pf, pl, cc⟩]) := owC_push (x := ⟨pf, pl, cc⟩) hown_w2
          have hin : ∀ g, (Value.slice va acc.length vc).ownBlock = some g → W.heap.size + 1 + 1 ≤ g := fun g hg => (own_in HR.out hg).1
          have hk2 : But (fun k => W.heap.size + 1 + 1 ≤ k) w1 w2 := (But.of_below (((Below.refl _ _).alloc (Nat.le_refl _) (.cells #[.int .i64 pf, .int .i64 pl] 104)).alloc (by simp) (.cells #[.int .i64 pf, .int .i64 pl, .int .i64 cc] 106))).trans ((But.of_grown hgrow_w2).mono (fun k _ hk => hin k hk))
          have HB2 := Lib.hid (hk2.blk (HB0.out) (by omega))
          have e0 : w2.cell? ⟨W.heap.size, 0, none⟩ = some (.slice va acc.length vc) := HB2.out.cell 0
          have f0 : w2.frozen? ⟨W.heap.size, 0, none⟩ = false := HB2.out.frozen 0
          have HL2 := Lib.hid (HL1.out.trans (hk2.below (fun k hk => by omega) (by omega)))
          have HK2 := Lib.hid hk2
          have HR2 := Lib.hid hown2
          have hsz2 := hk2.size
          obtain ⟨v2a, v2n, v2c, rfl⟩ : ∃ a n c, v2 = .slice a n c := by
            obtain ⟨a, c, e, -⟩ := ow_rd (enc := encC) (fun _ => rfl) hown2
            exact ⟨_, _, _, e⟩
          clear hown2 hk2 hown_w2 hgrow_w2 hat_w2 HR HN HB1 d0 hin
          go_wp2
          have hset1 : But (fun x => x = W.heap.size) w2 (w2.setCell ⟨W.heap.size, 0, none⟩ (.slice v2a v2n v2c)) := (But.refl (fun x => x = W.heap.size) _).set rfl 0 _
          have hset : But (fun k => W.heap.size + 1 + 1 ≤ k ∨ k = W.heap.size) w1 (w2.setCell ⟨W.heap.size, 0, none⟩ (.slice v2a v2n v2c)) := (HK2.out.mono (fun k _ h => Or.inl h)).trans (hset1.mono (fun k _ h => Or.inr h))
          have hrl := ranges_lt HRG.out
          have hrg3 := ranges_of HRG.out (hset.block _ hrl.1 (fun h => by omega)) (hset.block _ hrl.2 (fun h => by omega))
          have how3 : OwC (w2.setCell ⟨W.heap.size, 0, none⟩ (.slice v2a v2n v2c)) (W.heap.size + 1 + 1) (.slice v2a v2n v2c) (acc ++ [⟨pf, pl, cc⟩]) := hset1.row HR2.out (fun g hg e => by have := (own_in HR2.out hg).1; omega)
          refine ⟨⟨_, cnt1, acc ++ [⟨pf, pl, cc⟩], _, Lib.hid hrg3, by simp; omega, Lib.hid (HB2.out.set_ 0 _), Lib.hid how3, HD, Lib.hid (hset1.below (fun k hk => by omega) (by omega) |> HL2.out.trans), by simp; omega⟩, ?_⟩
          rw [hrg3.left_eq, hrg.out.left_eq]
          exact hlt1
end Go.Proofs.Ytchlolfdinakiaa.Q
