/- Lines: the reference and the program. -/
import Derived.Shelf.Sort.Plain
import Derived.Shelf.Slices.In.SortNone2
import Derived.Test.YtcpjplkbmflglaaD0
import Derived.Maps.OwnSet
import Derived.Maps.RangeWalk
import Derived.Sort.OwnSortedInts
import Derived.Maps.OwnOps
import Derived.Carry
import Derived.Test.YtcpjplkbmflglaaL4
import Derived.Test.YtcpjplkbmflglaaProg
/- Contracts of Go's library at this program, laid by the kit's own command in plain words. -/
namespace Go.Proofs
open Go.Shelf
def Try.lays191_ren : Go.Shelf.Ren := ⟨fun | 191 => 33 | 189 => 51 | 125 => 71 | 257 => 70 | 128 => 93 | 129 => 94 | 294 => 84 | 295 => 85 | 296 => 86 | 297 => 87 | 298 => 88 | 299 => 89 | 216 => 90 | 300 => 91 | 301 => 92 | 328 => 99 | 329 => 100 | 330 => 101 | 331 => 102 | 332 => 103 | 215 => 104 | 343 => 105 | n => n, fun | 28 => 36 | 0 => 0 | 3 => 3 | 46 => 105 | 51 => 127 | 53 => 129 | 4 => 4 | 183 => 120 | 182 => 119 | 131 => 124 | 5 => 5 | 9 => 9 | 218 => 132 | 222 => 136 | 228 => 138 | 229 => 139 | n => n, fun | n => n⟩
theorem Try.lays191 : Go.Proofs.Lays.n191 Try.prog Try.lays191_ren := {
  mixed := by kernel_rfl
  f125 := Try.func71.trans (congrArg some (by kernel_rfl))
  f128 := Try.func93.trans (congrArg some (by kernel_rfl))
  f129 := Try.func94.trans (congrArg some (by kernel_rfl))
  f189 := Try.func51.trans (congrArg some (by kernel_rfl))
  f191 := Try.func33.trans (congrArg some (by kernel_rfl))
  f215 := Try.func104.trans (congrArg some (by kernel_rfl))
  f216 := Try.func90.trans (congrArg some (by kernel_rfl))
  f257 := Try.func70.trans (congrArg some (by kernel_rfl))
  f294 := Try.func84.trans (congrArg some (by kernel_rfl))
  f295 := Try.func85.trans (congrArg some (by kernel_rfl))
  f296 := Try.func86.trans (congrArg some (by kernel_rfl))
  f297 := Try.func87.trans (congrArg some (by kernel_rfl))
  f298 := Try.func88.trans (congrArg some (by kernel_rfl))
  f299 := Try.func89.trans (congrArg some (by kernel_rfl))
  f300 := Try.func91.trans (congrArg some (by kernel_rfl))
  f301 := Try.func92.trans (congrArg some (by kernel_rfl))
  f328 := Try.func99.trans (congrArg some (by kernel_rfl))
  f329 := Try.func100.trans (congrArg some (by kernel_rfl))
  f330 := Try.func101.trans (congrArg some (by kernel_rfl))
  f331 := Try.func102.trans (congrArg some (by kernel_rfl))
  f332 := Try.func103.trans (congrArg some (by kernel_rfl))
  f343 := Try.func105.trans (congrArg some (by kernel_rfl))
  t0 := Try.underlying0
  a0 := Try.isAgg0
  z0 := Try.sizeOf0
  v0 := Try.zeroValue0
  t3 := Try.underlying3
  a3 := Try.isAgg3
  z3 := Try.sizeOf3
  v3 := Try.zeroValue3
  t4 := Try.underlying4
  a4 := Try.isAgg4
  z4 := Try.sizeOf4
  v4 := Try.zeroValue4
  t5 := Try.underlying5
  a5 := Try.isAgg5
  z5 := Try.sizeOf5
  v5 := Try.zeroValue5
  t9 := Try.underlying9
  a9 := Try.isAgg9
  z9 := Try.sizeOf9
  v9 := Try.zeroValue9
  t28 := Try.underlying36
  a28 := Try.isAgg36
  z28 := Try.sizeOf36
  v28 := Try.zeroValue36
  t46 := Try.underlying105
  a46 := Try.isAgg105
  z46 := Try.sizeOf105
  v46 := Try.zeroValue105
  t51 := Try.underlying127
  a51 := Try.isAgg127
  z51 := Try.sizeOf127
  v51 := Try.zeroValue127
  t53 := Try.underlying129
  a53 := Try.isAgg129
  z53 := Try.sizeOf129
  v53 := Try.zeroValue129
  t131 := Try.underlying124
  a131 := Try.isAgg124
  z131 := Try.sizeOf124
  v131 := Try.zeroValue124
  t182 := Try.underlying119
  a182 := Try.isAgg119
  z182 := Try.sizeOf119
  v182 := Try.zeroValue119
  t183 := Try.underlying120
  a183 := Try.isAgg120
  z183 := Try.sizeOf120
  v183 := Try.zeroValue120
  t218 := Try.underlying132
  a218 := Try.isAgg132
  z218 := Try.sizeOf132
  v218 := Try.zeroValue132
  t222 := Try.underlying136
  a222 := Try.isAgg136
  z222 := Try.sizeOf136
  v222 := Try.zeroValue136
  t228 := Try.underlying138
  a228 := Try.isAgg138
  z228 := Try.sizeOf138
  v228 := Try.zeroValue138
  t229 := Try.underlying139
  a229 := Try.isAgg139
  z229 := Try.sizeOf139
  v229 := Try.zeroValue139 }
open Go.Sort Go.RowKit in
theorem Try.sort_Ints (blk off cap : Nat) (zs : List Int) (w : World) (hH : Holds (Value.int .i64) w blk off zs.toArray) (hblk : blk < w.heap.size) (hsz : zs.length < 4611686018427387904) :
    Calls Try.prog 33 #[.slice (some ⟨blk, off, none⟩) zs.length cap] w fun e w' =>
      e = .returned (.tuple #[]) ∧ ∃ n os, w' = grow (putRow (Value.int .i64) (Sort.ahead w n) blk off (zs.mergeSort fun x y => decide (x ≤ y)).toArray) os := Any.sort_Ints Try.lays191 blk off cap zs w hH hblk hsz
open Go.RowKit Go.Sort in
/-- .. and plain. (LAID: no walk: one application.) -/
theorem Try.sort_Ints_none (p : Option Addr) (cap : Nat) (w : World) :
    Calls Try.prog 33 #[.slice p 0 cap] w fun e w' => e = .returned (.tuple #[]) ∧ w' = w := Any.sort_Ints_none Try.lays191 p cap w
end Go.Proofs
/- The reference's insertion. -/
namespace Go.Proofs.Ytcpjplkbmflglaa
open Go.RowKit
attribute [local go_sem] run_store_float
set_option linter.unusedVariables false
def OwI (w : World) (base : Nat) (v : Value) (xs : List Int) : Prop := w.ownsRow base 3 1 v xs.length (xs.flatMap encI)
theorem owI_push {w : World} {base : Nat} {v : Value} {xs : List Int} {x : Int} (h : w.ownsRow base 3 1 v (xs.length + 1) (xs.flatMap encI ++ [.int .i64 x])) : OwI w base v (xs ++ [x]) := by
  unfold OwI
  rw [List.length_append, List.flatMap_append]
  exact h
/-- A number put into an ascending list, once. -/
def insGo (x : Int) : Bool → List Int → List Int
  | put, [] => if put then [] else [x]
  | put, y :: r => if put = false ∧ x ≤ y then (if y = x then x :: insGo x true r else x :: y :: insGo x true r) else if y = x then insGo x put r else y :: insGo x put r
theorem ins_new {x y : Int} {r : List Int} (h : x < y) : insGo x false (y :: r) = x :: y :: insGo x true r := by
  rw [insGo, if_pos ⟨rfl, by omega⟩, if_neg (by omega)]
theorem ins_same {x : Int} {r : List Int} : insGo x false (x :: r) = x :: insGo x true r := by
  rw [insGo, if_pos ⟨rfl, by omega⟩, if_pos rfl]
theorem ins_less {x y : Int} {r : List Int} (h : y < x) : insGo x false (y :: r) = y :: insGo x false r := by
  rw [insGo, if_neg (by omega), if_neg (by omega)]
theorem ins_pass {x y : Int} {r : List Int} (h : y ≠ x) : insGo x true (y :: r) = y :: insGo x true r := by
  rw [insGo, if_neg (by simp), if_neg h]
theorem ins_drop {x : Int} {r : List Int} : insGo x true (x :: r) = insGo x true r := by
  rw [insGo, if_neg (by simp), if_pos rfl]
set_option maxRecDepth 100000 in
set_option maxHeartbeats 4000000 in
theorem sins_any (A : Option Addr) (c : Nat) (xs : List Int) (x : Int) (w : World) (lo : Nat) (h : RdL encI 1 w lo A xs) (hn : xs.length ≤ 1048576) :
    Calls Try.prog 31 #[.slice A xs.length c, .int .i64 x] w fun e w' => ∃ v, e = .returned v ∧ OwI w' w.heap.size v (insGo x false xs) ∧ Below w.heap.size w w' := by
  obtain ⟨i3, hi3, hy0, hy1, hy2⟩ := info_parts info3'
  go_enter Try.func31, Try.ntmps31
  go_wp2
  go_loopw [5, 6, 11] (fun o s i wr => ∃ (k : Nat) (acc : List Int) (put : Bool) (v : Value), k ≤ xs.length ∧ i = .int .i64 k ∧ s = .bool put ∧ v = o ∧ OwI wr w.heap.size v acc ∧ insGo x false xs = acc ++ insGo x put (xs.drop k) ∧ acc.length ≤ k + put.toNat ∧ Below w.heap.size w wr) (fun _ _ i _ => xs.length - (intOf i).toNat)
  case atStart => exact ⟨0, [], false, _, Nat.zero_le _, rfl, rfl, rfl, World.ownsRow_nil _ _ _ _, by simp, by simp, Below.refl _ _⟩
  case round =>
    obtain ⟨k, acc, put, o, hk, rfl, rfl, rfl, hrow, hacc, hal, hbel⟩ := hrel
    obtain ⟨wa, hwa⟩ : ∃ wo : World, wo = wr := ⟨_, rfl⟩
    obtain rfl := hwa
    by_cases hlt : k < xs.length
    · obtain ⟨y, hpk⟩ : ∃ p, xs[k]? = some p := ⟨_, List.getElem?_eq_getElem hlt⟩
      obtain ⟨b, off, rfl, hlo, hb, c0⟩ := rdI_at (h.below hbel) hpk
      have hdrop : xs.drop k = y :: xs.drop (k + 1) := by
        rw [List.drop_eq_getElem_cons hlt, (List.getElem?_eq_some_iff.1 hpk).2]
      have k1 : (0 : Int) ≤ k := by omega
      have k2 : (k : Int) < xs.length := by omega
      clear h hpk
      cases put <;> simp only [Bool.toNat_false, Bool.toNat_true] at hal
      · rcases Int.lt_trichotomy x y with e1 | e1 | e1
        · have e2 : x ≤ y := by omega
          have e3 : (y != x) = true := by simp; omega
          have e4 : ¬ y = x := by omega
          have HN1 := Lib.hid (new_at1 wa (.int .i64 x) 3 wa.heap.size rfl)
          have HR1 := Lib.hid (World.ownsRow.alloc hrow (.cells #[.int .i64 x] 3))
          have HL1 := Lib.hid ((hbel).alloc (hbel).size (.cells #[.int .i64 x] 3))
          have hsz1 := (hbel).size
          clear hrow hbel
          go_wp2_with (at_builtin; refine wpList_append_own_at _ rfl _ _ 36 rfl w.heap.size 3 i3 (.int .i64 0) 1 8 Try.underlying36 hi3 hy0 hy1 hy2 rfl (by decide) _ _ _ rfl HR1.out ⟨wa.heap.size, 0, none⟩ 1 1 [.int .i64 x] rfl rfl HN1.out (by intro u' hu'; simp at hu'; subst hu'; rfl) (by unfold maxLen; omega) (by omega) (by simp; omega) ?_; intro v1 a1 hown1 hgrow1 _ _; refine Hid.out ?_)
          refine Lib.hid ?_
          have row1 : OwI a1 w.heap.size v1 (acc ++ [x]) := owI_push hown1
          have hk1 := But.of_grown hgrow1
          have bel1 : Below w.heap.size w a1 := HL1.out.trans (hk1.below (fun g hg => (own_in HR1.out hg).1) (by simp; omega))
          clear hk1 hown1 hgrow1 HR1 HN1 HL1 hsz1
          have HN2 := Lib.hid (new_at1 a1 (.int .i64 y) 3 a1.heap.size rfl)
          have HR2 := Lib.hid (World.ownsRow.alloc row1 (.cells #[.int .i64 y] 3))
          have HL2 := Lib.hid ((bel1).alloc (bel1).size (.cells #[.int .i64 y] 3))
          have hsz2 := (bel1).size
          clear row1 bel1
          go_wp2_with (at_builtin; refine wpList_append_own_at _ rfl _ _ 36 rfl w.heap.size 3 i3 (.int .i64 0) 1 8 Try.underlying36 hi3 hy0 hy1 hy2 rfl (by decide) _ _ _ rfl HR2.out ⟨a1.heap.size, 0, none⟩ 1 1 [.int .i64 y] rfl rfl HN2.out (by intro u' hu'; simp at hu'; subst hu'; rfl) (by unfold maxLen; simp; omega) (by simp; omega) (by simp; omega) ?_; intro v2 a2 hown2 hgrow2 _ _; refine Hid.out ?_)
          refine Lib.hid ?_
          have row2 : OwI a2 w.heap.size v2 ((acc ++ [x]) ++ [y]) := owI_push hown2
          have hk2 := But.of_grown hgrow2
          have bel2 : Below w.heap.size w a2 := HL2.out.trans (hk2.below (fun g hg => (own_in HR2.out hg).1) (by simp; omega))
          clear hk2 hown2 hgrow2 HR2 HN2 HL2 hsz2
          go_wp2
          exact ⟨⟨k + 1, acc ++ [x] ++ [y], true, _, by omega, by go_num, rfl, rfl, row2, by rw [hacc, hdrop, ins_new e1]; simp, by simp; omega, bel2⟩, by simp [intOf]; omega⟩
        · subst e1
          have e3 : (x != x) = false := by simp
          have HN1 := Lib.hid (new_at1 wa (.int .i64 x) 3 wa.heap.size rfl)
          have HR1 := Lib.hid (World.ownsRow.alloc hrow (.cells #[.int .i64 x] 3))
          have HL1 := Lib.hid ((hbel).alloc (hbel).size (.cells #[.int .i64 x] 3))
          have hsz1 := (hbel).size
          clear hrow hbel
          go_wp2_with (at_builtin; refine wpList_append_own_at _ rfl _ _ 36 rfl w.heap.size 3 i3 (.int .i64 0) 1 8 Try.underlying36 hi3 hy0 hy1 hy2 rfl (by decide) _ _ _ rfl HR1.out ⟨wa.heap.size, 0, none⟩ 1 1 [.int .i64 x] rfl rfl HN1.out (by intro u' hu'; simp at hu'; subst hu'; rfl) (by unfold maxLen; omega) (by omega) (by simp; omega) ?_; intro v1 a1 hown1 hgrow1 _ _; refine Hid.out ?_)
          refine Lib.hid ?_
          have row1 : OwI a1 w.heap.size v1 (acc ++ [x]) := owI_push hown1
          have hk1 := But.of_grown hgrow1
          have bel1 : Below w.heap.size w a1 := HL1.out.trans (hk1.below (fun g hg => (own_in HR1.out hg).1) (by simp; omega))
          clear hk1 hown1 hgrow1 HR1 HN1 HL1 hsz1
          go_wp2
          exact ⟨⟨k + 1, acc ++ [x], true, _, by omega, by go_num, rfl, rfl, row1, by rw [hacc, hdrop, ins_same]; simp, by simp; omega, bel1⟩, by simp [intOf]; omega⟩
        · have e2 : decide (x ≤ y) = false := decide_eq_false (by omega)
          have e3 : (y != x) = true := by simp; omega
          have e4 : ¬ y = x := by omega
          have HN1 := Lib.hid (new_at1 wa (.int .i64 y) 3 wa.heap.size rfl)
          have HR1 := Lib.hid (World.ownsRow.alloc hrow (.cells #[.int .i64 y] 3))
          have HL1 := Lib.hid ((hbel).alloc (hbel).size (.cells #[.int .i64 y] 3))
          have hsz1 := (hbel).size
          clear hrow hbel
          go_wp2_with (at_builtin; refine wpList_append_own_at _ rfl _ _ 36 rfl w.heap.size 3 i3 (.int .i64 0) 1 8 Try.underlying36 hi3 hy0 hy1 hy2 rfl (by decide) _ _ _ rfl HR1.out ⟨wa.heap.size, 0, none⟩ 1 1 [.int .i64 y] rfl rfl HN1.out (by intro u' hu'; simp at hu'; subst hu'; rfl) (by unfold maxLen; omega) (by omega) (by simp; omega) ?_; intro v1 a1 hown1 hgrow1 _ _; refine Hid.out ?_)
          refine Lib.hid ?_
          have row1 : OwI a1 w.heap.size v1 (acc ++ [y]) := owI_push hown1
          have hk1 := But.of_grown hgrow1
          have bel1 : Below w.heap.size w a1 := HL1.out.trans (hk1.below (fun g hg => (own_in HR1.out hg).1) (by simp; omega))
          clear hk1 hown1 hgrow1 HR1 HN1 HL1 hsz1
          go_wp2
          exact ⟨⟨k + 1, acc ++ [y], false, _, by omega, by go_num, rfl, rfl, row1, by rw [hacc, hdrop, ins_less e1]; simp, by simp; omega, bel1⟩, by simp [intOf]; omega⟩
      · by_cases e1 : y = x
        · subst e1
          have e3 : (y != y) = false := by simp
          go_wp2
          exact ⟨⟨k + 1, acc, true, _, by omega, by go_num, rfl, rfl, hrow, by rw [hacc, hdrop, ins_drop], by simp; omega, hbel⟩, by simp [intOf]; omega⟩
        · have e3 : (y != x) = true := by simpa using e1
          have HN1 := Lib.hid (new_at1 wa (.int .i64 y) 3 wa.heap.size rfl)
          have HR1 := Lib.hid (World.ownsRow.alloc hrow (.cells #[.int .i64 y] 3))
          have HL1 := Lib.hid ((hbel).alloc (hbel).size (.cells #[.int .i64 y] 3))
          have hsz1 := (hbel).size
          clear hrow hbel
          go_wp2_with (at_builtin; refine wpList_append_own_at _ rfl _ _ 36 rfl w.heap.size 3 i3 (.int .i64 0) 1 8 Try.underlying36 hi3 hy0 hy1 hy2 rfl (by decide) _ _ _ rfl HR1.out ⟨wa.heap.size, 0, none⟩ 1 1 [.int .i64 y] rfl rfl HN1.out (by intro u' hu'; simp at hu'; subst hu'; rfl) (by unfold maxLen; omega) (by omega) (by simp; omega) ?_; intro v1 a1 hown1 hgrow1 _ _; refine Hid.out ?_)
          refine Lib.hid ?_
          have row1 : OwI a1 w.heap.size v1 (acc ++ [y]) := owI_push hown1
          have hk1 := But.of_grown hgrow1
          have bel1 : Below w.heap.size w a1 := HL1.out.trans (hk1.below (fun g hg => (own_in HR1.out hg).1) (by simp; omega))
          clear hk1 hown1 hgrow1 HR1 HN1 HL1 hsz1
          go_wp2
          exact ⟨⟨k + 1, acc ++ [y], true, _, by omega, by go_num, rfl, rfl, row1, by rw [hacc, hdrop, ins_pass e1]; simp, by simp; omega, bel1⟩, by simp [intOf]; omega⟩
    · have hkk : k = xs.length := by omega
      subst hkk
      clear h
      rw [List.drop_length] at hacc
      cases put <;> simp only [Bool.toNat_false, Bool.toNat_true] at hal
      · have HN1 := Lib.hid (new_at1 wa (.int .i64 x) 3 wa.heap.size rfl)
        have HR1 := Lib.hid (World.ownsRow.alloc hrow (.cells #[.int .i64 x] 3))
        have HL1 := Lib.hid ((hbel).alloc (hbel).size (.cells #[.int .i64 x] 3))
        have hsz1 := (hbel).size
        clear hrow hbel
        go_wp2_with (at_builtin; refine wpList_append_own_at _ rfl _ _ 36 rfl w.heap.size 3 i3 (.int .i64 0) 1 8 Try.underlying36 hi3 hy0 hy1 hy2 rfl (by decide) _ _ _ rfl HR1.out ⟨wa.heap.size, 0, none⟩ 1 1 [.int .i64 x] rfl rfl HN1.out (by intro u' hu'; simp at hu'; subst hu'; rfl) (by unfold maxLen; omega) (by omega) (by simp; omega) ?_; intro v1 a1 hown1 hgrow1 _ _; refine Hid.out ?_)
        refine Lib.hid ?_
        have row1 : OwI a1 w.heap.size v1 (acc ++ [x]) := owI_push hown1
        have hk1 := But.of_grown hgrow1
        have bel1 : Below w.heap.size w a1 := HL1.out.trans (hk1.below (fun g hg => (own_in HR1.out hg).1) (by simp; omega))
        clear hk1 hown1 hgrow1 HR1 HN1 HL1 hsz1
        go_wp2
        go_ret
        refine ⟨_, rfl, ?_, bel1⟩
        rw [hacc]
        exact row1
      · go_wp2
        go_ret
        refine ⟨_, rfl, ?_, hbel⟩
        rw [hacc]
        simpa [insGo] using hrow
end Go.Proofs.Ytcpjplkbmflglaa
/- The reference's Lines. -/
namespace Go.Proofs.Ytcpjplkbmflglaa
open Go.RowKit
attribute [local go_sem] run_store_float
set_option linter.unusedVariables false
/-- A node that gives its line. -/
def lineN (n : Nd) : Bool := isStat n.kind && n.kind != 1
def linesN (ns : List Nd) : List Int := (ns.filter lineN).map Nd.line
def linesL (fs : List Fd) : List Int := fs.flatMap fun x => linesN x.nodes
def insAll (l xs : List Int) : List Int := xs.foldl (fun l x => insGo x false l) l
def linesS (fs : List Fd) : List Int := if (checkS fs).1 = 0 then insAll [] (linesL fs) else []
theorem linesN_take (ns : List Nd) (k : Nat) (n : Nd) (h : ns[k]? = some n) : linesN (ns.take (k + 1)) = linesN (ns.take k) ++ (if lineN n then [n.line] else []) := by
  unfold linesN
  rw [List.take_add_one, h, List.filter_append, List.map_append]
  congr 1
  simp only [Option.toList_some, List.filter_cons, List.filter_nil]
  split <;> rfl
theorem insGo_len (x : Int) : ∀ (l : List Int) (put : Bool), (insGo x put l).length ≤ l.length + 1 - put.toNat := by
  intro l
  induction l with
  | nil => intro put; cases put <;> simp [insGo]
  | cons y r ih =>
    intro put
    have h1 := ih true
    have h2 := ih put
    rw [insGo]
    simp only [Bool.toNat_true] at h1
    cases put <;> simp only [Bool.toNat_false, Bool.toNat_true] at h2 ⊢
    · split
      · split <;> simp only [List.length_cons] <;> omega
      · split <;> simp only [List.length_cons] <;> omega
    · rw [if_neg (by simp)]
      split <;> simp only [List.length_cons] <;> omega
theorem insAll_len : ∀ (xs l : List Int), (insAll l xs).length ≤ l.length + xs.length := by
  intro xs
  induction xs with
  | nil => intro l; exact Nat.le_refl _
  | cons x r ih =>
    intro l
    have h1 := ih (insGo x false l)
    have h2 := insGo_len x l false
    unfold insAll at h1 ⊢
    rw [List.foldl_cons]
    simp only [Bool.toNat_false, List.length_cons] at h2 ⊢
    omega
theorem insAll_append (l a b : List Int) : insAll l (a ++ b) = insAll (insAll l a) b := by unfold insAll; rw [List.foldl_append]
theorem linesN_len (ns : List Nd) : (linesN ns).length ≤ ns.length := by unfold linesN; rw [List.length_map]; exact List.length_filter_le _ _
theorem linesL_take (fs : List Fd) (k : Nat) (x : Fd) (h : fs[k]? = some x) : linesL (fs.take (k + 1)) = linesL (fs.take k) ++ linesN x.nodes := by
  unfold linesL
  rw [List.take_add_one, h, List.flatMap_append]
  simp
theorem linesL_len : ∀ fs : List Fd, (linesL fs).length ≤ totN fs := by
  intro fs
  induction fs with
  | nil => exact Nat.le_refl _
  | cons x r ih =>
    have := linesN_len x.nodes
    unfold linesL totN at *
    simp only [List.flatMap_cons, List.length_append, totW]
    omega
theorem totN_take (fs : List LF) (k : Nat) : totN ((fs.map LF.fd).take k) ≤ totN (fs.map LF.fd) := totW_le _ _ _
/-- The boxes of l3's Lines. -/
structure Ls (w : World) (U : Value) (x2 x3 : Int) (g : Nat) (W : World) : Prop where
  ub : Blk W w.heap.size 31 #[U]
  rb : Blk W g 27 #[.int .i64 0, .int .i64 x2, .int .i64 x3]
  bel : Below w.heap.size w W
  lo : w.heap.size < g
theorem Ls.below {w W W' : World} {U : Value} {x2 x3 : Int} {g : Nat} (h : Ls w U x2 x3 g W) (hb : Below W.heap.size W W') : Ls w U x2 x3 g W' := ⟨h.ub.below hb h.ub.lt, h.rb.below hb h.rb.lt, h.bel.trans (hb.mono h.bel.size), h.lo⟩
set_option maxRecDepth 100000 in
set_option maxHeartbeats 8000000 in
theorem slines_any (A : Option Addr) (c : Nat) (fs : List LF) (w : World) (lo : Nat) (h : RdF w lo A fs) (hn : fs.length ≤ 1048576) (hf : ∀ f ∈ fs, fitF f) (ht : totW (fun f => f.ns.length) fs ≤ 1048576) :
    Calls Try.prog 11 #[.agg #[.slice A fs.length c]] w fun e w' => ∃ A' c', e = .returned (.slice A' (linesS (fs.map LF.fd)).length c') ∧ RdL encI 1 w' w.heap.size A' (linesS (fs.map LF.fd)) ∧ Below w.heap.size w w' := by
  have H := Lib.hid h; have HF := Lib.hid hf; have HT := Lib.hid ht
  have HTN : Hid (totN (fs.map LF.fd) ≤ 1048576) := Lib.hid (by unfold totN; rw [totW_map]; simpa [LF.fd] using ht)
  have hcap := cap_ns ht
  have HCAP := Lib.hid hcap
  clear h hf ht hcap
  go_enter Try.func11, Try.ntmps11
  go_wp2_with fail
  refine (scheck_any A c fs _ lo (H.out.below (by (repeat (first | with_reducible assumption | with_reducible exact Below.refl _ _ | with_reducible refine Below.drew ?_ | with_reducible refine bl_drewN _ ?_ | ((with_reducible refine bl_alloc ?_ _ ?_); · (first | omega | (simp; done) | (simp; omega))) | ((with_reducible refine bl_set ?_ _ ?_); · (first | omega | (simp; done) | (simp; omega))))))) hn HF.out HT.out).mono ?_
  rintro e w1 ⟨he1, hb1⟩
  obtain ⟨⟨x1, x2, x3⟩, hx⟩ : ∃ x, x = checkS (fs.map LF.fd) := ⟨_, rfl⟩
  rw [← hx] at he1
  have HX := Lib.hid hx
  subst he1
  unfold fltV
  dsimp only
  have hz1 : w.heap.size < w1.heap.size := by have := hb1.size; simp at this; omega
  have HU1 : Hid (Blk w1 w.heap.size 31 #[(.slice A fs.length c)]) := Lib.hid (Blk.below (Blk.new _ _ _) hb1 (by simp))
  have HB1 : Hid (Below w.heap.size w w1) := Lib.hid (below_then hb1)
  clear hx hb1
  by_cases h1 : x1 = 0
  · subst h1
    have HLS : Hid (linesS (fs.map LF.fd) = insAll [] (linesL (fs.map LF.fd))) := Lib.hid (by unfold linesS; rw [← HX.out, if_pos rfl])
    have HS0 : Hid (Ls w (.slice A fs.length c) x2 x3 w1.heap.size (w1.alloc (.cells #[.int .i64 0, .int .i64 x2, .int .i64 x3] 27))) := Lib.hid ⟨HU1.out.alloc _, Blk.new _ _ _, HB1.out.alloc HB1.out.size _, hz1⟩
    have u0 := HU1.out.cell 0
    simp at u0
    go_wp2
    clear u0
    go_loopw [3, 18] (fun o v wr => ∃ (p : Nat) (Ao : Option Addr) (co : Nat) (acc : List Int), p ≤ fs.length ∧ v = .int .i64 p ∧ o = .slice Ao acc.length co ∧ Hid (acc = insAll [] (linesL ((fs.map LF.fd).take p))) ∧ acc.length ≤ 1048576 ∧ Hid (RdL encI 1 wr w.heap.size Ao acc) ∧ Hid (Ls w (.slice A fs.length c) x2 x3 w1.heap.size wr)) (fun _ v _ => fs.length - (intOf v).toNat)
    case atStart => exact ⟨0, none, 0, [], Nat.zero_le _, rfl, rfl, Lib.hid rfl, by simp, Lib.hid RdL.nil, HS0⟩
    case round =>
      clear HS0 HU1 HB1
      obtain ⟨p, Ao, co, acc, hp, rfl, rfl, HA, hal, HO, HS⟩ := hrel
      have hz2 := HS.out.ub.lt
      have hz3 := HS.out.rb.lt
      by_cases hlt : p < fs.length
      · obtain ⟨f, hpf⟩ : ∃ f, fs[p]? = some f := ⟨_, List.getElem?_eq_getElem hlt⟩
        obtain ⟨b, off, rfl, hlob, hb, c0, c1, c2, c3, c4, c5, c6, -⟩ := rdF_at (H.out.below HS.out.bel) hpf
        have HPF : Hid ((fs.map LF.fd)[p]? = some f.fd) := Lib.hid (by rw [List.getElem?_map, hpf]; rfl)
        have hfm := List.mem_of_getElem? hpf
        have HFM := Lib.hid hfm
        have hfn := HCAP.out f hfm
        have hpl : (p : Int) < fs.length := by omega
        obtain ⟨w2, hw2⟩ : ∃ wo : World, wo = wr := ⟨_, rfl⟩
        obtain rfl := hw2
        have HS1 := Lib.hid (HS.out.below (below_new w2 (.cells #[.string f.name, .int .i64 f.line, .int .i64 f.params, .bool f.rest, .slice f.va f.vars.length f.vc, .slice f.ua f.ups.length f.uc, .slice f.na f.ns.length f.nc] 47)))
        have HO1 := Lib.hid (HO.out.alloc (.cells #[.string f.name, .int .i64 f.line, .int .i64 f.params, .bool f.rest, .slice f.va f.vars.length f.vc, .slice f.ua f.ups.length f.uc, .slice f.na f.ns.length f.nc] 47))
        clear hpf hfm HO HS
        go_wp2
        clear c0 c1 c2 c3 c4 c5 c6 hb
        go_loopw [3, 25] (fun o v wx => ∃ (q : Nat) (Ax : Option Addr) (cx : Nat) (ac2 : List Int), q ≤ f.ns.length ∧ v = .int .i64 q ∧ o = .slice Ax ac2.length cx ∧ Hid (ac2 = insAll [] (linesL ((fs.map LF.fd).take p) ++ linesN ((f.ns.map LN.nd).take q))) ∧ ac2.length ≤ 1048576 ∧ Hid (RdL encI 1 wx w.heap.size Ax ac2) ∧ Hid (Ls w (.slice (some ⟨b, off, none⟩) fs.length c) x2 x3 w1.heap.size wx) ) (fun _ v _ => f.ns.length - (intOf v).toNat)
        case atStart => exact ⟨0, Ao, co, acc, Nat.zero_le _, rfl, rfl, Lib.hid (by rw [HA.out]; simp [linesN]), hal, HO1, HS1⟩
        case round =>
          clear HS1 HO1 HA hal
          obtain ⟨q, Ax, cx, ac2, hq, rfl, rfl, HA2, hal2, HO2, HS2⟩ := hrel
          by_cases hql : q < f.ns.length
          · obtain ⟨l, hl⟩ : ∃ l, f.ns[q]? = some l := ⟨_, List.getElem?_eq_getElem hql⟩
            obtain ⟨b3, off3, hna, hlo3, hb3, d0, d1, d2, d3, d4, d5, d6, d7, hok⟩ := rdN_at ((H.out.2 f HFM.out).2.2.below HS2.out.bel) hl
            have HTK := Lib.hid (linesN_take (f.ns.map LN.nd) q l.nd (nd_at hl))
            have hqi : (q : Int) < f.ns.length := by omega
            rw [hna]
            obtain ⟨w4, hw4⟩ : ∃ wo : World, wo = wr := ⟨_, rfl⟩
            obtain rfl := hw4
            have HS5 := Lib.hid (HS2.out.below (below_new w4 (.cells #[.int .i64 l.nd.kind, .int .i64 l.nd.line, .int .i64 l.nd.op, .int .i64 l.nd.num, .float .f64 l.nd.flt, .string l.nd.str, .slice l.ra l.nd.refs.length l.rc, .slice l.ka l.nd.kids.length l.kc] 52)))
            have HO5 := Lib.hid (HO2.out.alloc (.cells #[.int .i64 l.nd.kind, .int .i64 l.nd.line, .int .i64 l.nd.op, .int .i64 l.nd.num, .float .f64 l.nd.flt, .string l.nd.str, .slice l.ra l.nd.refs.length l.rc, .slice l.ka l.nd.kids.length l.kc] 52))
            have hlen5 : (insAll [] (linesL ((fs.map LF.fd).take p) ++ linesN ((f.ns.map LN.nd).take (q + 1)))).length ≤ 1048576 := by
              have h1 := insAll_len (linesL ((fs.map LF.fd).take p) ++ linesN ((f.ns.map LN.nd).take (q + 1))) []
              have h2 := linesL_len ((fs.map LF.fd).take (p + 1))
              rw [linesL_take _ _ _ HPF.out] at h2
              have h3 := totN_take fs (p + 1)
              have h4 := HTN.out
              have h5 : (linesN ((f.ns.map LN.nd).take (q + 1))).length ≤ (linesN f.fd.nodes).length := by
                unfold linesN
                rw [List.length_map, List.length_map]
                exact (((List.take_sublist _ _).filter _).length_le)
              rw [List.length_append] at h1 h2
              simp only [List.length_nil, Nat.zero_add] at h1
              omega
            have HLN := Lib.hid hlen5
            clear hl hna hok hlo3 HS2 HO2 hlen5
            obtain ⟨st, hst⟩ : ∃ st, st = isStat l.nd.kind := ⟨_, rfl⟩
            have HST := Lib.hid hst
            cases st with
            | false =>
              have HNO : Hid (lineN l.nd = false) := Lib.hid (by unfold lineN; rw [← HST.out]; rfl)
              clear hst
              go_wp2_with (go_at_call 30; refine (stat_any _ _).mono ?_; rintro e w1 ⟨rfl, rfl⟩; rw [← HST.out])
              exact ⟨⟨q + 1, Ax, cx, ac2, by omega, by go_num, rfl, Lib.hid (by rw [HA2.out, HTK.out, HNO.out]; simp), hal2, HO5, HS5⟩, by simp [intOf]; omega⟩
            | true =>
              clear hst
              by_cases k1 : l.nd.kind = 1
              · have e1 : (l.nd.kind != 1) = false := by rw [k1]; rfl
                have HNO : Hid (lineN l.nd = false) := Lib.hid (by unfold lineN; rw [e1, Bool.and_false])
                clear k1
                go_wp2_with (go_at_call 30; refine (stat_any _ _).mono ?_; rintro e w1 ⟨rfl, rfl⟩; rw [← HST.out])
                exact ⟨⟨q + 1, Ax, cx, ac2, by omega, by go_num, rfl, Lib.hid (by rw [HA2.out, HTK.out, HNO.out]; simp), hal2, HO5, HS5⟩, by simp [intOf]; omega⟩
              · have e1 : (l.nd.kind != 1) = true := by simpa using k1
                have HNO : Hid (lineN l.nd = true) := Lib.hid (by unfold lineN; rw [← HST.out, e1]; rfl)
                clear k1
                go_wp2_with (go_at_call 30; refine (stat_any _ _).mono ?_; rintro e w1 ⟨rfl, rfl⟩; rw [← HST.out])
                refine (sins_any Ax cx ac2 l.nd.line _ _ HO5.out hal2).mono ?_
                rintro e w6 ⟨v, rfl, hO6, hb6⟩
                obtain ⟨A6, c6', rfl, hr6, -⟩ := ow_rd (enc := encI) (fun _ => rfl) hO6
                have HA6 : Hid (insGo l.nd.line false ac2 = insAll [] (linesL ((fs.map LF.fd).take p) ++ linesN ((f.ns.map LN.nd).take (q + 1)))) := Lib.hid (by
                  rw [HTK.out, HNO.out, if_pos rfl, ← List.append_assoc, insAll_append [] _ [l.nd.line], HA2.out]
                  rfl)
                have HR6 := Lib.hid (hr6.lower (Nat.le_trans HS5.out.bel.size (Nat.le_refl _)))
                have HS6 := Lib.hid (HS5.out.below hb6)
                have hl6 : (insGo l.nd.line false ac2).length ≤ 1048576 := by rw [HA6.out]; exact HLN.out
                clear hO6 hb6 hr6 HS5 HO5
                go_wp2
                exact ⟨⟨q + 1, A6, c6', _, by omega, by go_num, rfl, HA6, hl6, HR6, HS6⟩, by simp [intOf]; omega⟩
          · have hqq : q = f.ns.length := by omega
            have HA3 : Hid (ac2 = insAll [] (linesL ((fs.map LF.fd).take (p + 1)))) := Lib.hid (by
              rw [HA2.out, linesL_take _ _ _ HPF.out, hqq, ← List.length_map (f := LN.nd), List.take_length]; rfl)
            go_wp2
            exact ⟨⟨p + 1, Ax, cx, ac2, by omega, by go_num, rfl, HA3, hal2, HO2, HS2⟩, by simp [intOf]; omega⟩
      · have hpp : p = fs.length := by omega
        have HE : Hid (linesS (fs.map LF.fd) = acc) := Lib.hid (by rw [HLS.out, HA.out, hpp, ← List.length_map (f := LF.fd), List.take_length])
        go_wp2
        go_ret
        rw [HE.out]
        exact ⟨_, _, rfl, HO.out, HS.out.bel⟩
  · have HLS : Hid (linesS (fs.map LF.fd) = []) := Lib.hid (by unfold linesS; rw [← HX.out, if_neg h1])
    have e1 : (x1 != 0) = true := by simpa using h1
    clear h1
    have HBF := Lib.hid (HB1.out.alloc HB1.out.size (.cells #[.int .i64 x1, .int .i64 x2, .int .i64 x3] 27))
    go_wp2
    go_ret
    rw [HLS.out]
    exact ⟨none, 0, rfl, RdL.nil, HBF.out⟩
end Go.Proofs.Ytcpjplkbmflglaa
/- Ascending lists; a set of numbers in a map. -/
namespace Go.Proofs.Ytcpjplkbmflglaa
open Go.RowKit Go.Maps
open Go.Maps (Keyed)
set_option linter.unusedVariables false
abbrev Asc (l : List Int) : Prop := l.Pairwise (· < ·)
theorem ins_true (x : Int) : ∀ l : List Int, insGo x true l = l.filter (fun y => y != x) := by
  intro l
  induction l with
  | nil => rfl
  | cons y r ih =>
    by_cases e : y = x
    · subst e; rw [ins_drop, ih, List.filter_cons_of_neg (by simp)]
    · rw [ins_pass e, ih, List.filter_cons_of_pos (by simpa using e)]
theorem ins_mem (x : Int) : ∀ (l : List Int) (z : Int), z ∈ insGo x false l ↔ z = x ∨ z ∈ l := by
  intro l
  induction l with
  | nil => intro z; simp [insGo]
  | cons y r ih =>
    intro z
    rcases Int.lt_trichotomy x y with e | e | e
    · rw [ins_new e, ins_true]
      simp only [List.mem_cons, List.mem_filter, bne_iff_ne, ne_eq]
      by_cases hz : z = x
      · simp [hz]
      · simp [hz]
    · subst e
      rw [ins_same, ins_true]
      simp only [List.mem_cons, List.mem_filter, bne_iff_ne, ne_eq]
      by_cases hz : z = x
      · simp [hz]
      · simp [hz]
    · rw [ins_less e, List.mem_cons, ih, List.mem_cons]
      constructor
      · rintro (h | h | h)
        · exact .inr (.inl h)
        · exact .inl h
        · exact .inr (.inr h)
      · rintro (h | h | h)
        · exact .inr (.inl h)
        · exact .inl h
        · exact .inr (.inr h)
theorem ins_asc (x : Int) : ∀ l : List Int, Asc l → Asc (insGo x false l) := by
  intro l
  induction l with
  | nil => intro _; simp [insGo]
  | cons y r ih =>
    intro h
    obtain ⟨h1, h2⟩ := List.pairwise_cons.1 h
    have hf : Asc (r.filter (fun y => y != x)) := h2.filter _
    rcases Int.lt_trichotomy x y with e | e | e
    · rw [ins_new e, ins_true]
      refine List.pairwise_cons.2 ⟨fun z hz => ?_, List.pairwise_cons.2 ⟨fun z hz => h1 z (List.mem_filter.1 hz).1, hf⟩⟩
      rcases List.mem_cons.1 hz with rfl | hz
      · exact e
      · exact Int.lt_trans e (h1 z (List.mem_filter.1 hz).1)
    · subst e
      rw [ins_same, ins_true]
      exact List.pairwise_cons.2 ⟨fun z hz => h1 z (List.mem_filter.1 hz).1, hf⟩
    · rw [ins_less e]
      refine List.pairwise_cons.2 ⟨fun z hz => ?_, ih h2⟩
      rcases (ins_mem x r z).1 hz with rfl | hz
      · exact e
      · exact h1 z hz
theorem insAll_is : ∀ (xs l : List Int), Asc l → Asc (insAll l xs) ∧ ∀ z, z ∈ insAll l xs ↔ z ∈ l ∨ z ∈ xs := by
  intro xs
  induction xs with
  | nil => intro l h; exact ⟨h, fun z => by simp [insAll]⟩
  | cons x r ih =>
    intro l h
    obtain ⟨h1, h2⟩ := ih (insGo x false l) (ins_asc x l h)
    have e : insAll l (x :: r) = insAll (insGo x false l) r := rfl
    rw [e]
    refine ⟨h1, fun z => ?_⟩
    rw [h2, ins_mem, List.mem_cons]
    constructor
    · rintro ((h | h) | h)
      · exact .inr (.inl h)
      · exact .inl h
      · exact .inr (.inr h)
    · rintro (h | h | h)
      · exact .inl (.inr h)
      · exact .inl (.inl h)
      · exact .inr h
theorem asc_ext : ∀ a b : List Int, Asc a → Asc b → (∀ x, x ∈ a ↔ x ∈ b) → a = b := by
  intro a
  induction a with
  | nil =>
    intro b _ _ h
    cases b with
    | nil => rfl
    | cons y s => exact absurd ((h y).2 List.mem_cons_self) (by simp)
  | cons x r ih =>
    intro b ha hb h
    cases b with
    | nil => exact absurd ((h x).1 List.mem_cons_self) (by simp)
    | cons y s =>
      obtain ⟨a1, a2⟩ := List.pairwise_cons.1 ha
      obtain ⟨b1, b2⟩ := List.pairwise_cons.1 hb
      have e : x = y := by
        rcases List.mem_cons.1 ((h x).1 List.mem_cons_self) with e | e
        · exact e
        · rcases List.mem_cons.1 ((h y).2 List.mem_cons_self) with e' | e'
          · exact e'.symm
          · have := b1 x e; have := a1 y e'; omega
      subst e
      rw [ih s a2 b2 fun z => ?_]
      constructor
      · intro hz
        rcases List.mem_cons.1 ((h z).1 (List.mem_cons_of_mem _ hz)) with e | e
        · have := a1 z hz; omega
        · exact e
      · intro hz
        rcases List.mem_cons.1 ((h z).2 (List.mem_cons_of_mem _ hz)) with e | e
        · have := b1 z hz; omega
        · exact e
theorem sorted_is {acc ls : List Int} (hn : acc.Nodup) (hm : ∀ x, x ∈ acc ↔ x ∈ ls) : acc.mergeSort (fun x y => decide (x ≤ y)) = insAll [] ls := by
  have hp := List.mergeSort_perm acc (fun x y : Int => decide (x ≤ y))
  have hs : (acc.mergeSort (fun x y => decide (x ≤ y))).Pairwise (fun x y : Int => decide (x ≤ y) = true) := List.pairwise_mergeSort (fun a b c h1 h2 => by simp at h1 h2 ⊢; omega) (fun a b => by simp; omega) acc
  obtain ⟨i1, i2⟩ := insAll_is ls [] List.Pairwise.nil
  have hd : (acc.mergeSort (fun x y => decide (x ≤ y))).Nodup := (hp.nodup_iff).2 hn
  refine asc_ext _ _ ?_ i1 fun x => ?_
  · refine (List.pairwise_and_iff.2 ⟨hs, hd⟩).imp fun {a b} h => ?_
    have h1 := h.1
    have h2 := h.2
    simp at h1
    omega
  · rw [hp.mem_iff, hm, i2]
    simp
theorem law3k : Keyed Try.prog 3 := int_keyed Try.underlying3
abbrev kI (l : Int) : Lit := .int .i64 l
theorem keyI {l : Int} (h : (kI l).wf = true) : keyOf Try.prog 3 (.int .i64 l) = some (kI l) := keyOf_int_mk Try.underlying3 h
/-- D holds just these numbers. -/
def SetIs {H : Type} (D : DataW H) (ls : List Int) : Prop := ∀ l, (kI l).wf = true → Maps.has D (kI l) = decide (l ∈ ls)
theorem set_step {H : Type} {D : DataW H} {ls : List Int} {x : Int} (hm : IsMap D) (h : SetIs D ls) (hx : (kI x).wf = true) (d : DataW H) : SetIs (D.put (kI x) d) (ls ++ [x]) := fun l hl => by
  have hkl : WideAt.IsKeyLit (kI x) := law3k.key (keyI hx)
  by_cases e : l = x
  · subst e
    rw [has_put_same hm hkl]
    simp
  · rw [has_put_other (fun hh => e (by injection hh)), h l hl]
    simp [e]
/-- What has been taken out. -/
structure DoneI {H : Type} (acc : List Int) (D : DataW H) (left : Lit → Bool) : Prop where
  each : ∀ x ∈ acc, (kI x).wf = true ∧ left (kI x) = false ∧ Maps.has D (kI x) = true
  once : acc.Nodup
  all : ∀ l, (kI l).wf = true → Maps.has D (kI l) = true → left (kI l) = false → l ∈ acc
theorem DoneI.start {H : Type} (D : DataW H) : DoneI [] D (Maps.has D) := ⟨by simp, List.nodup_nil, fun l _ h1 h2 => by rw [h1] at h2; cases h2⟩
theorem DoneI.step {H : Type} {acc : List Int} {D : DataW H} {left : Lit → Bool} (h : DoneI acc D left) {l : Int} (hl : (kI l).wf = true) (hlx : left (kI l) = true) (hh : Maps.has D (kI l) = true) :
    DoneI (acc ++ [l]) D (fun z => left z && !z.sameKey (kI l)) := by
  have hkl : WideAt.IsKeyLit (kI l) := law3k.key (keyI hl)
  refine ⟨fun x hx => ?_, ?_, fun z hz h1 h2 => ?_⟩
  · rcases List.mem_append.1 hx with hx | hx
    · obtain ⟨a1, a2, a3⟩ := h.each x hx
      exact ⟨a1, by simp [a2], a3⟩
    · rw [List.mem_singleton.1 hx]
      exact ⟨hl, by simp [WideAt.sameKey_self hkl], hh⟩
  · rw [List.nodup_append]
    refine ⟨h.once, by simp, fun a ha b hb => ?_⟩
    rw [List.mem_singleton.1 hb]
    rintro rfl
    have := (h.each a ha).2.1
    rw [hlx] at this
    cases this
  · simp only [Bool.and_eq_false_iff, Bool.not_eq_false'] at h2
    rcases h2 with h2 | h2
    · exact List.mem_append_left _ (h.all z hz h1 h2)
    · have e : z = l := by
        by_cases e : kI z = kI l
        · injection e
        · rw [sameKey_ne e] at h2; cases h2
      simp [e]
theorem doneI_is {H : Type} {acc ls : List Int} {D : DataW H} {left : Lit → Bool} (h : DoneI acc D left) (hl : ∀ k, left k = false) (hs : SetIs D ls) (hw : ∀ x ∈ ls, (kI x).wf = true) : ∀ x, x ∈ acc ↔ x ∈ ls := fun x => by
  constructor
  · intro hx
    obtain ⟨a1, -, a3⟩ := h.each x hx
    rw [hs x a1] at a3
    exact of_decide_eq_true a3
  · intro hx
    exact h.all x (hw x hx) (by rw [hs x (hw x hx)]; exact decide_eq_true hx) (hl _)
theorem ranges_ofI {H : Type} {P : Program} {k : TypeId} {R : Value → Option (DataW H × List MemPlace)} {w w' : World} {b r n : Nat} {D : DataW H} {left : Lit → Bool} {cnt : Nat} (h : w.ranges P k R b r n D left cnt)
    (h1 : w'.heap[b]? = w.heap[b]?) (h2 : w'.heap[r]? = w.heap[r]?) : w'.ranges P k R b r n D left cnt := by
  obtain ⟨es, clock, since, seen, c0, a1, a2, a3, a4, a5, a6⟩ := h
  exact ⟨es, clock, since, seen, c0, h1.trans a1, a2, a3, a4, h2.trans a5, a6⟩
theorem ranges_ltI {H : Type} {P : Program} {k : TypeId} {R : Value → Option (DataW H × List MemPlace)} {w : World} {b r n : Nat} {D : DataW H} {left : Lit → Bool} {cnt : Nat} (h : w.ranges P k R b r n D left cnt) : b < w.heap.size ∧ r < w.heap.size := by
  obtain ⟨es, clock, since, seen, c0, a1, a2, a3, a4, a5, a6⟩ := h
  exact ⟨(Array.getElem?_eq_some_iff.1 a1).1, (Array.getElem?_eq_some_iff.1 a5).1⟩
theorem inv_bool {H : Type} {P : Program} {e : TypeId} (he : P.underlying e = some .bool) {v : Value} {y : DataW H × List MemPlace} (h : plainElem P e v = some y) : ∃ c : Bool, v = Value.bool c := by
  unfold plainElem at h
  rw [he] at h
  cases v <;> simp at h
  exact ⟨_, rfl⟩
theorem invB {H : Type} {v : Value} {y : DataW H × List MemPlace} (h : plainElem Try.prog 4 v = some y) : ∃ c : Bool, v = Value.bool c := inv_bool Try.underlying4 h
end Go.Proofs.Ytcpjplkbmflglaa
/- The program's Lines. -/
namespace Go.Proofs.Ytcpjplkbmflglaa
open Go.RowKit
attribute [local go_sem] run_store_float
open Go.Maps
open Go.Maps (Keyed)
open Go.Sort
set_option linter.unusedVariables false
theorem checkS_zero {fs : List Fd} (h : (checkS fs).1 = 0) : checkS fs = (0, 0, 0) := by
  have z : ∀ x : Flt3, x = F1 fs ∨ x = F2 fs ∨ x = F3 fs → x.1 = 0 → x = (0, 0, 0) := by
    rintro x (rfl | rfl | rfl) h0
    · unfold F1 at h0 ⊢
      split
      · rename_i h1; rw [if_pos h1] at h0; simp at h0
      · rename_i h1
        rw [if_neg h1] at h0
        cases h2 : P2 fs with
        | inr f => rw [h2] at h0; simp at h0
        | inl u =>
          rw [h2] at h0
          cases h3 : P3 fs with
          | inr f => rw [h3] at h0; simp at h0
          | inl u => rfl
    · unfold F2 at h0 ⊢
      cases h2 : P4 fs with
      | inr f => rw [h2] at h0; simp at h0
      | inl u =>
        rw [h2] at h0
        cases h3 : P5 fs with
        | inr f => rw [h3] at h0; simp at h0
        | inl u => rfl
    · unfold F3 at h0 ⊢
      cases h2 : P6 fs with
      | inr f => rw [h2] at h0; simp at h0
      | inl u =>
        rw [h2] at h0
        cases h3 : P7 fs with
        | inr f => rw [h3] at h0; simp at h0
        | inl u =>
          rw [h3] at h0
          cases h4 : P8 fs with
          | inr f => rw [h4] at h0; simp at h0
          | inl made =>
            rw [h4] at h0
            simp only at h0 ⊢
            cases h5 : P9 fs made with
            | inr f => rw [h5] at h0; simp at h0
            | inl u => rfl
  refine z _ ?_ h
  unfold checkS
  split
  · exact .inl rfl
  · split
    · exact .inr (.inl rfl)
    · exact .inr (.inr rfl)
/-- The lines of a unit in order are numbers of int. -/
theorem lines_wf {fs : List Fd} (h : (checkS fs).1 = 0) : ∀ x ∈ linesL fs, (kI x).wf = true := fun x hx => by
  have h1 : (F1 fs).1 = 0 := by
    unfold checkS at h
    by_cases h0 : (F1 fs).1 = 0
    · exact h0
    · rw [if_pos h0] at h; exact h
  obtain ⟨-, -, h3⟩ := F1_zero h1
  unfold linesL at hx
  obtain ⟨f, hf, hx⟩ := List.mem_flatMap.1 hx
  unfold linesN at hx
  obtain ⟨n, hn, rfl⟩ := List.mem_map.1 hx
  obtain ⟨hn, hl⟩ := List.mem_filter.1 hn
  obtain ⟨i, hi⟩ := List.getElem?_of_mem hf
  obtain ⟨k, hk⟩ := List.getElem?_of_mem hn
  have hfd : fdAt fs i = f := by unfold fdAt; rw [hi]; rfl
  have hnd : ndAt (fdAt fs i).nodes k = n := by rw [hfd]; unfold ndAt; rw [hk]; rfl
  have := find2_all h3 i (List.getElem?_eq_some_iff.1 hi).1 k (by unfold lenAt; rw [hfd]; exact (List.getElem?_eq_some_iff.1 hk).1)
  unfold fine3 at this
  rw [hnd] at this
  unfold shapeB at this
  simp only [Bool.and_eq_true] at this
  have h4 := this.2.2.1
  unfold lineN at hl
  simp only [Bool.and_eq_true] at hl
  rw [if_pos hl.1] at h4
  have h5 := of_decide_eq_true h4
  have e1 : IntKind.i64.min = -9223372036854775808 := by decide
  have e2 : IntKind.i64.max = 9223372036854775807 := by decide
  simp [Lit.wf, e1, e2]
  omega
theorem flat_encI : ∀ xs : List Int, xs.flatMap encI = xs.map (Value.int .i64) := by
  intro xs
  induction xs with
  | nil => rfl
  | cons x r ih => rw [List.flatMap_cons, List.map_cons, ih]; rfl
theorem encI_one (x : Int) (u : Value) (h : u ∈ [Value.int .i64 x]) : u.oneCell' = true := by
  rw [List.mem_singleton] at h
  subst h
  rfl
/-- The boxes of Lines. -/
structure Ms (w : World) (U : Value) (W : World) : Prop where
  ub : Blk W w.heap.size 31 #[U]
  bel : Below w.heap.size w W
theorem Ms.below {w W W' : World} {U : Value} (h : Ms w U W) (hb : Below W.heap.size W W') : Ms w U W' := ⟨h.ub.below hb h.ub.lt, h.bel.trans (hb.mono h.bel.size)⟩
set_option maxRecDepth 100000 in
set_option maxHeartbeats 8000000 in
theorem ilines_any (H : Type) (A : Option Addr) (c : Nat) (fs : List LF) (w : World) (lo : Nat) (h : RdF w lo A fs) (hlo : lo ≤ w.heap.size) (hn : fs.length ≤ 1048576) (hf : ∀ f ∈ fs, fitF f) (ht : totW (fun f => f.ns.length) fs ≤ 1048576) (hkc : ∀ f ∈ fs, ∀ l ∈ f.ns, l.nd.kids.length ≤ l.kc) :
    Calls Try.prog 12 #[.agg #[.slice A fs.length c]] w fun e w' => ∃ A' c', e = .returned (.slice A' (linesS (fs.map LF.fd)).length c') ∧ RdL encI 1 w' w.heap.size A' (linesS (fs.map LF.fd)) ∧ Wr w' w.heap.size A' (linesS (fs.map LF.fd)).length 1 3 ∧ Below w.heap.size w w' := by
  have HH := Lib.hid h; have HF := Lib.hid hf; have HT := Lib.hid ht; have HKC := Lib.hid hkc
  have HTN : Hid (totN (fs.map LF.fd) ≤ 1048576) := Lib.hid (by unfold totN; rw [totW_map]; simpa [LF.fd] using ht)
  have hcap := cap_ns ht
  have HCAP := Lib.hid hcap
  clear h hf ht hcap hkc
  go_enter Try.func12, Try.ntmps12
  go_wp2_with fail
  refine (icheck_any A c fs _ lo (HH.out.below (by (repeat (first | with_reducible assumption | with_reducible exact Below.refl _ _ | with_reducible refine Below.drew ?_ | with_reducible refine bl_drewN _ ?_ | ((with_reducible refine bl_alloc ?_ _ ?_); · (first | omega | (simp; done) | (simp; omega))) | ((with_reducible refine bl_set ?_ _ ?_); · (first | omega | (simp; done) | (simp; omega))))))) (by simp; omega) hn HF.out HT.out HKC.out).mono ?_
  rintro e w1 ⟨he1, hb1⟩
  rw [check_eq] at he1
  obtain ⟨⟨x1, x2, x3⟩, hx⟩ : ∃ x, x = checkS (fs.map LF.fd) := ⟨_, rfl⟩
  have HX := Lib.hid hx
  have hz1 : w.heap.size < w1.heap.size := by have := hb1.size; simp at this; omega
  have HU1 : Hid (Blk w1 w.heap.size 31 #[(.slice A fs.length c)]) := Lib.hid (Blk.below (Blk.new _ _ _) hb1 (by simp))
  have HB1 : Hid (Below w.heap.size w w1) := Lib.hid (below_then hb1)
  clear hb1
  by_cases h1 : x1 = 0
  · have hz : checkS (fs.map LF.fd) = (0, 0, 0) := checkS_zero (by rw [← hx]; exact h1)
    have HWF : Hid (∀ x ∈ linesL (fs.map LF.fd), (kI x).wf = true) := Lib.hid (lines_wf (by rw [hz]))
    have HLS : Hid (linesS (fs.map LF.fd) = insAll [] (linesL (fs.map LF.fd))) := Lib.hid (by unfold linesS; rw [hz, if_pos rfl])
    rw [hz] at he1
    subst he1
    unfold fltV
    dsimp only
    have hmm := @run_makeMap Try.prog
    have u0 := HU1.out.cell 0
    simp at u0
    have HM0 : Hid ((w1.alloc (.map #[] 0)).ownsMap Try.prog 3 (plainElem Try.prog 4) w1.heap.size 0 (.map ([] : List (Lit × DataW H)))) := Lib.hid (World.ownsMap_made (H := H) w1 Try.prog 3 (plainElem Try.prog 4))
    have HS0 : Hid (Ms w (.slice A fs.length c) (w1.alloc (.map #[] 0))) := Lib.hid ⟨HU1.out.alloc _, HB1.out.alloc HB1.out.size _⟩
    clear h1 hx hz
    obtain ⟨mb, hmb⟩ : ∃ mb, mb = w1.heap.size := ⟨_, rfl⟩
    go_wp2
    clear u0 hmm
    rw [← hmb] at HM0 ⊢
    have hmlo : w.heap.size < mb := by omega
    clear hmb
    go_loopw [18] (fun v wr => ∃ (p : Nat) (D : DataW H), p ≤ fs.length ∧ v = .int .i64 p ∧ Hid (wr.ownsMap Try.prog 3 (plainElem Try.prog 4) mb (linesL ((fs.map LF.fd).take p)).length D) ∧ Hid (SetIs D (linesL ((fs.map LF.fd).take p))) ∧ Hid (Ms w (.slice A fs.length c) wr)) (fun v _ => fs.length - (intOf v).toNat)
    case atStart => exact ⟨0, _, Nat.zero_le _, rfl, HM0, Lib.hid (fun l _ => by simp [linesL]; rfl), HS0⟩
    case round =>
      clear HM0 HS0 HU1 HB1
      obtain ⟨p, D, hp, rfl, HM, HSI, HS⟩ := hrel
      have hz2 := HS.out.ub.lt
      by_cases hlt : p < fs.length
      · obtain ⟨f, hpf⟩ : ∃ f, fs[p]? = some f := ⟨_, List.getElem?_eq_getElem hlt⟩
        obtain ⟨b, off, rfl, hlob, hb, c0, c1, c2, c3, c4, c5, c6, -⟩ := rdF_at (HH.out.below HS.out.bel) hpf
        have HPF : Hid ((fs.map LF.fd)[p]? = some f.fd) := Lib.hid (by rw [List.getElem?_map, hpf]; rfl)
        have hfm := List.mem_of_getElem? hpf
        have HFM := Lib.hid hfm
        have hfn := HCAP.out f hfm
        have hpl : (p : Int) < fs.length := by omega
        obtain ⟨w2, hw2⟩ : ∃ wo : World, wo = wr := ⟨_, rfl⟩
        obtain rfl := hw2
        have HS1 := Lib.hid (HS.out.below (below_new w2 (.cells #[.string f.name, .int .i64 f.line, .int .i64 f.params, .bool f.rest, .slice f.va f.vars.length f.vc, .slice f.ua f.ups.length f.uc, .slice f.na f.ns.length f.nc] 47)))
        have HM1 := Lib.hid (HM.out.alloc (.cells #[.string f.name, .int .i64 f.line, .int .i64 f.params, .bool f.rest, .slice f.va f.vars.length f.vc, .slice f.ua f.ups.length f.uc, .slice f.na f.ns.length f.nc] 47))
        clear hpf hfm HM HS
        go_wp2
        clear c0 c1 c2 c3 c4 c5 c6 hb
        go_loopw [25] (fun v wx => ∃ (q : Nat) (D2 : DataW H), q ≤ f.ns.length ∧ v = .int .i64 q ∧ Hid (wx.ownsMap Try.prog 3 (plainElem Try.prog 4) mb (linesL ((fs.map LF.fd).take p) ++ linesN ((f.ns.map LN.nd).take q)).length D2) ∧ Hid (SetIs D2 (linesL ((fs.map LF.fd).take p) ++ linesN ((f.ns.map LN.nd).take q))) ∧ Hid (Ms w (.slice (some ⟨b, off, none⟩) fs.length c) wx)) (fun v _ => f.ns.length - (intOf v).toNat)
        case atStart => exact ⟨0, D, Nat.zero_le _, rfl, by simpa [linesN] using HM1, by simpa [linesN] using HSI, HS1⟩
        case round =>
          clear HS1 HM1 HSI
          obtain ⟨q, D2, hq, rfl, HM2, HSI2, HS2⟩ := hrel
          by_cases hql : q < f.ns.length
          · obtain ⟨l, hl⟩ : ∃ l, f.ns[q]? = some l := ⟨_, List.getElem?_eq_getElem hql⟩
            obtain ⟨b3, off3, hna, hlo3, hb3, d0, d1, d2, d3, d4, d5, d6, d7, hok⟩ := rdN_at ((HH.out.2 f HFM.out).2.2.below HS2.out.bel) hl
            have HTK := Lib.hid (linesN_take (f.ns.map LN.nd) q l.nd (nd_at hl))
            have hqi : (q : Int) < f.ns.length := by omega
            rw [hna]
            obtain ⟨w4, hw4⟩ : ∃ wo : World, wo = wr := ⟨_, rfl⟩
            obtain rfl := hw4
            have HS5 := Lib.hid (HS2.out.below (below_new w4 (.cells #[.int .i64 l.nd.kind, .int .i64 l.nd.line, .int .i64 l.nd.op, .int .i64 l.nd.num, .float .f64 l.nd.flt, .string l.nd.str, .slice l.ra l.nd.refs.length l.rc, .slice l.ka l.nd.kids.length l.kc] 52)))
            have HM5 := Lib.hid (HM2.out.alloc (.cells #[.int .i64 l.nd.kind, .int .i64 l.nd.line, .int .i64 l.nd.op, .int .i64 l.nd.num, .float .f64 l.nd.flt, .string l.nd.str, .slice l.ra l.nd.refs.length l.rc, .slice l.ka l.nd.kids.length l.kc] 52))
            have hsub : ∀ x ∈ linesN ((f.ns.map LN.nd).take (q + 1)), x ∈ linesL (fs.map LF.fd) := fun x hx => by
              unfold linesL
              refine List.mem_flatMap.2 ⟨f.fd, List.mem_map_of_mem HFM.out, ?_⟩
              unfold linesN at hx ⊢
              obtain ⟨n, hn, rfl⟩ := List.mem_map.1 hx
              obtain ⟨hn, hl⟩ := List.mem_filter.1 hn
              exact List.mem_map_of_mem (List.mem_filter.2 ⟨List.mem_of_mem_take hn, hl⟩)
            have hcnt : (linesL ((fs.map LF.fd).take p) ++ linesN ((f.ns.map LN.nd).take q)).length < maxLen := by
              have h2 := linesL_len ((fs.map LF.fd).take (p + 1))
              rw [linesL_take _ _ _ HPF.out] at h2
              have h3 := totN_take fs (p + 1)
              have h4 := HTN.out
              have h5 : (linesN ((f.ns.map LN.nd).take q)).length ≤ (linesN f.fd.nodes).length := by
                unfold linesN
                rw [List.length_map, List.length_map]
                exact (((List.take_sublist _ _).filter _).length_le)
              rw [List.length_append] at h2 ⊢
              unfold maxLen
              omega
            have HSUB := Lib.hid hsub
            clear hl hna hok hlo3 HS2 hsub
            obtain ⟨st, hst⟩ : ∃ st, st = isStat l.nd.kind := ⟨_, rfl⟩
            have HST := Lib.hid hst
            cases st with
            | false =>
              have HNO : Hid (lineN l.nd = false) := Lib.hid (by unfold lineN; rw [← HST.out]; rfl)
              have HEQ : Hid (linesN ((f.ns.map LN.nd).take (q + 1)) = linesN ((f.ns.map LN.nd).take q)) := Lib.hid (by rw [HTK.out, HNO.out]; simp)
              clear hst hcnt
              go_wp2_with (go_at_call 32; refine (istat_any _ _).mono ?_; rintro e w1 ⟨rfl, rfl⟩; rw [← HST.out])
              exact ⟨⟨q + 1, D2, by omega, by go_num, by rw [HEQ.out]; exact HM5, by rw [HEQ.out]; exact HSI2, HS5⟩, by simp [intOf]; omega⟩
            | true =>
              clear hst
              by_cases k1 : l.nd.kind = 1
              · have e1 : (l.nd.kind != 1) = false := by rw [k1]; rfl
                have HNO : Hid (lineN l.nd = false) := Lib.hid (by unfold lineN; rw [e1, Bool.and_false])
                have HEQ : Hid (linesN ((f.ns.map LN.nd).take (q + 1)) = linesN ((f.ns.map LN.nd).take q)) := Lib.hid (by rw [HTK.out, HNO.out]; simp)
                clear k1 hcnt
                go_wp2_with (go_at_call 32; refine (istat_any _ _).mono ?_; rintro e w1 ⟨rfl, rfl⟩; rw [← HST.out])
                exact ⟨⟨q + 1, D2, by omega, by go_num, by rw [HEQ.out]; exact HM5, by rw [HEQ.out]; exact HSI2, HS5⟩, by simp [intOf]; omega⟩
              · have e1 : (l.nd.kind != 1) = true := by simpa using k1
                have HNO : Hid (lineN l.nd = true) := Lib.hid (by unfold lineN; rw [← HST.out, e1]; rfl)
                have HEQ : Hid (linesN ((f.ns.map LN.nd).take (q + 1)) = linesN ((f.ns.map LN.nd).take q) ++ [l.nd.line]) := Lib.hid (by rw [HTK.out, HNO.out]; rfl)
                have hwf : (kI l.nd.line).wf = true := HWF.out _ (HSUB.out _ (by rw [HEQ.out]; simp))
                have hkey := keyI hwf
                have HSI3 := Lib.hid (set_step (x := l.nd.line) HM2.out.isMap HSI2.out hwf (.lit (.bool true)))
                have hmo := HM5.out
                have hval : (plainElem Try.prog 4) (Value.bool true) = some ((.lit (.bool true) : DataW H), []) := plainElem_bool Try.underlying4 true
                clear k1 hwf
                go_wp2_with (first
                  | (go_at_call 32; refine (istat_any _ _).mono ?_; rintro e w1 ⟨rfl, rfl⟩; rw [← HST.out])
                  | (at_mapUpdate; refine wpList_mapUpdate_own _ rfl _ _ _ 56 rfl 3 4 law3k Try.underlying56 (plainElem Try.prog 4) mb _ D2 rfl hmo hcnt _ _ (kI l.nd.line) rfl rfl hkey (.lit (.bool true)) [] hval ?_; intro w7 hown7 hgrow7))
                have HM7 : Hid (w7.ownsMap Try.prog 3 (plainElem Try.prog 4) mb (linesL ((fs.map LF.fd).take p) ++ linesN ((f.ns.map LN.nd).take (q + 1))).length (D2.put (kI l.nd.line) (.lit (.bool true)))) := Lib.hid (by
                  rw [HEQ.out, ← List.append_assoc, List.length_append]
                  exact hown7)
                have HS7 : Hid (Ms w (.slice (some ⟨b, off, none⟩) fs.length c) w7) := Lib.hid ⟨(hgrow7.block _ HS5.out.ub.lt (by simp; omega)).trans HS5.out.ub, HS5.out.bel.grown hgrow7 HS5.out.bel.size (fun j hj => by cases hj; omega)⟩
                have HSI7 : Hid (SetIs (D2.put (kI l.nd.line) (.lit (.bool true))) (linesL ((fs.map LF.fd).take p) ++ linesN ((f.ns.map LN.nd).take (q + 1)))) := Lib.hid (by
                  rw [HEQ.out, ← List.append_assoc]
                  exact HSI3.out)
                clear hown7 hgrow7
                go_wp2
                exact ⟨⟨q + 1, _, by omega, by go_num, HM7, HSI7, HS7⟩, by simp [intOf]; omega⟩
          · have hqq : q = f.ns.length := by omega
            have HEQ : Hid ((linesL ((fs.map LF.fd).take p) ++ linesN ((f.ns.map LN.nd).take q)) = linesL ((fs.map LF.fd).take (p + 1))) := Lib.hid (by
              rw [linesL_take _ _ _ HPF.out, hqq, ← List.length_map (f := LN.nd), List.take_length]; rfl)
            rw [HEQ.out] at HM2 HSI2
            go_wp2
            exact ⟨⟨p + 1, D2, by omega, by go_num, HM2, HSI2, HS2⟩, by simp [intOf]; omega⟩
      · have hpp : p = fs.length := by omega
        have HEQ : Hid (linesL ((fs.map LF.fd).take p) = linesL (fs.map LF.fd)) := Lib.hid (by rw [hpp, ← List.length_map (f := LF.fd), List.take_length])
        rw [HEQ.out] at HM HSI
        obtain ⟨N, hN⟩ : ∃ N, N = (linesL (fs.map LF.fd)).length := ⟨_, rfl⟩
        have hNl : N ≤ 1048576 := by have := linesL_len (fs.map LF.fd); have := HTN.out; omega
        rw [← hN] at HM
        have HNN := Lib.hid hN
        obtain ⟨W, hW⟩ : ∃ W, W = wr := ⟨wr, rfl⟩
        subst hW
        have hown1 := HM.out
        have hlo1 := HM.out.lt
        have hsz1 := HM.out.size_le
        clear hN hpp HM
        go_wp2_with (first
          | (at_range; refine wpList_range_own _ rfl _ 56 rfl 3 4 law3k Try.underlying56 _ mb N D rfl hown1 ?_; intro w0 hrg0 hg0 hs0)
          | go_in)
        go_frame
        have HB0 := Lib.hid (HS.out.bel.grown hg0 HS.out.bel.size (fun j hj => by cases hj))
        clear hown1 hg0
        go_loopw [8] (fun v wx => ∃ (left : Lit → Bool) (cnt : Nat) (acc : List Int), Hid (wx.ranges Try.prog 3 (plainElem Try.prog 4) mb W.heap.size N D left cnt) ∧ acc.length + cnt ≤ Maps.size D ∧ Hid (OwI wx (W.heap.size + 1) v acc) ∧ Hid (DoneI acc D left) ∧ Hid (Below w.heap.size w wx) ∧ W.heap.size + 1 ≤ wx.heap.size) (fun _ wx => wx.rangeLeft mb W.heap.size)
        case atStart => exact ⟨_, _, [], Lib.hid hrg0, by simp, Lib.hid (World.ownsRow_nil _ _ _ _), Lib.hid (DoneI.start D), HB0, by omega⟩
        case round =>
          obtain ⟨left, cnt, acc, hrg, hcs, how, hdn, hbel, hsz⟩ := hrel
          clear hrg0 HB0 hs0 HS
          obtain ⟨wa, hwa⟩ : ∃ wo : World, wo = wr := ⟨_, rfl⟩
          obtain rfl := hwa
          obtain ⟨va, vc, rfl, -, -⟩ := ow_rd (enc := encI) (fun _ => rfl) how.out
          have hrg' := hrg.out
          go_wp2_with (first
            | (at_next; go_loud (refine wpList_next_ranges _ rfl _ rfl 3 law3k (plainElem Try.prog 4) (Value.int .i64) (fun u : Value => u) (fun key kl hk => by obtain ⟨x, rfl, _⟩ := Maps.keyOf_int_inv Try.underlying3 hk; exact ⟨x, rfl⟩) (fun u y hu => ⟨u, rfl⟩) mb W.heap.size N D left cnt rfl hrg' ?_ ?_))
            | go_in)
          · intro hc0 hl0
            have hmem := doneI_is hdn.out hl0 HSI.out HWF.out
            have HSO := Lib.hid (sorted_is hdn.out.once hmem)
            clear hrg' hmem
            by_cases ha0 : acc.length = 0
            · have hnil : acc = [] := List.eq_nil_of_length_eq_zero ha0
              subst hnil
              go_wp2_with fail
              refine (Try.sort_Ints_none va vc _).mono ?_
              rintro e w8 ⟨rfl, rfl⟩
              have HE0 : Hid (linesS (fs.map LF.fd) = []) := Lib.hid (by rw [HLS.out, ← HSO.out]; simp)
              go_wp2
              go_ret
              rw [HE0.out]
              exact ⟨va, vc, rfl, fun h0 => absurd h0 (by simp), fun h0 => absurd h0 (by simp), hbel.out⟩
            · have how1 := how.out
              unfold OwI at how1
              rcases how1.2 with ⟨hnil, hxs⟩ | ⟨g, cap, cur, ev, hbase, hb, k1, k2, k3, k4⟩
              · exact absurd hxs ha0
              · injection ev with ev1 _ ev2
                subst ev1; subst ev2
                have hH : Holds (Value.int .i64) wa g 0 acc.toArray := holds_of_blockI hb (by rw [← flat_encI]; rw [Nat.mul_one] at k4; first | exact k4 | exact k4.symm)
                have hgl := (Array.getElem?_eq_some_iff.1 hb).1
                have hal : acc.length < 4611686018427387904 := by omega
                go_wp2_with fail
                refine (Try.sort_Ints g 0 _ acc wa hH hgl hal).mono ?_
                rintro e w8 ⟨rfl, nn, os, rfl⟩
                have hlen : (acc.mergeSort fun x y => decide (x ≤ y)).length = acc.length := by simp
                have hrow := ownsRow_sortedI (n := nn) (os := os) hlen hbase hb k1 k2 k3
                have hgr : World.grownBy wa (grow (putRow (Value.int .i64) (Sort.ahead wa nn) g 0 (acc.mergeSort fun x y => decide (x ≤ y)).toArray) os) (some g) := grownBy_sortedI _
                have HBZ := Lib.hid (hbel.out.grown hgr hbel.out.size (fun j hj => by cases hj; omega))
                rw [HSO.out, ← HLS.out] at hrow hlen HBZ
                rw [HSO.out, ← HLS.out]
                rw [← flat_encI, ← hlen] at hrow
                obtain ⟨A9, c9, e9, hr9, hw9⟩ := ow_rd (enc := encI) (fun _ => rfl) hrow
                injection e9 with e91 _ e92
                have HR9 := Lib.hid (hr9.lower (show w.heap.size ≤ W.heap.size + 1 by omega))
                have HW9 := Lib.hid (Wr.lower hw9 (show w.heap.size ≤ W.heap.size + 1 by omega))
                have HLEN := Lib.hid hlen
                clear hrow hgr hH hb k4 how1 hr9 hw9 hlen
                go_wp2
                go_ret
                exact ⟨A9, c9, by rw [HLEN.out]; rfl, HR9.out, HW9.out, HBZ.out⟩
          · intro x cc kl yd yp w1' cnt1 hkx hlx hv hat hrg1 hlt1 hg1 hs1 hen
            obtain ⟨x', ex, rfl, hwx⟩ := Maps.keyOf_int_inv Try.underlying3 hkx
            cases ex
            have HD := Lib.hid (hdn.out.step hwx hlx (has_true_of_atKey hat))
            have hrow1 : OwI w1' (W.heap.size + 1) (.slice va acc.length vc) acc := (But.of_grown hg1).row how.out (fun g hg e => by injection e with e; omega)
            have HL1 := Lib.hid (hbel.out.grown hg1 hbel.out.size (fun j hj => by cases hj; omega))
            have hsz1' : W.heap.size + 1 ≤ w1'.heap.size := by omega
            have HRG := Lib.hid hrg1
            have HN := Lib.hid (new_at1 w1' (.int .i64 x) 3 w1'.heap.size rfl)
            have HR := Lib.hid (World.ownsRow.alloc hrow1 (.cells #[.int .i64 x] 3))
            obtain ⟨i3, hi3, hy0, hy1, hy2⟩ := info_parts info3'
            have hleft := hrg.out.left_eq
            have HLT : Hid (cnt1 < cnt) := Lib.hid hlt1
            clear hkx hlx hv hat hdn hbel how hrg' hrg1 hg1 hs1 hrow1
            go_wp2_with (at_builtin; refine wpList_append_own_at _ rfl _ _ 36 rfl (W.heap.size + 1) 3 i3 (.int .i64 0) 1 8 Try.underlying36 hi3 hy0 hy1 hy2 rfl (by decide) _ _ _ rfl HR.out ⟨w1'.heap.size, 0, none⟩ 1 1 [.int .i64 x] rfl rfl HN.out (encI_one x) (by unfold maxLen; omega) (by omega) (by simp; omega) ?_; intro v2 w9 hown9 hgrow9 _ _; refine Hid.out ?_)
            refine Lib.hid ?_
            have HO9 : Hid (OwI w9 (W.heap.size + 1) v2 (acc ++ [x])) := Lib.hid (owI_push hown9)
            have hk9 := But.of_grown hgrow9
            have hin : ∀ g, (Value.slice va acc.length vc).ownBlock = some g → W.heap.size + 1 ≤ g := fun g hg => (own_in HR.out hg).1
            have hrl := ranges_ltI HRG.out
            have HRG9 : Hid (w9.ranges Try.prog 3 (plainElem Try.prog 4) mb W.heap.size N D (fun z => left z && !z.sameKey (kI x)) cnt1) := Lib.hid (ranges_ofI HRG.out
              ((hk9.block _ (by simp; omega) (fun e => by have := hin _ e; omega)).trans (Below.heap_alloc _ _ _ hrl.1)) ((hk9.block _ (by simp; omega) (fun e => by have := hin _ e; omega)).trans (Below.heap_alloc _ _ _ hrl.2)))
            have HL9 : Hid (Below w.heap.size w w9) := Lib.hid ((HL1.out.alloc HL1.out.size (.cells #[.int .i64 x] 3)).trans (hk9.below (fun g hg => by have := hin _ hg; omega) (by simp; omega)))
            have hsz9 : W.heap.size + 1 ≤ w9.heap.size := by have := hk9.size; simp at this; omega
            clear hown9 hgrow9 hk9 hin HR HN hrl
            obtain ⟨v9a, v9c, rfl, -, -⟩ := ow_rd (enc := encI) (fun _ => rfl) HO9.out
            go_wp2
            refine ⟨⟨_, cnt1, acc ++ [x], HRG9, by rw [List.length_append]; have := HLT.out; simp; omega, HO9, HD, HL9, hsz9⟩, ?_⟩
            rw [HRG9.out.left_eq, hleft]
            exact HLT.out
  · have HLS : Hid (linesS (fs.map LF.fd) = []) := Lib.hid (by unfold linesS; rw [← HX.out, if_neg h1])
    have e1 : (x1 == 0) = false := beq_eq_false_iff_ne.2 h1
    rw [← hx] at he1
    subst he1
    unfold fltV
    dsimp only
    clear h1 hx
    go_wp2
    go_ret
    rw [HLS.out]
    exact ⟨none, 0, rfl, RdL.nil, fun h0 => absurd h0 (by simp), HB1.out⟩
end Go.Proofs.Ytcpjplkbmflglaa
