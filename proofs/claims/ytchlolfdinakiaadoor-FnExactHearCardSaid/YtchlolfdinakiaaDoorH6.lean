/- Hear of the reference. -/
import Derived.Test.YtchlolfdinakiaaDoorH5
namespace Go.Proofs.YtchlolfdinakiaaDoor
open Go.RowKit
attribute [local go_sem] run_store_float

/-- At the head of the loop over records. -/
structure S1 (A : Option Addr) (c : Nat) (l : List UInt8) (lo : Nat) (w : World) (code ticks made : Int) (p : Nat) (bad : Bool) (n : Int) (ps : List Rc) (rv : Value) (wr : World) : Prop where
  env : Env A l lo w.heap.size w wr
  rdr : Blk wr (w.heap.size + 1) 68 #[.slice A l.length c, .int .i64 (p : Int), .bool bad]
  out : Blk wr (w.heap.size + 1 + 1) 39 #[.int .i64 code, rv, .slice none 0 0, .string ⟨#[]⟩, .string ⟨#[]⟩, .int .i64 ticks, .int .i64 made]
  row : OwR wr (w.heap.size + 1 + 1 + 1) rv ps
  trk : Trk l p bad (tlR ps.length) (HR code ticks made ps n)
  wt : bad = false → ps.length + totW wR ps ≤ p
  pl : p ≤ l.length
  n64 : i64 n
  pn : ps.length ≤ l.length + 1
  ok : okS ps
/-- At the head of the loop over values. -/
structure S2 (A : Option Addr) (c : Nat) (l : List UInt8) (lo : Nat) (w : World) (code ticks made : Int) (p : Nat) (bad : Bool) (n : Int) (ps : List Rc) (rv : Value) (vs : List ByteArray) (sv : Value) (wr : World) : Prop where
  env : Env A l lo w.heap.size w wr
  rdr : Blk wr (w.heap.size + 1) 68 #[.slice A l.length c, .int .i64 (p : Int), .bool bad]
  out : Blk wr (w.heap.size + 1 + 1) 39 #[.int .i64 code, rv, sv, .string ⟨#[]⟩, .string ⟨#[]⟩, .int .i64 ticks, .int .i64 made]
  rowR : OwR wr (w.heap.size + 1 + 1 + 1) rv ps
  rowS : OwS wr (w.heap.size + 1 + 1 + 1) sv vs
  trk : Trk l p bad (tlV vs.length) (HV code ticks made ps vs n)
  wt : bad = false → ps.length + totW wR ps + vs.length + totS vs ≤ p
  pl : p ≤ l.length
  n64 : i64 n
  pn : ps.length ≤ l.length + 1
  pv : vs.length ≤ l.length + 1
  ok : okS ps
def RpH (w : World) (l : List UInt8) (e : Ending) (w' : World) : Prop := ∃ (r : Rp) (A : Option Addr) (c : Nat) (A' : Option Addr) (c' : Nat), e = .returned (.agg #[.int .i64 r.code, .slice A r.recs.length c, .slice A' r.vals.length c', .string r.err, .string r.trace, .int .i64 r.ticks, .int .i64 r.made]) ∧ HearIs l r ∧ RdL encR 5 w' w.heap.size A r.recs ∧ RdL encS 1 w' w.heap.size A' r.vals ∧ Wr w' w.heap.size A r.recs.length 5 62 ∧ Wr w' w.heap.size A' r.vals.length 1 9 ∧ r.recs.length ≤ 1048576 ∧ r.vals.length ≤ 1048576 ∧ Below w.heap.size w w'
theorem rpH_zero {w w' : World} {l : List UInt8} (h : HearIs l zeroRp) (hb : Below w.heap.size w w') : RpH w l (.returned (.agg #[.int .i64 0, .slice none 0 0, .slice none 0 0, .string ⟨#[]⟩, .string ⟨#[]⟩, .int .i64 0, .int .i64 0])) w' :=
  ⟨zeroRp, none, 0, none, 0, rfl, h, RdL.nil, RdL.nil, (fun h0 => absurd h0 (by decide)), (fun h0 => absurd h0 (by decide)), by decide, by decide, hb⟩
set_option maxRecDepth 100000 in
set_option maxHeartbeats 4000000 in
theorem shear_small (A : Option Addr) (c : Nat) (l : List UInt8) (w : World) (lo : Nat) (hb : RdL encB 1 w lo A l) (hA : ∀ b o, A = some ⟨b, o, none⟩ → b < w.heap.size) (hl : l.length ≤ 1000000) (hcap : l.length ≤ c) (hcm : c ≤ maxLen) :
    Calls Tryd.prog 19 #[.slice A l.length c] w (RpH w l) := by
  obtain ⟨i0, hi, hz0, hz1, hz2⟩ := info_parts info39
  obtain ⟨i9, hi9, hz90, hz91, hz92⟩ := info_parts info9
  have hl1 : ¬ (1000000 : Int) < l.length := by omega
  have hres := Blk.new w 39 #[.int .i64 0, .slice none 0 0, .slice none 0 0, .string ⟨#[]⟩, .string ⟨#[]⟩, .int .i64 0, .int .i64 0]
  have e0 : Env A l lo w.heap.size w (((w.alloc (.cells #[.int .i64 0, .slice none 0 0, .slice none 0 0, .string ⟨#[]⟩, .string ⟨#[]⟩, .int .i64 0, .int .i64 0] 39)).alloc (.cells #[.slice A l.length c, .int .i64 0, .bool false] 68)).alloc (.cells #[.int .i64 0, .slice none 0 0, .slice none 0 0, .string ⟨#[]⟩, .string ⟨#[]⟩, .int .i64 0, .int .i64 0] 39)) := ((⟨below_new _ _, hb.alloc _, hres⟩ : Env A l lo w.heap.size w (w.alloc (.cells #[.int .i64 0, .slice none 0 0, .slice none 0 0, .string ⟨#[]⟩, .string ⟨#[]⟩, .int .i64 0, .int .i64 0] 39))).alloc _).alloc _
  have r0 := (Blk.new (w.alloc (.cells #[.int .i64 0, .slice none 0 0, .slice none 0 0, .string ⟨#[]⟩, .string ⟨#[]⟩, .int .i64 0, .int .i64 0] 39)) 68 #[.slice A l.length c, .int .i64 0, .bool false]).alloc (.cells #[.int .i64 0, .slice none 0 0, .slice none 0 0, .string ⟨#[]⟩, .string ⟨#[]⟩, .int .i64 0, .int .i64 0] 39)
  have o0 := Blk.new ((w.alloc (.cells #[.int .i64 0, .slice none 0 0, .slice none 0 0, .string ⟨#[]⟩, .string ⟨#[]⟩, .int .i64 0, .int .i64 0] 39)).alloc (.cells #[.slice A l.length c, .int .i64 0, .bool false] 68)) 39 #[.int .i64 0, .slice none 0 0, .slice none 0 0, .string ⟨#[]⟩, .string ⟨#[]⟩, .int .i64 0, .int .i64 0]
  simp only [World.size_alloc] at r0 o0
  have env_0 := Lib.hid e0
  have rdr_0 := Lib.hid r0
  have out_0 := Lib.hid o0
  clear hb hres e0 r0 o0
  go_enter Tryd.func19, Tryd.ntmps19
  go_wp2_with fail
  refine (rnum_any A c l _ _ (w.heap.size + 1) _ lo env_0.out.rd rdr_0.out (fun b o e => by have := hA b o e; omega) hl (Nat.zero_le _)).mono ?_
  rintro e w1 ⟨code, p1, b1, rfl, hr, hblk, hk⟩
  have env_1 := Lib.hid (env_0.out.but hA hk (fun k e => ⟨by omega, by omega⟩))
  have out_1 := Lib.hid (hk.blk out_0.out (fun e => by omega))
  have rdr_1 := Lib.hid hblk
  have pl1 := hr.2.2.1
  have hr1 := Lib.hid hr
  have n1 := hr.1
  clear hr hblk hk env_0 out_0 rdr_0
  obtain ⟨y0, y1, y2, y3, y4, y5, y6⟩ := box7 out_1.out
  have fo := out_1.out.frozen 0
  go_wp2_with fail
  have hset : But (fun x => x = (w.heap.size + 1 + 1)) w1 (w1.setCell ⟨(w.heap.size + 1 + 1), 0, none⟩ (.int .i64 code)) := (But.refl (fun x => x = (w.heap.size + 1 + 1)) _).set rfl _ _
  have env_1s := Lib.hid (env_1.out.but hA hset (fun k e => ⟨by omega, by omega⟩))
  have rdr_1s := Lib.hid (hset.blk rdr_1.out (fun e => by omega))
  have out_1s : Hid (Blk (w1.setCell ⟨(w.heap.size + 1 + 1), 0, none⟩ (.int .i64 code)) (w.heap.size + 1 + 1) 39 #[.int .i64 code, .slice none 0 0, .slice none 0 0, .string ⟨#[]⟩, .string ⟨#[]⟩, .int .i64 0, .int .i64 0]) := Lib.hid (out_1.out.set_ 0 (.int .i64 code))
  clear hset fo y0 y1 y2 y3 y4 y5 y6 env_1 out_1 rdr_1
  refine (rnum_any A c l _ _ (w.heap.size + 1) _ lo env_1s.out.rd rdr_1s.out (fun b o e => by have := hA b o e; omega) hl pl1).mono ?_
  rintro e w2 ⟨ticks, p2, b2, rfl, hr, hblk, hk⟩
  have env_2 := Lib.hid (env_1s.out.but hA hk (fun k e => ⟨by omega, by omega⟩))
  have out_2 := Lib.hid (hk.blk out_1s.out (fun e => by omega))
  have rdr_2 := Lib.hid hblk
  have pl2 := hr.2.2.1
  have hr2 := Lib.hid hr
  have n2 := hr.1
  clear hr hblk hk env_1s out_1s rdr_1s
  obtain ⟨y0, y1, y2, y3, y4, y5, y6⟩ := box7 out_2.out
  have fo := out_2.out.frozen 5
  go_wp2_with fail
  have hset : But (fun x => x = (w.heap.size + 1 + 1)) w2 (w2.setCell ⟨(w.heap.size + 1 + 1), 5, none⟩ (.int .i64 ticks)) := (But.refl (fun x => x = (w.heap.size + 1 + 1)) _).set rfl _ _
  have env_2s := Lib.hid (env_2.out.but hA hset (fun k e => ⟨by omega, by omega⟩))
  have rdr_2s := Lib.hid (hset.blk rdr_2.out (fun e => by omega))
  have out_2s : Hid (Blk (w2.setCell ⟨(w.heap.size + 1 + 1), 5, none⟩ (.int .i64 ticks)) (w.heap.size + 1 + 1) 39 #[.int .i64 code, .slice none 0 0, .slice none 0 0, .string ⟨#[]⟩, .string ⟨#[]⟩, .int .i64 ticks, .int .i64 0]) := Lib.hid (out_2.out.set_ 5 (.int .i64 ticks))
  clear hset fo y0 y1 y2 y3 y4 y5 y6 env_2 out_2 rdr_2
  refine (rnum_any A c l _ _ (w.heap.size + 1) _ lo env_2s.out.rd rdr_2s.out (fun b o e => by have := hA b o e; omega) hl pl2).mono ?_
  rintro e w3 ⟨made, p3, b3, rfl, hr, hblk, hk⟩
  have env_3 := Lib.hid (env_2s.out.but hA hk (fun k e => ⟨by omega, by omega⟩))
  have out_3 := Lib.hid (hk.blk out_2s.out (fun e => by omega))
  have rdr_3 := Lib.hid hblk
  have pl3 := hr.2.2.1
  have hr3 := Lib.hid hr
  have n3 := hr.1
  clear hr hblk hk env_2s out_2s rdr_2s
  obtain ⟨y0, y1, y2, y3, y4, y5, y6⟩ := box7 out_3.out
  have fo := out_3.out.frozen 6
  go_wp2_with fail
  have hset : But (fun x => x = (w.heap.size + 1 + 1)) w3 (w3.setCell ⟨(w.heap.size + 1 + 1), 6, none⟩ (.int .i64 made)) := (But.refl (fun x => x = (w.heap.size + 1 + 1)) _).set rfl _ _
  have env_3s := Lib.hid (env_3.out.but hA hset (fun k e => ⟨by omega, by omega⟩))
  have rdr_3s := Lib.hid (hset.blk rdr_3.out (fun e => by omega))
  have out_3s : Hid (Blk (w3.setCell ⟨(w.heap.size + 1 + 1), 6, none⟩ (.int .i64 made)) (w.heap.size + 1 + 1) 39 #[.int .i64 code, .slice none 0 0, .slice none 0 0, .string ⟨#[]⟩, .string ⟨#[]⟩, .int .i64 ticks, .int .i64 made]) := Lib.hid (out_3.out.set_ 6 (.int .i64 made))
  clear hset fo y0 y1 y2 y3 y4 y5 y6 env_3 out_3 rdr_3
  refine (rnum_any A c l _ _ (w.heap.size + 1) _ lo env_3s.out.rd rdr_3s.out (fun b o e => by have := hA b o e; omega) hl pl3).mono ?_
  rintro e w4 ⟨n0, p4, b4, rfl, hr, hblk, hk⟩
  have env_4 := Lib.hid (env_3s.out.but hA hk (fun k e => ⟨by omega, by omega⟩))
  have out_4 := Lib.hid (hk.blk out_3s.out (fun e => by omega))
  have rdr_4 := Lib.hid hblk
  have pl4 := hr.2.2.1
  have hr4 := Lib.hid hr
  have n4 := hr.1
  clear hr hblk hk env_3s out_3s rdr_3s
  have ht4 := trk_head hr1.out hr2.out hr3.out hr4.out
  have s4 : S1 A c l lo w code ticks made p4 b4 n0 [] (.slice none 0 0) w4 := ⟨env_4.out, rdr_4.out, out_4.out, World.ownsRow_nil _ _ _ _, ht4, fun _ => Nat.zero_le _, pl4, n4, Nat.zero_le _, (fun x hx => by cases hx)⟩
  have hs4 := Lib.hid s4
  clear s4 ht4 env_4 rdr_4 out_4 hr1 hr2 hr3 hr4 pl1 pl2 pl3 pl4 n4
  have HI := Lib.hid (And.intro n1 (And.intro n2 n3))
  clear n1 n2 n3
  go_upto_block 0 with fail
  go_cut [5] (fun n wc => ∃ (p : Nat) (bad : Bool) (N : Int) (ps : List Rc) (rv : Value), n = .int .i64 N ∧ S1 A c l lo w code ticks made p bad N ps rv wc ∧ (N ≤ 0 ∨ bad = true))
  case first =>
    clear hl1
    go_wp2_with fail
    go_loopw [5] (fun n wr => ∃ (p : Nat) (bad : Bool) (N : Int) (ps : List Rc) (rv : Value), n = .int .i64 N ∧ Hid (S1 A c l lo w code ticks made p bad N ps rv wr)) (fun _ wr => rdM l.length (w.heap.size + 1) wr)
    case atStart => exact ⟨p4, b4, n0, [], _, rfl, hs4⟩
    case round =>
      obtain ⟨p, bad, N, ps, rv, rfl, hS⟩ := hrel
      clear hs4
      obtain ⟨x0, x1, x2⟩ := box3 hS.out.rdr
      have hN64 := hS.out.n64
      by_cases hN : 0 < N
      · cases bad with
        | true =>
          go_wp2_with fail
          go_meet
          exact ⟨p, true, N, ps, rv, rfl, hS.out, .inr rfl⟩
        | false =>
            have env_r := Lib.hid hS.out.env
            have out_r := Lib.hid hS.out.out
            have rdr_r := Lib.hid hS.out.rdr
            have rowR_r := Lib.hid hS.out.row
            have plr := hS.out.pl
            have hsz := hS.out.rdr.lt
            have hszo := hS.out.out.lt
            go_wp2_with fail
            have env_a := Lib.hid (env_r.out.alloc (.cells #[.int .i64 0, .int .i64 0, .int .i64 0, .int .i64 0, .string ⟨#[]⟩] 62))
            have out_a := Lib.hid (out_r.out.alloc (.cells #[.int .i64 0, .int .i64 0, .int .i64 0, .int .i64 0, .string ⟨#[]⟩] 62))
            have rdr_a := Lib.hid (rdr_r.out.alloc (.cells #[.int .i64 0, .int .i64 0, .int .i64 0, .int .i64 0, .string ⟨#[]⟩] 62))
            have rowR_a := Lib.hid (World.ownsRow.alloc rowR_r.out (.cells #[.int .i64 0, .int .i64 0, .int .i64 0, .int .i64 0, .string ⟨#[]⟩] 62))
            have x_a := Lib.hid (Blk.new wr 62 #[.int .i64 0, .int .i64 0, .int .i64 0, .int .i64 0, .string ⟨#[]⟩])
            clear env_r out_r rdr_r rowR_r x0 x1 x2
            have HGR := Lib.hid (fun g hg => (World.ownsRow.lt (w := wr) hS.out.row g hg).2)
            refine (rnum_any A c l _ _ (w.heap.size + 1) _ lo env_a.out.rd rdr_a.out (fun b o e => by have := hA b o e; omega) hl plr).mono ?_
            rintro e w5 ⟨x1, p5, b5, rfl, hr, hblk, hk⟩
            have env_5 := Lib.hid (env_a.out.but hA hk (fun k e => ⟨by omega, by omega⟩))
            have out_5 := Lib.hid (hk.blk out_a.out (fun e => by omega))
            have rowR_5 := Lib.hid (hk.row rowR_a.out (fun g hg e => by have := (World.ownsRow.lt rowR_a.out g hg).1; have := HGR.out g hg; omega))
            have x_5 := Lib.hid (hk.blk x_a.out (fun e => by omega))
            have rdr_5 := Lib.hid hblk
            have pl5 := hr.2.2.1
            have hr5 := Lib.hid hr
            have n5 := hr.1
            clear hr hblk hk env_a out_a rdr_a rowR_a x_a
            obtain ⟨y0, y1, y2, y3, y4⟩ := box5 x_5.out
            have fo := x_5.out.frozen 0
            go_wp2_with fail
            have hset : But (fun x => x = wr.heap.size) w5 (w5.setCell ⟨wr.heap.size, 0, none⟩ (.int .i64 x1)) := (But.refl (fun x => x = wr.heap.size) _).set rfl _ _
            have env_5s := Lib.hid (env_5.out.but hA hset (fun k e => ⟨by omega, by omega⟩))
            have out_5s := Lib.hid (hset.blk out_5.out (fun e => by omega))
            have rdr_5s := Lib.hid (hset.blk rdr_5.out (fun e => by omega))
            have rowR_5s := Lib.hid (hset.row rowR_5.out (fun g hg e => by have := (World.ownsRow.lt rowR_5.out g hg).1; have := HGR.out g hg; omega))
            have x_5s : Hid (Blk (w5.setCell ⟨wr.heap.size, 0, none⟩ (.int .i64 x1)) wr.heap.size 62 #[.int .i64 x1, .int .i64 0, .int .i64 0, .int .i64 0, .string ⟨#[]⟩]) := Lib.hid (x_5.out.set_ 0 (.int .i64 x1))
            clear hset fo y0 y1 y2 y3 y4 env_5 out_5 rdr_5 rowR_5 x_5
            refine (rnum_any A c l _ _ (w.heap.size + 1) _ lo env_5s.out.rd rdr_5s.out (fun b o e => by have := hA b o e; omega) hl pl5).mono ?_
            rintro e w6 ⟨x2, p6, b6, rfl, hr, hblk, hk⟩
            have env_6 := Lib.hid (env_5s.out.but hA hk (fun k e => ⟨by omega, by omega⟩))
            have out_6 := Lib.hid (hk.blk out_5s.out (fun e => by omega))
            have rowR_6 := Lib.hid (hk.row rowR_5s.out (fun g hg e => by have := (World.ownsRow.lt rowR_5s.out g hg).1; have := HGR.out g hg; omega))
            have x_6 := Lib.hid (hk.blk x_5s.out (fun e => by omega))
            have rdr_6 := Lib.hid hblk
            have pl6 := hr.2.2.1
            have hr6 := Lib.hid hr
            have n6 := hr.1
            clear hr hblk hk env_5s out_5s rdr_5s rowR_5s x_5s
            obtain ⟨y0, y1, y2, y3, y4⟩ := box5 x_6.out
            have fo := x_6.out.frozen 1
            go_wp2_with fail
            have hset : But (fun x => x = wr.heap.size) w6 (w6.setCell ⟨wr.heap.size, 1, none⟩ (.int .i64 x2)) := (But.refl (fun x => x = wr.heap.size) _).set rfl _ _
            have env_6s := Lib.hid (env_6.out.but hA hset (fun k e => ⟨by omega, by omega⟩))
            have out_6s := Lib.hid (hset.blk out_6.out (fun e => by omega))
            have rdr_6s := Lib.hid (hset.blk rdr_6.out (fun e => by omega))
            have rowR_6s := Lib.hid (hset.row rowR_6.out (fun g hg e => by have := (World.ownsRow.lt rowR_6.out g hg).1; have := HGR.out g hg; omega))
            have x_6s : Hid (Blk (w6.setCell ⟨wr.heap.size, 1, none⟩ (.int .i64 x2)) wr.heap.size 62 #[.int .i64 x1, .int .i64 x2, .int .i64 0, .int .i64 0, .string ⟨#[]⟩]) := Lib.hid (x_6.out.set_ 1 (.int .i64 x2))
            clear hset fo y0 y1 y2 y3 y4 env_6 out_6 rdr_6 rowR_6 x_6
            refine (rnum_any A c l _ _ (w.heap.size + 1) _ lo env_6s.out.rd rdr_6s.out (fun b o e => by have := hA b o e; omega) hl pl6).mono ?_
            rintro e w7 ⟨x3, p7, b7, rfl, hr, hblk, hk⟩
            have env_7 := Lib.hid (env_6s.out.but hA hk (fun k e => ⟨by omega, by omega⟩))
            have out_7 := Lib.hid (hk.blk out_6s.out (fun e => by omega))
            have rowR_7 := Lib.hid (hk.row rowR_6s.out (fun g hg e => by have := (World.ownsRow.lt rowR_6s.out g hg).1; have := HGR.out g hg; omega))
            have x_7 := Lib.hid (hk.blk x_6s.out (fun e => by omega))
            have rdr_7 := Lib.hid hblk
            have pl7 := hr.2.2.1
            have hr7 := Lib.hid hr
            have n7 := hr.1
            clear hr hblk hk env_6s out_6s rdr_6s rowR_6s x_6s
            obtain ⟨y0, y1, y2, y3, y4⟩ := box5 x_7.out
            have fo := x_7.out.frozen 2
            go_wp2_with fail
            have hset : But (fun x => x = wr.heap.size) w7 (w7.setCell ⟨wr.heap.size, 2, none⟩ (.int .i64 x3)) := (But.refl (fun x => x = wr.heap.size) _).set rfl _ _
            have env_7s := Lib.hid (env_7.out.but hA hset (fun k e => ⟨by omega, by omega⟩))
            have out_7s := Lib.hid (hset.blk out_7.out (fun e => by omega))
            have rdr_7s := Lib.hid (hset.blk rdr_7.out (fun e => by omega))
            have rowR_7s := Lib.hid (hset.row rowR_7.out (fun g hg e => by have := (World.ownsRow.lt rowR_7.out g hg).1; have := HGR.out g hg; omega))
            have x_7s : Hid (Blk (w7.setCell ⟨wr.heap.size, 2, none⟩ (.int .i64 x3)) wr.heap.size 62 #[.int .i64 x1, .int .i64 x2, .int .i64 x3, .int .i64 0, .string ⟨#[]⟩]) := Lib.hid (x_7.out.set_ 2 (.int .i64 x3))
            clear hset fo y0 y1 y2 y3 y4 env_7 out_7 rdr_7 rowR_7 x_7
            refine (rnum_any A c l _ _ (w.heap.size + 1) _ lo env_7s.out.rd rdr_7s.out (fun b o e => by have := hA b o e; omega) hl pl7).mono ?_
            rintro e w8 ⟨x4, p8, b8, rfl, hr, hblk, hk⟩
            have env_8 := Lib.hid (env_7s.out.but hA hk (fun k e => ⟨by omega, by omega⟩))
            have out_8 := Lib.hid (hk.blk out_7s.out (fun e => by omega))
            have rowR_8 := Lib.hid (hk.row rowR_7s.out (fun g hg e => by have := (World.ownsRow.lt rowR_7s.out g hg).1; have := HGR.out g hg; omega))
            have x_8 := Lib.hid (hk.blk x_7s.out (fun e => by omega))
            have rdr_8 := Lib.hid hblk
            have pl8 := hr.2.2.1
            have hr8 := Lib.hid hr
            have n8 := hr.1
            clear hr hblk hk env_7s out_7s rdr_7s rowR_7s x_7s
            obtain ⟨y0, y1, y2, y3, y4⟩ := box5 x_8.out
            have fo := x_8.out.frozen 3
            go_wp2_with fail
            have hset : But (fun x => x = wr.heap.size) w8 (w8.setCell ⟨wr.heap.size, 3, none⟩ (.int .i64 x4)) := (But.refl (fun x => x = wr.heap.size) _).set rfl _ _
            have env_8s := Lib.hid (env_8.out.but hA hset (fun k e => ⟨by omega, by omega⟩))
            have out_8s := Lib.hid (hset.blk out_8.out (fun e => by omega))
            have rdr_8s := Lib.hid (hset.blk rdr_8.out (fun e => by omega))
            have rowR_8s := Lib.hid (hset.row rowR_8.out (fun g hg e => by have := (World.ownsRow.lt rowR_8.out g hg).1; have := HGR.out g hg; omega))
            have x_8s : Hid (Blk (w8.setCell ⟨wr.heap.size, 3, none⟩ (.int .i64 x4)) wr.heap.size 62 #[.int .i64 x1, .int .i64 x2, .int .i64 x3, .int .i64 x4, .string ⟨#[]⟩]) := Lib.hid (x_8.out.set_ 3 (.int .i64 x4))
            clear hset fo y0 y1 y2 y3 y4 env_8 out_8 rdr_8 rowR_8 x_8
            refine (rtxt_any A c l _ _ (w.heap.size + 1) _ lo env_8s.out.rd rdr_8s.out (fun b o e => by have := hA b o e; omega) hl pl8 hcap hcm).mono ?_
            rintro e w9 ⟨x5, p9, b9, rfl, hr, hblk, hk⟩
            have env_9 := Lib.hid (env_8s.out.but hA hk (fun k e => ⟨by omega, by omega⟩))
            have out_9 := Lib.hid (hk.blk out_8s.out (fun e => by omega))
            have rowR_9 := Lib.hid (hk.row rowR_8s.out (fun g hg e => by have := (World.ownsRow.lt rowR_8s.out g hg).1; have := HGR.out g hg; omega))
            have x_9 := Lib.hid (hk.blk x_8s.out (fun e => by omega))
            have rdr_9 := Lib.hid hblk
            have pl9 := hr.2.2.1
            have hr9 := Lib.hid hr
            clear hr hblk hk env_8s out_8s rdr_8s rowR_8s x_8s
            obtain ⟨y0, y1, y2, y3, y4⟩ := box5 x_9.out
            have fo := x_9.out.frozen 4
            go_upto_region 17 with fail
            obtain ⟨y0, y1, y2, y3, y4⟩ := box5 x_9.out
            have fo := x_9.out.frozen 4
            have hset : But (fun x => x = wr.heap.size) w9 (w9.setCell ⟨wr.heap.size, 4, none⟩ (.string x5)) := (But.refl (fun x => x = wr.heap.size) _).set rfl _ _
            have env_9s := Lib.hid (env_9.out.but hA hset (fun k e => ⟨by omega, by omega⟩))
            have out_9s := Lib.hid (hset.blk out_9.out (fun e => by omega))
            have rdr_9s := Lib.hid (hset.blk rdr_9.out (fun e => by omega))
            have rowR_9s := Lib.hid (hset.row rowR_9.out (fun g hg e => by have := (World.ownsRow.lt rowR_9.out g hg).1; have := HGR.out g hg; omega))
            have x_9s : Hid (Blk (w9.setCell ⟨wr.heap.size, 4, none⟩ (.string x5)) wr.heap.size 62 #[.int .i64 x1, .int .i64 x2, .int .i64 x3, .int .i64 x4, .string x5]) := Lib.hid (x_9.out.set_ 4 (.string x5))
            clear hset fo y0 y1 y2 y3 y4 env_9 out_9 rdr_9 rowR_9 x_9
            generalize w9.setCell ⟨wr.heap.size, 4, none⟩ (.string x5) = wB at *
            obtain ⟨y0, y1, y2, y3, y4⟩ := box5 x_9s.out
            obtain ⟨z0, z1, z2, z3, z4, z5, z6⟩ := box7 out_9s.out
            have hpn := hS.out.pn
            have hBs : w.heap.size + 1 + 1 + 1 ≤ wB.heap.size := by have := x_9s.out.lt; omega
            have hrow := rowR_9s.out
            have hnews : ∀ j u, [Value.int .i64 x1, .int .i64 x2, .int .i64 x3, .int .i64 x4, .string x5][j]? = some u → (wB.alloc (.cells #[.int .i64 x1, .int .i64 x2, .int .i64 x3, .int .i64 x4, .string x5] 62)).cell? ((⟨wB.heap.size, 0, none⟩ : Addr).add j) = some u := fun j u hj => by rw [addr_addH, (Blk.new wB 62 #[.int .i64 x1, .int .i64 x2, .int .i64 x3, .int .i64 x4, .string x5]).cell j]; simpa using hj
            have HNW := Lib.hid hnews
            clear hnews
            go_wp2_with (at_builtin; refine wpList_append_own _ rfl _ _ 37 rfl (w.heap.size + 1 + 1 + 1) 62 i0 _ 5 48 Tryd.underlying37 hi hz0 hz1 hz2 rfl (by decide) _ _ _ rfl (World.ownsRow.alloc hrow _) ⟨wB.heap.size, 0, none⟩ 1 1 [.int .i64 x1, .int .i64 x2, .int .i64 x3, .int .i64 x4, .string x5] rfl rfl HNW.out (by intro u' hu'; simp at hu'; rcases hu' with rfl | rfl | rfl | rfl | rfl <;> rfl) (by unfold maxLen; omega) (by omega) (by simp; omega) ?_; intro v2 w2 hown2 hgrow _; refine Hid.out ?_)
            refine Lib.hid ?_
            have hk2 : But (fun k => rv.ownBlock = some k) wB w2 := (But.of_below (below_new wB _)).trans (But.of_grown hgrow)
            have env_2 := Lib.hid (env_9s.out.but hA hk2 (fun k e => by have := (World.ownsRow.lt hrow k e).1; omega))
            have out_2 := Lib.hid (hk2.blk out_9s.out (row_blk_ne hrow out_9s.out (by decide)))
            have rdr_2 := Lib.hid (hk2.blk rdr_9s.out (row_blk_ne hrow rdr_9s.out (by decide)))
            have hrow2 : OwR w2 (w.heap.size + 1 + 1 + 1) v2 (ps ++ [(⟨x1, x2, x3, x4, x5⟩ : Rc)]) := owR_push (x := (⟨x1, x2, x3, x4, x5⟩ : Rc)) hown2
            obtain ⟨g2, cap2, hv2⟩ : ∃ g2 cap2, v2 = .slice (some ⟨g2, 0, none⟩) (ps.length + 1) cap2 := by
              rcases hown2.2 with ⟨-, h0⟩ | ⟨g, cap, cur, e, -⟩
              · omega
              · exact ⟨g, cap, e⟩
            subst hv2
            have hrow2 := Lib.hid hrow2
            have hlt2 := (World.ownsRow.lt hrow2.out g2 rfl).1
            clear hk2 hown2 hgrow hrow env_9s out_9s rdr_9s rowR_9s x_9s y0 y1 y2 y3 y4 z0 z1 z2 z3 z4 z5 z6 HNW
            obtain ⟨z0, z1, z2, z3, z4, z5, z6⟩ := box7 out_2.out
            have fo := out_2.out.frozen 1
            have hwt := rec_wt hr5.out hr6.out hr7.out hr8.out hr9.out
            have htrk := Lib.hid (trk_rec (x := (⟨x1, x2, x3, x4, x5⟩ : Rc)) hS.out.trk hN hr5.out hr6.out hr7.out hr8.out hr9.out)
            have hok := Lib.hid (okS_push (x := (⟨x1, x2, x3, x4, x5⟩ : Rc)) hS.out.ok n5 n6 n7 n8)
            have hwp := hS.out.wt rfl
            have htw := totW_app ps (⟨x1, x2, x3, x4, x5⟩ : Rc)
            have HW := Lib.hid hwt
            have HT := Lib.hid htw
            clear hwt htw
            have hNl : N ≤ 9223372036854775807 := hN64.2
            go_wp2
            have hset : But (fun x => x = (w.heap.size + 1 + 1)) w2 (w2.setCell ⟨(w.heap.size + 1 + 1), 1, none⟩ (.slice (some ⟨g2, 0, none⟩) (ps.length + 1) cap2)) := (But.refl (fun x => x = (w.heap.size + 1 + 1)) _).set rfl _ _
            have hrdr := hset.blk rdr_2.out (fun e => by omega)
            obtain ⟨u1, u2, u3, u4⟩ := HW.out
            have hT := HT.out
            refine ⟨⟨p9, b9, N - 1, ps ++ [(⟨x1, x2, x3, x4, x5⟩ : Rc)], _, rfl, Lib.hid ⟨env_2.out.but hA hset (fun k e => ⟨by omega, by omega⟩), hrdr, out_2.out.set_ 1 _, hset.row hrow2.out (fun g hg e => by have := (World.ownsRow.lt hrow2.out g hg).1; omega), by rw [List.length_append]; exact htrk.out, fun hb9 => ?_, u2, ⟨by have := hN64.1; omega, by have := hN64.2; omega⟩, ?_, hok.out⟩⟩, ?_⟩
            · obtain ⟨v1, -⟩ := u4 hb9
              rw [List.length_append, List.length_singleton, hT]
              simp only at v1 ⊢
              omega
            · rw [List.length_append, List.length_singleton]
              omega
            · rw [rdM_eq hrdr, rdM_eq hS.out.rdr]
              cases b9 with
              | true => simp; omega
              | false => obtain ⟨v1, -⟩ := u4 rfl; simp; omega
      · go_wp2_with fail
        go_meet
        exact ⟨p, bad, N, ps, rv, rfl, hS.out, .inl (by omega)⟩
  case rest =>
    obtain ⟨p, bad, N, ps, rv, rfl, hS, hex⟩ := hcut
    have HS := Lib.hid hS
    have HE := Lib.hid hex
    clear hs4 hex
    have env_m := Lib.hid hS.env
    have out_m := Lib.hid hS.out
    have rdr_m := Lib.hid hS.rdr
    have rowR_m := Lib.hid hS.row
    have plm := hS.pl
    clear hS hl1
    go_wp2_with fail
    refine (rnum_any A c l _ _ (w.heap.size + 1) _ lo env_m.out.rd rdr_m.out (fun b o e => by have := hA b o e; omega) hl plm).mono ?_
    rintro e w11 ⟨n1, p11, b11, rfl, hr, hblk, hk⟩
    have env_11 := Lib.hid (env_m.out.but hA hk (fun k e => ⟨by omega, by omega⟩))
    have out_11 := Lib.hid (hk.blk out_m.out (fun e => by omega))
    have rowR_11 := Lib.hid (hk.row rowR_m.out (fun g hg e => by have := (World.ownsRow.lt rowR_m.out g hg).1; omega))
    have rdr_11 := Lib.hid hblk
    have pl11 := hr.2.2.1
    have hr11 := Lib.hid hr
    have n11 := hr.1
    clear hr hblk hk env_m out_m rdr_m rowR_m
    have t11 := trk_mid HS.out.trk HE.out hr11.out
    have s11 : S2 A c l lo w code ticks made p11 b11 n1 ps rv [] (.slice none 0 0) w11 := ⟨env_11.out, rdr_11.out, out_11.out, rowR_11.out, World.ownsRow_nil _ _ _ _, t11, (fun h => by have h1 := hr11.out.2.2.2.1; have h2 := hr11.out.2.1; have h3 : bad = false := (by cases hb : bad with | false => rfl | true => rw [h1 hb] at h; cases h); have h4 := HS.out.wt h3; simp [totS]; omega), pl11, n11, HS.out.pn, Nat.zero_le _, HS.out.ok⟩
    have hs11 := Lib.hid s11
    clear s11 t11 env_11 rdr_11 out_11 rowR_11 hr11 n11 pl11 plm
    go_upto_block 2 with fail
    go_cut [7] (fun n wc => ∃ (p : Nat) (bad : Bool) (N : Int) (vs : List ByteArray) (sv : Value), n = .int .i64 N ∧ S2 A c l lo w code ticks made p bad N ps rv vs sv wc ∧ (N ≤ 0 ∨ bad = true))
    case first =>
      go_wp2_with fail
      go_loopw [7] (fun n wr => ∃ (p : Nat) (bad : Bool) (N : Int) (vs : List ByteArray) (sv : Value), n = .int .i64 N ∧ Hid (S2 A c l lo w code ticks made p bad N ps rv vs sv wr)) (fun _ wr => rdM l.length (w.heap.size + 1) wr)
      case atStart => exact ⟨p11, b11, n1, [], _, rfl, hs11⟩
      case round =>
        clear hs11 HS HE
        obtain ⟨p, bad, N, vs, sv, rfl, hS⟩ := hrel
        obtain ⟨x0, x1, x2⟩ := box3 hS.out.rdr
        have hN64 := hS.out.n64
        by_cases hN : 0 < N
        · cases bad with
          | true =>
            go_wp2_with fail
            go_meet
            exact ⟨p, true, N, vs, sv, rfl, hS.out, .inr rfl⟩
          | false =>
            have env_r := Lib.hid hS.out.env
            have out_r := Lib.hid hS.out.out
            have rdr_r := Lib.hid hS.out.rdr
            have rowR_r := Lib.hid hS.out.rowR
            have rowS_r := Lib.hid hS.out.rowS
            have plr := hS.out.pl
            have hsz := hS.out.rdr.lt
            have hszo := hS.out.out.lt
            have hpn := hS.out.pv
            go_wp2_with fail
            refine (rtxt_any A c l _ _ (w.heap.size + 1) _ lo env_r.out.rd rdr_r.out (fun b o e => by have := hA b o e; omega) hl plr hcap hcm).mono ?_
            rintro e w12 ⟨s1, p12, b12, rfl, hr, hblk, hk⟩
            have env_12 := Lib.hid (env_r.out.but hA hk (fun k e => ⟨by omega, by omega⟩))
            have out_12 := Lib.hid (hk.blk out_r.out (fun e => by omega))
            have rowR_12 := Lib.hid (hk.row rowR_r.out (fun g hg e => by have := (World.ownsRow.lt rowR_r.out g hg).1; omega))
            have rowS_12 := Lib.hid (hk.row rowS_r.out (fun g hg e => by have := (World.ownsRow.lt rowS_r.out g hg).1; omega))
            have rdr_12 := Lib.hid hblk
            have pl12 := hr.2.2.1
            have hr12 := Lib.hid hr
            clear hr hblk hk env_r out_r rdr_r rowR_r rowS_r
            clear x0 x1 x2
            obtain ⟨z0, z1, z2, z3, z4, z5, z6⟩ := box7 out_12.out
            have hBs : w.heap.size + 1 + 1 + 1 ≤ w12.heap.size := by have := out_12.out.lt; omega
            have hrow := rowS_12.out
            have hnews : ∀ j u, [Value.string s1][j]? = some u → (w12.alloc (.cells #[.string s1] 9)).cell? ((⟨w12.heap.size, 0, none⟩ : Addr).add j) = some u := fun j u hj => by rw [addr_addH, (Blk.new w12 9 #[.string s1]).cell j]; simpa using hj
            have HNW := Lib.hid hnews
            clear hnews
            go_wp2_with (at_builtin; refine wpList_append_own _ rfl _ _ 31 rfl (w.heap.size + 1 + 1 + 1) 9 i9 _ 1 16 Tryd.underlying31 hi9 hz90 hz91 hz92 rfl (by decide) _ _ _ rfl (World.ownsRow.alloc hrow _) ⟨w12.heap.size, 0, none⟩ 1 1 [.string s1] rfl rfl HNW.out (by intro u' hu'; simp at hu'; subst hu'; rfl) (by unfold maxLen; omega) (by omega) (by simp; omega) ?_; intro v2 w2 hown2 hgrow _; refine Hid.out ?_)
            refine Lib.hid ?_
            have hk2 : But (fun k => sv.ownBlock = some k) w12 w2 := (But.of_below (below_new w12 _)).trans (But.of_grown hgrow)
            have env_2 := Lib.hid (env_12.out.but hA hk2 (fun k e => by have := (World.ownsRow.lt hrow k e).1; omega))
            have out_2 := Lib.hid (hk2.blk out_12.out (row_blk_ne hrow out_12.out (by decide)))
            have rdr_2 := Lib.hid (hk2.blk rdr_12.out (row_blk_ne hrow rdr_12.out (by decide)))
            have rowR_2 := Lib.hid (hk2.row rowR_12.out (row_row_ne rowR_12.out hrow (by decide)))
            have hrow2 : OwS w2 (w.heap.size + 1 + 1 + 1) v2 (vs ++ [s1]) := owS_push (x := s1) hown2
            obtain ⟨g2, cap2, hv2⟩ : ∃ g2 cap2, v2 = .slice (some ⟨g2, 0, none⟩) (vs.length + 1) cap2 := by
              rcases hown2.2 with ⟨-, h0⟩ | ⟨g, cap, cur, e, -⟩
              · omega
              · exact ⟨g, cap, e⟩
            subst hv2
            have hrow2 := Lib.hid hrow2
            have hlt2 := (World.ownsRow.lt hrow2.out g2 rfl).1
            clear hk2 hown2 hgrow hrow env_12 out_12 rdr_12 rowR_12 rowS_12 z0 z1 z2 z3 z4 z5 z6 HNW
            obtain ⟨z0, z1, z2, z3, z4, z5, z6⟩ := box7 out_2.out
            have fo := out_2.out.frozen 2
            have htrk := Lib.hid (trk_val hS.out.trk hN hr12.out)
            have hwp := hS.out.wt rfl
            have htw := totS_app vs s1
            have HW := Lib.hid hr12.out
            have HT := Lib.hid htw
            clear htw
            have hNl : N ≤ 9223372036854775807 := hN64.2
            go_wp2
            have hset : But (fun x => x = (w.heap.size + 1 + 1)) w2 (w2.setCell ⟨(w.heap.size + 1 + 1), 2, none⟩ (.slice (some ⟨g2, 0, none⟩) (vs.length + 1) cap2)) := (But.refl (fun x => x = (w.heap.size + 1 + 1)) _).set rfl _ _
            have hrdr := hset.blk rdr_2.out (fun e => by omega)
            obtain ⟨q0, q1, q2, q3, q4, -⟩ := HW.out
            have hT := HT.out
            refine ⟨⟨p12, b12, N - 1, vs ++ [s1], _, rfl, Lib.hid ⟨env_2.out.but hA hset (fun k e => ⟨by omega, by omega⟩), hrdr, out_2.out.set_ 2 _, hset.row rowR_2.out (fun g hg e => by have := (World.ownsRow.lt rowR_2.out g hg).1; omega), hset.row hrow2.out (fun g hg e => by have := (World.ownsRow.lt hrow2.out g hg).1; omega), by rw [List.length_append]; exact htrk.out, fun hb9 => ?_, q2, ⟨by have := hN64.1; omega, by have := hN64.2; omega⟩, hS.out.pn, ?_, hS.out.ok⟩⟩, ?_⟩
            · have v1 := q4 hb9
              rw [List.length_append, List.length_singleton, hT]
              omega
            · rw [List.length_append, List.length_singleton]
              omega
            · rw [rdM_eq hrdr, rdM_eq hS.out.rdr]
              cases b12 with
              | true => simp; omega
              | false => have v1 := q4 rfl; simp; omega
        · go_wp2_with fail
          go_meet
          exact ⟨p, bad, N, vs, sv, rfl, hS.out, .inl (by omega)⟩
    case rest =>
      obtain ⟨p, bad, N2, vs, sv, rfl, hS, hex⟩ := hcut
      have HS := Lib.hid hS
      have HE := Lib.hid hex
      clear hs11 hex
      obtain ⟨A2, c2, rfl, hrR, hwR⟩ := ow_rd (enc := encR) (fun _ => rfl) hS.rowR
      obtain ⟨B2, d2, rfl, hrS, hwS⟩ := ow_rd (enc := encS) (fun _ => rfl) hS.rowS
      clear hrR hwR hrS hwS
      have env_m := Lib.hid hS.env
      have out_m := Lib.hid hS.out
      have rdr_m := Lib.hid hS.rdr
      have rowR_m := Lib.hid hS.rowR
      have rowS_m := Lib.hid hS.rowS
      have plm := hS.pl
      clear hS
      go_wp2_with fail
      refine (rtxt_any A c l _ _ (w.heap.size + 1) _ lo env_m.out.rd rdr_m.out (fun b o e => by have := hA b o e; omega) hl plm hcap hcm).mono ?_
      rintro e w13 ⟨er, p13, b13, rfl, hr, hblk, hk⟩
      have env_13 := Lib.hid (env_m.out.but hA hk (fun k e => ⟨by omega, by omega⟩))
      have out_13 := Lib.hid (hk.blk out_m.out (fun e => by omega))
      have rowR_13 := Lib.hid (hk.row rowR_m.out (fun g hg e => by have := (World.ownsRow.lt rowR_m.out g hg).1; omega))
      have rowS_13 := Lib.hid (hk.row rowS_m.out (fun g hg e => by have := (World.ownsRow.lt rowS_m.out g hg).1; omega))
      have rdr_13 := Lib.hid hblk
      have pl13 := hr.2.2.1
      have hr13 := Lib.hid hr
      clear hr hblk hk env_m out_m rdr_m rowR_m rowS_m
      obtain ⟨y0, y1, y2, y3, y4, y5, y6⟩ := box7 out_13.out
      have fo := out_13.out.frozen 3
      go_wp2_with fail
      have hset : But (fun x => x = (w.heap.size + 1 + 1)) w13 (w13.setCell ⟨(w.heap.size + 1 + 1), 3, none⟩ (.string er)) := (But.refl (fun x => x = (w.heap.size + 1 + 1)) _).set rfl _ _
      have env_13s := Lib.hid (env_13.out.but hA hset (fun k e => ⟨by omega, by omega⟩))
      have rdr_13s := Lib.hid (hset.blk rdr_13.out (fun e => by omega))
      have rowR_13s := Lib.hid (hset.row rowR_13.out (fun g hg e => by have := (World.ownsRow.lt rowR_13.out g hg).1; omega))
      have rowS_13s := Lib.hid (hset.row rowS_13.out (fun g hg e => by have := (World.ownsRow.lt rowS_13.out g hg).1; omega))
      have out_13s : Hid (Blk (w13.setCell ⟨(w.heap.size + 1 + 1), 3, none⟩ (.string er)) (w.heap.size + 1 + 1) 39 #[.int .i64 code, .slice A2 ps.length c2, .slice B2 vs.length d2, .string er, .string ⟨#[]⟩, .int .i64 ticks, .int .i64 made]) := Lib.hid (out_13.out.set_ 3 (.string er))
      clear hset fo y0 y1 y2 y3 y4 y5 y6 env_13 out_13 rdr_13 rowR_13 rowS_13
      refine (rtxt_any A c l _ _ (w.heap.size + 1) _ lo env_13s.out.rd rdr_13s.out (fun b o e => by have := hA b o e; omega) hl pl13 hcap hcm).mono ?_
      rintro e w14 ⟨tr, p14, b14, rfl, hr, hblk, hk⟩
      have env_14 := Lib.hid (env_13s.out.but hA hk (fun k e => ⟨by omega, by omega⟩))
      have out_14 := Lib.hid (hk.blk out_13s.out (fun e => by omega))
      have rowR_14 := Lib.hid (hk.row rowR_13s.out (fun g hg e => by have := (World.ownsRow.lt rowR_13s.out g hg).1; omega))
      have rowS_14 := Lib.hid (hk.row rowS_13s.out (fun g hg e => by have := (World.ownsRow.lt rowS_13s.out g hg).1; omega))
      have rdr_14 := Lib.hid hblk
      have pl14 := hr.2.2.1
      have hr14 := Lib.hid hr
      clear hr hblk hk env_13s out_13s rdr_13s rowR_13s rowS_13s
      obtain ⟨y0, y1, y2, y3, y4, y5, y6⟩ := box7 out_14.out
      have fo := out_14.out.frozen 4
      go_upto_region 25 with fail
      obtain ⟨y0, y1, y2, y3, y4, y5, y6⟩ := box7 out_14.out
      have fo := out_14.out.frozen 4
      have hset : But (fun x => x = (w.heap.size + 1 + 1)) w14 (w14.setCell ⟨(w.heap.size + 1 + 1), 4, none⟩ (.string tr)) := (But.refl (fun x => x = (w.heap.size + 1 + 1)) _).set rfl _ _
      have env_14s := Lib.hid (env_14.out.but hA hset (fun k e => ⟨by omega, by omega⟩))
      have rdr_14s := Lib.hid (hset.blk rdr_14.out (fun e => by omega))
      have rowR_14s := Lib.hid (hset.row rowR_14.out (fun g hg e => by have := (World.ownsRow.lt rowR_14.out g hg).1; omega))
      have rowS_14s := Lib.hid (hset.row rowS_14.out (fun g hg e => by have := (World.ownsRow.lt rowS_14.out g hg).1; omega))
      have out_14s : Hid (Blk (w14.setCell ⟨(w.heap.size + 1 + 1), 4, none⟩ (.string tr)) (w.heap.size + 1 + 1) 39 #[.int .i64 code, .slice A2 ps.length c2, .slice B2 vs.length d2, .string er, .string tr, .int .i64 ticks, .int .i64 made]) := Lib.hid (out_14.out.set_ 4 (.string tr))
      clear hset fo y0 y1 y2 y3 y4 y5 y6 env_14 out_14 rdr_14 rowR_14 rowS_14
      generalize w14.setCell ⟨(w.heap.size + 1 + 1), 4, none⟩ (.string tr) = wz at *
      have hend := trk_end HS.out.trk HE.out hr13.out hr14.out
      have HD := Lib.hid hend
      clear hend
      obtain ⟨z0, z1, z2, z3, z4, z5, z6⟩ := box7 out_14s.out
      obtain ⟨x0, x1, x2⟩ := box3 rdr_14s.out
      obtain ⟨r0, r1, r2, r3, r4, r5, r6⟩ := box7 env_14s.out.res
      have fr : ∀ k, wz.frozen? ⟨w.heap.size, k, none⟩ = false := fun k => env_14s.out.res.frozen k
      cases b14 with
      | true =>
        go_quiet (fail)
        go_wp2
        refine bodyPost_ret (by simp [results, Tryd.results19, go_sem, *]; rfl) rfl ?_
        exact rpH_zero (.inr ⟨hl, .inl rfl, fun x hx ht => by have h1 := (HD.out x hx ht).1; cases h1⟩) ((((((((bl_drewN _ env_14s.out.bel).setCell (Nat.le_refl _) _).setCell (Nat.le_refl _) _).setCell (Nat.le_refl _) _).setCell (Nat.le_refl _) _).setCell (Nat.le_refl _) _).setCell (Nat.le_refl _) _).setCell (Nat.le_refl _) _)
      | false =>
        have hb13 : b13 = false := by
          cases hb : b13 with
          | false => rfl
          | true => have h1 := hr14.out.2.2.2.1 hb; cases h1
        have hbad : bad = false := by
          cases hb : bad with
          | false => rfl
          | true => have h1 := hr13.out.2.2.2.1 hb; rw [hb13] at h1; cases h1
        have q1 := hr14.out.2.2.2.2.1 rfl
        have q2 := hr13.out.2.2.2.2.1 hb13
        have q3 := HS.out.wt hbad
        have hwt : wRp ⟨code, ps, vs, er, tr, ticks, made⟩ ≤ 1048576 := by unfold wRp; simp only; omega
        have hok := Lib.hid (okRp_of ⟨code, ps, vs, er, tr, ticks, made⟩ HI.out.1 HI.out.2.1 HI.out.2.2 HS.out.ok hwt)
        have hlen := Lib.hid (tellB_len ⟨code, ps, vs, er, tr, ticks, made⟩ hok.out hwt)
        obtain ⟨_, _, e1, hrR, hwR⟩ := ow_rd (enc := encR) (fun _ => rfl) rowR_14s.out
        cases e1
        obtain ⟨_, _, e1, hrS, hwS⟩ := ow_rd (enc := encS) (fun _ => rfl) rowS_14s.out
        cases e1
        have HRR := Lib.hid hrR
        have HRS := Lib.hid hrS
        have HWR := Lib.hid hwR
        have HWS := Lib.hid hwS
        have hpn := HS.out.pn
        have hpv := HS.out.pv
        have hzr := rdr_14s.out.lt
        have hzo := out_14s.out.lt
        subst hbad hb13
        clear hrR hrS hwR hwS hwt
        have hcb0 := conv_all (env_14s.out.rd.drew) (c := c)
        by_cases heq : tellB ⟨code, ps, vs, er, tr, ticks, made⟩ = l
        · have HQ := Lib.hid heq
          clear heq
          go_region_with (go_at_call 31; refine (l5tell_any A2 B2 c2 d2 ⟨code, ps, vs, er, tr, ticks, made⟩ _ _ _ HRR.out.drew HRS.out.drew hok.out hlen.out).mono ?_; rintro e w1 ⟨v1, rfl, hO1, hb1⟩; replace hb1 := bl_undrew hb1; obtain ⟨hc1, hf1⟩ := bcell hb1; rw [HQ.out] at hO1; obtain ⟨A1, c1, rfl, hr1⟩ := own_rd hO1; have hcv1 := conv_all hr1 (c := c1); have hcb1 := conv_all (env_14s.out.rd.below hb1) (c := c))
          all_goals
            have res1 := env_14s.out.res.below hb1 env_14s.out.res.lt
            have out1 := out_14s.out.below hb1 out_14s.out.lt
            have bel1 := env_14s.out.bel.trans (hb1.mono env_14s.out.bel.size)
            clear hc1 hf1 hcv1 hcb1 r0 r1 r2 r3 r4 r5 r6 fr z0 z1 z2 z3 z4 z5 z6 x0 x1 x2
            obtain ⟨r0, r1, r2, r3, r4, r5, r6⟩ := box7 res1
            obtain ⟨z0, z1, z2, z3, z4, z5, z6⟩ := box7 out1
            have fr : ∀ k, w1.frozen? ⟨w.heap.size, k, none⟩ = false := fun k => res1.frozen k
            have HB1 := Lib.hid hb1
            have HBL := Lib.hid bel1
            clear hcb0 hb1 bel1
            clear res1 out1
            go_wp2
            refine bodyPost_ret (by simp [results, Tryd.results19, go_sem, *]; rfl) rfl ?_
            have bel1 := HBL.out
            exact ⟨⟨code, ps, vs, er, tr, ticks, made⟩, A2, c2, B2, d2, rfl, .inr ⟨hl, .inr ⟨HQ.out, hok.out⟩, fun x hx ht => ((HD.out x hx ht).2).symm⟩, ((((((((HRR.out.below HB1.out).set_far (by show w.heap.size < w.heap.size + 1 + 1 + 1; omega) _).set_far (by show w.heap.size < w.heap.size + 1 + 1 + 1; omega) _).set_far (by show w.heap.size < w.heap.size + 1 + 1 + 1; omega) _).set_far (by show w.heap.size < w.heap.size + 1 + 1 + 1; omega) _).set_far (by show w.heap.size < w.heap.size + 1 + 1 + 1; omega) _).set_far (by show w.heap.size < w.heap.size + 1 + 1 + 1; omega) _).set_far (by show w.heap.size < w.heap.size + 1 + 1 + 1; omega) _).lower (by omega), ((((((((HRS.out.below HB1.out).set_far (by show w.heap.size < w.heap.size + 1 + 1 + 1; omega) _).set_far (by show w.heap.size < w.heap.size + 1 + 1 + 1; omega) _).set_far (by show w.heap.size < w.heap.size + 1 + 1 + 1; omega) _).set_far (by show w.heap.size < w.heap.size + 1 + 1 + 1; omega) _).set_far (by show w.heap.size < w.heap.size + 1 + 1 + 1; omega) _).set_far (by show w.heap.size < w.heap.size + 1 + 1 + 1; omega) _).set_far (by show w.heap.size < w.heap.size + 1 + 1 + 1; omega) _).lower (by omega), ((((((((HWR.out.below HB1.out).set_far (by show w.heap.size < w.heap.size + 1 + 1 + 1; omega) _).set_far (by show w.heap.size < w.heap.size + 1 + 1 + 1; omega) _).set_far (by show w.heap.size < w.heap.size + 1 + 1 + 1; omega) _).set_far (by show w.heap.size < w.heap.size + 1 + 1 + 1; omega) _).set_far (by show w.heap.size < w.heap.size + 1 + 1 + 1; omega) _).set_far (by show w.heap.size < w.heap.size + 1 + 1 + 1; omega) _).set_far (by show w.heap.size < w.heap.size + 1 + 1 + 1; omega) _).lower (by omega), ((((((((HWS.out.below HB1.out).set_far (by show w.heap.size < w.heap.size + 1 + 1 + 1; omega) _).set_far (by show w.heap.size < w.heap.size + 1 + 1 + 1; omega) _).set_far (by show w.heap.size < w.heap.size + 1 + 1 + 1; omega) _).set_far (by show w.heap.size < w.heap.size + 1 + 1 + 1; omega) _).set_far (by show w.heap.size < w.heap.size + 1 + 1 + 1; omega) _).set_far (by show w.heap.size < w.heap.size + 1 + 1 + 1; omega) _).set_far (by show w.heap.size < w.heap.size + 1 + 1 + 1; omega) _).lower (by omega), (by simp only; omega), (by simp only; omega), (((((((bel1).setCell (Nat.le_refl _) _).setCell (Nat.le_refl _) _).setCell (Nat.le_refl _) _).setCell (Nat.le_refl _) _).setCell (Nat.le_refl _) _).setCell (Nat.le_refl _) _).setCell (Nat.le_refl _) _⟩
        · have HQ := Lib.hid heq
          clear heq
          obtain ⟨T, hTT⟩ : ∃ T, T = tellB ⟨code, ps, vs, er, tr, ticks, made⟩ := ⟨_, rfl⟩
          have hnb : (T == l) = false := beq_eq_false_iff_ne.2 (fun e => HQ.out (by rw [← hTT]; exact e))
          have HTT := Lib.hid hTT
          clear hTT
          go_region_with (go_at_call 31; refine (l5tell_any A2 B2 c2 d2 ⟨code, ps, vs, er, tr, ticks, made⟩ _ _ _ HRR.out.drew HRS.out.drew hok.out hlen.out).mono ?_; rintro e w1 ⟨v1, rfl, hO1, hb1⟩; replace hb1 := bl_undrew hb1; obtain ⟨hc1, hf1⟩ := bcell hb1; rw [← HTT.out] at hO1; obtain ⟨A1, c1, rfl, hr1⟩ := own_rd hO1; have hcv1 := conv_all hr1 (c := c1); have hcb1 := conv_all (env_14s.out.rd.below hb1) (c := c))
          all_goals
            have res1 := env_14s.out.res.below hb1 env_14s.out.res.lt
            have out1 := out_14s.out.below hb1 out_14s.out.lt
            have bel1 := env_14s.out.bel.trans (hb1.mono env_14s.out.bel.size)
            clear hc1 hf1 hcv1 hcb1 r0 r1 r2 r3 r4 r5 r6 fr z0 z1 z2 z3 z4 z5 z6 x0 x1 x2
            obtain ⟨r0, r1, r2, r3, r4, r5, r6⟩ := box7 res1
            obtain ⟨z0, z1, z2, z3, z4, z5, z6⟩ := box7 out1
            have fr : ∀ k, w1.frozen? ⟨w.heap.size, k, none⟩ = false := fun k => res1.frozen k
            have HB1 := Lib.hid hb1
            have HBL := Lib.hid bel1
            clear hcb0 hb1 bel1
            clear res1 out1
            go_wp2
            refine bodyPost_ret (by simp [results, Tryd.results19, go_sem, *]; rfl) rfl ?_
            have bel1 := HBL.out
            exact rpH_zero (.inr ⟨hl, .inl rfl, fun x hx ht => by have h1 := (HD.out x hx ht).2; rw [h1] at ht; exact absurd ht HQ.out⟩) ((((((((bel1).setCell (Nat.le_refl _) _).setCell (Nat.le_refl _) _).setCell (Nat.le_refl _) _).setCell (Nat.le_refl _) _).setCell (Nat.le_refl _) _).setCell (Nat.le_refl _) _).setCell (Nat.le_refl _) _)
theorem shear_any (A : Option Addr) (c : Nat) (l : List UInt8) (w : World) (lo : Nat) (hb : RdL encB 1 w lo A l) (hA : ∀ b o, A = some ⟨b, o, none⟩ → b < w.heap.size) (hcap : l.length ≤ c) (hcm : c ≤ maxLen) :
    Calls Tryd.prog 19 #[.slice A l.length c] w (RpH w l) := by
  by_cases hl : l.length ≤ 1000000
  · exact shear_small A c l w lo hb hA hl hcap hcm
  · have h1 : (1000000 : Int) < l.length := by omega
    have h2 : l.length ≤ 9223372036854775807 := by unfold maxLen at hcm; omega
    clear hcm hcap
    go_enter Tryd.func19, Tryd.ntmps19
    go_wp2
    refine bodyPost_ret (by simp [results, Tryd.results19, go_sem]; rfl) rfl ?_
    exact rpH_zero (.inl ⟨by omega, rfl⟩) (below_new _ _)
end Go.Proofs.YtchlolfdinakiaaDoor
