/- A part of the proof: contracts of the program's functions. Conditions: none. -/
import Derived.Carry
import Derived.Deep.MidRow
import Derived.Deep.Quiet
import Derived.Laws.IdiomRangeMap
import Derived.Laws.MakeOwn
import Derived.Laws.StructEq
import Derived.Laws.Tables
import Derived.Lib.AppendStr
import Derived.Lib.AppendZerosOnto
import Derived.Lib.OthersKept
import Derived.Lib.Overlaps
import Derived.Lib.OwnBridge
import Derived.Lib.SlicesCompact
import Derived.MapKept
import Derived.Orders
import Derived.OrdersHeld
import Derived.Scope
import Derived.SliceStrings
import Derived.Sort.Grow
import Derived.StillTail
import Derived.Test.YtgdgclmkpoaagaaGreatProg
import Derived.Test.YtgdgclmkpoaagaaGreatShelf
import Derived.WalkKit
import Derived.WalkLawsBesides
import Derived.WalkSpells
import Derived.Test.YtgdgclmkpoaagaaGreatGB1
import Derived.Test.YtgdgclmkpoaagaaGreatGB2
import Derived.Test.YtgdgclmkpoaagaaGreatGB3
import Derived.Test.YtgdgclmkpoaagaaGreatGB4
import Derived.Test.YtgdgclmkpoaagaaGreatGB5
import Derived.Test.YtgdgclmkpoaagaaGreatGB6
import Derived.Test.YtgdgclmkpoaagaaGreatGB7
import Derived.Test.YtgdgclmkpoaagaaGreatGB8
import Derived.Test.YtgdgclmkpoaagaaGreatGB9
import Derived.Test.YtgdgclmkpoaagaaGreatGB10
set_option linter.unusedVariables false
set_option linter.unusedSectionVars false
set_option linter.unusedSimpArgs false
set_option maxRecDepth 100000
set_option maxHeartbeats 4000000
namespace Go.Proofs.YtgdgclmkpoaagaaGreat
open Go.GX Go.RowKit
attribute [local irreducible] Calls Run RunL RunQ RunD HR HL HD blkC ownC Rd
open Nd
theorem fn57 : IsFn Tryz.prog 57 := ⟨⟨_, _, Tryz.func57, rfl, by decide⟩⟩
theorem sreceived_any (b : Nat) (V : NV) (n : Nd) (now : Int) (f : Fr) (B : Base) (w : World) (hw : Sat B (stH b V n now) w) (ho : Ord n) (hP : Pts V n) (hsm : ∀ p ∈ n.parts, SmPt p) (hpl : n.parts.length ≤ 1000) (hfd : f.da.length ≤ 1000) (hhp : 0 ≤ f.hp ∧ f.hp ≤ 15) :
  Calls Tryz.prog 57 #[ptr b, .agg ⟨frC f⟩] w fun e w' => ∃ V' : NV, e = .returned (.tuple ⟨[]⟩) ∧ Pts V' (received n f now) ∧ Sat ⟨w, feet (stH b V n now)⟩ (stH b V' (received n f now) now) w' := by
 obtain ⟨hhp0, hhp1⟩ := hhp
 have hse := ho.seen
 have hml := mfresh_len n.seen ⟨f.so, f.sq⟩
 obtain ⟨r, hr⟩ : ∃ r, r = mfresh n.seen ⟨f.so, f.sq⟩ := ⟨_, rfl⟩
 obtain ⟨a, ha⟩ : ∃ a : Nd, a = { n with seen := r.1 } := ⟨_, rfl⟩
 obtain ⟨q, hq⟩ : ∃ q, q = padd a.parts f.so now f.da := ⟨_, rfl⟩
 rw [← hr] at hml
 have hao : Ord a := by rw [ha]; exact { ho with seen := hml }
 have hap : a.parts = n.parts := by rw [ha]
 have hPa : Pts V a := ⟨by rw [hap]; exact hP.eq, hP.sh⟩
 have hps : V.ps.length ≤ 1000 := by rw [← pts_len, hP.eq]; exact hpl
 have hpm : ∀ p ∈ V.ps, SmPt p.pt := fun p hp => hsm p.pt (by rw [← hP.eq]; exact List.mem_map.2 ⟨p, hp, rfl⟩)
 have hsp : received n f now = if r.2 = false then a else if f.ta = a.addr then (if q.e ≠ 0 then a else if q.ok then deliver { a with parts := q.l } ⟨f.so, q.t⟩ else { a with parts := q.l }) else if a.poll > 0 ∨ f.hp = 15 then lose a else (queue a { f with fr := a.addr, dst := 255, hp := f.hp + 1 }).1 := by rw [hq, ha, hr]; rfl
 rw [hsp]
 refine calls_hrW (stH b V n now) (hw) Tryz.func57 I (Nat.le_of_ble_eq_true I) ?_
 refine HR.sub (σ' := [(0, ptr b), (1, .agg ⟨frC f⟩)]) ⟨I, I, trivial⟩ ?_
 refine HR.ctl I ?_
 refine HR.region ?_
 refine HL.box I I ?_
 intro bf
 repeat' (first | refine zh ?_ | intro (bk : Nat))
 refine HR.regionD [(0, true), (1, true), (2, true), (3, true), (4, true), (5, true), (6, true), (7, true), (8, true), (9, true), (10, false), (11, true), (12, true), (13, true), (14, true), (15, true)] [0, 1] I I hmix (by kernel_rfl) ?_
 repeat' (first | refine zd ?_ | fail)
 refine HD.one I ?_
 refine HL.callX (r := fun v' : Value => .tuple ⟨[v', .bool r.2]⟩) (Q := fun _ => True) (G := fun v' => [cPr v' r.1]) fn129 I I (fun w1 hw1 => by rw [hr]; exact mfresh_any n.seen ⟨f.so, f.sq⟩ _ w1 ((Rd.own 7 rfl).at hw1) (by omega)) ?_
 intro v1 _
 refine HL.shape 0 I fun a1 c1 hv => ?_
 subst hv
 refine HL.back [1, 2] I I ?_
 repeat' (first | refine zd ?_ | fail)
 refine HD.nil ?_
 repeat' (first | refine zh ?_ | intro (bk : Nat))
 refine HR.ent (H' := blkC bf (frC f) 42 :: stH b { V with se := (a1, c1) } { n with seen := r.1 } now) (Ent.pick [1, 2, 3, 4, 5, 6, 7, 0, 9, 10, 11] I I) ?_
 rw [← ha]
 refine HR.cond I (fun h1 => ?_) (fun h1 => ?_)
 ·have h1 : r.2 = false := by simpa using h1
  rw [if_pos h1]
  repeat' (first | refine zh ?_ | intro (bk : Nat))
  refine HR.fin Tryz.func57 I [] (fun _ _ => trivial) ?_
  exact fun w' hw => ⟨{ V with se := (a1, c1) }, rfl, ⟨hPa.eq, hPa.sh⟩, hw.pick [1, 2, 3, 4, 5, 6, 7, 8, 9, 10] I rfl⟩
 have h1 : ¬ r.2 = false := by simpa using h1
 rw [if_neg h1]
 repeat' (first | refine zh ?_ | intro (bk : Nat))
 refine HR.regionQ hmix (by kernel_rfl) ?_
 repeat' (first | refine zq ?_ | apply zb ?_ ?_ | exact zc | (refine zi fun hb => ?_; try simp at hb))
 refine HR.cond I (fun h2 => ?_) (fun h2 => ?_)
 ·have h2 : f.ta = a.addr := eq_of_beq h2
  rw [if_pos h2]
  repeat' (first | refine zh ?_ | intro (bk : Nat))
  refine HR.regionD [(0, true), (1, true), (2, true), (3, true), (4, true), (5, true), (6, true), (7, true), (8, true), (9, true), (10, true), (11, true), (12, true), (13, false), (14, true), (15, true), (16, true), (17, true), (18, true), (19, true), (20, true), (21, true), (22, true)] [0, 1] I I hmix (by kernel_rfl) ?_
  repeat' (first | refine zd ?_ | fail)
  refine HD.one I ?_
  refine HL.callX (r := fun y : Value × List PtV => .tuple ⟨[y.1, str q.t, .bool q.ok, .int .i64 q.e]⟩) (Q := fun y => GdPts y q.l) (G := fun y => ptsC y) fn130 I I (fun w1 hw1 => by rw [hq, ← hPa.eq]; exact fadd_any V.ps f.so now f.da _ w1 (RdPts.own 8 9 hw1 I I) hpm hps hfd) ?_
  rintro ⟨v3, ps⟩ ⟨hg1, hg2⟩
  refine HL.shape (v := v3) (e := 76) (sz := 6) (n := ps.length) (xs := cellsOf ptC ps) 0 I fun a3 c3 hv => ?_
  subst hv
  have hq1 : pts ps = q.l := hg1
  have hq2 : ∀ p ∈ ps, ShPt p := hg2
  refine HL.back [2, 3] I I ?_
  repeat' (first | refine zd ?_ | fail)
  refine HD.nil ?_
  repeat' (first | refine zh ?_ | intro (bk : Nat))
  refine HR.cond I (fun h3 => ?_) (fun h3 => ?_)
  ·have h3 : q.e ≠ 0 := by simpa using h3
   rw [if_pos h3]
   repeat' (first | refine zh ?_ | intro (bk : Nat))
   refine HR.ret Tryz.func57 I [] (fun _ _ => trivial) ?_
   exact fun w' hw => ⟨{ V with se := (a1, c1) }, rfl, ⟨hPa.eq, hPa.sh⟩, hw.pick [3, 4, 5, 6, 7, 8, 9, 10, 11, 12] I rfl⟩
  have h3 : ¬ q.e ≠ 0 := by simpa using h3
  rw [if_neg h3]
  repeat' (first | refine zh ?_ | intro (bk : Nat))
  obtain ⟨V3, hV3⟩ : ∃ V3 : NV, V3 = ⟨V.ta, V.li, V.ou, V.ch, V.bo, (a1, c1), (a3, c3), V.ib, ps⟩ := ⟨_, rfl⟩
  have hao3 : Ord { a with parts := q.l } := hao.setParts _
  refine HR.ent (H' := blkC bf (frC f) 42 :: stH b ⟨V.ta, V.li, V.ou, V.ch, V.bo, (a1, c1), (a3, c3), V.ib, ps⟩ { a with parts := q.l } now) (Ent.pick [2, 3, 4, 5, 6, 7, 8, 9, 0, 1, 12] I I) ?_
  rw [← hV3]
  have hP3 : ∀ (ib : SV) (z : Nd), z.parts = q.l → Pts { V3 with ib := ib } z := fun ib z hz => ⟨by rw [hz, hV3]; exact hq1, by rw [hV3]; exact hq2⟩
  refine HR.cond I (fun h4 => ?_) (fun h4 => ?_)
  ·have h4 : q.ok = true := h4
   rw [if_pos h4]
   repeat' (first | refine zh ?_ | intro (bk : Nat))
   refine HL.ent (Ent.pick [1, 2, 3, 4, 5, 6, 7, 8, 9, 10] I I) ?_
   refine HL.callW (r := fun _ : SV => .tuple ⟨[]⟩) (Q := fun _ => True) (G0 := stH b V3 { a with parts := q.l } now) (H0 := []) (G := fun x => stH b { V3 with ib := x } (deliver { a with parts := q.l } ⟨f.so, q.t⟩) now) fn43 I I I (fun w1 hw1 => sdeliver_any b V3 { a with parts := q.l } now ⟨f.so, q.t⟩ _ w1 (hw1.pick [0, 1, 2, 3, 4, 5, 6, 7, 8, 9] I I) hao3) ?_
   intro x _
   repeat' (first | refine zh ?_ | intro (bk : Nat))
   refine HR.fin Tryz.func57 I [] (fun _ _ => trivial) ?_
   exact fun w' hw => ⟨{ V3 with ib := x }, rfl, hP3 x _ (deliver_parts _ _), hw.pick [0, 1, 2, 3, 4, 5, 6, 7, 8, 9] I rfl⟩
  ·have h4 : q.ok = false := h4
   rw [if_neg (by rw [h4]; decide)]
   repeat' (first | refine zh ?_ | intro (bk : Nat))
   refine HR.fin Tryz.func57 I [] (fun _ _ => trivial) ?_
   exact fun w' hw => ⟨V3, rfl, hP3 V3.ib _ rfl, hw.pick [1, 2, 3, 4, 5, 6, 7, 8, 9, 10] I rfl⟩
 have h2 : ¬ f.ta = a.addr := by simpa using h2
 rw [if_neg h2]
 repeat' (first | refine zh ?_ | apply zb ?_ ?_ | exact zc | (refine zi fun hb => ?_; try simp at hb) | intro (bk : Nat))
 refine HR.cond I (fun h3 => ?_) (fun h3 => ?_)
 ·have h3 : (decide (a.poll > 0) || (f.hp == 15)) = true := h3
  have h4 : a.poll > 0 ∨ f.hp = 15 := by simpa using h3
  rw [if_pos h4]
  repeat' (first | refine zh ?_ | intro (bk : Nat))
  refine HL.ent (Ent.pick [1, 2, 3, 4, 5, 6, 7, 8, 9, 10] I I) ?_
  refine HL.callW (r := fun _ : Unit => .tuple ⟨[]⟩) (Q := fun _ => True) (G0 := [blkS b { V with se := (a1, c1) } a now]) (H0 := ndH { V with se := (a1, c1) } a) (G := fun _ => [blkS b { V with se := (a1, c1) } (lose a) now]) fn75 I I I (fun w1 hw1 => slose_any b { V with se := (a1, c1) } a now _ w1 (hw1.pick [0] I I) hao.lost) ?_
  intro _ _
  repeat' (first | refine zh ?_ | intro (bk : Nat))
  refine HR.fin Tryz.func57 I [] (fun _ _ => trivial) ?_
  exact fun w' hw => ⟨{ V with se := (a1, c1) }, rfl, ⟨hPa.eq, hPa.sh⟩, hw.pick [0, 1, 2, 3, 4, 5, 6, 7, 8, 9] I rfl⟩
 ·have h3 : (decide (a.poll > 0) || (f.hp == 15)) = false := h3
  have h4 : ¬ (a.poll > 0 ∨ f.hp = 15) := by
   intro e
   have : (decide (a.poll > 0) || (f.hp == 15)) = true := by simpa using e
   rw [h3] at this; cases this
  rw [if_neg h4]
  repeat' (first | refine zh ?_ | intro (bk : Nat))
  refine HL.ent (Ent.pick [1, 2, 3, 4, 5, 6, 7, 8, 9, 10] I I) ?_
  refine HL.callW (r := fun _ : SV => .bool (queue a { f with fr := a.addr, dst := 255, hp := f.hp + 1 }).2) (Q := fun _ => True) (G0 := stH b { V with se := (a1, c1) } a now) (H0 := []) (G := fun x => stH b { V with se := (a1, c1), ou := x } (queue a { f with fr := a.addr, dst := 255, hp := f.hp + 1 }).1 now) fn44 I I I (fun w1 hw1 => squeue_any b { V with se := (a1, c1) } a now { f with fr := a.addr, dst := 255, hp := f.hp + 1 } _ w1 (hw1.pick [0, 1, 2, 3, 4, 5, 6, 7, 8, 9] I I) hao) ?_
  intro x _
  repeat' (first | refine zh ?_ | intro (bk : Nat))
  refine HR.fin Tryz.func57 I [] (fun _ _ => trivial) ?_
  exact fun w' hw => ⟨{ V with se := (a1, c1), ou := x }, rfl, ⟨by rw [queue_parts]; exact hPa.eq, hPa.sh⟩, hw.pick [0, 1, 2, 3, 4, 5, 6, 7, 8, 9] I rfl⟩
end Go.Proofs.YtgdgclmkpoaagaaGreat
namespace Go.Proofs.YtgdgclmkpoaagaaGreat
open Go.GX Go.RowKit
attribute [local irreducible] Calls Run RunL RunQ RunD HR HL HD blkC ownC Rd
open Nd
theorem fn18 : IsFn Tryz.prog 18 := ⟨⟨_, _, Tryz.func18, rfl, by decide⟩⟩
theorem advertised_parts (n : Nd) (f : Fr) : (advertised n f).parts = n.parts := by
 unfold advertised
 simp only
 split
 ·rfl
 ·split <;> rfl
theorem drain_parts (fr now : Int) : ∀ (k : Nat) (n : Nd), (Nd.drain fr now k n).parts = n.parts
 | 0, _ => rfl
 | k + 1, n => by
  rw [drain_step]
  split
  ·rw [drain_parts fr now k, queue_parts]
  ·rfl
theorem polled_parts (n : Nd) (f : Fr) (now : Int) : (polled n f now).parts = n.parts := by
 unfold polled; rw [drain_parts]
theorem shear_any (V : NV) (n : Nd) (now : Int) (f : Fr) (w : World) (h : OkN w V n) (hs : SmN n) (hfl : f.da.length ≤ 9223372036854775807) :
  Calls Tryz.prog 18 #[.agg ⟨ndC V n⟩, .int .i64 now, .agg ⟨frC f⟩] w fun e w' => ∃ V' : NV, e = .returned (.agg ⟨ndC V' (hear n now f)⟩) ∧ Pts V' (hear n now f) ∧ Sat (base w) (ndH V' (hear n now f)) w' := by
 obtain ⟨m, hm⟩ : ∃ m, m = order n := ⟨_, rfl⟩
 have ho : Ord m := by rw [hm]; exact order_ord n
 have hmp : m.parts = n.parts := by rw [hm]; rfl
 obtain ⟨T, hT⟩ : ∃ T, T = tick now := ⟨_, rfl⟩
 obtain ⟨c, hc⟩ : ∃ c : Bool, c = ((!(fchk f == 0) || (f.fr == m.addr)) || (!(f.dst == m.addr) && !(f.dst == 255))) := ⟨_, rfl⟩
 have hcc : c = true ↔ (fchk f ≠ 0 ∨ f.fr = m.addr ∨ (f.dst ≠ m.addr ∧ f.dst ≠ 255)) := by
  rw [hc]; simp [or_assoc]
 have hsp : hear n now f = if fchk f ≠ 0 ∨ f.fr = m.addr ∨ (f.dst ≠ m.addr ∧ f.dst ≠ 255) then m else if f.kd = 1 then advertised m f else if f.kd = 3 ∧ f.dst = m.addr ∧ m.poll = 0 then polled m f T else if f.kd = 2 ∧ f.dst = m.addr then received m f T else m := by rw [hm, hT]; rfl
 rw [hsp]
 refine calls_hr Tryz.func18 I (Nat.le_of_ble_eq_true I) ?_
 refine HR.sub (σ' := [(0, .agg ⟨ndC V n⟩), (1, .int .i64 now), (2, .agg ⟨frC f⟩)]) ⟨I, I, I, trivial⟩ ?_
 refine HR.ctl I ?_
 refine HR.region ?_
 refine HL.box I I ?_
 intro bn
 refine HL.box I I ?_
 intro bf
 refine HL.alloc I I ?_
 intro br
 repeat' (first | refine zh ?_ | intro (bk : Nat))
 refine HL.callX (r := fun x : Nat × NV => ptr x.1) (Q := fun x => Pts x.2 m) (G := fun x => stH x.1 x.2 m T) fn40 I I (fun w1 hw1 => by rw [hm, hT]; exact enter_any V n now w1 (h.ext hw1.belowB) hs) ?_
 rintro ⟨b, V2⟩ hP
 have hP : Pts V2 m := hP
 refine HL.ent (H' := rsC br :: blkC bf (frC f) 42 :: stH b V2 m T) (Ent.pick [10, 11, 0, 1, 2, 3, 4, 5, 6, 7, 8, 9] I I) ?_
 repeat' (first | refine zh ?_ | intro (bk : Nat))
 refine HR.join (ι := Unit) (fun _ => True) (fun _ => [(5, ptr bf), (6, ptr br), (7, ptr b), (38, .bool c)]) (fun _ => rsC br :: blkC bf (frC f) 42 :: stH b V2 m T) (fun _ _ => ?_) (fun hj => ?_)
 rotate_left
 ·refine HR.regionD [(0, true), (1, false), (2, true), (3, true), (4, true), (5, true), (6, true), (7, true), (8, true), (9, true), (10, true), (11, true), (12, true), (13, true), (14, true), (15, true), (16, true), (17, true), (18, true), (19, true), (20, true), (21, true), (22, true), (23, true), (24, true), (25, true), (26, true), (27, true)] [1, 2] I I hmix (by kernel_rfl) ?_
  repeat' (first | refine zd ?_ | fail)
  refine HD.one I ?_
  refine HL.callB fn54 I I (fun w1 _ => fcheck_any f w1 (by omega)) ?_
  refine HL.back [1, 2] I I ?_
  repeat' (first | refine zd ?_ | fail)
  refine HD.split 14 I (fun hb => ?_) (fun hb => ?_)
  ·have hb : (!(fchk f == 0)) = true := hb
   repeat' (first | refine zd ?_ | fail)
   refine HD.nil ?_
   refine hj () _ _ trivial ⟨rfl, rfl, rfl, ?_, trivial⟩ Ent.refl
   show some (Value.bool true) = some (Value.bool c)
   rw [hc, hb]; rfl
  ·have hb : (!(fchk f == 0)) = false := hb
   repeat' (first | refine zd ?_ | fail)
   refine HD.split 24 I (fun hb2 => ?_) (fun hb2 => ?_)
   ·have hb2 : (f.fr == m.addr) = true := hb2
    repeat' (first | refine zd ?_ | fail)
    refine HD.nil ?_
    refine hj () _ _ trivial ⟨rfl, rfl, rfl, ?_, trivial⟩ Ent.refl
    show some (Value.bool true) = some (Value.bool c)
    rw [hc, hb, hb2]; rfl
   ·have hb2 : (f.fr == m.addr) = false := hb2
    repeat' (first | refine zd ?_ | fail)
    refine HD.split 33 I (fun hb3 => ?_) (fun hb3 => ?_)
    ·have hb3 : (!(f.dst == m.addr)) = true := hb3
     repeat' (first | refine zd ?_ | fail)
     refine HD.nil ?_
     refine hj () _ _ trivial ⟨rfl, rfl, rfl, ?_, trivial⟩ Ent.refl
     show some (Value.bool (!(f.dst == 255))) = some (Value.bool c)
     rw [hc, hb, hb2, hb3]; rfl
    ·have hb3 : (!(f.dst == m.addr)) = false := hb3
     repeat' (first | refine zd ?_ | fail)
     refine HD.nil ?_
     refine hj () _ _ trivial ⟨rfl, rfl, rfl, ?_, trivial⟩ Ent.refl
     show some (Value.bool false) = some (Value.bool c)
     rw [hc, hb, hb2, hb3]; rfl
 refine HR.cond I (fun h1 => ?_) (fun h1 => ?_)
 ·rw [if_pos (hcc.1 h1)]
  repeat' (first | refine zh ?_ | intro (bk : Nat))
  refine HR.ret Tryz.func18 I [_] (fun w hw => ⟨⟨_, rfl, loadVarR hw 0 I I I I rfl⟩, trivial⟩) ?_
  exact fun w' hw => ⟨V2, rfl, hP, hw.pick [3, 4, 5, 6, 7, 8, 9, 10, 11] I rfl⟩
 have h2 : ¬ (fchk f ≠ 0 ∨ f.fr = m.addr ∨ (f.dst ≠ m.addr ∧ f.dst ≠ 255)) := fun e => by rw [hcc.2 e] at h1; cases h1
 rw [if_neg h2]
 have hck : fchk f = 0 := Decidable.not_not.1 fun e => h2 (.inl e)
 have hne : f.fr ≠ m.addr := fun e => h2 (.inr (.inl e))
 obtain ⟨k1, k2, k3, k4, k5, k6, k7⟩ := fchk_fr hck
 repeat' (first | refine zh ?_ | intro (bk : Nat))
 refine HR.cond I (fun h3 => ?_) (fun h3 => ?_)
 ·have h3 : f.kd = 1 := eq_of_beq h3
  rw [if_pos h3]
  repeat' (first | refine zh ?_ | intro (bk : Nat))
  refine HL.ent (Ent.pick [2, 3, 4, 5, 6, 7, 8, 9, 10, 11, 0] I I) ?_
  refine HL.callW (r := fun _ : SV × SV => .tuple ⟨[]⟩) (Q := fun _ => True) (G0 := stH b V2 m T) (H0 := [_]) (G := fun x => stH b { V2 with ta := x.1, li := x.2 } (advertised m f) T) fn55 I I I (fun w1 hw1 => sadv_any b V2 m T f _ w1 (hw1.pick [0, 1, 2, 3, 4, 5, 6, 7, 8, 9] I I) ho (by omega)) ?_
  intro x _
  refine HL.ent (Ent.pick [10, 0, 1, 2, 3, 4, 5, 6, 7, 8, 9] I I) ?_
  repeat' (first | refine zh ?_ | intro (bk : Nat))
  refine HR.ret Tryz.func18 I [_] (fun w hw => ⟨⟨_, rfl, loadVarR hw 0 I I I I rfl⟩, trivial⟩) ?_
  exact fun w' hw => ⟨{ V2 with ta := x.1, li := x.2 }, rfl, ⟨by rw [advertised_parts]; exact hP.eq, hP.sh⟩, hw.pick [2, 3, 4, 5, 6, 7, 8, 9, 10] I rfl⟩
 have h3 : ¬ f.kd = 1 := by simpa using h3
 rw [if_neg h3]
 repeat' (first | refine zh ?_ | intro (bk : Nat))
 refine HR.regionQ hmix (by kernel_rfl) ?_
 repeat' (first | refine zq ?_ | apply zb ?_ ?_ | exact zc | (refine zi fun hb => ?_; try simp at hb))
 refine HR.cond I (fun h4 => ?_) (fun h4 => ?_)
 ·have h4 : ((f.kd == 3) && (f.dst == m.addr) && (m.poll == 0)) = true := h4
  have h5 : f.kd = 3 ∧ f.dst = m.addr ∧ m.poll = 0 := by simpa [and_assoc] using h4
  rw [if_pos h5]
  repeat' (first | refine zh ?_ | intro (bk : Nat))
  refine HL.ent (Ent.pick [2, 3, 4, 5, 6, 7, 8, 9, 10, 11, 0] I I) ?_
  refine HL.callW (r := fun _ : SV × SV × SV × SV => .tuple ⟨[]⟩) (Q := fun _ => True) (G0 := stH b V2 m T) (H0 := [_]) (G := fun x => stH b { V2 with ch := x.1, ta := x.2.1, ou := x.2.2.1, bo := x.2.2.2 } (polled m f T) T) fn56 I I I (fun w1 hw1 => spolled_any b V2 m T f _ w1 (hw1.pick [0, 1, 2, 3, 4, 5, 6, 7, 8, 9] I I) ho k1 hne) ?_
  intro x _
  refine HL.ent (Ent.pick [10, 0, 1, 2, 3, 4, 5, 6, 7, 8, 9] I I) ?_
  repeat' (first | refine zh ?_ | intro (bk : Nat))
  refine HR.ret Tryz.func18 I [_] (fun w hw => ⟨⟨_, rfl, loadVarR hw 0 I I I I rfl⟩, trivial⟩) ?_
  exact fun w' hw => ⟨{ V2 with ch := x.1, ta := x.2.1, ou := x.2.2.1, bo := x.2.2.2 }, rfl, ⟨by rw [polled_parts]; exact hP.eq, hP.sh⟩, hw.pick [2, 3, 4, 5, 6, 7, 8, 9, 10] I rfl⟩
 have h4 : ((f.kd == 3) && (f.dst == m.addr) && (m.poll == 0)) = false := h4
 have h5 : ¬ (f.kd = 3 ∧ f.dst = m.addr ∧ m.poll = 0) := by
  intro e
  have : ((f.kd == 3) && (f.dst == m.addr) && (m.poll == 0)) = true := by simpa [and_assoc] using e
  rw [h4] at this; cases this
 rw [if_neg h5]
 repeat' (first | refine zh ?_ | intro (bk : Nat))
 refine HR.regionQ hmix (by kernel_rfl) ?_
 repeat' (first | refine zq ?_ | apply zb ?_ ?_ | exact zc | (refine zi fun hb => ?_; try simp at hb))
 refine HR.cond I (fun h6 => ?_) (fun h6 => ?_)
 ·have h6 : ((f.kd == 2) && (f.dst == m.addr)) = true := h6
  have h7 : f.kd = 2 ∧ f.dst = m.addr := by simpa using h6
  rw [if_pos h7]
  repeat' (first | refine zh ?_ | intro (bk : Nat))
  refine HL.ent (Ent.pick [2, 3, 4, 5, 6, 7, 8, 9, 10, 11, 0] I I) ?_
  refine HL.callW (r := fun _ : NV => .tuple ⟨[]⟩) (Q := fun V' => Pts V' (received m f T)) (G0 := stH b V2 m T) (H0 := [_]) (G := fun V' => stH b V' (received m f T) T) fn57 I I I (fun w1 hw1 => sreceived_any b V2 m T f _ w1 (hw1.pick [0, 1, 2, 3, 4, 5, 6, 7, 8, 9] I I) ho hP (by rw [hmp]; exact hs.sm) (by rw [hmp]; exact hs.pa) (by omega) ⟨k5, k6⟩) ?_
  intro V3 hP3
  refine HL.ent (Ent.pick [10, 0, 1, 2, 3, 4, 5, 6, 7, 8, 9] I I) ?_
  repeat' (first | refine zh ?_ | intro (bk : Nat))
  refine HR.ret Tryz.func18 I [_] (fun w hw => ⟨⟨_, rfl, loadVarR hw 0 I I I I rfl⟩, trivial⟩) ?_
  exact fun w' hw => ⟨V3, rfl, hP3, hw.pick [2, 3, 4, 5, 6, 7, 8, 9, 10] I rfl⟩
 have h6 : ((f.kd == 2) && (f.dst == m.addr)) = false := h6
 have h7 : ¬ (f.kd = 2 ∧ f.dst = m.addr) := by
  intro e
  have : ((f.kd == 2) && (f.dst == m.addr)) = true := by simpa using e
  rw [h6] at this; cases this
 rw [if_neg h7]
 refine HR.ent (Ent.pick [0, 2, 3, 4, 5, 6, 7, 8, 9, 10, 11] I I) ?_
 repeat' (first | refine zh ?_ | intro (bk : Nat))
 refine HR.ret Tryz.func18 I [_] (fun w hw => ⟨⟨_, rfl, loadVarR hw 0 I I I I rfl⟩, trivial⟩) ?_
 exact fun w' hw => ⟨V2, rfl, hP, hw.pick [2, 3, 4, 5, 6, 7, 8, 9, 10] I rfl⟩
end Go.Proofs.YtgdgclmkpoaagaaGreat
namespace Go.GX
open Go.RowKit
theorem ownC_sl {v : Value} {e sz n : Nat} {xs : List Value} {w : World} (h : (ownC v e sz n xs).p w) : Sl w v xs n := (show Vw w v e sz n xs from h).sl
theorem groupC_mem {G : List Chunk} {c : Chunk} {w : World} (h : (groupC G).p w) (hc : c ∈ G) : c.p w := AllQ.mem h c hc
theorem Sat.grp {B : Base} {H G : List Chunk} {w : World} (i : Nat) (hw : Sat B H w) (hi : nthC H i = some (groupC G)) : (groupC G).p w := hw.nth hi
end Go.GX
namespace Go.Proofs.YtgdgclmkpoaagaaGreat
open Go.GX Go.RowKit
attribute [local irreducible] Calls Run RunL RunQ RunD HR HL HD blkC ownC Rd
open Nd
theorem frame_get {l : List Sn} {i : Nat} {x : Sn} (hx : l[i]? = some x) : ∀ (k : Nat) u, (frC x.f)[k]? = some u → (cellsOf snC l)[i * 11 + 0 + k]? = some u := by
 intro k u hk
 refine cells_get snC_len hx (i := k) ?_
 show (frC x.f ++ [.int .i64 x.tr, .int .i64 x.wt])[k]? = some u
 rw [List.getElem?_append_left (List.getElem?_eq_some_iff.1 hk).1]
 exact hk
end Go.Proofs.YtgdgclmkpoaagaaGreat
namespace Go.Proofs.YtgdgclmkpoaagaaGreat
open Go.GX Go.RowKit
attribute [local irreducible] Calls Run RunL RunQ RunD HR HL HD blkC ownC Rd
open Nd
theorem fn16 : IsFn Tryz.prog 16 := ⟨⟨_, _, Tryz.func16, rfl, by decide⟩⟩
structure BgN (n : Nd) : Prop where
 ta : n.table.length ≤ 1000000
 li : n.links.length ≤ 1000000
 ou : n.out.length ≤ 1000000
 ch : n.children.length ≤ 1000000
 bo : n.boxes.length ≤ 1000000
 se : n.seen.length ≤ 1000000
 pa : n.parts.length ≤ 1000000
 ib : n.inbox.length ≤ 1000000
 sm : ∀ p ∈ n.parts, p.hv.length ≤ 1000000 ∧ p.da.length ≤ 1000000
theorem same17_any (Va Vb : NV) (n : Nd) (w : World) (ha : OkN w Va n) (hb : OkN w Vb n) (hs : BgN n) :
  Calls Tryz.prog 16 #[.agg ⟨ndC Va n⟩, .agg ⟨ndC Vb n⟩] w fun e w' => e = .returned (.bool true) ∧ Below w.heap.size w w' := by
 have hla : Va.ps.length ≤ 1000000 := by rw [← pts_len, ha.eq]; exact hs.pa
 have hlm : ∀ p ∈ Va.ps, p.pt.hv.length ≤ 1000000 ∧ p.pt.da.length ≤ 1000000 := fun p hp => hs.sm p.pt (by rw [← ha.eq]; exact List.mem_map.2 ⟨p, hp, rfl⟩)
 refine calls_hr Tryz.func16 I (Nat.le_of_ble_eq_true I) ?_
 refine HR.sub (σ' := [(0, .agg ⟨ndC Va n⟩), (1, .agg ⟨ndC Vb n⟩)]) ⟨I, I, trivial⟩ ?_
 refine HR.ctl I ?_
 refine HR.region ?_
 refine HL.box I I ?_
 intro b2
 refine HL.box I I ?_
 intro b3
 repeat' (first | refine zh ?_ | intro (bk : Nat))
 refine HL.setB 10 true I (by simp) ?_
 repeat' (first | refine zh ?_ | intro (bk : Nat))
 refine HL.setB 17 true I (by simp) ?_
 repeat' (first | refine zh ?_ | intro (bk : Nat))
 refine HL.setB 24 true I (by simp) ?_
 repeat' (first | refine zh ?_ | intro (bk : Nat))
 refine HL.setB 31 true I (by simp) ?_
 repeat' (first | refine zh ?_ | intro (bk : Nat))
 refine HL.setB 38 true I (by simp) ?_
 repeat' (first | refine zh ?_ | refine HL.callB (r := .bool true) fn39 I I (fun w1 hw1 => by have := sameRo_any n.table n.table _ _ w1 (ha.ext hw1.belowB).ta (hb.ext hw1.belowB).ta hs.ta; rw [decide_eq_true rfl] at this; exact this) ?_ | refine HL.callB (r := .bool true) fn48 I I (fun w1 hw1 => by have := sameLi_any n.links n.links _ _ w1 (ha.ext hw1.belowB).li (hb.ext hw1.belowB).li hs.li; rw [decide_eq_true rfl] at this; exact this) ?_ | refine HL.callB (r := .bool true) fn49 I I (fun w1 hw1 => by have := sameSn_any n.out n.out _ _ w1 (ha.ext hw1.belowB).ou (hb.ext hw1.belowB).ou hs.ou; rw [decide_eq_true rfl] at this; exact this) ?_ | refine HL.callB (r := .bool true) fn50 I I (fun w1 hw1 => by have := sameI_any n.children n.children _ _ w1 (ha.ext hw1.belowB).ch (hb.ext hw1.belowB).ch hs.ch; rw [decide_eq_true rfl] at this; exact this) ?_ | refine HL.callB (r := .bool true) fn51 I I (fun w1 hw1 => by have := sameMa_any n.boxes n.boxes _ _ w1 (ha.ext hw1.belowB).bo (hb.ext hw1.belowB).bo hs.bo; rw [decide_eq_true rfl] at this; exact this) ?_ | refine HL.callB (r := .bool true) fn52 I I (fun w1 hw1 => by have := samePr_any n.seen n.seen _ _ w1 (ha.ext hw1.belowB).se (hb.ext hw1.belowB).se hs.se; rw [decide_eq_true rfl] at this; exact this) ?_ | refine HL.callB (r := .bool true) fn53 I I (fun w1 hw1 => by have := sameL_any Va.ps Vb.ps _ _ w1 (ha.ext hw1.belowB).pa (hb.ext hw1.belowB).pa hla hlm; rw [decide_eq_true (by rw [ha.eq, hb.eq])] at this; exact this) ?_ | refine HL.callB (r := .bool true) fn29 I I (fun w1 hw1 => by have := sameDe_any n.inbox n.inbox _ _ w1 (ha.ext hw1.belowB).ib (hb.ext hw1.belowB).ib hs.ib; rw [decide_eq_true rfl] at this; exact this) ?_ | intro (bk : Nat))
 refine HR.ret Tryz.func16 I [_] (fun _ _ => ⟨I, trivial⟩) ?_
 exact fun w' hw => ⟨rfl, hw.belowB⟩
end Go.Proofs.YtgdgclmkpoaagaaGreat
namespace Go.Proofs.YtgdgclmkpoaagaaGreat
open Go.GX Go.RowKit
attribute [local irreducible] Calls Run RunL RunQ RunD HR HL HD blkC ownC Rd
open Nd
theorem okN_grp {V : NV} {n : Nd} {w : World} (hg : (groupC (ndH V n)).p w) (hp : pts V.ps = n.parts) : OkN w V n := by
 have g1 := groupC_mem hg (c := cTa (sv V.ta n.table.length) n.table) (by simp)
 have g2 := groupC_mem hg (c := cLi (sv V.li n.links.length) n.links) (by simp)
 have g3 := groupC_mem hg (c := cSn (sv V.ou n.out.length) n.out) (by simp)
 have g4 := groupC_mem hg (c := cI (sv V.ch n.children.length) n.children) (by simp)
 have g5 := groupC_mem hg (c := cMa (sv V.bo n.boxes.length) n.boxes) (by simp)
 have g6 := groupC_mem hg (c := cPr (sv V.se n.seen.length) n.seen) (by simp)
 have g7 := groupC_mem hg (c := cPt (sv V.pa V.ps.length) V.ps) (by simp)
 have g8 := groupC_mem hg (c := groupC (ptG V.ps)) (by simp)
 have g9 := groupC_mem hg (c := cDe (sv V.ib n.inbox.length) n.inbox) (by simp)
 exact ⟨ownC_sl g1, ownC_sl g2, ownC_sl g3, ownC_sl g4, ownC_sl g5, ownC_sl g6, ⟨ownC_sl g7, fun p hp => ⟨ownC_sl (groupC_mem g8 (ptG_mem hp).1), ownC_sl (groupC_mem g8 (ptG_mem hp).2)⟩⟩, ownC_sl g9, hp⟩
abbrev Own (V : NV) (G : List Chunk) (n : Nd) : Prop := ∀ w2, (groupC G).p w2 → OkN w2 V n
theorem Pts.own {V : NV} {n : Nd} (h : Pts V n) : Own V (ndH V n) n := fun w2 hg => okN_grp hg h.eq
theorem sat_grp {B : Base} {G : List Chunk} {w : World} (h : Sat B G w) : Sat B [groupC G] w := by
 have h : Sat B (G ++ []) w := by rw [List.append_nil]; exact h
 exact h.group
theorem pnew_any (addr poll : Int) (w : World) :
  Calls Tryz.prog 25 #[.int .i64 addr, .int .i64 poll] w fun e w' => ∃ x : NV × List Chunk, e = .returned (.agg ⟨ndC x.1 (new addr poll)⟩) ∧ Own x.1 x.2 (new addr poll) ∧ Sat (base w) [groupC x.2] w' :=
 (snew_any addr poll w).mono fun e w' ⟨V', h1, h2, h3⟩ => ⟨(V', ndH V' _), h1, h2.own, sat_grp h3⟩
theorem psend_any (V : NV) (n : Nd) (target : Int) (ur : Bool) (text : By) (w : World) (h : OkN w V n) (hs : SmN n) (htx : text.length ≤ 9223372036854775807) :
  Calls Tryz.prog 14 #[.agg ⟨ndC V n⟩, .int .i64 target, .bool ur, str text] w fun e w' => ∃ x : NV × List Chunk, e = .returned (.tuple ⟨[.agg ⟨ndC x.1 (send n target ur text).1⟩, .int .i64 (send n target ur text).2]⟩) ∧ Own x.1 x.2 (send n target ur text).1 ∧ Sat (base w) [groupC x.2] w' :=
 (ssend_any V n target ur text w h hs htx).mono fun e w' ⟨V', h1, h2, h3⟩ => ⟨(V', ndH V' _), h1, h2.own, sat_grp h3⟩
theorem ptalk_any (V : NV) (n : Nd) (now : Int) (w : World) (h : OkN w V n) (hs : SmN n) :
  Calls Tryz.prog 22 #[.agg ⟨ndC V n⟩, .int .i64 now] w fun e w' => ∃ x : NV × List Chunk, e = .returned (.tuple ⟨[.agg ⟨ndC x.1 (talk n now).1⟩, .agg ⟨frC (talk n now).2.1⟩, .bool (talk n now).2.2]⟩) ∧ Own x.1 x.2 (talk n now).1 ∧ Sat (base w) [groupC x.2] w' :=
 (stalk_any V n now w h hs).mono fun e w' ⟨V', h1, h2, h3⟩ => ⟨(V', ndH V' _), h1, h2.own, sat_grp h3⟩
theorem phear_any (V : NV) (n : Nd) (now : Int) (f : Fr) (w : World) (h : OkN w V n) (hs : SmN n) (hfl : f.da.length ≤ 9223372036854775807) :
  Calls Tryz.prog 18 #[.agg ⟨ndC V n⟩, .int .i64 now, .agg ⟨frC f⟩] w fun e w' => ∃ x : NV × List Chunk, e = .returned (.agg ⟨ndC x.1 (hear n now f)⟩) ∧ Own x.1 x.2 (hear n now f) ∧ Sat (base w) [groupC x.2] w' :=
 (shear_any V n now f w h hs hfl).mono fun e w' ⟨V', h1, h2, h3⟩ => ⟨(V', ndH V' _), h1, h2.own, sat_grp h3⟩
structure PtSm (l : List Pt) : Prop where
 len : l.length ≤ 1000
 sm : ∀ p ∈ l, SmPt p
theorem ord_sm {n : Nd} (h : Ord n) (hp : PtSm n.parts) : SmN n :=
 ⟨Nat.le_trans (tlen h) (by decide), Nat.le_trans (llen h) (by decide), Nat.le_trans h.out (by decide), Nat.le_trans (klen h) (by decide), Nat.le_trans h.boxes (by decide), Nat.le_trans h.seen (by decide), hp.len, Nat.le_trans h.inbox (by decide), hp.sm⟩
theorem SmN.bg {n : Nd} (h : SmN n) : BgN n :=
 ⟨Nat.le_trans h.ta (by decide), Nat.le_trans h.li (by decide), Nat.le_trans h.ou (by decide), Nat.le_trans h.ch (by decide), Nat.le_trans h.bo (by decide), Nat.le_trans h.se (by decide), Nat.le_trans h.pa (by decide), Nat.le_trans h.ib (by decide), fun p hp => ⟨Nat.le_trans (h.sm p hp).1 (by decide), Nat.le_trans (h.sm p hp).2.1 (by decide)⟩⟩
end Go.Proofs.YtgdgclmkpoaagaaGreat
namespace Go.Proofs.YtgdgclmkpoaagaaGreat
open Go.GX Go.RowKit
attribute [local irreducible] Calls Run RunL RunQ RunD HR HL HD blkC ownC Rd
open Nd
theorem fn17 : IsFn Tryz.prog 17 := ⟨⟨_, _, Tryz.func17, rfl, by decide⟩⟩
theorem fn12 : IsFn Tryz.prog 12 := ⟨⟨_, _, Tryz.func12, rfl, by decide⟩⟩
structure WfN (n : Nd) : Prop where
 wt : ∀ s ∈ n.out, fits .i64 s.wt
 tr : ∀ s ∈ n.out, fits .i64 s.tr
 od : ∀ s ∈ n.out, s.f.da.length ≤ 9223372036854775807
 bd : ∀ m ∈ n.boxes, m.f.da.length ≤ 9223372036854775807
 pd : ∀ p ∈ n.parts, ∀ s ∈ p.da, s.length ≤ 9223372036854775807
structure FitN (n : Nd) : Prop where
 ta : n.table.length ≤ 60
 li : n.links.length ≤ 60
 ou : n.out.length ≤ 60
 ch : n.children.length ≤ 60
 bo : n.boxes.length ≤ 60
 se : n.seen.length ≤ 60
 pa : n.parts.length ≤ 20
 ib : n.inbox.length ≤ 300
 od : ∀ s ∈ n.out, s.f.da.length ≤ 200
 bd : ∀ m ∈ n.boxes, m.f.da.length ≤ 200
 sm : ∀ p ∈ n.parts, p.hv.length ≤ 20 ∧ p.da.length ≤ 20
theorem FitN.sm' {n : Nd} (h : FitN n) (hw : WfN n) : SmN n :=
 ⟨Nat.le_trans h.ta (by decide), Nat.le_trans h.li (by decide), Nat.le_trans h.ou (by decide), Nat.le_trans h.ch (by decide), Nat.le_trans h.bo (by decide), Nat.le_trans h.se (by decide), Nat.le_trans h.pa (by decide), Nat.le_trans h.ib (by decide), fun p hp => ⟨Nat.le_trans (h.sm p hp).1 (by decide), Nat.le_trans (h.sm p hp).2 (by decide), hw.pd p hp⟩⟩
theorem SmN.pt {n : Nd} (h : SmN n) : PtSm n.parts := ⟨h.pa, h.sm⟩
theorem long_any (f : Fr) (w : World) (hf : f.da.length ≤ 9223372036854775807) :
  Calls Tryz.prog 17 #[.agg ⟨frC f⟩] w fun e w' => e = .returned (.bool (decide ((f.da.length : Int) > 200))) ∧ Below w.heap.size w w' := by
 refine calls_hr Tryz.func17 I (Nat.le_of_ble_eq_true I) ?_
 refine HR.sub (σ' := [(0, .agg ⟨frC f⟩)]) ⟨I, trivial⟩ ?_
 repeat' (first | refine zh ?_ | intro (bk : Nat))
 refine HR.ret Tryz.func17 I [_] (fun _ _ => ⟨I, trivial⟩) ?_
 exact fun w' hw => ⟨rfl, hw.belowB⟩
theorem mail_get {l : List Ma} {i : Nat} {x : Ma} (hx : l[i]? = some x) : ∀ (k : Nat) u, (frC x.f)[k]? = some u → (cellsOf maC l)[i * 10 + 0 + k]? = some u := by
 intro k u hk
 refine cells_get maC_len hx (i := k) ?_
 show (frC x.f ++ [.int .i64 x.si])[k]? = some u
 rw [List.getElem?_append_left (List.getElem?_eq_some_iff.1 hk).1]
 exact hk
theorem large_any (V : NV) (n : Nd) (w : World) (h : OkN w V n) (hw0 : WfN n) :
  Calls Tryz.prog 12 #[.agg ⟨ndC V n⟩] w fun e w' => ∃ b : Bool, e = .returned (.bool b) ∧ (b = false → FitN n) ∧ Sat (base w) [] w' := by
 have hpl : V.ps.length = n.parts.length := by rw [← pts_len, h.eq]
 refine calls_hr Tryz.func12 I (Nat.le_of_ble_eq_true I) ?_
 refine HR.sub (σ' := [(0, .agg ⟨ndC V n⟩)]) ⟨I, trivial⟩ ?_
 repeat' (first | refine zh ?_ | refine HL.lenR (Rd.arg h.ta) I I I ?_ | refine HL.lenR (Rd.arg h.li) I I I ?_ | refine HL.lenR (Rd.arg h.ou) I I I ?_ | refine HL.lenR (Rd.arg h.bo) I I I ?_ | refine HL.lenR (Rd.arg h.ch) I I I ?_ | refine HL.lenR (Rd.arg h.se) I I I ?_ | refine HL.lenR (Rd.arg h.pa.s) I I I ?_ | refine HL.lenR (Rd.arg h.ib) I I I ?_ | apply zb ?_ ?_ | exact zc | (refine zi fun hb => ?_; try simp at hb) | intro (bk : Nat))
 refine HR.cond I (fun h1 => ?_) (fun h1 => ?_)
 ·repeat' (first | refine zh ?_ | intro (bk : Nat))
  refine HR.ret Tryz.func12 I [_] (fun _ _ => ⟨I, trivial⟩) ?_
  exact fun w' hw => ⟨true, rfl, fun e => Bool.noConfusion e, hw.pick [] I rfl⟩
 have h1 : (((((((decide ((n.table.length : Int) > 60) || decide ((n.links.length : Int) > 60)) || decide ((n.out.length : Int) > 60)) || decide ((n.boxes.length : Int) > 60)) || decide ((n.children.length : Int) > 60)) || decide ((n.seen.length : Int) > 60)) || decide ((V.ps.length : Int) > 20)) || decide ((n.inbox.length : Int) > 300)) = false := h1
 simp only [Bool.or_eq_false_iff, decide_eq_false_iff_not] at h1
 obtain ⟨⟨⟨⟨⟨⟨⟨l1, l2⟩, l3⟩, l4⟩, l5⟩, l6⟩, l7⟩, l8⟩ := h1
 have cs : (cellsOf snC n.out).length = n.out.length * 11 := cellsOf_len snC_len _
 have cm : (cellsOf maC n.boxes).length = n.boxes.length * 10 := cellsOf_len maC_len _
 have cp : (cellsOf ptC V.ps).length = V.ps.length * 6 := cellsOf_len ptC_len _
 repeat' (first | refine zh ?_ | intro (bk : Nat))
 refine HR.loop (ι := Nat) (fun i => i ≤ n.out.length ∧ ∀ j s, j < i → n.out[j]? = some s → s.f.da.length ≤ 200) (fun i => [(1, ptr bk), (2, .bool false), (3, .int .i64 (i : Int))]) (fun _ => [blkC bk (ndC V n) 31]) (fun i => n.out.length - i) 0 ⟨Nat.zero_le _, fun j x hj => absurd hj (Nat.not_lt_zero _)⟩ ⟨I, I, I, trivial⟩ Ent.refl ?_
 rintro i ⟨hi, hg⟩ ih
 repeat' (first | refine zh ?_ | refine HL.lenR (Rd.arg h.ou) I I I ?_ | intro (bk : Nat))
 refine HR.cond I (fun h2 => ?_) (fun h2 => ?_)
 ·have hlt : i < n.out.length := by have : (i : Int) < (n.out.length : Int) := of_decide_eq_true h2; omega
  obtain ⟨x, hx⟩ := getSome hlt
  repeat' (first | refine zh ?_ | refine HL.idxR (Rd.arg h.ou) elemSn i I I I I hlt ?_ | refine HL.fieldN 0 (Rd.arg h.ou) (by rw [cs]; omega) I I I I I I I ?_ | refine HL.loadE (Rd.arg h.ou) I I I I (by simp) I (frame_get hx) ?_ | refine HL.callB fn17 I I (fun w1 _ => long_any x.f w1 (hw0.od x (List.mem_of_getElem? hx))) ?_ | intro (bk : Nat))
  refine HR.cond I (fun h3 => ?_) (fun h3 => ?_)
  ·repeat' (first | refine zh ?_ | intro (bk : Nat))
   refine HR.ret Tryz.func12 I [_] (fun _ _ => ⟨I, trivial⟩) ?_
   exact fun w' hw => ⟨true, rfl, fun e => Bool.noConfusion e, hw.pick [] I rfl⟩
  ·have h3 : ¬ (x.f.da.length : Int) > 200 := of_decide_eq_false h3
   repeat' (first | refine zh ?_ | intro (bk : Nat))
   refine ih (i + 1) _ _ ⟨hlt, fun j s hj hs => ?_⟩ (by omega) ⟨I, I, I, trivial⟩ Ent.refl
   by_cases e : j = i
   ·subst e; rw [hx] at hs; cases hs; omega
   ·exact hg j s (by omega) hs
 have hie : i = n.out.length := by have : ¬ (i : Int) < (n.out.length : Int) := of_decide_eq_false h2; omega
 subst hie
 have f1 : ∀ s ∈ n.out, s.f.da.length ≤ 200 := fun s hs => by
  obtain ⟨j, hj⟩ := List.getElem?_of_mem hs
  exact hg j s (List.getElem?_eq_some_iff.1 hj).1 hj
 clear hg ih hi h2
 repeat' (first | refine zh ?_ | intro (bk : Nat))
 refine HR.loop (ι := Nat) (fun i => i ≤ n.boxes.length ∧ ∀ j s, j < i → n.boxes[j]? = some s → s.f.da.length ≤ 200) (fun i => [(1, ptr bk), (2, .bool false), (4, .int .i64 (i : Int))]) (fun _ => [blkC bk (ndC V n) 31]) (fun i => n.boxes.length - i) 0 ⟨Nat.zero_le _, fun j x hj => absurd hj (Nat.not_lt_zero _)⟩ ⟨I, I, I, trivial⟩ Ent.refl ?_
 rintro i ⟨hi, hg⟩ ih
 repeat' (first | refine zh ?_ | refine HL.lenR (Rd.arg h.bo) I I I ?_ | intro (bk : Nat))
 refine HR.cond I (fun h2 => ?_) (fun h2 => ?_)
 ·have hlt : i < n.boxes.length := by have : (i : Int) < (n.boxes.length : Int) := of_decide_eq_true h2; omega
  obtain ⟨x, hx⟩ := getSome hlt
  repeat' (first | refine zh ?_ | refine HL.idxR (Rd.arg h.bo) elemMa i I I I I hlt ?_ | refine HL.fieldN 0 (Rd.arg h.bo) (by rw [cm]; omega) I I I I I I I ?_ | refine HL.loadE (Rd.arg h.bo) I I I I (by simp) I (mail_get hx) ?_ | refine HL.callB fn17 I I (fun w1 _ => long_any x.f w1 (hw0.bd x (List.mem_of_getElem? hx))) ?_ | intro (bk : Nat))
  refine HR.cond I (fun h3 => ?_) (fun h3 => ?_)
  ·repeat' (first | refine zh ?_ | intro (bk : Nat))
   refine HR.ret Tryz.func12 I [_] (fun _ _ => ⟨I, trivial⟩) ?_
   exact fun w' hw => ⟨true, rfl, fun e => Bool.noConfusion e, hw.pick [] I rfl⟩
  ·have h3 : ¬ (x.f.da.length : Int) > 200 := of_decide_eq_false h3
   repeat' (first | refine zh ?_ | intro (bk : Nat))
   refine ih (i + 1) _ _ ⟨hlt, fun j s hj hs => ?_⟩ (by omega) ⟨I, I, I, trivial⟩ Ent.refl
   by_cases e : j = i
   ·subst e; rw [hx] at hs; cases hs; omega
   ·exact hg j s (by omega) hs
 have hie : i = n.boxes.length := by have : ¬ (i : Int) < (n.boxes.length : Int) := of_decide_eq_false h2; omega
 subst hie
 have f2 : ∀ s ∈ n.boxes, s.f.da.length ≤ 200 := fun s hs => by
  obtain ⟨j, hj⟩ := List.getElem?_of_mem hs
  exact hg j s (List.getElem?_eq_some_iff.1 hj).1 hj
 clear hg ih hi h2
 repeat' (first | refine zh ?_ | intro (bk : Nat))
 refine HR.loop (ι := Nat) (fun i => i ≤ V.ps.length ∧ ∀ j p, j < i → V.ps[j]? = some p → p.pt.hv.length ≤ 20 ∧ p.pt.da.length ≤ 20) (fun i => [(1, ptr bk), (2, .bool false), (5, .int .i64 (i : Int))]) (fun _ => [blkC bk (ndC V n) 31]) (fun i => V.ps.length - i) 0 ⟨Nat.zero_le _, fun j x hj => absurd hj (Nat.not_lt_zero _)⟩ ⟨I, I, I, trivial⟩ Ent.refl ?_
 rintro i ⟨hi, hg⟩ ih
 repeat' (first | refine zh ?_ | refine HL.lenR (Rd.arg h.pa.s) I I I ?_ | intro (bk : Nat))
 refine HR.cond I (fun h2 => ?_) (fun h2 => ?_)
 ·have hlt : i < V.ps.length := by have : (i : Int) < (V.ps.length : Int) := of_decide_eq_true h2; omega
  obtain ⟨x, hx⟩ := getSome hlt
  have hr := h.pa.r x (List.mem_of_getElem? hx)
  repeat' (first | refine zh ?_ | refine HL.idxR (Rd.arg h.pa.s) elemPt i I I I I hlt ?_ | refine HL.fieldN 4 (Rd.arg h.pa.s) (by rw [cp]; omega) I I I I I I I ?_ | refine HL.fieldN 5 (Rd.arg h.pa.s) (by rw [cp]; omega) I I I I I I I ?_ | refine HL.loadI (Rd.arg h.pa.s) I I I I (cells_get ptC_len hx (i := 4) I) ?_ | refine HL.loadI (Rd.arg h.pa.s) I I I I (cells_get ptC_len hx (i := 5) I) ?_ | refine HL.lenR (Rd.arg hr.h) I I I ?_ | refine HL.lenR (Rd.arg hr.d) I I I ?_ | apply zb ?_ ?_ | exact zc | (refine zi fun hb => ?_; try simp at hb) | intro (bk : Nat))
  refine HR.cond I (fun h3 => ?_) (fun h3 => ?_)
  ·repeat' (first | refine zh ?_ | intro (bk : Nat))
   refine HR.ret Tryz.func12 I [_] (fun _ _ => ⟨I, trivial⟩) ?_
   exact fun w' hw => ⟨true, rfl, fun e => Bool.noConfusion e, hw.pick [] I rfl⟩
  ·have h3 : (decide ((x.pt.hv.length : Int) > 20) || decide ((x.pt.da.length : Int) > 20)) = false := h3
   simp only [Bool.or_eq_false_iff, decide_eq_false_iff_not] at h3
   repeat' (first | refine zh ?_ | intro (bk : Nat))
   refine ih (i + 1) _ _ ⟨hlt, fun j s hj hs => ?_⟩ (by omega) ⟨I, I, I, trivial⟩ Ent.refl
   by_cases e : j = i
   ·subst e; rw [hx] at hs; cases hs; omega
   ·exact hg j s (by omega) hs
 have hie : i = V.ps.length := by have : ¬ (i : Int) < (V.ps.length : Int) := of_decide_eq_false h2; omega
 subst hie
 have f3 : ∀ p ∈ n.parts, p.hv.length ≤ 20 ∧ p.da.length ≤ 20 := fun p hp => by
  rw [← h.eq] at hp
  obtain ⟨q, hq, rfl⟩ := List.mem_map.1 hp
  obtain ⟨j, hj⟩ := List.getElem?_of_mem hq
  exact hg j q (List.getElem?_eq_some_iff.1 hj).1 hj
 repeat' (first | refine zh ?_ | intro (bk : Nat))
 refine HR.ret Tryz.func12 I [_] (fun _ _ => ⟨I, trivial⟩) ?_
 exact fun w' hw => ⟨false, rfl, fun _ => ⟨by omega, by omega, by omega, by omega, by omega, by omega, by omega, by omega, f1, f2, f3⟩, hw.pick [] I rfl⟩
end Go.Proofs.YtgdgclmkpoaagaaGreat
namespace Nd
open Go.GX Tp
def ex0 : Nd := ⟨3, 4, 255, [⟨3, 0, 0, 3⟩], [], [], [], [], [], [], [], 0, 0⟩
def ex1 : Nd := ⟨3, 4, 1, [⟨3, 0, 0, 3⟩], [], [], [], [], [], [], [], 0, 0⟩
def exA0 : Nd := ⟨1, 0, 255, [⟨1, 0, 0, 1⟩], [], [], [], [], [], [], [], 0, 0⟩
def exF : Fr := ⟨2, 1, 255, 1, 0, 0, 0, false, [0, 0, 1, 97]⟩
def exA : Nd := ⟨1, 0, 255, [⟨1, 0, 0, 1⟩], [], [⟨exF, 0, 0⟩], [], [], [], [], [], 1, 0⟩
def exB : Nd := ⟨1, 0, 255, [⟨1, 0, 0, 1⟩], [], [⟨exF, 1, 1⟩], [], [], [], [], [], 1, 0⟩
def exG : Fr := ⟨1, 0, 255, 0, 255, 2, 0, false, [0, 0, 2, 0]⟩
def exC : Nd := ⟨1, 0, 255, [⟨0, 2, 10, 0⟩, ⟨1, 0, 0, 1⟩], [⟨0, 1, 1⟩], [⟨exF, 0, 0⟩], [], [], [], [], [], 1, 0⟩
def exH : Fr := ⟨2, 1, 0, 1, 0, 0, 0, false, [0, 0, 1, 97]⟩
theorem ex_new : new 3 2 = ex0 := by decide +kernel
theorem ex_aw0 : awake ex0 3 = true := by decide +kernel
theorem ex_aw1 : awake ex1 2 = true ∧ awake ex1 3 = false ∧ awake ex1 4 = true := by decide +kernel
theorem ex_newA : new 1 0 = exA0 := by decide +kernel
theorem ex_send : send exA0 0 false [97] = (exA, 0) := by decide +kernel
theorem ex_talk : talk exA 0 = (exB, fr0, false) := by decide +kernel
theorem ex_enc : renc [⟨0, 2, 0, 0⟩] = [0, 0, 2, 0] := by decide +kernel
theorem ex_hear : hear exA 0 exG = exC := by decide +kernel
theorem ex_talk2 : talk exC 0 = (exC, exH, true) := by decide +kernel
end Nd
namespace Go.Proofs.YtgdgclmkpoaagaaGreat
open Go.GX Go.RowKit
attribute [local irreducible] Calls Run RunL RunQ RunD HR HL HD blkC ownC Rd
open Nd
theorem fn13 : IsFn Tryz.prog 13 := ⟨⟨_, _, Tryz.func13, rfl, by decide⟩⟩
theorem rd_of {B : Base} {H : List Chunk} {v : Value} {cs : List Value} {n : Nat} (h : ∀ w, Sat B H w → Sl w v cs n) : Rd B H v cs n := by unfold Rd; exact h
theorem sm0 {n : Nd} (h1 : n.table.length ≤ 1000) (h2 : n.links.length ≤ 1000) (h3 : n.out.length ≤ 1000) (h4 : n.children = []) (h5 : n.boxes = []) (h6 : n.seen = []) (h7 : n.parts = []) (h8 : n.inbox = []) : SmN n :=
 ⟨h1, h2, h3, by rw [h4]; decide, by rw [h5]; decide, by rw [h6]; decide, by rw [h7]; decide, by rw [h8]; decide, fun p hp => by rw [h7] at hp; cases hp⟩
theorem ok_parent {w : World} {V : NV} {n : Nd} (h : OkN w V n) (p : Int) : OkN w V { n with parent := p } := ⟨h.ta, h.li, h.ou, h.ch, h.bo, h.se, h.pa, h.ib, h.eq⟩
theorem awake_any (w0 : World) : Calls Tryz.prog 13 #[] w0 fun e w' => e = .returned (.bool true) ∧ Below w0.heap.size w0 w' := by
 have s0 : SmN ex0 := sm0 (by decide) (by decide) (by decide) I I I I I
 have s1 : SmN ex1 := sm0 (by decide) (by decide) (by decide) I I I I I
 have sA0 : SmN exA0 := sm0 (by decide) (by decide) (by decide) I I I I I
 have sA : SmN exA := sm0 (by decide) (by decide) (by decide) I I I I I
 have sC : SmN exC := sm0 (by decide) (by decide) (by decide) I I I I I
 refine calls_hr Tryz.func13 I (Nat.le_of_ble_eq_true I) ?_
 refine HR.sub (σ' := []) trivial ?_
 repeat' (first | refine zh ?_ | intro (bk : Nat))
 refine HL.callX (r := fun x : NV × List Chunk => .agg ⟨ndC x.1 ex0⟩) (Q := fun x => Own x.1 x.2 ex0) (G := fun x => [groupC x.2]) fn25 I I (fun w1 _ => by have := pnew_any 3 2 w1; rw [ex_new] at this; exact this) ?_
 rintro ⟨V0, G0⟩ h0
 have h0 : Own V0 G0 ex0 := h0
 have h1 : Own V0 G0 ex1 := fun w2 hg => ok_parent (h0 w2 hg) 1
 repeat' (first | refine zh ?_ | refine HL.callB (r := .bool true) fn27 I I (fun w1 hw1 => by have := sawake_any V0 ex0 3 w1 (h0 w1 (Sat.grp 1 hw1 I)) s0; rw [ex_aw0] at this; exact this) ?_ | intro (bk : Nat))
 repeat' (first | refine zh ?_ | refine HL.callB (r := .bool true) fn27 I I (fun w1 hw1 => by have := sawake_any V0 ex1 2 w1 (h1 w1 (Sat.grp 1 hw1 I)) s1; rw [ex_aw1.1] at this; exact this) ?_ | refine HL.callB (r := .bool false) fn27 I I (fun w1 hw1 => by have := sawake_any V0 ex1 3 w1 (h1 w1 (Sat.grp 1 hw1 I)) s1; rw [ex_aw1.2.1] at this; exact this) ?_ | refine HL.callB (r := .bool true) fn27 I I (fun w1 hw1 => by have := sawake_any V0 ex1 4 w1 (h1 w1 (Sat.grp 1 hw1 I)) s1; rw [ex_aw1.2.2] at this; exact this) ?_ | intro (bk : Nat))
 refine HL.callX (r := fun x : NV × List Chunk => .agg ⟨ndC x.1 exA0⟩) (Q := fun x => Own x.1 x.2 exA0) (G := fun x => [groupC x.2]) fn25 I I (fun w1 _ => by have := pnew_any 1 0 w1; rw [ex_newA] at this; exact this) ?_
 rintro ⟨V1, G1⟩ hA0
 have hA0 : Own V1 G1 exA0 := hA0
 refine HL.ent (H' := [groupC G1]) (Ent.pick [0] I I) ?_
 repeat' (first | refine zh ?_ | intro (bk : Nat))
 refine HL.callX (r := fun x : NV × List Chunk => .tuple ⟨[.agg ⟨ndC x.1 exA⟩, .int .i64 0]⟩) (Q := fun x => Own x.1 x.2 exA) (G := fun x => [groupC x.2]) fn14 I I (fun w1 hw1 => by have := psend_any V1 exA0 0 false [97] w1 (hA0 w1 (Sat.grp 0 hw1 I)) sA0 (by decide); rw [ex_send] at this; exact this) ?_
 rintro ⟨VA, GA⟩ hA
 have hA : Own VA GA exA := hA
 refine HL.ent (H' := [groupC GA]) (Ent.pick [0] I I) ?_
 repeat' (first | refine zh ?_ | intro (bk : Nat))
 refine HL.callX (r := fun x : NV × List Chunk => .tuple ⟨[.agg ⟨ndC x.1 exB⟩, .agg ⟨frC fr0⟩, .bool false]⟩) (Q := fun x => Own x.1 x.2 exB) (G := fun x => [groupC x.2]) fn22 I I (fun w1 hw1 => by have := ptalk_any VA exA 0 w1 (hA w1 (Sat.grp 1 hw1 I)) sA; rw [ex_talk] at this; exact this) ?_
 rintro ⟨VB, GB⟩ hB
 have hB : Own VB GB exB := hB
 repeat' (first | refine zh ?_ | refine HL.idxR (rd_of (cs := cellsOf snC exB.out) fun w hw => (hB w (Sat.grp 2 hw rfl)).ou) elemSn 0 I I I I (by decide) ?_ | refine HL.fieldN 9 (rd_of (cs := cellsOf snC exB.out) fun w hw => (hB w (Sat.grp 2 hw rfl)).ou) (by decide) I I I I I I I ?_ | refine HL.fieldN 10 (rd_of (cs := cellsOf snC exB.out) fun w hw => (hB w (Sat.grp 2 hw rfl)).ou) (by decide) I I I I I I I ?_ | refine HL.loadI (rd_of (cs := cellsOf snC exB.out) fun w hw => (hB w (Sat.grp 2 hw rfl)).ou) I I I I (cells_get (E := snC) snC_len (l := exB.out) (j := 0) I (i := 9) I) ?_ | refine HL.loadI (rd_of (cs := cellsOf snC exB.out) fun w hw => (hB w (Sat.grp 2 hw rfl)).ou) I I I I (cells_get (E := snC) snC_len (l := exB.out) (j := 0) I (i := 10) I) ?_ | intro (bk : Nat))
 refine HR.ent (Ent.pick [3, 4] I I) ?_
 refine HR.join (ι := NV × List Chunk × Nat) (fun x => Own x.1 x.2.1 exC) (fun x => [(7, ptr x.2.2)]) (fun x => [blkC x.2.2 (ndC x.1 exC) 31, groupC x.2.1]) (fun x hx => ?_) (fun hj => ?_)
 rotate_left
 ·refine HR.regionA [0, 1] I I hmix ?_
  refine za 0 ?_
  refine za 1 ?_
  refine HA.two 2 6 (by kernel_rfl) I I ?_ ?_
  ·refine HL.bslice elemRo I I I I I (by decide) (by decide) ?_
   intro va
   refine HL.backA [1, 2] I I ?_
   refine HA.two 3 6 (by kernel_rfl) I I ?_ ?_
   ·refine HL.callB (r := str [0, 0, 2, 0]) fn38 I I (fun w1 hw1 => by have := renc_any [⟨0, 2, 0, 0⟩] va w1 ((Rd.own 0 rfl).at hw1) (by decide); rw [ex_enc] at this; exact this) ?_
    refine HL.backA [1, 2] I I ?_
    refine za 4 ?_
    refine HA.two 5 6 (by kernel_rfl) I I ?_ ?_
    ·refine HL.callX (r := fun x : NV × List Chunk => .agg ⟨ndC x.1 exC⟩) (Q := fun x => Own x.1 x.2 exC) (G := fun x => [groupC x.2]) fn18 I I (fun w1 hw1 => by have := phear_any VA exA 0 exG w1 (hA w1 (Sat.grp 2 hw1 I)) sA (by decide); rw [ex_hear] at this; exact this) ?_
     rintro ⟨VC, GC⟩ hC
     refine HL.backA [2, 3] I I ?_
     refine HA.one 6 (by kernel_rfl) I ?_
     refine HL.alloc I I ?_
     intro b7
     refine HL.backA [3, 4] I I ?_
     refine HA.one 7 (by kernel_rfl) I ?_
     refine HL.S 0 I I I I I ?_
     refine HL.backA [3, 4] I I ?_
     refine HA.done (by kernel_rfl) ?_
     exact hj (VC, GC, b7) _ _ hC ⟨I, trivial⟩ (Ent.pick [0, 1] I I)
    ·refine HL.alloc I I ?_
     intro b7
     refine HL.backA [2, 3] I I ?_
     refine HA.one 5 (by kernel_rfl) I ?_
     refine HL.callX (r := fun x : NV × List Chunk => .agg ⟨ndC x.1 exC⟩) (Q := fun x => Own x.1 x.2 exC) (G := fun x => [groupC x.2]) fn18 I I (fun w1 hw1 => by have := phear_any VA exA 0 exG w1 (hA w1 (Sat.grp 3 hw1 I)) sA (by decide); rw [ex_hear] at this; exact this) ?_
     rintro ⟨VC, GC⟩ hC
     refine HL.backA [3, 4] I I ?_
     refine HA.one 7 (by kernel_rfl) I ?_
     refine HL.S 1 I I I I I ?_
     refine HL.backA [3, 4] I I ?_
     refine HA.done (by kernel_rfl) ?_
     exact hj (VC, GC, b7) _ _ hC ⟨I, trivial⟩ (Ent.pick [1, 0] I I)
   ·refine HL.alloc I I ?_
    intro b7
    refine HL.backA [2, 3] I I ?_
    refine HA.one 3 (by kernel_rfl) I ?_
    refine HL.callB (r := str [0, 0, 2, 0]) fn38 I I (fun w1 hw1 => by have := renc_any [⟨0, 2, 0, 0⟩] va w1 ((Rd.own 1 rfl).at hw1) (by decide); rw [ex_enc] at this; exact this) ?_
    refine HL.backA [2, 3] I I ?_
    refine za 4 ?_
    refine HA.one 5 (by kernel_rfl) I ?_
    refine HL.callX (r := fun x : NV × List Chunk => .agg ⟨ndC x.1 exC⟩) (Q := fun x => Own x.1 x.2 exC) (G := fun x => [groupC x.2]) fn18 I I (fun w1 hw1 => by have := phear_any VA exA 0 exG w1 (hA w1 (Sat.grp 3 hw1 I)) sA (by decide); rw [ex_hear] at this; exact this) ?_
    rintro ⟨VC, GC⟩ hC
    refine HL.backA [3, 4] I I ?_
    refine HA.one 7 (by kernel_rfl) I ?_
    refine HL.S 1 I I I I I ?_
    refine HL.backA [3, 4] I I ?_
    refine HA.done (by kernel_rfl) ?_
    exact hj (VC, GC, b7) _ _ hC ⟨I, trivial⟩ (Ent.pick [1, 0] I I)
  ·refine HL.alloc I I ?_
   intro b7
   refine HL.backA [1, 2] I I ?_
   refine HA.one 2 (by kernel_rfl) I ?_
   refine HL.bslice elemRo I I I I I (by decide) (by decide) ?_
   intro va
   refine HL.backA [2, 3] I I ?_
   refine HA.one 3 (by kernel_rfl) I ?_
   refine HL.callB (r := str [0, 0, 2, 0]) fn38 I I (fun w1 hw1 => by have := renc_any [⟨0, 2, 0, 0⟩] va w1 ((Rd.own 0 rfl).at hw1) (by decide); rw [ex_enc] at this; exact this) ?_
   refine HL.backA [2, 3] I I ?_
   refine za 4 ?_
   refine HA.one 5 (by kernel_rfl) I ?_
   refine HL.callX (r := fun x : NV × List Chunk => .agg ⟨ndC x.1 exC⟩) (Q := fun x => Own x.1 x.2 exC) (G := fun x => [groupC x.2]) fn18 I I (fun w1 hw1 => by have := phear_any VA exA 0 exG w1 (hA w1 (Sat.grp 3 hw1 I)) sA (by decide); rw [ex_hear] at this; exact this) ?_
   rintro ⟨VC, GC⟩ hC
   refine HL.backA [3, 4] I I ?_
   refine HA.one 7 (by kernel_rfl) I ?_
   refine HL.S 2 I I I I I ?_
   refine HL.backA [3, 4] I I ?_
   refine HA.done (by kernel_rfl) ?_
   exact hj (VC, GC, b7) _ _ hC ⟨I, trivial⟩ (Ent.pick [2, 0] I I)
 obtain ⟨VC, GC, b7⟩ := x
 have hC : Own VC GC exC := hx
 repeat' (first | refine zh ?_ | intro (bk : Nat))
 refine HL.callX (r := fun x : NV × List Chunk => .tuple ⟨[.agg ⟨ndC x.1 exC⟩, .agg ⟨frC exH⟩, .bool true]⟩) (Q := fun x => Own x.1 x.2 exC) (G := fun x => [groupC x.2]) fn22 I I (fun w1 hw1 => by have := ptalk_any VC exC 0 w1 (hC w1 (Sat.grp 1 hw1 I)) sC; rw [ex_talk2] at this; exact this) ?_
 rintro ⟨VD, GD⟩ hD
 repeat' (first | refine zh ?_ | intro (bk : Nat))
 refine HL.bslice elemRo I I I I I (by decide) (by decide) ?_
 intro va
 repeat' (first | refine zh ?_ | refine HL.callB (r := .bool true) fn39 I I (fun w1 hw1 => by have := sameRo_any exC.table exC.table _ va w1 (hC w1 (Sat.grp 5 hw1 rfl)).ta ((Rd.own 0 rfl).at hw1) (by decide); rw [decide_eq_true rfl] at this; exact this) ?_ | intro (bk : Nat))
 refine HR.ret Tryz.func13 I [_] (fun _ _ => ⟨I, trivial⟩) ?_
 exact fun w' hw => ⟨rfl, hw.belowB⟩
end Go.Proofs.YtgdgclmkpoaagaaGreat
namespace Go.GX
open Go.RowKit Go.ChangeShapes Go.WideShapes
section
variable {H : Type} {enc : TypeId × Value → H} {P : Program} {w : World}
def Opens (enc : TypeId × Value → H) (P : Program) (w : World) (t : TypeId) {α : Type} (E : α → List Value) (good : α → Prop) : Prop :=
 ∀ (fuel : Nat) (cs : List Value) (x : DataW H × List MemPlace), DataW.trod enc P w 0 (fun _ => true) true fuel t cs = some x → ∃ a, cs = E a ∧ good a
theorem Opens.int {t : TypeId} {k : IntKind} (ht : P.underlying t = some (.int k)) : Opens enc P w t (fun n : Int => [Value.int k n]) (fun n => (Lit.int k n).wf = true) := by
 intro fuel cs x h
 cases fuel with
 | zero => cases h
 | succ fuel =>
  unfold DataW.trod at h
  rw [ht] at h
  split at h
  all_goals first
   | cases h; done
   | (rename_i h1; cases h1; done)
   | skip
  rename_i k0 k' n h1
  cases h1
  split at h
  ·rename_i hk; obtain ⟨rfl, hw⟩ := hk; exact ⟨n, rfl, hw⟩
  ·cases h
theorem Opens.str {t : TypeId} (ht : P.underlying t = some .string) : Opens enc P w t (fun s : List UInt8 => [str s]) (fun s => s.length ≤ 9223372036854775807) := by
 intro fuel cs x h
 cases fuel with
 | zero => cases h
 | succ fuel =>
  unfold DataW.trod at h
  rw [ht] at h
  split at h
  all_goals first
   | cases h; done
   | (rename_i h1; cases h1; done)
   | skip
  rename_i s h1
  split at h
  ·rename_i hs; exact ⟨s.data.toList, rfl, by unfold maxLen at hs; have : s.data.toList.length = s.size := rfl; omega⟩
  ·cases h
theorem Opens.bool {t : TypeId} (ht : P.underlying t = some .bool) : Opens enc P w t (fun b : Bool => [Value.bool b]) (fun _ => True) := by
 intro fuel cs x h
 cases fuel with
 | zero => cases h
 | succ fuel =>
  unfold DataW.trod at h
  rw [ht] at h
  split at h
  all_goals first
   | cases h; done
   | (rename_i h1; cases h1; done)
   | skip
  rename_i b h1
  exact ⟨b, rfl, trivial⟩
theorem mapM_some {α β : Type} {f : α → Option β} : ∀ {l : List α} {r : List β}, l.mapM f = some r → ∀ a ∈ l, ∃ b, f a = some b
 | [], r, h, a, ha => by cases ha
 | x :: l, r, h, a, ha => by
  simp only [List.mapM_cons, Option.bind_eq_bind, Option.pure_def] at h
  cases hx : f x with
  | none => rw [hx] at h; cases h
  | some b =>
   rw [hx] at h
   simp only [Option.bind_some] at h
   cases hl : l.mapM f with
   | none => rw [hl] at h; cases h
   | some r' =>
    rcases List.mem_cons.1 ha with rfl | ha
    ·exact ⟨b, hx⟩
    ·exact mapM_some hl a ha
theorem cells?_get {base n : Nat} {a : Addr} {cs : List Value} (h : w.cells? base a n = some cs) : cs.length = n ∧ ∀ (j : Nat) u, cs[j]? = some u → w.cell? (a.add j) = some u := by
 unfold World.cells? at h
 split at h
 ·have key : ∀ (l : List Nat) (r : List Value), l.mapM (fun i => w.cell? (a.add i)) = some r → r.length = l.length ∧ ∀ (j : Nat) u, r[j]? = some u → ∃ i, l[j]? = some i ∧ w.cell? (a.add i) = some u := by
   intro l
   induction l with
   | nil => intro r h; simp at h; subst h; exact ⟨rfl, fun j u hu => by simp at hu⟩
   | cons i l ih =>
    intro r h
    simp only [List.mapM_cons, Option.bind_eq_bind, Option.pure_def] at h
    cases hx : w.cell? (a.add i) with
    | none => rw [hx] at h; cases h
    | some b =>
     rw [hx] at h
     simp only [Option.bind_some] at h
     cases hl : l.mapM (fun i => w.cell? (a.add i)) with
     | none => rw [hl] at h; cases h
     | some r' =>
      rw [hl] at h
      simp only [Option.bind_some, Option.some.injEq] at h
      subst h
      obtain ⟨h1, h2⟩ := ih r' hl
      refine ⟨by simp [h1], fun j u hu => ?_⟩
      cases j with
      | zero => simp at hu; subst hu; exact ⟨i, rfl, hx⟩
      | succ j => simp at hu; simpa using h2 j u hu
  obtain ⟨h1, h2⟩ := key _ _ h
  refine ⟨by simpa using h1, fun j u hu => ?_⟩
  obtain ⟨i, hi, hc⟩ := h2 j u hu
  have hj : j < n := by
   have := (List.getElem?_eq_some_iff.1 hi).1; simpa using this
  simp [hj] at hi
  subst hi; exact hc
 ·cases h
theorem Opens.slice {t e : TypeId} {α : Type} {E : α → List Value} {good : α → Prop} {sz : Nat} (ht : P.underlying t = some (.slice e)) (hc : P.cellsOf e = sz) (hpos : 0 < sz) (hE : ∀ a, (E a).length = sz) (he : Opens enc P w e E good) :
  Opens enc P w t (fun p : Value × List α => [p.1]) (fun p => Sl w p.1 (cellsOf E p.2) p.2.length ∧ p.2.length ≤ 9223372036854775807 ∧ ∀ a ∈ p.2, good a) := by
 intro fuel cs x h
 cases fuel with
 | zero => cases h
 | succ fuel =>
  unfold DataW.trod at h
  simp only [ht] at h
  split at h
  all_goals first
   | cases h; done
   | (rename_i h1; cases h1; done)
   | skip
  ·exact ⟨(.slice none 0 0, []), rfl, Sl.nil w, by simp, fun a ha => by cases ha⟩
  ·rename_i e0 a len cap h1
   cases h1
   split at h
   ·rename_i hb
    rw [hc] at h
    cases hm : (List.range len).mapM (fun i => (w.cells? 0 (a.add (i * sz)) sz).bind (DataW.trod enc P w 0 (fun _ => true) true fuel e)) with
    | none => rw [hm] at h; cases h
    | some r =>
     clear h
     have hx := mapM_some hm
     have : ∀ i, i < len → ∃ b : α, good b ∧ ∀ (j : Nat) u, (E b)[j]? = some u → w.cell? ((a.add (i * sz)).add j) = some u := by
      intro i hi
      obtain ⟨y, hy⟩ := hx i (List.mem_range.2 hi)
      cases hcs : w.cells? 0 (a.add (i * sz)) sz with
      | none => rw [hcs] at hy; cases hy
      | some cs =>
       rw [hcs] at hy
       obtain ⟨b, rfl, hg⟩ := he fuel cs y hy
       exact ⟨b, hg, (cells?_get hcs).2⟩
     have hlist : ∀ n, n ≤ len → ∃ l : List α, l.length = n ∧ (∀ b ∈ l, good b) ∧ ∀ (i : Nat) b, l[i]? = some b → ∀ (j : Nat) u, (E b)[j]? = some u → w.cell? ((a.add (i * sz)).add j) = some u := by
      intro n
      induction n with
      | zero => intro _; exact ⟨[], rfl, (fun b hb => by cases hb), fun i b hb => by simp at hb⟩
      | succ n ih =>
       intro hn
       obtain ⟨l, h1, h2, h3⟩ := ih (by omega)
       obtain ⟨b, g1, g2⟩ := this n (by omega)
       refine ⟨l ++ [b], by simp [h1], fun c hc => ?_, fun i c hc => ?_⟩
       ·rcases List.mem_append.1 hc with hc | hc
        ·exact h2 c hc
        ·simp at hc; subst hc; exact g1
       ·by_cases hi : i < l.length
        ·rw [List.getElem?_append_left hi] at hc; exact h3 i c hc
        ·have : i = n := by have := (List.getElem?_eq_some_iff.1 hc).1; simp at this; omega
         subst this
         rw [List.getElem?_append_right (by omega), h1] at hc
         simp at hc; subst hc; exact g2
     obtain ⟨l, h1, h2, h3⟩ := hlist len (Nat.le_refl _)
     refine ⟨(.slice (some a) len cap, l), rfl, ⟨?_, some a, cap, by simp [h1], by rw [h1]; exact hb.2.1⟩, by rw [h1]; have := hb.2.2; have := hb.2.1; unfold maxLen at *; omega, h2⟩
     by_cases h0 : len = 0
     ·subst h0
      have : l = [] := List.eq_nil_of_length_eq_zero h1
      subst this
      exact .inl ⟨.inr ⟨a, cap, rfl⟩, rfl, rfl⟩
     ·obtain ⟨b, off, spot⟩ := a
      obtain ⟨b0, hb0⟩ := getSome (show 0 < l.length by omega)
      obtain ⟨u0, hu0⟩ := getSome (show 0 < (E b0).length by rw [hE]; exact hpos)
      have hc0 := h3 0 b0 hb0 0 u0 hu0
      have hspot : spot = none := by simpa [Addr.add] using World.cell?_spot hc0
      subst hspot
      have hadd : ∀ b off j, (⟨b, off, none⟩ : Addr).add j = ⟨b, off + j, none⟩ := fun b off j => by unfold Addr.add; split <;> simp_all
      refine .inr ⟨b, off, cap, by simp [h1], fun j u hu => ?_⟩
      have hjl : j < (cellsOf E l).length := (List.getElem?_eq_some_iff.1 hu).1
      rw [cellsOf_len hE, h1] at hjl
      have hdiv : j / sz < len := Nat.div_lt_of_lt_mul (by rw [Nat.mul_comm]; exact hjl)
      have hmod : j % sz < sz := Nat.mod_lt _ hpos
      obtain ⟨c, hc⟩ := getSome (show j / sz < l.length by omega)
      obtain ⟨u', hu'⟩ := getSome (show j % sz < (E c).length by rw [hE]; exact hmod)
      have hj : j / sz * sz + j % sz = j := by rw [Nat.mul_comm]; exact Nat.div_add_mod j sz
      have hg := cellsOf_get hE hc (j % sz) u' hu'
      rw [hj, hu] at hg
      cases hg
      have := h3 _ c hc _ u hu'
      rw [hadd, hadd, Nat.add_assoc, hj] at this
      exact this
   ·cases h
theorem Opens.fields {t : TypeId} {fs : Array Field} (ht : P.underlying t = some (.struct fs)) {fuel : Nat} {cs : List Value} {x : DataW H × List MemPlace} (h : DataW.trod enc P w 0 (fun _ => true) true fuel t cs = some x) :
  cs.length = P.cellsOf t ∧ ∀ f ∈ fs.toList, ∃ fuel' y, DataW.trod enc P w 0 (fun _ => true) true fuel' f.type ((cs.drop f.offset).take (P.cellsOf f.type)) = some y := by
 cases fuel with
 | zero => cases h
 | succ fuel =>
  unfold DataW.trod at h
  simp only [ht] at h
  split at h
  ·rename_i hl
   refine ⟨hl, fun f hf => ?_⟩
   cases hm : fs.toList.mapM (fun f => DataW.trod enc P w 0 (fun _ => true) true fuel f.type ((cs.drop f.offset).take (P.cellsOf f.type))) with
   | none => rw [hm] at h; cases h
   | some r => obtain ⟨y, hy⟩ := mapM_some hm f hf; exact ⟨fuel, y, hy⟩
  ·cases h
theorem parts_eq {cs p : List Value} {o n m : Nat} (h : (cs.drop o).take n = p) (hp : p.length = n) (ho : o + n = m) : cs.drop o = p ++ cs.drop m := by
 rw [← h, ← ho, ← List.drop_drop, List.take_append_drop]
end
end Go.GX
namespace Go.Proofs.YtgdgclmkpoaagaaGreat
open Go.GX Go.RowKit
attribute [local irreducible] Calls Run RunL RunQ RunD HR HL HD blkC ownC Rd
open Nd
variable {H : Type} {enc : TypeId × Value → H} {W : World}
theorem sl_shape {w : World} {v : Value} {cs : List Value} {n : Nat} (h : Sl w v cs n) : ∃ x : SV, v = sv x n := by
 obtain ⟨_, a, c, e, _⟩ := h
 exact ⟨(a, c), e⟩
theorem wfI {n : Int} (h : (Lit.int .i64 n).wf = true) : GX.fits .i64 n := by
 have h : (decide (-9223372036854775808 ≤ n) && decide (n ≤ 9223372036854775807)) = true := h
 simp only [Bool.and_eq_true, decide_eq_true_eq] at h
 exact h
theorem opT25 : Opens enc Tryz.prog W 25 (fun p : Value × List Int => [p.1]) (fun p => Sl W p.1 (cellsOf iC p.2) p.2.length ∧ p.2.length ≤ 9223372036854775807 ∧ ∀ a ∈ p.2, (Lit.int .i64 a).wf = true) :=
 Opens.slice (sz := 1) I (by kernel_rfl) (by decide) iC_len (Opens.int I)
theorem opT74 : Opens enc Tryz.prog W 74 (fun p : Value × List Bool => [p.1]) (fun p => Sl W p.1 (cellsOf bC p.2) p.2.length ∧ p.2.length ≤ 9223372036854775807 ∧ ∀ a ∈ p.2, True) :=
 Opens.slice (sz := 1) I (by kernel_rfl) (by decide) bC_len (Opens.bool I)
theorem opT66 : Opens enc Tryz.prog W 66 (fun p : Value × List By => [p.1]) (fun p => Sl W p.1 (cellsOf sC p.2) p.2.length ∧ p.2.length ≤ 9223372036854775807 ∧ ∀ a ∈ p.2, a.length ≤ 9223372036854775807) :=
 Opens.slice (sz := 1) I (by kernel_rfl) (by decide) sC_len (Opens.str I)
theorem opT42 : Opens enc Tryz.prog W 42 frC (fun f => f.da.length ≤ 9223372036854775807) := by
 intro fuel cs x h
 obtain ⟨hl, hf⟩ := Opens.fields (fs := _) I h
 have cT : Tryz.prog.cellsOf 42 = 9 := by kernel_rfl
 have cf0 : Tryz.prog.cellsOf 3 = 1 := by kernel_rfl
 have cf1 : Tryz.prog.cellsOf 4 = 1 := by kernel_rfl
 have cf2 : Tryz.prog.cellsOf 9 = 1 := by kernel_rfl
 rw [cT] at hl
 obtain ⟨fu0, y0, h0⟩ := hf _ (List.mem_cons_self ..)
 obtain ⟨fu1, y1, h1⟩ := hf _ (List.mem_cons_of_mem _ (List.mem_cons_self ..))
 obtain ⟨fu2, y2, h2⟩ := hf _ (List.mem_cons_of_mem _ (List.mem_cons_of_mem _ (List.mem_cons_self ..)))
 obtain ⟨fu3, y3, h3⟩ := hf _ (List.mem_cons_of_mem _ (List.mem_cons_of_mem _ (List.mem_cons_of_mem _ (List.mem_cons_self ..))))
 obtain ⟨fu4, y4, h4⟩ := hf _ (List.mem_cons_of_mem _ (List.mem_cons_of_mem _ (List.mem_cons_of_mem _ (List.mem_cons_of_mem _ (List.mem_cons_self ..)))))
 obtain ⟨fu5, y5, h5⟩ := hf _ (List.mem_cons_of_mem _ (List.mem_cons_of_mem _ (List.mem_cons_of_mem _ (List.mem_cons_of_mem _ (List.mem_cons_of_mem _ (List.mem_cons_self ..))))))
 obtain ⟨fu6, y6, h6⟩ := hf _ (List.mem_cons_of_mem _ (List.mem_cons_of_mem _ (List.mem_cons_of_mem _ (List.mem_cons_of_mem _ (List.mem_cons_of_mem _ (List.mem_cons_of_mem _ (List.mem_cons_self ..)))))))
 obtain ⟨fu7, y7, h7⟩ := hf _ (List.mem_cons_of_mem _ (List.mem_cons_of_mem _ (List.mem_cons_of_mem _ (List.mem_cons_of_mem _ (List.mem_cons_of_mem _ (List.mem_cons_of_mem _ (List.mem_cons_of_mem _ (List.mem_cons_self ..))))))))
 obtain ⟨fu8, y8, h8⟩ := hf _ (List.mem_cons_of_mem _ (List.mem_cons_of_mem _ (List.mem_cons_of_mem _ (List.mem_cons_of_mem _ (List.mem_cons_of_mem _ (List.mem_cons_of_mem _ (List.mem_cons_of_mem _ (List.mem_cons_of_mem _ (List.mem_cons_self ..)))))))))
 obtain ⟨a0, g0, b0⟩ := Opens.int (k := .i64) I fu0 _ _ h0
 obtain ⟨a1, g1, b1⟩ := Opens.int (k := .i64) I fu1 _ _ h1
 obtain ⟨a2, g2, b2⟩ := Opens.int (k := .i64) I fu2 _ _ h2
 obtain ⟨a3, g3, b3⟩ := Opens.int (k := .i64) I fu3 _ _ h3
 obtain ⟨a4, g4, b4⟩ := Opens.int (k := .i64) I fu4 _ _ h4
 obtain ⟨a5, g5, b5⟩ := Opens.int (k := .i64) I fu5 _ _ h5
 obtain ⟨a6, g6, b6⟩ := Opens.int (k := .i64) I fu6 _ _ h6
 obtain ⟨a7, g7, b7⟩ := Opens.bool rfl fu7 _ _ h7
 obtain ⟨a8, g8, b8⟩ := Opens.str rfl fu8 _ _ h8
 have e0 := parts_eq g0 (m := 1) (by simp [cf0]) (by simp [cf0])
 have e1 := parts_eq g1 (m := 2) (by simp [cf0]) (by simp [cf0])
 have e2 := parts_eq g2 (m := 3) (by simp [cf0]) (by simp [cf0])
 have e3 := parts_eq g3 (m := 4) (by simp [cf0]) (by simp [cf0])
 have e4 := parts_eq g4 (m := 5) (by simp [cf0]) (by simp [cf0])
 have e5 := parts_eq g5 (m := 6) (by simp [cf0]) (by simp [cf0])
 have e6 := parts_eq g6 (m := 7) (by simp [cf0]) (by simp [cf0])
 have e7 := parts_eq g7 (m := 8) (by simp [cf1]) (by simp [cf1])
 have e8 := parts_eq g8 (m := 9) (by simp [cf2]) (by simp [cf2])
 refine ⟨⟨a0, a1, a2, a3, a4, a5, a6, a7, a8⟩, ?_, b8⟩
 simp only [List.drop_zero] at e0
 rw [e0, e1, e2, e3, e4, e5, e6, e7, e8, List.drop_eq_nil_of_le (by omega)]; rfl
theorem opT79 : Opens enc Tryz.prog W 79 roC (fun _ => True) := by
 intro fuel cs x h
 obtain ⟨hl, hf⟩ := Opens.fields (fs := _) I h
 have cT : Tryz.prog.cellsOf 79 = 4 := by kernel_rfl
 have cf0 : Tryz.prog.cellsOf 3 = 1 := by kernel_rfl
 rw [cT] at hl
 obtain ⟨fu0, y0, h0⟩ := hf _ (List.mem_cons_self ..)
 obtain ⟨fu1, y1, h1⟩ := hf _ (List.mem_cons_of_mem _ (List.mem_cons_self ..))
 obtain ⟨fu2, y2, h2⟩ := hf _ (List.mem_cons_of_mem _ (List.mem_cons_of_mem _ (List.mem_cons_self ..)))
 obtain ⟨fu3, y3, h3⟩ := hf _ (List.mem_cons_of_mem _ (List.mem_cons_of_mem _ (List.mem_cons_of_mem _ (List.mem_cons_self ..))))
 obtain ⟨a0, g0, b0⟩ := Opens.int (k := .i64) I fu0 _ _ h0
 obtain ⟨a1, g1, b1⟩ := Opens.int (k := .i64) I fu1 _ _ h1
 obtain ⟨a2, g2, b2⟩ := Opens.int (k := .i64) I fu2 _ _ h2
 obtain ⟨a3, g3, b3⟩ := Opens.int (k := .i64) I fu3 _ _ h3
 have e0 := parts_eq g0 (m := 1) (by simp [cf0]) (by simp [cf0])
 have e1 := parts_eq g1 (m := 2) (by simp [cf0]) (by simp [cf0])
 have e2 := parts_eq g2 (m := 3) (by simp [cf0]) (by simp [cf0])
 have e3 := parts_eq g3 (m := 4) (by simp [cf0]) (by simp [cf0])
 refine ⟨⟨a0, a1, a2, a3⟩, ?_, trivial⟩
 simp only [List.drop_zero] at e0
 rw [e0, e1, e2, e3, List.drop_eq_nil_of_le (by omega)]; rfl
theorem opT129 : Opens enc Tryz.prog W 129 liC (fun _ => True) := by
 intro fuel cs x h
 obtain ⟨hl, hf⟩ := Opens.fields (fs := _) I h
 have cT : Tryz.prog.cellsOf 129 = 3 := by kernel_rfl
 have cf0 : Tryz.prog.cellsOf 3 = 1 := by kernel_rfl
 rw [cT] at hl
 obtain ⟨fu0, y0, h0⟩ := hf _ (List.mem_cons_self ..)
 obtain ⟨fu1, y1, h1⟩ := hf _ (List.mem_cons_of_mem _ (List.mem_cons_self ..))
 obtain ⟨fu2, y2, h2⟩ := hf _ (List.mem_cons_of_mem _ (List.mem_cons_of_mem _ (List.mem_cons_self ..)))
 obtain ⟨a0, g0, b0⟩ := Opens.int (k := .i64) I fu0 _ _ h0
 obtain ⟨a1, g1, b1⟩ := Opens.int (k := .i64) I fu1 _ _ h1
 obtain ⟨a2, g2, b2⟩ := Opens.int (k := .i64) I fu2 _ _ h2
 have e0 := parts_eq g0 (m := 1) (by simp [cf0]) (by simp [cf0])
 have e1 := parts_eq g1 (m := 2) (by simp [cf0]) (by simp [cf0])
 have e2 := parts_eq g2 (m := 3) (by simp [cf0]) (by simp [cf0])
 refine ⟨⟨a0, a1, a2⟩, ?_, trivial⟩
 simp only [List.drop_zero] at e0
 rw [e0, e1, e2, List.drop_eq_nil_of_le (by omega)]; rfl
theorem opT135 : Opens enc Tryz.prog W 135 prC (fun _ => True) := by
 intro fuel cs x h
 obtain ⟨hl, hf⟩ := Opens.fields (fs := _) I h
 have cT : Tryz.prog.cellsOf 135 = 2 := by kernel_rfl
 have cf0 : Tryz.prog.cellsOf 3 = 1 := by kernel_rfl
 rw [cT] at hl
 obtain ⟨fu0, y0, h0⟩ := hf _ (List.mem_cons_self ..)
 obtain ⟨fu1, y1, h1⟩ := hf _ (List.mem_cons_of_mem _ (List.mem_cons_self ..))
 obtain ⟨a0, g0, b0⟩ := Opens.int (k := .i64) I fu0 _ _ h0
 obtain ⟨a1, g1, b1⟩ := Opens.int (k := .i64) I fu1 _ _ h1
 have e0 := parts_eq g0 (m := 1) (by simp [cf0]) (by simp [cf0])
 have e1 := parts_eq g1 (m := 2) (by simp [cf0]) (by simp [cf0])
 refine ⟨⟨a0, a1⟩, ?_, trivial⟩
 simp only [List.drop_zero] at e0
 rw [e0, e1, List.drop_eq_nil_of_le (by omega)]; rfl
theorem opT70 : Opens enc Tryz.prog W 70 deC (fun _ => True) := by
 intro fuel cs x h
 obtain ⟨hl, hf⟩ := Opens.fields (fs := _) I h
 have cT : Tryz.prog.cellsOf 70 = 2 := by kernel_rfl
 have cf0 : Tryz.prog.cellsOf 3 = 1 := by kernel_rfl
 have cf1 : Tryz.prog.cellsOf 9 = 1 := by kernel_rfl
 rw [cT] at hl
 obtain ⟨fu0, y0, h0⟩ := hf _ (List.mem_cons_self ..)
 obtain ⟨fu1, y1, h1⟩ := hf _ (List.mem_cons_of_mem _ (List.mem_cons_self ..))
 obtain ⟨a0, g0, b0⟩ := Opens.int (k := .i64) I fu0 _ _ h0
 obtain ⟨a1, g1, b1⟩ := Opens.str rfl fu1 _ _ h1
 have e0 := parts_eq g0 (m := 1) (by simp [cf0]) (by simp [cf0])
 have e1 := parts_eq g1 (m := 2) (by simp [cf1]) (by simp [cf1])
 refine ⟨⟨a0, a1⟩, ?_, trivial⟩
 simp only [List.drop_zero] at e0
 rw [e0, e1, List.drop_eq_nil_of_le (by omega)]; rfl
theorem opT48 : Opens enc Tryz.prog W 48 snC (fun s => s.f.da.length ≤ 9223372036854775807 ∧ GX.fits .i64 s.tr ∧ GX.fits .i64 s.wt) := by
 intro fuel cs x h
 obtain ⟨hl, hf⟩ := Opens.fields (fs := _) I h
 have cT : Tryz.prog.cellsOf 48 = 11 := by kernel_rfl
 have cf0 : Tryz.prog.cellsOf 42 = 9 := by kernel_rfl
 have cf1 : Tryz.prog.cellsOf 3 = 1 := by kernel_rfl
 rw [cT] at hl
 obtain ⟨fu0, y0, h0⟩ := hf _ (List.mem_cons_self ..)
 obtain ⟨fu1, y1, h1⟩ := hf _ (List.mem_cons_of_mem _ (List.mem_cons_self ..))
 obtain ⟨fu2, y2, h2⟩ := hf _ (List.mem_cons_of_mem _ (List.mem_cons_of_mem _ (List.mem_cons_self ..)))
 obtain ⟨a0, g0, b0⟩ := opT42 fu0 _ _ h0
 obtain ⟨a1, g1, b1⟩ := Opens.int (k := .i64) I fu1 _ _ h1
 obtain ⟨a2, g2, b2⟩ := Opens.int (k := .i64) I fu2 _ _ h2
 have e0 := parts_eq g0 (m := 9) (by simp [cf0]) (by simp [cf0])
 have e1 := parts_eq g1 (m := 10) (by simp [cf1]) (by simp [cf1])
 have e2 := parts_eq g2 (m := 11) (by simp [cf1]) (by simp [cf1])
 refine ⟨⟨a0, a1, a2⟩, ?_, ⟨b0, wfI b1, wfI b2⟩⟩
 simp only [List.drop_zero] at e0
 rw [e0, e1, e2, List.drop_eq_nil_of_le (by omega)]; rfl
theorem opT73 : Opens enc Tryz.prog W 73 maC (fun s => s.f.da.length ≤ 9223372036854775807) := by
 intro fuel cs x h
 obtain ⟨hl, hf⟩ := Opens.fields (fs := _) I h
 have cT : Tryz.prog.cellsOf 73 = 10 := by kernel_rfl
 have cf0 : Tryz.prog.cellsOf 42 = 9 := by kernel_rfl
 have cf1 : Tryz.prog.cellsOf 3 = 1 := by kernel_rfl
 rw [cT] at hl
 obtain ⟨fu0, y0, h0⟩ := hf _ (List.mem_cons_self ..)
 obtain ⟨fu1, y1, h1⟩ := hf _ (List.mem_cons_of_mem _ (List.mem_cons_self ..))
 obtain ⟨a0, g0, b0⟩ := opT42 fu0 _ _ h0
 obtain ⟨a1, g1, b1⟩ := Opens.int (k := .i64) I fu1 _ _ h1
 have e0 := parts_eq g0 (m := 9) (by simp [cf0]) (by simp [cf0])
 have e1 := parts_eq g1 (m := 10) (by simp [cf1]) (by simp [cf1])
 refine ⟨⟨a0, a1⟩, ?_, b0⟩
 simp only [List.drop_zero] at e0
 rw [e0, e1, List.drop_eq_nil_of_le (by omega)]; rfl
theorem opT76 : Opens enc Tryz.prog W 76 ptC (fun p => RdPt W p ∧ ∀ s ∈ p.pt.da, s.length ≤ 9223372036854775807) := by
 intro fuel cs x h
 obtain ⟨hl, hf⟩ := Opens.fields (fs := _) I h
 have cT : Tryz.prog.cellsOf 76 = 6 := by kernel_rfl
 have cf0 : Tryz.prog.cellsOf 3 = 1 := by kernel_rfl
 have cf1 : Tryz.prog.cellsOf 74 = 1 := by kernel_rfl
 have cf2 : Tryz.prog.cellsOf 66 = 1 := by kernel_rfl
 rw [cT] at hl
 obtain ⟨fu0, y0, h0⟩ := hf _ (List.mem_cons_self ..)
 obtain ⟨fu1, y1, h1⟩ := hf _ (List.mem_cons_of_mem _ (List.mem_cons_self ..))
 obtain ⟨fu2, y2, h2⟩ := hf _ (List.mem_cons_of_mem _ (List.mem_cons_of_mem _ (List.mem_cons_self ..)))
 obtain ⟨fu3, y3, h3⟩ := hf _ (List.mem_cons_of_mem _ (List.mem_cons_of_mem _ (List.mem_cons_of_mem _ (List.mem_cons_self ..))))
 obtain ⟨fu4, y4, h4⟩ := hf _ (List.mem_cons_of_mem _ (List.mem_cons_of_mem _ (List.mem_cons_of_mem _ (List.mem_cons_of_mem _ (List.mem_cons_self ..)))))
 obtain ⟨fu5, y5, h5⟩ := hf _ (List.mem_cons_of_mem _ (List.mem_cons_of_mem _ (List.mem_cons_of_mem _ (List.mem_cons_of_mem _ (List.mem_cons_of_mem _ (List.mem_cons_self ..))))))
 obtain ⟨a0, g0, b0⟩ := Opens.int (k := .i64) I fu0 _ _ h0
 obtain ⟨a1, g1, b1⟩ := Opens.int (k := .i64) I fu1 _ _ h1
 obtain ⟨a2, g2, b2⟩ := Opens.int (k := .i64) I fu2 _ _ h2
 obtain ⟨a3, g3, b3⟩ := Opens.int (k := .i64) I fu3 _ _ h3
 obtain ⟨⟨v4, l4⟩, g4, s4, n4, q4⟩ := opT74 fu4 _ _ h4
 obtain ⟨⟨v5, l5⟩, g5, s5, n5, q5⟩ := opT66 fu5 _ _ h5
 obtain ⟨z4, hz4⟩ := sl_shape s4
 have hz4 : v4 = sv z4 l4.length := hz4
 subst hz4
 obtain ⟨z5, hz5⟩ := sl_shape s5
 have hz5 : v5 = sv z5 l5.length := hz5
 subst hz5
 have e0 := parts_eq g0 (m := 1) (by simp [cf0]) (by simp [cf0])
 have e1 := parts_eq g1 (m := 2) (by simp [cf0]) (by simp [cf0])
 have e2 := parts_eq g2 (m := 3) (by simp [cf0]) (by simp [cf0])
 have e3 := parts_eq g3 (m := 4) (by simp [cf0]) (by simp [cf0])
 have e4 := parts_eq g4 (m := 5) (by simp [cf1]) (by simp [cf1])
 have e5 := parts_eq g5 (m := 6) (by simp [cf2]) (by simp [cf2])
 refine ⟨⟨sv z4 l4.length, sv z5 l5.length, ⟨a0, a1, a2, a3, l4, l5⟩⟩, ?_, ⟨⟨s4, s5⟩, q5⟩⟩
 simp only [List.drop_zero] at e0
 rw [e0, e1, e2, e3, e4, e5, List.drop_eq_nil_of_le (by omega)]; rfl
theorem opT22 : Opens enc Tryz.prog W 22 (fun p : Value × List Ro => [p.1]) (fun p => Sl W p.1 (cellsOf roC p.2) p.2.length ∧ p.2.length ≤ 9223372036854775807 ∧ ∀ a ∈ p.2, True) :=
 Opens.slice (sz := 4) I (by kernel_rfl) (by decide) roC_len opT79
theorem opT23 : Opens enc Tryz.prog W 23 (fun p : Value × List Li => [p.1]) (fun p => Sl W p.1 (cellsOf liC p.2) p.2.length ∧ p.2.length ≤ 9223372036854775807 ∧ ∀ a ∈ p.2, True) :=
 Opens.slice (sz := 3) I (by kernel_rfl) (by decide) liC_len opT129
theorem opT24 : Opens enc Tryz.prog W 24 (fun p : Value × List Sn => [p.1]) (fun p => Sl W p.1 (cellsOf snC p.2) p.2.length ∧ p.2.length ≤ 9223372036854775807 ∧ ∀ a ∈ p.2, (a.f.da.length ≤ 9223372036854775807 ∧ GX.fits .i64 a.tr ∧ GX.fits .i64 a.wt)) :=
 Opens.slice (sz := 11) I (by kernel_rfl) (by decide) snC_len opT48
theorem opT26 : Opens enc Tryz.prog W 26 (fun p : Value × List Ma => [p.1]) (fun p => Sl W p.1 (cellsOf maC p.2) p.2.length ∧ p.2.length ≤ 9223372036854775807 ∧ ∀ a ∈ p.2, a.f.da.length ≤ 9223372036854775807) :=
 Opens.slice (sz := 10) I (by kernel_rfl) (by decide) maC_len opT73
theorem opT27 : Opens enc Tryz.prog W 27 (fun p : Value × List Pr => [p.1]) (fun p => Sl W p.1 (cellsOf prC p.2) p.2.length ∧ p.2.length ≤ 9223372036854775807 ∧ ∀ a ∈ p.2, True) :=
 Opens.slice (sz := 2) I (by kernel_rfl) (by decide) prC_len opT135
theorem opT29 : Opens enc Tryz.prog W 29 (fun p : Value × List De => [p.1]) (fun p => Sl W p.1 (cellsOf deC p.2) p.2.length ∧ p.2.length ≤ 9223372036854775807 ∧ ∀ a ∈ p.2, True) :=
 Opens.slice (sz := 2) I (by kernel_rfl) (by decide) deC_len opT70
theorem opT28 : Opens enc Tryz.prog W 28 (fun p : Value × List PtV => [p.1]) (fun p => Sl W p.1 (cellsOf ptC p.2) p.2.length ∧ p.2.length ≤ 9223372036854775807 ∧ ∀ a ∈ p.2, (RdPt W a ∧ ∀ s ∈ a.pt.da, s.length ≤ 9223372036854775807)) :=
 Opens.slice (sz := 6) I (by kernel_rfl) (by decide) ptC_len opT76
abbrev NdA := NV × Nd
abbrev ndE (a : NdA) : List Value := ndC a.1 a.2
structure NdOk (W : World) (a : NdA) : Prop where
 ok : OkN W a.1 a.2
 wf : WfN a.2
theorem opT31 : Opens enc Tryz.prog W 31 ndE (NdOk W) := by
 intro fuel cs x h
 obtain ⟨hl, hf⟩ := Opens.fields (fs := _) I h
 have cT : Tryz.prog.cellsOf 31 = 13 := by kernel_rfl
 have cf0 : Tryz.prog.cellsOf 3 = 1 := by kernel_rfl
 have cf1 : Tryz.prog.cellsOf 22 = 1 := by kernel_rfl
 have cf2 : Tryz.prog.cellsOf 23 = 1 := by kernel_rfl
 have cf3 : Tryz.prog.cellsOf 24 = 1 := by kernel_rfl
 have cf4 : Tryz.prog.cellsOf 25 = 1 := by kernel_rfl
 have cf5 : Tryz.prog.cellsOf 26 = 1 := by kernel_rfl
 have cf6 : Tryz.prog.cellsOf 27 = 1 := by kernel_rfl
 have cf7 : Tryz.prog.cellsOf 28 = 1 := by kernel_rfl
 have cf8 : Tryz.prog.cellsOf 29 = 1 := by kernel_rfl
 rw [cT] at hl
 obtain ⟨fu0, y0, h0⟩ := hf _ (List.mem_cons_self ..)
 obtain ⟨fu1, y1, h1⟩ := hf _ (List.mem_cons_of_mem _ (List.mem_cons_self ..))
 obtain ⟨fu2, y2, h2⟩ := hf _ (List.mem_cons_of_mem _ (List.mem_cons_of_mem _ (List.mem_cons_self ..)))
 obtain ⟨fu3, y3, h3⟩ := hf _ (List.mem_cons_of_mem _ (List.mem_cons_of_mem _ (List.mem_cons_of_mem _ (List.mem_cons_self ..))))
 obtain ⟨fu4, y4, h4⟩ := hf _ (List.mem_cons_of_mem _ (List.mem_cons_of_mem _ (List.mem_cons_of_mem _ (List.mem_cons_of_mem _ (List.mem_cons_self ..)))))
 obtain ⟨fu5, y5, h5⟩ := hf _ (List.mem_cons_of_mem _ (List.mem_cons_of_mem _ (List.mem_cons_of_mem _ (List.mem_cons_of_mem _ (List.mem_cons_of_mem _ (List.mem_cons_self ..))))))
 obtain ⟨fu6, y6, h6⟩ := hf _ (List.mem_cons_of_mem _ (List.mem_cons_of_mem _ (List.mem_cons_of_mem _ (List.mem_cons_of_mem _ (List.mem_cons_of_mem _ (List.mem_cons_of_mem _ (List.mem_cons_self ..)))))))
 obtain ⟨fu7, y7, h7⟩ := hf _ (List.mem_cons_of_mem _ (List.mem_cons_of_mem _ (List.mem_cons_of_mem _ (List.mem_cons_of_mem _ (List.mem_cons_of_mem _ (List.mem_cons_of_mem _ (List.mem_cons_of_mem _ (List.mem_cons_self ..))))))))
 obtain ⟨fu8, y8, h8⟩ := hf _ (List.mem_cons_of_mem _ (List.mem_cons_of_mem _ (List.mem_cons_of_mem _ (List.mem_cons_of_mem _ (List.mem_cons_of_mem _ (List.mem_cons_of_mem _ (List.mem_cons_of_mem _ (List.mem_cons_of_mem _ (List.mem_cons_self ..)))))))))
 obtain ⟨fu9, y9, h9⟩ := hf _ (List.mem_cons_of_mem _ (List.mem_cons_of_mem _ (List.mem_cons_of_mem _ (List.mem_cons_of_mem _ (List.mem_cons_of_mem _ (List.mem_cons_of_mem _ (List.mem_cons_of_mem _ (List.mem_cons_of_mem _ (List.mem_cons_of_mem _ (List.mem_cons_self ..))))))))))
 obtain ⟨fu10, y10, h10⟩ := hf _ (List.mem_cons_of_mem _ (List.mem_cons_of_mem _ (List.mem_cons_of_mem _ (List.mem_cons_of_mem _ (List.mem_cons_of_mem _ (List.mem_cons_of_mem _ (List.mem_cons_of_mem _ (List.mem_cons_of_mem _ (List.mem_cons_of_mem _ (List.mem_cons_of_mem _ (List.mem_cons_self ..)))))))))))
 obtain ⟨fu11, y11, h11⟩ := hf _ (List.mem_cons_of_mem _ (List.mem_cons_of_mem _ (List.mem_cons_of_mem _ (List.mem_cons_of_mem _ (List.mem_cons_of_mem _ (List.mem_cons_of_mem _ (List.mem_cons_of_mem _ (List.mem_cons_of_mem _ (List.mem_cons_of_mem _ (List.mem_cons_of_mem _ (List.mem_cons_of_mem _ (List.mem_cons_self ..))))))))))))
 obtain ⟨fu12, y12, h12⟩ := hf _ (List.mem_cons_of_mem _ (List.mem_cons_of_mem _ (List.mem_cons_of_mem _ (List.mem_cons_of_mem _ (List.mem_cons_of_mem _ (List.mem_cons_of_mem _ (List.mem_cons_of_mem _ (List.mem_cons_of_mem _ (List.mem_cons_of_mem _ (List.mem_cons_of_mem _ (List.mem_cons_of_mem _ (List.mem_cons_of_mem _ (List.mem_cons_self ..)))))))))))))
 obtain ⟨a0, g0, b0⟩ := Opens.int (k := .i64) I fu0 _ _ h0
 obtain ⟨a1, g1, b1⟩ := Opens.int (k := .i64) I fu1 _ _ h1
 obtain ⟨a2, g2, b2⟩ := Opens.int (k := .i64) I fu2 _ _ h2
 obtain ⟨⟨v3, l3⟩, g3, s3, n3, q3⟩ := opT22 fu3 _ _ h3
 obtain ⟨⟨v4, l4⟩, g4, s4, n4, q4⟩ := opT23 fu4 _ _ h4
 obtain ⟨⟨v5, l5⟩, g5, s5, n5, q5⟩ := opT24 fu5 _ _ h5
 obtain ⟨⟨v6, l6⟩, g6, s6, n6, q6⟩ := opT25 fu6 _ _ h6
 obtain ⟨⟨v7, l7⟩, g7, s7, n7, q7⟩ := opT26 fu7 _ _ h7
 obtain ⟨⟨v8, l8⟩, g8, s8, n8, q8⟩ := opT27 fu8 _ _ h8
 obtain ⟨⟨v9, l9⟩, g9, s9, n9, q9⟩ := opT28 fu9 _ _ h9
 obtain ⟨⟨v10, l10⟩, g10, s10, n10, q10⟩ := opT29 fu10 _ _ h10
 obtain ⟨a11, g11, b11⟩ := Opens.int (k := .i64) I fu11 _ _ h11
 obtain ⟨a12, g12, b12⟩ := Opens.int (k := .i64) I fu12 _ _ h12
 obtain ⟨z3, hz3⟩ := sl_shape s3
 have hz3 : v3 = sv z3 l3.length := hz3
 subst hz3
 obtain ⟨z4, hz4⟩ := sl_shape s4
 have hz4 : v4 = sv z4 l4.length := hz4
 subst hz4
 obtain ⟨z5, hz5⟩ := sl_shape s5
 have hz5 : v5 = sv z5 l5.length := hz5
 subst hz5
 obtain ⟨z6, hz6⟩ := sl_shape s6
 have hz6 : v6 = sv z6 l6.length := hz6
 subst hz6
 obtain ⟨z7, hz7⟩ := sl_shape s7
 have hz7 : v7 = sv z7 l7.length := hz7
 subst hz7
 obtain ⟨z8, hz8⟩ := sl_shape s8
 have hz8 : v8 = sv z8 l8.length := hz8
 subst hz8
 obtain ⟨z9, hz9⟩ := sl_shape s9
 have hz9 : v9 = sv z9 l9.length := hz9
 subst hz9
 obtain ⟨z10, hz10⟩ := sl_shape s10
 have hz10 : v10 = sv z10 l10.length := hz10
 subst hz10
 have e0 := parts_eq g0 (m := 1) (by simp [cf0]) (by simp [cf0])
 have e1 := parts_eq g1 (m := 2) (by simp [cf0]) (by simp [cf0])
 have e2 := parts_eq g2 (m := 3) (by simp [cf0]) (by simp [cf0])
 have e3 := parts_eq g3 (m := 4) (by simp [cf1]) (by simp [cf1])
 have e4 := parts_eq g4 (m := 5) (by simp [cf2]) (by simp [cf2])
 have e5 := parts_eq g5 (m := 6) (by simp [cf3]) (by simp [cf3])
 have e6 := parts_eq g6 (m := 7) (by simp [cf4]) (by simp [cf4])
 have e7 := parts_eq g7 (m := 8) (by simp [cf5]) (by simp [cf5])
 have e8 := parts_eq g8 (m := 9) (by simp [cf6]) (by simp [cf6])
 have e9 := parts_eq g9 (m := 10) (by simp [cf7]) (by simp [cf7])
 have e10 := parts_eq g10 (m := 11) (by simp [cf8]) (by simp [cf8])
 have e11 := parts_eq g11 (m := 12) (by simp [cf0]) (by simp [cf0])
 have e12 := parts_eq g12 (m := 13) (by simp [cf0]) (by simp [cf0])
 refine ⟨(⟨z3, z4, z5, z6, z7, z8, z9, z10, l9⟩, ⟨a0, a1, a2, l3, l4, l5, l6, l7, l8, l9.map (·.pt), l10, a11, a12⟩), ?_, ⟨⟨s3, s4, s5, s6, s7, s8, ⟨s9, fun p hp => (q9 p hp).1⟩, s10, rfl⟩, ⟨fun s hs => (q5 s hs).2.2, fun s hs => (q5 s hs).2.1, fun s hs => (q5 s hs).1, q7, fun p hp s hs => by obtain ⟨p0, hp0, rfl⟩ := List.mem_map.1 hp; exact (q9 p0 hp0).2 s hs⟩⟩⟩
 simp only [List.drop_zero] at e0
 rw [e0, e1, e2, e3, e4, e5, e6, e7, e8, e9, e10, e11, e12, List.drop_eq_nil_of_le (by omega)]; rfl
end Go.Proofs.YtgdgclmkpoaagaaGreat
