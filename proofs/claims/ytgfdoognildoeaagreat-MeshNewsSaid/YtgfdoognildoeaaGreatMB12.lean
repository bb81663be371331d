/- A part of the proof: contracts of the program's functions. Conditions: none. -/
import Derived.Carry
import Derived.Deep.MidRow
import Derived.Deep.Quiet
import Derived.Laws.IdiomRangeMap
import Derived.Laws.MakeOwn
import Derived.Laws.StructEq
import Derived.Laws.Tables
import Derived.Lib.AppendStr
import Derived.Lib.AppendZerosOnto
import Derived.Lib.OthersKept
import Derived.Lib.Overlaps
import Derived.Lib.OwnBridge
import Derived.Lib.SlicesCompact
import Derived.MapKept
import Derived.Orders
import Derived.OrdersHeld
import Derived.Scope
import Derived.Sort.Grow
import Derived.StillTail
import Derived.Test.YtgfdoognildoeaaGreatProg
import Derived.Test.YtgfdoognildoeaaGreatShelf
import Derived.WalkKit
import Derived.WalkLawsBesides
import Derived.WalkSpells
import Derived.Test.YtgfdoognildoeaaGreatMB1
import Derived.Test.YtgfdoognildoeaaGreatMB2
import Derived.Test.YtgfdoognildoeaaGreatMB3
import Derived.Test.YtgfdoognildoeaaGreatMB4
import Derived.Test.YtgfdoognildoeaaGreatMB5
import Derived.Test.YtgfdoognildoeaaGreatMB6
import Derived.Test.YtgfdoognildoeaaGreatMB7
import Derived.Test.YtgfdoognildoeaaGreatMB8
import Derived.Test.YtgfdoognildoeaaGreatMB9
import Derived.Test.YtgfdoognildoeaaGreatMB10
import Derived.Test.YtgfdoognildoeaaGreatMB11
set_option linter.unusedVariables false
set_option linter.unusedSectionVars false
set_option linter.unusedSimpArgs false
set_option maxRecDepth 100000
set_option maxHeartbeats 4000000
namespace Go.Proofs.YtgfdoognildoeaaGreat
open Go.GX Go.RowKit
attribute [local irreducible] Calls Run RunL RunQ RunD HR HL HD blkC ownC mapC Rd slicesC iterC
open Nd
theorem drain_step (fr now : Int) (k : Nat) (n : Nd) : Nd.drain fr now (k + 1) n = if (btake n.boxes fr now 120).2.2 then Nd.drain fr now k (queue { n with boxes := (btake n.boxes fr now 120).2.1 } { (btake n.boxes fr now 120).1 with fr := n.addr }).1 else { n with boxes := (btake n.boxes fr now 120).2.1 } := rfl
theorem spolled_any (b : Nat) (V : NV) (n : Nd) (now : Int) (f : Fr) (B : Base) (w : World) (hw : Sat B (stH b V n now) w) (ho : Ord n) (hf : Tp.okN f.fr = true) (hne : f.fr ≠ n.addr) :
  Calls Tryz.prog 164 #[ptr b, .agg ⟨frC f⟩] w fun e w' => ∃ x : SV × SV × SV × SV, e = .returned (.tuple ⟨[]⟩) ∧ True ∧ Sat ⟨w, feet (stH b V n now)⟩ (stH b { V with ch := x.1, ta := x.2.1, ou := x.2.2.1, bo := x.2.2.2 } (polled n f now) now) w' := by
 have h24 := tlen ho
 have hk251 := klen ho
 have hb16 := ho.boxes
 obtain ⟨C, hC⟩ : ∃ C, C = child n.children f.fr := ⟨_, rfl⟩
 obtain ⟨TT, hTT⟩ : ∃ TT, TT = rupd n.table n.addr f.fr 10 [⟨f.fr, f.sq, 0, 0⟩] := ⟨_, rfl⟩
 have ho2 : Ord { n with children := C, table := TT } := by
  rw [hC, hTT]
  obtain ⟨g1, g2⟩ := rupd_tab (fr := f.fr) (cost := 10) (adv := [⟨f.fr, f.sq, 0, 0⟩]) ho.table
  obtain ⟨c1, c2⟩ := child_asc ho.kids f.fr
  refine { ho with table := g1, kids := c1, kid := fun x hx => ?_ }
  rcases (c2 x).1 hx with rfl | hx
  ·exact ⟨hf, hne⟩
  ·exact ho.kid x hx
 have hsp : polled n f now = Nd.drain f.fr now 17 { n with children := C, table := TT } := by rw [hC, hTT]; rfl
 obtain ⟨Z, hZ⟩ : ∃ Z, Z = polled n f now := ⟨_, rfl⟩
 rw [← hZ]
 rw [hsp] at hZ
 refine calls_hrW (stH b V n now) (hw) Tryz.func164 I (Nat.le_of_ble_eq_true I) ?_
 refine HR.sub (σ' := [(0, ptr b), (1, .agg ⟨frC f⟩)]) ⟨I, I, trivial⟩ ?_
 refine HR.ctl I ?_
 refine HR.region ?_
 refine HL.box I I ?_
 intro bf
 repeat' (first | refine zh ?_ | intro (bk : Nat))
 refine HR.regionD [(0, true), (1, true), (2, true), (3, true), (4, true), (5, true), (6, true), (7, false), (8, true)] [0, 1] I I hmix (by kernel_rfl) ?_
 repeat' (first | refine zd ?_ | fail)
 refine HD.one I ?_
 refine HL.callB fn49 I I (fun w1 hw1 => contI_any n.children f.fr _ w1 ((Rd.own 5 rfl).at hw1) (by omega)) ?_
 refine HL.back [0, 1] I I ?_
 repeat' (first | refine zd ?_ | fail)
 refine HD.nil ?_
 refine HR.join (ι := SV) (fun _ => True) (fun _ => [(0, ptr b), (3, ptr bf)]) (fun x => blkC bf (frC f) 75 :: stH b { V with ch := x } { n with children := C } now) (fun x _ => ?_) (fun hj => ?_)
 rotate_left
 ·refine HR.cond I (fun h1 => ?_) (fun h1 => ?_)
  ·have h1 : (!decide (f.fr ∈ n.children)) = true := h1
   have h2 : ¬ f.fr ∈ n.children := by simpa using h1
   have hcs := child_sorted ho.kids h2
   obtain ⟨L, hL⟩ : ∃ L, L = n.children ++ [f.fr] := ⟨_, rfl⟩
   have hLl : L.length = n.children.length + 1 := by rw [hL]; simp
   have hLs : Tf.srt L = C := by rw [hL, hcs, hC]
   have hLp : L.length = C.length := by rw [← hLs]; exact (List.mergeSort_perm _ _).length_eq.symm
   repeat' (first | refine zh ?_ | intro (bk : Nat))
   refine HR.regionY [(0, true), (1, true), (2, true), (3, true), (4, true), (5, true), (6, true), (7, true), (8, false), (9, false), (10, true), (11, true), (12, true)] 13 [0, 1] I I hmix (by kernel_rfl) ?_
   repeat' (first | refine zd ?_ | fail)
   refine HD.one I ?_
   refine HL.bslice elemI I I I I I (by decide) (by decide) ?_
   intro va
   refine HL.back [1, 2] I I ?_
   refine HD.one I ?_
   refine HL.appR 6 I elemI (Rd.own 0 I) I I I I (allOne_spec I) (by omega) (by omega) ?_
   intro v1
   refine HL.back [1, 2] I I ?_
   repeat' (first | refine zd ?_ | fail)
   refine HD.last I ?_
   refine HL.shape 6 I fun a1 c1 hv => ?_
   subst hv
   repeat' (first | refine zn ?_ | intro (bk : Nat))
   refine HR.ent (H' := [ownC (.slice a1 (n.children.length + 1) c1) 3 1 (n.children.length + 1) (cellsOf iC n.children ++ iC f.fr), _, _, _, _, _, _, _, _, _, _]) (Ent.pick [6, 1, 2, 3, 4, 5, 7, 8, 9, 10, 11] I I) ?_
   rw [← hLl, show cellsOf iC n.children ++ iC f.fr = cellsOf iC L from by rw [hL, cellsOf_app]; rfl]
   repeat' (first | refine zh ?_ | intro (bk : Nat))
   refine HL.callW (r := fun _ : Unit => .tuple #[]) (Q := fun _ => True) (G0 := [cI (.slice a1 L.length c1) L]) (H0 := [_, _, _, _, _, _, _, _, _, _]) (G := fun _ => [ownC (.slice a1 L.length c1) 3 1 L.length (cellsOf iC (Tf.srt L))]) fn135 I I I (fun w1 hw1 => sortI_any _ _ L w1 (hw1.vw (i := 0) I) (by omega)) ?_
   intro _ _
   rw [hLs]
   repeat' (first | refine zn ?_ | intro (bk : Nat))
   refine hj (a1, c1) _ _ trivial ⟨I, I, trivial⟩ ?_
   rw [hLp]
   exact Ent.pick [1, 2, 3, 4, 5, 0, 6, 7, 8, 9, 10] I I
  ·have h1 : (!decide (f.fr ∈ n.children)) = false := h1
   have h2 : f.fr ∈ n.children := by simpa using h1
   have hCn : C = n.children := by rw [hC]; unfold child; rw [if_pos h2]
   refine HR.skip ?_
   refine hj V.ch _ _ trivial ⟨I, I, trivial⟩ ?_
   rw [hCn]
   exact Ent.refl
 repeat' (first | refine zh ?_ | intro (bk : Nat))
 refine HR.regionY [(0, true), (1, true), (2, true), (3, true), (4, true), (5, true), (6, true), (7, true), (8, true), (9, true), (10, true), (11, true), (12, true), (13, true), (14, true), (15, true), (16, true), (17, true), (18, false), (19, false), (20, true), (21, true), (22, true)] 23 [0, 1] I I hmix (by kernel_rfl) ?_
 repeat' (first | refine zd ?_ | fail)
 refine HD.one I ?_
 refine HL.bslice elemRo I I I I I (by decide) (by decide) ?_
 intro va
 refine HL.back [1, 2] I I ?_
 refine HD.one I ?_
 refine HL.callO fn217 I I (fun w1 hw1 => rupd_any n.table n.addr f.fr 10 [⟨f.fr, f.sq, 0, 0⟩] _ va w1 ((Rd.own 3 rfl).at hw1) ((Rd.own 0 rfl).at hw1) (by omega) (show 1 ≤ 1000 by decide)) ?_
 intro v2
 refine HL.shape 0 I fun a2 c2 hv => ?_
 subst hv
 rw [← hTT]
 refine HL.back [2, 3] I I ?_
 repeat' (first | refine zd ?_ | fail)
 refine HD.last I ?_
 repeat' (first | refine zn ?_ | intro (bk : Nat))
 refine HR.ent (H' := blkC bf (frC f) 75 :: stH b { V with ch := x, ta := (a2, c2) } { n with children := C, table := TT } now) (Ent.pick [2, 3, 0, 5, 6, 7, 8, 9, 10, 11, 12] I I) ?_
 repeat' (first | refine zh ?_ | intro (bk : Nat))
 refine HR.loop (ι := Nat × Nd × SV × SV) (fun y => Ord y.2.1 ∧ Z = Nd.drain f.fr now y.1 y.2.1 ∧ y.2.1.boxes.length < y.1) (fun _ => [(0, ptr b), (3, ptr bf)]) (fun y => blkC bf (frC f) 75 :: stH b { V with ch := x, ta := (a2, c2), ou := y.2.2.1, bo := y.2.2.2 } y.2.1 now) (fun y => y.2.1.boxes.length) (17, { n with children := C, table := TT }, V.ou, V.bo) ⟨ho2, hZ, by show n.boxes.length < 17; omega⟩ ⟨I, I, trivial⟩ Ent.refl ?_
 rintro ⟨K, p, y1, y2⟩ ⟨hpo, hZ1, hK⟩ ih
 have hpo : Ord p := hpo
 have hZ1 : Z = Nd.drain f.fr now K p := hZ1
 have hK : p.boxes.length < K := hK
 have hp16 := hpo.boxes
 obtain ⟨K, rfl⟩ : ∃ K', K = K' + 1 := ⟨K - 1, by omega⟩
 rw [drain_step] at hZ1
 have hbl := btake_len p.boxes f.fr now 120
 obtain ⟨r, hr⟩ : ∃ r, r = btake p.boxes f.fr now 120 := ⟨_, rfl⟩
 rw [← hr] at hZ1 hbl
 obtain ⟨hbl1, hbl2⟩ := hbl
 have hpb : Ord { p with boxes := r.2.1 } := hpo.setBoxes hbl1
 repeat' (first | refine zh ?_ | intro (bk : Nat))
 refine HR.join (ι := Value × Nat) (fun _ => True) (fun z => [(0, ptr b), (3, ptr bf), (4, ptr z.2), (5, z.1), (6, .bool r.2.2)]) (fun z => blkC z.2 (frC r.1) 75 :: cMa z.1 r.2.1 :: blkC bf (frC f) 75 :: stH b { V with ch := x, ta := (a2, c2), ou := y1, bo := y2 } p now) (fun z _ => ?_) (fun hj => ?_)
 rotate_left
 ·refine HR.regionA [0, 1] I I hmix ?_
  refine za 0 ?_
  refine za 1 ?_
  refine za 2 ?_
  refine za 3 ?_
  refine za 4 ?_
  refine za 5 ?_
  refine za 6 ?_
  refine za 7 ?_
  refine za 8 ?_
  refine za 9 ?_
  refine za 10 ?_
  refine HA.two 11 16 (by kernel_rfl) I I ?_ ?_
  ·refine HL.callX (r := fun v' : Value => .tuple ⟨[.agg ⟨frC r.1⟩, v', .bool r.2.2]⟩) (Q := fun _ => True) (G := fun v' => [cMa v' r.2.1]) fn221 I I (fun w1 hw1 => by rw [hr]; exact btake_any p.boxes f.fr now 120 _ w1 ((Rd.own 6 rfl).at hw1) (by omega)) ?_
   intro v3 _
   refine HL.backA [1, 2] I I ?_
   refine za 12 ?_
   refine za 13 ?_
   refine za 14 ?_
   refine za 15 ?_
   refine HA.one 16 (by kernel_rfl) I ?_
   refine HL.alloc I I ?_
   intro b4
   refine HL.backA [2, 3] I I ?_
   refine HA.one 17 (by kernel_rfl) I ?_
   refine HL.S 0 I I I I I ?_
   refine HL.backA [2, 3] I I ?_
   refine za 18 ?_
   refine za 19 ?_
   refine HA.done (by kernel_rfl) ?_
   exact hj (v3, b4) _ _ trivial ⟨I, I, I, I, I, trivial⟩ Ent.refl
  ·refine HL.alloc I I ?_
   intro b4
   refine HL.backA [1, 2] I I ?_
   refine HA.one 11 (by kernel_rfl) I ?_
   refine HL.callX (r := fun v' : Value => .tuple ⟨[.agg ⟨frC r.1⟩, v', .bool r.2.2]⟩) (Q := fun _ => True) (G := fun v' => [cMa v' r.2.1]) fn221 I I (fun w1 hw1 => by rw [hr]; exact btake_any p.boxes f.fr now 120 _ w1 ((Rd.own 7 rfl).at hw1) (by omega)) ?_
   intro v3 _
   refine HL.backA [2, 3] I I ?_
   refine za 12 ?_
   refine za 13 ?_
   refine za 14 ?_
   refine za 15 ?_
   refine HA.one 17 (by kernel_rfl) I ?_
   refine HL.S 1 I I I I I ?_
   refine HL.backA [2, 3] I I ?_
   refine za 18 ?_
   refine za 19 ?_
   refine HA.done (by kernel_rfl) ?_
   exact hj (v3, b4) _ _ trivial ⟨I, I, I, I, I, trivial⟩ (Ent.pick [1, 0, 2, 3, 4, 5, 6, 7, 8, 9, 10, 11, 12] I I)
 obtain ⟨v3, b4⟩ := z
 repeat' (first | refine zh ?_ | intro (bk : Nat))
 refine HL.shape (v := v3) (e := 166) (sz := 10) (n := r.2.1.length) (xs := cellsOf maC r.2.1) 1 I fun a3 c3 hv => ?_
 subst hv
 repeat' (first | refine zh ?_ | intro (bk : Nat))
 refine HR.cond I (fun h1 => ?_) (fun h1 => ?_)
 ·have h1 : r.2.2 = false := by simpa using h1
  rw [if_neg (by rw [h1]; decide)] at hZ1
  rw [hZ1]
  repeat' (first | refine zh ?_ | intro (bk : Nat))
  refine HR.ret Tryz.func164 I [] (fun _ _ => trivial) ?_
  exact fun w' hw => ⟨(x, (a2, c2), y1, (a3, c3)), rfl, trivial, hw.pick [3, 4, 5, 6, 7, 1, 9, 10, 11, 12] I rfl⟩
 have h1 : r.2.2 = true := by simpa using h1
 rw [if_pos h1] at hZ1
 repeat' (first | refine zh ?_ | intro (bk : Nat))
 refine HL.ent (Ent.pick [3, 4, 5, 6, 7, 1, 9, 10, 11, 12, 2] I I) ?_
 refine HL.callW (r := fun _ : SV => .bool (queue { p with boxes := r.2.1 } { r.1 with fr := p.addr }).2) (Q := fun _ => True) (G0 := stH b { V with ch := x, ta := (a2, c2), ou := y1, bo := (a3, c3) } { p with boxes := r.2.1 } now) (H0 := [_]) (G := fun z => stH b { V with ch := x, ta := (a2, c2), ou := z, bo := (a3, c3) } (queue { p with boxes := r.2.1 } { r.1 with fr := p.addr }).1 now) fn119 I I I (fun w1 hw1 => squeue_any b { V with ch := x, ta := (a2, c2), ou := y1, bo := (a3, c3) } { p with boxes := r.2.1 } now { r.1 with fr := p.addr } _ w1 (hw1.pick [0, 1, 2, 3, 4, 5, 6, 7, 8, 9] I I) hpb) ?_
 intro z _
 have hqb : (queue { p with boxes := r.2.1 } { r.1 with fr := p.addr }).1.boxes.length = r.2.1.length := by
  obtain ⟨q, l, e⟩ := queue_is { p with boxes := r.2.1 } { r.1 with fr := p.addr }
  rw [e]
 repeat' (first | refine zh ?_ | intro (bk : Nat))
 exact ih (K, (queue { p with boxes := r.2.1 } { r.1 with fr := p.addr }).1, z, (a3, c3)) _ _ ⟨hpb.queue _, hZ1, by show (queue { p with boxes := r.2.1 } { r.1 with fr := p.addr }).1.boxes.length < K; have := hbl2 h1; omega⟩ (by show (queue { p with boxes := r.2.1 } { r.1 with fr := p.addr }).1.boxes.length < p.boxes.length; have := hbl2 h1; omega) ⟨I, I, trivial⟩ (Ent.pick [10, 0, 1, 2, 3, 4, 5, 6, 7, 8, 9] I I)
end Go.Proofs.YtgfdoognildoeaaGreat
namespace Go.Proofs.YtgfdoognildoeaaGreat
open Go.GX Go.RowKit
attribute [local irreducible] Calls Run RunL RunQ RunD HR HL HD blkC ownC mapC Rd slicesC iterC
open Nd
theorem fn165 : IsFn Tryz.prog 165 := ⟨⟨_, _, Tryz.func165, rfl, by decide⟩⟩
theorem sreceived_any (b : Nat) (V : NV) (n : Nd) (now : Int) (f : Fr) (B : Base) (w : World) (hw : Sat B (stH b V n now) w) (ho : Ord n) (hP : Pts V n) (hsm : ∀ p ∈ n.parts, SmPt p) (hpl : n.parts.length ≤ 1000) (hfd : f.da.length ≤ 1000) (hhp : 0 ≤ f.hp ∧ f.hp ≤ 15) :
  Calls Tryz.prog 165 #[ptr b, .agg ⟨frC f⟩] w fun e w' => ∃ V' : NV, e = .returned (.tuple ⟨[]⟩) ∧ Pts V' (received n f now) ∧ Sat ⟨w, feet (stH b V n now)⟩ (stH b V' (received n f now) now) w' := by
 obtain ⟨hhp0, hhp1⟩ := hhp
 have hse := ho.seen
 have hml := mfresh_len n.seen ⟨f.so, f.sq⟩
 obtain ⟨r, hr⟩ : ∃ r, r = mfresh n.seen ⟨f.so, f.sq⟩ := ⟨_, rfl⟩
 obtain ⟨a, ha⟩ : ∃ a : Nd, a = { n with seen := r.1 } := ⟨_, rfl⟩
 obtain ⟨q, hq⟩ : ∃ q, q = padd a.parts f.so now f.da := ⟨_, rfl⟩
 rw [← hr] at hml
 have hao : Ord a := by rw [ha]; exact { ho with seen := hml }
 have hap : a.parts = n.parts := by rw [ha]
 have hPa : Pts V a := ⟨by rw [hap]; exact hP.eq, hP.sh⟩
 have hps : V.ps.length ≤ 1000 := by rw [← pts_len, hP.eq]; exact hpl
 have hpm : ∀ p ∈ V.ps, SmPt p.pt := fun p hp => hsm p.pt (by rw [← hP.eq]; exact List.mem_map.2 ⟨p, hp, rfl⟩)
 have hsp : received n f now = if r.2 = false then a else if f.ta = a.addr then (if q.e ≠ 0 then a else if q.ok then deliver { a with parts := q.l } ⟨f.so, q.t⟩ else { a with parts := q.l }) else if a.poll > 0 ∨ f.hp = 15 then lose a else (queue a { f with fr := a.addr, dst := 255, hp := f.hp + 1 }).1 := by rw [hq, ha, hr]; rfl
 rw [hsp]
 refine calls_hrW (stH b V n now) (hw) Tryz.func165 I (Nat.le_of_ble_eq_true I) ?_
 refine HR.sub (σ' := [(0, ptr b), (1, .agg ⟨frC f⟩)]) ⟨I, I, trivial⟩ ?_
 refine HR.ctl I ?_
 refine HR.region ?_
 refine HL.box I I ?_
 intro bf
 repeat' (first | refine zh ?_ | intro (bk : Nat))
 refine HR.regionD [(0, true), (1, true), (2, true), (3, true), (4, true), (5, true), (6, true), (7, true), (8, true), (9, true), (10, false), (11, true), (12, true), (13, true), (14, true), (15, true)] [0, 1] I I hmix (by kernel_rfl) ?_
 repeat' (first | refine zd ?_ | fail)
 refine HD.one I ?_
 refine HL.callX (r := fun v' : Value => .tuple ⟨[v', .bool r.2]⟩) (Q := fun _ => True) (G := fun v' => [cPr v' r.1]) fn222 I I (fun w1 hw1 => by rw [hr]; exact mfresh_any n.seen ⟨f.so, f.sq⟩ _ w1 ((Rd.own 7 rfl).at hw1) (by omega)) ?_
 intro v1 _
 refine HL.shape 0 I fun a1 c1 hv => ?_
 subst hv
 refine HL.back [1, 2] I I ?_
 repeat' (first | refine zd ?_ | fail)
 refine HD.nil ?_
 repeat' (first | refine zh ?_ | intro (bk : Nat))
 refine HR.ent (H' := blkC bf (frC f) 75 :: stH b { V with se := (a1, c1) } { n with seen := r.1 } now) (Ent.pick [1, 2, 3, 4, 5, 6, 7, 0, 9, 10, 11] I I) ?_
 rw [← ha]
 refine HR.cond I (fun h1 => ?_) (fun h1 => ?_)
 ·have h1 : r.2 = false := by simpa using h1
  rw [if_pos h1]
  repeat' (first | refine zh ?_ | intro (bk : Nat))
  refine HR.fin Tryz.func165 I [] (fun _ _ => trivial) ?_
  exact fun w' hw => ⟨{ V with se := (a1, c1) }, rfl, ⟨hPa.eq, hPa.sh⟩, hw.pick [1, 2, 3, 4, 5, 6, 7, 8, 9, 10] I rfl⟩
 have h1 : ¬ r.2 = false := by simpa using h1
 rw [if_neg h1]
 repeat' (first | refine zh ?_ | intro (bk : Nat))
 refine HR.regionQ hmix (by kernel_rfl) ?_
 repeat' (first | refine zq ?_ | apply zb ?_ ?_ | exact zc | (refine zi fun hb => ?_; try simp at hb))
 refine HR.cond I (fun h2 => ?_) (fun h2 => ?_)
 ·have h2 : f.ta = a.addr := eq_of_beq h2
  rw [if_pos h2]
  repeat' (first | refine zh ?_ | intro (bk : Nat))
  refine HR.regionD [(0, true), (1, true), (2, true), (3, true), (4, true), (5, true), (6, true), (7, true), (8, true), (9, true), (10, true), (11, true), (12, true), (13, false), (14, true), (15, true), (16, true), (17, true), (18, true), (19, true), (20, true), (21, true), (22, true)] [0, 1] I I hmix (by kernel_rfl) ?_
  repeat' (first | refine zd ?_ | fail)
  refine HD.one I ?_
  refine HL.callX (r := fun y : Value × List PtV => .tuple ⟨[y.1, str q.t, .bool q.ok, .int .i64 q.e]⟩) (Q := fun y => GdPts y q.l) (G := fun y => ptsC y) fn223 I I (fun w1 hw1 => by rw [hq, ← hPa.eq]; exact fadd_any V.ps f.so now f.da _ w1 (RdPts.own 8 9 hw1 I I) hpm hps hfd) ?_
  rintro ⟨v3, ps⟩ ⟨hg1, hg2⟩
  refine HL.shape (v := v3) (e := 173) (sz := 6) (n := ps.length) (xs := cellsOf ptC ps) 0 I fun a3 c3 hv => ?_
  subst hv
  have hq1 : pts ps = q.l := hg1
  have hq2 : ∀ p ∈ ps, ShPt p := hg2
  refine HL.back [2, 3] I I ?_
  repeat' (first | refine zd ?_ | fail)
  refine HD.nil ?_
  repeat' (first | refine zh ?_ | intro (bk : Nat))
  refine HR.cond I (fun h3 => ?_) (fun h3 => ?_)
  ·have h3 : q.e ≠ 0 := by simpa using h3
   rw [if_pos h3]
   repeat' (first | refine zh ?_ | intro (bk : Nat))
   refine HR.ret Tryz.func165 I [] (fun _ _ => trivial) ?_
   exact fun w' hw => ⟨{ V with se := (a1, c1) }, rfl, ⟨hPa.eq, hPa.sh⟩, hw.pick [3, 4, 5, 6, 7, 8, 9, 10, 11, 12] I rfl⟩
  have h3 : ¬ q.e ≠ 0 := by simpa using h3
  rw [if_neg h3]
  repeat' (first | refine zh ?_ | intro (bk : Nat))
  obtain ⟨V3, hV3⟩ : ∃ V3 : NV, V3 = ⟨V.ta, V.li, V.ou, V.ch, V.bo, (a1, c1), (a3, c3), V.ib, ps⟩ := ⟨_, rfl⟩
  have hao3 : Ord { a with parts := q.l } := hao.setParts _
  refine HR.ent (H' := blkC bf (frC f) 75 :: stH b ⟨V.ta, V.li, V.ou, V.ch, V.bo, (a1, c1), (a3, c3), V.ib, ps⟩ { a with parts := q.l } now) (Ent.pick [2, 3, 4, 5, 6, 7, 8, 9, 0, 1, 12] I I) ?_
  rw [← hV3]
  have hP3 : ∀ (ib : SV) (z : Nd), z.parts = q.l → Pts { V3 with ib := ib } z := fun ib z hz => ⟨by rw [hz, hV3]; exact hq1, by rw [hV3]; exact hq2⟩
  refine HR.cond I (fun h4 => ?_) (fun h4 => ?_)
  ·have h4 : q.ok = true := h4
   rw [if_pos h4]
   repeat' (first | refine zh ?_ | intro (bk : Nat))
   refine HL.ent (Ent.pick [1, 2, 3, 4, 5, 6, 7, 8, 9, 10] I I) ?_
   refine HL.callW (r := fun _ : SV => .tuple ⟨[]⟩) (Q := fun _ => True) (G0 := stH b V3 { a with parts := q.l } now) (H0 := []) (G := fun x => stH b { V3 with ib := x } (deliver { a with parts := q.l } ⟨f.so, q.t⟩) now) fn118 I I I (fun w1 hw1 => sdeliver_any b V3 { a with parts := q.l } now ⟨f.so, q.t⟩ _ w1 (hw1.pick [0, 1, 2, 3, 4, 5, 6, 7, 8, 9] I I) hao3) ?_
   intro x _
   repeat' (first | refine zh ?_ | intro (bk : Nat))
   refine HR.fin Tryz.func165 I [] (fun _ _ => trivial) ?_
   exact fun w' hw => ⟨{ V3 with ib := x }, rfl, hP3 x _ (deliver_parts _ _), hw.pick [0, 1, 2, 3, 4, 5, 6, 7, 8, 9] I rfl⟩
  ·have h4 : q.ok = false := h4
   rw [if_neg (by rw [h4]; decide)]
   repeat' (first | refine zh ?_ | intro (bk : Nat))
   refine HR.fin Tryz.func165 I [] (fun _ _ => trivial) ?_
   exact fun w' hw => ⟨V3, rfl, hP3 V3.ib _ rfl, hw.pick [1, 2, 3, 4, 5, 6, 7, 8, 9, 10] I rfl⟩
 have h2 : ¬ f.ta = a.addr := by simpa using h2
 rw [if_neg h2]
 repeat' (first | refine zh ?_ | apply zb ?_ ?_ | exact zc | (refine zi fun hb => ?_; try simp at hb) | intro (bk : Nat))
 refine HR.cond I (fun h3 => ?_) (fun h3 => ?_)
 ·have h3 : (decide (a.poll > 0) || (f.hp == 15)) = true := h3
  have h4 : a.poll > 0 ∨ f.hp = 15 := by simpa using h3
  rw [if_pos h4]
  repeat' (first | refine zh ?_ | intro (bk : Nat))
  refine HL.ent (Ent.pick [1, 2, 3, 4, 5, 6, 7, 8, 9, 10] I I) ?_
  refine HL.callW (r := fun _ : Unit => .tuple ⟨[]⟩) (Q := fun _ => True) (G0 := [blkS b { V with se := (a1, c1) } a now]) (H0 := ndH { V with se := (a1, c1) } a) (G := fun _ => [blkS b { V with se := (a1, c1) } (lose a) now]) fn160 I I I (fun w1 hw1 => slose_any b { V with se := (a1, c1) } a now _ w1 (hw1.pick [0] I I) hao.lost) ?_
  intro _ _
  repeat' (first | refine zh ?_ | intro (bk : Nat))
  refine HR.fin Tryz.func165 I [] (fun _ _ => trivial) ?_
  exact fun w' hw => ⟨{ V with se := (a1, c1) }, rfl, ⟨hPa.eq, hPa.sh⟩, hw.pick [0, 1, 2, 3, 4, 5, 6, 7, 8, 9] I rfl⟩
 ·have h3 : (decide (a.poll > 0) || (f.hp == 15)) = false := h3
  have h4 : ¬ (a.poll > 0 ∨ f.hp = 15) := by
   intro e
   have : (decide (a.poll > 0) || (f.hp == 15)) = true := by simpa using e
   rw [h3] at this; cases this
  rw [if_neg h4]
  repeat' (first | refine zh ?_ | intro (bk : Nat))
  refine HL.ent (Ent.pick [1, 2, 3, 4, 5, 6, 7, 8, 9, 10] I I) ?_
  refine HL.callW (r := fun _ : SV => .bool (queue a { f with fr := a.addr, dst := 255, hp := f.hp + 1 }).2) (Q := fun _ => True) (G0 := stH b { V with se := (a1, c1) } a now) (H0 := []) (G := fun x => stH b { V with se := (a1, c1), ou := x } (queue a { f with fr := a.addr, dst := 255, hp := f.hp + 1 }).1 now) fn119 I I I (fun w1 hw1 => squeue_any b { V with se := (a1, c1) } a now { f with fr := a.addr, dst := 255, hp := f.hp + 1 } _ w1 (hw1.pick [0, 1, 2, 3, 4, 5, 6, 7, 8, 9] I I) hao) ?_
  intro x _
  repeat' (first | refine zh ?_ | intro (bk : Nat))
  refine HR.fin Tryz.func165 I [] (fun _ _ => trivial) ?_
  exact fun w' hw => ⟨{ V with se := (a1, c1), ou := x }, rfl, ⟨by rw [queue_parts]; exact hPa.eq, hPa.sh⟩, hw.pick [0, 1, 2, 3, 4, 5, 6, 7, 8, 9] I rfl⟩
end Go.Proofs.YtgfdoognildoeaaGreat
namespace Go.Proofs.YtgfdoognildoeaaGreat
open Go.GX Go.RowKit
attribute [local irreducible] Calls Run RunL RunQ RunD HR HL HD blkC ownC mapC Rd slicesC iterC
open Nd
theorem fn87 : IsFn Tryz.prog 87 := ⟨⟨_, _, Tryz.func87, rfl, by decide⟩⟩
theorem advertised_parts (n : Nd) (f : Fr) : (advertised n f).parts = n.parts := by
 unfold advertised
 simp only
 split
 ·rfl
 ·split <;> rfl
theorem drain_parts (fr now : Int) : ∀ (k : Nat) (n : Nd), (Nd.drain fr now k n).parts = n.parts
 | 0, _ => rfl
 | k + 1, n => by
  rw [drain_step]
  split
  ·rw [drain_parts fr now k, queue_parts]
  ·rfl
theorem polled_parts (n : Nd) (f : Fr) (now : Int) : (polled n f now).parts = n.parts := by
 unfold polled; rw [drain_parts]
theorem shear_any (V : NV) (n : Nd) (now : Int) (f : Fr) (w : World) (h : OkN w V n) (hs : SmN n) (hfl : f.da.length ≤ 9223372036854775807) :
  Calls Tryz.prog 87 #[.agg ⟨ndC V n⟩, .int .i64 now, .agg ⟨frC f⟩] w fun e w' => ∃ V' : NV, e = .returned (.agg ⟨ndC V' (hear n now f)⟩) ∧ Pts V' (hear n now f) ∧ Sat (base w) (ndH V' (hear n now f)) w' := by
 obtain ⟨m, hm⟩ : ∃ m, m = order n := ⟨_, rfl⟩
 have ho : Ord m := by rw [hm]; exact order_ord n
 have hmp : m.parts = n.parts := by rw [hm]; rfl
 obtain ⟨T, hT⟩ : ∃ T, T = tick now := ⟨_, rfl⟩
 obtain ⟨c, hc⟩ : ∃ c : Bool, c = ((!(fchk f == 0) || (f.fr == m.addr)) || (!(f.dst == m.addr) && !(f.dst == 255))) := ⟨_, rfl⟩
 have hcc : c = true ↔ (fchk f ≠ 0 ∨ f.fr = m.addr ∨ (f.dst ≠ m.addr ∧ f.dst ≠ 255)) := by
  rw [hc]; simp [or_assoc]
 have hsp : hear n now f = if fchk f ≠ 0 ∨ f.fr = m.addr ∨ (f.dst ≠ m.addr ∧ f.dst ≠ 255) then m else if f.kd = 1 then advertised m f else if f.kd = 3 ∧ f.dst = m.addr ∧ m.poll = 0 then polled m f T else if f.kd = 2 ∧ f.dst = m.addr then received m f T else m := by rw [hm, hT]; rfl
 rw [hsp]
 refine calls_hr Tryz.func87 I (Nat.le_of_ble_eq_true I) ?_
 refine HR.sub (σ' := [(0, .agg ⟨ndC V n⟩), (1, .int .i64 now), (2, .agg ⟨frC f⟩)]) ⟨I, I, I, trivial⟩ ?_
 refine HR.ctl I ?_
 refine HR.region ?_
 refine HL.box I I ?_
 intro bn
 refine HL.box I I ?_
 intro bf
 refine HL.alloc I I ?_
 intro br
 repeat' (first | refine zh ?_ | intro (bk : Nat))
 refine HL.callX (r := fun x : Nat × NV => ptr x.1) (Q := fun x => Pts x.2 m) (G := fun x => stH x.1 x.2 m T) fn68 I I (fun w1 hw1 => by rw [hm, hT]; exact enter_any V n now w1 (h.ext hw1.belowB) hs) ?_
 rintro ⟨b, V2⟩ hP
 have hP : Pts V2 m := hP
 refine HL.ent (H' := rsC br :: blkC bf (frC f) 75 :: stH b V2 m T) (Ent.pick [10, 11, 0, 1, 2, 3, 4, 5, 6, 7, 8, 9] I I) ?_
 repeat' (first | refine zh ?_ | intro (bk : Nat))
 refine HR.join (ι := Unit) (fun _ => True) (fun _ => [(5, ptr bf), (6, ptr br), (7, ptr b), (38, .bool c)]) (fun _ => rsC br :: blkC bf (frC f) 75 :: stH b V2 m T) (fun _ _ => ?_) (fun hj => ?_)
 rotate_left
 ·refine HR.regionD [(0, true), (1, false), (2, true), (3, true), (4, true), (5, true), (6, true), (7, true), (8, true), (9, true), (10, true), (11, true), (12, true), (13, true), (14, true), (15, true), (16, true), (17, true), (18, true), (19, true), (20, true), (21, true), (22, true), (23, true), (24, true), (25, true), (26, true), (27, true)] [1, 2] I I hmix (by kernel_rfl) ?_
  repeat' (first | refine zd ?_ | fail)
  refine HD.one I ?_
  refine HL.callB fn162 I I (fun w1 _ => fcheck_any f w1 (by omega)) ?_
  refine HL.back [1, 2] I I ?_
  repeat' (first | refine zd ?_ | fail)
  refine HD.split 14 I (fun hb => ?_) (fun hb => ?_)
  ·have hb : (!(fchk f == 0)) = true := hb
   repeat' (first | refine zd ?_ | fail)
   refine HD.nil ?_
   refine hj () _ _ trivial ⟨rfl, rfl, rfl, ?_, trivial⟩ Ent.refl
   show some (Value.bool true) = some (Value.bool c)
   rw [hc, hb]; rfl
  ·have hb : (!(fchk f == 0)) = false := hb
   repeat' (first | refine zd ?_ | fail)
   refine HD.split 24 I (fun hb2 => ?_) (fun hb2 => ?_)
   ·have hb2 : (f.fr == m.addr) = true := hb2
    repeat' (first | refine zd ?_ | fail)
    refine HD.nil ?_
    refine hj () _ _ trivial ⟨rfl, rfl, rfl, ?_, trivial⟩ Ent.refl
    show some (Value.bool true) = some (Value.bool c)
    rw [hc, hb, hb2]; rfl
   ·have hb2 : (f.fr == m.addr) = false := hb2
    repeat' (first | refine zd ?_ | fail)
    refine HD.split 33 I (fun hb3 => ?_) (fun hb3 => ?_)
    ·have hb3 : (!(f.dst == m.addr)) = true := hb3
     repeat' (first | refine zd ?_ | fail)
     refine HD.nil ?_
     refine hj () _ _ trivial ⟨rfl, rfl, rfl, ?_, trivial⟩ Ent.refl
     show some (Value.bool (!(f.dst == 255))) = some (Value.bool c)
     rw [hc, hb, hb2, hb3]; rfl
    ·have hb3 : (!(f.dst == m.addr)) = false := hb3
     repeat' (first | refine zd ?_ | fail)
     refine HD.nil ?_
     refine hj () _ _ trivial ⟨rfl, rfl, rfl, ?_, trivial⟩ Ent.refl
     show some (Value.bool false) = some (Value.bool c)
     rw [hc, hb, hb2, hb3]; rfl
 refine HR.cond I (fun h1 => ?_) (fun h1 => ?_)
 ·rw [if_pos (hcc.1 h1)]
  repeat' (first | refine zh ?_ | intro (bk : Nat))
  refine HR.ret Tryz.func87 I [_] (fun w hw => ⟨⟨_, rfl, loadVarR hw 0 I I I I rfl⟩, trivial⟩) ?_
  exact fun w' hw => ⟨V2, rfl, hP, hw.pick [3, 4, 5, 6, 7, 8, 9, 10, 11] I rfl⟩
 have h2 : ¬ (fchk f ≠ 0 ∨ f.fr = m.addr ∨ (f.dst ≠ m.addr ∧ f.dst ≠ 255)) := fun e => by rw [hcc.2 e] at h1; cases h1
 rw [if_neg h2]
 have hck : fchk f = 0 := Decidable.not_not.1 fun e => h2 (.inl e)
 have hne : f.fr ≠ m.addr := fun e => h2 (.inr (.inl e))
 obtain ⟨k1, k2, k3, k4, k5, k6, k7⟩ := fchk_fr hck
 repeat' (first | refine zh ?_ | intro (bk : Nat))
 refine HR.cond I (fun h3 => ?_) (fun h3 => ?_)
 ·have h3 : f.kd = 1 := eq_of_beq h3
  rw [if_pos h3]
  repeat' (first | refine zh ?_ | intro (bk : Nat))
  refine HL.ent (Ent.pick [2, 3, 4, 5, 6, 7, 8, 9, 10, 11, 0] I I) ?_
  refine HL.callW (r := fun _ : SV × SV => .tuple ⟨[]⟩) (Q := fun _ => True) (G0 := stH b V2 m T) (H0 := [_]) (G := fun x => stH b { V2 with ta := x.1, li := x.2 } (advertised m f) T) fn163 I I I (fun w1 hw1 => sadv_any b V2 m T f _ w1 (hw1.pick [0, 1, 2, 3, 4, 5, 6, 7, 8, 9] I I) ho (by omega)) ?_
  intro x _
  refine HL.ent (Ent.pick [10, 0, 1, 2, 3, 4, 5, 6, 7, 8, 9] I I) ?_
  repeat' (first | refine zh ?_ | intro (bk : Nat))
  refine HR.ret Tryz.func87 I [_] (fun w hw => ⟨⟨_, rfl, loadVarR hw 0 I I I I rfl⟩, trivial⟩) ?_
  exact fun w' hw => ⟨{ V2 with ta := x.1, li := x.2 }, rfl, ⟨by rw [advertised_parts]; exact hP.eq, hP.sh⟩, hw.pick [2, 3, 4, 5, 6, 7, 8, 9, 10] I rfl⟩
 have h3 : ¬ f.kd = 1 := by simpa using h3
 rw [if_neg h3]
 repeat' (first | refine zh ?_ | intro (bk : Nat))
 refine HR.regionQ hmix (by kernel_rfl) ?_
 repeat' (first | refine zq ?_ | apply zb ?_ ?_ | exact zc | (refine zi fun hb => ?_; try simp at hb))
 refine HR.cond I (fun h4 => ?_) (fun h4 => ?_)
 ·have h4 : ((f.kd == 3) && (f.dst == m.addr) && (m.poll == 0)) = true := h4
  have h5 : f.kd = 3 ∧ f.dst = m.addr ∧ m.poll = 0 := by simpa [and_assoc] using h4
  rw [if_pos h5]
  repeat' (first | refine zh ?_ | intro (bk : Nat))
  refine HL.ent (Ent.pick [2, 3, 4, 5, 6, 7, 8, 9, 10, 11, 0] I I) ?_
  refine HL.callW (r := fun _ : SV × SV × SV × SV => .tuple ⟨[]⟩) (Q := fun _ => True) (G0 := stH b V2 m T) (H0 := [_]) (G := fun x => stH b { V2 with ch := x.1, ta := x.2.1, ou := x.2.2.1, bo := x.2.2.2 } (polled m f T) T) fn164 I I I (fun w1 hw1 => spolled_any b V2 m T f _ w1 (hw1.pick [0, 1, 2, 3, 4, 5, 6, 7, 8, 9] I I) ho k1 hne) ?_
  intro x _
  refine HL.ent (Ent.pick [10, 0, 1, 2, 3, 4, 5, 6, 7, 8, 9] I I) ?_
  repeat' (first | refine zh ?_ | intro (bk : Nat))
  refine HR.ret Tryz.func87 I [_] (fun w hw => ⟨⟨_, rfl, loadVarR hw 0 I I I I rfl⟩, trivial⟩) ?_
  exact fun w' hw => ⟨{ V2 with ch := x.1, ta := x.2.1, ou := x.2.2.1, bo := x.2.2.2 }, rfl, ⟨by rw [polled_parts]; exact hP.eq, hP.sh⟩, hw.pick [2, 3, 4, 5, 6, 7, 8, 9, 10] I rfl⟩
 have h4 : ((f.kd == 3) && (f.dst == m.addr) && (m.poll == 0)) = false := h4
 have h5 : ¬ (f.kd = 3 ∧ f.dst = m.addr ∧ m.poll = 0) := by
  intro e
  have : ((f.kd == 3) && (f.dst == m.addr) && (m.poll == 0)) = true := by simpa [and_assoc] using e
  rw [h4] at this; cases this
 rw [if_neg h5]
 repeat' (first | refine zh ?_ | intro (bk : Nat))
 refine HR.regionQ hmix (by kernel_rfl) ?_
 repeat' (first | refine zq ?_ | apply zb ?_ ?_ | exact zc | (refine zi fun hb => ?_; try simp at hb))
 refine HR.cond I (fun h6 => ?_) (fun h6 => ?_)
 ·have h6 : ((f.kd == 2) && (f.dst == m.addr)) = true := h6
  have h7 : f.kd = 2 ∧ f.dst = m.addr := by simpa using h6
  rw [if_pos h7]
  repeat' (first | refine zh ?_ | intro (bk : Nat))
  refine HL.ent (Ent.pick [2, 3, 4, 5, 6, 7, 8, 9, 10, 11, 0] I I) ?_
  refine HL.callW (r := fun _ : NV => .tuple ⟨[]⟩) (Q := fun V' => Pts V' (received m f T)) (G0 := stH b V2 m T) (H0 := [_]) (G := fun V' => stH b V' (received m f T) T) fn165 I I I (fun w1 hw1 => sreceived_any b V2 m T f _ w1 (hw1.pick [0, 1, 2, 3, 4, 5, 6, 7, 8, 9] I I) ho hP (by rw [hmp]; exact hs.sm) (by rw [hmp]; exact hs.pa) (by omega) ⟨k5, k6⟩) ?_
  intro V3 hP3
  refine HL.ent (Ent.pick [10, 0, 1, 2, 3, 4, 5, 6, 7, 8, 9] I I) ?_
  repeat' (first | refine zh ?_ | intro (bk : Nat))
  refine HR.ret Tryz.func87 I [_] (fun w hw => ⟨⟨_, rfl, loadVarR hw 0 I I I I rfl⟩, trivial⟩) ?_
  exact fun w' hw => ⟨V3, rfl, hP3, hw.pick [2, 3, 4, 5, 6, 7, 8, 9, 10] I rfl⟩
 have h6 : ((f.kd == 2) && (f.dst == m.addr)) = false := h6
 have h7 : ¬ (f.kd = 2 ∧ f.dst = m.addr) := by
  intro e
  have : ((f.kd == 2) && (f.dst == m.addr)) = true := by simpa using e
  rw [h6] at this; cases this
 rw [if_neg h7]
 refine HR.ent (Ent.pick [0, 2, 3, 4, 5, 6, 7, 8, 9, 10, 11] I I) ?_
 repeat' (first | refine zh ?_ | intro (bk : Nat))
 refine HR.ret Tryz.func87 I [_] (fun w hw => ⟨⟨_, rfl, loadVarR hw 0 I I I I rfl⟩, trivial⟩) ?_
 exact fun w' hw => ⟨V2, rfl, hP, hw.pick [2, 3, 4, 5, 6, 7, 8, 9, 10] I rfl⟩
end Go.Proofs.YtgfdoognildoeaaGreat
namespace Go.Proofs.YtgfdoognildoeaaGreat
open Go.GX Go.RowKit
attribute [local irreducible] Calls Run RunL RunQ RunD HR HL HD blkC ownC mapC Rd slicesC iterC
open Nd
theorem fn145 : IsFn Tryz.prog 145 := ⟨⟨_, _, Tryz.func145, rfl, by decide⟩⟩
end Go.Proofs.YtgfdoognildoeaaGreat
namespace Go.Proofs.YtgfdoognildoeaaGreat
open Go.GX Go.RowKit
attribute [local irreducible] Calls Run RunL RunQ RunD HR HL HD blkC ownC mapC Rd slicesC iterC
open Nd
theorem tw_at {p : Int → Bool} : ∀ {l : List Int} {k : Nat}, k ≤ l.length → (∀ j a, j < k → l[j]? = some a → p a = true) → (∀ a, l[k]? = some a → p a = false) → l.takeWhile p = l.take k ∧ l.dropWhile p = l.drop k
 | [], k, hk, _, _ => by
  have : k = 0 := by simpa using hk
  subst this; exact ⟨rfl, rfl⟩
 | x :: l, 0, _, _, h2 => by
  have hx := h2 x I
  rw [List.takeWhile_cons_of_neg (by rw [hx]; decide), List.dropWhile_cons_of_neg (by rw [hx]; decide)]
  exact ⟨rfl, rfl⟩
 | x :: l, k + 1, hk, h1, h2 => by
  have hx := h1 0 x (Nat.succ_pos _) I
  obtain ⟨e1, e2⟩ := tw_at (l := l) (k := k) (by simpa using hk) (fun j a hj ha => h1 (j + 1) a (by omega) ha) (fun a ha => h2 a ha)
  rw [List.takeWhile_cons_of_pos hx, List.dropWhile_cons_of_pos hx, e1, e2]
  exact ⟨rfl, rfl⟩
theorem child_at {l : List Int} {c : Int} {k : Nat} (ha : Asc id l) (hk : k ≤ l.length) (h1 : ∀ j a, j < k → l[j]? = some a → a < c) (h2 : ∀ a, l[k]? = some a → ¬ a < c) : child l c = if l[k]? = some c then l else l.take k ++ c :: l.drop k := by
 obtain ⟨e1, e2⟩ := tw_at (p := fun x => decide (x < c)) hk (fun j a hj hja => decide_eq_true (h1 j a hj hja)) (fun a hka => decide_eq_false (h2 a hka))
 unfold child
 rw [e1, e2]
 have hmem : c ∈ l ↔ l[k]? = some c := by
  constructor
  ·intro h
   obtain ⟨j, hj⟩ := List.getElem?_of_mem h
   rcases Nat.lt_trichotomy j k with h3 | h3 | h3
   ·exact absurd (h1 j c h3 hj) (Int.lt_irrefl c)
   ·rw [← h3]; exact hj
   ·obtain ⟨x, hx⟩ := getSome (show k < l.length by have := (List.getElem?_eq_some_iff.1 hj).1; omega)
    have h4 : x < c := ha.lt h3 hx hj
    exact absurd h4 (h2 x hx)
  ·exact fun h => List.mem_of_getElem? h
 by_cases h : c ∈ l
 ·rw [if_pos h, if_pos (hmem.1 h)]
 ·rw [if_neg h, if_neg fun e => h (hmem.2 e)]
theorem iC_one (a : Int) : allOne (iC a) = true := rfl
theorem rchild_any (l : List Int) (c : Int) (v : Value) (B0 : Base) (w : World) (hw0 : Sat B0 [cI v l] w) (hl : l.length ≤ 1000) (ha : Asc id l) :
  Calls Tryz.prog 145 #[v, .int .i64 c] w fun e w' => ∃ r : Value, e = .returned r ∧ True ∧ Sat ⟨w, feet [cI v l]⟩ [cI r (child l c)] w' := by
 refine calls_hrW [cI v l] (hw0) Tryz.func145 I (Nat.le_of_ble_eq_true I) ?_
 refine HR.sub (σ' := [(0, v), (1, .int .i64 c)]) ⟨I, I, trivial⟩ ?_
 repeat' (first | refine zh ?_ | intro (bk : Nat))
 refine HR.nilC 3 1 ?_
 refine HR.joinI (ι := Nat × Value) (fun x => x.1 ≤ l.length ∧ (∀ j a, j < x.1 → l[j]? = some a → a < c) ∧ ∀ a, l[x.1]? = some a → ¬ a < c) (fun x => [(0, v), (1, .int .i64 c), (5, x.2), (6, .int .i64 (x.1 : Int))]) (fun x => [cI x.2 (l.take x.1), cI v l]) (fun x hx => ?_) (fun hj => ?_)
 rotate_left
 ·refine HR.loop (ι := Nat × Value) (fun x => x.1 ≤ l.length ∧ ∀ j a, j < x.1 → l[j]? = some a → a < c) (fun x => [(0, v), (1, .int .i64 c), (5, x.2), (6, .int .i64 (x.1 : Int))]) (fun x => [cI x.2 (l.take x.1), cI v l]) (fun x => l.length - x.1) (0, .slice none 0 0) ⟨Nat.zero_le _, fun j a hj => absurd hj (Nat.not_lt_zero _)⟩ ⟨I, I, I, I, trivial⟩ Ent.refl ?_
  rintro ⟨k, o⟩ ⟨hk, hg⟩ ih
  have hk : k ≤ l.length := hk
  have hg : ∀ j a, j < k → l[j]? = some a → a < c := hg
  refine HR.ctl I ?_
  refine HR.region ?_
  repeat' (first | refine zn ?_ | refine HL.lenR (Rd.own 1 I) I I I ?_ | intro (bk : Nat))
  refine HL.split 11 I (fun hb => ?_) (fun hb => ?_)
  ·have hlt : k < l.length := by have h1 : (k : Int) < (l.length : Int) := of_decide_eq_true hb; omega
   obtain ⟨x, hx⟩ := getSome hlt
   repeat' (first | refine zn ?_ | refine HL.idxR (Rd.own 1 I) elemI k I I I I hlt ?_ | refine HL.loadI (Rd.own 1 I) I I I I (cellsOf_get1 hx) ?_ | intro (bk : Nat))
   refine HR.cond I (fun h2 => ?_) (fun h2 => ?_)
   ·have h2 : x < c := of_decide_eq_true h2
    repeat' (first | refine zh ?_ | refine HL.idxR (Rd.own 1 I) elemI k I I I I hlt ?_ | refine HL.loadI (Rd.own 1 I) I I I I (cellsOf_get1 hx) ?_ | intro (bk : Nat))
    refine HL.bslice elemI I I I I I (by decide) (by decide) ?_
    intro va
    refine HL.appR 1 I elemI (Rd.own 0 I) I I I I (allOne_spec I) (by show ((l.take k).length + 1) * 8 ≤ _; rw [List.length_take]; omega) (by show (l.take k).length + 1 ≤ _; rw [List.length_take]; omega) ?_
    intro v2
    repeat' (first | refine zh ?_ | intro (bk : Nat))
    refine ih (k + 1, v2) _ _ ⟨hlt, fun j a hj hja => ?_⟩ (by show l.length - (k + 1) < l.length - k; omega) ⟨I, I, I, I, trivial⟩ ?_
    ·by_cases hjk : j = k
     ·subst hjk; rw [hx] at hja; cases hja; exact h2
     ·have hj : j < k + 1 := hj
      exact hg j a (by omega) hja
    ·show Ent _ _ [ownC v2 3 1 (l.take (k + 1)).length (cellsOf iC (l.take (k + 1))), cI v l]
     rw [take_succ_get hx, List.length_append, cellsOf_app]
     exact Ent.pick [1, 2] I I
   ·have h2 : ¬ x < c := of_decide_eq_false h2
    refine HR.exit I ?_
    exact hj (k, o) _ _ ⟨hk, hg, fun a hka => by have hka : l[k]? = some a := hka; rw [hx] at hka; cases hka; exact h2⟩ ⟨I, I, I, I, trivial⟩ Ent.refl
  ·have hlt : ¬ k < l.length := by have h1 : ¬ (k : Int) < (l.length : Int) := of_decide_eq_false hb; omega
   repeat' (first | refine zn ?_ | intro (bk : Nat))
   refine HR.condF I ?_
   refine HR.exit I ?_
   exact hj (k, o) _ _ ⟨hk, hg, fun a hka => absurd (List.getElem?_eq_some_iff.1 hka).1 hlt⟩ ⟨I, I, I, I, trivial⟩ Ent.refl
 obtain ⟨k, o⟩ := x
 obtain ⟨hk, h1, h2⟩ := hx
 have hk : k ≤ l.length := hk
 have hsp := child_at ha hk h1 h2
 rw [hsp]
 have htk : (l.take k).length = k := by rw [List.length_take]; omega
 refine HR.ctl I ?_
 refine HR.join (ι := Unit) (fun _ => True) (fun _ => [(0, v), (1, .int .i64 c), (5, o), (6, .int .i64 (k : Int)), (39, .bool (decide (l[k]? = some c)))]) (fun _ => [cI o (l.take k), cI v l]) (fun _ _ => ?_) (fun hj => ?_)
 rotate_left
 ·refine HR.region ?_
  repeat' (first | refine zn ?_ | refine HL.lenR (Rd.own 1 I) I I I ?_ | intro (bk : Nat))
  refine HL.split 32 I (fun hb => ?_) (fun hb => ?_)
  ·have hlt : k < l.length := by have h1 : (k : Int) < (l.length : Int) := of_decide_eq_true hb; omega
   obtain ⟨x, hx⟩ := getSome hlt
   repeat' (first | refine zn ?_ | refine HL.idxR (Rd.own 1 I) elemI k I I I I hlt ?_ | refine HL.loadI (Rd.own 1 I) I I I I (cellsOf_get1 hx) ?_ | intro (bk : Nat))
   refine hj () _ _ trivial ⟨rfl, rfl, rfl, rfl, ?_, trivial⟩ Ent.refl
   show some (Value.bool (x == c)) = some (Value.bool (decide (l[k]? = some c)))
   rw [hx]
   by_cases e : x = c
   ·subst e; simp
   ·simp [e]
  ·have hlt : ¬ k < l.length := by have h1 : ¬ (k : Int) < (l.length : Int) := of_decide_eq_false hb; omega
   repeat' (first | refine zn ?_ | intro (bk : Nat))
   refine hj () _ _ trivial ⟨rfl, rfl, rfl, rfl, ?_, trivial⟩ Ent.refl
   show some (Value.bool false) = some (Value.bool (decide (l[k]? = some c)))
   rw [List.getElem?_eq_none (by omega)]; rfl
 refine HR.cond I (fun h3 => ?_) (fun h3 => ?_)
 ·have h3 : l[k]? = some c := of_decide_eq_true h3
  rw [if_pos h3]
  repeat' (first | refine zh ?_ | intro (bk : Nat))
  refine HR.ret Tryz.func145 I [_] (fun _ _ => ⟨I, trivial⟩) ?_
  exact fun w' hw => ⟨v, rfl, trivial, hw.pick [1] I rfl⟩
 have h3 : ¬ l[k]? = some c := of_decide_eq_false h3
 rw [if_neg h3]
 repeat' (first | refine zh ?_ | intro (bk : Nat))
 refine HL.bslice elemI I I I I I (by decide) (by decide) ?_
 intro va
 refine HL.appR 1 I elemI (Rd.own 0 I) I I I I (allOne_spec I) (by omega) (by omega) ?_
 intro v2
 have hcl : (cellsOf iC l).length = l.length * 1 := cellsOf_len iC_len _
 repeat' (first | refine zh ?_ | refine HL.lenR (Rd.own 2 I) I I I ?_ | intro (bk : Nat))
 refine HL.subI (sz := 1) k l.length (Rd.own 2 I) I I I I (.inr ⟨_, _, _, rfl, rfl, rfl⟩) (.inl ⟨rfl, rfl⟩) hk (Nat.le_refl _) ?_
 refine HL.appR 1 I elemI (Rd.sub (sz := 1) (Rd.own 2 I) hcl hk (Nat.le_refl _)) I I I (by rw [List.length_take, List.length_drop, hcl]; omega) (fun u hu => one_allcells iC_one _ u (List.mem_of_mem_drop (List.mem_of_mem_take hu))) (by omega) (by omega) ?_
 intro v3
 repeat' (first | refine zh ?_ | intro (bk : Nat))
 refine HR.ret Tryz.func145 I [_] (fun _ _ => ⟨I, trivial⟩) ?_
 refine fun w' hw => ⟨v3, rfl, trivial, ?_⟩
 refine Ent.own0 ?_ ?_ w' (hw.pick [1] I I)
 ·rw [List.length_append, List.length_cons, List.length_drop, htk]; omega
 ·rw [cellsOf_app, cellsOf_drop iC_len, List.take_of_length_le (l := cellsOf iC (l.drop k)) (by rw [cellsOf_len iC_len, List.length_drop]; omega), List.append_assoc]; rfl
end Go.Proofs.YtgfdoognildoeaaGreat
namespace Go.GX
open Go.RowKit
theorem ownC_sl {v : Value} {e sz n : Nat} {xs : List Value} {w : World} (h : (ownC v e sz n xs).p w) : Sl w v xs n := (show Vw w v e sz n xs from h).sl
theorem groupC_mem {G : List Chunk} {c : Chunk} {w : World} (h : (groupC G).p w) (hc : c ∈ G) : c.p w := AllQ.mem h c hc
theorem Sat.grp {B : Base} {H G : List Chunk} {w : World} (i : Nat) (hw : Sat B H w) (hi : nthC H i = some (groupC G)) : (groupC G).p w := hw.nth hi
end Go.GX
namespace Go.Proofs.YtgfdoognildoeaaGreat
open Go.GX Go.RowKit
attribute [local irreducible] Calls Run RunL RunQ RunD HR HL HD blkC ownC mapC Rd slicesC iterC
open Nd
theorem fn70 : IsFn Tryz.prog 70 := ⟨⟨_, _, Tryz.func70, rfl, by decide⟩⟩
structure ROk (V : NV) (n : Nd) (V' : NV) (Gt : List Chunk) (m : Nd) : Prop where
 pa : V'.pa = V.pa
 ps : V'.ps = V.ps
 ta : ∀ w2, Sl w2 (sv V.ta n.table.length) (cellsOf roC n.table) n.table.length → (groupC Gt).p w2 → Sl w2 (sv V'.ta m.table.length) (cellsOf roC m.table) m.table.length
 li : ∀ w2, Sl w2 (sv V.li n.links.length) (cellsOf liC n.links) n.links.length → Sl w2 (sv V'.li m.links.length) (cellsOf liC m.links) m.links.length
abbrev roH (V : NV) (Gt : List Chunk) (m : Nd) : List Chunk := [groupC Gt, cSn (sv V.ou m.out.length) m.out, cMa (sv V.bo m.boxes.length) m.boxes, cI (sv V.ch m.children.length) m.children, cPr (sv V.se m.seen.length) m.seen, cDe (sv V.ib m.inbox.length) m.inbox]
theorem fold_step (p : Int → Bool) {l : List Int} {k : Nat} {x : Int} (hx : l[k]? = some x) : ((l.take (k + 1)).filter p).foldl child [] = if p x = true then child (((l.take k).filter p).foldl child []) x else ((l.take k).filter p).foldl child [] := by
 rw [take_filter hx]
 split
 ·rw [List.foldl_append]; rfl
 ·rfl
theorem rorder_any (V : NV) (n : Nd) (w : World) (h : OkN w V n) (hs : SmN n) :
  Calls Tryz.prog 70 #[.agg ⟨ndC V n⟩] w fun e w' => ∃ x : NV × List Chunk, e = .returned (.agg ⟨ndC x.1 (order n)⟩) ∧ ROk V n x.1 x.2 (order n) ∧ Sat (base w) (roH x.1 x.2 (order n)) w' := by
 have l1 := hs.ta
 have l2 := hs.li
 have l3 := hs.ou
 have l4 := hs.ch
 have l5 := hs.bo
 have l6 := hs.se
 have l7 := hs.ib
 obtain ⟨m, hm⟩ : ∃ m, m = order n := ⟨_, rfl⟩
 have e_ad : m.addr = clamp n.addr 0 250 := by rw [hm]; rfl
 have e_po : m.poll = if n.poll < 1 then 0 else max n.poll 4 := by rw [hm]; rfl
 have e_pr : m.parent = if Tp.okN n.parent = false ∨ n.parent = m.addr then 255 else n.parent := by rw [hm]; rfl
 have e_ta : m.table = if rchk n.table m.addr = 0 then n.table else [rown m.addr] := by rw [hm]; rfl
 have e_li : m.links = if lchk n.links = 0 then n.links else [] := by rw [hm]; rfl
 have e_ou : m.out = n.out.take (min n.out.length 16) := by rw [hm, ← take_minl]; rfl
 have e_ch : m.children = (n.children.filter fun c => Tp.okN c && !(c == m.addr)).foldl child [] := by rw [hm]; rfl
 have e_bo : m.boxes = n.boxes.take (min n.boxes.length 16) := by rw [hm, ← take_minl]; rfl
 have e_se : m.seen = n.seen.drop (n.seen.length - 32) := by rw [hm]; rfl
 have e_ib : m.inbox = n.inbox.take (min n.inbox.length 256) := by rw [hm, ← take_minl]; rfl
 have e_sq : m.seq = if n.seq < 0 ∨ n.seq > 65535 then 0 else n.seq := by rw [hm]; rfl
 have e_lo : m.lost = clamp n.lost 0 1099511627776 := by rw [hm]; rfl
 have e_nw : rnew m.addr = [rown m.addr] := by rw [e_ad]; unfold rnew lim; rw [clamp2]
 have s_ou := Sl.pre snC_len h.ou (Nat.min_le_left _ _) e_ou
 have s_bo := Sl.pre maC_len h.bo (Nat.min_le_left _ _) e_bo
 have s_se := Sl.suf prC_len h.se (Nat.sub_le _ _) e_se
 have s_ib := Sl.pre deC_len h.ib (Nat.min_le_left _ _) e_ib
 have k3 : m.out.length ≤ 16 := by rw [e_ou, List.length_take]; omega
 have k5 : m.boxes.length ≤ 16 := by rw [e_bo, List.length_take]; omega
 have k6 : m.seen.length ≤ 32 := by rw [e_se, List.length_drop]; omega
 have k7 : m.inbox.length ≤ 256 := by rw [e_ib, List.length_take]; omega
 rw [← hm]
 refine calls_hr Tryz.func70 I (Nat.le_of_ble_eq_true I) ?_
 refine HR.sub (σ' := [(0, .agg ⟨ndC V n⟩)]) ⟨I, trivial⟩ ?_
 refine HR.ctl I ?_
 refine HR.region ?_
 refine HL.box I I ?_
 intro b1
 refine HL.alloc I I ?_
 intro b2
 repeat' (first | refine zh ?_ | refine HL.callB fn141 I I (fun w _ => rclamp_any n.addr 0 250 (by decide) w) ?_ | intro (bk : Nat))
 refine HR.ent (H' := [blkC b1 [.int .i64 m.addr, .int .i64 n.poll, .int .i64 n.parent, sv V.ta n.table.length, sv V.li n.links.length, sv V.ou n.out.length, sv V.ch n.children.length, sv V.bo n.boxes.length, sv V.se n.seen.length, sv V.pa V.ps.length, sv V.ib n.inbox.length, .int .i64 n.seq, .int .i64 n.lost] 62, rsC b2]) (Ent.trans (Ent.pick [1, 0] I I) (Ent.of_eq (by rw [e_ad]; rfl))) ?_
 refine HR.join (ι := Unit) (fun _ => True) (fun _ => [(1, ptr b1), (2, ptr b2)]) (fun _ => [blkC b1 [.int .i64 m.addr, .int .i64 m.poll, .int .i64 n.parent, sv V.ta n.table.length, sv V.li n.links.length, sv V.ou n.out.length, sv V.ch n.children.length, sv V.bo n.boxes.length, sv V.se n.seen.length, sv V.pa V.ps.length, sv V.ib n.inbox.length, .int .i64 n.seq, .int .i64 n.lost] 62, rsC b2]) (fun _ _ => ?_) (fun hj => ?_)
 rotate_left
 ·refine HR.cond I (fun h => ?_) (fun h => ?_)
  ·have h : n.poll < 1 := of_decide_eq_true h
   refine HR.region ?_
   repeat' (first | refine zn ?_ | apply zb ?_ ?_ | exact zc | (refine zi fun hb => ?_; try simp at hb) | intro (bk : Nat))
   refine hj () _ _ trivial ⟨I, I, trivial⟩ (Ent.of_eq ?_)
   rw [e_po, if_pos h]; rfl
  ·have h : ¬ n.poll < 1 := of_decide_eq_false h
   rw [if_neg h] at e_po
   refine HR.ctl I ?_
   refine HR.region ?_
   repeat' (first | refine zn ?_ | apply zb ?_ ?_ | exact zc | (refine zi fun hb => ?_; try simp at hb) | intro (bk : Nat))
   refine HR.cond I (fun h2 => ?_) (fun h2 => ?_)
   ·have h2 : n.poll < 4 := of_decide_eq_true h2
    refine HR.region ?_
    repeat' (first | refine zn ?_ | apply zb ?_ ?_ | exact zc | (refine zi fun hb => ?_; try simp at hb) | intro (bk : Nat))
    refine hj () _ _ trivial ⟨I, I, trivial⟩ (Ent.of_eq ?_)
    rw [show m.poll = 4 from by rw [e_po]; omega]; rfl
   ·have h2 : ¬ n.poll < 4 := of_decide_eq_false h2
    refine HR.skip ?_
    refine hj () _ _ trivial ⟨I, I, trivial⟩ (Ent.of_eq ?_)
    rw [show m.poll = n.poll from by rw [e_po]; omega]
 repeat' (first | refine zh ?_ | refine HL.callB fn120 I I (fun w _ => address_any n.parent w) ?_ | apply zb ?_ ?_ | exact zc | (refine zi fun hb => ?_; try simp at hb) | intro (bk : Nat))
 refine HR.join (ι := Unit) (fun _ => True) (fun _ => [(1, ptr b1), (2, ptr b2)]) (fun _ => [blkC b1 [.int .i64 m.addr, .int .i64 m.poll, .int .i64 m.parent, sv V.ta n.table.length, sv V.li n.links.length, sv V.ou n.out.length, sv V.ch n.children.length, sv V.bo n.boxes.length, sv V.se n.seen.length, sv V.pa V.ps.length, sv V.ib n.inbox.length, .int .i64 n.seq, .int .i64 n.lost] 62, rsC b2]) (fun _ _ => ?_) (fun hj => ?_)
 rotate_left
 ·refine HR.cond I (fun h => ?_) (fun h => ?_)
  ·have h : (!Tp.okN n.parent || (n.parent == m.addr)) = true := h
   have h2 : Tp.okN n.parent = false ∨ n.parent = m.addr := by simpa using h
   refine HR.region ?_
   repeat' (first | refine zn ?_ | apply zb ?_ ?_ | exact zc | (refine zi fun hb => ?_; try simp at hb) | intro (bk : Nat))
   refine hj () _ _ trivial ⟨I, I, trivial⟩ (Ent.of_eq ?_)
   rw [e_pr, if_pos h2]; rfl
  ·have h : (!Tp.okN n.parent || (n.parent == m.addr)) = false := h
   have h2 : ¬ (Tp.okN n.parent = false ∨ n.parent = m.addr) := by simpa using h
   refine HR.skip ?_
   refine hj () _ _ trivial ⟨I, I, trivial⟩ (Ent.of_eq ?_)
   rw [e_pr, if_neg h2]
 repeat' (first | refine zh ?_ | refine HL.callB fn142 I I (fun w hw => r11check_any n.table m.addr _ w ((Rd.arg h.ta).at hw) l1) ?_ | intro (bk : Nat))
 refine HR.join (ι := SV × List Chunk) (fun x => ∀ w2, Sl w2 (sv V.ta n.table.length) (cellsOf roC n.table) n.table.length → (groupC x.2).p w2 → Sl w2 (sv x.1 m.table.length) (cellsOf roC m.table) m.table.length) (fun _ => [(1, ptr b1), (2, ptr b2)]) (fun x => [blkC b1 [.int .i64 m.addr, .int .i64 m.poll, .int .i64 m.parent, sv x.1 m.table.length, sv V.li n.links.length, sv V.ou n.out.length, sv V.ch n.children.length, sv V.bo n.boxes.length, sv V.se n.seen.length, sv V.pa V.ps.length, sv V.ib n.inbox.length, .int .i64 n.seq, .int .i64 n.lost] 62, rsC b2, groupC x.2]) (fun xt ht => ?_) (fun hj => ?_)
 rotate_left
 ·refine HR.cond I (fun h2 => ?_) (fun h2 => ?_)
  ·have h2 : ¬ rchk n.table m.addr = 0 := by simpa using h2
   rw [if_neg h2, ← e_nw] at e_ta
   refine HR.region ?_
   repeat' (first | refine zn ?_ | refine HL.callO fn143 I I (fun w _ => rrnew_any m.addr w) ?_ | apply zb ?_ ?_ | exact zc | (refine zi fun hb => ?_; try simp at hb) | intro (bk : Nat))
   intro v2
   refine HL.shape 0 I fun a2 c2 hv => ?_
   subst hv
   repeat' (first | refine zn ?_ | apply zb ?_ ?_ | exact zc | (refine zi fun hb => ?_; try simp at hb) | intro (bk : Nat))
   refine hj ((a2, c2), [cTa (.slice a2 (rnew m.addr).length c2) (rnew m.addr)]) _ _ (fun w2 _ hp => ?_) ⟨I, I, trivial⟩ ?_
   ·rw [e_ta]; exact ownC_sl hp.1
   ·rw [e_ta]; exact Ent.trans (Ent.group (G := [cTa (.slice a2 (rnew m.addr).length c2) (rnew m.addr)])) (Ent.pick [1, 2, 0] I I)
  ·have h2 : rchk n.table m.addr = 0 := by simpa using h2
   rw [if_pos h2] at e_ta
   refine HR.skip ?_
   refine hj (V.ta, []) _ _ (fun w2 hw2 _ => ?_) ⟨I, I, trivial⟩ ?_
   ·rw [e_ta]; exact hw2
   ·rw [e_ta]; exact Ent.trans Ent.gnil (Ent.pick [1, 2, 0] I I)
 obtain ⟨xt, Gt⟩ := xt
 have ht : ∀ w2, Sl w2 (sv V.ta n.table.length) (cellsOf roC n.table) n.table.length → (groupC Gt).p w2 → Sl w2 (sv xt m.table.length) (cellsOf roC m.table) m.table.length := ht
 repeat' (first | refine zh ?_ | refine HL.callB fn144 I I (fun w hw => r10check_any n.links _ w ((Rd.arg h.li).at hw) l2) ?_ | intro (bk : Nat))
 refine HR.join (ι := SV) (fun x => ∀ w2, Sl w2 (sv V.li n.links.length) (cellsOf liC n.links) n.links.length → Sl w2 (sv x m.links.length) (cellsOf liC m.links) m.links.length) (fun _ => [(1, ptr b1), (2, ptr b2)]) (fun x => [blkC b1 [.int .i64 m.addr, .int .i64 m.poll, .int .i64 m.parent, sv xt m.table.length, sv x m.links.length, sv V.ou n.out.length, sv V.ch n.children.length, sv V.bo n.boxes.length, sv V.se n.seen.length, sv V.pa V.ps.length, sv V.ib n.inbox.length, .int .i64 n.seq, .int .i64 n.lost] 62, rsC b2, groupC Gt]) (fun xl hli => ?_) (fun hj => ?_)
 rotate_left
 ·refine HR.cond I (fun h2 => ?_) (fun h2 => ?_)
  ·have h2 : ¬ lchk n.links = 0 := by simpa using h2
   rw [if_neg h2] at e_li
   refine HR.region ?_
   repeat' (first | refine zn ?_ | apply zb ?_ ?_ | exact zc | (refine zi fun hb => ?_; try simp at hb) | intro (bk : Nat))
   refine hj (none, 0) _ _ (fun w2 _ => ?_) ⟨I, I, trivial⟩ ?_
   ·rw [e_li]; exact Sl.nil w2
   ·rw [e_li]; exact Ent.refl
  ·have h2 : lchk n.links = 0 := by simpa using h2
   rw [if_pos h2] at e_li
   refine HR.skip ?_
   refine hj V.li _ _ (fun w2 hw2 => ?_) ⟨I, I, trivial⟩ ?_
   ·rw [e_li]; exact hw2
   ·rw [e_li]; exact Ent.refl
 repeat' (first | refine zh ?_ | refine HL.bslice0 elemSn I ?_ | intro (bk : Nat))
 intro v0
 repeat' (first | refine zh ?_ | intro (bk : Nat))
 refine HL.setV 50 (v' := .int .i64 ((min n.out.length 16 : Nat) : Int)) I (by rw [← min_i]; rfl) ?_
 repeat' (first | refine zh ?_ | refine HL.subI (sz := 11) 0 (min n.out.length 16) (Rd.arg h.ou) I I I I (.inl ⟨rfl, rfl⟩) (.inr ⟨_, _, _, rfl, rfl, rfl⟩) (Nat.zero_le _) (Nat.min_le_left _ _) ?_ | intro (bk : Nat))
 refine HL.appR 0 I elemSn (Rd.arg s_ou) I I I (cellsOf_len snC_len _) (one_allcells snC_one _) (by omega) (by omega) ?_
 intro v1
 refine HL.ent (H' := cSn v1 m.out :: [blkC b1 [.int .i64 m.addr, .int .i64 m.poll, .int .i64 m.parent, sv xt m.table.length, sv xl m.links.length, sv V.ou n.out.length, sv V.ch n.children.length, sv V.bo n.boxes.length, sv V.se n.seen.length, sv V.pa V.ps.length, sv V.ib n.inbox.length, .int .i64 n.seq, .int .i64 n.lost] 62, rsC b2, groupC Gt]) (Ent.own0 (Nat.zero_add _) (List.nil_append _)) ?_
 refine HL.shape 0 I fun a3 c3 hv => ?_
 subst hv
 refine HL.ent (H' := [blkC b1 [.int .i64 m.addr, .int .i64 m.poll, .int .i64 m.parent, sv xt m.table.length, sv xl m.links.length, sv V.ou n.out.length, sv V.ch n.children.length, sv V.bo n.boxes.length, sv V.se n.seen.length, sv V.pa V.ps.length, sv V.ib n.inbox.length, .int .i64 n.seq, .int .i64 n.lost] 62, rsC b2, groupC Gt, cSn (.slice a3 m.out.length c3) m.out]) (Ent.pick [1, 2, 3, 0] I I) ?_
 repeat' (first | refine zh ?_ | refine HL.bslice0 elemMa I ?_ | intro (bk : Nat))
 intro v0
 repeat' (first | refine zh ?_ | intro (bk : Nat))
 refine HL.setV 60 (v' := .int .i64 ((min n.boxes.length 16 : Nat) : Int)) I (by rw [← min_i]; rfl) ?_
 repeat' (first | refine zh ?_ | refine HL.subI (sz := 10) 0 (min n.boxes.length 16) (Rd.arg h.bo) I I I I (.inl ⟨rfl, rfl⟩) (.inr ⟨_, _, _, rfl, rfl, rfl⟩) (Nat.zero_le _) (Nat.min_le_left _ _) ?_ | intro (bk : Nat))
 refine HL.appR 0 I elemMa (Rd.arg s_bo) I I I (cellsOf_len maC_len _) (one_allcells maC_one _) (by omega) (by omega) ?_
 intro v1
 refine HL.ent (H' := cMa v1 m.boxes :: [blkC b1 [.int .i64 m.addr, .int .i64 m.poll, .int .i64 m.parent, sv xt m.table.length, sv xl m.links.length, .slice a3 m.out.length c3, sv V.ch n.children.length, sv V.bo n.boxes.length, sv V.se n.seen.length, sv V.pa V.ps.length, sv V.ib n.inbox.length, .int .i64 n.seq, .int .i64 n.lost] 62, rsC b2, groupC Gt, cSn (.slice a3 m.out.length c3) m.out]) (Ent.own0 (Nat.zero_add _) (List.nil_append _)) ?_
 refine HL.shape 0 I fun a5 c5 hv => ?_
 subst hv
 refine HL.ent (H' := [blkC b1 [.int .i64 m.addr, .int .i64 m.poll, .int .i64 m.parent, sv xt m.table.length, sv xl m.links.length, .slice a3 m.out.length c3, sv V.ch n.children.length, sv V.bo n.boxes.length, sv V.se n.seen.length, sv V.pa V.ps.length, sv V.ib n.inbox.length, .int .i64 n.seq, .int .i64 n.lost] 62, rsC b2, groupC Gt, cSn (.slice a3 m.out.length c3) m.out, cMa (.slice a5 m.boxes.length c5) m.boxes]) (Ent.pick [1, 2, 3, 4, 0] I I) ?_
 repeat' (first | refine zh ?_ | intro (bk : Nat))
 refine HR.nilC 3 1 ?_
 obtain ⟨g, hg⟩ : ∃ g : Nat → List Int, g = fun k => ((n.children.take k).filter fun c => Tp.okN c && !(c == m.addr)).foldl child [] := ⟨_, rfl⟩
 have hga : ∀ k, Asc id (g k) := fun k => by rw [hg]; exact (childs_asc (l := (n.children.take k).filter fun c => Tp.okN c && !(c == m.addr)) (acc := []) List.Pairwise.nil).1
 have hgl : ∀ k, (g k).length ≤ 1000 := fun k => Nat.le_trans (asc_bound (hga k) fun x hx => by
  rw [hg] at hx
  have hx := ((childs_asc (l := (n.children.take k).filter fun c => Tp.okN c && !(c == m.addr)) (acc := []) List.Pairwise.nil).2 x).1 hx
  rcases hx with hx | hx
  ·have := (List.mem_filter.1 hx).2
   simp only [Bool.and_eq_true] at this
   exact this.1
  ·cases hx) (by decide)
 refine HR.loop (ι := Nat × Value) (fun x => x.1 ≤ n.children.length) (fun x => [(1, ptr b1), (2, ptr b2), (3, x.2), (4, .int .i64 (x.1 : Int))]) (fun x => [cI x.2 (g x.1), blkC b1 [.int .i64 m.addr, .int .i64 m.poll, .int .i64 m.parent, sv xt m.table.length, sv xl m.links.length, .slice a3 m.out.length c3, sv V.ch n.children.length, .slice a5 m.boxes.length c5, sv V.se n.seen.length, sv V.pa V.ps.length, sv V.ib n.inbox.length, .int .i64 n.seq, .int .i64 n.lost] 62, rsC b2, groupC Gt, cSn (.slice a3 m.out.length c3) m.out, cMa (.slice a5 m.boxes.length c5) m.boxes]) (fun x => n.children.length - x.1) (0, .slice none 0 0) (Nat.zero_le _) ⟨I, I, I, I, trivial⟩ (by rw [hg]; exact Ent.refl) ?_
 rintro ⟨k, v⟩ hk ih
 have hk : k ≤ n.children.length := hk
 repeat' (first | refine zh ?_ | intro (bk : Nat))
 refine HR.cond I (fun h2 => ?_) (fun h2 => ?_)
 ·have hlt : k < n.children.length := by have := of_decide_eq_true h2; omega
  obtain ⟨c, hc⟩ := getSome hlt
  have hgs := fold_step (fun c => Tp.okN c && !(c == m.addr)) hc
  have hgs : g (k + 1) = if (Tp.okN c && !(c == m.addr)) = true then child (g k) c else g k := by rw [hg]; exact hgs
  repeat' (first | refine zh ?_ | intro (bk : Nat))
  refine HR.join (ι := Unit) (fun _ => True) (fun _ => [(1, ptr b1), (2, ptr b2), (3, v), (4, .int .i64 (k : Int)), (86, .bool (Tp.okN c && !(c == m.addr)))]) (fun _ => [cI v (g k), blkC b1 [.int .i64 m.addr, .int .i64 m.poll, .int .i64 m.parent, sv xt m.table.length, sv xl m.links.length, .slice a3 m.out.length c3, sv V.ch n.children.length, .slice a5 m.boxes.length c5, sv V.se n.seen.length, sv V.pa V.ps.length, sv V.ib n.inbox.length, .int .i64 n.seq, .int .i64 n.lost] 62, rsC b2, groupC Gt, cSn (.slice a3 m.out.length c3) m.out, cMa (.slice a5 m.boxes.length c5) m.boxes]) (fun _ _ => ?_) (fun hj => ?_)
  rotate_left
  ·refine HR.regionD [(0, true), (1, true), (2, true), (3, true), (4, true), (5, false), (6, true), (7, true), (8, true), (9, true), (10, true), (11, true), (12, true), (13, true), (14, true), (15, true)] [1] I I hmix (by kernel_rfl) ?_
   repeat' (first | refine zd ?_ | refine HD.idxR (Rd.arg h.ch) elemI k I I I I I hlt ?_ | refine HD.loadI (Rd.arg h.ch) I I I I I (cellsOf_get1 hc) ?_)
   refine HD.one I ?_
   refine HL.callB fn120 I I (fun w _ => address_any c w) ?_
   refine HL.back [1] I I ?_
   repeat' (first | refine zd ?_ | fail)
   refine HD.split 77 I (fun hb => ?_) (fun hb => ?_)
   ·repeat' (first | refine zd ?_ | refine HD.idxR (Rd.arg h.ch) elemI k I I I I I hlt ?_ | refine HD.loadI (Rd.arg h.ch) I I I I I (cellsOf_get1 hc) ?_)
    refine HD.nil ?_
    refine hj () _ _ trivial ⟨rfl, rfl, rfl, rfl, ?_, trivial⟩ Ent.refl
    show some (Value.bool (!(c == m.addr))) = some (Value.bool (Tp.okN c && !(c == m.addr)))
    rw [show Tp.okN c = true from hb]; rfl
   ·repeat' (first | refine zd ?_ | fail)
    refine HD.nil ?_
    refine hj () _ _ trivial ⟨rfl, rfl, rfl, rfl, ?_, trivial⟩ Ent.refl
    show some (Value.bool false) = some (Value.bool (Tp.okN c && !(c == m.addr)))
    rw [show Tp.okN c = false from hb]; rfl
  refine HR.cond I (fun h3 => ?_) (fun h3 => ?_)
  ·have h3 : (Tp.okN c && !(c == m.addr)) = true := h3
   rw [if_pos h3] at hgs
   repeat' (first | refine zh ?_ | refine HL.idxR (Rd.arg h.ch) elemI k I I I I hlt ?_ | refine HL.loadI (Rd.arg h.ch) I I I I (cellsOf_get1 hc) ?_ | intro (bk : Nat))
   refine HL.callW (r := fun r : Value => r) (Q := fun _ => True) (G0 := [cI v (g k)]) (H0 := [blkC b1 [.int .i64 m.addr, .int .i64 m.poll, .int .i64 m.parent, sv xt m.table.length, sv xl m.links.length, .slice a3 m.out.length c3, sv V.ch n.children.length, .slice a5 m.boxes.length c5, sv V.se n.seen.length, sv V.pa V.ps.length, sv V.ib n.inbox.length, .int .i64 n.seq, .int .i64 n.lost] 62, rsC b2, groupC Gt, cSn (.slice a3 m.out.length c3) m.out, cMa (.slice a5 m.boxes.length c5) m.boxes]) (G := fun r => [cI r (child (g k) c)]) fn145 I I I (fun w1 hw1 => rchild_any (g k) c v _ w1 (hw1.pick [0] I I) (hgl k) (hga k)) ?_
   intro r _
   repeat' (first | refine zh ?_ | intro (bk : Nat))
   refine ih (k + 1, r) _ _ hlt (by show n.children.length - (k + 1) < n.children.length - k; omega) ⟨I, I, I, I, trivial⟩ ?_
   show Ent _ _ [cI r (g (k + 1)), blkC b1 [.int .i64 m.addr, .int .i64 m.poll, .int .i64 m.parent, sv xt m.table.length, sv xl m.links.length, .slice a3 m.out.length c3, sv V.ch n.children.length, .slice a5 m.boxes.length c5, sv V.se n.seen.length, sv V.pa V.ps.length, sv V.ib n.inbox.length, .int .i64 n.seq, .int .i64 n.lost] 62, rsC b2, groupC Gt, cSn (.slice a3 m.out.length c3) m.out, cMa (.slice a5 m.boxes.length c5) m.boxes]
   rw [hgs]
   exact Ent.refl
  ·have h3 : (Tp.okN c && !(c == m.addr)) = false := h3
   rw [if_neg (by rw [h3]; decide)] at hgs
   repeat' (first | refine zh ?_ | intro (bk : Nat))
   refine ih (k + 1, v) _ _ hlt (by show n.children.length - (k + 1) < n.children.length - k; omega) ⟨I, I, I, I, trivial⟩ ?_
   show Ent _ _ [cI v (g (k + 1)), blkC b1 [.int .i64 m.addr, .int .i64 m.poll, .int .i64 m.parent, sv xt m.table.length, sv xl m.links.length, .slice a3 m.out.length c3, sv V.ch n.children.length, .slice a5 m.boxes.length c5, sv V.se n.seen.length, sv V.pa V.ps.length, sv V.ib n.inbox.length, .int .i64 n.seq, .int .i64 n.lost] 62, rsC b2, groupC Gt, cSn (.slice a3 m.out.length c3) m.out, cMa (.slice a5 m.boxes.length c5) m.boxes]
   rw [hgs]
   exact Ent.refl
 have hke : k = n.children.length := by have := of_decide_eq_false h2; omega
 subst hke
 have hgm : g n.children.length = m.children := by rw [e_ch, hg]; show ((n.children.take n.children.length).filter _).foldl child [] = _; rw [List.take_length]
 refine HR.ent (H' := [cI v m.children, blkC b1 [.int .i64 m.addr, .int .i64 m.poll, .int .i64 m.parent, sv xt m.table.length, sv xl m.links.length, .slice a3 m.out.length c3, sv V.ch n.children.length, .slice a5 m.boxes.length c5, sv V.se n.seen.length, sv V.pa V.ps.length, sv V.ib n.inbox.length, .int .i64 n.seq, .int .i64 n.lost] 62, rsC b2, groupC Gt, cSn (.slice a3 m.out.length c3) m.out, cMa (.slice a5 m.boxes.length c5) m.boxes]) (Ent.of_eq (by rw [← hgm])) ?_
 repeat' (first | refine zh ?_ | intro (bk : Nat))
 refine HL.shape 0 I fun a4 c4 hv => ?_
 subst hv
 refine HL.ent (H' := [blkC b1 [.int .i64 m.addr, .int .i64 m.poll, .int .i64 m.parent, sv xt m.table.length, sv xl m.links.length, .slice a3 m.out.length c3, sv V.ch n.children.length, .slice a5 m.boxes.length c5, sv V.se n.seen.length, sv V.pa V.ps.length, sv V.ib n.inbox.length, .int .i64 n.seq, .int .i64 n.lost] 62, rsC b2, groupC Gt, cSn (.slice a3 m.out.length c3) m.out, cMa (.slice a5 m.boxes.length c5) m.boxes, cI (.slice a4 m.children.length c4) m.children]) (Ent.pick [1, 2, 3, 4, 5, 0] I I) ?_
 repeat' (first | refine zh ?_ | refine HL.bslice0 elemPr I ?_ | intro (bk : Nat))
 intro v0
 repeat' (first | refine zh ?_ | intro (bk : Nat))
 refine HL.setV 103 (v' := .int .i64 ((n.seen.length - 32 : Nat) : Int)) I (by rw [← max0]) ?_
 repeat' (first | refine zh ?_ | refine HL.subI (sz := 2) (n.seen.length - 32) n.seen.length (Rd.arg h.se) I I I I (.inr ⟨_, _, _, rfl, rfl, rfl⟩) (.inl ⟨rfl, rfl⟩) (Nat.sub_le _ _) (Nat.le_refl _) ?_ | intro (bk : Nat))
 refine HL.appR 0 I elemPr (Rd.arg s_se) I I I (cellsOf_len prC_len _) (one_allcells prC_one _) (by omega) (by omega) ?_
 intro v1
 refine HL.ent (H' := cPr v1 m.seen :: [blkC b1 [.int .i64 m.addr, .int .i64 m.poll, .int .i64 m.parent, sv xt m.table.length, sv xl m.links.length, .slice a3 m.out.length c3, .slice a4 m.children.length c4, .slice a5 m.boxes.length c5, sv V.se n.seen.length, sv V.pa V.ps.length, sv V.ib n.inbox.length, .int .i64 n.seq, .int .i64 n.lost] 62, rsC b2, groupC Gt, cSn (.slice a3 m.out.length c3) m.out, cMa (.slice a5 m.boxes.length c5) m.boxes, cI (.slice a4 m.children.length c4) m.children]) (Ent.own0 (Nat.zero_add _) (List.nil_append _)) ?_
 refine HL.shape 0 I fun a6 c6 hv => ?_
 subst hv
 refine HL.ent (H' := [blkC b1 [.int .i64 m.addr, .int .i64 m.poll, .int .i64 m.parent, sv xt m.table.length, sv xl m.links.length, .slice a3 m.out.length c3, .slice a4 m.children.length c4, .slice a5 m.boxes.length c5, sv V.se n.seen.length, sv V.pa V.ps.length, sv V.ib n.inbox.length, .int .i64 n.seq, .int .i64 n.lost] 62, rsC b2, groupC Gt, cSn (.slice a3 m.out.length c3) m.out, cMa (.slice a5 m.boxes.length c5) m.boxes, cI (.slice a4 m.children.length c4) m.children, cPr (.slice a6 m.seen.length c6) m.seen]) (Ent.pick [1, 2, 3, 4, 5, 6, 0] I I) ?_
 repeat' (first | refine zh ?_ | refine HL.bslice0 elemDe I ?_ | intro (bk : Nat))
 intro v0
 repeat' (first | refine zh ?_ | intro (bk : Nat))
 refine HL.setV 113 (v' := .int .i64 ((min n.inbox.length 256 : Nat) : Int)) I (by rw [← min_i]; rfl) ?_
 repeat' (first | refine zh ?_ | refine HL.subI (sz := 2) 0 (min n.inbox.length 256) (Rd.arg h.ib) I I I I (.inl ⟨rfl, rfl⟩) (.inr ⟨_, _, _, rfl, rfl, rfl⟩) (Nat.zero_le _) (Nat.min_le_left _ _) ?_ | intro (bk : Nat))
 refine HL.appR 0 I elemDe (Rd.arg s_ib) I I I (cellsOf_len deC_len _) (one_allcells deC_one _) (by omega) (by omega) ?_
 intro v1
 refine HL.ent (H' := cDe v1 m.inbox :: [blkC b1 [.int .i64 m.addr, .int .i64 m.poll, .int .i64 m.parent, sv xt m.table.length, sv xl m.links.length, .slice a3 m.out.length c3, .slice a4 m.children.length c4, .slice a5 m.boxes.length c5, .slice a6 m.seen.length c6, sv V.pa V.ps.length, sv V.ib n.inbox.length, .int .i64 n.seq, .int .i64 n.lost] 62, rsC b2, groupC Gt, cSn (.slice a3 m.out.length c3) m.out, cMa (.slice a5 m.boxes.length c5) m.boxes, cI (.slice a4 m.children.length c4) m.children, cPr (.slice a6 m.seen.length c6) m.seen]) (Ent.own0 (Nat.zero_add _) (List.nil_append _)) ?_
 refine HL.shape 0 I fun a7 c7 hv => ?_
 subst hv
 refine HL.ent (H' := [blkC b1 [.int .i64 m.addr, .int .i64 m.poll, .int .i64 m.parent, sv xt m.table.length, sv xl m.links.length, .slice a3 m.out.length c3, .slice a4 m.children.length c4, .slice a5 m.boxes.length c5, .slice a6 m.seen.length c6, sv V.pa V.ps.length, sv V.ib n.inbox.length, .int .i64 n.seq, .int .i64 n.lost] 62, rsC b2, groupC Gt, cSn (.slice a3 m.out.length c3) m.out, cMa (.slice a5 m.boxes.length c5) m.boxes, cI (.slice a4 m.children.length c4) m.children, cPr (.slice a6 m.seen.length c6) m.seen, cDe (.slice a7 m.inbox.length c7) m.inbox]) (Ent.pick [1, 2, 3, 4, 5, 6, 7, 0] I I) ?_
 repeat' (first | refine zh ?_ | apply zb ?_ ?_ | exact zc | (refine zi fun hb => ?_; try simp at hb) | intro (bk : Nat))
 refine HR.join (ι := Unit) (fun _ => True) (fun _ => [(1, ptr b1), (2, ptr b2)]) (fun _ => [blkC b1 [.int .i64 m.addr, .int .i64 m.poll, .int .i64 m.parent, sv xt m.table.length, sv xl m.links.length, .slice a3 m.out.length c3, .slice a4 m.children.length c4, .slice a5 m.boxes.length c5, .slice a6 m.seen.length c6, sv V.pa V.ps.length, .slice a7 m.inbox.length c7, .int .i64 m.seq, .int .i64 n.lost] 62, rsC b2, groupC Gt, cSn (.slice a3 m.out.length c3) m.out, cMa (.slice a5 m.boxes.length c5) m.boxes, cI (.slice a4 m.children.length c4) m.children, cPr (.slice a6 m.seen.length c6) m.seen, cDe (.slice a7 m.inbox.length c7) m.inbox]) (fun _ _ => ?_) (fun hj => ?_)
 rotate_left
 ·refine HR.cond I (fun h2 => ?_) (fun h2 => ?_)
  ·have h2 : (decide (n.seq < 0) || decide (n.seq > 65535)) = true := h2
   have h3 : n.seq < 0 ∨ n.seq > 65535 := by simpa using h2
   refine HR.region ?_
   repeat' (first | refine zn ?_ | apply zb ?_ ?_ | exact zc | (refine zi fun hb => ?_; try simp at hb) | intro (bk : Nat))
   refine hj () _ _ trivial ⟨I, I, trivial⟩ (Ent.of_eq ?_)
   rw [e_sq, if_pos h3]; rfl
  ·have h2 : (decide (n.seq < 0) || decide (n.seq > 65535)) = false := h2
   have h3 : ¬ (n.seq < 0 ∨ n.seq > 65535) := by simpa using h2
   refine HR.skip ?_
   refine hj () _ _ trivial ⟨I, I, trivial⟩ (Ent.of_eq ?_)
   rw [e_sq, if_neg h3]; rfl
 repeat' (first | refine zh ?_ | refine HL.callB fn141 I I (fun w _ => rclamp_any n.lost 0 1099511627776 (by decide) w) ?_ | intro (bk : Nat))
 refine HR.ret Tryz.func70 I [_] (fun w hw => ⟨⟨_, rfl, loadVarR hw 1 I I I I rfl⟩, trivial⟩) ?_
 refine fun w' hw => ⟨(⟨xt, xl, (a3, c3), (a4, c4), (a5, c5), (a6, c6), V.pa, (a7, c7), V.ps⟩, Gt), ?_, ⟨rfl, rfl, ht, hli⟩, hw.pick [2, 3, 4, 5, 6, 7] I rfl⟩
 show _ = Ending.returned (.agg ⟨ndC ⟨xt, xl, (a3, c3), (a4, c4), (a5, c5), (a6, c6), V.pa, (a7, c7), V.ps⟩ m⟩)
 rw [show ndC ⟨xt, xl, (a3, c3), (a4, c4), (a5, c5), (a6, c6), V.pa, (a7, c7), V.ps⟩ m = ndC ⟨xt, xl, (a3, c3), (a4, c4), (a5, c5), (a6, c6), V.pa, (a7, c7), V.ps⟩ { m with lost := clamp n.lost 0 1099511627776 } from by rw [← e_lo]]
 rfl
end Go.Proofs.YtgfdoognildoeaaGreat
namespace Go.Proofs.YtgfdoognildoeaaGreat
open Go.GX Go.RowKit
attribute [local irreducible] Calls Run RunL RunQ RunD HR HL HD blkC ownC mapC Rd slicesC iterC
open Nd
theorem fn37 : IsFn Tryz.prog 37 := ⟨⟨_, _, Tryz.func37, rfl, by decide⟩⟩
abbrev Imp (V0 : NV) (n0 : Nd) (V : NV) (G : List Chunk) (n : Nd) : Prop := ∀ w2, OkN w2 V0 n0 → (groupC G).p w2 → OkN w2 V n
theorem ROk.okn {V V' : NV} {n m : Nd} {Gt : List Chunk} (hr : ROk V n V' Gt m) (hp : m.parts = n.parts) : Imp V n V' (roH V' Gt m) m := by
 intro w2 h2 hg
 refine ⟨hr.ta w2 h2.ta (groupC_mem hg (List.mem_cons_self ..)), hr.li w2 h2.li, ownC_sl (groupC_mem hg (c := cSn (sv V'.ou m.out.length) m.out) (by simp)), ownC_sl (groupC_mem hg (c := cI (sv V'.ch m.children.length) m.children) (by simp)), ownC_sl (groupC_mem hg (c := cMa (sv V'.bo m.boxes.length) m.boxes) (by simp)), ownC_sl (groupC_mem hg (c := cPr (sv V'.se m.seen.length) m.seen) (by simp)), ?_, ownC_sl (groupC_mem hg (c := cDe (sv V'.ib m.inbox.length) m.inbox) (by simp)), ?_⟩
 ·rw [hr.pa, hr.ps]; exact h2.pa
 ·rw [hr.ps, hp]; exact h2.eq
theorem rnew17_any (addr poll : Int) (w : World) :
  Calls Tryz.prog 37 #[.int .i64 addr, .int .i64 poll] w fun e w' => ∃ x : NV × List Chunk, e = .returned (.agg ⟨ndC x.1 (new addr poll)⟩) ∧ Imp V0 (n0 addr poll) x.1 x.2 (new addr poll) ∧ Sat (base w) [groupC x.2] w' := by
 refine calls_hr Tryz.func37 I (Nat.le_of_ble_eq_true I) ?_
 refine HR.sub (σ' := [(0, .int .i64 addr), (1, .int .i64 poll)]) ⟨I, I, trivial⟩ ?_
 repeat' (first | refine zh ?_ | intro (bk : Nat))
 refine HL.callX (r := fun x : NV × List Chunk => .agg ⟨ndC x.1 (new addr poll)⟩) (Q := fun x => ROk V0 (n0 addr poll) x.1 x.2 (new addr poll)) (G := fun x => roH x.1 x.2 (new addr poll)) fn70 I I (fun w1 _ => rorder_any V0 (n0 addr poll) w1 (okn0 addr poll w1) (smn0 addr poll)) ?_
 rintro ⟨V2, Gt⟩ hR
 have hR : ROk V0 (n0 addr poll) V2 Gt (new addr poll) := hR
 refine HL.ent (Ent.pick [6, 0, 1, 2, 3, 4, 5] I I) ?_
 repeat' (first | refine zh ?_ | intro (bk : Nat))
 refine HR.ret Tryz.func37 I [_] (fun w hw => ⟨⟨_, rfl, loadVarR hw 0 I I I I rfl⟩, trivial⟩) ?_
 refine fun w' hw => ⟨(V2, roH V2 Gt (new addr poll)), rfl, hR.okn rfl, ?_⟩
 exact Ent.trans (Ent.pick [1, 2, 3, 4, 5, 6] I I) (Ent.group (G := roH V2 Gt (new addr poll)) (H := [])) w' hw
end Go.Proofs.YtgfdoognildoeaaGreat
namespace Go.Proofs.YtgfdoognildoeaaGreat
open Go.GX Go.RowKit
attribute [local irreducible] Calls Run RunL RunQ RunD HR HL HD blkC ownC mapC Rd slicesC iterC
open Nd
theorem okN_grp {V : NV} {n : Nd} {w : World} (hg : (groupC (ndH V n)).p w) (hp : pts V.ps = n.parts) : OkN w V n := by
 have g1 := groupC_mem hg (c := cTa (sv V.ta n.table.length) n.table) (by simp)
 have g2 := groupC_mem hg (c := cLi (sv V.li n.links.length) n.links) (by simp)
 have g3 := groupC_mem hg (c := cSn (sv V.ou n.out.length) n.out) (by simp)
 have g4 := groupC_mem hg (c := cI (sv V.ch n.children.length) n.children) (by simp)
 have g5 := groupC_mem hg (c := cMa (sv V.bo n.boxes.length) n.boxes) (by simp)
 have g6 := groupC_mem hg (c := cPr (sv V.se n.seen.length) n.seen) (by simp)
 have g7 := groupC_mem hg (c := cPt (sv V.pa V.ps.length) V.ps) (by simp)
 have g8 := groupC_mem hg (c := groupC (ptG V.ps)) (by simp)
 have g9 := groupC_mem hg (c := cDe (sv V.ib n.inbox.length) n.inbox) (by simp)
 exact ⟨ownC_sl g1, ownC_sl g2, ownC_sl g3, ownC_sl g4, ownC_sl g5, ownC_sl g6, ⟨ownC_sl g7, fun p hp => ⟨ownC_sl (groupC_mem g8 (ptG_mem hp).1), ownC_sl (groupC_mem g8 (ptG_mem hp).2)⟩⟩, ownC_sl g9, hp⟩
abbrev Own (V : NV) (G : List Chunk) (n : Nd) : Prop := ∀ w2, (groupC G).p w2 → OkN w2 V n
theorem Pts.own {V : NV} {n : Nd} (h : Pts V n) : Own V (ndH V n) n := fun w2 hg => okN_grp hg h.eq
theorem sat_grp {B : Base} {G : List Chunk} {w : World} (h : Sat B G w) : Sat B [groupC G] w := by
 have h : Sat B (G ++ []) w := by rw [List.append_nil]; exact h
 exact h.group
theorem pnew_any (addr poll : Int) (w : World) :
  Calls Tryz.prog 36 #[.int .i64 addr, .int .i64 poll] w fun e w' => ∃ x : NV × List Chunk, e = .returned (.agg ⟨ndC x.1 (new addr poll)⟩) ∧ Own x.1 x.2 (new addr poll) ∧ Sat (base w) [groupC x.2] w' :=
 (snew_any addr poll w).mono fun e w' ⟨V', h1, h2, h3⟩ => ⟨(V', ndH V' _), h1, h2.own, sat_grp h3⟩
theorem presult_any (V : NV) (n : Nd) (f : Fr) (ok : Bool) (w : World) (h : OkN w V n) (hs : SmN n) :
  Calls Tryz.prog 44 #[.agg ⟨ndC V n⟩, .agg ⟨frC f⟩, .bool ok] w fun e w' => ∃ x : NV × List Chunk, e = .returned (.agg ⟨ndC x.1 (result n f ok)⟩) ∧ Own x.1 x.2 (result n f ok) ∧ Sat (base w) [groupC x.2] w' :=
 (sresult_any V n f ok w h hs).mono fun e w' ⟨V', h1, h2, h3⟩ => ⟨(V', ndH V' _), h1, h2.own, sat_grp h3⟩
theorem ptick_any (V : NV) (n : Nd) (now : Int) (w : World) (h : OkN w V n) (hs : SmN n) (hf : ∀ s ∈ n.out, fits .i64 s.wt) :
  Calls Tryz.prog 79 #[.agg ⟨ndC V n⟩, .int .i64 now] w fun e w' => ∃ x : NV × List Chunk, e = .returned (.agg ⟨ndC x.1 (tickN n now)⟩) ∧ Own x.1 x.2 (tickN n now) ∧ Sat (base w) [groupC x.2] w' :=
 (stick_any V n now w h hs hf).mono fun e w' ⟨V', h1, h2, h3⟩ => ⟨(V', ndH V' _), h1, h2.own, sat_grp h3⟩
theorem ptalk_any (V : NV) (n : Nd) (now : Int) (w : World) (h : OkN w V n) (hs : SmN n) :
  Calls Tryz.prog 80 #[.agg ⟨ndC V n⟩, .int .i64 now] w fun e w' => ∃ x : NV × List Chunk, e = .returned (.tuple ⟨[.agg ⟨ndC x.1 (talk n now).1⟩, .agg ⟨frC (talk n now).2.1⟩, .bool (talk n now).2.2]⟩) ∧ Own x.1 x.2 (talk n now).1 ∧ Sat (base w) [groupC x.2] w' :=
 (stalk_any V n now w h hs).mono fun e w' ⟨V', h1, h2, h3⟩ => ⟨(V', ndH V' _), h1, h2.own, sat_grp h3⟩
theorem phear_any (V : NV) (n : Nd) (now : Int) (f : Fr) (w : World) (h : OkN w V n) (hs : SmN n) (hfl : f.da.length ≤ 9223372036854775807) :
  Calls Tryz.prog 87 #[.agg ⟨ndC V n⟩, .int .i64 now, .agg ⟨frC f⟩] w fun e w' => ∃ x : NV × List Chunk, e = .returned (.agg ⟨ndC x.1 (hear n now f)⟩) ∧ Own x.1 x.2 (hear n now f) ∧ Sat (base w) [groupC x.2] w' :=
 (shear_any V n now f w h hs hfl).mono fun e w' ⟨V', h1, h2, h3⟩ => ⟨(V', ndH V' _), h1, h2.own, sat_grp h3⟩
structure PtSm (l : List Pt) : Prop where
 len : l.length ≤ 1000
 sm : ∀ p ∈ l, SmPt p
theorem ord_sm {n : Nd} (h : Ord n) (hp : PtSm n.parts) : SmN n :=
 ⟨Nat.le_trans (tlen h) (by decide), Nat.le_trans (llen h) (by decide), Nat.le_trans h.out (by decide), Nat.le_trans (klen h) (by decide), Nat.le_trans h.boxes (by decide), Nat.le_trans h.seen (by decide), hp.len, Nat.le_trans h.inbox (by decide), hp.sm⟩
theorem pvalid_smp {p : Pt} (h : pvalid p = true) : SmPt p := by
 have H := phead_is (pvalid_head h)
 have h1 := H.hv
 have h2 := H.da
 have h3 := H.ct1
 exact ⟨by omega, by omega, fun s hs => by have := pvalid_sm h s hs; omega⟩
theorem porder_sm (l : List Pt) : ∀ p ∈ porder l, SmPt p := fun p hp => pvalid_smp (porder_valid p hp)
theorem pexp_sm (l : List Pt) (now life : Int) : PtSm (pexp l now life) :=
 ⟨Nat.le_trans (Nat.le_trans (List.length_filter_le _ _) (porder_len l)) (by decide), fun p hp => porder_sm l p (List.mem_filter.1 hp).1⟩
theorem pdrop_mem {l : List Pt} {s id c : Int} {p : Pt} (h : p ∈ (pdrop l s id c).1) : p ∈ l := by
 unfold pdrop at h
 split at h
 ·split at h
  ·exact h
  ·exact List.mem_of_mem_eraseIdx h
 ·exact h
theorem pmark_sm {p : Pt} {i : Nat} {d : By} (h : SmPt p) (hd : d.length ≤ 1000) : SmPt (pmark p i d) := by
 unfold pmark
 split
 ·exact h
 ·refine ⟨?_, ?_, fun s hs => ?_⟩
  ·show (p.hv.set i true).length ≤ 140737488355328
   rw [List.length_set]; exact h.1
  ·show (p.da.set i d).length ≤ 8796093022208
   rw [List.length_set]; exact h.2.1
  ·rcases List.mem_or_eq_of_mem_set hs with hs | rfl
   ·exact h.2.2 s hs
   ·omega
theorem padd_sm {l : List Pt} {s now : Int} {x : By} (hx : x.length ≤ 1000) (he : (padd l s now x).e = 0) : PtSm (padd l s now x).l := by
 unfold padd at he ⊢
 split
 ·exact ⟨Nat.zero_le _, fun p hp => by cases hp⟩
 ·rename_i hc
  have hc : pchk x = 0 := Decidable.not_not.1 hc
  obtain ⟨c1, c2, c3, c4, c5, c6, c7, c8⟩ := pchk_spec hc
  have ho8 := porder_len l
  split
  ·exact ⟨Nat.le_trans (pdrop_len ho8 s (b8 x 0) 1) (by decide), fun p hp => porder_sm l p (pdrop_mem hp)⟩
  ·rename_i h1
   have hd8 := pdrop_len ho8 s (b8 x 0) (b8 x 2)
   have hm : ∀ p ∈ (pdrop (porder l) s (b8 x 0) (b8 x 2)).1, SmPt p := fun p hp => porder_sm l p (pdrop_mem hp)
   have hnew : (∀ p ∈ (pnew (pdrop (porder l) s (b8 x 0) (b8 x 2)) s (b8 x 0) (b8 x 2) now).1, SmPt p) ∧ (pnew (pdrop (porder l) s (b8 x 0) (b8 x 2)) s (b8 x 0) (b8 x 2) now).1.length ≤ 8 := by
    unfold pnew
    split
    ·exact ⟨hm, hd8⟩
    ·have hr := proom_len hd8
     refine ⟨fun p hp => ?_, by rw [List.length_append]; simp; omega⟩
     rcases List.mem_append.1 hp with hp | hp
     ·unfold proom at hp
      split at hp
      ·exact hm p (List.mem_of_mem_eraseIdx hp)
      ·exact hm p hp
     ·rw [List.mem_singleton.1 hp]
      refine ⟨?_, ?_, fun s hs => ?_⟩
      ·show (List.replicate (b8 x 2).toNat false).length ≤ 140737488355328
       rw [List.length_replicate]; omega
      ·show (List.replicate (b8 x 2).toNat ([] : By)).length ≤ 8796093022208
       rw [List.length_replicate]; omega
      ·have hs : s ∈ List.replicate (b8 x 2).toNat ([] : By) := hs
       rw [(List.mem_replicate.1 hs).2]; simp
   generalize pnew (pdrop (porder l) s (b8 x 0) (b8 x 2)) s (b8 x 0) (b8 x 2) now = o at hnew ⊢
   obtain ⟨n1, n2⟩ := hnew
   have hz : SmPt pz := ⟨by decide, by decide, fun s hs => by cases hs⟩
   have hg : SmPt (o.1.getD o.2 pz) := by
    rw [List.getD_eq_getElem?_getD]
    cases hq : o.1[o.2]? with
    | none => exact hz
    | some q => exact n1 q (List.mem_of_getElem? hq)
   have hdl : (x.drop 3).length ≤ 1000 := by rw [List.length_drop]; omega
   unfold pput
   split
   ·exact ⟨Nat.le_trans (List.length_eraseIdx_le _ _) (by omega), fun p hp => n1 p (List.mem_of_mem_eraseIdx hp)⟩
   ·refine ⟨by rw [List.length_set]; omega, fun p hp => ?_⟩
    rcases List.mem_or_eq_of_mem_set hp with hp | rfl
    ·exact n1 p hp
    ·exact pmark_sm hg hdl
theorem new_ptsm (a p : Int) : PtSm (new a p).parts := ⟨Nat.zero_le _, fun p hp => by cases hp⟩
theorem talks_parts (now : Int) : ∀ (k : Nat) (n : Nd) (i : Nat), (talks now k n i).1.parts = n.parts
 | 0, n, i => rfl
 | k + 1, n, i => by
  unfold talks
  split
  ·rfl
  ·split
   ·exact talks_parts now k n _
   ·split
    ·rfl
    ·split
     ·rw [talks_parts now k]; exact box_parts _ _ _
     ·split
      ·rfl
      ·split
       ·rw [talks_parts now k]; rfl
       ·rw [talks_parts now k]
theorem talk_ptsm {n : Nd} {now : Int} (h : PtSm n.parts) : PtSm (talk n now).1.parts := by
 unfold talk; rw [talks_parts]; exact h
theorem result_ptsm {n : Nd} {f : Fr} {ok : Bool} (h : PtSm n.parts) : PtSm (result n f ok).parts := by
 unfold result
 simp only
 split
 ·exact h
 ·split
  ·rw [giveUp_parts]; split <;> exact h
  ·split <;> exact h
theorem tick_ptsm (n : Nd) (now : Int) : PtSm (tickN n now).parts := by
 have e : (tickN n now).parts = pexp (order n).parts (tick now) 120 := by
  have k1 : ∀ (c : Prop) [Decidable c] (a : Nd), (if c then Nd.beacon a else a).parts = a.parts := by intro c _ a; split; exact beacon_parts _; rfl
  have k2 : ∀ (c : Prop) [Decidable c] (a : Nd), (if c then Nd.poll a else a).parts = a.parts := by intro c _ a; split; exact poll_parts _; rfl
  unfold tickN
  simp only
  rw [k2, k1, asleep_parts]
 rw [e]; exact pexp_sm _ _ _
theorem hear_ptsm {n : Nd} {now : Int} {f : Fr} (h : PtSm n.parts) : PtSm (hear n now f).parts := by
 unfold hear
 simp only
 split
 ·exact h
 ·rename_i h1
  have hc : fchk f = 0 := Decidable.not_not.1 fun e => h1 (.inl e)
  have hl := (fchk_fr hc).2.2.2.2.2.2
  split
  ·rw [advertised_parts]; exact h
  ·split
   ·rw [polled_parts]; exact h
   ·split
    ·unfold received
     simp only
     split
     ·exact h
     ·split
      ·split
       ·exact h
       ·rename_i he
        have hp : PtSm (padd (order n).parts f.so (tick now) f.da).l := padd_sm (by omega) (Decidable.not_not.1 he)
        split
        ·rw [deliver_parts]; exact hp
        ·exact hp
      ·split
       ·exact h
       ·rw [queue_parts]; exact h
    ·exact h
end Go.Proofs.YtgfdoognildoeaaGreat
namespace Go.Proofs.YtgfdoognildoeaaGreat
open Go.GX Go.RowKit
attribute [local irreducible] Calls Run RunL RunQ RunD HR HL HD blkC ownC mapC Rd slicesC iterC
open Nd
theorem fn19 : IsFn Tryz.prog 19 := ⟨⟨_, _, Tryz.func19, rfl, by decide⟩⟩
theorem fn146 : IsFn Tryz.prog 146 := ⟨⟨_, _, Tryz.func146, rfl, by decide⟩⟩
theorem same07I_any (a b : List Int) (va vb : Value) (w : World) (ha : Sl w va (cellsOf iC a) a.length) (hb : Sl w vb (cellsOf iC b) b.length) (hla : a.length ≤ 1000000) :
  Calls Tryz.prog 19 #[va, vb] w fun e' w' => e' = .returned (.bool (decide (a = b))) ∧ Below w.heap.size w w' := by
 refine calls_hr Tryz.func19 I (Nat.le_of_ble_eq_true I) ?_
 refine HR.sub (σ' := [(0, va), (1, vb)]) ⟨I, I, trivial⟩ ?_
 repeat' (first | refine zh ?_ | refine HL.lenR (Rd.arg ha) I I I ?_ | refine HL.lenR (Rd.arg hb) I I I ?_ | apply zb ?_ ?_ | exact zc | (refine zi fun hb => ?_; try simp at hb) | intro (bk : Nat))
 refine HR.cond I (fun h1 => ?_) (fun h1 => ?_)
 ·repeat' (first | refine zh ?_ | apply zb ?_ ?_ | exact zc | (refine zi fun hb => ?_; try simp at hb) | intro (bk : Nat))
  refine HR.ret Tryz.func19 I [_] (fun _ _ => ⟨I, trivial⟩) ?_
  have : a ≠ b := by rintro rfl; simp at h1
  exact fun w' hw => ⟨by simp [this, resV], hw.belowB⟩
 have hl : a.length = b.length := by have h1' : ((a.length : Int) != (b.length : Int)) = false := h1; simp at h1'; omega
 repeat' (first | refine zh ?_ | apply zb ?_ ?_ | exact zc | (refine zi fun hb => ?_; try simp at hb) | intro (bk : Nat))
 refine HR.loop (ι := Nat) (fun k => k ≤ a.length ∧ a.take k = b.take k) (fun k => [(0, va), (1, vb), (5, .int .i64 (k : Int))]) (fun _ => []) (fun k => a.length - k) 0 ⟨Nat.zero_le _, by simp⟩ ⟨I, I, I, trivial⟩ Ent.refl ?_
 rintro k ⟨hk, hg⟩ ih
 repeat' (first | refine zh ?_ | refine HL.lenR (Rd.arg ha) I I I ?_ | apply zb ?_ ?_ | exact zc | (refine zi fun hb => ?_; try simp at hb) | intro (bk : Nat))
 refine HR.cond I (fun h2 => ?_) (fun h2 => ?_)
 ·have hlt : k < a.length := by have := of_decide_eq_true h2; omega
  obtain ⟨x, hx⟩ := getSome hlt
  obtain ⟨y, hy⟩ := getSome (show k < b.length by omega)
  repeat' (first | refine zh ?_ | apply zb ?_ ?_ | exact zc | (refine zi fun hb => ?_; try simp at hb) | intro (bk : Nat))
  refine HR.regionQ hmix (by kernel_rfl) ?_
  repeat' (first | refine zq ?_ | refine HQ.idxR (Rd.arg ha) elemI k I I I I hlt ?_ | refine HQ.idxR (Rd.arg hb) elemI k I I I I (by omega) ?_ | refine HQ.loadI (Rd.arg ha) I I I I (cellsOf_get1 hx) ?_ | refine HQ.loadI (Rd.arg hb) I I I I (cellsOf_get1 hy) ?_ | apply zb ?_ ?_ | exact zc | (refine zi fun hb => ?_; try simp at hb))
  refine HR.cond I (fun h3 => ?_) (fun h3 => ?_)
  ·repeat' (first | refine zh ?_ | apply zb ?_ ?_ | exact zc | (refine zi fun hb => ?_; try simp at hb) | intro (bk : Nat))
   refine HR.ret Tryz.func19 I [_] (fun _ _ => ⟨I, trivial⟩) ?_
   have : a ≠ b := by rintro rfl; rw [hx] at hy; cases hy; simp at h3
   exact fun w' hw => ⟨by simp [this, resV], hw.belowB⟩
  ·repeat' (first | refine zh ?_ | apply zb ?_ ?_ | exact zc | (refine zi fun hb => ?_; try simp at hb) | intro (bk : Nat))
   refine ih (k + 1) _ _ ⟨hlt, ?_⟩ (by omega) ⟨I, I, I, trivial⟩ Ent.refl
   rw [take_succ_get hx, take_succ_get hy, hg]
   have hxy : x = y := by simpa using h3
   rw [hxy]
 ·have hke : k = a.length := by have := of_decide_eq_false h2; omega
  subst hke
  repeat' (first | refine zh ?_ | apply zb ?_ ?_ | exact zc | (refine zi fun hb => ?_; try simp at hb) | intro (bk : Nat))
  refine HR.ret Tryz.func19 I [_] (fun _ _ => ⟨I, trivial⟩) ?_
  have : a = b := by rw [← List.take_length (l := a), hg, hl, List.take_length]
  exact fun w' hw => ⟨by simp [this, resV], hw.belowB⟩
theorem same04S_any (a b : List By) (va vb : Value) (w : World) (ha : Sl w va (cellsOf sC a) a.length) (hb : Sl w vb (cellsOf sC b) b.length) (hla : a.length ≤ 8796093022208) :
  Calls Tryz.prog 146 #[va, vb] w fun e' w' => e' = .returned (.bool (decide (a = b))) ∧ Below w.heap.size w w' := by
 refine calls_hr Tryz.func146 I (Nat.le_of_ble_eq_true I) ?_
 refine HR.sub (σ' := [(0, va), (1, vb)]) ⟨I, I, trivial⟩ ?_
 repeat' (first | refine zh ?_ | refine HL.lenR (Rd.arg ha) I I I ?_ | refine HL.lenR (Rd.arg hb) I I I ?_ | apply zb ?_ ?_ | exact zc | (refine zi fun hb => ?_; try simp at hb) | intro (bk : Nat))
 refine HR.cond I (fun h1 => ?_) (fun h1 => ?_)
 ·repeat' (first | refine zh ?_ | apply zb ?_ ?_ | exact zc | (refine zi fun hb => ?_; try simp at hb) | intro (bk : Nat))
  refine HR.ret Tryz.func146 I [_] (fun _ _ => ⟨I, trivial⟩) ?_
  have : a ≠ b := by rintro rfl; simp at h1
  exact fun w' hw => ⟨by simp [this, resV], hw.belowB⟩
 have hl : a.length = b.length := by have h1' : ((a.length : Int) != (b.length : Int)) = false := h1; simp at h1'; omega
 repeat' (first | refine zh ?_ | apply zb ?_ ?_ | exact zc | (refine zi fun hb => ?_; try simp at hb) | intro (bk : Nat))
 refine HR.loop (ι := Nat) (fun k => k ≤ a.length ∧ a.take k = b.take k) (fun k => [(0, va), (1, vb), (5, .int .i64 (k : Int))]) (fun _ => []) (fun k => a.length - k) 0 ⟨Nat.zero_le _, by simp⟩ ⟨I, I, I, trivial⟩ Ent.refl ?_
 rintro k ⟨hk, hg⟩ ih
 repeat' (first | refine zh ?_ | refine HL.lenR (Rd.arg ha) I I I ?_ | apply zb ?_ ?_ | exact zc | (refine zi fun hb => ?_; try simp at hb) | intro (bk : Nat))
 refine HR.cond I (fun h2 => ?_) (fun h2 => ?_)
 ·have hlt : k < a.length := by have := of_decide_eq_true h2; omega
  obtain ⟨x, hx⟩ := getSome hlt
  obtain ⟨y, hy⟩ := getSome (show k < b.length by omega)
  repeat' (first | refine zh ?_ | apply zb ?_ ?_ | exact zc | (refine zi fun hb => ?_; try simp at hb) | intro (bk : Nat))
  refine HR.regionQ hmix (by kernel_rfl) ?_
  repeat' (first | refine zq ?_ | refine HQ.idxR (Rd.arg ha) elemS k I I I I hlt ?_ | refine HQ.idxR (Rd.arg hb) elemS k I I I I (by omega) ?_ | refine HQ.loadI (Rd.arg ha) I I I I (cellsOf_get1 hx) ?_ | refine HQ.loadI (Rd.arg hb) I I I I (cellsOf_get1 hy) ?_ | apply zb ?_ ?_ | exact zc | (refine zi fun hb => ?_; try simp at hb))
  refine HR.cond I (fun h3 => ?_) (fun h3 => ?_)
  ·repeat' (first | refine zh ?_ | apply zb ?_ ?_ | exact zc | (refine zi fun hb => ?_; try simp at hb) | intro (bk : Nat))
   refine HR.ret Tryz.func146 I [_] (fun _ _ => ⟨I, trivial⟩) ?_
   have : a ≠ b := by rintro rfl; rw [hx] at hy; cases hy; simp at h3
   exact fun w' hw => ⟨by simp [this, resV], hw.belowB⟩
  ·repeat' (first | refine zh ?_ | apply zb ?_ ?_ | exact zc | (refine zi fun hb => ?_; try simp at hb) | intro (bk : Nat))
   refine ih (k + 1) _ _ ⟨hlt, ?_⟩ (by omega) ⟨I, I, I, trivial⟩ Ent.refl
   rw [take_succ_get hx, take_succ_get hy, hg]
   have hxy : x = y := by simpa using h3
   rw [hxy]
 ·have hke : k = a.length := by have := of_decide_eq_false h2; omega
  subst hke
  repeat' (first | refine zh ?_ | apply zb ?_ ?_ | exact zc | (refine zi fun hb => ?_; try simp at hb) | intro (bk : Nat))
  refine HR.ret Tryz.func146 I [_] (fun _ _ => ⟨I, trivial⟩) ?_
  have : a = b := by rw [← List.take_length (l := a), hg, hl, List.take_length]
  exact fun w' hw => ⟨by simp [this, resV], hw.belowB⟩
end Go.Proofs.YtgfdoognildoeaaGreat
namespace Me
open Go.GX Nd Tp
structure Mesh where
 tick : Int
 nodes : List Nd.Nd
def mesh0 : Mesh := ⟨0, []⟩
abbrev Air := Ra.Air
def idx (l : List Nd.Nd) (a : Int) : Option Nat := l.findIdx? fun n => n.addr == a
def nth (l : List Nd.Nd) (i : Nat) : Nd.Nd := l.getD i nd0
def addrBad (l : List Int) (i : Nat) : Int := match l[i]? with
 | none => 0
 | some a => if okN a = false then 2 else if a ∈ l.take i then 9 else 0
def pollOf (polls : List Int) (i : Nat) : Int := polls.getD i 0
def nodeAt (addrs polls : List Int) (i : Nat) : Nd.Nd := new (addrs.getD i 0) (pollOf polls i)
def put (l : List Nd.Nd) (n : Nd.Nd) : List Nd.Nd := ins (fun x => decide (x.addr < n.addr)) l n
def build (addrs polls : List Int) : Nat → List Nd.Nd
 | 0 => []
 | k + 1 => put (build addrs polls k) (nodeAt addrs polls k)
def mNew (addrs polls : List Int) : Mesh × Int :=
 if addrs.length > 24 then (mesh0, 3)
 else if firstE (addrBad addrs) addrs.length ≠ 0 then (mesh0, firstE (addrBad addrs) addrs.length)
 else (⟨0, build addrs polls addrs.length⟩, 0)
def now1 (t : Int) : Int := max 0 (min t (maxTick - 1)) + 1
def live (a : Air) (addr : Int) : Bool := !(Ra.check a == 0) || !decide (addr ∈ a.o)
def phase1 (a : Air) (now : Int) (n : Nd.Nd) : Nd.Nd := if live a n.addr then tickN n now else n
def talk1 (now : Int) (lv : Bool) (n : Nd.Nd) : Nd.Nd × Fr × Bool := if lv then talk n now else (n, fr0, false)
def hear1 (f : Fr) (now : Int) (s : List Nd.Nd × Bool) (to : Int) : List Nd.Nd × Bool := match idx s.1 to with
 | none => s
 | some k => if awake (nth s.1 k) now then (s.1.set k (hear (nth s.1 k) now f), s.2 || (to == f.dst)) else s
def hears (f : Fr) (now : Int) (l : List Nd.Nd) (tos : List Int) : List Nd.Nd × Bool := tos.foldl (hear1 f now) (l, false)
def told (a : Air) (now : Int) (l : List Nd.Nd) (i : Nat) (f : Fr) : List Nd.Nd :=
 let h := hears f now l (Ra.recv (Ra.san a) f)
 h.1.set i (result (nth h.1 i) f (Ra.acked (Ra.san a) f && (h.2 || (f.dst == 255))))
def tell1 (a : Air) (now : Int) (l : List Nd.Nd) (i : Nat) : Option (Fr × Bool) → List Nd.Nd
 | some (f, true) => told a now l i f
 | _ => l
def tells (a : Air) (now : Int) (fs : List (Fr × Bool)) : Nat → List Nd.Nd → List Nd.Nd
 | 0, l => l
 | k + 1, l => tell1 a now (tells a now fs k l) k fs[k]?
def spoken (m : Mesh) (a : Air) : List (Nd.Nd × Fr × Bool) := m.nodes.map fun n => talk1 (now1 m.tick) (live a n.addr) (phase1 a (now1 m.tick) n)
def mStep (m : Mesh) (a : Air) : Mesh :=
 ⟨now1 m.tick, tells a (now1 m.tick) ((spoken m a).map (·.2)) m.nodes.length ((spoken m a).map (·.1))⟩
def foll (l : List Nd.Nd) (to : Int) : Nat → List Int → Int → List Int × Int
 | 0, p, _ => (p, 1)
 | k + 1, p, now => match idx l now with
  | none => (p, 1)
  | some i => if now ∈ p then (p, 2) else if now = to then (p ++ [now], 0)
   else if (rhop (nth l i).table to).2 then foll l to k (p ++ [now]) (rhop (nth l i).table to).1 else (p ++ [now], 1)
def follow (l : List Nd.Nd) (src to : Int) : List Int × Int := foll l to (l.length + 2) [] src
def path (l : List Nd.Nd) (src to : Int) : List Int × Bool := if (follow l src to).2 = 0 then ((follow l src to).1, true) else ([], false)
def loops (l : List Nd.Nd) : Bool := l.any fun n => n.table.any fun r => (follow l n.addr r.dest).2 == 2
end Me
namespace Me
open Go.GX Nd Tp
theorem qput_mem {α : Type} {dr ur : α → Bool} {q : List α} {x y : α} (h : y ∈ (qput dr ur q x).1) : y ∈ q ∨ y = x := by
 have hi : ∀ l : List α, (∀ z ∈ l, z ∈ q) → y ∈ ins ur l x → y ∈ q ∨ y = x := by
  intro l hl h
  unfold ins at h
  rcases List.mem_append.1 h with h | h
  ·exact .inl (hl y ((List.takeWhile_sublist _).subset h))
  ·rcases List.mem_cons.1 h with h | h
   ·exact .inr h
   ·exact .inl (hl y ((List.dropWhile_sublist _).subset h))
 unfold qput at h
 split at h
 ·split at h
  ·exact .inl (List.mem_of_mem_take h)
  ·rcases List.mem_append.1 h with h | h
   ·exact .inl (List.mem_of_mem_take h)
   ·exact .inr (List.mem_singleton.1 h)
 ·split at h
  ·split at h
   ·exact .inl (List.mem_of_mem_take h)
   ·exact hi _ (fun z hz => List.mem_of_mem_take (List.mem_of_mem_eraseIdx hz)) h
  ·exact hi _ (fun z hz => List.mem_of_mem_take hz) h
theorem bput_mem {q : List Ma} {f : Fr} {now : Int} {s : Ma} (h : s ∈ (bput q f now).1) : s ∈ q ∨ s.f = f := by
 rcases qput_mem h with h | rfl
 ·exact .inl h
 ·exact .inr I
theorem btake_mem {to now life : Int} : ∀ {l : List Ma} {s : Fr × List Ma × Bool}, (∀ m ∈ (l.foldl (bstep to now life) s).2.1, m ∈ l ∨ m ∈ s.2.1) ∧ ((l.foldl (bstep to now life) s).2.2 = true → s.2.2 = true ∧ (l.foldl (bstep to now life) s).1 = s.1 ∨ ∃ m ∈ l, m.f = (l.foldl (bstep to now life) s).1)
 | [], s => ⟨fun m hm => .inr hm, fun h => .inl ⟨h, rfl⟩⟩
 | a :: l, s => by
  obtain ⟨h1, h2⟩ := btake_mem (to := to) (now := now) (life := life) (l := l) (s := bstep to now life s a)
  rw [List.foldl_cons]
  have hb : (bstep to now life s a = s) ∨ (bstep to now life s a = (a.f, s.2.1, true)) ∨ (bstep to now life s a = (s.1, s.2.1 ++ [a], s.2.2)) := by
   unfold bstep; split
   ·exact .inl I
   ·split
    ·exact .inr (.inl I)
    ·exact .inr (.inr I)
  refine ⟨fun m hm => ?_, fun h => ?_⟩
  ·rcases h1 m hm with h | h
   ·exact .inl (List.mem_cons_of_mem _ h)
   ·rcases hb with e | e | e
    ·rw [e] at h; exact .inr h
    ·rw [e] at h; exact .inr h
    ·rw [e] at h
     rcases List.mem_append.1 h with h | h
     ·exact .inr h
     ·exact .inl (by rw [List.mem_singleton.1 h]; exact List.mem_cons_self ..)
  ·rcases h2 h with ⟨g1, g2⟩ | ⟨m, hm, e⟩
   ·rcases hb with e | e | e
    ·rw [e] at g1 g2 ⊢; exact .inl ⟨g1, g2⟩
    ·rw [e] at g2 ⊢; exact .inr ⟨a, List.mem_cons_self .., g2.symm⟩
    ·rw [e] at g1 g2 ⊢; exact .inl ⟨g1, g2⟩
   ·exact .inr ⟨m, List.mem_cons_of_mem _ hm, e⟩
theorem btake_box {l : List Ma} {to now life : Int} {m : Ma} (h : m ∈ (btake l to now life).2.1) : m ∈ l := by
 unfold btake at h
 rcases (btake_mem).1 m h with h | h
 ·exact List.mem_of_mem_take h
 ·cases h
theorem btake_fr {l : List Ma} {to now life : Int} (h : (btake l to now life).2.2 = true) : ∃ m ∈ l, m.f = (btake l to now life).1 := by
 unfold btake at h ⊢
 rcases (btake_mem).2 h with ⟨h, _⟩ | ⟨m, hm, e⟩
 ·cases h
 ·exact ⟨m, List.mem_of_mem_take hm, e⟩
def Knows (t : List Ro) (q : Ro) : Prop := ∃ s ∈ t, s.dest = q.dest ∧ (s.sq > q.sq ∨ (s.sq = q.sq ∧ s.cost ≤ q.cost))
def Above (t : List Ro) (q : Ro) : Prop := ∃ s ∈ t, s.dest = q.dest ∧ (s.sq > q.sq ∨ (s.sq = q.sq ∧ s.cost < q.cost))
structure Ctx where
 D : Fr → Prop
 K : List Pt → Prop
 M : Int → De → Prop
 hD : ∀ (f : Fr) (fr dst hp : Int), D f → D { f with fr := fr, dst := dst, hp := hp }
 hK : ∀ (l : List Pt) (f : Fr) (now : Int), K l → D f → (padd l f.so now f.da).e = 0 → K (padd l f.so now f.da).l ∧ ((padd l f.so now f.da).ok = true → M f.ta ⟨f.so, (padd l f.so now f.da).t⟩)
 hE : ∀ (l : List Pt) (now life : Int), K l → K (pexp l now life)
 hN : K []
structure Sound (C : Ctx) (a : Int) (t : List Ro) (f : Fr) : Prop where
 bea : f.kd = 1 → f.fr = a ∧ ∀ q ∈ (rdec f.da).1, Knows t q
 pol : f.kd = 3 → f.fr = a ∧ Knows t ⟨a, f.sq, 0, 0⟩
 dat : f.kd = 2 → C.D f
section
variable {C : Ctx} {R : Ro → Prop} {n m : Nd.Nd}
theorem new_addr {a poll : Int} (h : okN a = true) : (new a poll).addr = a ∧ (new a poll).out = [] ∧ (new a poll).boxes = [] ∧ (new a poll).parts = [] ∧ (new a poll).inbox = [] ∧ (new a poll).table = [rown a] := by
 rw [okN_iff] at h
 have hc : clamp a 0 250 = a := by unfold clamp; omega
 refine ⟨hc, rfl, rfl, rfl, rfl, ?_⟩
 show (if rchk [] (clamp a 0 250) = 0 then [] else [rown (clamp a 0 250)]) = _
 rw [hc, if_neg]
 unfold rchk
 rw [if_neg (by decide), if_neg (by rw [(okN_iff a).2 h]; decide)]
 simp [firstE]
end
end Me
namespace Me
open Go.GX Nd Tp
structure Inv (C : Ctx) (l : List Nd.Nd) : Prop where
 ord : ∀ x ∈ l, Ord x
 dis : ∀ (i j : Nat) (x y : Nd.Nd), l[i]? = some x → l[j]? = some y → x.addr = y.addr → i = j
 rt : ∀ x ∈ l, ∀ r ∈ x.table, r.dest ≠ x.addr → fin r = true → ∀ y ∈ l, y.addr = r.nx → Above y.table r
 out : ∀ x ∈ l, ∀ s ∈ x.out, Sound C x.addr x.table s.f
 bx : ∀ x ∈ l, ∀ b ∈ x.boxes, b.f.kd = 2 ∧ C.D b.f
 pt : ∀ x ∈ l, C.K x.parts
 ib : ∀ x ∈ l, ∀ d ∈ x.inbox, C.M x.addr d
theorem nth_is {l : List Nd.Nd} {k : Nat} (hk : k < l.length) : l[k]? = some (nth l k) := by
 unfold nth; rw [List.getD_eq_getElem?_getD, List.getElem?_eq_getElem hk]; rfl
theorem idx_some {l : List Nd.Nd} {a : Int} {k : Nat} (h : idx l a = some k) : l[k]? = some (nth l k) ∧ (nth l k).addr = a := by
 obtain ⟨h1, h2, _⟩ := List.findIdx?_eq_some_iff_getElem.1 h
 have := nth_is h1
 refine ⟨this, ?_⟩
 rw [List.getElem?_eq_getElem h1] at this
 rw [← Option.some.inj this]
 simpa using h2
theorem idx_none {l : List Nd.Nd} {a : Int} (h : idx l a = none) : ∀ x ∈ l, x.addr ≠ a := by
 intro x hx e
 have := List.findIdx?_eq_none_iff.1 h x hx
 simp [e] at this
theorem idx_mem {l : List Nd.Nd} {x : Nd.Nd} (hx : x ∈ l) : ∃ k, idx l x.addr = some k := by
 cases h : idx l x.addr with
 | some k => exact ⟨k, rfl⟩
 | none => exact absurd I (idx_none h x hx)
theorem asc_one {t : List Ro} (h : Asc (·.dest) t) {r s : Ro} (hr : r ∈ t) (hs : s ∈ t) (e : r.dest = s.dest) : r = s := by
 obtain ⟨i, hi⟩ := List.getElem?_of_mem hr
 obtain ⟨j, hj⟩ := List.getElem?_of_mem hs
 rcases Nat.lt_trichotomy i j with hij | rfl | hij
 ·have := h.lt hij hi hj; omega
 ·rw [hi] at hj; cases hj; rfl
 ·have := h.lt hij hj hi; omega
theorem rhop_at {t : List Ro} {d : Int} (h : (rhop t d).2 = true) : ∃ r ∈ t, r.dest = d ∧ fin r = true ∧ (rhop t d).1 = r.nx := by
 unfold rhop at h ⊢
 split at h
 ·rename_i r hr
  split at h
  ·rename_i hf
   exact ⟨r, List.mem_of_find?_eq_some hr, by simpa using List.find?_some hr, hf, by rw [if_pos hf]⟩
  ·cases h
 ·cases h
theorem foll_ok {C : Ctx} {l : List Nd.Nd} (h : Inv C l) (to : Int) : ∀ (k : Nat) (p : List Int) (now : Int),
  (∀ b ∈ p, b ≠ to ∧ ∃ y ∈ l, y.addr = b ∧ ∃ r ∈ y.table, r.dest = to ∧ ∀ z ∈ l, z.addr = now → Above z.table r) → (foll l to k p now).2 ≠ 2
 | 0, p, now, _ => fun e => absurd (show (1 : Int) = 2 from e) (by decide)
 | k + 1, p, now, hp => by
  unfold foll
  split
  ·exact fun e => absurd (show (1 : Int) = 2 from e) (by decide)
  ·rename_i i hi
   obtain ⟨h1, h2⟩ := idx_some hi
   have hm := List.mem_of_getElem? h1
   split
   ·rename_i hin
    exfalso
    obtain ⟨_, y, hy, e, r, hr, hd, ha⟩ := hp now hin
    obtain ⟨s, hs, e1, e2⟩ := ha y hy e
    have := asc_one (h.ord y hy).table.asc hs hr e1
    subst this
    omega
   ·split
    ·exact fun e => absurd (show (0 : Int) = 2 from e) (by decide)
    ·rename_i hto
     split
     ·rename_i hh
      obtain ⟨r, hr, hd, hf, hn⟩ := rhop_at hh
      have hab : ∀ z ∈ l, z.addr = (rhop (nth l i).table to).1 → Above z.table r := fun z hz e => h.rt _ hm r hr (by rw [hd, h2]; exact fun e => hto e.symm) hf z hz (e.trans hn)
      refine foll_ok h to k _ _ fun b hb => ?_
      rcases List.mem_append.1 hb with hb | hb
      ·obtain ⟨g1, y, hy, e, q, hq, hqd, ha⟩ := hp b hb
       refine ⟨g1, y, hy, e, q, hq, hqd, fun z hz ez => ?_⟩
       obtain ⟨s, hs, e1, e2⟩ := ha _ hm h2
       have := asc_one (h.ord _ hm).table.asc hs hr (by rw [e1, hqd, hd])
       subst this
       obtain ⟨u, hu, u1, u2⟩ := hab z hz ez
       exact ⟨u, hu, by rw [u1, e1], by omega⟩
      ·rw [List.mem_singleton.1 hb]
       exact ⟨hto, _, hm, h2, r, hr, hd, hab⟩
     ·exact fun e => absurd (show (1 : Int) = 2 from e) (by decide)
theorem Inv.no_loops {C : Ctx} {l : List Nd.Nd} (h : Inv C l) : loops l = false := by
 unfold loops
 rw [← Bool.not_eq_true, List.any_eq_true]
 rintro ⟨n, hn, h2⟩
 obtain ⟨r, hr, h3⟩ := List.any_eq_true.1 h2
 have := foll_ok h r.dest (l.length + 2) [] n.addr fun b hb => by cases hb
 exact this (by simpa [follow] using h3)
end Me
