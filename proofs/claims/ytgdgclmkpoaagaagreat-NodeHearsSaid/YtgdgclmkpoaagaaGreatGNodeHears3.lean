/- A part of the proof: contracts of the program's functions. Conditions: none. -/
import Derived.Carry
import Derived.Deep.MidRow
import Derived.Deep.Quiet
import Derived.Laws.IdiomRangeMap
import Derived.Laws.MakeOwn
import Derived.Laws.StructEq
import Derived.Laws.Tables
import Derived.Lib.AppendStr
import Derived.Lib.AppendZerosOnto
import Derived.Lib.OthersKept
import Derived.Lib.Overlaps
import Derived.Lib.OwnBridge
import Derived.Lib.SlicesCompact
import Derived.MapKept
import Derived.Orders
import Derived.OrdersHeld
import Derived.Scope
import Derived.Sort.Grow
import Derived.StillTail
import Derived.Test.YtgdgclmkpoaagaaGreatProg
import Derived.Test.YtgdgclmkpoaagaaGreatShelf
import Derived.WalkKit
import Derived.WalkLawsBesides
import Derived.WalkSpells
import Derived.Test.YtgdgclmkpoaagaaGreatGB1
import Derived.Test.YtgdgclmkpoaagaaGreatGB10
import Derived.Test.YtgdgclmkpoaagaaGreatGB11
import Derived.Test.YtgdgclmkpoaagaaGreatGB2
import Derived.Test.YtgdgclmkpoaagaaGreatGB3
import Derived.Test.YtgdgclmkpoaagaaGreatGB4
import Derived.Test.YtgdgclmkpoaagaaGreatGB5
import Derived.Test.YtgdgclmkpoaagaaGreatGB6
import Derived.Test.YtgdgclmkpoaagaaGreatGB7
import Derived.Test.YtgdgclmkpoaagaaGreatGB8
import Derived.Test.YtgdgclmkpoaagaaGreatGB9
import Derived.Test.YtgdgclmkpoaagaaGreatGNodeHears1
import Derived.Test.YtgdgclmkpoaagaaGreatGNodeHears2
set_option linter.unusedVariables false
set_option linter.unusedSectionVars false
set_option linter.unusedSimpArgs false
set_option maxRecDepth 100000
set_option maxHeartbeats 4000000
namespace Go.Proofs.YtgdgclmkpoaagaaGreat
open Go.GX Go.RowKit
attribute [local irreducible] Calls Run RunL RunQ RunD HR HL HD blkC ownC Rd
open Nd
theorem fn139 : IsFn Tryz.prog 139 := ⟨⟨_, _, Tryz.func139, rfl, by decide⟩⟩
theorem r15add_any (l : List PtV) (s now : Int) (x : By) (v : Value) (w : World) (hv : RdPts w v l) (hs : ∀ p ∈ l, SmPt p.pt) (hl : l.length ≤ 1000) (hx : x.length ≤ 1000) :
  Calls Tryz.prog 139 #[v, .int .i64 s, .int .i64 now, str x] w fun e w' => ∃ y : Value × List PtV, e = .returned (.tuple ⟨[y.1, str (padd (pts l) s now x).t, .bool (padd (pts l) s now x).ok, .int .i64 (padd (pts l) s now x).e]⟩) ∧ GdPts y (padd (pts l) s now x).l ∧ Sat (base w) (ptsC y) w' := by
 refine calls_hr Tryz.func139 I (Nat.le_of_ble_eq_true I) ?_
 refine HR.sub (σ' := [(0, v), (1, .int .i64 s), (2, .int .i64 now), (3, str x)]) ⟨I, I, I, I, trivial⟩ ?_
 repeat' (first | refine zh ?_ | refine HL.callB fn191 I I (fun w _ => r15check_any x w (by omega)) ?_ | intro (bk : Nat))
 refine HR.cond I (fun h => ?_) (fun h => ?_)
 ·have h : pchk x ≠ 0 := by have h : (pchk x != 0) = true := h; simpa using h
  rw [padd_bad h]
  repeat' (first | refine zh ?_ | intro (bk : Nat))
  refine HR.nilC 76 6 ?_
  refine HR.ent (Ent.trans Ent.gnil (Ent.pick [1, 0] I I)) ?_
  refine HR.ret Tryz.func139 I [_, _, _, _] (fun _ _ => ⟨I, I, I, I, trivial⟩) ?_
  exact fun w' hw => ⟨(_, []), rfl, ⟨rfl, fun p hp => by cases hp⟩, hw⟩
 have h : pchk x = 0 := by have h : (pchk x != 0) = false := h; simpa using h
 obtain ⟨c0, c1, c2, c3, c4, c5, c6, c7⟩ := pchk_spec h
 obtain ⟨i0, h0⟩ : ∃ i0 : Int, i0 = b8 x 0 := ⟨_, rfl⟩
 obtain ⟨i1, h1⟩ : ∃ i1 : Int, i1 = b8 x 1 := ⟨_, rfl⟩
 obtain ⟨i2, h2⟩ : ∃ i2 : Int, i2 = b8 x 2 := ⟨_, rfl⟩
 obtain ⟨d, hd⟩ : ∃ d, d = x.drop 3 := ⟨_, rfl⟩
 rw [padd_good h h0 h1 h2 hd]
 have hdl : (d.length : Int) = (x.length : Int) - 3 := by rw [hd, List.length_drop]; omega
 have hd64 : d.length ≤ 64 := by have := fits_le c5; omega
 have g0 : 0 ≤ i0 ∧ i0 ≤ 255 := by omega
 have g1 : 0 ≤ i1 ∧ i1 < i2 := by omega
 have g2 : 1 ≤ i2 ∧ i2 ≤ 16 := by omega
 clear c1 c2 c3 c4 c5 c6 c7
 repeat' (first | refine zh ?_ | intro (bk : Nat))
 refine HR.regionQ hmix (by kernel_rfl) ?_
 have b0 := (x.getD 0 0).toNat_lt
 have b1 := (x.getD 1 0).toNat_lt
 have b2 := (x.getD 2 0).toNat_lt
 repeat' (first | refine zq ?_ | fail)
 refine HR.setV 13 (v' := .int .i64 i0) I (by rw [h0]; try rfl) ?_
 refine HR.setV 14 (v' := .int .i64 i1) I (by rw [h1]; try rfl) ?_
 refine HR.setV 15 (v' := .int .i64 i2) I (by rw [h2]; try rfl) ?_
 repeat' (first | refine zh ?_ | intro (bk : Nat))
 refine HL.callX (r := fun x : Value × List PtV => x.1) (Q := fun x => GdPts x (porder (pts l))) (G := fun x => ptsC x) fn170 I I (fun w1 hw1 => r15order_any l v w1 (hv.ext hw1.belowB) hs hl) ?_
 rintro ⟨v1, L⟩ ⟨hL, hsh⟩
 have hL : pts L = porder (pts l) := hL
 have hsh : ∀ p ∈ L, ShPt p := hsh
 have hLl : L.length ≤ 8 := by have := porder_len (pts l); rw [← hL, pts_len] at this; exact this
 have hfr : Fresh (pts L) := by rw [hL]; exact porder_fresh _
 rw [← hL]
 have hcl : ∀ T : List PtV, (cellsOf ptC T).length = T.length * 6 := cellsOf_len ptC_len
 repeat' (first | refine zh ?_ | intro (bk : Nat))
 refine HL.callB fn192 I I (fun w1 hw1 => r15find_any L s i0 v1 w1 ((Rd.own 0 rfl).at hw1) (by omega)) ?_
 repeat' (first | refine zn ?_ | apply zb ?_ ?_ | exact zc | (refine zi fun hb => ?_; try simp at hb) | intro (bk : Nat))
 refine HR.ctl I ?_
 refine HR.join (ι := Unit) (fun _ => True) (fun _ => [(1, .int .i64 s), (2, .int .i64 now), (3, str x), (13, .int .i64 i0), (14, .int .i64 i1), (15, .int .i64 i2), (16, v1), (17, .int .i64 (atI (pfind (pts L) s i0))), (50, .bool (match pfind (pts L) s i0 with | some a => (((pts L).getD a pz).ct != i2) | none => false))]) (fun _ => ptsC (v1, L)) (fun _ _ => ?_) (fun hj => ?_)
 ·refine HR.join (ι := Value × List PtV × Option Nat) (fun i => (pts i.2.1, i.2.2) = pdrop (pts L) s i0 i2 ∧ ∀ p ∈ i.2.1, ShPt p) (fun i => [(1, .int .i64 s), (2, .int .i64 now), (3, str x), (13, .int .i64 i0), (14, .int .i64 i1), (15, .int .i64 i2), (16, i.1), (17, .int .i64 (atI i.2.2))]) (fun i => ptsC (i.1, i.2.1)) (fun i => ?_) (fun hj2 => ?_)
  ·obtain ⟨v2, M, at2⟩ := i
   rintro ⟨hM, hshM⟩
   have hM : (pts M, at2) = pdrop (pts L) s i0 i2 := hM
   have hshM : ∀ p ∈ M, ShPt p := hshM
   have hMl : M.length ≤ 8 := by have := pdrop_len (l := pts L) (by rw [pts_len]; omega) s i0 i2; rw [← hM, pts_len] at this; exact this
   repeat' (first | refine zh ?_ | intro (bk : Nat))
   refine HR.cond I (fun h5 => ?_) (fun h5 => ?_)
   ·have h5 : i2 = 1 := eq_of_beq h5
    rw [if_pos h5]
    have e : (pdrop (pts L) s i0 1).1 = pts M := by rw [← h5, ← hM]
    rw [e]
    repeat' (first | refine zh ?_ | intro (bk : Nat))
    refine HR.regionQ hmix (by kernel_rfl) ?_
    repeat' (first | refine zq ?_ | fail)
    refine HR.setV 9 (v' := str d) I (by rw [hd]; try rfl) ?_
    refine HR.ret Tryz.func139 I [_, _, _, _] (fun _ _ => ⟨I, I, I, I, trivial⟩) ?_
    exact fun w' hw => ⟨(v2, M), rfl, ⟨rfl, hshM⟩, hw.pick [0, 1] I rfl⟩
   have h5 : ¬ i2 = 1 := by have h5 : (i2 == 1) = false := h5; simpa using h5
   rw [if_neg h5, ← hM]
   have hsp := pnew_spec (now := now) (s := s) hfr (by rw [pts_len]; omega) (id := i0) (c := i2) (by omega) (by omega) (by omega) (by omega)
   rw [← hM] at hsp
   have hi2 : i2 = ((i2.toNat : Nat) : Int) := by omega
   have smM : ∀ p ∈ pts M, ∀ s ∈ p.da, s.length ≤ 64 := by
    have := pdrop_sm (l := pts L) (s := s) (id := i0) (c := i2) (by rw [hL]; exact fun p hp => pvalid_sm (porder_valid p hp))
    rw [← hM] at this; exact this
   repeat' (first | refine zh ?_ | intro (bk : Nat))
   refine HR.join (ι := Value × List PtV × Nat) (fun i => (pts i.2.1, i.2.2) = pnew (pts M, at2) s i0 i2 now ∧ ∀ p ∈ i.2.1, ShPt p) (fun i => [(3, str x), (14, .int .i64 i1), (16, i.1), (17, .int .i64 (i.2.2 : Int))]) (fun i => ptsC (i.1, i.2.1)) (fun i => ?_) (fun hj3 => ?_)
   ·obtain ⟨v3, L3, a⟩ := i
    rintro ⟨hP, hsh3⟩
    have hP : (pts L3, a) = pnew (pts M, at2) s i0 i2 now := hP
    have hsh3 : ∀ p ∈ L3, ShPt p := hsh3
    rw [← hP] at hsp ⊢
    obtain ⟨f3, l3, a3, ct3⟩ := hsp
    have sm3 : ∀ p ∈ pts L3, ∀ s ∈ p.da, s.length ≤ 64 := by
     have := pnew_sm (o := (pts M, at2)) (s := s) (id := i0) (c := i2) (now := now) (fun p hp => smM p hp)
     rw [← hP] at this; exact this
    have l3 : L3.length ≤ 8 := by have l3 : (pts L3).length ≤ 8 := l3; rw [pts_len] at l3; exact l3
    have a3 : a < L3.length := by have a3 : a < (pts L3).length := a3; rw [pts_len] at a3; exact a3
    obtain ⟨p, hp⟩ := getSome a3
    have hpm := List.mem_of_getElem? hp
    have hgd : (pts L3).getD a pz = p.pt := by rw [List.getD_eq_getElem?_getD, pts_get hp]; rfl
    have ct3 : ((pts L3).getD a pz).ct = i2 := ct3
    rw [hgd] at ct3
    have f3 : Fresh (pts L3) := f3
    obtain ⟨H, hal⟩ := f3 p.pt (List.mem_map_of_mem hpm)
    have h1 := H.hv
    have h2 := H.da
    obtain ⟨sa, sn, sc, ta, tn, tc, ep⟩ := (hsh3 p hpm).lit
    obtain ⟨q, hq⟩ : ∃ q, q = p.pt := ⟨_, rfl⟩
    rw [← hq] at ct3 hal h1 h2 ep hgd
    have hq' : q = p.pt := hq
    have hpx : p = ⟨p.vh, p.vd, q⟩ := by rw [hq]
    obtain ⟨vh, hvh⟩ : ∃ vh, vh = p.vh := ⟨_, rfl⟩
    obtain ⟨vd, hvd⟩ : ∃ vd, vd = p.vd := ⟨_, rfl⟩
    rw [← hvh, ← hvd] at hpx
    have shp := hsh3 p hpm
    clear ep
    subst hpx
    obtain ⟨j, hj⟩ : ∃ j, j = i1.toNat := ⟨_, rfl⟩
    have hij : i1 = ((j : Nat) : Int) := by omega
    rw [← hj]
    have hjl : j < q.hv.length := by omega
    have hjd : j < q.da.length := by omega
    obtain ⟨b, hb⟩ := getSome hjl
    have hbd : q.hv.getD j false = b := by rw [List.getD_eq_getElem?_getD, hb]; rfl
    obtain ⟨R, hR⟩ : ∃ R, R = ptG (L3.eraseIdx a) := ⟨_, rfl⟩
    refine HR.ent (H' := [ownC v3 76 6 L3.length (cellsOf ptC L3), ptH ⟨vh, vd, q⟩, ptD ⟨vh, vd, q⟩, groupC R]) ?_ ?_
    ·refine Ent.trans (Ent.pick [1, 0] I I) (Ent.trans (Ent.gdrop (G' := [ptH ⟨vh, vd, q⟩, ptD ⟨vh, vd, q⟩] ++ R) [] ?_) ?_)
     ·rw [List.append_nil, hR]
      exact (ptG_erase hp).trans List.perm_append_comm
     ·refine Ent.trans (Ent.gtake (A := []) (c := ptH ⟨vh, vd, q⟩) (C := ptD ⟨vh, vd, q⟩ :: R)) (Ent.trans (Ent.pick [1, 0, 2] I I) (Ent.trans (Ent.gtake (A := []) (c := ptD ⟨vh, vd, q⟩) (C := R)) (Ent.pick [3, 2, 0, 1] I I)))
    have hH : ∀ (Q : Pt) (i : Nat) (H : List Chunk), nthC H i = some (ptH ⟨vh, vd, Q⟩) → Rd (base w) H vh (cellsOf bC Q.hv) Q.hv.length := fun Q i H hi => Rd.own i hi
    have hD : ∀ (Q : Pt) (i : Nat) (H : List Chunk), nthC H i = some (ptD ⟨vh, vd, Q⟩) → Rd (base w) H vd (cellsOf sC Q.da) Q.da.length := fun Q i H hi => Rd.own i hi
    repeat' (first | refine zh ?_ | refine HL.idxR (Rd.own 0 I) elemPt a I I I I a3 ?_ | refine HL.fieldN 4 (Rd.own 0 I) (by rw [hcl]; omega) I I I I I I I ?_ | refine HL.loadI (Rd.own 0 I) I I I I (cells_get ptC_len hp (i := 4) I) ?_ | refine HL.idxR (hH q 1 _ I) elemB j I I I hij hjl ?_ | refine HL.loadI (hH q 1 _ I) I I I I (cellsOf_get1 hb) ?_ | intro (bk : Nat))
    refine HR.cond I (fun h6 => ?_) (fun h6 => ?_)
    ·have h6 : b = true := h6
     rw [pput_have (i := j) (d := d) (pts_get hp) (by show q.hv.getD j false = true; rw [hbd, h6]) hal]
     repeat' (first | refine zh ?_ | intro (bk : Nat))
     refine HR.ret Tryz.func139 I [_, _, _, _] (fun _ _ => ⟨I, I, I, I, trivial⟩) ?_
     refine fun w' hw => ⟨(v3, L3), rfl, ⟨rfl, hsh3⟩, ?_⟩
     have w1 := hw.pick [1, 2, 3, 0] I I
     have w2 := (Ent.group (G := [ptH ⟨vh, vd, q⟩, ptD ⟨vh, vd, q⟩])) w' w1
     have w3 := Ent.gjoin w' w2
     have hpm2 : (R ++ [ptH ⟨vh, vd, q⟩, ptD ⟨vh, vd, q⟩]).Perm (ptG L3 ++ []) := by
      rw [List.append_nil, hR]
      exact (ptG_erase hp).symm
     have w4 := (Ent.gdrop [] hpm2) w' w3
     exact w4.pick [1, 0] I I
    have h6 : b = false := h6
    have hpe : pput (pts L3, a) j d = if (pmark q j d).hv.all id then ⟨(pts L3).eraseIdx a, (pmark q j d).da.flatten, true, 0⟩ else ⟨(pts L3).set a (pmark q j d), [], false, 0⟩ := by
     unfold pput; simp only; rw [hgd]
    rw [hpe]
    obtain ⟨Q, hQ⟩ : ∃ Q, Q = pmark q j d := ⟨_, rfl⟩
    have hQe : Q = ⟨q.so, q.id, q.ct, q.si, q.hv.set j true, q.da.set j d⟩ := by rw [hQ]; unfold pmark; rw [hbd, h6, if_neg (by decide)]
    have hQs : Q.so = q.so ∧ Q.id = q.id ∧ Q.ct = q.ct ∧ Q.si = q.si ∧ Q.hv.length = q.hv.length ∧ Q.da.length = q.da.length := by
     rw [hQe]; exact ⟨rfl, rfl, rfl, rfl, List.length_set, List.length_set⟩
    obtain ⟨q1, q2, q3, q4, q5, q6⟩ := hQs
    have hQd : ∀ s ∈ Q.da, s.length ≤ 64 := by
     rw [hQe]
     intro s hs
     rcases List.mem_or_eq_of_mem_set hs with hs | rfl
     ·exact sm3 q (by rw [hq']; exact List.mem_map_of_mem hpm) s hs
     ·exact hd64
    rw [← hQ]
    have ePQ : ptC ⟨vh, vd, Q⟩ = ptC ⟨vh, vd, q⟩ := by
     show [Value.int .i64 Q.so, .int .i64 Q.id, .int .i64 Q.ct, .int .i64 Q.si, vh, vd] = [.int .i64 q.so, .int .i64 q.id, .int .i64 q.ct, .int .i64 q.si, vh, vd]
     rw [q1, q2, q3, q4]
    repeat' (first | refine zh ?_ | intro (bk : Nat))
    first | refine HR.ctl I ?_ | skip
    first | refine HR.region ?_ | skip
    repeat' (first | refine zn ?_ | refine HL.idxR (Rd.own 0 I) elemPt a I I I I a3 ?_ | refine HL.fieldN 4 (Rd.own 0 I) (by rw [hcl]; omega) I I I I I I I ?_ | refine HL.loadI (Rd.own 0 I) I I I I (cells_get ptC_len hp (i := 4) I) ?_ | refine HL.idxR (hH q 1 _ I) elemB j I I I hij hjl ?_ | refine HL.storeE (v := vh) (e := 4) (sz := 1) (n := q.hv.length) (xs := cellsOf bC q.hv) 1 I I I I I I I (by rw [cells1_len bC_len]; omega) ?_ | apply zb ?_ ?_ | exact zc | (refine zi fun hb => ?_; try simp at hb) | intro (bk : Nat))
    first | refine HR.ctl I ?_ | skip
    refine HR.regionZ [(0, true), (1, true), (2, true), (3, true), (4, true), (5, true), (6, true), (7, true), (8, true)] 9 [0, 1, 2, 3] I I hmix (by kernel_rfl) ?_
    have hDd : ∀ (H : List Chunk), nthC H 2 = some (ptD ⟨vh, vd, q⟩) → Rd (base w) H vd (cellsOf sC q.da) q.da.length := fun H hi => Rd.own 2 hi
    repeat' (first | refine zd ?_ | refine HD.idxR (Rd.own 0 I) elemPt a I I I I I a3 ?_ | refine HD.fieldN 5 (Rd.own 0 I) (by rw [hcl]; omega) I I I I I I I I ?_ | refine HD.loadI (Rd.own 0 I) I I I I I (cells_get ptC_len hp (i := 5) I) ?_ | refine HD.idxR (hDd _ I) elemS j I I I I hij hjd ?_)
    refine HD.setV 104 (v' := str d) I (by rw [hd]; try rfl) ?_
    refine HD.last I ?_
    refine HL.storeE (v := vd) (e := 9) (sz := 1) (n := q.da.length) (xs := cellsOf sC q.da) 2 I I I I I I I (by rw [cells1_len sC_len]; omega) ?_
    refine HL.nil ?_
    refine HR.ent (H' := [ownC v3 76 6 L3.length (cellsOf ptC L3), ptH ⟨vh, vd, Q⟩, ptD ⟨vh, vd, Q⟩, groupC R]) (Ent.of_eq ?_) ?_
    ·have e1 := cells1_set (f := fun b : Bool => Value.bool b) q.hv j true
     have e2 := cells1_set (f := fun s : By => str s) q.da j d
     show [ownC v3 _ 6 L3.length (cellsOf ptC L3), ownC vh 4 1 q.hv.length ((cellsOf bC q.hv).set (j * 1) (.bool true)), ownC vd 9 1 q.da.length ((cellsOf sC q.da).set (j * 1) (str d)), groupC R] = [_, ownC vh 4 1 Q.hv.length (cellsOf bC Q.hv), ownC vd 9 1 Q.da.length (cellsOf sC Q.da), _]
     rw [e1, e2, q5, q6, hQe]
    repeat' (first | refine zh ?_ | refine HL.idxR (Rd.own 0 I) elemPt a I I I I a3 ?_ | refine HL.loadE (Rd.own 0 I) I I I I (by simp) I (cellsOf_get ptC_len hp) ?_ | intro (bk : Nat))
    refine HL.setV 109 (v' := .agg ⟨ptC ⟨vh, vd, Q⟩⟩) I (by rw [ePQ]) ?_
    repeat' (first | refine zh ?_ | refine HL.callB fn194 I I (fun w1 hw1 => r15whole_any ⟨vh, vd, Q⟩ w1 ((hH Q 1 _ rfl).at hw1) (show Q.hv.length ≤ 1000 by omega)) ?_ | intro (bk : Nat))
    refine HR.cond I (fun h7 => ?_) (fun h7 => ?_)
    ·have hna : ¬ Q.hv.all id = true := by have h7 : (!Q.hv.all id) = true := h7; simpa using h7
     rw [if_neg hna]
     repeat' (first | refine zh ?_ | intro (bk : Nat))
     refine HR.ret Tryz.func139 I [_, _, _, _] (fun _ _ => ⟨I, I, I, I, trivial⟩) ?_
     refine fun w' hw => ⟨(v3, L3.set a ⟨vh, vd, Q⟩), rfl, ⟨by unfold pts; rw [List.map_set], fun y hy => ?_⟩, ?_⟩
     ·rcases List.mem_or_eq_of_mem_set hy with hy | rfl
      ·exact hsh3 y hy
      ·exact shp
     ·have hcs : cellsOf ptC (L3.set a ⟨vh, vd, Q⟩) = cellsOf ptC L3 := by
       unfold cellsOf
       rw [List.map_set, ePQ]
       congr 1
       refine List.ext_getElem? fun m => ?_
       rw [List.getElem?_set]
       split
       ·rename_i e2
        subst e2
        rw [if_pos (by rw [List.length_map]; exact a3), List.getElem?_map, hp]; rfl
       ·rfl
      have w1 := hw.pick [1, 2, 3, 0] I I
      have w2 := (Ent.group (G := [ptH ⟨vh, vd, Q⟩, ptD ⟨vh, vd, Q⟩])) w' w1
      have w3 := Ent.gjoin w' w2
      have hset : (L3.set a ⟨vh, vd, Q⟩)[a]? = some ⟨vh, vd, Q⟩ := List.getElem?_set_self a3
      have hpm2 : (R ++ [ptH ⟨vh, vd, Q⟩, ptD ⟨vh, vd, Q⟩]).Perm (ptG (L3.set a ⟨vh, vd, Q⟩) ++ []) := by
       rw [List.append_nil]
       have := ptG_erase hset
       rw [List.eraseIdx_set_eq, ← hR] at this
       exact this.symm
      have w4 := (Ent.gdrop [] hpm2) w' w3
      have w5 := w4.pick [1, 0] I I
      exact Ent.own0 (by rw [List.length_set]) hcs.symm w' w5
    ·have hall : Q.hv.all id = true := by have h7 : (!Q.hv.all id) = false := h7; simpa using h7
     rw [if_pos hall]
     repeat' (first | refine zh ?_ | refine HL.idxR (Rd.own 0 I) elemPt a I I I I a3 ?_ | refine HL.fieldN 5 (Rd.own 0 I) (by rw [hcl]; omega) I I I I I I I ?_ | refine HL.loadI (Rd.own 0 I) I I I I (cells_get ptC_len hp (i := 5) I) ?_ | refine HL.lenR (hD Q 2 _ I) I I I ?_ | intro (bk : Nat))
     refine HR.loop (ι := Nat) (fun k => k ≤ Q.da.length) (fun k => [(16, v3), (17, .int .i64 (a : Int)), (18, str (Q.da.take k).flatten), (118, .int .i64 (Q.da.length : Int)), (119, .int .i64 (k : Int))]) (fun _ => [ownC v3 76 6 L3.length (cellsOf ptC L3), ptH ⟨vh, vd, Q⟩, ptD ⟨vh, vd, Q⟩, groupC R]) (fun k => Q.da.length - k) 0 (Nat.zero_le _) ⟨rfl, rfl, by rw [List.take_zero]; rfl, rfl, rfl, trivial⟩ Ent.refl ?_
     intro k hk ih
     repeat' (first | refine zh ?_ | intro (bk : Nat))
     refine HR.cond I (fun h8 => ?_) (fun h8 => ?_)
     ·have hlt : k < Q.da.length := by have := of_decide_eq_true h8; omega
      obtain ⟨d8, hd8⟩ := getSome hlt
      have hb1 := flat_bound (l := Q.da.take k) (fun s hs => hQd s (List.mem_of_mem_take hs))
      have hb2 := hQd d8 (List.mem_of_getElem? hd8)
      have hb3 : (Q.da.take k).length ≤ k := by simp; omega
      have hst : (Q.da.take (k + 1)).flatten = (Q.da.take k).flatten ++ d8 := by rw [take_succ_get hd8]; simp
      obtain ⟨W, hW⟩ : ∃ W, W = (Q.da.take k).flatten := ⟨_, rfl⟩
      rw [← hW] at hb1 hst ⊢
      repeat' (first | refine zh ?_ | refine HL.idxR (Rd.own 0 I) elemPt a I I I I a3 ?_ | refine HL.fieldN 5 (Rd.own 0 I) (by rw [hcl]; omega) I I I I I I I ?_ | refine HL.loadI (Rd.own 0 I) I I I I (cells_get ptC_len hp (i := 5) I) ?_ | refine HL.idxR (hD Q 2 _ I) elemS k I I I I hlt ?_ | refine HL.loadI (hD Q 2 _ I) I I I I (cellsOf_get1 hd8) ?_ | intro (bk : Nat))
      exact ih (k + 1) _ _ hlt (by omega) ⟨rfl, rfl, by rw [hst]; rfl, rfl, rfl, trivial⟩ Ent.refl
     ·have hke : k = Q.da.length := by have := of_decide_eq_false h8; omega
      subst hke
      rw [List.take_length]
      repeat' (first | refine zh ?_ | intro (bk : Nat))
      refine HL.callO fn193 I I (fun w1 hw1 => r15remove_any L3 a v3 w1 ((Rd.own 0 rfl).at hw1) hsh3 a3 (by omega)) ?_
      intro r
      repeat' (first | refine zh ?_ | intro (bk : Nat))
      refine HR.ret Tryz.func139 I [_, _, _, _] (fun _ _ => ⟨I, I, I, I, trivial⟩) ?_
      refine fun w' hw => ⟨(r, L3.eraseIdx a), rfl, ⟨eraseMap _ _ _, fun y hy => hsh3 y (List.mem_of_mem_eraseIdx hy)⟩, ?_⟩
      have w1 := hw.pick [0, 4] I I
      rw [hR] at w1
      exact w1
   ·cases at2 with
    | some a =>
     refine HR.condF I ?_
     refine HR.skip ?_
     exact hj3 (v2, M, a) _ _ ⟨rfl, hshM⟩ ⟨I, I, I, I, trivial⟩ (Ent.pick [0, 1] I I)
    | none =>
     refine HR.condT I ?_
     repeat' (first | refine zh ?_ | refine HL.lenR (Rd.own 0 I) I I I ?_ | intro (bk : Nat))
     refine HR.join (ι := Value × List PtV) (fun i => pts i.2 = proom (pts M) ∧ ∀ p ∈ i.2, ShPt p) (fun i => [(1, .int .i64 s), (2, .int .i64 now), (3, str x), (13, .int .i64 i0), (14, .int .i64 i1), (15, .int .i64 i2), (16, i.1)]) (fun i => ptsC i) (fun i => ?_) (fun hj6 => ?_)
     ·obtain ⟨v4, N⟩ := i
      rintro ⟨hN, hshN⟩
      have hN : pts N = proom (pts M) := hN
      have hshN : ∀ p ∈ N, ShPt p := hshN
      have hNl : N.length ≤ 7 := by have := proom_len (l := pts M) (by rw [pts_len]; omega); rw [← hN, pts_len] at this; exact this
      obtain ⟨pb, hpb⟩ : ∃ pb, pb = pbegin s i0 i2 now := ⟨_, rfl⟩
      have hbl : i2.toNat = pb.hv.length := by rw [hpb]; simp [pbegin]
      have hsl : i2.toNat = pb.da.length := by rw [hpb]; simp [pbegin]
      have hbl0 : 0 < pb.hv.length := by rw [← hbl]; omega
      have hsl0 : 0 < pb.da.length := by rw [← hsl]; omega
      have hbc : ((List.replicate i2.toNat (cellsL (.bool false))).flatten) = cellsOf bC pb.hv := by rw [hpb]; unfold cellsOf pbegin; simp only; rw [List.map_replicate]; rfl
      have hsc : ((List.replicate i2.toNat (cellsL (str []))).flatten) = cellsOf sC pb.da := by rw [hpb]; unfold cellsOf pbegin; simp only; rw [List.map_replicate]; rfl
      repeat' (first | refine zh ?_ | refine HL.lenR (Rd.own 0 I) I I I ?_ | intro (bk : Nat))
      refine HR.join (ι := Value × PtV) (fun i => i.2.pt = pb ∧ ShPt i.2) (fun i => [(3, str x), (14, .int .i64 i1), (16, i.1), (17, .int .i64 (N.length : Int))]) (fun i => [ptH i.2, ptD i.2, groupC (ptG N), ownC i.1 76 6 (N.length + 1) (cellsOf ptC N ++ ptC i.2)]) (fun i => ?_) (fun hj4 => ?_)
      ·obtain ⟨o3, P⟩ := i
       rintro ⟨hP, hshP⟩
       have hP : P.pt = pb := hP
       refine HR.ent (H' := ptsC (o3, N ++ [P])) ?_ ?_
       ·refine Ent.trans (Ent.group (G := [ptH P, ptD P])) (Ent.trans Ent.gjoin ?_)
        have e : ptG N ++ [ptH P, ptD P] = ptG (N ++ [P]) := by rw [ptG_app, ptG_one]
        rw [e]
        refine Ent.trans (Ent.pick [1, 0] I I) (Ent.own0 (by simp) ?_)
        rw [cellsOf_app, cellsOf_one]
       refine hj3 (o3, N ++ [P], N.length) _ _ ⟨?_, fun p hp => ?_⟩ ⟨I, I, I, I, trivial⟩ Ent.refl
       ·show (pts (N ++ [P]), N.length) = (proom (pts M) ++ [pbegin s i0 i2 now], (proom (pts M)).length)
        rw [← hN, ← hpb, ← hP, pts_app, pts_len]; rfl
       ·rcases List.mem_append.1 hp with hp | hp
        ·exact hshN p hp
        ·rw [List.mem_singleton] at hp; subst hp; exact hshP
      ·refine HR.regionA [] I I hmix ?_
       refine za 0 ?_
       refine za 1 ?_
       refine za 2 ?_
       refine za 3 ?_
       refine za 4 ?_
       refine za 6 ?_
       refine za 8 ?_
       refine HA.three 5 7 9 (by kernel_rfl) I I I ?_ ?_ ?_
       ·refine HL.callB fn171 I I (fun w _ => r15tick_any now w) ?_
        refine HL.backA [] I I ?_
        refine HA.two 7 9 (by kernel_rfl) I I ?_ ?_
        ·refine HL.makeS i2.toNat i2.toNat elemB I I I I hi2 hi2 (Nat.le_refl _) (show 1 * i2.toNat ≤ _ by omega) (by omega) ?_
         intro vb
         refine HL.ent (Ent.own0 hbl hbc) ?_
         refine HL.backA [] I I ?_
         refine HA.one 9 (by kernel_rfl) I ?_
         refine HL.makeS i2.toNat i2.toNat elemS I I I I hi2 hi2 (Nat.le_refl _) (show 16 * i2.toNat ≤ _ by omega) (by omega) ?_
         intro vs
         refine HL.ent (Ent.own0 hsl hsc) ?_
         refine HL.backA [] I I ?_
         refine HA.row 1 I (v := vb) (e := 4) (sz := 1) (m := pb.hv.length) (xs := cellsOf bC pb.hv) hbl0 fun g1 o1 e1 hvb => ?_
         subst hvb
         refine HA.row 0 I (v := vs) (e := 9) (sz := 1) (m := pb.da.length) (xs := cellsOf sC pb.da) hsl0 fun g2 o2 e2 hvs => ?_
         subst hvs
         refine za 10 ?_
         refine HA.one 11 (by kernel_rfl) I ?_
         refine HL.bslice elemPt I I I I I (by decide) (by decide) ?_
         intro va
         refine HL.backA [] I I ?_
         refine HA.one 12 (by kernel_rfl) I ?_
         refine HL.appR 3 I elemPt (Rd.own 0 I) I I I I (allOne_spec I) (by show (N.length + 1) * 80 ≤ _; omega) (by show N.length + 1 ≤ _; omega) ?_
         intro o3
         refine HL.backA [] I I ?_
         refine za 13 ?_
         refine HA.done (by kernel_rfl) ?_
         subst hpb
         exact hj4 (o3, ⟨.slice (some ⟨g1, o1, none⟩) (pbegin s i0 i2 now).hv.length e1, .slice (some ⟨g2, o2, none⟩) (pbegin s i0 i2 now).da.length e2, pbegin s i0 i2 now⟩) _ _ ⟨rfl, ⟨_, _, _, rfl⟩, ⟨_, _, _, rfl⟩⟩ ⟨I, I, I, I, trivial⟩ (Ent.pick [2, 1, 4, 3] I I)
        ·refine HL.makeS i2.toNat i2.toNat elemS I I I I hi2 hi2 (Nat.le_refl _) (show 16 * i2.toNat ≤ _ by omega) (by omega) ?_
         intro vs
         refine HL.ent (Ent.own0 hsl hsc) ?_
         refine HL.backA [] I I ?_
         refine HA.one 7 (by kernel_rfl) I ?_
         refine HL.makeS i2.toNat i2.toNat elemB I I I I hi2 hi2 (Nat.le_refl _) (show 1 * i2.toNat ≤ _ by omega) (by omega) ?_
         intro vb
         refine HL.ent (Ent.own0 hbl hbc) ?_
         refine HL.backA [] I I ?_
         refine HA.row 0 I (v := vb) (e := 4) (sz := 1) (m := pb.hv.length) (xs := cellsOf bC pb.hv) hbl0 fun g1 o1 e1 hvb => ?_
         subst hvb
         refine HA.row 1 I (v := vs) (e := 9) (sz := 1) (m := pb.da.length) (xs := cellsOf sC pb.da) hsl0 fun g2 o2 e2 hvs => ?_
         subst hvs
         refine za 10 ?_
         refine HA.one 11 (by kernel_rfl) I ?_
         refine HL.bslice elemPt I I I I I (by decide) (by decide) ?_
         intro va
         refine HL.backA [] I I ?_
         refine HA.one 12 (by kernel_rfl) I ?_
         refine HL.appR 3 I elemPt (Rd.own 0 I) I I I I (allOne_spec I) (by show (N.length + 1) * 80 ≤ _; omega) (by show N.length + 1 ≤ _; omega) ?_
         intro o3
         refine HL.backA [] I I ?_
         refine za 13 ?_
         refine HA.done (by kernel_rfl) ?_
         subst hpb
         exact hj4 (o3, ⟨.slice (some ⟨g1, o1, none⟩) (pbegin s i0 i2 now).hv.length e1, .slice (some ⟨g2, o2, none⟩) (pbegin s i0 i2 now).da.length e2, pbegin s i0 i2 now⟩) _ _ ⟨rfl, ⟨_, _, _, rfl⟩, ⟨_, _, _, rfl⟩⟩ ⟨I, I, I, I, trivial⟩ (Ent.pick [1, 2, 4, 3] I I)
       ·refine HL.makeS i2.toNat i2.toNat elemB I I I I hi2 hi2 (Nat.le_refl _) (show 1 * i2.toNat ≤ _ by omega) (by omega) ?_
        intro vb
        refine HL.ent (Ent.own0 hbl hbc) ?_
        refine HL.backA [] I I ?_
        refine HA.two 5 9 (by kernel_rfl) I I ?_ ?_
        ·refine HL.callB fn171 I I (fun w _ => r15tick_any now w) ?_
         refine HL.backA [] I I ?_
         refine HA.one 9 (by kernel_rfl) I ?_
         refine HL.makeS i2.toNat i2.toNat elemS I I I I hi2 hi2 (Nat.le_refl _) (show 16 * i2.toNat ≤ _ by omega) (by omega) ?_
         intro vs
         refine HL.ent (Ent.own0 hsl hsc) ?_
         refine HL.backA [] I I ?_
         refine HA.row 1 I (v := vb) (e := 4) (sz := 1) (m := pb.hv.length) (xs := cellsOf bC pb.hv) hbl0 fun g1 o1 e1 hvb => ?_
         subst hvb
         refine HA.row 0 I (v := vs) (e := 9) (sz := 1) (m := pb.da.length) (xs := cellsOf sC pb.da) hsl0 fun g2 o2 e2 hvs => ?_
         subst hvs
         refine za 10 ?_
         refine HA.one 11 (by kernel_rfl) I ?_
         refine HL.bslice elemPt I I I I I (by decide) (by decide) ?_
         intro va
         refine HL.backA [] I I ?_
         refine HA.one 12 (by kernel_rfl) I ?_
         refine HL.appR 3 I elemPt (Rd.own 0 I) I I I I (allOne_spec I) (by show (N.length + 1) * 80 ≤ _; omega) (by show N.length + 1 ≤ _; omega) ?_
         intro o3
         refine HL.backA [] I I ?_
         refine za 13 ?_
         refine HA.done (by kernel_rfl) ?_
         subst hpb
         exact hj4 (o3, ⟨.slice (some ⟨g1, o1, none⟩) (pbegin s i0 i2 now).hv.length e1, .slice (some ⟨g2, o2, none⟩) (pbegin s i0 i2 now).da.length e2, pbegin s i0 i2 now⟩) _ _ ⟨rfl, ⟨_, _, _, rfl⟩, ⟨_, _, _, rfl⟩⟩ ⟨I, I, I, I, trivial⟩ (Ent.pick [2, 1, 4, 3] I I)
        ·refine HL.makeS i2.toNat i2.toNat elemS I I I I hi2 hi2 (Nat.le_refl _) (show 16 * i2.toNat ≤ _ by omega) (by omega) ?_
         intro vs
         refine HL.ent (Ent.own0 hsl hsc) ?_
         refine HL.backA [] I I ?_
         refine HA.one 5 (by kernel_rfl) I ?_
         refine HL.callB fn171 I I (fun w _ => r15tick_any now w) ?_
         refine HL.backA [] I I ?_
         refine HA.row 1 I (v := vb) (e := 4) (sz := 1) (m := pb.hv.length) (xs := cellsOf bC pb.hv) hbl0 fun g1 o1 e1 hvb => ?_
         subst hvb
         refine HA.row 0 I (v := vs) (e := 9) (sz := 1) (m := pb.da.length) (xs := cellsOf sC pb.da) hsl0 fun g2 o2 e2 hvs => ?_
         subst hvs
         refine za 10 ?_
         refine HA.one 11 (by kernel_rfl) I ?_
         refine HL.bslice elemPt I I I I I (by decide) (by decide) ?_
         intro va
         refine HL.backA [] I I ?_
         refine HA.one 12 (by kernel_rfl) I ?_
         refine HL.appR 3 I elemPt (Rd.own 0 I) I I I I (allOne_spec I) (by show (N.length + 1) * 80 ≤ _; omega) (by show N.length + 1 ≤ _; omega) ?_
         intro o3
         refine HL.backA [] I I ?_
         refine za 13 ?_
         refine HA.done (by kernel_rfl) ?_
         subst hpb
         exact hj4 (o3, ⟨.slice (some ⟨g1, o1, none⟩) (pbegin s i0 i2 now).hv.length e1, .slice (some ⟨g2, o2, none⟩) (pbegin s i0 i2 now).da.length e2, pbegin s i0 i2 now⟩) _ _ ⟨rfl, ⟨_, _, _, rfl⟩, ⟨_, _, _, rfl⟩⟩ ⟨I, I, I, I, trivial⟩ (Ent.pick [2, 1, 4, 3] I I)
       ·refine HL.makeS i2.toNat i2.toNat elemS I I I I hi2 hi2 (Nat.le_refl _) (show 16 * i2.toNat ≤ _ by omega) (by omega) ?_
        intro vs
        refine HL.ent (Ent.own0 hsl hsc) ?_
        refine HL.backA [] I I ?_
        refine HA.two 5 7 (by kernel_rfl) I I ?_ ?_
        ·refine HL.callB fn171 I I (fun w _ => r15tick_any now w) ?_
         refine HL.backA [] I I ?_
         refine HA.one 7 (by kernel_rfl) I ?_
         refine HL.makeS i2.toNat i2.toNat elemB I I I I hi2 hi2 (Nat.le_refl _) (show 1 * i2.toNat ≤ _ by omega) (by omega) ?_
         intro vb
         refine HL.ent (Ent.own0 hbl hbc) ?_
         refine HL.backA [] I I ?_
         refine HA.row 0 I (v := vb) (e := 4) (sz := 1) (m := pb.hv.length) (xs := cellsOf bC pb.hv) hbl0 fun g1 o1 e1 hvb => ?_
         subst hvb
         refine HA.row 1 I (v := vs) (e := 9) (sz := 1) (m := pb.da.length) (xs := cellsOf sC pb.da) hsl0 fun g2 o2 e2 hvs => ?_
         subst hvs
         refine za 10 ?_
         refine HA.one 11 (by kernel_rfl) I ?_
         refine HL.bslice elemPt I I I I I (by decide) (by decide) ?_
         intro va
         refine HL.backA [] I I ?_
         refine HA.one 12 (by kernel_rfl) I ?_
         refine HL.appR 3 I elemPt (Rd.own 0 I) I I I I (allOne_spec I) (by show (N.length + 1) * 80 ≤ _; omega) (by show N.length + 1 ≤ _; omega) ?_
         intro o3
         refine HL.backA [] I I ?_
         refine za 13 ?_
         refine HA.done (by kernel_rfl) ?_
         subst hpb
         exact hj4 (o3, ⟨.slice (some ⟨g1, o1, none⟩) (pbegin s i0 i2 now).hv.length e1, .slice (some ⟨g2, o2, none⟩) (pbegin s i0 i2 now).da.length e2, pbegin s i0 i2 now⟩) _ _ ⟨rfl, ⟨_, _, _, rfl⟩, ⟨_, _, _, rfl⟩⟩ ⟨I, I, I, I, trivial⟩ (Ent.pick [1, 2, 4, 3] I I)
        ·refine HL.makeS i2.toNat i2.toNat elemB I I I I hi2 hi2 (Nat.le_refl _) (show 1 * i2.toNat ≤ _ by omega) (by omega) ?_
         intro vb
         refine HL.ent (Ent.own0 hbl hbc) ?_
         refine HL.backA [] I I ?_
         refine HA.one 5 (by kernel_rfl) I ?_
         refine HL.callB fn171 I I (fun w _ => r15tick_any now w) ?_
         refine HL.backA [] I I ?_
         refine HA.row 0 I (v := vb) (e := 4) (sz := 1) (m := pb.hv.length) (xs := cellsOf bC pb.hv) hbl0 fun g1 o1 e1 hvb => ?_
         subst hvb
         refine HA.row 1 I (v := vs) (e := 9) (sz := 1) (m := pb.da.length) (xs := cellsOf sC pb.da) hsl0 fun g2 o2 e2 hvs => ?_
         subst hvs
         refine za 10 ?_
         refine HA.one 11 (by kernel_rfl) I ?_
         refine HL.bslice elemPt I I I I I (by decide) (by decide) ?_
         intro va
         refine HL.backA [] I I ?_
         refine HA.one 12 (by kernel_rfl) I ?_
         refine HL.appR 3 I elemPt (Rd.own 0 I) I I I I (allOne_spec I) (by show (N.length + 1) * 80 ≤ _; omega) (by show N.length + 1 ≤ _; omega) ?_
         intro o3
         refine HL.backA [] I I ?_
         refine za 13 ?_
         refine HA.done (by kernel_rfl) ?_
         subst hpb
         exact hj4 (o3, ⟨.slice (some ⟨g1, o1, none⟩) (pbegin s i0 i2 now).hv.length e1, .slice (some ⟨g2, o2, none⟩) (pbegin s i0 i2 now).da.length e2, pbegin s i0 i2 now⟩) _ _ ⟨rfl, ⟨_, _, _, rfl⟩, ⟨_, _, _, rfl⟩⟩ ⟨I, I, I, I, trivial⟩ (Ent.pick [1, 2, 4, 3] I I)
     ·refine HR.cond I (fun h6 => ?_) (fun h6 => ?_)
      ·have h6 : M.length = 8 := by have h6 : ((M.length : Int) == 8) = true := h6; simp at h6; omega
       obtain ⟨m0, hm0⟩ := getSome (show 0 < M.length by omega)
       refine HR.region ?_
       repeat' (first | refine zn ?_ | apply zb ?_ ?_ | exact zc | (refine zi fun hb => ?_; try simp at hb) | intro (bk : Nat))
       refine HL.callO fn193 I I (fun w1 hw1 => r15remove_any M 0 v2 w1 ((Rd.own 0 rfl).at hw1) hshM (by omega) (by omega)) ?_
       intro r
       repeat' (first | refine zn ?_ | apply zb ?_ ?_ | exact zc | (refine zi fun hb => ?_; try simp at hb) | intro (bk : Nat))
       refine hj6 (r, M.eraseIdx 0) _ _ ⟨?_, fun y hy => hshM y (List.mem_of_mem_eraseIdx hy)⟩ ⟨I, I, I, I, I, I, I, trivial⟩ (Ent.trans (Ent.pick [2, 0] I I) (Ent.trans (Ent.gdrop _ (ptG_erase hm0)) (Ent.pick [1, 0] I I)))
       show pts (M.eraseIdx 0) = proom (pts M)
       unfold proom
       rw [if_pos (by rw [pts_len]; exact h6)]
       exact eraseMap _ _ _
      ·have h6 : ¬ M.length = 8 := by intro e; have h6 : ((M.length : Int) == 8) = false := h6; rw [e] at h6; cases h6
       refine HR.skip ?_
       refine hj6 (v2, M) _ _ ⟨?_, hshM⟩ ⟨I, I, I, I, I, I, I, trivial⟩ (Ent.pick [0, 1] I I)
       show pts M = proom (pts M)
       unfold proom
       rw [if_neg (by rw [pts_len]; exact h6)]
  ·rcases fidx_cases (pis s i0) (pts L) with ⟨_, e2, _⟩ | ⟨a, q, _, e2, hq, _, _⟩
   ·have e2 : pfind (pts L) s i0 = none := e2
    rw [e2]
    refine HR.condF I ?_
    refine HR.skip ?_
    exact hj2 (v1, L, none) _ _ ⟨by unfold pdrop; rw [e2], hsh⟩ ⟨I, I, I, I, I, I, I, I, trivial⟩ Ent.refl
   ·have e2 : pfind (pts L) s i0 = some a := e2
    have hal : a < L.length := by have := (List.getElem?_eq_some_iff.1 hq).1; rw [pts_len] at this; exact this
    have hgq : (pts L).getD a pz = q := by rw [List.getD_eq_getElem?_getD, hq]; rfl
    rw [e2]
    obtain ⟨m0, hm0⟩ := getSome hal
    refine HR.cond I (fun h6 => ?_) (fun h6 => ?_)
    ·have h6 : ¬ ((pts L).getD a pz).ct = i2 := by have h6 : (((pts L).getD a pz).ct != i2) = true := h6; simpa using h6
     refine HR.ctl I ?_
     refine HR.region ?_
     repeat' (first | refine zn ?_ | apply zb ?_ ?_ | exact zc | (refine zi fun hb => ?_; try simp at hb) | intro (bk : Nat))
     refine HL.callO fn193 I I (fun w1 hw1 => r15remove_any L a v1 w1 ((Rd.own 0 rfl).at hw1) hsh hal (by omega)) ?_
     intro r
     repeat' (first | refine zn ?_ | apply zb ?_ ?_ | exact zc | (refine zi fun hb => ?_; try simp at hb) | intro (bk : Nat))
     refine HR.region ?_
     repeat' (first | refine zn ?_ | apply zb ?_ ?_ | exact zc | (refine zi fun hb => ?_; try simp at hb) | intro (bk : Nat))
     refine hj2 (r, L.eraseIdx a, none) _ _ ⟨?_, fun y hy => hsh y (List.mem_of_mem_eraseIdx hy)⟩ ⟨I, I, I, I, I, I, I, I, trivial⟩ (Ent.trans (Ent.pick [2, 0] I I) (Ent.trans (Ent.gdrop _ (ptG_erase hm0)) (Ent.pick [1, 0] I I)))
     show (pts (L.eraseIdx a), (none : Option Nat)) = pdrop (pts L) s i0 i2
     unfold pdrop
     rw [e2]
     simp only
     rw [if_neg h6]
     exact congrArg (·, none) (eraseMap _ _ _)
    ·have h6 : ((pts L).getD a pz).ct = i2 := by have h6 : (((pts L).getD a pz).ct != i2) = false := h6; simpa using h6
     refine HR.skip ?_
     refine hj2 (v1, L, some a) _ _ ⟨?_, hsh⟩ ⟨I, I, I, I, I, I, I, I, trivial⟩ Ent.refl
     show (pts L, some a) = pdrop (pts L) s i0 i2
     unfold pdrop
     rw [e2]
     simp only
     rw [if_pos h6]
 ·have hpf : pfi (pts L) s i0 = atI (pfind (pts L) s i0) := by
   unfold pfi pfind fidx atI
   cases List.findIdx? (pis s i0) (pts L) <;> rfl
  rw [hpf]
  rcases fidx_cases (pis s i0) (pts L) with ⟨_, e2, _⟩ | ⟨a, q, _, e2, hq, _, _⟩
  ·have e2 : pfind (pts L) s i0 = none := e2
   rw [e2] at hj ⊢
   refine HR.region ?_
   repeat' (first | refine zn ?_ | intro (bk : Nat))
   exact hj () _ _ trivial ⟨I, I, I, I, I, I, I, I, I, trivial⟩ Ent.refl
  ·have e2 : pfind (pts L) s i0 = some a := e2
   have hal : a < L.length := by have := (List.getElem?_eq_some_iff.1 hq).1; rw [pts_len] at this; exact this
   have hgq : (pts L).getD a pz = q := by rw [List.getD_eq_getElem?_getD, hq]; rfl
   obtain ⟨p, hp⟩ := getSome hal
   have hpq : p.pt = q := by rw [pts_get hp] at hq; cases hq; rfl
   rw [e2] at hj ⊢
   simp only [hgq, ← hpq] at hj
   refine HR.region ?_
   repeat' (first | refine zn ?_ | refine HL.idxR (Rd.own 0 I) elemPt a I I I I hal ?_ | refine HL.fieldN 2 (Rd.own 0 I) (show a * 6 < (cellsOf ptC L).length by rw [hcl]; omega) I I I I I I I ?_ | refine HL.loadI (Rd.own 0 I) I I I I (cells_get ptC_len hp (i := 2) I) ?_ | intro (bk : Nat))
   exact hj () _ _ trivial ⟨I, I, I, I, I, I, I, I, I, trivial⟩ Ent.refl
end Go.Proofs.YtgdgclmkpoaagaaGreat
namespace Go.Proofs.YtgdgclmkpoaagaaGreat
open Go.GX Go.RowKit
attribute [local irreducible] Calls Run RunL RunQ RunD HR HL HD blkC ownC Rd
open Nd
theorem fn144 : IsFn Tryz.prog 144 := ⟨⟨_, _, Tryz.func144, rfl, by decide⟩⟩
theorem fn66 : IsFn Tryz.prog 66 := ⟨⟨_, _, Tryz.func66, rfl, by decide⟩⟩
theorem fn157 : IsFn Tryz.prog 157 := ⟨⟨_, _, Tryz.func157, rfl, by decide⟩⟩
theorem fn158 : IsFn Tryz.prog 158 := ⟨⟨_, _, Tryz.func158, rfl, by decide⟩⟩
theorem fn188 : IsFn Tryz.prog 188 := ⟨⟨_, _, Tryz.func188, rfl, by decide⟩⟩
theorem fn85 : IsFn Tryz.prog 85 := ⟨⟨_, _, Tryz.func85, rfl, by decide⟩⟩
theorem fn82 : IsFn Tryz.prog 82 := ⟨⟨_, _, Tryz.func82, rfl, by decide⟩⟩
theorem fn135 : IsFn Tryz.prog 135 := ⟨⟨_, _, Tryz.func135, rfl, by decide⟩⟩
theorem rsat_any (n : Int) (w : World) (h : -1099511627776 ≤ n ∧ n ≤ 1099511627776) : Calls Tryz.prog 235 #[.int .i64 n] w fun e w' => e = .returned (.int .i64 n) ∧ Below w.heap.size w w' := by
 refine calls_hr Tryz.func235 I (Nat.le_of_ble_eq_true I) ?_
 refine HR.sub (σ' := [(0, .int .i64 n)]) ⟨I, trivial⟩ ?_
 repeat' (first | refine zh ?_ | apply zb ?_ ?_ | exact zc | (refine zi fun hb => ?_; try simp at hb) | intro (bk : Nat))
 refine HR.setB 4 false I (decide_eq_false (by omega)) ?_
 repeat' (first | refine zh ?_ | apply zb ?_ ?_ | exact zc | (refine zi fun hb => ?_; try simp at hb) | intro (bk : Nat))
 refine HR.setB 6 false I (decide_eq_false (by omega)) ?_
 repeat' (first | refine zh ?_ | apply zb ?_ ?_ | exact zc | (refine zi fun hb => ?_; try simp at hb) | intro (bk : Nat))
 refine HR.ret Tryz.func235 I [_] (fun _ _ => ⟨I, trivial⟩) ?_
 exact fun w' hw => ⟨rfl, hw.belowB⟩
theorem floor_neg {a b : Int} (ha : 0 ≤ a) (hb : 0 < b) : (-a) / b = if a % b ≠ 0 then -(a / b) - 1 else -(a / b) := by
 have := cdiv_code ha hb
 unfold cdiv at this
 split <;> rename_i h
 ·rw [if_pos h] at this; omega
 ·rw [if_neg h] at this; omega
theorem rfloor_any (a b : Int) (w : World) (ha : 0 ≤ a ∧ a ≤ 1000000) (hb : 0 < b ∧ b ≤ 1000000) : Calls Tryz.prog 234 #[.int .i64 (-a), .int .i64 b] w fun e w' => e = .returned (.int .i64 ((-a) / b)) ∧ Below w.heap.size w w' := by
 have q0 : (-a).tdiv b = -(a / b) := by rw [Int.neg_tdiv, Int.tdiv_eq_ediv_of_nonneg ha.1]
 have r0 : (-a).tmod b = -(a % b) := by rw [Int.neg_tmod, Int.tmod_eq_emod_of_nonneg ha.1]
 have q1 : 0 ≤ a / b := Int.ediv_nonneg ha.1 (by omega)
 have q2 : a / b ≤ a := Int.ediv_le_self _ ha.1
 have r1 := Int.emod_nonneg a (show b ≠ 0 by omega)
 have r3 := Int.mul_ediv_add_emod a b
 have hff : fits .i64 ((-a).tdiv b) := by rw [q0]; simp only [GX.fits]; omega
 refine calls_hr Tryz.func234 I (Nat.le_of_ble_eq_true I) ?_
 refine HR.sub (σ' := [(0, .int .i64 (-a)), (1, .int .i64 b)]) ⟨I, I, trivial⟩ ?_
 repeat' (first | refine zh ?_ | refine HL.callB fn235 I I (fun w _ => rsat_any (-a) w (by omega)) ?_ | refine HL.callB fn235 I I (fun w _ => rsat_any b w (by omega)) ?_ | apply zb ?_ ?_ | exact zc | (refine zi fun hb => ?_; try simp at hb) | intro (bk : Nat))
 refine HR.setB 11 false I (by simp; omega) ?_
 by_cases h : a % b = 0
 ·repeat' (first | refine zh ?_ | refine HL.quoT I I I (show b ≠ 0 by omega) hff ?_ | refine HL.remT I I I (show b ≠ 0 by omega) ?_ | intro (bk : Nat))
  refine HL.setB 19 false I (by rw [r0, h]; rfl) ?_
  repeat' (first | refine zh ?_ | intro (bk : Nat))
  refine HR.ret Tryz.func234 I [_] (fun _ _ => ⟨I, trivial⟩) ?_
  exact fun w' hw => ⟨by rw [floor_neg ha.1 hb.1, if_neg (by omega), ← q0]; rfl, hw.belowB⟩
 ·have hapos : 0 < a := by
   rcases Int.lt_or_eq_of_le ha.1 with h1 | h1
   ·exact h1
   ·rw [← h1] at h; simp at h
  repeat' (first | refine zh ?_ | refine HL.quoT I I I (show b ≠ 0 by omega) hff ?_ | refine HL.remT I I I (show b ≠ 0 by omega) ?_ | intro (bk : Nat))
  refine HL.setB 19 true I (by rw [r0]; simp; omega) ?_
  repeat' (first | refine zh ?_ | intro (bk : Nat))
  refine HR.setB 25 true I (by rw [decide_eq_true (show -a < 0 by omega), decide_eq_false (show ¬ b < 0 by omega)]; rfl) ?_
  repeat' (first | refine zh ?_ | intro (bk : Nat))
  refine HR.ret Tryz.func234 I [_] (fun _ _ => ⟨I, trivial⟩) ?_
  exact fun w' hw => ⟨by rw [floor_neg ha.1 hb.1, if_pos h, ← q0]; rfl, hw.belowB⟩
theorem rceil_any (a b : Int) (w : World) (ha : 0 ≤ a ∧ a ≤ 1000000) (hb : 0 < b ∧ b ≤ 1000000) : Calls Tryz.prog 189 #[.int .i64 a, .int .i64 b] w fun e w' => e = .returned (.int .i64 (cdiv a b)) ∧ Below w.heap.size w w' := by
 have q1 : 0 ≤ a / b := Int.ediv_nonneg ha.1 (by omega)
 have q2 : a / b ≤ a := Int.ediv_le_self _ ha.1
 have hc := floor_neg ha.1 hb.1
 have hb1 : -1000001 ≤ (-a) / b ∧ (-a) / b ≤ 0 := by rw [hc]; split <;> omega
 refine calls_hr Tryz.func189 I (Nat.le_of_ble_eq_true I) ?_
 refine HR.sub (σ' := [(0, .int .i64 a), (1, .int .i64 b)]) ⟨I, I, trivial⟩ ?_
 repeat' (first | refine zh ?_ | refine HL.callB fn235 I I (fun w _ => rsat_any a w (by omega)) ?_ | refine HL.callB fn234 I I (fun w _ => rfloor_any a b w ha hb) ?_ | apply zb ?_ ?_ | exact zc | (refine zi fun hb => ?_; try simp at hb) | intro (bk : Nat))
 refine HR.ret Tryz.func189 I [_] (fun _ _ => ⟨I, trivial⟩) ?_
 exact fun w' hw => ⟨rfl, hw.belowB⟩
theorem rpower_any (n : Int) (w : World) (hn : 0 ≤ n ∧ n ≤ 16) : Calls Tryz.prog 144 #[.int .i64 n] w fun e w' => e = .returned (.int .i64 (2 ^ n.toNat)) ∧ Below w.heap.size w w' := by
 obtain ⟨m, rfl⟩ : ∃ m : Nat, n = m := ⟨n.toNat, by omega⟩
 refine calls_hr Tryz.func144 I (Nat.le_of_ble_eq_true I) ?_
 refine HR.sub (σ' := [(0, .int .i64 (m : Int))]) ⟨I, trivial⟩ ?_
 repeat' (first | refine zh ?_ | apply zb ?_ ?_ | exact zc | (refine zi fun hb => ?_; try simp at hb) | intro (bk : Nat))
 refine HR.loop (ι := Nat) (fun k => k ≤ m) (fun k => [(0, .int .i64 (m : Int)), (3, .int .i64 ((2 ^ k : Nat) : Int)), (4, .int .i64 (k : Int))]) (fun _ => []) (fun k => m - k) 0 (Nat.zero_le _) ⟨I, I, I, trivial⟩ Ent.refl ?_
 intro k hk ih
 have h2 : 2 ^ k ≤ 2 ^ 16 := Nat.pow_le_pow_right (by decide) (by omega)
 have h16 : 2 ^ 16 = 65536 := by decide
 rw [h16] at h2
 obtain ⟨p, hpe⟩ : ∃ p, p = 2 ^ k := ⟨_, rfl⟩
 rw [← hpe] at h2 ⊢
 repeat' (first | refine zh ?_ | apply zb ?_ ?_ | exact zc | (refine zi fun hb => ?_; try simp at hb) | intro (bk : Nat))
 refine HR.cond I (fun h => ?_) (fun h => ?_)
 ·have hlt : k < m := by have := of_decide_eq_true h; omega
  repeat' (first | refine zh ?_ | apply zb ?_ ?_ | exact zc | (refine zi fun hb => ?_; try simp at hb) | intro (bk : Nat))
  refine HR.setV 3 (v' := .int .i64 ((2 ^ (k + 1) : Nat) : Int)) I (show Value.int .i64 (2 * (p : Int)) = _ by rw [Nat.pow_succ, ← hpe]; congr 1; omega) ?_
  exact ih (k + 1) _ _ hlt (by omega) ⟨I, I, I, trivial⟩ Ent.refl
 ·have hke : k = m := by have := of_decide_eq_false h; omega
  subst hke
  repeat' (first | refine zh ?_ | apply zb ?_ ?_ | exact zc | (refine zi fun hb => ?_; try simp at hb) | intro (bk : Nat))
  refine HR.ret Tryz.func144 I [_] (fun _ _ => ⟨I, trivial⟩) ?_
  refine fun w' hw => ⟨?_, hw.belowB⟩
  rw [hpe]
  simp only [resV, Int.toNat_natCast, Int.natCast_pow]
  rfl
theorem r10check_any (l : List Li) (v : Value) (w : World) (hv : Sl w v (cellsOf liC l) l.length) (hl : l.length ≤ 1000) :
  Calls Tryz.prog 66 #[v] w fun e w' => e = .returned (.int .i64 (lchk l)) ∧ Below w.heap.size w w' := by
 refine calls_hr Tryz.func66 I (Nat.le_of_ble_eq_true I) ?_
 refine HR.sub (σ' := [(0, v)]) ⟨I, trivial⟩ ?_
 repeat' (first | refine zh ?_ | refine HL.lenR (Rd.arg hv) I I I ?_ | apply zb ?_ ?_ | exact zc | (refine zi fun hb => ?_; try simp at hb) | intro (bk : Nat))
 refine HR.cond I (fun h => ?_) (fun h => ?_)
 ·have h : l.length > 24 := by have := of_decide_eq_true h; omega
  repeat' (first | refine zh ?_ | apply zb ?_ ?_ | exact zc | (refine zi fun hb => ?_; try simp at hb) | intro (bk : Nat))
  refine HR.ret Tryz.func66 I [_] (fun _ _ => ⟨I, trivial⟩) ?_
  exact fun w' hw => ⟨by rw [lchk, if_pos h]; rfl, hw.belowB⟩
 have h : l.length ≤ 24 := by have := of_decide_eq_false h; omega
 repeat' (first | refine zh ?_ | apply zb ?_ ?_ | exact zc | (refine zi fun hb => ?_; try simp at hb) | intro (bk : Nat))
 refine HR.loop (ι := Nat) (fun k => k ≤ l.length ∧ firstE (lbad l) k = 0) (fun k => [(0, v), (3, .int .i64 (k : Int))]) (fun _ => []) (fun k => l.length - k) 0 ⟨Nat.zero_le _, rfl⟩ ⟨I, I, trivial⟩ Ent.refl ?_
 rintro k ⟨hk, hg⟩ ih
 repeat' (first | refine zh ?_ | refine HL.lenR (Rd.arg hv) I I I ?_ | apply zb ?_ ?_ | exact zc | (refine zi fun hb => ?_; try simp at hb) | intro (bk : Nat))
 refine HR.cond I (fun h2 => ?_) (fun h2 => ?_)
 ·have hlt : k < l.length := by have := of_decide_eq_true h2; omega
  obtain ⟨x, hx⟩ := getSome hlt
  repeat' (first | refine zh ?_ | refine HL.idxR (Rd.arg hv) elemLi k I I I I hlt ?_ | refine HL.loadE (Rd.arg hv) I I I I (by simp) I (cellsOf_get liC_len hx) ?_ | intro (bk : Nat))
  refine HR.regionQ hmix (by kernel_rfl) ?_
  repeat' (first | refine zq ?_ | refine HQ.callB fn144 I I (fun w _ => rpower_any x.ct w (by omega)) ?_ | apply zb ?_ ?_ | exact zc | (refine zi fun hb => ?_; try simp at hb))
  refine HR.cond I (fun h3 => ?_) (fun h3 => ?_)
  ·have h3 : lrange x = true := h3
   repeat' (first | refine zh ?_ | apply zb ?_ ?_ | exact zc | (refine zi fun hb => ?_; try simp at hb) | intro (bk : Nat))
   refine HR.ret Tryz.func66 I [_] (fun _ _ => ⟨I, trivial⟩) ?_
   refine fun w' hw => ⟨?_, hw.belowB⟩
   have e := lbad_range hx h3
   rw [lchk_at h hg (by rw [e]; decide) hlt, e]; rfl
  have h3 : lrange x = false := h3
  obtain ⟨y, hy⟩ := getSome (l := l) (j := k - 1) (by omega)
  repeat' (first | refine zh ?_ | apply zb ?_ ?_ | exact zc | (refine zi fun hb => ?_; try simp at hb) | intro (bk : Nat))
  refine HR.regionQ hmix (by kernel_rfl) ?_
  repeat' (first | refine zq ?_ | refine HQ.idxR (Rd.arg hv) elemLi (k - 1) I I I (by omega) (by omega) ?_ | refine HQ.fieldE (Rd.arg hv) (by rw [cellsOf_len liC_len]; omega) I I I I I I ?_ | refine HQ.loadI (Rd.arg hv) I I I I (cells_get liC_len hy (i := 0) I) ?_ | apply zb ?_ ?_ | exact zc | (refine zi fun hb => ?_; try simp at hb))
  refine HR.cond I (fun h4 => ?_) (fun h4 => ?_)
  ·have h4 : (decide ((k : Int) > 0) && decide (y.nd ≥ x.nd)) = true := h4
   simp only [Bool.and_eq_true, decide_eq_true_eq] at h4
   repeat' (first | refine zh ?_ | apply zb ?_ ?_ | exact zc | (refine zi fun hb => ?_; try simp at hb) | intro (bk : Nat))
   refine HR.ret Tryz.func66 I [_] (fun _ _ => ⟨I, trivial⟩) ?_
   refine fun w' hw => ⟨?_, hw.belowB⟩
   have e := lbad_order hx h3 (by omega) hy h4.2
   rw [lchk_at h hg (by rw [e]; decide) hlt, e]; rfl
  ·have h4 : (decide ((k : Int) > 0) && decide (y.nd ≥ x.nd)) = false := h4
   repeat' (first | refine zh ?_ | apply zb ?_ ?_ | exact zc | (refine zi fun hb => ?_; try simp at hb) | intro (bk : Nat))
   refine ih (k + 1) _ _ ⟨hlt, firstE_step hg (lbad_ok hx h3 fun y' h0 hy' hle => ?_)⟩ (by omega) ⟨I, I, trivial⟩ (Ent.pick [] I I)
   rw [hy] at hy'
   cases hy'
   rw [decide_eq_true (show (k : Int) > 0 by omega), decide_eq_true (show y.nd ≥ x.nd from hle)] at h4
   cases h4
 ·have hke : k = l.length := by have := of_decide_eq_false h2; omega
  subst hke
  repeat' (first | refine zh ?_ | apply zb ?_ ?_ | exact zc | (refine zi fun hb => ?_; try simp at hb) | intro (bk : Nat))
  refine HR.ret Tryz.func66 I [_] (fun _ _ => ⟨I, trivial⟩) ?_
  exact fun w' hw => ⟨by rw [lchk, if_neg (by omega), hg]; rfl, hw.belowB⟩
theorem r10valid_any (l : List Li) (v : Value) (w : World) (hv : Sl w v (cellsOf liC l) l.length) (hl : l.length ≤ 1000) :
  Calls Tryz.prog 157 #[v] w fun e w' => ∃ v', e = .returned v' ∧ Sat (base w) [ownC v' 129 3 (lval l).length (cellsOf liC (lval l))] w' := by
 refine calls_hr Tryz.func157 I (Nat.le_of_ble_eq_true I) ?_
 refine HR.sub (σ' := [(0, v)]) ⟨I, trivial⟩ ?_
 repeat' (first | refine zh ?_ | refine HL.callB fn66 I I (fun w hw => r10check_any l v w ((Rd.arg hv).at hw) hl) ?_ | apply zb ?_ ?_ | exact zc | (refine zi fun hb => ?_; try simp at hb) | intro (bk : Nat))
 refine HR.cond I (fun h => ?_) (fun h => ?_)
 ·have h : ¬ lchk l = 0 := by simpa using h
  repeat' (first | refine zh ?_ | apply zb ?_ ?_ | exact zc | (refine zi fun hb => ?_; try simp at hb) | intro (bk : Nat))
  refine HR.nilC 129 3 ?_
  refine HR.ret Tryz.func157 I [_] (fun _ _ => ⟨I, trivial⟩) ?_
  exact fun w' hw => ⟨.slice none 0 0, rfl, by rw [lval, if_neg h]; exact hw⟩
 ·have h : lchk l = 0 := by simpa using h
  have h24 := (lchk_asc h).1
  repeat' (first | refine zh ?_ | refine HL.bslice0 elemLi I ?_ | apply zb ?_ ?_ | exact zc | (refine zi fun hb => ?_; try simp at hb) | intro (bk : Nat))
  intro v1
  repeat' (first | refine zh ?_ | refine HL.appR 0 I elemLi (Rd.arg hv) I I I (cellsOf_len liC_len _) (one_allcells liC_one _) (by omega) (by omega) ?_ | apply zb ?_ ?_ | exact zc | (refine zi fun hb => ?_; try simp at hb) | intro (bk : Nat))
  intro v2
  repeat' (first | refine zh ?_ | apply zb ?_ ?_ | exact zc | (refine zi fun hb => ?_; try simp at hb) | intro (bk : Nat))
  refine HR.ret Tryz.func157 I [_] (fun _ _ => ⟨I, trivial⟩) ?_
  refine fun w' hw => ⟨v2, rfl, Ent.own0 ?_ ?_ w' hw⟩
  ·rw [lval, if_pos h]; omega
  ·rw [lval, if_pos h]; rfl
end Go.Proofs.YtgdgclmkpoaagaaGreat
namespace Go.Proofs.YtgdgclmkpoaagaaGreat
open Go.GX Go.RowKit
attribute [local irreducible] Calls Run RunL RunQ RunD HR HL HD blkC ownC Rd
open Nd
def latZ (l : List Li) (n : Int) : Li := (lat l n).getD ⟨0, 0, 0⟩
theorem r10at_any (l : List Li) (n : Int) (v : Value) (w : World) (hv : Sl w v (cellsOf liC l) l.length) (hl : l.length ≤ 1000) :
  Calls Tryz.prog 158 #[v, .int .i64 n] w fun e w' => e = .returned (.tuple ⟨[.agg ⟨liC (latZ (lval l) n)⟩, .bool (lat (lval l) n).isSome]⟩) ∧ Below w.heap.size w w' := by
 have hlen := lval_len l
 refine calls_hr Tryz.func158 I (Nat.le_of_ble_eq_true I) ?_
 refine HR.sub (σ' := [(0, v), (1, .int .i64 n)]) ⟨I, I, trivial⟩ ?_
 repeat' (first | refine zh ?_ | intro (bk : Nat))
 refine HL.callO fn157 I I (fun w hw => r10valid_any l v w ((Rd.arg hv).at hw) hl) ?_
 intro v1
 repeat' (first | refine zh ?_ | intro (bk : Nat))
 obtain ⟨L, hL⟩ : ∃ L, L = lval l := ⟨_, rfl⟩
 rw [← hL] at hlen ⊢
 refine HR.loop (ι := Nat) (fun k => k ≤ L.length ∧ ∀ j a, j < k → L[j]? = some a → (a.nd == n) = false) (fun k => [(1, .int .i64 n), (4, .pointer (some ⟨bk, 0, none⟩)), (6, v1), (7, .int .i64 (k : Int))]) (fun _ => [ownC v1 129 3 L.length (cellsOf liC L), blkC bk (liC ⟨0, 0, 0⟩) 129]) (fun k => L.length - k) 0 ⟨Nat.zero_le _, fun j a hj => by omega⟩ ⟨I, I, I, I, trivial⟩ Ent.refl ?_
 rintro k ⟨hk, hg⟩ ih
 repeat' (first | refine zh ?_ | refine HL.lenR (Rd.own 0 I) I I I ?_ | intro (bk : Nat))
 refine HR.cond I (fun h2 => ?_) (fun h2 => ?_)
 ·have hlt : k < L.length := by have := of_decide_eq_true h2; omega
  obtain ⟨x, hx⟩ := getSome hlt
  repeat' (first | refine zh ?_ | refine HL.idxR (Rd.own 0 I) elemLi k I I I I hlt ?_ | refine HL.fieldE (Rd.own 0 I) (by rw [cellsOf_len liC_len]; omega) I I I I I I ?_ | refine HL.loadI (Rd.own 0 I) I I I I (cells_get liC_len hx (i := 0) I) ?_ | intro (bk : Nat))
  refine HR.cond I (fun h3 => ?_) (fun h3 => ?_)
  ·have h3 : (x.nd == n) = true := h3
   have hf : lat L n = some x := find_first hx h3 hg
   repeat' (first | refine zh ?_ | refine HL.idxR (Rd.own 0 I) elemLi k I I I I hlt ?_ | refine HL.loadE (Rd.own 0 I) I I I I (by simp) I (cellsOf_get liC_len hx) ?_ | intro (bk : Nat))
   refine HR.ret Tryz.func158 I [_, _] (fun w hw => ⟨⟨_, rfl, loadVarR hw 1 I I I I rfl⟩, rfl, trivial⟩) ?_
   exact fun w' hw => ⟨by rw [latZ, hf]; rfl, hw.belowB⟩
  ·have h3 : (x.nd == n) = false := h3
   repeat' (first | refine zh ?_ | intro (bk : Nat))
   refine ih (k + 1) _ _ ⟨hlt, fun j a hj ha => ?_⟩ (by omega) ⟨I, I, I, I, trivial⟩ Ent.refl
   by_cases hjk : j = k
   ·subst hjk; rw [hx] at ha; cases ha; exact h3
   ·exact hg j a (by omega) ha
 ·have hke : k = L.length := by have := of_decide_eq_false h2; omega
  have hf : lat L n = none := List.find?_eq_none.2 fun a ha => by
   obtain ⟨j, hj⟩ := List.getElem?_of_mem ha
   have := hg j a (by rw [hke]; exact (List.getElem?_eq_some_iff.1 hj).1) hj
   simp [this]
  repeat' (first | refine zh ?_ | intro (bk : Nat))
  refine HR.ret Tryz.func158 I [_, _] (fun w hw => ⟨⟨_, rfl, loadVarR hw 1 I I I I rfl⟩, rfl, trivial⟩) ?_
  exact fun w' hw => ⟨by rw [latZ, hf]; rfl, hw.belowB⟩
theorem r10succ_any (x : Li) (w : World) (hb : 0 ≤ x.bi ∧ x.bi < 65536) :
  Calls Tryz.prog 188 #[.agg ⟨liC x⟩] w fun e w' => e = .returned (.int .i64 (ones x.bi)) ∧ Below w.heap.size w w' := by
 have hp := pop_le 64 x.bi.toNat
 have hb64 : x.bi.toNat < 2 ^ 64 := by
  have : (2 : Nat) ^ 64 = 18446744073709551616 := by decide
  omega
 refine calls_hr Tryz.func188 I (Nat.le_of_ble_eq_true I) ?_
 refine HR.sub (σ' := [(0, .agg ⟨liC x⟩)]) ⟨I, trivial⟩ ?_
 repeat' (first | refine zh ?_ | intro (bk : Nat))
 refine HR.loop3 (α := Nat) (β := Nat) (γ := Nat) (fun a b f => b < 65536 ∧ b < 2 ^ f ∧ (a : Int) + pop f b = pop 64 x.bi.toNat) (fun a b f => [(3, .int .i64 (a : Int)), (4, .int .i64 (b : Int))]) (fun _ _ _ => []) (fun a b f => b) 0 x.bi.toNat 64 ⟨by omega, hb64, by simp⟩ ⟨rfl, by show some _ = some _; congr 2; omega, trivial⟩ (Ent.pick [] I I) ?_
 rintro a b f ⟨hb5, hbf, hab⟩ ih
 have hpf := pop_le f b
 repeat' (first | refine zh ?_ | intro (bk : Nat))
 refine HR.cond I (fun h2 => ?_) (fun h2 => ?_)
 ·have hb0 : 0 < b := by have := of_decide_eq_true h2; omega
  obtain ⟨f', rfl, hb', hps⟩ := pop_step hb0 hbf
  repeat' (first | refine zh ?_ | intro (bk : Nat))
  refine ih (a + b % 2) (b / 2) f' _ _ ⟨by omega, hb', ?_⟩ (by omega) ⟨I, I, trivial⟩ Ent.refl
  rw [← hab, hps]; omega
 ·have hb0 : b = 0 := by have := of_decide_eq_false h2; omega
  subst hb0
  rw [pop_zero] at hab
  repeat' (first | refine zh ?_ | intro (bk : Nat))
  refine HR.ret Tryz.func188 I [_] (fun _ _ => ⟨I, trivial⟩) ?_
  refine fun w' hw => ⟨?_, hw.belowB⟩
  simp only [ones, ← hab, Int.add_zero]
  rfl
theorem r10forget_any (l : List Li) (n : Int) (v : Value) (w : World) (hv : Sl w v (cellsOf liC l) l.length) (hl : l.length ≤ 1000) :
  Calls Tryz.prog 85 #[v, .int .i64 n] w fun e w' => ∃ v', e = .returned v' ∧ Sat (base w) [ownC v' 129 3 (lforget l n).length (cellsOf liC (lforget l n))] w' := by
 have hlen := lval_len l
 refine calls_hr Tryz.func85 I (Nat.le_of_ble_eq_true I) ?_
 refine HR.sub (σ' := [(0, v), (1, .int .i64 n)]) ⟨I, I, trivial⟩ ?_
 repeat' (first | refine zh ?_ | intro (bk : Nat))
 refine HL.callO fn157 I I (fun w hw => r10valid_any l v w ((Rd.arg hv).at hw) hl) ?_
 intro v1
 repeat' (first | refine zh ?_ | intro (bk : Nat))
 have hfe : lforget l n = (lval l).filter (fun x => !(x.nd == n)) := rfl
 rw [hfe]
 obtain ⟨L, hL⟩ : ∃ L, L = lval l := ⟨_, rfl⟩
 rw [← hL] at hlen ⊢
 clear hfe
 refine HR.nilC 129 3 ?_
 refine HR.loop2 (α := Nat) (β := Value) (fun k o => k ≤ L.length) (fun k o => [(1, .int .i64 n), (5, v1), (6, o), (7, .int .i64 (k : Int))]) (fun k o => [ownC o 129 3 ((L.take k).filter (fun x => !(x.nd == n))).length (cellsOf liC ((L.take k).filter (fun x => !(x.nd == n)))), ownC v1 129 3 L.length (cellsOf liC L)]) (fun k _ => L.length - k) 0 (.slice none 0 0) (Nat.zero_le _) ⟨I, I, I, I, trivial⟩ Ent.refl ?_
 intro k o hk ih
 repeat' (first | refine zh ?_ | refine HL.lenR (Rd.own 1 I) I I I ?_ | intro (bk : Nat))
 refine HR.cond I (fun h2 => ?_) (fun h2 => ?_)
 ·have hlt : k < L.length := by have := of_decide_eq_true h2; omega
  obtain ⟨x, hx⟩ := getSome hlt
  have hfl : ((L.take k).filter (fun x => !(x.nd == n))).length ≤ 24 := Nat.le_trans (List.length_filter_le _ _) (by simp; omega)
  repeat' (first | refine zh ?_ | refine HL.idxR (Rd.own 1 I) elemLi k I I I I hlt ?_ | refine HL.fieldE (Rd.own 1 I) (by rw [cellsOf_len liC_len]; omega) I I I I I I ?_ | refine HL.loadI (Rd.own 1 I) I I I I (cells_get liC_len hx (i := 0) I) ?_ | intro (bk : Nat))
  refine HR.cond I (fun h3 => ?_) (fun h3 => ?_)
  ·have h3 : (x.nd != n) = true := h3
   repeat' (first | refine zh ?_ | refine HL.idxR (Rd.own 1 I) elemLi k I I I I hlt ?_ | refine HL.loadE (Rd.own 1 I) I I I I (by simp) I (cellsOf_get liC_len hx) ?_ | refine HL.bslice elemLi I I I I I (by decide) (by decide) ?_ | intro (bk : Nat))
   intro va
   repeat' (first | refine zh ?_ | refine HL.appR 1 I elemLi (Rd.own 0 I) I I I I (allOne_spec I) (by omega) (by omega) ?_ | intro (bk : Nat))
   intro o2
   repeat' (first | refine zh ?_ | intro (bk : Nat))
   refine ih (k + 1) o2 _ _ hlt (by omega) ⟨I, I, I, I, trivial⟩ (Ent.trans (Ent.pick [1, 2] I I) (Ent.own0 ?_ ?_))
   ·rw [take_succ_get hx, List.filter_append, List.filter_cons_of_pos (by simpa [bne] using h3)]; simp
   ·rw [take_succ_get hx, List.filter_append, List.filter_cons_of_pos (by simpa [bne] using h3), cellsOf_app]; rfl
  ·have h3 : (x.nd != n) = false := h3
   repeat' (first | refine zh ?_ | intro (bk : Nat))
   refine ih (k + 1) o _ _ hlt (by omega) ⟨I, I, I, I, trivial⟩ (Ent.own0 ?_ ?_)
   ·rw [take_succ_get hx, List.filter_append, List.filter_cons_of_neg (by simpa [bne] using h3)]; simp
   ·rw [take_succ_get hx, List.filter_append, List.filter_cons_of_neg (by simpa [bne] using h3)]; simp
 ·have hke : k = L.length := by have := of_decide_eq_false h2; omega
  subst hke
  rw [List.take_length]
  repeat' (first | refine zh ?_ | intro (bk : Nat))
  refine HR.ret Tryz.func85 I [_] (fun _ _ => ⟨I, trivial⟩) ?_
  exact fun w' hw => ⟨o, rfl, hw.pick [0] I rfl⟩
theorem r10cost_any (l : List Li) (n : Int) (v : Value) (w : World) (hv : Sl w v (cellsOf liC l) l.length) (hl : l.length ≤ 1000) :
  Calls Tryz.prog 135 #[v, .int .i64 n] w fun e w' => e = .returned (.int .i64 (lcost l n)) ∧ Below w.heap.size w w' := by
 have hs : 0 ≤ (latZ (lval l) n).bi ∧ (latZ (lval l) n).bi < 65536 ∧ 0 ≤ (latZ (lval l) n).ct ∧ (latZ (lval l) n).ct ≤ 16 := by
  unfold latZ
  cases hf : lat (lval l) n with
  | none => simp
  | some x =>
   have hr := lrange_lt (lval_mem (lat_mem hf).1)
   exact ⟨hr.2.2.2.2.1, hr.2.2.2.2.2, hr.2.2.1, hr.2.2.2.1⟩
 have ho := ones_le (latZ (lval l) n).bi
 refine calls_hr Tryz.func135 I (Nat.le_of_ble_eq_true I) ?_
 refine HR.sub (σ' := [(0, v), (1, .int .i64 n)]) ⟨I, I, trivial⟩ ?_
 repeat' (first | refine zh ?_ | refine HL.callB fn158 I I (fun w hw => r10at_any l n v w ((Rd.arg hv).at hw) hl) ?_ | refine HL.callB fn188 I I (fun w _ => r10succ_any _ w ⟨hs.1, hs.2.1⟩) ?_ | apply zb ?_ ?_ | exact zc | (refine zi fun hb => ?_; try simp at hb) | intro (bk : Nat))
 refine HR.cond I (fun h => ?_) (fun h => ?_)
 ·have h : (!(lat (lval l) n).isSome || (ones (latZ (lval l) n).bi == 0)) = true := h
  repeat' (first | refine zh ?_ | apply zb ?_ ?_ | exact zc | (refine zi fun hb => ?_; try simp at hb) | intro (bk : Nat))
  refine HR.ret Tryz.func135 I [_] (fun _ _ => ⟨I, trivial⟩) ?_
  refine fun w' hw => ⟨?_, hw.belowB⟩
  have : lcost l n = 255 := by
   unfold lcost
   unfold latZ at h
   revert h
   cases lat (lval l) n <;> simp
   intro h; simp [h]
  rw [this]; rfl
 ·have h : (!(lat (lval l) n).isSome || (ones (latZ (lval l) n).bi == 0)) = false := h
  have hc : lcost l n = cdiv (10 * (latZ (lval l) n).ct) (ones (latZ (lval l) n).bi) ∧ ones (latZ (lval l) n).bi ≠ 0 := by
   unfold lcost
   unfold latZ at h ⊢
   revert h
   cases lat (lval l) n <;> simp
   intro h; simp [h]
  repeat' (first | refine zh ?_ | apply zb ?_ ?_ | exact zc | (refine zi fun hb => ?_; try simp at hb) | intro (bk : Nat))
  refine HR.regionD [(0, true), (1, true), (2, true), (3, true), (4, false), (5, false), (6, true)] [0] I I hmix (by kernel_rfl) ?_
  repeat' (first | refine HD.ev I I I ?_ | refine HD.evc I I I (by first | omega | (simp; done) | (simp; omega)) ?_ | refine HD.L 0 I I I I I ?_ | refine HD.L 1 I I I I I ?_ | refine HD.L 2 I I I I I ?_ | refine HD.L 3 I I I I I ?_ | refine HD.build I I I ?_ | refine HD.field I I I ?_ | refine HD.skip I I I ?_ | refine HD.skipO I I I ?_ | (refine HD.one I ?_; first | refine HL.ev I I ?_ | refine HL.callB fn188 I I (fun w _ => r10succ_any _ w ⟨hs.1, hs.2.1⟩) ?_ | refine HL.callB fn189 I I (fun w _ => rceil_any _ _ w (by omega) (by omega)) ?_ | (refine HL.isLoad ?_; first | refine HL.L 0 I I I I ?_ | refine HL.L 1 I I I I ?_ | refine HL.L 2 I I I I ?_ | refine HL.L 3 I I I I ?_) | (refine HL.isStore ?_; first | refine HL.S 0 I I I I I ?_ | refine HL.S 1 I I I I I ?_ | refine HL.S 2 I I I I I ?_ | refine HL.S 3 I I I I I ?_) | (refine HL.alloc I I ?_; intro bk)) | refine HL.back [0] rfl rfl ?_ | refine HD.nil ?_)
  repeat' (first | refine zh ?_ | apply zb ?_ ?_ | exact zc | (refine zi fun hb => ?_; try simp at hb) | intro (bk : Nat))
  refine HR.ret Tryz.func135 I [_] (fun _ _ => ⟨I, trivial⟩) ?_
  exact fun w' hw => ⟨by rw [hc.1]; rfl, hw.belowB⟩
end Go.Proofs.YtgdgclmkpoaagaaGreat
namespace Go.Proofs.YtgdgclmkpoaagaaGreat
open Go.GX Go.RowKit
attribute [local irreducible] Calls Run RunL RunQ RunD HR HL HD blkC ownC Rd
open Nd
theorem lseen_rest {l : List Li} {n : Int} {ok : Bool} {k : Nat} (hr : ¬ (n < 0 ∨ n > 250)) (hf : ¬ (lat (lval l) n = none ∧ (lval l).length = 24)) (hk : k ≤ (lforget l n).length) (h1 : ∀ j a, j < k → (lforget l n)[j]? = some a → a.nd < n) (h2 : ∀ a, (lforget l n)[k]? = some a → n ≤ a.nd) :
  lseen l n ok = (lforget l n).take k ++ ⟨n, (2 * (latZ (lval l) n).bi + (if ok then 1 else 0)) % 65536, min ((latZ (lval l) n).ct + 1) 16⟩ :: (lforget l n).drop k := by
 have key := lseen_ref (l := l) (rest := lforget l n) (n := n) (ok := ok) (k := k) (x := (lat (lval l) n).getD ⟨n, 0, 0⟩) hr I I hf hk h1 h2
 rw [key]
 congr 2
 unfold lupd latZ
 cases hx : lat (lval l) n with
 | none => rfl
 | some x => rw [← (lat_mem hx).2]; rfl
theorem r10seen_any (l : List Li) (n : Int) (ok : Bool) (v : Value) (w : World) (hv : Sl w v (cellsOf liC l) l.length) (hl : l.length ≤ 1000) :
  Calls Tryz.prog 82 #[v, .int .i64 n, .bool ok] w fun e w' => ∃ v', e = .returned v' ∧ Sat (base w) [ownC v' 129 3 (lseen l n ok).length (cellsOf liC (lseen l n ok))] w' := by
 have hlen := lval_len l
 have hz : 0 ≤ (latZ (lval l) n).bi ∧ (latZ (lval l) n).bi < 65536 ∧ 0 ≤ (latZ (lval l) n).ct ∧ (latZ (lval l) n).ct ≤ 16 := by
  unfold latZ
  cases hf : lat (lval l) n with
  | none => simp
  | some x =>
   have hr := lrange_lt (lval_mem (lat_mem hf).1)
   exact ⟨hr.2.2.2.2.1, hr.2.2.2.2.2, hr.2.2.1, hr.2.2.2.1⟩
 refine calls_hr Tryz.func82 I (Nat.le_of_ble_eq_true I) ?_
 refine HR.sub (σ' := [(0, v), (1, .int .i64 n), (2, .bool ok)]) ⟨I, I, I, trivial⟩ ?_
 repeat' (first | refine zh ?_ | intro (bk : Nat))
 refine HL.callO fn157 I I (fun w hw => r10valid_any l v w ((Rd.arg hv).at hw) hl) ?_
 intro v1
 repeat' (first | refine zh ?_ | refine HL.callB fn158 I I (fun w hw => by have := r10at_any (lval l) n v1 w ((Rd.own 0 rfl).at hw) (by omega); rw [lval_val] at this; exact this) ?_ | intro (bk : Nat))
 obtain ⟨Z, hZ⟩ : ∃ Z, Z = latZ (lval l) n := ⟨_, rfl⟩
 rw [← hZ] at hz ⊢
 repeat' (first | refine zh ?_ | refine HL.lenR (Rd.own 1 I) I I I ?_ | apply zb ?_ ?_ | exact zc | (refine zi fun hb => ?_; try simp at hb) | intro (bk : Nat))
 refine HR.cond I (fun h => ?_) (fun h => ?_)
 ·have h : ((decide (n < 0) || decide (n > 250)) || (!(lat (lval l) n).isSome && decide (((lval l).length : Int) ≥ 24))) = true := h
  repeat' (first | refine zh ?_ | apply zb ?_ ?_ | exact zc | (refine zi fun hb => ?_; try simp at hb) | intro (bk : Nat))
  refine HR.ret Tryz.func82 I [_] (fun _ _ => ⟨I, trivial⟩) ?_
  refine fun w' hw => ⟨v1, rfl, ?_⟩
  have : lseen l n ok = lval l := by
   by_cases hr : n < 0 ∨ n > 250
   ·exact lseen_out hr
   ·have e : (decide (n < 0) || decide (n > 250)) = false := by simp; omega
    rw [e, Bool.false_or, Bool.and_eq_true, decide_eq_true_eq] at h
    exact lseen_full hr (by simpa using h.1) (by omega)
  rw [this]
  exact hw.pick [1] I I
 have h : ((decide (n < 0) || decide (n > 250)) || (!(lat (lval l) n).isSome && decide (((lval l).length : Int) ≥ 24))) = false := h
 rw [Bool.or_eq_false_iff] at h
 have hr : ¬ (n < 0 ∨ n > 250) := by have := h.1; simp only [Bool.or_eq_false_iff, decide_eq_false_iff_not] at this; omega
 have hfull : ¬ (lat (lval l) n = none ∧ (lval l).length = 24) := by
  rintro ⟨e1, e2⟩
  have := h.2
  rw [e1, e2] at this
  simp at this
 have hbit : 0 ≤ (if ok then (1 : Int) else 0) ∧ (if ok then (1 : Int) else 0) ≤ 1 := by cases ok <;> simp
 repeat' (first | refine zh ?_ | intro (bk : Nat))
 refine HR.join (ι := Unit) (fun _ => True) (fun _ => [(1, .int .i64 n), (7, v1), (8, .pointer (some ⟨bk, 0, none⟩)), (10, .int .i64 (if ok then 1 else 0))]) (fun _ => [blkC bk (liC Z) 129, ownC v1 129 3 (lval l).length (cellsOf liC (lval l))]) ?_ (fun hj2 => ?_)
 rotate_left
 ·refine HR.cond I (fun h3 => ?_) (fun h3 => ?_)
  ·subst h3
   refine HR.region ?_
   repeat' (first | refine zn ?_ | apply zb ?_ ?_ | exact zc | (refine zi fun hb => ?_; try simp at hb) | intro (bk : Nat))
   exact hj2 () _ _ trivial ⟨I, I, I, I, trivial⟩ Ent.refl
  ·subst h3
   refine HR.skip ?_
   exact hj2 () _ _ trivial ⟨I, I, I, I, trivial⟩ Ent.refl
 intro _ _
 obtain ⟨bit, hbe⟩ : ∃ bit, bit = (if ok then (1 : Int) else 0) := ⟨_, rfl⟩
 rw [← hbe] at hbit ⊢
 have key := fun k => lseen_rest (l := l) (n := n) (ok := ok) (k := k) hr hfull
 rw [← hbe, ← hZ] at key
 have hcb : 0 ≤ Z.ct + 1 ∧ Z.ct + 1 ≤ 17 := by omega
 repeat' (first | refine zh ?_ | intro (bk : Nat))
 refine HR.join (ι := Unit) (fun _ => True) (fun _ => [(1, .int .i64 n), (7, v1), (8, .pointer (some ⟨bk, 0, none⟩))]) (fun _ => [blkC bk (liC ⟨n, (2 * Z.bi + bit) % 65536, min (Z.ct + 1) 16⟩) 129, ownC v1 129 3 (lval l).length (cellsOf liC (lval l))]) ?_ (fun hj2 => ?_)
 rotate_left
 ·refine HR.cond I (fun h3 => ?_) (fun h3 => ?_)
  ·have h3 : Z.ct + 1 > 16 := of_decide_eq_true h3
   refine HR.region ?_
   repeat' (first | refine zn ?_ | apply zb ?_ ?_ | exact zc | (refine zi fun hb => ?_; try simp at hb) | intro (bk : Nat))
   exact hj2 () _ _ trivial ⟨I, I, I, trivial⟩ (by rw [show min (Z.ct + 1) 16 = 16 by omega]; exact Ent.refl)
  ·have h3 : ¬ Z.ct + 1 > 16 := of_decide_eq_false h3
   refine HR.skip ?_
   exact hj2 () _ _ trivial ⟨I, I, I, trivial⟩ (by rw [show min (Z.ct + 1) 16 = Z.ct + 1 by omega]; exact Ent.refl)
 intro _ _
 repeat' (first | refine zh ?_ | intro (bk : Nat))
 refine HL.callO fn85 I I (fun w hw => by have := r10forget_any (lval l) n v1 w ((Rd.own 1 rfl).at hw) (by omega); rw [show lforget (lval l) n = lforget l n by unfold lforget; rw [lval_val]] at this; exact this) ?_
 intro v2
 have hfl : (lforget l n).length ≤ 24 := Nat.le_trans (List.length_filter_le _ _) hlen
 obtain ⟨X, hX⟩ : ∃ X : Li, X = ⟨n, (2 * Z.bi + bit) % 65536, min (Z.ct + 1) 16⟩ := ⟨_, rfl⟩
 rw [← hX] at key ⊢
 obtain ⟨L, hL⟩ : ∃ L, L = lforget l n := ⟨_, rfl⟩
 rw [← hL] at key hfl ⊢
 repeat' (first | refine zh ?_ | intro (bk : Nat))
 refine HR.nilC 129 3 ?_
 refine HR.loop2 (α := Nat) (β := Value) (fun k o => k ≤ L.length ∧ ∀ j a, j < k → L[j]? = some a → a.nd < n) (fun k o => [(1, .int .i64 n), (8, .pointer (some ⟨bk, 0, none⟩)), (11, o), (12, v2), (13, .int .i64 (k : Int))]) (fun k o => [ownC o 129 3 (L.take k).length (cellsOf liC (L.take k)), ownC v2 129 3 L.length (cellsOf liC L), blkC bk (liC X) 129]) (fun k _ => L.length - k) 0 (.slice none 0 0) ⟨Nat.zero_le _, fun j a hj => by omega⟩ ⟨I, I, I, I, I, trivial⟩ (Ent.pick [0, 1, 2] I I) ?_
 rintro k o ⟨hk, hg⟩ ih
 have htl : (L.take k).length = k := by simp; omega
 repeat' (first | refine zh ?_ | refine HL.lenR (Rd.own 1 I) I I I ?_ | refine HL.idxR (Rd.own 1 I) elemLi k I I I I (by omega) ?_ | refine HL.fieldE (Rd.own 1 I) (by rw [cellsOf_len liC_len]; omega) I I I I I I ?_ | refine HL.loadI (Rd.own 1 I) I I I I (cells_get liC_len (getD_is (by omega) li0) (i := 0) I) ?_ | apply zb ?_ ?_ | exact zc | (refine zi fun hb => ?_; try simp at hb) | intro (bk : Nat))
 refine HR.cond I (fun h2 => ?_) (fun h2 => ?_)
 ·have h2 : (decide ((k : Int) < L.length) && decide ((L.getD k li0).nd < n)) = true := h2
  simp only [Bool.and_eq_true, decide_eq_true_eq] at h2
  have hlt : k < L.length := by omega
  have hx : L[k]? = some (L.getD k li0) := getD_is hlt li0
  repeat' (first | refine zh ?_ | refine HL.idxR (Rd.own 1 I) elemLi k I I I I hlt ?_ | refine HL.loadE (Rd.own 1 I) I I I I (by simp) I (cellsOf_get liC_len hx) ?_ | refine HL.bslice elemLi I I I I I (by decide) (by decide) ?_ | intro (bk : Nat))
  intro va
  repeat' (first | refine zh ?_ | refine HL.appR 1 I elemLi (Rd.own 0 I) I I I I (allOne_spec I) (by omega) (by omega) ?_ | intro (bk : Nat))
  intro o2
  repeat' (first | refine zh ?_ | intro (bk : Nat))
  refine ih (k + 1) o2 _ _ ⟨hlt, fun j a hj ha => ?_⟩ (by omega) ⟨I, I, I, I, I, trivial⟩ (Ent.trans (Ent.pick [1, 2, 3] I I) (Ent.own0 ?_ ?_))
  ·by_cases hjk : j = k
   ·subst hjk; rw [hx] at ha; cases ha; exact h2.2
   ·exact hg j a (by omega) ha
  ·rw [take_succ_get hx]; simp
  ·rw [take_succ_get hx, cellsOf_app]; rfl
 ·have h2 : (decide ((k : Int) < L.length) && decide ((L.getD k li0).nd < n)) = false := h2
  have hs := key k hk hg fun a ha => by
   have hlt := (List.getElem?_eq_some_iff.1 ha).1
   rw [getD_is hlt li0] at ha
   cases ha
   rw [decide_eq_true (show (k : Int) < L.length by omega), Bool.true_and, decide_eq_false_iff_not] at h2
   omega
  repeat' (first | refine zh ?_ | refine HL.bslice elemLi I I I I I (by decide) (by decide) ?_ | intro (bk : Nat))
  intro va
  repeat' (first | refine zh ?_ | refine HL.appR 1 I elemLi (Rd.own 0 I) I I I I (allOne_spec I) (by omega) (by omega) ?_ | intro (bk : Nat))
  intro o2
  rw [htl]
  repeat' (first | refine zh ?_ | refine HL.lenR (Rd.own 1 I) I I I ?_ | refine HL.subI (sz := 3) k L.length (Rd.own 2 I) I I I I (.inr ⟨_, _, _, rfl, rfl, by omega⟩) (.inl ⟨rfl, rfl⟩) hk (Nat.le_refl _) ?_ | refine HL.appR 1 I elemLi (Rd.sub (sz := 3) (Rd.own 2 I) (cellsOf_len liC_len _) hk (Nat.le_refl _)) I I I (by rw [List.length_take, List.length_drop, cellsOf_len liC_len]; omega) (fun u hu => one_allcells liC_one _ u (List.mem_of_mem_drop (List.mem_of_mem_take hu))) (by omega) (by omega) ?_ | intro (bk : Nat))
  intro o3
  repeat' (first | refine zh ?_ | intro (bk : Nat))
  refine HR.ret Tryz.func82 I [_] (fun _ _ => ⟨I, trivial⟩) ?_
  refine fun w' hw => ⟨o3, rfl, Ent.own0 ?_ ?_ w' (hw.pick [1] I rfl)⟩
  ·rw [hs]; simp; omega
  ·have e9 : ((cellsOf liC L).drop (k * 3)).take ((L.length - k) * 3) = cellsOf liC (L.drop k) := by
    rw [cellsOf_drop liC_len]
    exact List.take_of_length_le (by rw [cellsOf_len liC_len, List.length_drop]; exact Nat.le_refl _)
   rw [hs, e9, cellsOf_app, List.append_assoc]
   congr 1
end Go.Proofs.YtgdgclmkpoaagaaGreat
namespace Go.Proofs.YtgdgclmkpoaagaaGreat
open Go.GX Go.RowKit
attribute [local irreducible] Calls Run RunL RunQ RunD HR HL HD blkC ownC Rd
open Nd
theorem frange_split (f : Fr) : frange f = ((((!Tp.okN f.fr || !Tp.okN f.so) || !okT f.dst) || !okT f.ta) || (((decide (f.sq < 0) || decide (f.sq > 65535)) || decide (f.hp < 0)) || decide (f.hp > 15))) := by
 unfold frange; simp only [Bool.or_assoc]
theorem r09check_any (f : Fr) (w : World) (hd : f.da.length ≤ 9223372036854775807) : Calls Tryz.prog 59 #[.agg ⟨frC f⟩] w fun e w' => e = .returned (.int .i64 (fchk f)) ∧ Below w.heap.size w w' := by
 refine calls_hr Tryz.func59 I (Nat.le_of_ble_eq_true I) ?_
 refine HR.sub (σ' := [(0, .agg ⟨frC f⟩)]) ⟨I, trivial⟩ ?_
 repeat' (first | refine zh ?_ | apply zb ?_ ?_ | exact zc | (refine zi fun hb => ?_; try simp at hb) | intro (bk : Nat))
 refine HR.cond I (fun h => ?_) (fun h => ?_)
 ·have h : (decide (f.kd < 1) || decide (f.kd > 4)) = true := h
  simp only [Bool.or_eq_true, decide_eq_true_eq] at h
  repeat' (first | refine zh ?_ | apply zb ?_ ?_ | exact zc | (refine zi fun hb => ?_; try simp at hb) | intro (bk : Nat))
  refine HR.ret Tryz.func59 I [_] (fun _ _ => ⟨I, trivial⟩) ?_
  exact fun w' hw => ⟨by rw [fchk, if_pos h]; rfl, hw.belowB⟩
 have h : (decide (f.kd < 1) || decide (f.kd > 4)) = false := h
 have hk : ¬ (f.kd < 1 ∨ f.kd > 4) := by simp only [Bool.or_eq_false_iff, decide_eq_false_iff_not] at h; omega
 repeat' (first | refine zh ?_ | refine HL.callB fn131 I I (fun w _ => single_any _ w) ?_ | refine HL.callB fn132 I I (fun w _ => either_any _ w) ?_ | apply zb ?_ ?_ | exact zc | (refine zi fun hb => ?_; try simp at hb) | intro (bk : Nat))
 refine HR.cond I (fun h2 => ?_) (fun h2 => ?_)
 ·have h2 : (((!Tp.okN f.fr || !Tp.okN f.so) || !okT f.dst) || !okT f.ta) = true := h2
  repeat' (first | refine zh ?_ | apply zb ?_ ?_ | exact zc | (refine zi fun hb => ?_; try simp at hb) | intro (bk : Nat))
  refine HR.ret Tryz.func59 I [_] (fun _ _ => ⟨I, trivial⟩) ?_
  exact fun w' hw => ⟨by rw [fchk, if_neg hk, if_pos (by rw [frange_split, h2]; rfl)]; rfl, hw.belowB⟩
 have h2 : (((!Tp.okN f.fr || !Tp.okN f.so) || !okT f.dst) || !okT f.ta) = false := h2
 repeat' (first | refine zh ?_ | apply zb ?_ ?_ | exact zc | (refine zi fun hb => ?_; try simp at hb) | intro (bk : Nat))
 refine HR.cond I (fun h2' => ?_) (fun h2' => ?_)
 ·have h2' : (((decide (f.sq < 0) || decide (f.sq > 65535)) || decide (f.hp < 0)) || decide (f.hp > 15)) = true := h2'
  repeat' (first | refine zh ?_ | apply zb ?_ ?_ | exact zc | (refine zi fun hb => ?_; try simp at hb) | intro (bk : Nat))
  refine HR.ret Tryz.func59 I [_] (fun _ _ => ⟨I, trivial⟩) ?_
  exact fun w' hw => ⟨by rw [fchk, if_neg hk, if_pos (by rw [frange_split, h2, h2']; rfl)]; rfl, hw.belowB⟩
 have h2' : (((decide (f.sq < 0) || decide (f.sq > 65535)) || decide (f.hp < 0)) || decide (f.hp > 15)) = false := h2'
 have h2 : frange f = false := by rw [frange_split, h2, h2']; rfl
 repeat' (first | refine zh ?_ | apply zb ?_ ?_ | exact zc | (refine zi fun hb => ?_; try simp at hb) | intro (bk : Nat))
 refine HR.cond I (fun h3 => ?_) (fun h3 => ?_)
 ·have h3 : f.da.length > 109 := by have := of_decide_eq_true h3; omega
  repeat' (first | refine zh ?_ | apply zb ?_ ?_ | exact zc | (refine zi fun hb => ?_; try simp at hb) | intro (bk : Nat))
  refine HR.ret Tryz.func59 I [_] (fun _ _ => ⟨I, trivial⟩) ?_
  exact fun w' hw => ⟨by rw [fchk, if_neg hk, if_neg (by rw [h2]; decide), if_pos h3]; rfl, hw.belowB⟩
 have h3 : ¬ f.da.length > 109 := by have := of_decide_eq_false h3; omega
 repeat' (first | refine zh ?_ | apply zb ?_ ?_ | exact zc | (refine zi fun hb => ?_; try simp at hb) | intro (bk : Nat))
 refine HR.cond I (fun h4 => ?_) (fun h4 => ?_)
 ·have h4 : (((f.kd == 1) || (f.kd == 4)) && ((f.dst != 255) || (f.ta != 255))) = true := h4
  repeat' (first | refine zh ?_ | apply zb ?_ ?_ | exact zc | (refine zi fun hb => ?_; try simp at hb) | intro (bk : Nat))
  refine HR.ret Tryz.func59 I [_] (fun _ _ => ⟨I, trivial⟩) ?_
  have hq : fform f = false := by
   simp only [Bool.and_eq_true] at h4
   unfold fform
   rw [h4.1]
   have := h4.2
   revert this
   simp only [bne]
   cases (f.dst == 255) <;> cases (f.ta == 255) <;> simp
  exact fun w' hw => ⟨by rw [fchk_4 hk h2 h3 hq]; rfl, hw.belowB⟩
 have h4 : (((f.kd == 1) || (f.kd == 4)) && ((f.dst != 255) || (f.ta != 255))) = false := h4
 repeat' (first | refine zh ?_ | apply zb ?_ ?_ | exact zc | (refine zi fun hb => ?_; try simp at hb) | intro (bk : Nat))
 refine HR.cond I (fun h5 => ?_) (fun h5 => ?_)
 ·have h5 : ((f.kd == 3) && ((f.da != []) || (f.dst == 255))) = true := h5
  repeat' (first | refine zh ?_ | apply zb ?_ ?_ | exact zc | (refine zi fun hb => ?_; try simp at hb) | intro (bk : Nat))
  refine HR.ret Tryz.func59 I [_] (fun _ _ => ⟨I, trivial⟩) ?_
  have hq : fform f = false := by
   simp only [Bool.and_eq_true] at h5
   unfold fform
   rw [h5.1]
   have := h5.2
   revert this
   cases (f.dst == 255) <;> cases hd : f.da <;> simp
  exact fun w' hw => ⟨by rw [fchk_4 hk h2 h3 hq]; rfl, hw.belowB⟩
 have h5 : ((f.kd == 3) && ((f.da != []) || (f.dst == 255))) = false := h5
 have hff : fform f = !(f.fr == f.dst) := by
  unfold fform
  have e1 : (!((f.kd == 1) || (f.kd == 4)) || ((f.dst == 255) && (f.ta == 255))) = true := by
   revert h4
   cases ((f.kd == 1) || (f.kd == 4)) <;> cases hq1 : (f.dst == 255) <;> cases hq2 : (f.ta == 255) <;> simp_all
  have e2 : (!(f.kd == 3) || (decide (f.da = []) && !(f.dst == 255))) = true := by
   revert h5
   cases (f.kd == 3) <;> cases (f.dst == 255) <;> cases hd : f.da <;> simp_all
  rw [e1, e2]; simp
 repeat' (first | refine zh ?_ | apply zb ?_ ?_ | exact zc | (refine zi fun hb => ?_; try simp at hb) | intro (bk : Nat))
 refine HR.cond I (fun h6 => ?_) (fun h6 => ?_)
 ·have h6 : (f.fr == f.dst) = true := h6
  repeat' (first | refine zh ?_ | apply zb ?_ ?_ | exact zc | (refine zi fun hb => ?_; try simp at hb) | intro (bk : Nat))
  refine HR.ret Tryz.func59 I [_] (fun _ _ => ⟨I, trivial⟩) ?_
  exact fun w' hw => ⟨by rw [fchk_4 hk h2 h3 (by rw [hff, h6]; rfl)]; rfl, hw.belowB⟩
 ·have h6 : (f.fr == f.dst) = false := h6
  repeat' (first | refine zh ?_ | apply zb ?_ ?_ | exact zc | (refine zi fun hb => ?_; try simp at hb) | intro (bk : Nat))
  refine HR.ret Tryz.func59 I [_] (fun _ _ => ⟨I, trivial⟩) ?_
  exact fun w' hw => ⟨by rw [fchk_0 hk h2 h3 (by rw [hff, h6]; rfl)]; rfl, hw.belowB⟩
end Go.Proofs.YtgdgclmkpoaagaaGreat
namespace Go.Proofs.YtgdgclmkpoaagaaGreat
open Go.GX Go.RowKit
attribute [local irreducible] Calls Run RunL RunQ RunD HR HL HD blkC ownC Rd
open Nd
theorem fn83 : IsFn Tryz.prog 83 := ⟨⟨_, _, Tryz.func83, rfl, by decide⟩⟩
theorem fn47 : IsFn Tryz.prog 47 := ⟨⟨_, _, Tryz.func47, rfl, by decide⟩⟩
theorem fn46 : IsFn Tryz.prog 46 := ⟨⟨_, _, Tryz.func46, rfl, by decide⟩⟩
theorem rlose_any (V : NV) (n : Nd) (w : World) (hl : 0 ≤ n.lost ∧ n.lost ≤ maxTick) :
  Calls Tryz.prog 83 #[.agg ⟨ndC V n⟩] w fun e w' => e = .returned (.agg ⟨ndC V (lose n)⟩) ∧ Below w.heap.size w w' := by
 obtain ⟨h0, h1⟩ := hl
 have h1 : n.lost ≤ 1099511627776 := h1
 refine calls_hr Tryz.func83 I (Nat.le_of_ble_eq_true I) ?_
 refine HR.sub (σ' := [(0, .agg ⟨ndC V n⟩)]) ⟨I, trivial⟩ ?_
 repeat' (first | refine zh ?_ | intro (bk : Nat))
 refine HR.ret Tryz.func83 I [_] (fun w hw => ⟨⟨_, rfl, loadVarR hw 0 I I I I rfl⟩, trivial⟩) ?_
 have e : (if 1099511627776 < n.lost + 1 then (1099511627776 : Int) else n.lost + 1) = min (n.lost + 1) maxTick := by
  show _ = min (n.lost + 1) 1099511627776
  split <;> omega
 refine fun w' hw => ⟨?_, hw.belowB⟩
 show Ending.returned (.agg ⟨ndC V { n with lost := if 1099511627776 < n.lost + 1 then (1099511627776 : Int) else n.lost + 1 }⟩) = _
 rw [e]; rfl
theorem rput_any (V : NV) (n : Nd) (f : Fr) (w : World) (hv : Sl w (sv V.ou n.out.length) (cellsOf snC n.out) n.out.length) (hl : n.out.length ≤ 1000) (hlo : 0 ≤ n.lost ∧ n.lost ≤ maxTick) :
  Calls Tryz.prog 47 #[.agg ⟨ndC V n⟩, .agg ⟨frC f⟩] w fun e w' => ∃ x : SV, e = .returned (.tuple ⟨[.agg ⟨ndC { V with ou := x } (queue n f).1⟩, .bool (queue n f).2]⟩) ∧ True ∧ Sat (base w) [cSn (sv x (queue n f).1.out.length) (queue n f).1.out] w' := by
 obtain ⟨q, hq⟩ : ∃ q, q = mput n.out f := ⟨_, rfl⟩
 have hsp : queue n f = (if q.2 = false ∨ q.1.length = n.out.length then lose { n with out := q.1 } else { n with out := q.1 }, q.2) := by rw [hq]; rfl
 obtain ⟨m, hm⟩ : ∃ m : Nd, m = (if q.2 = false ∨ q.1.length = n.out.length then lose n else n) := ⟨_, rfl⟩
 have hmo : (if q.2 = false ∨ q.1.length = n.out.length then lose { n with out := q.1 } else { n with out := q.1 }) = { m with out := q.1 } := by
  rw [hm]; split <;> rfl
 rw [hmo] at hsp
 rw [hsp]
 refine calls_hr Tryz.func47 I (Nat.le_of_ble_eq_true I) ?_
 refine HR.sub (σ' := [(0, .agg ⟨ndC V n⟩), (1, .agg ⟨frC f⟩)]) ⟨I, I, trivial⟩ ?_
 refine HR.ctl I ?_
 refine HR.region ?_
 refine HL.box I I ?_
 intro b2
 refine HL.box I I ?_
 intro b3
 refine HL.alloc I I ?_
 intro b4
 repeat' (first | refine zh ?_ | intro (bk : Nat))
 refine HL.callX (r := fun v' : Value => .tuple ⟨[v', .bool q.2]⟩) (Q := fun _ => True) (G := fun v' => [cSn v' q.1]) fn118 I I (fun w1 hw1 => by rw [hq]; exact r16put_any n.out f _ w1 ((Rd.arg hv).at hw1) (by omega)) ?_
 intro v1 _
 refine HL.shape 0 I fun a c hv => ?_
 subst hv
 repeat' (first | refine zh ?_ | apply zb ?_ ?_ | exact zc | (refine zi fun hb => ?_; try simp at hb) | intro (bk : Nat))
 refine HR.join (ι := Unit) (fun _ => True) (fun _ => [(2, ptr b2), (4, ptr b4), (8, .bool q.2)]) (fun _ => [rsC b4, blkC b2 (ndC { V with ou := (a, c) } { m with out := q.1 }) 31, cSn (.slice a q.1.length c) q.1]) (fun _ _ => ?_) (fun hj => ?_)
 rotate_left
 ·refine HR.cond I (fun h => ?_) (fun h => ?_)
  ·have h : (!q.2 || ((q.1.length : Int) == (n.out.length : Int))) = true := h
   have h2 : q.2 = false ∨ (q.1.length : Int) = (n.out.length : Int) := by simpa using h
   have h : q.2 = false ∨ q.1.length = n.out.length := h2.imp id (fun e => by omega)
   rw [if_pos h] at hm
   refine HR.region ?_
   repeat' (first | refine zn ?_ | refine HL.callB fn83 I I (fun w1 _ => rlose_any { V with ou := (a, c) } { n with out := q.1 } w1 hlo) ?_ | apply zb ?_ ?_ | exact zc | (refine zi fun hb => ?_; try simp at hb) | intro (bk : Nat))
   refine hj () _ _ trivial ⟨I, I, I, trivial⟩ ?_
   rw [hm]
   exact Ent.pick [1, 3, 0] I I
  ·have h : (!q.2 || ((q.1.length : Int) == (n.out.length : Int))) = false := h
   have h2 : ¬ (q.2 = false ∨ (q.1.length : Int) = (n.out.length : Int)) := by simpa using h
   have h : ¬ (q.2 = false ∨ q.1.length = n.out.length) := fun e => h2 (e.imp id (fun e => by omega))
   rw [if_neg h] at hm
   refine HR.skip ?_
   refine hj () _ _ trivial ⟨I, I, I, trivial⟩ ?_
   rw [hm]
   exact Ent.pick [1, 3, 0] I I
 repeat' (first | refine zh ?_ | intro (bk : Nat))
 refine HR.ret Tryz.func47 I [_, _] (fun w hw => ⟨⟨_, rfl, loadVarR hw 0 I I I I rfl⟩, rfl, trivial⟩) ?_
 exact fun w' hw => ⟨(a, c), rfl, trivial, hw.pick [2] I rfl⟩
theorem rdeliver_any (V : NV) (n : Nd) (s : Int) (t : By) (B0 : Base) (w : World) (hw0 : Sat B0 [cDe (sv V.ib n.inbox.length) n.inbox] w) (hl : n.inbox.length ≤ 1000) (hlo : 0 ≤ n.lost ∧ n.lost ≤ maxTick) :
  Calls Tryz.prog 46 #[.agg ⟨ndC V n⟩, .int .i64 s, str t] w fun e w' => ∃ x : SV, e = .returned (.agg ⟨ndC { V with ib := x } (deliver n ⟨s, t⟩)⟩) ∧ True ∧ Sat ⟨w, feet [cDe (sv V.ib n.inbox.length) n.inbox]⟩ [cDe (sv x (deliver n ⟨s, t⟩).inbox.length) (deliver n ⟨s, t⟩).inbox] w' := by
 refine calls_hrW [cDe (sv V.ib n.inbox.length) n.inbox] (hw0) Tryz.func46 I (Nat.le_of_ble_eq_true I) ?_
 refine HR.sub (σ' := [(0, .agg ⟨ndC V n⟩), (1, .int .i64 s), (2, str t)]) ⟨I, I, I, trivial⟩ ?_
 repeat' (first | refine zh ?_ | intro (bk : Nat))
 refine HR.cond I (fun h => ?_) (fun h => ?_)
 ·have h : n.inbox.length ≥ 256 := by have := of_decide_eq_true h; omega
  have e : deliver n ⟨s, t⟩ = lose n := by unfold deliver; rw [if_pos h]
  rw [e]
  repeat' (first | refine zh ?_ | refine HL.callB fn83 I I (fun w1 _ => rlose_any V n w1 hlo) ?_ | intro (bk : Nat))
  refine HR.ret Tryz.func46 I [_] (fun w hw => ⟨⟨_, rfl, loadVarR hw 0 I I I I rfl⟩, trivial⟩) ?_
  exact fun w' hw => ⟨V.ib, rfl, trivial, hw.pick [2] I rfl⟩
 ·have h : ¬ n.inbox.length ≥ 256 := by have := of_decide_eq_false h; omega
  have e : deliver n ⟨s, t⟩ = { n with inbox := n.inbox ++ [⟨s, t⟩] } := by unfold deliver; rw [if_neg h]
  rw [e]
  repeat' (first | refine zh ?_ | intro (bk : Nat))
  refine HL.bslice elemDe I I I I I (by decide) (by decide) ?_
  intro va
  refine HL.appR 3 I elemDe (Rd.own 0 I) I I I I (allOne_spec I) (by omega) (by omega) ?_
  intro v2
  refine HL.shape 3 I fun a c hv => ?_
  subst hv
  repeat' (first | refine zh ?_ | intro (bk : Nat))
  have hl2 : n.inbox.length + 1 = (n.inbox ++ [(⟨s, t⟩ : De)]).length := by simp
  have hc : cellsOf deC n.inbox ++ deC ⟨s, t⟩ = cellsOf deC (n.inbox ++ [⟨s, t⟩]) := by rw [cellsOf_app]; rfl
  refine HR.ret Tryz.func46 I [_] (fun w hw => ⟨⟨_, rfl, loadVarR hw 1 I I I I rfl⟩, trivial⟩) ?_
  refine fun w' hw => ⟨(a, c), ?_, trivial, ?_⟩
  ·show _ = Ending.returned (.agg ⟨ndC { V with ib := (a, c) } { n with inbox := n.inbox ++ [⟨s, t⟩] }⟩)
   show Ending.returned (.agg ⟨[_, _, _, _, _, _, _, _, _, _, .slice a (n.inbox.length + 1) c, _, _]⟩) = Ending.returned (.agg ⟨[_, _, _, _, _, _, _, _, _, _, .slice a (n.inbox ++ [(⟨s, t⟩ : De)]).length c, _, _]⟩)
   rw [← hl2]
  ·have w1 : Sat _ [ownC (.slice a (n.inbox.length + 1) c) 70 2 (n.inbox.length + 1) (cellsOf deC n.inbox ++ deC ⟨s, t⟩)] w' := hw.pick [3] I I
   rw [hl2, hc] at w1
   exact w1
end Go.Proofs.YtgdgclmkpoaagaaGreat
namespace Go.Proofs.YtgdgclmkpoaagaaGreat
open Go.GX Go.RowKit
attribute [local irreducible] Calls Run RunL RunQ RunD HR HL HD blkC ownC Rd
open Nd
theorem fn67 : IsFn Tryz.prog 67 := ⟨⟨_, _, Tryz.func67, rfl, by decide⟩⟩
end Go.Proofs.YtgdgclmkpoaagaaGreat
namespace Go.Proofs.YtgdgclmkpoaagaaGreat
open Go.GX Go.RowKit
attribute [local irreducible] Calls Run RunL RunQ RunD HR HL HD blkC ownC Rd
open Nd
theorem tw_at {p : Int → Bool} : ∀ {l : List Int} {k : Nat}, k ≤ l.length → (∀ j a, j < k → l[j]? = some a → p a = true) → (∀ a, l[k]? = some a → p a = false) → l.takeWhile p = l.take k ∧ l.dropWhile p = l.drop k
 | [], k, hk, _, _ => by
  have : k = 0 := by simpa using hk
  subst this; exact ⟨rfl, rfl⟩
 | x :: l, 0, _, _, h2 => by
  have hx := h2 x I
  rw [List.takeWhile_cons_of_neg (by rw [hx]; decide), List.dropWhile_cons_of_neg (by rw [hx]; decide)]
  exact ⟨rfl, rfl⟩
 | x :: l, k + 1, hk, h1, h2 => by
  have hx := h1 0 x (Nat.succ_pos _) I
  obtain ⟨e1, e2⟩ := tw_at (l := l) (k := k) (by simpa using hk) (fun j a hj ha => h1 (j + 1) a (by omega) ha) (fun a ha => h2 a ha)
  rw [List.takeWhile_cons_of_pos hx, List.dropWhile_cons_of_pos hx, e1, e2]
  exact ⟨rfl, rfl⟩
theorem child_at {l : List Int} {c : Int} {k : Nat} (ha : Asc id l) (hk : k ≤ l.length) (h1 : ∀ j a, j < k → l[j]? = some a → a < c) (h2 : ∀ a, l[k]? = some a → ¬ a < c) : child l c = if l[k]? = some c then l else l.take k ++ c :: l.drop k := by
 obtain ⟨e1, e2⟩ := tw_at (p := fun x => decide (x < c)) hk (fun j a hj hja => decide_eq_true (h1 j a hj hja)) (fun a hka => decide_eq_false (h2 a hka))
 unfold child
 rw [e1, e2]
 have hmem : c ∈ l ↔ l[k]? = some c := by
  constructor
  ·intro h
   obtain ⟨j, hj⟩ := List.getElem?_of_mem h
   rcases Nat.lt_trichotomy j k with h3 | h3 | h3
   ·exact absurd (h1 j c h3 hj) (Int.lt_irrefl c)
   ·rw [← h3]; exact hj
   ·obtain ⟨x, hx⟩ := getSome (show k < l.length by have := (List.getElem?_eq_some_iff.1 hj).1; omega)
    have h4 : x < c := ha.lt h3 hx hj
    exact absurd h4 (h2 x hx)
  ·exact fun h => List.mem_of_getElem? h
 by_cases h : c ∈ l
 ·rw [if_pos h, if_pos (hmem.1 h)]
 ·rw [if_neg h, if_neg fun e => h (hmem.2 e)]
theorem iC_one (a : Int) : allOne (iC a) = true := rfl
theorem rchild_any (l : List Int) (c : Int) (v : Value) (B0 : Base) (w : World) (hw0 : Sat B0 [cI v l] w) (hl : l.length ≤ 1000) (ha : Asc id l) :
  Calls Tryz.prog 67 #[v, .int .i64 c] w fun e w' => ∃ r : Value, e = .returned r ∧ True ∧ Sat ⟨w, feet [cI v l]⟩ [cI r (child l c)] w' := by
 refine calls_hrW [cI v l] (hw0) Tryz.func67 I (Nat.le_of_ble_eq_true I) ?_
 refine HR.sub (σ' := [(0, v), (1, .int .i64 c)]) ⟨I, I, trivial⟩ ?_
 repeat' (first | refine zh ?_ | intro (bk : Nat))
 refine HR.nilC 3 1 ?_
 refine HR.joinI (ι := Nat × Value) (fun x => x.1 ≤ l.length ∧ (∀ j a, j < x.1 → l[j]? = some a → a < c) ∧ ∀ a, l[x.1]? = some a → ¬ a < c) (fun x => [(0, v), (1, .int .i64 c), (5, x.2), (6, .int .i64 (x.1 : Int))]) (fun x => [cI x.2 (l.take x.1), cI v l]) (fun x hx => ?_) (fun hj => ?_)
 rotate_left
 ·refine HR.loop (ι := Nat × Value) (fun x => x.1 ≤ l.length ∧ ∀ j a, j < x.1 → l[j]? = some a → a < c) (fun x => [(0, v), (1, .int .i64 c), (5, x.2), (6, .int .i64 (x.1 : Int))]) (fun x => [cI x.2 (l.take x.1), cI v l]) (fun x => l.length - x.1) (0, .slice none 0 0) ⟨Nat.zero_le _, fun j a hj => absurd hj (Nat.not_lt_zero _)⟩ ⟨I, I, I, I, trivial⟩ Ent.refl ?_
  rintro ⟨k, o⟩ ⟨hk, hg⟩ ih
  have hk : k ≤ l.length := hk
  have hg : ∀ j a, j < k → l[j]? = some a → a < c := hg
  refine HR.ctl I ?_
  refine HR.region ?_
  repeat' (first | refine zn ?_ | refine HL.lenR (Rd.own 1 I) I I I ?_ | intro (bk : Nat))
  refine HL.split 11 I (fun hb => ?_) (fun hb => ?_)
  ·have hlt : k < l.length := by have h1 : (k : Int) < (l.length : Int) := of_decide_eq_true hb; omega
   obtain ⟨x, hx⟩ := getSome hlt
   repeat' (first | refine zn ?_ | refine HL.idxR (Rd.own 1 I) elemI k I I I I hlt ?_ | refine HL.loadI (Rd.own 1 I) I I I I (cellsOf_get1 hx) ?_ | intro (bk : Nat))
   refine HR.cond I (fun h2 => ?_) (fun h2 => ?_)
   ·have h2 : x < c := of_decide_eq_true h2
    repeat' (first | refine zh ?_ | refine HL.idxR (Rd.own 1 I) elemI k I I I I hlt ?_ | refine HL.loadI (Rd.own 1 I) I I I I (cellsOf_get1 hx) ?_ | intro (bk : Nat))
    refine HL.bslice elemI I I I I I (by decide) (by decide) ?_
    intro va
    refine HL.appR 1 I elemI (Rd.own 0 I) I I I I (allOne_spec I) (by show ((l.take k).length + 1) * 8 ≤ _; rw [List.length_take]; omega) (by show (l.take k).length + 1 ≤ _; rw [List.length_take]; omega) ?_
    intro v2
    repeat' (first | refine zh ?_ | intro (bk : Nat))
    refine ih (k + 1, v2) _ _ ⟨hlt, fun j a hj hja => ?_⟩ (by show l.length - (k + 1) < l.length - k; omega) ⟨I, I, I, I, trivial⟩ ?_
    ·by_cases hjk : j = k
     ·subst hjk; rw [hx] at hja; cases hja; exact h2
     ·have hj : j < k + 1 := hj
      exact hg j a (by omega) hja
    ·show Ent _ _ [ownC v2 3 1 (l.take (k + 1)).length (cellsOf iC (l.take (k + 1))), cI v l]
     rw [take_succ_get hx, List.length_append, cellsOf_app]
     exact Ent.pick [1, 2] I I
   ·have h2 : ¬ x < c := of_decide_eq_false h2
    refine HR.exit I ?_
    exact hj (k, o) _ _ ⟨hk, hg, fun a hka => by have hka : l[k]? = some a := hka; rw [hx] at hka; cases hka; exact h2⟩ ⟨I, I, I, I, trivial⟩ Ent.refl
  ·have hlt : ¬ k < l.length := by have h1 : ¬ (k : Int) < (l.length : Int) := of_decide_eq_false hb; omega
   repeat' (first | refine zn ?_ | intro (bk : Nat))
   refine HR.condF I ?_
   refine HR.exit I ?_
   exact hj (k, o) _ _ ⟨hk, hg, fun a hka => absurd (List.getElem?_eq_some_iff.1 hka).1 hlt⟩ ⟨I, I, I, I, trivial⟩ Ent.refl
 obtain ⟨k, o⟩ := x
 obtain ⟨hk, h1, h2⟩ := hx
 have hk : k ≤ l.length := hk
 have hsp := child_at ha hk h1 h2
 rw [hsp]
 have htk : (l.take k).length = k := by rw [List.length_take]; omega
 refine HR.ctl I ?_
 refine HR.join (ι := Unit) (fun _ => True) (fun _ => [(0, v), (1, .int .i64 c), (5, o), (6, .int .i64 (k : Int)), (39, .bool (decide (l[k]? = some c)))]) (fun _ => [cI o (l.take k), cI v l]) (fun _ _ => ?_) (fun hj => ?_)
 rotate_left
 ·refine HR.region ?_
  repeat' (first | refine zn ?_ | refine HL.lenR (Rd.own 1 I) I I I ?_ | intro (bk : Nat))
  refine HL.split 32 I (fun hb => ?_) (fun hb => ?_)
  ·have hlt : k < l.length := by have h1 : (k : Int) < (l.length : Int) := of_decide_eq_true hb; omega
   obtain ⟨x, hx⟩ := getSome hlt
   repeat' (first | refine zn ?_ | refine HL.idxR (Rd.own 1 I) elemI k I I I I hlt ?_ | refine HL.loadI (Rd.own 1 I) I I I I (cellsOf_get1 hx) ?_ | intro (bk : Nat))
   refine hj () _ _ trivial ⟨rfl, rfl, rfl, rfl, ?_, trivial⟩ Ent.refl
   show some (Value.bool (x == c)) = some (Value.bool (decide (l[k]? = some c)))
   rw [hx]
   by_cases e : x = c
   ·subst e; simp
   ·simp [e]
  ·have hlt : ¬ k < l.length := by have h1 : ¬ (k : Int) < (l.length : Int) := of_decide_eq_false hb; omega
   repeat' (first | refine zn ?_ | intro (bk : Nat))
   refine hj () _ _ trivial ⟨rfl, rfl, rfl, rfl, ?_, trivial⟩ Ent.refl
   show some (Value.bool false) = some (Value.bool (decide (l[k]? = some c)))
   rw [List.getElem?_eq_none (by omega)]; rfl
 refine HR.cond I (fun h3 => ?_) (fun h3 => ?_)
 ·have h3 : l[k]? = some c := of_decide_eq_true h3
  rw [if_pos h3]
  repeat' (first | refine zh ?_ | intro (bk : Nat))
  refine HR.ret Tryz.func67 I [_] (fun _ _ => ⟨I, trivial⟩) ?_
  exact fun w' hw => ⟨v, rfl, trivial, hw.pick [1] I rfl⟩
 have h3 : ¬ l[k]? = some c := of_decide_eq_false h3
 rw [if_neg h3]
 repeat' (first | refine zh ?_ | intro (bk : Nat))
 refine HL.bslice elemI I I I I I (by decide) (by decide) ?_
 intro va
 refine HL.appR 1 I elemI (Rd.own 0 I) I I I I (allOne_spec I) (by omega) (by omega) ?_
 intro v2
 have hcl : (cellsOf iC l).length = l.length * 1 := cellsOf_len iC_len _
 repeat' (first | refine zh ?_ | refine HL.lenR (Rd.own 2 I) I I I ?_ | intro (bk : Nat))
 refine HL.subI (sz := 1) k l.length (Rd.own 2 I) I I I I (.inr ⟨_, _, _, rfl, rfl, rfl⟩) (.inl ⟨rfl, rfl⟩) hk (Nat.le_refl _) ?_
 refine HL.appR 1 I elemI (Rd.sub (sz := 1) (Rd.own 2 I) hcl hk (Nat.le_refl _)) I I I (by rw [List.length_take, List.length_drop, hcl]; omega) (fun u hu => one_allcells iC_one _ u (List.mem_of_mem_drop (List.mem_of_mem_take hu))) (by omega) (by omega) ?_
 intro v3
 repeat' (first | refine zh ?_ | intro (bk : Nat))
 refine HR.ret Tryz.func67 I [_] (fun _ _ => ⟨I, trivial⟩) ?_
 refine fun w' hw => ⟨v3, rfl, trivial, ?_⟩
 refine Ent.own0 ?_ ?_ w' (hw.pick [1] I I)
 ·rw [List.length_append, List.length_cons, List.length_drop, htk]; omega
 ·rw [cellsOf_app, cellsOf_drop iC_len, List.take_of_length_le (l := cellsOf iC (l.drop k)) (by rw [cellsOf_len iC_len, List.length_drop]; omega), List.append_assoc]; rfl
end Go.Proofs.YtgdgclmkpoaagaaGreat
