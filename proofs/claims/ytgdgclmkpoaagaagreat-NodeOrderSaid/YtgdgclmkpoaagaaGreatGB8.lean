/- A part of the proof: contracts of the program's functions. Conditions: none. -/
import Derived.Carry
import Derived.Deep.MidRow
import Derived.Deep.Quiet
import Derived.Laws.IdiomRangeMap
import Derived.Laws.MakeOwn
import Derived.Laws.StructEq
import Derived.Laws.Tables
import Derived.Lib.AppendStr
import Derived.Lib.AppendZerosOnto
import Derived.Lib.OthersKept
import Derived.Lib.Overlaps
import Derived.Lib.OwnBridge
import Derived.Lib.SlicesCompact
import Derived.MapKept
import Derived.Orders
import Derived.OrdersHeld
import Derived.Scope
import Derived.Sort.Grow
import Derived.StillTail
import Derived.Test.YtgdgclmkpoaagaaGreatProg
import Derived.Test.YtgdgclmkpoaagaaGreatShelf
import Derived.WalkKit
import Derived.WalkLawsBesides
import Derived.WalkSpells
import Derived.Test.YtgdgclmkpoaagaaGreatGB1
import Derived.Test.YtgdgclmkpoaagaaGreatGB2
import Derived.Test.YtgdgclmkpoaagaaGreatGB3
import Derived.Test.YtgdgclmkpoaagaaGreatGB4
import Derived.Test.YtgdgclmkpoaagaaGreatGB5
import Derived.Test.YtgdgclmkpoaagaaGreatGB6
import Derived.Test.YtgdgclmkpoaagaaGreatGB7
set_option linter.unusedVariables false
set_option linter.unusedSectionVars false
set_option linter.unusedSimpArgs false
set_option maxRecDepth 100000
set_option maxHeartbeats 4000000
namespace Go.Proofs.YtgdgclmkpoaagaaGreat
open Go.GX Go.RowKit
attribute [local irreducible] Calls Run RunL RunQ RunD HR HL HD blkC ownC Rd
open Nd
theorem fn186 : IsFn Tryz.prog 186 := ⟨⟨_, _, Tryz.func186, rfl, by decide⟩⟩
def atI : Option Nat → Int
 | some a => (a : Int)
 | none => -1
theorem padd_bad {l : List Pt} {s now : Int} {x : By} (h : pchk x ≠ 0) : padd l s now x = ⟨[], [], false, pchk x⟩ := if_pos h
theorem padd_good {l : List Pt} {s now i0 i1 i2 : Int} {x d : By} (h : pchk x = 0) (h0 : i0 = b8 x 0) (h1 : i1 = b8 x 1) (h2 : i2 = b8 x 2) (hd : d = x.drop 3) :
  padd l s now x = if i2 = 1 then ⟨(pdrop (porder l) s i0 1).1, d, true, 0⟩ else pput (pnew (pdrop (porder l) s i0 i2) s i0 i2 now) i1.toNat d := by
 subst h0; subst h1; subst h2; subst hd
 unfold padd; rw [if_neg (by simp [h])]
theorem HA.row {P : Program} {N n : Nat} {σ : Store} {B : Base} {H F : List Chunk} {ops : List Oper} {K : Act → World → Prop} {L : Array Bool} {v : Value} {e sz m : Nat} {xs : List Value} (i : Nat) (hi : nthC H i = some (ownC v e sz m xs)) (hn : 0 < m)
  (h : ∀ g off cap, v = .slice (some ⟨g, off, none⟩) m cap → HA P N ops n L σ B H F K) : HA P N ops n L σ B H F K := by
 intro w hw hF a ha
 obtain ⟨g, off, cap, e, _⟩ := Vw.row (Sat.vw hw hi) hn
 exact h g off cap e w hw hF a ha
theorem fits_le {i c n : Int} (h : fits i c n = true) : n ≤ 64 := by
 unfold Nd.fits at h
 split at h
 ·have := eq_of_beq h; omega
 ·split at h
  ·exact of_decide_eq_true h
  ·split at h
   ·simp at h; omega
   ·simp at h; omega
theorem pvalid_sm {p : Pt} (h : pvalid p = true) : ∀ s ∈ p.da, s.length ≤ 64 := by
 have H := phead_is (pvalid_head h)
 have h1 := H.hv
 have h2 := H.da
 unfold pvalid at h
 simp only [Bool.and_eq_true] at h
 have hall := List.all_eq_true.1 h.1.1.2
 intro s hs
 obtain ⟨j, hj⟩ := List.getElem?_of_mem hs
 have hjl := (List.getElem?_eq_some_iff.1 hj).1
 have := hall j (List.mem_range.2 (by omega))
 unfold pone at this
 rw [show p.da.getD j [] = s by rw [List.getD_eq_getElem?_getD, hj]; rfl] at this
 split at this
 ·have := fits_le this; omega
 ·have := of_decide_eq_true this
  rw [this]; simp
theorem pdrop_sm {l : List Pt} {s id c : Int} (h : ∀ p ∈ l, ∀ s ∈ p.da, s.length ≤ 64) : ∀ p ∈ (pdrop l s id c).1, ∀ s ∈ p.da, s.length ≤ 64 := by
 unfold pdrop
 split
 ·split
  ·exact h
  ·exact fun p hp => h p (List.mem_of_mem_eraseIdx hp)
 ·exact h
theorem pnew_sm {o : List Pt × Option Nat} {s id c now : Int} (h : ∀ p ∈ o.1, ∀ s ∈ p.da, s.length ≤ 64) : ∀ p ∈ (pnew o s id c now).1, ∀ s ∈ p.da, s.length ≤ 64 := by
 unfold pnew
 split
 ·exact h
 ·intro p hp
  rcases List.mem_append.1 hp with hp | hp
  ·refine h p ?_
   unfold proom at hp
   split at hp
   ·exact List.mem_of_mem_eraseIdx hp
   ·exact hp
  ·rw [List.mem_singleton] at hp
   subst hp
   intro s hs
   have := List.eq_of_mem_replicate hs
   rw [this]; simp
theorem flat_bound {m : Nat} : ∀ {l : List By}, (∀ s ∈ l, s.length ≤ m) → l.flatten.length ≤ m * l.length
 | [], _ => by simp
 | s :: l, h => by
  have h1 := h s (List.mem_cons_self ..)
  have h2 := flat_bound (l := l) fun x hx => h x (List.mem_cons_of_mem _ hx)
  rw [List.flatten_cons, List.length_append, List.length_cons, Nat.mul_add]; omega
theorem fadd_any (l : List PtV) (s now : Int) (x : By) (v : Value) (w : World) (hv : RdPts w v l) (hs : ∀ p ∈ l, SmPt p.pt) (hl : l.length ≤ 1000) (hx : x.length ≤ 1000) :
  Calls Tryz.prog 130 #[v, .int .i64 s, .int .i64 now, str x] w fun e w' => ∃ y : Value × List PtV, e = .returned (.tuple ⟨[y.1, str (padd (pts l) s now x).t, .bool (padd (pts l) s now x).ok, .int .i64 (padd (pts l) s now x).e]⟩) ∧ GdPts y (padd (pts l) s now x).l ∧ Sat (base w) (ptsC y) w' := by
 refine calls_hr Tryz.func130 I (Nat.le_of_ble_eq_true I) ?_
 refine HR.sub (σ' := [(0, v), (1, .int .i64 s), (2, .int .i64 now), (3, str x)]) ⟨I, I, I, I, trivial⟩ ?_
 repeat' (first | refine zh ?_ | refine HL.callB fn183 I I (fun w _ => fcheckP_any x w (by omega)) ?_ | intro (bk : Nat))
 refine HR.cond I (fun h => ?_) (fun h => ?_)
 ·have h : pchk x ≠ 0 := by have h : (pchk x != 0) = true := h; simpa using h
  rw [padd_bad h]
  repeat' (first | refine zh ?_ | intro (bk : Nat))
  refine HR.nilC 76 6 ?_
  refine HR.ent (Ent.trans Ent.gnil (Ent.pick [1, 0] I I)) ?_
  refine HR.ret Tryz.func130 I [_, _, _, _] (fun _ _ => ⟨I, I, I, I, trivial⟩) ?_
  exact fun w' hw => ⟨(_, []), rfl, ⟨rfl, fun p hp => by cases hp⟩, hw⟩
 have h : pchk x = 0 := by have h : (pchk x != 0) = false := h; simpa using h
 obtain ⟨c0, c1, c2, c3, c4, c5, c6, c7⟩ := pchk_spec h
 obtain ⟨i0, h0⟩ : ∃ i0 : Int, i0 = b8 x 0 := ⟨_, rfl⟩
 obtain ⟨i1, h1⟩ : ∃ i1 : Int, i1 = b8 x 1 := ⟨_, rfl⟩
 obtain ⟨i2, h2⟩ : ∃ i2 : Int, i2 = b8 x 2 := ⟨_, rfl⟩
 obtain ⟨d, hd⟩ : ∃ d, d = x.drop 3 := ⟨_, rfl⟩
 rw [padd_good h h0 h1 h2 hd]
 have hdl : (d.length : Int) = (x.length : Int) - 3 := by rw [hd, List.length_drop]; omega
 have hd64 : d.length ≤ 64 := by have := fits_le c5; omega
 have g0 : 0 ≤ i0 ∧ i0 ≤ 255 := by omega
 have g1 : 0 ≤ i1 ∧ i1 < i2 := by omega
 have g2 : 1 ≤ i2 ∧ i2 ≤ 16 := by omega
 clear c1 c2 c3 c4 c5 c6 c7
 repeat' (first | refine zh ?_ | intro (bk : Nat))
 refine HR.regionQ hmix (by kernel_rfl) ?_
 have b0 := (x.getD 0 0).toNat_lt
 have b1 := (x.getD 1 0).toNat_lt
 have b2 := (x.getD 2 0).toNat_lt
 repeat' (first | refine zq ?_ | fail)
 refine HR.setV 13 (v' := .int .i64 i0) I (by rw [h0]; try rfl) ?_
 refine HR.setV 14 (v' := .int .i64 i1) I (by rw [h1]; try rfl) ?_
 refine HR.setV 15 (v' := .int .i64 i2) I (by rw [h2]; try rfl) ?_
 refine HR.setV 16 (v' := str d) I (by rw [hd]; try rfl) ?_
 repeat' (first | refine zh ?_ | intro (bk : Nat))
 refine HL.callX (r := fun x : Value × List PtV => x.1) (Q := fun x => GdPts x (porder (pts l))) (G := fun x => ptsC x) fn163 I I (fun w1 hw1 => forder_any l v w1 (hv.ext hw1.belowB) hs hl) ?_
 rintro ⟨v1, L⟩ ⟨hL, hsh⟩
 have hL : pts L = porder (pts l) := hL
 have hsh : ∀ p ∈ L, ShPt p := hsh
 have hLl : L.length ≤ 8 := by have := porder_len (pts l); rw [← hL, pts_len] at this; exact this
 have hfr : Fresh (pts L) := by rw [hL]; exact porder_fresh _
 rw [← hL]
 have hcl : ∀ T : List PtV, (cellsOf ptC T).length = T.length * 6 := cellsOf_len ptC_len
 repeat' (first | refine zh ?_ | intro (bk : Nat))
 refine HL.callB fn184 I I (fun w1 hw1 => ffind_any L s i0 v1 w1 ((Rd.own 0 rfl).at hw1) (by omega) hsh) ?_
 repeat' (first | refine zn ?_ | apply zb ?_ ?_ | exact zc | (refine zi fun hb => ?_; try simp at hb) | intro (bk : Nat))
 refine HR.ctl I ?_
 refine HR.join (ι := Unit) (fun _ => True) (fun _ => [(1, .int .i64 s), (2, .int .i64 now), (13, .int .i64 i0), (14, .int .i64 i1), (15, .int .i64 i2), (16, str d), (17, v1), (18, .int .i64 (atI (pfind (pts L) s i0))), (54, .bool (match pfind (pts L) s i0 with | some a => (((pts L).getD a pz).ct != i2) | none => false))]) (fun _ => ptsC (v1, L)) (fun _ _ => ?_) (fun hj => ?_)
 ·refine HR.join (ι := Value × List PtV × Option Nat) (fun i => (pts i.2.1, i.2.2) = pdrop (pts L) s i0 i2 ∧ ∀ p ∈ i.2.1, ShPt p) (fun i => [(1, .int .i64 s), (2, .int .i64 now), (13, .int .i64 i0), (14, .int .i64 i1), (15, .int .i64 i2), (16, str d), (17, i.1), (18, .int .i64 (atI i.2.2))]) (fun i => ptsC (i.1, i.2.1)) (fun i => ?_) (fun hj2 => ?_)
  ·obtain ⟨v2, M, at2⟩ := i
   rintro ⟨hM, hshM⟩
   have hM : (pts M, at2) = pdrop (pts L) s i0 i2 := hM
   have hshM : ∀ p ∈ M, ShPt p := hshM
   have hMl : M.length ≤ 8 := by have := pdrop_len (l := pts L) (by rw [pts_len]; omega) s i0 i2; rw [← hM, pts_len] at this; exact this
   repeat' (first | refine zh ?_ | intro (bk : Nat))
   refine HR.cond I (fun h5 => ?_) (fun h5 => ?_)
   ·have h5 : i2 = 1 := eq_of_beq h5
    rw [if_pos h5]
    have e : (pdrop (pts L) s i0 1).1 = pts M := by rw [← h5, ← hM]
    rw [e]
    repeat' (first | refine zh ?_ | intro (bk : Nat))
    refine HR.ret Tryz.func130 I [_, _, _, _] (fun _ _ => ⟨I, I, I, I, trivial⟩) ?_
    exact fun w' hw => ⟨(v2, M), rfl, ⟨rfl, hshM⟩, hw.pick [0, 1] I rfl⟩
   have h5 : ¬ i2 = 1 := by have h5 : (i2 == 1) = false := h5; simpa using h5
   rw [if_neg h5, ← hM]
   have hsp := pnew_spec (now := now) (s := s) hfr (by rw [pts_len]; omega) (id := i0) (c := i2) (by omega) (by omega) (by omega) (by omega)
   rw [← hM] at hsp
   have hi2 : i2 = ((i2.toNat : Nat) : Int) := by omega
   have smM : ∀ p ∈ pts M, ∀ s ∈ p.da, s.length ≤ 64 := by
    have := pdrop_sm (l := pts L) (s := s) (id := i0) (c := i2) (by rw [hL]; exact fun p hp => pvalid_sm (porder_valid p hp))
    rw [← hM] at this; exact this
   repeat' (first | refine zh ?_ | intro (bk : Nat))
   refine HR.join (ι := Value × List PtV × Nat) (fun i => (pts i.2.1, i.2.2) = pnew (pts M, at2) s i0 i2 now ∧ ∀ p ∈ i.2.1, ShPt p) (fun i => [(14, .int .i64 i1), (16, str d), (17, i.1), (18, .int .i64 (i.2.2 : Int))]) (fun i => ptsC (i.1, i.2.1)) (fun i => ?_) (fun hj3 => ?_)
   ·obtain ⟨v3, L3, a⟩ := i
    rintro ⟨hP, hsh3⟩
    have hP : (pts L3, a) = pnew (pts M, at2) s i0 i2 now := hP
    have hsh3 : ∀ p ∈ L3, ShPt p := hsh3
    rw [← hP] at hsp ⊢
    obtain ⟨f3, l3, a3, ct3⟩ := hsp
    have sm3 : ∀ p ∈ pts L3, ∀ s ∈ p.da, s.length ≤ 64 := by
     have := pnew_sm (o := (pts M, at2)) (s := s) (id := i0) (c := i2) (now := now) (fun p hp => smM p hp)
     rw [← hP] at this; exact this
    have l3 : L3.length ≤ 8 := by have l3 : (pts L3).length ≤ 8 := l3; rw [pts_len] at l3; exact l3
    have a3 : a < L3.length := by have a3 : a < (pts L3).length := a3; rw [pts_len] at a3; exact a3
    obtain ⟨p, hp⟩ := getSome a3
    have hpm := List.mem_of_getElem? hp
    have hgd : (pts L3).getD a pz = p.pt := by rw [List.getD_eq_getElem?_getD, pts_get hp]; rfl
    have ct3 : ((pts L3).getD a pz).ct = i2 := ct3
    rw [hgd] at ct3
    have f3 : Fresh (pts L3) := f3
    obtain ⟨H, hal⟩ := f3 p.pt (List.mem_map_of_mem hpm)
    have h1 := H.hv
    have h2 := H.da
    obtain ⟨sa, sn, sc, ta, tn, tc, ep⟩ := (hsh3 p hpm).lit
    obtain ⟨q, hq⟩ : ∃ q, q = p.pt := ⟨_, rfl⟩
    rw [← hq] at ct3 hal h1 h2 ep hgd
    have hq' : q = p.pt := hq
    have hpx : p = ⟨p.vh, p.vd, q⟩ := by rw [hq]
    obtain ⟨vh, hvh⟩ : ∃ vh, vh = p.vh := ⟨_, rfl⟩
    obtain ⟨vd, hvd⟩ : ∃ vd, vd = p.vd := ⟨_, rfl⟩
    rw [← hvh, ← hvd] at hpx
    have shp := hsh3 p hpm
    clear ep
    subst hpx
    have hpe : pput (pts L3, a) i1.toNat d = if (pmark q i1.toNat d).hv.all id then ⟨(pts L3).eraseIdx a, (pmark q i1.toNat d).da.flatten, true, 0⟩ else ⟨(pts L3).set a (pmark q i1.toNat d), [], false, 0⟩ := by
     unfold pput; simp only; rw [hgd]
    rw [hpe]
    obtain ⟨j, hj⟩ : ∃ j, j = i1.toNat := ⟨_, rfl⟩
    have hij : i1 = ((j : Nat) : Int) := by omega
    rw [← hj]
    have hjl : j < q.hv.length := by omega
    have hjd : j < q.da.length := by omega
    obtain ⟨b, hb⟩ := getSome hjl
    have hbd : q.hv.getD j false = b := by rw [List.getD_eq_getElem?_getD, hb]; rfl
    obtain ⟨R, hR⟩ : ∃ R, R = ptG (L3.eraseIdx a) := ⟨_, rfl⟩
    refine HR.ent (H' := [ownC v3 76 6 L3.length (cellsOf ptC L3), ptH ⟨vh, vd, q⟩, ptD ⟨vh, vd, q⟩, groupC R]) ?_ ?_
    ·refine Ent.trans (Ent.pick [1, 0] I I) (Ent.trans (Ent.gdrop (G' := [ptH ⟨vh, vd, q⟩, ptD ⟨vh, vd, q⟩] ++ R) [] ?_) ?_)
     ·rw [List.append_nil, hR]
      exact (ptG_erase hp).trans List.perm_append_comm
     ·refine Ent.trans (Ent.gtake (A := []) (c := ptH ⟨vh, vd, q⟩) (C := ptD ⟨vh, vd, q⟩ :: R)) (Ent.trans (Ent.pick [1, 0, 2] I I) (Ent.trans (Ent.gtake (A := []) (c := ptD ⟨vh, vd, q⟩) (C := R)) (Ent.pick [3, 2, 0, 1] I I)))
    have hH : ∀ (Q : Pt) (i : Nat) (H : List Chunk), nthC H i = some (ptH ⟨vh, vd, Q⟩) → Rd (base w) H vh (cellsOf bC Q.hv) Q.hv.length := fun Q i H hi => Rd.own i hi
    have hD : ∀ (Q : Pt) (i : Nat) (H : List Chunk), nthC H i = some (ptD ⟨vh, vd, Q⟩) → Rd (base w) H vd (cellsOf sC Q.da) Q.da.length := fun Q i H hi => Rd.own i hi
    repeat' (first | refine zh ?_ | refine HL.idxR (Rd.own 0 I) elemPt a I I I I a3 ?_ | refine HL.fieldN 4 (Rd.own 0 I) (by rw [hcl]; omega) I I I I I I I ?_ | refine HL.loadI (Rd.own 0 I) I I I I (cells_get ptC_len hp (i := 4) I) ?_ | refine HL.idxR (hH q 1 _ I) elemB j I I I hij hjl ?_ | refine HL.loadI (hH q 1 _ I) I I I I (cellsOf_get1 hb) ?_ | intro (bk : Nat))
    obtain ⟨Q, hQ⟩ : ∃ Q, Q = pmark q j d := ⟨_, rfl⟩
    have hQs : Q.so = q.so ∧ Q.id = q.id ∧ Q.ct = q.ct ∧ Q.si = q.si ∧ Q.hv.length = q.hv.length ∧ Q.da.length = q.da.length := by
     rw [hQ]; unfold pmark; split
     ·exact ⟨rfl, rfl, rfl, rfl, rfl, rfl⟩
     ·exact ⟨rfl, rfl, rfl, rfl, List.length_set, List.length_set⟩
    obtain ⟨q1, q2, q3, q4, q5, q6⟩ := hQs
    have hQd : ∀ s ∈ Q.da, s.length ≤ 64 := by
     rw [hQ]; unfold pmark; split
     ·exact sm3 q (by rw [hq']; exact List.mem_map_of_mem hpm)
     ·intro s hs
      rcases List.mem_or_eq_of_mem_set hs with hs | rfl
      ·exact sm3 q (by rw [hq']; exact List.mem_map_of_mem hpm) s hs
      ·exact hd64
    rw [← hQ]
    refine HR.join (ι := Unit) (fun _ => True) (fun _ => [(17, v3), (18, .int .i64 (a : Int))]) (fun _ => [ownC v3 76 6 L3.length (cellsOf ptC L3), ptH ⟨vh, vd, Q⟩, ptD ⟨vh, vd, Q⟩, groupC R]) (fun _ _ => ?_) (fun hj5 => ?_)
    ·repeat' (first | refine zh ?_ | refine HL.idxR (Rd.own 0 I) elemPt a I I I I a3 ?_ | refine HL.fieldN 4 (Rd.own 0 I) (by rw [hcl]; omega) I I I I I I I ?_ | refine HL.loadI (Rd.own 0 I) I I I I (cells_get ptC_len hp (i := 4) I) ?_ | refine HL.lenR (hH Q 1 _ I) I I I ?_ | intro (bk : Nat))
     refine HR.loop (ι := Nat) (fun k => k ≤ Q.hv.length ∧ (Q.hv.take k).all id = true) (fun k => [(17, v3), (18, .int .i64 (a : Int)), (113, vh), (114, .int .i64 (Q.hv.length : Int)), (115, .int .i64 (k : Int))]) (fun _ => [ownC v3 76 6 L3.length (cellsOf ptC L3), ptH ⟨vh, vd, Q⟩, ptD ⟨vh, vd, Q⟩, groupC R]) (fun k => Q.hv.length - k) 0 ⟨Nat.zero_le _, by rw [List.take_zero]; rfl⟩ ⟨I, I, I, I, I, trivial⟩ Ent.refl ?_
     rintro k ⟨hk, hall⟩ ih
     repeat' (first | refine zh ?_ | intro (bk : Nat))
     refine HR.cond I (fun h6 => ?_) (fun h6 => ?_)
     ·have hlt : k < Q.hv.length := by have := of_decide_eq_true h6; omega
      obtain ⟨b6, hb6⟩ := getSome hlt
      repeat' (first | refine zh ?_ | refine HL.idxR (hH Q 1 _ I) elemB k I I I I hlt ?_ | refine HL.loadI (hH Q 1 _ I) I I I I (cellsOf_get1 hb6) ?_ | intro (bk : Nat))
      refine HR.cond I (fun h7 => ?_) (fun h7 => ?_)
      ·have h7 : b6 = false := by have h7 : (!b6) = true := h7; simpa using h7
       have hna : ¬ Q.hv.all id = true := fun hh => by
        have := List.all_eq_true.1 hh b6 (List.mem_of_getElem? hb6)
        rw [h7] at this; cases this
       rw [if_neg hna]
       repeat' (first | refine zh ?_ | intro (bk : Nat))
       refine HR.ret Tryz.func130 I [_, _, _, _] (fun _ _ => ⟨I, I, I, I, trivial⟩) ?_
       refine fun w' hw => ⟨(v3, L3.set a ⟨vh, vd, Q⟩), rfl, ⟨by unfold pts; rw [List.map_set], fun y hy => ?_⟩, ?_⟩
       ·rcases List.mem_or_eq_of_mem_set hy with hy | rfl
        ·exact hsh3 y hy
        ·exact shp
       ·have hcs : cellsOf ptC (L3.set a ⟨vh, vd, Q⟩) = cellsOf ptC L3 := by
         unfold cellsOf
         rw [List.map_set]
         have e : ptC ⟨vh, vd, Q⟩ = ptC ⟨vh, vd, q⟩ := by
          show [Value.int .i64 Q.so, .int .i64 Q.id, .int .i64 Q.ct, .int .i64 Q.si, vh, vd] = [.int .i64 q.so, .int .i64 q.id, .int .i64 q.ct, .int .i64 q.si, vh, vd]
          rw [q1, q2, q3, q4]
         rw [e]
         congr 1
         refine List.ext_getElem? fun m => ?_
         rw [List.getElem?_set]
         split
         ·rename_i e2
          subst e2
          rw [if_pos (by rw [List.length_map]; exact a3), List.getElem?_map, hp]; rfl
         ·rfl
        have w1 := hw.pick [1, 2, 3, 0] I I
        have w2 := (Ent.group (G := [ptH ⟨vh, vd, Q⟩, ptD ⟨vh, vd, Q⟩])) w' w1
        have w3 := Ent.gjoin w' w2
        have hset : (L3.set a ⟨vh, vd, Q⟩)[a]? = some ⟨vh, vd, Q⟩ := List.getElem?_set_self a3
        have hpm2 : (R ++ [ptH ⟨vh, vd, Q⟩, ptD ⟨vh, vd, Q⟩]).Perm (ptG (L3.set a ⟨vh, vd, Q⟩) ++ []) := by
         rw [List.append_nil]
         have := ptG_erase hset
         rw [List.eraseIdx_set_eq, ← hR] at this
         exact this.symm
        have w4 := (Ent.gdrop [] hpm2) w' w3
        have w5 := w4.pick [1, 0] I I
        exact Ent.own0 (by rw [List.length_set]) hcs.symm w' w5
      ·have h7 : b6 = true := by have h7 : (!b6) = false := h7; simpa using h7
       repeat' (first | refine zh ?_ | intro (bk : Nat))
       refine ih (k + 1) _ _ ⟨hlt, ?_⟩ (by omega) ⟨I, I, I, I, I, trivial⟩ Ent.refl
       rw [take_succ_get hb6, List.all_append, hall, h7]; rfl
     ·have hke : k = Q.hv.length := by have := of_decide_eq_false h6; omega
      subst hke
      rw [List.take_length] at hall
      rw [if_pos hall]
      have hfl : Q.da.flatten.length ≤ 64 * Q.da.length := flat_bound hQd
      repeat' (first | refine zh ?_ | refine HL.idxR (Rd.own 0 I) elemPt a I I I I a3 ?_ | refine HL.fieldN 5 (Rd.own 0 I) (by rw [hcl]; omega) I I I I I I I ?_ | refine HL.loadI (Rd.own 0 I) I I I I (cells_get ptC_len hp (i := 5) I) ?_ | intro (bk : Nat))
      refine HL.callB fn186 I I (fun w1 hw1 => join_any Q.da vd w1 ((hD Q 2 _ rfl).at hw1) (by omega) (by omega) (by omega)) ?_
      repeat' (first | refine zh ?_ | intro (bk : Nat))
      refine HL.callO fn185 I I (fun w1 hw1 => fwithout_any L3 a v3 w1 ((Rd.own 0 rfl).at hw1) hsh3 a3 (by omega)) ?_
      intro r
      repeat' (first | refine zh ?_ | intro (bk : Nat))
      refine HR.ret Tryz.func130 I [_, _, _, _] (fun _ _ => ⟨I, I, I, I, trivial⟩) ?_
      refine fun w' hw => ⟨(r, L3.eraseIdx a), rfl, ⟨eraseMap _ _ _, fun y hy => hsh3 y (List.mem_of_mem_eraseIdx hy)⟩, ?_⟩
      have w1 := hw.pick [0, 4] I I
      rw [hR] at w1
      exact w1
    ·refine HR.cond I (fun h6 => ?_) (fun h6 => ?_)
     ·have h6 : b = false := by have h6 : (!b) = true := h6; simpa using h6
      have hQe : Q = ⟨q.so, q.id, q.ct, q.si, q.hv.set j true, q.da.set j d⟩ := by rw [hQ]; unfold pmark; rw [hbd, h6, if_neg (by decide)]
      refine HR.ctl I ?_
      refine HR.region ?_
      repeat' (first | refine zn ?_ | refine HL.idxR (Rd.own 0 I) elemPt a I I I I a3 ?_ | refine HL.fieldN 4 (Rd.own 0 I) (by rw [hcl]; omega) I I I I I I I ?_ | refine HL.loadI (Rd.own 0 I) I I I I (cells_get ptC_len hp (i := 4) I) ?_ | refine HL.idxR (hH q 1 _ I) elemB j I I I hij hjl ?_ | refine HL.storeE (v := vh) (e := 4) (sz := 1) (n := q.hv.length) (xs := cellsOf bC q.hv) 1 I I I I I I I (by rw [cells1_len bC_len]; omega) ?_ | apply zb ?_ ?_ | exact zc | (refine zi fun hb => ?_; try simp at hb) | intro (bk : Nat))
      refine HR.region ?_
      repeat' (first | refine zn ?_ | refine HL.idxR (Rd.own 0 I) elemPt a I I I I a3 ?_ | refine HL.fieldN 5 (Rd.own 0 I) (by rw [hcl]; omega) I I I I I I I ?_ | refine HL.loadI (Rd.own 0 I) I I I I (cells_get ptC_len hp (i := 5) I) ?_ | refine HL.idxR (hD q 2 _ I) elemS j I I I hij hjd ?_ | refine HL.storeE (v := vd) (e := 9) (sz := 1) (n := q.da.length) (xs := cellsOf sC q.da) 2 I I I I I I I (by rw [cells1_len sC_len]; omega) ?_ | apply zb ?_ ?_ | exact zc | (refine zi fun hb => ?_; try simp at hb) | intro (bk : Nat))
      refine hj5 () _ _ trivial ⟨I, I, trivial⟩ (Ent.of_eq ?_)
      have e1 := cells1_set (f := fun b : Bool => Value.bool b) q.hv j true
      have e2 := cells1_set (f := fun s : By => str s) q.da j d
      show [ownC v3 _ 6 L3.length (cellsOf ptC L3), ownC vh 4 1 q.hv.length ((cellsOf bC q.hv).set (j * 1) (.bool true)), ownC vd 9 1 q.da.length ((cellsOf sC q.da).set (j * 1) (str d)), groupC R] = [_, ownC vh 4 1 Q.hv.length (cellsOf bC Q.hv), ownC vd 9 1 Q.da.length (cellsOf sC Q.da), _]
      rw [e1, e2, q5, q6, hQe]
     ·have h6 : b = true := by have h6 : (!b) = false := h6; simpa using h6
      have hQe : Q = q := by rw [hQ, pmark_hv (by rw [hbd, h6])]
      refine HR.skip ?_
      exact hj5 () _ _ trivial ⟨I, I, trivial⟩ (Ent.of_eq (by rw [hQe]))
   ·cases at2 with
    | some a =>
     refine HR.condF I ?_
     refine HR.skip ?_
     exact hj3 (v2, M, a) _ _ ⟨rfl, hshM⟩ ⟨I, I, I, I, trivial⟩ (Ent.pick [0, 1] I I)
    | none =>
     refine HR.condT I ?_
     repeat' (first | refine zh ?_ | refine HL.lenR (Rd.own 0 I) I I I ?_ | intro (bk : Nat))
     refine HR.join (ι := Value × List PtV) (fun i => pts i.2 = proom (pts M) ∧ ∀ p ∈ i.2, ShPt p) (fun i => [(1, .int .i64 s), (2, .int .i64 now), (13, .int .i64 i0), (14, .int .i64 i1), (15, .int .i64 i2), (16, str d), (17, i.1)]) (fun i => ptsC i) (fun i => ?_) (fun hj6 => ?_)
     ·obtain ⟨v4, N⟩ := i
      rintro ⟨hN, hshN⟩
      have hN : pts N = proom (pts M) := hN
      have hshN : ∀ p ∈ N, ShPt p := hshN
      have hNl : N.length ≤ 7 := by have := proom_len (l := pts M) (by rw [pts_len]; omega); rw [← hN, pts_len] at this; exact this
      obtain ⟨pb, hpb⟩ : ∃ pb, pb = pbegin s i0 i2 now := ⟨_, rfl⟩
      have hbl : i2.toNat = pb.hv.length := by rw [hpb]; simp [pbegin]
      have hsl : i2.toNat = pb.da.length := by rw [hpb]; simp [pbegin]
      have hbl0 : 0 < pb.hv.length := by rw [← hbl]; omega
      have hsl0 : 0 < pb.da.length := by rw [← hsl]; omega
      have hbc : ((List.replicate i2.toNat (cellsL (.bool false))).flatten) = cellsOf bC pb.hv := by rw [hpb]; unfold cellsOf pbegin; simp only; rw [List.map_replicate]; rfl
      have hsc : ((List.replicate i2.toNat (cellsL (str []))).flatten) = cellsOf sC pb.da := by rw [hpb]; unfold cellsOf pbegin; simp only; rw [List.map_replicate]; rfl
      repeat' (first | refine zh ?_ | intro (bk : Nat))
      refine HR.join (ι := Value × PtV) (fun i => i.2.pt = pb ∧ ShPt i.2) (fun i => [(14, .int .i64 i1), (16, str d), (17, i.1)]) (fun i => [ptH i.2, ptD i.2, groupC (ptG N), ownC i.1 76 6 (N.length + 1) (cellsOf ptC N ++ ptC i.2)]) (fun i => ?_) (fun hj4 => ?_)
      ·obtain ⟨o3, P⟩ := i
       rintro ⟨hP, hshP⟩
       have hP : P.pt = pb := hP
       refine HR.ent (H' := ptsC (o3, N ++ [P])) ?_ ?_
       ·refine Ent.trans (Ent.group (G := [ptH P, ptD P])) (Ent.trans Ent.gjoin ?_)
        have e : ptG N ++ [ptH P, ptD P] = ptG (N ++ [P]) := by rw [ptG_app, ptG_one]
        rw [e]
        refine Ent.trans (Ent.pick [1, 0] I I) (Ent.own0 (by simp) ?_)
        rw [cellsOf_app, cellsOf_one]
       first | refine HR.ctl I ?_ | skip
       refine HR.region ?_
       repeat' (first | refine zn ?_ | refine HL.lenR (Rd.own 0 I) I I I ?_ | apply zb ?_ ?_ | exact zc | (refine zi fun hb => ?_; try simp at hb) | intro (bk : Nat))
       refine hj3 (o3, N ++ [P], N.length) _ _ ⟨?_, fun p hp => ?_⟩ ⟨rfl, rfl, rfl, by show some (Value.int IntKind.i64 _) = some _; congr 2; simp, trivial⟩ Ent.refl
       ·show (pts (N ++ [P]), N.length) = (proom (pts M) ++ [pbegin s i0 i2 now], (proom (pts M)).length)
        rw [← hN, ← hpb, ← hP, pts_app, pts_len]; rfl
       ·rcases List.mem_append.1 hp with hp | hp
        ·exact hshN p hp
        ·rw [List.mem_singleton] at hp; subst hp; exact hshP
      ·refine HR.regionA [] I I hmix ?_
       refine za 0 ?_
       refine za 1 ?_
       refine za 2 ?_
       refine za 3 ?_
       refine za 4 ?_
       refine za 6 ?_
       refine za 8 ?_
       refine HA.three 5 7 9 (by kernel_rfl) I I I ?_ ?_ ?_
       ·refine HL.callB fn164 I I (fun w _ => flim_any now w) ?_
        refine HL.backA [] I I ?_
        refine HA.two 7 9 (by kernel_rfl) I I ?_ ?_
        ·refine HL.makeS i2.toNat i2.toNat elemB I I I I hi2 hi2 (Nat.le_refl _) (show 1 * i2.toNat ≤ _ by omega) (by omega) ?_
         intro vb
         refine HL.ent (Ent.own0 hbl hbc) ?_
         refine HL.backA [] I I ?_
         refine HA.one 9 (by kernel_rfl) I ?_
         refine HL.makeS i2.toNat i2.toNat elemS I I I I hi2 hi2 (Nat.le_refl _) (show 16 * i2.toNat ≤ _ by omega) (by omega) ?_
         intro vs
         refine HL.ent (Ent.own0 hsl hsc) ?_
         refine HL.backA [] I I ?_
         refine HA.row 1 I (v := vb) (e := 4) (sz := 1) (m := pb.hv.length) (xs := cellsOf bC pb.hv) hbl0 fun g1 o1 e1 hvb => ?_
         subst hvb
         refine HA.row 0 I (v := vs) (e := 9) (sz := 1) (m := pb.da.length) (xs := cellsOf sC pb.da) hsl0 fun g2 o2 e2 hvs => ?_
         subst hvs
         refine za 10 ?_
         refine HA.one 11 (by kernel_rfl) I ?_
         refine HL.bslice elemPt I I I I I (by decide) (by decide) ?_
         intro va
         refine HL.backA [] I I ?_
         refine HA.one 12 (by kernel_rfl) I ?_
         refine HL.appR 3 I elemPt (Rd.own 0 I) I I I I (allOne_spec I) (by show (N.length + 1) * 80 ≤ _; omega) (by show N.length + 1 ≤ _; omega) ?_
         intro o3
         refine HL.backA [] I I ?_
         refine za 13 ?_
         refine HA.done (by kernel_rfl) ?_
         subst hpb
         exact hj4 (o3, ⟨.slice (some ⟨g1, o1, none⟩) (pbegin s i0 i2 now).hv.length e1, .slice (some ⟨g2, o2, none⟩) (pbegin s i0 i2 now).da.length e2, pbegin s i0 i2 now⟩) _ _ ⟨rfl, ⟨_, _, _, rfl⟩, ⟨_, _, _, rfl⟩⟩ ⟨I, I, I, trivial⟩ (Ent.pick [2, 1, 4, 3] I I)
        ·refine HL.makeS i2.toNat i2.toNat elemS I I I I hi2 hi2 (Nat.le_refl _) (show 16 * i2.toNat ≤ _ by omega) (by omega) ?_
         intro vs
         refine HL.ent (Ent.own0 hsl hsc) ?_
         refine HL.backA [] I I ?_
         refine HA.one 7 (by kernel_rfl) I ?_
         refine HL.makeS i2.toNat i2.toNat elemB I I I I hi2 hi2 (Nat.le_refl _) (show 1 * i2.toNat ≤ _ by omega) (by omega) ?_
         intro vb
         refine HL.ent (Ent.own0 hbl hbc) ?_
         refine HL.backA [] I I ?_
         refine HA.row 0 I (v := vb) (e := 4) (sz := 1) (m := pb.hv.length) (xs := cellsOf bC pb.hv) hbl0 fun g1 o1 e1 hvb => ?_
         subst hvb
         refine HA.row 1 I (v := vs) (e := 9) (sz := 1) (m := pb.da.length) (xs := cellsOf sC pb.da) hsl0 fun g2 o2 e2 hvs => ?_
         subst hvs
         refine za 10 ?_
         refine HA.one 11 (by kernel_rfl) I ?_
         refine HL.bslice elemPt I I I I I (by decide) (by decide) ?_
         intro va
         refine HL.backA [] I I ?_
         refine HA.one 12 (by kernel_rfl) I ?_
         refine HL.appR 3 I elemPt (Rd.own 0 I) I I I I (allOne_spec I) (by show (N.length + 1) * 80 ≤ _; omega) (by show N.length + 1 ≤ _; omega) ?_
         intro o3
         refine HL.backA [] I I ?_
         refine za 13 ?_
         refine HA.done (by kernel_rfl) ?_
         subst hpb
         exact hj4 (o3, ⟨.slice (some ⟨g1, o1, none⟩) (pbegin s i0 i2 now).hv.length e1, .slice (some ⟨g2, o2, none⟩) (pbegin s i0 i2 now).da.length e2, pbegin s i0 i2 now⟩) _ _ ⟨rfl, ⟨_, _, _, rfl⟩, ⟨_, _, _, rfl⟩⟩ ⟨I, I, I, trivial⟩ (Ent.pick [1, 2, 4, 3] I I)
       ·refine HL.makeS i2.toNat i2.toNat elemB I I I I hi2 hi2 (Nat.le_refl _) (show 1 * i2.toNat ≤ _ by omega) (by omega) ?_
        intro vb
        refine HL.ent (Ent.own0 hbl hbc) ?_
        refine HL.backA [] I I ?_
        refine HA.two 5 9 (by kernel_rfl) I I ?_ ?_
        ·refine HL.callB fn164 I I (fun w _ => flim_any now w) ?_
         refine HL.backA [] I I ?_
         refine HA.one 9 (by kernel_rfl) I ?_
         refine HL.makeS i2.toNat i2.toNat elemS I I I I hi2 hi2 (Nat.le_refl _) (show 16 * i2.toNat ≤ _ by omega) (by omega) ?_
         intro vs
         refine HL.ent (Ent.own0 hsl hsc) ?_
         refine HL.backA [] I I ?_
         refine HA.row 1 I (v := vb) (e := 4) (sz := 1) (m := pb.hv.length) (xs := cellsOf bC pb.hv) hbl0 fun g1 o1 e1 hvb => ?_
         subst hvb
         refine HA.row 0 I (v := vs) (e := 9) (sz := 1) (m := pb.da.length) (xs := cellsOf sC pb.da) hsl0 fun g2 o2 e2 hvs => ?_
         subst hvs
         refine za 10 ?_
         refine HA.one 11 (by kernel_rfl) I ?_
         refine HL.bslice elemPt I I I I I (by decide) (by decide) ?_
         intro va
         refine HL.backA [] I I ?_
         refine HA.one 12 (by kernel_rfl) I ?_
         refine HL.appR 3 I elemPt (Rd.own 0 I) I I I I (allOne_spec I) (by show (N.length + 1) * 80 ≤ _; omega) (by show N.length + 1 ≤ _; omega) ?_
         intro o3
         refine HL.backA [] I I ?_
         refine za 13 ?_
         refine HA.done (by kernel_rfl) ?_
         subst hpb
         exact hj4 (o3, ⟨.slice (some ⟨g1, o1, none⟩) (pbegin s i0 i2 now).hv.length e1, .slice (some ⟨g2, o2, none⟩) (pbegin s i0 i2 now).da.length e2, pbegin s i0 i2 now⟩) _ _ ⟨rfl, ⟨_, _, _, rfl⟩, ⟨_, _, _, rfl⟩⟩ ⟨I, I, I, trivial⟩ (Ent.pick [2, 1, 4, 3] I I)
        ·refine HL.makeS i2.toNat i2.toNat elemS I I I I hi2 hi2 (Nat.le_refl _) (show 16 * i2.toNat ≤ _ by omega) (by omega) ?_
         intro vs
         refine HL.ent (Ent.own0 hsl hsc) ?_
         refine HL.backA [] I I ?_
         refine HA.one 5 (by kernel_rfl) I ?_
         refine HL.callB fn164 I I (fun w _ => flim_any now w) ?_
         refine HL.backA [] I I ?_
         refine HA.row 1 I (v := vb) (e := 4) (sz := 1) (m := pb.hv.length) (xs := cellsOf bC pb.hv) hbl0 fun g1 o1 e1 hvb => ?_
         subst hvb
         refine HA.row 0 I (v := vs) (e := 9) (sz := 1) (m := pb.da.length) (xs := cellsOf sC pb.da) hsl0 fun g2 o2 e2 hvs => ?_
         subst hvs
         refine za 10 ?_
         refine HA.one 11 (by kernel_rfl) I ?_
         refine HL.bslice elemPt I I I I I (by decide) (by decide) ?_
         intro va
         refine HL.backA [] I I ?_
         refine HA.one 12 (by kernel_rfl) I ?_
         refine HL.appR 3 I elemPt (Rd.own 0 I) I I I I (allOne_spec I) (by show (N.length + 1) * 80 ≤ _; omega) (by show N.length + 1 ≤ _; omega) ?_
         intro o3
         refine HL.backA [] I I ?_
         refine za 13 ?_
         refine HA.done (by kernel_rfl) ?_
         subst hpb
         exact hj4 (o3, ⟨.slice (some ⟨g1, o1, none⟩) (pbegin s i0 i2 now).hv.length e1, .slice (some ⟨g2, o2, none⟩) (pbegin s i0 i2 now).da.length e2, pbegin s i0 i2 now⟩) _ _ ⟨rfl, ⟨_, _, _, rfl⟩, ⟨_, _, _, rfl⟩⟩ ⟨I, I, I, trivial⟩ (Ent.pick [2, 1, 4, 3] I I)
       ·refine HL.makeS i2.toNat i2.toNat elemS I I I I hi2 hi2 (Nat.le_refl _) (show 16 * i2.toNat ≤ _ by omega) (by omega) ?_
        intro vs
        refine HL.ent (Ent.own0 hsl hsc) ?_
        refine HL.backA [] I I ?_
        refine HA.two 5 7 (by kernel_rfl) I I ?_ ?_
        ·refine HL.callB fn164 I I (fun w _ => flim_any now w) ?_
         refine HL.backA [] I I ?_
         refine HA.one 7 (by kernel_rfl) I ?_
         refine HL.makeS i2.toNat i2.toNat elemB I I I I hi2 hi2 (Nat.le_refl _) (show 1 * i2.toNat ≤ _ by omega) (by omega) ?_
         intro vb
         refine HL.ent (Ent.own0 hbl hbc) ?_
         refine HL.backA [] I I ?_
         refine HA.row 0 I (v := vb) (e := 4) (sz := 1) (m := pb.hv.length) (xs := cellsOf bC pb.hv) hbl0 fun g1 o1 e1 hvb => ?_
         subst hvb
         refine HA.row 1 I (v := vs) (e := 9) (sz := 1) (m := pb.da.length) (xs := cellsOf sC pb.da) hsl0 fun g2 o2 e2 hvs => ?_
         subst hvs
         refine za 10 ?_
         refine HA.one 11 (by kernel_rfl) I ?_
         refine HL.bslice elemPt I I I I I (by decide) (by decide) ?_
         intro va
         refine HL.backA [] I I ?_
         refine HA.one 12 (by kernel_rfl) I ?_
         refine HL.appR 3 I elemPt (Rd.own 0 I) I I I I (allOne_spec I) (by show (N.length + 1) * 80 ≤ _; omega) (by show N.length + 1 ≤ _; omega) ?_
         intro o3
         refine HL.backA [] I I ?_
         refine za 13 ?_
         refine HA.done (by kernel_rfl) ?_
         subst hpb
         exact hj4 (o3, ⟨.slice (some ⟨g1, o1, none⟩) (pbegin s i0 i2 now).hv.length e1, .slice (some ⟨g2, o2, none⟩) (pbegin s i0 i2 now).da.length e2, pbegin s i0 i2 now⟩) _ _ ⟨rfl, ⟨_, _, _, rfl⟩, ⟨_, _, _, rfl⟩⟩ ⟨I, I, I, trivial⟩ (Ent.pick [1, 2, 4, 3] I I)
        ·refine HL.makeS i2.toNat i2.toNat elemB I I I I hi2 hi2 (Nat.le_refl _) (show 1 * i2.toNat ≤ _ by omega) (by omega) ?_
         intro vb
         refine HL.ent (Ent.own0 hbl hbc) ?_
         refine HL.backA [] I I ?_
         refine HA.one 5 (by kernel_rfl) I ?_
         refine HL.callB fn164 I I (fun w _ => flim_any now w) ?_
         refine HL.backA [] I I ?_
         refine HA.row 0 I (v := vb) (e := 4) (sz := 1) (m := pb.hv.length) (xs := cellsOf bC pb.hv) hbl0 fun g1 o1 e1 hvb => ?_
         subst hvb
         refine HA.row 1 I (v := vs) (e := 9) (sz := 1) (m := pb.da.length) (xs := cellsOf sC pb.da) hsl0 fun g2 o2 e2 hvs => ?_
         subst hvs
         refine za 10 ?_
         refine HA.one 11 (by kernel_rfl) I ?_
         refine HL.bslice elemPt I I I I I (by decide) (by decide) ?_
         intro va
         refine HL.backA [] I I ?_
         refine HA.one 12 (by kernel_rfl) I ?_
         refine HL.appR 3 I elemPt (Rd.own 0 I) I I I I (allOne_spec I) (by show (N.length + 1) * 80 ≤ _; omega) (by show N.length + 1 ≤ _; omega) ?_
         intro o3
         refine HL.backA [] I I ?_
         refine za 13 ?_
         refine HA.done (by kernel_rfl) ?_
         subst hpb
         exact hj4 (o3, ⟨.slice (some ⟨g1, o1, none⟩) (pbegin s i0 i2 now).hv.length e1, .slice (some ⟨g2, o2, none⟩) (pbegin s i0 i2 now).da.length e2, pbegin s i0 i2 now⟩) _ _ ⟨rfl, ⟨_, _, _, rfl⟩, ⟨_, _, _, rfl⟩⟩ ⟨I, I, I, trivial⟩ (Ent.pick [1, 2, 4, 3] I I)
     ·refine HR.cond I (fun h6 => ?_) (fun h6 => ?_)
      ·have h6 : M.length = 8 := by have h6 : ((M.length : Int) == 8) = true := h6; simp at h6; omega
       obtain ⟨m0, hm0⟩ := getSome (show 0 < M.length by omega)
       refine HR.region ?_
       repeat' (first | refine zn ?_ | apply zb ?_ ?_ | exact zc | (refine zi fun hb => ?_; try simp at hb) | intro (bk : Nat))
       refine HL.callO fn185 I I (fun w1 hw1 => fwithout_any M 0 v2 w1 ((Rd.own 0 rfl).at hw1) hshM (by omega) (by omega)) ?_
       intro r
       repeat' (first | refine zn ?_ | apply zb ?_ ?_ | exact zc | (refine zi fun hb => ?_; try simp at hb) | intro (bk : Nat))
       refine hj6 (r, M.eraseIdx 0) _ _ ⟨?_, fun y hy => hshM y (List.mem_of_mem_eraseIdx hy)⟩ ⟨I, I, I, I, I, I, I, trivial⟩ (Ent.trans (Ent.pick [2, 0] I I) (Ent.trans (Ent.gdrop _ (ptG_erase hm0)) (Ent.pick [1, 0] I I)))
       show pts (M.eraseIdx 0) = proom (pts M)
       unfold proom
       rw [if_pos (by rw [pts_len]; exact h6)]
       exact eraseMap _ _ _
      ·have h6 : ¬ M.length = 8 := by intro e; have h6 : ((M.length : Int) == 8) = false := h6; rw [e] at h6; cases h6
       refine HR.skip ?_
       refine hj6 (v2, M) _ _ ⟨?_, hshM⟩ ⟨I, I, I, I, I, I, I, trivial⟩ (Ent.pick [0, 1] I I)
       show pts M = proom (pts M)
       unfold proom
       rw [if_neg (by rw [pts_len]; exact h6)]
  ·rcases fidx_cases (pis s i0) (pts L) with ⟨_, e2, _⟩ | ⟨a, q, _, e2, hq, _, _⟩
   ·have e2 : pfind (pts L) s i0 = none := e2
    rw [e2]
    refine HR.condF I ?_
    refine HR.skip ?_
    exact hj2 (v1, L, none) _ _ ⟨by unfold pdrop; rw [e2], hsh⟩ ⟨I, I, I, I, I, I, I, I, trivial⟩ Ent.refl
   ·have e2 : pfind (pts L) s i0 = some a := e2
    have hal : a < L.length := by have := (List.getElem?_eq_some_iff.1 hq).1; rw [pts_len] at this; exact this
    have hgq : (pts L).getD a pz = q := by rw [List.getD_eq_getElem?_getD, hq]; rfl
    rw [e2]
    obtain ⟨m0, hm0⟩ := getSome hal
    refine HR.cond I (fun h6 => ?_) (fun h6 => ?_)
    ·have h6 : ¬ ((pts L).getD a pz).ct = i2 := by have h6 : (((pts L).getD a pz).ct != i2) = true := h6; simpa using h6
     refine HR.ctl I ?_
     refine HR.region ?_
     repeat' (first | refine zn ?_ | apply zb ?_ ?_ | exact zc | (refine zi fun hb => ?_; try simp at hb) | intro (bk : Nat))
     refine HL.callO fn185 I I (fun w1 hw1 => fwithout_any L a v1 w1 ((Rd.own 0 rfl).at hw1) hsh hal (by omega)) ?_
     intro r
     repeat' (first | refine zn ?_ | apply zb ?_ ?_ | exact zc | (refine zi fun hb => ?_; try simp at hb) | intro (bk : Nat))
     refine HR.region ?_
     repeat' (first | refine zn ?_ | apply zb ?_ ?_ | exact zc | (refine zi fun hb => ?_; try simp at hb) | intro (bk : Nat))
     refine hj2 (r, L.eraseIdx a, none) _ _ ⟨?_, fun y hy => hsh y (List.mem_of_mem_eraseIdx hy)⟩ ⟨I, I, I, I, I, I, I, I, trivial⟩ (Ent.trans (Ent.pick [2, 0] I I) (Ent.trans (Ent.gdrop _ (ptG_erase hm0)) (Ent.pick [1, 0] I I)))
     show (pts (L.eraseIdx a), (none : Option Nat)) = pdrop (pts L) s i0 i2
     unfold pdrop
     rw [e2]
     simp only
     rw [if_neg h6]
     exact congrArg (·, none) (eraseMap _ _ _)
    ·have h6 : ((pts L).getD a pz).ct = i2 := by have h6 : (((pts L).getD a pz).ct != i2) = false := h6; simpa using h6
     refine HR.skip ?_
     refine hj2 (v1, L, some a) _ _ ⟨?_, hsh⟩ ⟨I, I, I, I, I, I, I, I, trivial⟩ Ent.refl
     show (pts L, some a) = pdrop (pts L) s i0 i2
     unfold pdrop
     rw [e2]
     simp only
     rw [if_pos h6]
 ·have hpf : pfi (pts L) s i0 = atI (pfind (pts L) s i0) := by
   unfold pfi pfind fidx atI
   cases List.findIdx? (pis s i0) (pts L) <;> rfl
  rw [hpf]
  rcases fidx_cases (pis s i0) (pts L) with ⟨_, e2, _⟩ | ⟨a, q, _, e2, hq, _, _⟩
  ·have e2 : pfind (pts L) s i0 = none := e2
   rw [e2] at hj ⊢
   refine HR.region ?_
   repeat' (first | refine zn ?_ | intro (bk : Nat))
   exact hj () _ _ trivial ⟨I, I, I, I, I, I, I, I, I, trivial⟩ Ent.refl
  ·have e2 : pfind (pts L) s i0 = some a := e2
   have hal : a < L.length := by have := (List.getElem?_eq_some_iff.1 hq).1; rw [pts_len] at this; exact this
   have hgq : (pts L).getD a pz = q := by rw [List.getD_eq_getElem?_getD, hq]; rfl
   obtain ⟨p, hp⟩ := getSome hal
   have hpq : p.pt = q := by rw [pts_get hp] at hq; cases hq; rfl
   rw [e2] at hj ⊢
   simp only [hgq, ← hpq] at hj
   refine HR.region ?_
   repeat' (first | refine zn ?_ | refine HL.idxR (Rd.own 0 I) elemPt a I I I I hal ?_ | refine HL.fieldN 2 (Rd.own 0 I) (show a * 6 < (cellsOf ptC L).length by rw [hcl]; omega) I I I I I I I ?_ | refine HL.loadI (Rd.own 0 I) I I I I (cells_get ptC_len hp (i := 2) I) ?_ | intro (bk : Nat))
   exact hj () _ _ trivial ⟨I, I, I, I, I, I, I, I, I, trivial⟩ Ent.refl
end Go.Proofs.YtgdgclmkpoaagaaGreat
namespace Go.Proofs.YtgdgclmkpoaagaaGreat
open Go.GX Go.RowKit
attribute [local irreducible] Calls Run RunL RunQ RunD HR HL HD blkC ownC Rd
open Nd
theorem fn175 : IsFn Tryz.prog 175 := ⟨⟨_, _, Tryz.func175, rfl, by decide⟩⟩
theorem fn119 : IsFn Tryz.prog 119 := ⟨⟨_, _, Tryz.func119, rfl, by decide⟩⟩
theorem fn53 : IsFn Tryz.prog 53 := ⟨⟨_, _, Tryz.func53, rfl, by decide⟩⟩
theorem samePc_any (a b : List By) (va vb : Value) (w : World) (ha : Sl w va (cellsOf sC a) a.length) (hb : Sl w vb (cellsOf sC b) b.length) (hla : a.length ≤ 1000000) :
  Calls Tryz.prog 175 #[va, vb] w fun e' w' => e' = .returned (.bool (decide (a = b))) ∧ Below w.heap.size w w' := by
 refine calls_hr Tryz.func175 I (Nat.le_of_ble_eq_true I) ?_
 refine HR.sub (σ' := [(0, va), (1, vb)]) ⟨I, I, trivial⟩ ?_
 repeat' (first | refine zh ?_ | refine HL.lenR (Rd.arg ha) I I I ?_ | refine HL.lenR (Rd.arg hb) I I I ?_ | apply zb ?_ ?_ | exact zc | (refine zi fun hb => ?_; try simp at hb) | intro (bk : Nat))
 refine HR.cond I (fun h1 => ?_) (fun h1 => ?_)
 ·repeat' (first | refine zh ?_ | apply zb ?_ ?_ | exact zc | (refine zi fun hb => ?_; try simp at hb) | intro (bk : Nat))
  refine HR.ret Tryz.func175 I [_] (fun _ _ => ⟨I, trivial⟩) ?_
  have : a ≠ b := by rintro rfl; simp at h1
  exact fun w' hw => ⟨by simp [this, resV], hw.belowB⟩
 have hl : a.length = b.length := by have h1' : ((a.length : Int) != (b.length : Int)) = false := h1; simp at h1'; omega
 repeat' (first | refine zh ?_ | refine HL.lenR (Rd.arg ha) I I I ?_ | intro (bk : Nat))
 refine HR.loop (ι := Nat) (fun k => k ≤ a.length ∧ a.take k = b.take k) (fun k => [(0, va), (1, vb), (12, .int .i64 (a.length : Int)), (13, .int .i64 (k : Int))]) (fun _ => []) (fun k => a.length - k) 0 ⟨Nat.zero_le _, by simp⟩ ⟨I, I, I, I, trivial⟩ Ent.refl ?_
 rintro k ⟨hk, hg⟩ ih
 repeat' (first | refine zh ?_ | intro (bk : Nat))
 refine HR.cond I (fun h2 => ?_) (fun h2 => ?_)
 ·have hlt : k < a.length := by have := of_decide_eq_true h2; omega
  obtain ⟨x, hx⟩ := getSome hlt
  obtain ⟨y, hy⟩ := getSome (show k < b.length by omega)
  repeat' (first | refine zh ?_ | intro (bk : Nat))
  refine HR.regionQ hmix (by kernel_rfl) ?_
  repeat' (first | refine zq ?_ | refine HQ.idxR (Rd.arg ha) elemS k I I I I hlt ?_ | refine HQ.idxR (Rd.arg hb) elemS k I I I I (by omega) ?_ | refine HQ.loadI (Rd.arg ha) I I I I (cellsOf_get1 hx) ?_ | refine HQ.loadI (Rd.arg hb) I I I I (cellsOf_get1 hy) ?_ | apply zb ?_ ?_ | exact zc | (refine zi fun hb => ?_; try simp at hb))
  refine HR.cond I (fun h3 => ?_) (fun h3 => ?_)
  ·have h3 : x ≠ y := by have h3 : (x != y) = true := h3; simpa using h3
   repeat' (first | refine zh ?_ | intro (bk : Nat))
   refine HR.ret Tryz.func175 I [_] (fun _ _ => ⟨I, trivial⟩) ?_
   have : a ≠ b := by rintro rfl; rw [hx] at hy; cases hy; exact h3 I
   exact fun w' hw => ⟨by simp [this, resV], hw.belowB⟩
  ·have hxy : x = y := by have h3 : (x != y) = false := h3; simpa using h3
   repeat' (first | refine zh ?_ | intro (bk : Nat))
   refine ih (k + 1) _ _ ⟨hlt, ?_⟩ (by omega) ⟨I, I, I, I, trivial⟩ Ent.refl
   rw [take_succ_get hx, take_succ_get hy, hg, hxy]
 ·have hke : k = a.length := by have := of_decide_eq_false h2; omega
  subst hke
  repeat' (first | refine zh ?_ | intro (bk : Nat))
  refine HR.ret Tryz.func175 I [_] (fun _ _ => ⟨I, trivial⟩) ?_
  have : a = b := by rw [← List.take_length (l := a), hg, hl, List.take_length]
  exact fun w' hw => ⟨by simp [this, resV], hw.belowB⟩
theorem samePt_any (a b : PtV) (w : World) (ha : RdPt w a) (hb : RdPt w b) (hla : a.pt.hv.length ≤ 1000000) (hla2 : a.pt.da.length ≤ 1000000) :
  Calls Tryz.prog 119 #[.agg ⟨ptC a⟩, .agg ⟨ptC b⟩] w fun e' w' => e' = .returned (.bool (decide (a.pt = b.pt))) ∧ Below w.heap.size w w' := by
 obtain ⟨ah, ad, p⟩ := a
 obtain ⟨bh, bd, q⟩ := b
 have h1 : Sl w ah (cellsOf bC p.hv) p.hv.length := ha.h
 have h2 : Sl w ad (cellsOf sC p.da) p.da.length := ha.d
 have h3 : Sl w bh (cellsOf bC q.hv) q.hv.length := hb.h
 have h4 : Sl w bd (cellsOf sC q.da) q.da.length := hb.d
 have hla : p.hv.length ≤ 1000000 := hla
 have hla2 : p.da.length ≤ 1000000 := hla2
 show Calls _ _ _ w fun e' w' => e' = .returned (.bool (decide (p = q))) ∧ _
 refine calls_hr Tryz.func119 I (Nat.le_of_ble_eq_true I) ?_
 refine HR.sub (σ' := [(0, .agg ⟨ptC ⟨ah, ad, p⟩⟩), (1, .agg ⟨ptC ⟨bh, bd, q⟩⟩)]) ⟨I, I, trivial⟩ ?_
 refine HR.ctl I ?_
 refine HR.region ?_
 refine HL.box I I ?_
 intro b2
 refine HL.box I I ?_
 intro b3
 repeat' (first | refine zh ?_ | refine HL.lenR (Rd.arg h1) I I I ?_ | refine HL.lenR (Rd.arg h3) I I I ?_ | apply zb ?_ ?_ | exact zc | (refine zi fun hb => ?_; try simp at hb) | intro (bk : Nat))
 refine HR.cond I (fun h => ?_) (fun h => ?_)
 ·have h : (((((p.so != q.so) || (p.id != q.id)) || (p.ct != q.ct)) || (p.si != q.si)) || ((p.hv.length : Int) != (q.hv.length : Int))) = true := h
  repeat' (first | refine zh ?_ | intro (bk : Nat))
  refine HR.ret Tryz.func119 I [_] (fun _ _ => ⟨I, trivial⟩) ?_
  have : p ≠ q := by rintro rfl; simp at h
  exact fun w' hw => ⟨by simp [this, resV], hw.belowB⟩
 have h : (((((p.so != q.so) || (p.id != q.id)) || (p.ct != q.ct)) || (p.si != q.si)) || ((p.hv.length : Int) != (q.hv.length : Int))) = false := h
 simp only [Bool.or_eq_false_iff, bne_eq_false_iff_eq] at h
 obtain ⟨⟨⟨⟨g1, g2⟩, g3⟩, g4⟩, g5⟩ := h
 have hl : p.hv.length = q.hv.length := by omega
 repeat' (first | refine zh ?_ | refine HL.lenR (Rd.arg h1) I I I ?_ | intro (bk : Nat))
 refine HR.loop (ι := Nat) (fun k => k ≤ p.hv.length ∧ p.hv.take k = q.hv.take k) (fun k => [(2, .pointer (some ⟨b2, 0, none⟩)), (3, .pointer (some ⟨b3, 0, none⟩)), (43, .int .i64 (p.hv.length : Int)), (44, .int .i64 (k : Int))]) (fun _ => [blkC b3 (ptC ⟨bh, bd, q⟩) 76, blkC b2 (ptC ⟨ah, ad, p⟩) 76]) (fun k => p.hv.length - k) 0 ⟨Nat.zero_le _, by simp⟩ ⟨I, I, I, I, trivial⟩ Ent.refl ?_
 rintro k ⟨hk, hg⟩ ih
 repeat' (first | refine zh ?_ | intro (bk : Nat))
 refine HR.cond I (fun h5 => ?_) (fun h5 => ?_)
 ·have hlt : k < p.hv.length := by have := of_decide_eq_true h5; omega
  obtain ⟨x, hx⟩ := getSome hlt
  obtain ⟨y, hy⟩ := getSome (show k < q.hv.length by omega)
  repeat' (first | refine zh ?_ | intro (bk : Nat))
  refine HR.regionQ hmix (by kernel_rfl) ?_
  repeat' (first | refine zq ?_ | refine HQ.idxR (Rd.arg h1) elemB k I I I I hlt ?_ | refine HQ.idxR (Rd.arg h3) elemB k I I I I (by omega) ?_ | refine HQ.loadI (Rd.arg h1) I I I I (cellsOf_get1 hx) ?_ | refine HQ.loadI (Rd.arg h3) I I I I (cellsOf_get1 hy) ?_ | apply zb ?_ ?_ | exact zc | (refine zi fun hb => ?_; try simp at hb))
  refine HR.cond I (fun h6 => ?_) (fun h6 => ?_)
  ·have h6 : x ≠ y := by have h6 : (x != y) = true := h6; simpa using h6
   repeat' (first | refine zh ?_ | intro (bk : Nat))
   refine HR.ret Tryz.func119 I [_] (fun _ _ => ⟨I, trivial⟩) ?_
   have : p ≠ q := by rintro rfl; rw [hx] at hy; cases hy; exact h6 I
   exact fun w' hw => ⟨by simp [this, resV], hw.belowB⟩
  ·have hxy : x = y := by have h6 : (x != y) = false := h6; simpa using h6
   repeat' (first | refine zh ?_ | intro (bk : Nat))
   refine ih (k + 1) _ _ ⟨hlt, ?_⟩ (by omega) ⟨I, I, I, I, trivial⟩ Ent.refl
   rw [take_succ_get hx, take_succ_get hy, hg, hxy]
 ·have hke : k = p.hv.length := by have := of_decide_eq_false h5; omega
  subst hke
  have g6 : p.hv = q.hv := by rw [← List.take_length (l := p.hv), hg, hl, List.take_length]
  have key : decide (p.da = q.da) = decide (p = q) := by
   obtain ⟨p1, p2, p3, p4, p5, p6⟩ := p
   obtain ⟨q1, q2, q3, q4, q5, q6⟩ := q
   simp only at g1 g2 g3 g4 g6
   subst g1; subst g2; subst g3; subst g4; subst g6
   simp
  repeat' (first | refine zh ?_ | refine HL.callB fn175 I I (fun w1 hw1 => samePc_any p.da q.da ad bd w1 ((Rd.arg h2).at hw1) ((Rd.arg h4).at hw1) hla2) ?_ | intro (bk : Nat))
  refine HR.ret Tryz.func119 I [_] (fun _ _ => ⟨I, trivial⟩) ?_
  exact fun w' hw => ⟨by rw [key]; rfl, hw.belowB⟩
theorem sameL_any (a b : List PtV) (va vb : Value) (w : World) (ha : RdPts w va a) (hb : RdPts w vb b) (hla : a.length ≤ 1000000) (hls : ∀ p ∈ a, p.pt.hv.length ≤ 1000000 ∧ p.pt.da.length ≤ 1000000) :
  Calls Tryz.prog 53 #[va, vb] w fun e' w' => e' = .returned (.bool (decide (pts a = pts b))) ∧ Below w.heap.size w w' := by
 refine calls_hr Tryz.func53 I (Nat.le_of_ble_eq_true I) ?_
 refine HR.sub (σ' := [(0, va), (1, vb)]) ⟨I, I, trivial⟩ ?_
 repeat' (first | refine zh ?_ | refine HL.lenR (Rd.arg ha.s) I I I ?_ | refine HL.lenR (Rd.arg hb.s) I I I ?_ | apply zb ?_ ?_ | exact zc | (refine zi fun hb => ?_; try simp at hb) | intro (bk : Nat))
 refine HR.cond I (fun h1 => ?_) (fun h1 => ?_)
 ·have h1 : a.length ≠ b.length := by have h1 : ((a.length : Int) != (b.length : Int)) = true := h1; simp at h1; omega
  repeat' (first | refine zh ?_ | apply zb ?_ ?_ | exact zc | (refine zi fun hb => ?_; try simp at hb) | intro (bk : Nat))
  refine HR.ret Tryz.func53 I [_] (fun _ _ => ⟨I, trivial⟩) ?_
  have : pts a ≠ pts b := fun e => h1 (by rw [← pts_len a, ← pts_len b, e])
  exact fun w' hw => ⟨by simp [this, resV], hw.belowB⟩
 have hl : a.length = b.length := by have h1' : ((a.length : Int) != (b.length : Int)) = false := h1; simp at h1'; omega
 repeat' (first | refine zh ?_ | refine HL.lenR (Rd.arg ha.s) I I I ?_ | intro (bk : Nat))
 refine HR.loop (ι := Nat) (fun k => k ≤ a.length ∧ (pts a).take k = (pts b).take k) (fun k => [(0, va), (1, vb), (12, .int .i64 (a.length : Int)), (13, .int .i64 (k : Int))]) (fun _ => []) (fun k => a.length - k) 0 ⟨Nat.zero_le _, by simp⟩ ⟨I, I, I, I, trivial⟩ Ent.refl ?_
 rintro k ⟨hk, hg⟩ ih
 repeat' (first | refine zh ?_ | intro (bk : Nat))
 refine HR.cond I (fun h2 => ?_) (fun h2 => ?_)
 ·have hlt : k < a.length := by have := of_decide_eq_true h2; omega
  obtain ⟨x, hx⟩ := getSome hlt
  obtain ⟨y, hy⟩ := getSome (show k < b.length by omega)
  have hxm := List.mem_of_getElem? hx
  have hym := List.mem_of_getElem? hy
  repeat' (first | refine zh ?_ | intro (bk : Nat))
  refine HR.regionD [(0, true), (1, true), (2, true), (3, true), (4, true), (5, true), (6, true), (7, true), (8, false), (9, true)] [] I I hmix (by kernel_rfl) ?_
  repeat' (first | refine zd ?_ | refine HD.callB [] I I fn119 I I I (fun w1 hw1 => samePt_any x y w1 ((ha.r x hxm).ext hw1.belowB) ((hb.r y hym).ext hw1.belowB) (hls x hxm).1 (hls x hxm).2) ?_ | refine HD.idxR (Rd.arg ha.s) elemPt k I I I I I hlt ?_ | refine HD.idxR (Rd.arg hb.s) elemPt k I I I I I (by omega) ?_ | refine HD.loadE (Rd.arg ha.s) I I I I I (by simp) I (cellsOf_get ptC_len hx) ?_ | refine HD.loadE (Rd.arg hb.s) I I I I I (by simp) I (cellsOf_get ptC_len hy) ?_)
  refine HD.nil ?_
  refine HR.cond I (fun h3 => ?_) (fun h3 => ?_)
  ·have h3 : x.pt ≠ y.pt := by have h3 : (!decide (x.pt = y.pt)) = true := h3; simpa using h3
   repeat' (first | refine zh ?_ | intro (bk : Nat))
   refine HR.ret Tryz.func53 I [_] (fun _ _ => ⟨I, trivial⟩) ?_
   have : pts a ≠ pts b := by
    intro e
    have e1 := pts_get hx
    have e2 := pts_get hy
    rw [e, e2] at e1
    exact h3 (Option.some.inj e1).symm
   exact fun w' hw => ⟨by simp [this, resV], hw.belowB⟩
  ·have hxy : x.pt = y.pt := by have h3 : (!decide (x.pt = y.pt)) = false := h3; simpa using h3
   repeat' (first | refine zh ?_ | intro (bk : Nat))
   refine ih (k + 1) _ _ ⟨hlt, ?_⟩ (by omega) ⟨I, I, I, I, trivial⟩ Ent.refl
   rw [take_succ_get (pts_get hx), take_succ_get (pts_get hy), hg, hxy]
 ·have hke : k = a.length := by have := of_decide_eq_false h2; omega
  subst hke
  repeat' (first | refine zh ?_ | intro (bk : Nat))
  refine HR.ret Tryz.func53 I [_] (fun _ _ => ⟨I, trivial⟩) ?_
  have : pts a = pts b := by rw [← List.take_length (l := pts a), pts_len, hg, hl, ← pts_len b, List.take_length]
  exact fun w' hw => ⟨by simp [this, resV], hw.belowB⟩
end Go.Proofs.YtgdgclmkpoaagaaGreat
namespace Go.GX
open Go.RowKit
def predL (md : Region.Mode) (ops : Array Oper) (i : Nat) : List Nat := match ops[i]? with
 | some o => (o.after.toList.filter fun e => Region.binds md e).map (·.on)
 | none => []
def addNew : List Nat → List Nat → List Nat
 | l, [] => l
 | l, x :: xs => match natIn x l with
  | true => addNew l xs
  | false => addNew (x :: l) xs
def closeL (md : Region.Mode) (ops : Array Oper) : Nat → List Nat → List Nat
 | 0, l => l
 | n + 1, l => closeL md ops n (addNew l (l.flatMap (predL md ops)))
def waitsT (md : Region.Mode) (ops : Array Oper) (z : Nat) : Bool := (List.range ops.size).all fun i => Nat.beq i z || natIn i (closeL md ops 12 (predL md ops z))
def Closed (md : Region.Mode) (ops : Array Oper) (listed : Array Bool) : Prop := ∀ (j : Nat) (oj : Oper), ops[j]? = some oj → listed.getD j true = true → ∀ e ∈ oj.after, Region.binds md e = true → listed.getD e.on false = true
section
variable {P : Program} {md : Region.Mode} {ops : Array Oper} {Q : Exit → Act → World → Prop} {S : World → Prop} {z : Nat} {listed : Array Bool}
theorem addNew_mem {x : Nat} : ∀ {xs l : List Nat}, x ∈ addNew l xs → x ∈ l ∨ x ∈ xs
 | [], l, h => .inl h
 | y :: xs, l, h => by
  unfold addNew at h
  split at h
  ·exact (addNew_mem h).imp id (List.mem_cons_of_mem _)
  ·rcases addNew_mem h with h | h
   ·rcases List.mem_cons.1 h with rfl | h
    ·exact .inr (List.mem_cons_self ..)
    ·exact .inl h
   ·exact .inr (List.mem_cons_of_mem _ h)
theorem predL_spec {i j : Nat} (h : j ∈ predL md ops i) : ∃ o, ops[i]? = some o ∧ ∃ e ∈ o.after, Region.binds md e = true ∧ e.on = j := by
 unfold predL at h
 split at h
 ·rename_i o ho
  obtain ⟨e, he, rfl⟩ := List.mem_map.1 h
  rw [List.mem_filter] at he
  exact ⟨o, ho, e, by simpa using he.1, he.2, rfl⟩
 ·cases h
theorem getD_two {j : Nat} (h : listed.getD j false = true) : listed.getD j true = true := by
 simp only [Array.getD_eq_getD_getElem?] at *
 cases h2 : listed[j]? with
 | none => rfl
 | some b => rw [h2] at h; exact h
theorem closeL_listed (hc : Closed md ops listed) : ∀ (n : Nat) (l : List Nat), (∀ x ∈ l, listed.getD x false = true) → ∀ x ∈ closeL md ops n l, listed.getD x false = true
 | 0, l, h, x, hx => h x hx
 | n + 1, l, h, x, hx => by
  refine closeL_listed hc n _ (fun y hy => ?_) x hx
  rcases addNew_mem hy with hy | hy
  ·exact h y hy
  ·obtain ⟨i, hi, hy⟩ := List.mem_flatMap.1 hy
   obtain ⟨o, ho, e, he, hb, rfl⟩ := predL_spec hy
   exact hc i o ho (getD_two (h i hi)) e he hb
theorem waitsT_spec (hz : waitsT md ops z = true) (hc : Closed md ops listed) (hr : z ∈ Region.ready md ops listed) {i : Nat} (hi : i < ops.size) (hne : i ≠ z) : listed.getD i false = true := by
 have h1 := List.all_eq_true.1 hz i (List.mem_range.2 hi)
 have h2 : Nat.beq i z = false := by
  rw [← Bool.not_eq_true]; intro hb; exact hne (Nat.eq_of_beq_eq_true hb)
 rw [h2, Bool.false_or] at h1
 obtain ⟨_, oz, hoz, hall⟩ := mem_ready.1 hr
 refine closeL_listed hc 12 _ (fun y hy => ?_) i (natIn_mem h1)
 obtain ⟨o, ho, e, he, hb, rfl⟩ := predL_spec hy
 rw [hoz] at ho; cases ho
 exact hall e he hb
theorem Closed.set (hc : Closed md ops listed) {j : Nat} (hr : j ∈ Region.ready md ops listed) : Closed md ops (listed.setIfInBounds j true) := by
 obtain ⟨_, oj, hoj, hall⟩ := mem_ready.1 hr
 intro k ok hk hl e he hb
 by_cases hkj : j = k
 ·subst hkj
  rw [hoj] at hk; cases hk
  exact getD_set_true (hall e he hb)
 ·rw [getD_set_ne true hkj] at hl
  exact getD_set_true (hc k ok hk hl e he hb)
theorem Closed.start {n : Nat} (hn : n = ops.size) : Closed md ops (Array.replicate n false) := by
 subst hn
 intro j oj hj hl
 have hlt := (Array.getElem?_eq_some_iff.1 hj).1
 simp [Array.getD_eq_getD_getElem?, hlt] at hl
theorem wpAnyT_first (hz : waitsT md ops z = true) {i : Nat} {oi : Oper} {v : Value} (hi : ops[i]? = some oi) (hiz : i ≠ z) (hsel : ∀ (j : Nat) (o : Oper) cs b, ops[j]? = some o → o.op ≠ .select cs b)
  (hQ : ∀ c a w, Q (.panic c) (a.put oi.dst v) w → Q (.panic c) a w) :
  ∀ (fuel : Nat) (listed : Array Bool) (a : Act) (w : World), Closed md ops listed →
   (∀ j oj, ops[j]? = some oj → j ≠ i → listed.getD j true = false → (∀ e ∈ oj.after, Region.binds md e = true → e.on ≠ i) → oi.apart ops oj = true) →
   i ∈ Region.ready md ops listed → YieldsIf P ops S oi v a → S w →
   wpAnyZ P md ops Q S z fuel (listed.setIfInBounds i true) (a.put oi.dst v) w → wpAnyZ P md ops Q S z (fuel + 1) listed a w := by
 intro fuel
 induction fuel with
 | zero =>
  intro listed a w _ _ hr hy hS H
  refine ⟨fun h => (by rw [h] at hr; cases hr), fun j hj => ?_⟩
  by_cases hji : j = i
  ·subst hji; exact hy.wpOp hi hS ⟨.inr hS, H⟩
  ·have := ready_mono hj hji
   rw [H.1] at this
   cases this
 | succ fuel ih =>
  intro listed a w hc hfree hr hy hS H
  refine ⟨fun h => (by rw [h] at hr; cases hr), fun j hj => ?_⟩
  by_cases hji : j = i
  ·subst hji; exact hy.wpOp hi hS ⟨.inr hS, H⟩
  ·have h1 := H.2 j (ready_mono hj hji)
   obtain ⟨hjun, oj, hoj, hall⟩ := mem_ready.1 hj
   have h0 := (mem_ready.1 hr).1
   have hnot : ∀ e ∈ oj.after, Region.binds md e = true → e.on ≠ i := fun e he hb heq => by
    have h1 := hall e he hb
    rw [heq] at h1
    rw [getD_two h1] at h0; cases h0
   have hjz : j ≠ z := by
    intro e
    subst e
    have := waitsT_spec hz hc hj (Array.getElem?_eq_some_iff.1 hi).1 (Ne.symm hji)
    rw [getD_two this] at h0; cases h0
   have h2 := wpOp_putIf hoj (hfree j oj hoj hji hjun hnot) (fun cs b => hsel i oi cs b hi) (fun cs b => hsel j oj cs b hoj) hQ hy h1
   have hfree' : ∀ k ok, ops[k]? = some ok → k ≠ i → (listed.setIfInBounds j true).getD k true = false →
     (∀ e ∈ ok.after, Region.binds md e = true → e.on ≠ i) → oi.apart ops ok = true := fun k ok hk hki hun hno => by
    refine hfree k ok hk hki ?_ hno
    by_cases hjk : j = k
    ·subst hjk; exact hjun
    ·rw [getD_set_ne true hjk] at hun; exact hun
   refine wpOp_mono (fun a' w' h3 => ?_) h2
   have hS' : S w' := h3.2.1.resolve_left hjz
   refine ⟨.inr hS', ih (listed.setIfInBounds j true) a' w' (hc.set hj) hfree' (ready_mono hr (Ne.symm hji)) h3.1 hS' ?_⟩
   rw [Array.setIfInBounds_comm _ _ hji]
   exact h3.2.2
end
def notIn (z : Nat) : List (Nat × Bool) → Bool
 | [] => true
 | (i, _) :: p => match Nat.beq i z with
  | true => false
  | false => notIn z p
def planOkY (ops : Array Oper) (p : List (Nat × Bool)) (z : Nat) : Bool := Region.noSelect ops && Nat.beq (p.length + 1) ops.size && notIn z p && waitsT .any ops z && planB ops (p ++ [(z, false)]) (Array.replicate ops.size false)
section
variable {P : Program} {f : FuncId} {N : Nat} {k : List Item} {σ : Store} {B : Base} {H F : List Chunk} {R : Ending → World → Prop} {ops l : List Oper} {o : Oper} {K : Act → World → Prop} {S : World → Prop} {z : Nat}
theorem wpOp_QN {ops : Array Oper} {K1 K2 : Act → World → Prop} {i : Nat} {next : Act → World → Prop} {a : Act} {w : World} (h : wpOp P ops (QN K1) i next a w) : wpOp P ops (QN K2) i next a w := by
 unfold wpOp at *
 split
 ·rename_i ho
  simpa [ho] using h
 ·rename_i o ho
  simp only [ho] at h
  split
  ·rename_i hw
   rw [if_pos hw] at h
   rcases h with h | h
   ·exact .inl (wp_QN h)
   ·exact (QN_noOut h.2).elim
  ·rename_i hw
   rw [if_neg hw] at h
   exact h
theorem wpAnyZ_of_planY {ops : Array Oper} {K : Act → World → Prop} (hn : Region.noSelect ops = true) (hz : waitsT .any ops z = true) : ∀ (p : List (Nat × Bool)) (listed : Array Bool) (a : Act) (w : World), S w → Closed .any ops listed → notIn z p = true →
  planB ops (p ++ [(z, false)]) listed = true → wpPlan P ops S (fun a w => wpOp P ops (QN K) z K a w) p a w → wpAnyZ P .any ops (QN K) S z (p.length + 1) listed a w
 | [], listed, a, w, hS, _, _, hB, h => by
  simp only [List.nil_append, planB, Bool.and_eq_true, decide_eq_true_eq] at hB
  refine ⟨fun h0 => absurd (hB.1.symm.trans h0) (by simp), fun j hj => ?_⟩
  rw [hB.1] at hj
  have : j = z := by simpa using hj
  subst this
  exact wpOp_mono (fun a' w' h' => ⟨.inl rfl, by simpa using hB.2, rfl, h'⟩) h
 | (i, true) :: p, listed, a, w, hS, hc, hnz, hB, h => by
  obtain ⟨o, v, ho, hy, h⟩ := h
  simp only [List.cons_append, planB, Bool.and_eq_true] at hB
  have hf := Region.free_spec ho hB.1.2
  unfold notIn at hnz
  split at hnz
  ·cases hnz
  ·rename_i hb
   have hiz : i ≠ z := by rintro rfl; rw [Nat.beq_refl] at hb; cases hb
   have hr : i ∈ Region.ready .any ops listed := by simpa using hB.1.1
   exact wpAnyT_first hz ho hiz (Region.noSelect_spec hn) (fun c a w h => absurd h.1 (by nofun)) _ listed a w hc hf hr hy hS (wpAnyZ_of_planY hn hz p _ _ _ hS (hc.set hr) hnz hB.2 h)
 | (i, false) :: p, listed, a, w, hS, hc, hnz, hB, h => by
  simp only [List.cons_append, planB, Bool.and_eq_true, decide_eq_true_eq] at hB
  refine ⟨fun h0 => absurd (hB.1.symm.trans h0) (by simp), fun j hj => ?_⟩
  have hj0 := hj
  rw [hB.1] at hj
  have : j = i := by simpa using hj
  subst this
  unfold notIn at hnz
  split at hnz
  ·cases hnz
  ·exact wpOp_QN (wpOp_mono (fun a' w' h' => ⟨.inr h'.1, wpAnyZ_of_planY hn hz p _ _ _ h'.1 (hc.set hj0) hnz hB.2 h'.2⟩) h)
theorem HR.regionY (p : List (Nat × Bool)) (z : Nat) (is : List Nat) (hF : pickC H is = some F) (hd : distinctN is = true) {id : Nat} (hm : P.follows .mixedOrders = true) (hB : planOkY ops.toArray p z = true)
  (h : HD P N ops p σ B H F (KZ P ops z (CRun P f k R))) : HR P f N (.code (.region id ops.toArray true) :: k) σ B H R := by
 intro w hw a ha
 simp only [planOkY, Bool.and_eq_true] at hB
 obtain ⟨⟨⟨⟨h1, h2⟩, h3⟩, h4⟩, h5⟩ := hB
 have hb : Below w.heap.size w { w with drawn := w.drawn + 1 } := ⟨rfl, rfl, rfl, Nat.le_refl _, fun _ _ => rfl⟩
 have hw1 : Sat B H { w with drawn := w.drawn + 1 } := hw.grow hb
 refine CRun.of_wp (wp_region_any hm (wpAny_of_Z (S := fun w => Sat B F w) (z := z) _ _ _ _ ?_))
 rw [show ops.toArray.size = p.length + 1 from (Nat.eq_of_beq_eq_true h2).symm]
 rw [show ops.toArray.size = p.length + 1 from (Nat.eq_of_beq_eq_true h2).symm] at h5
 exact wpAnyZ_of_planY h1 h4 p _ _ _ (hw1.pick is hF hd) (Closed.start (Nat.eq_of_beq_eq_true h2)) h3 h5 (h _ hw1 (hw1.pick is hF hd) a ha)
end
end Go.GX
namespace Go.Proofs.YtgdgclmkpoaagaaGreat
open Go.GX Go.RowKit
attribute [local irreducible] Calls Run RunL RunQ RunD HR HL HD blkC ownC Rd
open Nd
theorem fn75 : IsFn Tryz.prog 75 := ⟨⟨_, _, Tryz.func75, rfl, by decide⟩⟩
theorem fn44 : IsFn Tryz.prog 44 := ⟨⟨_, _, Tryz.func44, rfl, by decide⟩⟩
theorem fn72 : IsFn Tryz.prog 72 := ⟨⟨_, _, Tryz.func72, rfl, by decide⟩⟩
theorem fn43 : IsFn Tryz.prog 43 := ⟨⟨_, _, Tryz.func43, rfl, by decide⟩⟩
abbrev SV := Option Addr × Nat
abbrev sv (x : SV) (n : Nat) : Value := .slice x.1 n x.2
structure NV where
 ta : SV
 li : SV
 ou : SV
 ch : SV
 bo : SV
 se : SV
 pa : SV
 ib : SV
 ps : List PtV
abbrev ndC (V : NV) (n : Nd) : List Value := [.int .i64 n.addr, .int .i64 n.poll, .int .i64 n.parent, sv V.ta n.table.length, sv V.li n.links.length, sv V.ou n.out.length, sv V.ch n.children.length, sv V.bo n.boxes.length, sv V.se n.seen.length, sv V.pa V.ps.length, sv V.ib n.inbox.length, .int .i64 n.seq, .int .i64 n.lost]
abbrev stC (V : NV) (n : Nd) (now : Int) : List Value := [.int .i64 n.addr, .int .i64 n.poll, .int .i64 n.parent, sv V.ta n.table.length, sv V.li n.links.length, sv V.ou n.out.length, sv V.ch n.children.length, sv V.bo n.boxes.length, sv V.se n.seen.length, sv V.pa V.ps.length, sv V.ib n.inbox.length, .int .i64 n.seq, .int .i64 n.lost, .int .i64 now]
abbrev cTa (v : Value) (l : List Ro) : Chunk := ownC v 79 4 l.length (cellsOf roC l)
abbrev cLi (v : Value) (l : List Li) : Chunk := ownC v 129 3 l.length (cellsOf liC l)
abbrev cSn (v : Value) (l : List Sn) : Chunk := ownC v 48 11 l.length (cellsOf snC l)
abbrev cI (v : Value) (l : List Int) : Chunk := ownC v 3 1 l.length (cellsOf iC l)
abbrev cMa (v : Value) (l : List Ma) : Chunk := ownC v 73 10 l.length (cellsOf maC l)
abbrev cPr (v : Value) (l : List Pr) : Chunk := ownC v 135 2 l.length (cellsOf prC l)
abbrev cPt (v : Value) (l : List PtV) : Chunk := ownC v 76 6 l.length (cellsOf ptC l)
abbrev cDe (v : Value) (l : List De) : Chunk := ownC v 70 2 l.length (cellsOf deC l)
abbrev ndH (V : NV) (n : Nd) : List Chunk := [cTa (sv V.ta n.table.length) n.table, cLi (sv V.li n.links.length) n.links, cSn (sv V.ou n.out.length) n.out, cI (sv V.ch n.children.length) n.children, cMa (sv V.bo n.boxes.length) n.boxes, cPr (sv V.se n.seen.length) n.seen, cPt (sv V.pa V.ps.length) V.ps, groupC (ptG V.ps), cDe (sv V.ib n.inbox.length) n.inbox]
abbrev blkS (b : Nat) (V : NV) (n : Nd) (now : Int) : Chunk := blkC b (stC V n now) 84
abbrev stH (b : Nat) (V : NV) (n : Nd) (now : Int) : List Chunk := blkS b V n now :: ndH V n
abbrev ptr (b : Nat) : Value := .pointer (some ⟨b, 0, none⟩)
structure Pts (V : NV) (n : Nd) : Prop where
 eq : pts V.ps = n.parts
 sh : ∀ p ∈ V.ps, ShPt p
theorem slose_any (b : Nat) (V : NV) (n : Nd) (now : Int) (B : Base) (w : World) (hw : Sat B [blkS b V n now] w) (ho : 0 ≤ n.lost ∧ n.lost ≤ maxTick) :
  Calls Tryz.prog 75 #[ptr b] w fun e w' => ∃ _x : Unit, e = .returned (.tuple ⟨[]⟩) ∧ True ∧ Sat ⟨w, feet [blkS b V n now]⟩ [blkS b V (lose n) now] w' := by
 obtain ⟨h0, h1⟩ := ho
 have h1 : n.lost ≤ 1099511627776 := h1
 refine calls_hrW [blkS b V n now] (hw) Tryz.func75 I (Nat.le_of_ble_eq_true I) ?_
 refine HR.sub (σ' := [(0, ptr b)]) ⟨I, trivial⟩ ?_
 repeat' (first | refine zh ?_ | intro (bk : Nat))
 refine HR.fin Tryz.func75 I [] (fun _ _ => trivial) ?_
 have e : (if 1099511627776 < n.lost + 1 then (1099511627776 : Int) else n.lost + 1) = min (n.lost + 1) maxTick := by
  show _ = min (n.lost + 1) 1099511627776
  split <;> omega
 refine fun w' hw => ⟨(), rfl, trivial, ?_⟩
 have hw2 : Sat _ [blkS b V { n with lost := if 1099511627776 < n.lost + 1 then 1099511627776 else n.lost + 1 } now] w' := hw
 rw [e] at hw2
 exact hw2
theorem squeue_any (b : Nat) (V : NV) (n : Nd) (now : Int) (f : Fr) (B : Base) (w : World) (hw : Sat B (stH b V n now) w) (ho : Ord n) :
  Calls Tryz.prog 44 #[ptr b, .agg ⟨frC f⟩] w fun e w' => ∃ x : SV, e = .returned (.bool (queue n f).2) ∧ True ∧ Sat ⟨w, feet (stH b V n now)⟩ (stH b { V with ou := x } (queue n f).1 now) w' := by
 have h16 := ho.out
 have hlo := ho.lost
 refine calls_hrW (stH b V n now) (hw) Tryz.func44 I (Nat.le_of_ble_eq_true I) ?_
 refine HR.sub (σ' := [(0, ptr b), (1, .agg ⟨frC f⟩)]) ⟨I, I, trivial⟩ ?_
 repeat' (first | refine zh ?_ | intro (bk : Nat))
 refine HR.regionD [(0, true), (1, true), (2, true), (3, true), (4, true), (5, true), (6, false), (7, true), (8, true), (9, true), (10, true), (11, true)] [0, 1] I I hmix (by kernel_rfl) ?_
 repeat' (first | refine zd ?_ | fail)
 refine HD.one I ?_
 refine HL.callX (r := fun v' : Value => .tuple ⟨[v', .bool (mput n.out f).2]⟩) (Q := fun _ => True) (G := fun v' => [cSn v' (mput n.out f).1]) fn117 I I (fun w1 hw1 => mput_any n.out f (sv V.ou n.out.length) w1 ((Rd.own 4 rfl).at hw1) (by omega)) ?_
 intro v1 _
 refine HL.shape 0 I fun a c hv => ?_
 subst hv
 refine HL.back [1, 2] I I ?_
 repeat' (first | refine zd ?_ | fail)
 refine HD.nil ?_
 obtain ⟨q, hq⟩ : ∃ q, q = mput n.out f := ⟨_, rfl⟩
 have hsp : queue n f = (if q.2 = false ∨ q.1.length = n.out.length then lose { n with out := q.1 } else { n with out := q.1 }, q.2) := by rw [hq]; rfl
 rw [hsp, ← hq]
 refine HR.ent (H' := blkS b V n now :: cSn (.slice a q.1.length c) q.1 :: ndH V n) (Ent.pick [2, 0, 3, 4, 5, 6, 7, 8, 9, 10, 11] I I) ?_
 obtain ⟨m, hm⟩ : ∃ m : Nd, m = (if q.2 = false ∨ q.1.length = n.out.length then lose n else n) := ⟨_, rfl⟩
 have hmo : (if q.2 = false ∨ q.1.length = n.out.length then lose { n with out := q.1 } else { n with out := q.1 }) = { m with out := q.1 } := by
  rw [hm]; split <;> rfl
 have hmn : ∀ V : NV, ndH V m = ndH V n := by intro V; rw [hm]; split <;> rfl
 rw [hmo]
 repeat' (first | refine zh ?_ | apply zb ?_ ?_ | exact zc | (refine zi fun hb => ?_; try simp at hb) | intro (bk : Nat))
 refine HR.join (ι := Unit) (fun _ => True) (fun _ => [(0, ptr b), (5, .slice a q.1.length c), (6, .bool q.2)]) (fun _ => blkS b V m now :: cSn (.slice a q.1.length c) q.1 :: ndH V m) (fun _ _ => ?_) (fun hj => ?_)
 ·repeat' (first | refine zh ?_ | intro (bk : Nat))
  refine HR.ret Tryz.func44 I [_] (fun _ _ => ⟨I, trivial⟩) ?_
  refine fun w' hw => ⟨(a, c), rfl, trivial, ?_⟩
  exact hw.pick [0, 2, 3, 1, 5, 6, 7, 8, 9, 10] I I
 ·refine HR.cond I (fun h => ?_) (fun h => ?_)
  ·have h : (!q.2 || ((q.1.length : Int) == (n.out.length : Int))) = true := h
   have h2 : q.2 = false ∨ (q.1.length : Int) = (n.out.length : Int) := by simpa using h
   have h : q.2 = false ∨ q.1.length = n.out.length := h2.imp id (fun e => by omega)
   rw [if_pos h] at hm
   refine HR.region ?_
   repeat' (first | refine zn ?_ | apply zb ?_ ?_ | exact zc | (refine zi fun hb => ?_; try simp at hb) | intro (bk : Nat))
   refine HL.callW (r := fun _ : Unit => .tuple ⟨[]⟩) (Q := fun _ => True) (G0 := [blkS b V n now]) (H0 := cSn (.slice a q.1.length c) q.1 :: ndH V n) (G := fun _ => [blkS b V (lose n) now]) fn75 I I I (fun w1 hw1 => slose_any b V n now _ w1 (hw1.pick [0] I I) hlo) ?_
   intro _ _
   repeat' (first | refine zn ?_ | apply zb ?_ ?_ | exact zc | (refine zi fun hb => ?_; try simp at hb) | intro (bk : Nat))
   refine hj () _ _ trivial ⟨I, I, I, trivial⟩ (Ent.of_eq ?_)
   rw [hmn, hm]; rfl
  ·have h : (!q.2 || ((q.1.length : Int) == (n.out.length : Int))) = false := h
   have h2 : ¬ (q.2 = false ∨ (q.1.length : Int) = (n.out.length : Int)) := by simpa using h
   have h : ¬ (q.2 = false ∨ q.1.length = n.out.length) := fun e => h2 (e.imp id (fun e => by omega))
   rw [if_neg h] at hm
   refine HR.skip ?_
   refine hj () _ _ trivial ⟨I, I, I, trivial⟩ (Ent.of_eq ?_)
   rw [hmn, hm]
theorem sbox_any (b : Nat) (V : NV) (n : Nd) (now : Int) (f : Fr) (B : Base) (w : World) (hw : Sat B (stH b V n now) w) (ho : Ord n) :
  Calls Tryz.prog 72 #[ptr b, .agg ⟨frC f⟩] w fun e w' => ∃ x : SV, e = .returned (.tuple ⟨[]⟩) ∧ True ∧ Sat ⟨w, feet (stH b V n now)⟩ (stH b { V with bo := x } (box n f now) now) w' := by
 have h16 := ho.boxes
 have hlo := ho.lost
 refine calls_hrW (stH b V n now) (hw) Tryz.func72 I (Nat.le_of_ble_eq_true I) ?_
 refine HR.sub (σ' := [(0, ptr b), (1, .agg ⟨frC f⟩)]) ⟨I, I, trivial⟩ ?_
 repeat' (first | refine zh ?_ | intro (bk : Nat))
 refine HR.regionD [(0, true), (1, true), (2, true), (3, true), (4, true), (5, true), (6, true), (7, true), (8, true), (9, true), (10, false), (11, true), (12, true), (13, true), (14, true), (15, true)] [0, 1] I I hmix (by kernel_rfl) ?_
 repeat' (first | refine zd ?_ | fail)
 refine HD.one I ?_
 refine HL.callX (r := fun v' : Value => .tuple ⟨[v', .bool (bput n.boxes f now).2]⟩) (Q := fun _ => True) (G := fun v' => [cMa v' (bput n.boxes f now).1]) fn145 I I (fun w1 hw1 => bput_any n.boxes f now (sv V.bo n.boxes.length) w1 ((Rd.own 6 rfl).at hw1) (by omega)) ?_
 intro v1 _
 refine HL.shape 0 I fun a c hv => ?_
 subst hv
 refine HL.back [1, 2] I I ?_
 repeat' (first | refine zd ?_ | fail)
 refine HD.nil ?_
 obtain ⟨q, hq⟩ : ∃ q, q = bput n.boxes f now := ⟨_, rfl⟩
 have hsp : box n f now = (if q.2 = false ∨ q.1.length = n.boxes.length then lose { n with boxes := q.1 } else { n with boxes := q.1 }) := by rw [hq]; rfl
 rw [hsp]
 rw [← hq]
 refine HR.ent (H' := blkS b V n now :: cMa (.slice a q.1.length c) q.1 :: ndH V n) (Ent.pick [2, 0, 3, 4, 5, 6, 7, 8, 9, 10, 11] I I) ?_
 obtain ⟨m, hm⟩ : ∃ m : Nd, m = (if q.2 = false ∨ q.1.length = n.boxes.length then lose n else n) := ⟨_, rfl⟩
 have hmo : (if q.2 = false ∨ q.1.length = n.boxes.length then lose { n with boxes := q.1 } else { n with boxes := q.1 }) = { m with boxes := q.1 } := by
  rw [hm]; split <;> rfl
 have hmn : ∀ V : NV, ndH V m = ndH V n := by intro V; rw [hm]; split <;> rfl
 rw [hmo]
 repeat' (first | refine zh ?_ | apply zb ?_ ?_ | exact zc | (refine zi fun hb => ?_; try simp at hb) | intro (bk : Nat))
 refine HR.join (ι := Unit) (fun _ => True) (fun _ => [(0, ptr b), (4, .slice a q.1.length c), (5, .bool q.2)]) (fun _ => blkS b V m now :: cMa (.slice a q.1.length c) q.1 :: ndH V m) (fun _ _ => ?_) (fun hj => ?_)
 ·repeat' (first | refine zh ?_ | intro (bk : Nat))
  refine HR.fin Tryz.func72 I [] (fun _ _ => trivial) ?_
  refine fun w' hw => ⟨(a, c), rfl, trivial, ?_⟩
  exact hw.pick [0, 2, 3, 4, 5, 1, 7, 8, 9, 10] I I
 ·refine HR.cond I (fun h => ?_) (fun h => ?_)
  ·have h : (!q.2 || ((q.1.length : Int) == (n.boxes.length : Int))) = true := h
   have h2 : q.2 = false ∨ (q.1.length : Int) = (n.boxes.length : Int) := by simpa using h
   have h : q.2 = false ∨ q.1.length = n.boxes.length := h2.imp id (fun e => by omega)
   rw [if_pos h] at hm
   refine HR.region ?_
   repeat' (first | refine zn ?_ | apply zb ?_ ?_ | exact zc | (refine zi fun hb => ?_; try simp at hb) | intro (bk : Nat))
   refine HL.callW (r := fun _ : Unit => .tuple ⟨[]⟩) (Q := fun _ => True) (G0 := [blkS b V n now]) (H0 := cMa (.slice a q.1.length c) q.1 :: ndH V n) (G := fun _ => [blkS b V (lose n) now]) fn75 I I I (fun w1 hw1 => slose_any b V n now _ w1 (hw1.pick [0] I I) hlo) ?_
   intro _ _
   repeat' (first | refine zn ?_ | apply zb ?_ ?_ | exact zc | (refine zi fun hb => ?_; try simp at hb) | intro (bk : Nat))
   refine hj () _ _ trivial ⟨I, I, I, trivial⟩ (Ent.of_eq ?_)
   rw [hmn, hm]; rfl
  ·have h : (!q.2 || ((q.1.length : Int) == (n.boxes.length : Int))) = false := h
   have h2 : ¬ (q.2 = false ∨ (q.1.length : Int) = (n.boxes.length : Int)) := by simpa using h
   have h : ¬ (q.2 = false ∨ q.1.length = n.boxes.length) := fun e => h2 (e.imp id (fun e => by omega))
   rw [if_neg h] at hm
   refine HR.skip ?_
   refine hj () _ _ trivial ⟨I, I, I, trivial⟩ (Ent.of_eq ?_)
   rw [hmn, hm]
theorem sdeliver_any (b : Nat) (V : NV) (n : Nd) (now : Int) (d : De) (B : Base) (w : World) (hw : Sat B (stH b V n now) w) (ho : Ord n) :
  Calls Tryz.prog 43 #[ptr b, .agg ⟨deC d⟩] w fun e w' => ∃ x : SV, e = .returned (.tuple ⟨[]⟩) ∧ True ∧ Sat ⟨w, feet (stH b V n now)⟩ (stH b { V with ib := x } (deliver n d) now) w' := by
 have h256 := ho.inbox
 have hlo := ho.lost
 refine calls_hrW (stH b V n now) (hw) Tryz.func43 I (Nat.le_of_ble_eq_true I) ?_
 refine HR.sub (σ' := [(0, ptr b), (1, .agg ⟨deC d⟩)]) ⟨I, I, trivial⟩ ?_
 repeat' (first | refine zh ?_ | intro (bk : Nat))
 refine HR.cond I (fun h => ?_) (fun h => ?_)
 ·have h : n.inbox.length ≥ 256 := by have := of_decide_eq_true h; omega
  have e : deliver n d = lose n := by unfold deliver; rw [if_pos h]
  rw [e]
  repeat' (first | refine zh ?_ | intro (bk : Nat))
  refine HL.ent (Ent.pick [1, 2, 3, 4, 5, 6, 7, 8, 9, 10] I I) ?_
  refine HL.callW (r := fun _ : Unit => .tuple ⟨[]⟩) (Q := fun _ => True) (G0 := [blkS b V n now]) (H0 := ndH V n) (G := fun _ => [blkS b V (lose n) now]) fn75 I I I (fun w1 hw1 => slose_any b V n now _ w1 (hw1.pick [0] I I) hlo) ?_
  intro _ _
  repeat' (first | refine zh ?_ | intro (bk : Nat))
  refine HR.ret Tryz.func43 I [] (fun _ _ => trivial) ?_
  exact fun w' hw => ⟨V.ib, rfl, trivial, hw⟩
 ·have h : ¬ n.inbox.length ≥ 256 := by have := of_decide_eq_false h; omega
  have e : deliver n d = { n with inbox := n.inbox ++ [d] } := by unfold deliver; rw [if_neg h]
  rw [e]
  repeat' (first | refine zh ?_ | intro (bk : Nat))
  refine HR.regionY [(0, true), (1, true), (2, true), (3, true), (4, true), (5, true), (6, true), (7, false), (8, false), (9, true), (10, true), (11, true)] 12 [0, 1] I I hmix (by kernel_rfl) ?_
  repeat' (first | refine zd ?_ | fail)
  refine HD.one I ?_
  refine HL.bslice elemDe I I I I I (by decide) (by decide) ?_
  intro va
  refine HL.back [1, 2] I I ?_
  refine HD.one I ?_
  refine HL.appR 11 I elemDe (Rd.own 0 I) I I I I (allOne_spec I) (by omega) (by omega) ?_
  intro v2
  refine HL.back [1, 2] I I ?_
  repeat' (first | refine zd ?_ | fail)
  refine HD.last I ?_
  refine HL.shape 11 I fun a c hv => ?_
  subst hv
  repeat' (first | refine zn ?_ | intro (bk : Nat))
  refine HR.fin Tryz.func43 I [] (fun _ _ => trivial) ?_
  refine fun w' hw => ⟨(a, c), rfl, trivial, ?_⟩
  have w1 := hw.pick [11, 2, 3, 4, 5, 6, 7, 8, 9, 10] I I
  have hl : n.inbox.length + 1 = (n.inbox ++ [d]).length := by simp
  have hc : cellsOf deC n.inbox ++ deC d = cellsOf deC (n.inbox ++ [d]) := by rw [cellsOf_app]; rfl
  have w2 : Sat _ (ownC (.slice a (n.inbox.length + 1) c) 70 2 (n.inbox.length + 1) (cellsOf deC n.inbox ++ deC d) :: blkC b [.int .i64 n.addr, .int .i64 n.poll, .int .i64 n.parent, sv V.ta n.table.length, sv V.li n.links.length, sv V.ou n.out.length, sv V.ch n.children.length, sv V.bo n.boxes.length, sv V.se n.seen.length, sv V.pa V.ps.length, .slice a (n.inbox.length + 1) c, .int .i64 n.seq, .int .i64 n.lost, .int .i64 now] 84 :: [cTa (sv V.ta n.table.length) n.table, cLi (sv V.li n.links.length) n.links, cSn (sv V.ou n.out.length) n.out, cI (sv V.ch n.children.length) n.children, cMa (sv V.bo n.boxes.length) n.boxes, cPr (sv V.se n.seen.length) n.seen, cPt (sv V.pa V.ps.length) V.ps, groupC (ptG V.ps)]) w' := w1
  rw [hl, hc] at w2
  exact w2.pick [1, 2, 3, 4, 5, 6, 7, 8, 9, 0] I I
end Go.Proofs.YtgdgclmkpoaagaaGreat
namespace Go.Proofs.YtgdgclmkpoaagaaGreat
open Go.GX Go.RowKit
attribute [local irreducible] Calls Run RunL RunQ RunD HR HL HD blkC ownC Rd
open Nd
theorem fn111 : IsFn Tryz.prog 111 := ⟨⟨_, _, Tryz.func111, rfl, by decide⟩⟩
theorem fn112 : IsFn Tryz.prog 112 := ⟨⟨_, _, Tryz.func112, rfl, by decide⟩⟩
theorem fn181 : IsFn Tryz.prog 181 := ⟨⟨_, _, Tryz.func181, rfl, by decide⟩⟩
theorem fn127 : IsFn Tryz.prog 127 := ⟨⟨_, _, Tryz.func127, rfl, by decide⟩⟩
theorem sortI_any (v : Value) (n : Nat) (zs : List Int) (w : World) (hv : Vw w v 3 1 n (cellsOf iC zs)) (hn : n ≤ 1000000) :
  Calls Tryz.prog 111 #[v] w fun e w' => ∃ x : Unit, e = .returned (.tuple #[]) ∧ True ∧ Sat ⟨w, feet [ownC v 3 1 n (cellsOf iC zs)]⟩ [ownC v 3 1 n (cellsOf iC (Tf.srt zs))] w' := by
 have hl : zs.length = n := by have := hv.1; rw [cellsOf_len iC_len] at this; omega
 have stay : n = 0 → (∃ p cap, v = .slice p 0 cap) → Calls Tryz.prog 111 #[v] w fun e w' => ∃ x : Unit, e = .returned (.tuple #[]) ∧ True ∧ Sat ⟨w, feet [ownC v 3 1 n (cellsOf iC zs)]⟩ [ownC v 3 1 n (cellsOf iC (Tf.srt zs))] w' := by
  intro h0 hp
  obtain ⟨p, cap, rfl⟩ := hp
  have hz : zs = [] := List.eq_nil_of_length_eq_zero (by omega)
  subst hz
  refine (Tryz.slices_Sort_int_none p cap w).mono ?_
  rintro e w' ⟨rfl, rfl⟩
  exact ⟨(), rfl, trivial, by simpa [Tf.srt] using Sat.sameOwn hv⟩
 rcases hv.2 with ⟨rfl, h0⟩ | ⟨g, off, cap, cur, rfl, _⟩
 ·exact stay h0 ⟨none, 0, rfl⟩
 ·have hv' : Vw w (.slice (some ⟨g, off, none⟩) n cap) 3 1 n (zs.map (Value.int .i64)) := by rw [← cellsOf_one1]; exact hv
  obtain ⟨h1, h2, h3⟩ := hv'.holds
  have := Tryz.slices_Sort_int g off cap zs w h3 h1 (by omega)
  rw [hl] at this
  refine this.mono ?_
  rintro e w' ⟨rfl, q, os, rfl⟩
  exact ⟨(), rfl, trivial, Sat.putOwn (enc := Value.int .i64) (zs := zs) (ys := Tf.srt zs) hv (by rw [(List.mergeSort_perm _ _).length_eq]; exact hl)⟩
theorem compactI_any (v : Value) (n : Nat) (zs : List Int) (w : World) (hv : Vw w v 3 1 n (cellsOf iC zs)) (hn : n ≤ 1000000) :
  Calls Tryz.prog 112 #[v] w fun e w' => ∃ x : Value, e = .returned x ∧ True ∧ Sat ⟨w, feet [ownC v 3 1 n (cellsOf iC zs)]⟩ [ownC x 3 1 (Lib.compact zs).length (cellsOf iC (Lib.compact zs))] w' := by
 have hl : zs.length = n := by have := hv.1; rw [cellsOf_len iC_len] at this; omega
 have stay : n = 0 → (∃ p cap, v = .slice p 0 cap) → Calls Tryz.prog 112 #[v] w fun e w' => ∃ x : Value, e = .returned x ∧ True ∧ Sat ⟨w, feet [ownC v 3 1 n (cellsOf iC zs)]⟩ [ownC x 3 1 (Lib.compact zs).length (cellsOf iC (Lib.compact zs))] w' := by
  intro h0 hp
  obtain ⟨p, cap, rfl⟩ := hp
  have hz : zs = [] := List.eq_nil_of_length_eq_zero (by omega)
  subst hz
  subst h0
  refine (Tryz.slices_Compact_int_empty p cap w).mono ?_
  rintro e w' ⟨rfl, rfl⟩
  exact ⟨_, rfl, trivial, Sat.sameOwn hv⟩
 rcases hv.2 with ⟨rfl, h0⟩ | ⟨g, off, cap, cur, rfl, _, hcap, _⟩
 ·exact stay h0 ⟨none, 0, rfl⟩
 ·by_cases h0 : n = 0
  ·exact stay h0 ⟨_, cap, by rw [h0]⟩
  have hv' : Vw w (.slice (some ⟨g, off, none⟩) n cap) 3 1 n (zs.map (Value.int .i64)) := by rw [← cellsOf_one1]; exact hv
  obtain ⟨h1', h2, h3⟩ := hv'.holds
  have hcl : (Lib.compact zs).length ≤ n := by rw [← hl]; exact Lib.compact_length_le zs
  have := Tryz.slices_Compact_int g off cap zs w h3 (by omega) (by omega)
  rw [hl] at this
  refine this.mono ?_
  rintro e w' ⟨rfl, q, rfl⟩
  exact ⟨_, rfl, trivial, Sat.cutOwn (Sat.putOwn0 (enc := Value.int .i64) (q := q) (zs := zs) (ys := Lib.compact zs ++ List.replicate (n - (Lib.compact zs).length) 0) hv (by simp; omega)) hcl (by simp)⟩
theorem idxI_any (l : List Int) (p : Int) (v : Value) (w : World) (hv : Sl w v (cellsOf iC l) l.length) (hl : l.length ≤ 1000000) :
  Calls Tryz.prog 181 #[v, .int .i64 p] w fun e w' => e = .returned (.int .i64 (fidx (fun x => decide (x = p)) l)) ∧ Below w.heap.size w w' := by
 refine calls_hr Tryz.func181 I (Nat.le_of_ble_eq_true I) ?_
 refine HR.sub (σ' := [(0, v), (1, .int .i64 p)]) ⟨I, I, trivial⟩ ?_
 repeat' (first | refine zh ?_ | refine HL.lenR (Rd.arg hv) I I I ?_ | intro (bk : Nat))
 refine HR.loop (ι := Nat) (fun k => k ≤ l.length ∧ ∀ j b, j < k → l[j]? = some b → decide (b = p) = false) (fun k => [(0, v), (1, .int .i64 p), (7, .int .i64 (l.length : Int)), (8, .int .i64 (k : Int))]) (fun _ => []) (fun k => l.length - k) 0 ⟨Nat.zero_le _, fun j b hj => absurd hj (Nat.not_lt_zero _)⟩ ⟨I, I, I, I, trivial⟩ Ent.refl ?_
 rintro k ⟨hk, hno⟩ ih
 repeat' (first | refine zh ?_ | intro (bk : Nat))
 refine HR.cond I (fun h2 => ?_) (fun h2 => ?_)
 ·have hlt : k < l.length := by have := of_decide_eq_true h2; omega
  obtain ⟨x, hx⟩ := getSome hlt
  repeat' (first | refine zh ?_ | refine HL.idxR (Rd.arg hv) elemI k I I I I hlt ?_ | refine HL.loadI (Rd.arg hv) I I I I (cellsOf_get1 hx) ?_ | intro (bk : Nat))
  refine HR.cond I (fun h3 => ?_) (fun h3 => ?_)
  ·have h3 : p = x := eq_of_beq h3
   repeat' (first | refine zh ?_ | intro (bk : Nat))
   refine HR.ret Tryz.func181 I [_] (fun _ _ => ⟨I, trivial⟩) ?_
   rw [fidx_at hx (decide_eq_true h3.symm) hno]
   exact fun w' hw => ⟨rfl, hw.belowB⟩
  ·have h3 : decide (x = p) = false := by
    refine decide_eq_false fun e => ?_
    subst e
    simp at h3
   repeat' (first | refine zh ?_ | intro (bk : Nat))
   refine ih (k + 1) _ _ ⟨hlt, fun j b hj hb => ?_⟩ (by omega) ⟨I, I, I, I, trivial⟩ Ent.refl
   by_cases e : j = k
   ·subst e; rw [hx] at hb; cases hb; exact h3
   ·exact hno j b (by omega) hb
 ·have hke : k = l.length := by have := of_decide_eq_false h2; omega
  subst hke
  rw [fidx_none hno]
  repeat' (first | refine zh ?_ | intro (bk : Nat))
  refine HR.ret Tryz.func181 I [_] (fun _ _ => ⟨I, trivial⟩) ?_
  exact fun w' hw => ⟨rfl, hw.belowB⟩
theorem anyI_mem (l : List Int) (p : Int) : l.any (fun x => decide (x = p)) = decide (p ∈ l) := by
 by_cases h : p ∈ l
 ·rw [decide_eq_true h, List.any_eq_true]; exact ⟨p, h, by simp⟩
 ·rw [decide_eq_false h, ← Bool.not_eq_true, List.any_eq_true]
  rintro ⟨x, hx, e⟩
  exact h (of_decide_eq_true e ▸ hx)
theorem contI_any (l : List Int) (p : Int) (v : Value) (w : World) (hv : Sl w v (cellsOf iC l) l.length) (hl : l.length ≤ 1000000) :
  Calls Tryz.prog 127 #[v, .int .i64 p] w fun e w' => e = .returned (.bool (decide (p ∈ l))) ∧ Below w.heap.size w w' := by
 rw [← anyI_mem, ← fidx_any]
 refine calls_hr Tryz.func127 I (Nat.le_of_ble_eq_true I) ?_
 refine HR.sub (σ' := [(0, v), (1, .int .i64 p)]) ⟨I, I, trivial⟩ ?_
 repeat' (first | refine zh ?_ | refine HL.callB fn181 I I (fun w hw => idxI_any l p v w ((Rd.arg hv).at hw) hl) ?_ | intro (bk : Nat))
 refine HR.ret Tryz.func127 I [_] (fun _ _ => ⟨I, trivial⟩) ?_
 exact fun w' hw => ⟨rfl, hw.belowB⟩
theorem take_filter {l : List Int} {p : Int → Bool} {k : Nat} {x : Int} (hx : l[k]? = some x) : (l.take (k + 1)).filter p = if p x = true then (l.take k).filter p ++ [x] else (l.take k).filter p := by
 obtain ⟨hk, rfl⟩ := List.getElem?_eq_some_iff.1 hx
 rw [List.take_succ_eq_append_getElem hk, List.filter_append]
 by_cases h : p l[k] = true
 ·simp [h]
 ·simp [h]
end Go.Proofs.YtgdgclmkpoaagaaGreat
namespace Go.Proofs.YtgdgclmkpoaagaaGreat
open Go.GX Go.RowKit
attribute [local irreducible] Calls Run RunL RunQ RunD HR HL HD blkC ownC Rd
open Nd
theorem fn73 : IsFn Tryz.prog 73 := ⟨⟨_, _, Tryz.func73, rfl, by decide⟩⟩
theorem fn69 : IsFn Tryz.prog 69 := ⟨⟨_, _, Tryz.func69, rfl, by decide⟩⟩
theorem shop_any (b : Nat) (V : NV) (n : Nd) (now : Int) (f : Fr) (B : Base) (w : World) (hw : Sat B (stH b V n now) w) (hl : n.table.length ≤ 1000) :
  Calls Tryz.prog 73 #[ptr b, .agg ⟨frC f⟩] w fun e w' => ∃ _x : Unit, e = .returned (.tuple ⟨[.int .i64 (hop n f.ta).1, .bool (hop n f.ta).2]⟩) ∧ True ∧ Sat ⟨w, feet (stH b V n now)⟩ (stH b V n now) w' := by
 refine calls_hrW (stH b V n now) (hw) Tryz.func73 I (Nat.le_of_ble_eq_true I) ?_
 refine HR.sub (σ' := [(0, ptr b), (1, .agg ⟨frC f⟩)]) ⟨I, I, trivial⟩ ?_
 repeat' (first | refine zh ?_ | intro (bk : Nat))
 refine HR.cond I (fun h => ?_) (fun h => ?_)
 ·have h : n.poll > 0 := of_decide_eq_true h
  have e : hop n f.ta = (n.parent, !(n.parent == 255)) := by unfold hop; rw [if_pos h]
  rw [e]
  repeat' (first | refine zh ?_ | intro (bk : Nat))
  refine HR.regionQ hmix (by kernel_rfl) ?_
  repeat' (first | refine zq ?_ | apply zb ?_ ?_ | exact zc | (refine zi fun hb => ?_; try simp at hb))
  refine HR.ret Tryz.func73 I [_, _] (fun _ _ => ⟨I, I, trivial⟩) ?_
  exact fun w' hw => ⟨(), rfl, trivial, hw.pick [1, 2, 3, 4, 5, 6, 7, 8, 9, 10] I rfl⟩
 ·have h : ¬ n.poll > 0 := of_decide_eq_false h
  have e : hop n f.ta = rhop n.table f.ta := by unfold hop; rw [if_neg h]
  rw [e]
  repeat' (first | refine zh ?_ | intro (bk : Nat))
  refine HR.regionD [(0, true), (1, true), (2, true), (3, true), (4, true), (5, true), (6, true), (7, false), (8, true), (9, true), (10, true), (11, true)] [0, 1] I I hmix (by kernel_rfl) ?_
  repeat' (first | refine zd ?_ | fail)
  refine HD.one I ?_
  refine HL.callB fn21 I I (fun w1 hw1 => rhop_any n.table f.ta _ w1 ((Rd.own 2 rfl).at hw1) hl) ?_
  refine HL.back [0, 1] I I ?_
  repeat' (first | refine zd ?_ | fail)
  refine HD.nil ?_
  repeat' (first | refine zh ?_ | intro (bk : Nat))
  refine HR.ret Tryz.func73 I [_, _] (fun _ _ => ⟨I, I, trivial⟩) ?_
  exact fun w' hw => ⟨(), rfl, trivial, hw.pick [1, 2, 3, 4, 5, 6, 7, 8, 9, 10] I rfl⟩
theorem schild_any (b : Nat) (V : NV) (n : Nd) (now c : Int) (B : Base) (w : World) (hw : Sat B (stH b V n now) w) (hl : n.table.length ≤ 1000) (hc : n.children.length ≤ 1000) :
  Calls Tryz.prog 69 #[ptr b, .int .i64 c] w fun e w' => ∃ _x : Unit, e = .returned (.bool (isChild n c)) ∧ True ∧ Sat ⟨w, feet (stH b V n now)⟩ (stH b V n now) w' := by
 refine calls_hrW (stH b V n now) (hw) Tryz.func69 I (Nat.le_of_ble_eq_true I) ?_
 refine HR.sub (σ' := [(0, ptr b), (1, .int .i64 c)]) ⟨I, I, trivial⟩ ?_
 repeat' (first | refine zh ?_ | refine HL.callB fn21 I I (fun w1 hw1 => rhop_any n.table c _ w1 ((Rd.own 1 rfl).at hw1) hl) ?_ | refine HL.callB fn127 I I (fun w1 hw1 => contI_any n.children c _ w1 ((Rd.own 4 rfl).at hw1) (by omega)) ?_ | apply zb ?_ ?_ | exact zc | (refine zi fun hb => ?_; try simp at hb) | intro (bk : Nat))
 refine HR.ret Tryz.func69 I [_] (fun _ _ => ⟨I, trivial⟩) ?_
 exact fun w' hw => ⟨(), rfl, trivial, hw⟩
end Go.Proofs.YtgdgclmkpoaagaaGreat
namespace Go.Proofs.YtgdgclmkpoaagaaGreat
open Go.GX Go.RowKit
attribute [local irreducible] Calls Run RunL RunQ RunD HR HL HD blkC ownC Rd
open Nd
theorem tlen {n : Nd} (h : Ord n) : n.table.length ≤ 24 := h.table.len
end Go.Proofs.YtgdgclmkpoaagaaGreat
namespace Go.Proofs.YtgdgclmkpoaagaaGreat
open Go.GX Go.RowKit
attribute [local irreducible] Calls Run RunL RunQ RunD HR HL HD blkC ownC Rd
open Nd
theorem fn109 : IsFn Tryz.prog 109 := ⟨⟨_, _, Tryz.func109, rfl, by decide⟩⟩
theorem fn148 : IsFn Tryz.prog 148 := ⟨⟨_, _, Tryz.func148, rfl, by decide⟩⟩
theorem fn149 : IsFn Tryz.prog 149 := ⟨⟨_, _, Tryz.func149, rfl, by decide⟩⟩
theorem fn79 : IsFn Tryz.prog 79 := ⟨⟨_, _, Tryz.func79, rfl, by decide⟩⟩
theorem fn178 : IsFn Tryz.prog 178 := ⟨⟨_, _, Tryz.func178, rfl, by decide⟩⟩
theorem fn124 : IsFn Tryz.prog 124 := ⟨⟨_, _, Tryz.func124, rfl, by decide⟩⟩
theorem lbad_range {l : List Li} {k : Nat} {x : Li} (hx : l[k]? = some x) (h : lrange x = true) : lbad l k = 2 := by unfold lbad; rw [hx]; simp only; rw [if_pos h]
theorem lbad_order {l : List Li} {k : Nat} {x y : Li} (hx : l[k]? = some x) (h : lrange x = false) (h0 : 0 < k) (hy : l[k - 1]? = some y) (hle : x.nd ≤ y.nd) : lbad l k = 14 := by
 unfold lbad; rw [hx]; simp only; rw [if_neg (by rw [h]; decide), if_pos ⟨h0, by rw [hy]; exact decide_eq_true hle⟩]
theorem lbad_ok {l : List Li} {k : Nat} {x : Li} (hx : l[k]? = some x) (h : lrange x = false) (h2 : ∀ y, 0 < k → l[k - 1]? = some y → ¬ x.nd ≤ y.nd) : lbad l k = 0 := by
 unfold lbad; rw [hx]; simp only
 rw [if_neg (by rw [h]; decide), if_neg]
 rintro ⟨h0, hh⟩
 cases hy : l[k - 1]? with
 | none => rw [hy] at hh; cases hh
 | some y => rw [hy] at hh; exact h2 y h0 hy (of_decide_eq_true hh)
theorem lchk_at {l : List Li} {k : Nat} (h : l.length ≤ 24) (h1 : firstE (lbad l) k = 0) (h2 : lbad l k ≠ 0) (hk : k < l.length) : lchk l = lbad l k := by
 unfold lchk; rw [if_neg (by omega), firstE_at h1 h2 hk]
theorem pow2_lt {c : Int} (h0 : 0 ≤ c) (h1 : c ≤ 16) : (2 : Int) ^ c.toNat ≤ 65536 := by
 have h2 : (2 : Nat) ^ c.toNat ≤ 2 ^ 16 := Nat.pow_le_pow_right (by decide) (by omega)
 have h3 : ((2 ^ c.toNat : Nat) : Int) = (2 : Int) ^ c.toNat := by rw [Int.natCast_pow]; rfl
 rw [← h3]
 exact Int.ofNat_le.2 h2
theorem shl1 {c : Int} (h0 : 0 ≤ c) (h1 : c ≤ 16) : IntKind.i64.wrap (1 * 2 ^ (min c.toNat IntKind.i64.bits)) = 2 ^ c.toNat := by
 have h2 := pow2_lt h0 h1
 have h3 : (0 : Int) ≤ 2 ^ c.toNat := Int.le_of_lt (Int.pow_pos (by decide))
 rw [show min c.toNat IntKind.i64.bits = c.toNat by simp only [IntKind.bits]; omega, Int.one_mul]
 exact wrap_fits (k := .i64) (by simp only [GX.fits]; omega)
theorem lcheck_any (l : List Li) (v : Value) (w : World) (hv : Sl w v (cellsOf liC l) l.length) (hl : l.length ≤ 1000) :
  Calls Tryz.prog 109 #[v] w fun e w' => e = .returned (.int .i64 (lchk l)) ∧ Below w.heap.size w w' := by
 refine calls_hr Tryz.func109 I (Nat.le_of_ble_eq_true I) ?_
 refine HR.sub (σ' := [(0, v)]) ⟨I, trivial⟩ ?_
 repeat' (first | refine zh ?_ | refine HL.lenR (Rd.arg hv) I I I ?_ | apply zb ?_ ?_ | exact zc | (refine zi fun hb => ?_; try simp at hb) | intro (bk : Nat))
 refine HR.cond I (fun h => ?_) (fun h => ?_)
 ·have h : l.length > 24 := by have := of_decide_eq_true h; omega
  repeat' (first | refine zh ?_ | apply zb ?_ ?_ | exact zc | (refine zi fun hb => ?_; try simp at hb) | intro (bk : Nat))
  refine HR.ret Tryz.func109 I [_] (fun _ _ => ⟨I, trivial⟩) ?_
  exact fun w' hw => ⟨by rw [lchk, if_pos h]; rfl, hw.belowB⟩
 have h : l.length ≤ 24 := by have := of_decide_eq_false h; omega
 repeat' (first | refine zh ?_ | refine HL.lenR (Rd.arg hv) I I I ?_ | apply zb ?_ ?_ | exact zc | (refine zi fun hb => ?_; try simp at hb) | intro (bk : Nat))
 refine HR.loop (ι := Nat) (fun k => k ≤ l.length ∧ firstE (lbad l) k = 0) (fun k => [(0, v), (8, v), (9, .int .i64 (l.length : Int)), (10, .int .i64 (k : Int))]) (fun _ => []) (fun k => l.length - k) 0 ⟨Nat.zero_le _, rfl⟩ ⟨I, I, I, I, trivial⟩ Ent.refl ?_
 rintro k ⟨hk, hg⟩ ih
 repeat' (first | refine zh ?_ | apply zb ?_ ?_ | exact zc | (refine zi fun hb => ?_; try simp at hb) | intro (bk : Nat))
 refine HR.cond I (fun h2 => ?_) (fun h2 => ?_)
 ·have hlt : k < l.length := by have := of_decide_eq_true h2; omega
  obtain ⟨x, hx⟩ := getSome hlt
  repeat' (first | refine zh ?_ | refine HL.idxR (Rd.arg hv) elemLi k I I I I hlt ?_ | refine HL.loadE (Rd.arg hv) I I I I (by simp) I (cellsOf_get liC_len hx) ?_ | intro (bk : Nat))
  refine HR.regionQ hmix (by kernel_rfl) ?_
  repeat' (first | refine zq ?_ | refine HQ.wI (2 ^ x.ct.toNat) I I I I (.inr I) (fun _ => by omega) (shl1 (by omega) (by omega)) ?_ | apply zb ?_ ?_ | exact zc | (refine zi fun hb => ?_; try simp at hb))
  refine HR.cond I (fun h3 => ?_) (fun h3 => ?_)
  ·have h3 : lrange x = true := h3
   repeat' (first | refine zh ?_ | apply zb ?_ ?_ | exact zc | (refine zi fun hb => ?_; try simp at hb) | intro (bk : Nat))
   refine HR.ret Tryz.func109 I [_] (fun _ _ => ⟨I, trivial⟩) ?_
   refine fun w' hw => ⟨?_, hw.belowB⟩
   have e := lbad_range hx h3
   rw [lchk_at h hg (by rw [e]; decide) hlt, e]; rfl
  have h3 : lrange x = false := h3
  obtain ⟨y, hy⟩ := getSome (l := l) (j := k - 1) (by omega)
  repeat' (first | refine zh ?_ | apply zb ?_ ?_ | exact zc | (refine zi fun hb => ?_; try simp at hb) | intro (bk : Nat))
  refine HR.regionQ hmix (by kernel_rfl) ?_
  repeat' (first | refine zq ?_ | refine HQ.idxR (Rd.arg hv) elemLi (k - 1) I I I (by omega) (by omega) ?_ | refine HQ.fieldE (Rd.arg hv) (by rw [cellsOf_len liC_len]; omega) I I I I I I ?_ | refine HQ.loadI (Rd.arg hv) I I I I (cells_get liC_len hy (i := 0) I) ?_ | apply zb ?_ ?_ | exact zc | (refine zi fun hb => ?_; try simp at hb))
  refine HR.cond I (fun h4 => ?_) (fun h4 => ?_)
  ·have h4 : (decide ((k : Int) > 0) && decide (x.nd ≤ y.nd)) = true := h4
   simp only [Bool.and_eq_true, decide_eq_true_eq] at h4
   repeat' (first | refine zh ?_ | apply zb ?_ ?_ | exact zc | (refine zi fun hb => ?_; try simp at hb) | intro (bk : Nat))
   refine HR.ret Tryz.func109 I [_] (fun _ _ => ⟨I, trivial⟩) ?_
   refine fun w' hw => ⟨?_, hw.belowB⟩
   have e := lbad_order hx h3 (by omega) hy h4.2
   rw [lchk_at h hg (by rw [e]; decide) hlt, e]; rfl
  ·have h4 : (decide ((k : Int) > 0) && decide (x.nd ≤ y.nd)) = false := h4
   repeat' (first | refine zh ?_ | apply zb ?_ ?_ | exact zc | (refine zi fun hb => ?_; try simp at hb) | intro (bk : Nat))
   refine ih (k + 1) _ _ ⟨hlt, firstE_step hg (lbad_ok hx h3 fun y' h0 hy' hle => ?_)⟩ (by omega) ⟨I, I, I, I, trivial⟩ (Ent.pick [] I I)
   rw [hy] at hy'
   cases hy'
   rw [decide_eq_true (show (k : Int) > 0 by omega), decide_eq_true hle] at h4
   cases h4
 ·have hke : k = l.length := by have := of_decide_eq_false h2; omega
  subst hke
  repeat' (first | refine zh ?_ | apply zb ?_ ?_ | exact zc | (refine zi fun hb => ?_; try simp at hb) | intro (bk : Nat))
  refine HR.ret Tryz.func109 I [_] (fun _ _ => ⟨I, trivial⟩) ?_
  exact fun w' hw => ⟨by rw [lchk, if_neg (by omega), hg]; rfl, hw.belowB⟩
end Go.Proofs.YtgdgclmkpoaagaaGreat
