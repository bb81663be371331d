/- A part of the proof: contracts of the program's functions. Conditions: none. -/
import Derived.Carry
import Derived.Deep.MidRow
import Derived.Deep.Quiet
import Derived.Laws.IdiomRangeMap
import Derived.Laws.MakeOwn
import Derived.Laws.StructEq
import Derived.Laws.Tables
import Derived.Lib.AppendStr
import Derived.Lib.AppendZerosOnto
import Derived.Lib.OthersKept
import Derived.Lib.Overlaps
import Derived.Lib.OwnBridge
import Derived.Lib.SlicesCompact
import Derived.MapKept
import Derived.Orders
import Derived.OrdersHeld
import Derived.Scope
import Derived.SliceStrings
import Derived.Sort.Grow
import Derived.StillTail
import Derived.Test.YtgdgclmkpoaagaaGreatProg
import Derived.Test.YtgdgclmkpoaagaaGreatShelf
import Derived.WalkKit
import Derived.WalkLawsBesides
import Derived.WalkSpells
import Derived.Test.YtgdgclmkpoaagaaGreatGB1
import Derived.Test.YtgdgclmkpoaagaaGreatGB10
import Derived.Test.YtgdgclmkpoaagaaGreatGB11
import Derived.Test.YtgdgclmkpoaagaaGreatGB2
import Derived.Test.YtgdgclmkpoaagaaGreatGB3
import Derived.Test.YtgdgclmkpoaagaaGreatGB4
import Derived.Test.YtgdgclmkpoaagaaGreatGB5
import Derived.Test.YtgdgclmkpoaagaaGreatGB6
import Derived.Test.YtgdgclmkpoaagaaGreatGB7
import Derived.Test.YtgdgclmkpoaagaaGreatGB8
import Derived.Test.YtgdgclmkpoaagaaGreatGB9
import Derived.Test.YtgdgclmkpoaagaaGreatGNodeTicks1
import Derived.Test.YtgdgclmkpoaagaaGreatGNodeTicks2
import Derived.Test.YtgdgclmkpoaagaaGreatGNodeTicks3
set_option linter.unusedVariables false
set_option linter.unusedSectionVars false
set_option linter.unusedSimpArgs false
set_option maxRecDepth 100000
set_option maxHeartbeats 4000000
namespace Go.Proofs.YtgdgclmkpoaagaaGreat
open Go.GX Go.RowKit
attribute [local irreducible] Calls Run RunL RunQ RunD HR HL HD blkC ownC Rd
open Nd
theorem fn34 : IsFn Tryz.prog 34 := ⟨⟨_, _, Tryz.func34, rfl, by decide⟩⟩
theorem rtick17_any (V : NV) (n : Nd) (now : Int) (w : World) (h : OkN w V n) (hs : SmN n) (hf : ∀ s ∈ n.out, fits .i64 s.wt) :
  Calls Tryz.prog 34 #[.agg ⟨ndC V n⟩, .int .i64 now] w fun e w' => ∃ x : NV × List Chunk, e = .returned (.agg ⟨ndC x.1 (tickN n now)⟩) ∧ Imp V n x.1 x.2 (tickN n now) ∧ Sat (base w) [groupC x.2] w' := by
 obtain ⟨m, hm⟩ : ∃ m, m = order n := ⟨_, rfl⟩
 have ho : Ord m := by rw [hm]; exact order_ord n
 have h16 := ho.out
 have hb16 := ho.boxes
 have hmf : ∀ s ∈ m.out, fits .i64 s.wt := fun s hs => hf s (List.mem_of_mem_take (by rw [hm] at hs; exact hs))
 have hmp : m.parts = n.parts := by rw [hm]; rfl
 have hT : ∃ T, T = tick now := ⟨_, rfl⟩
 obtain ⟨T, hT⟩ := hT
 have ht0 : 0 ≤ T := by rw [hT]; unfold tick clamp; omega
 obtain ⟨s0, hs0⟩ : ∃ s0 : Nd, s0 = { m with out := mtick m.out, boxes := bexp m.boxes T 120, parts := pexp m.parts T 120 } := ⟨_, rfl⟩
 obtain ⟨a, ha⟩ : ∃ a, a = asleep s0 T := ⟨_, rfl⟩
 obtain ⟨g, hg⟩ : ∃ g, g = if a.poll = 0 ∧ T % 8 = a.addr % 8 then beacon a else a := ⟨_, rfl⟩
 obtain ⟨z, hz⟩ : ∃ z, z = if g.poll > 0 ∧ g.parent ≠ 255 ∧ T % g.poll = 0 then poll g else g := ⟨_, rfl⟩
 have hsp : tickN n now = z := by rw [hz, hg, ha, hs0, hT, hm]; rfl
 have ho1 : Ord s0 := by rw [hs0]; exact ((ho.setOut (mtick_len m.out)).setBoxes (bexp_len m.boxes T 120)).setParts _
 have hpl : V.ps.length ≤ 1000 := by rw [← pts_len, h.eq]; exact hs.pa
 have hpm : ∀ p ∈ V.ps, SmPt p.pt := fun p hp => hs.sm p.pt (by rw [← h.eq]; exact List.mem_map.2 ⟨p, hp, rfl⟩)
 rw [hsp]
 refine calls_hr Tryz.func34 I (Nat.le_of_ble_eq_true I) ?_
 refine HR.sub (σ' := [(0, .agg ⟨ndC V n⟩), (1, .int .i64 now)]) ⟨I, I, trivial⟩ ?_
 refine HR.ctl I ?_
 refine HR.region ?_
 refine HL.box I I ?_
 intro b2
 refine HL.alloc I I ?_
 intro b4
 repeat' (first | refine zh ?_ | intro (bk : Nat))
 refine HL.callX (r := fun x : NV × List Chunk => .agg ⟨ndC x.1 m⟩) (Q := fun x => ROk V n x.1 x.2 m) (G := fun x => roH x.1 x.2 m) fn20 I I (fun w1 hw1 => by rw [hm]; exact rorder_any V n w1 (h.ext hw1.belowB) hs) ?_
 rintro ⟨V2, Gt⟩ hR
 have hR : ROk V n V2 Gt m := hR
 have hV2 : RdPts w (sv V2.pa V2.ps.length) V2.ps := by rw [hR.pa, hR.ps]; exact h.pa
 have hpl2 : V2.ps.length ≤ 1000 := by rw [hR.ps]; exact hpl
 have hpm2 : ∀ p ∈ V2.ps, SmPt p.pt := by rw [hR.ps]; exact hpm
 have hp2 : pts V2.ps = m.parts := by rw [hR.ps, h.eq, hmp]
 refine HL.ent (Ent.pick [7, 6, 0, 1, 2, 3, 4, 5] I I) ?_
 repeat' (first | refine zh ?_ | intro (bk : Nat))
 refine HL.callB (r := .int .i64 T) fn58 I I (fun w1 _ => by rw [hT]; exact rtick_any now w1) ?_
 repeat' (first | refine zh ?_ | refine HL.callO fn96 I I (fun w1 hw1 => r16tick_any m.out _ w1 ((Rd.own 3 rfl).at hw1) (by omega) hmf) ?_ | intro (bk : Nat))
 intro v1
 refine HL.shape 0 I fun a1 c1 hv => ?_
 subst hv
 repeat' (first | refine zh ?_ | intro (bk : Nat))
 refine HL.ent (Ent.pick [1, 2, 3, 0, 5, 6, 7, 8] I I) ?_
 repeat' (first | refine zh ?_ | refine HL.callO fn97 I I (fun w1 hw1 => r13exp_any m.boxes T 120 _ w1 ((Rd.own 4 rfl).at hw1) (by omega)) ?_ | intro (bk : Nat))
 intro v2
 refine HL.shape 0 I fun a2 c2 hv => ?_
 subst hv
 repeat' (first | refine zh ?_ | intro (bk : Nat))
 refine HL.ent (Ent.pick [1, 2, 3, 4, 0, 6, 7, 8] I I) ?_
 refine HL.callX (r := fun x : Value × List PtV => x.1) (Q := fun x => GdPts x (pexp (pts V2.ps) T 120)) (G := fun x => ptsC x) fn98 I I (fun w1 hw1 => r15exp_any V2.ps T 120 _ w1 (hV2.ext hw1.belowB) hpm2 hpl2) ?_
 rintro ⟨v3, ps⟩ ⟨hg1, hg2⟩
 refine HL.shape (v := v3) (e := 76) (sz := 6) (n := ps.length) (xs := cellsOf ptC ps) 0 I fun a3 c3 hv => ?_
 subst hv
 have hq1 : pts ps = pexp m.parts T 120 := by rw [← hp2]; exact hg1
 have hq2 : ∀ p ∈ ps, ShPt p := hg2
 repeat' (first | refine zh ?_ | intro (bk : Nat))
 obtain ⟨V3, hV3⟩ : ∃ V3 : NV, V3 = ⟨V2.ta, V2.li, (a1, c1), V2.ch, (a2, c2), V2.se, (a3, c3), V2.ib, ps⟩ := ⟨_, rfl⟩
 have hps3 : V3.ps = ps := by rw [hV3]
 refine HR.ent (H' := [blkC b2 (ndC ⟨V2.ta, V2.li, (a1, c1), V2.ch, (a2, c2), V2.se, (a3, c3), V2.ib, ps⟩ { m with out := mtick m.out, boxes := bexp m.boxes T 120, parts := pexp m.parts T 120 }) 31, rsC b4, groupC Gt, cSn (.slice a1 (mtick m.out).length c1) (mtick m.out), cMa (.slice a2 (bexp m.boxes T 120).length c2) (bexp m.boxes T 120), cI (sv V2.ch m.children.length) m.children, cPr (sv V2.se m.seen.length) m.seen, cDe (sv V2.ib m.inbox.length) m.inbox, cPt (.slice a3 ps.length c3) ps, groupC (ptG ps)]) (Ent.pick [2, 3, 4, 5, 6, 7, 8, 9, 0, 1] I I) ?_
 have hst : ∃ q bx lo, s0 = { m with out := q, boxes := bx, parts := pexp m.parts T 120, lost := lo } := ⟨mtick m.out, bexp m.boxes T 120, m.lost, hs0⟩
 have hZ0 : a = aslp T s0 0 := by rw [ha, aslp_start]
 refine HR.loop (ι := Nat × Nd × SV × SV) (fun x => x.1 ≤ x.2.1.out.length ∧ Ord x.2.1 ∧ (∃ q bx lo, x.2.1 = { m with out := q, boxes := bx, parts := pexp m.parts T 120, lost := lo }) ∧ a = aslp T x.2.1 x.1) (fun x => [(1, .int .i64 T), (2, ptr b2), (4, ptr b4), (5, .int .i64 (x.1 : Int))]) (fun x => [blkC b2 (ndC { V3 with ou := x.2.2.1, bo := x.2.2.2 } x.2.1) 31, rsC b4, groupC Gt, cSn (sv x.2.2.1 x.2.1.out.length) x.2.1.out, cMa (sv x.2.2.2 x.2.1.boxes.length) x.2.1.boxes, cI (sv V2.ch m.children.length) m.children, cPr (sv V2.se m.seen.length) m.seen, cDe (sv V2.ib m.inbox.length) m.inbox, cPt (.slice a3 ps.length c3) ps, groupC (ptG ps)]) (fun x => x.2.1.out.length - x.1) (0, s0, (a1, c1), (a2, c2)) ⟨Nat.zero_le _, ho1, hst, hZ0⟩ ⟨I, I, I, I, trivial⟩ (by rw [hV3, hs0]; exact Ent.refl) ?_
 rintro ⟨i, p, y1, y2⟩ ⟨hi, hpo, hpm, hpa⟩ ih
 have hi : i ≤ p.out.length := hi
 have hpo : Ord p := hpo
 obtain ⟨q0, bx0, lo0, hpe⟩ := hpm
 have hpe0 : p = { m with out := q0, boxes := bx0, parts := pexp m.parts T 120, lost := lo0 } := hpe
 have hpa0 : a = aslp T p i := hpa
 have hp16 := hpo.out
 have hpb16 := hpo.boxes
 repeat' (first | refine zh ?_ | intro (bk : Nat))
 refine HR.cond I (fun h1 => ?_) (fun h1 => ?_)
 ·have h1 : (i : Int) < (p.out.length : Int) := of_decide_eq_true h1
  have hlt : i < p.out.length := by omega
  obtain ⟨x, hx⟩ := getSome hlt
  repeat' (first | refine zh ?_ | refine HL.idxR (Rd.own 3 I) elemSn i I I I I hlt ?_ | refine HL.loadE (Rd.own 3 I) I I I I (by simp) I (cellsOf_get snC_len hx) ?_ | apply zb ?_ ?_ | exact zc | (refine zi fun hb => ?_; try simp at hb) | intro (bk : Nat))
  refine HR.cond I (fun h2 => ?_) (fun h2 => ?_)
  ·have h2 : stale x = true := h2
   have hel : (p.out.eraseIdx i).length = p.out.length - 1 := List.length_eraseIdx_of_lt hlt
   rw [aslp_stale hx h2] at hpa0
   have ho2 : Ord { p with out := p.out.eraseIdx i } := hpo.setOut (by omega)
   obtain ⟨P, hP⟩ : ∃ P, P = box { p with out := p.out.eraseIdx i } x.f T := ⟨_, rfl⟩
   have hPo : Ord P := by rw [hP]; exact ho2.box _ _
   have hPout : P.out = p.out.eraseIdx i := by rw [hP]; exact box_keeps _ _ _
   have hPe : ∃ q bx lo, P = { m with out := q, boxes := bx, parts := pexp m.parts T 120, lost := lo } := by
    obtain ⟨q, l, e⟩ := box_is { p with out := p.out.eraseIdx i } x.f T
    exact ⟨p.out.eraseIdx i, q, l, by rw [hP, e, hpe0]⟩
   rw [← hP] at hpa0
   repeat' (first | refine zh ?_ | refine HL.callO fn88 I I (fun w1 hw1 => rwithout_any p.out i _ w1 ((Rd.own 4 rfl).at hw1) (by omega) hlt) ?_ | intro (bk : Nat))
   intro v4
   refine HL.shape 0 I fun a4 c4 hv => ?_
   subst hv
   repeat' (first | refine zh ?_ | intro (bk : Nat))
   refine HL.callX (r := fun y : SV => .agg ⟨ndC { V3 with ou := (a4, c4), bo := y } P⟩) (Q := fun _ => True) (G := fun y => [cMa (sv y P.boxes.length) P.boxes]) fn89 I I (fun w1 hw1 => by rw [hP]; exact rkeep_any { V3 with ou := (a4, c4), bo := y2 } { p with out := p.out.eraseIdx i } x.f T w1 ((Rd.own 6 rfl).at hw1) (show p.boxes.length ≤ 1000 by omega) hpo.lost) ?_
   intro y _
   repeat' (first | refine zh ?_ | intro (bk : Nat))
   refine ih (i, P, (a4, c4), y) _ _ ⟨by show i ≤ P.out.length; rw [hPout]; omega, hPo, hPe, hpa0⟩ (by show P.out.length - i < p.out.length - i; rw [hPout]; omega) ⟨I, I, I, I, trivial⟩ ?_
   show Ent _ _ [_, _, _, cSn (sv (a4, c4) P.out.length) P.out, _, _, _, _, _, _]
   rw [hPout]
   exact Ent.pick [3, 4, 5, 1, 0, 8, 9, 10, 11, 12] I I
  ·have h2 : stale x = false := h2
   rw [aslp_fresh hx h2] at hpa0
   repeat' (first | refine zh ?_ | intro (bk : Nat))
   exact ih (i + 1, p, y1, y2) _ _ ⟨hlt, hpo, ⟨q0, bx0, lo0, hpe0⟩, hpa0⟩ (by show p.out.length - (i + 1) < p.out.length - i; omega) ⟨I, I, I, I, trivial⟩ (Ent.pick [1, 2, 3, 4, 5, 6, 7, 8, 9, 10] I I)
 have h1 : ¬ (i : Int) < (p.out.length : Int) := of_decide_eq_false h1
 rw [aslp_end (by omega)] at hpa0
 subst hpa0
 have hao : Ord a := hpo
 have ha8 := ((okN_iff _).1 hao.addr).1
 have hta0 : ∀ w2, OkN w2 V n → (groupC Gt).p w2 → Sl w2 (sv V2.ta a.table.length) (cellsOf roC a.table) a.table.length := fun w2 h2 hgp => by
  rw [show a.table = m.table from by rw [hpe0]]; exact hR.ta w2 h2.ta hgp
 have hV3t : V3.ta = V2.ta := by rw [hV3]
 repeat' (first | refine zh ?_ | apply zb ?_ ?_ | exact zc | (refine zi fun hb => ?_; try simp at hb) | intro (bk : Nat))
 refine HR.join (ι := (SV × List Chunk) × SV) (fun x => ∀ w2, OkN w2 V n → (groupC x.1.2).p w2 → Sl w2 (sv x.1.1 g.table.length) (cellsOf roC g.table) g.table.length) (fun _ => [(1, .int .i64 T), (2, ptr b2), (4, ptr b4)]) (fun x => [blkC b2 (ndC { V3 with ou := x.2, bo := y2, ta := x.1.1 } g) 31, rsC b4, groupC x.1.2, cSn (sv x.2 g.out.length) g.out, cMa (sv y2 a.boxes.length) a.boxes, cI (sv V2.ch m.children.length) m.children, cPr (sv V2.se m.seen.length) m.seen, cDe (sv V2.ib m.inbox.length) m.inbox, cPt (.slice a3 ps.length c3) ps, groupC (ptG ps)]) (fun x hx => ?_) (fun hj => ?_)
 rotate_left
 ·refine HR.cond I (fun h2 => ?_) (fun h2 => ?_)
  ·have h2 : ((a.poll == 0) && (T % 8 == a.addr % 8)) = true := h2
   have h3 : a.poll = 0 ∧ T % 8 = a.addr % 8 := by simpa using h2
   rw [if_pos h3] at hg
   have hqo := bumped_ord hao
   have hqt := tlen hqo
   have hq16 := hqo.out
   have hat := tlen hao
   obtain ⟨q, hq⟩ : ∃ q, q = bumped a := ⟨_, rfl⟩
   have hbe : g = if waits q 1 = false ∧ q.out.length < 16 then (queue q (beaconF q)).1 else q := by rw [hg, hq]; rfl
   repeat' (first | refine zh ?_ | refine HL.callO fn99 I I (fun w1 hw1 => r11bump_any a.table a.addr _ w1 (by have := hta0 w1 (h.ext hw1.belowB) (Sat.grp 2 hw1 rfl); rw [← hV3t] at this; exact this) (by omega)) ?_ | intro (bk : Nat))
   intro v5
   refine HL.shape 0 I fun a5 c5 hv => ?_
   subst hv
   repeat' (first | refine zn ?_ | intro (bk : Nat))
   refine HR.ent (H' := [cTa (.slice a5 (bumped a).table.length c5) (bumped a).table, blkC b2 (ndC { V3 with ou := y1, bo := y2, ta := (a5, c5) } (bumped a)) 31, rsC b4, groupC Gt, cSn (sv y1 (bumped a).out.length) (bumped a).out, cMa (sv y2 a.boxes.length) a.boxes, cI (sv V2.ch m.children.length) m.children, cPr (sv V2.se m.seen.length) m.seen, cDe (sv V2.ib m.inbox.length) m.inbox, cPt (.slice a3 ps.length c3) ps, groupC (ptG ps)]) (Ent.pick [0, 1, 2, 3, 4, 5, 6, 7, 8, 9, 10] I I) ?_
   rw [← hq]
   rw [← hq] at hqo hqt hq16
   repeat' (first | refine zh ?_ | intro (bk : Nat))
   refine HL.callB fn100 I I (fun w1 hw1 => rwaits_any { V3 with ou := y1, bo := y2, ta := (a5, c5) } q 1 w1 ((Rd.own 4 rfl).at hw1) (by omega)) ?_
   repeat' (first | refine zh ?_ | apply zb ?_ ?_ | exact zc | (refine zi fun hb => ?_; try simp at hb) | intro (bk : Nat))
   refine HR.cond I (fun h4 => ?_) (fun h4 => ?_)
   ·have h4 : (!waits q 1 && decide ((q.out.length : Int) < 16)) = true := h4
    have h6 : waits q 1 = false ∧ (q.out.length : Int) < 16 := by simpa using h4
    have h5 : waits q 1 = false ∧ q.out.length < 16 := ⟨h6.1, by omega⟩
    rw [if_pos h5] at hbe
    repeat' (first | refine zh ?_ | intro (bk : Nat))
    refine HR.regionV [(0, true), (1, true), (2, true), (3, true), (4, true), (5, true), (7, true), (8, true), (6, false), (9, false), (10, true), (11, false), (12, true)] [(13, true), (14, true), (15, false)] [13, 14, 15] [1] I I hmix (by kernel_rfl) ?_
    repeat' (first | refine zd ?_ | fail)
    refine HD.one I ?_
    refine HL.callB fn101 I I (fun w1 hw1 => rnum_any { V3 with ou := y1, bo := y2, ta := (a5, c5) } q w1 ((Rd.own 0 rfl).at hw1) (by omega)) ?_
    refine HL.back [1] I I ?_
    refine HD.one I ?_
    refine HL.callB fn102 I I (fun w1 hw1 => r11enc_any q.table _ w1 ((Rd.own 0 rfl).at hw1) (by omega)) ?_
    refine HL.back [1] I I ?_
    repeat' (first | refine zd ?_ | fail)
    refine HD.one I ?_
    refine HL.callX (r := fun zz : SV => .tuple ⟨[.agg ⟨ndC { V3 with ou := zz, bo := y2, ta := (a5, c5) } (queue q (beaconF q)).1⟩, .bool (queue q (beaconF q)).2]⟩) (Q := fun _ => True) (G := fun zz => [cSn (sv zz (queue q (beaconF q)).1.out.length) (queue q (beaconF q)).1.out]) fn47 I I (fun w1 hw1 => rput_any { V3 with ou := y1, bo := y2, ta := (a5, c5) } q (beaconF q) w1 ((Rd.own 4 rfl).at hw1) (by omega) hqo.lost) ?_
    intro zz _
    refine HL.back [2] I I ?_
    repeat' (first | refine zd ?_ | fail)
    refine HD.toTail ?_
    refine HT.ev I I I ?_
    refine HT.ev I I I ?_
    refine HT.one I ?_
    repeat' (first | refine zn ?_ | intro (bk : Nat))
    refine hj (((a5, c5), [cTa (.slice a5 q.table.length c5) q.table]), zz) _ _ (fun w2 _ hgp => ?_) ⟨I, I, I, trivial⟩ ?_
    ·rw [hbe, (queue_table _ _).1]; exact ownC_sl hgp.1
    ·rw [hbe]
     exact Ent.trans (Ent.pick [1, 2, 3, 0, 6, 7, 8, 9, 10, 11] I I) (Ent.trans (Ent.group (G := [cTa (.slice a5 q.table.length c5) q.table])) (Ent.pick [1, 2, 0, 3, 4, 5, 6, 7, 8, 9] I I))
   ·have h4 : (!waits q 1 && decide ((q.out.length : Int) < 16)) = false := h4
    have h6 : ¬ (waits q 1 = false ∧ (q.out.length : Int) < 16) := by simpa using h4
    have h5 : ¬ (waits q 1 = false ∧ q.out.length < 16) := fun e => h6 ⟨e.1, by omega⟩
    rw [if_neg h5] at hbe
    refine HR.skip ?_
    refine hj (((a5, c5), [cTa (.slice a5 q.table.length c5) q.table]), y1) _ _ (fun w2 _ hgp => ?_) ⟨I, I, I, trivial⟩ ?_
    ·rw [hbe]; exact ownC_sl hgp.1
    ·rw [hbe]
     exact Ent.trans (Ent.group (G := [cTa (.slice a5 q.table.length c5) q.table])) (Ent.pick [1, 2, 0, 4, 5, 6, 7, 8, 9, 10] I I)
  ·have h2 : ((a.poll == 0) && (T % 8 == a.addr % 8)) = false := h2
   have h3 : ¬ (a.poll = 0 ∧ T % 8 = a.addr % 8) := by simpa using h2
   rw [if_neg h3] at hg
   refine HR.skip ?_
   refine hj ((V3.ta, Gt), y1) _ _ (fun w2 h2 hgp => ?_) ⟨I, I, I, trivial⟩ ?_
   ·rw [hg, hV3t]; exact hta0 w2 h2 hgp
   ·rw [hg]; exact Ent.refl
 obtain ⟨⟨xg, Gg⟩, y3⟩ := x
 have hx : ∀ w2, OkN w2 V n → (groupC Gg).p w2 → Sl w2 (sv xg g.table.length) (cellsOf roC g.table) g.table.length := hx
 have hgo : Ord g := by rw [hg]; split; exact (beacon_good (Good.refl hao)).ord; exact hao
 have hga : ∃ t q lo, g = { a with table := t, out := q, lost := lo } := by
  rw [hg]
  split
  ·unfold beacon
   split
   ·obtain ⟨q, lo, e⟩ := queue_is (bumped a) (beaconF (bumped a))
    exact ⟨_, q, lo, by rw [e]; rfl⟩
   ·exact ⟨rbump a.table a.addr, a.out, a.lost, rfl⟩
  ·exact ⟨a.table, a.out, a.lost, rfl⟩
 obtain ⟨t1, q1, lo1, hge⟩ := hga
 have hgb : g.boxes = a.boxes := by rw [hge]
 repeat' (first | refine zh ?_ | apply zb ?_ ?_ | exact zc | (refine zi fun hb => ?_; try simp at hb) | intro (bk : Nat))
 refine HR.join (ι := (SV × List Chunk) × SV) (fun x => ∀ w2, OkN w2 V n → (groupC x.1.2).p w2 → Sl w2 (sv x.1.1 z.table.length) (cellsOf roC z.table) z.table.length) (fun _ => [(1, .int .i64 T), (2, ptr b2), (4, ptr b4)]) (fun x => [blkC b2 (ndC { V3 with ou := x.2, bo := y2, ta := x.1.1 } z) 31, rsC b4, groupC x.1.2, cSn (sv x.2 z.out.length) z.out, cMa (sv y2 a.boxes.length) a.boxes, cI (sv V2.ch m.children.length) m.children, cPr (sv V2.se m.seen.length) m.seen, cDe (sv V2.ib m.inbox.length) m.inbox, cPt (.slice a3 ps.length c3) ps, groupC (ptG ps)]) (fun x hx2 => ?_) (fun hj => ?_)
 rotate_left
 ·refine HR.cond I (fun h2 => ?_) (fun h2 => ?_)
  ·have h2 : ((decide (g.poll > 0) && !(g.parent == 255)) && (T % g.poll == 0)) = true := h2
   have h3 : g.poll > 0 ∧ g.parent ≠ 255 ∧ T % g.poll = 0 := by simpa [and_assoc] using h2
   rw [if_pos h3] at hz
   have hqo := bumped_ord hgo
   have hqt := tlen hqo
   have hq16 := hqo.out
   have hat := tlen hgo
   obtain ⟨q, hq⟩ : ∃ q, q = bumped g := ⟨_, rfl⟩
   have hbe : z = if waits q 3 = false then (queue q (pollF q)).1 else q := by rw [hz, hq]; rfl
   repeat' (first | refine zh ?_ | refine HL.callO fn99 I I (fun w1 hw1 => r11bump_any g.table g.addr _ w1 (hx w1 (h.ext hw1.belowB) (Sat.grp 2 hw1 I)) (by omega)) ?_ | intro (bk : Nat))
   intro v5
   refine HL.shape 0 I fun a5 c5 hv => ?_
   subst hv
   repeat' (first | refine zn ?_ | intro (bk : Nat))
   refine HR.ent (H' := [cTa (.slice a5 (bumped g).table.length c5) (bumped g).table, blkC b2 (ndC { V3 with ou := y3, bo := y2, ta := (a5, c5) } (bumped g)) 31, rsC b4, groupC Gg, cSn (sv y3 (bumped g).out.length) (bumped g).out, cMa (sv y2 a.boxes.length) a.boxes, cI (sv V2.ch m.children.length) m.children, cPr (sv V2.se m.seen.length) m.seen, cDe (sv V2.ib m.inbox.length) m.inbox, cPt (.slice a3 ps.length c3) ps, groupC (ptG ps)]) (Ent.pick [0, 1, 2, 3, 4, 5, 6, 7, 8, 9, 10] I I) ?_
   rw [← hq]
   rw [← hq] at hqo hqt hq16
   repeat' (first | refine zh ?_ | intro (bk : Nat))
   refine HL.callB fn100 I I (fun w1 hw1 => rwaits_any { V3 with ou := y3, bo := y2, ta := (a5, c5) } q 3 w1 ((Rd.own 4 rfl).at hw1) (by omega)) ?_
   repeat' (first | refine zh ?_ | intro (bk : Nat))
   refine HR.cond I (fun h4 => ?_) (fun h4 => ?_)
   ·have h5 : waits q 3 = false := by simpa using h4
    rw [if_pos h5] at hbe
    repeat' (first | refine zh ?_ | intro (bk : Nat))
    refine HR.regionV [(0, true), (1, true), (2, true), (3, true), (4, true), (5, true), (6, true), (7, true), (8, true), (9, true), (10, false), (11, true), (12, false), (13, true)] [(14, true), (15, true), (16, false)] [14, 15, 16] [1] I I hmix (by kernel_rfl) ?_
    repeat' (first | refine zd ?_ | fail)
    refine HD.one I ?_
    refine HL.callB fn101 I I (fun w1 hw1 => rnum_any { V3 with ou := y3, bo := y2, ta := (a5, c5) } q w1 ((Rd.own 0 rfl).at hw1) (by omega)) ?_
    refine HL.back [1] I I ?_
    repeat' (first | refine zd ?_ | fail)
    refine HD.one I ?_
    refine HL.callX (r := fun zz : SV => .tuple ⟨[.agg ⟨ndC { V3 with ou := zz, bo := y2, ta := (a5, c5) } (queue q (pollF q)).1⟩, .bool (queue q (pollF q)).2]⟩) (Q := fun _ => True) (G := fun zz => [cSn (sv zz (queue q (pollF q)).1.out.length) (queue q (pollF q)).1.out]) fn47 I I (fun w1 hw1 => rput_any { V3 with ou := y3, bo := y2, ta := (a5, c5) } q (pollF q) w1 ((Rd.own 4 rfl).at hw1) (by omega) hqo.lost) ?_
    intro zz _
    refine HL.back [2] I I ?_
    repeat' (first | refine zd ?_ | fail)
    refine HD.toTail ?_
    refine HT.ev I I I ?_
    refine HT.ev I I I ?_
    refine HT.one I ?_
    repeat' (first | refine zn ?_ | intro (bk : Nat))
    refine hj (((a5, c5), [cTa (.slice a5 q.table.length c5) q.table]), zz) _ _ (fun w2 _ hgp => ?_) ⟨I, I, I, trivial⟩ ?_
    ·rw [hbe, (queue_table _ _).1]; exact ownC_sl hgp.1
    ·rw [hbe]
     exact Ent.trans (Ent.pick [1, 2, 3, 0, 6, 7, 8, 9, 10, 11] I I) (Ent.trans (Ent.group (G := [cTa (.slice a5 q.table.length c5) q.table])) (Ent.pick [1, 2, 0, 3, 4, 5, 6, 7, 8, 9] I I))
   ·have h5 : ¬ waits q 3 = false := by simpa using h4
    rw [if_neg h5] at hbe
    refine HR.skip ?_
    refine hj (((a5, c5), [cTa (.slice a5 q.table.length c5) q.table]), y3) _ _ (fun w2 _ hgp => ?_) ⟨I, I, I, trivial⟩ ?_
    ·rw [hbe]; exact ownC_sl hgp.1
    ·rw [hbe]
     exact Ent.trans (Ent.group (G := [cTa (.slice a5 q.table.length c5) q.table])) (Ent.pick [1, 2, 0, 4, 5, 6, 7, 8, 9, 10] I I)
  ·have h2 : ((decide (g.poll > 0) && !(g.parent == 255)) && (T % g.poll == 0)) = false := h2
   have h3 : ¬ (g.poll > 0 ∧ g.parent ≠ 255 ∧ T % g.poll = 0) := by
    intro e
    have : ((decide (g.poll > 0) && !(g.parent == 255)) && (T % g.poll == 0)) = true := by simpa [and_assoc] using e
    rw [h2] at this; cases this
   rw [if_neg h3] at hz
   refine HR.skip ?_
   refine hj ((xg, Gg), y3) _ _ (fun w2 h2 hgp => ?_) ⟨I, I, I, trivial⟩ ?_
   ·rw [hz]; exact hx w2 h2 hgp
   ·rw [hz]; exact Ent.refl
 obtain ⟨⟨xz, Gz⟩, y4⟩ := x
 have hx2 : ∀ w2, OkN w2 V n → (groupC Gz).p w2 → Sl w2 (sv xz z.table.length) (cellsOf roC z.table) z.table.length := hx2
 have hza : ∃ t q lo, z = { g with table := t, out := q, lost := lo } := by
  rw [hz]
  split
  ·unfold poll
   split
   ·obtain ⟨q, lo, e⟩ := queue_is (bumped g) (pollF (bumped g))
    exact ⟨_, q, lo, by rw [e]; rfl⟩
   ·exact ⟨rbump g.table g.addr, g.out, g.lost, rfl⟩
  ·exact ⟨g.table, g.out, g.lost, rfl⟩
 obtain ⟨t2, q2, lo2, hze⟩ := hza
 have f1 : z.links = m.links := by rw [hze, hge, hpe0]
 have f2 : z.boxes = a.boxes := by rw [hze, hge]
 have f3 : z.children = m.children := by rw [hze, hge, hpe0]
 have f4 : z.seen = m.seen := by rw [hze, hge, hpe0]
 have f5 : z.inbox = m.inbox := by rw [hze, hge, hpe0]
 have f6 : z.parts = pexp m.parts T 120 := by rw [hze, hge, hpe0]
 repeat' (first | refine zh ?_ | intro (bk : Nat))
 refine HR.ret Tryz.func34 I [_] (fun w hw => ⟨⟨_, rfl, loadVarR hw 1 I I I I rfl⟩, trivial⟩) ?_
 refine fun w' hw => ⟨({ V3 with ou := y4, bo := y2, ta := xz }, [groupC Gz, cSn (sv y4 z.out.length) z.out, cMa (sv y2 a.boxes.length) a.boxes, cI (sv V2.ch m.children.length) m.children, cPr (sv V2.se m.seen.length) m.seen, cDe (sv V2.ib m.inbox.length) m.inbox, cPt (.slice a3 ps.length c3) ps, groupC (ptG ps)]), rfl, fun w2 h2 hgp => ?_, ?_⟩
 ·refine ⟨hx2 w2 h2 (groupC_mem hgp (List.mem_cons_self ..)), ?_, ownC_sl (groupC_mem hgp (c := cSn (sv y4 z.out.length) z.out) (by simp)), ?_, ?_, ?_, ?_, ?_, ?_⟩
  ·rw [f1, hV3]; exact hR.li w2 h2.li
  ·rw [f3, hV3]; exact ownC_sl (groupC_mem hgp (c := cI (sv V2.ch m.children.length) m.children) (by simp))
  ·rw [f2]; exact ownC_sl (groupC_mem hgp (c := cMa (sv y2 a.boxes.length) a.boxes) (by simp))
  ·rw [f4, hV3]; exact ownC_sl (groupC_mem hgp (c := cPr (sv V2.se m.seen.length) m.seen) (by simp))
  ·rw [hV3]
   have hgq : (groupC (ptG ps)).p w2 := groupC_mem hgp (by simp)
   exact ⟨ownC_sl (groupC_mem hgp (c := cPt (.slice a3 ps.length c3) ps) (by simp)), fun p hp => ⟨ownC_sl (groupC_mem hgq (ptG_mem hp).1), ownC_sl (groupC_mem hgq (ptG_mem hp).2)⟩⟩
  ·rw [f5, hV3]; exact ownC_sl (groupC_mem hgp (c := cDe (sv V2.ib m.inbox.length) m.inbox) (by simp))
  ·rw [f6, hV3]; exact hq1
 ·exact Ent.trans (Ent.pick [2, 3, 4, 5, 6, 7, 8, 9] I I) (Ent.group (G := [groupC Gz, cSn (sv y4 z.out.length) z.out, cMa (sv y2 a.boxes.length) a.boxes, cI (sv V2.ch m.children.length) m.children, cPr (sv V2.se m.seen.length) m.seen, cDe (sv V2.ib m.inbox.length) m.inbox, cPt (.slice a3 ps.length c3) ps, groupC (ptG ps)]) (H := [])) w' hw
end Go.Proofs.YtgdgclmkpoaagaaGreat
namespace Go.Proofs.YtgdgclmkpoaagaaGreat
open Go.GX Go.RowKit
attribute [local irreducible] Calls Run RunL RunQ RunD HR HL HD blkC ownC Rd
open Nd
theorem fn32 : IsFn Tryz.prog 32 := ⟨⟨_, _, Tryz.func32, rfl, by decide⟩⟩
theorem mres_fits {q : List Sn} {i : Nat} {ok : Bool} (h : ∀ s ∈ q, fits .i64 s.tr) : ∀ s ∈ (mres q i ok).1, fits .i64 s.tr := by
 have h16 : ∀ s ∈ q.take 16, fits .i64 s.tr := fun s hs => h s (List.mem_of_mem_take hs)
 have hm : ∀ s : Sn, fits .i64 (mtries s) := fun s => by
  have : 0 ≤ mtries s ∧ mtries s ≤ 8 := by unfold mtries; omega
  show -9223372036854775808 ≤ mtries s ∧ mtries s ≤ 9223372036854775807
  omega
 unfold mres
 intro s hs
 split at hs
 ·exact h16 s hs
 ·split at hs
  ·exact h16 s (List.mem_of_mem_eraseIdx hs)
  ·split at hs
   ·exact h16 s (List.mem_of_mem_eraseIdx hs)
   ·rcases List.mem_or_eq_of_mem_set hs with hs | hs
    ·exact h16 s hs
    ·rw [hs]; exact hm _
theorem tk_cond (p : Nd) (c : Int) : ((((p.poll == 0) && (hop p c).2) && ((hop p c).1 == c)) && decide ((hop p c).1 ∈ p.children)) = ((p.poll == 0) && isChild p c) := by
 by_cases h0 : p.poll = 0
 ·have hh : hop p c = rhop p.table c := by unfold hop; rw [if_neg (by omega)]
  unfold isChild
  rw [hh]
  by_cases h1 : (rhop p.table c).1 = c
  ·rw [h1]; simp [h0, Bool.and_comm]
  ·have h2 : ((rhop p.table c).1 == c) = false := by simpa using h1
   rw [h2]; simp
 ·have h2 : (p.poll == 0) = false := by simpa using h0
  rw [h2]; simp
theorem rtalk_any (V : NV) (n : Nd) (now : Int) (w : World) (h : OkN w V n) (hs : SmN n) (hf : ∀ s ∈ n.out, fits .i64 s.tr) :
  Calls Tryz.prog 32 #[.agg ⟨ndC V n⟩, .int .i64 now] w fun e w' => ∃ x : NV × List Chunk, e = .returned (.tuple ⟨[.agg ⟨ndC x.1 (talk n now).1⟩, .agg ⟨frC (talk n now).2.1⟩, .bool (talk n now).2.2]⟩) ∧ Imp V n x.1 x.2 (talk n now).1 ∧ Sat (base w) [groupC x.2] w' := by
 obtain ⟨m, hm⟩ : ∃ m, m = order n := ⟨_, rfl⟩
 have ho : Ord m := by rw [hm]; exact order_ord n
 have h16 := ho.out
 have hmp : m.parts = n.parts := by rw [hm]; rfl
 have hmf : ∀ s ∈ m.out, fits .i64 s.tr := fun s hs => hf s (List.mem_of_mem_take (by rw [hm] at hs; exact hs))
 obtain ⟨T, hT⟩ : ∃ T, T = tick now := ⟨_, rfl⟩
 obtain ⟨Z, hZ⟩ : ∃ Z, Z = talk n now := ⟨_, rfl⟩
 have hZ0 : Z = talks T 17 m 0 := by rw [hZ, hT, hm]; rfl
 rw [← hZ]
 refine calls_hr Tryz.func32 I (Nat.le_of_ble_eq_true I) ?_
 refine HR.sub (σ' := [(0, .agg ⟨ndC V n⟩), (1, .int .i64 now)]) ⟨I, I, trivial⟩ ?_
 refine HR.ctl I ?_
 refine HR.region ?_
 refine HL.box I I ?_
 intro b2
 refine HL.alloc I I ?_
 intro b4
 refine HL.alloc I I ?_
 intro b5
 repeat' (first | refine zh ?_ | intro (bk : Nat))
 refine HL.callX (r := fun x : NV × List Chunk => .agg ⟨ndC x.1 m⟩) (Q := fun x => ROk V n x.1 x.2 m) (G := fun x => roH x.1 x.2 m) fn20 I I (fun w1 hw1 => by rw [hm]; exact rorder_any V n w1 (h.ext hw1.belowB) hs) ?_
 rintro ⟨V2, Gt⟩ hR
 have hR : ROk V n V2 Gt m := hR
 refine HL.ent (Ent.pick [8, 7, 6, 0, 1, 2, 3, 4, 5] I I) ?_
 repeat' (first | refine zh ?_ | intro (bk : Nat))
 have fin : ∀ (p : Nd) (y1 y2 : SV) (q : List Sn) (bx : List Ma) (lo : Int), p = { m with out := q, boxes := bx, lost := lo } → ∀ w', Sat (base w) [groupC Gt, cSn (sv y1 p.out.length) p.out, cMa (sv y2 p.boxes.length) p.boxes, cI (sv V2.ch m.children.length) m.children, cPr (sv V2.se m.seen.length) m.seen, cDe (sv V2.ib m.inbox.length) m.inbox] w' → Imp V n { V2 with ou := y1, bo := y2 } (roH { V2 with ou := y1, bo := y2 } Gt p) p ∧ Sat (base w) [groupC (roH { V2 with ou := y1, bo := y2 } Gt p)] w' := by
  rintro p y1 y2 q bx lo rfl w' hw
  exact ⟨(hR.set (V'' := { V2 with ou := y1, bo := y2 }) (m' := { m with out := q, boxes := bx, lost := lo }) I I I I I rfl).okn hmp, Ent.group (G := roH { V2 with ou := y1, bo := y2 } Gt _) (H := []) w' hw⟩
 refine HR.loop (ι := Nat × Nat × Nd × SV × SV) (fun x => Ord x.2.2.1 ∧ (∃ q bx lo, x.2.2.1 = { m with out := q, boxes := bx, lost := lo }) ∧ Z = talks T x.2.1 x.2.2.1 x.1 ∧ x.1 ≤ x.2.2.1.out.length ∧ x.2.2.1.out.length < x.1 + x.2.1 ∧ ∀ s ∈ x.2.2.1.out, fits .i64 s.tr) (fun x => [(1, .int .i64 now), (2, ptr b2), (4, ptr b4), (5, ptr b5), (7, .int .i64 (x.1 : Int))]) (fun x => [blkC b2 (ndC { V2 with ou := x.2.2.2.1, bo := x.2.2.2.2 } x.2.2.1) 31, rsC b4, rfC b5, groupC Gt, cSn (sv x.2.2.2.1 x.2.2.1.out.length) x.2.2.1.out, cMa (sv x.2.2.2.2 x.2.2.1.boxes.length) x.2.2.1.boxes, cI (sv V2.ch m.children.length) m.children, cPr (sv V2.se m.seen.length) m.seen, cDe (sv V2.ib m.inbox.length) m.inbox]) (fun x => x.2.2.1.out.length - x.1) (0, 17, m, V2.ou, V2.bo) ⟨ho, ⟨m.out, m.boxes, m.lost, rfl⟩, hZ0, Nat.zero_le _, by show m.out.length < 0 + 17; omega, hmf⟩ ⟨I, I, I, I, I, trivial⟩ Ent.refl ?_
 rintro ⟨i, K, p, y1, y2⟩ ⟨hpo, hpm, hZ1, hi, hK, hpf⟩ ih
 have hpo : Ord p := hpo
 obtain ⟨q0, bx0, lo0, hpe⟩ := hpm
 have hpe0 : p = { m with out := q0, boxes := bx0, lost := lo0 } := hpe
 have hpf0 : ∀ s ∈ p.out, fits .i64 s.tr := hpf
 have hZ1 : Z = talks T K p i := hZ1
 have hi : i ≤ p.out.length := hi
 have hK : p.out.length < i + K := hK
 have hp16 := hpo.out
 have hpb16 := hpo.boxes
 have hpk := klen hpo
 have hp24 := tlen hpo
 have hpt : p.table = m.table := by rw [hpe0]
 have hpc : p.children = m.children := by rw [hpe0]
 obtain ⟨K, rfl⟩ : ∃ K', K = K' + 1 := ⟨K - 1, by omega⟩
 repeat' (first | refine zh ?_ | intro (bk : Nat))
 refine HR.cond I (fun h1 => ?_) (fun h1 => ?_)
 rotate_left
 ·have h1 : ¬ (i : Int) < (p.out.length : Int) := of_decide_eq_false h1
  have hZ2 : Z = (p, fr0, false) := by
   rw [hZ1, talks, show p.out[i]? = none from List.getElem?_eq_none (by omega)]
  rw [hZ2]
  repeat' (first | refine zh ?_ | intro (bk : Nat))
  refine HR.ret Tryz.func32 I [_, _, _] (fun w hw => ⟨⟨_, rfl, loadVarR hw 1 I I I I rfl⟩, ⟨_, rfl, loadVarR hw 2 I I I I rfl⟩, rfl, trivial⟩) ?_
  intro w' hw
  obtain ⟨f1, f2⟩ := fin p y1 y2 _ _ _ hpe0 w' (hw.pick [3, 4, 5, 6, 7, 8] I I)
  exact ⟨(_, _), rfl, f1, f2⟩
 have h1 : (i : Int) < (p.out.length : Int) := of_decide_eq_true h1
 have hlt : i < p.out.length := by omega
 obtain ⟨x, hx⟩ := getSome hlt
 have hcl : (cellsOf snC p.out).length = p.out.length * 11 := cellsOf_len snC_len _
 rw [talks_step hx] at hZ1
 repeat' (first | refine zh ?_ | refine HL.idxR (Rd.own 4 I) elemSn i I I I I hlt ?_ | refine HL.fieldN 0 (Rd.own 4 I) (by rw [hcl]; omega) I I I I I I I ?_ | refine HL.loadE (Rd.own 4 I) I I I I (by simp) I (frame_get hx) ?_ | refine HL.idxR (Rd.own 5 I) elemSn i I I I I hlt ?_ | refine HL.fieldN 10 (Rd.own 5 I) (by rw [hcl]; omega) I I I I I I I ?_ | refine HL.loadI (Rd.own 5 I) I I I I (cells_get snC_len hx (i := 10) I) ?_ | intro (bk : Nat))
 refine HR.cond I (fun h2 => ?_) (fun h2 => ?_)
 ·have h2 : x.wt > 0 := of_decide_eq_true h2
  rw [if_pos h2] at hZ1
  repeat' (first | refine zh ?_ | intro (bk : Nat))
  exact ih (i + 1, K, p, y1, y2) _ _ ⟨hpo, ⟨q0, bx0, lo0, hpe0⟩, hZ1, hlt, by show p.out.length < i + 1 + K; omega, hpf0⟩ (by show p.out.length - (i + 1) < p.out.length - i; omega) ⟨I, I, I, I, I, trivial⟩ (Ent.pick [1, 2, 3, 4, 5, 6, 7, 8, 9] I I)
 have h2 : ¬ x.wt > 0 := of_decide_eq_false h2
 rw [if_neg h2] at hZ1
 repeat' (first | refine zh ?_ | apply zb ?_ ?_ | exact zc | (refine zi fun hb => ?_; try simp at hb) | intro (bk : Nat))
 refine HR.cond I (fun h3 => ?_) (fun h3 => ?_)
 ·have h3 : (!(x.f.kd == 2) || !(x.f.dst == 255)) = true := h3
  have h4 : x.f.kd ≠ 2 ∨ x.f.dst ≠ 255 := by simpa using h3
  rw [if_pos h4] at hZ1
  rw [hZ1]
  repeat' (first | refine zh ?_ | intro (bk : Nat))
  refine HR.regionD [(0, true), (1, true), (2, false), (3, false), (4, true)] [0, 1] I I hmix (by kernel_rfl) ?_
  repeat' (first | refine zd ?_ | fail)
  refine HD.one I ?_
  refine HL.S 2 I I I I I ?_
  refine HL.back [0, 1] I I ?_
  refine HD.one I ?_
  refine HL.S 3 I I I I I ?_
  refine HL.back [0, 1] I I ?_
  repeat' (first | refine zd ?_ | fail)
  refine HD.nil ?_
  repeat' (first | refine zh ?_ | intro (bk : Nat))
  refine HR.ret Tryz.func32 I [_, _, _] (fun w hw => ⟨⟨_, rfl, loadVarR hw 2 I I I I rfl⟩, ⟨_, rfl, loadVarR hw 3 I I I I rfl⟩, rfl, trivial⟩) ?_
  intro w' hw
  obtain ⟨f1, f2⟩ := fin p y1 y2 _ _ _ hpe0 w' (hw.pick [4, 5, 6, 7, 8, 9] I I)
  exact ⟨(_, _), rfl, f1, f2⟩
 have h3 : (!(x.f.kd == 2) || !(x.f.dst == 255)) = false := h3
 have h4 : ¬ (x.f.kd ≠ 2 ∨ x.f.dst ≠ 255) := by
  intro e
  have : (!(x.f.kd == 2) || !(x.f.dst == 255)) = true := by simpa using e
  rw [h3] at this; cases this
 rw [if_neg h4] at hZ1
 repeat' (first | refine zh ?_ | refine HL.callB fn86 I I (fun w1 hw1 => rhop17_any { V2 with ou := y1, bo := y2 } p x.f.ta w1 (by rw [hpt]; exact hR.ta w1 (h.ext hw1.belowB).ta (Sat.grp 4 hw1 I)) (by omega)) ?_ | refine HL.callB fn87 I I (fun w1 hw1 => ramong_any p.children (hop p x.f.ta).1 _ w1 (by rw [hpc]; exact (Rd.own 7 rfl).at hw1) (by omega)) ?_ | apply zb ?_ ?_ | exact zc | (refine zi fun hb => ?_; try simp at hb) | intro (bk : Nat))
 refine HR.cond I (fun h5 => ?_) (fun h5 => ?_)
 ·have h5 : ((((p.poll == 0) && (hop p x.f.ta).2) && ((hop p x.f.ta).1 == x.f.ta)) && decide ((hop p x.f.ta).1 ∈ p.children)) = true := h5
  have e1 : (hop p x.f.ta).1 = x.f.ta := by
   simp only [Bool.and_eq_true] at h5
   exact eq_of_beq h5.1.2
  rw [tk_cond] at h5
  have h6 : p.poll = 0 ∧ isChild p x.f.ta = true := by simpa using h5
  rw [if_pos h6] at hZ1
  have hel : (p.out.eraseIdx i).length = p.out.length - 1 := List.length_eraseIdx_of_lt hlt
  have ho1 : Ord { p with out := p.out.eraseIdx i } := hpo.setOut (by omega)
  obtain ⟨P, hP⟩ : ∃ P, P = box { p with out := p.out.eraseIdx i } { x.f with dst := x.f.ta } T := ⟨_, rfl⟩
  have hPo : Ord P := by rw [hP]; exact ho1.box _ _
  have hPout : P.out = p.out.eraseIdx i := by rw [hP]; exact box_keeps _ _ _
  have hPe : ∃ q bx lo, P = { m with out := q, boxes := bx, lost := lo } := by
   obtain ⟨q, l, e⟩ := box_is { p with out := p.out.eraseIdx i } { x.f with dst := x.f.ta } T
   exact ⟨p.out.eraseIdx i, q, l, by rw [hP, e, hpe0]⟩
  have hPf : ∀ s ∈ P.out, fits .i64 s.tr := by rw [hPout]; exact fun s hs => hpf0 s (List.mem_of_mem_eraseIdx hs)
  rw [← hP] at hZ1
  rw [e1]
  repeat' (first | refine zh ?_ | refine HL.callO fn88 I I (fun w1 hw1 => rwithout_any p.out i _ w1 ((Rd.own 5 rfl).at hw1) (by omega) hlt) ?_ | intro (bk : Nat))
  intro v4
  refine HL.shape 0 I fun a4 c4 hv => ?_
  subst hv
  repeat' (first | refine zh ?_ | intro (bk : Nat))
  refine HR.regionY [(0, true), (1, true), (2, true), (3, false), (4, false)] 5 [1, 2] I I hmix (by kernel_rfl) ?_
  repeat' (first | refine zd ?_ | fail)
  refine HD.one I ?_
  refine HL.callB (r := .int .i64 T) fn58 I I (fun w1 _ => by rw [hT]; exact rtick_any now w1) ?_
  refine HL.back [1, 2] I I ?_
  refine HD.one I ?_
  refine HL.callX (r := fun y : SV => .agg ⟨ndC { V2 with ou := (a4, c4), bo := y } P⟩) (Q := fun _ => True) (G := fun y => [cMa (sv y P.boxes.length) P.boxes]) fn89 I I (fun w1 hw1 => by rw [hP]; exact rkeep_any { V2 with ou := (a4, c4), bo := y2 } { p with out := p.out.eraseIdx i } { x.f with dst := x.f.ta } T w1 ((Rd.own 7 rfl).at hw1) (show p.boxes.length ≤ 1000 by omega) hpo.lost) ?_
  intro y _
  refine HL.back [2, 3] I I ?_
  refine HD.last I ?_
  repeat' (first | refine zn ?_ | intro (bk : Nat))
  repeat' (first | refine zh ?_ | intro (bk : Nat))
  refine ih (i, K, P, (a4, c4), y) _ _ ⟨hPo, hPe, hZ1, by show i ≤ P.out.length; rw [hPout]; omega, by show P.out.length < i + K; rw [hPout]; omega, hPf⟩ (by show P.out.length - i < p.out.length - i; rw [hPout]; omega) ⟨I, I, I, I, I, trivial⟩ ?_
  show Ent _ _ [_, _, _, _, cSn (sv (a4, c4) P.out.length) P.out, _, _, _, _]
  rw [hPout]
  exact Ent.pick [3, 4, 5, 6, 1, 0, 9, 10, 11] I I
 have h5 : ((((p.poll == 0) && (hop p x.f.ta).2) && ((hop p x.f.ta).1 == x.f.ta)) && decide ((hop p x.f.ta).1 ∈ p.children)) = false := h5
 rw [tk_cond] at h5
 have h6 : ¬ (p.poll = 0 ∧ isChild p x.f.ta = true) := by
  intro e
  have : ((p.poll == 0) && isChild p x.f.ta) = true := by simpa using e
  rw [h5] at this; cases this
 rw [if_neg h6] at hZ1
 repeat' (first | refine zh ?_ | intro (bk : Nat))
 refine HR.cond I (fun h7 => ?_) (fun h7 => ?_)
 ·have h7 : (hop p x.f.ta).2 = true := h7
  rw [if_pos h7] at hZ1
  rw [hZ1]
  repeat' (first | refine zh ?_ | intro (bk : Nat))
  refine HR.regionD [(0, true), (1, true), (2, false), (3, false), (4, true)] [0, 1] I I hmix (by kernel_rfl) ?_
  repeat' (first | refine zd ?_ | fail)
  refine HD.one I ?_
  refine HL.S 2 I I I I I ?_
  refine HL.back [0, 1] I I ?_
  refine HD.one I ?_
  refine HL.S 3 I I I I I ?_
  refine HL.back [0, 1] I I ?_
  repeat' (first | refine zd ?_ | fail)
  refine HD.nil ?_
  repeat' (first | refine zh ?_ | intro (bk : Nat))
  refine HR.ret Tryz.func32 I [_, _, _] (fun w hw => ⟨⟨_, rfl, loadVarR hw 2 I I I I rfl⟩, ⟨_, rfl, loadVarR hw 3 I I I I rfl⟩, rfl, trivial⟩) ?_
  intro w' hw
  obtain ⟨f1, f2⟩ := fin p y1 y2 _ _ _ hpe0 w' (hw.pick [4, 5, 6, 7, 8, 9] I I)
  exact ⟨(_, _), rfl, f1, f2⟩
 have h7 : ¬ (hop p x.f.ta).2 = true := by rw [show (hop p x.f.ta).2 = false from h7]; decide
 rw [if_neg h7] at hZ1
 have hmf := mres_false hp16 hlt
 have hml := mres_len p.out i false
 have hmt := mres_fits (i := i) (ok := false) hpf0
 obtain ⟨r, hr⟩ : ∃ r, r = mres p.out i false := ⟨_, rfl⟩
 rw [← hr] at hZ1 hmf hml hmt
 have hor : Ord { p with out := r.1 } := hpo.setOut hml
 repeat' (first | refine zh ?_ | intro (bk : Nat))
 refine HL.callX (r := fun v' : Value => .tuple ⟨[v', .bool r.2]⟩) (Q := fun _ => True) (G := fun v' => [cSn v' r.1]) fn81 I I (fun w1 hw1 => by have := r16result_any p.out (i : Int) false _ w1 ((Rd.own 5 rfl).at hw1) (by omega) hpf0 (by omega); rw [Int.toNat_natCast] at this; rw [hr]; exact this) ?_
 intro v1 _
 refine HL.shape 0 I fun a c hv => ?_
 subst hv
 repeat' (first | refine zh ?_ | intro (bk : Nat))
 refine HR.cond I (fun h8 => ?_) (fun h8 => ?_)
 ·have h8 : r.2 = true := h8
  rw [if_pos h8] at hZ1
  have hlen : r.1.length + 1 = p.out.length := by
   rcases hmf with e | e
   ·exact e.2
   ·rw [h8] at e; cases e.1
  repeat' (first | refine zh ?_ | refine HL.callB fn83 I I (fun w1 _ => rlose_any { V2 with ou := (a, c), bo := y2 } { p with out := r.1 } w1 hpo.lost) ?_ | intro (bk : Nat))
  exact ih (i, K, lose { p with out := r.1 }, (a, c), y2) _ _ ⟨hor.lose, ⟨r.1, bx0, min (lo0 + 1) maxTick, by rw [hpe0]; rfl⟩, hZ1, by show i ≤ r.1.length; omega, by show r.1.length < i + K; omega, hmt⟩ (by show r.1.length - i < p.out.length - i; omega) ⟨I, I, I, I, I, trivial⟩ (Ent.pick [2, 3, 4, 5, 0, 7, 8, 9, 10] I I)
 ·have h8 : r.2 = false := h8
  rw [if_neg (by rw [h8]; decide)] at hZ1
  have hlen : r.1.length = p.out.length := by
   rcases hmf with e | e
   ·rw [h8] at e; cases e.1
   ·exact e.2
  repeat' (first | refine zh ?_ | intro (bk : Nat))
  exact ih (i + 1, K, { p with out := r.1 }, (a, c), y2) _ _ ⟨hor, ⟨r.1, bx0, lo0, by rw [hpe0]⟩, hZ1, by show i + 1 ≤ r.1.length; omega, by show r.1.length < i + 1 + K; omega, hmt⟩ (by show r.1.length - (i + 1) < p.out.length - i; omega) ⟨I, I, I, I, I, trivial⟩ (Ent.pick [2, 3, 4, 5, 0, 7, 8, 9, 10] I I)
end Go.Proofs.YtgdgclmkpoaagaaGreat
namespace Go.Proofs.YtgdgclmkpoaagaaGreat
open Go.GX Go.RowKit
attribute [local irreducible] Calls Run RunL RunQ RunD HR HL HD blkC ownC Rd
open Nd
theorem ptick_any (V : NV) (n : Nd) (now : Int) (w : World) (h : OkN w V n) (hs : SmN n) (hf : ∀ s ∈ n.out, fits .i64 s.wt) :
  Calls Tryz.prog 33 #[.agg ⟨ndC V n⟩, .int .i64 now] w fun e w' => ∃ x : NV × List Chunk, e = .returned (.agg ⟨ndC x.1 (tickN n now)⟩) ∧ Own x.1 x.2 (tickN n now) ∧ Sat (base w) [groupC x.2] w' :=
 (stick_any V n now w h hs hf).mono fun e w' ⟨V', h1, h2, h3⟩ => ⟨(V', ndH V' _), h1, h2.own, sat_grp h3⟩
theorem pvalid_smp {p : Pt} (h : pvalid p = true) : SmPt p := by
 have H := phead_is (pvalid_head h)
 have h1 := H.hv
 have h2 := H.da
 have h3 := H.ct1
 exact ⟨by omega, by omega, fun s hs => by have := pvalid_sm h s hs; omega⟩
theorem porder_sm (l : List Pt) : ∀ p ∈ porder l, SmPt p := fun p hp => pvalid_smp (porder_valid p hp)
theorem pexp_sm (l : List Pt) (now life : Int) : PtSm (pexp l now life) :=
 ⟨Nat.le_trans (Nat.le_trans (List.length_filter_le _ _) (porder_len l)) (by decide), fun p hp => porder_sm l p (List.mem_filter.1 hp).1⟩
theorem talks_parts (now : Int) : ∀ (k : Nat) (n : Nd) (i : Nat), (talks now k n i).1.parts = n.parts
 | 0, n, i => rfl
 | k + 1, n, i => by
  unfold talks
  split
  ·rfl
  ·split
   ·exact talks_parts now k n _
   ·split
    ·rfl
    ·split
     ·rw [talks_parts now k]; exact box_parts _ _ _
     ·split
      ·rfl
      ·split
       ·rw [talks_parts now k]; rfl
       ·rw [talks_parts now k]
theorem talk_ptsm {n : Nd} {now : Int} (h : PtSm n.parts) : PtSm (talk n now).1.parts := by
 unfold talk; rw [talks_parts]; exact h
theorem tick_ptsm (n : Nd) (now : Int) : PtSm (tickN n now).parts := by
 have e : (tickN n now).parts = pexp (order n).parts (tick now) 120 := by
  have k1 : ∀ (c : Prop) [Decidable c] (a : Nd), (if c then Nd.beacon a else a).parts = a.parts := by intro c _ a; split; exact beacon_parts _; rfl
  have k2 : ∀ (c : Prop) [Decidable c] (a : Nd), (if c then Nd.poll a else a).parts = a.parts := by intro c _ a; split; exact poll_parts _; rfl
  unfold tickN
  simp only
  rw [k2, k1, asleep_parts]
 rw [e]; exact pexp_sm _ _ _
end Go.Proofs.YtgdgclmkpoaagaaGreat
namespace Go.Proofs.YtgdgclmkpoaagaaGreat
open Go.GX Go.RowKit
attribute [local irreducible] Calls Run RunL RunQ RunD HR HL HD blkC ownC Rd
open Nd
section
variable {P : Program} {N d i : Nat} {ops : List Oper} {p : List (Nat × Bool)} {σ : Store} {B : Base} {H F : List Chunk} {K : Act → World → Prop} {ty : TypeId} {pos : String} {af : Array Edge} {gd : Option (Nat × Bool)}
theorem HD.eqS {t t' : TypeId} {x y : Operand} {xs ys : List Value} {b : Bool} (ho : ops[i]? = some ⟨some d, .binOp .eql t x y t', ty, pos, af, gd⟩) (hs : stat N ops ⟨some d, .binOp .eql t x y t', ty, pos, af, gd⟩ σ = true) (hp : P.stoodInHeld t = false) (hm : P.eqGuardType P.depth t = false) (hx : lookO σ x = some (.agg ⟨xs⟩)) (hy : lookO σ y = some (.agg ⟨ys⟩)) (hb : eqStruct P t xs ys = some b)
  (h : HD P N ops p ((d, .bool b) :: σ) B H F K) : HD P N ops ((i, true) :: p) σ B H F K := HD.rd ho hs (fun w _ => hx_eqS hp hm hx hy hb w) h
end
theorem nodeTicks_any (V : NV) (n : Nd) (now : Int) (w : World) (h : OkN w V n) (hw0 : WfN n) :
  Calls Tryz.prog 9 #[.agg ⟨ndC V n⟩, .int .i64 now] w fun e w' => e = .returned (.bool true) ∧ Below w.heap.size w w' := by
 refine calls_hr Tryz.func9 I (Nat.le_of_ble_eq_true I) ?_
 refine HR.sub (σ' := [(0, .agg ⟨ndC V n⟩), (1, .int .i64 now)]) ⟨I, I, trivial⟩ ?_
 refine HR.ctl I ?_
 refine HR.region ?_
 refine HL.box I I ?_
 intro b2
 repeat' (first | refine zh ?_ | intro (bk : Nat))
 refine HL.callX (r := fun b : Bool => .bool b) (Q := fun b => b = false → FitN n) (G := fun _ => []) fn12 I I (fun w1 hw1 => large_any V n w1 (h.ext hw1.belowB) hw0) ?_
 intro b hb
 cases b with
 | true =>
  repeat' (first | refine zh ?_ | refine HL.callB fn13 I I (fun w1 _ => awake_any w1) ?_ | intro (bk : Nat))
  refine HR.ret Tryz.func9 I [_] (fun _ _ => ⟨I, trivial⟩) ?_
  exact fun w' hw => ⟨rfl, hw.belowB⟩
 | false =>
 have hf := hb I
 have hs := hf.sm' hw0
 have hbg1 := (ord_sm (talk_good n now).ord (talk_ptsm (now := now) hs.pt)).bg
 have hbg2 := (ord_sm (tick_good n now).ord (tick_ptsm n now)).bg
 obtain ⟨T, hT⟩ : ∃ T, T = talk n now := ⟨_, rfl⟩
 rw [← hT] at hbg1
 repeat' (first | refine zh ?_ | intro (bk : Nat))
 refine HL.callX (r := fun x : NV × List Chunk => .tuple ⟨[.agg ⟨ndC x.1 T.1⟩, .agg ⟨frC T.2.1⟩, .bool T.2.2]⟩) (Q := fun x => Own x.1 x.2 T.1) (G := fun x => [groupC x.2]) fn22 I I (fun w1 hw1 => by rw [hT]; exact ptalk_any V n now w1 (h.ext hw1.belowB) hs) ?_
 rintro ⟨V1, G1⟩ h1
 have h1 : Own V1 G1 T.1 := h1
 repeat' (first | refine zh ?_ | intro (bk : Nat))
 refine HL.callX (r := fun x : NV × List Chunk => .tuple ⟨[.agg ⟨ndC x.1 T.1⟩, .agg ⟨frC T.2.1⟩, .bool T.2.2]⟩) (Q := fun x => Imp V n x.1 x.2 T.1) (G := fun x => [groupC x.2]) fn32 I I (fun w1 hw1 => by rw [hT]; exact rtalk_any V n now w1 (h.ext hw1.belowB) hs hw0.tr) ?_
 rintro ⟨V2, G2⟩ h2
 have h2 : Imp V n V2 G2 T.1 := h2
 repeat' (first | refine zh ?_ | intro (bk : Nat))
 refine HR.regionD [(0, true), (1, true), (3, true), (4, true), (2, false), (5, false), (6, false), (7, true), (8, true), (9, true), (10, false), (11, true), (12, true), (13, true), (14, true), (15, true), (16, true), (17, true), (18, true), (19, true), (20, true), (21, true), (22, true), (23, false), (24, true), (25, true)] [0, 1, 3, 4, 6] I I hmix (by kernel_rfl) ?_
 repeat' (first | refine zd ?_ | fail)
 refine HD.one I ?_
 refine HL.callX (r := fun x : NV × List Chunk => .agg ⟨ndC x.1 (tickN n now)⟩) (Q := fun x => Own x.1 x.2 (tickN n now)) (G := fun x => [groupC x.2]) fn33 I I (fun w1 hw1 => ptick_any V n now w1 (h.ext hw1.belowB) hs hw0.wt) ?_
 rintro ⟨V3, G3⟩ h3
 refine HL.back [1, 2, 4, 5, 7] I I ?_
 refine HD.one I ?_
 refine HL.callX (r := fun x : NV × List Chunk => .agg ⟨ndC x.1 (tickN n now)⟩) (Q := fun x => Imp V n x.1 x.2 (tickN n now)) (G := fun x => [groupC x.2]) fn34 I I (fun w1 hw1 => rtick17_any V n now w1 (h.ext hw1.belowB) hs hw0.wt) ?_
 rintro ⟨V4, G4⟩ h4
 refine HL.back [2, 3, 5, 6, 8] I I ?_
 refine HD.one I ?_
 refine HL.callB (r := .bool true) fn16 I I (fun w1 hw1 => same17_any V3 V4 (tickN n now) w1 (h3 w1 (Sat.grp 1 hw1 I)) (h4 w1 (h.ext hw1.belowB) (Sat.grp 0 hw1 I)) hbg2) ?_
 refine HL.back [2, 3, 5, 6, 8] I I ?_
 repeat' (first | refine zd ?_ | fail)
 refine HD.one I ?_
 refine HL.callB (r := .bool true) fn16 I I (fun w1 hw1 => same17_any V1 V2 T.1 w1 (h1 w1 (Sat.grp 7 hw1 I)) (h2 w1 (h.ext hw1.belowB) (Sat.grp 4 hw1 I)) hbg1) ?_
 refine HL.back [2, 3, 5, 6, 8] I I ?_
 repeat' (first | refine zd ?_ | refine HD.eqS I I (by kernel_rfl) (by kernel_rfl) I I I ?_)
 refine HD.split 45 I (fun hb => ?_) (fun hb => absurd hb (by simp))
 repeat' (first | refine zd ?_ | fail)
 refine HD.split 50 I (fun hb => ?_) (fun hb => absurd hb (by simp))
 refine HD.one I ?_
 refine HL.callB fn13 I I (fun w1 _ => awake_any w1) ?_
 refine HL.back [2, 3, 5, 6, 8] I I ?_
 repeat' (first | refine zd ?_ | fail)
 refine HD.nil ?_
 repeat' (first | refine zh ?_ | intro (bk : Nat))
 refine HR.ret Tryz.func9 I [_] (fun _ _ => ⟨I, trivial⟩) ?_
 exact fun w' hw => ⟨rfl, hw.belowB⟩
end Go.Proofs.YtgdgclmkpoaagaaGreat
namespace Go.Proofs.YtgdgclmkpoaagaaGreat
open Go.GX Go.RowKit
attribute [local irreducible] Calls Run RunL RunQ RunD HR HL HD blkC ownC Rd
open Nd
variable {H : Type} {enc : TypeId × Value → H} {W : World}
theorem nodeTicks.nodeTicks_any (a : NdA) (now : Int) (w : World) (g : NdOk w a) (_ : (Lit.int .i64 now).wf = true) :
  Calls Tryz.prog 9 #[.agg ⟨ndE a⟩, .int .i64 now] w fun e w' => e = .returned (.bool true) ∧ Below w.heap.size w w' := Proofs.YtgdgclmkpoaagaaGreat.nodeTicks_any a.1 a.2 now w g.ok g.wf
end Go.Proofs.YtgdgclmkpoaagaaGreat
