/- A part of the proof: contracts of the program's functions. Conditions: none. -/
import Derived.Carry
import Derived.Deep.MidRow
import Derived.Deep.Quiet
import Derived.Laws.IdiomRangeMap
import Derived.Laws.MakeOwn
import Derived.Laws.StructEq
import Derived.Laws.Tables
import Derived.Lib.AppendStr
import Derived.Lib.AppendZerosOnto
import Derived.Lib.OthersKept
import Derived.Lib.Overlaps
import Derived.Lib.OwnBridge
import Derived.Lib.SlicesCompact
import Derived.MapKept
import Derived.Orders
import Derived.OrdersHeld
import Derived.Scope
import Derived.SliceStrings
import Derived.Sort.Grow
import Derived.StillTail
import Derived.Test.YtgdgclmkpoaagaaGreatProg
import Derived.Test.YtgdgclmkpoaagaaGreatShelf
import Derived.WalkKit
import Derived.WalkLawsBesides
import Derived.WalkSpells
import Derived.Test.YtgdgclmkpoaagaaGreatGB1
import Derived.Test.YtgdgclmkpoaagaaGreatGB10
import Derived.Test.YtgdgclmkpoaagaaGreatGB11
import Derived.Test.YtgdgclmkpoaagaaGreatGB2
import Derived.Test.YtgdgclmkpoaagaaGreatGB3
import Derived.Test.YtgdgclmkpoaagaaGreatGB4
import Derived.Test.YtgdgclmkpoaagaaGreatGB5
import Derived.Test.YtgdgclmkpoaagaaGreatGB6
import Derived.Test.YtgdgclmkpoaagaaGreatGB7
import Derived.Test.YtgdgclmkpoaagaaGreatGB8
import Derived.Test.YtgdgclmkpoaagaaGreatGB9
import Derived.Test.YtgdgclmkpoaagaaGreatGNodeHears1
import Derived.Test.YtgdgclmkpoaagaaGreatGNodeHears2
import Derived.Test.YtgdgclmkpoaagaaGreatGNodeHears3
set_option linter.unusedVariables false
set_option linter.unusedSectionVars false
set_option linter.unusedSimpArgs false
set_option maxRecDepth 100000
set_option maxHeartbeats 4000000
namespace Go.Proofs.YtgdgclmkpoaagaaGreat
open Go.GX Go.RowKit
attribute [local irreducible] Calls Run RunL RunQ RunD HR HL HD blkC ownC Rd
open Nd
theorem fn20 : IsFn Tryz.prog 20 := ⟨⟨_, _, Tryz.func20, rfl, by decide⟩⟩
structure ROk (V : NV) (n : Nd) (V' : NV) (Gt : List Chunk) (m : Nd) : Prop where
 pa : V'.pa = V.pa
 ps : V'.ps = V.ps
 ta : ∀ w2, Sl w2 (sv V.ta n.table.length) (cellsOf roC n.table) n.table.length → (groupC Gt).p w2 → Sl w2 (sv V'.ta m.table.length) (cellsOf roC m.table) m.table.length
 li : ∀ w2, Sl w2 (sv V.li n.links.length) (cellsOf liC n.links) n.links.length → Sl w2 (sv V'.li m.links.length) (cellsOf liC m.links) m.links.length
abbrev roH (V : NV) (Gt : List Chunk) (m : Nd) : List Chunk := [groupC Gt, cSn (sv V.ou m.out.length) m.out, cMa (sv V.bo m.boxes.length) m.boxes, cI (sv V.ch m.children.length) m.children, cPr (sv V.se m.seen.length) m.seen, cDe (sv V.ib m.inbox.length) m.inbox]
theorem fold_step (p : Int → Bool) {l : List Int} {k : Nat} {x : Int} (hx : l[k]? = some x) : ((l.take (k + 1)).filter p).foldl child [] = if p x = true then child (((l.take k).filter p).foldl child []) x else ((l.take k).filter p).foldl child [] := by
 rw [take_filter hx]
 split
 ·rw [List.foldl_append]; rfl
 ·rfl
theorem rorder_any (V : NV) (n : Nd) (w : World) (h : OkN w V n) (hs : SmN n) :
  Calls Tryz.prog 20 #[.agg ⟨ndC V n⟩] w fun e w' => ∃ x : NV × List Chunk, e = .returned (.agg ⟨ndC x.1 (order n)⟩) ∧ ROk V n x.1 x.2 (order n) ∧ Sat (base w) (roH x.1 x.2 (order n)) w' := by
 have l1 := hs.ta
 have l2 := hs.li
 have l3 := hs.ou
 have l4 := hs.ch
 have l5 := hs.bo
 have l6 := hs.se
 have l7 := hs.ib
 obtain ⟨m, hm⟩ : ∃ m, m = order n := ⟨_, rfl⟩
 have e_ad : m.addr = clamp n.addr 0 250 := by rw [hm]; rfl
 have e_po : m.poll = if n.poll < 1 then 0 else max n.poll 4 := by rw [hm]; rfl
 have e_pr : m.parent = if Tp.okN n.parent = false ∨ n.parent = m.addr then 255 else n.parent := by rw [hm]; rfl
 have e_ta : m.table = if rchk n.table m.addr = 0 then n.table else [rown m.addr] := by rw [hm]; rfl
 have e_li : m.links = if lchk n.links = 0 then n.links else [] := by rw [hm]; rfl
 have e_ou : m.out = n.out.take (min n.out.length 16) := by rw [hm, ← take_minl]; rfl
 have e_ch : m.children = (n.children.filter fun c => Tp.okN c && !(c == m.addr)).foldl child [] := by rw [hm]; rfl
 have e_bo : m.boxes = n.boxes.take (min n.boxes.length 16) := by rw [hm, ← take_minl]; rfl
 have e_se : m.seen = n.seen.drop (n.seen.length - 32) := by rw [hm]; rfl
 have e_ib : m.inbox = n.inbox.take (min n.inbox.length 256) := by rw [hm, ← take_minl]; rfl
 have e_sq : m.seq = if n.seq < 0 ∨ n.seq > 65535 then 0 else n.seq := by rw [hm]; rfl
 have e_lo : m.lost = clamp n.lost 0 1099511627776 := by rw [hm]; rfl
 have e_nw : rnew m.addr = [rown m.addr] := by rw [e_ad]; unfold rnew lim; rw [clamp2]
 have s_ou := Sl.pre snC_len h.ou (Nat.min_le_left _ _) e_ou
 have s_bo := Sl.pre maC_len h.bo (Nat.min_le_left _ _) e_bo
 have s_se := Sl.suf prC_len h.se (Nat.sub_le _ _) e_se
 have s_ib := Sl.pre deC_len h.ib (Nat.min_le_left _ _) e_ib
 have k3 : m.out.length ≤ 16 := by rw [e_ou, List.length_take]; omega
 have k5 : m.boxes.length ≤ 16 := by rw [e_bo, List.length_take]; omega
 have k6 : m.seen.length ≤ 32 := by rw [e_se, List.length_drop]; omega
 have k7 : m.inbox.length ≤ 256 := by rw [e_ib, List.length_take]; omega
 rw [← hm]
 refine calls_hr Tryz.func20 I (Nat.le_of_ble_eq_true I) ?_
 refine HR.sub (σ' := [(0, .agg ⟨ndC V n⟩)]) ⟨I, trivial⟩ ?_
 refine HR.ctl I ?_
 refine HR.region ?_
 refine HL.box I I ?_
 intro b1
 refine HL.alloc I I ?_
 intro b2
 repeat' (first | refine zh ?_ | refine HL.callB fn63 I I (fun w _ => rclamp_any n.addr 0 250 (by decide) w) ?_ | intro (bk : Nat))
 refine HR.ent (H' := [blkC b1 [.int .i64 m.addr, .int .i64 n.poll, .int .i64 n.parent, sv V.ta n.table.length, sv V.li n.links.length, sv V.ou n.out.length, sv V.ch n.children.length, sv V.bo n.boxes.length, sv V.se n.seen.length, sv V.pa V.ps.length, sv V.ib n.inbox.length, .int .i64 n.seq, .int .i64 n.lost] 31, rsC b2]) (Ent.trans (Ent.pick [1, 0] I I) (Ent.of_eq (by rw [e_ad]; rfl))) ?_
 refine HR.join (ι := Unit) (fun _ => True) (fun _ => [(1, ptr b1), (2, ptr b2)]) (fun _ => [blkC b1 [.int .i64 m.addr, .int .i64 m.poll, .int .i64 n.parent, sv V.ta n.table.length, sv V.li n.links.length, sv V.ou n.out.length, sv V.ch n.children.length, sv V.bo n.boxes.length, sv V.se n.seen.length, sv V.pa V.ps.length, sv V.ib n.inbox.length, .int .i64 n.seq, .int .i64 n.lost] 31, rsC b2]) (fun _ _ => ?_) (fun hj => ?_)
 rotate_left
 ·refine HR.cond I (fun h => ?_) (fun h => ?_)
  ·have h : n.poll < 1 := of_decide_eq_true h
   refine HR.region ?_
   repeat' (first | refine zn ?_ | apply zb ?_ ?_ | exact zc | (refine zi fun hb => ?_; try simp at hb) | intro (bk : Nat))
   refine hj () _ _ trivial ⟨I, I, trivial⟩ (Ent.of_eq ?_)
   rw [e_po, if_pos h]; rfl
  ·have h : ¬ n.poll < 1 := of_decide_eq_false h
   rw [if_neg h] at e_po
   refine HR.ctl I ?_
   refine HR.region ?_
   repeat' (first | refine zn ?_ | apply zb ?_ ?_ | exact zc | (refine zi fun hb => ?_; try simp at hb) | intro (bk : Nat))
   refine HR.cond I (fun h2 => ?_) (fun h2 => ?_)
   ·have h2 : n.poll < 4 := of_decide_eq_true h2
    refine HR.region ?_
    repeat' (first | refine zn ?_ | apply zb ?_ ?_ | exact zc | (refine zi fun hb => ?_; try simp at hb) | intro (bk : Nat))
    refine hj () _ _ trivial ⟨I, I, trivial⟩ (Ent.of_eq ?_)
    rw [show m.poll = 4 from by rw [e_po]; omega]; rfl
   ·have h2 : ¬ n.poll < 4 := of_decide_eq_false h2
    refine HR.skip ?_
    refine hj () _ _ trivial ⟨I, I, trivial⟩ (Ent.of_eq ?_)
    rw [show m.poll = n.poll from by rw [e_po]; omega]
 repeat' (first | refine zh ?_ | refine HL.callB fn45 I I (fun w _ => address_any n.parent w) ?_ | apply zb ?_ ?_ | exact zc | (refine zi fun hb => ?_; try simp at hb) | intro (bk : Nat))
 refine HR.join (ι := Unit) (fun _ => True) (fun _ => [(1, ptr b1), (2, ptr b2)]) (fun _ => [blkC b1 [.int .i64 m.addr, .int .i64 m.poll, .int .i64 m.parent, sv V.ta n.table.length, sv V.li n.links.length, sv V.ou n.out.length, sv V.ch n.children.length, sv V.bo n.boxes.length, sv V.se n.seen.length, sv V.pa V.ps.length, sv V.ib n.inbox.length, .int .i64 n.seq, .int .i64 n.lost] 31, rsC b2]) (fun _ _ => ?_) (fun hj => ?_)
 rotate_left
 ·refine HR.cond I (fun h => ?_) (fun h => ?_)
  ·have h : (!Tp.okN n.parent || (n.parent == m.addr)) = true := h
   have h2 : Tp.okN n.parent = false ∨ n.parent = m.addr := by simpa using h
   refine HR.region ?_
   repeat' (first | refine zn ?_ | apply zb ?_ ?_ | exact zc | (refine zi fun hb => ?_; try simp at hb) | intro (bk : Nat))
   refine hj () _ _ trivial ⟨I, I, trivial⟩ (Ent.of_eq ?_)
   rw [e_pr, if_pos h2]; rfl
  ·have h : (!Tp.okN n.parent || (n.parent == m.addr)) = false := h
   have h2 : ¬ (Tp.okN n.parent = false ∨ n.parent = m.addr) := by simpa using h
   refine HR.skip ?_
   refine hj () _ _ trivial ⟨I, I, trivial⟩ (Ent.of_eq ?_)
   rw [e_pr, if_neg h2]
 repeat' (first | refine zh ?_ | refine HL.callB fn64 I I (fun w hw => r11check_any n.table m.addr _ w ((Rd.arg h.ta).at hw) l1) ?_ | intro (bk : Nat))
 refine HR.join (ι := SV × List Chunk) (fun x => ∀ w2, Sl w2 (sv V.ta n.table.length) (cellsOf roC n.table) n.table.length → (groupC x.2).p w2 → Sl w2 (sv x.1 m.table.length) (cellsOf roC m.table) m.table.length) (fun _ => [(1, ptr b1), (2, ptr b2)]) (fun x => [blkC b1 [.int .i64 m.addr, .int .i64 m.poll, .int .i64 m.parent, sv x.1 m.table.length, sv V.li n.links.length, sv V.ou n.out.length, sv V.ch n.children.length, sv V.bo n.boxes.length, sv V.se n.seen.length, sv V.pa V.ps.length, sv V.ib n.inbox.length, .int .i64 n.seq, .int .i64 n.lost] 31, rsC b2, groupC x.2]) (fun xt ht => ?_) (fun hj => ?_)
 rotate_left
 ·refine HR.cond I (fun h2 => ?_) (fun h2 => ?_)
  ·have h2 : ¬ rchk n.table m.addr = 0 := by simpa using h2
   rw [if_neg h2, ← e_nw] at e_ta
   refine HR.region ?_
   repeat' (first | refine zn ?_ | refine HL.callO fn65 I I (fun w _ => rrnew_any m.addr w) ?_ | apply zb ?_ ?_ | exact zc | (refine zi fun hb => ?_; try simp at hb) | intro (bk : Nat))
   intro v2
   refine HL.shape 0 I fun a2 c2 hv => ?_
   subst hv
   repeat' (first | refine zn ?_ | apply zb ?_ ?_ | exact zc | (refine zi fun hb => ?_; try simp at hb) | intro (bk : Nat))
   refine hj ((a2, c2), [cTa (.slice a2 (rnew m.addr).length c2) (rnew m.addr)]) _ _ (fun w2 _ hp => ?_) ⟨I, I, trivial⟩ ?_
   ·rw [e_ta]; exact ownC_sl hp.1
   ·rw [e_ta]; exact Ent.trans (Ent.group (G := [cTa (.slice a2 (rnew m.addr).length c2) (rnew m.addr)])) (Ent.pick [1, 2, 0] I I)
  ·have h2 : rchk n.table m.addr = 0 := by simpa using h2
   rw [if_pos h2] at e_ta
   refine HR.skip ?_
   refine hj (V.ta, []) _ _ (fun w2 hw2 _ => ?_) ⟨I, I, trivial⟩ ?_
   ·rw [e_ta]; exact hw2
   ·rw [e_ta]; exact Ent.trans Ent.gnil (Ent.pick [1, 2, 0] I I)
 obtain ⟨xt, Gt⟩ := xt
 have ht : ∀ w2, Sl w2 (sv V.ta n.table.length) (cellsOf roC n.table) n.table.length → (groupC Gt).p w2 → Sl w2 (sv xt m.table.length) (cellsOf roC m.table) m.table.length := ht
 repeat' (first | refine zh ?_ | refine HL.callB fn66 I I (fun w hw => r10check_any n.links _ w ((Rd.arg h.li).at hw) l2) ?_ | intro (bk : Nat))
 refine HR.join (ι := SV) (fun x => ∀ w2, Sl w2 (sv V.li n.links.length) (cellsOf liC n.links) n.links.length → Sl w2 (sv x m.links.length) (cellsOf liC m.links) m.links.length) (fun _ => [(1, ptr b1), (2, ptr b2)]) (fun x => [blkC b1 [.int .i64 m.addr, .int .i64 m.poll, .int .i64 m.parent, sv xt m.table.length, sv x m.links.length, sv V.ou n.out.length, sv V.ch n.children.length, sv V.bo n.boxes.length, sv V.se n.seen.length, sv V.pa V.ps.length, sv V.ib n.inbox.length, .int .i64 n.seq, .int .i64 n.lost] 31, rsC b2, groupC Gt]) (fun xl hli => ?_) (fun hj => ?_)
 rotate_left
 ·refine HR.cond I (fun h2 => ?_) (fun h2 => ?_)
  ·have h2 : ¬ lchk n.links = 0 := by simpa using h2
   rw [if_neg h2] at e_li
   refine HR.region ?_
   repeat' (first | refine zn ?_ | apply zb ?_ ?_ | exact zc | (refine zi fun hb => ?_; try simp at hb) | intro (bk : Nat))
   refine hj (none, 0) _ _ (fun w2 _ => ?_) ⟨I, I, trivial⟩ ?_
   ·rw [e_li]; exact Sl.nil w2
   ·rw [e_li]; exact Ent.refl
  ·have h2 : lchk n.links = 0 := by simpa using h2
   rw [if_pos h2] at e_li
   refine HR.skip ?_
   refine hj V.li _ _ (fun w2 hw2 => ?_) ⟨I, I, trivial⟩ ?_
   ·rw [e_li]; exact hw2
   ·rw [e_li]; exact Ent.refl
 repeat' (first | refine zh ?_ | refine HL.bslice0 elemSn I ?_ | intro (bk : Nat))
 intro v0
 repeat' (first | refine zh ?_ | intro (bk : Nat))
 refine HL.setV 50 (v' := .int .i64 ((min n.out.length 16 : Nat) : Int)) I (by rw [← min_i]; rfl) ?_
 repeat' (first | refine zh ?_ | refine HL.subI (sz := 11) 0 (min n.out.length 16) (Rd.arg h.ou) I I I I (.inl ⟨rfl, rfl⟩) (.inr ⟨_, _, _, rfl, rfl, rfl⟩) (Nat.zero_le _) (Nat.min_le_left _ _) ?_ | intro (bk : Nat))
 refine HL.appR 0 I elemSn (Rd.arg s_ou) I I I (cellsOf_len snC_len _) (one_allcells snC_one _) (by omega) (by omega) ?_
 intro v1
 refine HL.ent (H' := cSn v1 m.out :: [blkC b1 [.int .i64 m.addr, .int .i64 m.poll, .int .i64 m.parent, sv xt m.table.length, sv xl m.links.length, sv V.ou n.out.length, sv V.ch n.children.length, sv V.bo n.boxes.length, sv V.se n.seen.length, sv V.pa V.ps.length, sv V.ib n.inbox.length, .int .i64 n.seq, .int .i64 n.lost] 31, rsC b2, groupC Gt]) (Ent.own0 (Nat.zero_add _) (List.nil_append _)) ?_
 refine HL.shape 0 I fun a3 c3 hv => ?_
 subst hv
 refine HL.ent (H' := [blkC b1 [.int .i64 m.addr, .int .i64 m.poll, .int .i64 m.parent, sv xt m.table.length, sv xl m.links.length, sv V.ou n.out.length, sv V.ch n.children.length, sv V.bo n.boxes.length, sv V.se n.seen.length, sv V.pa V.ps.length, sv V.ib n.inbox.length, .int .i64 n.seq, .int .i64 n.lost] 31, rsC b2, groupC Gt, cSn (.slice a3 m.out.length c3) m.out]) (Ent.pick [1, 2, 3, 0] I I) ?_
 repeat' (first | refine zh ?_ | refine HL.bslice0 elemMa I ?_ | intro (bk : Nat))
 intro v0
 repeat' (first | refine zh ?_ | intro (bk : Nat))
 refine HL.setV 60 (v' := .int .i64 ((min n.boxes.length 16 : Nat) : Int)) I (by rw [← min_i]; rfl) ?_
 repeat' (first | refine zh ?_ | refine HL.subI (sz := 10) 0 (min n.boxes.length 16) (Rd.arg h.bo) I I I I (.inl ⟨rfl, rfl⟩) (.inr ⟨_, _, _, rfl, rfl, rfl⟩) (Nat.zero_le _) (Nat.min_le_left _ _) ?_ | intro (bk : Nat))
 refine HL.appR 0 I elemMa (Rd.arg s_bo) I I I (cellsOf_len maC_len _) (one_allcells maC_one _) (by omega) (by omega) ?_
 intro v1
 refine HL.ent (H' := cMa v1 m.boxes :: [blkC b1 [.int .i64 m.addr, .int .i64 m.poll, .int .i64 m.parent, sv xt m.table.length, sv xl m.links.length, .slice a3 m.out.length c3, sv V.ch n.children.length, sv V.bo n.boxes.length, sv V.se n.seen.length, sv V.pa V.ps.length, sv V.ib n.inbox.length, .int .i64 n.seq, .int .i64 n.lost] 31, rsC b2, groupC Gt, cSn (.slice a3 m.out.length c3) m.out]) (Ent.own0 (Nat.zero_add _) (List.nil_append _)) ?_
 refine HL.shape 0 I fun a5 c5 hv => ?_
 subst hv
 refine HL.ent (H' := [blkC b1 [.int .i64 m.addr, .int .i64 m.poll, .int .i64 m.parent, sv xt m.table.length, sv xl m.links.length, .slice a3 m.out.length c3, sv V.ch n.children.length, sv V.bo n.boxes.length, sv V.se n.seen.length, sv V.pa V.ps.length, sv V.ib n.inbox.length, .int .i64 n.seq, .int .i64 n.lost] 31, rsC b2, groupC Gt, cSn (.slice a3 m.out.length c3) m.out, cMa (.slice a5 m.boxes.length c5) m.boxes]) (Ent.pick [1, 2, 3, 4, 0] I I) ?_
 repeat' (first | refine zh ?_ | intro (bk : Nat))
 refine HR.nilC 3 1 ?_
 obtain ⟨g, hg⟩ : ∃ g : Nat → List Int, g = fun k => ((n.children.take k).filter fun c => Tp.okN c && !(c == m.addr)).foldl child [] := ⟨_, rfl⟩
 have hga : ∀ k, Asc id (g k) := fun k => by rw [hg]; exact (childs_asc (l := (n.children.take k).filter fun c => Tp.okN c && !(c == m.addr)) (acc := []) List.Pairwise.nil).1
 have hgl : ∀ k, (g k).length ≤ 1000 := fun k => Nat.le_trans (asc_bound (hga k) fun x hx => by
  rw [hg] at hx
  have hx := ((childs_asc (l := (n.children.take k).filter fun c => Tp.okN c && !(c == m.addr)) (acc := []) List.Pairwise.nil).2 x).1 hx
  rcases hx with hx | hx
  ·have := (List.mem_filter.1 hx).2
   simp only [Bool.and_eq_true] at this
   exact this.1
  ·cases hx) (by decide)
 refine HR.loop (ι := Nat × Value) (fun x => x.1 ≤ n.children.length) (fun x => [(1, ptr b1), (2, ptr b2), (3, x.2), (4, .int .i64 (x.1 : Int))]) (fun x => [cI x.2 (g x.1), blkC b1 [.int .i64 m.addr, .int .i64 m.poll, .int .i64 m.parent, sv xt m.table.length, sv xl m.links.length, .slice a3 m.out.length c3, sv V.ch n.children.length, .slice a5 m.boxes.length c5, sv V.se n.seen.length, sv V.pa V.ps.length, sv V.ib n.inbox.length, .int .i64 n.seq, .int .i64 n.lost] 31, rsC b2, groupC Gt, cSn (.slice a3 m.out.length c3) m.out, cMa (.slice a5 m.boxes.length c5) m.boxes]) (fun x => n.children.length - x.1) (0, .slice none 0 0) (Nat.zero_le _) ⟨I, I, I, I, trivial⟩ (by rw [hg]; exact Ent.refl) ?_
 rintro ⟨k, v⟩ hk ih
 have hk : k ≤ n.children.length := hk
 repeat' (first | refine zh ?_ | intro (bk : Nat))
 refine HR.cond I (fun h2 => ?_) (fun h2 => ?_)
 ·have hlt : k < n.children.length := by have := of_decide_eq_true h2; omega
  obtain ⟨c, hc⟩ := getSome hlt
  have hgs := fold_step (fun c => Tp.okN c && !(c == m.addr)) hc
  have hgs : g (k + 1) = if (Tp.okN c && !(c == m.addr)) = true then child (g k) c else g k := by rw [hg]; exact hgs
  repeat' (first | refine zh ?_ | intro (bk : Nat))
  refine HR.join (ι := Unit) (fun _ => True) (fun _ => [(1, ptr b1), (2, ptr b2), (3, v), (4, .int .i64 (k : Int)), (86, .bool (Tp.okN c && !(c == m.addr)))]) (fun _ => [cI v (g k), blkC b1 [.int .i64 m.addr, .int .i64 m.poll, .int .i64 m.parent, sv xt m.table.length, sv xl m.links.length, .slice a3 m.out.length c3, sv V.ch n.children.length, .slice a5 m.boxes.length c5, sv V.se n.seen.length, sv V.pa V.ps.length, sv V.ib n.inbox.length, .int .i64 n.seq, .int .i64 n.lost] 31, rsC b2, groupC Gt, cSn (.slice a3 m.out.length c3) m.out, cMa (.slice a5 m.boxes.length c5) m.boxes]) (fun _ _ => ?_) (fun hj => ?_)
  rotate_left
  ·refine HR.regionD [(0, true), (1, true), (2, true), (3, true), (4, true), (5, false), (6, true), (7, true), (8, true), (9, true), (10, true), (11, true), (12, true), (13, true), (14, true), (15, true)] [1] I I hmix (by kernel_rfl) ?_
   repeat' (first | refine zd ?_ | refine HD.idxR (Rd.arg h.ch) elemI k I I I I I hlt ?_ | refine HD.loadI (Rd.arg h.ch) I I I I I (cellsOf_get1 hc) ?_)
   refine HD.one I ?_
   refine HL.callB fn45 I I (fun w _ => address_any c w) ?_
   refine HL.back [1] I I ?_
   repeat' (first | refine zd ?_ | fail)
   refine HD.split 77 I (fun hb => ?_) (fun hb => ?_)
   ·repeat' (first | refine zd ?_ | refine HD.idxR (Rd.arg h.ch) elemI k I I I I I hlt ?_ | refine HD.loadI (Rd.arg h.ch) I I I I I (cellsOf_get1 hc) ?_)
    refine HD.nil ?_
    refine hj () _ _ trivial ⟨rfl, rfl, rfl, rfl, ?_, trivial⟩ Ent.refl
    show some (Value.bool (!(c == m.addr))) = some (Value.bool (Tp.okN c && !(c == m.addr)))
    rw [show Tp.okN c = true from hb]; rfl
   ·repeat' (first | refine zd ?_ | fail)
    refine HD.nil ?_
    refine hj () _ _ trivial ⟨rfl, rfl, rfl, rfl, ?_, trivial⟩ Ent.refl
    show some (Value.bool false) = some (Value.bool (Tp.okN c && !(c == m.addr)))
    rw [show Tp.okN c = false from hb]; rfl
  refine HR.cond I (fun h3 => ?_) (fun h3 => ?_)
  ·have h3 : (Tp.okN c && !(c == m.addr)) = true := h3
   rw [if_pos h3] at hgs
   repeat' (first | refine zh ?_ | refine HL.idxR (Rd.arg h.ch) elemI k I I I I hlt ?_ | refine HL.loadI (Rd.arg h.ch) I I I I (cellsOf_get1 hc) ?_ | intro (bk : Nat))
   refine HL.callW (r := fun r : Value => r) (Q := fun _ => True) (G0 := [cI v (g k)]) (H0 := [blkC b1 [.int .i64 m.addr, .int .i64 m.poll, .int .i64 m.parent, sv xt m.table.length, sv xl m.links.length, .slice a3 m.out.length c3, sv V.ch n.children.length, .slice a5 m.boxes.length c5, sv V.se n.seen.length, sv V.pa V.ps.length, sv V.ib n.inbox.length, .int .i64 n.seq, .int .i64 n.lost] 31, rsC b2, groupC Gt, cSn (.slice a3 m.out.length c3) m.out, cMa (.slice a5 m.boxes.length c5) m.boxes]) (G := fun r => [cI r (child (g k) c)]) fn67 I I I (fun w1 hw1 => rchild_any (g k) c v _ w1 (hw1.pick [0] I I) (hgl k) (hga k)) ?_
   intro r _
   repeat' (first | refine zh ?_ | intro (bk : Nat))
   refine ih (k + 1, r) _ _ hlt (by show n.children.length - (k + 1) < n.children.length - k; omega) ⟨I, I, I, I, trivial⟩ ?_
   show Ent _ _ [cI r (g (k + 1)), blkC b1 [.int .i64 m.addr, .int .i64 m.poll, .int .i64 m.parent, sv xt m.table.length, sv xl m.links.length, .slice a3 m.out.length c3, sv V.ch n.children.length, .slice a5 m.boxes.length c5, sv V.se n.seen.length, sv V.pa V.ps.length, sv V.ib n.inbox.length, .int .i64 n.seq, .int .i64 n.lost] 31, rsC b2, groupC Gt, cSn (.slice a3 m.out.length c3) m.out, cMa (.slice a5 m.boxes.length c5) m.boxes]
   rw [hgs]
   exact Ent.refl
  ·have h3 : (Tp.okN c && !(c == m.addr)) = false := h3
   rw [if_neg (by rw [h3]; decide)] at hgs
   repeat' (first | refine zh ?_ | intro (bk : Nat))
   refine ih (k + 1, v) _ _ hlt (by show n.children.length - (k + 1) < n.children.length - k; omega) ⟨I, I, I, I, trivial⟩ ?_
   show Ent _ _ [cI v (g (k + 1)), blkC b1 [.int .i64 m.addr, .int .i64 m.poll, .int .i64 m.parent, sv xt m.table.length, sv xl m.links.length, .slice a3 m.out.length c3, sv V.ch n.children.length, .slice a5 m.boxes.length c5, sv V.se n.seen.length, sv V.pa V.ps.length, sv V.ib n.inbox.length, .int .i64 n.seq, .int .i64 n.lost] 31, rsC b2, groupC Gt, cSn (.slice a3 m.out.length c3) m.out, cMa (.slice a5 m.boxes.length c5) m.boxes]
   rw [hgs]
   exact Ent.refl
 have hke : k = n.children.length := by have := of_decide_eq_false h2; omega
 subst hke
 have hgm : g n.children.length = m.children := by rw [e_ch, hg]; show ((n.children.take n.children.length).filter _).foldl child [] = _; rw [List.take_length]
 refine HR.ent (H' := [cI v m.children, blkC b1 [.int .i64 m.addr, .int .i64 m.poll, .int .i64 m.parent, sv xt m.table.length, sv xl m.links.length, .slice a3 m.out.length c3, sv V.ch n.children.length, .slice a5 m.boxes.length c5, sv V.se n.seen.length, sv V.pa V.ps.length, sv V.ib n.inbox.length, .int .i64 n.seq, .int .i64 n.lost] 31, rsC b2, groupC Gt, cSn (.slice a3 m.out.length c3) m.out, cMa (.slice a5 m.boxes.length c5) m.boxes]) (Ent.of_eq (by rw [← hgm])) ?_
 repeat' (first | refine zh ?_ | intro (bk : Nat))
 refine HL.shape 0 I fun a4 c4 hv => ?_
 subst hv
 refine HL.ent (H' := [blkC b1 [.int .i64 m.addr, .int .i64 m.poll, .int .i64 m.parent, sv xt m.table.length, sv xl m.links.length, .slice a3 m.out.length c3, sv V.ch n.children.length, .slice a5 m.boxes.length c5, sv V.se n.seen.length, sv V.pa V.ps.length, sv V.ib n.inbox.length, .int .i64 n.seq, .int .i64 n.lost] 31, rsC b2, groupC Gt, cSn (.slice a3 m.out.length c3) m.out, cMa (.slice a5 m.boxes.length c5) m.boxes, cI (.slice a4 m.children.length c4) m.children]) (Ent.pick [1, 2, 3, 4, 5, 0] I I) ?_
 repeat' (first | refine zh ?_ | refine HL.bslice0 elemPr I ?_ | intro (bk : Nat))
 intro v0
 repeat' (first | refine zh ?_ | intro (bk : Nat))
 refine HL.setV 103 (v' := .int .i64 ((n.seen.length - 32 : Nat) : Int)) I (by rw [← max0]) ?_
 repeat' (first | refine zh ?_ | refine HL.subI (sz := 2) (n.seen.length - 32) n.seen.length (Rd.arg h.se) I I I I (.inr ⟨_, _, _, rfl, rfl, rfl⟩) (.inl ⟨rfl, rfl⟩) (Nat.sub_le _ _) (Nat.le_refl _) ?_ | intro (bk : Nat))
 refine HL.appR 0 I elemPr (Rd.arg s_se) I I I (cellsOf_len prC_len _) (one_allcells prC_one _) (by omega) (by omega) ?_
 intro v1
 refine HL.ent (H' := cPr v1 m.seen :: [blkC b1 [.int .i64 m.addr, .int .i64 m.poll, .int .i64 m.parent, sv xt m.table.length, sv xl m.links.length, .slice a3 m.out.length c3, .slice a4 m.children.length c4, .slice a5 m.boxes.length c5, sv V.se n.seen.length, sv V.pa V.ps.length, sv V.ib n.inbox.length, .int .i64 n.seq, .int .i64 n.lost] 31, rsC b2, groupC Gt, cSn (.slice a3 m.out.length c3) m.out, cMa (.slice a5 m.boxes.length c5) m.boxes, cI (.slice a4 m.children.length c4) m.children]) (Ent.own0 (Nat.zero_add _) (List.nil_append _)) ?_
 refine HL.shape 0 I fun a6 c6 hv => ?_
 subst hv
 refine HL.ent (H' := [blkC b1 [.int .i64 m.addr, .int .i64 m.poll, .int .i64 m.parent, sv xt m.table.length, sv xl m.links.length, .slice a3 m.out.length c3, .slice a4 m.children.length c4, .slice a5 m.boxes.length c5, sv V.se n.seen.length, sv V.pa V.ps.length, sv V.ib n.inbox.length, .int .i64 n.seq, .int .i64 n.lost] 31, rsC b2, groupC Gt, cSn (.slice a3 m.out.length c3) m.out, cMa (.slice a5 m.boxes.length c5) m.boxes, cI (.slice a4 m.children.length c4) m.children, cPr (.slice a6 m.seen.length c6) m.seen]) (Ent.pick [1, 2, 3, 4, 5, 6, 0] I I) ?_
 repeat' (first | refine zh ?_ | refine HL.bslice0 elemDe I ?_ | intro (bk : Nat))
 intro v0
 repeat' (first | refine zh ?_ | intro (bk : Nat))
 refine HL.setV 113 (v' := .int .i64 ((min n.inbox.length 256 : Nat) : Int)) I (by rw [← min_i]; rfl) ?_
 repeat' (first | refine zh ?_ | refine HL.subI (sz := 2) 0 (min n.inbox.length 256) (Rd.arg h.ib) I I I I (.inl ⟨rfl, rfl⟩) (.inr ⟨_, _, _, rfl, rfl, rfl⟩) (Nat.zero_le _) (Nat.min_le_left _ _) ?_ | intro (bk : Nat))
 refine HL.appR 0 I elemDe (Rd.arg s_ib) I I I (cellsOf_len deC_len _) (one_allcells deC_one _) (by omega) (by omega) ?_
 intro v1
 refine HL.ent (H' := cDe v1 m.inbox :: [blkC b1 [.int .i64 m.addr, .int .i64 m.poll, .int .i64 m.parent, sv xt m.table.length, sv xl m.links.length, .slice a3 m.out.length c3, .slice a4 m.children.length c4, .slice a5 m.boxes.length c5, .slice a6 m.seen.length c6, sv V.pa V.ps.length, sv V.ib n.inbox.length, .int .i64 n.seq, .int .i64 n.lost] 31, rsC b2, groupC Gt, cSn (.slice a3 m.out.length c3) m.out, cMa (.slice a5 m.boxes.length c5) m.boxes, cI (.slice a4 m.children.length c4) m.children, cPr (.slice a6 m.seen.length c6) m.seen]) (Ent.own0 (Nat.zero_add _) (List.nil_append _)) ?_
 refine HL.shape 0 I fun a7 c7 hv => ?_
 subst hv
 refine HL.ent (H' := [blkC b1 [.int .i64 m.addr, .int .i64 m.poll, .int .i64 m.parent, sv xt m.table.length, sv xl m.links.length, .slice a3 m.out.length c3, .slice a4 m.children.length c4, .slice a5 m.boxes.length c5, .slice a6 m.seen.length c6, sv V.pa V.ps.length, sv V.ib n.inbox.length, .int .i64 n.seq, .int .i64 n.lost] 31, rsC b2, groupC Gt, cSn (.slice a3 m.out.length c3) m.out, cMa (.slice a5 m.boxes.length c5) m.boxes, cI (.slice a4 m.children.length c4) m.children, cPr (.slice a6 m.seen.length c6) m.seen, cDe (.slice a7 m.inbox.length c7) m.inbox]) (Ent.pick [1, 2, 3, 4, 5, 6, 7, 0] I I) ?_
 repeat' (first | refine zh ?_ | apply zb ?_ ?_ | exact zc | (refine zi fun hb => ?_; try simp at hb) | intro (bk : Nat))
 refine HR.join (ι := Unit) (fun _ => True) (fun _ => [(1, ptr b1), (2, ptr b2)]) (fun _ => [blkC b1 [.int .i64 m.addr, .int .i64 m.poll, .int .i64 m.parent, sv xt m.table.length, sv xl m.links.length, .slice a3 m.out.length c3, .slice a4 m.children.length c4, .slice a5 m.boxes.length c5, .slice a6 m.seen.length c6, sv V.pa V.ps.length, .slice a7 m.inbox.length c7, .int .i64 m.seq, .int .i64 n.lost] 31, rsC b2, groupC Gt, cSn (.slice a3 m.out.length c3) m.out, cMa (.slice a5 m.boxes.length c5) m.boxes, cI (.slice a4 m.children.length c4) m.children, cPr (.slice a6 m.seen.length c6) m.seen, cDe (.slice a7 m.inbox.length c7) m.inbox]) (fun _ _ => ?_) (fun hj => ?_)
 rotate_left
 ·refine HR.cond I (fun h2 => ?_) (fun h2 => ?_)
  ·have h2 : (decide (n.seq < 0) || decide (n.seq > 65535)) = true := h2
   have h3 : n.seq < 0 ∨ n.seq > 65535 := by simpa using h2
   refine HR.region ?_
   repeat' (first | refine zn ?_ | apply zb ?_ ?_ | exact zc | (refine zi fun hb => ?_; try simp at hb) | intro (bk : Nat))
   refine hj () _ _ trivial ⟨I, I, trivial⟩ (Ent.of_eq ?_)
   rw [e_sq, if_pos h3]; rfl
  ·have h2 : (decide (n.seq < 0) || decide (n.seq > 65535)) = false := h2
   have h3 : ¬ (n.seq < 0 ∨ n.seq > 65535) := by simpa using h2
   refine HR.skip ?_
   refine hj () _ _ trivial ⟨I, I, trivial⟩ (Ent.of_eq ?_)
   rw [e_sq, if_neg h3]; rfl
 repeat' (first | refine zh ?_ | refine HL.callB fn63 I I (fun w _ => rclamp_any n.lost 0 1099511627776 (by decide) w) ?_ | intro (bk : Nat))
 refine HR.ret Tryz.func20 I [_] (fun w hw => ⟨⟨_, rfl, loadVarR hw 1 I I I I rfl⟩, trivial⟩) ?_
 refine fun w' hw => ⟨(⟨xt, xl, (a3, c3), (a4, c4), (a5, c5), (a6, c6), V.pa, (a7, c7), V.ps⟩, Gt), ?_, ⟨rfl, rfl, ht, hli⟩, hw.pick [2, 3, 4, 5, 6, 7] I rfl⟩
 show _ = Ending.returned (.agg ⟨ndC ⟨xt, xl, (a3, c3), (a4, c4), (a5, c5), (a6, c6), V.pa, (a7, c7), V.ps⟩ m⟩)
 rw [show ndC ⟨xt, xl, (a3, c3), (a4, c4), (a5, c5), (a6, c6), V.pa, (a7, c7), V.ps⟩ m = ndC ⟨xt, xl, (a3, c3), (a4, c4), (a5, c5), (a6, c6), V.pa, (a7, c7), V.ps⟩ { m with lost := clamp n.lost 0 1099511627776 } from by rw [← e_lo]]
 rfl
end Go.Proofs.YtgdgclmkpoaagaaGreat
namespace Go.Proofs.YtgdgclmkpoaagaaGreat
open Go.GX Go.RowKit
attribute [local irreducible] Calls Run RunL RunQ RunD HR HL HD blkC ownC Rd
open Nd
abbrev Imp (V0 : NV) (n0 : Nd) (V : NV) (G : List Chunk) (n : Nd) : Prop := ∀ w2, OkN w2 V0 n0 → (groupC G).p w2 → OkN w2 V n
theorem ROk.okn {V V' : NV} {n m : Nd} {Gt : List Chunk} (hr : ROk V n V' Gt m) (hp : m.parts = n.parts) : Imp V n V' (roH V' Gt m) m := by
 intro w2 h2 hg
 refine ⟨hr.ta w2 h2.ta (groupC_mem hg (List.mem_cons_self ..)), hr.li w2 h2.li, ownC_sl (groupC_mem hg (c := cSn (sv V'.ou m.out.length) m.out) (by simp)), ownC_sl (groupC_mem hg (c := cI (sv V'.ch m.children.length) m.children) (by simp)), ownC_sl (groupC_mem hg (c := cMa (sv V'.bo m.boxes.length) m.boxes) (by simp)), ownC_sl (groupC_mem hg (c := cPr (sv V'.se m.seen.length) m.seen) (by simp)), ?_, ownC_sl (groupC_mem hg (c := cDe (sv V'.ib m.inbox.length) m.inbox) (by simp)), ?_⟩
 ·rw [hr.pa, hr.ps]; exact h2.pa
 ·rw [hr.ps, hp]; exact h2.eq
end Go.Proofs.YtgdgclmkpoaagaaGreat
namespace Go.Proofs.YtgdgclmkpoaagaaGreat
open Go.GX Go.RowKit
attribute [local irreducible] Calls Run RunL RunQ RunD HR HL HD blkC ownC Rd
open Nd
theorem deliver_is (n : Nd) (d : De) : ∃ i l, deliver n d = { n with inbox := i, lost := l } := by
 by_cases h : n.inbox.length ≥ 256
 ·exact ⟨n.inbox, min (n.lost + 1) maxTick, by unfold deliver lose; rw [if_pos h]⟩
 ·exact ⟨n.inbox ++ [d], n.lost, by unfold deliver; rw [if_neg h]⟩
end Go.Proofs.YtgdgclmkpoaagaaGreat
namespace Go.Proofs.YtgdgclmkpoaagaaGreat
open Go.GX Go.RowKit
attribute [local irreducible] Calls Run RunL RunQ RunD HR HL HD blkC ownC Rd
open Nd
theorem fn60 : IsFn Tryz.prog 60 := ⟨⟨_, _, Tryz.func60, rfl, by decide⟩⟩
theorem rbeacon17_any (V : NV) (n : Nd) (f : Fr) (w : World) (ht : Sl w (sv V.ta n.table.length) (cellsOf roC n.table) n.table.length) (hli : Sl w (sv V.li n.links.length) (cellsOf liC n.links) n.links.length) (ho : Ord n) (hfd : f.da.length ≤ 1000) :
  Calls Tryz.prog 60 #[.agg ⟨ndC V n⟩, .agg ⟨frC f⟩] w fun e w' => ∃ x : (SV × SV) × List Chunk, e = .returned (.agg ⟨ndC { V with ta := x.1.1, li := x.1.2 } (advertised n f)⟩) ∧ (∀ w2, Sl w2 (sv V.ta n.table.length) (cellsOf roC n.table) n.table.length → (groupC x.2).p w2 → Sl w2 (sv x.1.1 (advertised n f).table.length) (cellsOf roC (advertised n f).table) (advertised n f).table.length ∧ Sl w2 (sv x.1.2 (advertised n f).links.length) (cellsOf liC (advertised n f).links) (advertised n f).links.length) ∧ Sat (base w) [groupC x.2] w' := by
 have h24 := tlen ho
 have l24 := llen ho
 obtain ⟨a, ha⟩ : ∃ a : Nd, a = { n with links := lseen n.links f.fr true } := ⟨_, rfl⟩
 have hal : (lseen n.links f.fr true).length ≤ 24 := lchk_room (lseen_ok _ _ _)
 obtain ⟨d, hd⟩ : ∃ d, d = rdec f.da := ⟨_, rfl⟩
 obtain ⟨g, hg⟩ : ∃ g : Nd, g = { n with links := lseen n.links f.fr true, table := rupd n.table n.addr f.fr (lcost (lseen n.links f.fr true) f.fr) d.1 } := ⟨_, rfl⟩
 obtain ⟨Z, hZ⟩ : ∃ Z, Z = advertised n f := ⟨_, rfl⟩
 have hsp : Z = if d.2 ≠ 0 then { n with links := lseen n.links f.fr true } else if g.poll > 0 ∧ g.parent = 255 ∧ (rhop d.1 0).2 = true then { g with parent := f.fr } else g := by rw [hZ, hg, hd]; rfl
 rw [← hZ]
 refine calls_hr Tryz.func60 I (Nat.le_of_ble_eq_true I) ?_
 refine HR.sub (σ' := [(0, .agg ⟨ndC V n⟩), (1, .agg ⟨frC f⟩)]) ⟨I, I, trivial⟩ ?_
 refine HR.ctl I ?_
 refine HR.region ?_
 refine HL.box I I ?_
 intro b2
 refine HL.box I I ?_
 intro b3
 refine HL.alloc I I ?_
 intro b4
 repeat' (first | refine zh ?_ | refine HL.callO fn82 I I (fun w1 hw1 => r10seen_any n.links f.fr true _ w1 ((Rd.arg hli).at hw1) (by omega)) ?_ | intro (bk : Nat))
 intro v1
 refine HL.shape 0 I fun a1 c1 hv => ?_
 subst hv
 repeat' (first | refine zh ?_ | intro (bk : Nat))
 refine HL.callX (r := fun v' : Value => .tuple ⟨[v', .int .i64 d.2]⟩) (Q := fun _ => True) (G := fun v' => [cTa v' d.1]) fn133 I I (fun w1 _ => by rw [hd]; exact r11dec_any f.da w1 (by omega)) ?_
 intro v2 _
 repeat' (first | refine zh ?_ | intro (bk : Nat))
 refine HR.cond I (fun h1 => ?_) (fun h1 => ?_)
 ·have h1 : d.2 ≠ 0 := by simpa using h1
  rw [if_pos h1] at hsp
  rw [hsp]
  repeat' (first | refine zh ?_ | intro (bk : Nat))
  refine HR.ret Tryz.func60 I [_] (fun w hw => ⟨⟨_, rfl, loadVarR hw 2 I I I I rfl⟩, trivial⟩) ?_
  refine fun w' hw => ⟨((V.ta, (a1, c1)), [cLi (.slice a1 (lseen n.links f.fr true).length c1) (lseen n.links f.fr true)]), rfl, fun w2 h2 hg => ⟨h2, ownC_sl hg.1⟩, ?_⟩
  exact Ent.trans (Ent.pick [1] I I) (Ent.group (G := [cLi (.slice a1 (lseen n.links f.fr true).length c1) (lseen n.links f.fr true)]) (H := [])) w' hw
 have h1 : ¬ d.2 ≠ 0 := by simpa using h1
 rw [if_neg h1] at hsp
 have h0 : (rdec f.da).2 = 0 := by rw [← hd]; omega
 obtain ⟨g1, g2, g3⟩ := rdec_ok h0
 rw [← hd] at g1 g2 g3
 repeat' (first | refine zh ?_ | intro (bk : Nat))
 refine HR.regionY [(0, true), (1, true), (2, true), (3, true), (4, true), (5, true), (6, true), (7, true), (8, true), (9, true), (11, true), (10, false), (12, false), (13, true)] 14 [3, 4] I I hmix (by kernel_rfl) ?_
 repeat' (first | refine zd ?_ | fail)
 refine HD.one I ?_
 refine HL.callB fn135 I I (fun w1 hw1 => r10cost_any (lseen n.links f.fr true) f.fr _ w1 ((Rd.own 1 rfl).at hw1) (by omega)) ?_
 refine HL.back [3, 4] I I ?_
 refine HD.one I ?_
 refine HL.callO fn134 I I (fun w1 hw1 => r11upd_any n.table n.addr f.fr (lcost (lseen n.links f.fr true) f.fr) d.1 _ v2 w1 ((Rd.arg ht).at hw1) ((Rd.own 0 rfl).at hw1) (by omega) (by omega)) ?_
 intro v3
 refine HL.shape 0 I fun a3 c3 hv => ?_
 subst hv
 refine HL.back [4, 5] I I ?_
 repeat' (first | refine zd ?_ | fail)
 refine HD.last I ?_
 repeat' (first | refine zn ?_ | intro (bk : Nat))
 repeat' (first | refine zh ?_ | refine HL.callB fn136 I I (fun w1 hw1 => r11hop_any d.1 0 v2 w1 ((Rd.own 1 rfl).at hw1) (by omega)) ?_ | apply zb ?_ ?_ | exact zc | (refine zi fun hb => ?_; try simp at hb) | intro (bk : Nat))
 have htl : (rupd n.table n.addr f.fr (lcost (lseen n.links f.fr true) f.fr) d.1) = g.table := by rw [hg]
 have fin : ∀ (z : Nd), z.table = rupd n.table n.addr f.fr (lcost (lseen n.links f.fr true) f.fr) d.1 → z.links = lseen n.links f.fr true → ∀ w2, (groupC [cTa (.slice a3 (rupd n.table n.addr f.fr (lcost (lseen n.links f.fr true) f.fr) d.1).length c3) (rupd n.table n.addr f.fr (lcost (lseen n.links f.fr true) f.fr) d.1), cLi (.slice a1 (lseen n.links f.fr true).length c1) (lseen n.links f.fr true)]).p w2 → Sl w2 (sv (a3, c3) z.table.length) (cellsOf roC z.table) z.table.length ∧ Sl w2 (sv (a1, c1) z.links.length) (cellsOf liC z.links) z.links.length := fun z e1 e2 w2 hg => by
  rw [e1, e2]; exact ⟨ownC_sl hg.1, ownC_sl hg.2.2.1⟩
 refine HR.cond I (fun h2 => ?_) (fun h2 => ?_)
 ·have h2 : (decide (n.poll > 0) && (n.parent == 255) && (rhop d.1 0).2) = true := h2
  have h3 : g.poll > 0 ∧ g.parent = 255 ∧ (rhop d.1 0).2 = true := by rw [hg]; simpa [and_assoc] using h2
  rw [if_pos h3, hg] at hsp
  rw [hsp]
  repeat' (first | refine zh ?_ | intro (bk : Nat))
  refine HR.ret Tryz.func60 I [_] (fun w hw => ⟨⟨_, rfl, loadVarR hw 3 I I I I rfl⟩, trivial⟩) ?_
  refine fun w' hw => ⟨(((a3, c3), (a1, c1)), _), rfl, fun w2 _ hgp => fin _ I I w2 hgp, ?_⟩
  exact Ent.trans (Ent.pick [0, 2] I I) (Ent.group (G := [_, _]) (H := [])) w' hw
 ·have h2 : (decide (n.poll > 0) && (n.parent == 255) && (rhop d.1 0).2) = false := h2
  have h3 : ¬ (g.poll > 0 ∧ g.parent = 255 ∧ (rhop d.1 0).2 = true) := by
   intro e
   rw [hg] at e
   have : (decide (n.poll > 0) && (n.parent == 255) && (rhop d.1 0).2) = true := by simpa [and_assoc] using e
   rw [h2] at this; cases this
  rw [if_neg h3, hg] at hsp
  rw [hsp]
  repeat' (first | refine zh ?_ | intro (bk : Nat))
  refine HR.ret Tryz.func60 I [_] (fun w hw => ⟨⟨_, rfl, loadVarR hw 3 I I I I rfl⟩, trivial⟩) ?_
  refine fun w' hw => ⟨(((a3, c3), (a1, c1)), _), rfl, fun w2 _ hgp => fin _ I I w2 hgp, ?_⟩
  exact Ent.trans (Ent.pick [0, 2] I I) (Ent.group (G := [_, _]) (H := [])) w' hw
end Go.Proofs.YtgdgclmkpoaagaaGreat
namespace Go.Proofs.YtgdgclmkpoaagaaGreat
open Go.GX Go.RowKit
attribute [local irreducible] Calls Run RunL RunQ RunD HR HL HD blkC ownC Rd
open Nd
theorem fn62 : IsFn Tryz.prog 62 := ⟨⟨_, _, Tryz.func62, rfl, by decide⟩⟩
structure DOk (V : NV) (V' : NV) (G : List Chunk) (n : Nd) : Prop where
 ta : V'.ta = V.ta
 li : V'.li = V.li
 bo : V'.bo = V.bo
 ch : V'.ch = V.ch
 ou : ∀ w2, (groupC G).p w2 → Sl w2 (sv V'.ou n.out.length) (cellsOf snC n.out) n.out.length
 se : ∀ w2, (groupC G).p w2 → Sl w2 (sv V'.se n.seen.length) (cellsOf prC n.seen) n.seen.length
 ib : ∀ w2, (groupC G).p w2 → Sl w2 (sv V'.ib n.inbox.length) (cellsOf deC n.inbox) n.inbox.length
 pa : ∀ w2, RdPts w2 (sv V.pa V.ps.length) V.ps → (groupC G).p w2 → RdPts w2 (sv V'.pa V'.ps.length) V'.ps
 eq : pts V'.ps = n.parts
theorem rdata_any (V : NV) (n : Nd) (now : Int) (f : Fr) (B0 : Base) (w : World) (hw0 : Sat B0 [cSn (sv V.ou n.out.length) n.out, cPr (sv V.se n.seen.length) n.seen, cDe (sv V.ib n.inbox.length) n.inbox] w) (ho : Ord n)
  (hpa : ∀ H w2, Sat ⟨w, feet [cSn (sv V.ou n.out.length) n.out, cPr (sv V.se n.seen.length) n.seen, cDe (sv V.ib n.inbox.length) n.inbox]⟩ H w2 → RdPts w2 (sv V.pa V.ps.length) V.ps) (hP : pts V.ps = n.parts) (hsm : ∀ p ∈ n.parts, SmPt p) (hpl : n.parts.length ≤ 1000) (hfd : f.da.length ≤ 1000) (hhp : 0 ≤ f.hp ∧ f.hp ≤ 15) :
  Calls Tryz.prog 62 #[.agg ⟨ndC V n⟩, .int .i64 now, .agg ⟨frC f⟩] w fun e w' => ∃ x : NV × List Chunk, e = .returned (.agg ⟨ndC x.1 (received n f now)⟩) ∧ DOk V x.1 x.2 (received n f now) ∧ Sat ⟨w, feet [cSn (sv V.ou n.out.length) n.out, cPr (sv V.se n.seen.length) n.seen, cDe (sv V.ib n.inbox.length) n.inbox]⟩ [groupC x.2] w' := by
 obtain ⟨hhp0, hhp1⟩ := hhp
 have hse := ho.seen
 have h16 := ho.out
 have h256 := ho.inbox
 have hml := mfresh_len n.seen ⟨f.so, f.sq⟩
 obtain ⟨r, hr⟩ : ∃ r, r = mfresh n.seen ⟨f.so, f.sq⟩ := ⟨_, rfl⟩
 rw [← hr] at hml
 obtain ⟨q, hq⟩ : ∃ q, q = padd n.parts f.so now f.da := ⟨_, rfl⟩
 have hps : V.ps.length ≤ 1000 := by rw [← pts_len, hP]; exact hpl
 have hpm : ∀ p ∈ V.ps, SmPt p.pt := fun p hp => hsm p.pt (by rw [← hP]; exact List.mem_map.2 ⟨p, hp, rfl⟩)
 have hsp : received n f now = if r.2 = false then { n with seen := r.1 } else if f.ta = n.addr then (if q.e ≠ 0 then { n with seen := r.1 } else if q.ok then deliver { n with seen := r.1, parts := q.l } ⟨f.so, q.t⟩ else { n with seen := r.1, parts := q.l }) else if n.poll > 0 ∨ f.hp = 15 then lose { n with seen := r.1 } else (queue { n with seen := r.1 } { f with fr := n.addr, dst := 255, hp := f.hp + 1 }).1 := by rw [hq, hr]; rfl
 rw [hsp]
 refine calls_hrW [cSn (sv V.ou n.out.length) n.out, cPr (sv V.se n.seen.length) n.seen, cDe (sv V.ib n.inbox.length) n.inbox] (hw0) Tryz.func62 I (Nat.le_of_ble_eq_true I) ?_
 refine HR.sub (σ' := [(0, .agg ⟨ndC V n⟩), (1, .int .i64 now), (2, .agg ⟨frC f⟩)]) ⟨I, I, I, trivial⟩ ?_
 refine HR.ctl I ?_
 refine HR.region ?_
 refine HL.box I I ?_
 intro b3
 refine HL.box I I ?_
 intro b5
 refine HL.alloc I I ?_
 intro b6
 repeat' (first | refine zh ?_ | intro (bk : Nat))
 refine HL.callX (r := fun v' : Value => .tuple ⟨[v', .bool r.2]⟩) (Q := fun _ => True) (G := fun v' => [cPr v' r.1]) fn138 I I (fun w1 hw1 => by rw [hr]; exact r16fresh_any n.seen ⟨f.so, f.sq⟩ _ w1 ((Rd.own 4 rfl).at hw1) (by omega)) ?_
 intro v1 _
 refine HL.shape 0 I fun a1 c1 hv => ?_
 subst hv
 repeat' (first | refine zh ?_ | intro (bk : Nat))
 refine HR.ent (H' := [blkC b3 (ndC { V with se := (a1, c1) } { n with seen := r.1 }) 31, blkC b5 (frC f) 42, rsC b6, cSn (sv V.ou n.out.length) n.out, cPr (.slice a1 r.1.length c1) r.1, cDe (sv V.ib n.inbox.length) n.inbox]) (Ent.pick [3, 2, 1, 4, 0, 6] I I) ?_
 have fin0 : ∀ w', Sat ⟨w, feet [cSn (sv V.ou n.out.length) n.out, cPr (sv V.se n.seen.length) n.seen, cDe (sv V.ib n.inbox.length) n.inbox]⟩ [cSn (sv V.ou n.out.length) n.out, cPr (.slice a1 r.1.length c1) r.1, cDe (sv V.ib n.inbox.length) n.inbox] w' → ∀ z : Nd, z.out = n.out → z.seen = r.1 → z.inbox = n.inbox → z.parts = n.parts → DOk V { V with se := (a1, c1) } [cSn (sv V.ou n.out.length) n.out, cPr (.slice a1 r.1.length c1) r.1, cDe (sv V.ib n.inbox.length) n.inbox] z ∧ Sat ⟨w, feet [cSn (sv V.ou n.out.length) n.out, cPr (sv V.se n.seen.length) n.seen, cDe (sv V.ib n.inbox.length) n.inbox]⟩ [groupC [cSn (sv V.ou n.out.length) n.out, cPr (.slice a1 r.1.length c1) r.1, cDe (sv V.ib n.inbox.length) n.inbox]] w' := by
  intro w' hw z e1 e2 e3 e4
  refine ⟨⟨rfl, rfl, rfl, rfl, fun w2 hg => ?_, fun w2 hg => ?_, fun w2 hg => ?_, fun w2 h2 _ => h2, by rw [e4]; exact hP⟩, Ent.group (G := [_, _, _]) (H := []) w' hw⟩
  ·rw [e1]; exact ownC_sl hg.1
  ·rw [e2]; exact ownC_sl hg.2.2.1
  ·rw [e3]; exact ownC_sl hg.2.2.2.2.1
 refine HR.cond I (fun h1 => ?_) (fun h1 => ?_)
 ·have h1 : r.2 = false := by simpa using h1
  rw [if_pos h1]
  repeat' (first | refine zh ?_ | intro (bk : Nat))
  refine HR.ret Tryz.func62 I [_] (fun w hw => ⟨⟨_, rfl, loadVarR hw 2 I I I I rfl⟩, trivial⟩) ?_
  intro w' hw
  obtain ⟨f1, f2⟩ := fin0 w' (hw.pick [3, 4, 5] I I) { n with seen := r.1 } I I I I
  exact ⟨(_, _), rfl, f1, f2⟩
 have h1 : ¬ r.2 = false := by simpa using h1
 rw [if_neg h1]
 repeat' (first | refine zh ?_ | intro (bk : Nat))
 refine HR.cond I (fun h2 => ?_) (fun h2 => ?_)
 ·have h2 : f.ta = n.addr := eq_of_beq h2
  rw [if_pos h2]
  repeat' (first | refine zh ?_ | intro (bk : Nat))
  refine HL.callX (r := fun y : Value × List PtV => .tuple ⟨[y.1, str q.t, .bool q.ok, .int .i64 q.e]⟩) (Q := fun y => GdPts y q.l) (G := fun y => ptsC y) fn139 I I (fun w1 hw1 => by rw [hq, ← hP]; exact r15add_any V.ps f.so now f.da _ w1 (hpa _ w1 hw1) hpm hps hfd) ?_
  rintro ⟨v3, ps⟩ ⟨hg1, hg2⟩
  refine HL.shape (v := v3) (e := 76) (sz := 6) (n := ps.length) (xs := cellsOf ptC ps) 0 I fun a3 c3 hv => ?_
  subst hv
  have hq1 : pts ps = q.l := hg1
  repeat' (first | refine zh ?_ | intro (bk : Nat))
  refine HR.cond I (fun h3 => ?_) (fun h3 => ?_)
  ·have h3 : q.e ≠ 0 := by simpa using h3
   rw [if_pos h3]
   repeat' (first | refine zh ?_ | intro (bk : Nat))
   refine HR.ret Tryz.func62 I [_] (fun w hw => ⟨⟨_, rfl, loadVarR hw 4 I I I I rfl⟩, trivial⟩) ?_
   intro w' hw
   obtain ⟨f1, f2⟩ := fin0 w' (hw.pick [5, 6, 7] I I) { n with seen := r.1 } I I I I
   exact ⟨(_, _), rfl, f1, f2⟩
  have h3 : ¬ q.e ≠ 0 := by simpa using h3
  rw [if_neg h3]
  repeat' (first | refine zh ?_ | intro (bk : Nat))
  have fin1 : ∀ (y : SV) (z : Nd) (w' : World), z.out = n.out → z.seen = r.1 → z.parts = q.l → Sat ⟨w, feet [cSn (sv V.ou n.out.length) n.out, cPr (sv V.se n.seen.length) n.seen, cDe (sv V.ib n.inbox.length) n.inbox]⟩ [cSn (sv V.ou n.out.length) n.out, cPr (.slice a1 r.1.length c1) r.1, cDe (sv y z.inbox.length) z.inbox, cPt (.slice a3 ps.length c3) ps, groupC (ptG ps)] w' → DOk V { V with se := (a1, c1), pa := (a3, c3), ps := ps, ib := y } [cSn (sv V.ou n.out.length) n.out, cPr (.slice a1 r.1.length c1) r.1, cDe (sv y z.inbox.length) z.inbox, cPt (.slice a3 ps.length c3) ps, groupC (ptG ps)] z ∧ Sat ⟨w, feet [cSn (sv V.ou n.out.length) n.out, cPr (sv V.se n.seen.length) n.seen, cDe (sv V.ib n.inbox.length) n.inbox]⟩ [groupC [cSn (sv V.ou n.out.length) n.out, cPr (.slice a1 r.1.length c1) r.1, cDe (sv y z.inbox.length) z.inbox, cPt (.slice a3 ps.length c3) ps, groupC (ptG ps)]] w' := by
   intro y z w' e1 e2 e3 hw
   refine ⟨⟨rfl, rfl, rfl, rfl, fun w2 hg => ?_, fun w2 hg => ?_, fun w2 hg => ?_, fun w2 _ hg => ?_, by rw [e3]; exact hq1⟩, Ent.group (G := [_, _, _, _, _]) (H := []) w' hw⟩
   ·rw [e1]; exact ownC_sl hg.1
   ·rw [e2]; exact ownC_sl hg.2.2.1
   ·exact ownC_sl hg.2.2.2.2.1
   ·have hgq : (groupC (ptG ps)).p w2 := groupC_mem hg (by simp)
    exact ⟨ownC_sl (groupC_mem hg (c := cPt (.slice a3 ps.length c3) ps) (by simp)), fun p hp => ⟨ownC_sl (groupC_mem hgq (ptG_mem hp).1), ownC_sl (groupC_mem hgq (ptG_mem hp).2)⟩⟩
  refine HR.cond I (fun h4 => ?_) (fun h4 => ?_)
  ·have h4 : q.ok = true := h4
   rw [if_pos h4]
   obtain ⟨d, hd⟩ : ∃ d, d = deliver { n with seen := r.1, parts := q.l } ⟨f.so, q.t⟩ := ⟨_, rfl⟩
   rw [← hd]
   have hdo : d.out = n.out ∧ d.seen = r.1 ∧ d.parts = q.l := by
    obtain ⟨i, l, e⟩ := deliver_is { n with seen := r.1, parts := q.l } ⟨f.so, q.t⟩
    rw [hd, e]; exact ⟨rfl, rfl, rfl⟩
   repeat' (first | refine zh ?_ | intro (bk : Nat))
   refine HL.ent (Ent.pick [7, 0, 1, 2, 3, 4, 5, 6] I I) ?_
   refine HL.callW (r := fun y : SV => .agg ⟨ndC { V with se := (a1, c1), pa := (a3, c3), ps := ps, ib := y } d⟩) (Q := fun _ => True) (G0 := [cDe (sv V.ib n.inbox.length) n.inbox]) (H0 := [_, _, _, _, _, _, _]) (G := fun y => [cDe (sv y d.inbox.length) d.inbox]) fn46 I I I (fun w1 hw1 => by rw [hd]; exact rdeliver_any { V with se := (a1, c1), pa := (a3, c3), ps := ps } { n with seen := r.1, parts := q.l } f.so q.t _ w1 (hw1.pick [0] I I) (show n.inbox.length ≤ 1000 by omega) ho.lost) ?_
   intro y _
   repeat' (first | refine zh ?_ | intro (bk : Nat))
   refine HR.ret Tryz.func62 I [_] (fun w hw => ⟨⟨_, rfl, loadVarR hw 5 I I I I rfl⟩, trivial⟩) ?_
   intro w' hw
   obtain ⟨f1, f2⟩ := fin1 y d w' hdo.1 hdo.2.1 hdo.2.2 (hw.pick [6, 7, 0, 1, 2] I I)
   exact ⟨(_, _), rfl, f1, f2⟩
  ·have h4 : q.ok = false := h4
   rw [if_neg (by rw [h4]; decide)]
   repeat' (first | refine zh ?_ | intro (bk : Nat))
   refine HR.ret Tryz.func62 I [_] (fun w hw => ⟨⟨_, rfl, loadVarR hw 4 I I I I rfl⟩, trivial⟩) ?_
   intro w' hw
   obtain ⟨f1, f2⟩ := fin1 V.ib { n with seen := r.1, parts := q.l } w' rfl rfl rfl (hw.pick [5, 6, 7, 0, 1] I I)
   exact ⟨(_, _), rfl, f1, f2⟩
 have h2 : ¬ f.ta = n.addr := by simpa using h2
 rw [if_neg h2]
 repeat' (first | refine zh ?_ | apply zb ?_ ?_ | exact zc | (refine zi fun hb => ?_; try simp at hb) | intro (bk : Nat))
 refine HR.cond I (fun h3 => ?_) (fun h3 => ?_)
 ·have h3 : (decide (n.poll > 0) || decide (f.hp ≥ 15)) = true := h3
  have h4 : n.poll > 0 ∨ f.hp ≥ 15 := by simpa using h3
  rw [if_pos (h4.imp id (fun e => by omega))]
  repeat' (first | refine zh ?_ | refine HL.callB fn83 I I (fun w1 _ => rlose_any { V with se := (a1, c1) } { n with seen := r.1 } w1 ho.lost) ?_ | intro (bk : Nat))
  refine HR.ret Tryz.func62 I [_] (fun w hw => ⟨⟨_, rfl, loadVarR hw 2 I I I I rfl⟩, trivial⟩) ?_
  intro w' hw
  obtain ⟨f1, f2⟩ := fin0 w' (hw.pick [3, 4, 5] I I) (lose { n with seen := r.1 }) I I I I
  exact ⟨(_, _), rfl, f1, f2⟩
 have h3 : (decide (n.poll > 0) || decide (f.hp ≥ 15)) = false := h3
 have h4 : ¬ (n.poll > 0 ∨ f.hp ≥ 15) := by
  intro e
  have : (decide (n.poll > 0) || decide (f.hp ≥ 15)) = true := by simpa using e
  rw [h3] at this; cases this
 rw [if_neg fun e => h4 (e.imp id (fun e => by omega))]
 obtain ⟨Q, hQ⟩ : ∃ Q, Q = queue { n with seen := r.1 } { f with fr := n.addr, dst := 255, hp := f.hp + 1 } := ⟨_, rfl⟩
 rw [← hQ]
 have hQe : Q.1.seen = r.1 ∧ Q.1.inbox = n.inbox ∧ Q.1.parts = n.parts := by
  obtain ⟨o, l, e⟩ := queue_is { n with seen := r.1 } { f with fr := n.addr, dst := 255, hp := f.hp + 1 }
  rw [hQ, e]; exact ⟨rfl, rfl, rfl⟩
 repeat' (first | refine zh ?_ | intro (bk : Nat))
 refine HL.callX (r := fun z : SV => .tuple ⟨[.agg ⟨ndC { V with se := (a1, c1), ou := z } Q.1⟩, .bool Q.2]⟩) (Q := fun _ => True) (G := fun z => [cSn (sv z Q.1.out.length) Q.1.out]) fn47 I I (fun w1 hw1 => by rw [hQ]; exact rput_any { V with se := (a1, c1) } { n with seen := r.1 } { f with fr := n.addr, dst := 255, hp := f.hp + 1 } w1 ((Rd.own 3 rfl).at hw1) (show n.out.length ≤ 1000 by omega) ho.lost) ?_
 intro z _
 repeat' (first | refine zh ?_ | intro (bk : Nat))
 refine HR.ret Tryz.func62 I [_] (fun w hw => ⟨⟨_, rfl, loadVarR hw 3 I I I I rfl⟩, trivial⟩) ?_
 refine fun w' hw => ⟨({ V with se := (a1, c1), ou := z }, [cSn (sv z Q.1.out.length) Q.1.out, cPr (.slice a1 r.1.length c1) r.1, cDe (sv V.ib n.inbox.length) n.inbox]), rfl, ⟨rfl, rfl, rfl, rfl, fun w2 hg => ownC_sl hg.1, fun w2 hg => ?_, fun w2 hg => ?_, fun w2 h2 _ => h2, by rw [hQe.2.2]; exact hP⟩, Ent.trans (Ent.pick [0, 5, 6] I I) (Ent.group (G := [_, _, _]) (H := [])) w' hw⟩
 ·rw [hQe.1]; exact ownC_sl hg.2.2.1
 ·rw [hQe.2.1]; exact ownC_sl hg.2.2.2.2.1
end Go.Proofs.YtgdgclmkpoaagaaGreat
namespace Go.Proofs.YtgdgclmkpoaagaaGreat
open Go.GX Go.RowKit
attribute [local irreducible] Calls Run RunL RunQ RunD HR HL HD blkC ownC Rd
open Nd
theorem fn61 : IsFn Tryz.prog 61 := ⟨⟨_, _, Tryz.func61, rfl, by decide⟩⟩
theorem rpoll17_any (V : NV) (n : Nd) (now : Int) (f : Fr) (B0 : Base) (w : World) (hw0 : Sat B0 [cSn (sv V.ou n.out.length) n.out, cMa (sv V.bo n.boxes.length) n.boxes, cI (sv V.ch n.children.length) n.children] w) (ho : Ord n) (hf : Tp.okN f.fr = true) (hne : f.fr ≠ n.addr)
  (hta : ∀ H w2, Sat ⟨w, feet [cSn (sv V.ou n.out.length) n.out, cMa (sv V.bo n.boxes.length) n.boxes, cI (sv V.ch n.children.length) n.children]⟩ H w2 → Sl w2 (sv V.ta n.table.length) (cellsOf roC n.table) n.table.length) :
  Calls Tryz.prog 61 #[.agg ⟨ndC V n⟩, .int .i64 now, .agg ⟨frC f⟩] w fun e w' => ∃ x : SV × SV × SV × SV, e = .returned (.agg ⟨ndC { V with ch := x.1, ta := x.2.1, ou := x.2.2.1, bo := x.2.2.2 } (polled n f now)⟩) ∧ True ∧ Sat ⟨w, feet [cSn (sv V.ou n.out.length) n.out, cMa (sv V.bo n.boxes.length) n.boxes, cI (sv V.ch n.children.length) n.children]⟩ [cTa (sv x.2.1 (polled n f now).table.length) (polled n f now).table, cI (sv x.1 (polled n f now).children.length) (polled n f now).children, cSn (sv x.2.2.1 (polled n f now).out.length) (polled n f now).out, cMa (sv x.2.2.2 (polled n f now).boxes.length) (polled n f now).boxes] w' := by
 have h24 := tlen ho
 have hk251 := klen ho
 obtain ⟨C, hC⟩ : ∃ C, C = child n.children f.fr := ⟨_, rfl⟩
 obtain ⟨TT, hTT⟩ : ∃ TT, TT = rupd n.table n.addr f.fr 10 [⟨f.fr, f.sq, 0, 0⟩] := ⟨_, rfl⟩
 have ho2 : Ord { n with children := C, table := TT } := by
  rw [hC, hTT]
  obtain ⟨g1, g2⟩ := rupd_tab (fr := f.fr) (cost := 10) (adv := [⟨f.fr, f.sq, 0, 0⟩]) ho.table
  obtain ⟨c1, c2⟩ := child_asc ho.kids f.fr
  refine { ho with table := g1, kids := c1, kid := fun x hx => ?_ }
  rcases (c2 x).1 hx with rfl | hx
  ·exact ⟨hf, hne⟩
  ·exact ho.kid x hx
 have hsp : polled n f now = Nd.drain f.fr now 17 { n with children := C, table := TT } := by rw [hC, hTT]; rfl
 obtain ⟨Z, hZ⟩ : ∃ Z, Z = polled n f now := ⟨_, rfl⟩
 rw [← hZ]
 rw [hsp] at hZ
 refine calls_hrW [cSn (sv V.ou n.out.length) n.out, cMa (sv V.bo n.boxes.length) n.boxes, cI (sv V.ch n.children.length) n.children] (hw0) Tryz.func61 I (Nat.le_of_ble_eq_true I) ?_
 refine HR.sub (σ' := [(0, .agg ⟨ndC V n⟩), (1, .int .i64 now), (2, .agg ⟨frC f⟩)]) ⟨I, I, I, trivial⟩ ?_
 refine HR.ctl I ?_
 refine HR.region ?_
 refine HL.box I I ?_
 intro b3
 refine HL.box I I ?_
 intro b5
 refine HL.alloc I I ?_
 intro b6
 repeat' (first | refine zh ?_ | intro (bk : Nat))
 refine HL.ent (Ent.pick [5, 0, 1, 2, 3, 4] I I) ?_
 refine HL.callW (r := fun r : Value => r) (Q := fun _ => True) (G0 := [cI (sv V.ch n.children.length) n.children]) (H0 := [_, _, _, _, _]) (G := fun r => [cI r C]) fn67 I I I (fun w1 hw1 => by rw [hC]; exact rchild_any n.children f.fr _ _ w1 (hw1.pick [0] I I) (by omega) ho.kids) ?_
 intro v1 _
 refine HL.shape 0 I fun a1 c1 hv => ?_
 subst hv
 repeat' (first | refine zh ?_ | intro (bk : Nat))
 refine HL.bslice elemRo I I I I I (by decide) (by decide) ?_
 intro va
 refine HL.callO fn134 I I (fun w1 hw1 => r11upd_any n.table n.addr f.fr 10 [⟨f.fr, f.sq, 0, 0⟩] _ va w1 (hta _ w1 hw1) ((Rd.own 0 rfl).at hw1) (by omega) (show 1 ≤ 1000 by decide)) ?_
 intro v2
 refine HL.shape 0 I fun a2 c2 hv => ?_
 subst hv
 rw [← hTT]
 repeat' (first | refine zh ?_ | intro (bk : Nat))
 refine HR.ent (H' := [blkC b3 (ndC { V with ch := (a1, c1), ta := (a2, c2) } { n with children := C, table := TT }) 31, blkC b5 (frC f) 42, rsC b6, cTa (.slice a2 TT.length c2) TT, cI (.slice a1 C.length c1) C, cSn (sv V.ou n.out.length) n.out, cMa (sv V.bo n.boxes.length) n.boxes]) (Ent.pick [5, 4, 3, 0, 2, 6, 7] I I) ?_
 refine HR.loop (ι := Nat × Nd × SV × SV) (fun x => x.1 ≤ 17 ∧ Ord x.2.1 ∧ (∃ q bx lo, x.2.1 = { n with children := C, table := TT, out := q, boxes := bx, lost := lo }) ∧ Z = Nd.drain f.fr now (17 - x.1) x.2.1) (fun x => [(1, .int .i64 now), (3, ptr b3), (5, ptr b5), (6, ptr b6), (7, .int .i64 (x.1 : Int))]) (fun x => [blkC b3 (ndC { V with ch := (a1, c1), ta := (a2, c2), ou := x.2.2.1, bo := x.2.2.2 } x.2.1) 31, blkC b5 (frC f) 42, rsC b6, cTa (.slice a2 TT.length c2) TT, cI (.slice a1 C.length c1) C, cSn (sv x.2.2.1 x.2.1.out.length) x.2.1.out, cMa (sv x.2.2.2 x.2.1.boxes.length) x.2.1.boxes]) (fun x => 17 - x.1) (0, { n with children := C, table := TT }, V.ou, V.bo) ⟨Nat.zero_le _, ho2, ⟨n.out, n.boxes, n.lost, rfl⟩, hZ⟩ ⟨I, I, I, I, I, trivial⟩ Ent.refl ?_
 rintro ⟨i, p, y1, y2⟩ ⟨hi, hpo, hpm, hZ1⟩ ih
 have hi : i ≤ 17 := hi
 have hpo : Ord p := hpo
 obtain ⟨q0, bx0, lo0, hpe⟩ := hpm
 have hpe0 : p = { n with children := C, table := TT, out := q0, boxes := bx0, lost := lo0 } := hpe
 have hZ1 : Z = Nd.drain f.fr now (17 - i) p := hZ1
 have hp16 := hpo.out
 have hpb16 := hpo.boxes
 have hpt : p.table = TT := by rw [hpe0]
 have hpc : p.children = C := by rw [hpe0]
 repeat' (first | refine zh ?_ | intro (bk : Nat))
 refine HR.cond I (fun h1 => ?_) (fun h1 => ?_)
 rotate_left
 ·have h1 : ¬ (i : Int) < 17 := of_decide_eq_false h1
  have hi17 : i = 17 := by omega
  subst hi17
  have hZ2 : Z = p := hZ1
  rw [hZ2]
  repeat' (first | refine zh ?_ | intro (bk : Nat))
  refine HR.ret Tryz.func61 I [_] (fun w hw => ⟨⟨_, rfl, loadVarR hw 2 I I I I rfl⟩, trivial⟩) ?_
  refine fun w' hw => ⟨((a1, c1), (a2, c2), y1, y2), rfl, trivial, ?_⟩
  rw [hpt, hpc]
  exact hw.pick [3, 4, 5, 6] I I
 have h1 : (i : Int) < 17 := of_decide_eq_true h1
 rw [show 17 - i = (16 - i) + 1 by omega, drain_step] at hZ1
 have hbl := (btake_len p.boxes f.fr now 120).1
 obtain ⟨r, hr⟩ : ∃ r, r = btake p.boxes f.fr now 120 := ⟨_, rfl⟩
 rw [← hr] at hZ1 hbl
 have hpb : Ord { p with boxes := r.2.1 } := hpo.setBoxes hbl
 repeat' (first | refine zh ?_ | intro (bk : Nat))
 refine HL.callX (r := fun v' : Value => .tuple ⟨[.agg ⟨frC r.1⟩, v', .bool r.2.2]⟩) (Q := fun _ => True) (G := fun v' => [cMa v' r.2.1]) fn137 I I (fun w1 hw1 => by rw [hr]; exact r13take_any p.boxes f.fr now 120 _ w1 ((Rd.own 6 rfl).at hw1) (by omega)) ?_
 intro v3 _
 refine HL.shape 0 I fun a3 c3 hv => ?_
 subst hv
 repeat' (first | refine zh ?_ | intro (bk : Nat))
 refine HR.cond I (fun h2 => ?_) (fun h2 => ?_)
 ·have h2 : r.2.2 = false := by simpa using h2
  rw [if_neg (by rw [h2]; decide)] at hZ1
  rw [hZ1]
  repeat' (first | refine zh ?_ | intro (bk : Nat))
  refine HR.ret Tryz.func61 I [_] (fun w hw => ⟨⟨_, rfl, loadVarR hw 4 I I I I rfl⟩, trivial⟩) ?_
  refine fun w' hw => ⟨((a1, c1), (a2, c2), y1, (a3, c3)), rfl, trivial, ?_⟩
  show Sat _ [cTa (sv (a2, c2) p.table.length) p.table, cI (sv (a1, c1) p.children.length) p.children, _, _] w'
  rw [hpt, hpc]
  exact hw.pick [5, 6, 7, 1] I I
 have h2 : r.2.2 = true := by simpa using h2
 rw [if_pos h2] at hZ1
 obtain ⟨Q, hQ⟩ : ∃ Q, Q = queue { p with boxes := r.2.1 } { r.1 with fr := p.addr } := ⟨_, rfl⟩
 rw [← hQ] at hZ1
 have hQo : Ord Q.1 := by rw [hQ]; exact hpb.queue _
 obtain ⟨o, l, hQe⟩ := queue_is { p with boxes := r.2.1 } { r.1 with fr := p.addr }
 rw [← hQ] at hQe
 have hQb : Q.1.boxes = r.2.1 := by rw [hQe]
 repeat' (first | refine zh ?_ | intro (bk : Nat))
 refine HL.callX (r := fun z : SV => .tuple ⟨[.agg ⟨ndC { V with ch := (a1, c1), ta := (a2, c2), ou := z, bo := (a3, c3) } Q.1⟩, .bool Q.2]⟩) (Q := fun _ => True) (G := fun z => [cSn (sv z Q.1.out.length) Q.1.out]) fn47 I I (fun w1 hw1 => by rw [hQ]; exact rput_any { V with ch := (a1, c1), ta := (a2, c2), ou := y1, bo := (a3, c3) } { p with boxes := r.2.1 } { r.1 with fr := p.addr } w1 ((Rd.own 7 rfl).at hw1) (show p.out.length ≤ 1000 by omega) hpo.lost) ?_
 intro z _
 repeat' (first | refine zh ?_ | intro (bk : Nat))
 refine ih (i + 1, Q.1, z, (a3, c3)) _ _ ⟨by show i + 1 ≤ 17; omega, hQo, ⟨o, r.2.1, l, by rw [hQe, hpe0]⟩, by show Z = Nd.drain f.fr now (17 - (i + 1)) Q.1; rw [show 17 - (i + 1) = 16 - i by omega]; exact hZ1⟩ (by show 17 - (i + 1) < 17 - i; omega) ⟨I, I, I, I, I, trivial⟩ ?_
 show Ent _ _ [_, _, _, _, _, _, cMa (sv (a3, c3) Q.1.boxes.length) Q.1.boxes]
 rw [hQb]
 exact Ent.pick [3, 4, 5, 6, 7, 0, 2] I I
end Go.Proofs.YtgdgclmkpoaagaaGreat
namespace Go.Proofs.YtgdgclmkpoaagaaGreat
open Go.GX Go.RowKit
attribute [local irreducible] Calls Run RunL RunQ RunD HR HL HD blkC ownC Rd
open Nd
theorem fn19 : IsFn Tryz.prog 19 := ⟨⟨_, _, Tryz.func19, rfl, by decide⟩⟩
theorem polled_keeps (n : Nd) (f : Fr) (now : Int) : (polled n f now).links = n.links ∧ (polled n f now).seen = n.seen ∧ (polled n f now).inbox = n.inbox := by
 have key : ∀ (k : Nat) (fr now : Int) (n : Nd), (Nd.drain fr now k n).links = n.links ∧ (Nd.drain fr now k n).seen = n.seen ∧ (Nd.drain fr now k n).inbox = n.inbox := by
  intro k
  induction k with
  | zero => exact fun _ _ n => ⟨rfl, rfl, rfl⟩
  | succ k ih =>
   intro fr now n
   rw [drain_step]
   split
   ·obtain ⟨o, l, e⟩ := queue_is { n with boxes := (btake n.boxes fr now 120).2.1 } { (btake n.boxes fr now 120).1 with fr := n.addr }
    have := ih fr now (queue { n with boxes := (btake n.boxes fr now 120).2.1 } { (btake n.boxes fr now 120).1 with fr := n.addr }).1
    rw [e] at this
    rw [e]
    exact this
   ·exact ⟨rfl, rfl, rfl⟩
 exact key 17 f.fr now _
theorem advertised_keeps (n : Nd) (f : Fr) : (advertised n f).out = n.out ∧ (advertised n f).boxes = n.boxes ∧ (advertised n f).children = n.children ∧ (advertised n f).seen = n.seen ∧ (advertised n f).inbox = n.inbox := by
 unfold advertised
 simp only
 split
 ·exact ⟨rfl, rfl, rfl, rfl, rfl⟩
 ·split <;> exact ⟨rfl, rfl, rfl, rfl, rfl⟩
theorem received_keeps (n : Nd) (f : Fr) (now : Int) : (received n f now).table = n.table ∧ (received n f now).links = n.links ∧ (received n f now).boxes = n.boxes ∧ (received n f now).children = n.children := by
 have hd : ∀ (a : Nd) (d : De), (deliver a d).table = a.table ∧ (deliver a d).links = a.links ∧ (deliver a d).boxes = a.boxes ∧ (deliver a d).children = a.children := fun a d => by
  obtain ⟨i, l, e⟩ := deliver_is a d
  rw [e]; exact ⟨rfl, rfl, rfl, rfl⟩
 have hq : ∀ (a : Nd) (g : Fr), (queue a g).1.table = a.table ∧ (queue a g).1.links = a.links ∧ (queue a g).1.boxes = a.boxes ∧ (queue a g).1.children = a.children := fun a g => by
  obtain ⟨o, l, e⟩ := queue_is a g
  rw [e]; exact ⟨rfl, rfl, rfl, rfl⟩
 unfold received
 simp only
 split
 ·exact ⟨rfl, rfl, rfl, rfl⟩
 ·split
  ·split
   ·exact ⟨rfl, rfl, rfl, rfl⟩
   ·split
    ·exact hd _ _
    ·exact ⟨rfl, rfl, rfl, rfl⟩
  ·split
   ·exact ⟨rfl, rfl, rfl, rfl⟩
   ·exact hq _ _
theorem Ent.two {B : Base} {G1 G2 : List Chunk} : Ent B [groupC G1, groupC G2] [groupC [groupC G1, groupC G2]] := Ent.group (G := [groupC G1, groupC G2]) (H := [])
theorem fchk_dst {f : Fr} (h : fchk f = 0) : f.kd = 3 → f.dst ≠ 255 := by
 intro hk e
 unfold fchk at h
 split at h
 ·cases h
 ·split at h
  ·cases h
  ·split at h
   ·cases h
   ·split at h
    ·cases h
    ·rename_i h4
     apply h4
     unfold fform
     rw [hk, e]
     simp
theorem rhear_any (V : NV) (n : Nd) (now : Int) (f : Fr) (w : World) (h : OkN w V n) (hs : SmN n) (hfl : f.da.length ≤ 9223372036854775807) :
  Calls Tryz.prog 19 #[.agg ⟨ndC V n⟩, .int .i64 now, .agg ⟨frC f⟩] w fun e w' => ∃ x : NV × List Chunk, e = .returned (.agg ⟨ndC x.1 (hear n now f)⟩) ∧ Imp V n x.1 x.2 (hear n now f) ∧ Sat (base w) [groupC x.2] w' := by
 obtain ⟨m, hm⟩ : ∃ m, m = order n := ⟨_, rfl⟩
 have hmp : m.parts = n.parts := by rw [hm]; rfl
 have ho : Ord m := by rw [hm]; exact order_ord n
 obtain ⟨T, hT⟩ : ∃ T, T = tick now := ⟨_, rfl⟩
 have hsp : hear n now f = if fchk f ≠ 0 ∨ f.fr = m.addr ∨ (f.dst ≠ m.addr ∧ f.dst ≠ 255) then m else if f.kd = 1 then advertised m f else if f.kd = 3 ∧ f.dst = m.addr ∧ m.poll = 0 then polled m f T else if f.kd = 2 ∧ f.dst = m.addr then received m f T else m := by rw [hm, hT]; rfl
 rw [hsp]
 refine calls_hr Tryz.func19 I (Nat.le_of_ble_eq_true I) ?_
 refine HR.sub (σ' := [(0, .agg ⟨ndC V n⟩), (1, .int .i64 now), (2, .agg ⟨frC f⟩)]) ⟨I, I, I, trivial⟩ ?_
 refine HR.ctl I ?_
 refine HR.region ?_
 refine HL.box I I ?_
 intro b3
 refine HL.box I I ?_
 intro b5
 refine HL.alloc I I ?_
 intro b6
 repeat' (first | refine zh ?_ | intro (bk : Nat))
 refine HL.callX (r := fun x : NV × List Chunk => .agg ⟨ndC x.1 m⟩) (Q := fun x => ROk V n x.1 x.2 m) (G := fun x => roH x.1 x.2 m) fn20 I I (fun w1 hw1 => by rw [hm]; exact rorder_any V n w1 (h.ext hw1.belowB) hs) ?_
 rintro ⟨V2, Gt⟩ hR
 have hR : ROk V n V2 Gt m := hR
 refine HL.ent (Ent.pick [8, 7, 6, 0, 1, 2, 3, 4, 5] I I) ?_
 repeat' (first | refine zh ?_ | refine HL.callB (r := .int .i64 T) fn58 I I (fun w1 _ => by rw [hT]; exact rtick_any now w1) ?_ | refine HL.callB fn59 I I (fun w1 _ => r09check_any f w1 hfl) ?_ | apply zb ?_ ?_ | exact zc | (refine zi fun hb => ?_; try simp at hb) | intro (bk : Nat))
 have fin0 : ∀ w', Sat (base w) [groupC Gt, cSn (sv V2.ou m.out.length) m.out, cMa (sv V2.bo m.boxes.length) m.boxes, cI (sv V2.ch m.children.length) m.children, cPr (sv V2.se m.seen.length) m.seen, cDe (sv V2.ib m.inbox.length) m.inbox] w' → Imp V n V2 (roH V2 Gt m) m ∧ Sat (base w) [groupC (roH V2 Gt m)] w' := fun w' hw => ⟨hR.okn hmp, Ent.group (G := roH V2 Gt m) (H := []) w' hw⟩
 refine HR.cond I (fun h1 => ?_) (fun h1 => ?_)
 ·have h1 : ((!(fchk f == 0) || (f.fr == m.addr)) || (!(f.dst == m.addr) && !(f.dst == 255))) = true := h1
  have h2 : fchk f ≠ 0 ∨ f.fr = m.addr ∨ (f.dst ≠ m.addr ∧ f.dst ≠ 255) := by simpa [or_assoc] using h1
  rw [if_pos h2]
  repeat' (first | refine zh ?_ | intro (bk : Nat))
  refine HR.ret Tryz.func19 I [_] (fun w hw => ⟨⟨_, rfl, loadVarR hw 2 I I I I rfl⟩, trivial⟩) ?_
  exact fun w' hw => ⟨(V2, roH V2 Gt m), rfl, fin0 w' (hw.pick [3, 4, 5, 6, 7, 8] I rfl)⟩
 have h1 : ((!(fchk f == 0) || (f.fr == m.addr)) || (!(f.dst == m.addr) && !(f.dst == 255))) = false := h1
 have h2 : ¬ (fchk f ≠ 0 ∨ f.fr = m.addr ∨ (f.dst ≠ m.addr ∧ f.dst ≠ 255)) := by
  intro e
  have : ((!(fchk f == 0) || (f.fr == m.addr)) || (!(f.dst == m.addr) && !(f.dst == 255))) = true := by simpa [or_assoc] using e
  rw [h1] at this; cases this
 rw [if_neg h2]
 have hck : fchk f = 0 := Decidable.not_not.1 fun e => h2 (.inl e)
 have hne : f.fr ≠ m.addr := fun e => h2 (.inr (.inl e))
 have hto : f.dst = m.addr ∨ f.dst = 255 := Decidable.or_iff_not_not_and_not.2 fun e => h2 (.inr (.inr e))
 obtain ⟨k1, k2, k3, k4, k5, k6, k7⟩ := fchk_fr hck
 repeat' (first | refine zh ?_ | intro (bk : Nat))
 refine HR.cond I (fun h3 => ?_) (fun h3 => ?_)
 ·have h3 : f.kd = 1 := eq_of_beq h3
  rw [if_pos h3]
  obtain ⟨z1, z2, z3, z4, z5⟩ := advertised_keeps m f
  repeat' (first | refine zh ?_ | intro (bk : Nat))
  refine HL.callX (r := fun x : (SV × SV) × List Chunk => .agg ⟨ndC { V2 with ta := x.1.1, li := x.1.2 } (advertised m f)⟩) (Q := fun x => ∀ w2, Sl w2 (sv V2.ta m.table.length) (cellsOf roC m.table) m.table.length → (groupC x.2).p w2 → Sl w2 (sv x.1.1 (advertised m f).table.length) (cellsOf roC (advertised m f).table) (advertised m f).table.length ∧ Sl w2 (sv x.1.2 (advertised m f).links.length) (cellsOf liC (advertised m f).links) (advertised m f).links.length) (G := fun x => [groupC x.2]) fn60 I I (fun w1 hw1 => rbeacon17_any V2 m f w1 (hR.ta w1 (h.ta.ext hw1.belowB) (Sat.grp 3 hw1 I)) (hR.li w1 (h.li.ext hw1.belowB)) ho (by omega)) ?_
  rintro ⟨⟨y1, y2⟩, Gb⟩ hQ
  have hQ : ∀ w2, Sl w2 (sv V2.ta m.table.length) (cellsOf roC m.table) m.table.length → (groupC Gb).p w2 → Sl w2 (sv y1 (advertised m f).table.length) (cellsOf roC (advertised m f).table) (advertised m f).table.length ∧ Sl w2 (sv y2 (advertised m f).links.length) (cellsOf liC (advertised m f).links) (advertised m f).links.length := hQ
  repeat' (first | refine zh ?_ | intro (bk : Nat))
  refine HR.ret Tryz.func19 I [_] (fun w hw => ⟨⟨_, rfl, loadVarR hw 3 I I I I rfl⟩, trivial⟩) ?_
  refine fun w' hw => ⟨({ V2 with ta := y1, li := y2 }, [groupC (roH V2 Gt m), groupC Gb]), rfl, fun w2 h2 hg => ?_, ?_⟩
  ·have ok := hR.okn hmp w2 h2 (groupC_mem hg (c := groupC (roH V2 Gt m)) (by simp))
   obtain ⟨q1, q2⟩ := hQ w2 ok.ta (groupC_mem hg (c := groupC Gb) (by simp))
   refine ⟨q1, q2, ?_, ?_, ?_, ?_, ok.pa, ?_, ?_⟩
   ·rw [z1]; exact ok.ou
   ·rw [z3]; exact ok.ch
   ·rw [z2]; exact ok.bo
   ·rw [z4]; exact ok.se
   ·rw [z5]; exact ok.ib
   ·rw [advertised_parts]; exact ok.eq
  ·exact Ent.trans (Ent.pick [4, 5, 6, 7, 8, 9, 0] I I) (Ent.trans (Ent.group (G := roH V2 Gt m) (H := [groupC Gb])) Ent.two) w' hw
 have h3 : ¬ f.kd = 1 := by simpa using h3
 rw [if_neg h3]
 repeat' (first | refine zh ?_ | apply zb ?_ ?_ | exact zc | (refine zi fun hb => ?_; try simp at hb) | intro (bk : Nat))
 refine HR.cond I (fun h4 => ?_) (fun h4 => ?_)
 ·have h4 : ((f.kd == 3) && (m.poll == 0)) = true := h4
  have h4 : f.kd = 3 ∧ m.poll = 0 := by simpa using h4
  have h5 : f.kd = 3 ∧ f.dst = m.addr ∧ m.poll = 0 := ⟨h4.1, hto.resolve_right (fchk_dst hck h4.1), h4.2⟩
  rw [if_pos h5]
  obtain ⟨z1, z2, z3⟩ := polled_keeps m f T
  repeat' (first | refine zh ?_ | intro (bk : Nat))
  refine HL.ent (Ent.pick [4, 5, 6, 0, 1, 2, 3, 7, 8] I I) ?_
  refine HL.callW (r := fun x : SV × SV × SV × SV => .agg ⟨ndC { V2 with ch := x.1, ta := x.2.1, ou := x.2.2.1, bo := x.2.2.2 } (polled m f T)⟩) (Q := fun _ => True) (G0 := [cSn (sv V2.ou m.out.length) m.out, cMa (sv V2.bo m.boxes.length) m.boxes, cI (sv V2.ch m.children.length) m.children]) (H0 := [_, _, _, groupC Gt, _, _]) (G := fun x => [cTa (sv x.2.1 (polled m f T).table.length) (polled m f T).table, cI (sv x.1 (polled m f T).children.length) (polled m f T).children, cSn (sv x.2.2.1 (polled m f T).out.length) (polled m f T).out, cMa (sv x.2.2.2 (polled m f T).boxes.length) (polled m f T).boxes]) fn61 I I I (fun w1 hw1 => rpoll17_any V2 m T f _ w1 (hw1.pick [0, 1, 2] I I) ho k1 hne (fun H' w2 hw2 => by
   have hs2 := Sat.frame (G := [cSn (sv V2.ou m.out.length) m.out, cMa (sv V2.bo m.boxes.length) m.boxes, cI (sv V2.ch m.children.length) m.children]) (H := [_, _, _, groupC Gt, _, _]) hw1 hw2
   exact hR.ta w2 (h.ta.ext hs2.belowB) (hs2.all.mem (groupC Gt) (List.mem_append_right _ (by simp))).1)) ?_
  rintro ⟨y1, y2, y3, y4⟩ _
  repeat' (first | refine zh ?_ | intro (bk : Nat))
  refine HR.ret Tryz.func19 I [_] (fun w hw => ⟨⟨_, rfl, loadVarR hw 6 I I I I rfl⟩, trivial⟩) ?_
  refine fun w' hw => ⟨({ V2 with ch := y1, ta := y2, ou := y3, bo := y4 }, [cTa (sv y2 (polled m f T).table.length) (polled m f T).table, cI (sv y1 (polled m f T).children.length) (polled m f T).children, cSn (sv y3 (polled m f T).out.length) (polled m f T).out, cMa (sv y4 (polled m f T).boxes.length) (polled m f T).boxes, cPr (sv V2.se m.seen.length) m.seen, cDe (sv V2.ib m.inbox.length) m.inbox]), rfl, fun w2 h2 hg => ?_, ?_⟩
  ·refine ⟨ownC_sl (groupC_mem hg (List.mem_cons_self ..)), ?_, ownC_sl (groupC_mem hg (c := cSn (sv y3 (polled m f T).out.length) (polled m f T).out) (by simp)), ownC_sl (groupC_mem hg (c := cI (sv y1 (polled m f T).children.length) (polled m f T).children) (by simp)), ownC_sl (groupC_mem hg (c := cMa (sv y4 (polled m f T).boxes.length) (polled m f T).boxes) (by simp)), ?_, ?_, ?_, ?_⟩
   ·rw [z1]; exact hR.li w2 h2.li
   ·rw [z2]; exact ownC_sl (groupC_mem hg (c := cPr (sv V2.se m.seen.length) m.seen) (by simp))
   ·show RdPts w2 (sv V2.pa V2.ps.length) V2.ps
    rw [hR.pa, hR.ps]; exact h2.pa
   ·rw [z3]; exact ownC_sl (groupC_mem hg (c := cDe (sv V2.ib m.inbox.length) m.inbox) (by simp))
   ·show pts V2.ps = _
    rw [polled_parts, hR.ps, hmp]; exact h2.eq
  ·exact Ent.trans (Ent.pick [0, 1, 2, 3, 8, 9] I I) (Ent.group (G := [_, _, _, _, _, _]) (H := [])) w' hw
 have h4 : ((f.kd == 3) && (m.poll == 0)) = false := h4
 have h5 : ¬ (f.kd = 3 ∧ f.dst = m.addr ∧ m.poll = 0) := by
  intro e
  have : ((f.kd == 3) && (m.poll == 0)) = true := by simpa using And.intro e.1 e.2.2
  rw [h4] at this; cases this
 rw [if_neg h5]
 repeat' (first | refine zh ?_ | apply zb ?_ ?_ | exact zc | (refine zi fun hb => ?_; try simp at hb) | intro (bk : Nat))
 refine HR.cond I (fun h6 => ?_) (fun h6 => ?_)
 ·have h6 : ((f.kd == 2) && (f.dst == m.addr)) = true := h6
  have h7 : f.kd = 2 ∧ f.dst = m.addr := by simpa using h6
  rw [if_pos h7]
  obtain ⟨z1, z2, z3, z4⟩ := received_keeps m f T
  have hP : pts V2.ps = m.parts := by rw [hR.ps, hmp]; exact h.eq
  repeat' (first | refine zh ?_ | intro (bk : Nat))
  refine HL.ent (Ent.pick [4, 7, 8, 0, 1, 2, 3, 5, 6] I I) ?_
  refine HL.callW (r := fun x : NV × List Chunk => .agg ⟨ndC x.1 (received m f T)⟩) (Q := fun x => DOk V2 x.1 x.2 (received m f T)) (G0 := [cSn (sv V2.ou m.out.length) m.out, cPr (sv V2.se m.seen.length) m.seen, cDe (sv V2.ib m.inbox.length) m.inbox]) (H0 := [_, _, _, groupC Gt, _, _]) (G := fun x => [groupC x.2]) fn62 I I I (fun w1 hw1 => rdata_any V2 m T f _ w1 (hw1.pick [0, 1, 2] I I) ho (fun H' w2 hw2 => by
   have hs2 := Sat.frame (G := [cSn (sv V2.ou m.out.length) m.out, cPr (sv V2.se m.seen.length) m.seen, cDe (sv V2.ib m.inbox.length) m.inbox]) (H := [_, _, _, groupC Gt, _, _]) hw1 hw2
   rw [hR.pa, hR.ps]; exact h.pa.ext hs2.belowB) hP (by rw [hmp]; exact hs.sm) (by rw [hmp]; exact hs.pa) (by omega) ⟨k5, k6⟩) ?_
  rintro ⟨V3, G3⟩ hd
  have hd : DOk V2 V3 G3 (received m f T) := hd
  repeat' (first | refine zh ?_ | intro (bk : Nat))
  refine HR.ret Tryz.func19 I [_] (fun w hw => ⟨⟨_, rfl, loadVarR hw 3 I I I I rfl⟩, trivial⟩) ?_
  refine fun w' hw => ⟨(V3, [groupC G3, groupC Gt, cMa (sv V2.bo m.boxes.length) m.boxes, cI (sv V2.ch m.children.length) m.children]), rfl, fun w2 h2 hg => ?_, ?_⟩
  ·have g3 := groupC_mem hg (c := groupC G3) (by simp)
   have gt := groupC_mem hg (c := groupC Gt) (by simp)
   refine ⟨?_, ?_, hd.ou w2 g3, ?_, ?_, hd.se w2 g3, hd.pa w2 (by rw [hR.pa, hR.ps]; exact h2.pa) g3, hd.ib w2 g3, hd.eq⟩
   ·rw [hd.ta, z1]; exact hR.ta w2 h2.ta gt
   ·rw [hd.li, z2]; exact hR.li w2 h2.li
   ·rw [hd.ch, z4]; exact ownC_sl (groupC_mem hg (c := cI (sv V2.ch m.children.length) m.children) (by simp))
   ·rw [hd.bo, z3]; exact ownC_sl (groupC_mem hg (c := cMa (sv V2.bo m.boxes.length) m.boxes) (by simp))
  ·exact Ent.trans (Ent.pick [0, 4, 5, 6] I I) (Ent.group (G := [_, _, _, _]) (H := [])) w' hw
 have h6 : ((f.kd == 2) && (f.dst == m.addr)) = false := h6
 have h7 : ¬ (f.kd = 2 ∧ f.dst = m.addr) := by
  intro e
  have : ((f.kd == 2) && (f.dst == m.addr)) = true := by simpa using e
  rw [h6] at this; cases this
 rw [if_neg h7]
 repeat' (first | refine zh ?_ | intro (bk : Nat))
 refine HR.ret Tryz.func19 I [_] (fun w hw => ⟨⟨_, rfl, loadVarR hw 2 I I I I rfl⟩, trivial⟩) ?_
 exact fun w' hw => ⟨(V2, roH V2 Gt m), rfl, fin0 w' (hw.pick [3, 4, 5, 6, 7, 8] I rfl)⟩
end Go.Proofs.YtgdgclmkpoaagaaGreat
namespace Go.Proofs.YtgdgclmkpoaagaaGreat
open Go.GX Go.RowKit
attribute [local irreducible] Calls Run RunL RunQ RunD HR HL HD blkC ownC Rd
open Nd
theorem pvalid_smp {p : Pt} (h : pvalid p = true) : SmPt p := by
 have H := phead_is (pvalid_head h)
 have h1 := H.hv
 have h2 := H.da
 have h3 := H.ct1
 exact ⟨by omega, by omega, fun s hs => by have := pvalid_sm h s hs; omega⟩
theorem porder_sm (l : List Pt) : ∀ p ∈ porder l, SmPt p := fun p hp => pvalid_smp (porder_valid p hp)
theorem pdrop_mem {l : List Pt} {s id c : Int} {p : Pt} (h : p ∈ (pdrop l s id c).1) : p ∈ l := by
 unfold pdrop at h
 split at h
 ·split at h
  ·exact h
  ·exact List.mem_of_mem_eraseIdx h
 ·exact h
theorem pmark_sm {p : Pt} {i : Nat} {d : By} (h : SmPt p) (hd : d.length ≤ 1000) : SmPt (pmark p i d) := by
 unfold pmark
 split
 ·exact h
 ·refine ⟨?_, ?_, fun s hs => ?_⟩
  ·show (p.hv.set i true).length ≤ 1000
   rw [List.length_set]; exact h.1
  ·show (p.da.set i d).length ≤ 1000
   rw [List.length_set]; exact h.2.1
  ·rcases List.mem_or_eq_of_mem_set hs with hs | rfl
   ·exact h.2.2 s hs
   ·omega
theorem padd_sm {l : List Pt} {s now : Int} {x : By} (hx : x.length ≤ 1000) (he : (padd l s now x).e = 0) : PtSm (padd l s now x).l := by
 unfold padd at he ⊢
 split
 ·exact ⟨Nat.zero_le _, fun p hp => by cases hp⟩
 ·rename_i hc
  have hc : pchk x = 0 := Decidable.not_not.1 hc
  obtain ⟨c1, c2, c3, c4, c5, c6, c7, c8⟩ := pchk_spec hc
  have ho8 := porder_len l
  split
  ·exact ⟨Nat.le_trans (pdrop_len ho8 s (b8 x 0) 1) (by decide), fun p hp => porder_sm l p (pdrop_mem hp)⟩
  ·rename_i h1
   have hd8 := pdrop_len ho8 s (b8 x 0) (b8 x 2)
   have hm : ∀ p ∈ (pdrop (porder l) s (b8 x 0) (b8 x 2)).1, SmPt p := fun p hp => porder_sm l p (pdrop_mem hp)
   have hnew : (∀ p ∈ (pnew (pdrop (porder l) s (b8 x 0) (b8 x 2)) s (b8 x 0) (b8 x 2) now).1, SmPt p) ∧ (pnew (pdrop (porder l) s (b8 x 0) (b8 x 2)) s (b8 x 0) (b8 x 2) now).1.length ≤ 8 := by
    unfold pnew
    split
    ·exact ⟨hm, hd8⟩
    ·have hr := proom_len hd8
     refine ⟨fun p hp => ?_, by rw [List.length_append]; simp; omega⟩
     rcases List.mem_append.1 hp with hp | hp
     ·unfold proom at hp
      split at hp
      ·exact hm p (List.mem_of_mem_eraseIdx hp)
      ·exact hm p hp
     ·rw [List.mem_singleton.1 hp]
      refine ⟨?_, ?_, fun s hs => ?_⟩
      ·show (List.replicate (b8 x 2).toNat false).length ≤ 1000
       rw [List.length_replicate]; omega
      ·show (List.replicate (b8 x 2).toNat ([] : By)).length ≤ 1000
       rw [List.length_replicate]; omega
      ·have hs : s ∈ List.replicate (b8 x 2).toNat ([] : By) := hs
       rw [(List.mem_replicate.1 hs).2]; simp
   generalize pnew (pdrop (porder l) s (b8 x 0) (b8 x 2)) s (b8 x 0) (b8 x 2) now = o at hnew ⊢
   obtain ⟨n1, n2⟩ := hnew
   have hz : SmPt pz := ⟨by decide, by decide, fun s hs => by cases hs⟩
   have hg : SmPt (o.1.getD o.2 pz) := by
    rw [List.getD_eq_getElem?_getD]
    cases hq : o.1[o.2]? with
    | none => exact hz
    | some q => exact n1 q (List.mem_of_getElem? hq)
   have hdl : (x.drop 3).length ≤ 1000 := by rw [List.length_drop]; omega
   unfold pput
   split
   ·exact ⟨Nat.le_trans (List.length_eraseIdx_le _ _) (by omega), fun p hp => n1 p (List.mem_of_mem_eraseIdx hp)⟩
   ·refine ⟨by rw [List.length_set]; omega, fun p hp => ?_⟩
    rcases List.mem_or_eq_of_mem_set hp with hp | rfl
    ·exact n1 p hp
    ·exact pmark_sm hg hdl
theorem hear_ptsm {n : Nd} {now : Int} {f : Fr} (h : PtSm n.parts) : PtSm (hear n now f).parts := by
 unfold hear
 simp only
 split
 ·exact h
 ·rename_i h1
  have hc : fchk f = 0 := Decidable.not_not.1 fun e => h1 (.inl e)
  have hl := (fchk_fr hc).2.2.2.2.2.2
  split
  ·rw [advertised_parts]; exact h
  ·split
   ·rw [polled_parts]; exact h
   ·split
    ·unfold received
     simp only
     split
     ·exact h
     ·split
      ·split
       ·exact h
       ·rename_i he
        have hp : PtSm (padd (order n).parts f.so (tick now) f.da).l := padd_sm (by omega) (Decidable.not_not.1 he)
        split
        ·rw [deliver_parts]; exact hp
        ·exact hp
      ·split
       ·exact h
       ·rw [queue_parts]; exact h
    ·exact h
end Go.Proofs.YtgdgclmkpoaagaaGreat
namespace Go.Proofs.YtgdgclmkpoaagaaGreat
open Go.GX Go.RowKit
attribute [local irreducible] Calls Run RunL RunQ RunD HR HL HD blkC ownC Rd
open Nd
theorem nodeHears_any (V : NV) (n : Nd) (now : Int) (f : Fr) (w : World) (h : OkN w V n) (hw0 : WfN n) (hfl : f.da.length ≤ 9223372036854775807) :
  Calls Tryz.prog 4 #[.agg ⟨ndC V n⟩, .int .i64 now, .agg ⟨frC f⟩] w fun e w' => e = .returned (.bool true) ∧ Below w.heap.size w w' := by
 refine calls_hr Tryz.func4 I (Nat.le_of_ble_eq_true I) ?_
 refine HR.sub (σ' := [(0, .agg ⟨ndC V n⟩), (1, .int .i64 now), (2, .agg ⟨frC f⟩)]) ⟨I, I, I, trivial⟩ ?_
 refine HR.ctl I ?_
 refine HR.region ?_
 refine HL.box I I ?_
 intro b3
 refine HL.box I I ?_
 intro b5
 repeat' (first | refine zh ?_ | intro (bk : Nat))
 refine HL.callX (r := fun b : Bool => .bool b) (Q := fun b => b = false → FitN n) (G := fun _ => []) fn12 I I (fun w1 hw1 => large_any V n w1 (h.ext hw1.belowB) hw0) ?_
 intro b hb
 cases b with
 | true =>
  repeat' (first | refine zh ?_ | refine HL.callB fn13 I I (fun w1 _ => awake_any w1) ?_ | intro (bk : Nat))
  refine HR.ret Tryz.func4 I [_] (fun _ _ => ⟨I, trivial⟩) ?_
  exact fun w' hw => ⟨rfl, hw.belowB⟩
 | false =>
 have hf := hb I
 have hs := hf.sm' hw0
 repeat' (first | refine zh ?_ | refine HL.callB fn17 I I (fun w1 _ => long_any f w1 hfl) ?_ | intro (bk : Nat))
 refine HR.cond I (fun h1 => ?_) (fun h1 => ?_)
 ·repeat' (first | refine zh ?_ | refine HL.callB fn13 I I (fun w1 _ => awake_any w1) ?_ | intro (bk : Nat))
  refine HR.ret Tryz.func4 I [_] (fun _ _ => ⟨I, trivial⟩) ?_
  exact fun w' hw => ⟨rfl, hw.belowB⟩
 have hbg := (ord_sm (hear_good n now f).ord (hear_ptsm (now := now) (f := f) hs.pt)).bg
 refine HR.ctl I ?_
 refine HR.regionD [(0, true), (1, true), (2, true), (4, true), (5, true), (6, true), (3, false), (7, false), (8, false), (9, true), (10, false), (11, true), (12, true)] [0, 1] I I hmix (by kernel_rfl) ?_
 repeat' (first | refine zd ?_ | fail)
 refine HD.one I ?_
 refine HL.callX (r := fun x : NV × List Chunk => .agg ⟨ndC x.1 (hear n now f)⟩) (Q := fun x => Own x.1 x.2 (hear n now f)) (G := fun x => [groupC x.2]) fn18 I I (fun w1 hw1 => phear_any V n now f w1 (h.ext hw1.belowB) hs hfl) ?_
 rintro ⟨V1, G1⟩ h2
 refine HL.back [1, 2] I I ?_
 refine HD.one I ?_
 refine HL.callX (r := fun x : NV × List Chunk => .agg ⟨ndC x.1 (hear n now f)⟩) (Q := fun x => Imp V n x.1 x.2 (hear n now f)) (G := fun x => [groupC x.2]) fn19 I I (fun w1 hw1 => rhear_any V n now f w1 (h.ext hw1.belowB) hs hfl) ?_
 rintro ⟨V2, G2⟩ h3
 refine HL.back [2, 3] I I ?_
 refine HD.one I ?_
 refine HL.callB (r := .bool true) fn16 I I (fun w1 hw1 => same17_any V1 V2 (hear n now f) w1 (h2 w1 (Sat.grp 1 hw1 I)) (h3 w1 (h.ext hw1.belowB) (Sat.grp 0 hw1 I)) hbg) ?_
 refine HL.back [2, 3] I I ?_
 repeat' (first | refine zd ?_ | fail)
 refine HD.one I ?_
 refine HL.callB fn13 I I (fun w1 _ => awake_any w1) ?_
 refine HL.back [2, 3] I I ?_
 repeat' (first | refine zd ?_ | fail)
 refine HD.nil ?_
 repeat' (first | refine zh ?_ | intro (bk : Nat))
 refine HR.ret Tryz.func4 I [_] (fun _ _ => ⟨I, trivial⟩) ?_
 exact fun w' hw => ⟨rfl, hw.belowB⟩
end Go.Proofs.YtgdgclmkpoaagaaGreat
namespace Go.Proofs.YtgdgclmkpoaagaaGreat
open Go.GX Go.RowKit
attribute [local irreducible] Calls Run RunL RunQ RunD HR HL HD blkC ownC Rd
open Nd
variable {H : Type} {enc : TypeId × Value → H} {W : World}
theorem nodeHears.nodeHears_any (a : NdA) (now : Int) (f : Fr) (w : World) (g : NdOk w a) (_ : (Lit.int .i64 now).wf = true) (hf : f.da.length ≤ 9223372036854775807) :
  Calls Tryz.prog 4 #[.agg ⟨ndE a⟩, .int .i64 now, .agg ⟨frC f⟩] w fun e w' => e = .returned (.bool true) ∧ Below w.heap.size w w' := Proofs.YtgdgclmkpoaagaaGreat.nodeHears_any a.1 a.2 now f w g.ok g.wf hf
end Go.Proofs.YtgdgclmkpoaagaaGreat
