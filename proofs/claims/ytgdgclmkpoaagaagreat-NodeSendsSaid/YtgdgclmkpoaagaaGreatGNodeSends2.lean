/- A part of the proof: contracts of the program's functions. Conditions: none. -/
import Derived.Carry
import Derived.Deep.MidRow
import Derived.Deep.Quiet
import Derived.Laws.IdiomRangeMap
import Derived.Laws.MakeOwn
import Derived.Laws.StructEq
import Derived.Laws.Tables
import Derived.Lib.AppendStr
import Derived.Lib.AppendZerosOnto
import Derived.Lib.OthersKept
import Derived.Lib.Overlaps
import Derived.Lib.OwnBridge
import Derived.Lib.SlicesCompact
import Derived.MapKept
import Derived.Orders
import Derived.OrdersHeld
import Derived.Scope
import Derived.SliceStrings
import Derived.Sort.Grow
import Derived.StillTail
import Derived.Test.YtgdgclmkpoaagaaGreatProg
import Derived.Test.YtgdgclmkpoaagaaGreatShelf
import Derived.WalkKit
import Derived.WalkLawsBesides
import Derived.WalkSpells
import Derived.Test.YtgdgclmkpoaagaaGreatGB1
import Derived.Test.YtgdgclmkpoaagaaGreatGB10
import Derived.Test.YtgdgclmkpoaagaaGreatGB11
import Derived.Test.YtgdgclmkpoaagaaGreatGB2
import Derived.Test.YtgdgclmkpoaagaaGreatGB3
import Derived.Test.YtgdgclmkpoaagaaGreatGB4
import Derived.Test.YtgdgclmkpoaagaaGreatGB5
import Derived.Test.YtgdgclmkpoaagaaGreatGB6
import Derived.Test.YtgdgclmkpoaagaaGreatGB7
import Derived.Test.YtgdgclmkpoaagaaGreatGB8
import Derived.Test.YtgdgclmkpoaagaaGreatGB9
import Derived.Test.YtgdgclmkpoaagaaGreatGNodeSends1
set_option linter.unusedVariables false
set_option linter.unusedSectionVars false
set_option linter.unusedSimpArgs false
set_option maxRecDepth 100000
set_option maxHeartbeats 4000000
namespace Go.Proofs.YtgdgclmkpoaagaaGreat
open Go.GX Go.RowKit
attribute [local irreducible] Calls Run RunL RunQ RunD HR HL HD blkC ownC Rd
open Nd
theorem fn20 : IsFn Tryz.prog 20 := ⟨⟨_, _, Tryz.func20, rfl, by decide⟩⟩
structure ROk (V : NV) (n : Nd) (V' : NV) (Gt : List Chunk) (m : Nd) : Prop where
 pa : V'.pa = V.pa
 ps : V'.ps = V.ps
 ta : ∀ w2, Sl w2 (sv V.ta n.table.length) (cellsOf roC n.table) n.table.length → (groupC Gt).p w2 → Sl w2 (sv V'.ta m.table.length) (cellsOf roC m.table) m.table.length
 li : ∀ w2, Sl w2 (sv V.li n.links.length) (cellsOf liC n.links) n.links.length → Sl w2 (sv V'.li m.links.length) (cellsOf liC m.links) m.links.length
abbrev roH (V : NV) (Gt : List Chunk) (m : Nd) : List Chunk := [groupC Gt, cSn (sv V.ou m.out.length) m.out, cMa (sv V.bo m.boxes.length) m.boxes, cI (sv V.ch m.children.length) m.children, cPr (sv V.se m.seen.length) m.seen, cDe (sv V.ib m.inbox.length) m.inbox]
theorem fold_step (p : Int → Bool) {l : List Int} {k : Nat} {x : Int} (hx : l[k]? = some x) : ((l.take (k + 1)).filter p).foldl child [] = if p x = true then child (((l.take k).filter p).foldl child []) x else ((l.take k).filter p).foldl child [] := by
 rw [take_filter hx]
 split
 ·rw [List.foldl_append]; rfl
 ·rfl
theorem rorder_any (V : NV) (n : Nd) (w : World) (h : OkN w V n) (hs : SmN n) :
  Calls Tryz.prog 20 #[.agg ⟨ndC V n⟩] w fun e w' => ∃ x : NV × List Chunk, e = .returned (.agg ⟨ndC x.1 (order n)⟩) ∧ ROk V n x.1 x.2 (order n) ∧ Sat (base w) (roH x.1 x.2 (order n)) w' := by
 have l1 := hs.ta
 have l2 := hs.li
 have l3 := hs.ou
 have l4 := hs.ch
 have l5 := hs.bo
 have l6 := hs.se
 have l7 := hs.ib
 obtain ⟨m, hm⟩ : ∃ m, m = order n := ⟨_, rfl⟩
 have e_ad : m.addr = clamp n.addr 0 250 := by rw [hm]; rfl
 have e_po : m.poll = if n.poll < 1 then 0 else max n.poll 4 := by rw [hm]; rfl
 have e_pr : m.parent = if Tp.okN n.parent = false ∨ n.parent = m.addr then 255 else n.parent := by rw [hm]; rfl
 have e_ta : m.table = if rchk n.table m.addr = 0 then n.table else [rown m.addr] := by rw [hm]; rfl
 have e_li : m.links = if lchk n.links = 0 then n.links else [] := by rw [hm]; rfl
 have e_ou : m.out = n.out.take (min n.out.length 16) := by rw [hm, ← take_minl]; rfl
 have e_ch : m.children = (n.children.filter fun c => Tp.okN c && !(c == m.addr)).foldl child [] := by rw [hm]; rfl
 have e_bo : m.boxes = n.boxes.take (min n.boxes.length 16) := by rw [hm, ← take_minl]; rfl
 have e_se : m.seen = n.seen.drop (n.seen.length - 32) := by rw [hm]; rfl
 have e_ib : m.inbox = n.inbox.take (min n.inbox.length 256) := by rw [hm, ← take_minl]; rfl
 have e_sq : m.seq = if n.seq < 0 ∨ n.seq > 65535 then 0 else n.seq := by rw [hm]; rfl
 have e_lo : m.lost = clamp n.lost 0 1099511627776 := by rw [hm]; rfl
 have e_nw : rnew m.addr = [rown m.addr] := by rw [e_ad]; unfold rnew lim; rw [clamp2]
 have s_ou := Sl.pre snC_len h.ou (Nat.min_le_left _ _) e_ou
 have s_bo := Sl.pre maC_len h.bo (Nat.min_le_left _ _) e_bo
 have s_se := Sl.suf prC_len h.se (Nat.sub_le _ _) e_se
 have s_ib := Sl.pre deC_len h.ib (Nat.min_le_left _ _) e_ib
 have k3 : m.out.length ≤ 16 := by rw [e_ou, List.length_take]; omega
 have k5 : m.boxes.length ≤ 16 := by rw [e_bo, List.length_take]; omega
 have k6 : m.seen.length ≤ 32 := by rw [e_se, List.length_drop]; omega
 have k7 : m.inbox.length ≤ 256 := by rw [e_ib, List.length_take]; omega
 rw [← hm]
 refine calls_hr Tryz.func20 I (Nat.le_of_ble_eq_true I) ?_
 refine HR.sub (σ' := [(0, .agg ⟨ndC V n⟩)]) ⟨I, trivial⟩ ?_
 refine HR.ctl I ?_
 refine HR.region ?_
 refine HL.box I I ?_
 intro b1
 refine HL.alloc I I ?_
 intro b2
 repeat' (first | refine zh ?_ | refine HL.callB fn63 I I (fun w _ => rclamp_any n.addr 0 250 (by decide) w) ?_ | intro (bk : Nat))
 refine HR.ent (H' := [blkC b1 [.int .i64 m.addr, .int .i64 n.poll, .int .i64 n.parent, sv V.ta n.table.length, sv V.li n.links.length, sv V.ou n.out.length, sv V.ch n.children.length, sv V.bo n.boxes.length, sv V.se n.seen.length, sv V.pa V.ps.length, sv V.ib n.inbox.length, .int .i64 n.seq, .int .i64 n.lost] 31, rsC b2]) (Ent.trans (Ent.pick [1, 0] I I) (Ent.of_eq (by rw [e_ad]; rfl))) ?_
 refine HR.join (ι := Unit) (fun _ => True) (fun _ => [(1, ptr b1), (2, ptr b2)]) (fun _ => [blkC b1 [.int .i64 m.addr, .int .i64 m.poll, .int .i64 n.parent, sv V.ta n.table.length, sv V.li n.links.length, sv V.ou n.out.length, sv V.ch n.children.length, sv V.bo n.boxes.length, sv V.se n.seen.length, sv V.pa V.ps.length, sv V.ib n.inbox.length, .int .i64 n.seq, .int .i64 n.lost] 31, rsC b2]) (fun _ _ => ?_) (fun hj => ?_)
 rotate_left
 ·refine HR.cond I (fun h => ?_) (fun h => ?_)
  ·have h : n.poll < 1 := of_decide_eq_true h
   refine HR.region ?_
   repeat' (first | refine zn ?_ | apply zb ?_ ?_ | exact zc | (refine zi fun hb => ?_; try simp at hb) | intro (bk : Nat))
   refine hj () _ _ trivial ⟨I, I, trivial⟩ (Ent.of_eq ?_)
   rw [e_po, if_pos h]; rfl
  ·have h : ¬ n.poll < 1 := of_decide_eq_false h
   rw [if_neg h] at e_po
   refine HR.ctl I ?_
   refine HR.region ?_
   repeat' (first | refine zn ?_ | apply zb ?_ ?_ | exact zc | (refine zi fun hb => ?_; try simp at hb) | intro (bk : Nat))
   refine HR.cond I (fun h2 => ?_) (fun h2 => ?_)
   ·have h2 : n.poll < 4 := of_decide_eq_true h2
    refine HR.region ?_
    repeat' (first | refine zn ?_ | apply zb ?_ ?_ | exact zc | (refine zi fun hb => ?_; try simp at hb) | intro (bk : Nat))
    refine hj () _ _ trivial ⟨I, I, trivial⟩ (Ent.of_eq ?_)
    rw [show m.poll = 4 from by rw [e_po]; omega]; rfl
   ·have h2 : ¬ n.poll < 4 := of_decide_eq_false h2
    refine HR.skip ?_
    refine hj () _ _ trivial ⟨I, I, trivial⟩ (Ent.of_eq ?_)
    rw [show m.poll = n.poll from by rw [e_po]; omega]
 repeat' (first | refine zh ?_ | refine HL.callB fn45 I I (fun w _ => address_any n.parent w) ?_ | apply zb ?_ ?_ | exact zc | (refine zi fun hb => ?_; try simp at hb) | intro (bk : Nat))
 refine HR.join (ι := Unit) (fun _ => True) (fun _ => [(1, ptr b1), (2, ptr b2)]) (fun _ => [blkC b1 [.int .i64 m.addr, .int .i64 m.poll, .int .i64 m.parent, sv V.ta n.table.length, sv V.li n.links.length, sv V.ou n.out.length, sv V.ch n.children.length, sv V.bo n.boxes.length, sv V.se n.seen.length, sv V.pa V.ps.length, sv V.ib n.inbox.length, .int .i64 n.seq, .int .i64 n.lost] 31, rsC b2]) (fun _ _ => ?_) (fun hj => ?_)
 rotate_left
 ·refine HR.cond I (fun h => ?_) (fun h => ?_)
  ·have h : (!Tp.okN n.parent || (n.parent == m.addr)) = true := h
   have h2 : Tp.okN n.parent = false ∨ n.parent = m.addr := by simpa using h
   refine HR.region ?_
   repeat' (first | refine zn ?_ | apply zb ?_ ?_ | exact zc | (refine zi fun hb => ?_; try simp at hb) | intro (bk : Nat))
   refine hj () _ _ trivial ⟨I, I, trivial⟩ (Ent.of_eq ?_)
   rw [e_pr, if_pos h2]; rfl
  ·have h : (!Tp.okN n.parent || (n.parent == m.addr)) = false := h
   have h2 : ¬ (Tp.okN n.parent = false ∨ n.parent = m.addr) := by simpa using h
   refine HR.skip ?_
   refine hj () _ _ trivial ⟨I, I, trivial⟩ (Ent.of_eq ?_)
   rw [e_pr, if_neg h2]
 repeat' (first | refine zh ?_ | refine HL.callB fn64 I I (fun w hw => r11check_any n.table m.addr _ w ((Rd.arg h.ta).at hw) l1) ?_ | intro (bk : Nat))
 refine HR.join (ι := SV × List Chunk) (fun x => ∀ w2, Sl w2 (sv V.ta n.table.length) (cellsOf roC n.table) n.table.length → (groupC x.2).p w2 → Sl w2 (sv x.1 m.table.length) (cellsOf roC m.table) m.table.length) (fun _ => [(1, ptr b1), (2, ptr b2)]) (fun x => [blkC b1 [.int .i64 m.addr, .int .i64 m.poll, .int .i64 m.parent, sv x.1 m.table.length, sv V.li n.links.length, sv V.ou n.out.length, sv V.ch n.children.length, sv V.bo n.boxes.length, sv V.se n.seen.length, sv V.pa V.ps.length, sv V.ib n.inbox.length, .int .i64 n.seq, .int .i64 n.lost] 31, rsC b2, groupC x.2]) (fun xt ht => ?_) (fun hj => ?_)
 rotate_left
 ·refine HR.cond I (fun h2 => ?_) (fun h2 => ?_)
  ·have h2 : ¬ rchk n.table m.addr = 0 := by simpa using h2
   rw [if_neg h2, ← e_nw] at e_ta
   refine HR.region ?_
   repeat' (first | refine zn ?_ | refine HL.callO fn65 I I (fun w _ => rrnew_any m.addr w) ?_ | apply zb ?_ ?_ | exact zc | (refine zi fun hb => ?_; try simp at hb) | intro (bk : Nat))
   intro v2
   refine HL.shape 0 I fun a2 c2 hv => ?_
   subst hv
   repeat' (first | refine zn ?_ | apply zb ?_ ?_ | exact zc | (refine zi fun hb => ?_; try simp at hb) | intro (bk : Nat))
   refine hj ((a2, c2), [cTa (.slice a2 (rnew m.addr).length c2) (rnew m.addr)]) _ _ (fun w2 _ hp => ?_) ⟨I, I, trivial⟩ ?_
   ·rw [e_ta]; exact ownC_sl hp.1
   ·rw [e_ta]; exact Ent.trans (Ent.group (G := [cTa (.slice a2 (rnew m.addr).length c2) (rnew m.addr)])) (Ent.pick [1, 2, 0] I I)
  ·have h2 : rchk n.table m.addr = 0 := by simpa using h2
   rw [if_pos h2] at e_ta
   refine HR.skip ?_
   refine hj (V.ta, []) _ _ (fun w2 hw2 _ => ?_) ⟨I, I, trivial⟩ ?_
   ·rw [e_ta]; exact hw2
   ·rw [e_ta]; exact Ent.trans Ent.gnil (Ent.pick [1, 2, 0] I I)
 obtain ⟨xt, Gt⟩ := xt
 have ht : ∀ w2, Sl w2 (sv V.ta n.table.length) (cellsOf roC n.table) n.table.length → (groupC Gt).p w2 → Sl w2 (sv xt m.table.length) (cellsOf roC m.table) m.table.length := ht
 repeat' (first | refine zh ?_ | refine HL.callB fn66 I I (fun w hw => r10check_any n.links _ w ((Rd.arg h.li).at hw) l2) ?_ | intro (bk : Nat))
 refine HR.join (ι := SV) (fun x => ∀ w2, Sl w2 (sv V.li n.links.length) (cellsOf liC n.links) n.links.length → Sl w2 (sv x m.links.length) (cellsOf liC m.links) m.links.length) (fun _ => [(1, ptr b1), (2, ptr b2)]) (fun x => [blkC b1 [.int .i64 m.addr, .int .i64 m.poll, .int .i64 m.parent, sv xt m.table.length, sv x m.links.length, sv V.ou n.out.length, sv V.ch n.children.length, sv V.bo n.boxes.length, sv V.se n.seen.length, sv V.pa V.ps.length, sv V.ib n.inbox.length, .int .i64 n.seq, .int .i64 n.lost] 31, rsC b2, groupC Gt]) (fun xl hli => ?_) (fun hj => ?_)
 rotate_left
 ·refine HR.cond I (fun h2 => ?_) (fun h2 => ?_)
  ·have h2 : ¬ lchk n.links = 0 := by simpa using h2
   rw [if_neg h2] at e_li
   refine HR.region ?_
   repeat' (first | refine zn ?_ | apply zb ?_ ?_ | exact zc | (refine zi fun hb => ?_; try simp at hb) | intro (bk : Nat))
   refine hj (none, 0) _ _ (fun w2 _ => ?_) ⟨I, I, trivial⟩ ?_
   ·rw [e_li]; exact Sl.nil w2
   ·rw [e_li]; exact Ent.refl
  ·have h2 : lchk n.links = 0 := by simpa using h2
   rw [if_pos h2] at e_li
   refine HR.skip ?_
   refine hj V.li _ _ (fun w2 hw2 => ?_) ⟨I, I, trivial⟩ ?_
   ·rw [e_li]; exact hw2
   ·rw [e_li]; exact Ent.refl
 repeat' (first | refine zh ?_ | refine HL.bslice0 elemSn I ?_ | intro (bk : Nat))
 intro v0
 repeat' (first | refine zh ?_ | intro (bk : Nat))
 refine HL.setV 50 (v' := .int .i64 ((min n.out.length 16 : Nat) : Int)) I (by rw [← min_i]; rfl) ?_
 repeat' (first | refine zh ?_ | refine HL.subI (sz := 11) 0 (min n.out.length 16) (Rd.arg h.ou) I I I I (.inl ⟨rfl, rfl⟩) (.inr ⟨_, _, _, rfl, rfl, rfl⟩) (Nat.zero_le _) (Nat.min_le_left _ _) ?_ | intro (bk : Nat))
 refine HL.appR 0 I elemSn (Rd.arg s_ou) I I I (cellsOf_len snC_len _) (one_allcells snC_one _) (by omega) (by omega) ?_
 intro v1
 refine HL.ent (H' := cSn v1 m.out :: [blkC b1 [.int .i64 m.addr, .int .i64 m.poll, .int .i64 m.parent, sv xt m.table.length, sv xl m.links.length, sv V.ou n.out.length, sv V.ch n.children.length, sv V.bo n.boxes.length, sv V.se n.seen.length, sv V.pa V.ps.length, sv V.ib n.inbox.length, .int .i64 n.seq, .int .i64 n.lost] 31, rsC b2, groupC Gt]) (Ent.own0 (Nat.zero_add _) (List.nil_append _)) ?_
 refine HL.shape 0 I fun a3 c3 hv => ?_
 subst hv
 refine HL.ent (H' := [blkC b1 [.int .i64 m.addr, .int .i64 m.poll, .int .i64 m.parent, sv xt m.table.length, sv xl m.links.length, sv V.ou n.out.length, sv V.ch n.children.length, sv V.bo n.boxes.length, sv V.se n.seen.length, sv V.pa V.ps.length, sv V.ib n.inbox.length, .int .i64 n.seq, .int .i64 n.lost] 31, rsC b2, groupC Gt, cSn (.slice a3 m.out.length c3) m.out]) (Ent.pick [1, 2, 3, 0] I I) ?_
 repeat' (first | refine zh ?_ | refine HL.bslice0 elemMa I ?_ | intro (bk : Nat))
 intro v0
 repeat' (first | refine zh ?_ | intro (bk : Nat))
 refine HL.setV 60 (v' := .int .i64 ((min n.boxes.length 16 : Nat) : Int)) I (by rw [← min_i]; rfl) ?_
 repeat' (first | refine zh ?_ | refine HL.subI (sz := 10) 0 (min n.boxes.length 16) (Rd.arg h.bo) I I I I (.inl ⟨rfl, rfl⟩) (.inr ⟨_, _, _, rfl, rfl, rfl⟩) (Nat.zero_le _) (Nat.min_le_left _ _) ?_ | intro (bk : Nat))
 refine HL.appR 0 I elemMa (Rd.arg s_bo) I I I (cellsOf_len maC_len _) (one_allcells maC_one _) (by omega) (by omega) ?_
 intro v1
 refine HL.ent (H' := cMa v1 m.boxes :: [blkC b1 [.int .i64 m.addr, .int .i64 m.poll, .int .i64 m.parent, sv xt m.table.length, sv xl m.links.length, .slice a3 m.out.length c3, sv V.ch n.children.length, sv V.bo n.boxes.length, sv V.se n.seen.length, sv V.pa V.ps.length, sv V.ib n.inbox.length, .int .i64 n.seq, .int .i64 n.lost] 31, rsC b2, groupC Gt, cSn (.slice a3 m.out.length c3) m.out]) (Ent.own0 (Nat.zero_add _) (List.nil_append _)) ?_
 refine HL.shape 0 I fun a5 c5 hv => ?_
 subst hv
 refine HL.ent (H' := [blkC b1 [.int .i64 m.addr, .int .i64 m.poll, .int .i64 m.parent, sv xt m.table.length, sv xl m.links.length, .slice a3 m.out.length c3, sv V.ch n.children.length, sv V.bo n.boxes.length, sv V.se n.seen.length, sv V.pa V.ps.length, sv V.ib n.inbox.length, .int .i64 n.seq, .int .i64 n.lost] 31, rsC b2, groupC Gt, cSn (.slice a3 m.out.length c3) m.out, cMa (.slice a5 m.boxes.length c5) m.boxes]) (Ent.pick [1, 2, 3, 4, 0] I I) ?_
 repeat' (first | refine zh ?_ | intro (bk : Nat))
 refine HR.nilC 3 1 ?_
 obtain ⟨g, hg⟩ : ∃ g : Nat → List Int, g = fun k => ((n.children.take k).filter fun c => Tp.okN c && !(c == m.addr)).foldl child [] := ⟨_, rfl⟩
 have hga : ∀ k, Asc id (g k) := fun k => by rw [hg]; exact (childs_asc (l := (n.children.take k).filter fun c => Tp.okN c && !(c == m.addr)) (acc := []) List.Pairwise.nil).1
 have hgl : ∀ k, (g k).length ≤ 1000 := fun k => Nat.le_trans (asc_bound (hga k) fun x hx => by
  rw [hg] at hx
  have hx := ((childs_asc (l := (n.children.take k).filter fun c => Tp.okN c && !(c == m.addr)) (acc := []) List.Pairwise.nil).2 x).1 hx
  rcases hx with hx | hx
  ·have := (List.mem_filter.1 hx).2
   simp only [Bool.and_eq_true] at this
   exact this.1
  ·cases hx) (by decide)
 refine HR.loop (ι := Nat × Value) (fun x => x.1 ≤ n.children.length) (fun x => [(1, ptr b1), (2, ptr b2), (3, x.2), (4, .int .i64 (x.1 : Int))]) (fun x => [cI x.2 (g x.1), blkC b1 [.int .i64 m.addr, .int .i64 m.poll, .int .i64 m.parent, sv xt m.table.length, sv xl m.links.length, .slice a3 m.out.length c3, sv V.ch n.children.length, .slice a5 m.boxes.length c5, sv V.se n.seen.length, sv V.pa V.ps.length, sv V.ib n.inbox.length, .int .i64 n.seq, .int .i64 n.lost] 31, rsC b2, groupC Gt, cSn (.slice a3 m.out.length c3) m.out, cMa (.slice a5 m.boxes.length c5) m.boxes]) (fun x => n.children.length - x.1) (0, .slice none 0 0) (Nat.zero_le _) ⟨I, I, I, I, trivial⟩ (by rw [hg]; exact Ent.refl) ?_
 rintro ⟨k, v⟩ hk ih
 have hk : k ≤ n.children.length := hk
 repeat' (first | refine zh ?_ | intro (bk : Nat))
 refine HR.cond I (fun h2 => ?_) (fun h2 => ?_)
 ·have hlt : k < n.children.length := by have := of_decide_eq_true h2; omega
  obtain ⟨c, hc⟩ := getSome hlt
  have hgs := fold_step (fun c => Tp.okN c && !(c == m.addr)) hc
  have hgs : g (k + 1) = if (Tp.okN c && !(c == m.addr)) = true then child (g k) c else g k := by rw [hg]; exact hgs
  repeat' (first | refine zh ?_ | intro (bk : Nat))
  refine HR.join (ι := Unit) (fun _ => True) (fun _ => [(1, ptr b1), (2, ptr b2), (3, v), (4, .int .i64 (k : Int)), (86, .bool (Tp.okN c && !(c == m.addr)))]) (fun _ => [cI v (g k), blkC b1 [.int .i64 m.addr, .int .i64 m.poll, .int .i64 m.parent, sv xt m.table.length, sv xl m.links.length, .slice a3 m.out.length c3, sv V.ch n.children.length, .slice a5 m.boxes.length c5, sv V.se n.seen.length, sv V.pa V.ps.length, sv V.ib n.inbox.length, .int .i64 n.seq, .int .i64 n.lost] 31, rsC b2, groupC Gt, cSn (.slice a3 m.out.length c3) m.out, cMa (.slice a5 m.boxes.length c5) m.boxes]) (fun _ _ => ?_) (fun hj => ?_)
  rotate_left
  ·refine HR.regionD [(0, true), (1, true), (2, true), (3, true), (4, true), (5, false), (6, true), (7, true), (8, true), (9, true), (10, true), (11, true), (12, true), (13, true), (14, true), (15, true)] [1] I I hmix (by kernel_rfl) ?_
   repeat' (first | refine zd ?_ | refine HD.idxR (Rd.arg h.ch) elemI k I I I I I hlt ?_ | refine HD.loadI (Rd.arg h.ch) I I I I I (cellsOf_get1 hc) ?_)
   refine HD.one I ?_
   refine HL.callB fn45 I I (fun w _ => address_any c w) ?_
   refine HL.back [1] I I ?_
   repeat' (first | refine zd ?_ | fail)
   refine HD.split 77 I (fun hb => ?_) (fun hb => ?_)
   ·repeat' (first | refine zd ?_ | refine HD.idxR (Rd.arg h.ch) elemI k I I I I I hlt ?_ | refine HD.loadI (Rd.arg h.ch) I I I I I (cellsOf_get1 hc) ?_)
    refine HD.nil ?_
    refine hj () _ _ trivial ⟨rfl, rfl, rfl, rfl, ?_, trivial⟩ Ent.refl
    show some (Value.bool (!(c == m.addr))) = some (Value.bool (Tp.okN c && !(c == m.addr)))
    rw [show Tp.okN c = true from hb]; rfl
   ·repeat' (first | refine zd ?_ | fail)
    refine HD.nil ?_
    refine hj () _ _ trivial ⟨rfl, rfl, rfl, rfl, ?_, trivial⟩ Ent.refl
    show some (Value.bool false) = some (Value.bool (Tp.okN c && !(c == m.addr)))
    rw [show Tp.okN c = false from hb]; rfl
  refine HR.cond I (fun h3 => ?_) (fun h3 => ?_)
  ·have h3 : (Tp.okN c && !(c == m.addr)) = true := h3
   rw [if_pos h3] at hgs
   repeat' (first | refine zh ?_ | refine HL.idxR (Rd.arg h.ch) elemI k I I I I hlt ?_ | refine HL.loadI (Rd.arg h.ch) I I I I (cellsOf_get1 hc) ?_ | intro (bk : Nat))
   refine HL.callW (r := fun r : Value => r) (Q := fun _ => True) (G0 := [cI v (g k)]) (H0 := [blkC b1 [.int .i64 m.addr, .int .i64 m.poll, .int .i64 m.parent, sv xt m.table.length, sv xl m.links.length, .slice a3 m.out.length c3, sv V.ch n.children.length, .slice a5 m.boxes.length c5, sv V.se n.seen.length, sv V.pa V.ps.length, sv V.ib n.inbox.length, .int .i64 n.seq, .int .i64 n.lost] 31, rsC b2, groupC Gt, cSn (.slice a3 m.out.length c3) m.out, cMa (.slice a5 m.boxes.length c5) m.boxes]) (G := fun r => [cI r (child (g k) c)]) fn67 I I I (fun w1 hw1 => rchild_any (g k) c v _ w1 (hw1.pick [0] I I) (hgl k) (hga k)) ?_
   intro r _
   repeat' (first | refine zh ?_ | intro (bk : Nat))
   refine ih (k + 1, r) _ _ hlt (by show n.children.length - (k + 1) < n.children.length - k; omega) ⟨I, I, I, I, trivial⟩ ?_
   show Ent _ _ [cI r (g (k + 1)), blkC b1 [.int .i64 m.addr, .int .i64 m.poll, .int .i64 m.parent, sv xt m.table.length, sv xl m.links.length, .slice a3 m.out.length c3, sv V.ch n.children.length, .slice a5 m.boxes.length c5, sv V.se n.seen.length, sv V.pa V.ps.length, sv V.ib n.inbox.length, .int .i64 n.seq, .int .i64 n.lost] 31, rsC b2, groupC Gt, cSn (.slice a3 m.out.length c3) m.out, cMa (.slice a5 m.boxes.length c5) m.boxes]
   rw [hgs]
   exact Ent.refl
  ·have h3 : (Tp.okN c && !(c == m.addr)) = false := h3
   rw [if_neg (by rw [h3]; decide)] at hgs
   repeat' (first | refine zh ?_ | intro (bk : Nat))
   refine ih (k + 1, v) _ _ hlt (by show n.children.length - (k + 1) < n.children.length - k; omega) ⟨I, I, I, I, trivial⟩ ?_
   show Ent _ _ [cI v (g (k + 1)), blkC b1 [.int .i64 m.addr, .int .i64 m.poll, .int .i64 m.parent, sv xt m.table.length, sv xl m.links.length, .slice a3 m.out.length c3, sv V.ch n.children.length, .slice a5 m.boxes.length c5, sv V.se n.seen.length, sv V.pa V.ps.length, sv V.ib n.inbox.length, .int .i64 n.seq, .int .i64 n.lost] 31, rsC b2, groupC Gt, cSn (.slice a3 m.out.length c3) m.out, cMa (.slice a5 m.boxes.length c5) m.boxes]
   rw [hgs]
   exact Ent.refl
 have hke : k = n.children.length := by have := of_decide_eq_false h2; omega
 subst hke
 have hgm : g n.children.length = m.children := by rw [e_ch, hg]; show ((n.children.take n.children.length).filter _).foldl child [] = _; rw [List.take_length]
 refine HR.ent (H' := [cI v m.children, blkC b1 [.int .i64 m.addr, .int .i64 m.poll, .int .i64 m.parent, sv xt m.table.length, sv xl m.links.length, .slice a3 m.out.length c3, sv V.ch n.children.length, .slice a5 m.boxes.length c5, sv V.se n.seen.length, sv V.pa V.ps.length, sv V.ib n.inbox.length, .int .i64 n.seq, .int .i64 n.lost] 31, rsC b2, groupC Gt, cSn (.slice a3 m.out.length c3) m.out, cMa (.slice a5 m.boxes.length c5) m.boxes]) (Ent.of_eq (by rw [← hgm])) ?_
 repeat' (first | refine zh ?_ | intro (bk : Nat))
 refine HL.shape 0 I fun a4 c4 hv => ?_
 subst hv
 refine HL.ent (H' := [blkC b1 [.int .i64 m.addr, .int .i64 m.poll, .int .i64 m.parent, sv xt m.table.length, sv xl m.links.length, .slice a3 m.out.length c3, sv V.ch n.children.length, .slice a5 m.boxes.length c5, sv V.se n.seen.length, sv V.pa V.ps.length, sv V.ib n.inbox.length, .int .i64 n.seq, .int .i64 n.lost] 31, rsC b2, groupC Gt, cSn (.slice a3 m.out.length c3) m.out, cMa (.slice a5 m.boxes.length c5) m.boxes, cI (.slice a4 m.children.length c4) m.children]) (Ent.pick [1, 2, 3, 4, 5, 0] I I) ?_
 repeat' (first | refine zh ?_ | refine HL.bslice0 elemPr I ?_ | intro (bk : Nat))
 intro v0
 repeat' (first | refine zh ?_ | intro (bk : Nat))
 refine HL.setV 103 (v' := .int .i64 ((n.seen.length - 32 : Nat) : Int)) I (by rw [← max0]) ?_
 repeat' (first | refine zh ?_ | refine HL.subI (sz := 2) (n.seen.length - 32) n.seen.length (Rd.arg h.se) I I I I (.inr ⟨_, _, _, rfl, rfl, rfl⟩) (.inl ⟨rfl, rfl⟩) (Nat.sub_le _ _) (Nat.le_refl _) ?_ | intro (bk : Nat))
 refine HL.appR 0 I elemPr (Rd.arg s_se) I I I (cellsOf_len prC_len _) (one_allcells prC_one _) (by omega) (by omega) ?_
 intro v1
 refine HL.ent (H' := cPr v1 m.seen :: [blkC b1 [.int .i64 m.addr, .int .i64 m.poll, .int .i64 m.parent, sv xt m.table.length, sv xl m.links.length, .slice a3 m.out.length c3, .slice a4 m.children.length c4, .slice a5 m.boxes.length c5, sv V.se n.seen.length, sv V.pa V.ps.length, sv V.ib n.inbox.length, .int .i64 n.seq, .int .i64 n.lost] 31, rsC b2, groupC Gt, cSn (.slice a3 m.out.length c3) m.out, cMa (.slice a5 m.boxes.length c5) m.boxes, cI (.slice a4 m.children.length c4) m.children]) (Ent.own0 (Nat.zero_add _) (List.nil_append _)) ?_
 refine HL.shape 0 I fun a6 c6 hv => ?_
 subst hv
 refine HL.ent (H' := [blkC b1 [.int .i64 m.addr, .int .i64 m.poll, .int .i64 m.parent, sv xt m.table.length, sv xl m.links.length, .slice a3 m.out.length c3, .slice a4 m.children.length c4, .slice a5 m.boxes.length c5, sv V.se n.seen.length, sv V.pa V.ps.length, sv V.ib n.inbox.length, .int .i64 n.seq, .int .i64 n.lost] 31, rsC b2, groupC Gt, cSn (.slice a3 m.out.length c3) m.out, cMa (.slice a5 m.boxes.length c5) m.boxes, cI (.slice a4 m.children.length c4) m.children, cPr (.slice a6 m.seen.length c6) m.seen]) (Ent.pick [1, 2, 3, 4, 5, 6, 0] I I) ?_
 repeat' (first | refine zh ?_ | refine HL.bslice0 elemDe I ?_ | intro (bk : Nat))
 intro v0
 repeat' (first | refine zh ?_ | intro (bk : Nat))
 refine HL.setV 113 (v' := .int .i64 ((min n.inbox.length 256 : Nat) : Int)) I (by rw [← min_i]; rfl) ?_
 repeat' (first | refine zh ?_ | refine HL.subI (sz := 2) 0 (min n.inbox.length 256) (Rd.arg h.ib) I I I I (.inl ⟨rfl, rfl⟩) (.inr ⟨_, _, _, rfl, rfl, rfl⟩) (Nat.zero_le _) (Nat.min_le_left _ _) ?_ | intro (bk : Nat))
 refine HL.appR 0 I elemDe (Rd.arg s_ib) I I I (cellsOf_len deC_len _) (one_allcells deC_one _) (by omega) (by omega) ?_
 intro v1
 refine HL.ent (H' := cDe v1 m.inbox :: [blkC b1 [.int .i64 m.addr, .int .i64 m.poll, .int .i64 m.parent, sv xt m.table.length, sv xl m.links.length, .slice a3 m.out.length c3, .slice a4 m.children.length c4, .slice a5 m.boxes.length c5, .slice a6 m.seen.length c6, sv V.pa V.ps.length, sv V.ib n.inbox.length, .int .i64 n.seq, .int .i64 n.lost] 31, rsC b2, groupC Gt, cSn (.slice a3 m.out.length c3) m.out, cMa (.slice a5 m.boxes.length c5) m.boxes, cI (.slice a4 m.children.length c4) m.children, cPr (.slice a6 m.seen.length c6) m.seen]) (Ent.own0 (Nat.zero_add _) (List.nil_append _)) ?_
 refine HL.shape 0 I fun a7 c7 hv => ?_
 subst hv
 refine HL.ent (H' := [blkC b1 [.int .i64 m.addr, .int .i64 m.poll, .int .i64 m.parent, sv xt m.table.length, sv xl m.links.length, .slice a3 m.out.length c3, .slice a4 m.children.length c4, .slice a5 m.boxes.length c5, .slice a6 m.seen.length c6, sv V.pa V.ps.length, sv V.ib n.inbox.length, .int .i64 n.seq, .int .i64 n.lost] 31, rsC b2, groupC Gt, cSn (.slice a3 m.out.length c3) m.out, cMa (.slice a5 m.boxes.length c5) m.boxes, cI (.slice a4 m.children.length c4) m.children, cPr (.slice a6 m.seen.length c6) m.seen, cDe (.slice a7 m.inbox.length c7) m.inbox]) (Ent.pick [1, 2, 3, 4, 5, 6, 7, 0] I I) ?_
 repeat' (first | refine zh ?_ | apply zb ?_ ?_ | exact zc | (refine zi fun hb => ?_; try simp at hb) | intro (bk : Nat))
 refine HR.join (ι := Unit) (fun _ => True) (fun _ => [(1, ptr b1), (2, ptr b2)]) (fun _ => [blkC b1 [.int .i64 m.addr, .int .i64 m.poll, .int .i64 m.parent, sv xt m.table.length, sv xl m.links.length, .slice a3 m.out.length c3, .slice a4 m.children.length c4, .slice a5 m.boxes.length c5, .slice a6 m.seen.length c6, sv V.pa V.ps.length, .slice a7 m.inbox.length c7, .int .i64 m.seq, .int .i64 n.lost] 31, rsC b2, groupC Gt, cSn (.slice a3 m.out.length c3) m.out, cMa (.slice a5 m.boxes.length c5) m.boxes, cI (.slice a4 m.children.length c4) m.children, cPr (.slice a6 m.seen.length c6) m.seen, cDe (.slice a7 m.inbox.length c7) m.inbox]) (fun _ _ => ?_) (fun hj => ?_)
 rotate_left
 ·refine HR.cond I (fun h2 => ?_) (fun h2 => ?_)
  ·have h2 : (decide (n.seq < 0) || decide (n.seq > 65535)) = true := h2
   have h3 : n.seq < 0 ∨ n.seq > 65535 := by simpa using h2
   refine HR.region ?_
   repeat' (first | refine zn ?_ | apply zb ?_ ?_ | exact zc | (refine zi fun hb => ?_; try simp at hb) | intro (bk : Nat))
   refine hj () _ _ trivial ⟨I, I, trivial⟩ (Ent.of_eq ?_)
   rw [e_sq, if_pos h3]; rfl
  ·have h2 : (decide (n.seq < 0) || decide (n.seq > 65535)) = false := h2
   have h3 : ¬ (n.seq < 0 ∨ n.seq > 65535) := by simpa using h2
   refine HR.skip ?_
   refine hj () _ _ trivial ⟨I, I, trivial⟩ (Ent.of_eq ?_)
   rw [e_sq, if_neg h3]; rfl
 repeat' (first | refine zh ?_ | refine HL.callB fn63 I I (fun w _ => rclamp_any n.lost 0 1099511627776 (by decide) w) ?_ | intro (bk : Nat))
 refine HR.ret Tryz.func20 I [_] (fun w hw => ⟨⟨_, rfl, loadVarR hw 1 I I I I rfl⟩, trivial⟩) ?_
 refine fun w' hw => ⟨(⟨xt, xl, (a3, c3), (a4, c4), (a5, c5), (a6, c6), V.pa, (a7, c7), V.ps⟩, Gt), ?_, ⟨rfl, rfl, ht, hli⟩, hw.pick [2, 3, 4, 5, 6, 7] I rfl⟩
 show _ = Ending.returned (.agg ⟨ndC ⟨xt, xl, (a3, c3), (a4, c4), (a5, c5), (a6, c6), V.pa, (a7, c7), V.ps⟩ m⟩)
 rw [show ndC ⟨xt, xl, (a3, c3), (a4, c4), (a5, c5), (a6, c6), V.pa, (a7, c7), V.ps⟩ m = ndC ⟨xt, xl, (a3, c3), (a4, c4), (a5, c5), (a6, c6), V.pa, (a7, c7), V.ps⟩ { m with lost := clamp n.lost 0 1099511627776 } from by rw [← e_lo]]
 rfl
end Go.Proofs.YtgdgclmkpoaagaaGreat
namespace Go.Proofs.YtgdgclmkpoaagaaGreat
open Go.GX Go.RowKit
attribute [local irreducible] Calls Run RunL RunQ RunD HR HL HD blkC ownC Rd
open Nd
abbrev Imp (V0 : NV) (n0 : Nd) (V : NV) (G : List Chunk) (n : Nd) : Prop := ∀ w2, OkN w2 V0 n0 → (groupC G).p w2 → OkN w2 V n
theorem ROk.okn {V V' : NV} {n m : Nd} {Gt : List Chunk} (hr : ROk V n V' Gt m) (hp : m.parts = n.parts) : Imp V n V' (roH V' Gt m) m := by
 intro w2 h2 hg
 refine ⟨hr.ta w2 h2.ta (groupC_mem hg (List.mem_cons_self ..)), hr.li w2 h2.li, ownC_sl (groupC_mem hg (c := cSn (sv V'.ou m.out.length) m.out) (by simp)), ownC_sl (groupC_mem hg (c := cI (sv V'.ch m.children.length) m.children) (by simp)), ownC_sl (groupC_mem hg (c := cMa (sv V'.bo m.boxes.length) m.boxes) (by simp)), ownC_sl (groupC_mem hg (c := cPr (sv V'.se m.seen.length) m.seen) (by simp)), ?_, ownC_sl (groupC_mem hg (c := cDe (sv V'.ib m.inbox.length) m.inbox) (by simp)), ?_⟩
 ·rw [hr.pa, hr.ps]; exact h2.pa
 ·rw [hr.ps, hp]; exact h2.eq
end Go.Proofs.YtgdgclmkpoaagaaGreat
namespace Go.Proofs.YtgdgclmkpoaagaaGreat
open Go.GX Go.RowKit
attribute [local irreducible] Calls Run RunL RunQ RunD HR HL HD blkC ownC Rd
open Nd
theorem fn15 : IsFn Tryz.prog 15 := ⟨⟨_, _, Tryz.func15, rfl, by decide⟩⟩
theorem ROk.set {V V' V'' : NV} {n m m' : Nd} {Gt : List Chunk} (hR : ROk V n V' Gt m) (h1 : V''.pa = V'.pa) (h2 : V''.ps = V'.ps) (h3 : V''.ta = V'.ta) (h4 : V''.li = V'.li) (h5 : m'.table = m.table) (h6 : m'.links = m.links) : ROk V n V'' Gt m' :=
 ⟨h1.trans hR.pa, h2.trans hR.ps, by rw [h3, h5]; exact hR.ta, by rw [h4, h6]; exact hR.li⟩
theorem okn_zero (w : World) : OkN w V0 nd0 := ⟨Sl.nil w, Sl.nil w, Sl.nil w, Sl.nil w, Sl.nil w, Sl.nil w, ⟨Sl.nil w, fun p hp => by cases hp⟩, Sl.nil w, rfl⟩
theorem deliver_is (n : Nd) (d : De) : ∃ i l, deliver n d = { n with inbox := i, lost := l } := by
 by_cases h : n.inbox.length ≥ 256
 ·exact ⟨n.inbox, min (n.lost + 1) maxTick, by unfold deliver lose; rw [if_pos h]⟩
 ·exact ⟨n.inbox ++ [d], n.lost, by unfold deliver; rw [if_neg h]⟩
theorem satNil {B : Base} {H : List Chunk} {w : World} (h : Sat B H w) : Sat B [groupC []] w := Ent.gnil w (h.pick [] I I)
theorem rsend_any (V : NV) (n : Nd) (target : Int) (ur : Bool) (text : By) (w : World) (h : OkN w V n) (hs : SmN n) (htx : text.length ≤ 9223372036854775807) :
  Calls Tryz.prog 15 #[.agg ⟨ndC V n⟩, .int .i64 target, .bool ur, str text] w fun e w' => ∃ x : NV × List Chunk, e = .returned (.tuple ⟨[.agg ⟨ndC x.1 (send n target ur text).1⟩, .int .i64 (send n target ur text).2]⟩) ∧ Imp V n x.1 x.2 (send n target ur text).1 ∧ Sat (base w) [groupC x.2] w' := by
 obtain ⟨m, hm⟩ : ∃ m, m = order n := ⟨_, rfl⟩
 have hmp : m.parts = n.parts := by rw [hm]; rfl
 have ho : Ord m := by rw [hm]; exact order_ord n
 have h16 := ho.out
 have h256 := ho.inbox
 obtain ⟨hsq0, hsq1⟩ := ho.seq
 obtain ⟨r, hr⟩ : ∃ r, r = psplit text (m.seq % 256) := ⟨_, rfl⟩
 have hsp : send n target ur text = if Tp.okN target = false then (nd0, 2) else if r.2 ≠ 0 then (nd0, r.2) else if target = m.addr then (deliver m ⟨m.addr, text⟩, 0) else match sends target ur r.1 m with
  | some m => (m, 0)
  | none => (nd0, 13) := by rw [hr, hm]; rfl
 rw [hsp]
 refine calls_hr Tryz.func15 I (Nat.le_of_ble_eq_true I) ?_
 refine HR.sub (σ' := [(0, .agg ⟨ndC V n⟩), (1, .int .i64 target), (2, .bool ur), (3, str text)]) ⟨I, I, I, I, trivial⟩ ?_
 refine HR.ctl I ?_
 refine HR.region ?_
 refine HL.box I I ?_
 intro b4
 refine HL.alloc I I ?_
 intro b8
 repeat' (first | refine zh ?_ | intro (bk : Nat))
 refine HL.callX (r := fun x : NV × List Chunk => .agg ⟨ndC x.1 m⟩) (Q := fun x => ROk V n x.1 x.2 m) (G := fun x => roH x.1 x.2 m) fn20 I I (fun w1 hw1 => by rw [hm]; exact rorder_any V n w1 (h.ext hw1.belowB) hs) ?_
 rintro ⟨V2, Gt⟩ hR
 have hR : ROk V n V2 Gt m := hR
 refine HL.ent (Ent.pick [7, 6, 0, 1, 2, 3, 4, 5] I I) ?_
 repeat' (first | refine zh ?_ | refine HL.callB fn45 I I (fun w _ => address_any target w) ?_ | intro (bk : Nat))
 refine HR.cond I (fun h1 => ?_) (fun h1 => ?_)
 ·have h1 : Tp.okN target = false := by simpa using h1
  rw [if_pos h1]
  repeat' (first | refine zh ?_ | intro (bk : Nat))
  refine HR.ret Tryz.func15 I [_, _] (fun w hw => ⟨⟨_, rfl, loadVarR hw 1 I I I I rfl⟩, rfl, trivial⟩) ?_
  exact fun w' hw => ⟨(V0, []), rfl, fun w2 _ _ => okn_zero w2, satNil hw⟩
 have h1 : ¬ Tp.okN target = false := by simpa using h1
 rw [if_neg h1]
 repeat' (first | refine zh ?_ | intro (bk : Nat))
 refine HL.callX (r := fun v' : Value => .tuple ⟨[v', .int .i64 r.2]⟩) (Q := fun _ => True) (G := fun v' => [ownC v' 9 1 r.1.length (cellsOf sC r.1)]) fn37 I I (fun w1 _ => by rw [hr]; exact r15split_any text (m.seq % 256) w1 htx) ?_
 intro v1 _
 repeat' (first | refine zh ?_ | intro (bk : Nat))
 refine HR.cond I (fun h2 => ?_) (fun h2 => ?_)
 ·have h2 : r.2 ≠ 0 := by simpa using h2
  rw [if_pos h2]
  repeat' (first | refine zh ?_ | intro (bk : Nat))
  refine HR.ret Tryz.func15 I [_, _] (fun w hw => ⟨⟨_, rfl, loadVarR hw 2 I I I I rfl⟩, rfl, trivial⟩) ?_
  exact fun w' hw => ⟨(V0, []), rfl, fun w2 _ _ => okn_zero w2, satNil hw⟩
 have h2 : ¬ r.2 ≠ 0 := by simpa using h2
 rw [if_neg h2]
 repeat' (first | refine zh ?_ | intro (bk : Nat))
 refine HR.cond I (fun h3 => ?_) (fun h3 => ?_)
 ·have h3 : target = m.addr := eq_of_beq h3
  rw [if_pos h3]
  obtain ⟨d, hd⟩ : ∃ d, d = deliver m ⟨m.addr, text⟩ := ⟨_, rfl⟩
  rw [← hd]
  have hR2 : ∀ y : SV, ROk V n { V2 with ib := y } Gt d := fun y => by
   obtain ⟨i, l, e⟩ := deliver_is m ⟨m.addr, text⟩
   rw [hd, e]; exact hR.set I I I I I I
  have hdp : d.parts = n.parts := by rw [hd, deliver_parts, hmp]
  have hdo : d.out = m.out ∧ d.boxes = m.boxes ∧ d.children = m.children ∧ d.seen = m.seen := by
   obtain ⟨i, l, e⟩ := deliver_is m ⟨m.addr, text⟩
   rw [hd, e]; exact ⟨rfl, rfl, rfl, rfl⟩
  repeat' (first | refine zh ?_ | intro (bk : Nat))
  refine HL.ent (Ent.pick [8, 1, 2, 3, 4, 5, 6, 7] I I) ?_
  refine HL.callW (r := fun y : SV => .agg ⟨ndC { V2 with ib := y } d⟩) (Q := fun _ => True) (G0 := [cDe (sv V2.ib m.inbox.length) m.inbox]) (H0 := [_, _, _, _, _, _, _]) (G := fun y => [cDe (sv y d.inbox.length) d.inbox]) fn46 I I I (fun w1 hw1 => by rw [hd]; exact rdeliver_any V2 m m.addr text _ w1 (hw1.pick [0] I I) (by omega) ho.lost) ?_
  intro y _
  repeat' (first | refine zh ?_ | intro (bk : Nat))
  refine HR.ret Tryz.func15 I [_, _] (fun w hw => ⟨⟨_, rfl, loadVarR hw 2 I I I I rfl⟩, rfl, trivial⟩) ?_
  refine fun w' hw => ⟨({ V2 with ib := y }, roH { V2 with ib := y } Gt d), rfl, (hR2 y).okn hdp, ?_⟩
  refine Ent.trans ?_ (Ent.group (G := roH { V2 with ib := y } Gt d) (H := [])) w' hw
  show Ent _ _ [groupC Gt, cSn (sv V2.ou d.out.length) d.out, cMa (sv V2.bo d.boxes.length) d.boxes, cI (sv V2.ch d.children.length) d.children, cPr (sv V2.se d.seen.length) d.seen, cDe (sv y d.inbox.length) d.inbox]
  rw [hdo.1, hdo.2.1, hdo.2.2.1, hdo.2.2.2]
  exact Ent.pick [3, 4, 5, 6, 7, 0] I I
 have h3 : ¬ target = m.addr := by simpa using h3
 rw [if_neg h3]
 obtain ⟨l, hl⟩ : ∃ l, l = r.1 := ⟨_, rfl⟩
 have hll : l.length ≤ 1000 := by rw [hl, hr]; exact psplit_room _ _
 rw [← hl]
 repeat' (first | refine zh ?_ | intro (bk : Nat))
 refine HR.ent (H' := [cSn (sv V2.ou m.out.length) m.out, blkC b4 (ndC V2 m) 31, rsC b8, ownC v1 9 1 l.length (cellsOf sC l), groupC Gt, cMa (sv V2.bo m.boxes.length) m.boxes, cI (sv V2.ch m.children.length) m.children, cPr (sv V2.se m.seen.length) m.seen, cDe (sv V2.ib m.inbox.length) m.inbox]) (Ent.pick [4, 1, 2, 0, 3, 5, 6, 7, 8] I I) ?_
 refine HR.loop (ι := Nat × Nd × SV) (fun x => x.1 ≤ l.length ∧ Ord x.2.1 ∧ (∃ q s lo, x.2.1 = { m with out := q, seq := s, lost := lo }) ∧ sends target ur l m = sends target ur (l.drop x.1) x.2.1) (fun x => [(1, .int .i64 target), (2, .bool ur), (4, ptr b4), (8, ptr b8), (10, v1), (12, .int .i64 (x.1 : Int))]) (fun x => [cSn (sv x.2.2 x.2.1.out.length) x.2.1.out, blkC b4 (ndC { V2 with ou := x.2.2 } x.2.1) 31, rsC b8, ownC v1 9 1 l.length (cellsOf sC l), groupC Gt, cMa (sv V2.bo m.boxes.length) m.boxes, cI (sv V2.ch m.children.length) m.children, cPr (sv V2.se m.seen.length) m.seen, cDe (sv V2.ib m.inbox.length) m.inbox]) (fun x => l.length - x.1) (0, m, V2.ou) ⟨Nat.zero_le _, ho, ⟨m.out, m.seq, m.lost, rfl⟩, rfl⟩ ⟨I, I, I, I, I, I, trivial⟩ Ent.refl ?_
 rintro ⟨k, p, y⟩ ⟨hk, hop, hpm, hss⟩ ih
 have hk : k ≤ l.length := hk
 have hop : Ord p := hop
 have hss : sends target ur l m = sends target ur (l.drop k) p := hss
 obtain ⟨q0, s0, l0, hpm⟩ := hpm
 have hpe : p = { m with out := q0, seq := s0, lost := l0 } := hpm
 have hps := hop.seq
 obtain ⟨hps0, hps1⟩ := hps
 have hp16 := hop.out
 repeat' (first | refine zh ?_ | refine HL.lenR (Rd.own 3 I) I I I ?_ | intro (bk : Nat))
 refine HR.cond I (fun h4 => ?_) (fun h4 => ?_)
 ·have hlt : k < l.length := by have := of_decide_eq_true h4; omega
  obtain ⟨x, hx⟩ := getSome hlt
  have hdr : l.drop k = x :: l.drop (k + 1) := by
   obtain ⟨hlt', e⟩ := List.getElem?_eq_some_iff.1 hx
   rw [← e]; exact List.drop_eq_getElem_cons hlt'
  repeat' (first | refine zh ?_ | intro (bk : Nat))
  refine HR.regionD [(0, true), (1, true), (2, true), (3, true), (4, true), (5, true), (6, true), (7, true), (8, true), (9, true), (10, true), (11, true), (12, true), (13, false), (14, false)] [1, 3] I I hmix (by kernel_rfl) ?_
  repeat' (first | refine zd ?_ | refine HD.idxR (Rd.own 1 I) elemS k I I I I I hlt ?_ | refine HD.loadI (Rd.own 1 I) I I I I I (cellsOf_get1 hx) ?_)
  refine HD.one I ?_
  refine HL.alloc I I ?_
  intro bf
  refine HL.back [2, 4] I I ?_
  refine HD.one I ?_
  refine HL.S 0 I I I I I ?_
  refine HL.back [2, 4] I I ?_
  refine HD.nil ?_
  repeat' (first | refine zh ?_ | intro (bk : Nat))
  refine HL.callX (r := fun z : SV => .tuple ⟨[.agg ⟨ndC { V2 with ou := z } (queue p (sendF p target ur x)).1⟩, .bool (queue p (sendF p target ur x)).2]⟩) (Q := fun _ => True) (G := fun z => [cSn (sv z (queue p (sendF p target ur x)).1.out.length) (queue p (sendF p target ur x)).1.out]) fn47 I I (fun w1 hw1 => rput_any { V2 with ou := y } p (sendF p target ur x) w1 ((Rd.own 1 rfl).at hw1) (by omega) hop.lost) ?_
  intro z _
  obtain ⟨Q, hQ⟩ : ∃ Q, Q = queue p (sendF p target ur x) := ⟨_, rfl⟩
  have hQo : Ord Q.1 := by rw [hQ]; exact hop.queue _
  have hQs : Q.1.seq = p.seq := by rw [hQ]; exact queue_seq _ _
  have hQi : ∃ q s lo, ({ Q.1 with seq := (p.seq + 1) % 65536 } : Nd) = { m with out := q, seq := s, lost := lo } := by
   obtain ⟨q, lo, e⟩ := queue_is p (sendF p target ur x)
   exact ⟨q, (p.seq + 1) % 65536, lo, by rw [hQ, e, hpe]⟩
  have hst : sends target ur (x :: l.drop (k + 1)) p = if Q.2 then sends target ur (l.drop (k + 1)) { Q.1 with seq := (p.seq + 1) % 65536 } else none := by rw [hQ]; rfl
  rw [hdr, hst] at hss
  rw [← hQ]
  have hq0 := hQo.seq.1
  have hq1 := hQo.seq.2
  repeat' (first | refine zh ?_ | intro (bk : Nat))
  refine HR.cond I (fun h5 => ?_) (fun h5 => ?_)
  ·have h5 : Q.2 = false := by simpa using h5
   rw [hss, h5]
   repeat' (first | refine zh ?_ | intro (bk : Nat))
   refine HR.ret Tryz.func15 I [_, _] (fun w hw => ⟨⟨_, rfl, loadVarR hw 5 I I I I rfl⟩, rfl, trivial⟩) ?_
   exact fun w' hw => ⟨(V0, []), rfl, fun w2 _ _ => okn_zero w2, satNil hw⟩
  ·have h5 : Q.2 = true := by simpa using h5
   rw [h5, if_pos rfl] at hss
   repeat' (first | refine zh ?_ | intro (bk : Nat))
   refine ih (k + 1, { Q.1 with seq := (p.seq + 1) % 65536 }, z) _ _ ⟨hlt, Ord_seq hQo ⟨by omega, by omega⟩, hQi, hss⟩ (by show l.length - (k + 1) < l.length - k; omega) ⟨I, I, I, I, I, I, trivial⟩ ?_
   rw [← hQs]
   exact Ent.pick [1, 4, 5, 6, 7, 8, 9, 10, 11] I I
 have hke : k = l.length := by have := of_decide_eq_false h4; omega
 subst hke
 have hss : sends target ur l m = some p := by rw [hss, List.drop_length]; rfl
 rw [hss]
 have hR2 : ROk V n { V2 with ou := y } Gt p := by rw [hpe]; exact hR.set I I I I I I
 have hpp : p.parts = n.parts := by rw [hpe]; exact hmp
 repeat' (first | refine zh ?_ | intro (bk : Nat))
 refine HR.ret Tryz.func15 I [_, _] (fun w hw => ⟨⟨_, rfl, loadVarR hw 2 I I I I rfl⟩, rfl, trivial⟩) ?_
 refine fun w' hw => ⟨({ V2 with ou := y }, roH { V2 with ou := y } Gt p), rfl, hR2.okn hpp, ?_⟩
 refine Ent.trans ?_ (Ent.group (G := roH { V2 with ou := y } Gt p) (H := [])) w' hw
 show Ent _ _ [groupC Gt, cSn (sv y p.out.length) p.out, cMa (sv V2.bo p.boxes.length) p.boxes, cI (sv V2.ch p.children.length) p.children, cPr (sv V2.se p.seen.length) p.seen, cDe (sv V2.ib p.inbox.length) p.inbox]
 have e1 : p.boxes = m.boxes := by rw [hpe]
 have e2 : p.children = m.children := by rw [hpe]
 have e3 : p.seen = m.seen := by rw [hpe]
 have e4 : p.inbox = m.inbox := by rw [hpe]
 rw [e1, e2, e3, e4]
 exact Ent.pick [4, 0, 5, 6, 7, 8] I I
end Go.Proofs.YtgdgclmkpoaagaaGreat
namespace Go.Proofs.YtgdgclmkpoaagaaGreat
open Go.GX Go.RowKit
attribute [local irreducible] Calls Run RunL RunQ RunD HR HL HD blkC ownC Rd
open Nd
theorem sends_parts {target : Int} {ur : Bool} : ∀ {l : List By} {n m : Nd}, sends target ur l n = some m → m.parts = n.parts
 | [], n, m, e => by cases e; rfl
 | p :: l, n, m, e => by
  unfold sends at e
  split at e
  ·have := sends_parts e
   rw [this]; exact queue_parts n _
  ·cases e
theorem send_ptsm {n : Nd} {target : Int} {ur : Bool} {text : By} (h : PtSm n.parts) : PtSm (send n target ur text).1.parts := by
 have h0 : PtSm nd0.parts := ⟨by decide, fun p hp => by cases hp⟩
 unfold send
 simp only
 split
 ·exact h0
 ·split
  ·exact h0
  ·split
   ·rw [deliver_parts]; exact h
   ·split
    ·rename_i m hm; rw [sends_parts hm]; exact h
    ·exact h0
end Go.Proofs.YtgdgclmkpoaagaaGreat
namespace Go.Proofs.YtgdgclmkpoaagaaGreat
open Go.GX Go.RowKit
attribute [local irreducible] Calls Run RunL RunQ RunD HR HL HD blkC ownC Rd
open Nd
theorem send_bg {n : Nd} {target : Int} {ur : Bool} {text : By} (hs : SmN n) : BgN (send n target ur text).1 := by
 by_cases h : (send n target ur text).2 = 0
 ·exact (ord_sm (send_good h).ord (send_ptsm hs.pt)).bg
 ·have h0 : BgN nd0 := ⟨by decide, by decide, by decide, by decide, by decide, by decide, by decide, by decide, fun p hp => by cases hp⟩
  have e : (send n target ur text).1 = nd0 := by
   unfold send at h ⊢
   simp only at h ⊢
   split
   ·rfl
   ·rename_i h1
    rw [if_neg h1] at h
    split
    ·rfl
    ·rename_i h2
     rw [if_neg h2] at h
     split
     ·rename_i h3; rw [if_pos h3] at h; exact absurd I h
     ·rename_i h3
      rw [if_neg h3] at h
      split
      ·rename_i m hm; rw [hm] at h; exact absurd I h
      ·rfl
  rw [e]; exact h0
abbrev leC (ta : Int) (ur : Bool) (te : By) : List Value := [.int .i64 ta, .bool ur, str te]
theorem nodeSends_any (V : NV) (n : Nd) (ta : Int) (ur : Bool) (te : By) (w : World) (h : OkN w V n) (hw0 : WfN n) (hfl : te.length ≤ 9223372036854775807) :
  Calls Tryz.prog 3 #[.agg ⟨ndC V n⟩, .agg ⟨leC ta ur te⟩] w fun e w' => e = .returned (.bool true) ∧ Below w.heap.size w w' := by
 refine calls_hr Tryz.func3 I (Nat.le_of_ble_eq_true I) ?_
 refine HR.sub (σ' := [(0, .agg ⟨ndC V n⟩), (1, .agg ⟨leC ta ur te⟩)]) ⟨I, I, trivial⟩ ?_
 refine HR.ctl I ?_
 refine HR.region ?_
 refine HL.box I I ?_
 intro b2
 refine HL.box I I ?_
 intro b3
 repeat' (first | refine zh ?_ | intro (bk : Nat))
 refine HL.callX (r := fun b : Bool => .bool b) (Q := fun b => b = false → FitN n) (G := fun _ => []) fn12 I I (fun w1 hw1 => large_any V n w1 (h.ext hw1.belowB) hw0) ?_
 intro b hb
 cases b with
 | true =>
  repeat' (first | refine zh ?_ | refine HL.callB fn13 I I (fun w1 _ => awake_any w1) ?_ | intro (bk : Nat))
  refine HR.ret Tryz.func3 I [_] (fun _ _ => ⟨I, trivial⟩) ?_
  exact fun w' hw => ⟨rfl, hw.belowB⟩
 | false =>
 have hf := hb I
 have hs := hf.sm' hw0
 repeat' (first | refine zh ?_ | intro (bk : Nat))
 refine HR.cond I (fun h1 => ?_) (fun h1 => ?_)
 ·repeat' (first | refine zh ?_ | refine HL.callB fn13 I I (fun w1 _ => awake_any w1) ?_ | intro (bk : Nat))
  refine HR.ret Tryz.func3 I [_] (fun _ _ => ⟨I, trivial⟩) ?_
  exact fun w' hw => ⟨rfl, hw.belowB⟩
 have hbg : BgN (send n ta ur te).1 := send_bg hs
 repeat' (first | refine zh ?_ | intro (bk : Nat))
 refine HL.callX (r := fun x : NV × List Chunk => .tuple ⟨[.agg ⟨ndC x.1 (send n ta ur te).1⟩, .int .i64 (send n ta ur te).2]⟩) (Q := fun x => Own x.1 x.2 (send n ta ur te).1) (G := fun x => [groupC x.2]) fn14 I I (fun w1 hw1 => psend_any V n ta ur te w1 (h.ext hw1.belowB) hs hfl) ?_
 rintro ⟨V1, G1⟩ h2
 have h2 : Own V1 G1 (send n ta ur te).1 := h2
 repeat' (first | refine zh ?_ | intro (bk : Nat))
 refine HL.callX (r := fun x : NV × List Chunk => .tuple ⟨[.agg ⟨ndC x.1 (send n ta ur te).1⟩, .int .i64 (send n ta ur te).2]⟩) (Q := fun x => Imp V n x.1 x.2 (send n ta ur te).1) (G := fun x => [groupC x.2]) fn15 I I (fun w1 hw1 => rsend_any V n ta ur te w1 (h.ext hw1.belowB) hs hfl) ?_
 rintro ⟨V2, G2⟩ h3
 have h3 : Imp V n V2 G2 (send n ta ur te).1 := h3
 repeat' (first | refine zh ?_ | refine HL.callB (r := .bool true) fn16 I I (fun w1 hw1 => same17_any V1 V2 (send n ta ur te).1 w1 (h2 w1 (Sat.grp 3 hw1 I)) (h3 w1 (h.ext hw1.belowB) (Sat.grp 1 hw1 I)) hbg) ?_ | intro (bk : Nat))
 refine HL.setB 48 true I (by simp) ?_
 repeat' (first | refine zh ?_ | refine HL.callB fn13 I I (fun w1 _ => awake_any w1) ?_ | intro (bk : Nat))
 refine HR.ret Tryz.func3 I [_] (fun _ _ => ⟨I, trivial⟩) ?_
 exact fun w' hw => ⟨rfl, hw.belowB⟩
end Go.Proofs.YtgdgclmkpoaagaaGreat
namespace Go.Proofs.YtgdgclmkpoaagaaGreat
open Go.GX Go.RowKit
attribute [local irreducible] Calls Run RunL RunQ RunD HR HL HD blkC ownC Rd
open Nd
variable {H : Type} {enc : TypeId × Value → H} {W : World}
abbrev LeA := Int × Bool × By
abbrev leE (a : LeA) : List Value := leC a.1 a.2.1 a.2.2
theorem opT33 : Opens enc Tryz.prog W 33 leE (fun a => a.2.2.length ≤ 9223372036854775807) := by
 intro fuel cs x h
 obtain ⟨hl, hf⟩ := Opens.fields (fs := _) I h
 have cT : Tryz.prog.cellsOf 33 = 3 := by kernel_rfl
 have cf0 : Tryz.prog.cellsOf 3 = 1 := by kernel_rfl
 have cf1 : Tryz.prog.cellsOf 4 = 1 := by kernel_rfl
 have cf2 : Tryz.prog.cellsOf 9 = 1 := by kernel_rfl
 rw [cT] at hl
 obtain ⟨fu0, y0, h0⟩ := hf _ (List.mem_cons_self ..)
 obtain ⟨fu1, y1, h1⟩ := hf _ (List.mem_cons_of_mem _ (List.mem_cons_self ..))
 obtain ⟨fu2, y2, h2⟩ := hf _ (List.mem_cons_of_mem _ (List.mem_cons_of_mem _ (List.mem_cons_self ..)))
 obtain ⟨a0, g0, b0⟩ := Opens.int (k := .i64) I fu0 _ _ h0
 obtain ⟨a1, g1, b1⟩ := Opens.bool rfl fu1 _ _ h1
 obtain ⟨a2, g2, b2⟩ := Opens.str rfl fu2 _ _ h2
 have e0 := parts_eq g0 (m := 1) (by simp [cf0]) (by simp [cf0])
 have e1 := parts_eq g1 (m := 2) (by simp [cf1]) (by simp [cf1])
 have e2 := parts_eq g2 (m := 3) (by simp [cf2]) (by simp [cf2])
 refine ⟨(a0, a1, a2), ?_, b2⟩
 simp only [List.drop_zero] at e0
 rw [e0, e1, e2, List.drop_eq_nil_of_le (by omega)]; rfl
theorem nodeSends.nodeSends_any (a : NdA) (x : LeA) (w : World) (g : NdOk w a) (hf : x.2.2.length ≤ 9223372036854775807) :
  Calls Tryz.prog 3 #[.agg ⟨ndE a⟩, .agg ⟨leE x⟩] w fun e w' => e = .returned (.bool true) ∧ Below w.heap.size w w' := Proofs.YtgdgclmkpoaagaaGreat.nodeSends_any a.1 a.2 x.1 x.2.1 x.2.2 w g.ok g.wf hf
end Go.Proofs.YtgdgclmkpoaagaaGreat
