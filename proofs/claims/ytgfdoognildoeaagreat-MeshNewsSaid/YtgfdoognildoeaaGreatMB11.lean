/- A part of the proof: contracts of the program's functions. Conditions: none. -/
import Derived.Carry
import Derived.Deep.MidRow
import Derived.Deep.Quiet
import Derived.Laws.IdiomRangeMap
import Derived.Laws.MakeOwn
import Derived.Laws.StructEq
import Derived.Laws.Tables
import Derived.Lib.AppendStr
import Derived.Lib.AppendZerosOnto
import Derived.Lib.OthersKept
import Derived.Lib.Overlaps
import Derived.Lib.OwnBridge
import Derived.Lib.SlicesCompact
import Derived.MapKept
import Derived.Orders
import Derived.OrdersHeld
import Derived.Scope
import Derived.Sort.Grow
import Derived.StillTail
import Derived.Test.YtgfdoognildoeaaGreatProg
import Derived.Test.YtgfdoognildoeaaGreatShelf
import Derived.WalkKit
import Derived.WalkLawsBesides
import Derived.WalkSpells
import Derived.Test.YtgfdoognildoeaaGreatMB1
import Derived.Test.YtgfdoognildoeaaGreatMB2
import Derived.Test.YtgfdoognildoeaaGreatMB3
import Derived.Test.YtgfdoognildoeaaGreatMB4
import Derived.Test.YtgfdoognildoeaaGreatMB5
import Derived.Test.YtgfdoognildoeaaGreatMB6
import Derived.Test.YtgfdoognildoeaaGreatMB7
import Derived.Test.YtgfdoognildoeaaGreatMB8
import Derived.Test.YtgfdoognildoeaaGreatMB9
import Derived.Test.YtgfdoognildoeaaGreatMB10
set_option linter.unusedVariables false
set_option linter.unusedSectionVars false
set_option linter.unusedSimpArgs false
set_option maxRecDepth 100000
set_option maxHeartbeats 4000000
namespace Go.Proofs.YtgfdoognildoeaaGreat
open Go.GX Go.RowKit
attribute [local irreducible] Calls Run RunL RunQ RunD HR HL HD blkC ownC mapC Rd slicesC iterC
open Nd
theorem fn68 : IsFn Tryz.prog 68 := ⟨⟨_, _, Tryz.func68, rfl, by decide⟩⟩
structure OkN (w : World) (V : NV) (n : Nd) : Prop where
 ta : Sl w (sv V.ta n.table.length) (cellsOf roC n.table) n.table.length
 li : Sl w (sv V.li n.links.length) (cellsOf liC n.links) n.links.length
 ou : Sl w (sv V.ou n.out.length) (cellsOf snC n.out) n.out.length
 ch : Sl w (sv V.ch n.children.length) (cellsOf iC n.children) n.children.length
 bo : Sl w (sv V.bo n.boxes.length) (cellsOf maC n.boxes) n.boxes.length
 se : Sl w (sv V.se n.seen.length) (cellsOf prC n.seen) n.seen.length
 pa : RdPts w (sv V.pa V.ps.length) V.ps
 ib : Sl w (sv V.ib n.inbox.length) (cellsOf deC n.inbox) n.inbox.length
 eq : pts V.ps = n.parts
structure SmN (n : Nd) : Prop where
 ta : n.table.length ≤ 1000
 li : n.links.length ≤ 1000
 ou : n.out.length ≤ 1000
 ch : n.children.length ≤ 1000
 bo : n.boxes.length ≤ 1000
 se : n.seen.length ≤ 1000
 pa : n.parts.length ≤ 1000
 ib : n.inbox.length ≤ 1000
 sm : ∀ p ∈ n.parts, SmPt p
theorem OkN.ext {w w' : World} {V : NV} {n : Nd} (h : OkN w V n) (hb : Below w.heap.size w w') : OkN w' V n := ⟨h.ta.ext hb, h.li.ext hb, h.ou.ext hb, h.ch.ext hb, h.bo.ext hb, h.se.ext hb, h.pa.ext hb, h.ib.ext hb, h.eq⟩
theorem Sl.pre {α : Type} {E : α → List Value} {sz : Nat} (hE : ∀ a, (E a).length = sz) {w : World} {l m : List α} {v : Value} (hv : Sl w v (cellsOf E l) l.length) {k : Nat} (hk : k ≤ l.length) (hm : m = l.take k) : Sl w (subV sz v 0 k) (cellsOf E m) m.length := by
 subst hm
 exact (Rd.pre hE (B := base w) (H := []) (Rd.arg hv) hk).at (Sat.start w)
theorem Sl.suf {α : Type} {E : α → List Value} {sz : Nat} (hE : ∀ a, (E a).length = sz) {w : World} {l m : List α} {v : Value} (hv : Sl w v (cellsOf E l) l.length) {k : Nat} (hk : k ≤ l.length) (hm : m = l.drop k) : Sl w (subV sz v k l.length) (cellsOf E m) m.length := by
 subst hm
 exact (Rd.suf hE (B := base w) (H := []) (Rd.arg hv) hk).at (Sat.start w)
theorem clamp2 (n : Int) : clamp (clamp n 0 250) 0 250 = clamp n 0 250 := by unfold clamp; omega
theorem kids_sorted (a : Int) (l : List Int) : kids a l = Tf.dif (l.filter fun c => Tp.okN c && !(c == a)) := by
 refine asc_ext (kids_asc a l).1 (Tf.dif_asc _) fun x => ?_
 rw [(kids_asc a l).2, Tf.dif_mem, List.mem_filter]
 simp
theorem min_i (k n : Nat) : (if (k : Int) < (n : Int) then (k : Int) else (n : Int)) = ((min n k : Nat) : Int) := by split <;> omega
theorem take_minl {α : Type} (l : List α) (k : Nat) : l.take k = l.take (min l.length k) := by
 by_cases h : l.length ≤ k
 ·rw [Nat.min_eq_left h, List.take_length, List.take_of_length_le h]
 ·rw [Nat.min_eq_right (by omega)]
theorem enter_any (V : NV) (n : Nd) (now : Int) (w : World) (h : OkN w V n) (hs : SmN n) :
  Calls Tryz.prog 68 #[.agg ⟨ndC V n⟩, .int .i64 now] w fun e w' => ∃ x : Nat × NV, e = .returned (ptr x.1) ∧ Pts x.2 (order n) ∧ Sat (base w) (stH x.1 x.2 (order n) (tick now)) w' := by
 have l1 := hs.ta
 have l2 := hs.li
 have l3 := hs.ou
 have l4 := hs.ch
 have l5 := hs.bo
 have l6 := hs.se
 have l7 := hs.ib
 have l8 : V.ps.length ≤ 1000 := by rw [← pts_len, h.eq]; exact hs.pa
 obtain ⟨m, hm⟩ : ∃ m, m = order n := ⟨_, rfl⟩
 have e_ad : m.addr = clamp n.addr 0 250 := by rw [hm]; rfl
 have e_po : m.poll = if n.poll < 1 then 0 else max n.poll 4 := by rw [hm]; rfl
 have e_pr : m.parent = if Tp.okN n.parent = false ∨ n.parent = m.addr then 255 else n.parent := by rw [hm]; rfl
 have e_ta : m.table = if rchk n.table m.addr = 0 then n.table else [rown m.addr] := by rw [hm]; rfl
 have e_li : m.links = if lchk n.links = 0 then n.links else [] := by rw [hm]; rfl
 have e_ou : m.out = n.out.take (min n.out.length 16) := by rw [hm, ← take_minl]; rfl
 have e_ch : m.children = Tf.dif (n.children.filter fun c => Tp.okN c && !(c == m.addr)) := by rw [← kids_sorted, hm]; rfl
 have e_bo : m.boxes = n.boxes.take (min n.boxes.length 16) := by rw [hm, ← take_minl]; rfl
 have e_se : m.seen = n.seen.drop (n.seen.length - 32) := by rw [hm]; rfl
 have e_pa : m.parts = n.parts := by rw [hm]; rfl
 have e_ib : m.inbox = n.inbox.take (min n.inbox.length 256) := by rw [hm, ← take_minl]; rfl
 have e_sq : m.seq = if n.seq < 0 ∨ n.seq > 65535 then 0 else n.seq := by rw [hm]; rfl
 have e_lo : m.lost = clamp n.lost 0 1099511627776 := by rw [hm]; rfl
 have e_nw : rnew m.addr = [rown m.addr] := by rw [e_ad]; unfold rnew lim; rw [clamp2]
 have s_ou := Sl.pre snC_len h.ou (Nat.min_le_left _ _) e_ou
 have s_bo := Sl.pre maC_len h.bo (Nat.min_le_left _ _) e_bo
 have s_se := Sl.suf prC_len h.se (Nat.sub_le _ _) e_se
 have s_ib := Sl.pre deC_len h.ib (Nat.min_le_left _ _) e_ib
 have k3 : m.out.length ≤ 16 := by rw [e_ou, List.length_take]; omega
 have k5 : m.boxes.length ≤ 16 := by rw [e_bo, List.length_take]; omega
 have k6 : m.seen.length ≤ 32 := by rw [e_se, List.length_drop]; omega
 have k7 : m.inbox.length ≤ 256 := by rw [e_ib, List.length_take]; omega
 rw [← hm]
 refine calls_hr Tryz.func68 I (Nat.le_of_ble_eq_true I) ?_
 refine HR.sub (σ' := [(0, .agg ⟨ndC V n⟩), (1, .int .i64 now)]) ⟨I, I, trivial⟩ ?_
 refine HR.ctl I ?_
 refine HR.region ?_
 refine HL.box I I ?_
 intro b1
 repeat' (first | refine zh ?_ | intro (bk : Nat))
 refine HR.regionD [(0, true), (1, true), (2, false), (3, true), (4, false), (5, true)] [0] I I hmix (by kernel_rfl) ?_
 repeat' (first | refine zd ?_ | fail)
 refine HD.one I ?_
 refine HL.callB fn129 I I (fun w _ => nlim_any now 0 1099511627776 w) ?_
 refine HL.back [0] I I ?_
 repeat' (first | refine zd ?_ | fail)
 refine HD.one I ?_
 refine HL.box I I ?_
 intro b
 refine HL.back [1] I I ?_
 repeat' (first | refine zd ?_ | fail)
 refine HD.nil ?_
 repeat' (first | refine zh ?_ | refine HL.callB fn129 I I (fun w _ => nlim_any n.addr 0 250 w) ?_ | intro (bk : Nat))
 refine HR.join (ι := Unit) (fun _ => True) (fun _ => [(2, ptr b1), (5, ptr b)]) (fun _ => [blkC b [.int .i64 m.addr, .int .i64 m.poll, .int .i64 n.parent, sv V.ta n.table.length, sv V.li n.links.length, sv V.ou n.out.length, sv V.ch n.children.length, sv V.bo n.boxes.length, sv V.se n.seen.length, sv V.pa V.ps.length, sv V.ib n.inbox.length, .int .i64 n.seq, .int .i64 n.lost, .int .i64 (tick now)] 113, blkC b1 (ndC V n) 62]) (fun _ _ => ?_) (fun hj => ?_)
 rotate_left
 ·refine HR.cond I (fun h => ?_) (fun h => ?_)
  ·have h : n.poll < 1 := of_decide_eq_true h
   refine HR.region ?_
   repeat' (first | refine zn ?_ | apply zb ?_ ?_ | exact zc | (refine zi fun hb => ?_; try simp at hb) | intro (bk : Nat))
   refine hj () _ _ trivial ⟨I, I, trivial⟩ (Ent.of_eq ?_)
   rw [e_po, if_pos h, e_ad]; rfl
  ·have h : ¬ n.poll < 1 := of_decide_eq_false h
   refine HR.region ?_
   repeat' (first | refine zn ?_ | apply zb ?_ ?_ | exact zc | (refine zi fun hb => ?_; try simp at hb) | intro (bk : Nat))
   refine hj () _ _ trivial ⟨I, I, trivial⟩ (Ent.of_eq ?_)
   rw [show m.poll = (if (4 : Int) > n.poll then 4 else n.poll) from by rw [e_po, if_neg h]; split <;> omega, e_ad]; rfl
 repeat' (first | refine zh ?_ | intro (bk : Nat))
 refine HR.join (ι := Unit) (fun _ => True) (fun _ => [(2, ptr b1), (5, ptr b), (49, .bool (!Tp.okN n.parent || (n.parent == m.addr)))]) (fun _ => [blkC b [.int .i64 m.addr, .int .i64 m.poll, .int .i64 n.parent, sv V.ta n.table.length, sv V.li n.links.length, sv V.ou n.out.length, sv V.ch n.children.length, sv V.bo n.boxes.length, sv V.se n.seen.length, sv V.pa V.ps.length, sv V.ib n.inbox.length, .int .i64 n.seq, .int .i64 n.lost, .int .i64 (tick now)] 113, blkC b1 (ndC V n) 62]) (fun _ _ => ?_) (fun hj => ?_)
 rotate_left
 ·refine HR.regionD [(0, true), (1, true), (2, false), (3, true), (4, true), (5, true), (6, true), (7, true), (8, true), (9, true), (10, true), (11, true), (12, true), (13, true)] [0, 1] I I hmix (by kernel_rfl) ?_
  repeat' (first | refine zd ?_ | fail)
  refine HD.one I ?_
  refine HL.callB fn91 I I (fun w _ => inside_any n.parent w) ?_
  refine HL.back [0, 1] I I ?_
  refine HD.ev I I I ?_
  refine HD.ev I I I ?_
  refine HD.split 40 I (fun hb => ?_) (fun hb => ?_)
  ·repeat' (first | refine zd ?_ | fail)
   refine HD.nil ?_
   refine hj () _ _ trivial ⟨rfl, rfl, ?_, trivial⟩ Ent.refl
   show some (Value.bool true) = some (Value.bool (!Tp.okN n.parent || (n.parent == m.addr)))
   rw [show (!Tp.okN n.parent) = true from hb]; rfl
  ·repeat' (first | refine zd ?_ | fail)
   refine HD.nil ?_
   refine hj () _ _ trivial ⟨rfl, rfl, ?_, trivial⟩ Ent.refl
   show some (Value.bool (n.parent == m.addr)) = some (Value.bool (!Tp.okN n.parent || (n.parent == m.addr)))
   rw [show (!Tp.okN n.parent) = false from hb]; rfl
 refine HR.join (ι := Unit) (fun _ => True) (fun _ => [(2, ptr b1), (5, ptr b)]) (fun _ => [blkC b [.int .i64 m.addr, .int .i64 m.poll, .int .i64 m.parent, sv V.ta n.table.length, sv V.li n.links.length, sv V.ou n.out.length, sv V.ch n.children.length, sv V.bo n.boxes.length, sv V.se n.seen.length, sv V.pa V.ps.length, sv V.ib n.inbox.length, .int .i64 n.seq, .int .i64 n.lost, .int .i64 (tick now)] 113, blkC b1 (ndC V n) 62]) (fun _ _ => ?_) (fun hj => ?_)
 rotate_left
 ·refine HR.cond I (fun h => ?_) (fun h => ?_)
  ·have h : (!Tp.okN n.parent || (n.parent == m.addr)) = true := h
   have h2 : Tp.okN n.parent = false ∨ n.parent = m.addr := by simpa using h
   refine HR.region ?_
   repeat' (first | refine zn ?_ | apply zb ?_ ?_ | exact zc | (refine zi fun hb => ?_; try simp at hb) | intro (bk : Nat))
   refine hj () _ _ trivial ⟨I, I, trivial⟩ (Ent.of_eq ?_)
   rw [e_pr, if_pos h2]; rfl
  ·have h : (!Tp.okN n.parent || (n.parent == m.addr)) = false := h
   have h2 : ¬ (Tp.okN n.parent = false ∨ n.parent = m.addr) := by simpa using h
   refine HR.skip ?_
   refine hj () _ _ trivial ⟨I, I, trivial⟩ (Ent.of_eq ?_)
   rw [e_pr, if_neg h2]
 repeat' (first | refine zh ?_ | refine HL.callO fn61 I I (fun w hw => cloneRo_any n.table _ w ((Rd.arg h.ta).at hw) l1) ?_ | intro (bk : Nat))
 intro v1
 refine HL.shape 0 I fun a c hv => ?_
 subst hv
 repeat' (first | refine zh ?_ | intro (bk : Nat))
 refine HR.ent (H' := [blkC b [.int .i64 m.addr, .int .i64 m.poll, .int .i64 m.parent, .slice a n.table.length c, sv V.li n.links.length, sv V.ou n.out.length, sv V.ch n.children.length, sv V.bo n.boxes.length, sv V.se n.seen.length, sv V.pa V.ps.length, sv V.ib n.inbox.length, .int .i64 n.seq, .int .i64 n.lost, .int .i64 (tick now)] 113, blkC b1 (ndC V n) 62, cTa (.slice a n.table.length c) n.table]) (Ent.pick [1, 2, 0] I I) ?_
 refine HR.regionD [(0, true), (1, true), (2, true), (3, true), (4, true), (5, true), (6, true), (7, false), (8, true)] [0, 1] I I hmix (by kernel_rfl) ?_
 repeat' (first | refine zd ?_ | fail)
 refine HD.one I ?_
 refine HL.callB fn130 I I (fun w hw => rcheck_any n.table m.addr _ w ((Rd.arg h.ta).at hw) l1) ?_
 refine HL.back [0, 1] I I ?_
 repeat' (first | refine zd ?_ | fail)
 refine HD.nil ?_
 refine HR.join (ι := SV) (fun _ => True) (fun _ => [(2, ptr b1), (5, ptr b)]) (fun x => [blkC b [.int .i64 m.addr, .int .i64 m.poll, .int .i64 m.parent, sv x m.table.length, sv V.li n.links.length, sv V.ou n.out.length, sv V.ch n.children.length, sv V.bo n.boxes.length, sv V.se n.seen.length, sv V.pa V.ps.length, sv V.ib n.inbox.length, .int .i64 n.seq, .int .i64 n.lost, .int .i64 (tick now)] 113, blkC b1 (ndC V n) 62, cTa (sv x m.table.length) m.table]) (fun xt _ => ?_) (fun hj => ?_)
 rotate_left
 ·refine HR.cond I (fun h2 => ?_) (fun h2 => ?_)
  ·have h2 : ¬ rchk n.table m.addr = 0 := by simpa using h2
   refine HR.region ?_
   repeat' (first | refine zn ?_ | refine HL.callO fn69 I I (fun w _ => rnew_any m.addr w) ?_ | apply zb ?_ ?_ | exact zc | (refine zi fun hb => ?_; try simp at hb) | intro (bk : Nat))
   intro v2
   refine HL.shape 0 I fun a2 c2 hv => ?_
   subst hv
   repeat' (first | refine zn ?_ | apply zb ?_ ?_ | exact zc | (refine zi fun hb => ?_; try simp at hb) | intro (bk : Nat))
   refine hj (a2, c2) _ _ trivial ⟨I, I, trivial⟩ ?_
   rw [e_ta, if_neg h2, ← e_nw]
   exact Ent.pick [1, 2, 0] I I
  ·have h2 : rchk n.table m.addr = 0 := by simpa using h2
   refine HR.skip ?_
   refine hj (a, c) _ _ trivial ⟨I, I, trivial⟩ ?_
   rw [e_ta, if_pos h2]
   exact Ent.refl
 repeat' (first | refine zh ?_ | refine HL.callO fn131 I I (fun w hw => cloneLi_any n.links _ w ((Rd.arg h.li).at hw) l2) ?_ | intro (bk : Nat))
 intro v1
 refine HL.shape 0 I fun a c hv => ?_
 subst hv
 repeat' (first | refine zh ?_ | refine HL.callB fn132 I I (fun w hw => lcheck_any n.links _ w ((Rd.arg h.li).at hw) l2) ?_ | intro (bk : Nat))
 refine HR.ent (H' := [blkC b [.int .i64 m.addr, .int .i64 m.poll, .int .i64 m.parent, sv xt m.table.length, .slice a n.links.length c, sv V.ou n.out.length, sv V.ch n.children.length, sv V.bo n.boxes.length, sv V.se n.seen.length, sv V.pa V.ps.length, sv V.ib n.inbox.length, .int .i64 n.seq, .int .i64 n.lost, .int .i64 (tick now)] 113, blkC b1 (ndC V n) 62, cTa (sv xt m.table.length) m.table, cLi (.slice a n.links.length c) n.links]) (Ent.pick [1, 2, 3, 0] I I) ?_
 refine HR.join (ι := SV) (fun _ => True) (fun _ => [(2, ptr b1), (5, ptr b)]) (fun x => [blkC b [.int .i64 m.addr, .int .i64 m.poll, .int .i64 m.parent, sv xt m.table.length, sv x m.links.length, sv V.ou n.out.length, sv V.ch n.children.length, sv V.bo n.boxes.length, sv V.se n.seen.length, sv V.pa V.ps.length, sv V.ib n.inbox.length, .int .i64 n.seq, .int .i64 n.lost, .int .i64 (tick now)] 113, blkC b1 (ndC V n) 62, cTa (sv xt m.table.length) m.table, cLi (sv x m.links.length) m.links]) (fun xl _ => ?_) (fun hj => ?_)
 rotate_left
 ·refine HR.cond I (fun h2 => ?_) (fun h2 => ?_)
  ·have h2 : ¬ lchk n.links = 0 := by simpa using h2
   refine HR.region ?_
   repeat' (first | refine zn ?_ | apply zb ?_ ?_ | exact zc | (refine zi fun hb => ?_; try simp at hb) | intro (bk : Nat))
   refine HR.nilC 162 3 ?_
   refine hj (none, 0) _ _ trivial ⟨I, I, trivial⟩ ?_
   rw [e_li, if_neg h2]
   exact Ent.pick [1, 2, 3, 0] I I
  ·have h2 : lchk n.links = 0 := by simpa using h2
   refine HR.skip ?_
   refine hj (a, c) _ _ trivial ⟨I, I, trivial⟩ ?_
   rw [e_li, if_pos h2]
   exact Ent.refl
 repeat' (first | refine zh ?_ | intro (bk : Nat))
 refine HL.setV 101 (v' := .int .i64 ((min n.out.length 16 : Nat) : Int)) I (by rw [← min_i]; rfl) ?_
 repeat' (first | refine zh ?_ | refine HL.subI (sz := 11) 0 (min n.out.length 16) (Rd.arg h.ou) I I I I (.inl ⟨rfl, rfl⟩) (.inr ⟨_, _, _, rfl, rfl, rfl⟩) (Nat.zero_le _) (Nat.min_le_left _ _) ?_ | refine HL.callO fn133 I I (fun w hw => cloneSn_any m.out _ w ((Rd.arg s_ou).at hw) (by omega)) ?_ | intro (bk : Nat))
 intro v1
 refine HL.shape 0 I fun a3 c3 hv => ?_
 subst hv
 refine HL.ent (H' := [blkC b [.int .i64 m.addr, .int .i64 m.poll, .int .i64 m.parent, sv xt m.table.length, sv xl m.links.length, sv V.ou n.out.length, sv V.ch n.children.length, sv V.bo n.boxes.length, sv V.se n.seen.length, sv V.pa V.ps.length, sv V.ib n.inbox.length, .int .i64 n.seq, .int .i64 n.lost, .int .i64 (tick now)] 113, blkC b1 (ndC V n) 62, cTa (sv xt m.table.length) m.table, cLi (sv xl m.links.length) m.links, cSn (.slice a3 m.out.length c3) m.out]) (Ent.pick [1, 2, 3, 4, 0] I I) ?_
 repeat' (first | refine zh ?_ | intro (bk : Nat))
 refine HL.setV 113 (v' := .int .i64 ((min n.boxes.length 16 : Nat) : Int)) I (by rw [← min_i]; rfl) ?_
 repeat' (first | refine zh ?_ | refine HL.subI (sz := 10) 0 (min n.boxes.length 16) (Rd.arg h.bo) I I I I (.inl ⟨rfl, rfl⟩) (.inr ⟨_, _, _, rfl, rfl, rfl⟩) (Nat.zero_le _) (Nat.min_le_left _ _) ?_ | refine HL.callO fn134 I I (fun w hw => cloneMa_any m.boxes _ w ((Rd.arg s_bo).at hw) (by omega)) ?_ | intro (bk : Nat))
 intro v1
 refine HL.shape 0 I fun a5 c5 hv => ?_
 subst hv
 refine HL.ent (H' := [blkC b [.int .i64 m.addr, .int .i64 m.poll, .int .i64 m.parent, sv xt m.table.length, sv xl m.links.length, .slice a3 m.out.length c3, sv V.ch n.children.length, sv V.bo n.boxes.length, sv V.se n.seen.length, sv V.pa V.ps.length, sv V.ib n.inbox.length, .int .i64 n.seq, .int .i64 n.lost, .int .i64 (tick now)] 113, blkC b1 (ndC V n) 62, cTa (sv xt m.table.length) m.table, cLi (sv xl m.links.length) m.links, cSn (.slice a3 m.out.length c3) m.out, cMa (.slice a5 m.boxes.length c5) m.boxes]) (Ent.pick [1, 2, 3, 4, 5, 0] I I) ?_
 repeat' (first | refine zh ?_ | intro (bk : Nat))
 refine HR.nilC 3 1 ?_
 obtain ⟨g, hg⟩ : ∃ g : Nat → List Int, g = fun k => (n.children.take k).filter fun c => Tp.okN c && !(c == m.addr) := ⟨_, rfl⟩
 have hgl : ∀ k, (g k).length ≤ 1000 := fun k => by rw [hg]; exact Nat.le_trans (List.length_filter_le _ _) (by rw [List.length_take]; omega)
 refine HR.loop (ι := Nat × SV) (fun x => x.1 ≤ n.children.length) (fun x => [(2, ptr b1), (5, ptr b), (124, sv V.ch n.children.length), (125, .int .i64 (n.children.length : Int)), (126, .int .i64 (x.1 : Int))]) (fun x => [blkC b [.int .i64 m.addr, .int .i64 m.poll, .int .i64 m.parent, sv xt m.table.length, sv xl m.links.length, .slice a3 m.out.length c3, sv x.2 (g x.1).length, .slice a5 m.boxes.length c5, sv V.se n.seen.length, sv V.pa V.ps.length, sv V.ib n.inbox.length, .int .i64 n.seq, .int .i64 n.lost, .int .i64 (tick now)] 113, blkC b1 (ndC V n) 62, cTa (sv xt m.table.length) m.table, cLi (sv xl m.links.length) m.links, cSn (.slice a3 m.out.length c3) m.out, cMa (.slice a5 m.boxes.length c5) m.boxes, cI (sv x.2 (g x.1).length) (g x.1)]) (fun x => n.children.length - x.1) (0, none, 0) (Nat.zero_le _) ⟨I, I, I, I, I, trivial⟩ (by rw [hg]; exact Ent.pick [1, 2, 3, 4, 5, 6, 0] I I) ?_
 rintro ⟨k, x⟩ hk ih
 have hk : k ≤ n.children.length := hk
 have hgk : (g (k, x).fst).length ≤ 1000 := hgl k
 repeat' (first | refine zh ?_ | intro (bk : Nat))
 refine HR.cond I (fun h2 => ?_) (fun h2 => ?_)
 ·have hlt : k < n.children.length := by have := of_decide_eq_true h2; omega
  obtain ⟨c, hc⟩ := getSome hlt
  have hgs := take_filter (p := fun c => Tp.okN c && !(c == m.addr)) hc
  have hgs : g (k + 1) = if (Tp.okN c && !(c == m.addr)) = true then g k ++ [c] else g k := by rw [hg]; exact hgs
  repeat' (first | refine zh ?_ | refine HL.idxR (Rd.arg h.ch) elemI k I I I I hlt ?_ | refine HL.loadI (Rd.arg h.ch) I I I I (cellsOf_get1 hc) ?_ | refine HL.callB fn91 I I (fun w _ => inside_any c w) ?_ | apply zb ?_ ?_ | exact zc | (refine zi fun hb => ?_; try simp at hb) | intro (bk : Nat))
  refine HR.cond I (fun h3 => ?_) (fun h3 => ?_)
  ·have h3 : (Tp.okN c && !(c == m.addr)) = true := h3
   rw [if_pos h3] at hgs
   repeat' (first | refine zh ?_ | intro (bk : Nat))
   refine HL.bslice elemI I I I I I (by decide) (by decide) ?_
   intro va
   refine HL.appR 7 I elemI (Rd.own 0 I) I I I I (allOne_spec I) (by omega) (by omega) ?_
   intro v2
   refine HL.shape 7 I fun a2 c2 hv => ?_
   subst hv
   repeat' (first | refine zh ?_ | intro (bk : Nat))
   refine ih (k + 1, a2, c2) _ _ hlt (by show n.children.length - (k + 1) < n.children.length - k; omega) ⟨I, I, I, I, I, trivial⟩ ?_
   show Ent _ _ [blkC b [.int .i64 m.addr, .int .i64 m.poll, .int .i64 m.parent, sv xt m.table.length, sv xl m.links.length, .slice a3 m.out.length c3, .slice a2 (g (k + 1)).length c2, .slice a5 m.boxes.length c5, sv V.se n.seen.length, sv V.pa V.ps.length, sv V.ib n.inbox.length, .int .i64 n.seq, .int .i64 n.lost, .int .i64 (tick now)] 113, blkC b1 (ndC V n) 62, cTa (sv xt m.table.length) m.table, cLi (sv xl m.links.length) m.links, cSn (.slice a3 m.out.length c3) m.out, cMa (.slice a5 m.boxes.length c5) m.boxes, ownC (.slice a2 (g (k + 1)).length c2) 3 1 (g (k + 1)).length (cellsOf iC (g (k + 1)))]
   rw [show (g (k + 1)).length = (g k).length + 1 from by rw [hgs]; simp, show cellsOf iC (g (k + 1)) = cellsOf iC (g k) ++ iC c from by rw [hgs, cellsOf_app]; rfl]
   exact Ent.pick [1, 2, 3, 4, 5, 6, 7] I I
  ·have h3 : (Tp.okN c && !(c == m.addr)) = false := h3
   rw [if_neg (by rw [h3]; decide)] at hgs
   repeat' (first | refine zh ?_ | intro (bk : Nat))
   refine ih (k + 1, x) _ _ hlt (by show n.children.length - (k + 1) < n.children.length - k; omega) ⟨I, I, I, I, I, trivial⟩ ?_
   show Ent _ _ [blkC b [.int .i64 m.addr, .int .i64 m.poll, .int .i64 m.parent, sv xt m.table.length, sv xl m.links.length, .slice a3 m.out.length c3, sv x (g (k + 1)).length, .slice a5 m.boxes.length c5, sv V.se n.seen.length, sv V.pa V.ps.length, sv V.ib n.inbox.length, .int .i64 n.seq, .int .i64 n.lost, .int .i64 (tick now)] 113, blkC b1 (ndC V n) 62, cTa (sv xt m.table.length) m.table, cLi (sv xl m.links.length) m.links, cSn (.slice a3 m.out.length c3) m.out, cMa (.slice a5 m.boxes.length c5) m.boxes, cI (sv x (g (k + 1)).length) (g (k + 1))]
   rw [hgs]
   exact Ent.refl
 have hke : k = n.children.length := by have := of_decide_eq_false h2; omega
 subst hke
 obtain ⟨L, hL⟩ : ∃ L, L = g n.children.length := ⟨_, rfl⟩
 have hLe : L = n.children.filter fun c => Tp.okN c && !(c == m.addr) := by rw [hL, hg]; show (n.children.take n.children.length).filter _ = _; rw [List.take_length]
 have hLl : L.length ≤ 1000 := by rw [hL]; exact hgl _
 have hLd : Tf.dif L = m.children := by rw [e_ch, hLe]
 refine HR.ent (H' := [blkC b [.int .i64 m.addr, .int .i64 m.poll, .int .i64 m.parent, sv xt m.table.length, sv xl m.links.length, .slice a3 m.out.length c3, sv x L.length, .slice a5 m.boxes.length c5, sv V.se n.seen.length, sv V.pa V.ps.length, sv V.ib n.inbox.length, .int .i64 n.seq, .int .i64 n.lost, .int .i64 (tick now)] 113, blkC b1 (ndC V n) 62, cTa (sv xt m.table.length) m.table, cLi (sv xl m.links.length) m.links, cSn (.slice a3 m.out.length c3) m.out, cMa (.slice a5 m.boxes.length c5) m.boxes, cI (sv x L.length) L]) (Ent.of_eq (by rw [hL])) ?_
 refine HR.ent (H' := [cI (sv x L.length) L, blkC b [.int .i64 m.addr, .int .i64 m.poll, .int .i64 m.parent, sv xt m.table.length, sv xl m.links.length, .slice a3 m.out.length c3, sv x L.length, .slice a5 m.boxes.length c5, sv V.se n.seen.length, sv V.pa V.ps.length, sv V.ib n.inbox.length, .int .i64 n.seq, .int .i64 n.lost, .int .i64 (tick now)] 113, blkC b1 (ndC V n) 62, cTa (sv xt m.table.length) m.table, cLi (sv xl m.links.length) m.links, cSn (.slice a3 m.out.length c3) m.out, cMa (.slice a5 m.boxes.length c5) m.boxes]) (Ent.pick [6, 0, 1, 2, 3, 4, 5] I I) ?_
 repeat' (first | refine zh ?_ | intro (bk : Nat))
 refine HL.callW (r := fun _ : Unit => .tuple #[]) (Q := fun _ => True) (G0 := [cI (sv x L.length) L]) (H0 := [blkC b [.int .i64 m.addr, .int .i64 m.poll, .int .i64 m.parent, sv xt m.table.length, sv xl m.links.length, .slice a3 m.out.length c3, sv x L.length, .slice a5 m.boxes.length c5, sv V.se n.seen.length, sv V.pa V.ps.length, sv V.ib n.inbox.length, .int .i64 n.seq, .int .i64 n.lost, .int .i64 (tick now)] 113, blkC b1 (ndC V n) 62, cTa (sv xt m.table.length) m.table, cLi (sv xl m.links.length) m.links, cSn (.slice a3 m.out.length c3) m.out, cMa (.slice a5 m.boxes.length c5) m.boxes]) (G := fun _ => [ownC (sv x L.length) 3 1 L.length (cellsOf iC (Tf.srt L))]) fn135 I I I (fun w hw => sortI_any _ _ L w (hw.vw (i := 0) I) (by omega)) ?_
 intro _ _
 repeat' (first | refine zh ?_ | intro (bk : Nat))
 refine HL.callW (r := fun z : Value => z) (Q := fun _ => True) (G0 := [ownC (sv x L.length) 3 1 L.length (cellsOf iC (Tf.srt L))]) (H0 := [blkC b [.int .i64 m.addr, .int .i64 m.poll, .int .i64 m.parent, sv xt m.table.length, sv xl m.links.length, .slice a3 m.out.length c3, sv x L.length, .slice a5 m.boxes.length c5, sv V.se n.seen.length, sv V.pa V.ps.length, sv V.ib n.inbox.length, .int .i64 n.seq, .int .i64 n.lost, .int .i64 (tick now)] 113, blkC b1 (ndC V n) 62, cTa (sv xt m.table.length) m.table, cLi (sv xl m.links.length) m.links, cSn (.slice a3 m.out.length c3) m.out, cMa (.slice a5 m.boxes.length c5) m.boxes]) (G := fun z => [ownC z 3 1 (Tf.dif L).length (cellsOf iC (Tf.dif L))]) fn136 I I I (fun w hw => compactI_any _ _ (Tf.srt L) w (hw.vw (i := 0) I) (by omega)) ?_
 intro z _
 rw [hLd]
 refine HL.shape 0 I fun a4 c4 hv => ?_
 subst hv
 refine HL.ent (H' := [blkC b [.int .i64 m.addr, .int .i64 m.poll, .int .i64 m.parent, sv xt m.table.length, sv xl m.links.length, .slice a3 m.out.length c3, sv x L.length, .slice a5 m.boxes.length c5, sv V.se n.seen.length, sv V.pa V.ps.length, sv V.ib n.inbox.length, .int .i64 n.seq, .int .i64 n.lost, .int .i64 (tick now)] 113, blkC b1 (ndC V n) 62, cTa (sv xt m.table.length) m.table, cLi (sv xl m.links.length) m.links, cSn (.slice a3 m.out.length c3) m.out, cMa (.slice a5 m.boxes.length c5) m.boxes, cI (.slice a4 m.children.length c4) m.children]) (Ent.pick [1, 2, 3, 4, 5, 6, 0] I I) ?_
 repeat' (first | refine zh ?_ | intro (bk : Nat))
 refine HL.setV 177 (v' := .int .i64 ((n.seen.length - 32 : Nat) : Int)) I (by rw [← max0]) ?_
 repeat' (first | refine zh ?_ | refine HL.subI (sz := 2) (n.seen.length - 32) n.seen.length (Rd.arg h.se) I I I I (.inr ⟨_, _, _, rfl, rfl, rfl⟩) (.inl ⟨rfl, rfl⟩) (Nat.sub_le _ _) (Nat.le_refl _) ?_ | refine HL.callO fn137 I I (fun w hw => clonePr_any m.seen _ w ((Rd.arg s_se).at hw) (by omega)) ?_ | intro (bk : Nat))
 intro v1
 refine HL.shape 0 I fun a6 c6 hv => ?_
 subst hv
 refine HL.ent (H' := [blkC b [.int .i64 m.addr, .int .i64 m.poll, .int .i64 m.parent, sv xt m.table.length, sv xl m.links.length, .slice a3 m.out.length c3, .slice a4 m.children.length c4, .slice a5 m.boxes.length c5, sv V.se n.seen.length, sv V.pa V.ps.length, sv V.ib n.inbox.length, .int .i64 n.seq, .int .i64 n.lost, .int .i64 (tick now)] 113, blkC b1 (ndC V n) 62, cTa (sv xt m.table.length) m.table, cLi (sv xl m.links.length) m.links, cSn (.slice a3 m.out.length c3) m.out, cMa (.slice a5 m.boxes.length c5) m.boxes, cI (.slice a4 m.children.length c4) m.children, cPr (.slice a6 m.seen.length c6) m.seen]) (Ent.pick [1, 2, 3, 4, 5, 6, 7, 0] I I) ?_
 repeat' (first | refine zh ?_ | intro (bk : Nat))
 refine HL.setV 189 (v' := .int .i64 ((min n.inbox.length 256 : Nat) : Int)) I (by rw [← min_i]; rfl) ?_
 repeat' (first | refine zh ?_ | refine HL.subI (sz := 2) 0 (min n.inbox.length 256) (Rd.arg h.ib) I I I I (.inl ⟨rfl, rfl⟩) (.inr ⟨_, _, _, rfl, rfl, rfl⟩) (Nat.zero_le _) (Nat.min_le_left _ _) ?_ | refine HL.callO fn59 I I (fun w hw => cloneDe_any m.inbox _ w ((Rd.arg s_ib).at hw) (by omega)) ?_ | intro (bk : Nat))
 intro v1
 refine HL.shape 0 I fun a7 c7 hv => ?_
 subst hv
 refine HL.ent (H' := [blkC b [.int .i64 m.addr, .int .i64 m.poll, .int .i64 m.parent, sv xt m.table.length, sv xl m.links.length, .slice a3 m.out.length c3, .slice a4 m.children.length c4, .slice a5 m.boxes.length c5, .slice a6 m.seen.length c6, sv V.pa V.ps.length, sv V.ib n.inbox.length, .int .i64 n.seq, .int .i64 n.lost, .int .i64 (tick now)] 113, blkC b1 (ndC V n) 62, cTa (sv xt m.table.length) m.table, cLi (sv xl m.links.length) m.links, cSn (.slice a3 m.out.length c3) m.out, cMa (.slice a5 m.boxes.length c5) m.boxes, cI (.slice a4 m.children.length c4) m.children, cPr (.slice a6 m.seen.length c6) m.seen, cDe (.slice a7 m.inbox.length c7) m.inbox]) (Ent.pick [1, 2, 3, 4, 5, 6, 7, 8, 0] I I) ?_
 repeat' (first | refine zh ?_ | intro (bk : Nat))
 refine HR.nilC 173 6 ?_
 refine HR.ent (H' := [blkC b [.int .i64 m.addr, .int .i64 m.poll, .int .i64 m.parent, sv xt m.table.length, sv xl m.links.length, .slice a3 m.out.length c3, .slice a4 m.children.length c4, .slice a5 m.boxes.length c5, .slice a6 m.seen.length c6, .slice none 0 0, .slice a7 m.inbox.length c7, .int .i64 n.seq, .int .i64 n.lost, .int .i64 (tick now)] 113, blkC b1 (ndC V n) 62, cTa (sv xt m.table.length) m.table, cLi (sv xl m.links.length) m.links, cSn (.slice a3 m.out.length c3) m.out, cMa (.slice a5 m.boxes.length c5) m.boxes, cI (.slice a4 m.children.length c4) m.children, cPr (.slice a6 m.seen.length c6) m.seen, cDe (.slice a7 m.inbox.length c7) m.inbox, ownC (.slice none 0 0) 173 6 0 [], groupC []]) (Ent.trans Ent.gnil (Ent.pick [2, 3, 4, 5, 6, 7, 8, 9, 10, 1, 0] I I)) ?_
 refine HR.loop (ι := Nat × SV × List PtV) (fun x => x.1 ≤ V.ps.length ∧ pts x.2.2 = (pts V.ps).take x.1 ∧ ∀ p ∈ x.2.2, ShPt p) (fun x => [(2, ptr b1), (5, ptr b), (200, sv V.pa V.ps.length), (201, .int .i64 (V.ps.length : Int)), (202, .int .i64 (x.1 : Int))]) (fun x => [blkC b [.int .i64 m.addr, .int .i64 m.poll, .int .i64 m.parent, sv xt m.table.length, sv xl m.links.length, .slice a3 m.out.length c3, .slice a4 m.children.length c4, .slice a5 m.boxes.length c5, .slice a6 m.seen.length c6, sv x.2.1 x.2.2.length, .slice a7 m.inbox.length c7, .int .i64 n.seq, .int .i64 n.lost, .int .i64 (tick now)] 113, blkC b1 (ndC V n) 62, cTa (sv xt m.table.length) m.table, cLi (sv xl m.links.length) m.links, cSn (.slice a3 m.out.length c3) m.out, cMa (.slice a5 m.boxes.length c5) m.boxes, cI (.slice a4 m.children.length c4) m.children, cPr (.slice a6 m.seen.length c6) m.seen, cDe (.slice a7 m.inbox.length c7) m.inbox, cPt (sv x.2.1 x.2.2.length) x.2.2, groupC (ptG x.2.2)]) (fun x => V.ps.length - x.1) (0, (none, 0), []) ⟨Nat.zero_le _, rfl, fun p hp => by cases hp⟩ ⟨I, I, I, I, I, trivial⟩ Ent.refl ?_
 rintro ⟨k, y, L2⟩ ⟨hk, hL2, hsh⟩ ih
 have hk : k ≤ V.ps.length := hk
 have hL2 : pts L2 = (pts V.ps).take k := hL2
 have hsh : ∀ p ∈ L2, ShPt p := hsh
 have hLl2 : L2.length ≤ 1000 := by rw [← pts_len, hL2, List.length_take]; have := pts_len V.ps; omega
 repeat' (first | refine zh ?_ | intro (bk : Nat))
 refine HR.cond I (fun h2 => ?_) (fun h2 => ?_)
 ·have hlt : k < V.ps.length := by have := of_decide_eq_true h2; omega
  obtain ⟨p, hp⟩ := getSome hlt
  have hrp := h.pa.r p (List.mem_of_getElem? hp)
  have hsp := hs.sm p.pt (by rw [← h.eq]; exact List.mem_of_getElem? (pts_get hp))
  have hst : (pts V.ps).take (k + 1) = pts L2 ++ [p.pt] := by rw [hL2]; exact take_succ_get (pts_get hp)
  obtain ⟨aa, na, ca, ab, nb, cb, ex⟩ := hrp.sh.lit
  obtain ⟨q, hq⟩ : ∃ q, q = p.pt := ⟨_, rfl⟩
  rw [← hq] at hst ex hsp
  subst ex
  have hh : Sl w (.slice aa na ca) (cellsOf bC q.hv) q.hv.length := hrp.h
  have hd : Sl w (.slice ab nb cb) (cellsOf sC q.da) q.da.length := hrp.d
  have hs1 : q.hv.length ≤ 140737488355328 := hsp.1
  have hs2 : q.da.length ≤ 8796093022208 := hsp.2.1
  repeat' (first | refine zh ?_ | refine HL.idxR (Rd.arg h.pa.s) elemPt k I I I I hlt ?_ | refine HL.loadE (Rd.arg h.pa.s) I I I I (by simp) I (cellsOf_get ptC_len hp) ?_ | intro (bk : Nat))
  refine HR.regionW [(0, true), (1, true), (3, true), (4, true), (2, false), (6, true), (5, false)] [7, 8, 9] [0] I I hmix (by kernel_rfl) ?_
  repeat' (first | refine zd ?_ | fail)
  refine HD.one I ?_
  refine HL.callO fn138 I I (fun w1 hw1 => cloneB_any q.hv _ w1 ((Rd.arg hh).at hw1) (by omega)) ?_
  intro v1
  refine HL.shape 0 I fun a1 c1 hv => ?_
  subst hv
  refine HL.back [1] I I ?_
  repeat' (first | refine zd ?_ | fail)
  refine HD.one I ?_
  refine HL.callO fn139 I I (fun w1 hw1 => cloneS_any q.da _ w1 ((Rd.arg hd).at hw1) (by omega)) ?_
  intro v2
  refine HL.shape 0 I fun a2 c2 hv => ?_
  subst hv
  refine HL.back [2] I I ?_
  repeat' (first | refine zd ?_ | fail)
  refine HD.tail I ?_
  repeat' (first | refine zn ?_ | intro (bk : Nat))
  obtain ⟨Q, hQ⟩ : ∃ Q : PtV, Q = ⟨.slice a1 q.hv.length c1, .slice a2 q.da.length c2, q⟩ := ⟨_, rfl⟩
  refine HR.ent (H' := [blkC bk (ptC ⟨.slice a1 q.hv.length c1, .slice a2 q.da.length c2, q⟩) 173, blkC b [.int .i64 m.addr, .int .i64 m.poll, .int .i64 m.parent, sv xt m.table.length, sv xl m.links.length, .slice a3 m.out.length c3, .slice a4 m.children.length c4, .slice a5 m.boxes.length c5, .slice a6 m.seen.length c6, sv y L2.length, .slice a7 m.inbox.length c7, .int .i64 n.seq, .int .i64 n.lost, .int .i64 (tick now)] 113, blkC b1 (ndC V n) 62, cPt (sv y L2.length) L2, cTa (sv xt m.table.length) m.table, cLi (sv xl m.links.length) m.links, cSn (.slice a3 m.out.length c3) m.out, cMa (.slice a5 m.boxes.length c5) m.boxes, cI (.slice a4 m.children.length c4) m.children, cPr (.slice a6 m.seen.length c6) m.seen, cDe (.slice a7 m.inbox.length c7) m.inbox, groupC (ptG L2), ptH ⟨.slice a1 q.hv.length c1, .slice a2 q.da.length c2, q⟩, ptD ⟨.slice a1 q.hv.length c1, .slice a2 q.da.length c2, q⟩]) (Ent.pick [2, 3, 4, 12, 5, 6, 7, 8, 9, 10, 11, 13, 1, 0] I I) ?_
  refine HR.regionY [(0, true), (1, true), (2, true), (3, true), (4, true), (5, true), (6, true), (7, false), (8, false), (9, true), (10, true), (11, true)] 12 [0, 1] I I hmix (by kernel_rfl) ?_
  repeat' (first | refine zd ?_ | fail)
  refine HD.one I ?_
  refine HL.bslice elemPt I I I I I (by decide) (by decide) ?_
  intro va
  refine HL.back [1, 2] I I ?_
  refine HD.one I ?_
  refine HL.appR 4 I elemPt (Rd.own 0 I) I I I I (allOne_spec I) (by show (L2.length + 1) * 80 ≤ _; omega) (by show L2.length + 1 ≤ _; omega) ?_
  intro v3
  refine HL.back [1, 2] I I ?_
  repeat' (first | refine zd ?_ | fail)
  refine HD.last I ?_
  refine HL.shape 4 I fun a9 c9 hv => ?_
  subst hv
  repeat' (first | refine zn ?_ | intro (bk : Nat))
  repeat' (first | refine zh ?_ | intro (bk : Nat))
  refine ih (k + 1, (a9, c9), L2 ++ [Q]) _ _ ⟨hlt, ?_, ?_⟩ (by show V.ps.length - (k + 1) < V.ps.length - k; omega) ⟨I, I, I, I, I, trivial⟩ ?_
  ·show pts (L2 ++ [Q]) = (pts V.ps).take (k + 1)
   rw [pts_app, hst, hQ]; rfl
  ·intro p hp
   have hp : p ∈ L2 ++ [Q] := hp
   rcases List.mem_append.1 hp with hp | hp
   ·exact hsh p hp
   ·rw [List.mem_singleton] at hp
    rw [hp, hQ]
    exact ⟨⟨_, _, _, rfl⟩, ⟨_, _, _, rfl⟩⟩
  ·have hl1 : L2.length + 1 = (L2 ++ [Q]).length := by simp
   have hc1 : cellsOf ptC L2 ++ ptC Q = cellsOf ptC (L2 ++ [Q]) := by rw [cellsOf_app]; rfl
   show Ent _ _ [blkC b [.int .i64 m.addr, .int .i64 m.poll, .int .i64 m.parent, sv xt m.table.length, sv xl m.links.length, .slice a3 m.out.length c3, .slice a4 m.children.length c4, .slice a5 m.boxes.length c5, .slice a6 m.seen.length c6, sv (a9, c9) (L2 ++ [Q]).length, .slice a7 m.inbox.length c7, .int .i64 n.seq, .int .i64 n.lost, .int .i64 (tick now)] 113, blkC b1 (ndC V n) 62, cTa (sv xt m.table.length) m.table, cLi (sv xl m.links.length) m.links, cSn (.slice a3 m.out.length c3) m.out, cMa (.slice a5 m.boxes.length c5) m.boxes, cI (.slice a4 m.children.length c4) m.children, cPr (.slice a6 m.seen.length c6) m.seen, cDe (.slice a7 m.inbox.length c7) m.inbox, cPt (sv (a9, c9) (L2 ++ [Q]).length) (L2 ++ [Q]), groupC (ptG (L2 ++ [Q]))]
   rw [← hl1, show cPt (sv (a9, c9) (L2.length + 1)) (L2 ++ [Q]) = ownC (.slice a9 (L2.length + 1) c9) 173 6 (L2.length + 1) (cellsOf ptC L2 ++ ptC Q) from by rw [hc1, hl1], ptG_app, ptG_one, hQ]
   refine Ent.trans (Ent.pick (H' := [ptH ⟨.slice a1 q.hv.length c1, .slice a2 q.da.length c2, q⟩, ptD ⟨.slice a1 q.hv.length c1, .slice a2 q.da.length c2, q⟩, groupC (ptG L2), blkC b [.int .i64 m.addr, .int .i64 m.poll, .int .i64 m.parent, sv xt m.table.length, sv xl m.links.length, .slice a3 m.out.length c3, .slice a4 m.children.length c4, .slice a5 m.boxes.length c5, .slice a6 m.seen.length c6, .slice a9 (L2.length + 1) c9, .slice a7 m.inbox.length c7, .int .i64 n.seq, .int .i64 n.lost, .int .i64 (tick now)] 113, blkC b1 (ndC V n) 62, cTa (sv xt m.table.length) m.table, cLi (sv xl m.links.length) m.links, cSn (.slice a3 m.out.length c3) m.out, cMa (.slice a5 m.boxes.length c5) m.boxes, cI (.slice a4 m.children.length c4) m.children, cPr (.slice a6 m.seen.length c6) m.seen, cDe (.slice a7 m.inbox.length c7) m.inbox, ownC (.slice a9 (L2.length + 1) c9) 173 6 (L2.length + 1) (cellsOf ptC L2 ++ ptC ⟨.slice a1 q.hv.length c1, .slice a2 q.da.length c2, q⟩)]) [13, 14, 12, 2, 3, 5, 6, 7, 8, 9, 10, 11, 4] I I) (Ent.trans (Ent.group (G := [ptH _, ptD _])) (Ent.trans Ent.gjoin ?_))
   exact Ent.pick [1, 2, 3, 4, 5, 6, 7, 8, 9, 10, 0] I I
 have hke : k = V.ps.length := by have := of_decide_eq_false h2; omega
 subst hke
 have hL2 : pts L2 = m.parts := by rw [hL2, ← pts_len, List.take_length, e_pa, h.eq]
 repeat' (first | refine zh ?_ | apply zb ?_ ?_ | exact zc | (refine zi fun hb => ?_; try simp at hb) | intro (bk : Nat))
 refine HR.join (ι := Unit) (fun _ => True) (fun _ => [(2, ptr b1), (5, ptr b)]) (fun _ => [blkC b [.int .i64 m.addr, .int .i64 m.poll, .int .i64 m.parent, sv xt m.table.length, sv xl m.links.length, .slice a3 m.out.length c3, .slice a4 m.children.length c4, .slice a5 m.boxes.length c5, .slice a6 m.seen.length c6, sv y L2.length, .slice a7 m.inbox.length c7, .int .i64 m.seq, .int .i64 n.lost, .int .i64 (tick now)] 113, blkC b1 (ndC V n) 62, cTa (sv xt m.table.length) m.table, cLi (sv xl m.links.length) m.links, cSn (.slice a3 m.out.length c3) m.out, cMa (.slice a5 m.boxes.length c5) m.boxes, cI (.slice a4 m.children.length c4) m.children, cPr (.slice a6 m.seen.length c6) m.seen, cDe (.slice a7 m.inbox.length c7) m.inbox, cPt (sv y L2.length) L2, groupC (ptG L2)]) (fun _ _ => ?_) (fun hj => ?_)
 rotate_left
 ·refine HR.cond I (fun h2 => ?_) (fun h2 => ?_)
  ·have h2 : (decide (n.seq < 0) || decide (n.seq > 65535)) = true := h2
   have h3 : n.seq < 0 ∨ n.seq > 65535 := by simpa using h2
   refine HR.region ?_
   repeat' (first | refine zn ?_ | apply zb ?_ ?_ | exact zc | (refine zi fun hb => ?_; try simp at hb) | intro (bk : Nat))
   refine hj () _ _ trivial ⟨I, I, trivial⟩ (Ent.of_eq ?_)
   rw [e_sq, if_pos h3]; rfl
  ·have h2 : (decide (n.seq < 0) || decide (n.seq > 65535)) = false := h2
   have h3 : ¬ (n.seq < 0 ∨ n.seq > 65535) := by simpa using h2
   refine HR.skip ?_
   refine hj () _ _ trivial ⟨I, I, trivial⟩ (Ent.of_eq ?_)
   rw [e_sq, if_neg h3]
 repeat' (first | refine zh ?_ | refine HL.callB fn129 I I (fun w _ => nlim_any n.lost 0 1099511627776 w) ?_ | intro (bk : Nat))
 refine HR.ret Tryz.func68 I [_] (fun _ _ => ⟨I, trivial⟩) ?_
 refine fun w' hw => ⟨(b, ⟨xt, xl, (a3, c3), (a4, c4), (a5, c5), (a6, c6), y, (a7, c7), L2⟩), rfl, ⟨hL2, hsh⟩, ?_⟩
 rw [show stH b ⟨xt, xl, (a3, c3), (a4, c4), (a5, c5), (a6, c6), y, (a7, c7), L2⟩ m (tick now) = stH b ⟨xt, xl, (a3, c3), (a4, c4), (a5, c5), (a6, c6), y, (a7, c7), L2⟩ { m with lost := clamp n.lost 0 1099511627776 } (tick now) from by rw [← e_lo]]
 exact hw.pick [0, 2, 3, 4, 6, 5, 7, 9, 10, 8] I I
end Go.Proofs.YtgfdoognildoeaaGreat
namespace Go.Proofs.YtgfdoognildoeaaGreat
open Go.GX Go.RowKit
attribute [local irreducible] Calls Run RunL RunQ RunD HR HL HD blkC ownC mapC Rd slicesC iterC
open Nd
theorem fn36 : IsFn Tryz.prog 36 := ⟨⟨_, _, Tryz.func36, rfl, by decide⟩⟩
theorem fn86 : IsFn Tryz.prog 86 := ⟨⟨_, _, Tryz.func86, rfl, by decide⟩⟩
abbrev V0 : NV := ⟨(none, 0), (none, 0), (none, 0), (none, 0), (none, 0), (none, 0), (none, 0), (none, 0), []⟩
abbrev n0 (addr poll : Int) : Nd := ⟨addr, poll, 255, [], [], [], [], [], [], [], [], 0, 0⟩
theorem okn0 (addr poll : Int) (w : World) : OkN w V0 (n0 addr poll) := ⟨Sl.nil w, Sl.nil w, Sl.nil w, Sl.nil w, Sl.nil w, Sl.nil w, ⟨Sl.nil w, fun p hp => by cases hp⟩, Sl.nil w, rfl⟩
theorem smn0 (addr poll : Int) : SmN (n0 addr poll) := ⟨Nat.zero_le _, Nat.zero_le _, Nat.zero_le _, Nat.zero_le _, Nat.zero_le _, Nat.zero_le _, Nat.zero_le _, Nat.zero_le _, fun p hp => by cases hp⟩
theorem rchk_nil (n : Int) : rchk [] (clamp n 0 250) = 8 := by
 unfold rchk
 rw [clamp_ok]
 simp [firstE]
theorem new_table (addr poll : Int) : (new addr poll).table = rnew (new addr poll).addr := by
 show (if rchk [] (clamp addr 0 250) = 0 then [] else [rown (clamp addr 0 250)]) = [rown (clamp (clamp addr 0 250) 0 250)]
 rw [rchk_nil, if_neg (by decide), clamp2]
theorem snew_any (addr poll : Int) (w : World) :
  Calls Tryz.prog 36 #[.int .i64 addr, .int .i64 poll] w fun e w' => ∃ V' : NV, e = .returned (.agg ⟨ndC V' (new addr poll)⟩) ∧ Pts V' (new addr poll) ∧ Sat (base w) (ndH V' (new addr poll)) w' := by
 obtain ⟨m, hm⟩ : ∃ m, m = new addr poll := ⟨_, rfl⟩
 have hmt : m.table = rnew m.addr := by rw [hm]; exact new_table addr poll
 refine calls_hr Tryz.func36 I (Nat.le_of_ble_eq_true I) ?_
 refine HR.sub (σ' := [(0, .int .i64 addr), (1, .int .i64 poll)]) ⟨I, I, trivial⟩ ?_
 rw [← hm]
 repeat' (first | refine zh ?_ | intro (bk : Nat))
 refine HL.callX (r := fun x : Nat × NV => ptr x.1) (Q := fun x => Pts x.2 m) (G := fun x => stH x.1 x.2 m (tick 0)) fn68 I I (fun w1 _ => by rw [hm]; exact enter_any V0 (n0 addr poll) 0 w1 (okn0 addr poll w1) (smn0 addr poll)) ?_
 rintro ⟨b, V⟩ hP
 have hP : Pts V m := hP
 refine HL.ent (Ent.pick [10, 0, 1, 2, 3, 4, 5, 6, 7, 8, 9] I I) ?_
 repeat' (first | refine zh ?_ | refine HL.callO fn69 I I (fun w1 _ => rnew_any m.addr w1) ?_ | intro (bk : Nat))
 intro v1
 refine HL.shape 0 I fun a c hv => ?_
 subst hv
 repeat' (first | refine zh ?_ | intro (bk : Nat))
 refine HR.ret Tryz.func36 I [_] (fun w hw => ⟨⟨_, rfl, loadVarR hw 1 I I I I rfl⟩, trivial⟩) ?_
 refine fun w' hw => ⟨{ V with ta := (a, c) }, ?_, ⟨hP.eq, hP.sh⟩, ?_⟩
 ·show Ending.returned (.agg ⟨ndC { V with ta := (a, c) } { m with table := rnew m.addr }⟩) = Ending.returned (.agg ⟨ndC { V with ta := (a, c) } m⟩)
  rw [← hmt]
 ·have e : ndH { V with ta := (a, c) } m = ndH { V with ta := (a, c) } { m with table := rnew m.addr } := by rw [← hmt]
  rw [e]
  exact hw.pick [0, 4, 5, 6, 7, 8, 9, 10, 11] I I
theorem sawake_any (V : NV) (n : Nd) (now : Int) (w : World) (h : OkN w V n) (hs : SmN n) :
  Calls Tryz.prog 86 #[.agg ⟨ndC V n⟩, .int .i64 now] w fun e w' => e = .returned (.bool (awake n now)) ∧ Below w.heap.size w w' := by
 obtain ⟨m, hm⟩ : ∃ m, m = order n := ⟨_, rfl⟩
 have ho : Ord m := by rw [hm]; exact order_ord n
 have hpo := ho.poll
 have ht0 : 0 ≤ tick now := by unfold tick clamp; omega
 have hsp : awake n now = (((m.poll == 0) || (m.parent == 255) || decide (0 < m.parts.length)) || decide (tick now % m.poll < 3)) := by rw [hm]; rfl
 refine calls_hr Tryz.func86 I (Nat.le_of_ble_eq_true I) ?_
 refine HR.sub (σ' := [(0, .agg ⟨ndC V n⟩), (1, .int .i64 now)]) ⟨I, I, trivial⟩ ?_
 rw [hsp]
 repeat' (first | refine zh ?_ | intro (bk : Nat))
 refine HL.callX (r := fun x : Nat × NV => ptr x.1) (Q := fun x => Pts x.2 m) (G := fun x => stH x.1 x.2 m (tick now)) fn68 I I (fun w1 hw1 => by rw [hm]; exact enter_any V n now w1 (h.ext hw1.belowB) hs) ?_
 rintro ⟨b, V2⟩ hP
 have hP : Pts V2 m := hP
 have hpl : V2.ps.length = m.parts.length := by rw [← pts_len, hP.eq]
 repeat' (first | refine zh ?_ | intro (bk : Nat))
 refine HR.regionQ hmix (by kernel_rfl) ?_
 repeat' (first | refine zq ?_ | apply zb ?_ ?_ | exact zc | (refine zi fun hb => ?_; try simp at hb))
 refine HR.ret Tryz.func86 I [_] (fun _ _ => ⟨I, trivial⟩) ?_
 refine fun w' hw => ⟨?_, hw.belowB⟩
 rw [hpl, show decide (0 < m.parts.length) = decide ((m.parts.length : Int) > 0) from decide_eq_decide.2 (by omega)]
 rfl
end Go.Proofs.YtgfdoognildoeaaGreat
namespace Go.Proofs.YtgfdoognildoeaaGreat
open Go.GX Go.RowKit
attribute [local irreducible] Calls Run RunL RunQ RunD HR HL HD blkC ownC mapC Rd slicesC iterC
open Nd
abbrev zerC : List Value := [.int .i64 0, .int .i64 0, .int .i64 0, .slice none 0 0, .slice none 0 0, .slice none 0 0, .slice none 0 0, .slice none 0 0, .slice none 0 0, .slice none 0 0, .slice none 0 0, .int .i64 0, .int .i64 0]
theorem deliver_parts (n : Nd) (d : De) : (deliver n d).parts = n.parts := by unfold deliver lose; split <;> rfl
theorem queue_is (n : Nd) (f : Fr) : ∃ q l, (queue n f).1 = { n with out := q, lost := l } := by
 by_cases h : (mput n.out f).2 = false ∨ (mput n.out f).1.length = n.out.length
 ·exact ⟨(mput n.out f).1, min (n.lost + 1) maxTick, by unfold queue lose; simp only [if_pos h]⟩
 ·exact ⟨(mput n.out f).1, n.lost, by unfold queue; simp only [if_neg h]⟩
theorem queue_parts (n : Nd) (f : Fr) : (queue n f).1.parts = n.parts := by obtain ⟨q, l, e⟩ := queue_is n f; rw [e]
end Go.Proofs.YtgfdoognildoeaaGreat
namespace Go.Proofs.YtgfdoognildoeaaGreat
open Go.GX Go.RowKit
attribute [local irreducible] Calls Run RunL RunQ RunD HR HL HD blkC ownC mapC Rd slicesC iterC
open Nd
theorem fn93 : IsFn Tryz.prog 93 := ⟨⟨_, _, Tryz.func93, rfl, by decide⟩⟩
theorem fn44 : IsFn Tryz.prog 44 := ⟨⟨_, _, Tryz.func44, rfl, by decide⟩⟩
theorem fn89 : IsFn Tryz.prog 89 := ⟨⟨_, _, Tryz.func89, rfl, by decide⟩⟩
theorem lchk_room {l : List Li} (h : lchk l = 0) : l.length ≤ 24 := by
 unfold lchk at h
 split at h
 ·cases h
 ·omega
theorem llen {n : Nd} (h : Ord n) : n.links.length ≤ 24 := lchk_room h.links
theorem klen {n : Nd} (h : Ord n) : n.children.length ≤ 251 := asc_bound h.kids fun x hx => (h.kid x hx).1
abbrev tiC (bt : Nat) (to : Int) : Chunk := blkC bt [.int .i64 to] 3
theorem sgiveUp_any (b : Nat) (V : NV) (n : Nd) (now to : Int) (B : Base) (w : World) (hw : Sat B (stH b V n now) w) (ho : Ord n) :
  Calls Tryz.prog 93 #[ptr b, .int .i64 to] w fun e w' => ∃ x : SV × SV × SV, e = .returned (.tuple ⟨[]⟩) ∧ True ∧ Sat ⟨w, feet (stH b V n now)⟩ (stH b { V with ta := x.1, li := x.2.1, ch := x.2.2 } (giveUp n to) now) w' := by
 have h24 := tlen ho
 have l24 := llen ho
 have k251 := klen ho
 have hsp : giveUp n to = if Tp.okN to = false then lose n else { lose n with table := rbrk n.table n.addr to, links := lforget n.links to, children := n.children.filter fun c => !(c == to), parent := if n.parent = to then 255 else n.parent } := rfl
 rw [hsp]
 refine calls_hrW (stH b V n now) (hw) Tryz.func93 I (Nat.le_of_ble_eq_true I) ?_
 refine HR.sub (σ' := [(0, ptr b), (1, .int .i64 to)]) ⟨I, I, trivial⟩ ?_
 refine HR.ctl I ?_
 refine HR.region ?_
 refine HL.box I I ?_
 intro bt
 repeat' (first | refine zh ?_ | intro (bk : Nat))
 refine HL.ent (H' := blkS b V n now :: tiC bt to :: ndH V n) (Ent.pick [1, 0, 2, 3, 4, 5, 6, 7, 8, 9, 10] I I) ?_
 refine HL.callW (r := fun _ : Unit => .tuple ⟨[]⟩) (Q := fun _ => True) (G0 := [blkS b V n now]) (H0 := tiC bt to :: ndH V n) (G := fun _ => [blkS b V (lose n) now]) fn160 I I I (fun w1 hw1 => slose_any b V n now _ w1 (hw1.pick [0] I I) ho.lost) ?_
 intro _ _
 repeat' (first | refine zh ?_ | refine HL.callB fn91 I I (fun w _ => inside_any to w) ?_ | intro (bk : Nat))
 refine HR.cond I (fun h1 => ?_) (fun h1 => ?_)
 ·have h1 : Tp.okN to = false := by simpa using h1
  rw [if_pos h1]
  repeat' (first | refine zh ?_ | intro (bk : Nat))
  refine HR.ret Tryz.func93 I [] (fun _ _ => trivial) ?_
  exact fun w' hw => ⟨(V.ta, V.li, V.ch), rfl, trivial, hw.pick [0, 2, 3, 4, 5, 6, 7, 8, 9, 10] I rfl⟩
 have h1 : ¬ Tp.okN to = false := by simpa using h1
 rw [if_neg h1]
 repeat' (first | refine zh ?_ | intro (bk : Nat))
 refine HR.regionY [(0, true), (1, true), (2, true), (3, true), (4, true), (5, true), (6, true), (7, true), (8, true), (9, true), (10, true), (11, true), (12, false), (13, true), (14, true), (15, true)] 16 [0, 1] I I hmix (by kernel_rfl) ?_
 repeat' (first | refine zd ?_ | fail)
 refine HD.one I ?_
 refine HL.callO fn62 I I (fun w1 hw1 => rbrk_any n.table n.addr to _ w1 ((Rd.own 2 rfl).at hw1) (by omega)) ?_
 intro v1
 refine HL.shape 0 I fun a1 c1 hv => ?_
 subst hv
 refine HL.back [1, 2] I I ?_
 repeat' (first | refine zd ?_ | fail)
 refine HD.last I ?_
 repeat' (first | refine zn ?_ | intro (bk : Nat))
 refine HR.ent (Ent.pick [1, 2, 0, 4, 5, 6, 7, 8, 9, 10, 11] I I) ?_
 repeat' (first | refine zh ?_ | intro (bk : Nat))
 refine HR.regionY [(0, true), (1, true), (2, true), (3, true), (4, true), (5, true), (6, true), (7, false), (8, true), (9, true), (10, true)] 11 [0, 1] I I hmix (by kernel_rfl) ?_
 repeat' (first | refine zd ?_ | fail)
 refine HD.one I ?_
 refine HL.callO fn170 I I (fun w1 hw1 => lforget_any n.links to _ w1 ((Rd.own 3 rfl).at hw1) (by omega)) ?_
 intro v2
 refine HL.shape 0 I fun a2 c2 hv => ?_
 subst hv
 refine HL.back [1, 2] I I ?_
 repeat' (first | refine zd ?_ | fail)
 refine HD.last I ?_
 repeat' (first | refine zn ?_ | intro (bk : Nat))
 refine HR.ent (Ent.pick [6, 2, 1, 3, 0, 5, 7, 8, 9, 10, 11] I I) ?_
 repeat' (first | refine zh ?_ | refine HL.mkF (g := 172) (caps := [_]) I I ?_ | intro (bk : Nat))
 refine HL.callW (r := fun z : Value => z) (Q := fun _ => True) (G0 := [cI (sv V.ch n.children.length) n.children, tiC bt to]) (H0 := [_, _, _, _, _, _, _, _, _]) (G := fun z => [ownC z 3 1 (n.children.filter fun c => !(c == to)).length (cellsOf iC (n.children.filter fun c => !(c == to))), tiC bt to]) fn171 I I I (fun w1 hw1 => delFI_any n.children to bt _ _ w1 (hw1.pick [0, 1] I I) (by omega)) ?_
 intro z _
 refine HL.shape 0 I fun a3 c3 hv => ?_
 subst hv
 repeat' (first | refine zh ?_ | intro (bk : Nat))
 refine HR.ent (Ent.pick [2, 1, 3, 4, 5, 0, 6, 7, 8, 9, 10] I I) ?_
 refine HR.regionQ hmix (by kernel_rfl) ?_
 repeat' (first | refine zq ?_ | apply zb ?_ ?_ | exact zc | (refine zi fun hb => ?_; try simp at hb))
 refine HR.cond I (fun h2 => ?_) (fun h2 => ?_)
 ·have h2 : n.parent = to := eq_of_beq h2
  rw [if_pos h2]
  repeat' (first | refine zh ?_ | intro (bk : Nat))
  refine HR.fin Tryz.func93 I [] (fun _ _ => trivial) ?_
  exact fun w' hw => ⟨((a1, c1), (a2, c2), (a3, c3)), rfl, trivial, hw.pick [0, 2, 3, 4, 5, 6, 7, 8, 9, 10] I rfl⟩
 ·have h2 : (n.parent == to) = false := h2
  have h2 : ¬ n.parent = to := by simpa using h2
  rw [if_neg h2]
  repeat' (first | refine zh ?_ | intro (bk : Nat))
  refine HR.fin Tryz.func93 I [] (fun _ _ => trivial) ?_
  exact fun w' hw => ⟨((a1, c1), (a2, c2), (a3, c3)), rfl, trivial, hw.pick [0, 2, 3, 4, 5, 6, 7, 8, 9, 10] I rfl⟩
theorem result1_any (bf : Nat) (f : Fr) (x : Sn) (w : World) (hcap : Sl w (.slice (some ⟨bf, 0, none⟩) 9 9) (frC f) 9) : Calls Tryz.prog 89 #[.agg ⟨snC x⟩, .pointer (some ⟨bf, 0, none⟩)] w fun e w' => e = .returned (.bool (hits f x)) ∧ Below w.heap.size w w' := by
 refine calls_hr Tryz.func89 I (Nat.le_of_ble_eq_true I) ?_
 refine HR.sub (σ' := [(0, .agg ⟨snC x⟩), (1, .pointer (some ⟨bf, 0, none⟩))]) ⟨I, I, trivial⟩ ?_
 repeat' (first | refine zh ?_ | refine HL.loadI (j := 0) (Rd.arg hcap) I I I I I ?_ | refine HL.loadI (j := 3) (Rd.arg hcap) I I I I I ?_ | refine HL.loadI (j := 5) (Rd.arg hcap) I I I I I ?_ | apply zb ?_ ?_ | exact zc | (refine zi fun hb => ?_; try simp at hb) | intro (bk : Nat))
 refine HR.ret Tryz.func89 I [_] (fun _ _ => ⟨I, trivial⟩) ?_
 exact fun w' hw => ⟨rfl, hw.belowB⟩
theorem giveUp_parts (n : Nd) (to : Int) : (giveUp n to).parts = n.parts := by
 by_cases h : Tp.okN to = false
 ·unfold giveUp; rw [if_pos h]; rfl
 ·unfold giveUp; rw [if_neg h]; rfl
theorem sresult_any (V : NV) (n : Nd) (f : Fr) (ok : Bool) (w : World) (h : OkN w V n) (hs : SmN n) :
  Calls Tryz.prog 44 #[.agg ⟨ndC V n⟩, .agg ⟨frC f⟩, .bool ok] w fun e w' => ∃ V' : NV, e = .returned (.agg ⟨ndC V' (result n f ok)⟩) ∧ Pts V' (result n f ok) ∧ Sat (base w) (ndH V' (result n f ok)) w' := by
 obtain ⟨m, hm⟩ : ∃ m, m = order n := ⟨_, rfl⟩
 have ho : Ord m := by rw [hm]; exact order_ord n
 have h16 := ho.out
 have hsp : result n f ok = match m.out.findIdx? (hits f) with
  | none => m
  | some i => if (mres m.out i ok).2 then giveUp (if Tp.okN f.dst then { m with out := (mres m.out i ok).1, links := lseen m.links f.dst ok } else { m with out := (mres m.out i ok).1 }) f.dst else (if Tp.okN f.dst then { m with out := (mres m.out i ok).1, links := lseen m.links f.dst ok } else { m with out := (mres m.out i ok).1 }) := by rw [hm]; rfl
 obtain ⟨Z, hZ⟩ : ∃ Z, Z = result n f ok := ⟨_, rfl⟩
 rw [← hZ]
 rw [hsp] at hZ
 refine calls_hr Tryz.func44 I (Nat.le_of_ble_eq_true I) ?_
 refine HR.sub (σ' := [(0, .agg ⟨ndC V n⟩), (1, .agg ⟨frC f⟩), (2, .bool ok)]) ⟨I, I, I, trivial⟩ ?_
 refine HR.ctl I ?_
 refine HR.region ?_
 refine HL.box I I ?_
 intro bn
 refine HL.box I I ?_
 intro bf
 repeat' (first | refine zh ?_ | intro (bk : Nat))
 refine HL.callX (r := fun x : Nat × NV => ptr x.1) (Q := fun x => Pts x.2 m) (G := fun x => stH x.1 x.2 m (tick 0)) fn68 I I (fun w1 hw1 => by rw [hm]; exact enter_any V n 0 w1 (h.ext hw1.belowB) hs) ?_
 rintro ⟨b, V2⟩ hP
 have hP : Pts V2 m := hP
 refine HL.ent (Ent.pick [10, 11, 0, 1, 2, 3, 4, 5, 6, 7, 8, 9] I I) ?_
 repeat' (first | refine zh ?_ | refine HL.mkF (g := 89) (caps := [_]) I I ?_ | refine HL.callB fn88 I I (fun w1 hw1 => indexFSn_any m.out (hits f) 89 [.pointer (some ⟨bf, 0, none⟩)] (sv V2.ou m.out.length) w1 fn89 (fun a ha w2 hb => result1_any bf f a w2 (((Rd.blk (n := 9) 1 rfl).at hw1).ext hb)) ((Rd.own 5 rfl).at hw1) (by omega)) ?_ | intro (bk : Nat))
 rcases fidx_cases (hits f) m.out with ⟨e1, e2, _⟩ | ⟨i, x, e1, e2, e3, _⟩
 ·rw [e2] at hZ
  have hZ : Z = m := hZ
  rw [e1, hZ]
  repeat' (first | refine zh ?_ | intro (bk : Nat))
  refine HR.ret Tryz.func44 I [_] (fun w hw => ⟨⟨_, rfl, loadVarR hw 0 I I I I rfl⟩, trivial⟩) ?_
  exact fun w' hw => ⟨V2, rfl, hP, hw.pick [3, 4, 5, 6, 7, 8, 9, 10, 11] I rfl⟩
 rw [e2] at hZ
 rw [e1]
 have hmr := mres_len m.out i ok
 obtain ⟨r, hr⟩ : ∃ r, r = mres m.out i ok := ⟨_, rfl⟩
 rw [← hr] at hmr
 have hm1 := ho.setOut hmr
 have hml : Ord { m with out := r.1, links := lseen m.links f.dst ok } := hm1.setLinks (lseen_ok _ _ _)
 have hl24 := llen ho
 obtain ⟨m2, hm2⟩ : ∃ m2, m2 = if Tp.okN f.dst then { m with out := r.1, links := lseen m.links f.dst ok } else { m with out := r.1 } := ⟨_, rfl⟩
 have ho2 : Ord m2 := by rw [hm2]; split; exact hml; exact hm1
 have hp2 : m2.parts = m.parts := by rw [hm2]; split <;> rfl
 have hZ : Z = if r.2 = true then giveUp m2 f.dst else m2 := by rw [hZ, hm2, hr]
 rw [hZ]
 repeat' (first | refine zh ?_ | intro (bk : Nat))
 refine HL.callX (r := fun v' : Value => .tuple ⟨[v', .bool r.2]⟩) (Q := fun _ => True) (G := fun v' => [cSn v' r.1]) fn90 I I (fun w1 hw1 => by rw [hr]; exact mresult_any m.out i ok _ w1 ((Rd.own 5 rfl).at hw1) (by omega)) ?_
 intro v1 _
 refine HL.shape 0 I fun a c hv => ?_
 subst hv
 repeat' (first | refine zh ?_ | refine HL.callB fn91 I I (fun w _ => inside_any f.dst w) ?_ | intro (bk : Nat))
 refine HR.ent (H' := _ :: _ :: stH b { V2 with ou := (a, c) } { m with out := r.1 } (tick 0)) (Ent.pick [1, 2, 3, 4, 5, 0, 7, 8, 9, 10, 11, 12] I I) ?_
 refine HR.join (ι := SV) (fun _ => True) (fun _ => [(6, ptr bk), (4, ptr bf), (7, ptr b), (10, .bool r.2)]) (fun x => blkC bk zerC 62 :: blkC bf (frC f) 75 :: stH b { V2 with ou := (a, c), li := x } m2 (tick 0)) (fun x _ => ?_) (fun hj => ?_)
 rotate_left
 ·refine HR.cond I (fun h1 => ?_) (fun h1 => ?_)
  ·have h1 : Tp.okN f.dst = true := h1
   rw [h1, if_pos rfl] at hm2
   repeat' (first | refine zh ?_ | intro (bk : Nat))
   refine HR.regionY [(0, true), (1, true), (2, true), (3, true), (4, true), (5, true), (6, true), (7, true), (8, true), (9, false), (10, true), (11, true), (12, true)] 13 [1, 2] I I hmix (by kernel_rfl) ?_
   repeat' (first | refine zd ?_ | fail)
   refine HD.one I ?_
   refine HL.callO fn92 I I (fun w1 hw1 => lseen_any m.links f.dst ok _ w1 ((Rd.own 4 rfl).at hw1) (by omega)) ?_
   intro v2
   refine HL.shape 0 I fun a2 c2 hv => ?_
   subst hv
   refine HL.back [2, 3] I I ?_
   repeat' (first | refine zd ?_ | fail)
   refine HD.last I ?_
   repeat' (first | refine zn ?_ | intro (bk : Nat))
   refine hj (a2, c2) _ _ trivial ⟨I, I, I, I, trivial⟩ ?_
   rw [hm2]
   exact Ent.pick [1, 2, 3, 4, 0, 6, 7, 8, 9, 10, 11, 12] I I
  ·have h1 : Tp.okN f.dst = false := h1
   rw [h1, if_neg (by decide)] at hm2
   refine HR.skip ?_
   refine hj V2.li _ _ trivial ⟨I, I, I, I, trivial⟩ ?_
   rw [hm2]
   exact Ent.refl
 repeat' (first | refine zh ?_ | intro (bk : Nat))
 refine HR.cond I (fun h1 => ?_) (fun h1 => ?_)
 ·have h1 : r.2 = true := h1
  rw [if_pos h1]
  repeat' (first | refine zh ?_ | intro (bk : Nat))
  refine HL.ent (Ent.pick [2, 3, 4, 5, 6, 7, 8, 9, 10, 11, 0] I I) ?_
  refine HL.callW (r := fun _ : SV × SV × SV => .tuple ⟨[]⟩) (Q := fun _ => True) (G0 := stH b { V2 with ou := (a, c), li := x } m2 (tick 0)) (H0 := [_]) (G := fun y => stH b { V2 with ou := (a, c), ta := y.1, li := y.2.1, ch := y.2.2 } (giveUp m2 f.dst) (tick 0)) fn93 I I I (fun w1 hw1 => sgiveUp_any b { V2 with ou := (a, c), li := x } m2 (tick 0) f.dst _ w1 (hw1.pick [0, 1, 2, 3, 4, 5, 6, 7, 8, 9] I I) ho2) ?_
  intro y _
  refine HL.ent (Ent.pick [10, 0, 1, 2, 3, 4, 5, 6, 7, 8, 9] I I) ?_
  repeat' (first | refine zh ?_ | intro (bk : Nat))
  refine HR.ret Tryz.func44 I [_] (fun w hw => ⟨⟨_, rfl, loadVarR hw 0 I I I I rfl⟩, trivial⟩) ?_
  exact fun w' hw => ⟨{ V2 with ou := (a, c), ta := y.1, li := y.2.1, ch := y.2.2 }, rfl, ⟨by rw [giveUp_parts, hp2]; exact hP.eq, hP.sh⟩, hw.pick [2, 3, 4, 5, 6, 7, 8, 9, 10] I rfl⟩
 ·have h1 : r.2 = false := h1
  rw [if_neg (by rw [h1]; decide)]
  repeat' (first | refine zh ?_ | intro (bk : Nat))
  refine HR.ret Tryz.func44 I [_] (fun w hw => ⟨⟨_, rfl, loadVarR hw 0 I I I I rfl⟩, trivial⟩) ?_
  exact fun w' hw => ⟨{ V2 with ou := (a, c), li := x }, rfl, ⟨by rw [hp2]; exact hP.eq, hP.sh⟩, hw.pick [3, 4, 5, 6, 7, 8, 9, 10, 11] I rfl⟩
end Go.Proofs.YtgfdoognildoeaaGreat
namespace Go.Proofs.YtgfdoognildoeaaGreat
open Go.GX Go.RowKit
attribute [local irreducible] Calls Run RunL RunQ RunD HR HL HD blkC ownC mapC Rd slicesC iterC
open Nd
theorem fn79 : IsFn Tryz.prog 79 := ⟨⟨_, _, Tryz.func79, rfl, by decide⟩⟩
theorem box_is (n : Nd) (f : Fr) (now : Int) : ∃ q l, box n f now = { n with boxes := q, lost := l } := by
 by_cases h : (bput n.boxes f now).2 = false ∨ (bput n.boxes f now).1.length = n.boxes.length
 ·exact ⟨(bput n.boxes f now).1, min (n.lost + 1) maxTick, by unfold box lose; simp only [if_pos h]⟩
 ·exact ⟨(bput n.boxes f now).1, n.lost, by unfold box; simp only [if_neg h]⟩
theorem box_parts (n : Nd) (f : Fr) (now : Int) : (box n f now).parts = n.parts := by obtain ⟨q, l, e⟩ := box_is n f now; rw [e]
theorem boxes_parts (now : Int) : ∀ (l : List Fr) (n : Nd), (l.foldl (fun n f => box n f now) n).parts = n.parts
 | [], _ => rfl
 | f :: l, n => (boxes_parts now l (box n f now)).trans (box_parts n f now)
theorem asleep_parts (n : Nd) (now : Int) : (asleep n now).parts = n.parts := by unfold asleep; exact boxes_parts now _ _
theorem beacon_parts (n : Nd) : (beacon n).parts = n.parts := by
 unfold beacon; split
 ·exact (queue_parts _ _).trans I
 ·rfl
theorem poll_parts (n : Nd) : (poll n).parts = n.parts := by
 unfold poll; split
 ·exact (queue_parts _ _).trans I
 ·rfl
theorem ptG_mem {L : List PtV} {p : PtV} (h : p ∈ L) : ptH p ∈ ptG L ∧ ptD p ∈ ptG L := by
 unfold ptG
 exact ⟨List.mem_flatMap.2 ⟨p, h, List.mem_cons_self ..⟩, List.mem_flatMap.2 ⟨p, h, List.mem_cons_of_mem _ (List.mem_cons_self ..)⟩⟩
theorem RdPts.own {B : Base} {H : List Chunk} {w : World} {v : Value} {L : List PtV} (i j : Nat) (hw : Sat B H w) (hi : nthC H i = some (cPt v L)) (hj : nthC H j = some (groupC (ptG L))) : RdPts w v L :=
 ⟨(Rd.own i hi).at hw, fun p hp => ⟨(Rd.group j hj (ptG_mem hp).1).at hw, (Rd.group j hj (ptG_mem hp).2).at hw⟩⟩
theorem stick_any (V : NV) (n : Nd) (now : Int) (w : World) (h : OkN w V n) (hs : SmN n) (hf : ∀ s ∈ n.out, fits .i64 s.wt) :
  Calls Tryz.prog 79 #[.agg ⟨ndC V n⟩, .int .i64 now] w fun e w' => ∃ V' : NV, e = .returned (.agg ⟨ndC V' (tickN n now)⟩) ∧ Pts V' (tickN n now) ∧ Sat (base w) (ndH V' (tickN n now)) w' := by
 obtain ⟨m, hm⟩ : ∃ m, m = order n := ⟨_, rfl⟩
 have ho : Ord m := by rw [hm]; exact order_ord n
 have h16 := ho.out
 have hb16 := ho.boxes
 have hmf : ∀ s ∈ m.out, fits .i64 s.wt := fun s hs => hf s (List.mem_of_mem_take (by rw [hm] at hs; exact hs))
 have hmp : m.parts = n.parts := by rw [hm]; rfl
 obtain ⟨T, hT⟩ : ∃ T, T = tick now := ⟨_, rfl⟩
 have ht0 : 0 ≤ T := by rw [hT]; unfold tick clamp; omega
 obtain ⟨a, ha⟩ : ∃ a, a = asleep { m with out := mtick m.out, boxes := bexp m.boxes T 120, parts := pexp m.parts T 120 } T := ⟨_, rfl⟩
 obtain ⟨g, hg⟩ : ∃ g, g = if a.poll = 0 ∧ T % 8 = a.addr % 8 then beacon a else a := ⟨_, rfl⟩
 have hsp : tickN n now = if g.poll > 0 ∧ g.parent ≠ 255 ∧ T % g.poll = 0 then poll g else g := by rw [hg, ha, hT, hm]; rfl
 have ho1 : Ord { m with out := mtick m.out, boxes := bexp m.boxes T 120, parts := pexp m.parts T 120 } := ((ho.setOut (mtick_len m.out)).setBoxes (bexp_len m.boxes T 120)).setParts _
 have hao : Ord a := by rw [ha]; exact (asleep_good (Good.refl ho1) T).ord
 have hap : a.parts = pexp m.parts T 120 := by rw [ha]; exact asleep_parts _ _
 have hgo : Ord g := by rw [hg]; split; exact (beacon_good (Good.refl hao)).ord; exact hao
 have hgp : g.parts = pexp m.parts T 120 := by rw [hg, ← hap]; split; exact beacon_parts _; rfl
 have ha8 := ((okN_iff _).1 hao.addr).1
 rw [hsp]
 refine calls_hr Tryz.func79 I (Nat.le_of_ble_eq_true I) ?_
 refine HR.sub (σ' := [(0, .agg ⟨ndC V n⟩), (1, .int .i64 now)]) ⟨I, I, trivial⟩ ?_
 repeat' (first | refine zh ?_ | intro (bk : Nat))
 refine HL.callX (r := fun x : Nat × NV => ptr x.1) (Q := fun x => Pts x.2 m) (G := fun x => stH x.1 x.2 m T) fn68 I I (fun w1 hw1 => by rw [hm, hT]; exact enter_any V n now w1 (h.ext hw1.belowB) hs) ?_
 rintro ⟨b, V2⟩ hP
 have hP : Pts V2 m := hP
 have hpl : V2.ps.length ≤ 1000 := by rw [← pts_len, hP.eq, hmp]; exact hs.pa
 have hps : ∀ p ∈ V2.ps, SmPt p.pt := fun p hp => hs.sm p.pt (by rw [← hmp, ← hP.eq]; exact List.mem_map.2 ⟨p, hp, rfl⟩)
 refine HL.ent (Ent.pick [10, 0, 1, 2, 3, 4, 5, 6, 7, 8, 9] I I) ?_
 repeat' (first | refine zh ?_ | refine HL.callO fn150 I I (fun w1 hw1 => mtick_any m.out _ w1 ((Rd.own 4 rfl).at hw1) (by omega) hmf) ?_ | intro (bk : Nat))
 intro v1
 refine HL.shape 0 I fun a1 c1 hv => ?_
 subst hv
 repeat' (first | refine zh ?_ | intro (bk : Nat))
 refine HR.ent (Ent.pick [1, 2, 3, 4, 0, 6, 7, 8, 9, 10, 11] I I) ?_
 refine HR.regionY [(0, true), (1, true), (2, true), (3, true), (4, true), (5, true), (6, true), (7, true), (8, true), (9, true), (10, false), (11, true), (12, true), (13, true)] 14 [1] I I hmix (by kernel_rfl) ?_
 repeat' (first | refine zd ?_ | fail)
 refine HD.one I ?_
 refine HL.callO fn151 I I (fun w1 hw1 => bexp_any m.boxes T 120 _ w1 ((Rd.own 6 rfl).at hw1) (by omega)) ?_
 intro v2
 refine HL.shape 0 I fun a2 c2 hv => ?_
 subst hv
 refine HL.back [2] I I ?_
 repeat' (first | refine zd ?_ | fail)
 refine HD.last I ?_
 repeat' (first | refine zn ?_ | intro (bk : Nat))
 refine HR.ent (Ent.pick [1, 2, 3, 4, 5, 6, 0, 8, 9, 10, 11] I I) ?_
 repeat' (first | refine zh ?_ | intro (bk : Nat))
 refine HR.regionY [(0, true), (1, true), (2, true), (3, true), (4, true), (5, true), (6, true), (7, true), (8, true), (9, true), (10, false), (11, true), (12, true), (13, true)] 14 [1] I I hmix (by kernel_rfl) ?_
 repeat' (first | refine zd ?_ | fail)
 refine HD.one I ?_
 refine HL.callX (r := fun x : Value × List PtV => x.1) (Q := fun x => GdPts x (pexp (pts V2.ps) T 120)) (G := fun x => ptsC x) fn152 I I (fun w1 hw1 => fexp_any V2.ps T 120 _ w1 (RdPts.own 8 9 hw1 I I) hps hpl) ?_
 rintro ⟨v3, ps⟩ ⟨hg1, hg2⟩
 have hq1 : pts ps = pexp m.parts T 120 := by rw [← hP.eq]; exact hg1
 have hq2 : ∀ p ∈ ps, ShPt p := hg2
 refine HL.shape (v := v3) (e := 173) (sz := 6) (n := ps.length) (xs := cellsOf ptC ps) 0 I fun a3 c3 hv => ?_
 subst hv
 refine HL.back [3] I I ?_
 repeat' (first | refine zd ?_ | fail)
 refine HD.last I ?_
 repeat' (first | refine zn ?_ | intro (bk : Nat))
 obtain ⟨V3, hV3⟩ : ∃ V3 : NV, V3 = ⟨V2.ta, V2.li, (a1, c1), V2.ch, (a2, c2), V2.se, (a3, c3), V2.ib, ps⟩ := ⟨_, rfl⟩
 have hps3 : V3.ps = ps := by rw [hV3]
 refine HR.ent (H' := _ :: stH b ⟨V2.ta, V2.li, (a1, c1), V2.ch, (a2, c2), V2.se, (a3, c3), V2.ib, ps⟩ { m with out := mtick m.out, boxes := bexp m.boxes T 120, parts := pexp m.parts T 120 } T) (Ent.pick [2, 3, 4, 5, 6, 7, 8, 9, 0, 1, 12] I I) ?_
 rw [← hV3]
 repeat' (first | refine zh ?_ | intro (bk : Nat))
 refine HL.ent (Ent.pick [1, 2, 3, 4, 5, 6, 7, 8, 9, 10, 0] I I) ?_
 refine HL.callW (r := fun _ : SV × SV => .tuple ⟨[]⟩) (Q := fun _ => True) (G0 := stH b V3 { m with out := mtick m.out, boxes := bexp m.boxes T 120, parts := pexp m.parts T 120 } T) (H0 := [_]) (G := fun x => stH b { V3 with ou := x.1, bo := x.2 } a T) fn153 I I I (fun w1 hw1 => by rw [ha]; exact sasleep_any b V3 _ T _ w1 (hw1.pick [0, 1, 2, 3, 4, 5, 6, 7, 8, 9] I I) ho1) ?_
 rintro ⟨x1, x2⟩ _
 repeat' (first | refine zh ?_ | intro (bk : Nat))
 refine HR.regionQ hmix (by kernel_rfl) ?_
 repeat' (first | refine zq ?_ | apply zb ?_ ?_ | exact zc | (refine zi fun hb => ?_; try simp at hb))
 refine HR.join (ι := SV × SV) (fun _ => True) (fun _ => [(4, ptr bk), (5, ptr b)]) (fun y => stH b { V3 with bo := x2, ta := y.1, ou := y.2 } g T ++ [blkC bk zerC 62]) (fun y _ => ?_) (fun hj => ?_)
 rotate_left
 ·refine HR.cond I (fun h1 => ?_) (fun h1 => ?_)
  ·have h1 : ((a.poll == 0) && (T % 8 == a.addr % 8)) = true := h1
   have h2 : a.poll = 0 ∧ T % 8 = a.addr % 8 := by simpa using h1
   rw [if_pos h2] at hg
   refine HR.region ?_
   repeat' (first | refine zn ?_ | apply zb ?_ ?_ | exact zc | (refine zi fun hb => ?_; try simp at hb) | intro (bk : Nat))
   refine HL.callW (r := fun _ : SV × SV => .tuple ⟨[]⟩) (Q := fun _ => True) (G0 := stH b { V3 with ou := x1, bo := x2 } a T) (H0 := [_]) (G := fun y => stH b { V3 with bo := x2, ta := y.1, ou := y.2 } g T) fn154 I I I (fun w1 hw1 => by rw [hg]; exact sbeacon_any b { V3 with ou := x1, bo := x2 } a T _ w1 (hw1.pick [0, 1, 2, 3, 4, 5, 6, 7, 8, 9] I I) hao) ?_
   intro y _
   repeat' (first | refine zn ?_ | apply zb ?_ ?_ | exact zc | (refine zi fun hb => ?_; try simp at hb) | intro (bk : Nat))
   exact hj y _ _ trivial ⟨I, I, trivial⟩ Ent.refl
  ·have h1 : ((a.poll == 0) && (T % 8 == a.addr % 8)) = false := h1
   have h2 : ¬ (a.poll = 0 ∧ T % 8 = a.addr % 8) := by simpa using h1
   rw [if_neg h2] at hg
   refine HR.skip ?_
   refine hj (V3.ta, x1) _ _ trivial ⟨I, I, trivial⟩ ?_
   rw [hg]
   exact Ent.refl
 obtain ⟨y1, y2⟩ := y
 repeat' (first | refine zh ?_ | intro (bk : Nat))
 refine HR.regionQ hmix (by kernel_rfl) ?_
 repeat' (first | refine zq ?_ | apply zb ?_ ?_ | exact zc | (refine zi fun hb => ?_; try simp at hb))
 refine HR.cond I (fun h1 => ?_) (fun h1 => ?_)
 ·have h1 : ((decide (g.poll > 0) && !(g.parent == 255)) && (T % g.poll == 0)) = true := h1
  have h2 : g.poll > 0 ∧ g.parent ≠ 255 ∧ T % g.poll = 0 := by simpa [and_assoc] using h1
  rw [if_pos h2]
  repeat' (first | refine zh ?_ | intro (bk : Nat))
  refine HL.callW (r := fun _ : SV × SV => .tuple ⟨[]⟩) (Q := fun _ => True) (G0 := stH b { V3 with bo := x2, ta := y1, ou := y2 } g T) (H0 := [_]) (G := fun y => stH b { V3 with bo := x2, ta := y.1, ou := y.2 } (poll g) T) fn155 I I I (fun w1 hw1 => spoll_any b { V3 with bo := x2, ta := y1, ou := y2 } g T _ w1 (hw1.pick [0, 1, 2, 3, 4, 5, 6, 7, 8, 9] I I) hgo) ?_
  intro z _
  refine HL.ent (Ent.pick [10, 0, 1, 2, 3, 4, 5, 6, 7, 8, 9] I I) ?_
  repeat' (first | refine zh ?_ | intro (bk : Nat))
  refine HR.ret Tryz.func79 I [_] (fun w hw => ⟨⟨_, rfl, loadVarR hw 0 I I I I rfl⟩, trivial⟩) ?_
  exact fun w' hw => ⟨{ V3 with bo := x2, ta := z.1, ou := z.2 }, rfl, ⟨by rw [poll_parts, hgp, ← hq1, hV3], by rw [hV3]; exact hq2⟩, hw.pick [2, 3, 4, 5, 6, 7, 8, 9, 10] I rfl⟩
 ·have h1 : ((decide (g.poll > 0) && !(g.parent == 255)) && (T % g.poll == 0)) = false := h1
  have h2 : ¬ (g.poll > 0 ∧ g.parent ≠ 255 ∧ T % g.poll = 0) := by
   intro e
   have : ((decide (g.poll > 0) && !(g.parent == 255)) && (T % g.poll == 0)) = true := by simpa [and_assoc] using e
   rw [h1] at this; cases this
  rw [if_neg h2]
  refine HR.skip ?_
  refine HR.ent (Ent.pick [10, 0, 1, 2, 3, 4, 5, 6, 7, 8, 9] I I) ?_
  repeat' (first | refine zh ?_ | intro (bk : Nat))
  refine HR.ret Tryz.func79 I [_] (fun w hw => ⟨⟨_, rfl, loadVarR hw 0 I I I I rfl⟩, trivial⟩) ?_
  exact fun w' hw => ⟨{ V3 with bo := x2, ta := y1, ou := y2 }, rfl, ⟨by rw [hgp, ← hq1, hV3], by rw [hV3]; exact hq2⟩, hw.pick [2, 3, 4, 5, 6, 7, 8, 9, 10] I rfl⟩
end Go.Proofs.YtgfdoognildoeaaGreat
namespace Go.Proofs.YtgfdoognildoeaaGreat
open Go.GX Go.RowKit
attribute [local irreducible] Calls Run RunL RunQ RunD HR HL HD blkC ownC mapC Rd slicesC iterC
open Nd
theorem fn80 : IsFn Tryz.prog 80 := ⟨⟨_, _, Tryz.func80, rfl, by decide⟩⟩
theorem mres_false {q : List Sn} {i : Nat} (h16 : q.length ≤ 16) (hi : i < q.length) : ((mres q i false).2 = true ∧ (mres q i false).1.length + 1 = q.length) ∨ ((mres q i false).2 = false ∧ (mres q i false).1.length = q.length) := by
 have ht : q.take 16 = q := List.take_of_length_le h16
 unfold mres
 rw [ht, List.getElem?_eq_getElem hi]
 simp only [Bool.false_eq_true, if_false]
 split
 ·exact .inl ⟨rfl, by show (q.eraseIdx i).length + 1 = _; rw [List.length_eraseIdx_of_lt hi]; omega⟩
 ·exact .inr ⟨rfl, by show (q.set i _).length = _; rw [List.length_set]⟩
abbrev zerF : List Value := [.int .i64 0, .int .i64 0, .int .i64 0, .int .i64 0, .int .i64 0, .int .i64 0, .int .i64 0, .bool false, str []]
abbrev rsC (bk : Nat) : Chunk := blkC bk zerC 62
abbrev rfC (bk : Nat) : Chunk := blkC bk zerF 75
theorem talks_step {T : Int} {K : Nat} {p : Nd} {i : Nat} {x : Sn} (hx : p.out[i]? = some x) : talks T (K + 1) p i =
      if x.wt > 0 then talks T K p (i + 1)
      else if x.f.kd ≠ 2 ∨ x.f.dst ≠ 255 then (p, x.f, true)
      else if p.poll = 0 ∧ isChild p x.f.ta = true then talks T K (box { p with out := p.out.eraseIdx i } { x.f with dst := x.f.ta } T) i
      else if (hop p x.f.ta).2 then (p, { x.f with dst := (hop p x.f.ta).1 }, true)
      else if (mres p.out i false).2 then talks T K (lose { p with out := (mres p.out i false).1 }) i
      else talks T K { p with out := (mres p.out i false).1 } (i + 1) := by
  rw [talks, hx]
theorem stalk_any (V : NV) (n : Nd) (now : Int) (w : World) (h : OkN w V n) (hs : SmN n) :
  Calls Tryz.prog 80 #[.agg ⟨ndC V n⟩, .int .i64 now] w fun e w' => ∃ V' : NV, e = .returned (.tuple ⟨[.agg ⟨ndC V' (talk n now).1⟩, .agg ⟨frC (talk n now).2.1⟩, .bool (talk n now).2.2]⟩) ∧ Pts V' (talk n now).1 ∧ Sat (base w) (ndH V' (talk n now).1) w' := by
 obtain ⟨m, hm⟩ : ∃ m, m = order n := ⟨_, rfl⟩
 have ho : Ord m := by rw [hm]; exact order_ord n
 have h16 := ho.out
 obtain ⟨T, hT⟩ : ∃ T, T = tick now := ⟨_, rfl⟩
 obtain ⟨Z, hZ⟩ : ∃ Z, Z = talk n now := ⟨_, rfl⟩
 have hZ0 : Z = talks T 17 m 0 := by rw [hZ, hT, hm]; rfl
 rw [← hZ]
 refine calls_hr Tryz.func80 I (Nat.le_of_ble_eq_true I) ?_
 refine HR.sub (σ' := [(0, .agg ⟨ndC V n⟩), (1, .int .i64 now)]) ⟨I, I, trivial⟩ ?_
 refine HR.ctl I ?_
 refine HR.region ?_
 refine HL.box I I ?_
 intro bn
 refine HL.alloc I I ?_
 intro br
 refine HL.alloc I I ?_
 intro bf
 repeat' (first | refine zh ?_ | intro (bk : Nat))
 refine HL.callX (r := fun x : Nat × NV => ptr x.1) (Q := fun x => Pts x.2 m) (G := fun x => stH x.1 x.2 m T) fn68 I I (fun w1 hw1 => by rw [hm, hT]; exact enter_any V n now w1 (h.ext hw1.belowB) hs) ?_
 rintro ⟨b, V2⟩ hP
 have hP : Pts V2 m := hP
 refine HL.ent (H' := rsC br :: rfC bf :: stH b V2 m T) (Ent.pick [11, 10, 0, 1, 2, 3, 4, 5, 6, 7, 8, 9] I I) ?_
 repeat' (first | refine zh ?_ | intro (bk : Nat))
 refine HR.loop (ι := Nat × Nat × Nd × SV × SV) (fun x => Ord x.2.2.1 ∧ x.2.2.1.parts = m.parts ∧ Z = talks T x.2.1 x.2.2.1 x.1 ∧ x.1 ≤ x.2.2.1.out.length ∧ x.2.2.1.out.length < x.1 + x.2.1) (fun x => [(4, ptr br), (5, ptr bf), (7, ptr b), (8, .int .i64 (x.1 : Int))]) (fun x => rsC br :: rfC bf :: stH b { V2 with ou := x.2.2.2.1, bo := x.2.2.2.2 } x.2.2.1 T) (fun x => x.2.2.1.out.length - x.1) (0, 17, m, V2.ou, V2.bo) ⟨ho, rfl, hZ0, Nat.zero_le _, by show m.out.length < 0 + 17; omega⟩ ⟨I, I, I, I, trivial⟩ Ent.refl ?_
 rintro ⟨i, K, p, y1, y2⟩ ⟨hpo, hpp, hZ1, hi, hK⟩ ih
 have hpo : Ord p := hpo
 have hpp : p.parts = m.parts := hpp
 have hZ1 : Z = talks T K p i := hZ1
 have hi : i ≤ p.out.length := hi
 have hK : p.out.length < i + K := hK
 have hp16 := hpo.out
 have hp24 := tlen hpo
 have hpk := klen hpo
 obtain ⟨K, rfl⟩ : ∃ K', K = K' + 1 := ⟨K - 1, by omega⟩
 repeat' (first | refine zh ?_ | intro (bk : Nat))
 refine HR.cond I (fun h1 => ?_) (fun h1 => ?_)
 rotate_left
 ·have h1 : ¬ (i : Int) < (p.out.length : Int) := of_decide_eq_false h1
  have hie : i = p.out.length := by omega
  have hZ2 : Z = (p, fr0, false) := by
   rw [hZ1, talks, show p.out[i]? = none from List.getElem?_eq_none (by omega)]
  rw [hZ2]
  repeat' (first | refine zh ?_ | intro (bk : Nat))
  refine HR.ret Tryz.func80 I [_, _, _] (fun w hw => ⟨⟨_, rfl, loadVarR hw 0 I I I I rfl⟩, ⟨_, rfl, loadVarR hw 1 I I I I rfl⟩, rfl, trivial⟩) ?_
  exact fun w' hw => ⟨{ V2 with ou := y1, bo := y2 }, rfl, ⟨by rw [show (p, fr0, false).1.parts = m.parts from hpp]; exact hP.eq, hP.sh⟩, hw.pick [3, 4, 5, 6, 7, 8, 9, 10, 11] I rfl⟩
 have h1 : (i : Int) < (p.out.length : Int) := of_decide_eq_true h1
 have hlt : i < p.out.length := by omega
 obtain ⟨x, hx⟩ := getSome hlt
 rw [talks_step hx] at hZ1
 repeat' (first | refine zh ?_ | refine HL.idxR (Rd.own 5 I) elemSn i I I I I hlt ?_ | refine HL.loadE (Rd.own 5 I) I I I I (by simp) I (cellsOf_get snC_len hx) ?_ | intro (bk : Nat))
 refine HR.cond I (fun h2 => ?_) (fun h2 => ?_)
 ·have h2 : x.wt > 0 := of_decide_eq_true h2
  rw [if_pos h2] at hZ1
  repeat' (first | refine zh ?_ | intro (bk : Nat))
  exact ih (i + 1, K, p, y1, y2) _ _ ⟨hpo, hpp, hZ1, hlt, by show p.out.length < i + 1 + K; omega⟩ (by show p.out.length - (i + 1) < p.out.length - i; omega) ⟨I, I, I, I, trivial⟩ (Ent.pick [2, 3, 4, 5, 6, 7, 8, 9, 10, 11, 12, 13] I I)
 have h2 : ¬ x.wt > 0 := of_decide_eq_false h2
 rw [if_neg h2] at hZ1
 repeat' (first | refine zh ?_ | apply zb ?_ ?_ | exact zc | (refine zi fun hb => ?_; try simp at hb) | intro (bk : Nat))
 refine HR.cond I (fun h3 => ?_) (fun h3 => ?_)
 ·have h3 : (!(x.f.kd == 2) || !(x.f.dst == 255)) = true := h3
  have h4 : x.f.kd ≠ 2 ∨ x.f.dst ≠ 255 := by simpa using h3
  rw [if_pos h4] at hZ1
  rw [hZ1]
  repeat' (first | refine zh ?_ | intro (bk : Nat))
  refine HR.regionD [(0, true), (1, true), (2, true), (3, true), (4, true), (5, false), (6, false), (7, true)] [0, 4] I I hmix (by kernel_rfl) ?_
  repeat' (first | refine zd ?_ | fail)
  refine HD.one I ?_
  refine HL.S 2 I I I I I ?_
  refine HL.back [0, 4] I I ?_
  refine HD.one I ?_
  refine HL.S 3 I I I I I ?_
  refine HL.back [0, 4] I I ?_
  repeat' (first | refine zd ?_ | fail)
  refine HD.nil ?_
  repeat' (first | refine zh ?_ | intro (bk : Nat))
  refine HR.ret Tryz.func80 I [_, _, _] (fun w hw => ⟨⟨_, rfl, loadVarR hw 2 I I I I rfl⟩, ⟨_, rfl, loadVarR hw 3 I I I I rfl⟩, rfl, trivial⟩) ?_
  exact fun w' hw => ⟨{ V2 with ou := y1, bo := y2 }, rfl, ⟨by rw [show (p, x.f, true).1.parts = m.parts from hpp]; exact hP.eq, hP.sh⟩, hw.pick [5, 6, 7, 8, 9, 10, 11, 12, 13] I rfl⟩
 have h3 : (!(x.f.kd == 2) || !(x.f.dst == 255)) = false := h3
 have h4 : ¬ (x.f.kd ≠ 2 ∨ x.f.dst ≠ 255) := by
  intro e
  have : (!(x.f.kd == 2) || !(x.f.dst == 255)) = true := by simpa using e
  rw [h3] at this; cases this
 rw [if_neg h4] at hZ1
 refine HR.skip ?_
 refine HR.ctl I ?_
 refine HR.join (ι := Unit) (fun _ => True) (fun _ => [(4, ptr br), (5, ptr bf), (7, ptr b), (8, .int .i64 (i : Int)), (10, ptr bk), (66, .bool ((p.poll == 0) && isChild p x.f.ta))]) (fun _ => blkC bk (frC x.f) 75 :: rsC br :: rfC bf :: stH b { V2 with ou := y1, bo := y2 } p T) (fun _ _ => ?_) (fun hj => ?_)
 rotate_left
 ·refine HR.region ?_
  repeat' (first | refine zn ?_ | intro (bk : Nat))
  refine HL.split 61 I (fun hb => ?_) (fun hb => ?_)
  ·repeat' (first | refine zn ?_ | intro (bk : Nat))
   refine HL.ent (Ent.pick [4, 5, 6, 7, 8, 9, 10, 11, 12, 13, 0, 2, 3] I I) ?_
   refine HL.callW (r := fun _ : Unit => .bool (isChild p x.f.ta)) (Q := fun _ => True) (G0 := stH b { V2 with ou := y1, bo := y2 } p T) (H0 := [_, _, _]) (G := fun _ => stH b { V2 with ou := y1, bo := y2 } p T) fn156 I I I (fun w1 hw1 => schild_any b { V2 with ou := y1, bo := y2 } p T x.f.ta _ w1 (hw1.pick [0, 1, 2, 3, 4, 5, 6, 7, 8, 9] I I) (by omega) (by omega)) ?_
   intro _ _
   repeat' (first | refine zn ?_ | intro (bk : Nat))
   refine hj () _ _ trivial ⟨rfl, rfl, rfl, rfl, rfl, ?_, trivial⟩ (Ent.pick [10, 11, 12, 0, 1, 2, 3, 4, 5, 6, 7, 8, 9] I I)
   show some (Value.bool (isChild p x.f.ta)) = some (Value.bool ((p.poll == 0) && isChild p x.f.ta))
   rw [show (p.poll == 0) = true from hb]; rfl
  ·repeat' (first | refine zn ?_ | intro (bk : Nat))
   refine hj () _ _ trivial ⟨rfl, rfl, rfl, rfl, rfl, ?_, trivial⟩ (Ent.pick [0, 2, 3, 4, 5, 6, 7, 8, 9, 10, 11, 12, 13] I I)
   show some (Value.bool false) = some (Value.bool ((p.poll == 0) && isChild p x.f.ta))
   rw [show (p.poll == 0) = false from hb]; rfl
 repeat' (first | refine zh ?_ | intro (bk : Nat))
 refine HR.cond I (fun h5 => ?_) (fun h5 => ?_)
 ·have h5 : ((p.poll == 0) && isChild p x.f.ta) = true := h5
  have h6 : p.poll = 0 ∧ isChild p x.f.ta = true := by simpa using h5
  rw [if_pos h6] at hZ1
  have hel : (p.out.eraseIdx i).length = p.out.length - 1 := List.length_eraseIdx_of_lt hlt
  have ho1 : Ord { p with out := p.out.eraseIdx i } := hpo.setOut (by omega)
  repeat' (first | refine zh ?_ | refine HL.callO fn133 I I (fun w1 hw1 => cloneSn_any p.out _ w1 ((Rd.own 6 rfl).at hw1) (by omega)) ?_ | intro (bk : Nat))
  intro v1
  repeat' (first | refine zh ?_ | intro (bk : Nat))
  refine HL.callW (r := fun r : Value => r) (Q := fun _ => True) (G0 := [cSn v1 p.out]) (H0 := [_, _, _, _, _, _, _, _, _, _, _, _, _]) (G := fun r => [cSn r (p.out.eraseIdx i)]) fn157 I I I (fun w1 hw1 => delSn_any p.out i v1 _ w1 (hw1.pick [0] I I) hlt (by omega)) ?_
  intro v2 _
  refine HL.shape 0 I fun a c hv => ?_
  subst hv
  repeat' (first | refine zh ?_ | intro (bk : Nat))
  refine HL.ent (Ent.pick [4, 5, 6, 0, 8, 9, 10, 11, 12, 13, 2, 3] I I) ?_
  refine HL.callW (r := fun _ : SV => .tuple ⟨[]⟩) (Q := fun _ => True) (G0 := stH b { V2 with ou := (a, c), bo := y2 } { p with out := p.out.eraseIdx i } T) (H0 := [_, _]) (G := fun z => stH b { V2 with ou := (a, c), bo := z } (box { p with out := p.out.eraseIdx i } { x.f with dst := x.f.ta } T) T) fn158 I I I (fun w1 hw1 => sbox_any b { V2 with ou := (a, c), bo := y2 } { p with out := p.out.eraseIdx i } T { x.f with dst := x.f.ta } _ w1 (hw1.pick [0, 1, 2, 3, 4, 5, 6, 7, 8, 9] I I) ho1) ?_
  intro z _
  have hbo : (box { p with out := p.out.eraseIdx i } { x.f with dst := x.f.ta } T).out.length = p.out.length - 1 := by
   obtain ⟨q, l, e⟩ := box_is { p with out := p.out.eraseIdx i } { x.f with dst := x.f.ta } T
   rw [e]; exact hel
  repeat' (first | refine zh ?_ | intro (bk : Nat))
  exact ih (i, K, box { p with out := p.out.eraseIdx i } { x.f with dst := x.f.ta } T, (a, c), z) _ _ ⟨ho1.box _ _, (box_parts _ _ _).trans hpp, hZ1, by rw [show (i, K, box { p with out := p.out.eraseIdx i } { x.f with dst := x.f.ta } T, (a, c), z).2.2.1.out.length = _ from hbo]; show i ≤ _; omega, by rw [show (i, K, box { p with out := p.out.eraseIdx i } { x.f with dst := x.f.ta } T, (a, c), z).2.2.1.out.length = _ from hbo]; show _ < i + K; omega⟩ (by show (box { p with out := p.out.eraseIdx i } { x.f with dst := x.f.ta } T).out.length - i < p.out.length - i; omega) ⟨I, I, I, I, trivial⟩ (Ent.pick [10, 11, 0, 1, 2, 3, 4, 5, 6, 7, 8, 9] I I)
 have h5 : ((p.poll == 0) && isChild p x.f.ta) = false := h5
 have h6 : ¬ (p.poll = 0 ∧ isChild p x.f.ta = true) := by
  intro e
  have : ((p.poll == 0) && isChild p x.f.ta) = true := by simpa using e
  rw [h5] at this; cases this
 rw [if_neg h6] at hZ1
 repeat' (first | refine zh ?_ | intro (bk : Nat))
 refine HL.ent (Ent.pick [3, 4, 5, 6, 7, 8, 9, 10, 11, 12, 0, 1, 2] I I) ?_
 refine HL.callW (r := fun _ : Unit => .tuple ⟨[.int .i64 (hop p x.f.ta).1, .bool (hop p x.f.ta).2]⟩) (Q := fun _ => True) (G0 := stH b { V2 with ou := y1, bo := y2 } p T) (H0 := [_, _, _]) (G := fun _ => stH b { V2 with ou := y1, bo := y2 } p T) fn159 I I I (fun w1 hw1 => shop_any b { V2 with ou := y1, bo := y2 } p T x.f _ w1 (hw1.pick [0, 1, 2, 3, 4, 5, 6, 7, 8, 9] I I) (by omega)) ?_
 intro _ _
 refine HL.ent (Ent.pick [10, 11, 12, 0, 1, 2, 3, 4, 5, 6, 7, 8, 9] I I) ?_
 repeat' (first | refine zh ?_ | intro (bk : Nat))
 refine HR.cond I (fun h7 => ?_) (fun h7 => ?_)
 ·have h7 : (hop p x.f.ta).2 = true := h7
  rw [if_pos h7] at hZ1
  rw [hZ1]
  repeat' (first | refine zh ?_ | intro (bk : Nat))
  refine HR.regionD [(0, true), (1, true), (2, true), (3, true), (4, true), (5, false), (6, false), (7, true)] [0, 3] I I hmix (by kernel_rfl) ?_
  repeat' (first | refine zd ?_ | fail)
  refine HD.one I ?_
  refine HL.S 1 I I I I I ?_
  refine HL.back [0, 3] I I ?_
  refine HD.one I ?_
  refine HL.S 2 I I I I I ?_
  refine HL.back [0, 3] I I ?_
  repeat' (first | refine zd ?_ | fail)
  refine HD.nil ?_
  repeat' (first | refine zh ?_ | intro (bk : Nat))
  refine HR.ret Tryz.func80 I [_, _, _] (fun w hw => ⟨⟨_, rfl, loadVarR hw 1 I I I I rfl⟩, ⟨_, rfl, loadVarR hw 2 I I I I rfl⟩, rfl, trivial⟩) ?_
  exact fun w' hw => ⟨{ V2 with ou := y1, bo := y2 }, rfl, ⟨by rw [show (p, ({ x.f with dst := (hop p x.f.ta).1 } : Fr), true).1.parts = m.parts from hpp]; exact hP.eq, hP.sh⟩, hw.pick [4, 5, 6, 7, 8, 9, 10, 11, 12] I rfl⟩
 have h7 : ¬ (hop p x.f.ta).2 = true := by rw [show (hop p x.f.ta).2 = false from h7]; decide
 rw [if_neg h7] at hZ1
 have hmf := mres_false hp16 hlt
 have hml := mres_len p.out i false
 obtain ⟨r, hr⟩ : ∃ r, r = mres p.out i false := ⟨_, rfl⟩
 rw [← hr] at hZ1 hmf hml
 have hor : Ord { p with out := r.1 } := hpo.setOut hml
 repeat' (first | refine zh ?_ | intro (bk : Nat))
 refine HL.callX (r := fun v' : Value => .tuple ⟨[v', .bool r.2]⟩) (Q := fun _ => True) (G := fun v' => [cSn v' r.1]) fn90 I I (fun w1 hw1 => by rw [hr]; exact mresult_any p.out i false _ w1 ((Rd.own 6 rfl).at hw1) (by omega)) ?_
 intro v1 _
 refine HL.shape 0 I fun a c hv => ?_
 subst hv
 repeat' (first | refine zh ?_ | intro (bk : Nat))
 refine HR.ent (Ent.pick [4, 2, 3, 5, 6, 0, 8, 9, 10, 11, 12, 13] I I) ?_
 refine HR.cond I (fun h8 => ?_) (fun h8 => ?_)
 ·have h8 : r.2 = true := h8
  rw [if_pos h8] at hZ1
  have hlen : r.1.length + 1 = p.out.length := by
   rcases hmf with e | e
   ·exact e.2
   ·rw [h8] at e; cases e.1
  repeat' (first | refine zh ?_ | intro (bk : Nat))
  refine HL.callW (r := fun _ : Unit => .tuple ⟨[]⟩) (Q := fun _ => True) (G0 := [blkS b { V2 with ou := (a, c), bo := y2 } { p with out := r.1 } T]) (H0 := [_, _, _, _, _, _, _, _, _, _, _]) (G := fun _ => [blkS b { V2 with ou := (a, c), bo := y2 } (lose { p with out := r.1 }) T]) fn160 I I I (fun w1 hw1 => slose_any b { V2 with ou := (a, c), bo := y2 } { p with out := r.1 } T _ w1 (hw1.pick [0] I I) hpo.lost) ?_
  intro _ _
  repeat' (first | refine zh ?_ | intro (bk : Nat))
  refine HR.cond I (fun h9 => ?_) (fun h9 => ?_)
  ·exact absurd (eq_of_beq h9 : (r.1.length : Int) = (p.out.length : Int)) (by omega)
  repeat' (first | refine zh ?_ | intro (bk : Nat))
  exact ih (i, K, lose { p with out := r.1 }, (a, c), y2) _ _ ⟨hor.lose, hpp, hZ1, by show i ≤ r.1.length; omega, by show r.1.length < i + K; omega⟩ (by show r.1.length - i < p.out.length - i; omega) ⟨I, I, I, I, trivial⟩ (Ent.pick [1, 2, 0, 3, 4, 5, 6, 7, 8, 9, 10, 11] I I)
 ·have h8 : r.2 = false := h8
  rw [if_neg (by rw [h8]; decide)] at hZ1
  have hlen : r.1.length = p.out.length := by
   rcases hmf with e | e
   ·rw [h8] at e; cases e.1
   ·exact e.2
  repeat' (first | refine zh ?_ | intro (bk : Nat))
  refine HR.cond I (fun h9 => ?_) (fun h9 => ?_)
  ·repeat' (first | refine zh ?_ | intro (bk : Nat))
   exact ih (i + 1, K, { p with out := r.1 }, (a, c), y2) _ _ ⟨hor, hpp, hZ1, by show i + 1 ≤ r.1.length; omega, by show r.1.length < i + 1 + K; omega⟩ (by show r.1.length - (i + 1) < p.out.length - i; omega) ⟨I, I, I, I, trivial⟩ (Ent.pick [1, 2, 0, 3, 4, 5, 6, 7, 8, 9, 10, 11] I I)
  ·have h9 : ((r.1.length : Int) == (p.out.length : Int)) = false := h9
   simp at h9
   omega
end Go.Proofs.YtgfdoognildoeaaGreat
namespace Nd
open Go.GX Tp
theorem rdec_ok {s : By} (h : (rdec s).2 = 0) : (rdec s).1.length ≤ 24 ∧ (∀ r ∈ (rdec s).1, usable r = true) ∧ Asc (·.dest) (rdec s).1 := by
 unfold rdec at h ⊢
 by_cases h1 : s.length % 4 ≠ 0
 ·rw [if_pos h1] at h; cases h
 rw [if_neg h1] at h ⊢
 by_cases h2 : s.length > 96
 ·rw [if_pos h2] at h; cases h
 rw [if_neg h2] at h ⊢
 by_cases h3 : firstE (dbad (rdecs s (s.length / 4))) (s.length / 4) ≠ 0
 ·rw [if_pos h3] at h; exact absurd h h3
 rw [if_neg h3]
 have h3 : firstE (dbad (rdecs s (s.length / 4))) (s.length / 4) = 0 := Decidable.not_not.1 h3
 have hl := rdecs_len s (s.length / 4)
 have key := firstE_all h3
 show (rdecs s (s.length / 4)).length ≤ 24 ∧ (∀ r ∈ rdecs s (s.length / 4), usable r = true) ∧ Asc (·.dest) (rdecs s (s.length / 4))
 generalize rdecs s (s.length / 4) = l at hl key
 refine ⟨by omega, fun r hr => ?_, asc_of fun i a b ha hb => ?_⟩
 ·obtain ⟨i, hi⟩ := List.getElem?_of_mem hr
  have hk := key i (by have := (List.getElem?_eq_some_iff.1 hi).1; omega)
  unfold dbad at hk
  rw [hi] at hk
  simp only at hk
  by_cases hu : usable r = false
  ·rw [if_pos hu] at hk; cases hk
  ·exact Bool.not_eq_false _ ▸ hu
 ·have hk := key (i + 1) (by have := (List.getElem?_eq_some_iff.1 hb).1; omega)
  unfold dbad at hk
  rw [hb] at hk
  simp only [Nat.add_sub_cancel, ha] at hk
  by_cases hu : usable b = false
  ·rw [if_pos hu] at hk; cases hk
  ·rw [if_neg hu] at hk
   by_cases hd : b.dest ≤ a.dest
   ·rw [if_pos ⟨by omega, by simpa using hd⟩] at hk; cases hk
   ·show a.dest < b.dest; omega
theorem leads_hop {l : List Ro} (hu : ∀ r ∈ l, usable r = true) (ha : Asc (·.dest) l) : (l.any fun r => (r.dest == 0) && decide (r.cost ≤ 200)) = (rhop l 0).2 := by
 have hfin : ∀ r ∈ l, fin r = decide (r.cost ≤ 200) := by
  intro r hr
  have h1 := hu r hr
  unfold usable at h1
  by_cases hc : r.cost ≤ 200
  ·rw [decide_eq_true hc]
   simp only [Bool.and_eq_true, Bool.or_eq_true, beq_iff_eq] at h1
   rcases h1.2 with h | h
   ·exact h.1
   ·omega
  ·unfold fin
   rw [decide_eq_false hc, Bool.and_false]
 unfold rhop rat
 cases hf : l.find? (fun x => x.dest == 0) with
 | none =>
  rw [← Bool.not_eq_true, List.any_eq_true]
  ·rintro ⟨r, hr, h2⟩
   have := List.find?_eq_none.1 hf r hr
   simp only [Bool.and_eq_true] at h2
   exact this h2.1
 | some r =>
  have hr := List.mem_of_find?_eq_some hf
  have hd : (r.dest == 0) = true := List.find?_some (p := fun x : Ro => x.dest == 0) hf
  simp only
  rw [hfin r hr]
  by_cases hc : r.cost ≤ 200
  ·rw [decide_eq_true hc, if_pos rfl]
   show _ = true
   rw [List.any_eq_true]
   exact ⟨r, hr, by rw [hd, decide_eq_true hc]; rfl⟩
  ·rw [decide_eq_false hc, if_neg (by decide)]
   show _ = false
   rw [← Bool.not_eq_true, List.any_eq_true]
   rintro ⟨q, hq, h2⟩
   simp only [Bool.and_eq_true, beq_iff_eq, decide_eq_true_eq] at h2
   obtain ⟨i, hi⟩ := List.getElem?_of_mem hr
   obtain ⟨j, hj⟩ := List.getElem?_of_mem hq
   have hd : r.dest = 0 := by simpa using hd
   rcases Nat.lt_trichotomy i j with h | h | h
   ·have : r.dest < q.dest := ha.lt h hi hj
    omega
   ·subst h; rw [hi] at hj; cases hj; exact hc h2.2
   ·have : q.dest < r.dest := ha.lt h hj hi
    omega
theorem sorted_strict {l : List Int} (h : l.Pairwise fun x y => x ≤ y) (hn : l.Nodup) : Asc id l := by
 have := List.Pairwise.and h hn
 exact this.imp fun {a b} ⟨h1, h2⟩ => by
  have h2 : a ≠ b := h2
  show a < b
  omega
theorem child_sorted {l : List Int} {c : Int} (h : Asc id l) (hc : ¬ c ∈ l) : Tf.srt (l ++ [c]) = child l c := by
 have hp : (Tf.srt (l ++ [c])).Perm (l ++ [c]) := List.mergeSort_perm _ _
 have hn : (l ++ [c]).Nodup := by
  rw [List.nodup_append]
  refine ⟨h.nodup, by simp, fun a ha b hb => ?_⟩
  rw [List.mem_singleton] at hb
  rintro rfl
  subst hb
  exact hc ha
 refine asc_ext (sorted_strict (Tf.srt_sorted _) (hp.nodup_iff.2 hn)) (child_asc h c).1 fun x => ?_
 rw [hp.mem_iff, (child_asc h c).2]
 simp [or_comm]
end Nd
namespace Go.Proofs.YtgfdoognildoeaaGreat
open Go.GX Go.RowKit
attribute [local irreducible] Calls Run RunL RunQ RunD HR HL HD blkC ownC mapC Rd slicesC iterC
open Nd
theorem fn163 : IsFn Tryz.prog 163 := ⟨⟨_, _, Tryz.func163, rfl, by decide⟩⟩
theorem fn220 : IsFn Tryz.prog 220 := ⟨⟨_, _, Tryz.func220, rfl, by decide⟩⟩
theorem fn164 : IsFn Tryz.prog 164 := ⟨⟨_, _, Tryz.func164, rfl, by decide⟩⟩
theorem adv1_any (r : Ro) (w : World) : Calls Tryz.prog 220 #[.agg ⟨roC r⟩] w fun e w' => e = .returned (.bool ((r.dest == 0) && decide (r.cost ≤ 200))) ∧ Below w.heap.size w w' := by
 refine calls_hr Tryz.func220 I (Nat.le_of_ble_eq_true I) ?_
 refine HR.sub (σ' := [(0, .agg ⟨roC r⟩)]) ⟨I, trivial⟩ ?_
 repeat' (first | refine zh ?_ | apply zb ?_ ?_ | exact zc | (refine zi fun hb => ?_; try simp at hb) | intro (bk : Nat))
 refine HR.ret Tryz.func220 I [_] (fun _ _ => ⟨I, trivial⟩) ?_
 exact fun w' hw => ⟨rfl, hw.belowB⟩
theorem sadv_any (b : Nat) (V : NV) (n : Nd) (now : Int) (f : Fr) (B : Base) (w : World) (hw : Sat B (stH b V n now) w) (ho : Ord n) (hfd : f.da.length ≤ 1000) :
  Calls Tryz.prog 163 #[ptr b, .agg ⟨frC f⟩] w fun e w' => ∃ x : SV × SV, e = .returned (.tuple ⟨[]⟩) ∧ True ∧ Sat ⟨w, feet (stH b V n now)⟩ (stH b { V with ta := x.1, li := x.2 } (advertised n f) now) w' := by
 have h24 := tlen ho
 have l24 := llen ho
 obtain ⟨a, ha⟩ : ∃ a : Nd, a = { n with links := lseen n.links f.fr true } := ⟨_, rfl⟩
 have hal : a.links.length ≤ 24 := by rw [ha]; exact lchk_room (lseen_ok _ _ _)
 have hat : a.table.length ≤ 24 := by rw [ha]; exact h24
 obtain ⟨d, hd⟩ : ∃ d, d = rdec f.da := ⟨_, rfl⟩
 obtain ⟨g, hg⟩ : ∃ g : Nd, g = { a with table := rupd a.table a.addr f.fr (lcost a.links f.fr) d.1 } := ⟨_, rfl⟩
 have hsp : advertised n f = if d.2 ≠ 0 then a else if g.poll > 0 ∧ g.parent = 255 ∧ (rhop d.1 0).2 = true then { g with parent := f.fr } else g := by rw [hg, hd, ha]; rfl
 rw [hsp]
 refine calls_hrW (stH b V n now) (hw) Tryz.func163 I (Nat.le_of_ble_eq_true I) ?_
 refine HR.sub (σ' := [(0, ptr b), (1, .agg ⟨frC f⟩)]) ⟨I, I, trivial⟩ ?_
 refine HR.ctl I ?_
 refine HR.region ?_
 refine HL.box I I ?_
 intro bf
 repeat' (first | refine zh ?_ | intro (bk : Nat))
 refine HR.regionY [(0, true), (1, true), (2, true), (3, true), (4, true), (5, true), (6, true), (7, true), (8, false), (9, true), (10, true), (11, true)] 12 [0, 1] I I hmix (by kernel_rfl) ?_
 repeat' (first | refine zd ?_ | fail)
 refine HD.one I ?_
 refine HL.callO fn92 I I (fun w1 hw1 => lseen_any n.links f.fr true _ w1 ((Rd.own 3 rfl).at hw1) (by omega)) ?_
 intro v1
 refine HL.shape 0 I fun a1 c1 hv => ?_
 subst hv
 refine HL.back [1, 2] I I ?_
 repeat' (first | refine zd ?_ | fail)
 refine HD.last I ?_
 repeat' (first | refine zn ?_ | intro (bk : Nat))
 refine HR.ent (H' := blkC bf (frC f) 75 :: stH b { V with li := (a1, c1) } { n with links := lseen n.links f.fr true } now) (Ent.pick [1, 2, 3, 0, 5, 6, 7, 8, 9, 10, 11] I I) ?_
 rw [← ha]
 repeat' (first | refine zh ?_ | intro (bk : Nat))
 refine HL.callX (r := fun v' : Value => .tuple ⟨[v', .int .i64 d.2]⟩) (Q := fun _ => True) (G := fun v' => [cTa v' d.1]) fn216 I I (fun w1 _ => by rw [hd]; exact decode_any f.da w1 (by omega)) ?_
 intro v2 _
 repeat' (first | refine zh ?_ | intro (bk : Nat))
 refine HR.cond I (fun h1 => ?_) (fun h1 => ?_)
 ·have h1 : d.2 ≠ 0 := by simpa using h1
  rw [if_pos h1]
  repeat' (first | refine zh ?_ | intro (bk : Nat))
  refine HR.ret Tryz.func163 I [] (fun _ _ => trivial) ?_
  exact fun w' hw => ⟨(V.ta, (a1, c1)), rfl, trivial, hw.pick [2, 3, 4, 5, 6, 7, 8, 9, 10, 11] I rfl⟩
 have h1 : ¬ d.2 ≠ 0 := by simpa using h1
 rw [if_neg h1]
 have h0 : (rdec f.da).2 = 0 := by rw [← hd]; omega
 obtain ⟨g1, g2, g3⟩ := rdec_ok h0
 rw [← hd] at g1 g2 g3
 have hld := leads_hop g2 g3
 repeat' (first | refine zh ?_ | intro (bk : Nat))
 refine HR.regionY [(0, true), (1, true), (2, true), (3, true), (4, true), (5, true), (6, true), (7, true), (8, true), (9, true), (10, true), (11, true), (12, true), (13, true), (14, true), (15, true), (16, true), (17, true), (18, true), (19, true), (21, true), (20, false), (22, false), (23, true), (24, true), (25, true)] 26 [1, 2] I I hmix (by kernel_rfl) ?_
 repeat' (first | refine zd ?_ | fail)
 refine HD.one I ?_
 refine HL.callB fn218 I I (fun w1 hw1 => lcost_any a.links f.fr _ w1 ((Rd.own 4 rfl).at hw1) (by omega)) ?_
 refine HL.back [1, 2] I I ?_
 refine HD.one I ?_
 refine HL.callO fn217 I I (fun w1 hw1 => rupd_any a.table a.addr f.fr (lcost a.links f.fr) d.1 _ v2 w1 ((Rd.own 3 rfl).at hw1) ((Rd.own 0 rfl).at hw1) (by omega) (by omega)) ?_
 intro v3
 refine HL.shape 0 I fun a3 c3 hv => ?_
 subst hv
 refine HL.back [2, 3] I I ?_
 repeat' (first | refine zd ?_ | fail)
 refine HD.last I ?_
 repeat' (first | refine zn ?_ | intro (bk : Nat))
 refine HR.ent (H' := cTa v2 d.1 :: blkC bf (frC f) 75 :: stH b { V with li := (a1, c1), ta := (a3, c3) } { a with table := rupd a.table a.addr f.fr (lcost a.links f.fr) d.1 } now) (Ent.pick [1, 2, 3, 0, 5, 6, 7, 8, 9, 10, 11, 12] I I) ?_
 rw [← hg]
 repeat' (first | refine zh ?_ | refine HL.callB fn219 I I (fun w1 hw1 => contFRo_any d.1 (fun r => (r.dest == 0) && decide (r.cost ≤ 200)) 220 [] v2 w1 fn220 (fun r _ w2 _ => adv1_any r w2) ((Rd.own 0 rfl).at hw1) (by omega)) ?_ | intro (bk : Nat))
 rw [hld]
 repeat' (first | refine zh ?_ | apply zb ?_ ?_ | exact zc | (refine zi fun hb => ?_; try simp at hb) | intro (bk : Nat))
 refine HR.cond I (fun h2 => ?_) (fun h2 => ?_)
 ·have h2 : (decide (g.poll > 0) && (g.parent == 255) && (rhop d.1 0).2) = true := h2
  have h3 : g.poll > 0 ∧ g.parent = 255 ∧ (rhop d.1 0).2 = true := by simpa [and_assoc] using h2
  rw [if_pos h3]
  repeat' (first | refine zh ?_ | intro (bk : Nat))
  refine HR.fin Tryz.func163 I [] (fun _ _ => trivial) ?_
  exact fun w' hw => ⟨((a3, c3), (a1, c1)), rfl, trivial, hw.pick [2, 3, 4, 5, 6, 7, 8, 9, 10, 11] I rfl⟩
 ·have h2 : (decide (g.poll > 0) && (g.parent == 255) && (rhop d.1 0).2) = false := h2
  have h3 : ¬ (g.poll > 0 ∧ g.parent = 255 ∧ (rhop d.1 0).2 = true) := by
   intro e
   have : (decide (g.poll > 0) && (g.parent == 255) && (rhop d.1 0).2) = true := by simpa [and_assoc] using e
   rw [h2] at this; cases this
  rw [if_neg h3]
  repeat' (first | refine zh ?_ | intro (bk : Nat))
  refine HR.fin Tryz.func163 I [] (fun _ _ => trivial) ?_
  exact fun w' hw => ⟨((a3, c3), (a1, c1)), rfl, trivial, hw.pick [2, 3, 4, 5, 6, 7, 8, 9, 10, 11] I rfl⟩
end Go.Proofs.YtgfdoognildoeaaGreat
