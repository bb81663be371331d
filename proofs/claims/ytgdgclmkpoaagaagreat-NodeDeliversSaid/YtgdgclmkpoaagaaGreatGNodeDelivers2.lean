/- A part of the proof: contracts of the program's functions. Conditions: none. -/
import Derived.Carry
import Derived.Deep.MidRow
import Derived.Deep.Quiet
import Derived.Laws.IdiomRangeMap
import Derived.Laws.MakeOwn
import Derived.Laws.StructEq
import Derived.Laws.Tables
import Derived.Lib.AppendStr
import Derived.Lib.AppendZerosOnto
import Derived.Lib.OthersKept
import Derived.Lib.Overlaps
import Derived.Lib.OwnBridge
import Derived.Lib.SlicesCompact
import Derived.MapKept
import Derived.Orders
import Derived.OrdersHeld
import Derived.Scope
import Derived.SliceStrings
import Derived.Sort.Grow
import Derived.StillTail
import Derived.Test.YtgdgclmkpoaagaaGreatProg
import Derived.Test.YtgdgclmkpoaagaaGreatShelf
import Derived.WalkKit
import Derived.WalkLawsBesides
import Derived.WalkSpells
import Derived.Test.YtgdgclmkpoaagaaGreatGB1
import Derived.Test.YtgdgclmkpoaagaaGreatGB10
import Derived.Test.YtgdgclmkpoaagaaGreatGB11
import Derived.Test.YtgdgclmkpoaagaaGreatGB2
import Derived.Test.YtgdgclmkpoaagaaGreatGB3
import Derived.Test.YtgdgclmkpoaagaaGreatGB4
import Derived.Test.YtgdgclmkpoaagaaGreatGB5
import Derived.Test.YtgdgclmkpoaagaaGreatGB6
import Derived.Test.YtgdgclmkpoaagaaGreatGB7
import Derived.Test.YtgdgclmkpoaagaaGreatGB8
import Derived.Test.YtgdgclmkpoaagaaGreatGB9
import Derived.Test.YtgdgclmkpoaagaaGreatGNodeDelivers1
set_option linter.unusedVariables false
set_option linter.unusedSectionVars false
set_option linter.unusedSimpArgs false
set_option maxRecDepth 100000
set_option maxHeartbeats 4000000
namespace Go.Proofs.YtgdgclmkpoaagaaGreat
open Go.GX Go.RowKit
attribute [local irreducible] Calls Run RunL RunQ RunD HR HL HD blkC ownC Rd
open Nd
theorem fn94 : IsFn Tryz.prog 94 := ⟨⟨_, _, Tryz.func94, rfl, by decide⟩⟩
theorem fn95 : IsFn Tryz.prog 95 := ⟨⟨_, _, Tryz.func95, rfl, by decide⟩⟩
theorem bumped_ord {n : Nd} (h : Ord n) : Ord (bumped n) := (bumped_good (Good.refl h)).ord
theorem sbeacon_any (b : Nat) (V : NV) (n : Nd) (now : Int) (B : Base) (w : World) (hw : Sat B (stH b V n now) w) (ho : Ord n) :
  Calls Tryz.prog 94 #[ptr b] w fun e w' => ∃ x : SV × SV, e = .returned (.tuple ⟨[]⟩) ∧ True ∧ Sat ⟨w, feet (stH b V n now)⟩ (stH b { V with ta := x.1, ou := x.2 } (beacon n) now) w' := by
 have h24 := tlen ho
 have hm := bumped_ord ho
 have hm24 := tlen hm
 have hm16 := hm.out
 refine calls_hrW (stH b V n now) (hw) Tryz.func94 I (Nat.le_of_ble_eq_true I) ?_
 refine HR.sub (σ' := [(0, ptr b)]) ⟨I, trivial⟩ ?_
 repeat' (first | refine zh ?_ | intro (bk : Nat))
 refine HR.regionY [(0, true), (1, true), (2, true), (3, true), (4, true), (5, true), (6, true), (7, true), (8, true), (9, true), (10, true), (11, false), (12, true), (13, true), (14, true)] 15 [0] I I hmix (by kernel_rfl) ?_
 repeat' (first | refine zd ?_ | fail)
 refine HD.one I ?_
 refine HL.callO fn165 I I (fun w1 hw1 => rbump_any n.table n.addr _ w1 ((Rd.own 1 rfl).at hw1) (by omega)) ?_
 intro v1
 refine HL.shape 0 I fun a c hv => ?_
 subst hv
 refine HL.back [1] I I ?_
 repeat' (first | refine zd ?_ | fail)
 refine HD.last I ?_
 repeat' (first | refine zn ?_ | intro (bk : Nat))
 obtain ⟨V1, hV1⟩ : ∃ V1 : NV, V1 = { V with ta := (a, c) } := ⟨_, rfl⟩
 obtain ⟨m, hmm⟩ : ∃ m : Nd, m = bumped n := ⟨_, rfl⟩
 refine HR.ent (H' := stH b { V with ta := (a, c) } (bumped n) now) (Ent.pick [1, 0, 3, 4, 5, 6, 7, 8, 9, 10] I I) ?_
 have hbe : beacon n = if waits (bumped n) 1 = false ∧ (bumped n).out.length < 16 then (queue (bumped n) (beaconF (bumped n))).1 else bumped n := rfl
 have hVe : ∀ x : SV, ({ V with ta := (a, c), ou := x } : NV) = { V1 with ou := x } := by intro x; rw [hV1]
 rw [hbe]
 rw [← hmm] at hm hm24 hm16 ⊢
 rw [← hV1]
 repeat' (first | refine zh ?_ | intro (bk : Nat))
 refine HL.callW (r := fun _ : Unit => .bool (waits m 1)) (Q := fun _ => True) (G0 := stH b V1 m now) (H0 := []) (G := fun _ => stH b V1 m now) fn166 I I I (fun w1 hw1 => swaits_any b V1 m now 1 _ w1 hw1 (by omega)) ?_
 intro _ _
 repeat' (first | refine zh ?_ | apply zb ?_ ?_ | exact zc | (refine zi fun hb => ?_; try simp at hb) | intro (bk : Nat))
 refine HR.cond I (fun h => ?_) (fun h => ?_)
 ·have h : (!waits m 1 && decide ((m.out.length : Int) < 16)) = true := h
  have h2 : waits m 1 = false ∧ (m.out.length : Int) < 16 := by simpa using h
  rw [if_pos ⟨h2.1, by omega⟩]
  repeat' (first | refine zh ?_ | intro (bk : Nat))
  refine HR.regionY [(0, true), (1, true), (2, true), (3, true), (4, true), (5, true), (6, true), (7, true), (8, true), (9, true), (10, true), (11, true), (13, true), (14, true), (15, true), (16, true), (17, true), (12, false), (18, false), (19, true)] 20 [0] I I hmix (by kernel_rfl) ?_
  repeat' (first | refine zd ?_ | fail)
  refine HD.one I ?_
  refine HL.callW (r := fun _ : Unit => .int .i64 (number m)) (Q := fun _ => True) (G0 := stH b V1 m now) (H0 := []) (G := fun _ => stH b V1 m now) fn167 I I I (fun w1 hw1 => snumber_any b V1 m now _ w1 hw1 (by omega)) ?_
  intro _ _
  refine HL.back [0] I I ?_
  refine HD.one I ?_
  refine HL.callB fn38 I I (fun w1 hw1 => renc_any m.table _ w1 ((Rd.own 1 rfl).at hw1) (by omega)) ?_
  refine HL.back [0] I I ?_
  repeat' (first | refine zd ?_ | fail)
  refine HD.last I ?_
  refine HL.callW (r := fun _ : SV => .bool (queue m (beaconF m)).2) (Q := fun _ => True) (G0 := stH b V1 m now) (H0 := []) (G := fun x => stH b { V1 with ou := x } (queue m (beaconF m)).1 now) fn44 I I I (fun w1 hw1 => squeue_any b V1 m now (beaconF m) _ w1 hw1 hm) ?_
  intro x _
  repeat' (first | refine zh ?_ | intro (bk : Nat))
  refine HR.fin Tryz.func94 I [] (fun _ _ => trivial) ?_
  exact fun w' hw => ⟨((a, c), x), rfl, trivial, by rw [hVe]; exact hw⟩
 ·have h : (!waits m 1 && decide ((m.out.length : Int) < 16)) = false := h
  have h2 : ¬ (waits m 1 = false ∧ (m.out.length : Int) < 16) := by simpa using h
  rw [if_neg fun e => h2 ⟨e.1, by omega⟩]
  repeat' (first | refine zh ?_ | intro (bk : Nat))
  refine HR.fin Tryz.func94 I [] (fun _ _ => trivial) ?_
  exact fun w' hw => ⟨((a, c), V.ou), rfl, trivial, by rw [hVe, hV1]; rw [hV1] at hw; exact hw⟩
theorem spoll_any (b : Nat) (V : NV) (n : Nd) (now : Int) (B : Base) (w : World) (hw : Sat B (stH b V n now) w) (ho : Ord n) :
  Calls Tryz.prog 95 #[ptr b] w fun e w' => ∃ x : SV × SV, e = .returned (.tuple ⟨[]⟩) ∧ True ∧ Sat ⟨w, feet (stH b V n now)⟩ (stH b { V with ta := x.1, ou := x.2 } (poll n) now) w' := by
 have h24 := tlen ho
 have hm := bumped_ord ho
 have hm24 := tlen hm
 have hm16 := hm.out
 refine calls_hrW (stH b V n now) (hw) Tryz.func95 I (Nat.le_of_ble_eq_true I) ?_
 refine HR.sub (σ' := [(0, ptr b)]) ⟨I, trivial⟩ ?_
 repeat' (first | refine zh ?_ | intro (bk : Nat))
 refine HR.regionY [(0, true), (1, true), (2, true), (3, true), (4, true), (5, true), (6, true), (7, true), (8, true), (9, true), (10, true), (11, false), (12, true), (13, true), (14, true)] 15 [0] I I hmix (by kernel_rfl) ?_
 repeat' (first | refine zd ?_ | fail)
 refine HD.one I ?_
 refine HL.callO fn165 I I (fun w1 hw1 => rbump_any n.table n.addr _ w1 ((Rd.own 1 rfl).at hw1) (by omega)) ?_
 intro v1
 refine HL.shape 0 I fun a c hv => ?_
 subst hv
 refine HL.back [1] I I ?_
 repeat' (first | refine zd ?_ | fail)
 refine HD.last I ?_
 repeat' (first | refine zn ?_ | intro (bk : Nat))
 obtain ⟨V1, hV1⟩ : ∃ V1 : NV, V1 = { V with ta := (a, c) } := ⟨_, rfl⟩
 obtain ⟨m, hmm⟩ : ∃ m : Nd, m = bumped n := ⟨_, rfl⟩
 refine HR.ent (H' := stH b { V with ta := (a, c) } (bumped n) now) (Ent.pick [1, 0, 3, 4, 5, 6, 7, 8, 9, 10] I I) ?_
 have hbe : poll n = if waits (bumped n) 3 = false then (queue (bumped n) (pollF (bumped n))).1 else bumped n := rfl
 have hVe : ∀ x : SV, ({ V with ta := (a, c), ou := x } : NV) = { V1 with ou := x } := by intro x; rw [hV1]
 rw [hbe]
 rw [← hmm] at hm hm24 hm16 ⊢
 rw [← hV1]
 repeat' (first | refine zh ?_ | intro (bk : Nat))
 refine HL.callW (r := fun _ : Unit => .bool (waits m 3)) (Q := fun _ => True) (G0 := stH b V1 m now) (H0 := []) (G := fun _ => stH b V1 m now) fn166 I I I (fun w1 hw1 => swaits_any b V1 m now 3 _ w1 hw1 (by omega)) ?_
 intro _ _
 repeat' (first | refine zh ?_ | intro (bk : Nat))
 refine HR.cond I (fun h => ?_) (fun h => ?_)
 ·have h2 : waits m 3 = false := by simpa using h
  rw [if_pos h2]
  repeat' (first | refine zh ?_ | intro (bk : Nat))
  refine HR.regionY [(0, true), (1, true), (2, true), (3, true), (4, true), (5, true), (6, true), (7, true), (8, true), (9, true), (10, true), (11, true), (12, true), (13, true), (14, true), (15, true), (16, true), (17, true), (18, true), (19, true), (20, true), (21, true), (22, false), (23, true)] 24 [0] I I hmix (by kernel_rfl) ?_
  repeat' (first | refine zd ?_ | fail)
  refine HD.one I ?_
  refine HL.callW (r := fun _ : Unit => .int .i64 (number m)) (Q := fun _ => True) (G0 := stH b V1 m now) (H0 := []) (G := fun _ => stH b V1 m now) fn167 I I I (fun w1 hw1 => snumber_any b V1 m now _ w1 hw1 (by omega)) ?_
  intro _ _
  refine HL.back [0] I I ?_
  repeat' (first | refine zd ?_ | fail)
  refine HD.last I ?_
  refine HL.callW (r := fun _ : SV => .bool (queue m (pollF m)).2) (Q := fun _ => True) (G0 := stH b V1 m now) (H0 := []) (G := fun x => stH b { V1 with ou := x } (queue m (pollF m)).1 now) fn44 I I I (fun w1 hw1 => squeue_any b V1 m now (pollF m) _ w1 hw1 hm) ?_
  intro x _
  repeat' (first | refine zh ?_ | intro (bk : Nat))
  refine HR.fin Tryz.func95 I [] (fun _ _ => trivial) ?_
  exact fun w' hw => ⟨((a, c), x), rfl, trivial, by rw [hVe]; exact hw⟩
 ·have h2 : ¬ waits m 3 = false := by simpa using h
  rw [if_neg h2]
  repeat' (first | refine zh ?_ | intro (bk : Nat))
  refine HR.fin Tryz.func95 I [] (fun _ _ => trivial) ?_
  exact fun w' hw => ⟨((a, c), V.ou), rfl, trivial, by rw [hVe, hV1]; rw [hV1] at hw; exact hw⟩
end Go.Proofs.YtgdgclmkpoaagaaGreat
namespace Go.Proofs.YtgdgclmkpoaagaaGreat
open Go.GX Go.RowKit
attribute [local irreducible] Calls Run RunL RunQ RunD HR HL HD blkC ownC Rd
open Nd
theorem fn93 : IsFn Tryz.prog 93 := ⟨⟨_, _, Tryz.func93, rfl, by decide⟩⟩
theorem elemFr : Elem Tryz.prog 163 42 9 80 := ⟨rfl, ⟨_, _, rfl, rfl, rfl, rfl, rfl⟩, by decide⟩
theorem frC_len (a : Fr) : (frC a).length = 9 := rfl
theorem asl_step {l : List Sn} {k : Nat} {x : Sn} (hx : l[k]? = some x) :
  ((l.take (k + 1)).filter stale).map (·.f) = (if stale x = true then ((l.take k).filter stale).map (·.f) ++ [x.f] else ((l.take k).filter stale).map (·.f)) ∧ ((l.take (k + 1)).filter fun x => !stale x) = if stale x = true then (l.take k).filter (fun x => !stale x) else (l.take k).filter (fun x => !stale x) ++ [x] := by
 obtain ⟨hk, rfl⟩ := List.getElem?_eq_some_iff.1 hx
 rw [List.take_succ_eq_append_getElem hk, List.filter_append, List.filter_append]
 by_cases h : stale l[k] = true
 ·simp [h]
 ·simp [h]
theorem foldl_take {α β : Type} {g : β → α → β} {z : β} {l : List α} {k : Nat} {x : α} (hx : l[k]? = some x) : (l.take (k + 1)).foldl g z = g ((l.take k).foldl g z) x := by
 obtain ⟨hk, rfl⟩ := List.getElem?_eq_some_iff.1 hx
 rw [List.take_succ_eq_append_getElem hk, List.foldl_append]
 rfl
theorem sasleep_any (b : Nat) (V : NV) (n : Nd) (now : Int) (B : Base) (w : World) (hw : Sat B (stH b V n now) w) (ho : Ord n) :
  Calls Tryz.prog 93 #[ptr b] w fun e w' => ∃ x : SV × SV, e = .returned (.tuple ⟨[]⟩) ∧ True ∧ Sat ⟨w, feet (stH b V n now)⟩ (stH b { V with ou := x.1, bo := x.2 } (asleep n now) now) w' := by
 have h16 := ho.out
 obtain ⟨bk2, hbk2⟩ : ∃ g : Nat → List Fr, g = fun k => ((n.out.take k).filter stale).map (·.f) := ⟨_, rfl⟩
 obtain ⟨rs, hrs⟩ : ∃ g : Nat → List Sn, g = fun k => (n.out.take k).filter fun x => !stale x := ⟨_, rfl⟩
 have hbl : ∀ k, (bk2 k).length ≤ 16 := fun k => by
  rw [hbk2]; show ((((n.out.take k).filter stale).map (·.f))).length ≤ 16
  rw [List.length_map]
  exact Nat.le_trans (List.length_filter_le _ _) (by rw [List.length_take]; omega)
 have hrl : ∀ k, (rs k).length ≤ 16 := fun k => by
  rw [hrs]; exact Nat.le_trans (List.length_filter_le _ _) (by rw [List.length_take]; omega)
 refine calls_hrW (stH b V n now) (hw) Tryz.func93 I (Nat.le_of_ble_eq_true I) ?_
 refine HR.sub (σ' := [(0, ptr b)]) ⟨I, trivial⟩ ?_
 repeat' (first | refine zh ?_ | intro (bk : Nat))
 refine HR.nilC 42 9 ?_
 refine HR.nilC 48 11 ?_
 refine HR.loop (ι := Nat × Value × Value) (fun x => x.1 ≤ n.out.length) (fun x => [(0, ptr b), (2, x.2.1), (3, x.2.2), (12, sv V.ou n.out.length), (13, .int .i64 (n.out.length : Int)), (14, .int .i64 (x.1 : Int))]) (fun x => ownC x.2.1 48 11 (rs x.1).length (cellsOf snC (rs x.1)) :: ownC x.2.2 42 9 (bk2 x.1).length (cellsOf frC (bk2 x.1)) :: stH b V n now) (fun x => n.out.length - x.1) (0, .slice none 0 0, .slice none 0 0) (Nat.zero_le _) ⟨I, I, I, I, I, I, trivial⟩ (by rw [hbk2, hrs]; exact Ent.refl) ?_
 rintro ⟨k, u, v⟩ hk ih
 have hk : k ≤ n.out.length := hk
 repeat' (first | refine zh ?_ | intro (bk : Nat))
 refine HR.cond I (fun h2 => ?_) (fun h2 => ?_)
 ·have hlt : k < n.out.length := by have := of_decide_eq_true h2; omega
  obtain ⟨x, hx⟩ := getSome hlt
  have hb1 : (bk2 (k, u, v).fst).length ≤ 16 := hbl k
  have hr1 : (rs (k, u, v).fst).length ≤ 16 := hrl k
  obtain ⟨e1, e2⟩ := asl_step hx
  have e1 : bk2 (k + 1) = if stale x = true then bk2 k ++ [x.f] else bk2 k := by rw [hbk2]; exact e1
  have e2 : rs (k + 1) = if stale x = true then rs k else rs k ++ [x] := by rw [hrs]; exact e2
  repeat' (first | refine zh ?_ | refine HL.idxR (Rd.own 5 I) elemSn k I I I I hlt ?_ | refine HL.loadE (Rd.own 5 I) I I I I (by simp) I (cellsOf_get snC_len hx) ?_ | apply zb ?_ ?_ | exact zc | (refine zi fun hb => ?_; try simp at hb) | intro (bk : Nat))
  refine HR.cond I (fun h3 => ?_) (fun h3 => ?_)
  ·have h3 : stale x = true := h3
   rw [if_pos h3] at e1 e2
   repeat' (first | refine zh ?_ | intro (bk : Nat))
   refine HL.bslice elemFr I I I I I (by decide) (by decide) ?_
   intro va
   refine HL.appR 3 I elemFr (Rd.own 0 I) I I I I (allOne_spec I) (by omega) (by omega) ?_
   intro v2
   repeat' (first | refine zh ?_ | intro (bk : Nat))
   refine ih (k + 1, u, v2) _ _ hlt (by show n.out.length - (k + 1) < n.out.length - k; omega) ⟨I, I, I, I, I, I, trivial⟩ ?_
   show Ent _ _ (ownC u 48 11 (rs (k + 1)).length (cellsOf snC (rs (k + 1))) :: ownC v2 42 9 (bk2 (k + 1)).length (cellsOf frC (bk2 (k + 1))) :: stH b V n now)
   rw [e1, e2, List.length_append, cellsOf_app]
   exact Ent.pick [2, 3, 4, 5, 6, 7, 8, 9, 10, 11, 12, 13] I I
  ·have h3 : stale x = false := h3
   rw [if_neg (by rw [h3]; decide)] at e1 e2
   repeat' (first | refine zh ?_ | intro (bk : Nat))
   refine HL.bslice elemSn I I I I I (by decide) (by decide) ?_
   intro va
   refine HL.appR 2 I elemSn (Rd.own 0 I) I I I I (allOne_spec I) (by omega) (by omega) ?_
   intro v2
   repeat' (first | refine zh ?_ | intro (bk : Nat))
   refine ih (k + 1, v2, v) _ _ hlt (by show n.out.length - (k + 1) < n.out.length - k; omega) ⟨I, I, I, I, I, I, trivial⟩ ?_
   show Ent _ _ (ownC v2 48 11 (rs (k + 1)).length (cellsOf snC (rs (k + 1))) :: ownC v 42 9 (bk2 (k + 1)).length (cellsOf frC (bk2 (k + 1))) :: stH b V n now)
   rw [e1, e2, List.length_append, cellsOf_app]
   exact Ent.pick [2, 3, 4, 5, 6, 7, 8, 9, 10, 11, 12, 13] I I
 ·have hke : k = n.out.length := by have := of_decide_eq_false h2; omega
  subst hke
  have hL := hbl n.out.length
  have hR := hrl n.out.length
  obtain ⟨bl, hbe⟩ : ∃ bl, bl = bk2 n.out.length := ⟨_, rfl⟩
  obtain ⟨rl, hre⟩ : ∃ rl, rl = rs n.out.length := ⟨_, rfl⟩
  have hsp : asleep n now = bl.foldl (fun n f => box n f now) { n with out := rl } := by
   rw [hbe, hre, hbk2, hrs]; show _ = ((((n.out.take n.out.length).filter stale).map (·.f))).foldl _ { n with out := (n.out.take n.out.length).filter fun x => !stale x }
   rw [List.take_length]; rfl
  rw [hsp]
  refine HR.ent (H' := ownC u 48 11 rl.length (cellsOf snC rl) :: ownC v 42 9 bl.length (cellsOf frC bl) :: stH b V n now) (Ent.of_eq (by rw [hbe, hre])) ?_
  rw [← hbe] at hL
  rw [← hre] at hR
  repeat' (first | refine zh ?_ | intro (bk : Nat))
  refine HL.shape 0 I fun a c hv => ?_
  subst hv
  repeat' (first | refine zh ?_ | refine HL.lenR (Rd.own 1 I) I I I ?_ | intro (bk : Nat))
  have hm := ho.setOut hR
  obtain ⟨m, hmm⟩ : ∃ m : Nd, m = { n with out := rl } := ⟨_, rfl⟩
  refine HR.ent (H' := ownC v 42 9 bl.length (cellsOf frC bl) :: stH b { V with ou := (a, c) } { n with out := rl } now) (Ent.pick [1, 2, 3, 4, 0, 6, 7, 8, 9, 10, 11] I I) ?_
  rw [← hmm] at hm ⊢
  have hgo : ∀ k, Ord ((bl.take k).foldl (fun n f => box n f now) m) := fun k => (boxes_good now _ (Good.refl hm)).ord
  refine HR.loop (ι := Nat × SV) (fun x => x.1 ≤ bl.length) (fun x => [(0, ptr b), (48, v), (49, .int .i64 (bl.length : Int)), (50, .int .i64 (x.1 : Int))]) (fun x => ownC v 42 9 bl.length (cellsOf frC bl) :: stH b { V with ou := (a, c), bo := x.2 } ((bl.take x.1).foldl (fun n f => box n f now) m) now) (fun x => bl.length - x.1) (0, V.bo) (Nat.zero_le _) ⟨I, I, I, I, trivial⟩ Ent.refl ?_
  rintro ⟨k, y⟩ hk ih
  have hk : k ≤ bl.length := hk
  repeat' (first | refine zh ?_ | intro (bk : Nat))
  refine HR.cond I (fun h2 => ?_) (fun h2 => ?_)
  ·have hlt : k < bl.length := by have := of_decide_eq_true h2; omega
   obtain ⟨x, hx⟩ := getSome hlt
   repeat' (first | refine zh ?_ | refine HL.idxR (Rd.own 0 I) elemFr k I I I I hlt ?_ | refine HL.loadE (Rd.own 0 I) I I I I (by simp) I (cellsOf_get frC_len hx) ?_ | intro (bk : Nat))
   refine HL.ent (H' := stH b { V with ou := (a, c), bo := y } ((bl.take k).foldl (fun n f => box n f now) m) now ++ [ownC v 42 9 bl.length (cellsOf frC bl)]) (Ent.pick [2, 3, 4, 5, 6, 7, 8, 9, 10, 11, 1] I I) ?_
   refine HL.callW (r := fun _ : SV => .tuple ⟨[]⟩) (Q := fun _ => True) (G0 := stH b { V with ou := (a, c), bo := y } ((bl.take k).foldl (fun n f => box n f now) m) now) (H0 := [ownC v 42 9 bl.length (cellsOf frC bl)]) (G := fun z => stH b { V with ou := (a, c), bo := z } (box ((bl.take k).foldl (fun n f => box n f now) m) x now) now) fn72 I I I (fun w1 hw1 => sbox_any b { V with ou := (a, c), bo := y } _ now x _ w1 (hw1.pick [0, 1, 2, 3, 4, 5, 6, 7, 8, 9] I I) (hgo k)) ?_
   intro z _
   repeat' (first | refine zh ?_ | intro (bk : Nat))
   refine ih (k + 1, z) _ _ hlt (by show bl.length - (k + 1) < bl.length - k; omega) ⟨I, I, I, I, trivial⟩ ?_
   show Ent _ _ (ownC v 42 9 bl.length (cellsOf frC bl) :: stH b { V with ou := (a, c), bo := z } ((bl.take (k + 1)).foldl (fun n f => box n f now) m) now)
   rw [foldl_take hx]
   exact Ent.pick [10, 0, 1, 2, 3, 4, 5, 6, 7, 8, 9] I I
  ·have hke : k = bl.length := by have := of_decide_eq_false h2; omega
   subst hke
   repeat' (first | refine zh ?_ | intro (bk : Nat))
   refine HR.fin Tryz.func93 I [] (fun _ _ => trivial) ?_
   refine fun w' hw => ⟨((a, c), y), rfl, trivial, ?_⟩
   have w1 : Sat _ (ownC v 42 9 bl.length (cellsOf frC bl) :: stH b { V with ou := (a, c), bo := y } ((bl.take bl.length).foldl (fun n f => box n f now) m) now) w' := hw
   rw [List.take_length] at w1
   exact w1.pick [1, 2, 3, 4, 5, 6, 7, 8, 9, 10] I I
end Go.Proofs.YtgdgclmkpoaagaaGreat
namespace Go.Proofs.YtgdgclmkpoaagaaGreat
open Go.GX Go.RowKit
attribute [local irreducible] Calls Run RunL RunQ RunD HR HL HD blkC ownC Rd
open Nd
theorem fn152 : IsFn Tryz.prog 152 := ⟨⟨_, _, Tryz.func152, rfl, by decide⟩⟩
end Go.Proofs.YtgdgclmkpoaagaaGreat
namespace Go.Proofs.YtgdgclmkpoaagaaGreat
open Go.GX Go.RowKit
attribute [local irreducible] Calls Run RunL RunQ RunD HR HL HD blkC ownC Rd
open Nd
theorem lforget_any (l : List Li) (n : Int) (v : Value) (w : World) (hv : Sl w v (cellsOf liC l) l.length) (hl : l.length ≤ 1000) :
  Calls Tryz.prog 152 #[v, .int .i64 n] w fun e w' => ∃ v', e = .returned v' ∧ Sat (base w) [ownC v' 129 3 (lforget l n).length (cellsOf liC (lforget l n))] w' := by
 have hlen := lval_len l
 refine calls_hr Tryz.func152 I (Nat.le_of_ble_eq_true I) ?_
 refine HR.sub (σ' := [(0, v), (1, .int .i64 n)]) ⟨I, I, trivial⟩ ?_
 repeat' (first | refine zh ?_ | refine HL.callO fn148 I I (fun w hw => ltable_any l v w ((Rd.arg hv).at hw) hl) ?_ | intro (bk : Nat))
 intro v1
 repeat' (first | refine zh ?_ | refine HL.callB fn149 I I (fun w hw => lfind_any (lval l) n v1 w ((Rd.own 0 rfl).at hw) (by omega)) ?_ | intro (bk : Nat))
 refine HR.cond I (fun h => ?_) (fun h => ?_)
 ·obtain ⟨x, hx, hn⟩ := lhas_true h
  have hlt := (List.getElem?_eq_some_iff.1 hx).1
  repeat' (first | refine zh ?_ | intro (bk : Nat))
  refine HL.callW (r := fun r : Value => r) (Q := fun _ => True) (G0 := [ownC v1 129 3 (lval l).length (cellsOf liC (lval l))]) (H0 := []) (G := fun r => [ownC r 129 3 ((lval l).eraseIdx (lpos (lval l) n)).length (cellsOf liC ((lval l).eraseIdx (lpos (lval l) n)))]) fn202 I I I (fun w hw => delLi_any (lval l) (lpos (lval l) n) v1 _ w hw hlt (by omega)) ?_
  intro r _
  repeat' (first | refine zh ?_ | intro (bk : Nat))
  refine HR.ret Tryz.func152 I [_] (fun _ _ => ⟨I, trivial⟩) ?_
  exact fun w' hw => ⟨r, rfl, by rw [lforget_is hx hn]; exact hw⟩
 ·have hno := lat_no (lhas_false h)
  repeat' (first | refine zh ?_ | intro (bk : Nat))
  refine HR.ret Tryz.func152 I [_] (fun _ _ => ⟨I, trivial⟩) ?_
  exact fun w' hw => ⟨v1, rfl, by rw [lforget_no hno]; exact hw⟩
end Go.Proofs.YtgdgclmkpoaagaaGreat
namespace Go.Proofs.YtgdgclmkpoaagaaGreat
open Go.GX Go.RowKit
attribute [local irreducible] Calls Run RunL RunQ RunD HR HL HD blkC ownC Rd
open Nd
theorem fn23 : IsFn Tryz.prog 23 := ⟨⟨_, _, Tryz.func23, rfl, by decide⟩⟩
theorem stake_any (V : NV) (n : Nd) (w : World) (h : OkN w V n) (hs : SmN n) :
  Calls Tryz.prog 23 #[.agg ⟨ndC V n⟩] w fun e w' => ∃ x : NV × SV, e = .returned (.tuple ⟨[.agg ⟨ndC x.1 (take n).1⟩, sv x.2 (take n).2.length]⟩) ∧ Pts x.1 (take n).1 ∧ Sat (base w) (cDe (sv x.2 (take n).2.length) (take n).2 :: ndH x.1 (take n).1) w' := by
 obtain ⟨m, hm⟩ : ∃ m, m = order n := ⟨_, rfl⟩
 have hsp : take n = ({ m with inbox := [] }, m.inbox) := by rw [hm]; rfl
 refine calls_hr Tryz.func23 I (Nat.le_of_ble_eq_true I) ?_
 refine HR.sub (σ' := [(0, .agg ⟨ndC V n⟩)]) ⟨I, trivial⟩ ?_
 rw [hsp]
 repeat' (first | refine zh ?_ | intro (bk : Nat))
 refine HL.callX (r := fun x : Nat × NV => ptr x.1) (Q := fun x => Pts x.2 m) (G := fun x => stH x.1 x.2 m (tick 0)) fn40 I I (fun w1 hw1 => by rw [hm]; exact enter_any V n 0 w1 (h.ext hw1.belowB) hs) ?_
 rintro ⟨b, V2⟩ hP
 have hP : Pts V2 m := hP
 refine HL.ent (Ent.pick [10, 0, 1, 2, 3, 4, 5, 6, 7, 8, 9] I I) ?_
 repeat' (first | refine zh ?_ | intro (bk : Nat))
 refine HR.nilC 70 2 ?_
 refine HR.ret Tryz.func23 I [_, _] (fun w hw => ⟨⟨_, rfl, loadVarR hw 1 I I I I rfl⟩, rfl, trivial⟩) ?_
 refine fun w' hw => ⟨({ V2 with ib := (none, 0) }, V2.ib), rfl, ⟨hP.eq, hP.sh⟩, ?_⟩
 exact hw.pick [11, 3, 4, 5, 6, 7, 8, 9, 10, 0] I I
end Go.Proofs.YtgdgclmkpoaagaaGreat
namespace Go.Proofs.YtgdgclmkpoaagaaGreat
open Go.GX Go.RowKit
attribute [local irreducible] Calls Run RunL RunQ RunD HR HL HD blkC ownC Rd
open Nd
theorem fn80 : IsFn Tryz.prog 80 := ⟨⟨_, _, Tryz.func80, rfl, by decide⟩⟩
theorem fn30 : IsFn Tryz.prog 30 := ⟨⟨_, _, Tryz.func30, rfl, by decide⟩⟩
theorem fn78 : IsFn Tryz.prog 78 := ⟨⟨_, _, Tryz.func78, rfl, by decide⟩⟩
abbrev tiC (bt : Nat) (to : Int) : Chunk := blkC bt [.int .i64 to] 3
theorem sgiveUp_any (b : Nat) (V : NV) (n : Nd) (now to : Int) (B : Base) (w : World) (hw : Sat B (stH b V n now) w) (ho : Ord n) :
  Calls Tryz.prog 80 #[ptr b, .int .i64 to] w fun e w' => ∃ x : SV × SV × SV, e = .returned (.tuple ⟨[]⟩) ∧ True ∧ Sat ⟨w, feet (stH b V n now)⟩ (stH b { V with ta := x.1, li := x.2.1, ch := x.2.2 } (giveUp n to) now) w' := by
 have h24 := tlen ho
 have l24 := llen ho
 have k251 := klen ho
 have hsp : giveUp n to = if Tp.okN to = false then lose n else { lose n with table := rbrk n.table n.addr to, links := lforget n.links to, children := n.children.filter fun c => !(c == to), parent := if n.parent = to then 255 else n.parent } := rfl
 rw [hsp]
 refine calls_hrW (stH b V n now) (hw) Tryz.func80 I (Nat.le_of_ble_eq_true I) ?_
 refine HR.sub (σ' := [(0, ptr b), (1, .int .i64 to)]) ⟨I, I, trivial⟩ ?_
 refine HR.ctl I ?_
 refine HR.region ?_
 refine HL.box I I ?_
 intro bt
 repeat' (first | refine zh ?_ | intro (bk : Nat))
 refine HL.ent (H' := blkS b V n now :: tiC bt to :: ndH V n) (Ent.pick [1, 0, 2, 3, 4, 5, 6, 7, 8, 9, 10] I I) ?_
 refine HL.callW (r := fun _ : Unit => .tuple ⟨[]⟩) (Q := fun _ => True) (G0 := [blkS b V n now]) (H0 := tiC bt to :: ndH V n) (G := fun _ => [blkS b V (lose n) now]) fn75 I I I (fun w1 hw1 => slose_any b V n now _ w1 (hw1.pick [0] I I) ho.lost) ?_
 intro _ _
 repeat' (first | refine zh ?_ | refine HL.callB fn41 I I (fun w _ => inside_any to w) ?_ | intro (bk : Nat))
 refine HR.cond I (fun h1 => ?_) (fun h1 => ?_)
 ·have h1 : Tp.okN to = false := by simpa using h1
  rw [if_pos h1]
  repeat' (first | refine zh ?_ | intro (bk : Nat))
  refine HR.ret Tryz.func80 I [] (fun _ _ => trivial) ?_
  exact fun w' hw => ⟨(V.ta, V.li, V.ch), rfl, trivial, hw.pick [0, 2, 3, 4, 5, 6, 7, 8, 9, 10] I rfl⟩
 have h1 : ¬ Tp.okN to = false := by simpa using h1
 rw [if_neg h1]
 repeat' (first | refine zh ?_ | intro (bk : Nat))
 refine HR.regionY [(0, true), (1, true), (2, true), (3, true), (4, true), (5, true), (6, true), (7, true), (8, true), (9, true), (10, true), (11, true), (12, false), (13, true), (14, true), (15, true)] 16 [0, 1] I I hmix (by kernel_rfl) ?_
 repeat' (first | refine zd ?_ | fail)
 refine HD.one I ?_
 refine HL.callO fn151 I I (fun w1 hw1 => rbrk_any n.table n.addr to _ w1 ((Rd.own 2 rfl).at hw1) (by omega)) ?_
 intro v1
 refine HL.shape 0 I fun a1 c1 hv => ?_
 subst hv
 refine HL.back [1, 2] I I ?_
 repeat' (first | refine zd ?_ | fail)
 refine HD.last I ?_
 repeat' (first | refine zn ?_ | intro (bk : Nat))
 refine HR.ent (Ent.pick [1, 2, 0, 4, 5, 6, 7, 8, 9, 10, 11] I I) ?_
 repeat' (first | refine zh ?_ | intro (bk : Nat))
 refine HR.regionY [(0, true), (1, true), (2, true), (3, true), (4, true), (5, true), (6, true), (7, false), (8, true), (9, true), (10, true)] 11 [0, 1] I I hmix (by kernel_rfl) ?_
 repeat' (first | refine zd ?_ | fail)
 refine HD.one I ?_
 refine HL.callO fn152 I I (fun w1 hw1 => lforget_any n.links to _ w1 ((Rd.own 3 rfl).at hw1) (by omega)) ?_
 intro v2
 refine HL.shape 0 I fun a2 c2 hv => ?_
 subst hv
 refine HL.back [1, 2] I I ?_
 repeat' (first | refine zd ?_ | fail)
 refine HD.last I ?_
 repeat' (first | refine zn ?_ | intro (bk : Nat))
 refine HR.ent (Ent.pick [6, 2, 1, 3, 0, 5, 7, 8, 9, 10, 11] I I) ?_
 repeat' (first | refine zh ?_ | refine HL.mkF (g := 154) (caps := [_]) I I ?_ | intro (bk : Nat))
 refine HL.callW (r := fun z : Value => z) (Q := fun _ => True) (G0 := [cI (sv V.ch n.children.length) n.children, tiC bt to]) (H0 := [_, _, _, _, _, _, _, _, _]) (G := fun z => [ownC z 3 1 (n.children.filter fun c => !(c == to)).length (cellsOf iC (n.children.filter fun c => !(c == to))), tiC bt to]) fn153 I I I (fun w1 hw1 => delFI_any n.children to bt _ _ w1 (hw1.pick [0, 1] I I) (by omega)) ?_
 intro z _
 refine HL.shape 0 I fun a3 c3 hv => ?_
 subst hv
 repeat' (first | refine zh ?_ | intro (bk : Nat))
 refine HR.ent (Ent.pick [2, 1, 3, 4, 5, 0, 6, 7, 8, 9, 10] I I) ?_
 refine HR.regionQ hmix (by kernel_rfl) ?_
 repeat' (first | refine zq ?_ | apply zb ?_ ?_ | exact zc | (refine zi fun hb => ?_; try simp at hb))
 refine HR.cond I (fun h2 => ?_) (fun h2 => ?_)
 ·have h2 : n.parent = to := eq_of_beq h2
  rw [if_pos h2]
  repeat' (first | refine zh ?_ | intro (bk : Nat))
  refine HR.fin Tryz.func80 I [] (fun _ _ => trivial) ?_
  exact fun w' hw => ⟨((a1, c1), (a2, c2), (a3, c3)), rfl, trivial, hw.pick [0, 2, 3, 4, 5, 6, 7, 8, 9, 10] I rfl⟩
 ·have h2 : (n.parent == to) = false := h2
  have h2 : ¬ n.parent = to := by simpa using h2
  rw [if_neg h2]
  repeat' (first | refine zh ?_ | intro (bk : Nat))
  refine HR.fin Tryz.func80 I [] (fun _ _ => trivial) ?_
  exact fun w' hw => ⟨((a1, c1), (a2, c2), (a3, c3)), rfl, trivial, hw.pick [0, 2, 3, 4, 5, 6, 7, 8, 9, 10] I rfl⟩
theorem result1_any (bf : Nat) (f : Fr) (x : Sn) (w : World) (hcap : Sl w (.slice (some ⟨bf, 0, none⟩) 9 9) (frC f) 9) : Calls Tryz.prog 78 #[.agg ⟨snC x⟩, .pointer (some ⟨bf, 0, none⟩)] w fun e w' => e = .returned (.bool (hits f x)) ∧ Below w.heap.size w w' := by
 refine calls_hr Tryz.func78 I (Nat.le_of_ble_eq_true I) ?_
 refine HR.sub (σ' := [(0, .agg ⟨snC x⟩), (1, .pointer (some ⟨bf, 0, none⟩))]) ⟨I, I, trivial⟩ ?_
 repeat' (first | refine zh ?_ | refine HL.loadI (j := 0) (Rd.arg hcap) I I I I I ?_ | refine HL.loadI (j := 3) (Rd.arg hcap) I I I I I ?_ | refine HL.loadI (j := 5) (Rd.arg hcap) I I I I I ?_ | apply zb ?_ ?_ | exact zc | (refine zi fun hb => ?_; try simp at hb) | intro (bk : Nat))
 refine HR.ret Tryz.func78 I [_] (fun _ _ => ⟨I, trivial⟩) ?_
 exact fun w' hw => ⟨rfl, hw.belowB⟩
theorem giveUp_parts (n : Nd) (to : Int) : (giveUp n to).parts = n.parts := by
 by_cases h : Tp.okN to = false
 ·unfold giveUp; rw [if_pos h]; rfl
 ·unfold giveUp; rw [if_neg h]; rfl
theorem sresult_any (V : NV) (n : Nd) (f : Fr) (ok : Bool) (w : World) (h : OkN w V n) (hs : SmN n) :
  Calls Tryz.prog 30 #[.agg ⟨ndC V n⟩, .agg ⟨frC f⟩, .bool ok] w fun e w' => ∃ V' : NV, e = .returned (.agg ⟨ndC V' (result n f ok)⟩) ∧ Pts V' (result n f ok) ∧ Sat (base w) (ndH V' (result n f ok)) w' := by
 obtain ⟨m, hm⟩ : ∃ m, m = order n := ⟨_, rfl⟩
 have ho : Ord m := by rw [hm]; exact order_ord n
 have h16 := ho.out
 have hsp : result n f ok = match m.out.findIdx? (hits f) with
  | none => m
  | some i => if (mres m.out i ok).2 then giveUp (if Tp.okN f.dst then { m with out := (mres m.out i ok).1, links := lseen m.links f.dst ok } else { m with out := (mres m.out i ok).1 }) f.dst else (if Tp.okN f.dst then { m with out := (mres m.out i ok).1, links := lseen m.links f.dst ok } else { m with out := (mres m.out i ok).1 }) := by rw [hm]; rfl
 obtain ⟨Z, hZ⟩ : ∃ Z, Z = result n f ok := ⟨_, rfl⟩
 rw [← hZ]
 rw [hsp] at hZ
 refine calls_hr Tryz.func30 I (Nat.le_of_ble_eq_true I) ?_
 refine HR.sub (σ' := [(0, .agg ⟨ndC V n⟩), (1, .agg ⟨frC f⟩), (2, .bool ok)]) ⟨I, I, I, trivial⟩ ?_
 refine HR.ctl I ?_
 refine HR.region ?_
 refine HL.box I I ?_
 intro bn
 refine HL.box I I ?_
 intro bf
 repeat' (first | refine zh ?_ | intro (bk : Nat))
 refine HL.callX (r := fun x : Nat × NV => ptr x.1) (Q := fun x => Pts x.2 m) (G := fun x => stH x.1 x.2 m (tick 0)) fn40 I I (fun w1 hw1 => by rw [hm]; exact enter_any V n 0 w1 (h.ext hw1.belowB) hs) ?_
 rintro ⟨b, V2⟩ hP
 have hP : Pts V2 m := hP
 refine HL.ent (Ent.pick [10, 11, 0, 1, 2, 3, 4, 5, 6, 7, 8, 9] I I) ?_
 repeat' (first | refine zh ?_ | refine HL.mkF (g := 78) (caps := [_]) I I ?_ | refine HL.callB fn77 I I (fun w1 hw1 => indexFSn_any m.out (hits f) 78 [.pointer (some ⟨bf, 0, none⟩)] (sv V2.ou m.out.length) w1 fn78 (fun a ha w2 hb => result1_any bf f a w2 (((Rd.blk (n := 9) 1 rfl).at hw1).ext hb)) ((Rd.own 5 rfl).at hw1) (by omega)) ?_ | intro (bk : Nat))
 rcases fidx_cases (hits f) m.out with ⟨e1, e2, _⟩ | ⟨i, x, e1, e2, e3, _⟩
 ·rw [e2] at hZ
  have hZ : Z = m := hZ
  rw [e1, hZ]
  repeat' (first | refine zh ?_ | intro (bk : Nat))
  refine HR.ret Tryz.func30 I [_] (fun w hw => ⟨⟨_, rfl, loadVarR hw 0 I I I I rfl⟩, trivial⟩) ?_
  exact fun w' hw => ⟨V2, rfl, hP, hw.pick [3, 4, 5, 6, 7, 8, 9, 10, 11] I rfl⟩
 rw [e2] at hZ
 rw [e1]
 have hmr := mres_len m.out i ok
 obtain ⟨r, hr⟩ : ∃ r, r = mres m.out i ok := ⟨_, rfl⟩
 rw [← hr] at hmr
 have hm1 := ho.setOut hmr
 have hml : Ord { m with out := r.1, links := lseen m.links f.dst ok } := hm1.setLinks (lseen_ok _ _ _)
 have hl24 := llen ho
 obtain ⟨m2, hm2⟩ : ∃ m2, m2 = if Tp.okN f.dst then { m with out := r.1, links := lseen m.links f.dst ok } else { m with out := r.1 } := ⟨_, rfl⟩
 have ho2 : Ord m2 := by rw [hm2]; split; exact hml; exact hm1
 have hp2 : m2.parts = m.parts := by rw [hm2]; split <;> rfl
 have hZ : Z = if r.2 = true then giveUp m2 f.dst else m2 := by rw [hZ, hm2, hr]
 rw [hZ]
 repeat' (first | refine zh ?_ | intro (bk : Nat))
 refine HL.callX (r := fun v' : Value => .tuple ⟨[v', .bool r.2]⟩) (Q := fun _ => True) (G := fun v' => [cSn v' r.1]) fn74 I I (fun w1 hw1 => by rw [hr]; exact mresult_any m.out i ok _ w1 ((Rd.own 5 rfl).at hw1) (by omega)) ?_
 intro v1 _
 refine HL.shape 0 I fun a c hv => ?_
 subst hv
 repeat' (first | refine zh ?_ | refine HL.callB fn41 I I (fun w _ => inside_any f.dst w) ?_ | intro (bk : Nat))
 refine HR.ent (H' := _ :: _ :: stH b { V2 with ou := (a, c) } { m with out := r.1 } (tick 0)) (Ent.pick [1, 2, 3, 4, 5, 0, 7, 8, 9, 10, 11, 12] I I) ?_
 refine HR.join (ι := SV) (fun _ => True) (fun _ => [(6, ptr bk), (4, ptr bf), (7, ptr b), (10, .bool r.2)]) (fun x => blkC bk zerC 31 :: blkC bf (frC f) 42 :: stH b { V2 with ou := (a, c), li := x } m2 (tick 0)) (fun x _ => ?_) (fun hj => ?_)
 rotate_left
 ·refine HR.cond I (fun h1 => ?_) (fun h1 => ?_)
  ·have h1 : Tp.okN f.dst = true := h1
   rw [h1, if_pos rfl] at hm2
   repeat' (first | refine zh ?_ | intro (bk : Nat))
   refine HR.regionY [(0, true), (1, true), (2, true), (3, true), (4, true), (5, true), (6, true), (7, true), (8, true), (9, false), (10, true), (11, true), (12, true)] 13 [1, 2] I I hmix (by kernel_rfl) ?_
   repeat' (first | refine zd ?_ | fail)
   refine HD.one I ?_
   refine HL.callO fn79 I I (fun w1 hw1 => lseen_any m.links f.dst ok _ w1 ((Rd.own 4 rfl).at hw1) (by omega)) ?_
   intro v2
   refine HL.shape 0 I fun a2 c2 hv => ?_
   subst hv
   refine HL.back [2, 3] I I ?_
   repeat' (first | refine zd ?_ | fail)
   refine HD.last I ?_
   repeat' (first | refine zn ?_ | intro (bk : Nat))
   refine hj (a2, c2) _ _ trivial ⟨I, I, I, I, trivial⟩ ?_
   rw [hm2]
   exact Ent.pick [1, 2, 3, 4, 0, 6, 7, 8, 9, 10, 11, 12] I I
  ·have h1 : Tp.okN f.dst = false := h1
   rw [h1, if_neg (by decide)] at hm2
   refine HR.skip ?_
   refine hj V2.li _ _ trivial ⟨I, I, I, I, trivial⟩ ?_
   rw [hm2]
   exact Ent.refl
 repeat' (first | refine zh ?_ | intro (bk : Nat))
 refine HR.cond I (fun h1 => ?_) (fun h1 => ?_)
 ·have h1 : r.2 = true := h1
  rw [if_pos h1]
  repeat' (first | refine zh ?_ | intro (bk : Nat))
  refine HL.ent (Ent.pick [2, 3, 4, 5, 6, 7, 8, 9, 10, 11, 0] I I) ?_
  refine HL.callW (r := fun _ : SV × SV × SV => .tuple ⟨[]⟩) (Q := fun _ => True) (G0 := stH b { V2 with ou := (a, c), li := x } m2 (tick 0)) (H0 := [_]) (G := fun y => stH b { V2 with ou := (a, c), ta := y.1, li := y.2.1, ch := y.2.2 } (giveUp m2 f.dst) (tick 0)) fn80 I I I (fun w1 hw1 => sgiveUp_any b { V2 with ou := (a, c), li := x } m2 (tick 0) f.dst _ w1 (hw1.pick [0, 1, 2, 3, 4, 5, 6, 7, 8, 9] I I) ho2) ?_
  intro y _
  refine HL.ent (Ent.pick [10, 0, 1, 2, 3, 4, 5, 6, 7, 8, 9] I I) ?_
  repeat' (first | refine zh ?_ | intro (bk : Nat))
  refine HR.ret Tryz.func30 I [_] (fun w hw => ⟨⟨_, rfl, loadVarR hw 0 I I I I rfl⟩, trivial⟩) ?_
  exact fun w' hw => ⟨{ V2 with ou := (a, c), ta := y.1, li := y.2.1, ch := y.2.2 }, rfl, ⟨by rw [giveUp_parts, hp2]; exact hP.eq, hP.sh⟩, hw.pick [2, 3, 4, 5, 6, 7, 8, 9, 10] I rfl⟩
 ·have h1 : r.2 = false := h1
  rw [if_neg (by rw [h1]; decide)]
  repeat' (first | refine zh ?_ | intro (bk : Nat))
  refine HR.ret Tryz.func30 I [_] (fun w hw => ⟨⟨_, rfl, loadVarR hw 0 I I I I rfl⟩, trivial⟩) ?_
  exact fun w' hw => ⟨{ V2 with ou := (a, c), li := x }, rfl, ⟨by rw [hp2]; exact hP.eq, hP.sh⟩, hw.pick [3, 4, 5, 6, 7, 8, 9, 10, 11] I rfl⟩
end Go.Proofs.YtgdgclmkpoaagaaGreat
namespace Go.Proofs.YtgdgclmkpoaagaaGreat
open Go.GX Go.RowKit
attribute [local irreducible] Calls Run RunL RunQ RunD HR HL HD blkC ownC Rd
open Nd
theorem fn33 : IsFn Tryz.prog 33 := ⟨⟨_, _, Tryz.func33, rfl, by decide⟩⟩
theorem boxes_parts (now : Int) : ∀ (l : List Fr) (n : Nd), (l.foldl (fun n f => box n f now) n).parts = n.parts
 | [], _ => rfl
 | f :: l, n => (boxes_parts now l (box n f now)).trans (box_parts n f now)
theorem asleep_parts (n : Nd) (now : Int) : (asleep n now).parts = n.parts := by unfold asleep; exact boxes_parts now _ _
theorem beacon_parts (n : Nd) : (beacon n).parts = n.parts := by
 unfold beacon; split
 ·exact (queue_parts _ _).trans I
 ·rfl
theorem poll_parts (n : Nd) : (poll n).parts = n.parts := by
 unfold poll; split
 ·exact (queue_parts _ _).trans I
 ·rfl
theorem stick_any (V : NV) (n : Nd) (now : Int) (w : World) (h : OkN w V n) (hs : SmN n) (hf : ∀ s ∈ n.out, fits .i64 s.wt) :
  Calls Tryz.prog 33 #[.agg ⟨ndC V n⟩, .int .i64 now] w fun e w' => ∃ V' : NV, e = .returned (.agg ⟨ndC V' (tickN n now)⟩) ∧ Pts V' (tickN n now) ∧ Sat (base w) (ndH V' (tickN n now)) w' := by
 obtain ⟨m, hm⟩ : ∃ m, m = order n := ⟨_, rfl⟩
 have ho : Ord m := by rw [hm]; exact order_ord n
 have h16 := ho.out
 have hb16 := ho.boxes
 have hmf : ∀ s ∈ m.out, fits .i64 s.wt := fun s hs => hf s (List.mem_of_mem_take (by rw [hm] at hs; exact hs))
 have hmp : m.parts = n.parts := by rw [hm]; rfl
 obtain ⟨T, hT⟩ : ∃ T, T = tick now := ⟨_, rfl⟩
 have ht0 : 0 ≤ T := by rw [hT]; unfold tick clamp; omega
 obtain ⟨a, ha⟩ : ∃ a, a = asleep { m with out := mtick m.out, boxes := bexp m.boxes T 120, parts := pexp m.parts T 120 } T := ⟨_, rfl⟩
 obtain ⟨g, hg⟩ : ∃ g, g = if a.poll = 0 ∧ T % 8 = a.addr % 8 then beacon a else a := ⟨_, rfl⟩
 have hsp : tickN n now = if g.poll > 0 ∧ g.parent ≠ 255 ∧ T % g.poll = 0 then poll g else g := by rw [hg, ha, hT, hm]; rfl
 have ho1 : Ord { m with out := mtick m.out, boxes := bexp m.boxes T 120, parts := pexp m.parts T 120 } := ((ho.setOut (mtick_len m.out)).setBoxes (bexp_len m.boxes T 120)).setParts _
 have hao : Ord a := by rw [ha]; exact (asleep_good (Good.refl ho1) T).ord
 have hap : a.parts = pexp m.parts T 120 := by rw [ha]; exact asleep_parts _ _
 have hgo : Ord g := by rw [hg]; split; exact (beacon_good (Good.refl hao)).ord; exact hao
 have hgp : g.parts = pexp m.parts T 120 := by rw [hg, ← hap]; split; exact beacon_parts _; rfl
 have ha8 := ((okN_iff _).1 hao.addr).1
 rw [hsp]
 refine calls_hr Tryz.func33 I (Nat.le_of_ble_eq_true I) ?_
 refine HR.sub (σ' := [(0, .agg ⟨ndC V n⟩), (1, .int .i64 now)]) ⟨I, I, trivial⟩ ?_
 repeat' (first | refine zh ?_ | intro (bk : Nat))
 refine HL.callX (r := fun x : Nat × NV => ptr x.1) (Q := fun x => Pts x.2 m) (G := fun x => stH x.1 x.2 m T) fn40 I I (fun w1 hw1 => by rw [hm, hT]; exact enter_any V n now w1 (h.ext hw1.belowB) hs) ?_
 rintro ⟨b, V2⟩ hP
 have hP : Pts V2 m := hP
 have hpl : V2.ps.length ≤ 1000 := by rw [← pts_len, hP.eq, hmp]; exact hs.pa
 have hps : ∀ p ∈ V2.ps, SmPt p.pt := fun p hp => hs.sm p.pt (by rw [← hmp, ← hP.eq]; exact List.mem_map.2 ⟨p, hp, rfl⟩)
 refine HL.ent (Ent.pick [10, 0, 1, 2, 3, 4, 5, 6, 7, 8, 9] I I) ?_
 repeat' (first | refine zh ?_ | refine HL.callO fn90 I I (fun w1 hw1 => mtick_any m.out _ w1 ((Rd.own 4 rfl).at hw1) (by omega) hmf) ?_ | intro (bk : Nat))
 intro v1
 refine HL.shape 0 I fun a1 c1 hv => ?_
 subst hv
 repeat' (first | refine zh ?_ | intro (bk : Nat))
 refine HR.ent (Ent.pick [1, 2, 3, 4, 0, 6, 7, 8, 9, 10, 11] I I) ?_
 refine HR.regionY [(0, true), (1, true), (2, true), (3, true), (4, true), (5, true), (6, true), (7, true), (8, true), (9, true), (10, false), (11, true), (12, true), (13, true)] 14 [1] I I hmix (by kernel_rfl) ?_
 repeat' (first | refine zd ?_ | fail)
 refine HD.one I ?_
 refine HL.callO fn91 I I (fun w1 hw1 => bexp_any m.boxes T 120 _ w1 ((Rd.own 6 rfl).at hw1) (by omega)) ?_
 intro v2
 refine HL.shape 0 I fun a2 c2 hv => ?_
 subst hv
 refine HL.back [2] I I ?_
 repeat' (first | refine zd ?_ | fail)
 refine HD.last I ?_
 repeat' (first | refine zn ?_ | intro (bk : Nat))
 refine HR.ent (Ent.pick [1, 2, 3, 4, 5, 6, 0, 8, 9, 10, 11] I I) ?_
 repeat' (first | refine zh ?_ | intro (bk : Nat))
 refine HR.regionY [(0, true), (1, true), (2, true), (3, true), (4, true), (5, true), (6, true), (7, true), (8, true), (9, true), (10, false), (11, true), (12, true), (13, true)] 14 [1] I I hmix (by kernel_rfl) ?_
 repeat' (first | refine zd ?_ | fail)
 refine HD.one I ?_
 refine HL.callX (r := fun x : Value × List PtV => x.1) (Q := fun x => GdPts x (pexp (pts V2.ps) T 120)) (G := fun x => ptsC x) fn92 I I (fun w1 hw1 => fexp_any V2.ps T 120 _ w1 (RdPts.own 8 9 hw1 I I) hps hpl) ?_
 rintro ⟨v3, ps⟩ ⟨hg1, hg2⟩
 have hq1 : pts ps = pexp m.parts T 120 := by rw [← hP.eq]; exact hg1
 have hq2 : ∀ p ∈ ps, ShPt p := hg2
 refine HL.shape (v := v3) (e := 76) (sz := 6) (n := ps.length) (xs := cellsOf ptC ps) 0 I fun a3 c3 hv => ?_
 subst hv
 refine HL.back [3] I I ?_
 repeat' (first | refine zd ?_ | fail)
 refine HD.last I ?_
 repeat' (first | refine zn ?_ | intro (bk : Nat))
 obtain ⟨V3, hV3⟩ : ∃ V3 : NV, V3 = ⟨V2.ta, V2.li, (a1, c1), V2.ch, (a2, c2), V2.se, (a3, c3), V2.ib, ps⟩ := ⟨_, rfl⟩
 have hps3 : V3.ps = ps := by rw [hV3]
 refine HR.ent (H' := _ :: stH b ⟨V2.ta, V2.li, (a1, c1), V2.ch, (a2, c2), V2.se, (a3, c3), V2.ib, ps⟩ { m with out := mtick m.out, boxes := bexp m.boxes T 120, parts := pexp m.parts T 120 } T) (Ent.pick [2, 3, 4, 5, 6, 7, 8, 9, 0, 1, 12] I I) ?_
 rw [← hV3]
 repeat' (first | refine zh ?_ | intro (bk : Nat))
 refine HL.ent (Ent.pick [1, 2, 3, 4, 5, 6, 7, 8, 9, 10, 0] I I) ?_
 refine HL.callW (r := fun _ : SV × SV => .tuple ⟨[]⟩) (Q := fun _ => True) (G0 := stH b V3 { m with out := mtick m.out, boxes := bexp m.boxes T 120, parts := pexp m.parts T 120 } T) (H0 := [_]) (G := fun x => stH b { V3 with ou := x.1, bo := x.2 } a T) fn93 I I I (fun w1 hw1 => by rw [ha]; exact sasleep_any b V3 _ T _ w1 (hw1.pick [0, 1, 2, 3, 4, 5, 6, 7, 8, 9] I I) ho1) ?_
 rintro ⟨x1, x2⟩ _
 repeat' (first | refine zh ?_ | intro (bk : Nat))
 refine HR.regionQ hmix (by kernel_rfl) ?_
 repeat' (first | refine zq ?_ | apply zb ?_ ?_ | exact zc | (refine zi fun hb => ?_; try simp at hb))
 refine HR.join (ι := SV × SV) (fun _ => True) (fun _ => [(4, ptr bk), (5, ptr b)]) (fun y => stH b { V3 with bo := x2, ta := y.1, ou := y.2 } g T ++ [blkC bk zerC 31]) (fun y _ => ?_) (fun hj => ?_)
 rotate_left
 ·refine HR.cond I (fun h1 => ?_) (fun h1 => ?_)
  ·have h1 : ((a.poll == 0) && (T % 8 == a.addr % 8)) = true := h1
   have h2 : a.poll = 0 ∧ T % 8 = a.addr % 8 := by simpa using h1
   rw [if_pos h2] at hg
   refine HR.region ?_
   repeat' (first | refine zn ?_ | apply zb ?_ ?_ | exact zc | (refine zi fun hb => ?_; try simp at hb) | intro (bk : Nat))
   refine HL.callW (r := fun _ : SV × SV => .tuple ⟨[]⟩) (Q := fun _ => True) (G0 := stH b { V3 with ou := x1, bo := x2 } a T) (H0 := [_]) (G := fun y => stH b { V3 with bo := x2, ta := y.1, ou := y.2 } g T) fn94 I I I (fun w1 hw1 => by rw [hg]; exact sbeacon_any b { V3 with ou := x1, bo := x2 } a T _ w1 (hw1.pick [0, 1, 2, 3, 4, 5, 6, 7, 8, 9] I I) hao) ?_
   intro y _
   repeat' (first | refine zn ?_ | apply zb ?_ ?_ | exact zc | (refine zi fun hb => ?_; try simp at hb) | intro (bk : Nat))
   exact hj y _ _ trivial ⟨I, I, trivial⟩ Ent.refl
  ·have h1 : ((a.poll == 0) && (T % 8 == a.addr % 8)) = false := h1
   have h2 : ¬ (a.poll = 0 ∧ T % 8 = a.addr % 8) := by simpa using h1
   rw [if_neg h2] at hg
   refine HR.skip ?_
   refine hj (V3.ta, x1) _ _ trivial ⟨I, I, trivial⟩ ?_
   rw [hg]
   exact Ent.refl
 obtain ⟨y1, y2⟩ := y
 repeat' (first | refine zh ?_ | intro (bk : Nat))
 refine HR.regionQ hmix (by kernel_rfl) ?_
 repeat' (first | refine zq ?_ | apply zb ?_ ?_ | exact zc | (refine zi fun hb => ?_; try simp at hb))
 refine HR.cond I (fun h1 => ?_) (fun h1 => ?_)
 ·have h1 : ((decide (g.poll > 0) && !(g.parent == 255)) && (T % g.poll == 0)) = true := h1
  have h2 : g.poll > 0 ∧ g.parent ≠ 255 ∧ T % g.poll = 0 := by simpa [and_assoc] using h1
  rw [if_pos h2]
  repeat' (first | refine zh ?_ | intro (bk : Nat))
  refine HL.callW (r := fun _ : SV × SV => .tuple ⟨[]⟩) (Q := fun _ => True) (G0 := stH b { V3 with bo := x2, ta := y1, ou := y2 } g T) (H0 := [_]) (G := fun y => stH b { V3 with bo := x2, ta := y.1, ou := y.2 } (poll g) T) fn95 I I I (fun w1 hw1 => spoll_any b { V3 with bo := x2, ta := y1, ou := y2 } g T _ w1 (hw1.pick [0, 1, 2, 3, 4, 5, 6, 7, 8, 9] I I) hgo) ?_
  intro z _
  refine HL.ent (Ent.pick [10, 0, 1, 2, 3, 4, 5, 6, 7, 8, 9] I I) ?_
  repeat' (first | refine zh ?_ | intro (bk : Nat))
  refine HR.ret Tryz.func33 I [_] (fun w hw => ⟨⟨_, rfl, loadVarR hw 0 I I I I rfl⟩, trivial⟩) ?_
  exact fun w' hw => ⟨{ V3 with bo := x2, ta := z.1, ou := z.2 }, rfl, ⟨by rw [poll_parts, hgp, ← hq1, hV3], by rw [hV3]; exact hq2⟩, hw.pick [2, 3, 4, 5, 6, 7, 8, 9, 10] I rfl⟩
 ·have h1 : ((decide (g.poll > 0) && !(g.parent == 255)) && (T % g.poll == 0)) = false := h1
  have h2 : ¬ (g.poll > 0 ∧ g.parent ≠ 255 ∧ T % g.poll = 0) := by
   intro e
   have : ((decide (g.poll > 0) && !(g.parent == 255)) && (T % g.poll == 0)) = true := by simpa [and_assoc] using e
   rw [h1] at this; cases this
  rw [if_neg h2]
  refine HR.skip ?_
  refine HR.ent (Ent.pick [10, 0, 1, 2, 3, 4, 5, 6, 7, 8, 9] I I) ?_
  repeat' (first | refine zh ?_ | intro (bk : Nat))
  refine HR.ret Tryz.func33 I [_] (fun w hw => ⟨⟨_, rfl, loadVarR hw 0 I I I I rfl⟩, trivial⟩) ?_
  exact fun w' hw => ⟨{ V3 with bo := x2, ta := y1, ou := y2 }, rfl, ⟨by rw [hgp, ← hq1, hV3], by rw [hV3]; exact hq2⟩, hw.pick [2, 3, 4, 5, 6, 7, 8, 9, 10] I rfl⟩
end Go.Proofs.YtgdgclmkpoaagaaGreat
namespace Go.Proofs.YtgdgclmkpoaagaaGreat
open Go.GX Go.RowKit
attribute [local irreducible] Calls Run RunL RunQ RunD HR HL HD blkC ownC Rd
open Nd
theorem ptake_any (V : NV) (n : Nd) (w : World) (h : OkN w V n) (hs : SmN n) :
  Calls Tryz.prog 23 #[.agg ⟨ndC V n⟩] w fun e w' => ∃ x : (NV × SV) × List Chunk, e = .returned (.tuple ⟨[.agg ⟨ndC x.1.1 (take n).1⟩, sv x.1.2 (take n).2.length]⟩) ∧ (Own x.1.1 x.2 (take n).1 ∧ ∀ w2, (groupC x.2).p w2 → Sl w2 (sv x.1.2 (take n).2.length) (cellsOf deC (take n).2) (take n).2.length) ∧ Sat (base w) [groupC x.2] w' :=
 (stake_any V n w h hs).mono fun e w' ⟨⟨V', y⟩, h1, h2, h3⟩ => ⟨((V', y), [groupC (ndH V' (take n).1), cDe (sv y (take n).2.length) (take n).2]), h1,
  ⟨fun w2 hg => h2.own w2 (groupC_mem hg (List.mem_cons_self ..)), fun w2 hg => ownC_sl (groupC_mem hg (c := cDe (sv y (take n).2.length) (take n).2) (by simp))⟩, by
   have e1 : Ent (base w) (cDe (sv y (take n).2.length) (take n).2 :: ndH V' (take n).1) (ndH V' (take n).1 ++ [cDe (sv y (take n).2.length) (take n).2]) := Ent.pick [1, 2, 3, 4, 5, 6, 7, 8, 9, 0] I I
   exact sat_grp (Ent.group (G := ndH V' (take n).1) (H := [cDe (sv y (take n).2.length) (take n).2]) w' (e1 w' h3))⟩
theorem presult_any (V : NV) (n : Nd) (f : Fr) (ok : Bool) (w : World) (h : OkN w V n) (hs : SmN n) :
  Calls Tryz.prog 30 #[.agg ⟨ndC V n⟩, .agg ⟨frC f⟩, .bool ok] w fun e w' => ∃ x : NV × List Chunk, e = .returned (.agg ⟨ndC x.1 (result n f ok)⟩) ∧ Own x.1 x.2 (result n f ok) ∧ Sat (base w) [groupC x.2] w' :=
 (sresult_any V n f ok w h hs).mono fun e w' ⟨V', h1, h2, h3⟩ => ⟨(V', ndH V' _), h1, h2.own, sat_grp h3⟩
theorem ptick_any (V : NV) (n : Nd) (now : Int) (w : World) (h : OkN w V n) (hs : SmN n) (hf : ∀ s ∈ n.out, fits .i64 s.wt) :
  Calls Tryz.prog 33 #[.agg ⟨ndC V n⟩, .int .i64 now] w fun e w' => ∃ x : NV × List Chunk, e = .returned (.agg ⟨ndC x.1 (tickN n now)⟩) ∧ Own x.1 x.2 (tickN n now) ∧ Sat (base w) [groupC x.2] w' :=
 (stick_any V n now w h hs hf).mono fun e w' ⟨V', h1, h2, h3⟩ => ⟨(V', ndH V' _), h1, h2.own, sat_grp h3⟩
theorem pvalid_smp {p : Pt} (h : pvalid p = true) : SmPt p := by
 have H := phead_is (pvalid_head h)
 have h1 := H.hv
 have h2 := H.da
 have h3 := H.ct1
 exact ⟨by omega, by omega, fun s hs => by have := pvalid_sm h s hs; omega⟩
theorem porder_sm (l : List Pt) : ∀ p ∈ porder l, SmPt p := fun p hp => pvalid_smp (porder_valid p hp)
theorem pdrop_mem {l : List Pt} {s id c : Int} {p : Pt} (h : p ∈ (pdrop l s id c).1) : p ∈ l := by
 unfold pdrop at h
 split at h
 ·split at h
  ·exact h
  ·exact List.mem_of_mem_eraseIdx h
 ·exact h
theorem pmark_sm {p : Pt} {i : Nat} {d : By} (h : SmPt p) (hd : d.length ≤ 1000) : SmPt (pmark p i d) := by
 unfold pmark
 split
 ·exact h
 ·refine ⟨?_, ?_, fun s hs => ?_⟩
  ·show (p.hv.set i true).length ≤ 1000
   rw [List.length_set]; exact h.1
  ·show (p.da.set i d).length ≤ 1000
   rw [List.length_set]; exact h.2.1
  ·rcases List.mem_or_eq_of_mem_set hs with hs | rfl
   ·exact h.2.2 s hs
   ·omega
theorem padd_sm {l : List Pt} {s now : Int} {x : By} (hx : x.length ≤ 1000) (he : (padd l s now x).e = 0) : PtSm (padd l s now x).l := by
 unfold padd at he ⊢
 split
 ·exact ⟨Nat.zero_le _, fun p hp => by cases hp⟩
 ·rename_i hc
  have hc : pchk x = 0 := Decidable.not_not.1 hc
  obtain ⟨c1, c2, c3, c4, c5, c6, c7, c8⟩ := pchk_spec hc
  have ho8 := porder_len l
  split
  ·exact ⟨Nat.le_trans (pdrop_len ho8 s (b8 x 0) 1) (by decide), fun p hp => porder_sm l p (pdrop_mem hp)⟩
  ·rename_i h1
   have hd8 := pdrop_len ho8 s (b8 x 0) (b8 x 2)
   have hm : ∀ p ∈ (pdrop (porder l) s (b8 x 0) (b8 x 2)).1, SmPt p := fun p hp => porder_sm l p (pdrop_mem hp)
   have hnew : (∀ p ∈ (pnew (pdrop (porder l) s (b8 x 0) (b8 x 2)) s (b8 x 0) (b8 x 2) now).1, SmPt p) ∧ (pnew (pdrop (porder l) s (b8 x 0) (b8 x 2)) s (b8 x 0) (b8 x 2) now).1.length ≤ 8 := by
    unfold pnew
    split
    ·exact ⟨hm, hd8⟩
    ·have hr := proom_len hd8
     refine ⟨fun p hp => ?_, by rw [List.length_append]; simp; omega⟩
     rcases List.mem_append.1 hp with hp | hp
     ·unfold proom at hp
      split at hp
      ·exact hm p (List.mem_of_mem_eraseIdx hp)
      ·exact hm p hp
     ·rw [List.mem_singleton.1 hp]
      refine ⟨?_, ?_, fun s hs => ?_⟩
      ·show (List.replicate (b8 x 2).toNat false).length ≤ 1000
       rw [List.length_replicate]; omega
      ·show (List.replicate (b8 x 2).toNat ([] : By)).length ≤ 1000
       rw [List.length_replicate]; omega
      ·have hs : s ∈ List.replicate (b8 x 2).toNat ([] : By) := hs
       rw [(List.mem_replicate.1 hs).2]; simp
   generalize pnew (pdrop (porder l) s (b8 x 0) (b8 x 2)) s (b8 x 0) (b8 x 2) now = o at hnew ⊢
   obtain ⟨n1, n2⟩ := hnew
   have hz : SmPt pz := ⟨by decide, by decide, fun s hs => by cases hs⟩
   have hg : SmPt (o.1.getD o.2 pz) := by
    rw [List.getD_eq_getElem?_getD]
    cases hq : o.1[o.2]? with
    | none => exact hz
    | some q => exact n1 q (List.mem_of_getElem? hq)
   have hdl : (x.drop 3).length ≤ 1000 := by rw [List.length_drop]; omega
   unfold pput
   split
   ·exact ⟨Nat.le_trans (List.length_eraseIdx_le _ _) (by omega), fun p hp => n1 p (List.mem_of_mem_eraseIdx hp)⟩
   ·refine ⟨by rw [List.length_set]; omega, fun p hp => ?_⟩
    rcases List.mem_or_eq_of_mem_set hp with hp | rfl
    ·exact n1 p hp
    ·exact pmark_sm hg hdl
theorem sends_parts {target : Int} {ur : Bool} : ∀ {l : List By} {n m : Nd}, sends target ur l n = some m → m.parts = n.parts
 | [], n, m, e => by cases e; rfl
 | p :: l, n, m, e => by
  unfold sends at e
  split at e
  ·have := sends_parts e
   rw [this]; exact queue_parts n _
  ·cases e
theorem send_ptsm {n : Nd} {target : Int} {ur : Bool} {text : By} (h : PtSm n.parts) : PtSm (send n target ur text).1.parts := by
 have h0 : PtSm nd0.parts := ⟨by decide, fun p hp => by cases hp⟩
 unfold send
 simp only
 split
 ·exact h0
 ·split
  ·exact h0
  ·split
   ·rw [deliver_parts]; exact h
   ·split
    ·rename_i m hm; rw [sends_parts hm]; exact h
    ·exact h0
theorem talks_parts (now : Int) : ∀ (k : Nat) (n : Nd) (i : Nat), (talks now k n i).1.parts = n.parts
 | 0, n, i => rfl
 | k + 1, n, i => by
  unfold talks
  split
  ·rfl
  ·split
   ·exact talks_parts now k n _
   ·split
    ·rfl
    ·split
     ·rw [talks_parts now k]; exact box_parts _ _ _
     ·split
      ·rfl
      ·split
       ·rw [talks_parts now k]; rfl
       ·rw [talks_parts now k]
theorem talk_ptsm {n : Nd} {now : Int} (h : PtSm n.parts) : PtSm (talk n now).1.parts := by
 unfold talk; rw [talks_parts]; exact h
theorem result_ptsm {n : Nd} {f : Fr} {ok : Bool} (h : PtSm n.parts) : PtSm (result n f ok).parts := by
 unfold result
 simp only
 split
 ·exact h
 ·split
  ·rw [giveUp_parts]; split <;> exact h
  ·split <;> exact h
theorem hear_ptsm {n : Nd} {now : Int} {f : Fr} (h : PtSm n.parts) : PtSm (hear n now f).parts := by
 unfold hear
 simp only
 split
 ·exact h
 ·rename_i h1
  have hc : fchk f = 0 := Decidable.not_not.1 fun e => h1 (.inl e)
  have hl := (fchk_fr hc).2.2.2.2.2.2
  split
  ·rw [advertised_parts]; exact h
  ·split
   ·rw [polled_parts]; exact h
   ·split
    ·unfold received
     simp only
     split
     ·exact h
     ·split
      ·split
       ·exact h
       ·rename_i he
        have hp : PtSm (padd (order n).parts f.so (tick now) f.da).l := padd_sm (by omega) (Decidable.not_not.1 he)
        split
        ·rw [deliver_parts]; exact hp
        ·exact hp
      ·split
       ·exact h
       ·rw [queue_parts]; exact h
    ·exact h
end Go.Proofs.YtgdgclmkpoaagaaGreat
namespace Go.Proofs.YtgdgclmkpoaagaaGreat
open Go.GX Go.RowKit
attribute [local irreducible] Calls Run RunL RunQ RunD HR HL HD blkC ownC Rd
open Nd
abbrev leC (ta : Int) (ur : Bool) (te : By) : List Value := [.int .i64 ta, .bool ur, str te]
end Go.Proofs.YtgdgclmkpoaagaaGreat
namespace Go.Proofs.YtgdgclmkpoaagaaGreat
open Go.GX Go.RowKit
attribute [local irreducible] Calls Run RunL RunQ RunD HR HL HD blkC ownC Rd
open Nd
variable {H : Type} {enc : TypeId × Value → H} {W : World}
abbrev LeA := Int × Bool × By
abbrev leE (a : LeA) : List Value := leC a.1 a.2.1 a.2.2
theorem opT33 : Opens enc Tryz.prog W 33 leE (fun a => a.2.2.length ≤ 9223372036854775807) := by
 intro fuel cs x h
 obtain ⟨hl, hf⟩ := Opens.fields (fs := _) I h
 have cT : Tryz.prog.cellsOf 33 = 3 := by kernel_rfl
 have cf0 : Tryz.prog.cellsOf 3 = 1 := by kernel_rfl
 have cf1 : Tryz.prog.cellsOf 4 = 1 := by kernel_rfl
 have cf2 : Tryz.prog.cellsOf 9 = 1 := by kernel_rfl
 rw [cT] at hl
 obtain ⟨fu0, y0, h0⟩ := hf _ (List.mem_cons_self ..)
 obtain ⟨fu1, y1, h1⟩ := hf _ (List.mem_cons_of_mem _ (List.mem_cons_self ..))
 obtain ⟨fu2, y2, h2⟩ := hf _ (List.mem_cons_of_mem _ (List.mem_cons_of_mem _ (List.mem_cons_self ..)))
 obtain ⟨a0, g0, b0⟩ := Opens.int (k := .i64) I fu0 _ _ h0
 obtain ⟨a1, g1, b1⟩ := Opens.bool rfl fu1 _ _ h1
 obtain ⟨a2, g2, b2⟩ := Opens.str rfl fu2 _ _ h2
 have e0 := parts_eq g0 (m := 1) (by simp [cf0]) (by simp [cf0])
 have e1 := parts_eq g1 (m := 2) (by simp [cf1]) (by simp [cf1])
 have e2 := parts_eq g2 (m := 3) (by simp [cf2]) (by simp [cf2])
 refine ⟨(a0, a1, a2), ?_, b2⟩
 simp only [List.drop_zero] at e0
 rw [e0, e1, e2, List.drop_eq_nil_of_le (by omega)]; rfl
end Go.Proofs.YtgdgclmkpoaagaaGreat
namespace Go.Proofs.YtgdgclmkpoaagaaGreat
open Go.GX Go.RowKit
attribute [local irreducible] Calls Run RunL RunQ RunD HR HL HD blkC ownC Rd
open Nd
theorem ways_ptsm {a b : Int} {ur : Bool} {s : By} : ∀ i, PtSm (Nd.ways a b ur s i).1.parts ∧ PtSm (Nd.ways a b ur s i).2.parts
 | 0 => by
  unfold Nd.ways
  exact ⟨send_ptsm (hear_ptsm ⟨Nat.zero_le _, fun p hp => by cases hp⟩), ⟨Nat.zero_le _, fun p hp => by cases hp⟩⟩
 | i + 1 => by
  unfold Nd.ways
  exact ⟨result_ptsm (talk_ptsm (ways_ptsm i).1), hear_ptsm (ways_ptsm i).2⟩
theorem nodeDelivers_any (a b : Int) (ta : Int) (ur : Bool) (te : By) (w : World) (ha0 : 0 ≤ a ∧ a ≤ 255) (hb0 : 0 ≤ b ∧ b ≤ 255) (hte : te.length ≤ 9223372036854775807) :
  Calls Tryz.prog 11 #[.int .u8 a, .int .u8 b, .agg ⟨leC ta ur te⟩] w fun e w' => e = .returned (.bool true) ∧ Below w.heap.size w w' := by
 refine calls_hr Tryz.func11 I (Nat.le_of_ble_eq_true I) ?_
 refine HR.sub (σ' := [(0, .int .u8 a), (1, .int .u8 b), (2, .agg ⟨leC ta ur te⟩)]) ⟨I, I, I, trivial⟩ ?_
 refine HR.ctl I ?_
 refine HR.region ?_
 refine HL.box I I ?_
 intro b5
 repeat' (first | refine zh ?_ | apply zb ?_ ?_ | exact zc | (refine zi fun hb => ?_; try simp at hb) | intro (bk : Nat))
 refine HR.cond I (fun h1 => ?_) (fun h1 => ?_)
 ·repeat' (first | refine zh ?_ | refine HL.callB fn13 I I (fun w1 _ => awake_any w1) ?_ | intro (bk : Nat))
  refine HR.ret Tryz.func11 I [_] (fun _ _ => ⟨I, trivial⟩) ?_
  exact fun w' hw => ⟨rfl, hw.belowB⟩
 have h1 : (((decide (a > 250) || decide (b > 250)) || a == b) || decide ((te.length : Int) > 1000)) = false := h1
 simp only [Bool.or_eq_false_iff, decide_eq_false_iff_not, beq_eq_false_iff_ne, ne_eq] at h1
 obtain ⟨⟨⟨l1, l2⟩, hne⟩, l3⟩ := h1
 have ha : Tp.okN a = true := by rw [okN_iff]; omega
 have hb : Tp.okN b = true := by rw [okN_iff]; omega
 have hl : te.length ≤ 1000 := by omega
 have hpc := pcount_le hl
 have hbl : (bea b).da.length ≤ 9223372036854775807 := by
  have e : (bea b).da.length = 4 := rfl
  omega
 have p0 : PtSm (nd a).parts := ⟨Nat.zero_le _, fun p hp => by cases hp⟩
 have q0 : PtSm (nd b).parts := ⟨Nat.zero_le _, fun p hp => by cases hp⟩
 have sa : SmN (nd a) := ord_sm (nd_ord ha) p0
 have sb : SmN (nd b) := ord_sm (nd_ord hb) q0
 have sT : SmN (ndT b [⟨bea b, 0, 0⟩]) := ord_sm (ndT_ord hb (by simp)) q0
 have s0 : SmN (ndT b []) := ord_sm (ndT_ord hb (by decide)) q0
 repeat' (first | refine zh ?_ | apply zb ?_ ?_ | exact zc | (refine zi fun hb => ?_; try simp at hb) | intro (bk : Nat))
 refine HL.callX (r := fun x : NV × List Chunk => .agg ⟨ndC x.1 (nd a)⟩) (Q := fun x => Own x.1 x.2 (nd a)) (G := fun x => [groupC x.2]) fn25 I I (fun w1 _ => by have := pnew_any a 0 w1; rw [new_is ha] at this; exact this) ?_
 rintro ⟨VA, GA⟩ hA
 have hA : Own VA GA (nd a) := hA
 repeat' (first | refine zh ?_ | apply zb ?_ ?_ | exact zc | (refine zi fun hb => ?_; try simp at hb) | intro (bk : Nat))
 refine HL.callX (r := fun x : NV × List Chunk => .agg ⟨ndC x.1 (nd b)⟩) (Q := fun x => Own x.1 x.2 (nd b)) (G := fun x => [groupC x.2]) fn25 I I (fun w1 _ => by have := pnew_any b 0 w1; rw [new_is hb] at this; exact this) ?_
 rintro ⟨VB, GB⟩ hB
 have hB : Own VB GB (nd b) := hB
 refine HL.alloc I I ?_
 intro b7
 refine HL.alloc I I ?_
 intro b8
 repeat' (first | refine zh ?_ | apply zb ?_ ?_ | exact zc | (refine zi fun hb => ?_; try simp at hb) | intro (bk : Nat))
 refine HL.setV 44 (v' := .int .i64 b) I I ?_
 repeat' (first | refine zh ?_ | apply zb ?_ ?_ | exact zc | (refine zi fun hb => ?_; try simp at hb) | intro (bk : Nat))
 refine HL.callX (r := fun x : NV × List Chunk => .agg ⟨ndC x.1 (ndT b [⟨bea b, 0, 0⟩])⟩) (Q := fun x => Own x.1 x.2 (ndT b [⟨bea b, 0, 0⟩])) (G := fun x => [groupC x.2]) fn33 I I (fun w1 hw1 => by have := ptick_any VB (nd b) (b % 8) w1 (hB w1 (Sat.grp 2 hw1 I)) sb (fun s hs => by cases hs); rw [tickN_new hb] at this; exact this) ?_
 rintro ⟨VB1, GB1⟩ hB1
 have hB1 : Own VB1 GB1 (ndT b [⟨bea b, 0, 0⟩]) := hB1
 refine HL.ent (Ent.pick [2, 1, 4, 0, 5] I I) ?_
 repeat' (first | refine zh ?_ | apply zb ?_ ?_ | exact zc | (refine zi fun hb => ?_; try simp at hb) | intro (bk : Nat))
 refine HL.setV 50 (v' := .int .i64 b) I I ?_
 repeat' (first | refine zh ?_ | apply zb ?_ ?_ | exact zc | (refine zi fun hb => ?_; try simp at hb) | intro (bk : Nat))
 refine HL.callX (r := fun x : NV × List Chunk => .tuple ⟨[.agg ⟨ndC x.1 (ndT b [⟨bea b, 0, 0⟩])⟩, .agg ⟨frC (bea b)⟩, .bool true]⟩) (Q := fun x => Own x.1 x.2 (ndT b [⟨bea b, 0, 0⟩])) (G := fun x => [groupC x.2]) fn22 I I (fun w1 hw1 => by have := ptalk_any VB1 (ndT b [⟨bea b, 0, 0⟩]) (b % 8) w1 (hB1 w1 (Sat.grp 3 hw1 I)) sT; rw [talk_new hb] at this; exact this) ?_
 rintro ⟨VB2, GB2⟩ hB2
 have hB2 : Own VB2 GB2 (ndT b [⟨bea b, 0, 0⟩]) := hB2
 refine HL.ent (Ent.pick [1, 2, 3, 0, 5] I I) ?_
 repeat' (first | refine zh ?_ | apply zb ?_ ?_ | exact zc | (refine zi fun hb => ?_; try simp at hb) | intro (bk : Nat))
 refine HL.callX (r := fun x : NV × List Chunk => .agg ⟨ndC x.1 (ndT b [])⟩) (Q := fun x => Own x.1 x.2 (ndT b [])) (G := fun x => [groupC x.2]) fn30 I I (fun w1 hw1 => by have := presult_any VB2 (ndT b [⟨bea b, 0, 0⟩]) (bea b) true w1 (hB2 w1 (Sat.grp 4 hw1 I)) sT; rw [result_new hb] at this; exact this) ?_
 rintro ⟨VB3, GB3⟩ hB3
 have hB3 : Own VB3 GB3 (ndT b []) := hB3
 repeat' (first | refine zh ?_ | apply zb ?_ ?_ | exact zc | (refine zi fun hb => ?_; try simp at hb) | intro (bk : Nat))
 refine HL.setV 68 (v' := .int .i64 b) I I ?_
 have hA0 := heard_snd ha hb hne (b % 8)
 have pA0 : PtSm (hear (nd a) (b % 8) (bea b)).parts := hear_ptsm p0
 obtain ⟨A0, eA0⟩ : ∃ A0, A0 = hear (nd a) (b % 8) (bea b) := ⟨_, rfl⟩
 rw [← eA0] at hA0 pA0
 repeat' (first | refine zh ?_ | apply zb ?_ ?_ | exact zc | (refine zi fun hb => ?_; try simp at hb) | intro (bk : Nat))
 refine HL.callX (r := fun x : NV × List Chunk => .agg ⟨ndC x.1 A0⟩) (Q := fun x => Own x.1 x.2 A0) (G := fun x => [groupC x.2]) fn18 I I (fun w1 hw1 => by have := phear_any VA (nd a) (b % 8) (bea b) w1 (hA w1 (Sat.grp 4 hw1 I)) sa hbl; rw [← eA0] at this; exact this) ?_
 rintro ⟨VA1, GA1⟩ hA1
 have hA1 : Own VA1 GA1 A0 := hA1
 refine HL.ent (H' := [blkC b7 (ndC VA (nd a)) 31, blkC b8 (ndC VB3 (ndT b [])) 31, groupC GA1, groupC GB3, blkC b5 (leC ta ur te) 33]) (Ent.pick [3, 4, 0, 1, 7] I I) ?_
 obtain ⟨n, hn⟩ : ∃ n, n = pcount te.length := ⟨_, rfl⟩
 have hW0 : send A0 b ur te = ((Nd.ways a b ur te 0).1, 0) := by
  have := send_is (ur := ur) (s := te) hA0.1 hA0.2.1 hA0.2.2 hb hne hl
  unfold Nd.ways
  rw [← eA0, this]
 have hW1 : ndT b [] = (Nd.ways a b ur te 0).2 := by unfold Nd.ways; rfl
 have hwi := ways_is (ur := ur) (s := te) ha hb hne hl
 have hwp := ways_ptsm (a := a) (b := b) (ur := ur) (s := te)
 have hadr : ∀ i, i ≤ pcount te.length → (Nd.ways a b ur te i).2.addr = b := fun i hi => (hwi i hi).2.2.addr
 obtain ⟨W, hW⟩ : ∃ W, W = Nd.ways a b ur te := ⟨_, rfl⟩
 rw [← hW] at hW0 hW1 hwi hwp hadr
 rw [← hn] at hwi hadr
 repeat' (first | refine zh ?_ | apply zb ?_ ?_ | exact zc | (refine zi fun hb => ?_; try simp at hb) | intro (bk : Nat))
 refine HL.setV 75 (v' := .int .i64 b) I I ?_
 repeat' (first | refine zh ?_ | apply zb ?_ ?_ | exact zc | (refine zi fun hb => ?_; try simp at hb) | intro (bk : Nat))
 refine HL.callX (r := fun x : NV × List Chunk => .tuple ⟨[.agg ⟨ndC x.1 (W 0).1⟩, .int .i64 0]⟩) (Q := fun x => Own x.1 x.2 (W 0).1) (G := fun x => [groupC x.2]) fn14 I I (fun w1 hw1 => by have := psend_any VA1 A0 b ur te w1 (hA1 w1 (Sat.grp 2 hw1 I)) (ord_sm hA0.1.ord pA0) hte; rw [hW0] at this; exact this) ?_
 rintro ⟨VA2, GA2⟩ hA2
 have hA2 : Own VA2 GA2 (W 0).1 := hA2
 obtain ⟨L, hL⟩ : ∃ L, L = (List.range n).map (piece te 0) := ⟨_, rfl⟩
 have hsp : psplit te 0 = (L, 0) := by
  unfold psplit
  rw [if_neg (by omega), if_neg (by omega), hL, hn]
 have hLl : L.length = n := by rw [hL]; simp
 repeat' (first | refine zh ?_ | apply zb ?_ ?_ | exact zc | (refine zi fun hb => ?_; try simp at hb) | intro (bk : Nat))
 refine HL.callX (r := fun v' : Value => .tuple ⟨[v', .int .i64 0]⟩) (Q := fun _ => True) (G := fun v' => [ownC v' 9 1 L.length (cellsOf sC L)]) fn37 I I (fun w1 _ => by have := r15split_any te 0 w1 hte; rw [hsp] at this; exact this) ?_
 intro vL _
 refine HL.ent (H' := [blkC b7 (ndC VA2 (W 0).1) 31, blkC b8 (ndC VB3 (ndT b [])) 31, groupC GA2, groupC GB3, blkC b5 (leC ta ur te) 33, ownC vL 9 1 L.length (cellsOf sC L)]) (Ent.pick [2, 3, 1, 5, 6, 0] I I) ?_
 repeat' (first | refine zh ?_ | refine HL.lenR (Rd.own 5 I) I I I ?_ | intro (bk : Nat))
 have hol : (W 0).1.out.length = n := by rw [(hwi 0 (Nat.zero_le _)).2.1]; simp [outs]
 refine HR.cond I (fun h2 => ?_) (fun h2 => ?_)
 ·exfalso
  have h2 : (((W 0).1.out.length : Int) != (L.length : Int)) = true := h2
  rw [hol, hLl] at h2
  simp at h2
 repeat' (first | refine zh ?_ | intro (bk : Nat))
 refine HR.loop (ι := Nat × (NV × List Chunk) × (NV × List Chunk)) (fun i => i.1 ≤ n ∧ Own i.2.1.1 i.2.1.2 (W i.1).1 ∧ Own i.2.2.1 i.2.2.2 (W i.1).2) (fun i => [(5, ptr b5), (7, ptr b7), (8, ptr b8), (12, vL), (14, .int .i64 (i.1 : Int))]) (fun i => [blkC b7 (ndC i.2.1.1 (W i.1).1) 31, blkC b8 (ndC i.2.2.1 (W i.1).2) 31, groupC i.2.1.2, groupC i.2.2.2, blkC b5 (leC ta ur te) 33, ownC vL 9 1 L.length (cellsOf sC L)]) (fun i => n - i.1) (0, (VA2, GA2), (VB3, GB3)) ⟨Nat.zero_le _, hA2, by rw [← hW1]; exact hB3⟩ ⟨I, I, I, I, I, trivial⟩ (by rw [← hW1]; exact Ent.refl) ?_
 rintro ⟨i, ⟨VX, GX⟩, ⟨VY, GY⟩⟩ ⟨hi, hX, hY⟩ ih
 have hi : i ≤ n := hi
 have hX : Own VX GX (W i).1 := hX
 have hY : Own VY GY (W i).2 := hY
 obtain ⟨s1, s2, s3⟩ := hwi i hi
 obtain ⟨pX, pY⟩ := hwp i
 have sX : SmN (W i).1 := ord_sm s1.ord pX
 have sY : SmN (W i).2 := ord_sm s3.ord pY
 repeat' (first | refine zh ?_ | refine HL.lenR (Rd.own 5 I) I I I ?_ | intro (bk : Nat))
 refine HR.cond I (fun h3 => ?_) (fun h3 => ?_)
 ·have hlt : i < n := by have : (i : Int) < (L.length : Int) := of_decide_eq_true h3; omega
  repeat' (first | refine zh ?_ | refine HL.lenR (rd_of (cs := cellsOf deC (W i).2.inbox) fun w hw => (hY w (Sat.grp 3 hw rfl)).ib) I I I ?_ | intro (bk : Nat))
  have hib : (W i).2.inbox.length = 0 := by rw [s3.inbox, if_neg (by omega)]; rfl
  refine HR.cond I (fun h4 => ?_) (fun h4 => ?_)
  ·exfalso
   have h4 : (((W i).2.inbox.length : Int) != 0) = true := h4
   rw [hib] at h4
   simp at h4
  have e : n - i = (n - (i + 1)) + 1 := by omega
  rw [e] at s2
  have htk := talk_snd (now := 100 + (i : Int)) s1 hne s2
  have hW3 : W (i + 1) = (result (W i).1 (toF a b ur te i) true, hear (W i).2 (100 + i) (toF a b ur te i)) := by
   rw [hW] at htk ⊢
   show (result (talk (Nd.ways a b ur te i).1 (100 + i)).1 (talk (Nd.ways a b ur te i).1 (100 + i)).2.1 true, hear (Nd.ways a b ur te i).2 (100 + i) (talk (Nd.ways a b ur te i).1 (100 + i)).2.1) = _
   rw [htk]
  repeat' (first | refine zh ?_ | intro (bk : Nat))
  refine HL.callX (r := fun x : NV × List Chunk => .tuple ⟨[.agg ⟨ndC x.1 (W i).1⟩, .agg ⟨frC (toF a b ur te i)⟩, .bool true]⟩) (Q := fun x => Own x.1 x.2 (W i).1) (G := fun x => [groupC x.2]) fn22 I I (fun w1 hw1 => by have := ptalk_any VX (W i).1 (100 + (i : Int)) w1 (hX w1 (Sat.grp 3 hw1 I)) sX; rw [htk] at this; exact this) ?_
  rintro ⟨VX1, GX1⟩ hX1
  have hX1 : Own VX1 GX1 (W i).1 := hX1
  refine HL.ent (Ent.pick [1, 2, 3, 0, 5, 6, 7] I I) ?_
  repeat' (first | refine zh ?_ | intro (bk : Nat))
  have hfd : (toF a b ur te i).dst = (W i).2.addr := s3.addr.symm
  refine HR.cond I (fun h5 => ?_) (fun h5 => ?_)
  ·exfalso
   have h5 : ((toF a b ur te i).dst != (W i).2.addr) = true := h5
   rw [hfd] at h5
   simp at h5
  have hfl : (toF a b ur te i).da.length ≤ 9223372036854775807 := by
   show (piece te 0 i).length ≤ _
   rw [piece_len, data_len]; omega
  repeat' (first | refine zh ?_ | intro (bk : Nat))
  refine HL.callX (r := fun x : NV × List Chunk => .agg ⟨ndC x.1 (W (i + 1)).2⟩) (Q := fun x => Own x.1 x.2 (W (i + 1)).2) (G := fun x => [groupC x.2]) fn18 I I (fun w1 hw1 => by rw [hW3]; exact phear_any VY (W i).2 (100 + (i : Int)) (toF a b ur te i) w1 (hY w1 (Sat.grp 4 hw1 I)) sY hfl) ?_
  rintro ⟨VY1, GY1⟩ hY1
  have hY1 : Own VY1 GY1 (W (i + 1)).2 := hY1
  refine HL.ent (Ent.pick [1, 2, 3, 4, 0, 6, 7] I I) ?_
  repeat' (first | refine zh ?_ | intro (bk : Nat))
  refine HL.callX (r := fun x : NV × List Chunk => .agg ⟨ndC x.1 (W (i + 1)).1⟩) (Q := fun x => Own x.1 x.2 (W (i + 1)).1) (G := fun x => [groupC x.2]) fn30 I I (fun w1 hw1 => by rw [hW3]; exact presult_any VX1 (W i).1 (toF a b ur te i) true w1 (hX1 w1 (Sat.grp 3 hw1 I)) sX) ?_
  rintro ⟨VX2, GX2⟩ hX2
  have hX2 : Own VX2 GX2 (W (i + 1)).1 := hX2
  refine HL.ent (Ent.pick [2, 3, 0, 5, 6, 7] I I) ?_
  repeat' (first | refine zh ?_ | intro (bk : Nat))
  exact ih (i + 1, (VX2, GX2), (VY1, GY1)) _ _ ⟨hlt, hX2, hY1⟩ (by show n - (i + 1) < n - i; omega) ⟨I, I, I, I, I, trivial⟩ Ent.refl
 have hin : i = n := by have : ¬ (i : Int) < (L.length : Int) := of_decide_eq_false h3; omega
 subst hin
 repeat' (first | refine zh ?_ | intro (bk : Nat))
 have hout : (W i).1.out = [] := by rw [s2]; simp [outs]
 have hibx : (W i).2.inbox = [⟨a, te⟩] := by rw [s3.inbox, if_pos hn]
 have htk : (take (W i).2).2 = [⟨a, te⟩] := by
  show (order (W i).2).inbox = _
  rw [s3.ord.eq, hibx]
 refine HL.callX (r := fun x : (NV × SV) × List Chunk => .tuple ⟨[.agg ⟨ndC x.1.1 (take (W i).2).1⟩, sv x.1.2 ([⟨a, te⟩] : List De).length]⟩) (Q := fun x => Own x.1.1 x.2 (take (W i).2).1 ∧ ∀ w2, (groupC x.2).p w2 → Sl w2 (sv x.1.2 ([⟨a, te⟩] : List De).length) (cellsOf deC [⟨a, te⟩]) ([⟨a, te⟩] : List De).length) (G := fun x => [groupC x.2]) fn23 I I (fun w1 hw1 => by have := ptake_any VY (W i).2 w1 (hY w1 (Sat.grp 3 hw1 I)) sY; rw [htk] at this; exact this) ?_
 rintro ⟨⟨VZ, yZ⟩, GZ⟩ ⟨hZ, iZ⟩
 repeat' (first | refine zh ?_ | intro (bk : Nat))
 refine HL.setV 143 (v' := .bool true) I (by show Value.bool (((W i).1.out.length : Int) == 0) = _; rw [hout]; rfl) ?_
 repeat' (first | refine zh ?_ | intro (bk : Nat))
 refine HL.setV 148 (v' := .bool true) I (by show Value.bool ((W i).1.lost == 0) = _; rw [s1.lost]; rfl) ?_
 repeat' (first | refine zh ?_ | intro (bk : Nat))
 refine HL.setV 153 (v' := .bool true) I (by show Value.bool ((W i).2.lost == 0) = _; rw [s3.lost]; rfl) ?_
 repeat' (first | refine zh ?_ | intro (bk : Nat))
 refine HL.setV 159 (v' := .agg ⟨[.int .i64 a, str te]⟩) I (by show Value.agg ⟨[.int .i64 (W i).1.addr, str te]⟩ = _; rw [s1.addr]) ?_
 refine HL.bslice elemDe I I I I I (by decide) (by decide) ?_
 intro va
 repeat' (first | refine zh ?_ | refine HL.callB (r := .bool true) fn29 I I (fun w1 hw1 => by have := sameDe_any [⟨a, te⟩] [⟨a, te⟩] _ va w1 (iZ w1 (Sat.grp 2 hw1 I)) ((Rd.own 0 rfl).at hw1) (by show 1 ≤ _; decide); rw [decide_eq_true rfl] at this; exact this) ?_ | refine HL.callB fn13 I I (fun w1 _ => awake_any w1) ?_ | intro (bk : Nat))
 refine HR.ret Tryz.func11 I [_] (fun _ _ => ⟨I, trivial⟩) ?_
 exact fun w' hw => ⟨rfl, hw.belowB⟩
end Go.Proofs.YtgdgclmkpoaagaaGreat
namespace Go.Proofs.YtgdgclmkpoaagaaGreat
open Go.GX Go.RowKit
attribute [local irreducible] Calls Run RunL RunQ RunD HR HL HD blkC ownC Rd
open Nd
theorem wf8 {n : Int} (h : (Lit.int .u8 n).wf = true) : 0 ≤ n ∧ n ≤ 255 := by
 have h : (decide (0 ≤ n) && decide (n ≤ 255)) = true := h
 simp only [Bool.and_eq_true, decide_eq_true_eq] at h
 exact h
theorem nodeDelivers.nodeDelivers_any (n0 n1 : Int) (a : LeA) (w : World) (w0 : (Lit.int .u8 n0).wf = true) (w1 : (Lit.int .u8 n1).wf = true) (hf : a.2.2.length ≤ 9223372036854775807) :
  Calls Tryz.prog 11 #[.int .u8 n0, .int .u8 n1, .agg ⟨leE a⟩] w fun e w' => e = .returned (.bool true) ∧ Below w.heap.size w w' := Proofs.YtgdgclmkpoaagaaGreat.nodeDelivers_any n0 n1 a.1 a.2.1 a.2.2 w (wf8 w0) (wf8 w1) hf
end Go.Proofs.YtgdgclmkpoaagaaGreat
