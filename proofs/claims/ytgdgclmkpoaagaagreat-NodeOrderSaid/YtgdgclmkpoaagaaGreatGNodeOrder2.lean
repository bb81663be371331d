/- A part of the proof: contracts of the program's functions. Conditions: none. -/
import Derived.Carry
import Derived.Deep.MidRow
import Derived.Deep.Quiet
import Derived.Laws.IdiomRangeMap
import Derived.Laws.MakeOwn
import Derived.Laws.StructEq
import Derived.Laws.Tables
import Derived.Lib.AppendStr
import Derived.Lib.AppendZerosOnto
import Derived.Lib.OthersKept
import Derived.Lib.Overlaps
import Derived.Lib.OwnBridge
import Derived.Lib.SlicesCompact
import Derived.MapKept
import Derived.Orders
import Derived.OrdersHeld
import Derived.Scope
import Derived.SliceStrings
import Derived.Sort.Grow
import Derived.StillTail
import Derived.Test.YtgdgclmkpoaagaaGreatProg
import Derived.Test.YtgdgclmkpoaagaaGreatShelf
import Derived.WalkKit
import Derived.WalkLawsBesides
import Derived.WalkSpells
import Derived.Test.YtgdgclmkpoaagaaGreatGB1
import Derived.Test.YtgdgclmkpoaagaaGreatGB10
import Derived.Test.YtgdgclmkpoaagaaGreatGB11
import Derived.Test.YtgdgclmkpoaagaaGreatGB2
import Derived.Test.YtgdgclmkpoaagaaGreatGB3
import Derived.Test.YtgdgclmkpoaagaaGreatGB4
import Derived.Test.YtgdgclmkpoaagaaGreatGB5
import Derived.Test.YtgdgclmkpoaagaaGreatGB6
import Derived.Test.YtgdgclmkpoaagaaGreatGB7
import Derived.Test.YtgdgclmkpoaagaaGreatGB8
import Derived.Test.YtgdgclmkpoaagaaGreatGB9
import Derived.Test.YtgdgclmkpoaagaaGreatGNodeOrder1
set_option linter.unusedVariables false
set_option linter.unusedSectionVars false
set_option linter.unusedSimpArgs false
set_option maxRecDepth 100000
set_option maxHeartbeats 4000000
namespace Go.Proofs.YtgdgclmkpoaagaaGreat
open Go.GX Go.RowKit
attribute [local irreducible] Calls Run RunL RunQ RunD HR HL HD blkC ownC Rd
open Nd
theorem fn94 : IsFn Tryz.prog 94 := ⟨⟨_, _, Tryz.func94, rfl, by decide⟩⟩
theorem fn95 : IsFn Tryz.prog 95 := ⟨⟨_, _, Tryz.func95, rfl, by decide⟩⟩
theorem bumped_ord {n : Nd} (h : Ord n) : Ord (bumped n) := (bumped_good (Good.refl h)).ord
theorem sbeacon_any (b : Nat) (V : NV) (n : Nd) (now : Int) (B : Base) (w : World) (hw : Sat B (stH b V n now) w) (ho : Ord n) :
  Calls Tryz.prog 94 #[ptr b] w fun e w' => ∃ x : SV × SV, e = .returned (.tuple ⟨[]⟩) ∧ True ∧ Sat ⟨w, feet (stH b V n now)⟩ (stH b { V with ta := x.1, ou := x.2 } (beacon n) now) w' := by
 have h24 := tlen ho
 have hm := bumped_ord ho
 have hm24 := tlen hm
 have hm16 := hm.out
 refine calls_hrW (stH b V n now) (hw) Tryz.func94 I (Nat.le_of_ble_eq_true I) ?_
 refine HR.sub (σ' := [(0, ptr b)]) ⟨I, trivial⟩ ?_
 repeat' (first | refine zh ?_ | intro (bk : Nat))
 refine HR.regionY [(0, true), (1, true), (2, true), (3, true), (4, true), (5, true), (6, true), (7, true), (8, true), (9, true), (10, true), (11, false), (12, true), (13, true), (14, true)] 15 [0] I I hmix (by kernel_rfl) ?_
 repeat' (first | refine zd ?_ | fail)
 refine HD.one I ?_
 refine HL.callO fn165 I I (fun w1 hw1 => rbump_any n.table n.addr _ w1 ((Rd.own 1 rfl).at hw1) (by omega)) ?_
 intro v1
 refine HL.shape 0 I fun a c hv => ?_
 subst hv
 refine HL.back [1] I I ?_
 repeat' (first | refine zd ?_ | fail)
 refine HD.last I ?_
 repeat' (first | refine zn ?_ | intro (bk : Nat))
 obtain ⟨V1, hV1⟩ : ∃ V1 : NV, V1 = { V with ta := (a, c) } := ⟨_, rfl⟩
 obtain ⟨m, hmm⟩ : ∃ m : Nd, m = bumped n := ⟨_, rfl⟩
 refine HR.ent (H' := stH b { V with ta := (a, c) } (bumped n) now) (Ent.pick [1, 0, 3, 4, 5, 6, 7, 8, 9, 10] I I) ?_
 have hbe : beacon n = if waits (bumped n) 1 = false ∧ (bumped n).out.length < 16 then (queue (bumped n) (beaconF (bumped n))).1 else bumped n := rfl
 have hVe : ∀ x : SV, ({ V with ta := (a, c), ou := x } : NV) = { V1 with ou := x } := by intro x; rw [hV1]
 rw [hbe]
 rw [← hmm] at hm hm24 hm16 ⊢
 rw [← hV1]
 repeat' (first | refine zh ?_ | intro (bk : Nat))
 refine HL.callW (r := fun _ : Unit => .bool (waits m 1)) (Q := fun _ => True) (G0 := stH b V1 m now) (H0 := []) (G := fun _ => stH b V1 m now) fn166 I I I (fun w1 hw1 => swaits_any b V1 m now 1 _ w1 hw1 (by omega)) ?_
 intro _ _
 repeat' (first | refine zh ?_ | apply zb ?_ ?_ | exact zc | (refine zi fun hb => ?_; try simp at hb) | intro (bk : Nat))
 refine HR.cond I (fun h => ?_) (fun h => ?_)
 ·have h : (!waits m 1 && decide ((m.out.length : Int) < 16)) = true := h
  have h2 : waits m 1 = false ∧ (m.out.length : Int) < 16 := by simpa using h
  rw [if_pos ⟨h2.1, by omega⟩]
  repeat' (first | refine zh ?_ | intro (bk : Nat))
  refine HR.regionY [(0, true), (1, true), (2, true), (3, true), (4, true), (5, true), (6, true), (7, true), (8, true), (9, true), (10, true), (11, true), (13, true), (14, true), (15, true), (16, true), (17, true), (12, false), (18, false), (19, true)] 20 [0] I I hmix (by kernel_rfl) ?_
  repeat' (first | refine zd ?_ | fail)
  refine HD.one I ?_
  refine HL.callW (r := fun _ : Unit => .int .i64 (number m)) (Q := fun _ => True) (G0 := stH b V1 m now) (H0 := []) (G := fun _ => stH b V1 m now) fn167 I I I (fun w1 hw1 => snumber_any b V1 m now _ w1 hw1 (by omega)) ?_
  intro _ _
  refine HL.back [0] I I ?_
  refine HD.one I ?_
  refine HL.callB fn38 I I (fun w1 hw1 => renc_any m.table _ w1 ((Rd.own 1 rfl).at hw1) (by omega)) ?_
  refine HL.back [0] I I ?_
  repeat' (first | refine zd ?_ | fail)
  refine HD.last I ?_
  refine HL.callW (r := fun _ : SV => .bool (queue m (beaconF m)).2) (Q := fun _ => True) (G0 := stH b V1 m now) (H0 := []) (G := fun x => stH b { V1 with ou := x } (queue m (beaconF m)).1 now) fn44 I I I (fun w1 hw1 => squeue_any b V1 m now (beaconF m) _ w1 hw1 hm) ?_
  intro x _
  repeat' (first | refine zh ?_ | intro (bk : Nat))
  refine HR.fin Tryz.func94 I [] (fun _ _ => trivial) ?_
  exact fun w' hw => ⟨((a, c), x), rfl, trivial, by rw [hVe]; exact hw⟩
 ·have h : (!waits m 1 && decide ((m.out.length : Int) < 16)) = false := h
  have h2 : ¬ (waits m 1 = false ∧ (m.out.length : Int) < 16) := by simpa using h
  rw [if_neg fun e => h2 ⟨e.1, by omega⟩]
  repeat' (first | refine zh ?_ | intro (bk : Nat))
  refine HR.fin Tryz.func94 I [] (fun _ _ => trivial) ?_
  exact fun w' hw => ⟨((a, c), V.ou), rfl, trivial, by rw [hVe, hV1]; rw [hV1] at hw; exact hw⟩
theorem spoll_any (b : Nat) (V : NV) (n : Nd) (now : Int) (B : Base) (w : World) (hw : Sat B (stH b V n now) w) (ho : Ord n) :
  Calls Tryz.prog 95 #[ptr b] w fun e w' => ∃ x : SV × SV, e = .returned (.tuple ⟨[]⟩) ∧ True ∧ Sat ⟨w, feet (stH b V n now)⟩ (stH b { V with ta := x.1, ou := x.2 } (poll n) now) w' := by
 have h24 := tlen ho
 have hm := bumped_ord ho
 have hm24 := tlen hm
 have hm16 := hm.out
 refine calls_hrW (stH b V n now) (hw) Tryz.func95 I (Nat.le_of_ble_eq_true I) ?_
 refine HR.sub (σ' := [(0, ptr b)]) ⟨I, trivial⟩ ?_
 repeat' (first | refine zh ?_ | intro (bk : Nat))
 refine HR.regionY [(0, true), (1, true), (2, true), (3, true), (4, true), (5, true), (6, true), (7, true), (8, true), (9, true), (10, true), (11, false), (12, true), (13, true), (14, true)] 15 [0] I I hmix (by kernel_rfl) ?_
 repeat' (first | refine zd ?_ | fail)
 refine HD.one I ?_
 refine HL.callO fn165 I I (fun w1 hw1 => rbump_any n.table n.addr _ w1 ((Rd.own 1 rfl).at hw1) (by omega)) ?_
 intro v1
 refine HL.shape 0 I fun a c hv => ?_
 subst hv
 refine HL.back [1] I I ?_
 repeat' (first | refine zd ?_ | fail)
 refine HD.last I ?_
 repeat' (first | refine zn ?_ | intro (bk : Nat))
 obtain ⟨V1, hV1⟩ : ∃ V1 : NV, V1 = { V with ta := (a, c) } := ⟨_, rfl⟩
 obtain ⟨m, hmm⟩ : ∃ m : Nd, m = bumped n := ⟨_, rfl⟩
 refine HR.ent (H' := stH b { V with ta := (a, c) } (bumped n) now) (Ent.pick [1, 0, 3, 4, 5, 6, 7, 8, 9, 10] I I) ?_
 have hbe : poll n = if waits (bumped n) 3 = false then (queue (bumped n) (pollF (bumped n))).1 else bumped n := rfl
 have hVe : ∀ x : SV, ({ V with ta := (a, c), ou := x } : NV) = { V1 with ou := x } := by intro x; rw [hV1]
 rw [hbe]
 rw [← hmm] at hm hm24 hm16 ⊢
 rw [← hV1]
 repeat' (first | refine zh ?_ | intro (bk : Nat))
 refine HL.callW (r := fun _ : Unit => .bool (waits m 3)) (Q := fun _ => True) (G0 := stH b V1 m now) (H0 := []) (G := fun _ => stH b V1 m now) fn166 I I I (fun w1 hw1 => swaits_any b V1 m now 3 _ w1 hw1 (by omega)) ?_
 intro _ _
 repeat' (first | refine zh ?_ | intro (bk : Nat))
 refine HR.cond I (fun h => ?_) (fun h => ?_)
 ·have h2 : waits m 3 = false := by simpa using h
  rw [if_pos h2]
  repeat' (first | refine zh ?_ | intro (bk : Nat))
  refine HR.regionY [(0, true), (1, true), (2, true), (3, true), (4, true), (5, true), (6, true), (7, true), (8, true), (9, true), (10, true), (11, true), (12, true), (13, true), (14, true), (15, true), (16, true), (17, true), (18, true), (19, true), (20, true), (21, true), (22, false), (23, true)] 24 [0] I I hmix (by kernel_rfl) ?_
  repeat' (first | refine zd ?_ | fail)
  refine HD.one I ?_
  refine HL.callW (r := fun _ : Unit => .int .i64 (number m)) (Q := fun _ => True) (G0 := stH b V1 m now) (H0 := []) (G := fun _ => stH b V1 m now) fn167 I I I (fun w1 hw1 => snumber_any b V1 m now _ w1 hw1 (by omega)) ?_
  intro _ _
  refine HL.back [0] I I ?_
  repeat' (first | refine zd ?_ | fail)
  refine HD.last I ?_
  refine HL.callW (r := fun _ : SV => .bool (queue m (pollF m)).2) (Q := fun _ => True) (G0 := stH b V1 m now) (H0 := []) (G := fun x => stH b { V1 with ou := x } (queue m (pollF m)).1 now) fn44 I I I (fun w1 hw1 => squeue_any b V1 m now (pollF m) _ w1 hw1 hm) ?_
  intro x _
  repeat' (first | refine zh ?_ | intro (bk : Nat))
  refine HR.fin Tryz.func95 I [] (fun _ _ => trivial) ?_
  exact fun w' hw => ⟨((a, c), x), rfl, trivial, by rw [hVe]; exact hw⟩
 ·have h2 : ¬ waits m 3 = false := by simpa using h
  rw [if_neg h2]
  repeat' (first | refine zh ?_ | intro (bk : Nat))
  refine HR.fin Tryz.func95 I [] (fun _ _ => trivial) ?_
  exact fun w' hw => ⟨((a, c), V.ou), rfl, trivial, by rw [hVe, hV1]; rw [hV1] at hw; exact hw⟩
end Go.Proofs.YtgdgclmkpoaagaaGreat
namespace Go.Proofs.YtgdgclmkpoaagaaGreat
open Go.GX Go.RowKit
attribute [local irreducible] Calls Run RunL RunQ RunD HR HL HD blkC ownC Rd
open Nd
theorem fn93 : IsFn Tryz.prog 93 := ⟨⟨_, _, Tryz.func93, rfl, by decide⟩⟩
theorem elemFr : Elem Tryz.prog 163 42 9 80 := ⟨rfl, ⟨_, _, rfl, rfl, rfl, rfl, rfl⟩, by decide⟩
theorem frC_len (a : Fr) : (frC a).length = 9 := rfl
theorem asl_step {l : List Sn} {k : Nat} {x : Sn} (hx : l[k]? = some x) :
  ((l.take (k + 1)).filter stale).map (·.f) = (if stale x = true then ((l.take k).filter stale).map (·.f) ++ [x.f] else ((l.take k).filter stale).map (·.f)) ∧ ((l.take (k + 1)).filter fun x => !stale x) = if stale x = true then (l.take k).filter (fun x => !stale x) else (l.take k).filter (fun x => !stale x) ++ [x] := by
 obtain ⟨hk, rfl⟩ := List.getElem?_eq_some_iff.1 hx
 rw [List.take_succ_eq_append_getElem hk, List.filter_append, List.filter_append]
 by_cases h : stale l[k] = true
 ·simp [h]
 ·simp [h]
theorem foldl_take {α β : Type} {g : β → α → β} {z : β} {l : List α} {k : Nat} {x : α} (hx : l[k]? = some x) : (l.take (k + 1)).foldl g z = g ((l.take k).foldl g z) x := by
 obtain ⟨hk, rfl⟩ := List.getElem?_eq_some_iff.1 hx
 rw [List.take_succ_eq_append_getElem hk, List.foldl_append]
 rfl
theorem sasleep_any (b : Nat) (V : NV) (n : Nd) (now : Int) (B : Base) (w : World) (hw : Sat B (stH b V n now) w) (ho : Ord n) :
  Calls Tryz.prog 93 #[ptr b] w fun e w' => ∃ x : SV × SV, e = .returned (.tuple ⟨[]⟩) ∧ True ∧ Sat ⟨w, feet (stH b V n now)⟩ (stH b { V with ou := x.1, bo := x.2 } (asleep n now) now) w' := by
 have h16 := ho.out
 obtain ⟨bk2, hbk2⟩ : ∃ g : Nat → List Fr, g = fun k => ((n.out.take k).filter stale).map (·.f) := ⟨_, rfl⟩
 obtain ⟨rs, hrs⟩ : ∃ g : Nat → List Sn, g = fun k => (n.out.take k).filter fun x => !stale x := ⟨_, rfl⟩
 have hbl : ∀ k, (bk2 k).length ≤ 16 := fun k => by
  rw [hbk2]; show ((((n.out.take k).filter stale).map (·.f))).length ≤ 16
  rw [List.length_map]
  exact Nat.le_trans (List.length_filter_le _ _) (by rw [List.length_take]; omega)
 have hrl : ∀ k, (rs k).length ≤ 16 := fun k => by
  rw [hrs]; exact Nat.le_trans (List.length_filter_le _ _) (by rw [List.length_take]; omega)
 refine calls_hrW (stH b V n now) (hw) Tryz.func93 I (Nat.le_of_ble_eq_true I) ?_
 refine HR.sub (σ' := [(0, ptr b)]) ⟨I, trivial⟩ ?_
 repeat' (first | refine zh ?_ | intro (bk : Nat))
 refine HR.nilC 42 9 ?_
 refine HR.nilC 48 11 ?_
 refine HR.loop (ι := Nat × Value × Value) (fun x => x.1 ≤ n.out.length) (fun x => [(0, ptr b), (2, x.2.1), (3, x.2.2), (12, sv V.ou n.out.length), (13, .int .i64 (n.out.length : Int)), (14, .int .i64 (x.1 : Int))]) (fun x => ownC x.2.1 48 11 (rs x.1).length (cellsOf snC (rs x.1)) :: ownC x.2.2 42 9 (bk2 x.1).length (cellsOf frC (bk2 x.1)) :: stH b V n now) (fun x => n.out.length - x.1) (0, .slice none 0 0, .slice none 0 0) (Nat.zero_le _) ⟨I, I, I, I, I, I, trivial⟩ (by rw [hbk2, hrs]; exact Ent.refl) ?_
 rintro ⟨k, u, v⟩ hk ih
 have hk : k ≤ n.out.length := hk
 repeat' (first | refine zh ?_ | intro (bk : Nat))
 refine HR.cond I (fun h2 => ?_) (fun h2 => ?_)
 ·have hlt : k < n.out.length := by have := of_decide_eq_true h2; omega
  obtain ⟨x, hx⟩ := getSome hlt
  have hb1 : (bk2 (k, u, v).fst).length ≤ 16 := hbl k
  have hr1 : (rs (k, u, v).fst).length ≤ 16 := hrl k
  obtain ⟨e1, e2⟩ := asl_step hx
  have e1 : bk2 (k + 1) = if stale x = true then bk2 k ++ [x.f] else bk2 k := by rw [hbk2]; exact e1
  have e2 : rs (k + 1) = if stale x = true then rs k else rs k ++ [x] := by rw [hrs]; exact e2
  repeat' (first | refine zh ?_ | refine HL.idxR (Rd.own 5 I) elemSn k I I I I hlt ?_ | refine HL.loadE (Rd.own 5 I) I I I I (by simp) I (cellsOf_get snC_len hx) ?_ | apply zb ?_ ?_ | exact zc | (refine zi fun hb => ?_; try simp at hb) | intro (bk : Nat))
  refine HR.cond I (fun h3 => ?_) (fun h3 => ?_)
  ·have h3 : stale x = true := h3
   rw [if_pos h3] at e1 e2
   repeat' (first | refine zh ?_ | intro (bk : Nat))
   refine HL.bslice elemFr I I I I I (by decide) (by decide) ?_
   intro va
   refine HL.appR 3 I elemFr (Rd.own 0 I) I I I I (allOne_spec I) (by omega) (by omega) ?_
   intro v2
   repeat' (first | refine zh ?_ | intro (bk : Nat))
   refine ih (k + 1, u, v2) _ _ hlt (by show n.out.length - (k + 1) < n.out.length - k; omega) ⟨I, I, I, I, I, I, trivial⟩ ?_
   show Ent _ _ (ownC u 48 11 (rs (k + 1)).length (cellsOf snC (rs (k + 1))) :: ownC v2 42 9 (bk2 (k + 1)).length (cellsOf frC (bk2 (k + 1))) :: stH b V n now)
   rw [e1, e2, List.length_append, cellsOf_app]
   exact Ent.pick [2, 3, 4, 5, 6, 7, 8, 9, 10, 11, 12, 13] I I
  ·have h3 : stale x = false := h3
   rw [if_neg (by rw [h3]; decide)] at e1 e2
   repeat' (first | refine zh ?_ | intro (bk : Nat))
   refine HL.bslice elemSn I I I I I (by decide) (by decide) ?_
   intro va
   refine HL.appR 2 I elemSn (Rd.own 0 I) I I I I (allOne_spec I) (by omega) (by omega) ?_
   intro v2
   repeat' (first | refine zh ?_ | intro (bk : Nat))
   refine ih (k + 1, v2, v) _ _ hlt (by show n.out.length - (k + 1) < n.out.length - k; omega) ⟨I, I, I, I, I, I, trivial⟩ ?_
   show Ent _ _ (ownC v2 48 11 (rs (k + 1)).length (cellsOf snC (rs (k + 1))) :: ownC v 42 9 (bk2 (k + 1)).length (cellsOf frC (bk2 (k + 1))) :: stH b V n now)
   rw [e1, e2, List.length_append, cellsOf_app]
   exact Ent.pick [2, 3, 4, 5, 6, 7, 8, 9, 10, 11, 12, 13] I I
 ·have hke : k = n.out.length := by have := of_decide_eq_false h2; omega
  subst hke
  have hL := hbl n.out.length
  have hR := hrl n.out.length
  obtain ⟨bl, hbe⟩ : ∃ bl, bl = bk2 n.out.length := ⟨_, rfl⟩
  obtain ⟨rl, hre⟩ : ∃ rl, rl = rs n.out.length := ⟨_, rfl⟩
  have hsp : asleep n now = bl.foldl (fun n f => box n f now) { n with out := rl } := by
   rw [hbe, hre, hbk2, hrs]; show _ = ((((n.out.take n.out.length).filter stale).map (·.f))).foldl _ { n with out := (n.out.take n.out.length).filter fun x => !stale x }
   rw [List.take_length]; rfl
  rw [hsp]
  refine HR.ent (H' := ownC u 48 11 rl.length (cellsOf snC rl) :: ownC v 42 9 bl.length (cellsOf frC bl) :: stH b V n now) (Ent.of_eq (by rw [hbe, hre])) ?_
  rw [← hbe] at hL
  rw [← hre] at hR
  repeat' (first | refine zh ?_ | intro (bk : Nat))
  refine HL.shape 0 I fun a c hv => ?_
  subst hv
  repeat' (first | refine zh ?_ | refine HL.lenR (Rd.own 1 I) I I I ?_ | intro (bk : Nat))
  have hm := ho.setOut hR
  obtain ⟨m, hmm⟩ : ∃ m : Nd, m = { n with out := rl } := ⟨_, rfl⟩
  refine HR.ent (H' := ownC v 42 9 bl.length (cellsOf frC bl) :: stH b { V with ou := (a, c) } { n with out := rl } now) (Ent.pick [1, 2, 3, 4, 0, 6, 7, 8, 9, 10, 11] I I) ?_
  rw [← hmm] at hm ⊢
  have hgo : ∀ k, Ord ((bl.take k).foldl (fun n f => box n f now) m) := fun k => (boxes_good now _ (Good.refl hm)).ord
  refine HR.loop (ι := Nat × SV) (fun x => x.1 ≤ bl.length) (fun x => [(0, ptr b), (48, v), (49, .int .i64 (bl.length : Int)), (50, .int .i64 (x.1 : Int))]) (fun x => ownC v 42 9 bl.length (cellsOf frC bl) :: stH b { V with ou := (a, c), bo := x.2 } ((bl.take x.1).foldl (fun n f => box n f now) m) now) (fun x => bl.length - x.1) (0, V.bo) (Nat.zero_le _) ⟨I, I, I, I, trivial⟩ Ent.refl ?_
  rintro ⟨k, y⟩ hk ih
  have hk : k ≤ bl.length := hk
  repeat' (first | refine zh ?_ | intro (bk : Nat))
  refine HR.cond I (fun h2 => ?_) (fun h2 => ?_)
  ·have hlt : k < bl.length := by have := of_decide_eq_true h2; omega
   obtain ⟨x, hx⟩ := getSome hlt
   repeat' (first | refine zh ?_ | refine HL.idxR (Rd.own 0 I) elemFr k I I I I hlt ?_ | refine HL.loadE (Rd.own 0 I) I I I I (by simp) I (cellsOf_get frC_len hx) ?_ | intro (bk : Nat))
   refine HL.ent (H' := stH b { V with ou := (a, c), bo := y } ((bl.take k).foldl (fun n f => box n f now) m) now ++ [ownC v 42 9 bl.length (cellsOf frC bl)]) (Ent.pick [2, 3, 4, 5, 6, 7, 8, 9, 10, 11, 1] I I) ?_
   refine HL.callW (r := fun _ : SV => .tuple ⟨[]⟩) (Q := fun _ => True) (G0 := stH b { V with ou := (a, c), bo := y } ((bl.take k).foldl (fun n f => box n f now) m) now) (H0 := [ownC v 42 9 bl.length (cellsOf frC bl)]) (G := fun z => stH b { V with ou := (a, c), bo := z } (box ((bl.take k).foldl (fun n f => box n f now) m) x now) now) fn72 I I I (fun w1 hw1 => sbox_any b { V with ou := (a, c), bo := y } _ now x _ w1 (hw1.pick [0, 1, 2, 3, 4, 5, 6, 7, 8, 9] I I) (hgo k)) ?_
   intro z _
   repeat' (first | refine zh ?_ | intro (bk : Nat))
   refine ih (k + 1, z) _ _ hlt (by show bl.length - (k + 1) < bl.length - k; omega) ⟨I, I, I, I, trivial⟩ ?_
   show Ent _ _ (ownC v 42 9 bl.length (cellsOf frC bl) :: stH b { V with ou := (a, c), bo := z } ((bl.take (k + 1)).foldl (fun n f => box n f now) m) now)
   rw [foldl_take hx]
   exact Ent.pick [10, 0, 1, 2, 3, 4, 5, 6, 7, 8, 9] I I
  ·have hke : k = bl.length := by have := of_decide_eq_false h2; omega
   subst hke
   repeat' (first | refine zh ?_ | intro (bk : Nat))
   refine HR.fin Tryz.func93 I [] (fun _ _ => trivial) ?_
   refine fun w' hw => ⟨((a, c), y), rfl, trivial, ?_⟩
   have w1 : Sat _ (ownC v 42 9 bl.length (cellsOf frC bl) :: stH b { V with ou := (a, c), bo := y } ((bl.take bl.length).foldl (fun n f => box n f now) m) now) w' := hw
   rw [List.take_length] at w1
   exact w1.pick [1, 2, 3, 4, 5, 6, 7, 8, 9, 10] I I
end Go.Proofs.YtgdgclmkpoaagaaGreat
namespace Go.Proofs.YtgdgclmkpoaagaaGreat
open Go.GX Go.RowKit
attribute [local irreducible] Calls Run RunL RunQ RunD HR HL HD blkC ownC Rd
open Nd
theorem fn152 : IsFn Tryz.prog 152 := ⟨⟨_, _, Tryz.func152, rfl, by decide⟩⟩
end Go.Proofs.YtgdgclmkpoaagaaGreat
namespace Go.Proofs.YtgdgclmkpoaagaaGreat
open Go.GX Go.RowKit
attribute [local irreducible] Calls Run RunL RunQ RunD HR HL HD blkC ownC Rd
open Nd
theorem lforget_any (l : List Li) (n : Int) (v : Value) (w : World) (hv : Sl w v (cellsOf liC l) l.length) (hl : l.length ≤ 1000) :
  Calls Tryz.prog 152 #[v, .int .i64 n] w fun e w' => ∃ v', e = .returned v' ∧ Sat (base w) [ownC v' 129 3 (lforget l n).length (cellsOf liC (lforget l n))] w' := by
 have hlen := lval_len l
 refine calls_hr Tryz.func152 I (Nat.le_of_ble_eq_true I) ?_
 refine HR.sub (σ' := [(0, v), (1, .int .i64 n)]) ⟨I, I, trivial⟩ ?_
 repeat' (first | refine zh ?_ | refine HL.callO fn148 I I (fun w hw => ltable_any l v w ((Rd.arg hv).at hw) hl) ?_ | intro (bk : Nat))
 intro v1
 repeat' (first | refine zh ?_ | refine HL.callB fn149 I I (fun w hw => lfind_any (lval l) n v1 w ((Rd.own 0 rfl).at hw) (by omega)) ?_ | intro (bk : Nat))
 refine HR.cond I (fun h => ?_) (fun h => ?_)
 ·obtain ⟨x, hx, hn⟩ := lhas_true h
  have hlt := (List.getElem?_eq_some_iff.1 hx).1
  repeat' (first | refine zh ?_ | intro (bk : Nat))
  refine HL.callW (r := fun r : Value => r) (Q := fun _ => True) (G0 := [ownC v1 129 3 (lval l).length (cellsOf liC (lval l))]) (H0 := []) (G := fun r => [ownC r 129 3 ((lval l).eraseIdx (lpos (lval l) n)).length (cellsOf liC ((lval l).eraseIdx (lpos (lval l) n)))]) fn202 I I I (fun w hw => delLi_any (lval l) (lpos (lval l) n) v1 _ w hw hlt (by omega)) ?_
  intro r _
  repeat' (first | refine zh ?_ | intro (bk : Nat))
  refine HR.ret Tryz.func152 I [_] (fun _ _ => ⟨I, trivial⟩) ?_
  exact fun w' hw => ⟨r, rfl, by rw [lforget_is hx hn]; exact hw⟩
 ·have hno := lat_no (lhas_false h)
  repeat' (first | refine zh ?_ | intro (bk : Nat))
  refine HR.ret Tryz.func152 I [_] (fun _ _ => ⟨I, trivial⟩) ?_
  exact fun w' hw => ⟨v1, rfl, by rw [lforget_no hno]; exact hw⟩
end Go.Proofs.YtgdgclmkpoaagaaGreat
namespace Go.Proofs.YtgdgclmkpoaagaaGreat
open Go.GX Go.RowKit
attribute [local irreducible] Calls Run RunL RunQ RunD HR HL HD blkC ownC Rd
open Nd
theorem fn144 : IsFn Tryz.prog 144 := ⟨⟨_, _, Tryz.func144, rfl, by decide⟩⟩
theorem fn66 : IsFn Tryz.prog 66 := ⟨⟨_, _, Tryz.func66, rfl, by decide⟩⟩
theorem rpower_any (n : Int) (w : World) (hn : 0 ≤ n ∧ n ≤ 16) : Calls Tryz.prog 144 #[.int .i64 n] w fun e w' => e = .returned (.int .i64 (2 ^ n.toNat)) ∧ Below w.heap.size w w' := by
 obtain ⟨m, rfl⟩ : ∃ m : Nat, n = m := ⟨n.toNat, by omega⟩
 refine calls_hr Tryz.func144 I (Nat.le_of_ble_eq_true I) ?_
 refine HR.sub (σ' := [(0, .int .i64 (m : Int))]) ⟨I, trivial⟩ ?_
 repeat' (first | refine zh ?_ | apply zb ?_ ?_ | exact zc | (refine zi fun hb => ?_; try simp at hb) | intro (bk : Nat))
 refine HR.loop (ι := Nat) (fun k => k ≤ m) (fun k => [(0, .int .i64 (m : Int)), (3, .int .i64 ((2 ^ k : Nat) : Int)), (4, .int .i64 (k : Int))]) (fun _ => []) (fun k => m - k) 0 (Nat.zero_le _) ⟨I, I, I, trivial⟩ Ent.refl ?_
 intro k hk ih
 have h2 : 2 ^ k ≤ 2 ^ 16 := Nat.pow_le_pow_right (by decide) (by omega)
 have h16 : 2 ^ 16 = 65536 := by decide
 rw [h16] at h2
 obtain ⟨p, hpe⟩ : ∃ p, p = 2 ^ k := ⟨_, rfl⟩
 rw [← hpe] at h2 ⊢
 repeat' (first | refine zh ?_ | apply zb ?_ ?_ | exact zc | (refine zi fun hb => ?_; try simp at hb) | intro (bk : Nat))
 refine HR.cond I (fun h => ?_) (fun h => ?_)
 ·have hlt : k < m := by have := of_decide_eq_true h; omega
  repeat' (first | refine zh ?_ | apply zb ?_ ?_ | exact zc | (refine zi fun hb => ?_; try simp at hb) | intro (bk : Nat))
  refine HR.setV 3 (v' := .int .i64 ((2 ^ (k + 1) : Nat) : Int)) I (show Value.int .i64 (2 * (p : Int)) = _ by rw [Nat.pow_succ, ← hpe]; congr 1; omega) ?_
  exact ih (k + 1) _ _ hlt (by omega) ⟨I, I, I, trivial⟩ Ent.refl
 ·have hke : k = m := by have := of_decide_eq_false h; omega
  subst hke
  repeat' (first | refine zh ?_ | apply zb ?_ ?_ | exact zc | (refine zi fun hb => ?_; try simp at hb) | intro (bk : Nat))
  refine HR.ret Tryz.func144 I [_] (fun _ _ => ⟨I, trivial⟩) ?_
  refine fun w' hw => ⟨?_, hw.belowB⟩
  rw [hpe]
  simp only [resV, Int.toNat_natCast, Int.natCast_pow]
  rfl
theorem r10check_any (l : List Li) (v : Value) (w : World) (hv : Sl w v (cellsOf liC l) l.length) (hl : l.length ≤ 1000) :
  Calls Tryz.prog 66 #[v] w fun e w' => e = .returned (.int .i64 (lchk l)) ∧ Below w.heap.size w w' := by
 refine calls_hr Tryz.func66 I (Nat.le_of_ble_eq_true I) ?_
 refine HR.sub (σ' := [(0, v)]) ⟨I, trivial⟩ ?_
 repeat' (first | refine zh ?_ | refine HL.lenR (Rd.arg hv) I I I ?_ | apply zb ?_ ?_ | exact zc | (refine zi fun hb => ?_; try simp at hb) | intro (bk : Nat))
 refine HR.cond I (fun h => ?_) (fun h => ?_)
 ·have h : l.length > 24 := by have := of_decide_eq_true h; omega
  repeat' (first | refine zh ?_ | apply zb ?_ ?_ | exact zc | (refine zi fun hb => ?_; try simp at hb) | intro (bk : Nat))
  refine HR.ret Tryz.func66 I [_] (fun _ _ => ⟨I, trivial⟩) ?_
  exact fun w' hw => ⟨by rw [lchk, if_pos h]; rfl, hw.belowB⟩
 have h : l.length ≤ 24 := by have := of_decide_eq_false h; omega
 repeat' (first | refine zh ?_ | apply zb ?_ ?_ | exact zc | (refine zi fun hb => ?_; try simp at hb) | intro (bk : Nat))
 refine HR.loop (ι := Nat) (fun k => k ≤ l.length ∧ firstE (lbad l) k = 0) (fun k => [(0, v), (3, .int .i64 (k : Int))]) (fun _ => []) (fun k => l.length - k) 0 ⟨Nat.zero_le _, rfl⟩ ⟨I, I, trivial⟩ Ent.refl ?_
 rintro k ⟨hk, hg⟩ ih
 repeat' (first | refine zh ?_ | refine HL.lenR (Rd.arg hv) I I I ?_ | apply zb ?_ ?_ | exact zc | (refine zi fun hb => ?_; try simp at hb) | intro (bk : Nat))
 refine HR.cond I (fun h2 => ?_) (fun h2 => ?_)
 ·have hlt : k < l.length := by have := of_decide_eq_true h2; omega
  obtain ⟨x, hx⟩ := getSome hlt
  repeat' (first | refine zh ?_ | refine HL.idxR (Rd.arg hv) elemLi k I I I I hlt ?_ | refine HL.loadE (Rd.arg hv) I I I I (by simp) I (cellsOf_get liC_len hx) ?_ | intro (bk : Nat))
  refine HR.regionQ hmix (by kernel_rfl) ?_
  repeat' (first | refine zq ?_ | refine HQ.callB fn144 I I (fun w _ => rpower_any x.ct w (by omega)) ?_ | apply zb ?_ ?_ | exact zc | (refine zi fun hb => ?_; try simp at hb))
  refine HR.cond I (fun h3 => ?_) (fun h3 => ?_)
  ·have h3 : lrange x = true := h3
   repeat' (first | refine zh ?_ | apply zb ?_ ?_ | exact zc | (refine zi fun hb => ?_; try simp at hb) | intro (bk : Nat))
   refine HR.ret Tryz.func66 I [_] (fun _ _ => ⟨I, trivial⟩) ?_
   refine fun w' hw => ⟨?_, hw.belowB⟩
   have e := lbad_range hx h3
   rw [lchk_at h hg (by rw [e]; decide) hlt, e]; rfl
  have h3 : lrange x = false := h3
  obtain ⟨y, hy⟩ := getSome (l := l) (j := k - 1) (by omega)
  repeat' (first | refine zh ?_ | apply zb ?_ ?_ | exact zc | (refine zi fun hb => ?_; try simp at hb) | intro (bk : Nat))
  refine HR.regionQ hmix (by kernel_rfl) ?_
  repeat' (first | refine zq ?_ | refine HQ.idxR (Rd.arg hv) elemLi (k - 1) I I I (by omega) (by omega) ?_ | refine HQ.fieldE (Rd.arg hv) (by rw [cellsOf_len liC_len]; omega) I I I I I I ?_ | refine HQ.loadI (Rd.arg hv) I I I I (cells_get liC_len hy (i := 0) I) ?_ | apply zb ?_ ?_ | exact zc | (refine zi fun hb => ?_; try simp at hb))
  refine HR.cond I (fun h4 => ?_) (fun h4 => ?_)
  ·have h4 : (decide ((k : Int) > 0) && decide (y.nd ≥ x.nd)) = true := h4
   simp only [Bool.and_eq_true, decide_eq_true_eq] at h4
   repeat' (first | refine zh ?_ | apply zb ?_ ?_ | exact zc | (refine zi fun hb => ?_; try simp at hb) | intro (bk : Nat))
   refine HR.ret Tryz.func66 I [_] (fun _ _ => ⟨I, trivial⟩) ?_
   refine fun w' hw => ⟨?_, hw.belowB⟩
   have e := lbad_order hx h3 (by omega) hy h4.2
   rw [lchk_at h hg (by rw [e]; decide) hlt, e]; rfl
  ·have h4 : (decide ((k : Int) > 0) && decide (y.nd ≥ x.nd)) = false := h4
   repeat' (first | refine zh ?_ | apply zb ?_ ?_ | exact zc | (refine zi fun hb => ?_; try simp at hb) | intro (bk : Nat))
   refine ih (k + 1) _ _ ⟨hlt, firstE_step hg (lbad_ok hx h3 fun y' h0 hy' hle => ?_)⟩ (by omega) ⟨I, I, trivial⟩ (Ent.pick [] I I)
   rw [hy] at hy'
   cases hy'
   rw [decide_eq_true (show (k : Int) > 0 by omega), decide_eq_true (show y.nd ≥ x.nd from hle)] at h4
   cases h4
 ·have hke : k = l.length := by have := of_decide_eq_false h2; omega
  subst hke
  repeat' (first | refine zh ?_ | apply zb ?_ ?_ | exact zc | (refine zi fun hb => ?_; try simp at hb) | intro (bk : Nat))
  refine HR.ret Tryz.func66 I [_] (fun _ _ => ⟨I, trivial⟩) ?_
  exact fun w' hw => ⟨by rw [lchk, if_neg (by omega), hg]; rfl, hw.belowB⟩
end Go.Proofs.YtgdgclmkpoaagaaGreat
namespace Go.Proofs.YtgdgclmkpoaagaaGreat
open Go.GX Go.RowKit
attribute [local irreducible] Calls Run RunL RunQ RunD HR HL HD blkC ownC Rd
open Nd
theorem fn23 : IsFn Tryz.prog 23 := ⟨⟨_, _, Tryz.func23, rfl, by decide⟩⟩
theorem stake_any (V : NV) (n : Nd) (w : World) (h : OkN w V n) (hs : SmN n) :
  Calls Tryz.prog 23 #[.agg ⟨ndC V n⟩] w fun e w' => ∃ x : NV × SV, e = .returned (.tuple ⟨[.agg ⟨ndC x.1 (take n).1⟩, sv x.2 (take n).2.length]⟩) ∧ Pts x.1 (take n).1 ∧ Sat (base w) (cDe (sv x.2 (take n).2.length) (take n).2 :: ndH x.1 (take n).1) w' := by
 obtain ⟨m, hm⟩ : ∃ m, m = order n := ⟨_, rfl⟩
 have hsp : take n = ({ m with inbox := [] }, m.inbox) := by rw [hm]; rfl
 refine calls_hr Tryz.func23 I (Nat.le_of_ble_eq_true I) ?_
 refine HR.sub (σ' := [(0, .agg ⟨ndC V n⟩)]) ⟨I, trivial⟩ ?_
 rw [hsp]
 repeat' (first | refine zh ?_ | intro (bk : Nat))
 refine HL.callX (r := fun x : Nat × NV => ptr x.1) (Q := fun x => Pts x.2 m) (G := fun x => stH x.1 x.2 m (tick 0)) fn40 I I (fun w1 hw1 => by rw [hm]; exact enter_any V n 0 w1 (h.ext hw1.belowB) hs) ?_
 rintro ⟨b, V2⟩ hP
 have hP : Pts V2 m := hP
 refine HL.ent (Ent.pick [10, 0, 1, 2, 3, 4, 5, 6, 7, 8, 9] I I) ?_
 repeat' (first | refine zh ?_ | intro (bk : Nat))
 refine HR.nilC 70 2 ?_
 refine HR.ret Tryz.func23 I [_, _] (fun w hw => ⟨⟨_, rfl, loadVarR hw 1 I I I I rfl⟩, rfl, trivial⟩) ?_
 refine fun w' hw => ⟨({ V2 with ib := (none, 0) }, V2.ib), rfl, ⟨hP.eq, hP.sh⟩, ?_⟩
 exact hw.pick [11, 3, 4, 5, 6, 7, 8, 9, 10, 0] I I
end Go.Proofs.YtgdgclmkpoaagaaGreat
namespace Go.Proofs.YtgdgclmkpoaagaaGreat
open Go.GX Go.RowKit
attribute [local irreducible] Calls Run RunL RunQ RunD HR HL HD blkC ownC Rd
open Nd
theorem fn80 : IsFn Tryz.prog 80 := ⟨⟨_, _, Tryz.func80, rfl, by decide⟩⟩
theorem fn30 : IsFn Tryz.prog 30 := ⟨⟨_, _, Tryz.func30, rfl, by decide⟩⟩
theorem fn78 : IsFn Tryz.prog 78 := ⟨⟨_, _, Tryz.func78, rfl, by decide⟩⟩
abbrev tiC (bt : Nat) (to : Int) : Chunk := blkC bt [.int .i64 to] 3
theorem sgiveUp_any (b : Nat) (V : NV) (n : Nd) (now to : Int) (B : Base) (w : World) (hw : Sat B (stH b V n now) w) (ho : Ord n) :
  Calls Tryz.prog 80 #[ptr b, .int .i64 to] w fun e w' => ∃ x : SV × SV × SV, e = .returned (.tuple ⟨[]⟩) ∧ True ∧ Sat ⟨w, feet (stH b V n now)⟩ (stH b { V with ta := x.1, li := x.2.1, ch := x.2.2 } (giveUp n to) now) w' := by
 have h24 := tlen ho
 have l24 := llen ho
 have k251 := klen ho
 have hsp : giveUp n to = if Tp.okN to = false then lose n else { lose n with table := rbrk n.table n.addr to, links := lforget n.links to, children := n.children.filter fun c => !(c == to), parent := if n.parent = to then 255 else n.parent } := rfl
 rw [hsp]
 refine calls_hrW (stH b V n now) (hw) Tryz.func80 I (Nat.le_of_ble_eq_true I) ?_
 refine HR.sub (σ' := [(0, ptr b), (1, .int .i64 to)]) ⟨I, I, trivial⟩ ?_
 refine HR.ctl I ?_
 refine HR.region ?_
 refine HL.box I I ?_
 intro bt
 repeat' (first | refine zh ?_ | intro (bk : Nat))
 refine HL.ent (H' := blkS b V n now :: tiC bt to :: ndH V n) (Ent.pick [1, 0, 2, 3, 4, 5, 6, 7, 8, 9, 10] I I) ?_
 refine HL.callW (r := fun _ : Unit => .tuple ⟨[]⟩) (Q := fun _ => True) (G0 := [blkS b V n now]) (H0 := tiC bt to :: ndH V n) (G := fun _ => [blkS b V (lose n) now]) fn75 I I I (fun w1 hw1 => slose_any b V n now _ w1 (hw1.pick [0] I I) ho.lost) ?_
 intro _ _
 repeat' (first | refine zh ?_ | refine HL.callB fn41 I I (fun w _ => inside_any to w) ?_ | intro (bk : Nat))
 refine HR.cond I (fun h1 => ?_) (fun h1 => ?_)
 ·have h1 : Tp.okN to = false := by simpa using h1
  rw [if_pos h1]
  repeat' (first | refine zh ?_ | intro (bk : Nat))
  refine HR.ret Tryz.func80 I [] (fun _ _ => trivial) ?_
  exact fun w' hw => ⟨(V.ta, V.li, V.ch), rfl, trivial, hw.pick [0, 2, 3, 4, 5, 6, 7, 8, 9, 10] I rfl⟩
 have h1 : ¬ Tp.okN to = false := by simpa using h1
 rw [if_neg h1]
 repeat' (first | refine zh ?_ | intro (bk : Nat))
 refine HR.regionY [(0, true), (1, true), (2, true), (3, true), (4, true), (5, true), (6, true), (7, true), (8, true), (9, true), (10, true), (11, true), (12, false), (13, true), (14, true), (15, true)] 16 [0, 1] I I hmix (by kernel_rfl) ?_
 repeat' (first | refine zd ?_ | fail)
 refine HD.one I ?_
 refine HL.callO fn151 I I (fun w1 hw1 => rbrk_any n.table n.addr to _ w1 ((Rd.own 2 rfl).at hw1) (by omega)) ?_
 intro v1
 refine HL.shape 0 I fun a1 c1 hv => ?_
 subst hv
 refine HL.back [1, 2] I I ?_
 repeat' (first | refine zd ?_ | fail)
 refine HD.last I ?_
 repeat' (first | refine zn ?_ | intro (bk : Nat))
 refine HR.ent (Ent.pick [1, 2, 0, 4, 5, 6, 7, 8, 9, 10, 11] I I) ?_
 repeat' (first | refine zh ?_ | intro (bk : Nat))
 refine HR.regionY [(0, true), (1, true), (2, true), (3, true), (4, true), (5, true), (6, true), (7, false), (8, true), (9, true), (10, true)] 11 [0, 1] I I hmix (by kernel_rfl) ?_
 repeat' (first | refine zd ?_ | fail)
 refine HD.one I ?_
 refine HL.callO fn152 I I (fun w1 hw1 => lforget_any n.links to _ w1 ((Rd.own 3 rfl).at hw1) (by omega)) ?_
 intro v2
 refine HL.shape 0 I fun a2 c2 hv => ?_
 subst hv
 refine HL.back [1, 2] I I ?_
 repeat' (first | refine zd ?_ | fail)
 refine HD.last I ?_
 repeat' (first | refine zn ?_ | intro (bk : Nat))
 refine HR.ent (Ent.pick [6, 2, 1, 3, 0, 5, 7, 8, 9, 10, 11] I I) ?_
 repeat' (first | refine zh ?_ | refine HL.mkF (g := 154) (caps := [_]) I I ?_ | intro (bk : Nat))
 refine HL.callW (r := fun z : Value => z) (Q := fun _ => True) (G0 := [cI (sv V.ch n.children.length) n.children, tiC bt to]) (H0 := [_, _, _, _, _, _, _, _, _]) (G := fun z => [ownC z 3 1 (n.children.filter fun c => !(c == to)).length (cellsOf iC (n.children.filter fun c => !(c == to))), tiC bt to]) fn153 I I I (fun w1 hw1 => delFI_any n.children to bt _ _ w1 (hw1.pick [0, 1] I I) (by omega)) ?_
 intro z _
 refine HL.shape 0 I fun a3 c3 hv => ?_
 subst hv
 repeat' (first | refine zh ?_ | intro (bk : Nat))
 refine HR.ent (Ent.pick [2, 1, 3, 4, 5, 0, 6, 7, 8, 9, 10] I I) ?_
 refine HR.regionQ hmix (by kernel_rfl) ?_
 repeat' (first | refine zq ?_ | apply zb ?_ ?_ | exact zc | (refine zi fun hb => ?_; try simp at hb))
 refine HR.cond I (fun h2 => ?_) (fun h2 => ?_)
 ·have h2 : n.parent = to := eq_of_beq h2
  rw [if_pos h2]
  repeat' (first | refine zh ?_ | intro (bk : Nat))
  refine HR.fin Tryz.func80 I [] (fun _ _ => trivial) ?_
  exact fun w' hw => ⟨((a1, c1), (a2, c2), (a3, c3)), rfl, trivial, hw.pick [0, 2, 3, 4, 5, 6, 7, 8, 9, 10] I rfl⟩
 ·have h2 : (n.parent == to) = false := h2
  have h2 : ¬ n.parent = to := by simpa using h2
  rw [if_neg h2]
  repeat' (first | refine zh ?_ | intro (bk : Nat))
  refine HR.fin Tryz.func80 I [] (fun _ _ => trivial) ?_
  exact fun w' hw => ⟨((a1, c1), (a2, c2), (a3, c3)), rfl, trivial, hw.pick [0, 2, 3, 4, 5, 6, 7, 8, 9, 10] I rfl⟩
theorem result1_any (bf : Nat) (f : Fr) (x : Sn) (w : World) (hcap : Sl w (.slice (some ⟨bf, 0, none⟩) 9 9) (frC f) 9) : Calls Tryz.prog 78 #[.agg ⟨snC x⟩, .pointer (some ⟨bf, 0, none⟩)] w fun e w' => e = .returned (.bool (hits f x)) ∧ Below w.heap.size w w' := by
 refine calls_hr Tryz.func78 I (Nat.le_of_ble_eq_true I) ?_
 refine HR.sub (σ' := [(0, .agg ⟨snC x⟩), (1, .pointer (some ⟨bf, 0, none⟩))]) ⟨I, I, trivial⟩ ?_
 repeat' (first | refine zh ?_ | refine HL.loadI (j := 0) (Rd.arg hcap) I I I I I ?_ | refine HL.loadI (j := 3) (Rd.arg hcap) I I I I I ?_ | refine HL.loadI (j := 5) (Rd.arg hcap) I I I I I ?_ | apply zb ?_ ?_ | exact zc | (refine zi fun hb => ?_; try simp at hb) | intro (bk : Nat))
 refine HR.ret Tryz.func78 I [_] (fun _ _ => ⟨I, trivial⟩) ?_
 exact fun w' hw => ⟨rfl, hw.belowB⟩
theorem giveUp_parts (n : Nd) (to : Int) : (giveUp n to).parts = n.parts := by
 by_cases h : Tp.okN to = false
 ·unfold giveUp; rw [if_pos h]; rfl
 ·unfold giveUp; rw [if_neg h]; rfl
theorem sresult_any (V : NV) (n : Nd) (f : Fr) (ok : Bool) (w : World) (h : OkN w V n) (hs : SmN n) :
  Calls Tryz.prog 30 #[.agg ⟨ndC V n⟩, .agg ⟨frC f⟩, .bool ok] w fun e w' => ∃ V' : NV, e = .returned (.agg ⟨ndC V' (result n f ok)⟩) ∧ Pts V' (result n f ok) ∧ Sat (base w) (ndH V' (result n f ok)) w' := by
 obtain ⟨m, hm⟩ : ∃ m, m = order n := ⟨_, rfl⟩
 have ho : Ord m := by rw [hm]; exact order_ord n
 have h16 := ho.out
 have hsp : result n f ok = match m.out.findIdx? (hits f) with
  | none => m
  | some i => if (mres m.out i ok).2 then giveUp (if Tp.okN f.dst then { m with out := (mres m.out i ok).1, links := lseen m.links f.dst ok } else { m with out := (mres m.out i ok).1 }) f.dst else (if Tp.okN f.dst then { m with out := (mres m.out i ok).1, links := lseen m.links f.dst ok } else { m with out := (mres m.out i ok).1 }) := by rw [hm]; rfl
 obtain ⟨Z, hZ⟩ : ∃ Z, Z = result n f ok := ⟨_, rfl⟩
 rw [← hZ]
 rw [hsp] at hZ
 refine calls_hr Tryz.func30 I (Nat.le_of_ble_eq_true I) ?_
 refine HR.sub (σ' := [(0, .agg ⟨ndC V n⟩), (1, .agg ⟨frC f⟩), (2, .bool ok)]) ⟨I, I, I, trivial⟩ ?_
 refine HR.ctl I ?_
 refine HR.region ?_
 refine HL.box I I ?_
 intro bn
 refine HL.box I I ?_
 intro bf
 repeat' (first | refine zh ?_ | intro (bk : Nat))
 refine HL.callX (r := fun x : Nat × NV => ptr x.1) (Q := fun x => Pts x.2 m) (G := fun x => stH x.1 x.2 m (tick 0)) fn40 I I (fun w1 hw1 => by rw [hm]; exact enter_any V n 0 w1 (h.ext hw1.belowB) hs) ?_
 rintro ⟨b, V2⟩ hP
 have hP : Pts V2 m := hP
 refine HL.ent (Ent.pick [10, 11, 0, 1, 2, 3, 4, 5, 6, 7, 8, 9] I I) ?_
 repeat' (first | refine zh ?_ | refine HL.mkF (g := 78) (caps := [_]) I I ?_ | refine HL.callB fn77 I I (fun w1 hw1 => indexFSn_any m.out (hits f) 78 [.pointer (some ⟨bf, 0, none⟩)] (sv V2.ou m.out.length) w1 fn78 (fun a ha w2 hb => result1_any bf f a w2 (((Rd.blk (n := 9) 1 rfl).at hw1).ext hb)) ((Rd.own 5 rfl).at hw1) (by omega)) ?_ | intro (bk : Nat))
 rcases fidx_cases (hits f) m.out with ⟨e1, e2, _⟩ | ⟨i, x, e1, e2, e3, _⟩
 ·rw [e2] at hZ
  have hZ : Z = m := hZ
  rw [e1, hZ]
  repeat' (first | refine zh ?_ | intro (bk : Nat))
  refine HR.ret Tryz.func30 I [_] (fun w hw => ⟨⟨_, rfl, loadVarR hw 0 I I I I rfl⟩, trivial⟩) ?_
  exact fun w' hw => ⟨V2, rfl, hP, hw.pick [3, 4, 5, 6, 7, 8, 9, 10, 11] I rfl⟩
 rw [e2] at hZ
 rw [e1]
 have hmr := mres_len m.out i ok
 obtain ⟨r, hr⟩ : ∃ r, r = mres m.out i ok := ⟨_, rfl⟩
 rw [← hr] at hmr
 have hm1 := ho.setOut hmr
 have hml : Ord { m with out := r.1, links := lseen m.links f.dst ok } := hm1.setLinks (lseen_ok _ _ _)
 have hl24 := llen ho
 obtain ⟨m2, hm2⟩ : ∃ m2, m2 = if Tp.okN f.dst then { m with out := r.1, links := lseen m.links f.dst ok } else { m with out := r.1 } := ⟨_, rfl⟩
 have ho2 : Ord m2 := by rw [hm2]; split; exact hml; exact hm1
 have hp2 : m2.parts = m.parts := by rw [hm2]; split <;> rfl
 have hZ : Z = if r.2 = true then giveUp m2 f.dst else m2 := by rw [hZ, hm2, hr]
 rw [hZ]
 repeat' (first | refine zh ?_ | intro (bk : Nat))
 refine HL.callX (r := fun v' : Value => .tuple ⟨[v', .bool r.2]⟩) (Q := fun _ => True) (G := fun v' => [cSn v' r.1]) fn74 I I (fun w1 hw1 => by rw [hr]; exact mresult_any m.out i ok _ w1 ((Rd.own 5 rfl).at hw1) (by omega)) ?_
 intro v1 _
 refine HL.shape 0 I fun a c hv => ?_
 subst hv
 repeat' (first | refine zh ?_ | refine HL.callB fn41 I I (fun w _ => inside_any f.dst w) ?_ | intro (bk : Nat))
 refine HR.ent (H' := _ :: _ :: stH b { V2 with ou := (a, c) } { m with out := r.1 } (tick 0)) (Ent.pick [1, 2, 3, 4, 5, 0, 7, 8, 9, 10, 11, 12] I I) ?_
 refine HR.join (ι := SV) (fun _ => True) (fun _ => [(6, ptr bk), (4, ptr bf), (7, ptr b), (10, .bool r.2)]) (fun x => blkC bk zerC 31 :: blkC bf (frC f) 42 :: stH b { V2 with ou := (a, c), li := x } m2 (tick 0)) (fun x _ => ?_) (fun hj => ?_)
 rotate_left
 ·refine HR.cond I (fun h1 => ?_) (fun h1 => ?_)
  ·have h1 : Tp.okN f.dst = true := h1
   rw [h1, if_pos rfl] at hm2
   repeat' (first | refine zh ?_ | intro (bk : Nat))
   refine HR.regionY [(0, true), (1, true), (2, true), (3, true), (4, true), (5, true), (6, true), (7, true), (8, true), (9, false), (10, true), (11, true), (12, true)] 13 [1, 2] I I hmix (by kernel_rfl) ?_
   repeat' (first | refine zd ?_ | fail)
   refine HD.one I ?_
   refine HL.callO fn79 I I (fun w1 hw1 => lseen_any m.links f.dst ok _ w1 ((Rd.own 4 rfl).at hw1) (by omega)) ?_
   intro v2
   refine HL.shape 0 I fun a2 c2 hv => ?_
   subst hv
   refine HL.back [2, 3] I I ?_
   repeat' (first | refine zd ?_ | fail)
   refine HD.last I ?_
   repeat' (first | refine zn ?_ | intro (bk : Nat))
   refine hj (a2, c2) _ _ trivial ⟨I, I, I, I, trivial⟩ ?_
   rw [hm2]
   exact Ent.pick [1, 2, 3, 4, 0, 6, 7, 8, 9, 10, 11, 12] I I
  ·have h1 : Tp.okN f.dst = false := h1
   rw [h1, if_neg (by decide)] at hm2
   refine HR.skip ?_
   refine hj V2.li _ _ trivial ⟨I, I, I, I, trivial⟩ ?_
   rw [hm2]
   exact Ent.refl
 repeat' (first | refine zh ?_ | intro (bk : Nat))
 refine HR.cond I (fun h1 => ?_) (fun h1 => ?_)
 ·have h1 : r.2 = true := h1
  rw [if_pos h1]
  repeat' (first | refine zh ?_ | intro (bk : Nat))
  refine HL.ent (Ent.pick [2, 3, 4, 5, 6, 7, 8, 9, 10, 11, 0] I I) ?_
  refine HL.callW (r := fun _ : SV × SV × SV => .tuple ⟨[]⟩) (Q := fun _ => True) (G0 := stH b { V2 with ou := (a, c), li := x } m2 (tick 0)) (H0 := [_]) (G := fun y => stH b { V2 with ou := (a, c), ta := y.1, li := y.2.1, ch := y.2.2 } (giveUp m2 f.dst) (tick 0)) fn80 I I I (fun w1 hw1 => sgiveUp_any b { V2 with ou := (a, c), li := x } m2 (tick 0) f.dst _ w1 (hw1.pick [0, 1, 2, 3, 4, 5, 6, 7, 8, 9] I I) ho2) ?_
  intro y _
  refine HL.ent (Ent.pick [10, 0, 1, 2, 3, 4, 5, 6, 7, 8, 9] I I) ?_
  repeat' (first | refine zh ?_ | intro (bk : Nat))
  refine HR.ret Tryz.func30 I [_] (fun w hw => ⟨⟨_, rfl, loadVarR hw 0 I I I I rfl⟩, trivial⟩) ?_
  exact fun w' hw => ⟨{ V2 with ou := (a, c), ta := y.1, li := y.2.1, ch := y.2.2 }, rfl, ⟨by rw [giveUp_parts, hp2]; exact hP.eq, hP.sh⟩, hw.pick [2, 3, 4, 5, 6, 7, 8, 9, 10] I rfl⟩
 ·have h1 : r.2 = false := h1
  rw [if_neg (by rw [h1]; decide)]
  repeat' (first | refine zh ?_ | intro (bk : Nat))
  refine HR.ret Tryz.func30 I [_] (fun w hw => ⟨⟨_, rfl, loadVarR hw 0 I I I I rfl⟩, trivial⟩) ?_
  exact fun w' hw => ⟨{ V2 with ou := (a, c), li := x }, rfl, ⟨by rw [hp2]; exact hP.eq, hP.sh⟩, hw.pick [3, 4, 5, 6, 7, 8, 9, 10, 11] I rfl⟩
end Go.Proofs.YtgdgclmkpoaagaaGreat
namespace Go.Proofs.YtgdgclmkpoaagaaGreat
open Go.GX Go.RowKit
attribute [local irreducible] Calls Run RunL RunQ RunD HR HL HD blkC ownC Rd
open Nd
theorem fn33 : IsFn Tryz.prog 33 := ⟨⟨_, _, Tryz.func33, rfl, by decide⟩⟩
theorem boxes_parts (now : Int) : ∀ (l : List Fr) (n : Nd), (l.foldl (fun n f => box n f now) n).parts = n.parts
 | [], _ => rfl
 | f :: l, n => (boxes_parts now l (box n f now)).trans (box_parts n f now)
theorem asleep_parts (n : Nd) (now : Int) : (asleep n now).parts = n.parts := by unfold asleep; exact boxes_parts now _ _
theorem beacon_parts (n : Nd) : (beacon n).parts = n.parts := by
 unfold beacon; split
 ·exact (queue_parts _ _).trans I
 ·rfl
theorem poll_parts (n : Nd) : (poll n).parts = n.parts := by
 unfold poll; split
 ·exact (queue_parts _ _).trans I
 ·rfl
theorem stick_any (V : NV) (n : Nd) (now : Int) (w : World) (h : OkN w V n) (hs : SmN n) (hf : ∀ s ∈ n.out, fits .i64 s.wt) :
  Calls Tryz.prog 33 #[.agg ⟨ndC V n⟩, .int .i64 now] w fun e w' => ∃ V' : NV, e = .returned (.agg ⟨ndC V' (tickN n now)⟩) ∧ Pts V' (tickN n now) ∧ Sat (base w) (ndH V' (tickN n now)) w' := by
 obtain ⟨m, hm⟩ : ∃ m, m = order n := ⟨_, rfl⟩
 have ho : Ord m := by rw [hm]; exact order_ord n
 have h16 := ho.out
 have hb16 := ho.boxes
 have hmf : ∀ s ∈ m.out, fits .i64 s.wt := fun s hs => hf s (List.mem_of_mem_take (by rw [hm] at hs; exact hs))
 have hmp : m.parts = n.parts := by rw [hm]; rfl
 obtain ⟨T, hT⟩ : ∃ T, T = tick now := ⟨_, rfl⟩
 have ht0 : 0 ≤ T := by rw [hT]; unfold tick clamp; omega
 obtain ⟨a, ha⟩ : ∃ a, a = asleep { m with out := mtick m.out, boxes := bexp m.boxes T 120, parts := pexp m.parts T 120 } T := ⟨_, rfl⟩
 obtain ⟨g, hg⟩ : ∃ g, g = if a.poll = 0 ∧ T % 8 = a.addr % 8 then beacon a else a := ⟨_, rfl⟩
 have hsp : tickN n now = if g.poll > 0 ∧ g.parent ≠ 255 ∧ T % g.poll = 0 then poll g else g := by rw [hg, ha, hT, hm]; rfl
 have ho1 : Ord { m with out := mtick m.out, boxes := bexp m.boxes T 120, parts := pexp m.parts T 120 } := ((ho.setOut (mtick_len m.out)).setBoxes (bexp_len m.boxes T 120)).setParts _
 have hao : Ord a := by rw [ha]; exact (asleep_good (Good.refl ho1) T).ord
 have hap : a.parts = pexp m.parts T 120 := by rw [ha]; exact asleep_parts _ _
 have hgo : Ord g := by rw [hg]; split; exact (beacon_good (Good.refl hao)).ord; exact hao
 have hgp : g.parts = pexp m.parts T 120 := by rw [hg, ← hap]; split; exact beacon_parts _; rfl
 have ha8 := ((okN_iff _).1 hao.addr).1
 rw [hsp]
 refine calls_hr Tryz.func33 I (Nat.le_of_ble_eq_true I) ?_
 refine HR.sub (σ' := [(0, .agg ⟨ndC V n⟩), (1, .int .i64 now)]) ⟨I, I, trivial⟩ ?_
 repeat' (first | refine zh ?_ | intro (bk : Nat))
 refine HL.callX (r := fun x : Nat × NV => ptr x.1) (Q := fun x => Pts x.2 m) (G := fun x => stH x.1 x.2 m T) fn40 I I (fun w1 hw1 => by rw [hm, hT]; exact enter_any V n now w1 (h.ext hw1.belowB) hs) ?_
 rintro ⟨b, V2⟩ hP
 have hP : Pts V2 m := hP
 have hpl : V2.ps.length ≤ 1000 := by rw [← pts_len, hP.eq, hmp]; exact hs.pa
 have hps : ∀ p ∈ V2.ps, SmPt p.pt := fun p hp => hs.sm p.pt (by rw [← hmp, ← hP.eq]; exact List.mem_map.2 ⟨p, hp, rfl⟩)
 refine HL.ent (Ent.pick [10, 0, 1, 2, 3, 4, 5, 6, 7, 8, 9] I I) ?_
 repeat' (first | refine zh ?_ | refine HL.callO fn90 I I (fun w1 hw1 => mtick_any m.out _ w1 ((Rd.own 4 rfl).at hw1) (by omega) hmf) ?_ | intro (bk : Nat))
 intro v1
 refine HL.shape 0 I fun a1 c1 hv => ?_
 subst hv
 repeat' (first | refine zh ?_ | intro (bk : Nat))
 refine HR.ent (Ent.pick [1, 2, 3, 4, 0, 6, 7, 8, 9, 10, 11] I I) ?_
 refine HR.regionY [(0, true), (1, true), (2, true), (3, true), (4, true), (5, true), (6, true), (7, true), (8, true), (9, true), (10, false), (11, true), (12, true), (13, true)] 14 [1] I I hmix (by kernel_rfl) ?_
 repeat' (first | refine zd ?_ | fail)
 refine HD.one I ?_
 refine HL.callO fn91 I I (fun w1 hw1 => bexp_any m.boxes T 120 _ w1 ((Rd.own 6 rfl).at hw1) (by omega)) ?_
 intro v2
 refine HL.shape 0 I fun a2 c2 hv => ?_
 subst hv
 refine HL.back [2] I I ?_
 repeat' (first | refine zd ?_ | fail)
 refine HD.last I ?_
 repeat' (first | refine zn ?_ | intro (bk : Nat))
 refine HR.ent (Ent.pick [1, 2, 3, 4, 5, 6, 0, 8, 9, 10, 11] I I) ?_
 repeat' (first | refine zh ?_ | intro (bk : Nat))
 refine HR.regionY [(0, true), (1, true), (2, true), (3, true), (4, true), (5, true), (6, true), (7, true), (8, true), (9, true), (10, false), (11, true), (12, true), (13, true)] 14 [1] I I hmix (by kernel_rfl) ?_
 repeat' (first | refine zd ?_ | fail)
 refine HD.one I ?_
 refine HL.callX (r := fun x : Value × List PtV => x.1) (Q := fun x => GdPts x (pexp (pts V2.ps) T 120)) (G := fun x => ptsC x) fn92 I I (fun w1 hw1 => fexp_any V2.ps T 120 _ w1 (RdPts.own 8 9 hw1 I I) hps hpl) ?_
 rintro ⟨v3, ps⟩ ⟨hg1, hg2⟩
 have hq1 : pts ps = pexp m.parts T 120 := by rw [← hP.eq]; exact hg1
 have hq2 : ∀ p ∈ ps, ShPt p := hg2
 refine HL.shape (v := v3) (e := 76) (sz := 6) (n := ps.length) (xs := cellsOf ptC ps) 0 I fun a3 c3 hv => ?_
 subst hv
 refine HL.back [3] I I ?_
 repeat' (first | refine zd ?_ | fail)
 refine HD.last I ?_
 repeat' (first | refine zn ?_ | intro (bk : Nat))
 obtain ⟨V3, hV3⟩ : ∃ V3 : NV, V3 = ⟨V2.ta, V2.li, (a1, c1), V2.ch, (a2, c2), V2.se, (a3, c3), V2.ib, ps⟩ := ⟨_, rfl⟩
 have hps3 : V3.ps = ps := by rw [hV3]
 refine HR.ent (H' := _ :: stH b ⟨V2.ta, V2.li, (a1, c1), V2.ch, (a2, c2), V2.se, (a3, c3), V2.ib, ps⟩ { m with out := mtick m.out, boxes := bexp m.boxes T 120, parts := pexp m.parts T 120 } T) (Ent.pick [2, 3, 4, 5, 6, 7, 8, 9, 0, 1, 12] I I) ?_
 rw [← hV3]
 repeat' (first | refine zh ?_ | intro (bk : Nat))
 refine HL.ent (Ent.pick [1, 2, 3, 4, 5, 6, 7, 8, 9, 10, 0] I I) ?_
 refine HL.callW (r := fun _ : SV × SV => .tuple ⟨[]⟩) (Q := fun _ => True) (G0 := stH b V3 { m with out := mtick m.out, boxes := bexp m.boxes T 120, parts := pexp m.parts T 120 } T) (H0 := [_]) (G := fun x => stH b { V3 with ou := x.1, bo := x.2 } a T) fn93 I I I (fun w1 hw1 => by rw [ha]; exact sasleep_any b V3 _ T _ w1 (hw1.pick [0, 1, 2, 3, 4, 5, 6, 7, 8, 9] I I) ho1) ?_
 rintro ⟨x1, x2⟩ _
 repeat' (first | refine zh ?_ | intro (bk : Nat))
 refine HR.regionQ hmix (by kernel_rfl) ?_
 repeat' (first | refine zq ?_ | apply zb ?_ ?_ | exact zc | (refine zi fun hb => ?_; try simp at hb))
 refine HR.join (ι := SV × SV) (fun _ => True) (fun _ => [(4, ptr bk), (5, ptr b)]) (fun y => stH b { V3 with bo := x2, ta := y.1, ou := y.2 } g T ++ [blkC bk zerC 31]) (fun y _ => ?_) (fun hj => ?_)
 rotate_left
 ·refine HR.cond I (fun h1 => ?_) (fun h1 => ?_)
  ·have h1 : ((a.poll == 0) && (T % 8 == a.addr % 8)) = true := h1
   have h2 : a.poll = 0 ∧ T % 8 = a.addr % 8 := by simpa using h1
   rw [if_pos h2] at hg
   refine HR.region ?_
   repeat' (first | refine zn ?_ | apply zb ?_ ?_ | exact zc | (refine zi fun hb => ?_; try simp at hb) | intro (bk : Nat))
   refine HL.callW (r := fun _ : SV × SV => .tuple ⟨[]⟩) (Q := fun _ => True) (G0 := stH b { V3 with ou := x1, bo := x2 } a T) (H0 := [_]) (G := fun y => stH b { V3 with bo := x2, ta := y.1, ou := y.2 } g T) fn94 I I I (fun w1 hw1 => by rw [hg]; exact sbeacon_any b { V3 with ou := x1, bo := x2 } a T _ w1 (hw1.pick [0, 1, 2, 3, 4, 5, 6, 7, 8, 9] I I) hao) ?_
   intro y _
   repeat' (first | refine zn ?_ | apply zb ?_ ?_ | exact zc | (refine zi fun hb => ?_; try simp at hb) | intro (bk : Nat))
   exact hj y _ _ trivial ⟨I, I, trivial⟩ Ent.refl
  ·have h1 : ((a.poll == 0) && (T % 8 == a.addr % 8)) = false := h1
   have h2 : ¬ (a.poll = 0 ∧ T % 8 = a.addr % 8) := by simpa using h1
   rw [if_neg h2] at hg
   refine HR.skip ?_
   refine hj (V3.ta, x1) _ _ trivial ⟨I, I, trivial⟩ ?_
   rw [hg]
   exact Ent.refl
 obtain ⟨y1, y2⟩ := y
 repeat' (first | refine zh ?_ | intro (bk : Nat))
 refine HR.regionQ hmix (by kernel_rfl) ?_
 repeat' (first | refine zq ?_ | apply zb ?_ ?_ | exact zc | (refine zi fun hb => ?_; try simp at hb))
 refine HR.cond I (fun h1 => ?_) (fun h1 => ?_)
 ·have h1 : ((decide (g.poll > 0) && !(g.parent == 255)) && (T % g.poll == 0)) = true := h1
  have h2 : g.poll > 0 ∧ g.parent ≠ 255 ∧ T % g.poll = 0 := by simpa [and_assoc] using h1
  rw [if_pos h2]
  repeat' (first | refine zh ?_ | intro (bk : Nat))
  refine HL.callW (r := fun _ : SV × SV => .tuple ⟨[]⟩) (Q := fun _ => True) (G0 := stH b { V3 with bo := x2, ta := y1, ou := y2 } g T) (H0 := [_]) (G := fun y => stH b { V3 with bo := x2, ta := y.1, ou := y.2 } (poll g) T) fn95 I I I (fun w1 hw1 => spoll_any b { V3 with bo := x2, ta := y1, ou := y2 } g T _ w1 (hw1.pick [0, 1, 2, 3, 4, 5, 6, 7, 8, 9] I I) hgo) ?_
  intro z _
  refine HL.ent (Ent.pick [10, 0, 1, 2, 3, 4, 5, 6, 7, 8, 9] I I) ?_
  repeat' (first | refine zh ?_ | intro (bk : Nat))
  refine HR.ret Tryz.func33 I [_] (fun w hw => ⟨⟨_, rfl, loadVarR hw 0 I I I I rfl⟩, trivial⟩) ?_
  exact fun w' hw => ⟨{ V3 with bo := x2, ta := z.1, ou := z.2 }, rfl, ⟨by rw [poll_parts, hgp, ← hq1, hV3], by rw [hV3]; exact hq2⟩, hw.pick [2, 3, 4, 5, 6, 7, 8, 9, 10] I rfl⟩
 ·have h1 : ((decide (g.poll > 0) && !(g.parent == 255)) && (T % g.poll == 0)) = false := h1
  have h2 : ¬ (g.poll > 0 ∧ g.parent ≠ 255 ∧ T % g.poll = 0) := by
   intro e
   have : ((decide (g.poll > 0) && !(g.parent == 255)) && (T % g.poll == 0)) = true := by simpa [and_assoc] using e
   rw [h1] at this; cases this
  rw [if_neg h2]
  refine HR.skip ?_
  refine HR.ent (Ent.pick [10, 0, 1, 2, 3, 4, 5, 6, 7, 8, 9] I I) ?_
  repeat' (first | refine zh ?_ | intro (bk : Nat))
  refine HR.ret Tryz.func33 I [_] (fun w hw => ⟨⟨_, rfl, loadVarR hw 0 I I I I rfl⟩, trivial⟩) ?_
  exact fun w' hw => ⟨{ V3 with bo := x2, ta := y1, ou := y2 }, rfl, ⟨by rw [hgp, ← hq1, hV3], by rw [hV3]; exact hq2⟩, hw.pick [2, 3, 4, 5, 6, 7, 8, 9, 10] I rfl⟩
end Go.Proofs.YtgdgclmkpoaagaaGreat
namespace Go.Proofs.YtgdgclmkpoaagaaGreat
open Go.GX Go.RowKit
attribute [local irreducible] Calls Run RunL RunQ RunD HR HL HD blkC ownC Rd
open Nd
theorem fn67 : IsFn Tryz.prog 67 := ⟨⟨_, _, Tryz.func67, rfl, by decide⟩⟩
end Go.Proofs.YtgdgclmkpoaagaaGreat
namespace Go.Proofs.YtgdgclmkpoaagaaGreat
open Go.GX Go.RowKit
attribute [local irreducible] Calls Run RunL RunQ RunD HR HL HD blkC ownC Rd
open Nd
theorem tw_at {p : Int → Bool} : ∀ {l : List Int} {k : Nat}, k ≤ l.length → (∀ j a, j < k → l[j]? = some a → p a = true) → (∀ a, l[k]? = some a → p a = false) → l.takeWhile p = l.take k ∧ l.dropWhile p = l.drop k
 | [], k, hk, _, _ => by
  have : k = 0 := by simpa using hk
  subst this; exact ⟨rfl, rfl⟩
 | x :: l, 0, _, _, h2 => by
  have hx := h2 x I
  rw [List.takeWhile_cons_of_neg (by rw [hx]; decide), List.dropWhile_cons_of_neg (by rw [hx]; decide)]
  exact ⟨rfl, rfl⟩
 | x :: l, k + 1, hk, h1, h2 => by
  have hx := h1 0 x (Nat.succ_pos _) I
  obtain ⟨e1, e2⟩ := tw_at (l := l) (k := k) (by simpa using hk) (fun j a hj ha => h1 (j + 1) a (by omega) ha) (fun a ha => h2 a ha)
  rw [List.takeWhile_cons_of_pos hx, List.dropWhile_cons_of_pos hx, e1, e2]
  exact ⟨rfl, rfl⟩
theorem child_at {l : List Int} {c : Int} {k : Nat} (ha : Asc id l) (hk : k ≤ l.length) (h1 : ∀ j a, j < k → l[j]? = some a → a < c) (h2 : ∀ a, l[k]? = some a → ¬ a < c) : child l c = if l[k]? = some c then l else l.take k ++ c :: l.drop k := by
 obtain ⟨e1, e2⟩ := tw_at (p := fun x => decide (x < c)) hk (fun j a hj hja => decide_eq_true (h1 j a hj hja)) (fun a hka => decide_eq_false (h2 a hka))
 unfold child
 rw [e1, e2]
 have hmem : c ∈ l ↔ l[k]? = some c := by
  constructor
  ·intro h
   obtain ⟨j, hj⟩ := List.getElem?_of_mem h
   rcases Nat.lt_trichotomy j k with h3 | h3 | h3
   ·exact absurd (h1 j c h3 hj) (Int.lt_irrefl c)
   ·rw [← h3]; exact hj
   ·obtain ⟨x, hx⟩ := getSome (show k < l.length by have := (List.getElem?_eq_some_iff.1 hj).1; omega)
    have h4 : x < c := ha.lt h3 hx hj
    exact absurd h4 (h2 x hx)
  ·exact fun h => List.mem_of_getElem? h
 by_cases h : c ∈ l
 ·rw [if_pos h, if_pos (hmem.1 h)]
 ·rw [if_neg h, if_neg fun e => h (hmem.2 e)]
theorem iC_one (a : Int) : allOne (iC a) = true := rfl
theorem rchild_any (l : List Int) (c : Int) (v : Value) (B0 : Base) (w : World) (hw0 : Sat B0 [cI v l] w) (hl : l.length ≤ 1000) (ha : Asc id l) :
  Calls Tryz.prog 67 #[v, .int .i64 c] w fun e w' => ∃ r : Value, e = .returned r ∧ True ∧ Sat ⟨w, feet [cI v l]⟩ [cI r (child l c)] w' := by
 refine calls_hrW [cI v l] (hw0) Tryz.func67 I (Nat.le_of_ble_eq_true I) ?_
 refine HR.sub (σ' := [(0, v), (1, .int .i64 c)]) ⟨I, I, trivial⟩ ?_
 repeat' (first | refine zh ?_ | intro (bk : Nat))
 refine HR.nilC 3 1 ?_
 refine HR.joinI (ι := Nat × Value) (fun x => x.1 ≤ l.length ∧ (∀ j a, j < x.1 → l[j]? = some a → a < c) ∧ ∀ a, l[x.1]? = some a → ¬ a < c) (fun x => [(0, v), (1, .int .i64 c), (5, x.2), (6, .int .i64 (x.1 : Int))]) (fun x => [cI x.2 (l.take x.1), cI v l]) (fun x hx => ?_) (fun hj => ?_)
 rotate_left
 ·refine HR.loop (ι := Nat × Value) (fun x => x.1 ≤ l.length ∧ ∀ j a, j < x.1 → l[j]? = some a → a < c) (fun x => [(0, v), (1, .int .i64 c), (5, x.2), (6, .int .i64 (x.1 : Int))]) (fun x => [cI x.2 (l.take x.1), cI v l]) (fun x => l.length - x.1) (0, .slice none 0 0) ⟨Nat.zero_le _, fun j a hj => absurd hj (Nat.not_lt_zero _)⟩ ⟨I, I, I, I, trivial⟩ Ent.refl ?_
  rintro ⟨k, o⟩ ⟨hk, hg⟩ ih
  have hk : k ≤ l.length := hk
  have hg : ∀ j a, j < k → l[j]? = some a → a < c := hg
  refine HR.ctl I ?_
  refine HR.region ?_
  repeat' (first | refine zn ?_ | refine HL.lenR (Rd.own 1 I) I I I ?_ | intro (bk : Nat))
  refine HL.split 11 I (fun hb => ?_) (fun hb => ?_)
  ·have hlt : k < l.length := by have h1 : (k : Int) < (l.length : Int) := of_decide_eq_true hb; omega
   obtain ⟨x, hx⟩ := getSome hlt
   repeat' (first | refine zn ?_ | refine HL.idxR (Rd.own 1 I) elemI k I I I I hlt ?_ | refine HL.loadI (Rd.own 1 I) I I I I (cellsOf_get1 hx) ?_ | intro (bk : Nat))
   refine HR.cond I (fun h2 => ?_) (fun h2 => ?_)
   ·have h2 : x < c := of_decide_eq_true h2
    repeat' (first | refine zh ?_ | refine HL.idxR (Rd.own 1 I) elemI k I I I I hlt ?_ | refine HL.loadI (Rd.own 1 I) I I I I (cellsOf_get1 hx) ?_ | intro (bk : Nat))
    refine HL.bslice elemI I I I I I (by decide) (by decide) ?_
    intro va
    refine HL.appR 1 I elemI (Rd.own 0 I) I I I I (allOne_spec I) (by show ((l.take k).length + 1) * 8 ≤ _; rw [List.length_take]; omega) (by show (l.take k).length + 1 ≤ _; rw [List.length_take]; omega) ?_
    intro v2
    repeat' (first | refine zh ?_ | intro (bk : Nat))
    refine ih (k + 1, v2) _ _ ⟨hlt, fun j a hj hja => ?_⟩ (by show l.length - (k + 1) < l.length - k; omega) ⟨I, I, I, I, trivial⟩ ?_
    ·by_cases hjk : j = k
     ·subst hjk; rw [hx] at hja; cases hja; exact h2
     ·have hj : j < k + 1 := hj
      exact hg j a (by omega) hja
    ·show Ent _ _ [ownC v2 3 1 (l.take (k + 1)).length (cellsOf iC (l.take (k + 1))), cI v l]
     rw [take_succ_get hx, List.length_append, cellsOf_app]
     exact Ent.pick [1, 2] I I
   ·have h2 : ¬ x < c := of_decide_eq_false h2
    refine HR.exit I ?_
    exact hj (k, o) _ _ ⟨hk, hg, fun a hka => by have hka : l[k]? = some a := hka; rw [hx] at hka; cases hka; exact h2⟩ ⟨I, I, I, I, trivial⟩ Ent.refl
  ·have hlt : ¬ k < l.length := by have h1 : ¬ (k : Int) < (l.length : Int) := of_decide_eq_false hb; omega
   repeat' (first | refine zn ?_ | intro (bk : Nat))
   refine HR.condF I ?_
   refine HR.exit I ?_
   exact hj (k, o) _ _ ⟨hk, hg, fun a hka => absurd (List.getElem?_eq_some_iff.1 hka).1 hlt⟩ ⟨I, I, I, I, trivial⟩ Ent.refl
 obtain ⟨k, o⟩ := x
 obtain ⟨hk, h1, h2⟩ := hx
 have hk : k ≤ l.length := hk
 have hsp := child_at ha hk h1 h2
 rw [hsp]
 have htk : (l.take k).length = k := by rw [List.length_take]; omega
 refine HR.ctl I ?_
 refine HR.join (ι := Unit) (fun _ => True) (fun _ => [(0, v), (1, .int .i64 c), (5, o), (6, .int .i64 (k : Int)), (39, .bool (decide (l[k]? = some c)))]) (fun _ => [cI o (l.take k), cI v l]) (fun _ _ => ?_) (fun hj => ?_)
 rotate_left
 ·refine HR.region ?_
  repeat' (first | refine zn ?_ | refine HL.lenR (Rd.own 1 I) I I I ?_ | intro (bk : Nat))
  refine HL.split 32 I (fun hb => ?_) (fun hb => ?_)
  ·have hlt : k < l.length := by have h1 : (k : Int) < (l.length : Int) := of_decide_eq_true hb; omega
   obtain ⟨x, hx⟩ := getSome hlt
   repeat' (first | refine zn ?_ | refine HL.idxR (Rd.own 1 I) elemI k I I I I hlt ?_ | refine HL.loadI (Rd.own 1 I) I I I I (cellsOf_get1 hx) ?_ | intro (bk : Nat))
   refine hj () _ _ trivial ⟨rfl, rfl, rfl, rfl, ?_, trivial⟩ Ent.refl
   show some (Value.bool (x == c)) = some (Value.bool (decide (l[k]? = some c)))
   rw [hx]
   by_cases e : x = c
   ·subst e; simp
   ·simp [e]
  ·have hlt : ¬ k < l.length := by have h1 : ¬ (k : Int) < (l.length : Int) := of_decide_eq_false hb; omega
   repeat' (first | refine zn ?_ | intro (bk : Nat))
   refine hj () _ _ trivial ⟨rfl, rfl, rfl, rfl, ?_, trivial⟩ Ent.refl
   show some (Value.bool false) = some (Value.bool (decide (l[k]? = some c)))
   rw [List.getElem?_eq_none (by omega)]; rfl
 refine HR.cond I (fun h3 => ?_) (fun h3 => ?_)
 ·have h3 : l[k]? = some c := of_decide_eq_true h3
  rw [if_pos h3]
  repeat' (first | refine zh ?_ | intro (bk : Nat))
  refine HR.ret Tryz.func67 I [_] (fun _ _ => ⟨I, trivial⟩) ?_
  exact fun w' hw => ⟨v, rfl, trivial, hw.pick [1] I rfl⟩
 have h3 : ¬ l[k]? = some c := of_decide_eq_false h3
 rw [if_neg h3]
 repeat' (first | refine zh ?_ | intro (bk : Nat))
 refine HL.bslice elemI I I I I I (by decide) (by decide) ?_
 intro va
 refine HL.appR 1 I elemI (Rd.own 0 I) I I I I (allOne_spec I) (by omega) (by omega) ?_
 intro v2
 have hcl : (cellsOf iC l).length = l.length * 1 := cellsOf_len iC_len _
 repeat' (first | refine zh ?_ | refine HL.lenR (Rd.own 2 I) I I I ?_ | intro (bk : Nat))
 refine HL.subI (sz := 1) k l.length (Rd.own 2 I) I I I I (.inr ⟨_, _, _, rfl, rfl, rfl⟩) (.inl ⟨rfl, rfl⟩) hk (Nat.le_refl _) ?_
 refine HL.appR 1 I elemI (Rd.sub (sz := 1) (Rd.own 2 I) hcl hk (Nat.le_refl _)) I I I (by rw [List.length_take, List.length_drop, hcl]; omega) (fun u hu => one_allcells iC_one _ u (List.mem_of_mem_drop (List.mem_of_mem_take hu))) (by omega) (by omega) ?_
 intro v3
 repeat' (first | refine zh ?_ | intro (bk : Nat))
 refine HR.ret Tryz.func67 I [_] (fun _ _ => ⟨I, trivial⟩) ?_
 refine fun w' hw => ⟨v3, rfl, trivial, ?_⟩
 refine Ent.own0 ?_ ?_ w' (hw.pick [1] I I)
 ·rw [List.length_append, List.length_cons, List.length_drop, htk]; omega
 ·rw [cellsOf_app, cellsOf_drop iC_len, List.take_of_length_le (l := cellsOf iC (l.drop k)) (by rw [cellsOf_len iC_len, List.length_drop]; omega), List.append_assoc]; rfl
end Go.Proofs.YtgdgclmkpoaagaaGreat
namespace Go.Proofs.YtgdgclmkpoaagaaGreat
open Go.GX Go.RowKit
attribute [local irreducible] Calls Run RunL RunQ RunD HR HL HD blkC ownC Rd
open Nd
theorem fn20 : IsFn Tryz.prog 20 := ⟨⟨_, _, Tryz.func20, rfl, by decide⟩⟩
structure ROk (V : NV) (n : Nd) (V' : NV) (Gt : List Chunk) (m : Nd) : Prop where
 pa : V'.pa = V.pa
 ps : V'.ps = V.ps
 ta : ∀ w2, Sl w2 (sv V.ta n.table.length) (cellsOf roC n.table) n.table.length → (groupC Gt).p w2 → Sl w2 (sv V'.ta m.table.length) (cellsOf roC m.table) m.table.length
 li : ∀ w2, Sl w2 (sv V.li n.links.length) (cellsOf liC n.links) n.links.length → Sl w2 (sv V'.li m.links.length) (cellsOf liC m.links) m.links.length
abbrev roH (V : NV) (Gt : List Chunk) (m : Nd) : List Chunk := [groupC Gt, cSn (sv V.ou m.out.length) m.out, cMa (sv V.bo m.boxes.length) m.boxes, cI (sv V.ch m.children.length) m.children, cPr (sv V.se m.seen.length) m.seen, cDe (sv V.ib m.inbox.length) m.inbox]
theorem fold_step (p : Int → Bool) {l : List Int} {k : Nat} {x : Int} (hx : l[k]? = some x) : ((l.take (k + 1)).filter p).foldl child [] = if p x = true then child (((l.take k).filter p).foldl child []) x else ((l.take k).filter p).foldl child [] := by
 rw [take_filter hx]
 split
 ·rw [List.foldl_append]; rfl
 ·rfl
theorem rorder_any (V : NV) (n : Nd) (w : World) (h : OkN w V n) (hs : SmN n) :
  Calls Tryz.prog 20 #[.agg ⟨ndC V n⟩] w fun e w' => ∃ x : NV × List Chunk, e = .returned (.agg ⟨ndC x.1 (order n)⟩) ∧ ROk V n x.1 x.2 (order n) ∧ Sat (base w) (roH x.1 x.2 (order n)) w' := by
 have l1 := hs.ta
 have l2 := hs.li
 have l3 := hs.ou
 have l4 := hs.ch
 have l5 := hs.bo
 have l6 := hs.se
 have l7 := hs.ib
 obtain ⟨m, hm⟩ : ∃ m, m = order n := ⟨_, rfl⟩
 have e_ad : m.addr = clamp n.addr 0 250 := by rw [hm]; rfl
 have e_po : m.poll = if n.poll < 1 then 0 else max n.poll 4 := by rw [hm]; rfl
 have e_pr : m.parent = if Tp.okN n.parent = false ∨ n.parent = m.addr then 255 else n.parent := by rw [hm]; rfl
 have e_ta : m.table = if rchk n.table m.addr = 0 then n.table else [rown m.addr] := by rw [hm]; rfl
 have e_li : m.links = if lchk n.links = 0 then n.links else [] := by rw [hm]; rfl
 have e_ou : m.out = n.out.take (min n.out.length 16) := by rw [hm, ← take_minl]; rfl
 have e_ch : m.children = (n.children.filter fun c => Tp.okN c && !(c == m.addr)).foldl child [] := by rw [hm]; rfl
 have e_bo : m.boxes = n.boxes.take (min n.boxes.length 16) := by rw [hm, ← take_minl]; rfl
 have e_se : m.seen = n.seen.drop (n.seen.length - 32) := by rw [hm]; rfl
 have e_ib : m.inbox = n.inbox.take (min n.inbox.length 256) := by rw [hm, ← take_minl]; rfl
 have e_sq : m.seq = if n.seq < 0 ∨ n.seq > 65535 then 0 else n.seq := by rw [hm]; rfl
 have e_lo : m.lost = clamp n.lost 0 1099511627776 := by rw [hm]; rfl
 have e_nw : rnew m.addr = [rown m.addr] := by rw [e_ad]; unfold rnew lim; rw [clamp2]
 have s_ou := Sl.pre snC_len h.ou (Nat.min_le_left _ _) e_ou
 have s_bo := Sl.pre maC_len h.bo (Nat.min_le_left _ _) e_bo
 have s_se := Sl.suf prC_len h.se (Nat.sub_le _ _) e_se
 have s_ib := Sl.pre deC_len h.ib (Nat.min_le_left _ _) e_ib
 have k3 : m.out.length ≤ 16 := by rw [e_ou, List.length_take]; omega
 have k5 : m.boxes.length ≤ 16 := by rw [e_bo, List.length_take]; omega
 have k6 : m.seen.length ≤ 32 := by rw [e_se, List.length_drop]; omega
 have k7 : m.inbox.length ≤ 256 := by rw [e_ib, List.length_take]; omega
 rw [← hm]
 refine calls_hr Tryz.func20 I (Nat.le_of_ble_eq_true I) ?_
 refine HR.sub (σ' := [(0, .agg ⟨ndC V n⟩)]) ⟨I, trivial⟩ ?_
 refine HR.ctl I ?_
 refine HR.region ?_
 refine HL.box I I ?_
 intro b1
 refine HL.alloc I I ?_
 intro b2
 repeat' (first | refine zh ?_ | refine HL.callB fn63 I I (fun w _ => rclamp_any n.addr 0 250 (by decide) w) ?_ | intro (bk : Nat))
 refine HR.ent (H' := [blkC b1 [.int .i64 m.addr, .int .i64 n.poll, .int .i64 n.parent, sv V.ta n.table.length, sv V.li n.links.length, sv V.ou n.out.length, sv V.ch n.children.length, sv V.bo n.boxes.length, sv V.se n.seen.length, sv V.pa V.ps.length, sv V.ib n.inbox.length, .int .i64 n.seq, .int .i64 n.lost] 31, rsC b2]) (Ent.trans (Ent.pick [1, 0] I I) (Ent.of_eq (by rw [e_ad]; rfl))) ?_
 refine HR.join (ι := Unit) (fun _ => True) (fun _ => [(1, ptr b1), (2, ptr b2)]) (fun _ => [blkC b1 [.int .i64 m.addr, .int .i64 m.poll, .int .i64 n.parent, sv V.ta n.table.length, sv V.li n.links.length, sv V.ou n.out.length, sv V.ch n.children.length, sv V.bo n.boxes.length, sv V.se n.seen.length, sv V.pa V.ps.length, sv V.ib n.inbox.length, .int .i64 n.seq, .int .i64 n.lost] 31, rsC b2]) (fun _ _ => ?_) (fun hj => ?_)
 rotate_left
 ·refine HR.cond I (fun h => ?_) (fun h => ?_)
  ·have h : n.poll < 1 := of_decide_eq_true h
   refine HR.region ?_
   repeat' (first | refine zn ?_ | apply zb ?_ ?_ | exact zc | (refine zi fun hb => ?_; try simp at hb) | intro (bk : Nat))
   refine hj () _ _ trivial ⟨I, I, trivial⟩ (Ent.of_eq ?_)
   rw [e_po, if_pos h]; rfl
  ·have h : ¬ n.poll < 1 := of_decide_eq_false h
   rw [if_neg h] at e_po
   refine HR.ctl I ?_
   refine HR.region ?_
   repeat' (first | refine zn ?_ | apply zb ?_ ?_ | exact zc | (refine zi fun hb => ?_; try simp at hb) | intro (bk : Nat))
   refine HR.cond I (fun h2 => ?_) (fun h2 => ?_)
   ·have h2 : n.poll < 4 := of_decide_eq_true h2
    refine HR.region ?_
    repeat' (first | refine zn ?_ | apply zb ?_ ?_ | exact zc | (refine zi fun hb => ?_; try simp at hb) | intro (bk : Nat))
    refine hj () _ _ trivial ⟨I, I, trivial⟩ (Ent.of_eq ?_)
    rw [show m.poll = 4 from by rw [e_po]; omega]; rfl
   ·have h2 : ¬ n.poll < 4 := of_decide_eq_false h2
    refine HR.skip ?_
    refine hj () _ _ trivial ⟨I, I, trivial⟩ (Ent.of_eq ?_)
    rw [show m.poll = n.poll from by rw [e_po]; omega]
 repeat' (first | refine zh ?_ | refine HL.callB fn45 I I (fun w _ => address_any n.parent w) ?_ | apply zb ?_ ?_ | exact zc | (refine zi fun hb => ?_; try simp at hb) | intro (bk : Nat))
 refine HR.join (ι := Unit) (fun _ => True) (fun _ => [(1, ptr b1), (2, ptr b2)]) (fun _ => [blkC b1 [.int .i64 m.addr, .int .i64 m.poll, .int .i64 m.parent, sv V.ta n.table.length, sv V.li n.links.length, sv V.ou n.out.length, sv V.ch n.children.length, sv V.bo n.boxes.length, sv V.se n.seen.length, sv V.pa V.ps.length, sv V.ib n.inbox.length, .int .i64 n.seq, .int .i64 n.lost] 31, rsC b2]) (fun _ _ => ?_) (fun hj => ?_)
 rotate_left
 ·refine HR.cond I (fun h => ?_) (fun h => ?_)
  ·have h : (!Tp.okN n.parent || (n.parent == m.addr)) = true := h
   have h2 : Tp.okN n.parent = false ∨ n.parent = m.addr := by simpa using h
   refine HR.region ?_
   repeat' (first | refine zn ?_ | apply zb ?_ ?_ | exact zc | (refine zi fun hb => ?_; try simp at hb) | intro (bk : Nat))
   refine hj () _ _ trivial ⟨I, I, trivial⟩ (Ent.of_eq ?_)
   rw [e_pr, if_pos h2]; rfl
  ·have h : (!Tp.okN n.parent || (n.parent == m.addr)) = false := h
   have h2 : ¬ (Tp.okN n.parent = false ∨ n.parent = m.addr) := by simpa using h
   refine HR.skip ?_
   refine hj () _ _ trivial ⟨I, I, trivial⟩ (Ent.of_eq ?_)
   rw [e_pr, if_neg h2]
 repeat' (first | refine zh ?_ | refine HL.callB fn64 I I (fun w hw => r11check_any n.table m.addr _ w ((Rd.arg h.ta).at hw) l1) ?_ | intro (bk : Nat))
 refine HR.join (ι := SV × List Chunk) (fun x => ∀ w2, Sl w2 (sv V.ta n.table.length) (cellsOf roC n.table) n.table.length → (groupC x.2).p w2 → Sl w2 (sv x.1 m.table.length) (cellsOf roC m.table) m.table.length) (fun _ => [(1, ptr b1), (2, ptr b2)]) (fun x => [blkC b1 [.int .i64 m.addr, .int .i64 m.poll, .int .i64 m.parent, sv x.1 m.table.length, sv V.li n.links.length, sv V.ou n.out.length, sv V.ch n.children.length, sv V.bo n.boxes.length, sv V.se n.seen.length, sv V.pa V.ps.length, sv V.ib n.inbox.length, .int .i64 n.seq, .int .i64 n.lost] 31, rsC b2, groupC x.2]) (fun xt ht => ?_) (fun hj => ?_)
 rotate_left
 ·refine HR.cond I (fun h2 => ?_) (fun h2 => ?_)
  ·have h2 : ¬ rchk n.table m.addr = 0 := by simpa using h2
   rw [if_neg h2, ← e_nw] at e_ta
   refine HR.region ?_
   repeat' (first | refine zn ?_ | refine HL.callO fn65 I I (fun w _ => rrnew_any m.addr w) ?_ | apply zb ?_ ?_ | exact zc | (refine zi fun hb => ?_; try simp at hb) | intro (bk : Nat))
   intro v2
   refine HL.shape 0 I fun a2 c2 hv => ?_
   subst hv
   repeat' (first | refine zn ?_ | apply zb ?_ ?_ | exact zc | (refine zi fun hb => ?_; try simp at hb) | intro (bk : Nat))
   refine hj ((a2, c2), [cTa (.slice a2 (rnew m.addr).length c2) (rnew m.addr)]) _ _ (fun w2 _ hp => ?_) ⟨I, I, trivial⟩ ?_
   ·rw [e_ta]; exact ownC_sl hp.1
   ·rw [e_ta]; exact Ent.trans (Ent.group (G := [cTa (.slice a2 (rnew m.addr).length c2) (rnew m.addr)])) (Ent.pick [1, 2, 0] I I)
  ·have h2 : rchk n.table m.addr = 0 := by simpa using h2
   rw [if_pos h2] at e_ta
   refine HR.skip ?_
   refine hj (V.ta, []) _ _ (fun w2 hw2 _ => ?_) ⟨I, I, trivial⟩ ?_
   ·rw [e_ta]; exact hw2
   ·rw [e_ta]; exact Ent.trans Ent.gnil (Ent.pick [1, 2, 0] I I)
 obtain ⟨xt, Gt⟩ := xt
 have ht : ∀ w2, Sl w2 (sv V.ta n.table.length) (cellsOf roC n.table) n.table.length → (groupC Gt).p w2 → Sl w2 (sv xt m.table.length) (cellsOf roC m.table) m.table.length := ht
 repeat' (first | refine zh ?_ | refine HL.callB fn66 I I (fun w hw => r10check_any n.links _ w ((Rd.arg h.li).at hw) l2) ?_ | intro (bk : Nat))
 refine HR.join (ι := SV) (fun x => ∀ w2, Sl w2 (sv V.li n.links.length) (cellsOf liC n.links) n.links.length → Sl w2 (sv x m.links.length) (cellsOf liC m.links) m.links.length) (fun _ => [(1, ptr b1), (2, ptr b2)]) (fun x => [blkC b1 [.int .i64 m.addr, .int .i64 m.poll, .int .i64 m.parent, sv xt m.table.length, sv x m.links.length, sv V.ou n.out.length, sv V.ch n.children.length, sv V.bo n.boxes.length, sv V.se n.seen.length, sv V.pa V.ps.length, sv V.ib n.inbox.length, .int .i64 n.seq, .int .i64 n.lost] 31, rsC b2, groupC Gt]) (fun xl hli => ?_) (fun hj => ?_)
 rotate_left
 ·refine HR.cond I (fun h2 => ?_) (fun h2 => ?_)
  ·have h2 : ¬ lchk n.links = 0 := by simpa using h2
   rw [if_neg h2] at e_li
   refine HR.region ?_
   repeat' (first | refine zn ?_ | apply zb ?_ ?_ | exact zc | (refine zi fun hb => ?_; try simp at hb) | intro (bk : Nat))
   refine hj (none, 0) _ _ (fun w2 _ => ?_) ⟨I, I, trivial⟩ ?_
   ·rw [e_li]; exact Sl.nil w2
   ·rw [e_li]; exact Ent.refl
  ·have h2 : lchk n.links = 0 := by simpa using h2
   rw [if_pos h2] at e_li
   refine HR.skip ?_
   refine hj V.li _ _ (fun w2 hw2 => ?_) ⟨I, I, trivial⟩ ?_
   ·rw [e_li]; exact hw2
   ·rw [e_li]; exact Ent.refl
 repeat' (first | refine zh ?_ | refine HL.bslice0 elemSn I ?_ | intro (bk : Nat))
 intro v0
 repeat' (first | refine zh ?_ | intro (bk : Nat))
 refine HL.setV 50 (v' := .int .i64 ((min n.out.length 16 : Nat) : Int)) I (by rw [← min_i]; rfl) ?_
 repeat' (first | refine zh ?_ | refine HL.subI (sz := 11) 0 (min n.out.length 16) (Rd.arg h.ou) I I I I (.inl ⟨rfl, rfl⟩) (.inr ⟨_, _, _, rfl, rfl, rfl⟩) (Nat.zero_le _) (Nat.min_le_left _ _) ?_ | intro (bk : Nat))
 refine HL.appR 0 I elemSn (Rd.arg s_ou) I I I (cellsOf_len snC_len _) (one_allcells snC_one _) (by omega) (by omega) ?_
 intro v1
 refine HL.ent (H' := cSn v1 m.out :: [blkC b1 [.int .i64 m.addr, .int .i64 m.poll, .int .i64 m.parent, sv xt m.table.length, sv xl m.links.length, sv V.ou n.out.length, sv V.ch n.children.length, sv V.bo n.boxes.length, sv V.se n.seen.length, sv V.pa V.ps.length, sv V.ib n.inbox.length, .int .i64 n.seq, .int .i64 n.lost] 31, rsC b2, groupC Gt]) (Ent.own0 (Nat.zero_add _) (List.nil_append _)) ?_
 refine HL.shape 0 I fun a3 c3 hv => ?_
 subst hv
 refine HL.ent (H' := [blkC b1 [.int .i64 m.addr, .int .i64 m.poll, .int .i64 m.parent, sv xt m.table.length, sv xl m.links.length, sv V.ou n.out.length, sv V.ch n.children.length, sv V.bo n.boxes.length, sv V.se n.seen.length, sv V.pa V.ps.length, sv V.ib n.inbox.length, .int .i64 n.seq, .int .i64 n.lost] 31, rsC b2, groupC Gt, cSn (.slice a3 m.out.length c3) m.out]) (Ent.pick [1, 2, 3, 0] I I) ?_
 repeat' (first | refine zh ?_ | refine HL.bslice0 elemMa I ?_ | intro (bk : Nat))
 intro v0
 repeat' (first | refine zh ?_ | intro (bk : Nat))
 refine HL.setV 60 (v' := .int .i64 ((min n.boxes.length 16 : Nat) : Int)) I (by rw [← min_i]; rfl) ?_
 repeat' (first | refine zh ?_ | refine HL.subI (sz := 10) 0 (min n.boxes.length 16) (Rd.arg h.bo) I I I I (.inl ⟨rfl, rfl⟩) (.inr ⟨_, _, _, rfl, rfl, rfl⟩) (Nat.zero_le _) (Nat.min_le_left _ _) ?_ | intro (bk : Nat))
 refine HL.appR 0 I elemMa (Rd.arg s_bo) I I I (cellsOf_len maC_len _) (one_allcells maC_one _) (by omega) (by omega) ?_
 intro v1
 refine HL.ent (H' := cMa v1 m.boxes :: [blkC b1 [.int .i64 m.addr, .int .i64 m.poll, .int .i64 m.parent, sv xt m.table.length, sv xl m.links.length, .slice a3 m.out.length c3, sv V.ch n.children.length, sv V.bo n.boxes.length, sv V.se n.seen.length, sv V.pa V.ps.length, sv V.ib n.inbox.length, .int .i64 n.seq, .int .i64 n.lost] 31, rsC b2, groupC Gt, cSn (.slice a3 m.out.length c3) m.out]) (Ent.own0 (Nat.zero_add _) (List.nil_append _)) ?_
 refine HL.shape 0 I fun a5 c5 hv => ?_
 subst hv
 refine HL.ent (H' := [blkC b1 [.int .i64 m.addr, .int .i64 m.poll, .int .i64 m.parent, sv xt m.table.length, sv xl m.links.length, .slice a3 m.out.length c3, sv V.ch n.children.length, sv V.bo n.boxes.length, sv V.se n.seen.length, sv V.pa V.ps.length, sv V.ib n.inbox.length, .int .i64 n.seq, .int .i64 n.lost] 31, rsC b2, groupC Gt, cSn (.slice a3 m.out.length c3) m.out, cMa (.slice a5 m.boxes.length c5) m.boxes]) (Ent.pick [1, 2, 3, 4, 0] I I) ?_
 repeat' (first | refine zh ?_ | intro (bk : Nat))
 refine HR.nilC 3 1 ?_
 obtain ⟨g, hg⟩ : ∃ g : Nat → List Int, g = fun k => ((n.children.take k).filter fun c => Tp.okN c && !(c == m.addr)).foldl child [] := ⟨_, rfl⟩
 have hga : ∀ k, Asc id (g k) := fun k => by rw [hg]; exact (childs_asc (l := (n.children.take k).filter fun c => Tp.okN c && !(c == m.addr)) (acc := []) List.Pairwise.nil).1
 have hgl : ∀ k, (g k).length ≤ 1000 := fun k => Nat.le_trans (asc_bound (hga k) fun x hx => by
  rw [hg] at hx
  have hx := ((childs_asc (l := (n.children.take k).filter fun c => Tp.okN c && !(c == m.addr)) (acc := []) List.Pairwise.nil).2 x).1 hx
  rcases hx with hx | hx
  ·have := (List.mem_filter.1 hx).2
   simp only [Bool.and_eq_true] at this
   exact this.1
  ·cases hx) (by decide)
 refine HR.loop (ι := Nat × Value) (fun x => x.1 ≤ n.children.length) (fun x => [(1, ptr b1), (2, ptr b2), (3, x.2), (4, .int .i64 (x.1 : Int))]) (fun x => [cI x.2 (g x.1), blkC b1 [.int .i64 m.addr, .int .i64 m.poll, .int .i64 m.parent, sv xt m.table.length, sv xl m.links.length, .slice a3 m.out.length c3, sv V.ch n.children.length, .slice a5 m.boxes.length c5, sv V.se n.seen.length, sv V.pa V.ps.length, sv V.ib n.inbox.length, .int .i64 n.seq, .int .i64 n.lost] 31, rsC b2, groupC Gt, cSn (.slice a3 m.out.length c3) m.out, cMa (.slice a5 m.boxes.length c5) m.boxes]) (fun x => n.children.length - x.1) (0, .slice none 0 0) (Nat.zero_le _) ⟨I, I, I, I, trivial⟩ (by rw [hg]; exact Ent.refl) ?_
 rintro ⟨k, v⟩ hk ih
 have hk : k ≤ n.children.length := hk
 repeat' (first | refine zh ?_ | intro (bk : Nat))
 refine HR.cond I (fun h2 => ?_) (fun h2 => ?_)
 ·have hlt : k < n.children.length := by have := of_decide_eq_true h2; omega
  obtain ⟨c, hc⟩ := getSome hlt
  have hgs := fold_step (fun c => Tp.okN c && !(c == m.addr)) hc
  have hgs : g (k + 1) = if (Tp.okN c && !(c == m.addr)) = true then child (g k) c else g k := by rw [hg]; exact hgs
  repeat' (first | refine zh ?_ | intro (bk : Nat))
  refine HR.join (ι := Unit) (fun _ => True) (fun _ => [(1, ptr b1), (2, ptr b2), (3, v), (4, .int .i64 (k : Int)), (86, .bool (Tp.okN c && !(c == m.addr)))]) (fun _ => [cI v (g k), blkC b1 [.int .i64 m.addr, .int .i64 m.poll, .int .i64 m.parent, sv xt m.table.length, sv xl m.links.length, .slice a3 m.out.length c3, sv V.ch n.children.length, .slice a5 m.boxes.length c5, sv V.se n.seen.length, sv V.pa V.ps.length, sv V.ib n.inbox.length, .int .i64 n.seq, .int .i64 n.lost] 31, rsC b2, groupC Gt, cSn (.slice a3 m.out.length c3) m.out, cMa (.slice a5 m.boxes.length c5) m.boxes]) (fun _ _ => ?_) (fun hj => ?_)
  rotate_left
  ·refine HR.regionD [(0, true), (1, true), (2, true), (3, true), (4, true), (5, false), (6, true), (7, true), (8, true), (9, true), (10, true), (11, true), (12, true), (13, true), (14, true), (15, true)] [1] I I hmix (by kernel_rfl) ?_
   repeat' (first | refine zd ?_ | refine HD.idxR (Rd.arg h.ch) elemI k I I I I I hlt ?_ | refine HD.loadI (Rd.arg h.ch) I I I I I (cellsOf_get1 hc) ?_)
   refine HD.one I ?_
   refine HL.callB fn45 I I (fun w _ => address_any c w) ?_
   refine HL.back [1] I I ?_
   repeat' (first | refine zd ?_ | fail)
   refine HD.split 77 I (fun hb => ?_) (fun hb => ?_)
   ·repeat' (first | refine zd ?_ | refine HD.idxR (Rd.arg h.ch) elemI k I I I I I hlt ?_ | refine HD.loadI (Rd.arg h.ch) I I I I I (cellsOf_get1 hc) ?_)
    refine HD.nil ?_
    refine hj () _ _ trivial ⟨rfl, rfl, rfl, rfl, ?_, trivial⟩ Ent.refl
    show some (Value.bool (!(c == m.addr))) = some (Value.bool (Tp.okN c && !(c == m.addr)))
    rw [show Tp.okN c = true from hb]; rfl
   ·repeat' (first | refine zd ?_ | fail)
    refine HD.nil ?_
    refine hj () _ _ trivial ⟨rfl, rfl, rfl, rfl, ?_, trivial⟩ Ent.refl
    show some (Value.bool false) = some (Value.bool (Tp.okN c && !(c == m.addr)))
    rw [show Tp.okN c = false from hb]; rfl
  refine HR.cond I (fun h3 => ?_) (fun h3 => ?_)
  ·have h3 : (Tp.okN c && !(c == m.addr)) = true := h3
   rw [if_pos h3] at hgs
   repeat' (first | refine zh ?_ | refine HL.idxR (Rd.arg h.ch) elemI k I I I I hlt ?_ | refine HL.loadI (Rd.arg h.ch) I I I I (cellsOf_get1 hc) ?_ | intro (bk : Nat))
   refine HL.callW (r := fun r : Value => r) (Q := fun _ => True) (G0 := [cI v (g k)]) (H0 := [blkC b1 [.int .i64 m.addr, .int .i64 m.poll, .int .i64 m.parent, sv xt m.table.length, sv xl m.links.length, .slice a3 m.out.length c3, sv V.ch n.children.length, .slice a5 m.boxes.length c5, sv V.se n.seen.length, sv V.pa V.ps.length, sv V.ib n.inbox.length, .int .i64 n.seq, .int .i64 n.lost] 31, rsC b2, groupC Gt, cSn (.slice a3 m.out.length c3) m.out, cMa (.slice a5 m.boxes.length c5) m.boxes]) (G := fun r => [cI r (child (g k) c)]) fn67 I I I (fun w1 hw1 => rchild_any (g k) c v _ w1 (hw1.pick [0] I I) (hgl k) (hga k)) ?_
   intro r _
   repeat' (first | refine zh ?_ | intro (bk : Nat))
   refine ih (k + 1, r) _ _ hlt (by show n.children.length - (k + 1) < n.children.length - k; omega) ⟨I, I, I, I, trivial⟩ ?_
   show Ent _ _ [cI r (g (k + 1)), blkC b1 [.int .i64 m.addr, .int .i64 m.poll, .int .i64 m.parent, sv xt m.table.length, sv xl m.links.length, .slice a3 m.out.length c3, sv V.ch n.children.length, .slice a5 m.boxes.length c5, sv V.se n.seen.length, sv V.pa V.ps.length, sv V.ib n.inbox.length, .int .i64 n.seq, .int .i64 n.lost] 31, rsC b2, groupC Gt, cSn (.slice a3 m.out.length c3) m.out, cMa (.slice a5 m.boxes.length c5) m.boxes]
   rw [hgs]
   exact Ent.refl
  ·have h3 : (Tp.okN c && !(c == m.addr)) = false := h3
   rw [if_neg (by rw [h3]; decide)] at hgs
   repeat' (first | refine zh ?_ | intro (bk : Nat))
   refine ih (k + 1, v) _ _ hlt (by show n.children.length - (k + 1) < n.children.length - k; omega) ⟨I, I, I, I, trivial⟩ ?_
   show Ent _ _ [cI v (g (k + 1)), blkC b1 [.int .i64 m.addr, .int .i64 m.poll, .int .i64 m.parent, sv xt m.table.length, sv xl m.links.length, .slice a3 m.out.length c3, sv V.ch n.children.length, .slice a5 m.boxes.length c5, sv V.se n.seen.length, sv V.pa V.ps.length, sv V.ib n.inbox.length, .int .i64 n.seq, .int .i64 n.lost] 31, rsC b2, groupC Gt, cSn (.slice a3 m.out.length c3) m.out, cMa (.slice a5 m.boxes.length c5) m.boxes]
   rw [hgs]
   exact Ent.refl
 have hke : k = n.children.length := by have := of_decide_eq_false h2; omega
 subst hke
 have hgm : g n.children.length = m.children := by rw [e_ch, hg]; show ((n.children.take n.children.length).filter _).foldl child [] = _; rw [List.take_length]
 refine HR.ent (H' := [cI v m.children, blkC b1 [.int .i64 m.addr, .int .i64 m.poll, .int .i64 m.parent, sv xt m.table.length, sv xl m.links.length, .slice a3 m.out.length c3, sv V.ch n.children.length, .slice a5 m.boxes.length c5, sv V.se n.seen.length, sv V.pa V.ps.length, sv V.ib n.inbox.length, .int .i64 n.seq, .int .i64 n.lost] 31, rsC b2, groupC Gt, cSn (.slice a3 m.out.length c3) m.out, cMa (.slice a5 m.boxes.length c5) m.boxes]) (Ent.of_eq (by rw [← hgm])) ?_
 repeat' (first | refine zh ?_ | intro (bk : Nat))
 refine HL.shape 0 I fun a4 c4 hv => ?_
 subst hv
 refine HL.ent (H' := [blkC b1 [.int .i64 m.addr, .int .i64 m.poll, .int .i64 m.parent, sv xt m.table.length, sv xl m.links.length, .slice a3 m.out.length c3, sv V.ch n.children.length, .slice a5 m.boxes.length c5, sv V.se n.seen.length, sv V.pa V.ps.length, sv V.ib n.inbox.length, .int .i64 n.seq, .int .i64 n.lost] 31, rsC b2, groupC Gt, cSn (.slice a3 m.out.length c3) m.out, cMa (.slice a5 m.boxes.length c5) m.boxes, cI (.slice a4 m.children.length c4) m.children]) (Ent.pick [1, 2, 3, 4, 5, 0] I I) ?_
 repeat' (first | refine zh ?_ | refine HL.bslice0 elemPr I ?_ | intro (bk : Nat))
 intro v0
 repeat' (first | refine zh ?_ | intro (bk : Nat))
 refine HL.setV 103 (v' := .int .i64 ((n.seen.length - 32 : Nat) : Int)) I (by rw [← max0]) ?_
 repeat' (first | refine zh ?_ | refine HL.subI (sz := 2) (n.seen.length - 32) n.seen.length (Rd.arg h.se) I I I I (.inr ⟨_, _, _, rfl, rfl, rfl⟩) (.inl ⟨rfl, rfl⟩) (Nat.sub_le _ _) (Nat.le_refl _) ?_ | intro (bk : Nat))
 refine HL.appR 0 I elemPr (Rd.arg s_se) I I I (cellsOf_len prC_len _) (one_allcells prC_one _) (by omega) (by omega) ?_
 intro v1
 refine HL.ent (H' := cPr v1 m.seen :: [blkC b1 [.int .i64 m.addr, .int .i64 m.poll, .int .i64 m.parent, sv xt m.table.length, sv xl m.links.length, .slice a3 m.out.length c3, .slice a4 m.children.length c4, .slice a5 m.boxes.length c5, sv V.se n.seen.length, sv V.pa V.ps.length, sv V.ib n.inbox.length, .int .i64 n.seq, .int .i64 n.lost] 31, rsC b2, groupC Gt, cSn (.slice a3 m.out.length c3) m.out, cMa (.slice a5 m.boxes.length c5) m.boxes, cI (.slice a4 m.children.length c4) m.children]) (Ent.own0 (Nat.zero_add _) (List.nil_append _)) ?_
 refine HL.shape 0 I fun a6 c6 hv => ?_
 subst hv
 refine HL.ent (H' := [blkC b1 [.int .i64 m.addr, .int .i64 m.poll, .int .i64 m.parent, sv xt m.table.length, sv xl m.links.length, .slice a3 m.out.length c3, .slice a4 m.children.length c4, .slice a5 m.boxes.length c5, sv V.se n.seen.length, sv V.pa V.ps.length, sv V.ib n.inbox.length, .int .i64 n.seq, .int .i64 n.lost] 31, rsC b2, groupC Gt, cSn (.slice a3 m.out.length c3) m.out, cMa (.slice a5 m.boxes.length c5) m.boxes, cI (.slice a4 m.children.length c4) m.children, cPr (.slice a6 m.seen.length c6) m.seen]) (Ent.pick [1, 2, 3, 4, 5, 6, 0] I I) ?_
 repeat' (first | refine zh ?_ | refine HL.bslice0 elemDe I ?_ | intro (bk : Nat))
 intro v0
 repeat' (first | refine zh ?_ | intro (bk : Nat))
 refine HL.setV 113 (v' := .int .i64 ((min n.inbox.length 256 : Nat) : Int)) I (by rw [← min_i]; rfl) ?_
 repeat' (first | refine zh ?_ | refine HL.subI (sz := 2) 0 (min n.inbox.length 256) (Rd.arg h.ib) I I I I (.inl ⟨rfl, rfl⟩) (.inr ⟨_, _, _, rfl, rfl, rfl⟩) (Nat.zero_le _) (Nat.min_le_left _ _) ?_ | intro (bk : Nat))
 refine HL.appR 0 I elemDe (Rd.arg s_ib) I I I (cellsOf_len deC_len _) (one_allcells deC_one _) (by omega) (by omega) ?_
 intro v1
 refine HL.ent (H' := cDe v1 m.inbox :: [blkC b1 [.int .i64 m.addr, .int .i64 m.poll, .int .i64 m.parent, sv xt m.table.length, sv xl m.links.length, .slice a3 m.out.length c3, .slice a4 m.children.length c4, .slice a5 m.boxes.length c5, .slice a6 m.seen.length c6, sv V.pa V.ps.length, sv V.ib n.inbox.length, .int .i64 n.seq, .int .i64 n.lost] 31, rsC b2, groupC Gt, cSn (.slice a3 m.out.length c3) m.out, cMa (.slice a5 m.boxes.length c5) m.boxes, cI (.slice a4 m.children.length c4) m.children, cPr (.slice a6 m.seen.length c6) m.seen]) (Ent.own0 (Nat.zero_add _) (List.nil_append _)) ?_
 refine HL.shape 0 I fun a7 c7 hv => ?_
 subst hv
 refine HL.ent (H' := [blkC b1 [.int .i64 m.addr, .int .i64 m.poll, .int .i64 m.parent, sv xt m.table.length, sv xl m.links.length, .slice a3 m.out.length c3, .slice a4 m.children.length c4, .slice a5 m.boxes.length c5, .slice a6 m.seen.length c6, sv V.pa V.ps.length, sv V.ib n.inbox.length, .int .i64 n.seq, .int .i64 n.lost] 31, rsC b2, groupC Gt, cSn (.slice a3 m.out.length c3) m.out, cMa (.slice a5 m.boxes.length c5) m.boxes, cI (.slice a4 m.children.length c4) m.children, cPr (.slice a6 m.seen.length c6) m.seen, cDe (.slice a7 m.inbox.length c7) m.inbox]) (Ent.pick [1, 2, 3, 4, 5, 6, 7, 0] I I) ?_
 repeat' (first | refine zh ?_ | apply zb ?_ ?_ | exact zc | (refine zi fun hb => ?_; try simp at hb) | intro (bk : Nat))
 refine HR.join (ι := Unit) (fun _ => True) (fun _ => [(1, ptr b1), (2, ptr b2)]) (fun _ => [blkC b1 [.int .i64 m.addr, .int .i64 m.poll, .int .i64 m.parent, sv xt m.table.length, sv xl m.links.length, .slice a3 m.out.length c3, .slice a4 m.children.length c4, .slice a5 m.boxes.length c5, .slice a6 m.seen.length c6, sv V.pa V.ps.length, .slice a7 m.inbox.length c7, .int .i64 m.seq, .int .i64 n.lost] 31, rsC b2, groupC Gt, cSn (.slice a3 m.out.length c3) m.out, cMa (.slice a5 m.boxes.length c5) m.boxes, cI (.slice a4 m.children.length c4) m.children, cPr (.slice a6 m.seen.length c6) m.seen, cDe (.slice a7 m.inbox.length c7) m.inbox]) (fun _ _ => ?_) (fun hj => ?_)
 rotate_left
 ·refine HR.cond I (fun h2 => ?_) (fun h2 => ?_)
  ·have h2 : (decide (n.seq < 0) || decide (n.seq > 65535)) = true := h2
   have h3 : n.seq < 0 ∨ n.seq > 65535 := by simpa using h2
   refine HR.region ?_
   repeat' (first | refine zn ?_ | apply zb ?_ ?_ | exact zc | (refine zi fun hb => ?_; try simp at hb) | intro (bk : Nat))
   refine hj () _ _ trivial ⟨I, I, trivial⟩ (Ent.of_eq ?_)
   rw [e_sq, if_pos h3]; rfl
  ·have h2 : (decide (n.seq < 0) || decide (n.seq > 65535)) = false := h2
   have h3 : ¬ (n.seq < 0 ∨ n.seq > 65535) := by simpa using h2
   refine HR.skip ?_
   refine hj () _ _ trivial ⟨I, I, trivial⟩ (Ent.of_eq ?_)
   rw [e_sq, if_neg h3]; rfl
 repeat' (first | refine zh ?_ | refine HL.callB fn63 I I (fun w _ => rclamp_any n.lost 0 1099511627776 (by decide) w) ?_ | intro (bk : Nat))
 refine HR.ret Tryz.func20 I [_] (fun w hw => ⟨⟨_, rfl, loadVarR hw 1 I I I I rfl⟩, trivial⟩) ?_
 refine fun w' hw => ⟨(⟨xt, xl, (a3, c3), (a4, c4), (a5, c5), (a6, c6), V.pa, (a7, c7), V.ps⟩, Gt), ?_, ⟨rfl, rfl, ht, hli⟩, hw.pick [2, 3, 4, 5, 6, 7] I rfl⟩
 show _ = Ending.returned (.agg ⟨ndC ⟨xt, xl, (a3, c3), (a4, c4), (a5, c5), (a6, c6), V.pa, (a7, c7), V.ps⟩ m⟩)
 rw [show ndC ⟨xt, xl, (a3, c3), (a4, c4), (a5, c5), (a6, c6), V.pa, (a7, c7), V.ps⟩ m = ndC ⟨xt, xl, (a3, c3), (a4, c4), (a5, c5), (a6, c6), V.pa, (a7, c7), V.ps⟩ { m with lost := clamp n.lost 0 1099511627776 } from by rw [← e_lo]]
 rfl
end Go.Proofs.YtgdgclmkpoaagaaGreat
namespace Go.Proofs.YtgdgclmkpoaagaaGreat
open Go.GX Go.RowKit
attribute [local irreducible] Calls Run RunL RunQ RunD HR HL HD blkC ownC Rd
open Nd
abbrev Imp (V0 : NV) (n0 : Nd) (V : NV) (G : List Chunk) (n : Nd) : Prop := ∀ w2, OkN w2 V0 n0 → (groupC G).p w2 → OkN w2 V n
theorem ROk.okn {V V' : NV} {n m : Nd} {Gt : List Chunk} (hr : ROk V n V' Gt m) (hp : m.parts = n.parts) : Imp V n V' (roH V' Gt m) m := by
 intro w2 h2 hg
 refine ⟨hr.ta w2 h2.ta (groupC_mem hg (List.mem_cons_self ..)), hr.li w2 h2.li, ownC_sl (groupC_mem hg (c := cSn (sv V'.ou m.out.length) m.out) (by simp)), ownC_sl (groupC_mem hg (c := cI (sv V'.ch m.children.length) m.children) (by simp)), ownC_sl (groupC_mem hg (c := cMa (sv V'.bo m.boxes.length) m.boxes) (by simp)), ownC_sl (groupC_mem hg (c := cPr (sv V'.se m.seen.length) m.seen) (by simp)), ?_, ownC_sl (groupC_mem hg (c := cDe (sv V'.ib m.inbox.length) m.inbox) (by simp)), ?_⟩
 ·rw [hr.pa, hr.ps]; exact h2.pa
 ·rw [hr.ps, hp]; exact h2.eq
end Go.Proofs.YtgdgclmkpoaagaaGreat
namespace Go.Proofs.YtgdgclmkpoaagaaGreat
open Go.GX Go.RowKit
attribute [local irreducible] Calls Run RunL RunQ RunD HR HL HD blkC ownC Rd
open Nd
theorem ptake_any (V : NV) (n : Nd) (w : World) (h : OkN w V n) (hs : SmN n) :
  Calls Tryz.prog 23 #[.agg ⟨ndC V n⟩] w fun e w' => ∃ x : (NV × SV) × List Chunk, e = .returned (.tuple ⟨[.agg ⟨ndC x.1.1 (take n).1⟩, sv x.1.2 (take n).2.length]⟩) ∧ (Own x.1.1 x.2 (take n).1 ∧ ∀ w2, (groupC x.2).p w2 → Sl w2 (sv x.1.2 (take n).2.length) (cellsOf deC (take n).2) (take n).2.length) ∧ Sat (base w) [groupC x.2] w' :=
 (stake_any V n w h hs).mono fun e w' ⟨⟨V', y⟩, h1, h2, h3⟩ => ⟨((V', y), [groupC (ndH V' (take n).1), cDe (sv y (take n).2.length) (take n).2]), h1,
  ⟨fun w2 hg => h2.own w2 (groupC_mem hg (List.mem_cons_self ..)), fun w2 hg => ownC_sl (groupC_mem hg (c := cDe (sv y (take n).2.length) (take n).2) (by simp))⟩, by
   have e1 : Ent (base w) (cDe (sv y (take n).2.length) (take n).2 :: ndH V' (take n).1) (ndH V' (take n).1 ++ [cDe (sv y (take n).2.length) (take n).2]) := Ent.pick [1, 2, 3, 4, 5, 6, 7, 8, 9, 0] I I
   exact sat_grp (Ent.group (G := ndH V' (take n).1) (H := [cDe (sv y (take n).2.length) (take n).2]) w' (e1 w' h3))⟩
theorem presult_any (V : NV) (n : Nd) (f : Fr) (ok : Bool) (w : World) (h : OkN w V n) (hs : SmN n) :
  Calls Tryz.prog 30 #[.agg ⟨ndC V n⟩, .agg ⟨frC f⟩, .bool ok] w fun e w' => ∃ x : NV × List Chunk, e = .returned (.agg ⟨ndC x.1 (result n f ok)⟩) ∧ Own x.1 x.2 (result n f ok) ∧ Sat (base w) [groupC x.2] w' :=
 (sresult_any V n f ok w h hs).mono fun e w' ⟨V', h1, h2, h3⟩ => ⟨(V', ndH V' _), h1, h2.own, sat_grp h3⟩
theorem ptick_any (V : NV) (n : Nd) (now : Int) (w : World) (h : OkN w V n) (hs : SmN n) (hf : ∀ s ∈ n.out, fits .i64 s.wt) :
  Calls Tryz.prog 33 #[.agg ⟨ndC V n⟩, .int .i64 now] w fun e w' => ∃ x : NV × List Chunk, e = .returned (.agg ⟨ndC x.1 (tickN n now)⟩) ∧ Own x.1 x.2 (tickN n now) ∧ Sat (base w) [groupC x.2] w' :=
 (stick_any V n now w h hs hf).mono fun e w' ⟨V', h1, h2, h3⟩ => ⟨(V', ndH V' _), h1, h2.own, sat_grp h3⟩
theorem pvalid_smp {p : Pt} (h : pvalid p = true) : SmPt p := by
 have H := phead_is (pvalid_head h)
 have h1 := H.hv
 have h2 := H.da
 have h3 := H.ct1
 exact ⟨by omega, by omega, fun s hs => by have := pvalid_sm h s hs; omega⟩
theorem porder_sm (l : List Pt) : ∀ p ∈ porder l, SmPt p := fun p hp => pvalid_smp (porder_valid p hp)
theorem pexp_sm (l : List Pt) (now life : Int) : PtSm (pexp l now life) :=
 ⟨Nat.le_trans (Nat.le_trans (List.length_filter_le _ _) (porder_len l)) (by decide), fun p hp => porder_sm l p (List.mem_filter.1 hp).1⟩
theorem pdrop_mem {l : List Pt} {s id c : Int} {p : Pt} (h : p ∈ (pdrop l s id c).1) : p ∈ l := by
 unfold pdrop at h
 split at h
 ·split at h
  ·exact h
  ·exact List.mem_of_mem_eraseIdx h
 ·exact h
theorem pmark_sm {p : Pt} {i : Nat} {d : By} (h : SmPt p) (hd : d.length ≤ 1000) : SmPt (pmark p i d) := by
 unfold pmark
 split
 ·exact h
 ·refine ⟨?_, ?_, fun s hs => ?_⟩
  ·show (p.hv.set i true).length ≤ 1000
   rw [List.length_set]; exact h.1
  ·show (p.da.set i d).length ≤ 1000
   rw [List.length_set]; exact h.2.1
  ·rcases List.mem_or_eq_of_mem_set hs with hs | rfl
   ·exact h.2.2 s hs
   ·omega
theorem padd_sm {l : List Pt} {s now : Int} {x : By} (hx : x.length ≤ 1000) (he : (padd l s now x).e = 0) : PtSm (padd l s now x).l := by
 unfold padd at he ⊢
 split
 ·exact ⟨Nat.zero_le _, fun p hp => by cases hp⟩
 ·rename_i hc
  have hc : pchk x = 0 := Decidable.not_not.1 hc
  obtain ⟨c1, c2, c3, c4, c5, c6, c7, c8⟩ := pchk_spec hc
  have ho8 := porder_len l
  split
  ·exact ⟨Nat.le_trans (pdrop_len ho8 s (b8 x 0) 1) (by decide), fun p hp => porder_sm l p (pdrop_mem hp)⟩
  ·rename_i h1
   have hd8 := pdrop_len ho8 s (b8 x 0) (b8 x 2)
   have hm : ∀ p ∈ (pdrop (porder l) s (b8 x 0) (b8 x 2)).1, SmPt p := fun p hp => porder_sm l p (pdrop_mem hp)
   have hnew : (∀ p ∈ (pnew (pdrop (porder l) s (b8 x 0) (b8 x 2)) s (b8 x 0) (b8 x 2) now).1, SmPt p) ∧ (pnew (pdrop (porder l) s (b8 x 0) (b8 x 2)) s (b8 x 0) (b8 x 2) now).1.length ≤ 8 := by
    unfold pnew
    split
    ·exact ⟨hm, hd8⟩
    ·have hr := proom_len hd8
     refine ⟨fun p hp => ?_, by rw [List.length_append]; simp; omega⟩
     rcases List.mem_append.1 hp with hp | hp
     ·unfold proom at hp
      split at hp
      ·exact hm p (List.mem_of_mem_eraseIdx hp)
      ·exact hm p hp
     ·rw [List.mem_singleton.1 hp]
      refine ⟨?_, ?_, fun s hs => ?_⟩
      ·show (List.replicate (b8 x 2).toNat false).length ≤ 1000
       rw [List.length_replicate]; omega
      ·show (List.replicate (b8 x 2).toNat ([] : By)).length ≤ 1000
       rw [List.length_replicate]; omega
      ·have hs : s ∈ List.replicate (b8 x 2).toNat ([] : By) := hs
       rw [(List.mem_replicate.1 hs).2]; simp
   generalize pnew (pdrop (porder l) s (b8 x 0) (b8 x 2)) s (b8 x 0) (b8 x 2) now = o at hnew ⊢
   obtain ⟨n1, n2⟩ := hnew
   have hz : SmPt pz := ⟨by decide, by decide, fun s hs => by cases hs⟩
   have hg : SmPt (o.1.getD o.2 pz) := by
    rw [List.getD_eq_getElem?_getD]
    cases hq : o.1[o.2]? with
    | none => exact hz
    | some q => exact n1 q (List.mem_of_getElem? hq)
   have hdl : (x.drop 3).length ≤ 1000 := by rw [List.length_drop]; omega
   unfold pput
   split
   ·exact ⟨Nat.le_trans (List.length_eraseIdx_le _ _) (by omega), fun p hp => n1 p (List.mem_of_mem_eraseIdx hp)⟩
   ·refine ⟨by rw [List.length_set]; omega, fun p hp => ?_⟩
    rcases List.mem_or_eq_of_mem_set hp with hp | rfl
    ·exact n1 p hp
    ·exact pmark_sm hg hdl
theorem sends_parts {target : Int} {ur : Bool} : ∀ {l : List By} {n m : Nd}, sends target ur l n = some m → m.parts = n.parts
 | [], n, m, e => by cases e; rfl
 | p :: l, n, m, e => by
  unfold sends at e
  split at e
  ·have := sends_parts e
   rw [this]; exact queue_parts n _
  ·cases e
theorem send_ptsm {n : Nd} {target : Int} {ur : Bool} {text : By} (h : PtSm n.parts) : PtSm (send n target ur text).1.parts := by
 have h0 : PtSm nd0.parts := ⟨by decide, fun p hp => by cases hp⟩
 unfold send
 simp only
 split
 ·exact h0
 ·split
  ·exact h0
  ·split
   ·rw [deliver_parts]; exact h
   ·split
    ·rename_i m hm; rw [sends_parts hm]; exact h
    ·exact h0
theorem talks_parts (now : Int) : ∀ (k : Nat) (n : Nd) (i : Nat), (talks now k n i).1.parts = n.parts
 | 0, n, i => rfl
 | k + 1, n, i => by
  unfold talks
  split
  ·rfl
  ·split
   ·exact talks_parts now k n _
   ·split
    ·rfl
    ·split
     ·rw [talks_parts now k]; exact box_parts _ _ _
     ·split
      ·rfl
      ·split
       ·rw [talks_parts now k]; rfl
       ·rw [talks_parts now k]
theorem talk_ptsm {n : Nd} {now : Int} (h : PtSm n.parts) : PtSm (talk n now).1.parts := by
 unfold talk; rw [talks_parts]; exact h
theorem result_ptsm {n : Nd} {f : Fr} {ok : Bool} (h : PtSm n.parts) : PtSm (result n f ok).parts := by
 unfold result
 simp only
 split
 ·exact h
 ·split
  ·rw [giveUp_parts]; split <;> exact h
  ·split <;> exact h
theorem tick_ptsm (n : Nd) (now : Int) : PtSm (tickN n now).parts := by
 have e : (tickN n now).parts = pexp (order n).parts (tick now) 120 := by
  have k1 : ∀ (c : Prop) [Decidable c] (a : Nd), (if c then Nd.beacon a else a).parts = a.parts := by intro c _ a; split; exact beacon_parts _; rfl
  have k2 : ∀ (c : Prop) [Decidable c] (a : Nd), (if c then Nd.poll a else a).parts = a.parts := by intro c _ a; split; exact poll_parts _; rfl
  unfold tickN
  simp only
  rw [k2, k1, asleep_parts]
 rw [e]; exact pexp_sm _ _ _
theorem hear_ptsm {n : Nd} {now : Int} {f : Fr} (h : PtSm n.parts) : PtSm (hear n now f).parts := by
 unfold hear
 simp only
 split
 ·exact h
 ·rename_i h1
  have hc : fchk f = 0 := Decidable.not_not.1 fun e => h1 (.inl e)
  have hl := (fchk_fr hc).2.2.2.2.2.2
  split
  ·rw [advertised_parts]; exact h
  ·split
   ·rw [polled_parts]; exact h
   ·split
    ·unfold received
     simp only
     split
     ·exact h
     ·split
      ·split
       ·exact h
       ·rename_i he
        have hp : PtSm (padd (order n).parts f.so (tick now) f.da).l := padd_sm (by omega) (Decidable.not_not.1 he)
        split
        ·rw [deliver_parts]; exact hp
        ·exact hp
      ·split
       ·exact h
       ·rw [queue_parts]; exact h
    ·exact h
end Go.Proofs.YtgdgclmkpoaagaaGreat
namespace Go.Proofs.YtgdgclmkpoaagaaGreat
open Go.GX Go.RowKit
attribute [local irreducible] Calls Run RunL RunQ RunD HR HL HD blkC ownC Rd
open Nd
abbrev leC (ta : Int) (ur : Bool) (te : By) : List Value := [.int .i64 ta, .bool ur, str te]
end Go.Proofs.YtgdgclmkpoaagaaGreat
namespace Go.Proofs.YtgdgclmkpoaagaaGreat
open Go.GX Go.RowKit
attribute [local irreducible] Calls Run RunL RunQ RunD HR HL HD blkC ownC Rd
open Nd
variable {H : Type} {enc : TypeId × Value → H} {W : World}
abbrev LeA := Int × Bool × By
abbrev leE (a : LeA) : List Value := leC a.1 a.2.1 a.2.2
theorem opT33 : Opens enc Tryz.prog W 33 leE (fun a => a.2.2.length ≤ 9223372036854775807) := by
 intro fuel cs x h
 obtain ⟨hl, hf⟩ := Opens.fields (fs := _) I h
 have cT : Tryz.prog.cellsOf 33 = 3 := by kernel_rfl
 have cf0 : Tryz.prog.cellsOf 3 = 1 := by kernel_rfl
 have cf1 : Tryz.prog.cellsOf 4 = 1 := by kernel_rfl
 have cf2 : Tryz.prog.cellsOf 9 = 1 := by kernel_rfl
 rw [cT] at hl
 obtain ⟨fu0, y0, h0⟩ := hf _ (List.mem_cons_self ..)
 obtain ⟨fu1, y1, h1⟩ := hf _ (List.mem_cons_of_mem _ (List.mem_cons_self ..))
 obtain ⟨fu2, y2, h2⟩ := hf _ (List.mem_cons_of_mem _ (List.mem_cons_of_mem _ (List.mem_cons_self ..)))
 obtain ⟨a0, g0, b0⟩ := Opens.int (k := .i64) I fu0 _ _ h0
 obtain ⟨a1, g1, b1⟩ := Opens.bool rfl fu1 _ _ h1
 obtain ⟨a2, g2, b2⟩ := Opens.str rfl fu2 _ _ h2
 have e0 := parts_eq g0 (m := 1) (by simp [cf0]) (by simp [cf0])
 have e1 := parts_eq g1 (m := 2) (by simp [cf1]) (by simp [cf1])
 have e2 := parts_eq g2 (m := 3) (by simp [cf2]) (by simp [cf2])
 refine ⟨(a0, a1, a2), ?_, b2⟩
 simp only [List.drop_zero] at e0
 rw [e0, e1, e2, List.drop_eq_nil_of_le (by omega)]; rfl
end Go.Proofs.YtgdgclmkpoaagaaGreat
namespace Go.Proofs.YtgdgclmkpoaagaaGreat
open Go.GX Go.RowKit
attribute [local irreducible] Calls Run RunL RunQ RunD HR HL HD blkC ownC Rd
open Nd
theorem any_take {α : Type} {p : α → Bool} {l : List α} {k : Nat} {x : α} (hx : l[k]? = some x) : (l.take (k + 1)).any p = ((l.take k).any p || p x) := by
 rw [take_succ_get hx, List.any_append]; simp
end Go.Proofs.YtgdgclmkpoaagaaGreat
