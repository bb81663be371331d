/- A part of the proof: contracts of the program's functions. Conditions: none. -/
import Derived.Carry
import Derived.Deep.MidRow
import Derived.Deep.Quiet
import Derived.Laws.IdiomRangeMap
import Derived.Laws.MakeOwn
import Derived.Laws.StructEq
import Derived.Laws.Tables
import Derived.Lib.AppendStr
import Derived.Lib.AppendZerosOnto
import Derived.Lib.OthersKept
import Derived.Lib.Overlaps
import Derived.Lib.OwnBridge
import Derived.Lib.SlicesCompact
import Derived.MapKept
import Derived.Orders
import Derived.OrdersHeld
import Derived.Scope
import Derived.Sort.Grow
import Derived.StillTail
import Derived.Test.YtgfdoognildoeaaGreatProg
import Derived.Test.YtgfdoognildoeaaGreatShelf
import Derived.WalkKit
import Derived.WalkLawsBesides
import Derived.WalkSpells
import Derived.Test.YtgfdoognildoeaaGreatMB1
import Derived.Test.YtgfdoognildoeaaGreatMB2
import Derived.Test.YtgfdoognildoeaaGreatMB3
import Derived.Test.YtgfdoognildoeaaGreatMB4
import Derived.Test.YtgfdoognildoeaaGreatMB5
import Derived.Test.YtgfdoognildoeaaGreatMB6
import Derived.Test.YtgfdoognildoeaaGreatMB7
import Derived.Test.YtgfdoognildoeaaGreatMB8
import Derived.Test.YtgfdoognildoeaaGreatMB9
set_option linter.unusedVariables false
set_option linter.unusedSectionVars false
set_option linter.unusedSimpArgs false
set_option maxRecDepth 100000
set_option maxHeartbeats 4000000
namespace Go.Proofs.YtgfdoognildoeaaGreat
open Go.GX Go.RowKit
attribute [local irreducible] Calls Run RunL RunQ RunD HR HL HD blkC ownC mapC Rd slicesC iterC
open Nd
theorem fn153 : IsFn Tryz.prog 153 := ⟨⟨_, _, Tryz.func153, rfl, by decide⟩⟩
theorem elemFr : Elem Tryz.prog 84 75 9 80 := ⟨rfl, ⟨_, _, rfl, rfl, rfl, rfl, rfl⟩, by decide⟩
theorem frC_len (a : Fr) : (frC a).length = 9 := rfl
theorem asl_step {l : List Sn} {k : Nat} {x : Sn} (hx : l[k]? = some x) :
  ((l.take (k + 1)).filter stale).map (·.f) = (if stale x = true then ((l.take k).filter stale).map (·.f) ++ [x.f] else ((l.take k).filter stale).map (·.f)) ∧ ((l.take (k + 1)).filter fun x => !stale x) = if stale x = true then (l.take k).filter (fun x => !stale x) else (l.take k).filter (fun x => !stale x) ++ [x] := by
 obtain ⟨hk, rfl⟩ := List.getElem?_eq_some_iff.1 hx
 rw [List.take_succ_eq_append_getElem hk, List.filter_append, List.filter_append]
 by_cases h : stale l[k] = true
 ·simp [h]
 ·simp [h]
theorem foldl_take {α β : Type} {g : β → α → β} {z : β} {l : List α} {k : Nat} {x : α} (hx : l[k]? = some x) : (l.take (k + 1)).foldl g z = g ((l.take k).foldl g z) x := by
 obtain ⟨hk, rfl⟩ := List.getElem?_eq_some_iff.1 hx
 rw [List.take_succ_eq_append_getElem hk, List.foldl_append]
 rfl
theorem sasleep_any (b : Nat) (V : NV) (n : Nd) (now : Int) (B : Base) (w : World) (hw : Sat B (stH b V n now) w) (ho : Ord n) :
  Calls Tryz.prog 153 #[ptr b] w fun e w' => ∃ x : SV × SV, e = .returned (.tuple ⟨[]⟩) ∧ True ∧ Sat ⟨w, feet (stH b V n now)⟩ (stH b { V with ou := x.1, bo := x.2 } (asleep n now) now) w' := by
 have h16 := ho.out
 obtain ⟨bk2, hbk2⟩ : ∃ g : Nat → List Fr, g = fun k => ((n.out.take k).filter stale).map (·.f) := ⟨_, rfl⟩
 obtain ⟨rs, hrs⟩ : ∃ g : Nat → List Sn, g = fun k => (n.out.take k).filter fun x => !stale x := ⟨_, rfl⟩
 have hbl : ∀ k, (bk2 k).length ≤ 16 := fun k => by
  rw [hbk2]; show ((((n.out.take k).filter stale).map (·.f))).length ≤ 16
  rw [List.length_map]
  exact Nat.le_trans (List.length_filter_le _ _) (by rw [List.length_take]; omega)
 have hrl : ∀ k, (rs k).length ≤ 16 := fun k => by
  rw [hrs]; exact Nat.le_trans (List.length_filter_le _ _) (by rw [List.length_take]; omega)
 refine calls_hrW (stH b V n now) (hw) Tryz.func153 I (Nat.le_of_ble_eq_true I) ?_
 refine HR.sub (σ' := [(0, ptr b)]) ⟨I, trivial⟩ ?_
 repeat' (first | refine zh ?_ | intro (bk : Nat))
 refine HR.nilC 75 9 ?_
 refine HR.nilC 131 11 ?_
 refine HR.loop (ι := Nat × Value × Value) (fun x => x.1 ≤ n.out.length) (fun x => [(0, ptr b), (2, x.2.1), (3, x.2.2), (12, sv V.ou n.out.length), (13, .int .i64 (n.out.length : Int)), (14, .int .i64 (x.1 : Int))]) (fun x => ownC x.2.1 131 11 (rs x.1).length (cellsOf snC (rs x.1)) :: ownC x.2.2 75 9 (bk2 x.1).length (cellsOf frC (bk2 x.1)) :: stH b V n now) (fun x => n.out.length - x.1) (0, .slice none 0 0, .slice none 0 0) (Nat.zero_le _) ⟨I, I, I, I, I, I, trivial⟩ (by rw [hbk2, hrs]; exact Ent.refl) ?_
 rintro ⟨k, u, v⟩ hk ih
 have hk : k ≤ n.out.length := hk
 repeat' (first | refine zh ?_ | intro (bk : Nat))
 refine HR.cond I (fun h2 => ?_) (fun h2 => ?_)
 ·have hlt : k < n.out.length := by have := of_decide_eq_true h2; omega
  obtain ⟨x, hx⟩ := getSome hlt
  have hb1 : (bk2 (k, u, v).fst).length ≤ 16 := hbl k
  have hr1 : (rs (k, u, v).fst).length ≤ 16 := hrl k
  obtain ⟨e1, e2⟩ := asl_step hx
  have e1 : bk2 (k + 1) = if stale x = true then bk2 k ++ [x.f] else bk2 k := by rw [hbk2]; exact e1
  have e2 : rs (k + 1) = if stale x = true then rs k else rs k ++ [x] := by rw [hrs]; exact e2
  repeat' (first | refine zh ?_ | refine HL.idxR (Rd.own 5 I) elemSn k I I I I hlt ?_ | refine HL.loadE (Rd.own 5 I) I I I I (by simp) I (cellsOf_get snC_len hx) ?_ | apply zb ?_ ?_ | exact zc | (refine zi fun hb => ?_; try simp at hb) | intro (bk : Nat))
  refine HR.cond I (fun h3 => ?_) (fun h3 => ?_)
  ·have h3 : stale x = true := h3
   rw [if_pos h3] at e1 e2
   repeat' (first | refine zh ?_ | intro (bk : Nat))
   refine HL.bslice elemFr I I I I I (by decide) (by decide) ?_
   intro va
   refine HL.appR 3 I elemFr (Rd.own 0 I) I I I I (allOne_spec I) (by omega) (by omega) ?_
   intro v2
   repeat' (first | refine zh ?_ | intro (bk : Nat))
   refine ih (k + 1, u, v2) _ _ hlt (by show n.out.length - (k + 1) < n.out.length - k; omega) ⟨I, I, I, I, I, I, trivial⟩ ?_
   show Ent _ _ (ownC u 131 11 (rs (k + 1)).length (cellsOf snC (rs (k + 1))) :: ownC v2 75 9 (bk2 (k + 1)).length (cellsOf frC (bk2 (k + 1))) :: stH b V n now)
   rw [e1, e2, List.length_append, cellsOf_app]
   exact Ent.pick [2, 3, 4, 5, 6, 7, 8, 9, 10, 11, 12, 13] I I
  ·have h3 : stale x = false := h3
   rw [if_neg (by rw [h3]; decide)] at e1 e2
   repeat' (first | refine zh ?_ | intro (bk : Nat))
   refine HL.bslice elemSn I I I I I (by decide) (by decide) ?_
   intro va
   refine HL.appR 2 I elemSn (Rd.own 0 I) I I I I (allOne_spec I) (by omega) (by omega) ?_
   intro v2
   repeat' (first | refine zh ?_ | intro (bk : Nat))
   refine ih (k + 1, v2, v) _ _ hlt (by show n.out.length - (k + 1) < n.out.length - k; omega) ⟨I, I, I, I, I, I, trivial⟩ ?_
   show Ent _ _ (ownC v2 131 11 (rs (k + 1)).length (cellsOf snC (rs (k + 1))) :: ownC v 75 9 (bk2 (k + 1)).length (cellsOf frC (bk2 (k + 1))) :: stH b V n now)
   rw [e1, e2, List.length_append, cellsOf_app]
   exact Ent.pick [2, 3, 4, 5, 6, 7, 8, 9, 10, 11, 12, 13] I I
 ·have hke : k = n.out.length := by have := of_decide_eq_false h2; omega
  subst hke
  have hL := hbl n.out.length
  have hR := hrl n.out.length
  obtain ⟨bl, hbe⟩ : ∃ bl, bl = bk2 n.out.length := ⟨_, rfl⟩
  obtain ⟨rl, hre⟩ : ∃ rl, rl = rs n.out.length := ⟨_, rfl⟩
  have hsp : asleep n now = bl.foldl (fun n f => box n f now) { n with out := rl } := by
   rw [hbe, hre, hbk2, hrs]; show _ = ((((n.out.take n.out.length).filter stale).map (·.f))).foldl _ { n with out := (n.out.take n.out.length).filter fun x => !stale x }
   rw [List.take_length]; rfl
  rw [hsp]
  refine HR.ent (H' := ownC u 131 11 rl.length (cellsOf snC rl) :: ownC v 75 9 bl.length (cellsOf frC bl) :: stH b V n now) (Ent.of_eq (by rw [hbe, hre])) ?_
  rw [← hbe] at hL
  rw [← hre] at hR
  repeat' (first | refine zh ?_ | intro (bk : Nat))
  refine HL.shape 0 I fun a c hv => ?_
  subst hv
  repeat' (first | refine zh ?_ | refine HL.lenR (Rd.own 1 I) I I I ?_ | intro (bk : Nat))
  have hm := ho.setOut hR
  obtain ⟨m, hmm⟩ : ∃ m : Nd, m = { n with out := rl } := ⟨_, rfl⟩
  refine HR.ent (H' := ownC v 75 9 bl.length (cellsOf frC bl) :: stH b { V with ou := (a, c) } { n with out := rl } now) (Ent.pick [1, 2, 3, 4, 0, 6, 7, 8, 9, 10, 11] I I) ?_
  rw [← hmm] at hm ⊢
  have hgo : ∀ k, Ord ((bl.take k).foldl (fun n f => box n f now) m) := fun k => (boxes_good now _ (Good.refl hm)).ord
  refine HR.loop (ι := Nat × SV) (fun x => x.1 ≤ bl.length) (fun x => [(0, ptr b), (48, v), (49, .int .i64 (bl.length : Int)), (50, .int .i64 (x.1 : Int))]) (fun x => ownC v 75 9 bl.length (cellsOf frC bl) :: stH b { V with ou := (a, c), bo := x.2 } ((bl.take x.1).foldl (fun n f => box n f now) m) now) (fun x => bl.length - x.1) (0, V.bo) (Nat.zero_le _) ⟨I, I, I, I, trivial⟩ Ent.refl ?_
  rintro ⟨k, y⟩ hk ih
  have hk : k ≤ bl.length := hk
  repeat' (first | refine zh ?_ | intro (bk : Nat))
  refine HR.cond I (fun h2 => ?_) (fun h2 => ?_)
  ·have hlt : k < bl.length := by have := of_decide_eq_true h2; omega
   obtain ⟨x, hx⟩ := getSome hlt
   repeat' (first | refine zh ?_ | refine HL.idxR (Rd.own 0 I) elemFr k I I I I hlt ?_ | refine HL.loadE (Rd.own 0 I) I I I I (by simp) I (cellsOf_get frC_len hx) ?_ | intro (bk : Nat))
   refine HL.ent (H' := stH b { V with ou := (a, c), bo := y } ((bl.take k).foldl (fun n f => box n f now) m) now ++ [ownC v 75 9 bl.length (cellsOf frC bl)]) (Ent.pick [2, 3, 4, 5, 6, 7, 8, 9, 10, 11, 1] I I) ?_
   refine HL.callW (r := fun _ : SV => .tuple ⟨[]⟩) (Q := fun _ => True) (G0 := stH b { V with ou := (a, c), bo := y } ((bl.take k).foldl (fun n f => box n f now) m) now) (H0 := [ownC v 75 9 bl.length (cellsOf frC bl)]) (G := fun z => stH b { V with ou := (a, c), bo := z } (box ((bl.take k).foldl (fun n f => box n f now) m) x now) now) fn158 I I I (fun w1 hw1 => sbox_any b { V with ou := (a, c), bo := y } _ now x _ w1 (hw1.pick [0, 1, 2, 3, 4, 5, 6, 7, 8, 9] I I) (hgo k)) ?_
   intro z _
   repeat' (first | refine zh ?_ | intro (bk : Nat))
   refine ih (k + 1, z) _ _ hlt (by show bl.length - (k + 1) < bl.length - k; omega) ⟨I, I, I, I, trivial⟩ ?_
   show Ent _ _ (ownC v 75 9 bl.length (cellsOf frC bl) :: stH b { V with ou := (a, c), bo := z } ((bl.take (k + 1)).foldl (fun n f => box n f now) m) now)
   rw [foldl_take hx]
   exact Ent.pick [10, 0, 1, 2, 3, 4, 5, 6, 7, 8, 9] I I
  ·have hke : k = bl.length := by have := of_decide_eq_false h2; omega
   subst hke
   repeat' (first | refine zh ?_ | intro (bk : Nat))
   refine HR.fin Tryz.func153 I [] (fun _ _ => trivial) ?_
   refine fun w' hw => ⟨((a, c), y), rfl, trivial, ?_⟩
   have w1 : Sat _ (ownC v 75 9 bl.length (cellsOf frC bl) :: stH b { V with ou := (a, c), bo := y } ((bl.take bl.length).foldl (fun n f => box n f now) m) now) w' := hw
   rw [List.take_length] at w1
   exact w1.pick [1, 2, 3, 4, 5, 6, 7, 8, 9, 10] I I
end Go.Proofs.YtgfdoognildoeaaGreat
namespace Go.Proofs.YtgfdoognildoeaaGreat
open Go.GX Go.RowKit
attribute [local irreducible] Calls Run RunL RunQ RunD HR HL HD blkC ownC mapC Rd slicesC iterC
open Nd
theorem fn132 : IsFn Tryz.prog 132 := ⟨⟨_, _, Tryz.func132, rfl, by decide⟩⟩
theorem fn167 : IsFn Tryz.prog 167 := ⟨⟨_, _, Tryz.func167, rfl, by decide⟩⟩
theorem fn168 : IsFn Tryz.prog 168 := ⟨⟨_, _, Tryz.func168, rfl, by decide⟩⟩
theorem fn92 : IsFn Tryz.prog 92 := ⟨⟨_, _, Tryz.func92, rfl, by decide⟩⟩
theorem fn170 : IsFn Tryz.prog 170 := ⟨⟨_, _, Tryz.func170, rfl, by decide⟩⟩
theorem fn271 : IsFn Tryz.prog 271 := ⟨⟨_, _, Tryz.func271, rfl, by decide⟩⟩
theorem fn218 : IsFn Tryz.prog 218 := ⟨⟨_, _, Tryz.func218, rfl, by decide⟩⟩
theorem lbad_range {l : List Li} {k : Nat} {x : Li} (hx : l[k]? = some x) (h : lrange x = true) : lbad l k = 2 := by unfold lbad; rw [hx]; simp only; rw [if_pos h]
theorem lbad_order {l : List Li} {k : Nat} {x y : Li} (hx : l[k]? = some x) (h : lrange x = false) (h0 : 0 < k) (hy : l[k - 1]? = some y) (hle : x.nd ≤ y.nd) : lbad l k = 14 := by
 unfold lbad; rw [hx]; simp only; rw [if_neg (by rw [h]; decide), if_pos ⟨h0, by rw [hy]; exact decide_eq_true hle⟩]
theorem lbad_ok {l : List Li} {k : Nat} {x : Li} (hx : l[k]? = some x) (h : lrange x = false) (h2 : ∀ y, 0 < k → l[k - 1]? = some y → ¬ x.nd ≤ y.nd) : lbad l k = 0 := by
 unfold lbad; rw [hx]; simp only
 rw [if_neg (by rw [h]; decide), if_neg]
 rintro ⟨h0, hh⟩
 cases hy : l[k - 1]? with
 | none => rw [hy] at hh; cases hh
 | some y => rw [hy] at hh; exact h2 y h0 hy (of_decide_eq_true hh)
theorem lchk_at {l : List Li} {k : Nat} (h : l.length ≤ 24) (h1 : firstE (lbad l) k = 0) (h2 : lbad l k ≠ 0) (hk : k < l.length) : lchk l = lbad l k := by
 unfold lchk; rw [if_neg (by omega), firstE_at h1 h2 hk]
theorem pow2_lt {c : Int} (h0 : 0 ≤ c) (h1 : c ≤ 16) : (2 : Int) ^ c.toNat ≤ 65536 := by
 have h2 : (2 : Nat) ^ c.toNat ≤ 2 ^ 16 := Nat.pow_le_pow_right (by decide) (by omega)
 have h3 : ((2 ^ c.toNat : Nat) : Int) = (2 : Int) ^ c.toNat := by rw [Int.natCast_pow]; rfl
 rw [← h3]
 exact Int.ofNat_le.2 h2
theorem shl1 {c : Int} (h0 : 0 ≤ c) (h1 : c ≤ 16) : IntKind.i64.wrap (1 * 2 ^ (min c.toNat IntKind.i64.bits)) = 2 ^ c.toNat := by
 have h2 := pow2_lt h0 h1
 have h3 : (0 : Int) ≤ 2 ^ c.toNat := Int.le_of_lt (Int.pow_pos (by decide))
 rw [show min c.toNat IntKind.i64.bits = c.toNat by simp only [IntKind.bits]; omega, Int.one_mul]
 exact wrap_fits (k := .i64) (by simp only [GX.fits]; omega)
theorem lcheck_any (l : List Li) (v : Value) (w : World) (hv : Sl w v (cellsOf liC l) l.length) (hl : l.length ≤ 1000) :
  Calls Tryz.prog 132 #[v] w fun e w' => e = .returned (.int .i64 (lchk l)) ∧ Below w.heap.size w w' := by
 refine calls_hr Tryz.func132 I (Nat.le_of_ble_eq_true I) ?_
 refine HR.sub (σ' := [(0, v)]) ⟨I, trivial⟩ ?_
 repeat' (first | refine zh ?_ | refine HL.lenR (Rd.arg hv) I I I ?_ | apply zb ?_ ?_ | exact zc | (refine zi fun hb => ?_; try simp at hb) | intro (bk : Nat))
 refine HR.cond I (fun h => ?_) (fun h => ?_)
 ·have h : l.length > 24 := by have := of_decide_eq_true h; omega
  repeat' (first | refine zh ?_ | apply zb ?_ ?_ | exact zc | (refine zi fun hb => ?_; try simp at hb) | intro (bk : Nat))
  refine HR.ret Tryz.func132 I [_] (fun _ _ => ⟨I, trivial⟩) ?_
  exact fun w' hw => ⟨by rw [lchk, if_pos h]; rfl, hw.belowB⟩
 have h : l.length ≤ 24 := by have := of_decide_eq_false h; omega
 repeat' (first | refine zh ?_ | refine HL.lenR (Rd.arg hv) I I I ?_ | apply zb ?_ ?_ | exact zc | (refine zi fun hb => ?_; try simp at hb) | intro (bk : Nat))
 refine HR.loop (ι := Nat) (fun k => k ≤ l.length ∧ firstE (lbad l) k = 0) (fun k => [(0, v), (8, v), (9, .int .i64 (l.length : Int)), (10, .int .i64 (k : Int))]) (fun _ => []) (fun k => l.length - k) 0 ⟨Nat.zero_le _, rfl⟩ ⟨I, I, I, I, trivial⟩ Ent.refl ?_
 rintro k ⟨hk, hg⟩ ih
 repeat' (first | refine zh ?_ | apply zb ?_ ?_ | exact zc | (refine zi fun hb => ?_; try simp at hb) | intro (bk : Nat))
 refine HR.cond I (fun h2 => ?_) (fun h2 => ?_)
 ·have hlt : k < l.length := by have := of_decide_eq_true h2; omega
  obtain ⟨x, hx⟩ := getSome hlt
  repeat' (first | refine zh ?_ | refine HL.idxR (Rd.arg hv) elemLi k I I I I hlt ?_ | refine HL.loadE (Rd.arg hv) I I I I (by simp) I (cellsOf_get liC_len hx) ?_ | intro (bk : Nat))
  refine HR.regionQ hmix (by kernel_rfl) ?_
  repeat' (first | refine zq ?_ | refine HQ.wI (2 ^ x.ct.toNat) I I I I (.inr I) (fun _ => by omega) (shl1 (by omega) (by omega)) ?_ | apply zb ?_ ?_ | exact zc | (refine zi fun hb => ?_; try simp at hb))
  refine HR.cond I (fun h3 => ?_) (fun h3 => ?_)
  ·have h3 : lrange x = true := h3
   repeat' (first | refine zh ?_ | apply zb ?_ ?_ | exact zc | (refine zi fun hb => ?_; try simp at hb) | intro (bk : Nat))
   refine HR.ret Tryz.func132 I [_] (fun _ _ => ⟨I, trivial⟩) ?_
   refine fun w' hw => ⟨?_, hw.belowB⟩
   have e := lbad_range hx h3
   rw [lchk_at h hg (by rw [e]; decide) hlt, e]; rfl
  have h3 : lrange x = false := h3
  obtain ⟨y, hy⟩ := getSome (l := l) (j := k - 1) (by omega)
  repeat' (first | refine zh ?_ | apply zb ?_ ?_ | exact zc | (refine zi fun hb => ?_; try simp at hb) | intro (bk : Nat))
  refine HR.regionQ hmix (by kernel_rfl) ?_
  repeat' (first | refine zq ?_ | refine HQ.idxR (Rd.arg hv) elemLi (k - 1) I I I (by omega) (by omega) ?_ | refine HQ.fieldE (Rd.arg hv) (by rw [cellsOf_len liC_len]; omega) I I I I I I ?_ | refine HQ.loadI (Rd.arg hv) I I I I (cells_get liC_len hy (i := 0) I) ?_ | apply zb ?_ ?_ | exact zc | (refine zi fun hb => ?_; try simp at hb))
  refine HR.cond I (fun h4 => ?_) (fun h4 => ?_)
  ·have h4 : (decide ((k : Int) > 0) && decide (x.nd ≤ y.nd)) = true := h4
   simp only [Bool.and_eq_true, decide_eq_true_eq] at h4
   repeat' (first | refine zh ?_ | apply zb ?_ ?_ | exact zc | (refine zi fun hb => ?_; try simp at hb) | intro (bk : Nat))
   refine HR.ret Tryz.func132 I [_] (fun _ _ => ⟨I, trivial⟩) ?_
   refine fun w' hw => ⟨?_, hw.belowB⟩
   have e := lbad_order hx h3 (by omega) hy h4.2
   rw [lchk_at h hg (by rw [e]; decide) hlt, e]; rfl
  ·have h4 : (decide ((k : Int) > 0) && decide (x.nd ≤ y.nd)) = false := h4
   repeat' (first | refine zh ?_ | apply zb ?_ ?_ | exact zc | (refine zi fun hb => ?_; try simp at hb) | intro (bk : Nat))
   refine ih (k + 1) _ _ ⟨hlt, firstE_step hg (lbad_ok hx h3 fun y' h0 hy' hle => ?_)⟩ (by omega) ⟨I, I, I, I, trivial⟩ (Ent.pick [] I I)
   rw [hy] at hy'
   cases hy'
   rw [decide_eq_true (show (k : Int) > 0 by omega), decide_eq_true hle] at h4
   cases h4
 ·have hke : k = l.length := by have := of_decide_eq_false h2; omega
  subst hke
  repeat' (first | refine zh ?_ | apply zb ?_ ?_ | exact zc | (refine zi fun hb => ?_; try simp at hb) | intro (bk : Nat))
  refine HR.ret Tryz.func132 I [_] (fun _ _ => ⟨I, trivial⟩) ?_
  exact fun w' hw => ⟨by rw [lchk, if_neg (by omega), hg]; rfl, hw.belowB⟩
end Go.Proofs.YtgfdoognildoeaaGreat
namespace Go.Proofs.YtgfdoognildoeaaGreat
open Go.GX Go.RowKit
attribute [local irreducible] Calls Run RunL RunQ RunD HR HL HD blkC ownC mapC Rd slicesC iterC
open Nd
theorem sat_any (n : Int) (w : World) (h : -1099511627776 ≤ n ∧ n ≤ 1099511627776) : Calls Tryz.prog 301 #[.int .i64 n] w fun e w' => e = .returned (.int .i64 n) ∧ Below w.heap.size w w' := by
 refine calls_hr Tryz.func301 I (Nat.le_of_ble_eq_true I) ?_
 refine HR.sub (σ' := [(0, .int .i64 n)]) ⟨I, trivial⟩ ?_
 repeat' (first | refine zh ?_ | apply zb ?_ ?_ | exact zc | (refine zi fun hb => ?_; try simp at hb) | intro (bk : Nat))
 refine HR.ret Tryz.func301 I [_] (fun _ _ => ⟨I, trivial⟩) ?_
 refine fun w' hw => ⟨?_, hw.belowB⟩
 simp only [resV]
 congr 2
 split <;> split <;> omega
theorem ceil_any (a b : Int) (w : World) (ha : 0 ≤ a ∧ a ≤ 1000000) (hb : 0 < b ∧ b ≤ 1000000) : Calls Tryz.prog 272 #[.int .i64 a, .int .i64 b] w fun e w' => e = .returned (.int .i64 (cdiv a b)) ∧ Below w.heap.size w w' := by
 refine calls_hr Tryz.func272 I (Nat.le_of_ble_eq_true I) ?_
 refine HR.sub (σ' := [(0, .int .i64 a), (1, .int .i64 b)]) ⟨I, I, trivial⟩ ?_
 repeat' (first | refine zh ?_ | refine HL.callB fn301 I I (fun w _ => sat_any a w (by omega)) ?_ | refine HL.callB fn301 I I (fun w _ => sat_any b w (by omega)) ?_ | apply zb ?_ ?_ | exact zc | (refine zi fun hb => ?_; try simp at hb) | intro (bk : Nat))
 refine HR.setB 13 false I (by simp; omega) ?_
 have q1 : 0 ≤ a / b := Int.ediv_nonneg ha.1 (by omega)
 have q2 : a / b ≤ a := Int.ediv_le_self _ ha.1
 repeat' (first | refine zh ?_ | apply zb ?_ ?_ | exact zc | (refine zi fun hb => ?_; try simp at hb) | intro (bk : Nat))
 have e1 : decide (a < 0) = false := decide_eq_false (by omega)
 have e2 : decide (b < 0) = false := decide_eq_false (by omega)
 refine HR.cond I (fun h => ?_) (fun h => ?_)
 ·have h : ((a % b != 0) && (decide (a < 0) == decide (b < 0))) = true := h
  rw [e1, e2] at h
  have h : a % b ≠ 0 := by simpa using h
  repeat' (first | refine zh ?_ | apply zb ?_ ?_ | exact zc | (refine zi fun hb => ?_; try simp at hb) | intro (bk : Nat))
  refine HR.ret Tryz.func272 I [_] (fun _ _ => ⟨I, trivial⟩) ?_
  exact fun w' hw => ⟨by rw [cdiv_code ha.1 hb.1, if_pos h]; rfl, hw.belowB⟩
 ·have h : ((a % b != 0) && (decide (a < 0) == decide (b < 0))) = false := h
  rw [e1, e2] at h
  have h : ¬ a % b ≠ 0 := by simpa using h
  repeat' (first | refine zh ?_ | apply zb ?_ ?_ | exact zc | (refine zi fun hb => ?_; try simp at hb) | intro (bk : Nat))
  refine HR.ret Tryz.func272 I [_] (fun _ _ => ⟨I, trivial⟩) ?_
  exact fun w' hw => ⟨by rw [cdiv_code ha.1 hb.1, if_neg h]; rfl, hw.belowB⟩
theorem ltable_any (l : List Li) (v : Value) (w : World) (hv : Sl w v (cellsOf liC l) l.length) (hl : l.length ≤ 1000) :
  Calls Tryz.prog 167 #[v] w fun e w' => ∃ v', e = .returned v' ∧ Sat (base w) [ownC v' 162 3 (lval l).length (cellsOf liC (lval l))] w' := by
 refine calls_hr Tryz.func167 I (Nat.le_of_ble_eq_true I) ?_
 refine HR.sub (σ' := [(0, v)]) ⟨I, trivial⟩ ?_
 repeat' (first | refine zh ?_ | refine HL.callB fn132 I I (fun w hw => lcheck_any l v w ((Rd.arg hv).at hw) hl) ?_ | apply zb ?_ ?_ | exact zc | (refine zi fun hb => ?_; try simp at hb) | intro (bk : Nat))
 refine HR.cond I (fun h => ?_) (fun h => ?_)
 ·have h : ¬ lchk l = 0 := by simpa using h
  repeat' (first | refine zh ?_ | apply zb ?_ ?_ | exact zc | (refine zi fun hb => ?_; try simp at hb) | intro (bk : Nat))
  refine HR.nilC 162 3 ?_
  refine HR.ret Tryz.func167 I [_] (fun _ _ => ⟨I, trivial⟩) ?_
  exact fun w' hw => ⟨.slice none 0 0, rfl, by rw [lval, if_neg h]; exact hw⟩
 ·have h : lchk l = 0 := by simpa using h
  have h24 := (lchk_asc h).1
  repeat' (first | refine zh ?_ | refine HL.lenR (Rd.arg hv) I I I ?_ | apply zb ?_ ?_ | exact zc | (refine zi fun hb => ?_; try simp at hb) | intro (bk : Nat))
  refine HL.makeS l.length l.length elemLi I I I I I I (Nat.le_refl _) (show 24 * l.length ≤ _ by omega) (by omega) ?_
  intro v1
  repeat' (first | refine zh ?_ | refine HL.copyV l.length 0 I (Rd.arg hv) I I I I I (cellsOf_len liC_len _) (fun u hu => one_allcells liC_one _ u (List.mem_of_mem_take hu)) (Nat.min_self _) ?_ | apply zb ?_ ?_ | exact zc | (refine zi fun hb => ?_; try simp at hb) | intro (bk : Nat))
  refine HR.ret Tryz.func167 I [_] (fun _ _ => ⟨I, trivial⟩) ?_
  refine fun w' hw => ⟨v1, rfl, Ent.own0 ?_ ?_ w' hw⟩
  ·rw [lval, if_pos h]
  ·rw [lval, if_pos h, List.take_of_length_le (by rw [cellsOf_len liC_len]; exact Nat.le_refl _), List.drop_eq_nil_of_le (by rw [flat_rep_length]; exact Nat.le_refl _), List.append_nil]
theorem lfind_any (l : List Li) (n : Int) (v : Value) (w : World) (hv : Sl w v (cellsOf liC l) l.length) (hl : l.length ≤ 1000) :
  Calls Tryz.prog 168 #[v, .int .i64 n] w fun e w' => e = .returned (.tuple ⟨[.int .i64 (lpos l n : Int), .bool (lhas l n)]⟩) ∧ Below w.heap.size w w' := by
 refine calls_hr Tryz.func168 I (Nat.le_of_ble_eq_true I) ?_
 refine HR.sub (σ' := [(0, v), (1, .int .i64 n)]) ⟨I, I, trivial⟩ ?_
 repeat' (first | refine zh ?_ | apply zb ?_ ?_ | exact zc | (refine zi fun hb => ?_; try simp at hb) | intro (bk : Nat))
 refine HR.loop (ι := Nat) (fun k => k ≤ l.length ∧ ∀ j a, j < k → l[j]? = some a → a.nd < n) (fun k => [(0, v), (1, .int .i64 n), (6, .int .i64 (k : Int))]) (fun _ => []) (fun k => l.length - k) 0 ⟨Nat.zero_le _, fun j a hj => by omega⟩ ⟨I, I, I, trivial⟩ Ent.refl ?_
 rintro k ⟨hk, hg⟩ ih
 repeat' (first | refine zh ?_ | refine HL.lenR (Rd.arg hv) I I I ?_ | refine HL.idxR (Rd.arg hv) elemLi k I I I I (by omega) ?_ | refine HL.fieldE (Rd.arg hv) (by rw [cellsOf_len liC_len]; omega) I I I I I I ?_ | refine HL.loadI (Rd.arg hv) I I I I (cells_get liC_len (getD_is (by omega) li0) (i := 0) I) ?_ | apply zb ?_ ?_ | exact zc | (refine zi fun hb => ?_; try simp at hb) | intro (bk : Nat))
 refine HR.cond I (fun h2 => ?_) (fun h2 => ?_)
 ·have h2 : (decide ((k : Int) < l.length) && decide ((l.getD k li0).nd < n)) = true := h2
  simp only [Bool.and_eq_true, decide_eq_true_eq] at h2
  have hlt : k < l.length := by omega
  repeat' (first | refine zh ?_ | apply zb ?_ ?_ | exact zc | (refine zi fun hb => ?_; try simp at hb) | intro (bk : Nat))
  refine ih (k + 1) _ _ ⟨hlt, fun j a hj ha => ?_⟩ (by omega) ⟨I, I, I, trivial⟩ (Ent.pick [] I I)
  by_cases hjk : j = k
  ·subst hjk
   rw [getD_is hlt li0] at ha
   cases ha; exact h2.2
  ·exact hg j a (by omega) ha
 ·have h2 : (decide ((k : Int) < l.length) && decide ((l.getD k li0).nd < n)) = false := h2
  have hp : lpos l n = k := lpos_is hk hg fun a ha => by
   have hlt := (List.getElem?_eq_some_iff.1 ha).1
   rw [getD_is hlt li0] at ha
   cases ha
   rw [decide_eq_true (show (k : Int) < l.length by omega), Bool.true_and, decide_eq_false_iff_not] at h2
   omega
  repeat' (first | refine zh ?_ | apply zb ?_ ?_ | exact zc | (refine zi fun hb => ?_; try simp at hb) | intro (bk : Nat))
  refine HR.regionQ hmix (by kernel_rfl) ?_
  repeat' (first | refine zq ?_ | refine HQ.lenR (Rd.arg hv) I I I ?_ | refine HQ.idxR (Rd.arg hv) elemLi k I I I I (by omega) ?_ | refine HQ.fieldE (Rd.arg hv) (by rw [cellsOf_len liC_len]; omega) I I I I I I ?_ | refine HQ.loadI (Rd.arg hv) I I I I (cells_get liC_len (getD_is (by omega) li0) (i := 0) I) ?_ | apply zb ?_ ?_ | exact zc | (refine zi fun hb => ?_; try simp at hb))
  refine HR.ret Tryz.func168 I [_, _] (fun _ _ => ⟨I, I, trivial⟩) ?_
  refine fun w' hw => ⟨?_, hw.belowB⟩
  have hh : lhas l n = (decide ((k : Int) < l.length) && ((l.getD k li0).nd == n)) := by
   unfold lhas
   rw [hp]
   by_cases hlt : k < l.length
   ·rw [getD_is hlt li0, decide_eq_true (show (k : Int) < l.length by omega)]; rfl
   ·rw [List.getElem?_eq_none (by omega), decide_eq_false (show ¬ (k : Int) < l.length by omega)]; rfl
  rw [hh, hp]; rfl
theorem lforget_any (l : List Li) (n : Int) (v : Value) (w : World) (hv : Sl w v (cellsOf liC l) l.length) (hl : l.length ≤ 1000) :
  Calls Tryz.prog 170 #[v, .int .i64 n] w fun e w' => ∃ v', e = .returned v' ∧ Sat (base w) [ownC v' 162 3 (lforget l n).length (cellsOf liC (lforget l n))] w' := by
 have hlen := lval_len l
 refine calls_hr Tryz.func170 I (Nat.le_of_ble_eq_true I) ?_
 refine HR.sub (σ' := [(0, v), (1, .int .i64 n)]) ⟨I, I, trivial⟩ ?_
 repeat' (first | refine zh ?_ | refine HL.callO fn167 I I (fun w hw => ltable_any l v w ((Rd.arg hv).at hw) hl) ?_ | intro (bk : Nat))
 intro v1
 repeat' (first | refine zh ?_ | refine HL.callB fn168 I I (fun w hw => lfind_any (lval l) n v1 w ((Rd.own 0 rfl).at hw) (by omega)) ?_ | intro (bk : Nat))
 refine HR.cond I (fun h => ?_) (fun h => ?_)
 ·obtain ⟨x, hx, hn⟩ := lhas_true h
  have hlt := (List.getElem?_eq_some_iff.1 hx).1
  repeat' (first | refine zh ?_ | intro (bk : Nat))
  refine HL.callW (r := fun r : Value => r) (Q := fun _ => True) (G0 := [ownC v1 162 3 (lval l).length (cellsOf liC (lval l))]) (H0 := []) (G := fun r => [ownC r 162 3 ((lval l).eraseIdx (lpos (lval l) n)).length (cellsOf liC ((lval l).eraseIdx (lpos (lval l) n)))]) fn226 I I I (fun w hw => delLi_any (lval l) (lpos (lval l) n) v1 _ w hw hlt (by omega)) ?_
  intro r _
  repeat' (first | refine zh ?_ | intro (bk : Nat))
  refine HR.ret Tryz.func170 I [_] (fun _ _ => ⟨I, trivial⟩) ?_
  exact fun w' hw => ⟨r, rfl, by rw [lforget_is hx hn]; exact hw⟩
 ·have hno := lat_no (lhas_false h)
  repeat' (first | refine zh ?_ | intro (bk : Nat))
  refine HR.ret Tryz.func170 I [_] (fun _ _ => ⟨I, trivial⟩) ?_
  exact fun w' hw => ⟨v1, rfl, by rw [lforget_no hno]; exact hw⟩
theorem succ_any (l : List Li) (n : Int) (v : Value) (w : World) (hv : Sl w v (cellsOf liC l) l.length) (hl : l.length ≤ 1000) :
  Calls Tryz.prog 271 #[v, .int .i64 n] w fun e w' => e = .returned (.tuple ⟨[.int .i64 (succ l n).1, .int .i64 (succ l n).2]⟩) ∧ Below w.heap.size w w' := by
 have hlen := lval_len l
 refine calls_hr Tryz.func271 I (Nat.le_of_ble_eq_true I) ?_
 refine HR.sub (σ' := [(0, v), (1, .int .i64 n)]) ⟨I, I, trivial⟩ ?_
 repeat' (first | refine zh ?_ | refine HL.callO fn167 I I (fun w hw => ltable_any l v w ((Rd.arg hv).at hw) hl) ?_ | intro (bk : Nat))
 intro v1
 repeat' (first | refine zh ?_ | refine HL.callB fn168 I I (fun w hw => lfind_any (lval l) n v1 w ((Rd.own 0 rfl).at hw) (by omega)) ?_ | intro (bk : Nat))
 refine HR.cond I (fun h => ?_) (fun h => ?_)
 ·have h : lhas (lval l) n = false := by simpa using h
  have hno := lat_no (lhas_false h)
  repeat' (first | refine zh ?_ | intro (bk : Nat))
  refine HR.ret Tryz.func271 I [_, _] (fun _ _ => ⟨I, I, trivial⟩) ?_
  exact fun w' hw => ⟨by rw [succ, hno]; rfl, hw.belowB⟩
 ·have h : lhas (lval l) n = true := by simpa using h
  obtain ⟨x, hx, hn⟩ := lhas_true h
  have hlt := (List.getElem?_eq_some_iff.1 hx).1
  have hat : lat (lval l) n = some x := ((lval_asc l).pos_is hx hn).2
  have hr := lrange_lt (lval_mem (List.mem_of_getElem? hx))
  have hp := pop_le 64 x.bi.toNat
  have hb64 : x.bi.toNat < 2 ^ 64 := by
   have : (2 : Nat) ^ 64 = 18446744073709551616 := by decide
   omega
  repeat' (first | refine zh ?_ | refine HL.idxR (Rd.own 0 I) elemLi (lpos (lval l) n) I I I I hlt ?_ | refine HL.fieldE (Rd.own 0 I) (by rw [cellsOf_len liC_len]; omega) I I I I I I ?_ | refine HL.loadI (Rd.own 0 I) I I I I (cells_get liC_len hx (i := 1) I) ?_ | intro (bk : Nat))
  refine HR.loop3 (α := Nat) (β := Nat) (γ := Nat) (fun a b f => b < 65536 ∧ b < 2 ^ f ∧ (a : Int) + pop f b = pop 64 x.bi.toNat) (fun a b f => [(6, v1), (7, .int .i64 (lpos (lval l) n : Int)), (9, .int .i64 (a : Int)), (10, .int .i64 (b : Int))]) (fun _ _ _ => [ownC v1 162 3 (lval l).length (cellsOf liC (lval l))]) (fun a b f => b) 0 x.bi.toNat 64 ⟨by omega, hb64, by simp⟩ ⟨rfl, rfl, rfl, by show some _ = some _; congr 2; omega, trivial⟩ Ent.refl ?_
  rintro a b f ⟨hb5, hb, hab⟩ ih
  have hpf := pop_le f b
  repeat' (first | refine zh ?_ | intro (bk : Nat))
  refine HR.cond I (fun h2 => ?_) (fun h2 => ?_)
  ·have hb0 : 0 < b := by have := of_decide_eq_true h2; omega
   obtain ⟨f', rfl, hb', hps⟩ := pop_step hb0 hb
   repeat' (first | refine zh ?_ | intro (bk : Nat))
   refine ih (a + b % 2) (b / 2) f' _ _ ⟨by omega, hb', ?_⟩ (by omega) ⟨I, I, I, I, trivial⟩ Ent.refl
   rw [← hab, hps]; omega
  ·have hb0 : b = 0 := by have := of_decide_eq_false h2; omega
   subst hb0
   rw [pop_zero] at hab
   repeat' (first | refine zh ?_ | intro (bk : Nat))
   refine HR.regionQ hmix (by kernel_rfl) ?_
   repeat' (first | refine zq ?_ | refine HQ.idxR (Rd.own 0 I) elemLi (lpos (lval l) n) I I I I hlt ?_ | refine HQ.fieldE (Rd.own 0 I) (by rw [cellsOf_len liC_len]; omega) I I I I I I ?_ | refine HQ.loadI (Rd.own 0 I) I I I I (cells_get liC_len hx (i := 2) I) ?_ | apply zb ?_ ?_ | exact zc | (refine zi fun hb => ?_; try simp at hb))
   refine HR.ret Tryz.func271 I [_, _] (fun _ _ => ⟨I, I, trivial⟩) ?_
   refine fun w' hw => ⟨?_, hw.belowB⟩
   rw [succ, hat]
   simp only [ones, ← hab, Int.add_zero]
   rfl
theorem lcost_any (l : List Li) (n : Int) (v : Value) (w : World) (hv : Sl w v (cellsOf liC l) l.length) (hl : l.length ≤ 1000) :
  Calls Tryz.prog 218 #[v, .int .i64 n] w fun e w' => e = .returned (.int .i64 (lcost l n)) ∧ Below w.heap.size w w' := by
 have hs : 0 ≤ (succ l n).1 ∧ (succ l n).1 ≤ 64 ∧ 0 ≤ (succ l n).2 ∧ (succ l n).2 ≤ 16 := by
  unfold succ
  cases hf : lat (lval l) n with
  | none => simp
  | some x =>
   have hr := lrange_lt (lval_mem (lat_mem hf).1)
   have := ones_le x.bi
   exact ⟨this.1, this.2, hr.2.2.1, hr.2.2.2.1⟩
 refine calls_hr Tryz.func218 I (Nat.le_of_ble_eq_true I) ?_
 refine HR.sub (σ' := [(0, v), (1, .int .i64 n)]) ⟨I, I, trivial⟩ ?_
 repeat' (first | refine zh ?_ | refine HL.callB fn271 I I (fun w hw => succ_any l n v w ((Rd.arg hv).at hw) hl) ?_ | intro (bk : Nat))
 refine HR.cond I (fun h => ?_) (fun h => ?_)
 ·have h : (succ l n).1 = 0 := eq_of_beq h
  repeat' (first | refine zh ?_ | intro (bk : Nat))
  refine HR.ret Tryz.func218 I [_] (fun _ _ => ⟨I, trivial⟩) ?_
  exact fun w' hw => ⟨by rw [lcost_succ, if_pos h]; rfl, hw.belowB⟩
 ·have h : ¬ (succ l n).1 = 0 := by simpa using h
  repeat' (first | refine zh ?_ | refine HL.callB fn272 I I (fun w _ => ceil_any _ _ w (by omega) (by omega)) ?_ | intro (bk : Nat))
  refine HR.ret Tryz.func218 I [_] (fun _ _ => ⟨I, trivial⟩) ?_
  exact fun w' hw => ⟨by rw [lcost_succ, if_neg h]; rfl, hw.belowB⟩
end Go.Proofs.YtgfdoognildoeaaGreat
namespace Go.Proofs.YtgfdoognildoeaaGreat
open Go.GX Go.RowKit
attribute [local irreducible] Calls Run RunL RunQ RunD HR HL HD blkC ownC mapC Rd slicesC iterC
open Nd
structure Place (l : List Li) (n : Int) (ok : Bool) (L : List Li) (i : Nat) (x : Li) : Prop where
 get : L[i]? = some x
 len : L.length ≤ 25
 b0 : 0 ≤ x.bi
 b1 : x.bi < 65536
 c0 : 0 ≤ x.ct
 c1 : x.ct ≤ 16
 eq : lseen l n ok = L.set i (lupd x ok)
theorem Place.old {l : List Li} {n : Int} {ok : Bool} {x : Li} (hr : ¬ (n < 0 ∨ n > 250)) (hx : (lval l)[lpos (lval l) n]? = some x) (hn : x.nd = n) : Place l n ok (lval l) (lpos (lval l) n) x := by
 have h := lrange_lt (lval_mem (List.mem_of_getElem? hx))
 have h2 := lval_len l
 exact ⟨hx, by omega, h.2.2.2.2.1, h.2.2.2.2.2, h.2.2.1, h.2.2.2.1, lseen_is hr hx hn⟩
theorem Place.new {l : List Li} {n : Int} {ok : Bool} (hr : ¬ (n < 0 ∨ n > 250)) (h : lat (lval l) n = none) (h2 : ¬ (lval l).length = 24) : Place l n ok ((lval l).take (lpos (lval l) n) ++ ⟨n, 0, 0⟩ :: (lval l).drop (lpos (lval l) n)) (lpos (lval l) n) ⟨n, 0, 0⟩ := by
 have h3 := lval_len l
 have h4 := lpos_le (lval l) n
 have hl : ((lval l).take (lpos (lval l) n)).length = lpos (lval l) n := by simp; omega
 refine ⟨get_mid hl, by simp; omega, by simp, by simp, by simp, by simp, ?_⟩
 rw [lseen_new hr h h2, set_mid hl]
theorem lseen_any (l : List Li) (n : Int) (ok : Bool) (v : Value) (w : World) (hv : Sl w v (cellsOf liC l) l.length) (hl : l.length ≤ 1000) :
  Calls Tryz.prog 92 #[v, .int .i64 n, .bool ok] w fun e w' => ∃ v', e = .returned v' ∧ Sat (base w) [ownC v' 162 3 (lseen l n ok).length (cellsOf liC (lseen l n ok))] w' := by
 have hlen := lval_len l
 have hple := lpos_le (lval l) n
 refine calls_hr Tryz.func92 I (Nat.le_of_ble_eq_true I) ?_
 refine HR.sub (σ' := [(0, v), (1, .int .i64 n), (2, .bool ok)]) ⟨I, I, I, trivial⟩ ?_
 repeat' (first | refine zh ?_ | refine HL.callO fn167 I I (fun w hw => ltable_any l v w ((Rd.arg hv).at hw) hl) ?_ | intro (bk : Nat))
 intro v1
 repeat' (first | refine zh ?_ | apply zb ?_ ?_ | exact zc | (refine zi fun hb => ?_; try simp at hb) | intro (bk : Nat))
 refine HR.cond I (fun h => ?_) (fun h => ?_)
 ·have h : (decide (n < 0) || decide (n > 250)) = true := h
  simp only [Bool.or_eq_true, decide_eq_true_eq] at h
  repeat' (first | refine zh ?_ | apply zb ?_ ?_ | exact zc | (refine zi fun hb => ?_; try simp at hb) | intro (bk : Nat))
  refine HR.ret Tryz.func92 I [_] (fun _ _ => ⟨I, trivial⟩) ?_
  exact fun w' hw => ⟨v1, rfl, by rw [lseen_out h]; exact hw⟩
 have h : (decide (n < 0) || decide (n > 250)) = false := h
 have hr : ¬ (n < 0 ∨ n > 250) := by simp only [Bool.or_eq_false_iff, decide_eq_false_iff_not] at h; omega
 repeat' (first | refine zh ?_ | refine HL.callB fn168 I I (fun w hw => lfind_any (lval l) n v1 w ((Rd.own 0 rfl).at hw) (by omega)) ?_ | intro (bk : Nat))
 refine HR.join (ι := Value × List Li × Li) (fun i => Place l n ok i.2.1 (lpos (lval l) n) i.2.2) (fun i => [(1, .int .i64 n), (2, .bool ok), (7, i.1), (8, .int .i64 (lpos (lval l) n : Int))]) (fun i => [ownC i.1 162 3 i.2.1.length (cellsOf liC i.2.1)]) ?_ (fun hj => ?_)
 ·rintro ⟨r, L, x⟩ hp
  obtain ⟨hget, hL, hb0, hb1, hc0, hc1, heq⟩ := hp
  simp only at hget hL hb0 hb1 hc0 hc1 heq
  have hlt := (List.getElem?_eq_some_iff.1 hget).1
  have hbit : 0 ≤ (if ok then (1 : Int) else 0) ∧ (if ok then (1 : Int) else 0) ≤ 1 := by cases ok <;> simp
  repeat' (first | refine zh ?_ | intro (bk : Nat))
  refine HR.join (ι := Unit) (fun _ => True) (fun _ => [(7, r), (8, .int .i64 (lpos (lval l) n : Int)), (10, .int .i64 (if ok then 1 else 0))]) (fun _ => [ownC r 162 3 L.length (cellsOf liC L)]) ?_ (fun hj2 => ?_)
  ·intro _ _
   obtain ⟨bit, hbe⟩ : ∃ bit, bit = (if ok then (1 : Int) else 0) := ⟨_, rfl⟩
   rw [← hbe] at hbit ⊢
   repeat' (first | refine zh ?_ | refine HL.idxR (Rd.own 0 I) elemLi (lpos (lval l) n) I I I I hlt ?_ | refine HL.fieldE (Rd.own 0 I) (by rw [cellsOf_len liC_len]; omega) I I I I I I ?_ | refine HL.loadI (Rd.own 0 I) I I I I (cells_get liC_len hget (i := 1) I) ?_ | refine HL.storeE (j := lpos (lval l) n * 3 + 1) 0 I I I I I I I (by rw [cellsOf_len liC_len]; omega) ?_ | intro (bk : Nat))
   refine HL.ent (Ent.own0 (xs' := cellsOf liC (L.set (lpos (lval l) n) ⟨x.nd, (2 * x.bi + bit) % 65536, x.ct⟩)) I (cells_set1 (i := 1) liC_len hget I (by decide))) ?_
   have hget2 : (L.set (lpos (lval l) n) ⟨x.nd, (2 * x.bi + bit) % 65536, x.ct⟩)[lpos (lval l) n]? = some ⟨x.nd, (2 * x.bi + bit) % 65536, x.ct⟩ := by simp [hlt]
   have hl2 : (L.set (lpos (lval l) n) ⟨x.nd, (2 * x.bi + bit) % 65536, x.ct⟩).length = L.length := List.length_set
   repeat' (first | refine zh ?_ | refine HL.idxR (Rd.own 0 I) elemLi (lpos (lval l) n) I I I I hlt ?_ | refine HL.fieldE (Rd.own 0 I) (by rw [cellsOf_len liC_len, hl2]; omega) I I I I I I ?_ | refine HL.loadI (Rd.own 0 I) I I I I (cells_get liC_len hget2 (i := 2) I) ?_ | refine HL.storeE (j := lpos (lval l) n * 3 + 2) 0 I I I I I I I (by rw [cellsOf_len liC_len, hl2]; omega) ?_ | intro (bk : Nat))
   refine HR.ent (Ent.own0 (xs' := cellsOf liC ((L.set (lpos (lval l) n) ⟨x.nd, (2 * x.bi + bit) % 65536, x.ct⟩).set (lpos (lval l) n) (lupd x ok))) I (cells_set1 (i := 2) liC_len hget2 ?_ (by decide))) ?_
   ·simp only [lupd, ← hbe]
    rw [show min (x.ct + 1) 16 = (if (16 : Int) < x.ct + 1 then 16 else x.ct + 1) by split <;> omega]
    rfl
   repeat' (first | refine zh ?_ | intro (bk : Nat))
   refine HR.ret Tryz.func92 I [_] (fun _ _ => ⟨I, trivial⟩) ?_
   refine fun w' hw => ⟨r, rfl, Ent.own0 ?_ ?_ w' hw⟩
   ·rw [heq]; simp
   ·rw [heq, List.set_set]
  ·refine HR.cond I (fun h3 => ?_) (fun h3 => ?_)
   ·subst h3
    refine HR.region ?_
    repeat' (first | refine zn ?_ | apply zb ?_ ?_ | exact zc | (refine zi fun hb => ?_; try simp at hb) | intro (bk : Nat))
    exact hj2 () _ _ trivial ⟨I, I, I, trivial⟩ Ent.refl
   ·subst h3
    refine HR.skip ?_
    exact hj2 () _ _ trivial ⟨I, I, I, trivial⟩ Ent.refl
 refine HR.cond I (fun h2 => ?_) (fun h2 => ?_)
 ·have h2 : lhas (lval l) n = false := by simpa using h2
  have hno := lat_no (lhas_false h2)
  repeat' (first | refine zh ?_ | refine HL.lenR (Rd.own 0 I) I I I ?_ | intro (bk : Nat))
  refine HR.cond I (fun h3 => ?_) (fun h3 => ?_)
  ·have h3 : (lval l).length = 24 := by have := eq_of_beq h3; omega
   repeat' (first | refine zh ?_ | intro (bk : Nat))
   refine HR.ret Tryz.func92 I [_] (fun _ _ => ⟨I, trivial⟩) ?_
   exact fun w' hw => ⟨v1, rfl, by rw [lseen_full hr hno h3]; exact hw⟩
  ·have h3 : ¬ (lval l).length = 24 := by
    have h3 : (((lval l).length : Int) == 24) = false := h3
    simp at h3; omega
   refine HR.skip ?_
   refine HR.region ?_
   repeat' (first | refine zn ?_ | refine HL.build I I ?_ | refine HL.bslice elemLi I I I I I (by decide) (by decide) ?_ | apply zb ?_ ?_ | exact zc | (refine zi fun hb => ?_; try simp at hb) | intro (bk : Nat))
   intro va
   refine HL.callW (r := fun r : Value => r) (Q := fun _ => True) (G0 := [ownC va 162 3 1 (liC ⟨n, 0, 0⟩), ownC v1 162 3 (lval l).length (cellsOf liC (lval l))]) (H0 := []) (G := fun r => [ownC r 162 3 ((lval l).take (lpos (lval l) n) ++ ⟨n, 0, 0⟩ :: (lval l).drop (lpos (lval l) n)).length (cellsOf liC ((lval l).take (lpos (lval l) n) ++ ⟨n, 0, 0⟩ :: (lval l).drop (lpos (lval l) n)))]) fn169 I I I (fun w hw => insLi_any (lval l) ⟨n, 0, 0⟩ (lpos (lval l) n) v1 va _ w hw hple (by omega)) ?_
   intro r _
   repeat' (first | refine zn ?_ | apply zb ?_ ?_ | exact zc | (refine zi fun hb => ?_; try simp at hb) | intro (bk : Nat))
   exact hj (r, _, _) _ _ (Place.new hr hno h3) ⟨I, I, I, I, trivial⟩ Ent.refl
 ·have h2 : lhas (lval l) n = true := by simpa using h2
  obtain ⟨x, hx, hn⟩ := lhas_true h2
  refine HR.skip ?_
  exact hj (v1, lval l, x) _ _ (Place.old hr hx hn) ⟨I, I, I, I, trivial⟩ Ent.refl
end Go.Proofs.YtgfdoognildoeaaGreat
namespace Go.Proofs.YtgfdoognildoeaaGreat
open Go.GX Go.RowKit
attribute [local irreducible] Calls Run RunL RunQ RunD HR HL HD blkC ownC mapC Rd slicesC iterC
open Nd
theorem fn201 : IsFn Tryz.prog 201 := ⟨⟨_, _, Tryz.func201, rfl, by decide⟩⟩
theorem fn144 : IsFn Tryz.prog 144 := ⟨⟨_, _, Tryz.func144, rfl, by decide⟩⟩
theorem rpower_any (n : Int) (w : World) (hn : 0 ≤ n ∧ n ≤ 16) : Calls Tryz.prog 201 #[.int .i64 n] w fun e w' => e = .returned (.int .i64 (2 ^ n.toNat)) ∧ Below w.heap.size w w' := by
 obtain ⟨m, rfl⟩ : ∃ m : Nat, n = m := ⟨n.toNat, by omega⟩
 refine calls_hr Tryz.func201 I (Nat.le_of_ble_eq_true I) ?_
 refine HR.sub (σ' := [(0, .int .i64 (m : Int))]) ⟨I, trivial⟩ ?_
 repeat' (first | refine zh ?_ | apply zb ?_ ?_ | exact zc | (refine zi fun hb => ?_; try simp at hb) | intro (bk : Nat))
 refine HR.loop (ι := Nat) (fun k => k ≤ m) (fun k => [(0, .int .i64 (m : Int)), (3, .int .i64 ((2 ^ k : Nat) : Int)), (4, .int .i64 (k : Int))]) (fun _ => []) (fun k => m - k) 0 (Nat.zero_le _) ⟨I, I, I, trivial⟩ Ent.refl ?_
 intro k hk ih
 have h2 : 2 ^ k ≤ 2 ^ 16 := Nat.pow_le_pow_right (by decide) (by omega)
 have h16 : 2 ^ 16 = 65536 := by decide
 rw [h16] at h2
 obtain ⟨p, hpe⟩ : ∃ p, p = 2 ^ k := ⟨_, rfl⟩
 rw [← hpe] at h2 ⊢
 repeat' (first | refine zh ?_ | apply zb ?_ ?_ | exact zc | (refine zi fun hb => ?_; try simp at hb) | intro (bk : Nat))
 refine HR.cond I (fun h => ?_) (fun h => ?_)
 ·have hlt : k < m := by have := of_decide_eq_true h; omega
  repeat' (first | refine zh ?_ | apply zb ?_ ?_ | exact zc | (refine zi fun hb => ?_; try simp at hb) | intro (bk : Nat))
  refine HR.setV 3 (v' := .int .i64 ((2 ^ (k + 1) : Nat) : Int)) I (show Value.int .i64 (2 * (p : Int)) = _ by rw [Nat.pow_succ, ← hpe]; congr 1; omega) ?_
  exact ih (k + 1) _ _ hlt (by omega) ⟨I, I, I, trivial⟩ Ent.refl
 ·have hke : k = m := by have := of_decide_eq_false h; omega
  subst hke
  repeat' (first | refine zh ?_ | apply zb ?_ ?_ | exact zc | (refine zi fun hb => ?_; try simp at hb) | intro (bk : Nat))
  refine HR.ret Tryz.func201 I [_] (fun _ _ => ⟨I, trivial⟩) ?_
  refine fun w' hw => ⟨?_, hw.belowB⟩
  rw [hpe]
  simp only [resV, Int.toNat_natCast, Int.natCast_pow]
  rfl
theorem r10check_any (l : List Li) (v : Value) (w : World) (hv : Sl w v (cellsOf liC l) l.length) (hl : l.length ≤ 1000) :
  Calls Tryz.prog 144 #[v] w fun e w' => e = .returned (.int .i64 (lchk l)) ∧ Below w.heap.size w w' := by
 refine calls_hr Tryz.func144 I (Nat.le_of_ble_eq_true I) ?_
 refine HR.sub (σ' := [(0, v)]) ⟨I, trivial⟩ ?_
 repeat' (first | refine zh ?_ | refine HL.lenR (Rd.arg hv) I I I ?_ | apply zb ?_ ?_ | exact zc | (refine zi fun hb => ?_; try simp at hb) | intro (bk : Nat))
 refine HR.cond I (fun h => ?_) (fun h => ?_)
 ·have h : l.length > 24 := by have := of_decide_eq_true h; omega
  repeat' (first | refine zh ?_ | apply zb ?_ ?_ | exact zc | (refine zi fun hb => ?_; try simp at hb) | intro (bk : Nat))
  refine HR.ret Tryz.func144 I [_] (fun _ _ => ⟨I, trivial⟩) ?_
  exact fun w' hw => ⟨by rw [lchk, if_pos h]; rfl, hw.belowB⟩
 have h : l.length ≤ 24 := by have := of_decide_eq_false h; omega
 repeat' (first | refine zh ?_ | apply zb ?_ ?_ | exact zc | (refine zi fun hb => ?_; try simp at hb) | intro (bk : Nat))
 refine HR.loop (ι := Nat) (fun k => k ≤ l.length ∧ firstE (lbad l) k = 0) (fun k => [(0, v), (3, .int .i64 (k : Int))]) (fun _ => []) (fun k => l.length - k) 0 ⟨Nat.zero_le _, rfl⟩ ⟨I, I, trivial⟩ Ent.refl ?_
 rintro k ⟨hk, hg⟩ ih
 repeat' (first | refine zh ?_ | refine HL.lenR (Rd.arg hv) I I I ?_ | apply zb ?_ ?_ | exact zc | (refine zi fun hb => ?_; try simp at hb) | intro (bk : Nat))
 refine HR.cond I (fun h2 => ?_) (fun h2 => ?_)
 ·have hlt : k < l.length := by have := of_decide_eq_true h2; omega
  obtain ⟨x, hx⟩ := getSome hlt
  repeat' (first | refine zh ?_ | refine HL.idxR (Rd.arg hv) elemLi k I I I I hlt ?_ | refine HL.loadE (Rd.arg hv) I I I I (by simp) I (cellsOf_get liC_len hx) ?_ | intro (bk : Nat))
  refine HR.regionQ hmix (by kernel_rfl) ?_
  repeat' (first | refine zq ?_ | refine HQ.callB fn201 I I (fun w _ => rpower_any x.ct w (by omega)) ?_ | apply zb ?_ ?_ | exact zc | (refine zi fun hb => ?_; try simp at hb))
  refine HR.cond I (fun h3 => ?_) (fun h3 => ?_)
  ·have h3 : lrange x = true := h3
   repeat' (first | refine zh ?_ | apply zb ?_ ?_ | exact zc | (refine zi fun hb => ?_; try simp at hb) | intro (bk : Nat))
   refine HR.ret Tryz.func144 I [_] (fun _ _ => ⟨I, trivial⟩) ?_
   refine fun w' hw => ⟨?_, hw.belowB⟩
   have e := lbad_range hx h3
   rw [lchk_at h hg (by rw [e]; decide) hlt, e]; rfl
  have h3 : lrange x = false := h3
  obtain ⟨y, hy⟩ := getSome (l := l) (j := k - 1) (by omega)
  repeat' (first | refine zh ?_ | apply zb ?_ ?_ | exact zc | (refine zi fun hb => ?_; try simp at hb) | intro (bk : Nat))
  refine HR.regionQ hmix (by kernel_rfl) ?_
  repeat' (first | refine zq ?_ | refine HQ.idxR (Rd.arg hv) elemLi (k - 1) I I I (by omega) (by omega) ?_ | refine HQ.fieldE (Rd.arg hv) (by rw [cellsOf_len liC_len]; omega) I I I I I I ?_ | refine HQ.loadI (Rd.arg hv) I I I I (cells_get liC_len hy (i := 0) I) ?_ | apply zb ?_ ?_ | exact zc | (refine zi fun hb => ?_; try simp at hb))
  refine HR.cond I (fun h4 => ?_) (fun h4 => ?_)
  ·have h4 : (decide ((k : Int) > 0) && decide (y.nd ≥ x.nd)) = true := h4
   simp only [Bool.and_eq_true, decide_eq_true_eq] at h4
   repeat' (first | refine zh ?_ | apply zb ?_ ?_ | exact zc | (refine zi fun hb => ?_; try simp at hb) | intro (bk : Nat))
   refine HR.ret Tryz.func144 I [_] (fun _ _ => ⟨I, trivial⟩) ?_
   refine fun w' hw => ⟨?_, hw.belowB⟩
   have e := lbad_order hx h3 (by omega) hy h4.2
   rw [lchk_at h hg (by rw [e]; decide) hlt, e]; rfl
  ·have h4 : (decide ((k : Int) > 0) && decide (y.nd ≥ x.nd)) = false := h4
   repeat' (first | refine zh ?_ | apply zb ?_ ?_ | exact zc | (refine zi fun hb => ?_; try simp at hb) | intro (bk : Nat))
   refine ih (k + 1) _ _ ⟨hlt, firstE_step hg (lbad_ok hx h3 fun y' h0 hy' hle => ?_)⟩ (by omega) ⟨I, I, trivial⟩ (Ent.pick [] I I)
   rw [hy] at hy'
   cases hy'
   rw [decide_eq_true (show (k : Int) > 0 by omega), decide_eq_true (show y.nd ≥ x.nd from hle)] at h4
   cases h4
 ·have hke : k = l.length := by have := of_decide_eq_false h2; omega
  subst hke
  repeat' (first | refine zh ?_ | apply zb ?_ ?_ | exact zc | (refine zi fun hb => ?_; try simp at hb) | intro (bk : Nat))
  refine HR.ret Tryz.func144 I [_] (fun _ _ => ⟨I, trivial⟩) ?_
  exact fun w' hw => ⟨by rw [lchk, if_neg (by omega), hg]; rfl, hw.belowB⟩
end Go.Proofs.YtgfdoognildoeaaGreat
namespace Go.Proofs.YtgfdoognildoeaaGreat
open Go.GX Go.RowKit
attribute [local irreducible] Calls Run RunL RunQ RunD HR HL HD blkC ownC mapC Rd slicesC iterC
open Nd
theorem fform_all {f : Fr} (k1 : ((f.kd == 1) || (f.kd == 4)) = true) (k3 : (f.kd == 3) = false) : fform f = (((f.fr != f.dst) && (f.dst == 255)) && (f.ta == 255)) := by
 unfold fform; rw [k1, k3]; simp [bne, Bool.and_assoc]
theorem fform_poll {f : Fr} (k1 : ((f.kd == 1) || (f.kd == 4)) = false) (k3 : (f.kd == 3) = true) : fform f = (((f.fr != f.dst) && decide (f.da = [])) && (f.dst != 255)) := by
 unfold fform; rw [k1, k3]; simp [bne, Bool.and_assoc]
theorem fform_data {f : Fr} (k1 : ((f.kd == 1) || (f.kd == 4)) = false) (k3 : (f.kd == 3) = false) : fform f = (f.fr != f.dst) := by
 unfold fform; rw [k1, k3]; simp [bne]
theorem fchk_4 {f : Fr} (h1 : ¬ (f.kd < 1 ∨ f.kd > 4)) (h2 : frange f = false) (h3 : ¬ f.da.length > 109) (h4 : fform f = false) : fchk f = 4 := by
 unfold fchk; rw [if_neg h1, if_neg (by rw [h2]; decide), if_neg h3, if_pos h4]
theorem fchk_0 {f : Fr} (h1 : ¬ (f.kd < 1 ∨ f.kd > 4)) (h2 : frange f = false) (h3 : ¬ f.da.length > 109) (h4 : fform f = true) : fchk f = 0 := by
 unfold fchk; rw [if_neg h1, if_neg (by rw [h2]; decide), if_neg h3, if_neg (by rw [h4]; decide)]
theorem fcheck_any (f : Fr) (w : World) (hd : f.da.length ≤ 9223372036854775807) : Calls Tryz.prog 162 #[.agg ⟨frC f⟩] w fun e w' => e = .returned (.int .i64 (fchk f)) ∧ Below w.heap.size w w' := by
 refine calls_hr Tryz.func162 I (Nat.le_of_ble_eq_true I) ?_
 refine HR.sub (σ' := [(0, .agg ⟨frC f⟩)]) ⟨I, trivial⟩ ?_
 repeat' (first | refine zh ?_ | apply zb ?_ ?_ | exact zc | (refine zi fun hb => ?_; try simp at hb) | intro (bk : Nat))
 refine HR.cond I (fun h => ?_) (fun h => ?_)
 ·have h : (decide (f.kd < 1) || decide (f.kd > 4)) = true := h
  simp only [Bool.or_eq_true, decide_eq_true_eq] at h
  repeat' (first | refine zh ?_ | apply zb ?_ ?_ | exact zc | (refine zi fun hb => ?_; try simp at hb) | intro (bk : Nat))
  refine HR.ret Tryz.func162 I [_] (fun _ _ => ⟨I, trivial⟩) ?_
  exact fun w' hw => ⟨by rw [fchk, if_pos h]; rfl, hw.belowB⟩
 have h : (decide (f.kd < 1) || decide (f.kd > 4)) = false := h
 have hk : ¬ (f.kd < 1 ∨ f.kd > 4) := by simp only [Bool.or_eq_false_iff, decide_eq_false_iff_not] at h; omega
 repeat' (first | refine zh ?_ | refine HL.callB fn214 I I (fun w _ => fnode_any _ w) ?_ | refine HL.callB fn215 I I (fun w _ => target_any _ w) ?_ | apply zb ?_ ?_ | exact zc | (refine zi fun hb => ?_; try simp at hb) | intro (bk : Nat))
 refine HR.cond I (fun h2 => ?_) (fun h2 => ?_)
 ·have h2 : frange f = true := h2
  repeat' (first | refine zh ?_ | apply zb ?_ ?_ | exact zc | (refine zi fun hb => ?_; try simp at hb) | intro (bk : Nat))
  refine HR.ret Tryz.func162 I [_] (fun _ _ => ⟨I, trivial⟩) ?_
  exact fun w' hw => ⟨by rw [fchk, if_neg hk, if_pos h2]; rfl, hw.belowB⟩
 have h2 : frange f = false := h2
 repeat' (first | refine zh ?_ | apply zb ?_ ?_ | exact zc | (refine zi fun hb => ?_; try simp at hb) | intro (bk : Nat))
 refine HR.cond I (fun h3 => ?_) (fun h3 => ?_)
 ·have h3 : f.da.length > 109 := by have := of_decide_eq_true h3; omega
  repeat' (first | refine zh ?_ | apply zb ?_ ?_ | exact zc | (refine zi fun hb => ?_; try simp at hb) | intro (bk : Nat))
  refine HR.ret Tryz.func162 I [_] (fun _ _ => ⟨I, trivial⟩) ?_
  exact fun w' hw => ⟨by rw [fchk, if_neg hk, if_neg (by rw [h2]; decide), if_pos h3]; rfl, hw.belowB⟩
 have h3 : ¬ f.da.length > 109 := by have := of_decide_eq_false h3; omega
 repeat' (first | refine zh ?_ | apply zb ?_ ?_ | exact zc | (refine zi fun hb => ?_; try simp at hb) | intro (bk : Nat))
 refine HR.cond I (fun h4 => ?_) (fun h4 => ?_)
 ·have h4 : (f.kd == 1) = true := h4
  have e : f.kd = 1 := by simpa using h4
  have hf := fform_all (f := f) (by simp [e]) (by simp [e])
  repeat' (first | refine zh ?_ | apply zb ?_ ?_ | exact zc | (refine zi fun hb => ?_; try simp at hb) | intro (bk : Nat))
  refine HR.cond I (fun h5 => ?_) (fun h5 => ?_)
  ·have h5 : (!(((f.fr != f.dst) && (f.dst == 255)) && (f.ta == 255))) = true := h5
   rw [← hf] at h5
   repeat' (first | refine zh ?_ | apply zb ?_ ?_ | exact zc | (refine zi fun hb => ?_; try simp at hb) | intro (bk : Nat))
   refine HR.ret Tryz.func162 I [_] (fun _ _ => ⟨I, trivial⟩) ?_
   exact fun w' hw => ⟨by rw [fchk_4 hk h2 h3 (by simpa using h5)]; rfl, hw.belowB⟩
  ·have h5 : (!(((f.fr != f.dst) && (f.dst == 255)) && (f.ta == 255))) = false := h5
   rw [← hf] at h5
   repeat' (first | refine zh ?_ | apply zb ?_ ?_ | exact zc | (refine zi fun hb => ?_; try simp at hb) | intro (bk : Nat))
   refine HR.ret Tryz.func162 I [_] (fun _ _ => ⟨I, trivial⟩) ?_
   exact fun w' hw => ⟨by rw [fchk_0 hk h2 h3 (by simpa using h5)]; rfl, hw.belowB⟩
 have h4 : (f.kd == 1) = false := h4
 repeat' (first | refine zh ?_ | apply zb ?_ ?_ | exact zc | (refine zi fun hb => ?_; try simp at hb) | intro (bk : Nat))
 refine HR.cond I (fun h6 => ?_) (fun h6 => ?_)
 ·have h6 : (f.kd == 4) = true := h6
  have e : f.kd = 4 := by simpa using h6
  have hf := fform_all (f := f) (by simp [e]) (by simp [e])
  repeat' (first | refine zh ?_ | apply zb ?_ ?_ | exact zc | (refine zi fun hb => ?_; try simp at hb) | intro (bk : Nat))
  refine HR.cond I (fun h5 => ?_) (fun h5 => ?_)
  ·have h5 : (!(((f.fr != f.dst) && (f.dst == 255)) && (f.ta == 255))) = true := h5
   rw [← hf] at h5
   repeat' (first | refine zh ?_ | apply zb ?_ ?_ | exact zc | (refine zi fun hb => ?_; try simp at hb) | intro (bk : Nat))
   refine HR.ret Tryz.func162 I [_] (fun _ _ => ⟨I, trivial⟩) ?_
   exact fun w' hw => ⟨by rw [fchk_4 hk h2 h3 (by simpa using h5)]; rfl, hw.belowB⟩
  ·have h5 : (!(((f.fr != f.dst) && (f.dst == 255)) && (f.ta == 255))) = false := h5
   rw [← hf] at h5
   repeat' (first | refine zh ?_ | apply zb ?_ ?_ | exact zc | (refine zi fun hb => ?_; try simp at hb) | intro (bk : Nat))
   refine HR.ret Tryz.func162 I [_] (fun _ _ => ⟨I, trivial⟩) ?_
   exact fun w' hw => ⟨by rw [fchk_0 hk h2 h3 (by simpa using h5)]; rfl, hw.belowB⟩
 have h6 : (f.kd == 4) = false := h6
 repeat' (first | refine zh ?_ | apply zb ?_ ?_ | exact zc | (refine zi fun hb => ?_; try simp at hb) | intro (bk : Nat))
 refine HR.cond I (fun h7 => ?_) (fun h7 => ?_)
 ·have h7 : (f.kd == 3) = true := h7
  have hf := fform_poll (f := f) (by rw [h4, h6]; rfl) h7
  repeat' (first | refine zh ?_ | apply zb ?_ ?_ | exact zc | (refine zi fun hb => ?_; try simp at hb) | intro (bk : Nat))
  refine HR.cond I (fun h5 => ?_) (fun h5 => ?_)
  ·have h5 : (!(((f.fr != f.dst) && (f.da == [])) && (f.dst != 255))) = true := h5
   rw [show (f.da == []) = decide (f.da = []) by cases f.da <;> rfl, ← hf] at h5
   repeat' (first | refine zh ?_ | apply zb ?_ ?_ | exact zc | (refine zi fun hb => ?_; try simp at hb) | intro (bk : Nat))
   refine HR.ret Tryz.func162 I [_] (fun _ _ => ⟨I, trivial⟩) ?_
   exact fun w' hw => ⟨by rw [fchk_4 hk h2 h3 (by simpa using h5)]; rfl, hw.belowB⟩
  ·have h5 : (!(((f.fr != f.dst) && (f.da == [])) && (f.dst != 255))) = false := h5
   rw [show (f.da == []) = decide (f.da = []) by cases f.da <;> rfl, ← hf] at h5
   repeat' (first | refine zh ?_ | apply zb ?_ ?_ | exact zc | (refine zi fun hb => ?_; try simp at hb) | intro (bk : Nat))
   refine HR.ret Tryz.func162 I [_] (fun _ _ => ⟨I, trivial⟩) ?_
   exact fun w' hw => ⟨by rw [fchk_0 hk h2 h3 (by simpa using h5)]; rfl, hw.belowB⟩
 ·have h7 : (f.kd == 3) = false := h7
  have hf := fform_data (f := f) (by rw [h4, h6]; rfl) h7
  repeat' (first | refine zh ?_ | apply zb ?_ ?_ | exact zc | (refine zi fun hb => ?_; try simp at hb) | intro (bk : Nat))
  refine HR.cond I (fun h5 => ?_) (fun h5 => ?_)
  ·have h5 : (!(f.fr != f.dst)) = true := h5
   rw [← hf] at h5
   repeat' (first | refine zh ?_ | apply zb ?_ ?_ | exact zc | (refine zi fun hb => ?_; try simp at hb) | intro (bk : Nat))
   refine HR.ret Tryz.func162 I [_] (fun _ _ => ⟨I, trivial⟩) ?_
   exact fun w' hw => ⟨by rw [fchk_4 hk h2 h3 (by simpa using h5)]; rfl, hw.belowB⟩
  ·have h5 : (!(f.fr != f.dst)) = false := h5
   rw [← hf] at h5
   repeat' (first | refine zh ?_ | apply zb ?_ ?_ | exact zc | (refine zi fun hb => ?_; try simp at hb) | intro (bk : Nat))
   refine HR.ret Tryz.func162 I [_] (fun _ _ => ⟨I, trivial⟩) ?_
   exact fun w' hw => ⟨by rw [fchk_0 hk h2 h3 (by simpa using h5)]; rfl, hw.belowB⟩
end Go.Proofs.YtgfdoognildoeaaGreat
namespace Go.Proofs.YtgfdoognildoeaaGreat
open Go.GX Go.RowKit
attribute [local irreducible] Calls Run RunL RunQ RunD HR HL HD blkC ownC mapC Rd slicesC iterC
open Nd
theorem fn72 : IsFn Tryz.prog 72 := ⟨⟨_, _, Tryz.func72, rfl, by decide⟩⟩
theorem fn75 : IsFn Tryz.prog 75 := ⟨⟨_, _, Tryz.func75, rfl, by decide⟩⟩
theorem fn73 : IsFn Tryz.prog 73 := ⟨⟨_, _, Tryz.func73, rfl, by decide⟩⟩
theorem fn74 : IsFn Tryz.prog 74 := ⟨⟨_, _, Tryz.func74, rfl, by decide⟩⟩
theorem sameLi_any (a b : List Li) (va vb : Value) (w : World) (ha : Sl w va (cellsOf liC a) a.length) (hb : Sl w vb (cellsOf liC b) b.length) (hla : a.length ≤ 1000000) :
  Calls Tryz.prog 72 #[va, vb] w fun e' w' => e' = .returned (.bool (decide (a = b))) ∧ Below w.heap.size w w' := by
 refine calls_hr Tryz.func72 I (Nat.le_of_ble_eq_true I) ?_
 refine HR.sub (σ' := [(0, va), (1, vb)]) ⟨I, I, trivial⟩ ?_
 repeat' (first | refine zh ?_ | refine HL.lenR (Rd.arg ha) I I I ?_ | refine HL.lenR (Rd.arg hb) I I I ?_ | apply zb ?_ ?_ | exact zc | (refine zi fun hb => ?_; try simp at hb) | intro (bk : Nat))
 refine HR.cond I (fun h1 => ?_) (fun h1 => ?_)
 ·repeat' (first | refine zh ?_ | apply zb ?_ ?_ | exact zc | (refine zi fun hb => ?_; try simp at hb) | intro (bk : Nat))
  refine HR.ret Tryz.func72 I [_] (fun _ _ => ⟨I, trivial⟩) ?_
  have : a ≠ b := by rintro rfl; simp at h1
  exact fun w' hw => ⟨by simp [this, resV], hw.belowB⟩
 have hl : a.length = b.length := by have h1' : ((a.length : Int) != (b.length : Int)) = false := h1; simp at h1'; omega
 repeat' (first | refine zh ?_ | apply zb ?_ ?_ | exact zc | (refine zi fun hb => ?_; try simp at hb) | intro (bk : Nat))
 refine HR.loop (ι := Nat) (fun k => k ≤ a.length ∧ a.take k = b.take k) (fun k => [(0, va), (1, vb), (5, .int .i64 (k : Int))]) (fun _ => []) (fun k => a.length - k) 0 ⟨Nat.zero_le _, by simp⟩ ⟨I, I, I, trivial⟩ Ent.refl ?_
 rintro k ⟨hk, hg⟩ ih
 repeat' (first | refine zh ?_ | refine HL.lenR (Rd.arg ha) I I I ?_ | apply zb ?_ ?_ | exact zc | (refine zi fun hb => ?_; try simp at hb) | intro (bk : Nat))
 refine HR.cond I (fun h2 => ?_) (fun h2 => ?_)
 ·have hlt : k < a.length := by have := of_decide_eq_true h2; omega
  obtain ⟨x, hx⟩ := getSome hlt
  obtain ⟨y, hy⟩ := getSome (show k < b.length by omega)
  repeat' (first | refine zh ?_ | apply zb ?_ ?_ | exact zc | (refine zi fun hb => ?_; try simp at hb) | intro (bk : Nat))
  refine HR.regionQ hmix (by kernel_rfl) ?_
  repeat' (first | refine zq ?_ | refine HQ.idxR (Rd.arg ha) elemLi k I I I I hlt ?_ | refine HQ.idxR (Rd.arg hb) elemLi k I I I I (by omega) ?_ | refine HQ.loadE (Rd.arg ha) I I I I (by simp) I (cellsOf_get liC_len hx) ?_ | refine HQ.loadE (Rd.arg hb) I I I I (by simp) I (cellsOf_get liC_len hy) ?_ | refine RunQ.neS I (by kernel_rfl) (by kernel_rfl) I I I ?_ | apply zb ?_ ?_ | exact zc | (refine zi fun hb => ?_; try simp at hb))
  refine HR.cond I (fun h3 => ?_) (fun h3 => ?_)
  ·repeat' (first | refine zh ?_ | apply zb ?_ ?_ | exact zc | (refine zi fun hb => ?_; try simp at hb) | intro (bk : Nat))
   refine HR.ret Tryz.func72 I [_] (fun _ _ => ⟨I, trivial⟩) ?_
   have : a ≠ b := by rintro rfl; rw [hx] at hy; cases hy; simp at h3
   exact fun w' hw => ⟨by simp [this, resV], hw.belowB⟩
  ·repeat' (first | refine zh ?_ | apply zb ?_ ?_ | exact zc | (refine zi fun hb => ?_; try simp at hb) | intro (bk : Nat))
   refine ih (k + 1) _ _ ⟨hlt, ?_⟩ (by omega) ⟨I, I, I, trivial⟩ Ent.refl
   rw [take_succ_get hx, take_succ_get hy, hg]
   have hxy : x = y := by
    obtain ⟨a1, a2, a3⟩ := x
    obtain ⟨b1, b2, b3⟩ := y
    simp at h3
    simp [h3]
   rw [hxy]
 ·have hke : k = a.length := by have := of_decide_eq_false h2; omega
  subst hke
  repeat' (first | refine zh ?_ | apply zb ?_ ?_ | exact zc | (refine zi fun hb => ?_; try simp at hb) | intro (bk : Nat))
  refine HR.ret Tryz.func72 I [_] (fun _ _ => ⟨I, trivial⟩) ?_
  have : a = b := by rw [← List.take_length (l := a), hg, hl, List.take_length]
  exact fun w' hw => ⟨by simp [this, resV], hw.belowB⟩
theorem samePr_any (a b : List Pr) (va vb : Value) (w : World) (ha : Sl w va (cellsOf prC a) a.length) (hb : Sl w vb (cellsOf prC b) b.length) (hla : a.length ≤ 1000000) :
  Calls Tryz.prog 75 #[va, vb] w fun e' w' => e' = .returned (.bool (decide (a = b))) ∧ Below w.heap.size w w' := by
 refine calls_hr Tryz.func75 I (Nat.le_of_ble_eq_true I) ?_
 refine HR.sub (σ' := [(0, va), (1, vb)]) ⟨I, I, trivial⟩ ?_
 repeat' (first | refine zh ?_ | refine HL.lenR (Rd.arg ha) I I I ?_ | refine HL.lenR (Rd.arg hb) I I I ?_ | apply zb ?_ ?_ | exact zc | (refine zi fun hb => ?_; try simp at hb) | intro (bk : Nat))
 refine HR.cond I (fun h1 => ?_) (fun h1 => ?_)
 ·repeat' (first | refine zh ?_ | apply zb ?_ ?_ | exact zc | (refine zi fun hb => ?_; try simp at hb) | intro (bk : Nat))
  refine HR.ret Tryz.func75 I [_] (fun _ _ => ⟨I, trivial⟩) ?_
  have : a ≠ b := by rintro rfl; simp at h1
  exact fun w' hw => ⟨by simp [this, resV], hw.belowB⟩
 have hl : a.length = b.length := by have h1' : ((a.length : Int) != (b.length : Int)) = false := h1; simp at h1'; omega
 repeat' (first | refine zh ?_ | apply zb ?_ ?_ | exact zc | (refine zi fun hb => ?_; try simp at hb) | intro (bk : Nat))
 refine HR.loop (ι := Nat) (fun k => k ≤ a.length ∧ a.take k = b.take k) (fun k => [(0, va), (1, vb), (5, .int .i64 (k : Int))]) (fun _ => []) (fun k => a.length - k) 0 ⟨Nat.zero_le _, by simp⟩ ⟨I, I, I, trivial⟩ Ent.refl ?_
 rintro k ⟨hk, hg⟩ ih
 repeat' (first | refine zh ?_ | refine HL.lenR (Rd.arg ha) I I I ?_ | apply zb ?_ ?_ | exact zc | (refine zi fun hb => ?_; try simp at hb) | intro (bk : Nat))
 refine HR.cond I (fun h2 => ?_) (fun h2 => ?_)
 ·have hlt : k < a.length := by have := of_decide_eq_true h2; omega
  obtain ⟨x, hx⟩ := getSome hlt
  obtain ⟨y, hy⟩ := getSome (show k < b.length by omega)
  repeat' (first | refine zh ?_ | apply zb ?_ ?_ | exact zc | (refine zi fun hb => ?_; try simp at hb) | intro (bk : Nat))
  refine HR.regionQ hmix (by kernel_rfl) ?_
  repeat' (first | refine zq ?_ | refine HQ.idxR (Rd.arg ha) elemPr k I I I I hlt ?_ | refine HQ.idxR (Rd.arg hb) elemPr k I I I I (by omega) ?_ | refine HQ.loadE (Rd.arg ha) I I I I (by simp) I (cellsOf_get prC_len hx) ?_ | refine HQ.loadE (Rd.arg hb) I I I I (by simp) I (cellsOf_get prC_len hy) ?_ | refine RunQ.neS I (by kernel_rfl) (by kernel_rfl) I I I ?_ | apply zb ?_ ?_ | exact zc | (refine zi fun hb => ?_; try simp at hb))
  refine HR.cond I (fun h3 => ?_) (fun h3 => ?_)
  ·repeat' (first | refine zh ?_ | apply zb ?_ ?_ | exact zc | (refine zi fun hb => ?_; try simp at hb) | intro (bk : Nat))
   refine HR.ret Tryz.func75 I [_] (fun _ _ => ⟨I, trivial⟩) ?_
   have : a ≠ b := by rintro rfl; rw [hx] at hy; cases hy; simp at h3
   exact fun w' hw => ⟨by simp [this, resV], hw.belowB⟩
  ·repeat' (first | refine zh ?_ | apply zb ?_ ?_ | exact zc | (refine zi fun hb => ?_; try simp at hb) | intro (bk : Nat))
   refine ih (k + 1) _ _ ⟨hlt, ?_⟩ (by omega) ⟨I, I, I, trivial⟩ Ent.refl
   rw [take_succ_get hx, take_succ_get hy, hg]
   have hxy : x = y := by
    obtain ⟨a1, a2⟩ := x
    obtain ⟨b1, b2⟩ := y
    simp at h3
    simp [h3]
   rw [hxy]
 ·have hke : k = a.length := by have := of_decide_eq_false h2; omega
  subst hke
  repeat' (first | refine zh ?_ | apply zb ?_ ?_ | exact zc | (refine zi fun hb => ?_; try simp at hb) | intro (bk : Nat))
  refine HR.ret Tryz.func75 I [_] (fun _ _ => ⟨I, trivial⟩) ?_
  have : a = b := by rw [← List.take_length (l := a), hg, hl, List.take_length]
  exact fun w' hw => ⟨by simp [this, resV], hw.belowB⟩
theorem sameSn_any (a b : List Sn) (va vb : Value) (w : World) (ha : Sl w va (cellsOf snC a) a.length) (hb : Sl w vb (cellsOf snC b) b.length) (hla : a.length ≤ 1000000) :
  Calls Tryz.prog 73 #[va, vb] w fun e' w' => e' = .returned (.bool (decide (a = b))) ∧ Below w.heap.size w w' := by
 refine calls_hr Tryz.func73 I (Nat.le_of_ble_eq_true I) ?_
 refine HR.sub (σ' := [(0, va), (1, vb)]) ⟨I, I, trivial⟩ ?_
 repeat' (first | refine zh ?_ | refine HL.lenR (Rd.arg ha) I I I ?_ | refine HL.lenR (Rd.arg hb) I I I ?_ | apply zb ?_ ?_ | exact zc | (refine zi fun hb => ?_; try simp at hb) | intro (bk : Nat))
 refine HR.cond I (fun h1 => ?_) (fun h1 => ?_)
 ·repeat' (first | refine zh ?_ | apply zb ?_ ?_ | exact zc | (refine zi fun hb => ?_; try simp at hb) | intro (bk : Nat))
  refine HR.ret Tryz.func73 I [_] (fun _ _ => ⟨I, trivial⟩) ?_
  have : a ≠ b := by rintro rfl; simp at h1
  exact fun w' hw => ⟨by simp [this, resV], hw.belowB⟩
 have hl : a.length = b.length := by have h1' : ((a.length : Int) != (b.length : Int)) = false := h1; simp at h1'; omega
 repeat' (first | refine zh ?_ | apply zb ?_ ?_ | exact zc | (refine zi fun hb => ?_; try simp at hb) | intro (bk : Nat))
 refine HR.loop (ι := Nat) (fun k => k ≤ a.length ∧ a.take k = b.take k) (fun k => [(0, va), (1, vb), (5, .int .i64 (k : Int))]) (fun _ => []) (fun k => a.length - k) 0 ⟨Nat.zero_le _, by simp⟩ ⟨I, I, I, trivial⟩ Ent.refl ?_
 rintro k ⟨hk, hg⟩ ih
 repeat' (first | refine zh ?_ | refine HL.lenR (Rd.arg ha) I I I ?_ | apply zb ?_ ?_ | exact zc | (refine zi fun hb => ?_; try simp at hb) | intro (bk : Nat))
 refine HR.cond I (fun h2 => ?_) (fun h2 => ?_)
 ·have hlt : k < a.length := by have := of_decide_eq_true h2; omega
  obtain ⟨x, hx⟩ := getSome hlt
  obtain ⟨y, hy⟩ := getSome (show k < b.length by omega)
  repeat' (first | refine zh ?_ | apply zb ?_ ?_ | exact zc | (refine zi fun hb => ?_; try simp at hb) | intro (bk : Nat))
  refine HR.regionQ hmix (by kernel_rfl) ?_
  repeat' (first | refine zq ?_ | refine HQ.idxR (Rd.arg ha) elemSn k I I I I hlt ?_ | refine HQ.idxR (Rd.arg hb) elemSn k I I I I (by omega) ?_ | refine HQ.loadE (Rd.arg ha) I I I I (by simp) I (cellsOf_get snC_len hx) ?_ | refine HQ.loadE (Rd.arg hb) I I I I (by simp) I (cellsOf_get snC_len hy) ?_ | refine RunQ.neS2 I (by kernel_rfl) (by kernel_rfl) I I I ?_ | apply zb ?_ ?_ | exact zc | (refine zi fun hb => ?_; try simp at hb))
  refine HR.cond I (fun h3 => ?_) (fun h3 => ?_)
  ·repeat' (first | refine zh ?_ | apply zb ?_ ?_ | exact zc | (refine zi fun hb => ?_; try simp at hb) | intro (bk : Nat))
   refine HR.ret Tryz.func73 I [_] (fun _ _ => ⟨I, trivial⟩) ?_
   have : a ≠ b := by rintro rfl; rw [hx] at hy; cases hy; simp at h3
   exact fun w' hw => ⟨by simp [this, resV], hw.belowB⟩
  ·repeat' (first | refine zh ?_ | apply zb ?_ ?_ | exact zc | (refine zi fun hb => ?_; try simp at hb) | intro (bk : Nat))
   refine ih (k + 1) _ _ ⟨hlt, ?_⟩ (by omega) ⟨I, I, I, trivial⟩ Ent.refl
   rw [take_succ_get hx, take_succ_get hy, hg]
   have hxy : x = y := by
    obtain ⟨⟨a1, a2, a3, a4, a5, a6, a7, a8, a9⟩, a10, a11⟩ := x
    obtain ⟨⟨b1, b2, b3, b4, b5, b6, b7, b8, b9⟩, b10, b11⟩ := y
    simp at h3
    simp [h3]
   rw [hxy]
 ·have hke : k = a.length := by have := of_decide_eq_false h2; omega
  subst hke
  repeat' (first | refine zh ?_ | apply zb ?_ ?_ | exact zc | (refine zi fun hb => ?_; try simp at hb) | intro (bk : Nat))
  refine HR.ret Tryz.func73 I [_] (fun _ _ => ⟨I, trivial⟩) ?_
  have : a = b := by rw [← List.take_length (l := a), hg, hl, List.take_length]
  exact fun w' hw => ⟨by simp [this, resV], hw.belowB⟩
theorem sameMa_any (a b : List Ma) (va vb : Value) (w : World) (ha : Sl w va (cellsOf maC a) a.length) (hb : Sl w vb (cellsOf maC b) b.length) (hla : a.length ≤ 1000000) :
  Calls Tryz.prog 74 #[va, vb] w fun e' w' => e' = .returned (.bool (decide (a = b))) ∧ Below w.heap.size w w' := by
 refine calls_hr Tryz.func74 I (Nat.le_of_ble_eq_true I) ?_
 refine HR.sub (σ' := [(0, va), (1, vb)]) ⟨I, I, trivial⟩ ?_
 repeat' (first | refine zh ?_ | refine HL.lenR (Rd.arg ha) I I I ?_ | refine HL.lenR (Rd.arg hb) I I I ?_ | apply zb ?_ ?_ | exact zc | (refine zi fun hb => ?_; try simp at hb) | intro (bk : Nat))
 refine HR.cond I (fun h1 => ?_) (fun h1 => ?_)
 ·repeat' (first | refine zh ?_ | apply zb ?_ ?_ | exact zc | (refine zi fun hb => ?_; try simp at hb) | intro (bk : Nat))
  refine HR.ret Tryz.func74 I [_] (fun _ _ => ⟨I, trivial⟩) ?_
  have : a ≠ b := by rintro rfl; simp at h1
  exact fun w' hw => ⟨by simp [this, resV], hw.belowB⟩
 have hl : a.length = b.length := by have h1' : ((a.length : Int) != (b.length : Int)) = false := h1; simp at h1'; omega
 repeat' (first | refine zh ?_ | apply zb ?_ ?_ | exact zc | (refine zi fun hb => ?_; try simp at hb) | intro (bk : Nat))
 refine HR.loop (ι := Nat) (fun k => k ≤ a.length ∧ a.take k = b.take k) (fun k => [(0, va), (1, vb), (5, .int .i64 (k : Int))]) (fun _ => []) (fun k => a.length - k) 0 ⟨Nat.zero_le _, by simp⟩ ⟨I, I, I, trivial⟩ Ent.refl ?_
 rintro k ⟨hk, hg⟩ ih
 repeat' (first | refine zh ?_ | refine HL.lenR (Rd.arg ha) I I I ?_ | apply zb ?_ ?_ | exact zc | (refine zi fun hb => ?_; try simp at hb) | intro (bk : Nat))
 refine HR.cond I (fun h2 => ?_) (fun h2 => ?_)
 ·have hlt : k < a.length := by have := of_decide_eq_true h2; omega
  obtain ⟨x, hx⟩ := getSome hlt
  obtain ⟨y, hy⟩ := getSome (show k < b.length by omega)
  repeat' (first | refine zh ?_ | apply zb ?_ ?_ | exact zc | (refine zi fun hb => ?_; try simp at hb) | intro (bk : Nat))
  refine HR.regionQ hmix (by kernel_rfl) ?_
  repeat' (first | refine zq ?_ | refine HQ.idxR (Rd.arg ha) elemMa k I I I I hlt ?_ | refine HQ.idxR (Rd.arg hb) elemMa k I I I I (by omega) ?_ | refine HQ.loadE (Rd.arg ha) I I I I (by simp) I (cellsOf_get maC_len hx) ?_ | refine HQ.loadE (Rd.arg hb) I I I I (by simp) I (cellsOf_get maC_len hy) ?_ | refine RunQ.neS2 I (by kernel_rfl) (by kernel_rfl) I I I ?_ | apply zb ?_ ?_ | exact zc | (refine zi fun hb => ?_; try simp at hb))
  refine HR.cond I (fun h3 => ?_) (fun h3 => ?_)
  ·repeat' (first | refine zh ?_ | apply zb ?_ ?_ | exact zc | (refine zi fun hb => ?_; try simp at hb) | intro (bk : Nat))
   refine HR.ret Tryz.func74 I [_] (fun _ _ => ⟨I, trivial⟩) ?_
   have : a ≠ b := by rintro rfl; rw [hx] at hy; cases hy; simp at h3
   exact fun w' hw => ⟨by simp [this, resV], hw.belowB⟩
  ·repeat' (first | refine zh ?_ | apply zb ?_ ?_ | exact zc | (refine zi fun hb => ?_; try simp at hb) | intro (bk : Nat))
   refine ih (k + 1) _ _ ⟨hlt, ?_⟩ (by omega) ⟨I, I, I, trivial⟩ Ent.refl
   rw [take_succ_get hx, take_succ_get hy, hg]
   have hxy : x = y := by
    obtain ⟨⟨a1, a2, a3, a4, a5, a6, a7, a8, a9⟩, a10⟩ := x
    obtain ⟨⟨b1, b2, b3, b4, b5, b6, b7, b8, b9⟩, b10⟩ := y
    simp at h3
    simp [h3]
   rw [hxy]
 ·have hke : k = a.length := by have := of_decide_eq_false h2; omega
  subst hke
  repeat' (first | refine zh ?_ | apply zb ?_ ?_ | exact zc | (refine zi fun hb => ?_; try simp at hb) | intro (bk : Nat))
  refine HR.ret Tryz.func74 I [_] (fun _ _ => ⟨I, trivial⟩) ?_
  have : a = b := by rw [← List.take_length (l := a), hg, hl, List.take_length]
  exact fun w' hw => ⟨by simp [this, resV], hw.belowB⟩
end Go.Proofs.YtgfdoognildoeaaGreat
namespace Go.GX
open Go.RowKit
section
variable {P : Program} {ops : Array Oper} {Q : Exit → Act → World → Prop} {md : Region.Mode} {S : World → Prop} {T : List Nat} {listed : Array Bool}
def wpAnyW (P : Program) (md : Region.Mode) (ops : Array Oper) (Q : Exit → Act → World → Prop) (S : World → Prop) (T : List Nat) : Nat → Array Bool → Act → World → Prop
 | 0, listed, a, w => Region.ready md ops listed = [] ∧ Q .normal a w
 | fuel + 1, listed, a, w =>
  (Region.ready md ops listed = [] → Q .normal a w) ∧
  ∀ i ∈ Region.ready md ops listed, wpOp P ops Q i (fun a' w' => (natIn i T = true ∨ S w') ∧ wpAnyW P md ops Q S T fuel (listed.setIfInBounds i true) a' w') a w
theorem wpAny_of_W : ∀ (fuel : Nat) (listed : Array Bool) (a : Act) (w : World), wpAnyW P md ops Q S T fuel listed a w → wpAny P md ops Q fuel listed a w
 | 0, _, _, _, h => h
 | fuel + 1, _, _, _, h => ⟨h.1, fun i hi => wpOp_mono (fun a' w' h' => wpAny_of_W fuel _ a' w' h'.2) (h.2 i hi)⟩
def waitsW (md : Region.Mode) (ops : Array Oper) (T : List Nat) (z : Nat) : Bool := (List.range ops.size).all fun i => natIn i T || natIn i (closeL md ops 12 (predL md ops z))
theorem waitsW_spec {z : Nat} (hz : waitsW md ops T z = true) (hc : Closed md ops listed) (hr : z ∈ Region.ready md ops listed) {i : Nat} (hi : i < ops.size) (hne : natIn i T = false) : listed.getD i false = true := by
 have h1 := List.all_eq_true.1 hz i (List.mem_range.2 hi)
 rw [hne, Bool.false_or] at h1
 obtain ⟨_, oz, hoz, hall⟩ := mem_ready.1 hr
 refine closeL_listed hc 12 _ (fun y hy => ?_) i (natIn_mem h1)
 obtain ⟨o, ho, e, he, hb, rfl⟩ := predL_spec hy
 rw [hoz] at ho; cases ho
 exact hall e he hb
theorem wpAnyW_first (hz : ∀ z, natIn z T = true → waitsW md ops T z = true) {i : Nat} {oi : Oper} {v : Value} (hi : ops[i]? = some oi) (hiz : natIn i T = false) (hsel : ∀ (j : Nat) (o : Oper) cs b, ops[j]? = some o → o.op ≠ .select cs b)
  (hQ : ∀ c a w, Q (.panic c) (a.put oi.dst v) w → Q (.panic c) a w) :
  ∀ (fuel : Nat) (listed : Array Bool) (a : Act) (w : World), Closed md ops listed →
   (∀ j oj, ops[j]? = some oj → j ≠ i → listed.getD j true = false → (∀ e ∈ oj.after, Region.binds md e = true → e.on ≠ i) → oi.apart ops oj = true) →
   i ∈ Region.ready md ops listed → YieldsIf P ops S oi v a → S w →
   wpAnyW P md ops Q S T fuel (listed.setIfInBounds i true) (a.put oi.dst v) w → wpAnyW P md ops Q S T (fuel + 1) listed a w := by
 intro fuel
 induction fuel with
 | zero =>
  intro listed a w _ _ hr hy hS H
  refine ⟨fun h => (by rw [h] at hr; cases hr), fun j hj => ?_⟩
  by_cases hji : j = i
  ·subst hji; exact hy.wpOp hi hS ⟨.inr hS, H⟩
  ·have := ready_mono hj hji
   rw [H.1] at this
   cases this
 | succ fuel ih =>
  intro listed a w hc hfree hr hy hS H
  refine ⟨fun h => (by rw [h] at hr; cases hr), fun j hj => ?_⟩
  by_cases hji : j = i
  ·subst hji; exact hy.wpOp hi hS ⟨.inr hS, H⟩
  ·have h1 := H.2 j (ready_mono hj hji)
   obtain ⟨hjun, oj, hoj, hall⟩ := mem_ready.1 hj
   have h0 := (mem_ready.1 hr).1
   have hnot : ∀ e ∈ oj.after, Region.binds md e = true → e.on ≠ i := fun e he hb heq => by
    have h1 := hall e he hb
    rw [heq] at h1
    rw [getD_two h1] at h0; cases h0
   have hjz : natIn j T = false := by
    rw [← Bool.not_eq_true]
    intro e
    have := waitsW_spec (hz j e) hc hj (Array.getElem?_eq_some_iff.1 hi).1 hiz
    rw [getD_two this] at h0; cases h0
   have h2 := wpOp_putIf hoj (hfree j oj hoj hji hjun hnot) (fun cs b => hsel i oi cs b hi) (fun cs b => hsel j oj cs b hoj) hQ hy h1
   have hfree' : ∀ k ok, ops[k]? = some ok → k ≠ i → (listed.setIfInBounds j true).getD k true = false →
     (∀ e ∈ ok.after, Region.binds md e = true → e.on ≠ i) → oi.apart ops ok = true := fun k ok hk hki hun hno => by
    refine hfree k ok hk hki ?_ hno
    by_cases hjk : j = k
    ·subst hjk; exact hjun
    ·rw [getD_set_ne true hjk] at hun; exact hun
   refine wpOp_mono (fun a' w' h3 => ?_) h2
   have hS' : S w' := h3.2.1.resolve_left (by rw [hjz]; nofun)
   refine ⟨.inr hS', ih (listed.setIfInBounds j true) a' w' (hc.set hj) hfree' (ready_mono hr (Ne.symm hji)) h3.1 hS' ?_⟩
   rw [Array.setIfInBounds_comm _ _ hji]
   exact h3.2.2
end
def offT (T : List Nat) : List (Nat × Bool) → Bool
 | [] => true
 | (i, _) :: p => match natIn i T with
  | true => false
  | false => offT T p
def allFalse (T : List Nat) : List (Nat × Bool) := T.map fun z => (z, false)
def planOkW (ops : Array Oper) (p : List (Nat × Bool)) (T : List Nat) : Bool := Region.noSelect ops && Nat.beq (p.length + T.length) ops.size && offT T p && T.all (waitsW .any ops T) && planB ops (p ++ allFalse T) (Array.replicate ops.size false)
section
variable {P : Program} {f : FuncId} {N : Nat} {k : List Item} {σ : Store} {B : Base} {H F : List Chunk} {R : Ending → World → Prop} {ops l : List Oper} {o : Oper} {K : Act → World → Prop} {S : World → Prop} {T : List Nat}
def wpTail (P : Program) (ops : Array Oper) (K : Act → World → Prop) : List Nat → Act → World → Prop
 | [], a, w => K a w
 | z :: l, a, w => wpOp P ops (QN K) z (fun a w => wpTail P ops K l a w) a w
theorem wpAnyW_of_tail {ops : Array Oper} : ∀ (t : List Nat) (listed : Array Bool) (a : Act) (w : World), (∀ z ∈ t, natIn z T = true) → planB ops (allFalse t) listed = true → wpTail P ops K t a w → wpAnyW P .any ops (QN K) S T t.length listed a w
 | [], listed, a, w, _, hB, h => ⟨by simpa [planB, allFalse] using hB, rfl, h⟩
 | z :: t, listed, a, w, ht, hB, h => by
  simp only [allFalse, List.map_cons, planB, Bool.and_eq_true, decide_eq_true_eq] at hB
  refine ⟨fun h0 => absurd (hB.1.symm.trans h0) (by simp), fun j hj => ?_⟩
  rw [hB.1] at hj
  have : j = z := by simpa using hj
  subst this
  exact wpOp_mono (fun a' w' h' => ⟨.inl (ht j (List.mem_cons_self ..)), wpAnyW_of_tail t _ _ _ (fun y hy => ht y (List.mem_cons_of_mem _ hy)) hB.2 h'⟩) h
theorem wpAnyW_of_plan {ops : Array Oper} (hn : Region.noSelect ops = true) (hz : ∀ z, natIn z T = true → waitsW .any ops T z = true) : ∀ (p : List (Nat × Bool)) (listed : Array Bool) (a : Act) (w : World), S w → Closed .any ops listed → offT T p = true →
  planB ops (p ++ allFalse T) listed = true → wpPlan P ops S (fun a w => wpTail P ops K T a w) p a w → wpAnyW P .any ops (QN K) S T (p.length + T.length) listed a w
 | [], listed, a, w, hS, _, _, hB, h => by
  rw [List.length_nil, Nat.zero_add]
  exact wpAnyW_of_tail T listed a w (fun z hz => natIn_of hz) hB h
 | (i, true) :: p, listed, a, w, hS, hc, hnz, hB, h => by
  obtain ⟨o, v, ho, hy, h⟩ := h
  simp only [List.cons_append, planB, Bool.and_eq_true] at hB
  have hf := Region.free_spec ho hB.1.2
  unfold offT at hnz
  split at hnz
  ·cases hnz
  ·rename_i hb
   have hr : i ∈ Region.ready .any ops listed := by simpa using hB.1.1
   rw [List.length_cons, Nat.add_right_comm]
   exact wpAnyW_first hz ho hb (Region.noSelect_spec hn) (fun c a w h => absurd h.1 (by nofun)) _ listed a w hc hf hr hy hS (wpAnyW_of_plan hn hz p _ _ _ hS (hc.set hr) hnz hB.2 h)
 | (i, false) :: p, listed, a, w, hS, hc, hnz, hB, h => by
  simp only [List.cons_append, planB, Bool.and_eq_true, decide_eq_true_eq] at hB
  rw [List.length_cons, Nat.add_right_comm]
  refine ⟨fun h0 => absurd (hB.1.symm.trans h0) (by simp), fun j hj => ?_⟩
  have hj0 := hj
  rw [hB.1] at hj
  have : j = i := by simpa using hj
  subst this
  unfold offT at hnz
  split at hnz
  ·cases hnz
  ·exact wpOp_QN (wpOp_mono (fun a' w' h' => ⟨.inr h'.1, wpAnyW_of_plan hn hz p _ _ _ h'.1 (hc.set hj0) hnz hB.2 h'.2⟩) h)
def KW (P : Program) (ops : List Oper) (T : List Nat) (K : Act → World → Prop) : Act → World → Prop := fun a w => wpTail P ops.toArray K T a w
theorem HR.regionW (p : List (Nat × Bool)) (T : List Nat) (is : List Nat) (hF : pickC H is = some F) (hd : distinctN is = true) {id : Nat} (hm : P.follows .mixedOrders = true) (hB : planOkW ops.toArray p T = true)
  (h : HD P N ops p σ B H F (KW P ops T (CRun P f k R))) : HR P f N (.code (.region id ops.toArray true) :: k) σ B H R := by
 intro w hw a ha
 simp only [planOkW, Bool.and_eq_true] at hB
 obtain ⟨⟨⟨⟨h1, h2⟩, h3⟩, h4⟩, h5⟩ := hB
 have hb : Below w.heap.size w { w with drawn := w.drawn + 1 } := ⟨rfl, rfl, rfl, Nat.le_refl _, fun _ _ => rfl⟩
 have hw1 : Sat B H { w with drawn := w.drawn + 1 } := hw.grow hb
 refine CRun.of_wp (wp_region_any hm (wpAny_of_W (S := fun w => Sat B F w) (T := T) _ _ _ _ ?_))
 have hsz := (Nat.eq_of_beq_eq_true h2).symm
 rw [hsz]
 rw [hsz] at h5
 exact wpAnyW_of_plan h1 (fun z hz => List.all_eq_true.1 h4 z (natIn_mem hz)) p _ _ _ (hw1.pick is hF hd) (Closed.start (Nat.eq_of_beq_eq_true h2)) h3 h5 (h _ hw1 (hw1.pick is hF hd) a ha)
def mapOps (ops : List Oper) : List Nat → Option (List Oper)
 | [] => some []
 | z :: l => match ops[z]?, mapOps ops l with
  | some o, some r => some (o :: r)
  | _, _ => none
theorem wpTail_of_list : ∀ (T : List Nat) (l : List Oper), mapOps ops T = some l → ∀ a w, wpList P ops.toArray (QN K) l a w → wpTail P ops.toArray K T a w
 | [], l, hl, a, w, h => by cases hl; exact h.2
 | z :: T, l, hl, a, w, h => by
  unfold mapOps at hl
  split at hl
  ·rename_i o r ho hr
   cases hl
   unfold wpTail
   unfold wpList at h
   simp only [wpOp, show ops.toArray[z]? = some o by simpa using ho]
   split
   ·rename_i hw'
    rw [if_pos hw'] at h
    rcases h with h | h
    ·exact .inl (Oper.wp_mono (fun a' w' h' => wpTail_of_list T r hr a' w' h') h)
    ·exact (QN_noOut (K := K) h.2).elim
   ·rename_i hw'
    rw [if_neg hw'] at h
    exact wpTail_of_list T r hr _ _ h
  ·cases hl
theorem HD.tail (hl : mapOps ops T = some l) (h : HL P N ops l σ B H K) : HD P N ops [] σ B H F (KW P ops T K) := by
 intro w hw _ a ha
 exact wpTail_of_list T l hl a w (h w hw a ha)
end
end Go.GX
