/- A part of the proof: contracts of the program's functions. Conditions: none. -/
import Derived.Carry
import Derived.Deep.MidRow
import Derived.Deep.Quiet
import Derived.Laws.IdiomRangeMap
import Derived.Laws.MakeOwn
import Derived.Laws.StructEq
import Derived.Laws.Tables
import Derived.Lib.AppendStr
import Derived.Lib.AppendZerosOnto
import Derived.Lib.OthersKept
import Derived.Lib.Overlaps
import Derived.Lib.OwnBridge
import Derived.Lib.SlicesCompact
import Derived.MapKept
import Derived.Orders
import Derived.OrdersHeld
import Derived.Scope
import Derived.SliceStrings
import Derived.Sort.Grow
import Derived.StillTail
import Derived.Test.YtgdgclmkpoaagaaGreatProg
import Derived.Test.YtgdgclmkpoaagaaGreatShelf
import Derived.WalkKit
import Derived.WalkLawsBesides
import Derived.WalkSpells
import Derived.Test.YtgdgclmkpoaagaaGreatGB1
import Derived.Test.YtgdgclmkpoaagaaGreatGB10
import Derived.Test.YtgdgclmkpoaagaaGreatGB11
import Derived.Test.YtgdgclmkpoaagaaGreatGB2
import Derived.Test.YtgdgclmkpoaagaaGreatGB3
import Derived.Test.YtgdgclmkpoaagaaGreatGB4
import Derived.Test.YtgdgclmkpoaagaaGreatGB5
import Derived.Test.YtgdgclmkpoaagaaGreatGB6
import Derived.Test.YtgdgclmkpoaagaaGreatGB7
import Derived.Test.YtgdgclmkpoaagaaGreatGB8
import Derived.Test.YtgdgclmkpoaagaaGreatGB9
set_option linter.unusedVariables false
set_option linter.unusedSectionVars false
set_option linter.unusedSimpArgs false
set_option maxRecDepth 100000
set_option maxHeartbeats 4000000
namespace Go.GX
open Go.RowKit
section
variable {P : Program} {f : FuncId} {N : Nat} {k : List Item} {σ : Store} {B : Base} {H H' F : List Chunk} {R : Ending → World → Prop} {ops l : List Oper} {o : Oper} {K : Act → World → Prop} {KQ : Act → Prop} {C : World → Prop}
 {d : Nat} {op : Op} {ty : TypeId} {pos : String} {af : Array Edge} {gd : Option (Nat × Bool)} {v u : Value} {w : World} {d' : Option Tmp} {p : List (Nat × Bool)} {i : Nat} {S : World → Prop}
theorem HR.exit {id : Nat} {k' : List Item} (he : exitTo id k = some k') (h : HR P f N k' σ B H R) : HR P f N (.code (.exit id) :: k) σ B H R := fun w hw => Run.exit he (h w hw)
end
end Go.GX
namespace Nd
open Go.GX Tp
theorem last_id {α : Type} {n : Nat} {l : List α} (h : l.length ≤ n) : last n l = l := by
 unfold last; rw [show l.length - n = 0 by omega]; rfl
end Nd
namespace Go.Proofs.YtgdgclmkpoaagaaGreat
open Go.GX Go.RowKit
attribute [local irreducible] Calls Run RunL RunQ RunD HR HL HD blkC ownC Rd
open Nd
theorem fn140 : IsFn Tryz.prog 140 := ⟨⟨_, _, Tryz.func140, rfl, by decide⟩⟩
theorem fn141 : IsFn Tryz.prog 141 := ⟨⟨_, _, Tryz.func141, rfl, by decide⟩⟩
theorem fn142 : IsFn Tryz.prog 142 := ⟨⟨_, _, Tryz.func142, rfl, by decide⟩⟩
theorem fn65 : IsFn Tryz.prog 65 := ⟨⟨_, _, Tryz.func65, rfl, by decide⟩⟩
theorem fn45 : IsFn Tryz.prog 45 := ⟨⟨_, _, Tryz.func45, rfl, by decide⟩⟩
theorem fn63 : IsFn Tryz.prog 63 := ⟨⟨_, _, Tryz.func63, rfl, by decide⟩⟩
theorem address_any (n : Int) (w : World) : Calls Tryz.prog 45 #[.int .i64 n] w fun e w' => e = .returned (.bool (Tp.okN n)) ∧ Below w.heap.size w w' := by
 refine calls_hr Tryz.func45 I (Nat.le_of_ble_eq_true I) ?_
 refine HR.sub (σ' := [(0, .int .i64 n)]) ⟨I, trivial⟩ ?_
 repeat' (first | refine zh ?_ | apply zb ?_ ?_ | exact zc | (refine zi fun hb => ?_; try simp at hb) | intro (bk : Nat))
 refine HR.ret Tryz.func45 I [_] (fun _ _ => ⟨I, trivial⟩) ?_
 exact fun w' hw => ⟨rfl, hw.belowB⟩
theorem rrfin_any (r : Ro) (w : World) : Calls Tryz.prog 142 #[.agg ⟨roC r⟩] w fun e w' => e = .returned (.bool (fin r)) ∧ Below w.heap.size w w' := by
 refine calls_hr Tryz.func142 I (Nat.le_of_ble_eq_true I) ?_
 refine HR.sub (σ' := [(0, .agg ⟨roC r⟩)]) ⟨I, trivial⟩ ?_
 repeat' (first | refine zh ?_ | apply zb ?_ ?_ | exact zc | (refine zi fun hb => ?_; try simp at hb) | intro (bk : Nat))
 refine HR.ret Tryz.func142 I [_] (fun _ _ => ⟨I, trivial⟩) ?_
 exact fun w' hw => ⟨rfl, hw.belowB⟩
theorem rrlim_any (n : Int) (w : World) : Calls Tryz.prog 140 #[.int .i64 n] w fun e w' => e = .returned (.int .i64 (lim n)) ∧ Below w.heap.size w w' := by
 refine calls_hr Tryz.func140 I (Nat.le_of_ble_eq_true I) ?_
 refine HR.sub (σ' := [(0, .int .i64 n)]) ⟨I, trivial⟩ ?_
 repeat' (first | refine zh ?_ | apply zb ?_ ?_ | exact zc | (refine zi fun hb => ?_; try simp at hb) | intro (bk : Nat))
 refine HR.cond I (fun h => ?_) (fun h => ?_)
 ·have h : n < 0 := of_decide_eq_true h
  repeat' (first | refine zh ?_ | apply zb ?_ ?_ | exact zc | (refine zi fun hb => ?_; try simp at hb) | intro (bk : Nat))
  refine HR.ret Tryz.func140 I [_] (fun _ _ => ⟨I, trivial⟩) ?_
  exact fun w' hw => ⟨by rw [show lim n = 0 by unfold lim clamp; omega]; rfl, hw.belowB⟩
 have h : ¬ n < 0 := of_decide_eq_false h
 repeat' (first | refine zh ?_ | apply zb ?_ ?_ | exact zc | (refine zi fun hb => ?_; try simp at hb) | intro (bk : Nat))
 refine HR.cond I (fun h1 => ?_) (fun h1 => ?_)
 ·have h1 : n > 250 := of_decide_eq_true h1
  repeat' (first | refine zh ?_ | apply zb ?_ ?_ | exact zc | (refine zi fun hb => ?_; try simp at hb) | intro (bk : Nat))
  refine HR.ret Tryz.func140 I [_] (fun _ _ => ⟨I, trivial⟩) ?_
  exact fun w' hw => ⟨by rw [show lim n = 250 by unfold lim clamp; omega]; rfl, hw.belowB⟩
 ·have h1 : ¬ n > 250 := of_decide_eq_false h1
  repeat' (first | refine zh ?_ | apply zb ?_ ?_ | exact zc | (refine zi fun hb => ?_; try simp at hb) | intro (bk : Nat))
  refine HR.ret Tryz.func140 I [_] (fun _ _ => ⟨I, trivial⟩) ?_
  exact fun w' hw => ⟨by rw [show lim n = n by unfold lim clamp; omega]; rfl, hw.belowB⟩
theorem rrusable_any (r : Ro) (w : World) : Calls Tryz.prog 141 #[.agg ⟨roC r⟩] w fun e w' => e = .returned (.bool (usable r)) ∧ Below w.heap.size w w' := by
 refine calls_hr Tryz.func141 I (Nat.le_of_ble_eq_true I) ?_
 refine HR.sub (σ' := [(0, .agg ⟨roC r⟩)]) ⟨I, trivial⟩ ?_
 repeat' (first | refine zh ?_ | apply zb ?_ ?_ | exact zc | (refine zi fun hb => ?_; try simp at hb) | intro (bk : Nat))
 refine HR.cond I (fun h => ?_) (fun h => ?_)
 ·have h : (((decide (r.dest < 0) || decide (r.dest > 250)) || decide (r.sq < 0)) || decide (r.sq > 65535)) = true := h
  repeat' (first | refine zh ?_ | apply zb ?_ ?_ | exact zc | (refine zi fun hb => ?_; try simp at hb) | intro (bk : Nat))
  refine HR.ret Tryz.func141 I [_] (fun _ _ => ⟨I, trivial⟩) ?_
  refine fun w' hw => ⟨?_, hw.belowB⟩
  have : usable r = false := by
   rw [← Bool.not_eq_true]
   simp only [usable, Tp.okN, Bool.and_eq_true, Bool.or_eq_true, Bool.not_eq_true', Bool.or_eq_false_iff, decide_eq_true_eq, decide_eq_false_iff_not] at h ⊢
   omega
  rw [this]; rfl
 ·have h : (((decide (r.dest < 0) || decide (r.dest > 250)) || decide (r.sq < 0)) || decide (r.sq > 65535)) = false := h
  have h' := h
  simp only [Bool.or_eq_false_iff, decide_eq_false_iff_not] at h'
  have h0 : 0 ≤ r.sq := by omega
  repeat' (first | refine zh ?_ | refine HL.callB fn142 I I (fun w _ => rrfin_any r w) ?_ | apply zb ?_ ?_ | exact zc | (refine zi fun hb => ?_; try simp at hb) | intro (bk : Nat))
  refine HR.ret Tryz.func141 I [_] (fun _ _ => ⟨I, trivial⟩) ?_
  refine fun w' hw => ⟨?_, hw.belowB⟩
  have : usable r = ((fin r && (r.sq % 2 == 0)) || (r.cost == 255)) := by
   unfold usable Tp.okN
   have e1 : decide (r.sq < 0) = false := decide_eq_false (by omega)
   have e2 : decide (r.sq > 65535) = false := decide_eq_false (by omega)
   have e3 : decide (r.dest ≥ 0) = true := decide_eq_true (by omega)
   have e4 : decide (r.dest ≤ 250) = true := decide_eq_true (by omega)
   rw [e1, e2, e3, e4]; rfl
  rw [this]; rfl
theorem rrnew_any (n : Int) (w : World) : Calls Tryz.prog 65 #[.int .i64 n] w fun e w' => ∃ v, e = .returned v ∧ Sat (base w) [ownC v 79 4 (rnew n).length (cellsOf roC (rnew n))] w' := by
 refine calls_hr Tryz.func65 I (Nat.le_of_ble_eq_true I) ?_
 refine HR.sub (σ' := [(0, .int .i64 n)]) ⟨I, trivial⟩ ?_
 repeat' (first | refine zh ?_ | refine HL.callB fn140 I I (fun w _ => rrlim_any n w) ?_ | refine HL.bslice elemRo I I I I I (by decide) (by decide) ?_ | apply zb ?_ ?_ | exact zc | (refine zi fun hb => ?_; try simp at hb) | intro (bk : Nat))
 intro v
 repeat' (first | refine zh ?_ | apply zb ?_ ?_ | exact zc | (refine zi fun hb => ?_; try simp at hb) | intro (bk : Nat))
 refine HR.ret Tryz.func65 I [_] (fun _ _ => ⟨I, trivial⟩) ?_
 exact fun w' hw => ⟨v, rfl, hw⟩
theorem rclamp_any (n lo hi : Int) (hlh : lo ≤ hi) (w : World) : Calls Tryz.prog 63 #[.int .i64 n, .int .i64 lo, .int .i64 hi] w fun e w' => e = .returned (.int .i64 (clamp n lo hi)) ∧ Below w.heap.size w w' := by
 refine calls_hr Tryz.func63 I (Nat.le_of_ble_eq_true I) ?_
 refine HR.sub (σ' := [(0, .int .i64 n), (1, .int .i64 lo), (2, .int .i64 hi)]) ⟨I, I, I, trivial⟩ ?_
 repeat' (first | refine zh ?_ | apply zb ?_ ?_ | exact zc | (refine zi fun hb => ?_; try simp at hb) | intro (bk : Nat))
 refine HR.cond I (fun h => ?_) (fun h => ?_)
 ·have h : (decide (hi < lo) || decide (n > hi)) = true := h
  simp only [Bool.or_eq_true, decide_eq_true_eq] at h
  repeat' (first | refine zh ?_ | apply zb ?_ ?_ | exact zc | (refine zi fun hb => ?_; try simp at hb) | intro (bk : Nat))
  refine HR.ret Tryz.func63 I [_] (fun _ _ => ⟨I, trivial⟩) ?_
  exact fun w' hw => ⟨by rw [show clamp n lo hi = hi by unfold clamp; omega]; rfl, hw.belowB⟩
 have h : (decide (hi < lo) || decide (n > hi)) = false := h
 simp only [Bool.or_eq_false_iff, decide_eq_false_iff_not] at h
 repeat' (first | refine zh ?_ | apply zb ?_ ?_ | exact zc | (refine zi fun hb => ?_; try simp at hb) | intro (bk : Nat))
 refine HR.cond I (fun h1 => ?_) (fun h1 => ?_)
 ·have h1 : n < lo := of_decide_eq_true h1
  repeat' (first | refine zh ?_ | apply zb ?_ ?_ | exact zc | (refine zi fun hb => ?_; try simp at hb) | intro (bk : Nat))
  refine HR.ret Tryz.func63 I [_] (fun _ _ => ⟨I, trivial⟩) ?_
  exact fun w' hw => ⟨by rw [show clamp n lo hi = lo by unfold clamp; omega]; rfl, hw.belowB⟩
 ·have h1 : ¬ n < lo := of_decide_eq_false h1
  repeat' (first | refine zh ?_ | apply zb ?_ ?_ | exact zc | (refine zi fun hb => ?_; try simp at hb) | intro (bk : Nat))
  refine HR.ret Tryz.func63 I [_] (fun _ _ => ⟨I, trivial⟩) ?_
  exact fun w' hw => ⟨by rw [show clamp n lo hi = n by unfold clamp; omega]; rfl, hw.belowB⟩
end Go.Proofs.YtgdgclmkpoaagaaGreat
namespace Nd
open Go.GX Tp
theorem ne_lim (n : Int) : (n != lim n) = !okN n := by
 rw [Bool.eq_iff_iff]
 simp only [bne_iff_ne, ne_eq, Bool.not_eq_true', okN, Bool.and_eq_false_iff, decide_eq_false_iff_not]
 unfold lim clamp; omega
def rlook (t : List Ro) (d : Int) : Int := match t.findIdx? (fun x => x.dest == d) with
 | some i => i
 | none => -1
theorem rlook_at {t : List Ro} {d : Int} {i : Nat} {x : Ro} (hx : t[i]? = some x) (hd : (x.dest == d) = true) (hno : ∀ j a, j < i → t[j]? = some a → (a.dest == d) = false) : rlook t d = i := by
 have : t.findIdx? (fun x => x.dest == d) = some i := by
  rw [List.findIdx?_eq_some_iff_getElem]
  obtain ⟨hl, rfl⟩ := List.getElem?_eq_some_iff.1 hx
  exact ⟨hl, hd, fun j hj => by rw [hno j _ hj (List.getElem?_eq_getElem (by omega))]; decide⟩
 unfold rlook; rw [this]
theorem rlook_none {t : List Ro} {d : Int} (hno : ∀ j a, j < t.length → t[j]? = some a → (a.dest == d) = false) : rlook t d = -1 := by
 have : t.findIdx? (fun x => x.dest == d) = none := by
  rw [List.findIdx?_eq_none_iff]
  intro x hx
  obtain ⟨j, hj⟩ := List.getElem?_of_mem hx
  exact hno j x (List.getElem?_eq_some_iff.1 hj).1 hj
 unfold rlook; rw [this]
theorem rlook_cases (t : List Ro) (d : Int) : (rlook t d = -1 ∧ rat t d = none) ∨ ∃ (i : Nat) (x : Ro), rlook t d = i ∧ t[i]? = some x ∧ x.dest = d ∧ rat t d = some x := by
 unfold rlook
 cases h : t.findIdx? (fun x => x.dest == d) with
 | none =>
  refine .inl ⟨rfl, List.find?_eq_none.2 fun x hx => ?_⟩
  have := List.findIdx?_eq_none_iff.1 h x hx
  simp [this]
 | some i =>
  obtain ⟨hl, hd, hno⟩ := List.findIdx?_eq_some_iff_getElem.1 h
  refine .inr ⟨i, t[i], rfl, List.getElem?_eq_getElem hl, by simpa using hd, find_first (List.getElem?_eq_getElem hl) hd fun j a hj ha => ?_⟩
  obtain ⟨hl', rfl⟩ := List.getElem?_eq_some_iff.1 ha
  simpa using hno j hj
end Nd
namespace Nd
open Go.GX Tp
end Nd
namespace Go.Proofs.YtgdgclmkpoaagaaGreat
open Go.GX Go.RowKit
attribute [local irreducible] Calls Run RunL RunQ RunD HR HL HD blkC ownC Rd
open Nd
theorem fn64 : IsFn Tryz.prog 64 := ⟨⟨_, _, Tryz.func64, rfl, by decide⟩⟩
theorem fn143 : IsFn Tryz.prog 143 := ⟨⟨_, _, Tryz.func143, rfl, by decide⟩⟩
end Go.Proofs.YtgdgclmkpoaagaaGreat
namespace Go.Proofs.YtgdgclmkpoaagaaGreat
open Go.GX Go.RowKit
attribute [local irreducible] Calls Run RunL RunQ RunD HR HL HD blkC ownC Rd
open Nd
theorem r11find_any (t : List Ro) (d : Int) (v : Value) (w : World) (hv : Sl w v (cellsOf roC t) t.length) (hl : t.length ≤ 1000) :
  Calls Tryz.prog 143 #[v, .int .i64 d] w fun e w' => e = .returned (.int .i64 (rlook t d)) ∧ Below w.heap.size w w' := by
 refine calls_hr Tryz.func143 I (Nat.le_of_ble_eq_true I) ?_
 refine HR.sub (σ' := [(0, v), (1, .int .i64 d)]) ⟨I, I, trivial⟩ ?_
 repeat' (first | refine zh ?_ | apply zb ?_ ?_ | exact zc | (refine zi fun hb => ?_; try simp at hb) | intro (bk : Nat))
 refine HR.loop (ι := Nat) (fun k => k ≤ t.length ∧ ∀ j a, j < k → t[j]? = some a → (a.dest == d) = false) (fun k => [(0, v), (1, .int .i64 d), (5, .int .i64 (k : Int))]) (fun _ => []) (fun k => t.length - k) 0 ⟨Nat.zero_le _, fun j a hj => by omega⟩ ⟨I, I, I, trivial⟩ Ent.refl ?_
 rintro k ⟨hk, hg⟩ ih
 repeat' (first | refine zh ?_ | refine HL.lenR (Rd.arg hv) I I I ?_ | apply zb ?_ ?_ | exact zc | (refine zi fun hb => ?_; try simp at hb) | intro (bk : Nat))
 refine HR.cond I (fun h2 => ?_) (fun h2 => ?_)
 ·have hlt : k < t.length := by have := of_decide_eq_true h2; omega
  obtain ⟨x, hx⟩ := getSome hlt
  repeat' (first | refine zh ?_ | refine HL.idxR (Rd.arg hv) elemRo k I I I I hlt ?_ | refine HL.fieldE (Rd.arg hv) (by rw [cellsOf_len roC_len]; omega) I I I I I I ?_ | refine HL.loadI (Rd.arg hv) I I I I (cells_get roC_len hx (i := 0) I) ?_ | apply zb ?_ ?_ | exact zc | (refine zi fun hb => ?_; try simp at hb) | intro (bk : Nat))
  refine HR.cond I (fun h3 => ?_) (fun h3 => ?_)
  ·have h3 : (x.dest == d) = true := h3
   repeat' (first | refine zh ?_ | apply zb ?_ ?_ | exact zc | (refine zi fun hb => ?_; try simp at hb) | intro (bk : Nat))
   refine HR.ret Tryz.func143 I [_] (fun _ _ => ⟨I, trivial⟩) ?_
   exact fun w' hw => ⟨by rw [rlook_at hx h3 hg]; rfl, hw.belowB⟩
  ·have h3 : (x.dest == d) = false := h3
   repeat' (first | refine zh ?_ | apply zb ?_ ?_ | exact zc | (refine zi fun hb => ?_; try simp at hb) | intro (bk : Nat))
   refine ih (k + 1) _ _ ⟨hlt, fun j a hj ha => ?_⟩ (by omega) ⟨I, I, I, trivial⟩ (Ent.pick [] I I)
   by_cases hjk : j = k
   ·subst hjk; rw [hx] at ha; cases ha; exact h3
   ·exact hg j a (by omega) ha
 ·have hke : k = t.length := by have := of_decide_eq_false h2; omega
  subst hke
  repeat' (first | refine zh ?_ | apply zb ?_ ?_ | exact zc | (refine zi fun hb => ?_; try simp at hb) | intro (bk : Nat))
  refine HR.ret Tryz.func143 I [_] (fun _ _ => ⟨I, trivial⟩) ?_
  exact fun w' hw => ⟨by rw [rlook_none hg]; rfl, hw.belowB⟩
theorem rform_ref (self : Int) (x : Ro) : (((x.dest == self) && !((x.cost == 0) && (x.nx == self))) || ((x.dest != self) && ((x.cost == 0) || (x.nx == self)))) = rform self x := by
 unfold rform
 by_cases hd : x.dest = self
 ·rw [if_pos hd]; simp [hd]
 ·have e : (x.dest == self) = false := by simpa using hd
  rw [if_neg hd, e, bne, e]; rfl
theorem rrange_ref (x : Ro) : ((!usable x || (fin x && (x.nx != lim x.nx))) || (!fin x && (x.nx != 255))) = rrange x := by
 rw [ne_lim]; rfl
theorem r11check_any (t : List Ro) (self : Int) (v : Value) (w : World) (hv : Sl w v (cellsOf roC t) t.length) (hl : t.length ≤ 1000) :
  Calls Tryz.prog 64 #[v, .int .i64 self] w fun e w' => e = .returned (.int .i64 (rchk t self)) ∧ Below w.heap.size w w' := by
 refine calls_hr Tryz.func64 I (Nat.le_of_ble_eq_true I) ?_
 refine HR.sub (σ' := [(0, v), (1, .int .i64 self)]) ⟨I, I, trivial⟩ ?_
 repeat' (first | refine zh ?_ | refine HL.lenR (Rd.arg hv) I I I ?_ | apply zb ?_ ?_ | exact zc | (refine zi fun hb => ?_; try simp at hb) | intro (bk : Nat))
 refine HR.cond I (fun h => ?_) (fun h => ?_)
 ·have h : t.length > 24 := by have := of_decide_eq_true h; omega
  repeat' (first | refine zh ?_ | apply zb ?_ ?_ | exact zc | (refine zi fun hb => ?_; try simp at hb) | intro (bk : Nat))
  refine HR.ret Tryz.func64 I [_] (fun _ _ => ⟨I, trivial⟩) ?_
  exact fun w' hw => ⟨by rw [rchk, if_pos h]; rfl, hw.belowB⟩
 have h : t.length ≤ 24 := by have := of_decide_eq_false h; omega
 repeat' (first | refine zh ?_ | refine HL.callB fn140 I I (fun w _ => rrlim_any self w) ?_ | apply zb ?_ ?_ | exact zc | (refine zi fun hb => ?_; try simp at hb) | intro (bk : Nat))
 refine HR.cond I (fun h0 => ?_) (fun h0 => ?_)
 ·have h0 : (self != lim self) = true := h0
  rw [ne_lim] at h0
  have h0 : Tp.okN self = false := by simpa using h0
  repeat' (first | refine zh ?_ | apply zb ?_ ?_ | exact zc | (refine zi fun hb => ?_; try simp at hb) | intro (bk : Nat))
  refine HR.ret Tryz.func64 I [_] (fun _ _ => ⟨I, trivial⟩) ?_
  exact fun w' hw => ⟨by rw [rchk, if_neg (by omega), if_pos h0]; rfl, hw.belowB⟩
 have h0 : (self != lim self) = false := h0
 rw [ne_lim] at h0
 have h0 : Tp.okN self = true := by simpa using h0
 repeat' (first | refine zh ?_ | apply zb ?_ ?_ | exact zc | (refine zi fun hb => ?_; try simp at hb) | intro (bk : Nat))
 refine HR.loop (ι := Nat) (fun k => k ≤ t.length ∧ firstE (rbad t) k = 0) (fun k => [(0, v), (1, .int .i64 self), (5, .int .i64 (k : Int))]) (fun _ => []) (fun k => t.length - k) 0 ⟨Nat.zero_le _, rfl⟩ ⟨I, I, I, trivial⟩ Ent.refl ?_
 rintro k ⟨hk, hg⟩ ih
 repeat' (first | refine zh ?_ | refine HL.lenR (Rd.arg hv) I I I ?_ | apply zb ?_ ?_ | exact zc | (refine zi fun hb => ?_; try simp at hb) | intro (bk : Nat))
 refine HR.cond I (fun h2 => ?_) (fun h2 => ?_)
 ·have hlt : k < t.length := by have := of_decide_eq_true h2; omega
  obtain ⟨x, hx⟩ := getSome hlt
  repeat' (first | refine zh ?_ | apply zb ?_ ?_ | exact zc | (refine zi fun hb => ?_; try simp at hb) | intro (bk : Nat))
  refine HR.regionQ hmix (by kernel_rfl) ?_
  repeat' (first | refine zq ?_ | refine HQ.idxR (Rd.arg hv) elemRo k I I I I hlt ?_ | refine HQ.loadE (Rd.arg hv) I I I I (by simp) I (cellsOf_get roC_len hx) ?_ | refine HQ.fieldE (Rd.arg hv) (by rw [cellsOf_len roC_len]; omega) I I I I I I ?_ | refine HQ.loadI (Rd.arg hv) I I I I (cells_get roC_len hx (i := 3) I) ?_ | refine HQ.callB fn141 I I (fun w _ => rrusable_any _ w) ?_ | refine HQ.callB fn142 I I (fun w _ => rrfin_any _ w) ?_ | refine HQ.callB fn140 I I (fun w _ => rrlim_any _ w) ?_ | apply zb ?_ ?_ | exact zc | (refine zi fun hb => ?_; try simp at hb))
  refine HR.cond I (fun h3 => ?_) (fun h3 => ?_)
  ·have h3 : rrange x = true := by rw [← rrange_ref]; exact h3
   repeat' (first | refine zh ?_ | apply zb ?_ ?_ | exact zc | (refine zi fun hb => ?_; try simp at hb) | intro (bk : Nat))
   refine HR.ret Tryz.func64 I [_] (fun _ _ => ⟨I, trivial⟩) ?_
   refine fun w' hw => ⟨?_, hw.belowB⟩
   have e := rbad_range hx h3
   rw [rchk_first h h0 hg (by rw [e]; decide) hlt, e]; rfl
  have h3 : rrange x = false := by rw [← rrange_ref]; exact h3
  obtain ⟨y, hy⟩ := getSome (l := t) (j := k - 1) (by omega)
  repeat' (first | refine zh ?_ | apply zb ?_ ?_ | exact zc | (refine zi fun hb => ?_; try simp at hb) | intro (bk : Nat))
  refine HR.regionQ hmix (by kernel_rfl) ?_
  repeat' (first | refine zq ?_ | refine HQ.idxR (Rd.arg hv) elemRo k I I I I hlt ?_ | refine HQ.idxR (Rd.arg hv) elemRo (k - 1) I I I (by omega) (by omega) ?_ | refine HQ.fieldE (Rd.arg hv) (by rw [cellsOf_len roC_len]; omega) I I I I I I ?_ | refine HQ.loadI (Rd.arg hv) I I I I (cells_get roC_len hx (i := 0) I) ?_ | refine HQ.loadI (Rd.arg hv) I I I I (cells_get roC_len hy (i := 0) I) ?_ | apply zb ?_ ?_ | exact zc | (refine zi fun hb => ?_; try simp at hb))
  refine HR.cond I (fun h4 => ?_) (fun h4 => ?_)
  ·have h4 : (decide ((k : Int) > 0) && decide (x.dest ≤ y.dest)) = true := h4
   simp only [Bool.and_eq_true, decide_eq_true_eq] at h4
   repeat' (first | refine zh ?_ | apply zb ?_ ?_ | exact zc | (refine zi fun hb => ?_; try simp at hb) | intro (bk : Nat))
   refine HR.ret Tryz.func64 I [_] (fun _ _ => ⟨I, trivial⟩) ?_
   refine fun w' hw => ⟨?_, hw.belowB⟩
   have e := rbad_order hx h3 (by omega) hy h4.2
   rw [rchk_first h h0 hg (by rw [e]; decide) hlt, e]; rfl
  ·have h4 : (decide ((k : Int) > 0) && decide (x.dest ≤ y.dest)) = false := h4
   have hg2 : firstE (rbad t) (k + 1) = 0 := firstE_step hg (rbad_ok hx h3 fun y' h0 hy' hle => by
    rw [hy] at hy'
    cases hy'
    rw [decide_eq_true (show (k : Int) > 0 by omega), decide_eq_true hle] at h4
    cases h4)
   repeat' (first | refine zh ?_ | apply zb ?_ ?_ | exact zc | (refine zi fun hb => ?_; try simp at hb) | intro (bk : Nat))
   exact ih (k + 1) _ _ ⟨hlt, hg2⟩ (by omega) ⟨I, I, I, trivial⟩ (Ent.pick [] I I)
 have hke : k = t.length := by have := of_decide_eq_false h2; omega
 subst hke
 obtain ⟨hrr, hasc⟩ := first_asc hg
 repeat' (first | refine zh ?_ | refine HL.callB fn143 I I (fun w hw => r11find_any t self v w ((Rd.arg hv).at hw) hl) ?_ | apply zb ?_ ?_ | exact zc | (refine zi fun hb => ?_; try simp at hb) | intro (bk : Nat))
 refine HR.cond I (fun h6 => ?_) (fun h6 => ?_)
 ·have h6 : rlook t self < 0 := of_decide_eq_true h6
  have hany : (t.any fun r => r.dest == self) = false := by
   rcases rlook_cases t self with ⟨_, e⟩ | ⟨i, x, e, _⟩
   ·rw [← Bool.not_eq_true, List.any_eq_true]
    rintro ⟨r, hr, he⟩
    exact List.find?_eq_none.1 e r hr he
   ·omega
  repeat' (first | refine zh ?_ | apply zb ?_ ?_ | exact zc | (refine zi fun hb => ?_; try simp at hb) | intro (bk : Nat))
  refine HR.ret Tryz.func64 I [_] (fun _ _ => ⟨I, trivial⟩) ?_
  exact fun w' hw => ⟨by rw [rchk_8 h h0 hg hany]; rfl, hw.belowB⟩
 have h6 : ¬ rlook t self < 0 := of_decide_eq_false h6
 have hany : (t.any fun r => r.dest == self) = true := by
  rcases rlook_cases t self with ⟨e, _⟩ | ⟨i, x, _, e, he, _⟩
  ·omega
  ·exact any_of_get e he
 repeat' (first | refine zh ?_ | apply zb ?_ ?_ | exact zc | (refine zi fun hb => ?_; try simp at hb) | intro (bk : Nat))
 refine HR.loop (ι := Nat) (fun k => k ≤ t.length ∧ (t.take k).any (rform self) = false) (fun k => [(0, v), (1, .int .i64 self), (6, .int .i64 (k : Int))]) (fun _ => []) (fun k => t.length - k) 0 ⟨Nat.zero_le _, rfl⟩ ⟨I, I, I, trivial⟩ Ent.refl ?_
 rintro k ⟨hk, hf⟩ ih
 repeat' (first | refine zh ?_ | refine HL.lenR (Rd.arg hv) I I I ?_ | apply zb ?_ ?_ | exact zc | (refine zi fun hb => ?_; try simp at hb) | intro (bk : Nat))
 refine HR.cond I (fun h2 => ?_) (fun h2 => ?_)
 ·have hlt : k < t.length := by have := of_decide_eq_true h2; omega
  obtain ⟨x, hx⟩ := getSome hlt
  repeat' (first | refine zh ?_ | refine HL.idxR (Rd.arg hv) elemRo k I I I I hlt ?_ | refine HL.fieldE (Rd.arg hv) (by rw [cellsOf_len roC_len]; omega) I I I I I I ?_ | refine HL.loadI (Rd.arg hv) I I I I (cells_get roC_len hx (i := 0) I) ?_ | refine HL.loadI (Rd.arg hv) I I I I (cells_get roC_len hx (i := 2) I) ?_ | refine HL.loadI (Rd.arg hv) I I I I (cells_get roC_len hx (i := 3) I) ?_ | apply zb ?_ ?_ | exact zc | (refine zi fun hb => ?_; try simp at hb) | intro (bk : Nat))
  refine HR.cond I (fun h3 => ?_) (fun h3 => ?_)
  ·have h3 : rform self x = true := by rw [← rform_ref]; exact h3
   repeat' (first | refine zh ?_ | apply zb ?_ ?_ | exact zc | (refine zi fun hb => ?_; try simp at hb) | intro (bk : Nat))
   refine HR.ret Tryz.func64 I [_] (fun _ _ => ⟨I, trivial⟩) ?_
   exact fun w' hw => ⟨by rw [rchk_4 h h0 hg hany (any_at hx h3)]; rfl, hw.belowB⟩
  ·have h3 : rform self x = false := by rw [← rform_ref]; exact h3
   repeat' (first | refine zh ?_ | apply zb ?_ ?_ | exact zc | (refine zi fun hb => ?_; try simp at hb) | intro (bk : Nat))
   exact ih (k + 1) _ _ ⟨hlt, any_take hx hf h3⟩ (by omega) ⟨I, I, I, trivial⟩ (Ent.pick [] I I)
 ·have hke : k = t.length := by have := of_decide_eq_false h2; omega
  subst hke
  rw [List.take_length] at hf
  repeat' (first | refine zh ?_ | apply zb ?_ ?_ | exact zc | (refine zi fun hb => ?_; try simp at hb) | intro (bk : Nat))
  refine HR.ret Tryz.func64 I [_] (fun _ _ => ⟨I, trivial⟩) ?_
  exact fun w' hw => ⟨by rw [rchk_0 h h0 hg hany hf]; rfl, hw.belowB⟩
end Go.Proofs.YtgdgclmkpoaagaaGreat
namespace Go.GX
open Go.RowKit
section
variable {P : Program} {f : FuncId} {N : Nat} {k : List Item} {σ : Store} {B : Base} {H H0 : List Chunk} {R : Ending → World → Prop} {ops l : List Oper} {o : Oper} {K : Act → World → Prop}
variable {d : Nat} {d' : Option Nat} {ty : TypeId} {pos : String} {af : Array Edge} {gd : Option (Nat × Bool)} {u v : Value}
theorem HR.joinI {id : Nat} {x : Code} {ι : Type} (Inv : ι → Prop) (st : ι → Store) (hp : ι → List Chunk) (hj : ∀ i, Inv i → HR P f N k (st i) B (hp i) R)
  (h : (∀ i σ' H', Inv i → Sub (st i) σ' → Ent B H' (hp i) → HR P f N k σ' B H' R) → HR P f N (.code x :: .inBlock id :: k) σ B H R) : HR P f N (.code x :: .inBlock id :: k) σ B H R :=
 h fun i σ' H' hi hs he => HR.sub hs (HR.ent he (hj i hi))
end
end Go.GX
namespace Nd
open Go.GX Tp
theorem Ord.eq {n : Nd} (h : Ord n) : order n = n := by
 have e1 : clamp n.addr 0 250 = n.addr := by have := h.addr; rw [okN_iff] at this; unfold clamp; omega
 have e2 : (if n.poll < 1 then (0 : Int) else max n.poll 4) = n.poll := by have := h.poll; split <;> omega
 have e3 : (if okN n.parent = false ∨ n.parent = n.addr then (255 : Int) else n.parent) = n.parent := by
  rcases h.parent with e | ⟨h1, h2⟩
  ·split
   ·exact e.symm
   ·rfl
  ·rw [if_neg]
   rintro (h3 | h3)
   ·rw [h1] at h3; cases h3
   ·exact h2 h3
 have e4 : (if rchk n.table n.addr = 0 then n.table else [rown n.addr]) = n.table := if_pos h.table.chk
 have e5 : lval n.links = n.links := if_pos h.links
 have e6 : n.out.take 16 = n.out := List.take_of_length_le h.out
 have e7 : Nd.kids n.addr n.children = n.children := by
  refine asc_ext (kids_asc _ _).1 h.kids fun x => ?_
  rw [(kids_asc _ _).2 x]
  exact ⟨fun h => h.1, fun hx => ⟨hx, h.kid x hx⟩⟩
 have e8 : n.boxes.take 16 = n.boxes := List.take_of_length_le h.boxes
 have e9 : last 32 n.seen = n.seen := last_id h.seen
 have e10 : n.inbox.take 256 = n.inbox := List.take_of_length_le h.inbox
 have e11 : (if n.seq < 0 ∨ n.seq > 65535 then (0 : Int) else n.seq) = n.seq := by have := h.seq; split <;> omega
 have e12 : clamp n.lost 0 maxTick = n.lost := by have := h.lost; unfold clamp; omega
 unfold order
 simp only [e1, e2, e3, e4, e5, e6, e7, e8, e9, e10, e11, e12]
end Nd
namespace Nd
open Go.GX Tp
def present (n : Nd) (c : Int) : Bool := decide (c ∈ n.children) && (n.poll == 0) && ((hop n c).1 == c)
def can (n : Nd) (x : Sn) : Bool := x.f.ur && !decide (x.wt > 0) && (!(x.f.kd == 2) || !(x.f.dst == 255) || ((hop n x.f.ta).2 && !present n x.f.ta))
structure Like (m n : Nd) : Prop where
 poll : m.poll = n.poll
 parent : m.parent = n.parent
 table : m.table = n.table
 children : m.children = n.children
theorem Like.box (n : Nd) (f : Fr) (now : Int) : Like (box n f now) n := by unfold Nd.box; simp only; split <;> exact ⟨rfl, rfl, rfl, rfl⟩
theorem Like.trans {a b c : Nd} (h : Like a b) (h' : Like b c) : Like a c := ⟨h.1.trans h'.1, h.2.trans h'.2, h.3.trans h'.3, h.4.trans h'.4⟩
theorem Like.hop {m n : Nd} (h : Like m n) (c : Int) : hop m c = hop n c := by unfold Nd.hop; rw [h.poll, h.parent, h.table]
theorem Like.can {m n : Nd} (h : Like m n) (x : Sn) : can m x = can n x := by unfold Nd.can present; rw [h.hop, h.children, h.poll]
theorem box_outs (n : Nd) (f : Fr) (now : Int) : (box n f now).out = n.out := by unfold box; simp only; split <;> rfl
theorem can_at {n : Nd} {x : Sn} (h : can n x = true) : x.f.ur = true ∧ ¬ x.wt > 0 ∧ (¬ (x.f.kd ≠ 2 ∨ x.f.dst ≠ 255) → (hop n x.f.ta).2 = true ∧ ¬ (n.poll = 0 ∧ isChild n x.f.ta = true)) := by
 unfold can at h
 simp only [Bool.and_eq_true, Bool.not_eq_true', decide_eq_false_iff_not, Bool.or_eq_true, beq_eq_false_iff_ne, ne_eq] at h
 obtain ⟨⟨h1, h2⟩, h3⟩ := h
 refine ⟨h1, h2, fun hn => ?_⟩
 rcases h3 with (h3 | h3) | ⟨h3, h4⟩
 ·exact absurd (Or.inl h3) hn
 ·exact absurd (Or.inr h3) hn
 ·refine ⟨h3, ?_⟩
  rintro ⟨hp, hc⟩
  unfold present at h4
  have e : hop n x.f.ta = rhop n.table x.f.ta := by unfold hop; rw [if_neg (by omega)]
  unfold isChild at hc
  simp only [Bool.and_eq_true, decide_eq_true_eq, beq_iff_eq] at hc
  rw [e, hc.2, hp] at h4
  simp [hc.1.1] at h4
theorem talks_urgent (now : Int) : ∀ (k : Nat) (m : Nd) (i j : Nat) (x : Sn), m.out[j]? = some x → can m x = true → i ≤ j → (∀ l a, l ≤ j → m.out[l]? = some a → a.f.ur = true) → m.out.length ≤ 16 → j - i < k →
  (talks now k m i).2.2 = true ∧ (talks now k m i).2.1.ur = true
 | 0, m, i, j, x, _, _, _, _, _, hk => absurd hk (Nat.not_lt_zero _)
 | k + 1, m, i, j, x, hx, hc, hij, hu, hl, hk => by
  have hjl := (List.getElem?_eq_some_iff.1 hx).1
  obtain ⟨y, hy⟩ := getSome (show i < m.out.length by omega)
  have hyu := hu i y hij hy
  obtain ⟨_, c2, c3⟩ := can_at hc
  have hyx : i = j → y = x := fun e => by subst e; rw [hx] at hy; cases hy; rfl
  have her : ∀ l, (m.out.eraseIdx i)[l]? = if l < i then m.out[l]? else m.out[l + 1]? := fun l => by
   split
   ·rw [List.getElem?_eraseIdx_of_lt (by assumption)]
   ·rw [List.getElem?_eraseIdx_of_ge (by omega)]
  have hera : ∀ (m' : Nd), m'.out = m.out.eraseIdx i → Like m' m → i ≠ j → (talks now k m' i).2.2 = true ∧ (talks now k m' i).2.1.ur = true := by
   intro m' e hL hne
   refine talks_urgent now k m' i (j - 1) x ?_ (by rw [hL.can]; exact hc) (by omega) (fun l a hlj ha => ?_) ?_ (by omega)
   ·rw [e, her, if_neg (by omega), show j - 1 + 1 = j by omega]; exact hx
   ·rw [e, her] at ha
    split at ha
    ·exact hu l a (by omega) ha
    ·exact hu (l + 1) a (by omega) ha
   ·rw [e]; exact Nat.le_trans (List.length_eraseIdx_le _ _) hl
  unfold talks
  rw [hy]
  simp only
  split
  ·rename_i hw
   have hne : i ≠ j := fun e => c2 (by rw [← hyx e]; exact hw)
   exact talks_urgent now k m (i + 1) j x hx hc (by omega) hu hl (by omega)
  rename_i hw
  split
  ·exact ⟨rfl, hyu⟩
  rename_i hkd
  split
  ·rename_i hch
   have hne : i ≠ j := fun e => (c3 (by rw [← hyx e]; exact hkd)).2 (by rw [← hyx e]; exact hch)
   exact hera _ (by rw [box_outs]) ((Like.box _ _ _).trans ⟨rfl, rfl, rfl, rfl⟩) hne
  split
  ·exact ⟨rfl, hyu⟩
  rename_i hh
  have hne : i ≠ j := fun e => hh (by rw [hyx e]; exact (c3 (by rw [← hyx e]; exact hkd)).1)
  have h16 : m.out.take 16 = m.out := List.take_of_length_le hl
  have hm : mres m.out i false = if mtries y = 8 then (m.out.eraseIdx i, true) else (m.out.set i ⟨y.f, mtries y, if y.f.ur then 0 else min (mtries y) 4⟩, false) := by
   unfold mres; rw [h16, hy]; rfl
  rw [hm]
  by_cases h8 : mtries y = 8
  ·rw [if_pos h8]
   simp only [if_true]
   exact hera _ I ⟨rfl, rfl, rfl, rfl⟩ hne
  ·rw [if_neg h8]
   simp only
   refine talks_urgent now k _ (i + 1) j x ?_ ((Like.can (m := { m with out := m.out.set i ⟨y.f, mtries y, if y.f.ur = true then 0 else min (mtries y) 4⟩ }) (n := m) ⟨rfl, rfl, rfl, rfl⟩ x).trans hc) (by omega) (fun l a hlj ha => ?_) (by show (m.out.set i _).length ≤ 16; rw [List.length_set]; exact hl) (by omega)
   ·show (m.out.set i _)[j]? = some x
    rw [List.getElem?_set_ne hne]; exact hx
   ·have ha : (m.out.set i ⟨y.f, mtries y, if y.f.ur = true then 0 else min (mtries y) 4⟩)[l]? = some a := ha
    by_cases hli : l = i
    ·subst hli
     rw [List.getElem?_set_self (by omega)] at ha
     cases ha; exact hyu
    ·rw [List.getElem?_set_ne (Ne.symm hli)] at ha
     exact hu l a hlj ha
theorem talk_urgent {n : Nd} (now : Int) (h : Ord n) (hs : ∀ i a b, n.out[i]? = some a → n.out[i + 1]? = some b → b.f.ur = true → a.f.ur = true) (hc : n.out.any (can n) = true) :
  (talk n now).2.2 = true ∧ (talk n now).2.1.ur = true := by
 obtain ⟨x, hx, hcx⟩ := List.any_eq_true.1 hc
 obtain ⟨j, hj⟩ := List.getElem?_of_mem hx
 have hjl := (List.getElem?_eq_some_iff.1 hj).1
 have hout := h.out
 have key : ∀ d l a, l + d = j → n.out[l]? = some a → a.f.ur = true := by
  intro d
  induction d with
  | zero => intro l a e ha; rw [show l = j by omega, hj] at ha; cases ha; exact (can_at hcx).1
  | succ d ih =>
   intro l a e ha
   obtain ⟨b, hb⟩ := getSome (show l + 1 < n.out.length by omega)
   exact hs l a b ha hb (ih (l + 1) b (by omega) hb)
 unfold talk
 rw [h.eq]
 exact talks_urgent _ 17 n 0 j x hj hcx (Nat.zero_le _) (fun l a hl ha => key (j - l) l a (by omega) ha) hout (by omega)
end Nd
namespace Go.Proofs.YtgdgclmkpoaagaaGreat
open Go.GX Go.RowKit
attribute [local irreducible] Calls Run RunL RunQ RunD HR HL HD blkC ownC Rd
open Nd
theorem fn144 : IsFn Tryz.prog 144 := ⟨⟨_, _, Tryz.func144, rfl, by decide⟩⟩
theorem fn66 : IsFn Tryz.prog 66 := ⟨⟨_, _, Tryz.func66, rfl, by decide⟩⟩
theorem rpower_any (n : Int) (w : World) (hn : 0 ≤ n ∧ n ≤ 16) : Calls Tryz.prog 144 #[.int .i64 n] w fun e w' => e = .returned (.int .i64 (2 ^ n.toNat)) ∧ Below w.heap.size w w' := by
 obtain ⟨m, rfl⟩ : ∃ m : Nat, n = m := ⟨n.toNat, by omega⟩
 refine calls_hr Tryz.func144 I (Nat.le_of_ble_eq_true I) ?_
 refine HR.sub (σ' := [(0, .int .i64 (m : Int))]) ⟨I, trivial⟩ ?_
 repeat' (first | refine zh ?_ | apply zb ?_ ?_ | exact zc | (refine zi fun hb => ?_; try simp at hb) | intro (bk : Nat))
 refine HR.loop (ι := Nat) (fun k => k ≤ m) (fun k => [(0, .int .i64 (m : Int)), (3, .int .i64 ((2 ^ k : Nat) : Int)), (4, .int .i64 (k : Int))]) (fun _ => []) (fun k => m - k) 0 (Nat.zero_le _) ⟨I, I, I, trivial⟩ Ent.refl ?_
 intro k hk ih
 have h2 : 2 ^ k ≤ 2 ^ 16 := Nat.pow_le_pow_right (by decide) (by omega)
 have h16 : 2 ^ 16 = 65536 := by decide
 rw [h16] at h2
 obtain ⟨p, hpe⟩ : ∃ p, p = 2 ^ k := ⟨_, rfl⟩
 rw [← hpe] at h2 ⊢
 repeat' (first | refine zh ?_ | apply zb ?_ ?_ | exact zc | (refine zi fun hb => ?_; try simp at hb) | intro (bk : Nat))
 refine HR.cond I (fun h => ?_) (fun h => ?_)
 ·have hlt : k < m := by have := of_decide_eq_true h; omega
  repeat' (first | refine zh ?_ | apply zb ?_ ?_ | exact zc | (refine zi fun hb => ?_; try simp at hb) | intro (bk : Nat))
  refine HR.setV 3 (v' := .int .i64 ((2 ^ (k + 1) : Nat) : Int)) I (show Value.int .i64 (2 * (p : Int)) = _ by rw [Nat.pow_succ, ← hpe]; congr 1; omega) ?_
  exact ih (k + 1) _ _ hlt (by omega) ⟨I, I, I, trivial⟩ Ent.refl
 ·have hke : k = m := by have := of_decide_eq_false h; omega
  subst hke
  repeat' (first | refine zh ?_ | apply zb ?_ ?_ | exact zc | (refine zi fun hb => ?_; try simp at hb) | intro (bk : Nat))
  refine HR.ret Tryz.func144 I [_] (fun _ _ => ⟨I, trivial⟩) ?_
  refine fun w' hw => ⟨?_, hw.belowB⟩
  rw [hpe]
  simp only [resV, Int.toNat_natCast, Int.natCast_pow]
  rfl
theorem r10check_any (l : List Li) (v : Value) (w : World) (hv : Sl w v (cellsOf liC l) l.length) (hl : l.length ≤ 1000) :
  Calls Tryz.prog 66 #[v] w fun e w' => e = .returned (.int .i64 (lchk l)) ∧ Below w.heap.size w w' := by
 refine calls_hr Tryz.func66 I (Nat.le_of_ble_eq_true I) ?_
 refine HR.sub (σ' := [(0, v)]) ⟨I, trivial⟩ ?_
 repeat' (first | refine zh ?_ | refine HL.lenR (Rd.arg hv) I I I ?_ | apply zb ?_ ?_ | exact zc | (refine zi fun hb => ?_; try simp at hb) | intro (bk : Nat))
 refine HR.cond I (fun h => ?_) (fun h => ?_)
 ·have h : l.length > 24 := by have := of_decide_eq_true h; omega
  repeat' (first | refine zh ?_ | apply zb ?_ ?_ | exact zc | (refine zi fun hb => ?_; try simp at hb) | intro (bk : Nat))
  refine HR.ret Tryz.func66 I [_] (fun _ _ => ⟨I, trivial⟩) ?_
  exact fun w' hw => ⟨by rw [lchk, if_pos h]; rfl, hw.belowB⟩
 have h : l.length ≤ 24 := by have := of_decide_eq_false h; omega
 repeat' (first | refine zh ?_ | apply zb ?_ ?_ | exact zc | (refine zi fun hb => ?_; try simp at hb) | intro (bk : Nat))
 refine HR.loop (ι := Nat) (fun k => k ≤ l.length ∧ firstE (lbad l) k = 0) (fun k => [(0, v), (3, .int .i64 (k : Int))]) (fun _ => []) (fun k => l.length - k) 0 ⟨Nat.zero_le _, rfl⟩ ⟨I, I, trivial⟩ Ent.refl ?_
 rintro k ⟨hk, hg⟩ ih
 repeat' (first | refine zh ?_ | refine HL.lenR (Rd.arg hv) I I I ?_ | apply zb ?_ ?_ | exact zc | (refine zi fun hb => ?_; try simp at hb) | intro (bk : Nat))
 refine HR.cond I (fun h2 => ?_) (fun h2 => ?_)
 ·have hlt : k < l.length := by have := of_decide_eq_true h2; omega
  obtain ⟨x, hx⟩ := getSome hlt
  repeat' (first | refine zh ?_ | refine HL.idxR (Rd.arg hv) elemLi k I I I I hlt ?_ | refine HL.loadE (Rd.arg hv) I I I I (by simp) I (cellsOf_get liC_len hx) ?_ | intro (bk : Nat))
  refine HR.regionQ hmix (by kernel_rfl) ?_
  repeat' (first | refine zq ?_ | refine HQ.callB fn144 I I (fun w _ => rpower_any x.ct w (by omega)) ?_ | apply zb ?_ ?_ | exact zc | (refine zi fun hb => ?_; try simp at hb))
  refine HR.cond I (fun h3 => ?_) (fun h3 => ?_)
  ·have h3 : lrange x = true := h3
   repeat' (first | refine zh ?_ | apply zb ?_ ?_ | exact zc | (refine zi fun hb => ?_; try simp at hb) | intro (bk : Nat))
   refine HR.ret Tryz.func66 I [_] (fun _ _ => ⟨I, trivial⟩) ?_
   refine fun w' hw => ⟨?_, hw.belowB⟩
   have e := lbad_range hx h3
   rw [lchk_at h hg (by rw [e]; decide) hlt, e]; rfl
  have h3 : lrange x = false := h3
  obtain ⟨y, hy⟩ := getSome (l := l) (j := k - 1) (by omega)
  repeat' (first | refine zh ?_ | apply zb ?_ ?_ | exact zc | (refine zi fun hb => ?_; try simp at hb) | intro (bk : Nat))
  refine HR.regionQ hmix (by kernel_rfl) ?_
  repeat' (first | refine zq ?_ | refine HQ.idxR (Rd.arg hv) elemLi (k - 1) I I I (by omega) (by omega) ?_ | refine HQ.fieldE (Rd.arg hv) (by rw [cellsOf_len liC_len]; omega) I I I I I I ?_ | refine HQ.loadI (Rd.arg hv) I I I I (cells_get liC_len hy (i := 0) I) ?_ | apply zb ?_ ?_ | exact zc | (refine zi fun hb => ?_; try simp at hb))
  refine HR.cond I (fun h4 => ?_) (fun h4 => ?_)
  ·have h4 : (decide ((k : Int) > 0) && decide (y.nd ≥ x.nd)) = true := h4
   simp only [Bool.and_eq_true, decide_eq_true_eq] at h4
   repeat' (first | refine zh ?_ | apply zb ?_ ?_ | exact zc | (refine zi fun hb => ?_; try simp at hb) | intro (bk : Nat))
   refine HR.ret Tryz.func66 I [_] (fun _ _ => ⟨I, trivial⟩) ?_
   refine fun w' hw => ⟨?_, hw.belowB⟩
   have e := lbad_order hx h3 (by omega) hy h4.2
   rw [lchk_at h hg (by rw [e]; decide) hlt, e]; rfl
  ·have h4 : (decide ((k : Int) > 0) && decide (y.nd ≥ x.nd)) = false := h4
   repeat' (first | refine zh ?_ | apply zb ?_ ?_ | exact zc | (refine zi fun hb => ?_; try simp at hb) | intro (bk : Nat))
   refine ih (k + 1) _ _ ⟨hlt, firstE_step hg (lbad_ok hx h3 fun y' h0 hy' hle => ?_)⟩ (by omega) ⟨I, I, trivial⟩ (Ent.pick [] I I)
   rw [hy] at hy'
   cases hy'
   rw [decide_eq_true (show (k : Int) > 0 by omega), decide_eq_true (show y.nd ≥ x.nd from hle)] at h4
   cases h4
 ·have hke : k = l.length := by have := of_decide_eq_false h2; omega
  subst hke
  repeat' (first | refine zh ?_ | apply zb ?_ ?_ | exact zc | (refine zi fun hb => ?_; try simp at hb) | intro (bk : Nat))
  refine HR.ret Tryz.func66 I [_] (fun _ _ => ⟨I, trivial⟩) ?_
  exact fun w' hw => ⟨by rw [lchk, if_neg (by omega), hg]; rfl, hw.belowB⟩
end Go.Proofs.YtgdgclmkpoaagaaGreat
namespace Go.Proofs.YtgdgclmkpoaagaaGreat
open Go.GX Go.RowKit
attribute [local irreducible] Calls Run RunL RunQ RunD HR HL HD blkC ownC Rd
open Nd
theorem fn67 : IsFn Tryz.prog 67 := ⟨⟨_, _, Tryz.func67, rfl, by decide⟩⟩
end Go.Proofs.YtgdgclmkpoaagaaGreat
namespace Go.Proofs.YtgdgclmkpoaagaaGreat
open Go.GX Go.RowKit
attribute [local irreducible] Calls Run RunL RunQ RunD HR HL HD blkC ownC Rd
open Nd
theorem tw_at {p : Int → Bool} : ∀ {l : List Int} {k : Nat}, k ≤ l.length → (∀ j a, j < k → l[j]? = some a → p a = true) → (∀ a, l[k]? = some a → p a = false) → l.takeWhile p = l.take k ∧ l.dropWhile p = l.drop k
 | [], k, hk, _, _ => by
  have : k = 0 := by simpa using hk
  subst this; exact ⟨rfl, rfl⟩
 | x :: l, 0, _, _, h2 => by
  have hx := h2 x I
  rw [List.takeWhile_cons_of_neg (by rw [hx]; decide), List.dropWhile_cons_of_neg (by rw [hx]; decide)]
  exact ⟨rfl, rfl⟩
 | x :: l, k + 1, hk, h1, h2 => by
  have hx := h1 0 x (Nat.succ_pos _) I
  obtain ⟨e1, e2⟩ := tw_at (l := l) (k := k) (by simpa using hk) (fun j a hj ha => h1 (j + 1) a (by omega) ha) (fun a ha => h2 a ha)
  rw [List.takeWhile_cons_of_pos hx, List.dropWhile_cons_of_pos hx, e1, e2]
  exact ⟨rfl, rfl⟩
theorem child_at {l : List Int} {c : Int} {k : Nat} (ha : Asc id l) (hk : k ≤ l.length) (h1 : ∀ j a, j < k → l[j]? = some a → a < c) (h2 : ∀ a, l[k]? = some a → ¬ a < c) : child l c = if l[k]? = some c then l else l.take k ++ c :: l.drop k := by
 obtain ⟨e1, e2⟩ := tw_at (p := fun x => decide (x < c)) hk (fun j a hj hja => decide_eq_true (h1 j a hj hja)) (fun a hka => decide_eq_false (h2 a hka))
 unfold child
 rw [e1, e2]
 have hmem : c ∈ l ↔ l[k]? = some c := by
  constructor
  ·intro h
   obtain ⟨j, hj⟩ := List.getElem?_of_mem h
   rcases Nat.lt_trichotomy j k with h3 | h3 | h3
   ·exact absurd (h1 j c h3 hj) (Int.lt_irrefl c)
   ·rw [← h3]; exact hj
   ·obtain ⟨x, hx⟩ := getSome (show k < l.length by have := (List.getElem?_eq_some_iff.1 hj).1; omega)
    have h4 : x < c := ha.lt h3 hx hj
    exact absurd h4 (h2 x hx)
  ·exact fun h => List.mem_of_getElem? h
 by_cases h : c ∈ l
 ·rw [if_pos h, if_pos (hmem.1 h)]
 ·rw [if_neg h, if_neg fun e => h (hmem.2 e)]
theorem iC_one (a : Int) : allOne (iC a) = true := rfl
theorem rchild_any (l : List Int) (c : Int) (v : Value) (B0 : Base) (w : World) (hw0 : Sat B0 [cI v l] w) (hl : l.length ≤ 1000) (ha : Asc id l) :
  Calls Tryz.prog 67 #[v, .int .i64 c] w fun e w' => ∃ r : Value, e = .returned r ∧ True ∧ Sat ⟨w, feet [cI v l]⟩ [cI r (child l c)] w' := by
 refine calls_hrW [cI v l] (hw0) Tryz.func67 I (Nat.le_of_ble_eq_true I) ?_
 refine HR.sub (σ' := [(0, v), (1, .int .i64 c)]) ⟨I, I, trivial⟩ ?_
 repeat' (first | refine zh ?_ | intro (bk : Nat))
 refine HR.nilC 3 1 ?_
 refine HR.joinI (ι := Nat × Value) (fun x => x.1 ≤ l.length ∧ (∀ j a, j < x.1 → l[j]? = some a → a < c) ∧ ∀ a, l[x.1]? = some a → ¬ a < c) (fun x => [(0, v), (1, .int .i64 c), (5, x.2), (6, .int .i64 (x.1 : Int))]) (fun x => [cI x.2 (l.take x.1), cI v l]) (fun x hx => ?_) (fun hj => ?_)
 rotate_left
 ·refine HR.loop (ι := Nat × Value) (fun x => x.1 ≤ l.length ∧ ∀ j a, j < x.1 → l[j]? = some a → a < c) (fun x => [(0, v), (1, .int .i64 c), (5, x.2), (6, .int .i64 (x.1 : Int))]) (fun x => [cI x.2 (l.take x.1), cI v l]) (fun x => l.length - x.1) (0, .slice none 0 0) ⟨Nat.zero_le _, fun j a hj => absurd hj (Nat.not_lt_zero _)⟩ ⟨I, I, I, I, trivial⟩ Ent.refl ?_
  rintro ⟨k, o⟩ ⟨hk, hg⟩ ih
  have hk : k ≤ l.length := hk
  have hg : ∀ j a, j < k → l[j]? = some a → a < c := hg
  refine HR.ctl I ?_
  refine HR.region ?_
  repeat' (first | refine zn ?_ | refine HL.lenR (Rd.own 1 I) I I I ?_ | intro (bk : Nat))
  refine HL.split 11 I (fun hb => ?_) (fun hb => ?_)
  ·have hlt : k < l.length := by have h1 : (k : Int) < (l.length : Int) := of_decide_eq_true hb; omega
   obtain ⟨x, hx⟩ := getSome hlt
   repeat' (first | refine zn ?_ | refine HL.idxR (Rd.own 1 I) elemI k I I I I hlt ?_ | refine HL.loadI (Rd.own 1 I) I I I I (cellsOf_get1 hx) ?_ | intro (bk : Nat))
   refine HR.cond I (fun h2 => ?_) (fun h2 => ?_)
   ·have h2 : x < c := of_decide_eq_true h2
    repeat' (first | refine zh ?_ | refine HL.idxR (Rd.own 1 I) elemI k I I I I hlt ?_ | refine HL.loadI (Rd.own 1 I) I I I I (cellsOf_get1 hx) ?_ | intro (bk : Nat))
    refine HL.bslice elemI I I I I I (by decide) (by decide) ?_
    intro va
    refine HL.appR 1 I elemI (Rd.own 0 I) I I I I (allOne_spec I) (by show ((l.take k).length + 1) * 8 ≤ _; rw [List.length_take]; omega) (by show (l.take k).length + 1 ≤ _; rw [List.length_take]; omega) ?_
    intro v2
    repeat' (first | refine zh ?_ | intro (bk : Nat))
    refine ih (k + 1, v2) _ _ ⟨hlt, fun j a hj hja => ?_⟩ (by show l.length - (k + 1) < l.length - k; omega) ⟨I, I, I, I, trivial⟩ ?_
    ·by_cases hjk : j = k
     ·subst hjk; rw [hx] at hja; cases hja; exact h2
     ·have hj : j < k + 1 := hj
      exact hg j a (by omega) hja
    ·show Ent _ _ [ownC v2 3 1 (l.take (k + 1)).length (cellsOf iC (l.take (k + 1))), cI v l]
     rw [take_succ_get hx, List.length_append, cellsOf_app]
     exact Ent.pick [1, 2] I I
   ·have h2 : ¬ x < c := of_decide_eq_false h2
    refine HR.exit I ?_
    exact hj (k, o) _ _ ⟨hk, hg, fun a hka => by have hka : l[k]? = some a := hka; rw [hx] at hka; cases hka; exact h2⟩ ⟨I, I, I, I, trivial⟩ Ent.refl
  ·have hlt : ¬ k < l.length := by have h1 : ¬ (k : Int) < (l.length : Int) := of_decide_eq_false hb; omega
   repeat' (first | refine zn ?_ | intro (bk : Nat))
   refine HR.condF I ?_
   refine HR.exit I ?_
   exact hj (k, o) _ _ ⟨hk, hg, fun a hka => absurd (List.getElem?_eq_some_iff.1 hka).1 hlt⟩ ⟨I, I, I, I, trivial⟩ Ent.refl
 obtain ⟨k, o⟩ := x
 obtain ⟨hk, h1, h2⟩ := hx
 have hk : k ≤ l.length := hk
 have hsp := child_at ha hk h1 h2
 rw [hsp]
 have htk : (l.take k).length = k := by rw [List.length_take]; omega
 refine HR.ctl I ?_
 refine HR.join (ι := Unit) (fun _ => True) (fun _ => [(0, v), (1, .int .i64 c), (5, o), (6, .int .i64 (k : Int)), (39, .bool (decide (l[k]? = some c)))]) (fun _ => [cI o (l.take k), cI v l]) (fun _ _ => ?_) (fun hj => ?_)
 rotate_left
 ·refine HR.region ?_
  repeat' (first | refine zn ?_ | refine HL.lenR (Rd.own 1 I) I I I ?_ | intro (bk : Nat))
  refine HL.split 32 I (fun hb => ?_) (fun hb => ?_)
  ·have hlt : k < l.length := by have h1 : (k : Int) < (l.length : Int) := of_decide_eq_true hb; omega
   obtain ⟨x, hx⟩ := getSome hlt
   repeat' (first | refine zn ?_ | refine HL.idxR (Rd.own 1 I) elemI k I I I I hlt ?_ | refine HL.loadI (Rd.own 1 I) I I I I (cellsOf_get1 hx) ?_ | intro (bk : Nat))
   refine hj () _ _ trivial ⟨rfl, rfl, rfl, rfl, ?_, trivial⟩ Ent.refl
   show some (Value.bool (x == c)) = some (Value.bool (decide (l[k]? = some c)))
   rw [hx]
   by_cases e : x = c
   ·subst e; simp
   ·simp [e]
  ·have hlt : ¬ k < l.length := by have h1 : ¬ (k : Int) < (l.length : Int) := of_decide_eq_false hb; omega
   repeat' (first | refine zn ?_ | intro (bk : Nat))
   refine hj () _ _ trivial ⟨rfl, rfl, rfl, rfl, ?_, trivial⟩ Ent.refl
   show some (Value.bool false) = some (Value.bool (decide (l[k]? = some c)))
   rw [List.getElem?_eq_none (by omega)]; rfl
 refine HR.cond I (fun h3 => ?_) (fun h3 => ?_)
 ·have h3 : l[k]? = some c := of_decide_eq_true h3
  rw [if_pos h3]
  repeat' (first | refine zh ?_ | intro (bk : Nat))
  refine HR.ret Tryz.func67 I [_] (fun _ _ => ⟨I, trivial⟩) ?_
  exact fun w' hw => ⟨v, rfl, trivial, hw.pick [1] I rfl⟩
 have h3 : ¬ l[k]? = some c := of_decide_eq_false h3
 rw [if_neg h3]
 repeat' (first | refine zh ?_ | intro (bk : Nat))
 refine HL.bslice elemI I I I I I (by decide) (by decide) ?_
 intro va
 refine HL.appR 1 I elemI (Rd.own 0 I) I I I I (allOne_spec I) (by omega) (by omega) ?_
 intro v2
 have hcl : (cellsOf iC l).length = l.length * 1 := cellsOf_len iC_len _
 repeat' (first | refine zh ?_ | refine HL.lenR (Rd.own 2 I) I I I ?_ | intro (bk : Nat))
 refine HL.subI (sz := 1) k l.length (Rd.own 2 I) I I I I (.inr ⟨_, _, _, rfl, rfl, rfl⟩) (.inl ⟨rfl, rfl⟩) hk (Nat.le_refl _) ?_
 refine HL.appR 1 I elemI (Rd.sub (sz := 1) (Rd.own 2 I) hcl hk (Nat.le_refl _)) I I I (by rw [List.length_take, List.length_drop, hcl]; omega) (fun u hu => one_allcells iC_one _ u (List.mem_of_mem_drop (List.mem_of_mem_take hu))) (by omega) (by omega) ?_
 intro v3
 repeat' (first | refine zh ?_ | intro (bk : Nat))
 refine HR.ret Tryz.func67 I [_] (fun _ _ => ⟨I, trivial⟩) ?_
 refine fun w' hw => ⟨v3, rfl, trivial, ?_⟩
 refine Ent.own0 ?_ ?_ w' (hw.pick [1] I I)
 ·rw [List.length_append, List.length_cons, List.length_drop, htk]; omega
 ·rw [cellsOf_app, cellsOf_drop iC_len, List.take_of_length_le (l := cellsOf iC (l.drop k)) (by rw [cellsOf_len iC_len, List.length_drop]; omega), List.append_assoc]; rfl
end Go.Proofs.YtgdgclmkpoaagaaGreat
namespace Go.Proofs.YtgdgclmkpoaagaaGreat
open Go.GX Go.RowKit
attribute [local irreducible] Calls Run RunL RunQ RunD HR HL HD blkC ownC Rd
open Nd
theorem fn20 : IsFn Tryz.prog 20 := ⟨⟨_, _, Tryz.func20, rfl, by decide⟩⟩
structure ROk (V : NV) (n : Nd) (V' : NV) (Gt : List Chunk) (m : Nd) : Prop where
 pa : V'.pa = V.pa
 ps : V'.ps = V.ps
 ta : ∀ w2, Sl w2 (sv V.ta n.table.length) (cellsOf roC n.table) n.table.length → (groupC Gt).p w2 → Sl w2 (sv V'.ta m.table.length) (cellsOf roC m.table) m.table.length
 li : ∀ w2, Sl w2 (sv V.li n.links.length) (cellsOf liC n.links) n.links.length → Sl w2 (sv V'.li m.links.length) (cellsOf liC m.links) m.links.length
abbrev roH (V : NV) (Gt : List Chunk) (m : Nd) : List Chunk := [groupC Gt, cSn (sv V.ou m.out.length) m.out, cMa (sv V.bo m.boxes.length) m.boxes, cI (sv V.ch m.children.length) m.children, cPr (sv V.se m.seen.length) m.seen, cDe (sv V.ib m.inbox.length) m.inbox]
theorem fold_step (p : Int → Bool) {l : List Int} {k : Nat} {x : Int} (hx : l[k]? = some x) : ((l.take (k + 1)).filter p).foldl child [] = if p x = true then child (((l.take k).filter p).foldl child []) x else ((l.take k).filter p).foldl child [] := by
 rw [take_filter hx]
 split
 ·rw [List.foldl_append]; rfl
 ·rfl
theorem rorder_any (V : NV) (n : Nd) (w : World) (h : OkN w V n) (hs : SmN n) :
  Calls Tryz.prog 20 #[.agg ⟨ndC V n⟩] w fun e w' => ∃ x : NV × List Chunk, e = .returned (.agg ⟨ndC x.1 (order n)⟩) ∧ ROk V n x.1 x.2 (order n) ∧ Sat (base w) (roH x.1 x.2 (order n)) w' := by
 have l1 := hs.ta
 have l2 := hs.li
 have l3 := hs.ou
 have l4 := hs.ch
 have l5 := hs.bo
 have l6 := hs.se
 have l7 := hs.ib
 obtain ⟨m, hm⟩ : ∃ m, m = order n := ⟨_, rfl⟩
 have e_ad : m.addr = clamp n.addr 0 250 := by rw [hm]; rfl
 have e_po : m.poll = if n.poll < 1 then 0 else max n.poll 4 := by rw [hm]; rfl
 have e_pr : m.parent = if Tp.okN n.parent = false ∨ n.parent = m.addr then 255 else n.parent := by rw [hm]; rfl
 have e_ta : m.table = if rchk n.table m.addr = 0 then n.table else [rown m.addr] := by rw [hm]; rfl
 have e_li : m.links = if lchk n.links = 0 then n.links else [] := by rw [hm]; rfl
 have e_ou : m.out = n.out.take (min n.out.length 16) := by rw [hm, ← take_minl]; rfl
 have e_ch : m.children = (n.children.filter fun c => Tp.okN c && !(c == m.addr)).foldl child [] := by rw [hm]; rfl
 have e_bo : m.boxes = n.boxes.take (min n.boxes.length 16) := by rw [hm, ← take_minl]; rfl
 have e_se : m.seen = n.seen.drop (n.seen.length - 32) := by rw [hm]; rfl
 have e_ib : m.inbox = n.inbox.take (min n.inbox.length 256) := by rw [hm, ← take_minl]; rfl
 have e_sq : m.seq = if n.seq < 0 ∨ n.seq > 65535 then 0 else n.seq := by rw [hm]; rfl
 have e_lo : m.lost = clamp n.lost 0 1099511627776 := by rw [hm]; rfl
 have e_nw : rnew m.addr = [rown m.addr] := by rw [e_ad]; unfold rnew lim; rw [clamp2]
 have s_ou := Sl.pre snC_len h.ou (Nat.min_le_left _ _) e_ou
 have s_bo := Sl.pre maC_len h.bo (Nat.min_le_left _ _) e_bo
 have s_se := Sl.suf prC_len h.se (Nat.sub_le _ _) e_se
 have s_ib := Sl.pre deC_len h.ib (Nat.min_le_left _ _) e_ib
 have k3 : m.out.length ≤ 16 := by rw [e_ou, List.length_take]; omega
 have k5 : m.boxes.length ≤ 16 := by rw [e_bo, List.length_take]; omega
 have k6 : m.seen.length ≤ 32 := by rw [e_se, List.length_drop]; omega
 have k7 : m.inbox.length ≤ 256 := by rw [e_ib, List.length_take]; omega
 rw [← hm]
 refine calls_hr Tryz.func20 I (Nat.le_of_ble_eq_true I) ?_
 refine HR.sub (σ' := [(0, .agg ⟨ndC V n⟩)]) ⟨I, trivial⟩ ?_
 refine HR.ctl I ?_
 refine HR.region ?_
 refine HL.box I I ?_
 intro b1
 refine HL.alloc I I ?_
 intro b2
 repeat' (first | refine zh ?_ | refine HL.callB fn63 I I (fun w _ => rclamp_any n.addr 0 250 (by decide) w) ?_ | intro (bk : Nat))
 refine HR.ent (H' := [blkC b1 [.int .i64 m.addr, .int .i64 n.poll, .int .i64 n.parent, sv V.ta n.table.length, sv V.li n.links.length, sv V.ou n.out.length, sv V.ch n.children.length, sv V.bo n.boxes.length, sv V.se n.seen.length, sv V.pa V.ps.length, sv V.ib n.inbox.length, .int .i64 n.seq, .int .i64 n.lost] 31, rsC b2]) (Ent.trans (Ent.pick [1, 0] I I) (Ent.of_eq (by rw [e_ad]; rfl))) ?_
 refine HR.join (ι := Unit) (fun _ => True) (fun _ => [(1, ptr b1), (2, ptr b2)]) (fun _ => [blkC b1 [.int .i64 m.addr, .int .i64 m.poll, .int .i64 n.parent, sv V.ta n.table.length, sv V.li n.links.length, sv V.ou n.out.length, sv V.ch n.children.length, sv V.bo n.boxes.length, sv V.se n.seen.length, sv V.pa V.ps.length, sv V.ib n.inbox.length, .int .i64 n.seq, .int .i64 n.lost] 31, rsC b2]) (fun _ _ => ?_) (fun hj => ?_)
 rotate_left
 ·refine HR.cond I (fun h => ?_) (fun h => ?_)
  ·have h : n.poll < 1 := of_decide_eq_true h
   refine HR.region ?_
   repeat' (first | refine zn ?_ | apply zb ?_ ?_ | exact zc | (refine zi fun hb => ?_; try simp at hb) | intro (bk : Nat))
   refine hj () _ _ trivial ⟨I, I, trivial⟩ (Ent.of_eq ?_)
   rw [e_po, if_pos h]; rfl
  ·have h : ¬ n.poll < 1 := of_decide_eq_false h
   rw [if_neg h] at e_po
   refine HR.ctl I ?_
   refine HR.region ?_
   repeat' (first | refine zn ?_ | apply zb ?_ ?_ | exact zc | (refine zi fun hb => ?_; try simp at hb) | intro (bk : Nat))
   refine HR.cond I (fun h2 => ?_) (fun h2 => ?_)
   ·have h2 : n.poll < 4 := of_decide_eq_true h2
    refine HR.region ?_
    repeat' (first | refine zn ?_ | apply zb ?_ ?_ | exact zc | (refine zi fun hb => ?_; try simp at hb) | intro (bk : Nat))
    refine hj () _ _ trivial ⟨I, I, trivial⟩ (Ent.of_eq ?_)
    rw [show m.poll = 4 from by rw [e_po]; omega]; rfl
   ·have h2 : ¬ n.poll < 4 := of_decide_eq_false h2
    refine HR.skip ?_
    refine hj () _ _ trivial ⟨I, I, trivial⟩ (Ent.of_eq ?_)
    rw [show m.poll = n.poll from by rw [e_po]; omega]
 repeat' (first | refine zh ?_ | refine HL.callB fn45 I I (fun w _ => address_any n.parent w) ?_ | apply zb ?_ ?_ | exact zc | (refine zi fun hb => ?_; try simp at hb) | intro (bk : Nat))
 refine HR.join (ι := Unit) (fun _ => True) (fun _ => [(1, ptr b1), (2, ptr b2)]) (fun _ => [blkC b1 [.int .i64 m.addr, .int .i64 m.poll, .int .i64 m.parent, sv V.ta n.table.length, sv V.li n.links.length, sv V.ou n.out.length, sv V.ch n.children.length, sv V.bo n.boxes.length, sv V.se n.seen.length, sv V.pa V.ps.length, sv V.ib n.inbox.length, .int .i64 n.seq, .int .i64 n.lost] 31, rsC b2]) (fun _ _ => ?_) (fun hj => ?_)
 rotate_left
 ·refine HR.cond I (fun h => ?_) (fun h => ?_)
  ·have h : (!Tp.okN n.parent || (n.parent == m.addr)) = true := h
   have h2 : Tp.okN n.parent = false ∨ n.parent = m.addr := by simpa using h
   refine HR.region ?_
   repeat' (first | refine zn ?_ | apply zb ?_ ?_ | exact zc | (refine zi fun hb => ?_; try simp at hb) | intro (bk : Nat))
   refine hj () _ _ trivial ⟨I, I, trivial⟩ (Ent.of_eq ?_)
   rw [e_pr, if_pos h2]; rfl
  ·have h : (!Tp.okN n.parent || (n.parent == m.addr)) = false := h
   have h2 : ¬ (Tp.okN n.parent = false ∨ n.parent = m.addr) := by simpa using h
   refine HR.skip ?_
   refine hj () _ _ trivial ⟨I, I, trivial⟩ (Ent.of_eq ?_)
   rw [e_pr, if_neg h2]
 repeat' (first | refine zh ?_ | refine HL.callB fn64 I I (fun w hw => r11check_any n.table m.addr _ w ((Rd.arg h.ta).at hw) l1) ?_ | intro (bk : Nat))
 refine HR.join (ι := SV × List Chunk) (fun x => ∀ w2, Sl w2 (sv V.ta n.table.length) (cellsOf roC n.table) n.table.length → (groupC x.2).p w2 → Sl w2 (sv x.1 m.table.length) (cellsOf roC m.table) m.table.length) (fun _ => [(1, ptr b1), (2, ptr b2)]) (fun x => [blkC b1 [.int .i64 m.addr, .int .i64 m.poll, .int .i64 m.parent, sv x.1 m.table.length, sv V.li n.links.length, sv V.ou n.out.length, sv V.ch n.children.length, sv V.bo n.boxes.length, sv V.se n.seen.length, sv V.pa V.ps.length, sv V.ib n.inbox.length, .int .i64 n.seq, .int .i64 n.lost] 31, rsC b2, groupC x.2]) (fun xt ht => ?_) (fun hj => ?_)
 rotate_left
 ·refine HR.cond I (fun h2 => ?_) (fun h2 => ?_)
  ·have h2 : ¬ rchk n.table m.addr = 0 := by simpa using h2
   rw [if_neg h2, ← e_nw] at e_ta
   refine HR.region ?_
   repeat' (first | refine zn ?_ | refine HL.callO fn65 I I (fun w _ => rrnew_any m.addr w) ?_ | apply zb ?_ ?_ | exact zc | (refine zi fun hb => ?_; try simp at hb) | intro (bk : Nat))
   intro v2
   refine HL.shape 0 I fun a2 c2 hv => ?_
   subst hv
   repeat' (first | refine zn ?_ | apply zb ?_ ?_ | exact zc | (refine zi fun hb => ?_; try simp at hb) | intro (bk : Nat))
   refine hj ((a2, c2), [cTa (.slice a2 (rnew m.addr).length c2) (rnew m.addr)]) _ _ (fun w2 _ hp => ?_) ⟨I, I, trivial⟩ ?_
   ·rw [e_ta]; exact ownC_sl hp.1
   ·rw [e_ta]; exact Ent.trans (Ent.group (G := [cTa (.slice a2 (rnew m.addr).length c2) (rnew m.addr)])) (Ent.pick [1, 2, 0] I I)
  ·have h2 : rchk n.table m.addr = 0 := by simpa using h2
   rw [if_pos h2] at e_ta
   refine HR.skip ?_
   refine hj (V.ta, []) _ _ (fun w2 hw2 _ => ?_) ⟨I, I, trivial⟩ ?_
   ·rw [e_ta]; exact hw2
   ·rw [e_ta]; exact Ent.trans Ent.gnil (Ent.pick [1, 2, 0] I I)
 obtain ⟨xt, Gt⟩ := xt
 have ht : ∀ w2, Sl w2 (sv V.ta n.table.length) (cellsOf roC n.table) n.table.length → (groupC Gt).p w2 → Sl w2 (sv xt m.table.length) (cellsOf roC m.table) m.table.length := ht
 repeat' (first | refine zh ?_ | refine HL.callB fn66 I I (fun w hw => r10check_any n.links _ w ((Rd.arg h.li).at hw) l2) ?_ | intro (bk : Nat))
 refine HR.join (ι := SV) (fun x => ∀ w2, Sl w2 (sv V.li n.links.length) (cellsOf liC n.links) n.links.length → Sl w2 (sv x m.links.length) (cellsOf liC m.links) m.links.length) (fun _ => [(1, ptr b1), (2, ptr b2)]) (fun x => [blkC b1 [.int .i64 m.addr, .int .i64 m.poll, .int .i64 m.parent, sv xt m.table.length, sv x m.links.length, sv V.ou n.out.length, sv V.ch n.children.length, sv V.bo n.boxes.length, sv V.se n.seen.length, sv V.pa V.ps.length, sv V.ib n.inbox.length, .int .i64 n.seq, .int .i64 n.lost] 31, rsC b2, groupC Gt]) (fun xl hli => ?_) (fun hj => ?_)
 rotate_left
 ·refine HR.cond I (fun h2 => ?_) (fun h2 => ?_)
  ·have h2 : ¬ lchk n.links = 0 := by simpa using h2
   rw [if_neg h2] at e_li
   refine HR.region ?_
   repeat' (first | refine zn ?_ | apply zb ?_ ?_ | exact zc | (refine zi fun hb => ?_; try simp at hb) | intro (bk : Nat))
   refine hj (none, 0) _ _ (fun w2 _ => ?_) ⟨I, I, trivial⟩ ?_
   ·rw [e_li]; exact Sl.nil w2
   ·rw [e_li]; exact Ent.refl
  ·have h2 : lchk n.links = 0 := by simpa using h2
   rw [if_pos h2] at e_li
   refine HR.skip ?_
   refine hj V.li _ _ (fun w2 hw2 => ?_) ⟨I, I, trivial⟩ ?_
   ·rw [e_li]; exact hw2
   ·rw [e_li]; exact Ent.refl
 repeat' (first | refine zh ?_ | refine HL.bslice0 elemSn I ?_ | intro (bk : Nat))
 intro v0
 repeat' (first | refine zh ?_ | intro (bk : Nat))
 refine HL.setV 50 (v' := .int .i64 ((min n.out.length 16 : Nat) : Int)) I (by rw [← min_i]; rfl) ?_
 repeat' (first | refine zh ?_ | refine HL.subI (sz := 11) 0 (min n.out.length 16) (Rd.arg h.ou) I I I I (.inl ⟨rfl, rfl⟩) (.inr ⟨_, _, _, rfl, rfl, rfl⟩) (Nat.zero_le _) (Nat.min_le_left _ _) ?_ | intro (bk : Nat))
 refine HL.appR 0 I elemSn (Rd.arg s_ou) I I I (cellsOf_len snC_len _) (one_allcells snC_one _) (by omega) (by omega) ?_
 intro v1
 refine HL.ent (H' := cSn v1 m.out :: [blkC b1 [.int .i64 m.addr, .int .i64 m.poll, .int .i64 m.parent, sv xt m.table.length, sv xl m.links.length, sv V.ou n.out.length, sv V.ch n.children.length, sv V.bo n.boxes.length, sv V.se n.seen.length, sv V.pa V.ps.length, sv V.ib n.inbox.length, .int .i64 n.seq, .int .i64 n.lost] 31, rsC b2, groupC Gt]) (Ent.own0 (Nat.zero_add _) (List.nil_append _)) ?_
 refine HL.shape 0 I fun a3 c3 hv => ?_
 subst hv
 refine HL.ent (H' := [blkC b1 [.int .i64 m.addr, .int .i64 m.poll, .int .i64 m.parent, sv xt m.table.length, sv xl m.links.length, sv V.ou n.out.length, sv V.ch n.children.length, sv V.bo n.boxes.length, sv V.se n.seen.length, sv V.pa V.ps.length, sv V.ib n.inbox.length, .int .i64 n.seq, .int .i64 n.lost] 31, rsC b2, groupC Gt, cSn (.slice a3 m.out.length c3) m.out]) (Ent.pick [1, 2, 3, 0] I I) ?_
 repeat' (first | refine zh ?_ | refine HL.bslice0 elemMa I ?_ | intro (bk : Nat))
 intro v0
 repeat' (first | refine zh ?_ | intro (bk : Nat))
 refine HL.setV 60 (v' := .int .i64 ((min n.boxes.length 16 : Nat) : Int)) I (by rw [← min_i]; rfl) ?_
 repeat' (first | refine zh ?_ | refine HL.subI (sz := 10) 0 (min n.boxes.length 16) (Rd.arg h.bo) I I I I (.inl ⟨rfl, rfl⟩) (.inr ⟨_, _, _, rfl, rfl, rfl⟩) (Nat.zero_le _) (Nat.min_le_left _ _) ?_ | intro (bk : Nat))
 refine HL.appR 0 I elemMa (Rd.arg s_bo) I I I (cellsOf_len maC_len _) (one_allcells maC_one _) (by omega) (by omega) ?_
 intro v1
 refine HL.ent (H' := cMa v1 m.boxes :: [blkC b1 [.int .i64 m.addr, .int .i64 m.poll, .int .i64 m.parent, sv xt m.table.length, sv xl m.links.length, .slice a3 m.out.length c3, sv V.ch n.children.length, sv V.bo n.boxes.length, sv V.se n.seen.length, sv V.pa V.ps.length, sv V.ib n.inbox.length, .int .i64 n.seq, .int .i64 n.lost] 31, rsC b2, groupC Gt, cSn (.slice a3 m.out.length c3) m.out]) (Ent.own0 (Nat.zero_add _) (List.nil_append _)) ?_
 refine HL.shape 0 I fun a5 c5 hv => ?_
 subst hv
 refine HL.ent (H' := [blkC b1 [.int .i64 m.addr, .int .i64 m.poll, .int .i64 m.parent, sv xt m.table.length, sv xl m.links.length, .slice a3 m.out.length c3, sv V.ch n.children.length, sv V.bo n.boxes.length, sv V.se n.seen.length, sv V.pa V.ps.length, sv V.ib n.inbox.length, .int .i64 n.seq, .int .i64 n.lost] 31, rsC b2, groupC Gt, cSn (.slice a3 m.out.length c3) m.out, cMa (.slice a5 m.boxes.length c5) m.boxes]) (Ent.pick [1, 2, 3, 4, 0] I I) ?_
 repeat' (first | refine zh ?_ | intro (bk : Nat))
 refine HR.nilC 3 1 ?_
 obtain ⟨g, hg⟩ : ∃ g : Nat → List Int, g = fun k => ((n.children.take k).filter fun c => Tp.okN c && !(c == m.addr)).foldl child [] := ⟨_, rfl⟩
 have hga : ∀ k, Asc id (g k) := fun k => by rw [hg]; exact (childs_asc (l := (n.children.take k).filter fun c => Tp.okN c && !(c == m.addr)) (acc := []) List.Pairwise.nil).1
 have hgl : ∀ k, (g k).length ≤ 1000 := fun k => Nat.le_trans (asc_bound (hga k) fun x hx => by
  rw [hg] at hx
  have hx := ((childs_asc (l := (n.children.take k).filter fun c => Tp.okN c && !(c == m.addr)) (acc := []) List.Pairwise.nil).2 x).1 hx
  rcases hx with hx | hx
  ·have := (List.mem_filter.1 hx).2
   simp only [Bool.and_eq_true] at this
   exact this.1
  ·cases hx) (by decide)
 refine HR.loop (ι := Nat × Value) (fun x => x.1 ≤ n.children.length) (fun x => [(1, ptr b1), (2, ptr b2), (3, x.2), (4, .int .i64 (x.1 : Int))]) (fun x => [cI x.2 (g x.1), blkC b1 [.int .i64 m.addr, .int .i64 m.poll, .int .i64 m.parent, sv xt m.table.length, sv xl m.links.length, .slice a3 m.out.length c3, sv V.ch n.children.length, .slice a5 m.boxes.length c5, sv V.se n.seen.length, sv V.pa V.ps.length, sv V.ib n.inbox.length, .int .i64 n.seq, .int .i64 n.lost] 31, rsC b2, groupC Gt, cSn (.slice a3 m.out.length c3) m.out, cMa (.slice a5 m.boxes.length c5) m.boxes]) (fun x => n.children.length - x.1) (0, .slice none 0 0) (Nat.zero_le _) ⟨I, I, I, I, trivial⟩ (by rw [hg]; exact Ent.refl) ?_
 rintro ⟨k, v⟩ hk ih
 have hk : k ≤ n.children.length := hk
 repeat' (first | refine zh ?_ | intro (bk : Nat))
 refine HR.cond I (fun h2 => ?_) (fun h2 => ?_)
 ·have hlt : k < n.children.length := by have := of_decide_eq_true h2; omega
  obtain ⟨c, hc⟩ := getSome hlt
  have hgs := fold_step (fun c => Tp.okN c && !(c == m.addr)) hc
  have hgs : g (k + 1) = if (Tp.okN c && !(c == m.addr)) = true then child (g k) c else g k := by rw [hg]; exact hgs
  repeat' (first | refine zh ?_ | intro (bk : Nat))
  refine HR.join (ι := Unit) (fun _ => True) (fun _ => [(1, ptr b1), (2, ptr b2), (3, v), (4, .int .i64 (k : Int)), (86, .bool (Tp.okN c && !(c == m.addr)))]) (fun _ => [cI v (g k), blkC b1 [.int .i64 m.addr, .int .i64 m.poll, .int .i64 m.parent, sv xt m.table.length, sv xl m.links.length, .slice a3 m.out.length c3, sv V.ch n.children.length, .slice a5 m.boxes.length c5, sv V.se n.seen.length, sv V.pa V.ps.length, sv V.ib n.inbox.length, .int .i64 n.seq, .int .i64 n.lost] 31, rsC b2, groupC Gt, cSn (.slice a3 m.out.length c3) m.out, cMa (.slice a5 m.boxes.length c5) m.boxes]) (fun _ _ => ?_) (fun hj => ?_)
  rotate_left
  ·refine HR.regionD [(0, true), (1, true), (2, true), (3, true), (4, true), (5, false), (6, true), (7, true), (8, true), (9, true), (10, true), (11, true), (12, true), (13, true), (14, true), (15, true)] [1] I I hmix (by kernel_rfl) ?_
   repeat' (first | refine zd ?_ | refine HD.idxR (Rd.arg h.ch) elemI k I I I I I hlt ?_ | refine HD.loadI (Rd.arg h.ch) I I I I I (cellsOf_get1 hc) ?_)
   refine HD.one I ?_
   refine HL.callB fn45 I I (fun w _ => address_any c w) ?_
   refine HL.back [1] I I ?_
   repeat' (first | refine zd ?_ | fail)
   refine HD.split 77 I (fun hb => ?_) (fun hb => ?_)
   ·repeat' (first | refine zd ?_ | refine HD.idxR (Rd.arg h.ch) elemI k I I I I I hlt ?_ | refine HD.loadI (Rd.arg h.ch) I I I I I (cellsOf_get1 hc) ?_)
    refine HD.nil ?_
    refine hj () _ _ trivial ⟨rfl, rfl, rfl, rfl, ?_, trivial⟩ Ent.refl
    show some (Value.bool (!(c == m.addr))) = some (Value.bool (Tp.okN c && !(c == m.addr)))
    rw [show Tp.okN c = true from hb]; rfl
   ·repeat' (first | refine zd ?_ | fail)
    refine HD.nil ?_
    refine hj () _ _ trivial ⟨rfl, rfl, rfl, rfl, ?_, trivial⟩ Ent.refl
    show some (Value.bool false) = some (Value.bool (Tp.okN c && !(c == m.addr)))
    rw [show Tp.okN c = false from hb]; rfl
  refine HR.cond I (fun h3 => ?_) (fun h3 => ?_)
  ·have h3 : (Tp.okN c && !(c == m.addr)) = true := h3
   rw [if_pos h3] at hgs
   repeat' (first | refine zh ?_ | refine HL.idxR (Rd.arg h.ch) elemI k I I I I hlt ?_ | refine HL.loadI (Rd.arg h.ch) I I I I (cellsOf_get1 hc) ?_ | intro (bk : Nat))
   refine HL.callW (r := fun r : Value => r) (Q := fun _ => True) (G0 := [cI v (g k)]) (H0 := [blkC b1 [.int .i64 m.addr, .int .i64 m.poll, .int .i64 m.parent, sv xt m.table.length, sv xl m.links.length, .slice a3 m.out.length c3, sv V.ch n.children.length, .slice a5 m.boxes.length c5, sv V.se n.seen.length, sv V.pa V.ps.length, sv V.ib n.inbox.length, .int .i64 n.seq, .int .i64 n.lost] 31, rsC b2, groupC Gt, cSn (.slice a3 m.out.length c3) m.out, cMa (.slice a5 m.boxes.length c5) m.boxes]) (G := fun r => [cI r (child (g k) c)]) fn67 I I I (fun w1 hw1 => rchild_any (g k) c v _ w1 (hw1.pick [0] I I) (hgl k) (hga k)) ?_
   intro r _
   repeat' (first | refine zh ?_ | intro (bk : Nat))
   refine ih (k + 1, r) _ _ hlt (by show n.children.length - (k + 1) < n.children.length - k; omega) ⟨I, I, I, I, trivial⟩ ?_
   show Ent _ _ [cI r (g (k + 1)), blkC b1 [.int .i64 m.addr, .int .i64 m.poll, .int .i64 m.parent, sv xt m.table.length, sv xl m.links.length, .slice a3 m.out.length c3, sv V.ch n.children.length, .slice a5 m.boxes.length c5, sv V.se n.seen.length, sv V.pa V.ps.length, sv V.ib n.inbox.length, .int .i64 n.seq, .int .i64 n.lost] 31, rsC b2, groupC Gt, cSn (.slice a3 m.out.length c3) m.out, cMa (.slice a5 m.boxes.length c5) m.boxes]
   rw [hgs]
   exact Ent.refl
  ·have h3 : (Tp.okN c && !(c == m.addr)) = false := h3
   rw [if_neg (by rw [h3]; decide)] at hgs
   repeat' (first | refine zh ?_ | intro (bk : Nat))
   refine ih (k + 1, v) _ _ hlt (by show n.children.length - (k + 1) < n.children.length - k; omega) ⟨I, I, I, I, trivial⟩ ?_
   show Ent _ _ [cI v (g (k + 1)), blkC b1 [.int .i64 m.addr, .int .i64 m.poll, .int .i64 m.parent, sv xt m.table.length, sv xl m.links.length, .slice a3 m.out.length c3, sv V.ch n.children.length, .slice a5 m.boxes.length c5, sv V.se n.seen.length, sv V.pa V.ps.length, sv V.ib n.inbox.length, .int .i64 n.seq, .int .i64 n.lost] 31, rsC b2, groupC Gt, cSn (.slice a3 m.out.length c3) m.out, cMa (.slice a5 m.boxes.length c5) m.boxes]
   rw [hgs]
   exact Ent.refl
 have hke : k = n.children.length := by have := of_decide_eq_false h2; omega
 subst hke
 have hgm : g n.children.length = m.children := by rw [e_ch, hg]; show ((n.children.take n.children.length).filter _).foldl child [] = _; rw [List.take_length]
 refine HR.ent (H' := [cI v m.children, blkC b1 [.int .i64 m.addr, .int .i64 m.poll, .int .i64 m.parent, sv xt m.table.length, sv xl m.links.length, .slice a3 m.out.length c3, sv V.ch n.children.length, .slice a5 m.boxes.length c5, sv V.se n.seen.length, sv V.pa V.ps.length, sv V.ib n.inbox.length, .int .i64 n.seq, .int .i64 n.lost] 31, rsC b2, groupC Gt, cSn (.slice a3 m.out.length c3) m.out, cMa (.slice a5 m.boxes.length c5) m.boxes]) (Ent.of_eq (by rw [← hgm])) ?_
 repeat' (first | refine zh ?_ | intro (bk : Nat))
 refine HL.shape 0 I fun a4 c4 hv => ?_
 subst hv
 refine HL.ent (H' := [blkC b1 [.int .i64 m.addr, .int .i64 m.poll, .int .i64 m.parent, sv xt m.table.length, sv xl m.links.length, .slice a3 m.out.length c3, sv V.ch n.children.length, .slice a5 m.boxes.length c5, sv V.se n.seen.length, sv V.pa V.ps.length, sv V.ib n.inbox.length, .int .i64 n.seq, .int .i64 n.lost] 31, rsC b2, groupC Gt, cSn (.slice a3 m.out.length c3) m.out, cMa (.slice a5 m.boxes.length c5) m.boxes, cI (.slice a4 m.children.length c4) m.children]) (Ent.pick [1, 2, 3, 4, 5, 0] I I) ?_
 repeat' (first | refine zh ?_ | refine HL.bslice0 elemPr I ?_ | intro (bk : Nat))
 intro v0
 repeat' (first | refine zh ?_ | intro (bk : Nat))
 refine HL.setV 103 (v' := .int .i64 ((n.seen.length - 32 : Nat) : Int)) I (by rw [← max0]) ?_
 repeat' (first | refine zh ?_ | refine HL.subI (sz := 2) (n.seen.length - 32) n.seen.length (Rd.arg h.se) I I I I (.inr ⟨_, _, _, rfl, rfl, rfl⟩) (.inl ⟨rfl, rfl⟩) (Nat.sub_le _ _) (Nat.le_refl _) ?_ | intro (bk : Nat))
 refine HL.appR 0 I elemPr (Rd.arg s_se) I I I (cellsOf_len prC_len _) (one_allcells prC_one _) (by omega) (by omega) ?_
 intro v1
 refine HL.ent (H' := cPr v1 m.seen :: [blkC b1 [.int .i64 m.addr, .int .i64 m.poll, .int .i64 m.parent, sv xt m.table.length, sv xl m.links.length, .slice a3 m.out.length c3, .slice a4 m.children.length c4, .slice a5 m.boxes.length c5, sv V.se n.seen.length, sv V.pa V.ps.length, sv V.ib n.inbox.length, .int .i64 n.seq, .int .i64 n.lost] 31, rsC b2, groupC Gt, cSn (.slice a3 m.out.length c3) m.out, cMa (.slice a5 m.boxes.length c5) m.boxes, cI (.slice a4 m.children.length c4) m.children]) (Ent.own0 (Nat.zero_add _) (List.nil_append _)) ?_
 refine HL.shape 0 I fun a6 c6 hv => ?_
 subst hv
 refine HL.ent (H' := [blkC b1 [.int .i64 m.addr, .int .i64 m.poll, .int .i64 m.parent, sv xt m.table.length, sv xl m.links.length, .slice a3 m.out.length c3, .slice a4 m.children.length c4, .slice a5 m.boxes.length c5, sv V.se n.seen.length, sv V.pa V.ps.length, sv V.ib n.inbox.length, .int .i64 n.seq, .int .i64 n.lost] 31, rsC b2, groupC Gt, cSn (.slice a3 m.out.length c3) m.out, cMa (.slice a5 m.boxes.length c5) m.boxes, cI (.slice a4 m.children.length c4) m.children, cPr (.slice a6 m.seen.length c6) m.seen]) (Ent.pick [1, 2, 3, 4, 5, 6, 0] I I) ?_
 repeat' (first | refine zh ?_ | refine HL.bslice0 elemDe I ?_ | intro (bk : Nat))
 intro v0
 repeat' (first | refine zh ?_ | intro (bk : Nat))
 refine HL.setV 113 (v' := .int .i64 ((min n.inbox.length 256 : Nat) : Int)) I (by rw [← min_i]; rfl) ?_
 repeat' (first | refine zh ?_ | refine HL.subI (sz := 2) 0 (min n.inbox.length 256) (Rd.arg h.ib) I I I I (.inl ⟨rfl, rfl⟩) (.inr ⟨_, _, _, rfl, rfl, rfl⟩) (Nat.zero_le _) (Nat.min_le_left _ _) ?_ | intro (bk : Nat))
 refine HL.appR 0 I elemDe (Rd.arg s_ib) I I I (cellsOf_len deC_len _) (one_allcells deC_one _) (by omega) (by omega) ?_
 intro v1
 refine HL.ent (H' := cDe v1 m.inbox :: [blkC b1 [.int .i64 m.addr, .int .i64 m.poll, .int .i64 m.parent, sv xt m.table.length, sv xl m.links.length, .slice a3 m.out.length c3, .slice a4 m.children.length c4, .slice a5 m.boxes.length c5, .slice a6 m.seen.length c6, sv V.pa V.ps.length, sv V.ib n.inbox.length, .int .i64 n.seq, .int .i64 n.lost] 31, rsC b2, groupC Gt, cSn (.slice a3 m.out.length c3) m.out, cMa (.slice a5 m.boxes.length c5) m.boxes, cI (.slice a4 m.children.length c4) m.children, cPr (.slice a6 m.seen.length c6) m.seen]) (Ent.own0 (Nat.zero_add _) (List.nil_append _)) ?_
 refine HL.shape 0 I fun a7 c7 hv => ?_
 subst hv
 refine HL.ent (H' := [blkC b1 [.int .i64 m.addr, .int .i64 m.poll, .int .i64 m.parent, sv xt m.table.length, sv xl m.links.length, .slice a3 m.out.length c3, .slice a4 m.children.length c4, .slice a5 m.boxes.length c5, .slice a6 m.seen.length c6, sv V.pa V.ps.length, sv V.ib n.inbox.length, .int .i64 n.seq, .int .i64 n.lost] 31, rsC b2, groupC Gt, cSn (.slice a3 m.out.length c3) m.out, cMa (.slice a5 m.boxes.length c5) m.boxes, cI (.slice a4 m.children.length c4) m.children, cPr (.slice a6 m.seen.length c6) m.seen, cDe (.slice a7 m.inbox.length c7) m.inbox]) (Ent.pick [1, 2, 3, 4, 5, 6, 7, 0] I I) ?_
 repeat' (first | refine zh ?_ | apply zb ?_ ?_ | exact zc | (refine zi fun hb => ?_; try simp at hb) | intro (bk : Nat))
 refine HR.join (ι := Unit) (fun _ => True) (fun _ => [(1, ptr b1), (2, ptr b2)]) (fun _ => [blkC b1 [.int .i64 m.addr, .int .i64 m.poll, .int .i64 m.parent, sv xt m.table.length, sv xl m.links.length, .slice a3 m.out.length c3, .slice a4 m.children.length c4, .slice a5 m.boxes.length c5, .slice a6 m.seen.length c6, sv V.pa V.ps.length, .slice a7 m.inbox.length c7, .int .i64 m.seq, .int .i64 n.lost] 31, rsC b2, groupC Gt, cSn (.slice a3 m.out.length c3) m.out, cMa (.slice a5 m.boxes.length c5) m.boxes, cI (.slice a4 m.children.length c4) m.children, cPr (.slice a6 m.seen.length c6) m.seen, cDe (.slice a7 m.inbox.length c7) m.inbox]) (fun _ _ => ?_) (fun hj => ?_)
 rotate_left
 ·refine HR.cond I (fun h2 => ?_) (fun h2 => ?_)
  ·have h2 : (decide (n.seq < 0) || decide (n.seq > 65535)) = true := h2
   have h3 : n.seq < 0 ∨ n.seq > 65535 := by simpa using h2
   refine HR.region ?_
   repeat' (first | refine zn ?_ | apply zb ?_ ?_ | exact zc | (refine zi fun hb => ?_; try simp at hb) | intro (bk : Nat))
   refine hj () _ _ trivial ⟨I, I, trivial⟩ (Ent.of_eq ?_)
   rw [e_sq, if_pos h3]; rfl
  ·have h2 : (decide (n.seq < 0) || decide (n.seq > 65535)) = false := h2
   have h3 : ¬ (n.seq < 0 ∨ n.seq > 65535) := by simpa using h2
   refine HR.skip ?_
   refine hj () _ _ trivial ⟨I, I, trivial⟩ (Ent.of_eq ?_)
   rw [e_sq, if_neg h3]; rfl
 repeat' (first | refine zh ?_ | refine HL.callB fn63 I I (fun w _ => rclamp_any n.lost 0 1099511627776 (by decide) w) ?_ | intro (bk : Nat))
 refine HR.ret Tryz.func20 I [_] (fun w hw => ⟨⟨_, rfl, loadVarR hw 1 I I I I rfl⟩, trivial⟩) ?_
 refine fun w' hw => ⟨(⟨xt, xl, (a3, c3), (a4, c4), (a5, c5), (a6, c6), V.pa, (a7, c7), V.ps⟩, Gt), ?_, ⟨rfl, rfl, ht, hli⟩, hw.pick [2, 3, 4, 5, 6, 7] I rfl⟩
 show _ = Ending.returned (.agg ⟨ndC ⟨xt, xl, (a3, c3), (a4, c4), (a5, c5), (a6, c6), V.pa, (a7, c7), V.ps⟩ m⟩)
 rw [show ndC ⟨xt, xl, (a3, c3), (a4, c4), (a5, c5), (a6, c6), V.pa, (a7, c7), V.ps⟩ m = ndC ⟨xt, xl, (a3, c3), (a4, c4), (a5, c5), (a6, c6), V.pa, (a7, c7), V.ps⟩ { m with lost := clamp n.lost 0 1099511627776 } from by rw [← e_lo]]
 rfl
end Go.Proofs.YtgdgclmkpoaagaaGreat
namespace Go.Proofs.YtgdgclmkpoaagaaGreat
open Go.GX Go.RowKit
attribute [local irreducible] Calls Run RunL RunQ RunD HR HL HD blkC ownC Rd
open Nd
abbrev Imp (V0 : NV) (n0 : Nd) (V : NV) (G : List Chunk) (n : Nd) : Prop := ∀ w2, OkN w2 V0 n0 → (groupC G).p w2 → OkN w2 V n
theorem ROk.okn {V V' : NV} {n m : Nd} {Gt : List Chunk} (hr : ROk V n V' Gt m) (hp : m.parts = n.parts) : Imp V n V' (roH V' Gt m) m := by
 intro w2 h2 hg
 refine ⟨hr.ta w2 h2.ta (groupC_mem hg (List.mem_cons_self ..)), hr.li w2 h2.li, ownC_sl (groupC_mem hg (c := cSn (sv V'.ou m.out.length) m.out) (by simp)), ownC_sl (groupC_mem hg (c := cI (sv V'.ch m.children.length) m.children) (by simp)), ownC_sl (groupC_mem hg (c := cMa (sv V'.bo m.boxes.length) m.boxes) (by simp)), ownC_sl (groupC_mem hg (c := cPr (sv V'.se m.seen.length) m.seen) (by simp)), ?_, ownC_sl (groupC_mem hg (c := cDe (sv V'.ib m.inbox.length) m.inbox) (by simp)), ?_⟩
 ·rw [hr.pa, hr.ps]; exact h2.pa
 ·rw [hr.ps, hp]; exact h2.eq
end Go.Proofs.YtgdgclmkpoaagaaGreat
namespace Go.Proofs.YtgdgclmkpoaagaaGreat
open Go.GX Go.RowKit
attribute [local irreducible] Calls Run RunL RunQ RunD HR HL HD blkC ownC Rd
open Nd
theorem any_take {α : Type} {p : α → Bool} {l : List α} {k : Nat} {x : α} (hx : l[k]? = some x) : (l.take (k + 1)).any p = ((l.take k).any p || p x) := by
 rw [take_succ_get hx, List.any_append]; simp
theorem pres_any (m : Nd) (ta : Int) : (m.children.any fun c => ((m.poll == 0) && (c == ta)) && ((hop m ta).1 == ta)) = present m ta := by
 unfold present
 cases (m.poll == 0) <;> cases ((hop m ta).1 == ta) <;> simp [Bool.and_comm, List.any_eq_true]
 ·rw [Bool.eq_iff_iff]; simp
theorem nodeUrgent_any (V : NV) (n : Nd) (now : Int) (w : World) (h : OkN w V n) (hw0 : WfN n) :
  Calls Tryz.prog 6 #[.agg ⟨ndC V n⟩, .int .i64 now] w fun e w' => e = .returned (.bool true) ∧ Below w.heap.size w w' := by
 refine calls_hr Tryz.func6 I (Nat.le_of_ble_eq_true I) ?_
 refine HR.sub (σ' := [(0, .agg ⟨ndC V n⟩), (1, .int .i64 now)]) ⟨I, I, trivial⟩ ?_
 refine HR.ctl I ?_
 refine HR.region ?_
 refine HL.box I I ?_
 intro b2
 repeat' (first | refine zh ?_ | intro (bk : Nat))
 refine HL.callX (r := fun b : Bool => .bool b) (Q := fun b => b = false → FitN n) (G := fun _ => []) fn12 I I (fun w1 hw1 => large_any V n w1 (h.ext hw1.belowB) hw0) ?_
 intro b hb
 cases b with
 | true =>
  repeat' (first | refine zh ?_ | refine HL.callB fn13 I I (fun w1 _ => awake_any w1) ?_ | intro (bk : Nat))
  refine HR.ret Tryz.func6 I [_] (fun _ _ => ⟨I, trivial⟩) ?_
  exact fun w' hw => ⟨rfl, hw.belowB⟩
 | false =>
 have hf := hb I
 have hs := hf.sm' hw0
 obtain ⟨m, hm⟩ : ∃ m, m = order n := ⟨_, rfl⟩
 have hmp : m.parts = n.parts := by rw [hm]; rfl
 have ho : Nd.Ord m := by rw [hm]; exact order_ord n
 have hsm : SmN m := ord_sm ho (by rw [hmp]; exact hs.pt)
 have h16 := ho.out
 have h251 := klen ho
 have h24 := tlen ho
 have cs : (cellsOf snC m.out).length = m.out.length * 11 := cellsOf_len snC_len _
 repeat' (first | refine zh ?_ | intro (bk : Nat))
 refine HL.callX (r := fun x : NV × List Chunk => .agg ⟨ndC x.1 m⟩) (Q := fun x => ROk V n x.1 x.2 m) (G := fun x => roH x.1 x.2 m) fn20 I I (fun w1 hw1 => by rw [hm]; exact rorder_any V n w1 (h.ext hw1.belowB) hs) ?_
 rintro ⟨V2, Gt⟩ hR
 have hR : ROk V n V2 Gt m := hR
 refine HL.ent (Ent.pick [6, 0, 1, 2, 3, 4, 5] I I) ?_
 repeat' (first | refine zh ?_ | intro (bk : Nat))
 refine HR.loop (ι := Nat) (fun i => i ≤ m.out.length ∧ ∀ j a b, j + 1 < i → m.out[j]? = some a → m.out[j + 1]? = some b → b.f.ur = true → a.f.ur = true) (fun i => [(1, .int .i64 now), (2, ptr b2), (5, .bool ((m.out.take i).any (can m))), (6, .int .i64 (i : Int))]) (fun _ => [blkC b2 (ndC V2 m) 31, groupC Gt, cSn (sv V2.ou m.out.length) m.out, cMa (sv V2.bo m.boxes.length) m.boxes, cI (sv V2.ch m.children.length) m.children, cPr (sv V2.se m.seen.length) m.seen, cDe (sv V2.ib m.inbox.length) m.inbox]) (fun i => m.out.length - i) 0 ⟨Nat.zero_le _, fun j a b hj => absurd hj (Nat.not_lt_zero _)⟩ ⟨I, I, I, I, trivial⟩ Ent.refl ?_
 rintro i ⟨hi, hg⟩ ih
 repeat' (first | refine zh ?_ | refine HL.lenR (Rd.own 2 I) I I I ?_ | intro (bk : Nat))
 refine HR.cond I (fun h1 => ?_) (fun h1 => ?_)
 ·have hlt : i < m.out.length := by have : (i : Int) < (m.out.length : Int) := of_decide_eq_true h1; omega
  obtain ⟨x, hx⟩ := getSome hlt
  have hat := any_take (p := can m) hx
  repeat' (first | refine zh ?_ | refine HL.idxR (Rd.own 2 I) elemSn i I I I I hlt ?_ | refine HL.loadE (Rd.own 2 I) I I I I (by simp) I (cellsOf_get snC_len hx) ?_ | intro (bk : Nat))
  repeat' (first | refine zh ?_ | refine HL.idxR (Rd.own 3 I) elemSn (i - 1) I I I (by omega) (by omega) ?_ | refine HL.fieldN 0 (Rd.own 3 I) (by rw [cs]; omega) I I I I I I I ?_ | refine HL.fieldN 7 (Rd.own 3 I) (by rw [cs]; omega) I I I I I I I ?_ | refine HL.loadI (Rd.own 3 I) I I I I (cells_get snC_len (getD_is (show i - 1 < m.out.length by omega) sn0) (i := 7) I) ?_ | apply zb ?_ ?_ | exact zc | (refine zi fun hb => ?_; try simp at hb) | intro (bk : Nat))
  refine HR.cond I (fun h2 => ?_) (fun h2 => ?_)
  ·repeat' (first | refine zh ?_ | refine HL.callB fn13 I I (fun w1 _ => awake_any w1) ?_ | intro (bk : Nat))
   refine HR.ret Tryz.func6 I [_] (fun _ _ => ⟨I, trivial⟩) ?_
   exact fun w' hw => ⟨rfl, hw.belowB⟩
  have h2 : ((decide ((i : Int) > 0) && x.f.ur) && !(m.out.getD (i - 1) sn0).f.ur) = false := h2
  have hg' : ∀ j a b, j + 1 < i + 1 → m.out[j]? = some a → m.out[j + 1]? = some b → b.f.ur = true → a.f.ur = true := by
   intro j a b hj ha hb hbu
   by_cases e : j + 1 = i
   ·subst e
    rw [hx] at hb; cases hb
    rw [show j + 1 - 1 = j by omega, List.getD_eq_getElem?_getD, ha, hbu, decide_eq_true (show ((j + 1 : Nat) : Int) > 0 by omega)] at h2
    simpa using h2
   ·exact hg j a b (by omega) ha hb hbu
  repeat' (first | refine zh ?_ | apply zb ?_ ?_ | exact zc | (refine zi fun hb => ?_; try simp at hb) | intro (bk : Nat))
  refine HR.cond I (fun h3 => ?_) (fun h3 => ?_)
  ·have h3 : (!x.f.ur || decide (x.wt > 0)) = true := h3
   have hc : can m x = false := by
    unfold can
    cases e1 : x.f.ur
    ·simp
    ·rw [e1] at h3; simp at h3; simp [h3]
   rw [hc, Bool.or_false] at hat
   repeat' (first | refine zh ?_ | intro (bk : Nat))
   exact ih (i + 1) _ _ ⟨hlt, hg'⟩ (by show m.out.length - (i + 1) < m.out.length - i; omega) ⟨rfl, rfl, by rw [hat]; rfl, rfl, trivial⟩ (Ent.pick [1, 2, 3, 4, 5, 6, 7] I I)
  have h3 : (!x.f.ur || decide (x.wt > 0)) = false := h3
  have h3u : x.f.ur = true := by cases e1 : x.f.ur; rw [e1] at h3; simp at h3; rfl
  have h3w : ¬ x.wt > 0 := by rw [h3u] at h3; simp at h3; omega
  repeat' (first | refine zh ?_ | refine HL.callB fn21 I I (fun w1 hw1 => rhop_any m.table x.f.ta _ w1 (hR.ta w1 (h.ext hw1.belowB).ta (Sat.grp 2 hw1 I)) (by omega)) ?_ | intro (bk : Nat))
  obtain ⟨hp, hhp⟩ : ∃ hp, hp = hop m x.f.ta := ⟨_, rfl⟩
  refine HR.join (ι := Unit) (fun _ => True) (fun _ => [(1, .int .i64 now), (2, ptr b2), (5, .bool ((m.out.take i).any (can m))), (6, .int .i64 (i : Int)), (7, ptr bk), (8, .int .i64 hp.1), (9, .bool hp.2)]) (fun _ => [blkC bk (snC x) 48, blkC b2 (ndC V2 m) 31, groupC Gt, cSn (sv V2.ou m.out.length) m.out, cMa (sv V2.bo m.boxes.length) m.boxes, cI (sv V2.ch m.children.length) m.children, cPr (sv V2.se m.seen.length) m.seen, cDe (sv V2.ib m.inbox.length) m.inbox]) (fun _ _ => ?_) (fun hj => ?_)
  rotate_left
  ·refine HR.cond I (fun h4 => ?_) (fun h4 => ?_)
   ·have h4 : m.poll > 0 := of_decide_eq_true h4
    have e : hp = (m.parent, !(m.parent == 255)) := by rw [hhp]; unfold hop; rw [if_pos h4]
    refine HR.regionQ hmix (by kernel_rfl) ?_
    repeat' (first | refine zq ?_ | fail)
    exact hj () _ _ trivial ⟨rfl, rfl, rfl, rfl, rfl, by rw [e]; rfl, by rw [e]; rfl, trivial⟩ Ent.refl
   ·have h4 : ¬ m.poll > 0 := of_decide_eq_false h4
    have e : hp = rhop m.table x.f.ta := by rw [hhp]; unfold hop; rw [if_neg h4]
    refine HR.skip ?_
    exact hj () _ _ trivial ⟨rfl, rfl, rfl, rfl, rfl, by rw [e]; rfl, by rw [e]; rfl, trivial⟩ Ent.refl
  repeat' (first | refine zh ?_ | intro (bk : Nat))
  refine HR.loop (ι := Nat) (fun k => k ≤ m.children.length) (fun k => [(1, .int .i64 now), (2, ptr b2), (5, .bool ((m.out.take i).any (can m))), (6, .int .i64 (i : Int)), (7, ptr bk), (8, .int .i64 hp.1), (9, .bool hp.2), (10, .bool ((m.children.take k).any fun c => ((m.poll == 0) && (c == x.f.ta)) && (hp.1 == x.f.ta))), (11, .int .i64 (k : Int))]) (fun _ => [blkC bk (snC x) 48, blkC b2 (ndC V2 m) 31, groupC Gt, cSn (sv V2.ou m.out.length) m.out, cMa (sv V2.bo m.boxes.length) m.boxes, cI (sv V2.ch m.children.length) m.children, cPr (sv V2.se m.seen.length) m.seen, cDe (sv V2.ib m.inbox.length) m.inbox]) (fun k => m.children.length - k) 0 (Nat.zero_le _) ⟨I, I, I, I, I, I, I, I, I, trivial⟩ Ent.refl ?_
  rintro k hk ih2
  have hk : k ≤ m.children.length := hk
  repeat' (first | refine zh ?_ | refine HL.lenR (Rd.own 5 I) I I I ?_ | intro (bk : Nat))
  refine HR.cond I (fun h5 => ?_) (fun h5 => ?_)
  ·have hkl : k < m.children.length := by have : (k : Int) < (m.children.length : Int) := of_decide_eq_true h5; omega
   obtain ⟨c, hc⟩ := getSome hkl
   have hac := any_take (p := fun c => ((m.poll == 0) && (c == x.f.ta)) && (hp.1 == x.f.ta)) hc
   repeat' (first | refine zh ?_ | intro (bk : Nat))
   refine HR.regionQ hmix (by kernel_rfl) ?_
   repeat' (first | refine zq ?_ | refine HQ.idxR (Rd.own 5 I) elemI k I I I I hkl ?_ | refine HQ.loadI (Rd.own 5 I) I I I I (cellsOf_get1 hc) ?_ | apply zb ?_ ?_ | exact zc | (refine zi fun hb => ?_; try simp at hb))
   repeat' (first | refine zh ?_ | intro (bk : Nat))
   exact ih2 (k + 1) _ _ hkl (by show m.children.length - (k + 1) < m.children.length - k; omega) ⟨rfl, rfl, rfl, rfl, rfl, rfl, rfl, by rw [hac]; rfl, rfl, trivial⟩ Ent.refl
  have hke : k = m.children.length := by have : ¬ (k : Int) < (m.children.length : Int) := of_decide_eq_false h5; omega
  subst hke
  have hpr : ((m.children.take m.children.length).any fun c => ((m.poll == 0) && (c == x.f.ta)) && (hp.1 == x.f.ta)) = present m x.f.ta := by rw [List.take_length, hhp]; exact pres_any m x.f.ta
  refine HR.setB 10 (present m x.f.ta) I hpr ?_
  repeat' (first | refine zh ?_ | apply zb ?_ ?_ | exact zc | (refine zi fun hb => ?_; try simp at hb) | intro (bk : Nat))
  have hcan : can m x = ((!(x.f.kd == 2) || !(x.f.dst == 255)) || (hp.2 && !present m x.f.ta)) := by
   unfold can
   rw [h3u, decide_eq_false h3w, hhp]; simp
  rw [hcan] at hat
  refine HR.cond I (fun h6 => ?_) (fun h6 => ?_)
  ·have h6 : ((!(x.f.kd == 2) || !(x.f.dst == 255)) || (hp.2 && !present m x.f.ta)) = true := h6
   rw [h6, Bool.or_true] at hat
   repeat' (first | refine zh ?_ | intro (bk : Nat))
   exact ih (i + 1) _ _ ⟨hlt, hg'⟩ (by show m.out.length - (i + 1) < m.out.length - i; omega) ⟨rfl, rfl, by rw [hat]; rfl, rfl, trivial⟩ (Ent.pick [1, 2, 3, 4, 5, 6, 7] I I)
  ·have h6 : ((!(x.f.kd == 2) || !(x.f.dst == 255)) || (hp.2 && !present m x.f.ta)) = false := h6
   rw [h6, Bool.or_false] at hat
   repeat' (first | refine zh ?_ | intro (bk : Nat))
   exact ih (i + 1) _ _ ⟨hlt, hg'⟩ (by show m.out.length - (i + 1) < m.out.length - i; omega) ⟨rfl, rfl, by rw [hat]; rfl, rfl, trivial⟩ (Ent.pick [1, 2, 3, 4, 5, 6, 7] I I)
 have hie : i = m.out.length := by have : ¬ (i : Int) < (m.out.length : Int) := of_decide_eq_false h1; omega
 subst hie
 rw [List.take_length]
 obtain ⟨C, hC⟩ : ∃ C, C = m.out.any (can m) := ⟨_, rfl⟩
 rw [← hC]
 have hfin : C = true → (talk m now).2.2 = true ∧ (talk m now).2.1.ur = true := fun e => talk_urgent now ho (fun j a b ha hb => hg j a b (by have := (List.getElem?_eq_some_iff.1 hb).1; omega) ha hb) (by rw [← hC]; exact e)
 obtain ⟨T, hT⟩ : ∃ T, T = talk m now := ⟨_, rfl⟩
 rw [← hT] at hfin
 repeat' (first | refine zh ?_ | intro (bk : Nat))
 refine HL.callX (r := fun x : NV × List Chunk => .tuple ⟨[.agg ⟨ndC x.1 T.1⟩, .agg ⟨frC T.2.1⟩, .bool T.2.2]⟩) (Q := fun x => Own x.1 x.2 T.1) (G := fun x => [groupC x.2]) fn22 I I (fun w1 hw1 => by rw [hT]; exact ptalk_any V2 m now w1 (hR.okn hmp w1 (h.ext hw1.belowB) (((hw1.pick [1, 2, 3, 4, 5, 6] I I : Sat _ (roH V2 Gt m ++ []) w1).group).nth (i := 0) I)) hsm) ?_
 rintro ⟨V3, G3⟩ _
 cases C with
 | false =>
  repeat' (first | refine zh ?_ | refine HL.callB fn13 I I (fun w1 _ => awake_any w1) ?_ | intro (bk : Nat))
  refine HR.ret Tryz.func6 I [_] (fun _ _ => ⟨I, trivial⟩) ?_
  exact fun w' hw => ⟨rfl, hw.belowB⟩
 | true =>
  obtain ⟨k1, k2⟩ := hfin rfl
  obtain ⟨T1, TF, TB⟩ := T
  have k1 : TB = true := k1
  have k2 : TF.ur = true := k2
  subst k1
  repeat' (first | refine zh ?_ | intro (bk : Nat))
  refine HL.setV 141 (v' := .bool true) I (by show Value.bool TF.ur = _; rw [k2]) ?_
  repeat' (first | refine zh ?_ | refine HL.callB fn13 I I (fun w1 _ => awake_any w1) ?_ | intro (bk : Nat))
  refine HR.ret Tryz.func6 I [_] (fun _ _ => ⟨I, trivial⟩) ?_
  exact fun w' hw => ⟨rfl, hw.belowB⟩
end Go.Proofs.YtgdgclmkpoaagaaGreat
namespace Go.Proofs.YtgdgclmkpoaagaaGreat
open Go.GX Go.RowKit
attribute [local irreducible] Calls Run RunL RunQ RunD HR HL HD blkC ownC Rd
open Nd
theorem nodeUrgent.nodeUrgent_any (a : NdA) (now : Int) (w : World) (g : NdOk w a) (_ : (Lit.int .i64 now).wf = true) :
  Calls Tryz.prog 6 #[.agg ⟨ndE a⟩, .int .i64 now] w fun e w' => e = .returned (.bool true) ∧ Below w.heap.size w w' := Proofs.YtgdgclmkpoaagaaGreat.nodeUrgent_any a.1 a.2 now w g.ok g.wf
end Go.Proofs.YtgdgclmkpoaagaaGreat
