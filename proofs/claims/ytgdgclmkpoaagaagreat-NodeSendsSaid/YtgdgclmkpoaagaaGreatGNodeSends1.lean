/- A part of the proof: contracts of the program's functions. Conditions: none. -/
import Derived.Carry
import Derived.Deep.MidRow
import Derived.Deep.Quiet
import Derived.Laws.IdiomRangeMap
import Derived.Laws.MakeOwn
import Derived.Laws.StructEq
import Derived.Laws.Tables
import Derived.Lib.AppendStr
import Derived.Lib.AppendZerosOnto
import Derived.Lib.OthersKept
import Derived.Lib.Overlaps
import Derived.Lib.OwnBridge
import Derived.Lib.SlicesCompact
import Derived.MapKept
import Derived.Orders
import Derived.OrdersHeld
import Derived.Scope
import Derived.Sort.Grow
import Derived.StillTail
import Derived.Test.YtgdgclmkpoaagaaGreatProg
import Derived.Test.YtgdgclmkpoaagaaGreatShelf
import Derived.WalkKit
import Derived.WalkLawsBesides
import Derived.WalkSpells
import Derived.Test.YtgdgclmkpoaagaaGreatGB1
import Derived.Test.YtgdgclmkpoaagaaGreatGB10
import Derived.Test.YtgdgclmkpoaagaaGreatGB11
import Derived.Test.YtgdgclmkpoaagaaGreatGB2
import Derived.Test.YtgdgclmkpoaagaaGreatGB3
import Derived.Test.YtgdgclmkpoaagaaGreatGB4
import Derived.Test.YtgdgclmkpoaagaaGreatGB5
import Derived.Test.YtgdgclmkpoaagaaGreatGB6
import Derived.Test.YtgdgclmkpoaagaaGreatGB7
import Derived.Test.YtgdgclmkpoaagaaGreatGB8
import Derived.Test.YtgdgclmkpoaagaaGreatGB9
set_option linter.unusedVariables false
set_option linter.unusedSectionVars false
set_option linter.unusedSimpArgs false
set_option maxRecDepth 100000
set_option maxHeartbeats 4000000
namespace Go.GX
open Go.RowKit
section
variable {P : Program} {f : FuncId} {N : Nat} {k : List Item} {σ : Store} {B : Base} {H H' F : List Chunk} {R : Ending → World → Prop} {ops l : List Oper} {o : Oper} {K : Act → World → Prop} {KQ : Act → Prop} {C : World → Prop}
 {d : Nat} {op : Op} {ty : TypeId} {pos : String} {af : Array Edge} {gd : Option (Nat × Bool)} {v u : Value} {w : World} {d' : Option Tmp} {p : List (Nat × Bool)} {i : Nat} {S : World → Prop}
theorem HR.exit {id : Nat} {k' : List Item} (he : exitTo id k = some k') (h : HR P f N k' σ B H R) : HR P f N (.code (.exit id) :: k) σ B H R := fun w hw => Run.exit he (h w hw)
end
end Go.GX
namespace Go.Proofs.YtgdgclmkpoaagaaGreat
open Go.GX Go.RowKit
attribute [local irreducible] Calls Run RunL RunQ RunD HR HL HD blkC ownC Rd
open Nd
theorem fn140 : IsFn Tryz.prog 140 := ⟨⟨_, _, Tryz.func140, rfl, by decide⟩⟩
theorem fn141 : IsFn Tryz.prog 141 := ⟨⟨_, _, Tryz.func141, rfl, by decide⟩⟩
theorem fn142 : IsFn Tryz.prog 142 := ⟨⟨_, _, Tryz.func142, rfl, by decide⟩⟩
theorem fn65 : IsFn Tryz.prog 65 := ⟨⟨_, _, Tryz.func65, rfl, by decide⟩⟩
theorem fn45 : IsFn Tryz.prog 45 := ⟨⟨_, _, Tryz.func45, rfl, by decide⟩⟩
theorem fn63 : IsFn Tryz.prog 63 := ⟨⟨_, _, Tryz.func63, rfl, by decide⟩⟩
theorem address_any (n : Int) (w : World) : Calls Tryz.prog 45 #[.int .i64 n] w fun e w' => e = .returned (.bool (Tp.okN n)) ∧ Below w.heap.size w w' := by
 refine calls_hr Tryz.func45 I (Nat.le_of_ble_eq_true I) ?_
 refine HR.sub (σ' := [(0, .int .i64 n)]) ⟨I, trivial⟩ ?_
 repeat' (first | refine zh ?_ | apply zb ?_ ?_ | exact zc | (refine zi fun hb => ?_; try simp at hb) | intro (bk : Nat))
 refine HR.ret Tryz.func45 I [_] (fun _ _ => ⟨I, trivial⟩) ?_
 exact fun w' hw => ⟨rfl, hw.belowB⟩
theorem rrfin_any (r : Ro) (w : World) : Calls Tryz.prog 142 #[.agg ⟨roC r⟩] w fun e w' => e = .returned (.bool (fin r)) ∧ Below w.heap.size w w' := by
 refine calls_hr Tryz.func142 I (Nat.le_of_ble_eq_true I) ?_
 refine HR.sub (σ' := [(0, .agg ⟨roC r⟩)]) ⟨I, trivial⟩ ?_
 repeat' (first | refine zh ?_ | apply zb ?_ ?_ | exact zc | (refine zi fun hb => ?_; try simp at hb) | intro (bk : Nat))
 refine HR.ret Tryz.func142 I [_] (fun _ _ => ⟨I, trivial⟩) ?_
 exact fun w' hw => ⟨rfl, hw.belowB⟩
theorem rrlim_any (n : Int) (w : World) : Calls Tryz.prog 140 #[.int .i64 n] w fun e w' => e = .returned (.int .i64 (lim n)) ∧ Below w.heap.size w w' := by
 refine calls_hr Tryz.func140 I (Nat.le_of_ble_eq_true I) ?_
 refine HR.sub (σ' := [(0, .int .i64 n)]) ⟨I, trivial⟩ ?_
 repeat' (first | refine zh ?_ | apply zb ?_ ?_ | exact zc | (refine zi fun hb => ?_; try simp at hb) | intro (bk : Nat))
 refine HR.cond I (fun h => ?_) (fun h => ?_)
 ·have h : n < 0 := of_decide_eq_true h
  repeat' (first | refine zh ?_ | apply zb ?_ ?_ | exact zc | (refine zi fun hb => ?_; try simp at hb) | intro (bk : Nat))
  refine HR.ret Tryz.func140 I [_] (fun _ _ => ⟨I, trivial⟩) ?_
  exact fun w' hw => ⟨by rw [show lim n = 0 by unfold lim clamp; omega]; rfl, hw.belowB⟩
 have h : ¬ n < 0 := of_decide_eq_false h
 repeat' (first | refine zh ?_ | apply zb ?_ ?_ | exact zc | (refine zi fun hb => ?_; try simp at hb) | intro (bk : Nat))
 refine HR.cond I (fun h1 => ?_) (fun h1 => ?_)
 ·have h1 : n > 250 := of_decide_eq_true h1
  repeat' (first | refine zh ?_ | apply zb ?_ ?_ | exact zc | (refine zi fun hb => ?_; try simp at hb) | intro (bk : Nat))
  refine HR.ret Tryz.func140 I [_] (fun _ _ => ⟨I, trivial⟩) ?_
  exact fun w' hw => ⟨by rw [show lim n = 250 by unfold lim clamp; omega]; rfl, hw.belowB⟩
 ·have h1 : ¬ n > 250 := of_decide_eq_false h1
  repeat' (first | refine zh ?_ | apply zb ?_ ?_ | exact zc | (refine zi fun hb => ?_; try simp at hb) | intro (bk : Nat))
  refine HR.ret Tryz.func140 I [_] (fun _ _ => ⟨I, trivial⟩) ?_
  exact fun w' hw => ⟨by rw [show lim n = n by unfold lim clamp; omega]; rfl, hw.belowB⟩
theorem rrusable_any (r : Ro) (w : World) : Calls Tryz.prog 141 #[.agg ⟨roC r⟩] w fun e w' => e = .returned (.bool (usable r)) ∧ Below w.heap.size w w' := by
 refine calls_hr Tryz.func141 I (Nat.le_of_ble_eq_true I) ?_
 refine HR.sub (σ' := [(0, .agg ⟨roC r⟩)]) ⟨I, trivial⟩ ?_
 repeat' (first | refine zh ?_ | apply zb ?_ ?_ | exact zc | (refine zi fun hb => ?_; try simp at hb) | intro (bk : Nat))
 refine HR.cond I (fun h => ?_) (fun h => ?_)
 ·have h : (((decide (r.dest < 0) || decide (r.dest > 250)) || decide (r.sq < 0)) || decide (r.sq > 65535)) = true := h
  repeat' (first | refine zh ?_ | apply zb ?_ ?_ | exact zc | (refine zi fun hb => ?_; try simp at hb) | intro (bk : Nat))
  refine HR.ret Tryz.func141 I [_] (fun _ _ => ⟨I, trivial⟩) ?_
  refine fun w' hw => ⟨?_, hw.belowB⟩
  have : usable r = false := by
   rw [← Bool.not_eq_true]
   simp only [usable, Tp.okN, Bool.and_eq_true, Bool.or_eq_true, Bool.not_eq_true', Bool.or_eq_false_iff, decide_eq_true_eq, decide_eq_false_iff_not] at h ⊢
   omega
  rw [this]; rfl
 ·have h : (((decide (r.dest < 0) || decide (r.dest > 250)) || decide (r.sq < 0)) || decide (r.sq > 65535)) = false := h
  have h' := h
  simp only [Bool.or_eq_false_iff, decide_eq_false_iff_not] at h'
  have h0 : 0 ≤ r.sq := by omega
  repeat' (first | refine zh ?_ | refine HL.callB fn142 I I (fun w _ => rrfin_any r w) ?_ | apply zb ?_ ?_ | exact zc | (refine zi fun hb => ?_; try simp at hb) | intro (bk : Nat))
  refine HR.ret Tryz.func141 I [_] (fun _ _ => ⟨I, trivial⟩) ?_
  refine fun w' hw => ⟨?_, hw.belowB⟩
  have : usable r = ((fin r && (r.sq % 2 == 0)) || (r.cost == 255)) := by
   unfold usable Tp.okN
   have e1 : decide (r.sq < 0) = false := decide_eq_false (by omega)
   have e2 : decide (r.sq > 65535) = false := decide_eq_false (by omega)
   have e3 : decide (r.dest ≥ 0) = true := decide_eq_true (by omega)
   have e4 : decide (r.dest ≤ 250) = true := decide_eq_true (by omega)
   rw [e1, e2, e3, e4]; rfl
  rw [this]; rfl
theorem rrnew_any (n : Int) (w : World) : Calls Tryz.prog 65 #[.int .i64 n] w fun e w' => ∃ v, e = .returned v ∧ Sat (base w) [ownC v 79 4 (rnew n).length (cellsOf roC (rnew n))] w' := by
 refine calls_hr Tryz.func65 I (Nat.le_of_ble_eq_true I) ?_
 refine HR.sub (σ' := [(0, .int .i64 n)]) ⟨I, trivial⟩ ?_
 repeat' (first | refine zh ?_ | refine HL.callB fn140 I I (fun w _ => rrlim_any n w) ?_ | refine HL.bslice elemRo I I I I I (by decide) (by decide) ?_ | apply zb ?_ ?_ | exact zc | (refine zi fun hb => ?_; try simp at hb) | intro (bk : Nat))
 intro v
 repeat' (first | refine zh ?_ | apply zb ?_ ?_ | exact zc | (refine zi fun hb => ?_; try simp at hb) | intro (bk : Nat))
 refine HR.ret Tryz.func65 I [_] (fun _ _ => ⟨I, trivial⟩) ?_
 exact fun w' hw => ⟨v, rfl, hw⟩
theorem rclamp_any (n lo hi : Int) (hlh : lo ≤ hi) (w : World) : Calls Tryz.prog 63 #[.int .i64 n, .int .i64 lo, .int .i64 hi] w fun e w' => e = .returned (.int .i64 (clamp n lo hi)) ∧ Below w.heap.size w w' := by
 refine calls_hr Tryz.func63 I (Nat.le_of_ble_eq_true I) ?_
 refine HR.sub (σ' := [(0, .int .i64 n), (1, .int .i64 lo), (2, .int .i64 hi)]) ⟨I, I, I, trivial⟩ ?_
 repeat' (first | refine zh ?_ | apply zb ?_ ?_ | exact zc | (refine zi fun hb => ?_; try simp at hb) | intro (bk : Nat))
 refine HR.cond I (fun h => ?_) (fun h => ?_)
 ·have h : (decide (hi < lo) || decide (n > hi)) = true := h
  simp only [Bool.or_eq_true, decide_eq_true_eq] at h
  repeat' (first | refine zh ?_ | apply zb ?_ ?_ | exact zc | (refine zi fun hb => ?_; try simp at hb) | intro (bk : Nat))
  refine HR.ret Tryz.func63 I [_] (fun _ _ => ⟨I, trivial⟩) ?_
  exact fun w' hw => ⟨by rw [show clamp n lo hi = hi by unfold clamp; omega]; rfl, hw.belowB⟩
 have h : (decide (hi < lo) || decide (n > hi)) = false := h
 simp only [Bool.or_eq_false_iff, decide_eq_false_iff_not] at h
 repeat' (first | refine zh ?_ | apply zb ?_ ?_ | exact zc | (refine zi fun hb => ?_; try simp at hb) | intro (bk : Nat))
 refine HR.cond I (fun h1 => ?_) (fun h1 => ?_)
 ·have h1 : n < lo := of_decide_eq_true h1
  repeat' (first | refine zh ?_ | apply zb ?_ ?_ | exact zc | (refine zi fun hb => ?_; try simp at hb) | intro (bk : Nat))
  refine HR.ret Tryz.func63 I [_] (fun _ _ => ⟨I, trivial⟩) ?_
  exact fun w' hw => ⟨by rw [show clamp n lo hi = lo by unfold clamp; omega]; rfl, hw.belowB⟩
 ·have h1 : ¬ n < lo := of_decide_eq_false h1
  repeat' (first | refine zh ?_ | apply zb ?_ ?_ | exact zc | (refine zi fun hb => ?_; try simp at hb) | intro (bk : Nat))
  refine HR.ret Tryz.func63 I [_] (fun _ _ => ⟨I, trivial⟩) ?_
  exact fun w' hw => ⟨by rw [show clamp n lo hi = n by unfold clamp; omega]; rfl, hw.belowB⟩
end Go.Proofs.YtgdgclmkpoaagaaGreat
namespace Nd
open Go.GX Tp
theorem ne_lim (n : Int) : (n != lim n) = !okN n := by
 rw [Bool.eq_iff_iff]
 simp only [bne_iff_ne, ne_eq, Bool.not_eq_true', okN, Bool.and_eq_false_iff, decide_eq_false_iff_not]
 unfold lim clamp; omega
def rlook (t : List Ro) (d : Int) : Int := match t.findIdx? (fun x => x.dest == d) with
 | some i => i
 | none => -1
theorem rlook_at {t : List Ro} {d : Int} {i : Nat} {x : Ro} (hx : t[i]? = some x) (hd : (x.dest == d) = true) (hno : ∀ j a, j < i → t[j]? = some a → (a.dest == d) = false) : rlook t d = i := by
 have : t.findIdx? (fun x => x.dest == d) = some i := by
  rw [List.findIdx?_eq_some_iff_getElem]
  obtain ⟨hl, rfl⟩ := List.getElem?_eq_some_iff.1 hx
  exact ⟨hl, hd, fun j hj => by rw [hno j _ hj (List.getElem?_eq_getElem (by omega))]; decide⟩
 unfold rlook; rw [this]
theorem rlook_none {t : List Ro} {d : Int} (hno : ∀ j a, j < t.length → t[j]? = some a → (a.dest == d) = false) : rlook t d = -1 := by
 have : t.findIdx? (fun x => x.dest == d) = none := by
  rw [List.findIdx?_eq_none_iff]
  intro x hx
  obtain ⟨j, hj⟩ := List.getElem?_of_mem hx
  exact hno j x (List.getElem?_eq_some_iff.1 hj).1 hj
 unfold rlook; rw [this]
theorem rlook_cases (t : List Ro) (d : Int) : (rlook t d = -1 ∧ rat t d = none) ∨ ∃ (i : Nat) (x : Ro), rlook t d = i ∧ t[i]? = some x ∧ x.dest = d ∧ rat t d = some x := by
 unfold rlook
 cases h : t.findIdx? (fun x => x.dest == d) with
 | none =>
  refine .inl ⟨rfl, List.find?_eq_none.2 fun x hx => ?_⟩
  have := List.findIdx?_eq_none_iff.1 h x hx
  simp [this]
 | some i =>
  obtain ⟨hl, hd, hno⟩ := List.findIdx?_eq_some_iff_getElem.1 h
  refine .inr ⟨i, t[i], rfl, List.getElem?_eq_getElem hl, by simpa using hd, find_first (List.getElem?_eq_getElem hl) hd fun j a hj ha => ?_⟩
  obtain ⟨hl', rfl⟩ := List.getElem?_eq_some_iff.1 ha
  simpa using hno j hj
end Nd
namespace Nd
open Go.GX Tp
end Nd
namespace Go.Proofs.YtgdgclmkpoaagaaGreat
open Go.GX Go.RowKit
attribute [local irreducible] Calls Run RunL RunQ RunD HR HL HD blkC ownC Rd
open Nd
theorem fn64 : IsFn Tryz.prog 64 := ⟨⟨_, _, Tryz.func64, rfl, by decide⟩⟩
theorem fn143 : IsFn Tryz.prog 143 := ⟨⟨_, _, Tryz.func143, rfl, by decide⟩⟩
end Go.Proofs.YtgdgclmkpoaagaaGreat
namespace Go.Proofs.YtgdgclmkpoaagaaGreat
open Go.GX Go.RowKit
attribute [local irreducible] Calls Run RunL RunQ RunD HR HL HD blkC ownC Rd
open Nd
theorem r11find_any (t : List Ro) (d : Int) (v : Value) (w : World) (hv : Sl w v (cellsOf roC t) t.length) (hl : t.length ≤ 1000) :
  Calls Tryz.prog 143 #[v, .int .i64 d] w fun e w' => e = .returned (.int .i64 (rlook t d)) ∧ Below w.heap.size w w' := by
 refine calls_hr Tryz.func143 I (Nat.le_of_ble_eq_true I) ?_
 refine HR.sub (σ' := [(0, v), (1, .int .i64 d)]) ⟨I, I, trivial⟩ ?_
 repeat' (first | refine zh ?_ | apply zb ?_ ?_ | exact zc | (refine zi fun hb => ?_; try simp at hb) | intro (bk : Nat))
 refine HR.loop (ι := Nat) (fun k => k ≤ t.length ∧ ∀ j a, j < k → t[j]? = some a → (a.dest == d) = false) (fun k => [(0, v), (1, .int .i64 d), (5, .int .i64 (k : Int))]) (fun _ => []) (fun k => t.length - k) 0 ⟨Nat.zero_le _, fun j a hj => by omega⟩ ⟨I, I, I, trivial⟩ Ent.refl ?_
 rintro k ⟨hk, hg⟩ ih
 repeat' (first | refine zh ?_ | refine HL.lenR (Rd.arg hv) I I I ?_ | apply zb ?_ ?_ | exact zc | (refine zi fun hb => ?_; try simp at hb) | intro (bk : Nat))
 refine HR.cond I (fun h2 => ?_) (fun h2 => ?_)
 ·have hlt : k < t.length := by have := of_decide_eq_true h2; omega
  obtain ⟨x, hx⟩ := getSome hlt
  repeat' (first | refine zh ?_ | refine HL.idxR (Rd.arg hv) elemRo k I I I I hlt ?_ | refine HL.fieldE (Rd.arg hv) (by rw [cellsOf_len roC_len]; omega) I I I I I I ?_ | refine HL.loadI (Rd.arg hv) I I I I (cells_get roC_len hx (i := 0) I) ?_ | apply zb ?_ ?_ | exact zc | (refine zi fun hb => ?_; try simp at hb) | intro (bk : Nat))
  refine HR.cond I (fun h3 => ?_) (fun h3 => ?_)
  ·have h3 : (x.dest == d) = true := h3
   repeat' (first | refine zh ?_ | apply zb ?_ ?_ | exact zc | (refine zi fun hb => ?_; try simp at hb) | intro (bk : Nat))
   refine HR.ret Tryz.func143 I [_] (fun _ _ => ⟨I, trivial⟩) ?_
   exact fun w' hw => ⟨by rw [rlook_at hx h3 hg]; rfl, hw.belowB⟩
  ·have h3 : (x.dest == d) = false := h3
   repeat' (first | refine zh ?_ | apply zb ?_ ?_ | exact zc | (refine zi fun hb => ?_; try simp at hb) | intro (bk : Nat))
   refine ih (k + 1) _ _ ⟨hlt, fun j a hj ha => ?_⟩ (by omega) ⟨I, I, I, trivial⟩ (Ent.pick [] I I)
   by_cases hjk : j = k
   ·subst hjk; rw [hx] at ha; cases ha; exact h3
   ·exact hg j a (by omega) ha
 ·have hke : k = t.length := by have := of_decide_eq_false h2; omega
  subst hke
  repeat' (first | refine zh ?_ | apply zb ?_ ?_ | exact zc | (refine zi fun hb => ?_; try simp at hb) | intro (bk : Nat))
  refine HR.ret Tryz.func143 I [_] (fun _ _ => ⟨I, trivial⟩) ?_
  exact fun w' hw => ⟨by rw [rlook_none hg]; rfl, hw.belowB⟩
theorem rform_ref (self : Int) (x : Ro) : (((x.dest == self) && !((x.cost == 0) && (x.nx == self))) || ((x.dest != self) && ((x.cost == 0) || (x.nx == self)))) = rform self x := by
 unfold rform
 by_cases hd : x.dest = self
 ·rw [if_pos hd]; simp [hd]
 ·have e : (x.dest == self) = false := by simpa using hd
  rw [if_neg hd, e, bne, e]; rfl
theorem rrange_ref (x : Ro) : ((!usable x || (fin x && (x.nx != lim x.nx))) || (!fin x && (x.nx != 255))) = rrange x := by
 rw [ne_lim]; rfl
theorem r11check_any (t : List Ro) (self : Int) (v : Value) (w : World) (hv : Sl w v (cellsOf roC t) t.length) (hl : t.length ≤ 1000) :
  Calls Tryz.prog 64 #[v, .int .i64 self] w fun e w' => e = .returned (.int .i64 (rchk t self)) ∧ Below w.heap.size w w' := by
 refine calls_hr Tryz.func64 I (Nat.le_of_ble_eq_true I) ?_
 refine HR.sub (σ' := [(0, v), (1, .int .i64 self)]) ⟨I, I, trivial⟩ ?_
 repeat' (first | refine zh ?_ | refine HL.lenR (Rd.arg hv) I I I ?_ | apply zb ?_ ?_ | exact zc | (refine zi fun hb => ?_; try simp at hb) | intro (bk : Nat))
 refine HR.cond I (fun h => ?_) (fun h => ?_)
 ·have h : t.length > 24 := by have := of_decide_eq_true h; omega
  repeat' (first | refine zh ?_ | apply zb ?_ ?_ | exact zc | (refine zi fun hb => ?_; try simp at hb) | intro (bk : Nat))
  refine HR.ret Tryz.func64 I [_] (fun _ _ => ⟨I, trivial⟩) ?_
  exact fun w' hw => ⟨by rw [rchk, if_pos h]; rfl, hw.belowB⟩
 have h : t.length ≤ 24 := by have := of_decide_eq_false h; omega
 repeat' (first | refine zh ?_ | refine HL.callB fn140 I I (fun w _ => rrlim_any self w) ?_ | apply zb ?_ ?_ | exact zc | (refine zi fun hb => ?_; try simp at hb) | intro (bk : Nat))
 refine HR.cond I (fun h0 => ?_) (fun h0 => ?_)
 ·have h0 : (self != lim self) = true := h0
  rw [ne_lim] at h0
  have h0 : Tp.okN self = false := by simpa using h0
  repeat' (first | refine zh ?_ | apply zb ?_ ?_ | exact zc | (refine zi fun hb => ?_; try simp at hb) | intro (bk : Nat))
  refine HR.ret Tryz.func64 I [_] (fun _ _ => ⟨I, trivial⟩) ?_
  exact fun w' hw => ⟨by rw [rchk, if_neg (by omega), if_pos h0]; rfl, hw.belowB⟩
 have h0 : (self != lim self) = false := h0
 rw [ne_lim] at h0
 have h0 : Tp.okN self = true := by simpa using h0
 repeat' (first | refine zh ?_ | apply zb ?_ ?_ | exact zc | (refine zi fun hb => ?_; try simp at hb) | intro (bk : Nat))
 refine HR.loop (ι := Nat) (fun k => k ≤ t.length ∧ firstE (rbad t) k = 0) (fun k => [(0, v), (1, .int .i64 self), (5, .int .i64 (k : Int))]) (fun _ => []) (fun k => t.length - k) 0 ⟨Nat.zero_le _, rfl⟩ ⟨I, I, I, trivial⟩ Ent.refl ?_
 rintro k ⟨hk, hg⟩ ih
 repeat' (first | refine zh ?_ | refine HL.lenR (Rd.arg hv) I I I ?_ | apply zb ?_ ?_ | exact zc | (refine zi fun hb => ?_; try simp at hb) | intro (bk : Nat))
 refine HR.cond I (fun h2 => ?_) (fun h2 => ?_)
 ·have hlt : k < t.length := by have := of_decide_eq_true h2; omega
  obtain ⟨x, hx⟩ := getSome hlt
  repeat' (first | refine zh ?_ | apply zb ?_ ?_ | exact zc | (refine zi fun hb => ?_; try simp at hb) | intro (bk : Nat))
  refine HR.regionQ hmix (by kernel_rfl) ?_
  repeat' (first | refine zq ?_ | refine HQ.idxR (Rd.arg hv) elemRo k I I I I hlt ?_ | refine HQ.loadE (Rd.arg hv) I I I I (by simp) I (cellsOf_get roC_len hx) ?_ | refine HQ.fieldE (Rd.arg hv) (by rw [cellsOf_len roC_len]; omega) I I I I I I ?_ | refine HQ.loadI (Rd.arg hv) I I I I (cells_get roC_len hx (i := 3) I) ?_ | refine HQ.callB fn141 I I (fun w _ => rrusable_any _ w) ?_ | refine HQ.callB fn142 I I (fun w _ => rrfin_any _ w) ?_ | refine HQ.callB fn140 I I (fun w _ => rrlim_any _ w) ?_ | apply zb ?_ ?_ | exact zc | (refine zi fun hb => ?_; try simp at hb))
  refine HR.cond I (fun h3 => ?_) (fun h3 => ?_)
  ·have h3 : rrange x = true := by rw [← rrange_ref]; exact h3
   repeat' (first | refine zh ?_ | apply zb ?_ ?_ | exact zc | (refine zi fun hb => ?_; try simp at hb) | intro (bk : Nat))
   refine HR.ret Tryz.func64 I [_] (fun _ _ => ⟨I, trivial⟩) ?_
   refine fun w' hw => ⟨?_, hw.belowB⟩
   have e := rbad_range hx h3
   rw [rchk_first h h0 hg (by rw [e]; decide) hlt, e]; rfl
  have h3 : rrange x = false := by rw [← rrange_ref]; exact h3
  obtain ⟨y, hy⟩ := getSome (l := t) (j := k - 1) (by omega)
  repeat' (first | refine zh ?_ | apply zb ?_ ?_ | exact zc | (refine zi fun hb => ?_; try simp at hb) | intro (bk : Nat))
  refine HR.regionQ hmix (by kernel_rfl) ?_
  repeat' (first | refine zq ?_ | refine HQ.idxR (Rd.arg hv) elemRo k I I I I hlt ?_ | refine HQ.idxR (Rd.arg hv) elemRo (k - 1) I I I (by omega) (by omega) ?_ | refine HQ.fieldE (Rd.arg hv) (by rw [cellsOf_len roC_len]; omega) I I I I I I ?_ | refine HQ.loadI (Rd.arg hv) I I I I (cells_get roC_len hx (i := 0) I) ?_ | refine HQ.loadI (Rd.arg hv) I I I I (cells_get roC_len hy (i := 0) I) ?_ | apply zb ?_ ?_ | exact zc | (refine zi fun hb => ?_; try simp at hb))
  refine HR.cond I (fun h4 => ?_) (fun h4 => ?_)
  ·have h4 : (decide ((k : Int) > 0) && decide (x.dest ≤ y.dest)) = true := h4
   simp only [Bool.and_eq_true, decide_eq_true_eq] at h4
   repeat' (first | refine zh ?_ | apply zb ?_ ?_ | exact zc | (refine zi fun hb => ?_; try simp at hb) | intro (bk : Nat))
   refine HR.ret Tryz.func64 I [_] (fun _ _ => ⟨I, trivial⟩) ?_
   refine fun w' hw => ⟨?_, hw.belowB⟩
   have e := rbad_order hx h3 (by omega) hy h4.2
   rw [rchk_first h h0 hg (by rw [e]; decide) hlt, e]; rfl
  ·have h4 : (decide ((k : Int) > 0) && decide (x.dest ≤ y.dest)) = false := h4
   have hg2 : firstE (rbad t) (k + 1) = 0 := firstE_step hg (rbad_ok hx h3 fun y' h0 hy' hle => by
    rw [hy] at hy'
    cases hy'
    rw [decide_eq_true (show (k : Int) > 0 by omega), decide_eq_true hle] at h4
    cases h4)
   repeat' (first | refine zh ?_ | apply zb ?_ ?_ | exact zc | (refine zi fun hb => ?_; try simp at hb) | intro (bk : Nat))
   exact ih (k + 1) _ _ ⟨hlt, hg2⟩ (by omega) ⟨I, I, I, trivial⟩ (Ent.pick [] I I)
 have hke : k = t.length := by have := of_decide_eq_false h2; omega
 subst hke
 obtain ⟨hrr, hasc⟩ := first_asc hg
 repeat' (first | refine zh ?_ | refine HL.callB fn143 I I (fun w hw => r11find_any t self v w ((Rd.arg hv).at hw) hl) ?_ | apply zb ?_ ?_ | exact zc | (refine zi fun hb => ?_; try simp at hb) | intro (bk : Nat))
 refine HR.cond I (fun h6 => ?_) (fun h6 => ?_)
 ·have h6 : rlook t self < 0 := of_decide_eq_true h6
  have hany : (t.any fun r => r.dest == self) = false := by
   rcases rlook_cases t self with ⟨_, e⟩ | ⟨i, x, e, _⟩
   ·rw [← Bool.not_eq_true, List.any_eq_true]
    rintro ⟨r, hr, he⟩
    exact List.find?_eq_none.1 e r hr he
   ·omega
  repeat' (first | refine zh ?_ | apply zb ?_ ?_ | exact zc | (refine zi fun hb => ?_; try simp at hb) | intro (bk : Nat))
  refine HR.ret Tryz.func64 I [_] (fun _ _ => ⟨I, trivial⟩) ?_
  exact fun w' hw => ⟨by rw [rchk_8 h h0 hg hany]; rfl, hw.belowB⟩
 have h6 : ¬ rlook t self < 0 := of_decide_eq_false h6
 have hany : (t.any fun r => r.dest == self) = true := by
  rcases rlook_cases t self with ⟨e, _⟩ | ⟨i, x, _, e, he, _⟩
  ·omega
  ·exact any_of_get e he
 repeat' (first | refine zh ?_ | apply zb ?_ ?_ | exact zc | (refine zi fun hb => ?_; try simp at hb) | intro (bk : Nat))
 refine HR.loop (ι := Nat) (fun k => k ≤ t.length ∧ (t.take k).any (rform self) = false) (fun k => [(0, v), (1, .int .i64 self), (6, .int .i64 (k : Int))]) (fun _ => []) (fun k => t.length - k) 0 ⟨Nat.zero_le _, rfl⟩ ⟨I, I, I, trivial⟩ Ent.refl ?_
 rintro k ⟨hk, hf⟩ ih
 repeat' (first | refine zh ?_ | refine HL.lenR (Rd.arg hv) I I I ?_ | apply zb ?_ ?_ | exact zc | (refine zi fun hb => ?_; try simp at hb) | intro (bk : Nat))
 refine HR.cond I (fun h2 => ?_) (fun h2 => ?_)
 ·have hlt : k < t.length := by have := of_decide_eq_true h2; omega
  obtain ⟨x, hx⟩ := getSome hlt
  repeat' (first | refine zh ?_ | refine HL.idxR (Rd.arg hv) elemRo k I I I I hlt ?_ | refine HL.fieldE (Rd.arg hv) (by rw [cellsOf_len roC_len]; omega) I I I I I I ?_ | refine HL.loadI (Rd.arg hv) I I I I (cells_get roC_len hx (i := 0) I) ?_ | refine HL.loadI (Rd.arg hv) I I I I (cells_get roC_len hx (i := 2) I) ?_ | refine HL.loadI (Rd.arg hv) I I I I (cells_get roC_len hx (i := 3) I) ?_ | apply zb ?_ ?_ | exact zc | (refine zi fun hb => ?_; try simp at hb) | intro (bk : Nat))
  refine HR.cond I (fun h3 => ?_) (fun h3 => ?_)
  ·have h3 : rform self x = true := by rw [← rform_ref]; exact h3
   repeat' (first | refine zh ?_ | apply zb ?_ ?_ | exact zc | (refine zi fun hb => ?_; try simp at hb) | intro (bk : Nat))
   refine HR.ret Tryz.func64 I [_] (fun _ _ => ⟨I, trivial⟩) ?_
   exact fun w' hw => ⟨by rw [rchk_4 h h0 hg hany (any_at hx h3)]; rfl, hw.belowB⟩
  ·have h3 : rform self x = false := by rw [← rform_ref]; exact h3
   repeat' (first | refine zh ?_ | apply zb ?_ ?_ | exact zc | (refine zi fun hb => ?_; try simp at hb) | intro (bk : Nat))
   exact ih (k + 1) _ _ ⟨hlt, any_take hx hf h3⟩ (by omega) ⟨I, I, I, trivial⟩ (Ent.pick [] I I)
 ·have hke : k = t.length := by have := of_decide_eq_false h2; omega
  subst hke
  rw [List.take_length] at hf
  repeat' (first | refine zh ?_ | apply zb ?_ ?_ | exact zc | (refine zi fun hb => ?_; try simp at hb) | intro (bk : Nat))
  refine HR.ret Tryz.func64 I [_] (fun _ _ => ⟨I, trivial⟩) ?_
  exact fun w' hw => ⟨by rw [rchk_0 h h0 hg hany hf]; rfl, hw.belowB⟩
end Go.Proofs.YtgdgclmkpoaagaaGreat
namespace Go.Proofs.YtgdgclmkpoaagaaGreat
open Go.GX Go.RowKit
attribute [local irreducible] Calls Run RunL RunQ RunD HR HL HD blkC ownC Rd
open Nd
theorem fn155 : IsFn Tryz.prog 155 := ⟨⟨_, _, Tryz.func155, rfl, by decide⟩⟩
end Go.Proofs.YtgdgclmkpoaagaaGreat
namespace Go.Proofs.YtgdgclmkpoaagaaGreat
open Go.GX Go.RowKit
attribute [local irreducible] Calls Run RunL RunQ RunD HR HL HD blkC ownC Rd
open Nd
theorem fn156 : IsFn Tryz.prog 156 := ⟨⟨_, _, Tryz.func156, rfl, by decide⟩⟩
theorem r16first_any (l : List Sn) (v : Value) (w : World) (hv : Sl w v (cellsOf snC l) l.length) (hl : l.length ≤ 1000) :
  Calls Tryz.prog 155 #[v] w fun e w' => ∃ v', e = .returned v' ∧ Sat (base w) [ownC v' 48 11 (l.take 16).length (cellsOf snC (l.take 16))] w' := by
 refine calls_hr Tryz.func155 I (Nat.le_of_ble_eq_true I) ?_
 refine HR.sub (σ' := [(0, v)]) ⟨I, trivial⟩ ?_
 repeat' (first | refine zh ?_ | intro (bk : Nat))
 refine HR.nilC 48 11 ?_
 refine HR.loop2 (α := Nat) (β := Value) (fun k o => k ≤ l.length ∧ k ≤ 16) (fun k o => [(0, v), (3, o), (4, .int .i64 (k : Int))]) (fun k o => [ownC o 48 11 (l.take k).length (cellsOf snC (l.take k))]) (fun k _ => l.length - k) 0 (.slice none 0 0) ⟨Nat.zero_le _, by omega⟩ ⟨I, I, I, trivial⟩ Ent.refl ?_
 rintro k o ⟨hk, hk16⟩ ih
 have htl : (l.take k).length = k := by simp; omega
 repeat' (first | refine zh ?_ | refine HL.lenR (Rd.arg hv) I I I ?_ | apply zb ?_ ?_ | exact zc | (refine zi fun hb => ?_; try simp at hb) | intro (bk : Nat))
 refine HR.cond I (fun h2 => ?_) (fun h2 => ?_)
 ·have h2 : (decide ((k : Int) < l.length) && decide ((k : Int) < 16)) = true := h2
  simp only [Bool.and_eq_true, decide_eq_true_eq] at h2
  have hlt : k < l.length := by omega
  obtain ⟨x, hx⟩ := getSome hlt
  repeat' (first | refine zh ?_ | refine HL.idxR (Rd.arg hv) elemSn k I I I I hlt ?_ | refine HL.loadE (Rd.arg hv) I I I I (by simp) I (cellsOf_get snC_len hx) ?_ | refine HL.bslice elemSn I I I I I (by decide) (by decide) ?_ | intro (bk : Nat))
  intro va
  repeat' (first | refine zh ?_ | refine HL.appR 1 I elemSn (Rd.own 0 I) I I I I (allOne_spec I) (by omega) (by omega) ?_ | intro (bk : Nat))
  intro o2
  repeat' (first | refine zh ?_ | intro (bk : Nat))
  refine ih (k + 1) o2 _ _ ⟨hlt, by omega⟩ (by omega) ⟨I, I, I, trivial⟩ (Ent.trans (Ent.pick [1] I I) (Ent.own0 ?_ ?_))
  ·rw [take_succ_get hx]; simp
  ·rw [take_succ_get hx, cellsOf_app]; rfl
 ·have h2 : (decide ((k : Int) < l.length) && decide ((k : Int) < 16)) = false := h2
  have e : l.take k = l.take 16 := by
   by_cases h3 : k < l.length
   ·rw [decide_eq_true (show (k : Int) < l.length by omega), Bool.true_and, decide_eq_false_iff_not] at h2
    rw [show k = 16 by omega]
   ·rw [List.take_of_length_le (by omega), List.take_of_length_le (by omega)]
  rw [e]
  repeat' (first | refine zh ?_ | intro (bk : Nat))
  refine HR.ret Tryz.func155 I [_] (fun _ _ => ⟨I, trivial⟩) ?_
  exact fun w' hw => ⟨o, rfl, hw⟩
theorem r16without_any (l : List Sn) (i : Nat) (v : Value) (w : World) (hv : Sl w v (cellsOf snC l) l.length) (hl : l.length ≤ 1000) (hi : i < l.length) :
  Calls Tryz.prog 156 #[v, .int .i64 (i : Int)] w fun e w' => ∃ v', e = .returned v' ∧ Sat (base w) [ownC v' 48 11 (l.eraseIdx i).length (cellsOf snC (l.eraseIdx i))] w' := by
 have hstep : ∀ {k : Nat} {x : Sn}, l[k]? = some x → (l.take (k + 1)).eraseIdx i = if k = i then (l.take k).eraseIdx i else (l.take k).eraseIdx i ++ [x] := by
  intro k x hx
  have hkl := (List.getElem?_eq_some_iff.1 hx).1
  have htl : (l.take k).length = k := by simp; omega
  rw [take_succ_get hx]
  split
  ·rename_i h
   subst h
   rw [List.eraseIdx_append_of_length_le (by omega), htl, Nat.sub_self, List.eraseIdx_of_length_le (l := l.take k) (by omega)]; simp
  ·rename_i h
   by_cases h3 : i < k
   ·rw [List.eraseIdx_append_of_lt_length (by omega)]
   ·rw [List.eraseIdx_append_of_length_le (by omega), htl, List.eraseIdx_of_length_le (l := [x]) (by simp; omega), List.eraseIdx_of_length_le (l := l.take k) (by omega)]
 refine calls_hr Tryz.func156 I (Nat.le_of_ble_eq_true I) ?_
 refine HR.sub (σ' := [(0, v), (1, .int .i64 (i : Int))]) ⟨I, I, trivial⟩ ?_
 repeat' (first | refine zh ?_ | intro (bk : Nat))
 refine HR.nilC 48 11 ?_
 refine HR.loop2 (α := Nat) (β := Value) (fun k o => k ≤ l.length) (fun k o => [(0, v), (1, .int .i64 (i : Int)), (5, o), (6, .int .i64 (k : Int))]) (fun k o => [ownC o 48 11 ((l.take k).eraseIdx i).length (cellsOf snC ((l.take k).eraseIdx i))]) (fun k _ => l.length - k) 0 (.slice none 0 0) (Nat.zero_le _) ⟨I, I, I, I, trivial⟩ (by rw [List.take_zero, List.eraseIdx_nil]; exact Ent.refl) ?_
 rintro k o hk ih
 have htl : ((l.take k).eraseIdx i).length ≤ k := Nat.le_trans (List.length_eraseIdx_le _ _) (by simp; omega)
 repeat' (first | refine zh ?_ | refine HL.lenR (Rd.arg hv) I I I ?_ | intro (bk : Nat))
 refine HR.cond I (fun h2 => ?_) (fun h2 => ?_)
 ·have hlt : k < l.length := by have := of_decide_eq_true h2; omega
  obtain ⟨x, hx⟩ := getSome hlt
  have hst := hstep hx
  repeat' (first | refine zh ?_ | intro (bk : Nat))
  refine HR.cond I (fun h3 => ?_) (fun h3 => ?_)
  ·have h3 : ¬ k = i := by have h3 : ((k : Int) != (i : Int)) = true := h3; simp at h3; omega
   rw [if_neg h3] at hst
   repeat' (first | refine zh ?_ | refine HL.idxR (Rd.arg hv) elemSn k I I I I hlt ?_ | refine HL.loadE (Rd.arg hv) I I I I (by simp) I (cellsOf_get snC_len hx) ?_ | refine HL.bslice elemSn I I I I I (by decide) (by decide) ?_ | intro (bk : Nat))
   intro va
   repeat' (first | refine zh ?_ | refine HL.appR 1 I elemSn (Rd.own 0 I) I I I I (allOne_spec I) (by omega) (by omega) ?_ | intro (bk : Nat))
   intro o2
   repeat' (first | refine zh ?_ | intro (bk : Nat))
   refine ih (k + 1) o2 _ _ hlt (by omega) ⟨I, I, I, I, trivial⟩ (Ent.trans (Ent.pick [1] I I) (Ent.own0 ?_ ?_))
   ·rw [hst]; simp
   ·rw [hst, cellsOf_app]; rfl
  ·have h3 : k = i := by have h3 : ((k : Int) != (i : Int)) = false := h3; simp at h3; omega
   rw [if_pos h3] at hst
   repeat' (first | refine zh ?_ | intro (bk : Nat))
   exact ih (k + 1) o _ _ hlt (by omega) ⟨I, I, I, I, trivial⟩ (Ent.own0 (by rw [hst]) (by rw [hst]))
 ·have hke : k = l.length := by have := of_decide_eq_false h2; omega
  subst hke
  rw [List.take_length]
  repeat' (first | refine zh ?_ | intro (bk : Nat))
  refine HR.ret Tryz.func156 I [_] (fun _ _ => ⟨I, trivial⟩) ?_
  exact fun w' hw => ⟨o, rfl, hw⟩
end Go.Proofs.YtgdgclmkpoaagaaGreat
namespace Go.GX
open Go.RowKit
section
variable {P : Program} {f : FuncId} {N : Nat} {k : List Item} {σ : Store} {B : Base} {H H0 : List Chunk} {R : Ending → World → Prop} {ops l : List Oper} {o : Oper} {K : Act → World → Prop}
variable {d : Nat} {d' : Option Nat} {ty : TypeId} {pos : String} {af : Array Edge} {gd : Option (Nat × Bool)} {u v : Value}
theorem HR.joinI {id : Nat} {x : Code} {ι : Type} (Inv : ι → Prop) (st : ι → Store) (hp : ι → List Chunk) (hj : ∀ i, Inv i → HR P f N k (st i) B (hp i) R)
  (h : (∀ i σ' H', Inv i → Sub (st i) σ' → Ent B H' (hp i) → HR P f N k σ' B H' R) → HR P f N (.code x :: .inBlock id :: k) σ B H R) : HR P f N (.code x :: .inBlock id :: k) σ B H R :=
 h fun i σ' H' hi hs he => HR.sub hs (HR.ent he (hj i hi))
end
end Go.GX
namespace Go.Proofs.YtgdgclmkpoaagaaGreat
open Go.GX Go.RowKit
attribute [local irreducible] Calls Run RunL RunQ RunD HR HL HD blkC ownC Rd
open Nd
theorem fn118 : IsFn Tryz.prog 118 := ⟨⟨_, _, Tryz.func118, rfl, by decide⟩⟩
end Go.Proofs.YtgdgclmkpoaagaaGreat
namespace Go.Proofs.YtgdgclmkpoaagaaGreat
open Go.GX Go.RowKit
attribute [local irreducible] Calls Run RunL RunQ RunD HR HL HD blkC ownC Rd
open Nd
section
variable {α : Type}
def lidx (p : α → Bool) (l : List α) : Int := match lastIdx p l with
 | some i => (i : Int)
 | none => -1
theorem lidx_nil (p : α → Bool) (l : List α) : lidx p (l.take 0) = -1 := by rw [List.take_zero]; rfl
theorem lidx_step {p : α → Bool} {l : List α} {k : Nat} {x : α} (hx : l[k]? = some x) : lidx p (l.take (k + 1)) = if p x = true then (k : Int) else lidx p (l.take k) := by
 have hk := (List.getElem?_eq_some_iff.1 hx).1
 have hg : ∀ j, j < k + 1 → (l.take (k + 1))[j]? = l[j]? := fun j hj => by rw [List.getElem?_take_of_lt hj]
 have hg' : ∀ j b, (l.take (k + 1))[j]? = some b → j < k + 1 ∧ l[j]? = some b := fun j b h => by
  rw [List.getElem?_take] at h
  split at h
  ·exact ⟨by assumption, h⟩
  ·cases h
 split
 ·rename_i hp
  unfold lidx
  rw [lastIdx_is (i := k) (a := x) (by rw [hg k (by omega)]; exact hx) hp (fun j b hj hb => by have := (hg' j b hb).1; omega)]
 ·rename_i hp
  have hp : p x = false := by simpa using hp
  unfold lidx
  cases h : lastIdx p (l.take k) with
  | none =>
   have := lastIdx_none h
   rw [lastIdx_isNone]
   intro a ha
   rw [take_succ_get hx] at ha
   rcases List.mem_append.1 ha with ha | ha
   ·exact this a ha
   ·rw [List.mem_singleton] at ha; subst ha; exact hp
  | some i =>
   obtain ⟨a, h1, h2, h3⟩ := lastIdx_some h
   have hik : i < k := by have := (List.getElem?_eq_some_iff.1 h1).1; simp at this; omega
   rw [List.getElem?_take_of_lt hik] at h1
   rw [lastIdx_is (i := i) (a := a) (by rw [hg i (by omega)]; exact h1) h2]
   intro j b hj hb
   obtain ⟨g1, g2⟩ := hg' j b hb
   by_cases e : j = k
   ·subst e; rw [hx] at g2; cases g2; exact hp
   ·exact h3 j b hj (by rw [List.getElem?_take_of_lt (by omega)]; exact g2)
theorem lidx_lt (p : α → Bool) (l : List α) : -1 ≤ lidx p l ∧ lidx p l < (l.length : Int) := by
 unfold lidx
 cases h : lastIdx p l with
 | none => simp; omega
 | some i =>
  obtain ⟨a, h1, _⟩ := lastIdx_some h
  have := (List.getElem?_eq_some_iff.1 h1).1
  simp; omega
theorem qput_full {dr ur : α → Bool} {q : List α} {x : α} (h : (q.take 16).length = 16) (h2 : ur x = false ∨ lidx dr (q.take 16) < 0) : qput dr ur q x = (q.take 16, false) := by
 unfold qput
 cases hu : ur x
 ·rw [if_pos rfl, if_pos h]
 ·rw [if_neg (show ¬ true = false by decide), if_pos h]
  rcases h2 with h2 | h2
  ·rw [hu] at h2; cases h2
  ·unfold lidx at h2
   cases hl : lastIdx dr (q.take 16) with
   | none => rfl
   | some i => rw [hl] at h2; simp only at h2; omega
def room (dr : α → Bool) (T : List α) : List α := if T.length = 16 then T.eraseIdx (lidx dr T).toNat else T
theorem qput_go {dr ur : α → Bool} {q : List α} {x : α} (h : ¬ ((q.take 16).length = 16 ∧ (ur x = false ∨ lidx dr (q.take 16) < 0))) : qput dr ur q x = (if ur x = false then room dr (q.take 16) ++ [x] else ins ur (room dr (q.take 16)) x, true) := by
 unfold qput room
 cases hu : ur x
 ·rw [hu] at h
  rw [if_pos rfl, if_pos rfl, if_neg (fun e => h ⟨e, .inl rfl⟩), if_neg (fun e => h ⟨e, .inl rfl⟩)]
 ·rw [if_neg (show ¬ true = false by decide), if_neg (show ¬ true = false by decide)]
  by_cases hl : (q.take 16).length = 16
  ·rw [if_pos hl, if_pos hl]
   have h2 : ¬ lidx dr (q.take 16) < 0 := fun e => h ⟨hl, .inr e⟩
   unfold lidx at h2 ⊢
   cases hi : lastIdx dr (q.take 16) with
   | none => rw [hi] at h2; exact absurd (by decide) h2
   | some i => simp
  ·rw [if_neg hl, if_neg hl]
theorem room_len {dr : α → Bool} {T : List α} (h : T.length ≤ 16) (h2 : ¬ (T.length = 16 ∧ lidx dr T < 0)) : (room dr T).length ≤ 15 := by
 unfold room
 split
 ·rename_i h3
  have := lidx_lt dr T
  rw [List.length_eraseIdx_of_lt (by omega)]; omega
 ·omega
end
theorem r16put_any (l : List Sn) (f : Fr) (v : Value) (w : World) (hv : Sl w v (cellsOf snC l) l.length) (hl : l.length ≤ 1000) :
  Calls Tryz.prog 118 #[v, .agg ⟨frC f⟩] w fun e w' => ∃ v', e = .returned (.tuple ⟨[v', .bool (mput l f).2]⟩) ∧ True ∧ Sat (base w) [ownC v' 48 11 (mput l f).1.length (cellsOf snC (mput l f).1)] w' := by
 have h16 : (l.take 16).length ≤ 16 := by simp; omega
 have hcl : ∀ T : List Sn, (cellsOf snC T).length = T.length * 11 := cellsOf_len snC_len
 have hspec : (mput l f) = qput sdr sur l ⟨f, 0, 0⟩ := rfl
 rw [hspec]
 have hux : sur ⟨f, 0, 0⟩ = f.ur := rfl
 obtain ⟨x, hx⟩ : ∃ x : Sn, x = ⟨f, 0, 0⟩ := ⟨_, rfl⟩
 rw [← hx] at hux ⊢
 refine calls_hr Tryz.func118 I (Nat.le_of_ble_eq_true I) ?_
 refine HR.sub (σ' := [(0, v), (1, .agg ⟨frC f⟩)]) ⟨I, I, trivial⟩ ?_
 repeat' (first | refine zh ?_ | refine HL.callO fn155 I I (fun w hw => r16first_any l v w ((Rd.arg hv).at hw) hl) ?_ | intro (bk : Nat))
 intro v1
 obtain ⟨T, hT⟩ : ∃ T, T = l.take 16 := ⟨_, rfl⟩
 have hfull := qput_full (dr := sdr) (ur := sur) (q := l) (x := x)
 have hgo := qput_go (dr := sdr) (ur := sur) (q := l) (x := x)
 rw [← hT] at h16 hfull hgo ⊢
 repeat' (first | refine zh ?_ | intro (bk : Nat))
 refine HR.loop (ι := Nat) (fun k => k ≤ T.length) (fun k => [(0, v), (3, .pointer (some ⟨bk, 0, none⟩)), (6, v1), (7, .int .i64 (lidx sdr (T.take k))), (8, .int .i64 (k : Int))]) (fun _ => [ownC v1 48 11 T.length (cellsOf snC T), blkC bk (frC f) 42]) (fun k => T.length - k) 0 (Nat.zero_le _) ⟨rfl, rfl, rfl, by rw [lidx_nil]; rfl, rfl, trivial⟩ (Ent.pick [0, 1] I I) ?_
 intro k hk ih
 repeat' (first | refine zh ?_ | refine HL.lenR (Rd.own 0 I) I I I ?_ | intro (bk : Nat))
 refine HR.cond I (fun h2 => ?_) (fun h2 => ?_)
 ·have hlt : k < T.length := by have := of_decide_eq_true h2; omega
  obtain ⟨y, hy⟩ := getSome hlt
  have hst := lidx_step (p := sdr) hy
  have hln : (T.take k).length ≤ 16 := by simp; omega
  have hlx := lidx_lt sdr (T.take k)
  repeat' (first | refine zh ?_ | refine HL.idxR (Rd.own 0 I) elemSn k I I I I hlt ?_ | refine HL.fieldN 0 (Rd.own 0 I) (by rw [hcl]; omega) I I I I I I I ?_ | refine HL.fieldN 7 (Rd.own 0 I) (by rw [hcl]; omega) I I I I I I I ?_ | refine HL.fieldN 9 (Rd.own 0 I) (by rw [hcl]; omega) I I I I I I I ?_ | refine HL.loadI (Rd.own 0 I) I I I I (cells_get snC_len hy (i := 7) I) ?_ | refine HL.loadI (Rd.own 0 I) I I I I (cells_get snC_len hy (i := 9) I) ?_ | apply zb ?_ ?_ | exact zc | (refine zi fun hb => ?_; try simp at hb) | intro (bk : Nat))
  refine HR.cond I (fun h3 => ?_) (fun h3 => ?_)
  ·have h3 : sdr y = true := h3
   rw [if_pos h3] at hst
   repeat' (first | refine zh ?_ | intro (bk : Nat))
   exact ih (k + 1) _ _ hlt (by omega) ⟨rfl, rfl, rfl, by rw [hst]; rfl, rfl, trivial⟩ Ent.refl
  ·have h3 : sdr y = false := h3
   rw [if_neg (by rw [h3]; decide)] at hst
   repeat' (first | refine zh ?_ | intro (bk : Nat))
   exact ih (k + 1) _ _ hlt (by omega) ⟨rfl, rfl, rfl, by rw [hst]; rfl, rfl, trivial⟩ Ent.refl
 have hke : k = T.length := by have := of_decide_eq_false h2; omega
 subst hke
 rw [List.take_length]
 have hlx := lidx_lt sdr T
 obtain ⟨M, hM⟩ : ∃ M, M = lidx sdr T := ⟨_, rfl⟩
 rw [← hM] at hlx hfull ⊢
 repeat' (first | refine zh ?_ | refine HL.lenR (Rd.own 0 I) I I I ?_ | apply zb ?_ ?_ | exact zc | (refine zi fun hb => ?_; try simp at hb) | intro (bk : Nat))
 refine HR.cond I (fun h3 => ?_) (fun h3 => ?_)
 ·have h3 : (((T.length : Int) == 16) && (!f.ur || decide (M < 0))) = true := h3
  simp only [Bool.and_eq_true, Bool.or_eq_true, Bool.not_eq_true', decide_eq_true_eq, beq_iff_eq] at h3
  rw [hfull (by omega) (by rw [hux]; exact h3.2)]
  repeat' (first | refine zh ?_ | intro (bk : Nat))
  refine HR.ret Tryz.func118 I [_, _] (fun _ _ => ⟨I, I, trivial⟩) ?_
  exact fun w' hw => ⟨v1, rfl, trivial, hw.pick [0] I rfl⟩
 have h3 : (((T.length : Int) == 16) && (!f.ur || decide (M < 0))) = false := h3
 have h3 : ¬ (T.length = 16 ∧ (f.ur = false ∨ M < 0)) := by
  rintro ⟨e1, e2⟩
  rw [show ((T.length : Int) == 16) = true by simp; omega, Bool.true_and, Bool.or_eq_false_iff] at h3
  rcases e2 with e2 | e2
  ·rw [e2] at h3; exact absurd h3.1 (by decide)
  ·have := of_decide_eq_false h3.2; omega
 have hR := room_len (dr := sdr) h16 (by rw [← hM]; exact fun e => h3 ⟨e.1, .inr e.2⟩)
 rw [hgo (by rw [hux, ← hM]; exact h3), hux]
 have hroom : room sdr T = if T.length = 16 then T.eraseIdx M.toNat else T := by rw [hM]; rfl
 obtain ⟨L, hL⟩ : ∃ L, L = room sdr T := ⟨_, rfl⟩
 rw [← hL] at hR hroom ⊢
 repeat' (first | refine zh ?_ | refine HL.lenR (Rd.own 0 I) I I I ?_ | intro (bk : Nat))
 refine HR.join (ι := Value) (fun _ => True) (fun u => [(3, .pointer (some ⟨bk, 0, none⟩)), (6, u)]) (fun u => [ownC u 48 11 L.length (cellsOf snC L), blkC bk (frC f) 42]) (fun u _ => ?_) (fun hj => ?_)
 ·repeat' (first | refine zh ?_ | refine HL.lenR (Rd.own 0 I) I I I ?_ | intro (bk : Nat))
  refine HR.joinI (ι := Nat) (fun a => a ≤ L.length ∧ (if f.ur = false then L ++ [x] else ins sur L x) = L.take a ++ x :: L.drop a) (fun a => [(3, .pointer (some ⟨bk, 0, none⟩)), (6, u), (9, .int .i64 (a : Int))]) (fun _ => [ownC u 48 11 L.length (cellsOf snC L), blkC bk (frC f) 42]) (fun a => ?_) (fun hj2 => ?_)
  ·rintro ⟨ha, e⟩
   rw [e]
   have hcat : cellsOf snC (L.take a ++ x :: L.drop a) = (([] ++ cellsOf snC (L.take a)) ++ snC x) ++ cellsOf snC (L.drop a) := by rw [cellsOf_app, List.nil_append, List.append_assoc]; rfl
   have hR1 := Rd.pre (B := base w) (H := [ownC u 48 11 L.length (cellsOf snC L), blkC bk (frC f) 42]) snC_len (l := L) (Rd.own 0 I) ha
   repeat' (first | refine zh ?_ | refine HL.bslice0 elemSn I ?_ | intro (bk : Nat))
   intro va
   have hR1 := Rd.pre (B := base w) (H := [ownC va 48 11 0 [], ownC u 48 11 L.length (cellsOf snC L), blkC bk (frC f) 42]) snC_len (l := L) (Rd.own 1 I) ha
   repeat' (first | refine zh ?_ | refine HL.subI (sz := 11) 0 a (Rd.own 1 I) I I I I (.inl ⟨rfl, rfl⟩) (.inr ⟨_, _, _, rfl, rfl, rfl⟩) (Nat.zero_le _) ha ?_ | refine HL.appR 0 I elemSn hR1 I I I (hcl _) (one_allcells snC_one _) (by simp; omega) (by simp; omega) ?_ | intro (bk : Nat))
   intro vo
   repeat' (first | refine zh ?_ | intro (bk : Nat))
   refine HL.bslice elemSn I I I I I (by decide) (by decide) ?_
   intro va2
   refine HL.ent (H' := [ownC va2 48 11 1 (snC x), ownC vo 48 11 (0 + (L.take a).length) ([] ++ cellsOf snC (L.take a)), ownC u 48 11 L.length (cellsOf snC L), blkC bk (frC f) 42]) (Ent.own0 I (by rw [hx]; rfl)) ?_
   refine HL.appR (news := snC x) 1 I elemSn (Rd.own 0 I) I I I I (allOne_spec I) (by simp; omega) (by simp; omega) ?_
   intro vo2
   have hR2 := Rd.suf (B := base w) (H := [ownC va2 48 11 1 (snC x), ownC vo2 48 11 (0 + (L.take a).length + 1) (([] ++ cellsOf snC (L.take a)) ++ snC x), ownC u 48 11 L.length (cellsOf snC L), blkC bk (frC f) 42]) snC_len (l := L) (Rd.own 2 I) ha
   repeat' (first | refine zh ?_ | refine HL.subI (sz := 11) a L.length (Rd.own 2 I) I I I I (.inr ⟨_, _, _, rfl, rfl, rfl⟩) (.inl ⟨rfl, rfl⟩) ha (Nat.le_refl _) ?_ | refine HL.appR 1 I elemSn hR2 I I I (hcl _) (one_allcells snC_one _) (by simp; omega) (by simp; omega) ?_ | intro (bk : Nat))
   intro v5
   repeat' (first | refine zh ?_ | intro (bk : Nat))
   refine HR.ret Tryz.func118 I [_, _] (fun _ _ => ⟨I, I, trivial⟩) ?_
   refine fun w' hw => ⟨v5, rfl, trivial, Ent.own0 ?_ ?_ w' (hw.pick [1] I rfl)⟩
   ·simp; omega
   ·exact hcat.symm
  ·refine HR.loop2 (α := Nat) (β := Nat) (fun b a => b ≤ L.length ∧ b ≤ a ∧ a ≤ L.length ∧ (f.ur = false → a = L.length) ∧ (f.ur = true → (∀ j y, b ≤ j → j < a → L[j]? = some y → sur y = true) ∧ ∀ y, L[a]? = some y → sur y = false)) (fun b a => [(3, .pointer (some ⟨bk, 0, none⟩)), (6, u), (9, .int .i64 (a : Int)), (10, .int .i64 ((b : Int) - 1))]) (fun _ _ => [ownC u 48 11 L.length (cellsOf snC L), blkC bk (frC f) 42]) (fun b _ => b) L.length L.length ⟨Nat.le_refl _, Nat.le_refl _, Nat.le_refl _, fun _ => rfl, fun _ => ⟨fun j y h1 h2 => by omega, fun y hy => by have := (List.getElem?_eq_some_iff.1 hy).1; omega⟩⟩ ⟨I, I, I, I, trivial⟩ Ent.refl ?_
   rintro b a ⟨hb, hba, ha, hf0, hf1⟩ ih
   repeat' (first | refine zh ?_ | apply zb ?_ ?_ | exact zc | (refine zi fun hb => ?_; try simp at hb) | intro (bk : Nat))
   refine HR.cond I (fun h4 => ?_) (fun h4 => ?_)
   ·have h4 : (decide ((b : Int) - 1 ≥ 0) && f.ur) = true := h4
    simp only [Bool.and_eq_true, decide_eq_true_eq] at h4
    obtain ⟨m, rfl⟩ : ∃ m, b = m + 1 := ⟨b - 1, by omega⟩
    have hml : m < L.length := by omega
    obtain ⟨y, hy⟩ := getSome hml
    obtain ⟨g1, g2⟩ := hf1 h4.2
    repeat' (first | refine zh ?_ | refine HL.idxR (Rd.own 0 I) elemSn m I I I (by omega) hml ?_ | refine HL.fieldN 0 (Rd.own 0 I) (by rw [hcl]; omega) I I I I I I I ?_ | refine HL.fieldN 7 (Rd.own 0 I) (by rw [hcl]; omega) I I I I I I I ?_ | refine HL.loadI (Rd.own 0 I) I I I I (cells_get snC_len hy (i := 7) I) ?_ | intro (bk : Nat))
    refine HR.cond I (fun h5 => ?_) (fun h5 => ?_)
    ·have h5 : y.f.ur = false := by have h5 : (!y.f.ur) = true := h5; simpa using h5
     repeat' (first | refine zh ?_ | intro (bk : Nat))
     refine ih m m _ _ ⟨by omega, Nat.le_refl _, by omega, fun e => (by rw [h4.2] at e; cases e), fun _ => ⟨fun j y h1 h2 => by omega, fun y' hy' => by rw [hy] at hy'; cases hy'; exact h5⟩⟩ (by omega) ⟨rfl, rfl, by show some (Value.int IntKind.i64 _) = some (Value.int IntKind.i64 _); congr 2; omega, by show some (Value.int IntKind.i64 _) = some (Value.int IntKind.i64 _); congr 2; omega, trivial⟩ Ent.refl
    ·have h5 : y.f.ur = true := by have h5 : (!y.f.ur) = false := h5; simpa using h5
     repeat' (first | refine zh ?_ | intro (bk : Nat))
     refine ih m a _ _ ⟨by omega, by omega, ha, hf0, fun _ => ⟨fun j y' h1 h2 hy' => ?_, g2⟩⟩ (by omega) ⟨rfl, rfl, rfl, by show some (Value.int IntKind.i64 _) = some (Value.int IntKind.i64 _); congr 2; omega, trivial⟩ Ent.refl
     by_cases e : j = m
     ·subst e; rw [hy] at hy'; cases hy'; exact h5
     ·exact g1 j y' (by omega) h2 hy'
   ·have h4 : (decide ((b : Int) - 1 ≥ 0) && f.ur) = false := h4
    have e : (if f.ur = false then L ++ [x] else ins sur L x) = L.take a ++ x :: L.drop a := by
     cases hu : f.ur
     ·rw [if_pos rfl, hf0 hu, List.take_length, List.drop_length]
     ·rw [if_neg (by decide)]
      rw [hu, Bool.and_true] at h4
      have h4 := of_decide_eq_false h4
      obtain ⟨g1, g2⟩ := hf1 hu
      exact ins_at ha (fun j y hj hy => g1 j y (by omega) hj hy) g2
    refine HR.exit I ?_
    exact hj2 a _ _ ⟨ha, e⟩ ⟨I, I, I, trivial⟩ Ent.refl
 ·refine HR.cond I (fun h4 => ?_) (fun h4 => ?_)
  ·have h4 : T.length = 16 := by have h4 : ((T.length : Int) == 16) = true := h4; simp at h4; omega
   have hM0 : ¬ M < 0 := fun e => h3 ⟨h4, .inr e⟩
   obtain ⟨m, rfl⟩ : ∃ m : Nat, M = m := ⟨M.toNat, by omega⟩
   rw [if_pos h4, Int.toNat_natCast] at hroom
   refine HR.region ?_
   repeat' (first | refine zn ?_ | apply zb ?_ ?_ | exact zc | (refine zi fun hb => ?_; try simp at hb) | intro (bk : Nat))
   refine HL.callO fn156 I I (fun w hw => r16without_any T m v1 w ((Rd.own 0 rfl).at hw) (by omega) (by omega)) ?_
   intro u
   repeat' (first | refine zn ?_ | apply zb ?_ ?_ | exact zc | (refine zi fun hb => ?_; try simp at hb) | intro (bk : Nat))
   rw [← hroom]
   exact hj u _ _ trivial ⟨I, I, trivial⟩ (Ent.pick [0, 2] I I)
  ·have h4 : ¬ T.length = 16 := by intro e; have h4 : ((T.length : Int) == 16) = false := h4; rw [e] at h4; cases h4
   rw [if_neg h4] at hroom
   subst hroom
   refine HR.skip ?_
   exact hj v1 _ _ trivial ⟨I, I, trivial⟩ (Ent.pick [0, 1] I I)
end Go.Proofs.YtgdgclmkpoaagaaGreat
namespace Nd
open Go.GX Tp
theorem Ord.deliver {n : Nd} (h : Ord n) (d : De) : Ord (deliver n d) := by
 unfold Nd.deliver
 split
 ·exact h.lose
 ·exact { h with inbox := by show (n.inbox ++ [d]).length ≤ 256; simp; omega }
theorem deliver_table (n : Nd) (d : De) : (deliver n d).table = n.table ∧ (deliver n d).addr = n.addr := by
 unfold deliver; split <;> exact ⟨rfl, rfl⟩
theorem sends_ord {target : Int} {ur : Bool} : ∀ {l : List By} {n m : Nd}, Ord n → sends target ur l n = some m → Ord m ∧ m.table = n.table ∧ m.addr = n.addr
 | [], n, m, h, e => by unfold sends at e; cases e; exact ⟨h, rfl, rfl⟩
 | p :: l, n, m, h, e => by
  unfold sends at e
  split at e
  ·have hq := h.queue (sendF n target ur p)
   have ht := queue_table n (sendF n target ur p)
   obtain ⟨g1, g2, g3⟩ := sends_ord (l := l) (show Ord { (queue n (sendF n target ur p)).1 with seq := (n.seq + 1) % 65536 } from { hq with seq := by show 0 ≤ (n.seq + 1) % 65536 ∧ (n.seq + 1) % 65536 ≤ 65535; omega }) e
   exact ⟨g1, g2.trans ht.1, g3.trans ht.2⟩
  ·cases e
theorem Good.refl {n : Nd} (h : Ord n) : Good n n := ⟨h, rfl, Kept.refl _⟩
theorem Good.trans {a b c : Nd} (h : Good a b) (h' : Good b c) : Good a c := ⟨h'.ord, h'.addr.trans h.addr, h.kept.trans h'.kept⟩
theorem Good.of_eq {n m : Nd} (h : Ord m) (h1 : m.table = n.table) (h2 : m.addr = n.addr) : Good n m := ⟨h, h2, by rw [h1]; exact Kept.refl _⟩
theorem Good.deliver {n m : Nd} (h : Good n m) (d : De) : Good n (deliver m d) := h.trans (.of_eq (h.ord.deliver d) (deliver_table m d).1 (deliver_table m d).2)
theorem send_good {n : Nd} {target : Int} {ur : Bool} {text : By} (h : (send n target ur text).2 = 0) : Good (order n) (send n target ur text).1 := by
 have ho := order_ord n
 unfold send at h ⊢
 simp only at h ⊢
 split at h
 ·cases h
 ·rename_i h1
  rw [if_neg h1]
  split at h
  ·rename_i h2; exact absurd h h2
  ·rename_i h2
   rw [if_neg h2]
   split at h
   ·rename_i h3
    rw [if_pos h3]
    exact (Good.refl ho).deliver _
   ·rename_i h3
    rw [if_neg h3]
    split at h
    ·rename_i m hm
     obtain ⟨g1, g2, g3⟩ := sends_ord ho hm
     exact .of_eq g1 g2 g3
    ·cases h
end Nd
namespace Go.Proofs.YtgdgclmkpoaagaaGreat
open Go.GX Go.RowKit
attribute [local irreducible] Calls Run RunL RunQ RunD HR HL HD blkC ownC Rd
open Nd
theorem fn37 : IsFn Tryz.prog 37 := ⟨⟨_, _, Tryz.func37, rfl, by decide⟩⟩
theorem r15split_any (s : By) (id : Int) (w : World) (hs : s.length ≤ 9223372036854775807) :
  Calls Tryz.prog 37 #[str s, .int .i64 id] w fun e w' => ∃ v', e = .returned (.tuple ⟨[v', .int .i64 (psplit s id).2]⟩) ∧ True ∧ Sat (base w) [ownC v' 9 1 (psplit s id).1.length (cellsOf sC (psplit s id).1)] w' := by
 refine calls_hr Tryz.func37 I (Nat.le_of_ble_eq_true I) ?_
 refine HR.sub (σ' := [(0, str s), (1, .int .i64 id)]) ⟨I, I, trivial⟩ ?_
 repeat' (first | refine zh ?_ | intro (bk : Nat))
 refine HR.cond I (fun h => ?_) (fun h => ?_)
 ·have h : s.length > 1000 := by have := of_decide_eq_true h; omega
  rw [psplit_long h]
  repeat' (first | refine zh ?_ | intro (bk : Nat))
  refine HR.nilC 9 1 ?_
  refine HR.ret Tryz.func37 I [_, _] (fun _ _ => ⟨I, I, trivial⟩) ?_
  exact fun w' hw => ⟨_, rfl, trivial, hw⟩
 have h : ¬ s.length > 1000 := by have := of_decide_eq_false h; omega
 repeat' (first | refine zh ?_ | apply zb ?_ ?_ | exact zc | (refine zi fun hb => ?_; try simp at hb) | intro (bk : Nat))
 refine HR.cond I (fun h2 => ?_) (fun h2 => ?_)
 ·have h2 : (decide (id < 0) || decide (id > 255)) = true := h2
  rw [psplit_bad h (by simpa using h2)]
  repeat' (first | refine zh ?_ | intro (bk : Nat))
  refine HR.nilC 9 1 ?_
  refine HR.ret Tryz.func37 I [_, _] (fun _ _ => ⟨I, I, trivial⟩) ?_
  exact fun w' hw => ⟨_, rfl, trivial, hw⟩
 have h2 : (decide (id < 0) || decide (id > 255)) = false := h2
 have h2 : ¬ (id < 0 ∨ id > 255) := by simpa using h2
 rw [psplit_ok h h2]
 have hpd : pcount s.length = max 1 ((s.length + 63) / 64) := rfl
 obtain ⟨c, hc⟩ : ∃ c, c = pcount s.length := ⟨_, rfl⟩
 rw [← hc] at hpd ⊢
 repeat' (first | refine zh ?_ | intro (bk : Nat))
 refine HR.join (ι := Unit) (fun _ => True) (fun _ => [(0, str s), (1, .int .i64 id), (6, .int .i64 (c : Int))]) (fun _ => []) (fun _ _ => ?_) (fun hj => ?_)
 ·repeat' (first | refine zh ?_ | intro (bk : Nat))
  refine HR.nilC 9 1 ?_
  refine HR.loop2 (α := Nat) (β := Value) (fun k _ => k ≤ c) (fun k o => [(0, str s), (1, .int .i64 id), (6, .int .i64 (c : Int)), (7, o), (8, .int .i64 (k : Int))]) (fun k o => [ownC o 9 1 ((List.range k).map (piece s id)).length (cellsOf sC ((List.range k).map (piece s id)))]) (fun k _ => c - k) 0 (.slice none 0 0) (Nat.zero_le _) ⟨I, I, I, I, I, trivial⟩ (Ent.pick [0] I I) ?_
  rintro k o hk ih
  repeat' (first | refine zh ?_ | intro (bk : Nat))
  refine HR.cond I (fun h3 => ?_) (fun h3 => ?_)
  ·have hlt : k < c := by have := of_decide_eq_true h3; omega
   have hps := pieces_step s id k
   obtain ⟨L, hL⟩ : ∃ L, L = (List.range k).map (piece s id) := ⟨_, rfl⟩
   have hLl : L.length ≤ 16 := by rw [hL]; simp; omega
   rw [← hL] at hps ⊢
   repeat' (first | refine zh ?_ | intro (bk : Nat))
   refine HR.join (ι := Unit) (fun _ => True) (fun _ => [(0, str s), (1, .int .i64 id), (6, .int .i64 (c : Int)), (7, o), (8, .int .i64 (k : Int)), (9, .int .i64 ((min s.length (64 * (k + 1)) : Nat) : Int))]) (fun _ => [ownC o 9 1 L.length (cellsOf sC L)]) (fun _ _ => ?_) (fun hj2 => ?_)
   ·have hpk : [u8 id, u8 k, u8 c] ++ data s k = piece s id k := by unfold piece data; rw [hc]
    have hdl : (data s k).length ≤ 64 := by rw [data_len]; omega
    refine HR.regionD [(0, true), (1, true), (2, true), (3, true), (4, true), (5, true), (6, true), (9, true), (10, true), (11, true), (12, true), (13, true), (7, false), (8, false), (14, true), (15, false), (16, false), (17, true)] [] I I hmix (by kernel_rfl) ?_
    repeat' (first | refine zd ?_ | fail)
    refine HD.setV 53 (v' := str (data s k)) I (by rw [← data_cut]; try rfl) ?_
    refine HD.one I ?_
    refine HL.bslice elemU8 I I I I I (by decide) (by decide) ?_
    intro va
    refine HL.ent (H' := [ownC va 5 1 [u8 id, u8 k, u8 c].length (bcells [u8 id, u8 k, u8 c]), ownC o 9 1 L.length (cellsOf sC L)]) (Ent.own0 I (by rw [piece_head ⟨by omega, by omega⟩ (by omega) (by omega)]; try rfl)) ?_
    refine HL.back [] I I ?_
    refine HD.one I ?_
    refine HL.bstr (Rd.own 0 I) I I I I I ?_
    refine HL.back [] I I ?_
    refine HD.evc I I I (by simp; omega) ?_
    refine HD.setV 54 (v' := str (piece s id k)) I (by rw [← hpk]; try rfl) ?_
    refine HD.one I ?_
    refine HL.bslice elemS I I I I I (by decide) (by decide) ?_
    intro vb
    refine HL.back [] I I ?_
    refine HD.one I ?_
    refine HL.appR 2 I elemS (Rd.own 0 I) I I I I (allOne_spec I) (by omega) (by omega) ?_
    intro o2
    refine HL.back [] I I ?_
    repeat' (first | refine zd ?_ | fail)
    refine HD.nil ?_
    repeat' (first | refine zh ?_ | intro (bk : Nat))
    refine ih (k + 1) o2 _ _ hlt (by omega) ⟨I, I, I, I, I, trivial⟩ (Ent.trans (Ent.pick [2] I I) (Ent.own0 ?_ ?_))
    ·rw [hps]; simp
    ·rw [hps, cellsOf_app]; rfl
   ·refine HR.cond I (fun h4 => ?_) (fun h4 => ?_)
    ·have h4 : ((k : Int) + 1) * 64 > (s.length : Int) := of_decide_eq_true h4
     refine HR.region ?_
     repeat' (first | refine zn ?_ | apply zb ?_ ?_ | exact zc | (refine zi fun hb => ?_; try simp at hb) | intro (bk : Nat))
     exact hj2 () _ _ trivial ⟨rfl, rfl, rfl, rfl, rfl, by show some (Value.int IntKind.i64 _) = some _; congr 2; omega, trivial⟩ Ent.refl
    ·have h4 : ¬ ((k : Int) + 1) * 64 > (s.length : Int) := of_decide_eq_false h4
     refine HR.skip ?_
     exact hj2 () _ _ trivial ⟨rfl, rfl, rfl, rfl, rfl, by show some (Value.int IntKind.i64 _) = some _; congr 2; omega, trivial⟩ Ent.refl
  ·have hke : k = c := by have := of_decide_eq_false h3; omega
   subst hke
   repeat' (first | refine zh ?_ | intro (bk : Nat))
   refine HR.ret Tryz.func37 I [_, _] (fun _ _ => ⟨I, I, trivial⟩) ?_
   exact fun w' hw => ⟨o, rfl, trivial, hw⟩
 ·refine HR.cond I (fun h3 => ?_) (fun h3 => ?_)
  ·refine HR.region ?_
   repeat' (first | refine zn ?_ | apply zb ?_ ?_ | exact zc | (refine zi fun hb => ?_; try simp at hb) | intro (bk : Nat))
   exact hj () _ _ trivial ⟨rfl, rfl, by show some _ = some _; have h3 : (((s.length : Int) + 64 - 1) / 64 == 0) = true := h3; simp at h3; congr 2; omega, trivial⟩ Ent.refl
  ·refine HR.skip ?_
   exact hj () _ _ trivial ⟨rfl, rfl, by show some (Value.int IntKind.i64 _) = some _; have h3 : (((s.length : Int) + 64 - 1) / 64 == 0) = false := h3; simp at h3; congr 2; omega, trivial⟩ Ent.refl
end Go.Proofs.YtgdgclmkpoaagaaGreat
namespace Go.Proofs.YtgdgclmkpoaagaaGreat
open Go.GX Go.RowKit
attribute [local irreducible] Calls Run RunL RunQ RunD HR HL HD blkC ownC Rd
open Nd
theorem fn144 : IsFn Tryz.prog 144 := ⟨⟨_, _, Tryz.func144, rfl, by decide⟩⟩
theorem fn66 : IsFn Tryz.prog 66 := ⟨⟨_, _, Tryz.func66, rfl, by decide⟩⟩
theorem rpower_any (n : Int) (w : World) (hn : 0 ≤ n ∧ n ≤ 16) : Calls Tryz.prog 144 #[.int .i64 n] w fun e w' => e = .returned (.int .i64 (2 ^ n.toNat)) ∧ Below w.heap.size w w' := by
 obtain ⟨m, rfl⟩ : ∃ m : Nat, n = m := ⟨n.toNat, by omega⟩
 refine calls_hr Tryz.func144 I (Nat.le_of_ble_eq_true I) ?_
 refine HR.sub (σ' := [(0, .int .i64 (m : Int))]) ⟨I, trivial⟩ ?_
 repeat' (first | refine zh ?_ | apply zb ?_ ?_ | exact zc | (refine zi fun hb => ?_; try simp at hb) | intro (bk : Nat))
 refine HR.loop (ι := Nat) (fun k => k ≤ m) (fun k => [(0, .int .i64 (m : Int)), (3, .int .i64 ((2 ^ k : Nat) : Int)), (4, .int .i64 (k : Int))]) (fun _ => []) (fun k => m - k) 0 (Nat.zero_le _) ⟨I, I, I, trivial⟩ Ent.refl ?_
 intro k hk ih
 have h2 : 2 ^ k ≤ 2 ^ 16 := Nat.pow_le_pow_right (by decide) (by omega)
 have h16 : 2 ^ 16 = 65536 := by decide
 rw [h16] at h2
 obtain ⟨p, hpe⟩ : ∃ p, p = 2 ^ k := ⟨_, rfl⟩
 rw [← hpe] at h2 ⊢
 repeat' (first | refine zh ?_ | apply zb ?_ ?_ | exact zc | (refine zi fun hb => ?_; try simp at hb) | intro (bk : Nat))
 refine HR.cond I (fun h => ?_) (fun h => ?_)
 ·have hlt : k < m := by have := of_decide_eq_true h; omega
  repeat' (first | refine zh ?_ | apply zb ?_ ?_ | exact zc | (refine zi fun hb => ?_; try simp at hb) | intro (bk : Nat))
  refine HR.setV 3 (v' := .int .i64 ((2 ^ (k + 1) : Nat) : Int)) I (show Value.int .i64 (2 * (p : Int)) = _ by rw [Nat.pow_succ, ← hpe]; congr 1; omega) ?_
  exact ih (k + 1) _ _ hlt (by omega) ⟨I, I, I, trivial⟩ Ent.refl
 ·have hke : k = m := by have := of_decide_eq_false h; omega
  subst hke
  repeat' (first | refine zh ?_ | apply zb ?_ ?_ | exact zc | (refine zi fun hb => ?_; try simp at hb) | intro (bk : Nat))
  refine HR.ret Tryz.func144 I [_] (fun _ _ => ⟨I, trivial⟩) ?_
  refine fun w' hw => ⟨?_, hw.belowB⟩
  rw [hpe]
  simp only [resV, Int.toNat_natCast, Int.natCast_pow]
  rfl
theorem r10check_any (l : List Li) (v : Value) (w : World) (hv : Sl w v (cellsOf liC l) l.length) (hl : l.length ≤ 1000) :
  Calls Tryz.prog 66 #[v] w fun e w' => e = .returned (.int .i64 (lchk l)) ∧ Below w.heap.size w w' := by
 refine calls_hr Tryz.func66 I (Nat.le_of_ble_eq_true I) ?_
 refine HR.sub (σ' := [(0, v)]) ⟨I, trivial⟩ ?_
 repeat' (first | refine zh ?_ | refine HL.lenR (Rd.arg hv) I I I ?_ | apply zb ?_ ?_ | exact zc | (refine zi fun hb => ?_; try simp at hb) | intro (bk : Nat))
 refine HR.cond I (fun h => ?_) (fun h => ?_)
 ·have h : l.length > 24 := by have := of_decide_eq_true h; omega
  repeat' (first | refine zh ?_ | apply zb ?_ ?_ | exact zc | (refine zi fun hb => ?_; try simp at hb) | intro (bk : Nat))
  refine HR.ret Tryz.func66 I [_] (fun _ _ => ⟨I, trivial⟩) ?_
  exact fun w' hw => ⟨by rw [lchk, if_pos h]; rfl, hw.belowB⟩
 have h : l.length ≤ 24 := by have := of_decide_eq_false h; omega
 repeat' (first | refine zh ?_ | apply zb ?_ ?_ | exact zc | (refine zi fun hb => ?_; try simp at hb) | intro (bk : Nat))
 refine HR.loop (ι := Nat) (fun k => k ≤ l.length ∧ firstE (lbad l) k = 0) (fun k => [(0, v), (3, .int .i64 (k : Int))]) (fun _ => []) (fun k => l.length - k) 0 ⟨Nat.zero_le _, rfl⟩ ⟨I, I, trivial⟩ Ent.refl ?_
 rintro k ⟨hk, hg⟩ ih
 repeat' (first | refine zh ?_ | refine HL.lenR (Rd.arg hv) I I I ?_ | apply zb ?_ ?_ | exact zc | (refine zi fun hb => ?_; try simp at hb) | intro (bk : Nat))
 refine HR.cond I (fun h2 => ?_) (fun h2 => ?_)
 ·have hlt : k < l.length := by have := of_decide_eq_true h2; omega
  obtain ⟨x, hx⟩ := getSome hlt
  repeat' (first | refine zh ?_ | refine HL.idxR (Rd.arg hv) elemLi k I I I I hlt ?_ | refine HL.loadE (Rd.arg hv) I I I I (by simp) I (cellsOf_get liC_len hx) ?_ | intro (bk : Nat))
  refine HR.regionQ hmix (by kernel_rfl) ?_
  repeat' (first | refine zq ?_ | refine HQ.callB fn144 I I (fun w _ => rpower_any x.ct w (by omega)) ?_ | apply zb ?_ ?_ | exact zc | (refine zi fun hb => ?_; try simp at hb))
  refine HR.cond I (fun h3 => ?_) (fun h3 => ?_)
  ·have h3 : lrange x = true := h3
   repeat' (first | refine zh ?_ | apply zb ?_ ?_ | exact zc | (refine zi fun hb => ?_; try simp at hb) | intro (bk : Nat))
   refine HR.ret Tryz.func66 I [_] (fun _ _ => ⟨I, trivial⟩) ?_
   refine fun w' hw => ⟨?_, hw.belowB⟩
   have e := lbad_range hx h3
   rw [lchk_at h hg (by rw [e]; decide) hlt, e]; rfl
  have h3 : lrange x = false := h3
  obtain ⟨y, hy⟩ := getSome (l := l) (j := k - 1) (by omega)
  repeat' (first | refine zh ?_ | apply zb ?_ ?_ | exact zc | (refine zi fun hb => ?_; try simp at hb) | intro (bk : Nat))
  refine HR.regionQ hmix (by kernel_rfl) ?_
  repeat' (first | refine zq ?_ | refine HQ.idxR (Rd.arg hv) elemLi (k - 1) I I I (by omega) (by omega) ?_ | refine HQ.fieldE (Rd.arg hv) (by rw [cellsOf_len liC_len]; omega) I I I I I I ?_ | refine HQ.loadI (Rd.arg hv) I I I I (cells_get liC_len hy (i := 0) I) ?_ | apply zb ?_ ?_ | exact zc | (refine zi fun hb => ?_; try simp at hb))
  refine HR.cond I (fun h4 => ?_) (fun h4 => ?_)
  ·have h4 : (decide ((k : Int) > 0) && decide (y.nd ≥ x.nd)) = true := h4
   simp only [Bool.and_eq_true, decide_eq_true_eq] at h4
   repeat' (first | refine zh ?_ | apply zb ?_ ?_ | exact zc | (refine zi fun hb => ?_; try simp at hb) | intro (bk : Nat))
   refine HR.ret Tryz.func66 I [_] (fun _ _ => ⟨I, trivial⟩) ?_
   refine fun w' hw => ⟨?_, hw.belowB⟩
   have e := lbad_order hx h3 (by omega) hy h4.2
   rw [lchk_at h hg (by rw [e]; decide) hlt, e]; rfl
  ·have h4 : (decide ((k : Int) > 0) && decide (y.nd ≥ x.nd)) = false := h4
   repeat' (first | refine zh ?_ | apply zb ?_ ?_ | exact zc | (refine zi fun hb => ?_; try simp at hb) | intro (bk : Nat))
   refine ih (k + 1) _ _ ⟨hlt, firstE_step hg (lbad_ok hx h3 fun y' h0 hy' hle => ?_)⟩ (by omega) ⟨I, I, trivial⟩ (Ent.pick [] I I)
   rw [hy] at hy'
   cases hy'
   rw [decide_eq_true (show (k : Int) > 0 by omega), decide_eq_true (show y.nd ≥ x.nd from hle)] at h4
   cases h4
 ·have hke : k = l.length := by have := of_decide_eq_false h2; omega
  subst hke
  repeat' (first | refine zh ?_ | apply zb ?_ ?_ | exact zc | (refine zi fun hb => ?_; try simp at hb) | intro (bk : Nat))
  refine HR.ret Tryz.func66 I [_] (fun _ _ => ⟨I, trivial⟩) ?_
  exact fun w' hw => ⟨by rw [lchk, if_neg (by omega), hg]; rfl, hw.belowB⟩
end Go.Proofs.YtgdgclmkpoaagaaGreat
namespace Go.Proofs.YtgdgclmkpoaagaaGreat
open Go.GX Go.RowKit
attribute [local irreducible] Calls Run RunL RunQ RunD HR HL HD blkC ownC Rd
open Nd
theorem fn83 : IsFn Tryz.prog 83 := ⟨⟨_, _, Tryz.func83, rfl, by decide⟩⟩
theorem fn47 : IsFn Tryz.prog 47 := ⟨⟨_, _, Tryz.func47, rfl, by decide⟩⟩
theorem fn46 : IsFn Tryz.prog 46 := ⟨⟨_, _, Tryz.func46, rfl, by decide⟩⟩
theorem rlose_any (V : NV) (n : Nd) (w : World) (hl : 0 ≤ n.lost ∧ n.lost ≤ maxTick) :
  Calls Tryz.prog 83 #[.agg ⟨ndC V n⟩] w fun e w' => e = .returned (.agg ⟨ndC V (lose n)⟩) ∧ Below w.heap.size w w' := by
 obtain ⟨h0, h1⟩ := hl
 have h1 : n.lost ≤ 1099511627776 := h1
 refine calls_hr Tryz.func83 I (Nat.le_of_ble_eq_true I) ?_
 refine HR.sub (σ' := [(0, .agg ⟨ndC V n⟩)]) ⟨I, trivial⟩ ?_
 repeat' (first | refine zh ?_ | intro (bk : Nat))
 refine HR.ret Tryz.func83 I [_] (fun w hw => ⟨⟨_, rfl, loadVarR hw 0 I I I I rfl⟩, trivial⟩) ?_
 have e : (if 1099511627776 < n.lost + 1 then (1099511627776 : Int) else n.lost + 1) = min (n.lost + 1) maxTick := by
  show _ = min (n.lost + 1) 1099511627776
  split <;> omega
 refine fun w' hw => ⟨?_, hw.belowB⟩
 show Ending.returned (.agg ⟨ndC V { n with lost := if 1099511627776 < n.lost + 1 then (1099511627776 : Int) else n.lost + 1 }⟩) = _
 rw [e]; rfl
theorem rput_any (V : NV) (n : Nd) (f : Fr) (w : World) (hv : Sl w (sv V.ou n.out.length) (cellsOf snC n.out) n.out.length) (hl : n.out.length ≤ 1000) (hlo : 0 ≤ n.lost ∧ n.lost ≤ maxTick) :
  Calls Tryz.prog 47 #[.agg ⟨ndC V n⟩, .agg ⟨frC f⟩] w fun e w' => ∃ x : SV, e = .returned (.tuple ⟨[.agg ⟨ndC { V with ou := x } (queue n f).1⟩, .bool (queue n f).2]⟩) ∧ True ∧ Sat (base w) [cSn (sv x (queue n f).1.out.length) (queue n f).1.out] w' := by
 obtain ⟨q, hq⟩ : ∃ q, q = mput n.out f := ⟨_, rfl⟩
 have hsp : queue n f = (if q.2 = false ∨ q.1.length = n.out.length then lose { n with out := q.1 } else { n with out := q.1 }, q.2) := by rw [hq]; rfl
 obtain ⟨m, hm⟩ : ∃ m : Nd, m = (if q.2 = false ∨ q.1.length = n.out.length then lose n else n) := ⟨_, rfl⟩
 have hmo : (if q.2 = false ∨ q.1.length = n.out.length then lose { n with out := q.1 } else { n with out := q.1 }) = { m with out := q.1 } := by
  rw [hm]; split <;> rfl
 rw [hmo] at hsp
 rw [hsp]
 refine calls_hr Tryz.func47 I (Nat.le_of_ble_eq_true I) ?_
 refine HR.sub (σ' := [(0, .agg ⟨ndC V n⟩), (1, .agg ⟨frC f⟩)]) ⟨I, I, trivial⟩ ?_
 refine HR.ctl I ?_
 refine HR.region ?_
 refine HL.box I I ?_
 intro b2
 refine HL.box I I ?_
 intro b3
 refine HL.alloc I I ?_
 intro b4
 repeat' (first | refine zh ?_ | intro (bk : Nat))
 refine HL.callX (r := fun v' : Value => .tuple ⟨[v', .bool q.2]⟩) (Q := fun _ => True) (G := fun v' => [cSn v' q.1]) fn118 I I (fun w1 hw1 => by rw [hq]; exact r16put_any n.out f _ w1 ((Rd.arg hv).at hw1) (by omega)) ?_
 intro v1 _
 refine HL.shape 0 I fun a c hv => ?_
 subst hv
 repeat' (first | refine zh ?_ | apply zb ?_ ?_ | exact zc | (refine zi fun hb => ?_; try simp at hb) | intro (bk : Nat))
 refine HR.join (ι := Unit) (fun _ => True) (fun _ => [(2, ptr b2), (4, ptr b4), (8, .bool q.2)]) (fun _ => [rsC b4, blkC b2 (ndC { V with ou := (a, c) } { m with out := q.1 }) 31, cSn (.slice a q.1.length c) q.1]) (fun _ _ => ?_) (fun hj => ?_)
 rotate_left
 ·refine HR.cond I (fun h => ?_) (fun h => ?_)
  ·have h : (!q.2 || ((q.1.length : Int) == (n.out.length : Int))) = true := h
   have h2 : q.2 = false ∨ (q.1.length : Int) = (n.out.length : Int) := by simpa using h
   have h : q.2 = false ∨ q.1.length = n.out.length := h2.imp id (fun e => by omega)
   rw [if_pos h] at hm
   refine HR.region ?_
   repeat' (first | refine zn ?_ | refine HL.callB fn83 I I (fun w1 _ => rlose_any { V with ou := (a, c) } { n with out := q.1 } w1 hlo) ?_ | apply zb ?_ ?_ | exact zc | (refine zi fun hb => ?_; try simp at hb) | intro (bk : Nat))
   refine hj () _ _ trivial ⟨I, I, I, trivial⟩ ?_
   rw [hm]
   exact Ent.pick [1, 3, 0] I I
  ·have h : (!q.2 || ((q.1.length : Int) == (n.out.length : Int))) = false := h
   have h2 : ¬ (q.2 = false ∨ (q.1.length : Int) = (n.out.length : Int)) := by simpa using h
   have h : ¬ (q.2 = false ∨ q.1.length = n.out.length) := fun e => h2 (e.imp id (fun e => by omega))
   rw [if_neg h] at hm
   refine HR.skip ?_
   refine hj () _ _ trivial ⟨I, I, I, trivial⟩ ?_
   rw [hm]
   exact Ent.pick [1, 3, 0] I I
 repeat' (first | refine zh ?_ | intro (bk : Nat))
 refine HR.ret Tryz.func47 I [_, _] (fun w hw => ⟨⟨_, rfl, loadVarR hw 0 I I I I rfl⟩, rfl, trivial⟩) ?_
 exact fun w' hw => ⟨(a, c), rfl, trivial, hw.pick [2] I rfl⟩
theorem rdeliver_any (V : NV) (n : Nd) (s : Int) (t : By) (B0 : Base) (w : World) (hw0 : Sat B0 [cDe (sv V.ib n.inbox.length) n.inbox] w) (hl : n.inbox.length ≤ 1000) (hlo : 0 ≤ n.lost ∧ n.lost ≤ maxTick) :
  Calls Tryz.prog 46 #[.agg ⟨ndC V n⟩, .int .i64 s, str t] w fun e w' => ∃ x : SV, e = .returned (.agg ⟨ndC { V with ib := x } (deliver n ⟨s, t⟩)⟩) ∧ True ∧ Sat ⟨w, feet [cDe (sv V.ib n.inbox.length) n.inbox]⟩ [cDe (sv x (deliver n ⟨s, t⟩).inbox.length) (deliver n ⟨s, t⟩).inbox] w' := by
 refine calls_hrW [cDe (sv V.ib n.inbox.length) n.inbox] (hw0) Tryz.func46 I (Nat.le_of_ble_eq_true I) ?_
 refine HR.sub (σ' := [(0, .agg ⟨ndC V n⟩), (1, .int .i64 s), (2, str t)]) ⟨I, I, I, trivial⟩ ?_
 repeat' (first | refine zh ?_ | intro (bk : Nat))
 refine HR.cond I (fun h => ?_) (fun h => ?_)
 ·have h : n.inbox.length ≥ 256 := by have := of_decide_eq_true h; omega
  have e : deliver n ⟨s, t⟩ = lose n := by unfold deliver; rw [if_pos h]
  rw [e]
  repeat' (first | refine zh ?_ | refine HL.callB fn83 I I (fun w1 _ => rlose_any V n w1 hlo) ?_ | intro (bk : Nat))
  refine HR.ret Tryz.func46 I [_] (fun w hw => ⟨⟨_, rfl, loadVarR hw 0 I I I I rfl⟩, trivial⟩) ?_
  exact fun w' hw => ⟨V.ib, rfl, trivial, hw.pick [2] I rfl⟩
 ·have h : ¬ n.inbox.length ≥ 256 := by have := of_decide_eq_false h; omega
  have e : deliver n ⟨s, t⟩ = { n with inbox := n.inbox ++ [⟨s, t⟩] } := by unfold deliver; rw [if_neg h]
  rw [e]
  repeat' (first | refine zh ?_ | intro (bk : Nat))
  refine HL.bslice elemDe I I I I I (by decide) (by decide) ?_
  intro va
  refine HL.appR 3 I elemDe (Rd.own 0 I) I I I I (allOne_spec I) (by omega) (by omega) ?_
  intro v2
  refine HL.shape 3 I fun a c hv => ?_
  subst hv
  repeat' (first | refine zh ?_ | intro (bk : Nat))
  have hl2 : n.inbox.length + 1 = (n.inbox ++ [(⟨s, t⟩ : De)]).length := by simp
  have hc : cellsOf deC n.inbox ++ deC ⟨s, t⟩ = cellsOf deC (n.inbox ++ [⟨s, t⟩]) := by rw [cellsOf_app]; rfl
  refine HR.ret Tryz.func46 I [_] (fun w hw => ⟨⟨_, rfl, loadVarR hw 1 I I I I rfl⟩, trivial⟩) ?_
  refine fun w' hw => ⟨(a, c), ?_, trivial, ?_⟩
  ·show _ = Ending.returned (.agg ⟨ndC { V with ib := (a, c) } { n with inbox := n.inbox ++ [⟨s, t⟩] }⟩)
   show Ending.returned (.agg ⟨[_, _, _, _, _, _, _, _, _, _, .slice a (n.inbox.length + 1) c, _, _]⟩) = Ending.returned (.agg ⟨[_, _, _, _, _, _, _, _, _, _, .slice a (n.inbox ++ [(⟨s, t⟩ : De)]).length c, _, _]⟩)
   rw [← hl2]
  ·have w1 : Sat _ [ownC (.slice a (n.inbox.length + 1) c) 70 2 (n.inbox.length + 1) (cellsOf deC n.inbox ++ deC ⟨s, t⟩)] w' := hw.pick [3] I I
   rw [hl2, hc] at w1
   exact w1
end Go.Proofs.YtgdgclmkpoaagaaGreat
namespace Go.Proofs.YtgdgclmkpoaagaaGreat
open Go.GX Go.RowKit
attribute [local irreducible] Calls Run RunL RunQ RunD HR HL HD blkC ownC Rd
open Nd
theorem fn67 : IsFn Tryz.prog 67 := ⟨⟨_, _, Tryz.func67, rfl, by decide⟩⟩
end Go.Proofs.YtgdgclmkpoaagaaGreat
namespace Go.Proofs.YtgdgclmkpoaagaaGreat
open Go.GX Go.RowKit
attribute [local irreducible] Calls Run RunL RunQ RunD HR HL HD blkC ownC Rd
open Nd
theorem tw_at {p : Int → Bool} : ∀ {l : List Int} {k : Nat}, k ≤ l.length → (∀ j a, j < k → l[j]? = some a → p a = true) → (∀ a, l[k]? = some a → p a = false) → l.takeWhile p = l.take k ∧ l.dropWhile p = l.drop k
 | [], k, hk, _, _ => by
  have : k = 0 := by simpa using hk
  subst this; exact ⟨rfl, rfl⟩
 | x :: l, 0, _, _, h2 => by
  have hx := h2 x I
  rw [List.takeWhile_cons_of_neg (by rw [hx]; decide), List.dropWhile_cons_of_neg (by rw [hx]; decide)]
  exact ⟨rfl, rfl⟩
 | x :: l, k + 1, hk, h1, h2 => by
  have hx := h1 0 x (Nat.succ_pos _) I
  obtain ⟨e1, e2⟩ := tw_at (l := l) (k := k) (by simpa using hk) (fun j a hj ha => h1 (j + 1) a (by omega) ha) (fun a ha => h2 a ha)
  rw [List.takeWhile_cons_of_pos hx, List.dropWhile_cons_of_pos hx, e1, e2]
  exact ⟨rfl, rfl⟩
theorem child_at {l : List Int} {c : Int} {k : Nat} (ha : Asc id l) (hk : k ≤ l.length) (h1 : ∀ j a, j < k → l[j]? = some a → a < c) (h2 : ∀ a, l[k]? = some a → ¬ a < c) : child l c = if l[k]? = some c then l else l.take k ++ c :: l.drop k := by
 obtain ⟨e1, e2⟩ := tw_at (p := fun x => decide (x < c)) hk (fun j a hj hja => decide_eq_true (h1 j a hj hja)) (fun a hka => decide_eq_false (h2 a hka))
 unfold child
 rw [e1, e2]
 have hmem : c ∈ l ↔ l[k]? = some c := by
  constructor
  ·intro h
   obtain ⟨j, hj⟩ := List.getElem?_of_mem h
   rcases Nat.lt_trichotomy j k with h3 | h3 | h3
   ·exact absurd (h1 j c h3 hj) (Int.lt_irrefl c)
   ·rw [← h3]; exact hj
   ·obtain ⟨x, hx⟩ := getSome (show k < l.length by have := (List.getElem?_eq_some_iff.1 hj).1; omega)
    have h4 : x < c := ha.lt h3 hx hj
    exact absurd h4 (h2 x hx)
  ·exact fun h => List.mem_of_getElem? h
 by_cases h : c ∈ l
 ·rw [if_pos h, if_pos (hmem.1 h)]
 ·rw [if_neg h, if_neg fun e => h (hmem.2 e)]
theorem iC_one (a : Int) : allOne (iC a) = true := rfl
theorem rchild_any (l : List Int) (c : Int) (v : Value) (B0 : Base) (w : World) (hw0 : Sat B0 [cI v l] w) (hl : l.length ≤ 1000) (ha : Asc id l) :
  Calls Tryz.prog 67 #[v, .int .i64 c] w fun e w' => ∃ r : Value, e = .returned r ∧ True ∧ Sat ⟨w, feet [cI v l]⟩ [cI r (child l c)] w' := by
 refine calls_hrW [cI v l] (hw0) Tryz.func67 I (Nat.le_of_ble_eq_true I) ?_
 refine HR.sub (σ' := [(0, v), (1, .int .i64 c)]) ⟨I, I, trivial⟩ ?_
 repeat' (first | refine zh ?_ | intro (bk : Nat))
 refine HR.nilC 3 1 ?_
 refine HR.joinI (ι := Nat × Value) (fun x => x.1 ≤ l.length ∧ (∀ j a, j < x.1 → l[j]? = some a → a < c) ∧ ∀ a, l[x.1]? = some a → ¬ a < c) (fun x => [(0, v), (1, .int .i64 c), (5, x.2), (6, .int .i64 (x.1 : Int))]) (fun x => [cI x.2 (l.take x.1), cI v l]) (fun x hx => ?_) (fun hj => ?_)
 rotate_left
 ·refine HR.loop (ι := Nat × Value) (fun x => x.1 ≤ l.length ∧ ∀ j a, j < x.1 → l[j]? = some a → a < c) (fun x => [(0, v), (1, .int .i64 c), (5, x.2), (6, .int .i64 (x.1 : Int))]) (fun x => [cI x.2 (l.take x.1), cI v l]) (fun x => l.length - x.1) (0, .slice none 0 0) ⟨Nat.zero_le _, fun j a hj => absurd hj (Nat.not_lt_zero _)⟩ ⟨I, I, I, I, trivial⟩ Ent.refl ?_
  rintro ⟨k, o⟩ ⟨hk, hg⟩ ih
  have hk : k ≤ l.length := hk
  have hg : ∀ j a, j < k → l[j]? = some a → a < c := hg
  refine HR.ctl I ?_
  refine HR.region ?_
  repeat' (first | refine zn ?_ | refine HL.lenR (Rd.own 1 I) I I I ?_ | intro (bk : Nat))
  refine HL.split 11 I (fun hb => ?_) (fun hb => ?_)
  ·have hlt : k < l.length := by have h1 : (k : Int) < (l.length : Int) := of_decide_eq_true hb; omega
   obtain ⟨x, hx⟩ := getSome hlt
   repeat' (first | refine zn ?_ | refine HL.idxR (Rd.own 1 I) elemI k I I I I hlt ?_ | refine HL.loadI (Rd.own 1 I) I I I I (cellsOf_get1 hx) ?_ | intro (bk : Nat))
   refine HR.cond I (fun h2 => ?_) (fun h2 => ?_)
   ·have h2 : x < c := of_decide_eq_true h2
    repeat' (first | refine zh ?_ | refine HL.idxR (Rd.own 1 I) elemI k I I I I hlt ?_ | refine HL.loadI (Rd.own 1 I) I I I I (cellsOf_get1 hx) ?_ | intro (bk : Nat))
    refine HL.bslice elemI I I I I I (by decide) (by decide) ?_
    intro va
    refine HL.appR 1 I elemI (Rd.own 0 I) I I I I (allOne_spec I) (by show ((l.take k).length + 1) * 8 ≤ _; rw [List.length_take]; omega) (by show (l.take k).length + 1 ≤ _; rw [List.length_take]; omega) ?_
    intro v2
    repeat' (first | refine zh ?_ | intro (bk : Nat))
    refine ih (k + 1, v2) _ _ ⟨hlt, fun j a hj hja => ?_⟩ (by show l.length - (k + 1) < l.length - k; omega) ⟨I, I, I, I, trivial⟩ ?_
    ·by_cases hjk : j = k
     ·subst hjk; rw [hx] at hja; cases hja; exact h2
     ·have hj : j < k + 1 := hj
      exact hg j a (by omega) hja
    ·show Ent _ _ [ownC v2 3 1 (l.take (k + 1)).length (cellsOf iC (l.take (k + 1))), cI v l]
     rw [take_succ_get hx, List.length_append, cellsOf_app]
     exact Ent.pick [1, 2] I I
   ·have h2 : ¬ x < c := of_decide_eq_false h2
    refine HR.exit I ?_
    exact hj (k, o) _ _ ⟨hk, hg, fun a hka => by have hka : l[k]? = some a := hka; rw [hx] at hka; cases hka; exact h2⟩ ⟨I, I, I, I, trivial⟩ Ent.refl
  ·have hlt : ¬ k < l.length := by have h1 : ¬ (k : Int) < (l.length : Int) := of_decide_eq_false hb; omega
   repeat' (first | refine zn ?_ | intro (bk : Nat))
   refine HR.condF I ?_
   refine HR.exit I ?_
   exact hj (k, o) _ _ ⟨hk, hg, fun a hka => absurd (List.getElem?_eq_some_iff.1 hka).1 hlt⟩ ⟨I, I, I, I, trivial⟩ Ent.refl
 obtain ⟨k, o⟩ := x
 obtain ⟨hk, h1, h2⟩ := hx
 have hk : k ≤ l.length := hk
 have hsp := child_at ha hk h1 h2
 rw [hsp]
 have htk : (l.take k).length = k := by rw [List.length_take]; omega
 refine HR.ctl I ?_
 refine HR.join (ι := Unit) (fun _ => True) (fun _ => [(0, v), (1, .int .i64 c), (5, o), (6, .int .i64 (k : Int)), (39, .bool (decide (l[k]? = some c)))]) (fun _ => [cI o (l.take k), cI v l]) (fun _ _ => ?_) (fun hj => ?_)
 rotate_left
 ·refine HR.region ?_
  repeat' (first | refine zn ?_ | refine HL.lenR (Rd.own 1 I) I I I ?_ | intro (bk : Nat))
  refine HL.split 32 I (fun hb => ?_) (fun hb => ?_)
  ·have hlt : k < l.length := by have h1 : (k : Int) < (l.length : Int) := of_decide_eq_true hb; omega
   obtain ⟨x, hx⟩ := getSome hlt
   repeat' (first | refine zn ?_ | refine HL.idxR (Rd.own 1 I) elemI k I I I I hlt ?_ | refine HL.loadI (Rd.own 1 I) I I I I (cellsOf_get1 hx) ?_ | intro (bk : Nat))
   refine hj () _ _ trivial ⟨rfl, rfl, rfl, rfl, ?_, trivial⟩ Ent.refl
   show some (Value.bool (x == c)) = some (Value.bool (decide (l[k]? = some c)))
   rw [hx]
   by_cases e : x = c
   ·subst e; simp
   ·simp [e]
  ·have hlt : ¬ k < l.length := by have h1 : ¬ (k : Int) < (l.length : Int) := of_decide_eq_false hb; omega
   repeat' (first | refine zn ?_ | intro (bk : Nat))
   refine hj () _ _ trivial ⟨rfl, rfl, rfl, rfl, ?_, trivial⟩ Ent.refl
   show some (Value.bool false) = some (Value.bool (decide (l[k]? = some c)))
   rw [List.getElem?_eq_none (by omega)]; rfl
 refine HR.cond I (fun h3 => ?_) (fun h3 => ?_)
 ·have h3 : l[k]? = some c := of_decide_eq_true h3
  rw [if_pos h3]
  repeat' (first | refine zh ?_ | intro (bk : Nat))
  refine HR.ret Tryz.func67 I [_] (fun _ _ => ⟨I, trivial⟩) ?_
  exact fun w' hw => ⟨v, rfl, trivial, hw.pick [1] I rfl⟩
 have h3 : ¬ l[k]? = some c := of_decide_eq_false h3
 rw [if_neg h3]
 repeat' (first | refine zh ?_ | intro (bk : Nat))
 refine HL.bslice elemI I I I I I (by decide) (by decide) ?_
 intro va
 refine HL.appR 1 I elemI (Rd.own 0 I) I I I I (allOne_spec I) (by omega) (by omega) ?_
 intro v2
 have hcl : (cellsOf iC l).length = l.length * 1 := cellsOf_len iC_len _
 repeat' (first | refine zh ?_ | refine HL.lenR (Rd.own 2 I) I I I ?_ | intro (bk : Nat))
 refine HL.subI (sz := 1) k l.length (Rd.own 2 I) I I I I (.inr ⟨_, _, _, rfl, rfl, rfl⟩) (.inl ⟨rfl, rfl⟩) hk (Nat.le_refl _) ?_
 refine HL.appR 1 I elemI (Rd.sub (sz := 1) (Rd.own 2 I) hcl hk (Nat.le_refl _)) I I I (by rw [List.length_take, List.length_drop, hcl]; omega) (fun u hu => one_allcells iC_one _ u (List.mem_of_mem_drop (List.mem_of_mem_take hu))) (by omega) (by omega) ?_
 intro v3
 repeat' (first | refine zh ?_ | intro (bk : Nat))
 refine HR.ret Tryz.func67 I [_] (fun _ _ => ⟨I, trivial⟩) ?_
 refine fun w' hw => ⟨v3, rfl, trivial, ?_⟩
 refine Ent.own0 ?_ ?_ w' (hw.pick [1] I I)
 ·rw [List.length_append, List.length_cons, List.length_drop, htk]; omega
 ·rw [cellsOf_app, cellsOf_drop iC_len, List.take_of_length_le (l := cellsOf iC (l.drop k)) (by rw [cellsOf_len iC_len, List.length_drop]; omega), List.append_assoc]; rfl
end Go.Proofs.YtgdgclmkpoaagaaGreat
