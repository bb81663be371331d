/- A part of the proof: contracts of the program's functions. Conditions: none. -/
import Derived.Carry
import Derived.Deep.MidRow
import Derived.Deep.Quiet
import Derived.Laws.IdiomRangeMap
import Derived.Laws.MakeOwn
import Derived.Laws.StructEq
import Derived.Laws.Tables
import Derived.Lib.AppendStr
import Derived.Lib.AppendZerosOnto
import Derived.Lib.OthersKept
import Derived.Lib.Overlaps
import Derived.Lib.OwnBridge
import Derived.Lib.SlicesCompact
import Derived.MapKept
import Derived.Orders
import Derived.OrdersHeld
import Derived.Scope
import Derived.Sort.Grow
import Derived.StillTail
import Derived.Test.YtgdgclmkpoaagaaGreatProg
import Derived.WalkKit
import Derived.WalkLawsBesides
import Derived.WalkSpells
import Derived.Test.YtgdgclmkpoaagaaGreatGB1
import Derived.Test.YtgdgclmkpoaagaaGreatGB2
import Derived.Test.YtgdgclmkpoaagaaGreatGB3
import Derived.Test.YtgdgclmkpoaagaaGreatGB4
import Derived.Test.YtgdgclmkpoaagaaGreatGB5
import Derived.Test.YtgdgclmkpoaagaaGreatGB6
import Derived.Test.YtgdgclmkpoaagaaGreatGB7
set_option linter.unusedVariables false
set_option linter.unusedSectionVars false
set_option linter.unusedSimpArgs false
set_option maxRecDepth 100000
set_option maxHeartbeats 4000000
namespace Go.GX
open Go.RowKit
section
variable {P : Program} {f : FuncId} {N : Nat} {k : List Item} {σ : Store} {B : Base} {H H' F : List Chunk} {R : Ending → World → Prop} {ops l : List Oper} {o : Oper} {K : Act → World → Prop} {KQ : Act → Prop} {C : World → Prop}
 {d : Nat} {op : Op} {ty : TypeId} {pos : String} {af : Array Edge} {gd : Option (Nat × Bool)} {v u : Value} {w : World} {d' : Option Tmp} {p : List (Nat × Bool)} {i : Nat} {S : World → Prop}
theorem Rd.blk {b n : Nat} {T : TypeId} {cs : List Value} (i : Nat) (hi : nthC H i = some (blkC b cs T)) : Rd B H (.slice (some ⟨b, 0, none⟩) n n) cs n := by
 intro w hw
 have hb : Blk w b cs T := hw.nth hi
 refine ⟨.inr ⟨b, 0, n, rfl, fun j u hu => ?_⟩, _, _, rfl, Nat.le_refl _⟩
 rw [Nat.zero_add, hb.cell]; exact hu
theorem HR.exit {id : Nat} {k' : List Item} (he : exitTo id k = some k') (h : HR P f N k' σ B H R) : HR P f N (.code (.exit id) :: k) σ B H R := fun w hw => Run.exit he (h w hw)
end
end Go.GX
namespace Nd
open Go.GX Tp
def rbump (t : List Ro) (self : Int) : List Ro := match rat (rtab t self) (lim self) with
 | some r => if r.sq < 65534 then (rtab t self).set (rpos (rtab t self) (lim self)) ⟨r.dest, r.sq + 2, r.cost, r.nx⟩ else rtab t self
 | none => rtab t self
def mtick1 (s : Sn) : Sn := if s.wt > 0 then ⟨s.f, s.tr, s.wt - 1⟩ else s
def mtick (q : List Sn) : List Sn := (q.take 16).map mtick1
def pexp (l : List Pt) (now life : Int) : List Pt := (porder l).filter fun p => decide (tick now - p.si ≤ tick life)
def number (n : Nd) : Int := match rat n.table n.addr with
 | some r => r.sq
 | none => 0
def waits (n : Nd) (k : Int) : Bool := n.out.any fun x => x.f.kd == k
def stale (x : Sn) : Bool := (x.f.kd == 2) && !(x.f.dst == 255) && decide (x.tr > 0)
def asleep (n : Nd) (now : Int) : Nd := ((n.out.filter stale).map (·.f)).foldl (fun n f => box n f now) { n with out := n.out.filter fun x => !stale x }
def beaconF (n : Nd) : Fr := ⟨1, n.addr, 255, n.addr, 255, number n, 0, false, renc n.table⟩
def pollF (n : Nd) : Fr := ⟨3, n.addr, n.parent, n.addr, n.parent, number n, 0, true, []⟩
def bumped (n : Nd) : Nd := { n with table := rbump n.table n.addr }
def beacon (n : Nd) : Nd := if waits n 1 = false ∧ n.out.length < 16 then (queue (bumped n) (beaconF (bumped n))).1 else bumped n
def poll (n : Nd) : Nd := if waits n 3 = false then (queue (bumped n) (pollF (bumped n))).1 else bumped n
def tickN (n : Nd) (now : Int) : Nd :=
 let s := order n
 let a := asleep { s with out := mtick s.out, boxes := bexp s.boxes (tick now) 120, parts := pexp s.parts (tick now) 120 } (tick now)
 let b := if a.poll = 0 ∧ tick now % 8 = a.addr % 8 then beacon a else a
 if b.poll > 0 ∧ b.parent ≠ 255 ∧ tick now % b.poll = 0 then poll b else b
end Nd
namespace Nd
open Go.GX Tp
theorem Tab.get {t : List Ro} {self : Int} (h : Tab self t) : ∃ r, rat t self = some r ∧ r.dest = self ∧ r.cost = 0 ∧ r.nx = self := by
 obtain ⟨r, hr, he⟩ := List.any_eq_true.1 h.own
 obtain ⟨x, hx⟩ : ∃ x, rat t self = some x := by
  cases hf : rat t self with
  | some x => exact ⟨x, rfl⟩
  | none => exact absurd he (by simpa using List.find?_eq_none.1 hf r hr)
 have hxd : x.dest = self := by simpa using List.find?_some hx
 have hform := h.form x (List.mem_of_find?_eq_some hx)
 rw [rform, if_pos hxd] at hform
 simp only [Bool.not_eq_false', Bool.and_eq_true, beq_iff_eq] at hform
 exact ⟨x, hx, hxd, hform.1, hform.2⟩
end Nd
namespace Go.Proofs.YtgdgclmkpoaagaaGreat
open Go.GX Go.RowKit
attribute [local irreducible] Calls Run RunL RunQ RunD HR HL HD blkC ownC Rd
open Nd
theorem fn140 : IsFn Tryz.prog 140 := ⟨⟨_, _, Tryz.func140, rfl, by decide⟩⟩
theorem fn141 : IsFn Tryz.prog 141 := ⟨⟨_, _, Tryz.func141, rfl, by decide⟩⟩
theorem fn142 : IsFn Tryz.prog 142 := ⟨⟨_, _, Tryz.func142, rfl, by decide⟩⟩
theorem fn65 : IsFn Tryz.prog 65 := ⟨⟨_, _, Tryz.func65, rfl, by decide⟩⟩
theorem fn45 : IsFn Tryz.prog 45 := ⟨⟨_, _, Tryz.func45, rfl, by decide⟩⟩
theorem fn58 : IsFn Tryz.prog 58 := ⟨⟨_, _, Tryz.func58, rfl, by decide⟩⟩
theorem fn63 : IsFn Tryz.prog 63 := ⟨⟨_, _, Tryz.func63, rfl, by decide⟩⟩
theorem fn171 : IsFn Tryz.prog 171 := ⟨⟨_, _, Tryz.func171, rfl, by decide⟩⟩
theorem fn169 : IsFn Tryz.prog 169 := ⟨⟨_, _, Tryz.func169, rfl, by decide⟩⟩
theorem address_any (n : Int) (w : World) : Calls Tryz.prog 45 #[.int .i64 n] w fun e w' => e = .returned (.bool (Tp.okN n)) ∧ Below w.heap.size w w' := by
 refine calls_hr Tryz.func45 I (Nat.le_of_ble_eq_true I) ?_
 refine HR.sub (σ' := [(0, .int .i64 n)]) ⟨I, trivial⟩ ?_
 repeat' (first | refine zh ?_ | apply zb ?_ ?_ | exact zc | (refine zi fun hb => ?_; try simp at hb) | intro (bk : Nat))
 refine HR.ret Tryz.func45 I [_] (fun _ _ => ⟨I, trivial⟩) ?_
 exact fun w' hw => ⟨rfl, hw.belowB⟩
theorem rrfin_any (r : Ro) (w : World) : Calls Tryz.prog 142 #[.agg ⟨roC r⟩] w fun e w' => e = .returned (.bool (fin r)) ∧ Below w.heap.size w w' := by
 refine calls_hr Tryz.func142 I (Nat.le_of_ble_eq_true I) ?_
 refine HR.sub (σ' := [(0, .agg ⟨roC r⟩)]) ⟨I, trivial⟩ ?_
 repeat' (first | refine zh ?_ | apply zb ?_ ?_ | exact zc | (refine zi fun hb => ?_; try simp at hb) | intro (bk : Nat))
 refine HR.ret Tryz.func142 I [_] (fun _ _ => ⟨I, trivial⟩) ?_
 exact fun w' hw => ⟨rfl, hw.belowB⟩
theorem rrlim_any (n : Int) (w : World) : Calls Tryz.prog 140 #[.int .i64 n] w fun e w' => e = .returned (.int .i64 (lim n)) ∧ Below w.heap.size w w' := by
 refine calls_hr Tryz.func140 I (Nat.le_of_ble_eq_true I) ?_
 refine HR.sub (σ' := [(0, .int .i64 n)]) ⟨I, trivial⟩ ?_
 repeat' (first | refine zh ?_ | apply zb ?_ ?_ | exact zc | (refine zi fun hb => ?_; try simp at hb) | intro (bk : Nat))
 refine HR.cond I (fun h => ?_) (fun h => ?_)
 ·have h : n < 0 := of_decide_eq_true h
  repeat' (first | refine zh ?_ | apply zb ?_ ?_ | exact zc | (refine zi fun hb => ?_; try simp at hb) | intro (bk : Nat))
  refine HR.ret Tryz.func140 I [_] (fun _ _ => ⟨I, trivial⟩) ?_
  exact fun w' hw => ⟨by rw [show lim n = 0 by unfold lim clamp; omega]; rfl, hw.belowB⟩
 have h : ¬ n < 0 := of_decide_eq_false h
 repeat' (first | refine zh ?_ | apply zb ?_ ?_ | exact zc | (refine zi fun hb => ?_; try simp at hb) | intro (bk : Nat))
 refine HR.cond I (fun h1 => ?_) (fun h1 => ?_)
 ·have h1 : n > 250 := of_decide_eq_true h1
  repeat' (first | refine zh ?_ | apply zb ?_ ?_ | exact zc | (refine zi fun hb => ?_; try simp at hb) | intro (bk : Nat))
  refine HR.ret Tryz.func140 I [_] (fun _ _ => ⟨I, trivial⟩) ?_
  exact fun w' hw => ⟨by rw [show lim n = 250 by unfold lim clamp; omega]; rfl, hw.belowB⟩
 ·have h1 : ¬ n > 250 := of_decide_eq_false h1
  repeat' (first | refine zh ?_ | apply zb ?_ ?_ | exact zc | (refine zi fun hb => ?_; try simp at hb) | intro (bk : Nat))
  refine HR.ret Tryz.func140 I [_] (fun _ _ => ⟨I, trivial⟩) ?_
  exact fun w' hw => ⟨by rw [show lim n = n by unfold lim clamp; omega]; rfl, hw.belowB⟩
theorem rrusable_any (r : Ro) (w : World) : Calls Tryz.prog 141 #[.agg ⟨roC r⟩] w fun e w' => e = .returned (.bool (usable r)) ∧ Below w.heap.size w w' := by
 refine calls_hr Tryz.func141 I (Nat.le_of_ble_eq_true I) ?_
 refine HR.sub (σ' := [(0, .agg ⟨roC r⟩)]) ⟨I, trivial⟩ ?_
 repeat' (first | refine zh ?_ | apply zb ?_ ?_ | exact zc | (refine zi fun hb => ?_; try simp at hb) | intro (bk : Nat))
 refine HR.cond I (fun h => ?_) (fun h => ?_)
 ·have h : (((decide (r.dest < 0) || decide (r.dest > 250)) || decide (r.sq < 0)) || decide (r.sq > 65535)) = true := h
  repeat' (first | refine zh ?_ | apply zb ?_ ?_ | exact zc | (refine zi fun hb => ?_; try simp at hb) | intro (bk : Nat))
  refine HR.ret Tryz.func141 I [_] (fun _ _ => ⟨I, trivial⟩) ?_
  refine fun w' hw => ⟨?_, hw.belowB⟩
  have : usable r = false := by
   rw [← Bool.not_eq_true]
   simp only [usable, Tp.okN, Bool.and_eq_true, Bool.or_eq_true, Bool.not_eq_true', Bool.or_eq_false_iff, decide_eq_true_eq, decide_eq_false_iff_not] at h ⊢
   omega
  rw [this]; rfl
 ·have h : (((decide (r.dest < 0) || decide (r.dest > 250)) || decide (r.sq < 0)) || decide (r.sq > 65535)) = false := h
  have h' := h
  simp only [Bool.or_eq_false_iff, decide_eq_false_iff_not] at h'
  have h0 : 0 ≤ r.sq := by omega
  repeat' (first | refine zh ?_ | refine HL.callB fn142 I I (fun w _ => rrfin_any r w) ?_ | apply zb ?_ ?_ | exact zc | (refine zi fun hb => ?_; try simp at hb) | intro (bk : Nat))
  refine HR.ret Tryz.func141 I [_] (fun _ _ => ⟨I, trivial⟩) ?_
  refine fun w' hw => ⟨?_, hw.belowB⟩
  have : usable r = ((fin r && (r.sq % 2 == 0)) || (r.cost == 255)) := by
   unfold usable Tp.okN
   have e1 : decide (r.sq < 0) = false := decide_eq_false (by omega)
   have e2 : decide (r.sq > 65535) = false := decide_eq_false (by omega)
   have e3 : decide (r.dest ≥ 0) = true := decide_eq_true (by omega)
   have e4 : decide (r.dest ≤ 250) = true := decide_eq_true (by omega)
   rw [e1, e2, e3, e4]; rfl
  rw [this]; rfl
theorem rrnew_any (n : Int) (w : World) : Calls Tryz.prog 65 #[.int .i64 n] w fun e w' => ∃ v, e = .returned v ∧ Sat (base w) [ownC v 79 4 (rnew n).length (cellsOf roC (rnew n))] w' := by
 refine calls_hr Tryz.func65 I (Nat.le_of_ble_eq_true I) ?_
 refine HR.sub (σ' := [(0, .int .i64 n)]) ⟨I, trivial⟩ ?_
 repeat' (first | refine zh ?_ | refine HL.callB fn140 I I (fun w _ => rrlim_any n w) ?_ | refine HL.bslice elemRo I I I I I (by decide) (by decide) ?_ | apply zb ?_ ?_ | exact zc | (refine zi fun hb => ?_; try simp at hb) | intro (bk : Nat))
 intro v
 repeat' (first | refine zh ?_ | apply zb ?_ ?_ | exact zc | (refine zi fun hb => ?_; try simp at hb) | intro (bk : Nat))
 refine HR.ret Tryz.func65 I [_] (fun _ _ => ⟨I, trivial⟩) ?_
 exact fun w' hw => ⟨v, rfl, hw⟩
theorem rclamp_any (n lo hi : Int) (hlh : lo ≤ hi) (w : World) : Calls Tryz.prog 63 #[.int .i64 n, .int .i64 lo, .int .i64 hi] w fun e w' => e = .returned (.int .i64 (clamp n lo hi)) ∧ Below w.heap.size w w' := by
 refine calls_hr Tryz.func63 I (Nat.le_of_ble_eq_true I) ?_
 refine HR.sub (σ' := [(0, .int .i64 n), (1, .int .i64 lo), (2, .int .i64 hi)]) ⟨I, I, I, trivial⟩ ?_
 repeat' (first | refine zh ?_ | apply zb ?_ ?_ | exact zc | (refine zi fun hb => ?_; try simp at hb) | intro (bk : Nat))
 refine HR.cond I (fun h => ?_) (fun h => ?_)
 ·have h : (decide (hi < lo) || decide (n > hi)) = true := h
  simp only [Bool.or_eq_true, decide_eq_true_eq] at h
  repeat' (first | refine zh ?_ | apply zb ?_ ?_ | exact zc | (refine zi fun hb => ?_; try simp at hb) | intro (bk : Nat))
  refine HR.ret Tryz.func63 I [_] (fun _ _ => ⟨I, trivial⟩) ?_
  exact fun w' hw => ⟨by rw [show clamp n lo hi = hi by unfold clamp; omega]; rfl, hw.belowB⟩
 have h : (decide (hi < lo) || decide (n > hi)) = false := h
 simp only [Bool.or_eq_false_iff, decide_eq_false_iff_not] at h
 repeat' (first | refine zh ?_ | apply zb ?_ ?_ | exact zc | (refine zi fun hb => ?_; try simp at hb) | intro (bk : Nat))
 refine HR.cond I (fun h1 => ?_) (fun h1 => ?_)
 ·have h1 : n < lo := of_decide_eq_true h1
  repeat' (first | refine zh ?_ | apply zb ?_ ?_ | exact zc | (refine zi fun hb => ?_; try simp at hb) | intro (bk : Nat))
  refine HR.ret Tryz.func63 I [_] (fun _ _ => ⟨I, trivial⟩) ?_
  exact fun w' hw => ⟨by rw [show clamp n lo hi = lo by unfold clamp; omega]; rfl, hw.belowB⟩
 ·have h1 : ¬ n < lo := of_decide_eq_false h1
  repeat' (first | refine zh ?_ | apply zb ?_ ?_ | exact zc | (refine zi fun hb => ?_; try simp at hb) | intro (bk : Nat))
  refine HR.ret Tryz.func63 I [_] (fun _ _ => ⟨I, trivial⟩) ?_
  exact fun w' hw => ⟨by rw [show clamp n lo hi = n by unfold clamp; omega]; rfl, hw.belowB⟩
theorem rtick_any (n : Int) (w : World) : Calls Tryz.prog 58 #[.int .i64 n] w fun e w' => e = .returned (.int .i64 (tick n)) ∧ Below w.heap.size w w' := by
 refine calls_hr Tryz.func58 I (Nat.le_of_ble_eq_true I) ?_
 refine HR.sub (σ' := [(0, .int .i64 n)]) ⟨I, trivial⟩ ?_
 repeat' (first | refine zh ?_ | refine HL.callB fn63 I I (fun w _ => rclamp_any n 0 1099511627776 (by decide) w) ?_ | apply zb ?_ ?_ | exact zc | (refine zi fun hb => ?_; try simp at hb) | intro (bk : Nat))
 refine HR.ret Tryz.func58 I [_] (fun _ _ => ⟨I, trivial⟩) ?_
 exact fun w' hw => ⟨rfl, hw.belowB⟩
theorem r15tick_any (n : Int) (w : World) : Calls Tryz.prog 171 #[.int .i64 n] w fun e w' => e = .returned (.int .i64 (tick n)) ∧ Below w.heap.size w w' := by
 refine calls_hr Tryz.func171 I (Nat.le_of_ble_eq_true I) ?_
 refine HR.sub (σ' := [(0, .int .i64 n)]) ⟨I, trivial⟩ ?_
 repeat' (first | refine zh ?_ | apply zb ?_ ?_ | exact zc | (refine zi fun hb => ?_; try simp at hb) | intro (bk : Nat))
 refine HR.cond I (fun h => ?_) (fun h => ?_)
 ·have h : n < 0 := of_decide_eq_true h
  repeat' (first | refine zh ?_ | apply zb ?_ ?_ | exact zc | (refine zi fun hb => ?_; try simp at hb) | intro (bk : Nat))
  refine HR.ret Tryz.func171 I [_] (fun _ _ => ⟨I, trivial⟩) ?_
  exact fun w' hw => ⟨by rw [show tick n = 0 by unfold tick clamp maxTick; omega]; rfl, hw.belowB⟩
 have h : ¬ n < 0 := of_decide_eq_false h
 repeat' (first | refine zh ?_ | apply zb ?_ ?_ | exact zc | (refine zi fun hb => ?_; try simp at hb) | intro (bk : Nat))
 refine HR.cond I (fun h1 => ?_) (fun h1 => ?_)
 ·have h1 : n > 1099511627776 := of_decide_eq_true h1
  repeat' (first | refine zh ?_ | apply zb ?_ ?_ | exact zc | (refine zi fun hb => ?_; try simp at hb) | intro (bk : Nat))
  refine HR.ret Tryz.func171 I [_] (fun _ _ => ⟨I, trivial⟩) ?_
  exact fun w' hw => ⟨by rw [show tick n = 1099511627776 by unfold tick clamp maxTick; omega]; rfl, hw.belowB⟩
 ·have h1 : ¬ n > 1099511627776 := of_decide_eq_false h1
  repeat' (first | refine zh ?_ | apply zb ?_ ?_ | exact zc | (refine zi fun hb => ?_; try simp at hb) | intro (bk : Nat))
  refine HR.ret Tryz.func171 I [_] (fun _ _ => ⟨I, trivial⟩) ?_
  exact fun w' hw => ⟨by rw [show tick n = n by unfold tick clamp maxTick; omega]; rfl, hw.belowB⟩
theorem r13lim_any (n : Int) (w : World) : Calls Tryz.prog 169 #[.int .i64 n] w fun e w' => e = .returned (.int .i64 (tick n)) ∧ Below w.heap.size w w' := by
 refine calls_hr Tryz.func169 I (Nat.le_of_ble_eq_true I) ?_
 refine HR.sub (σ' := [(0, .int .i64 n)]) ⟨I, trivial⟩ ?_
 repeat' (first | refine zh ?_ | apply zb ?_ ?_ | exact zc | (refine zi fun hb => ?_; try simp at hb) | intro (bk : Nat))
 refine HR.cond I (fun h => ?_) (fun h => ?_)
 ·have h : n < 0 := of_decide_eq_true h
  repeat' (first | refine zh ?_ | apply zb ?_ ?_ | exact zc | (refine zi fun hb => ?_; try simp at hb) | intro (bk : Nat))
  refine HR.ret Tryz.func169 I [_] (fun _ _ => ⟨I, trivial⟩) ?_
  exact fun w' hw => ⟨by rw [show tick n = 0 by unfold tick clamp maxTick; omega]; rfl, hw.belowB⟩
 have h : ¬ n < 0 := of_decide_eq_false h
 repeat' (first | refine zh ?_ | apply zb ?_ ?_ | exact zc | (refine zi fun hb => ?_; try simp at hb) | intro (bk : Nat))
 refine HR.cond I (fun h1 => ?_) (fun h1 => ?_)
 ·have h1 : n > 1099511627776 := of_decide_eq_true h1
  repeat' (first | refine zh ?_ | apply zb ?_ ?_ | exact zc | (refine zi fun hb => ?_; try simp at hb) | intro (bk : Nat))
  refine HR.ret Tryz.func169 I [_] (fun _ _ => ⟨I, trivial⟩) ?_
  exact fun w' hw => ⟨by rw [show tick n = 1099511627776 by unfold tick clamp maxTick; omega]; rfl, hw.belowB⟩
 ·have h1 : ¬ n > 1099511627776 := of_decide_eq_false h1
  repeat' (first | refine zh ?_ | apply zb ?_ ?_ | exact zc | (refine zi fun hb => ?_; try simp at hb) | intro (bk : Nat))
  refine HR.ret Tryz.func169 I [_] (fun _ _ => ⟨I, trivial⟩) ?_
  exact fun w' hw => ⟨by rw [show tick n = n by unfold tick clamp maxTick; omega]; rfl, hw.belowB⟩
end Go.Proofs.YtgdgclmkpoaagaaGreat
namespace Nd
open Go.GX Tp
theorem ne_lim (n : Int) : (n != lim n) = !okN n := by
 rw [Bool.eq_iff_iff]
 simp only [bne_iff_ne, ne_eq, Bool.not_eq_true', okN, Bool.and_eq_false_iff, decide_eq_false_iff_not]
 unfold lim clamp; omega
def rlook (t : List Ro) (d : Int) : Int := match t.findIdx? (fun x => x.dest == d) with
 | some i => i
 | none => -1
theorem rlook_at {t : List Ro} {d : Int} {i : Nat} {x : Ro} (hx : t[i]? = some x) (hd : (x.dest == d) = true) (hno : ∀ j a, j < i → t[j]? = some a → (a.dest == d) = false) : rlook t d = i := by
 have : t.findIdx? (fun x => x.dest == d) = some i := by
  rw [List.findIdx?_eq_some_iff_getElem]
  obtain ⟨hl, rfl⟩ := List.getElem?_eq_some_iff.1 hx
  exact ⟨hl, hd, fun j hj => by rw [hno j _ hj (List.getElem?_eq_getElem (by omega))]; decide⟩
 unfold rlook; rw [this]
theorem rlook_none {t : List Ro} {d : Int} (hno : ∀ j a, j < t.length → t[j]? = some a → (a.dest == d) = false) : rlook t d = -1 := by
 have : t.findIdx? (fun x => x.dest == d) = none := by
  rw [List.findIdx?_eq_none_iff]
  intro x hx
  obtain ⟨j, hj⟩ := List.getElem?_of_mem hx
  exact hno j x (List.getElem?_eq_some_iff.1 hj).1 hj
 unfold rlook; rw [this]
theorem rlook_cases (t : List Ro) (d : Int) : (rlook t d = -1 ∧ rat t d = none) ∨ ∃ (i : Nat) (x : Ro), rlook t d = i ∧ t[i]? = some x ∧ x.dest = d ∧ rat t d = some x := by
 unfold rlook
 cases h : t.findIdx? (fun x => x.dest == d) with
 | none =>
  refine .inl ⟨rfl, List.find?_eq_none.2 fun x hx => ?_⟩
  have := List.findIdx?_eq_none_iff.1 h x hx
  simp [this]
 | some i =>
  obtain ⟨hl, hd, hno⟩ := List.findIdx?_eq_some_iff_getElem.1 h
  refine .inr ⟨i, t[i], rfl, List.getElem?_eq_getElem hl, by simpa using hd, find_first (List.getElem?_eq_getElem hl) hd fun j a hj ha => ?_⟩
  obtain ⟨hl', rfl⟩ := List.getElem?_eq_some_iff.1 ha
  simpa using hno j hj
end Nd
namespace Nd
open Go.GX Tp
theorem rbump_has {t : List Ro} {self : Int} {x : Ro} (hx : (rtab t self)[rpos (rtab t self) (lim self)]? = some x) (hd : x.dest = lim self) : rbump t self = if x.sq < 65534 then (rtab t self).set (rpos (rtab t self) (lim self)) ⟨x.dest, x.sq + 2, x.cost, x.nx⟩ else rtab t self := by
 have := ((rtab_tab t self).asc.pos_is hx hd).2
 unfold rbump rat; rw [this]
theorem rtab_get (t : List Ro) (self : Int) : ∃ x, (rtab t self)[rpos (rtab t self) (lim self)]? = some x ∧ x.dest = lim self ∧ rat (rtab t self) (lim self) = some x := by
 obtain ⟨x, h1, h2, _⟩ := (rtab_tab t self).get
 exact ⟨x, ((rtab_tab t self).asc.pos h1).1, h2, h1⟩
theorem rlook_asc {t : List Ro} (h : Asc (·.dest) t) {d : Int} {i : Nat} {x : Ro} (hx : t[i]? = some x) (hd : x.dest = d) : rpos t d = i ∧ rat t d = some x := h.pos_is hx hd
theorem map_part {α : Type} (f : α → α) {l : List α} {k : Nat} {x : α} (hx : l[k]? = some x) : ((l.take k).map f ++ l.drop k).set k (f x) = (l.take (k + 1)).map f ++ l.drop (k + 1) := by
 have hl : ((l.take k).map f).length = k := by
  have := (List.getElem?_eq_some_iff.1 hx).1
  simp; omega
 rw [drop_get hx, Nd.set_mid hl, take_succ_get hx]; simp
theorem map_part_same {α : Type} (f : α → α) {l : List α} {k : Nat} {x : α} (hx : l[k]? = some x) (hf : f x = x) : (l.take k).map f ++ l.drop k = (l.take (k + 1)).map f ++ l.drop (k + 1) := by
 rw [drop_get hx, take_succ_get hx]; simp [hf]
theorem map_part_get {α : Type} (f : α → α) {l : List α} {k : Nat} {x : α} (hx : l[k]? = some x) : ((l.take k).map f ++ l.drop k)[k]? = some x := by
 have hl : ((l.take k).map f).length = k := by
  have := (List.getElem?_eq_some_iff.1 hx).1
  simp; omega
 rw [drop_get hx]; exact get_mid hl
theorem map_part_len {α : Type} (f : α → α) (l : List α) (k : Nat) : ((l.take k).map f ++ l.drop k).length = l.length := by simp; omega
end Nd
namespace Go.Proofs.YtgdgclmkpoaagaaGreat
open Go.GX Go.RowKit
attribute [local irreducible] Calls Run RunL RunQ RunD HR HL HD blkC ownC Rd
open Nd
theorem fn64 : IsFn Tryz.prog 64 := ⟨⟨_, _, Tryz.func64, rfl, by decide⟩⟩
theorem fn143 : IsFn Tryz.prog 143 := ⟨⟨_, _, Tryz.func143, rfl, by decide⟩⟩
theorem fn159 : IsFn Tryz.prog 159 := ⟨⟨_, _, Tryz.func159, rfl, by decide⟩⟩
theorem fn136 : IsFn Tryz.prog 136 := ⟨⟨_, _, Tryz.func136, rfl, by decide⟩⟩
end Go.Proofs.YtgdgclmkpoaagaaGreat
namespace Go.Proofs.YtgdgclmkpoaagaaGreat
open Go.GX Go.RowKit
attribute [local irreducible] Calls Run RunL RunQ RunD HR HL HD blkC ownC Rd
open Nd
theorem r11find_any (t : List Ro) (d : Int) (v : Value) (w : World) (hv : Sl w v (cellsOf roC t) t.length) (hl : t.length ≤ 1000) :
  Calls Tryz.prog 143 #[v, .int .i64 d] w fun e w' => e = .returned (.int .i64 (rlook t d)) ∧ Below w.heap.size w w' := by
 refine calls_hr Tryz.func143 I (Nat.le_of_ble_eq_true I) ?_
 refine HR.sub (σ' := [(0, v), (1, .int .i64 d)]) ⟨I, I, trivial⟩ ?_
 repeat' (first | refine zh ?_ | apply zb ?_ ?_ | exact zc | (refine zi fun hb => ?_; try simp at hb) | intro (bk : Nat))
 refine HR.loop (ι := Nat) (fun k => k ≤ t.length ∧ ∀ j a, j < k → t[j]? = some a → (a.dest == d) = false) (fun k => [(0, v), (1, .int .i64 d), (5, .int .i64 (k : Int))]) (fun _ => []) (fun k => t.length - k) 0 ⟨Nat.zero_le _, fun j a hj => by omega⟩ ⟨I, I, I, trivial⟩ Ent.refl ?_
 rintro k ⟨hk, hg⟩ ih
 repeat' (first | refine zh ?_ | refine HL.lenR (Rd.arg hv) I I I ?_ | apply zb ?_ ?_ | exact zc | (refine zi fun hb => ?_; try simp at hb) | intro (bk : Nat))
 refine HR.cond I (fun h2 => ?_) (fun h2 => ?_)
 ·have hlt : k < t.length := by have := of_decide_eq_true h2; omega
  obtain ⟨x, hx⟩ := getSome hlt
  repeat' (first | refine zh ?_ | refine HL.idxR (Rd.arg hv) elemRo k I I I I hlt ?_ | refine HL.fieldE (Rd.arg hv) (by rw [cellsOf_len roC_len]; omega) I I I I I I ?_ | refine HL.loadI (Rd.arg hv) I I I I (cells_get roC_len hx (i := 0) I) ?_ | apply zb ?_ ?_ | exact zc | (refine zi fun hb => ?_; try simp at hb) | intro (bk : Nat))
  refine HR.cond I (fun h3 => ?_) (fun h3 => ?_)
  ·have h3 : (x.dest == d) = true := h3
   repeat' (first | refine zh ?_ | apply zb ?_ ?_ | exact zc | (refine zi fun hb => ?_; try simp at hb) | intro (bk : Nat))
   refine HR.ret Tryz.func143 I [_] (fun _ _ => ⟨I, trivial⟩) ?_
   exact fun w' hw => ⟨by rw [rlook_at hx h3 hg]; rfl, hw.belowB⟩
  ·have h3 : (x.dest == d) = false := h3
   repeat' (first | refine zh ?_ | apply zb ?_ ?_ | exact zc | (refine zi fun hb => ?_; try simp at hb) | intro (bk : Nat))
   refine ih (k + 1) _ _ ⟨hlt, fun j a hj ha => ?_⟩ (by omega) ⟨I, I, I, trivial⟩ (Ent.pick [] I I)
   by_cases hjk : j = k
   ·subst hjk; rw [hx] at ha; cases ha; exact h3
   ·exact hg j a (by omega) ha
 ·have hke : k = t.length := by have := of_decide_eq_false h2; omega
  subst hke
  repeat' (first | refine zh ?_ | apply zb ?_ ?_ | exact zc | (refine zi fun hb => ?_; try simp at hb) | intro (bk : Nat))
  refine HR.ret Tryz.func143 I [_] (fun _ _ => ⟨I, trivial⟩) ?_
  exact fun w' hw => ⟨by rw [rlook_none hg]; rfl, hw.belowB⟩
theorem rform_ref (self : Int) (x : Ro) : (((x.dest == self) && !((x.cost == 0) && (x.nx == self))) || ((x.dest != self) && ((x.cost == 0) || (x.nx == self)))) = rform self x := by
 unfold rform
 by_cases hd : x.dest = self
 ·rw [if_pos hd]; simp [hd]
 ·have e : (x.dest == self) = false := by simpa using hd
  rw [if_neg hd, e, bne, e]; rfl
theorem rrange_ref (x : Ro) : ((!usable x || (fin x && (x.nx != lim x.nx))) || (!fin x && (x.nx != 255))) = rrange x := by
 rw [ne_lim]; rfl
theorem r11check_any (t : List Ro) (self : Int) (v : Value) (w : World) (hv : Sl w v (cellsOf roC t) t.length) (hl : t.length ≤ 1000) :
  Calls Tryz.prog 64 #[v, .int .i64 self] w fun e w' => e = .returned (.int .i64 (rchk t self)) ∧ Below w.heap.size w w' := by
 refine calls_hr Tryz.func64 I (Nat.le_of_ble_eq_true I) ?_
 refine HR.sub (σ' := [(0, v), (1, .int .i64 self)]) ⟨I, I, trivial⟩ ?_
 repeat' (first | refine zh ?_ | refine HL.lenR (Rd.arg hv) I I I ?_ | apply zb ?_ ?_ | exact zc | (refine zi fun hb => ?_; try simp at hb) | intro (bk : Nat))
 refine HR.cond I (fun h => ?_) (fun h => ?_)
 ·have h : t.length > 24 := by have := of_decide_eq_true h; omega
  repeat' (first | refine zh ?_ | apply zb ?_ ?_ | exact zc | (refine zi fun hb => ?_; try simp at hb) | intro (bk : Nat))
  refine HR.ret Tryz.func64 I [_] (fun _ _ => ⟨I, trivial⟩) ?_
  exact fun w' hw => ⟨by rw [rchk, if_pos h]; rfl, hw.belowB⟩
 have h : t.length ≤ 24 := by have := of_decide_eq_false h; omega
 repeat' (first | refine zh ?_ | refine HL.callB fn140 I I (fun w _ => rrlim_any self w) ?_ | apply zb ?_ ?_ | exact zc | (refine zi fun hb => ?_; try simp at hb) | intro (bk : Nat))
 refine HR.cond I (fun h0 => ?_) (fun h0 => ?_)
 ·have h0 : (self != lim self) = true := h0
  rw [ne_lim] at h0
  have h0 : Tp.okN self = false := by simpa using h0
  repeat' (first | refine zh ?_ | apply zb ?_ ?_ | exact zc | (refine zi fun hb => ?_; try simp at hb) | intro (bk : Nat))
  refine HR.ret Tryz.func64 I [_] (fun _ _ => ⟨I, trivial⟩) ?_
  exact fun w' hw => ⟨by rw [rchk, if_neg (by omega), if_pos h0]; rfl, hw.belowB⟩
 have h0 : (self != lim self) = false := h0
 rw [ne_lim] at h0
 have h0 : Tp.okN self = true := by simpa using h0
 repeat' (first | refine zh ?_ | apply zb ?_ ?_ | exact zc | (refine zi fun hb => ?_; try simp at hb) | intro (bk : Nat))
 refine HR.loop (ι := Nat) (fun k => k ≤ t.length ∧ firstE (rbad t) k = 0) (fun k => [(0, v), (1, .int .i64 self), (5, .int .i64 (k : Int))]) (fun _ => []) (fun k => t.length - k) 0 ⟨Nat.zero_le _, rfl⟩ ⟨I, I, I, trivial⟩ Ent.refl ?_
 rintro k ⟨hk, hg⟩ ih
 repeat' (first | refine zh ?_ | refine HL.lenR (Rd.arg hv) I I I ?_ | apply zb ?_ ?_ | exact zc | (refine zi fun hb => ?_; try simp at hb) | intro (bk : Nat))
 refine HR.cond I (fun h2 => ?_) (fun h2 => ?_)
 ·have hlt : k < t.length := by have := of_decide_eq_true h2; omega
  obtain ⟨x, hx⟩ := getSome hlt
  repeat' (first | refine zh ?_ | apply zb ?_ ?_ | exact zc | (refine zi fun hb => ?_; try simp at hb) | intro (bk : Nat))
  refine HR.regionQ hmix (by kernel_rfl) ?_
  repeat' (first | refine zq ?_ | refine HQ.idxR (Rd.arg hv) elemRo k I I I I hlt ?_ | refine HQ.loadE (Rd.arg hv) I I I I (by simp) I (cellsOf_get roC_len hx) ?_ | refine HQ.fieldE (Rd.arg hv) (by rw [cellsOf_len roC_len]; omega) I I I I I I ?_ | refine HQ.loadI (Rd.arg hv) I I I I (cells_get roC_len hx (i := 3) I) ?_ | refine HQ.callB fn141 I I (fun w _ => rrusable_any _ w) ?_ | refine HQ.callB fn142 I I (fun w _ => rrfin_any _ w) ?_ | refine HQ.callB fn140 I I (fun w _ => rrlim_any _ w) ?_ | apply zb ?_ ?_ | exact zc | (refine zi fun hb => ?_; try simp at hb))
  refine HR.cond I (fun h3 => ?_) (fun h3 => ?_)
  ·have h3 : rrange x = true := by rw [← rrange_ref]; exact h3
   repeat' (first | refine zh ?_ | apply zb ?_ ?_ | exact zc | (refine zi fun hb => ?_; try simp at hb) | intro (bk : Nat))
   refine HR.ret Tryz.func64 I [_] (fun _ _ => ⟨I, trivial⟩) ?_
   refine fun w' hw => ⟨?_, hw.belowB⟩
   have e := rbad_range hx h3
   rw [rchk_first h h0 hg (by rw [e]; decide) hlt, e]; rfl
  have h3 : rrange x = false := by rw [← rrange_ref]; exact h3
  obtain ⟨y, hy⟩ := getSome (l := t) (j := k - 1) (by omega)
  repeat' (first | refine zh ?_ | apply zb ?_ ?_ | exact zc | (refine zi fun hb => ?_; try simp at hb) | intro (bk : Nat))
  refine HR.regionQ hmix (by kernel_rfl) ?_
  repeat' (first | refine zq ?_ | refine HQ.idxR (Rd.arg hv) elemRo k I I I I hlt ?_ | refine HQ.idxR (Rd.arg hv) elemRo (k - 1) I I I (by omega) (by omega) ?_ | refine HQ.fieldE (Rd.arg hv) (by rw [cellsOf_len roC_len]; omega) I I I I I I ?_ | refine HQ.loadI (Rd.arg hv) I I I I (cells_get roC_len hx (i := 0) I) ?_ | refine HQ.loadI (Rd.arg hv) I I I I (cells_get roC_len hy (i := 0) I) ?_ | apply zb ?_ ?_ | exact zc | (refine zi fun hb => ?_; try simp at hb))
  refine HR.cond I (fun h4 => ?_) (fun h4 => ?_)
  ·have h4 : (decide ((k : Int) > 0) && decide (x.dest ≤ y.dest)) = true := h4
   simp only [Bool.and_eq_true, decide_eq_true_eq] at h4
   repeat' (first | refine zh ?_ | apply zb ?_ ?_ | exact zc | (refine zi fun hb => ?_; try simp at hb) | intro (bk : Nat))
   refine HR.ret Tryz.func64 I [_] (fun _ _ => ⟨I, trivial⟩) ?_
   refine fun w' hw => ⟨?_, hw.belowB⟩
   have e := rbad_order hx h3 (by omega) hy h4.2
   rw [rchk_first h h0 hg (by rw [e]; decide) hlt, e]; rfl
  ·have h4 : (decide ((k : Int) > 0) && decide (x.dest ≤ y.dest)) = false := h4
   have hg2 : firstE (rbad t) (k + 1) = 0 := firstE_step hg (rbad_ok hx h3 fun y' h0 hy' hle => by
    rw [hy] at hy'
    cases hy'
    rw [decide_eq_true (show (k : Int) > 0 by omega), decide_eq_true hle] at h4
    cases h4)
   repeat' (first | refine zh ?_ | apply zb ?_ ?_ | exact zc | (refine zi fun hb => ?_; try simp at hb) | intro (bk : Nat))
   exact ih (k + 1) _ _ ⟨hlt, hg2⟩ (by omega) ⟨I, I, I, trivial⟩ (Ent.pick [] I I)
 have hke : k = t.length := by have := of_decide_eq_false h2; omega
 subst hke
 obtain ⟨hrr, hasc⟩ := first_asc hg
 repeat' (first | refine zh ?_ | refine HL.callB fn143 I I (fun w hw => r11find_any t self v w ((Rd.arg hv).at hw) hl) ?_ | apply zb ?_ ?_ | exact zc | (refine zi fun hb => ?_; try simp at hb) | intro (bk : Nat))
 refine HR.cond I (fun h6 => ?_) (fun h6 => ?_)
 ·have h6 : rlook t self < 0 := of_decide_eq_true h6
  have hany : (t.any fun r => r.dest == self) = false := by
   rcases rlook_cases t self with ⟨_, e⟩ | ⟨i, x, e, _⟩
   ·rw [← Bool.not_eq_true, List.any_eq_true]
    rintro ⟨r, hr, he⟩
    exact List.find?_eq_none.1 e r hr he
   ·omega
  repeat' (first | refine zh ?_ | apply zb ?_ ?_ | exact zc | (refine zi fun hb => ?_; try simp at hb) | intro (bk : Nat))
  refine HR.ret Tryz.func64 I [_] (fun _ _ => ⟨I, trivial⟩) ?_
  exact fun w' hw => ⟨by rw [rchk_8 h h0 hg hany]; rfl, hw.belowB⟩
 have h6 : ¬ rlook t self < 0 := of_decide_eq_false h6
 have hany : (t.any fun r => r.dest == self) = true := by
  rcases rlook_cases t self with ⟨e, _⟩ | ⟨i, x, _, e, he, _⟩
  ·omega
  ·exact any_of_get e he
 repeat' (first | refine zh ?_ | apply zb ?_ ?_ | exact zc | (refine zi fun hb => ?_; try simp at hb) | intro (bk : Nat))
 refine HR.loop (ι := Nat) (fun k => k ≤ t.length ∧ (t.take k).any (rform self) = false) (fun k => [(0, v), (1, .int .i64 self), (6, .int .i64 (k : Int))]) (fun _ => []) (fun k => t.length - k) 0 ⟨Nat.zero_le _, rfl⟩ ⟨I, I, I, trivial⟩ Ent.refl ?_
 rintro k ⟨hk, hf⟩ ih
 repeat' (first | refine zh ?_ | refine HL.lenR (Rd.arg hv) I I I ?_ | apply zb ?_ ?_ | exact zc | (refine zi fun hb => ?_; try simp at hb) | intro (bk : Nat))
 refine HR.cond I (fun h2 => ?_) (fun h2 => ?_)
 ·have hlt : k < t.length := by have := of_decide_eq_true h2; omega
  obtain ⟨x, hx⟩ := getSome hlt
  repeat' (first | refine zh ?_ | refine HL.idxR (Rd.arg hv) elemRo k I I I I hlt ?_ | refine HL.fieldE (Rd.arg hv) (by rw [cellsOf_len roC_len]; omega) I I I I I I ?_ | refine HL.loadI (Rd.arg hv) I I I I (cells_get roC_len hx (i := 0) I) ?_ | refine HL.loadI (Rd.arg hv) I I I I (cells_get roC_len hx (i := 2) I) ?_ | refine HL.loadI (Rd.arg hv) I I I I (cells_get roC_len hx (i := 3) I) ?_ | apply zb ?_ ?_ | exact zc | (refine zi fun hb => ?_; try simp at hb) | intro (bk : Nat))
  refine HR.cond I (fun h3 => ?_) (fun h3 => ?_)
  ·have h3 : rform self x = true := by rw [← rform_ref]; exact h3
   repeat' (first | refine zh ?_ | apply zb ?_ ?_ | exact zc | (refine zi fun hb => ?_; try simp at hb) | intro (bk : Nat))
   refine HR.ret Tryz.func64 I [_] (fun _ _ => ⟨I, trivial⟩) ?_
   exact fun w' hw => ⟨by rw [rchk_4 h h0 hg hany (any_at hx h3)]; rfl, hw.belowB⟩
  ·have h3 : rform self x = false := by rw [← rform_ref]; exact h3
   repeat' (first | refine zh ?_ | apply zb ?_ ?_ | exact zc | (refine zi fun hb => ?_; try simp at hb) | intro (bk : Nat))
   exact ih (k + 1) _ _ ⟨hlt, any_take hx hf h3⟩ (by omega) ⟨I, I, I, trivial⟩ (Ent.pick [] I I)
 ·have hke : k = t.length := by have := of_decide_eq_false h2; omega
  subst hke
  rw [List.take_length] at hf
  repeat' (first | refine zh ?_ | apply zb ?_ ?_ | exact zc | (refine zi fun hb => ?_; try simp at hb) | intro (bk : Nat))
  refine HR.ret Tryz.func64 I [_] (fun _ _ => ⟨I, trivial⟩) ?_
  exact fun w' hw => ⟨by rw [rchk_0 h h0 hg hany hf]; rfl, hw.belowB⟩
theorem r11table_any (t : List Ro) (self : Int) (v : Value) (w : World) (hv : Sl w v (cellsOf roC t) t.length) (hl : t.length ≤ 1000) :
  Calls Tryz.prog 159 #[v, .int .i64 self] w fun e w' => ∃ v', e = .returned v' ∧ Sat (base w) [ownC v' 79 4 (rtab t self).length (cellsOf roC (rtab t self))] w' := by
 refine calls_hr Tryz.func159 I (Nat.le_of_ble_eq_true I) ?_
 refine HR.sub (σ' := [(0, v), (1, .int .i64 self)]) ⟨I, I, trivial⟩ ?_
 repeat' (first | refine zh ?_ | refine HL.callB fn140 I I (fun w _ => rrlim_any self w) ?_ | refine HL.callB fn64 I I (fun w hw => r11check_any t (lim self) v w ((Rd.arg hv).at hw) hl) ?_ | apply zb ?_ ?_ | exact zc | (refine zi fun hb => ?_; try simp at hb) | intro (bk : Nat))
 refine HR.cond I (fun h => ?_) (fun h => ?_)
 ·have h : ¬ rchk t (lim self) = 0 := by simpa using h
  repeat' (first | refine zh ?_ | refine HL.callO fn65 I I (fun w _ => rrnew_any self w) ?_ | intro (bk : Nat))
  intro v1
  repeat' (first | refine zh ?_ | intro (bk : Nat))
  refine HR.ret Tryz.func159 I [_] (fun _ _ => ⟨I, trivial⟩) ?_
  refine fun w' hw => ⟨v1, rfl, ?_⟩
  have : rtab t self = rnew self := by unfold rtab; rw [if_neg h]
  rw [this]; exact hw
 ·have h : rchk t (lim self) = 0 := by simpa using h
  have hr : rtab t self = t := by unfold rtab; rw [if_pos h]
  repeat' (first | refine zh ?_ | refine HL.bslice0 elemRo I ?_ | apply zb ?_ ?_ | exact zc | (refine zi fun hb => ?_; try simp at hb) | intro (bk : Nat))
  intro v1
  repeat' (first | refine zh ?_ | refine HL.appR 0 I elemRo (Rd.arg hv) I I I (cellsOf_len roC_len _) (one_allcells roC_one _) (by omega) (by omega) ?_ | apply zb ?_ ?_ | exact zc | (refine zi fun hb => ?_; try simp at hb) | intro (bk : Nat))
  intro v2
  repeat' (first | refine zh ?_ | apply zb ?_ ?_ | exact zc | (refine zi fun hb => ?_; try simp at hb) | intro (bk : Nat))
  refine HR.ret Tryz.func159 I [_] (fun _ _ => ⟨I, trivial⟩) ?_
  refine fun w' hw => ⟨v2, rfl, Ent.own0 ?_ ?_ w' hw⟩
  ·rw [hr]; omega
  ·rw [hr]; rfl
theorem r11hop_any (t : List Ro) (d : Int) (v : Value) (w : World) (hv : Sl w v (cellsOf roC t) t.length) (hl : t.length ≤ 1000) :
  Calls Tryz.prog 136 #[v, .int .i64 d] w fun e w' => e = .returned (.tuple ⟨[.int .i64 (rhop t d).1, .bool (rhop t d).2]⟩) ∧ Below w.heap.size w w' := by
 refine calls_hr Tryz.func136 I (Nat.le_of_ble_eq_true I) ?_
 refine HR.sub (σ' := [(0, v), (1, .int .i64 d)]) ⟨I, I, trivial⟩ ?_
 repeat' (first | refine zh ?_ | refine HL.callB fn143 I I (fun w hw => r11find_any t d v w ((Rd.arg hv).at hw) hl) ?_ | intro (bk : Nat))
 rcases rlook_cases t d with ⟨e, hf⟩ | ⟨i, x, e, hx, hd, hf⟩
 ·rw [e]
  repeat' (first | refine zh ?_ | intro (bk : Nat))
  refine HR.ret Tryz.func136 I [_, _] (fun _ _ => ⟨I, I, trivial⟩) ?_
  exact fun w' hw => ⟨by rw [rhop, hf]; rfl, hw.belowB⟩
 ·have hlt := (List.getElem?_eq_some_iff.1 hx).1
  rw [e]
  refine HL.setB 12 false I (decide_eq_false (by omega)) ?_
  repeat' (first | refine zh ?_ | refine HL.idxR (Rd.arg hv) elemRo i I I I I hlt ?_ | refine HL.loadE (Rd.arg hv) I I I I (by simp) I (cellsOf_get roC_len hx) ?_ | refine HL.callB fn142 I I (fun w _ => rrfin_any _ w) ?_ | intro (bk : Nat))
  refine HR.cond I (fun h4 => ?_) (fun h4 => ?_)
  ·have h4 : fin x = false := by simpa using h4
   repeat' (first | refine zh ?_ | apply zb ?_ ?_ | exact zc | (refine zi fun hb => ?_; try simp at hb) | intro (bk : Nat))
   refine HR.ret Tryz.func136 I [_, _] (fun _ _ => ⟨I, I, trivial⟩) ?_
   exact fun w' hw => ⟨by rw [rhop, hf]; simp only [h4]; rfl, hw.belowB⟩
  ·have h4 : fin x = true := by simpa using h4
   repeat' (first | refine zh ?_ | refine HL.idxR (Rd.arg hv) elemRo i I I I I hlt ?_ | refine HL.fieldE (Rd.arg hv) (by rw [cellsOf_len roC_len]; omega) I I I I I I ?_ | refine HL.loadI (Rd.arg hv) I I I I (cells_get roC_len hx (i := 3) I) ?_ | apply zb ?_ ?_ | exact zc | (refine zi fun hb => ?_; try simp at hb) | intro (bk : Nat))
   refine HR.ret Tryz.func136 I [_, _] (fun _ _ => ⟨I, I, trivial⟩) ?_
   exact fun w' hw => ⟨by rw [rhop, hf]; simp only [h4]; rfl, hw.belowB⟩
end Go.Proofs.YtgdgclmkpoaagaaGreat
namespace Go.GX
open Go.RowKit
section
variable {P : Program} {f : FuncId} {N : Nat} {k : List Item} {σ : Store} {B : Base} {H F : List Chunk} {R : Ending → World → Prop} {ops l : List Oper} {o : Oper} {K : Act → World → Prop} {S : World → Prop} {z : Nat}
theorem HD.fieldE {d i : Nat} {p : List (Nat × Bool)} {ty : TypeId} {pos : String} {af : Array Edge} {gd : Option (Nat × Bool)} {v : Value} {s : TypeId} {x : Operand} {fl : List Field} {fi j n : Nat} {fd : Field} {ti : TypeInfo} {cs : List Value} (hv : Rd B F v cs n) (hj : j < cs.length) (ho : ops[i]? = some ⟨some d, .fieldAddr s x fi, ty, pos, af, gd⟩) (hs : stat N ops ⟨some d, .fieldAddr s x fi, ty, pos, af, gd⟩ σ = true) (hT : P.underlying s = some (.struct ⟨fl⟩)) (hf : nthF fl fi = some fd) (hti : P.info? fd.type = some ti) (hz : Nat.ble 1 ti.size = true) (hx : lookO σ x = some (elemPtr v j))
  (h : HD P N ops p ((d, elemPtr v (j + fd.offset)) :: σ) B H F K) : HD P N ops ((i, true) :: p) σ B H F K := HD.rd ho hs (hx_fieldE hv hj hT hf hti hz hx) h
end
end Go.GX
namespace Go.Proofs.YtgdgclmkpoaagaaGreat
open Go.GX Go.RowKit
attribute [local irreducible] Calls Run RunL RunQ RunD HR HL HD blkC ownC Rd
open Nd
theorem fn165 : IsFn Tryz.prog 165 := ⟨⟨_, _, Tryz.func165, rfl, by decide⟩⟩
theorem fn99 : IsFn Tryz.prog 99 := ⟨⟨_, _, Tryz.func99, rfl, by decide⟩⟩
theorem rbump_any (t : List Ro) (self : Int) (v : Value) (w : World) (hv : Sl w v (cellsOf roC t) t.length) (hl : t.length ≤ 1000) :
  Calls Tryz.prog 165 #[v, .int .i64 self] w fun e w' => ∃ v', e = .returned v' ∧ Sat (base w) [ownC v' 79 4 (rbump t self).length (cellsOf roC (rbump t self))] w' := by
 have ht := rtab_tab t self
 obtain ⟨x, hx, hd, hat⟩ := rtab_get t self
 have hxo := rrange_ok (ht.rng x (List.mem_of_getElem? hx))
 have hlt := (List.getElem?_eq_some_iff.1 hx).1
 have hrb := rbump_has hx hd
 have hhas := rhas_of hx hd
 have h24 := ht.len
 refine calls_hr Tryz.func165 I (Nat.le_of_ble_eq_true I) ?_
 refine HR.sub (σ' := [(0, v), (1, .int .i64 self)]) ⟨I, I, trivial⟩ ?_
 repeat' (first | refine zh ?_ | refine HL.callB fn147 I I (fun w _ => rlim_any self w) ?_ | intro (bk : Nat))
 repeat' (first | refine zh ?_ | refine HL.callO fn176 I I (fun w hw => sane_any t self v w ((Rd.arg hv).at hw) hl) ?_ | intro (bk : Nat))
 intro v1
 obtain ⟨T, hT⟩ : ∃ T, T = rtab t self := ⟨_, rfl⟩
 rw [← hT] at hx hlt hrb hhas h24 ⊢
 obtain ⟨P, hP⟩ : ∃ P, P = rpos T (lim self) := ⟨_, rfl⟩
 rw [← hP] at hx hlt hrb
 repeat' (first | refine zh ?_ | refine HL.callB fn206 I I (fun w hw => by have := rfind_any T (lim self) v1 w ((Rd.own 0 rfl).at hw) (by omega) (hT ▸ ht.asc) (hT ▸ rtab_okN) (lim_ok self); rw [hhas, ← hP] at this; exact this) ?_ | refine HL.idxR (Rd.own 0 I) elemRo P I I I I hlt ?_ | refine HL.fieldE (Rd.own 0 I) (by rw [cellsOf_len roC_len]; omega) I I I I I I ?_ | refine HL.loadI (Rd.own 0 I) I I I I (cells_get roC_len hx (i := 1) I) ?_ | intro (bk : Nat))
 refine HR.cond I (fun h => ?_) (fun h => ?_)
 ·have h : x.sq < 65534 := of_decide_eq_true h
  rw [if_pos h] at hrb
  repeat' (first | refine zh ?_ | refine HL.idxR (Rd.own 0 I) elemRo P I I I I hlt ?_ | refine HL.fieldE (Rd.own 0 I) (by rw [cellsOf_len roC_len]; omega) I I I I I I ?_ | refine HL.loadI (Rd.own 0 I) I I I I (cells_get roC_len hx (i := 1) I) ?_ | refine HL.storeE (j := P * 4 + 1) 0 I I I I I I I (by rw [cellsOf_len roC_len]; omega) ?_ | intro (bk : Nat))
  refine HR.ret Tryz.func165 I [_] (fun _ _ => ⟨I, trivial⟩) ?_
  refine fun w' hw => ⟨v1, rfl, Ent.own0 ?_ ?_ w' hw⟩
  ·rw [hrb, List.length_set]
  ·rw [hrb]; exact cells_set1 (i := 1) roC_len hx I (by decide)
 ·have h : ¬ x.sq < 65534 := of_decide_eq_false h
  rw [if_neg h] at hrb
  repeat' (first | refine zh ?_ | intro (bk : Nat))
  refine HR.ret Tryz.func165 I [_] (fun _ _ => ⟨I, trivial⟩) ?_
  refine fun w' hw => ⟨v1, rfl, ?_⟩
  rw [hrb]; exact hw
theorem r11bump_any (t : List Ro) (self : Int) (v : Value) (w : World) (hv : Sl w v (cellsOf roC t) t.length) (hl : t.length ≤ 1000) :
  Calls Tryz.prog 99 #[v, .int .i64 self] w fun e w' => ∃ v', e = .returned v' ∧ Sat (base w) [ownC v' 79 4 (rbump t self).length (cellsOf roC (rbump t self))] w' := by
 have ht := rtab_tab t self
 obtain ⟨x, hx, hd, hat⟩ := rtab_get t self
 have hxo := rrange_ok (ht.rng x (List.mem_of_getElem? hx))
 have hlt := (List.getElem?_eq_some_iff.1 hx).1
 have hrb := rbump_has hx hd
 have h24 := ht.len
 have hlk : rlook (rtab t self) (lim self) = rpos (rtab t self) (lim self) := by
  rcases rlook_cases (rtab t self) (lim self) with ⟨_, e⟩ | ⟨i, y, e, hy, hyd, _⟩
  ·rw [hat] at e; cases e
  ·rw [e, (rlook_asc ht.asc hy hyd).1]
 refine calls_hr Tryz.func99 I (Nat.le_of_ble_eq_true I) ?_
 refine HR.sub (σ' := [(0, v), (1, .int .i64 self)]) ⟨I, I, trivial⟩ ?_
 repeat' (first | refine zh ?_ | refine HL.callO fn159 I I (fun w hw => r11table_any t self v w ((Rd.arg hv).at hw) hl) ?_ | intro (bk : Nat))
 intro v1
 obtain ⟨T, hT⟩ : ∃ T, T = rtab t self := ⟨_, rfl⟩
 rw [← hT] at hx hlt hrb hlk h24 ⊢
 obtain ⟨P, hP⟩ : ∃ P, P = rpos T (lim self) := ⟨_, rfl⟩
 rw [← hP] at hx hlt hrb hlk
 repeat' (first | refine zh ?_ | refine HL.callB fn140 I I (fun w _ => rrlim_any self w) ?_ | refine HL.callB fn143 I I (fun w hw => by have := r11find_any T (lim self) v1 w ((Rd.own 0 rfl).at hw) (by omega); rw [hlk] at this; exact this) ?_ | refine HL.idxR (Rd.own 0 I) elemRo P I I I I hlt ?_ | refine HL.fieldE (Rd.own 0 I) (by rw [cellsOf_len roC_len]; omega) I I I I I I ?_ | refine HL.loadI (Rd.own 0 I) I I I I (cells_get roC_len hx (i := 1) I) ?_ | intro (bk : Nat))
 refine HR.cond I (fun h => ?_) (fun h => ?_)
 ·have h : x.sq < 65534 := of_decide_eq_true h
  rw [if_pos h] at hrb
  repeat' (first | refine zh ?_ | refine HL.idxR (Rd.own 0 I) elemRo P I I I I hlt ?_ | refine HL.fieldE (Rd.own 0 I) (by rw [cellsOf_len roC_len]; omega) I I I I I I ?_ | refine HL.loadI (Rd.own 0 I) I I I I (cells_get roC_len hx (i := 1) I) ?_ | refine HL.storeE (j := P * 4 + 1) 0 I I I I I I I (by rw [cellsOf_len roC_len]; omega) ?_ | intro (bk : Nat))
  refine HR.ret Tryz.func99 I [_] (fun _ _ => ⟨I, trivial⟩) ?_
  refine fun w' hw => ⟨v1, rfl, Ent.own0 ?_ ?_ w' hw⟩
  ·rw [hrb, List.length_set]
  ·rw [hrb]; exact cells_set1 (i := 1) roC_len hx I (by decide)
 ·have h : ¬ x.sq < 65534 := of_decide_eq_false h
  rw [if_neg h] at hrb
  repeat' (first | refine zh ?_ | intro (bk : Nat))
  refine HR.ret Tryz.func99 I [_] (fun _ _ => ⟨I, trivial⟩) ?_
  refine fun w' hw => ⟨v1, rfl, ?_⟩
  rw [hrb]; exact hw
end Go.Proofs.YtgdgclmkpoaagaaGreat
namespace Go.Proofs.YtgdgclmkpoaagaaGreat
open Go.GX Go.RowKit
attribute [local irreducible] Calls Run RunL RunQ RunD HR HL HD blkC ownC Rd
open Nd
theorem fn102 : IsFn Tryz.prog 102 := ⟨⟨_, _, Tryz.func102, rfl, by decide⟩⟩
theorem r11enc_any (t : List Ro) (v : Value) (w : World) (hv : Sl w v (cellsOf roC t) t.length) (hl : t.length ≤ 1000) :
  Calls Tryz.prog 102 #[v] w fun e w' => e = .returned (str (renc t)) ∧ Below w.heap.size w w' := by
 refine calls_hr Tryz.func102 I (Nat.le_of_ble_eq_true I) ?_
 refine HR.sub (σ' := [(0, v)]) ⟨I, trivial⟩ ?_
 repeat' (first | refine zh ?_ | intro (bk : Nat))
 refine HR.nilC 5 1 ?_
 refine HR.loop2 (α := Nat) (β := Value) (fun k _ => k ≤ t.length) (fun k u => [(0, v), (3, u), (4, .int .i64 (k : Int))]) (fun k u => [ownC u 5 1 (renc (t.take k)).length (bcells (renc (t.take k)))]) (fun k _ => t.length - k) 0 (.slice none 0 0) (Nat.zero_le _) ⟨I, I, I, trivial⟩ (Ent.pick [0] I I) ?_
 intro k u hk ih
 repeat' (first | refine zh ?_ | refine HL.lenR (Rd.arg hv) I I I ?_ | intro (bk : Nat))
 refine HR.cond I (fun h2 => ?_) (fun h2 => ?_)
 ·have hlt : k < t.length := by have := of_decide_eq_true h2; omega
  obtain ⟨x, hx⟩ := getSome hlt
  have hst := renc_step (t.take k) x
  rw [← take_succ_get hx] at hst
  have hb := renc_bound (t.take k)
  obtain ⟨S, hS⟩ : ∃ S, S = renc (t.take k) := ⟨_, rfl⟩
  rw [← hS] at hst hb ⊢
  repeat' (first | refine zh ?_ | refine HL.idxR (Rd.arg hv) elemRo k I I I I hlt ?_ | refine HL.loadE (Rd.arg hv) I I I I (by simp) I (cellsOf_get roC_len hx) ?_ | refine HL.callB fn141 I I (fun w _ => rrusable_any x w) ?_ | refine HL.lenR (Rd.own 0 I) I I I ?_ | apply zb ?_ ?_ | exact zc | (refine zi fun hb => ?_; try simp at hb) | intro (bk : Nat))
  refine HR.cond I (fun h3 => ?_) (fun h3 => ?_)
  ·have h3 : (usable x && decide ((S.length : Int) < 96)) = true := h3
   simp only [Bool.and_eq_true, decide_eq_true_eq] at h3
   rw [if_pos ⟨h3.1, by omega⟩] at hst
   have hxo := usable_ok h3.1
   have hd := (okN_iff _).1 hxo.1
   have hcl := renc1_cells h3.1
   refine HR.regionD [(0, true), (1, true), (2, true), (3, true), (4, true), (5, true), (6, true), (7, true), (8, true), (9, true), (10, true), (11, true), (12, true), (13, true), (14, true), (15, true), (16, true), (17, true), (18, true), (19, true), (20, true), (21, true), (22, true), (23, true), (24, true), (25, true), (26, true), (27, false), (28, false), (29, true)] [] I I hmix (by kernel_rfl) ?_
   repeat' (first | refine HD.ev I I I ?_ | refine HD.evc I I I (by first | omega | (simp; done) | (simp; omega)) ?_ | refine HD.idxR (Rd.arg hv) elemRo k I I I I I hlt ?_ | refine HD.fieldE (Rd.arg hv) (by rw [cellsOf_len roC_len]; omega) I I I I I I I ?_ | refine HD.loadI (Rd.arg hv) I I I I I (cells_get roC_len hx (i := 0) I) ?_ | refine HD.loadI (Rd.arg hv) I I I I I (cells_get roC_len hx (i := 1) I) ?_ | refine HD.loadI (Rd.arg hv) I I I I I (cells_get roC_len hx (i := 2) I) ?_ | refine HD.L 0 I I I I I ?_ | refine HD.L 1 I I I I I ?_ | refine HD.L 2 I I I I I ?_ | refine HD.L 3 I I I I I ?_ | refine HD.build I I I ?_ | refine HD.field I I I ?_ | refine HD.skip I I I ?_ | refine HD.skipO I I I ?_ | (refine HD.one I ?_; first | refine HL.ev I I ?_ | (refine HL.bslice elemU8 I I I I I (by decide) (by decide) ?_; intro va) | (refine HL.appR 1 I elemU8 (Rd.own 0 I) I I I I (allOne_spec I) (by omega) (by omega) ?_; intro o2) | (refine HL.isLoad ?_; first | refine HL.L 0 I I I I ?_ | refine HL.L 1 I I I I ?_ | refine HL.L 2 I I I I ?_ | refine HL.L 3 I I I I ?_) | (refine HL.isStore ?_; first | refine HL.S 0 I I I I I ?_ | refine HL.S 1 I I I I I ?_ | refine HL.S 2 I I I I I ?_ | refine HL.S 3 I I I I I ?_) | (refine HL.alloc I I ?_; intro bk)) | refine HL.back [] rfl rfl ?_ | refine HD.nil ?_)
   repeat' (first | refine zh ?_ | intro (bk : Nat))
   refine ih (k + 1) o2 _ _ hlt (by omega) ⟨I, I, I, trivial⟩ (Ent.trans (Ent.pick [1] I I) (Ent.own0 ?_ ?_))
   ·rw [hst]; simp [renc1]
   ·rw [hst, bcells_append, hcl]
  ·have h3 : (usable x && decide ((S.length : Int) < 96)) = false := h3
   rw [if_neg (by rintro ⟨ha, hb⟩; rw [ha, decide_eq_true (by omega)] at h3; cases h3)] at hst
   repeat' (first | refine zh ?_ | intro (bk : Nat))
   exact ih (k + 1) u _ _ hlt (by omega) ⟨I, I, I, trivial⟩ (Ent.own0 (by rw [hst]) (by rw [hst]))
 ·have hke : k = t.length := by have := of_decide_eq_false h2; omega
  subst hke
  rw [List.take_length]
  repeat' (first | refine zh ?_ | refine HL.bstr (Rd.own 0 I) I I I I I ?_ | intro (bk : Nat))
  refine HR.ret Tryz.func102 I [_] (fun _ _ => ⟨I, trivial⟩) ?_
  exact fun w' hw => ⟨rfl, hw.belowB⟩
end Go.Proofs.YtgdgclmkpoaagaaGreat
namespace Go.Proofs.YtgdgclmkpoaagaaGreat
open Go.GX Go.RowKit
attribute [local irreducible] Calls Run RunL RunQ RunD HR HL HD blkC ownC Rd
open Nd
theorem fn90 : IsFn Tryz.prog 90 := ⟨⟨_, _, Tryz.func90, rfl, by decide⟩⟩
theorem fn155 : IsFn Tryz.prog 155 := ⟨⟨_, _, Tryz.func155, rfl, by decide⟩⟩
theorem mtick_any (l : List Sn) (v : Value) (w : World) (hv : Sl w v (cellsOf snC l) l.length) (hl : l.length ≤ 1000) (hf : ∀ s ∈ l, fits .i64 s.wt) :
  Calls Tryz.prog 90 #[v] w fun e w' => ∃ v', e = .returned v' ∧ Sat (base w) [ownC v' 48 11 (mtick l).length (cellsOf snC (mtick l))] w' := by
 have hf16 : ∀ s ∈ l.take 16, fits .i64 s.wt := fun s hs => hf s (List.mem_of_mem_take hs)
 have h16 : (l.take 16).length ≤ 16 := by simp; omega
 unfold mtick
 refine calls_hr Tryz.func90 I (Nat.le_of_ble_eq_true I) ?_
 refine HR.sub (σ' := [(0, v)]) ⟨I, trivial⟩ ?_
 repeat' (first | refine zh ?_ | refine HL.callO fn146 I I (fun w hw => mqueue_any l v w ((Rd.arg hv).at hw) hl) ?_ | intro (bk : Nat))
 intro v1
 obtain ⟨T, hT⟩ : ∃ T, T = l.take 16 := ⟨_, rfl⟩
 rw [← hT] at hf16 h16 ⊢
 repeat' (first | refine zh ?_ | refine HL.lenR (Rd.own 0 I) I I I ?_ | intro (bk : Nat))
 refine HR.loop (ι := Nat) (fun k => k ≤ T.length) (fun k => [(3, v1), (8, .int .i64 (T.length : Int)), (9, .int .i64 (k : Int))]) (fun k => [ownC v1 48 11 T.length (cellsOf snC ((T.take k).map mtick1 ++ T.drop k))]) (fun k => T.length - k) 0 (Nat.zero_le _) ⟨I, I, I, trivial⟩ Ent.refl ?_
 intro k hk ih
 have hml := map_part_len mtick1 T k
 repeat' (first | refine zh ?_ | intro (bk : Nat))
 refine HR.cond I (fun h2 => ?_) (fun h2 => ?_)
 ·have hlt : k < T.length := by have := of_decide_eq_true h2; omega
  obtain ⟨x, hx⟩ := getSome hlt
  have hmg := map_part_get mtick1 hx
  have hms := map_part mtick1 hx
  have hxf : -9223372036854775808 ≤ x.wt ∧ x.wt ≤ 9223372036854775807 := hf16 x (List.mem_of_getElem? hx)
  repeat' (first | refine zh ?_ | refine HL.idxR (Rd.own 0 I) elemSn k I I I I hlt ?_ | refine HL.fieldE (Rd.own 0 I) (by rw [cellsOf_len snC_len, hml]; omega) I I I I I I ?_ | refine HL.loadI (Rd.own 0 I) I I I I (cells_get snC_len hmg (i := 10) I) ?_ | intro (bk : Nat))
  refine HR.cond I (fun h3 => ?_) (fun h3 => ?_)
  ·have h3 : x.wt > 0 := of_decide_eq_true h3
   have e : mtick1 x = ⟨x.f, x.tr, x.wt - 1⟩ := by unfold mtick1; rw [if_pos h3]
   rw [e] at hms
   repeat' (first | refine zh ?_ | refine HL.idxR (Rd.own 0 I) elemSn k I I I I hlt ?_ | refine HL.fieldE (Rd.own 0 I) (by rw [cellsOf_len snC_len, hml]; omega) I I I I I I ?_ | refine HL.loadI (Rd.own 0 I) I I I I (cells_get snC_len hmg (i := 10) I) ?_ | refine HL.storeE (j := k * 11 + 10) 0 I I I I I I I (by rw [cellsOf_len snC_len, hml]; omega) ?_ | intro (bk : Nat))
   refine ih (k + 1) _ _ hlt (by omega) ⟨I, I, I, trivial⟩ (Ent.own0 I ?_)
   rw [← hms]
   exact cells_set1 (i := 10) snC_len hmg I (by decide)
  ·have h3 : ¬ x.wt > 0 := of_decide_eq_false h3
   have e : mtick1 x = x := by unfold mtick1; rw [if_neg h3]
   repeat' (first | refine zh ?_ | intro (bk : Nat))
   refine ih (k + 1) _ _ hlt (by omega) ⟨I, I, I, trivial⟩ (Ent.own0 I ?_)
   rw [map_part_same _ hx e]
 ·have hke : k = T.length := by have := of_decide_eq_false h2; omega
  subst hke
  rw [List.take_length, List.drop_length, List.append_nil]
  repeat' (first | refine zh ?_ | intro (bk : Nat))
  refine HR.ret Tryz.func90 I [_] (fun _ _ => ⟨I, trivial⟩) ?_
  exact fun w' hw => ⟨v1, rfl, Ent.own0 (by simp) I w' hw⟩
end Go.Proofs.YtgdgclmkpoaagaaGreat
namespace Go.Proofs.YtgdgclmkpoaagaaGreat
open Go.GX Go.RowKit
attribute [local irreducible] Calls Run RunL RunQ RunD HR HL HD blkC ownC Rd
open Nd
theorem fn156 : IsFn Tryz.prog 156 := ⟨⟨_, _, Tryz.func156, rfl, by decide⟩⟩
theorem fn96 : IsFn Tryz.prog 96 := ⟨⟨_, _, Tryz.func96, rfl, by decide⟩⟩
theorem r16first_any (l : List Sn) (v : Value) (w : World) (hv : Sl w v (cellsOf snC l) l.length) (hl : l.length ≤ 1000) :
  Calls Tryz.prog 155 #[v] w fun e w' => ∃ v', e = .returned v' ∧ Sat (base w) [ownC v' 48 11 (l.take 16).length (cellsOf snC (l.take 16))] w' := by
 refine calls_hr Tryz.func155 I (Nat.le_of_ble_eq_true I) ?_
 refine HR.sub (σ' := [(0, v)]) ⟨I, trivial⟩ ?_
 repeat' (first | refine zh ?_ | intro (bk : Nat))
 refine HR.nilC 48 11 ?_
 refine HR.loop2 (α := Nat) (β := Value) (fun k o => k ≤ l.length ∧ k ≤ 16) (fun k o => [(0, v), (3, o), (4, .int .i64 (k : Int))]) (fun k o => [ownC o 48 11 (l.take k).length (cellsOf snC (l.take k))]) (fun k _ => l.length - k) 0 (.slice none 0 0) ⟨Nat.zero_le _, by omega⟩ ⟨I, I, I, trivial⟩ Ent.refl ?_
 rintro k o ⟨hk, hk16⟩ ih
 have htl : (l.take k).length = k := by simp; omega
 repeat' (first | refine zh ?_ | refine HL.lenR (Rd.arg hv) I I I ?_ | apply zb ?_ ?_ | exact zc | (refine zi fun hb => ?_; try simp at hb) | intro (bk : Nat))
 refine HR.cond I (fun h2 => ?_) (fun h2 => ?_)
 ·have h2 : (decide ((k : Int) < l.length) && decide ((k : Int) < 16)) = true := h2
  simp only [Bool.and_eq_true, decide_eq_true_eq] at h2
  have hlt : k < l.length := by omega
  obtain ⟨x, hx⟩ := getSome hlt
  repeat' (first | refine zh ?_ | refine HL.idxR (Rd.arg hv) elemSn k I I I I hlt ?_ | refine HL.loadE (Rd.arg hv) I I I I (by simp) I (cellsOf_get snC_len hx) ?_ | refine HL.bslice elemSn I I I I I (by decide) (by decide) ?_ | intro (bk : Nat))
  intro va
  repeat' (first | refine zh ?_ | refine HL.appR 1 I elemSn (Rd.own 0 I) I I I I (allOne_spec I) (by omega) (by omega) ?_ | intro (bk : Nat))
  intro o2
  repeat' (first | refine zh ?_ | intro (bk : Nat))
  refine ih (k + 1) o2 _ _ ⟨hlt, by omega⟩ (by omega) ⟨I, I, I, trivial⟩ (Ent.trans (Ent.pick [1] I I) (Ent.own0 ?_ ?_))
  ·rw [take_succ_get hx]; simp
  ·rw [take_succ_get hx, cellsOf_app]; rfl
 ·have h2 : (decide ((k : Int) < l.length) && decide ((k : Int) < 16)) = false := h2
  have e : l.take k = l.take 16 := by
   by_cases h3 : k < l.length
   ·rw [decide_eq_true (show (k : Int) < l.length by omega), Bool.true_and, decide_eq_false_iff_not] at h2
    rw [show k = 16 by omega]
   ·rw [List.take_of_length_le (by omega), List.take_of_length_le (by omega)]
  rw [e]
  repeat' (first | refine zh ?_ | intro (bk : Nat))
  refine HR.ret Tryz.func155 I [_] (fun _ _ => ⟨I, trivial⟩) ?_
  exact fun w' hw => ⟨o, rfl, hw⟩
theorem r16without_any (l : List Sn) (i : Nat) (v : Value) (w : World) (hv : Sl w v (cellsOf snC l) l.length) (hl : l.length ≤ 1000) (hi : i < l.length) :
  Calls Tryz.prog 156 #[v, .int .i64 (i : Int)] w fun e w' => ∃ v', e = .returned v' ∧ Sat (base w) [ownC v' 48 11 (l.eraseIdx i).length (cellsOf snC (l.eraseIdx i))] w' := by
 have hstep : ∀ {k : Nat} {x : Sn}, l[k]? = some x → (l.take (k + 1)).eraseIdx i = if k = i then (l.take k).eraseIdx i else (l.take k).eraseIdx i ++ [x] := by
  intro k x hx
  have hkl := (List.getElem?_eq_some_iff.1 hx).1
  have htl : (l.take k).length = k := by simp; omega
  rw [take_succ_get hx]
  split
  ·rename_i h
   subst h
   rw [List.eraseIdx_append_of_length_le (by omega), htl, Nat.sub_self, List.eraseIdx_of_length_le (l := l.take k) (by omega)]; simp
  ·rename_i h
   by_cases h3 : i < k
   ·rw [List.eraseIdx_append_of_lt_length (by omega)]
   ·rw [List.eraseIdx_append_of_length_le (by omega), htl, List.eraseIdx_of_length_le (l := [x]) (by simp; omega), List.eraseIdx_of_length_le (l := l.take k) (by omega)]
 refine calls_hr Tryz.func156 I (Nat.le_of_ble_eq_true I) ?_
 refine HR.sub (σ' := [(0, v), (1, .int .i64 (i : Int))]) ⟨I, I, trivial⟩ ?_
 repeat' (first | refine zh ?_ | intro (bk : Nat))
 refine HR.nilC 48 11 ?_
 refine HR.loop2 (α := Nat) (β := Value) (fun k o => k ≤ l.length) (fun k o => [(0, v), (1, .int .i64 (i : Int)), (5, o), (6, .int .i64 (k : Int))]) (fun k o => [ownC o 48 11 ((l.take k).eraseIdx i).length (cellsOf snC ((l.take k).eraseIdx i))]) (fun k _ => l.length - k) 0 (.slice none 0 0) (Nat.zero_le _) ⟨I, I, I, I, trivial⟩ (by rw [List.take_zero, List.eraseIdx_nil]; exact Ent.refl) ?_
 rintro k o hk ih
 have htl : ((l.take k).eraseIdx i).length ≤ k := Nat.le_trans (List.length_eraseIdx_le _ _) (by simp; omega)
 repeat' (first | refine zh ?_ | refine HL.lenR (Rd.arg hv) I I I ?_ | intro (bk : Nat))
 refine HR.cond I (fun h2 => ?_) (fun h2 => ?_)
 ·have hlt : k < l.length := by have := of_decide_eq_true h2; omega
  obtain ⟨x, hx⟩ := getSome hlt
  have hst := hstep hx
  repeat' (first | refine zh ?_ | intro (bk : Nat))
  refine HR.cond I (fun h3 => ?_) (fun h3 => ?_)
  ·have h3 : ¬ k = i := by have h3 : ((k : Int) != (i : Int)) = true := h3; simp at h3; omega
   rw [if_neg h3] at hst
   repeat' (first | refine zh ?_ | refine HL.idxR (Rd.arg hv) elemSn k I I I I hlt ?_ | refine HL.loadE (Rd.arg hv) I I I I (by simp) I (cellsOf_get snC_len hx) ?_ | refine HL.bslice elemSn I I I I I (by decide) (by decide) ?_ | intro (bk : Nat))
   intro va
   repeat' (first | refine zh ?_ | refine HL.appR 1 I elemSn (Rd.own 0 I) I I I I (allOne_spec I) (by omega) (by omega) ?_ | intro (bk : Nat))
   intro o2
   repeat' (first | refine zh ?_ | intro (bk : Nat))
   refine ih (k + 1) o2 _ _ hlt (by omega) ⟨I, I, I, I, trivial⟩ (Ent.trans (Ent.pick [1] I I) (Ent.own0 ?_ ?_))
   ·rw [hst]; simp
   ·rw [hst, cellsOf_app]; rfl
  ·have h3 : k = i := by have h3 : ((k : Int) != (i : Int)) = false := h3; simp at h3; omega
   rw [if_pos h3] at hst
   repeat' (first | refine zh ?_ | intro (bk : Nat))
   exact ih (k + 1) o _ _ hlt (by omega) ⟨I, I, I, I, trivial⟩ (Ent.own0 (by rw [hst]) (by rw [hst]))
 ·have hke : k = l.length := by have := of_decide_eq_false h2; omega
  subst hke
  rw [List.take_length]
  repeat' (first | refine zh ?_ | intro (bk : Nat))
  refine HR.ret Tryz.func156 I [_] (fun _ _ => ⟨I, trivial⟩) ?_
  exact fun w' hw => ⟨o, rfl, hw⟩
theorem r16tick_any (l : List Sn) (v : Value) (w : World) (hv : Sl w v (cellsOf snC l) l.length) (hl : l.length ≤ 1000) (hf : ∀ s ∈ l, fits .i64 s.wt) :
  Calls Tryz.prog 96 #[v] w fun e w' => ∃ v', e = .returned v' ∧ Sat (base w) [ownC v' 48 11 (mtick l).length (cellsOf snC (mtick l))] w' := by
 have hf16 : ∀ s ∈ l.take 16, fits .i64 s.wt := fun s hs => hf s (List.mem_of_mem_take hs)
 have h16 : (l.take 16).length ≤ 16 := by simp; omega
 unfold mtick
 refine calls_hr Tryz.func96 I (Nat.le_of_ble_eq_true I) ?_
 refine HR.sub (σ' := [(0, v)]) ⟨I, trivial⟩ ?_
 repeat' (first | refine zh ?_ | refine HL.callO fn155 I I (fun w hw => r16first_any l v w ((Rd.arg hv).at hw) hl) ?_ | intro (bk : Nat))
 intro v1
 obtain ⟨T, hT⟩ : ∃ T, T = l.take 16 := ⟨_, rfl⟩
 rw [← hT] at hf16 h16 ⊢
 repeat' (first | refine zh ?_ | intro (bk : Nat))
 refine HR.loop (ι := Nat) (fun k => k ≤ T.length) (fun k => [(3, v1), (4, .int .i64 (k : Int))]) (fun k => [ownC v1 48 11 T.length (cellsOf snC ((T.take k).map mtick1 ++ T.drop k))]) (fun k => T.length - k) 0 (Nat.zero_le _) ⟨I, I, trivial⟩ Ent.refl ?_
 intro k hk ih
 have hml := map_part_len mtick1 T k
 repeat' (first | refine zh ?_ | refine HL.lenR (Rd.own 0 I) I I I ?_ | intro (bk : Nat))
 refine HR.cond I (fun h2 => ?_) (fun h2 => ?_)
 ·have hlt : k < T.length := by have := of_decide_eq_true h2; omega
  obtain ⟨x, hx⟩ := getSome hlt
  have hmg := map_part_get mtick1 hx
  have hms := map_part mtick1 hx
  have hxf : -9223372036854775808 ≤ x.wt ∧ x.wt ≤ 9223372036854775807 := hf16 x (List.mem_of_getElem? hx)
  repeat' (first | refine zh ?_ | refine HL.idxR (Rd.own 0 I) elemSn k I I I I hlt ?_ | refine HL.fieldE (Rd.own 0 I) (by rw [cellsOf_len snC_len, hml]; omega) I I I I I I ?_ | refine HL.loadI (Rd.own 0 I) I I I I (cells_get snC_len hmg (i := 10) I) ?_ | intro (bk : Nat))
  refine HR.cond I (fun h3 => ?_) (fun h3 => ?_)
  ·have h3 : x.wt > 0 := of_decide_eq_true h3
   have e : mtick1 x = ⟨x.f, x.tr, x.wt - 1⟩ := by unfold mtick1; rw [if_pos h3]
   rw [e] at hms
   repeat' (first | refine zh ?_ | refine HL.idxR (Rd.own 0 I) elemSn k I I I I hlt ?_ | refine HL.fieldE (Rd.own 0 I) (by rw [cellsOf_len snC_len, hml]; omega) I I I I I I ?_ | refine HL.loadI (Rd.own 0 I) I I I I (cells_get snC_len hmg (i := 10) I) ?_ | refine HL.storeE (j := k * 11 + 10) 0 I I I I I I I (by rw [cellsOf_len snC_len, hml]; omega) ?_ | intro (bk : Nat))
   refine ih (k + 1) _ _ hlt (by omega) ⟨I, I, trivial⟩ (Ent.own0 I ?_)
   rw [← hms]
   exact cells_set1 (i := 10) snC_len hmg I (by decide)
  ·have h3 : ¬ x.wt > 0 := of_decide_eq_false h3
   have e : mtick1 x = x := by unfold mtick1; rw [if_neg h3]
   repeat' (first | refine zh ?_ | intro (bk : Nat))
   refine ih (k + 1) _ _ hlt (by omega) ⟨I, I, trivial⟩ (Ent.own0 I ?_)
   rw [map_part_same _ hx e]
 ·have hke : k = T.length := by have := of_decide_eq_false h2; omega
  subst hke
  rw [List.take_length, List.drop_length, List.append_nil]
  repeat' (first | refine zh ?_ | intro (bk : Nat))
  refine HR.ret Tryz.func96 I [_] (fun _ _ => ⟨I, trivial⟩) ?_
  exact fun w' hw => ⟨v1, rfl, Ent.own0 (by simp) I w' hw⟩
end Go.Proofs.YtgdgclmkpoaagaaGreat
namespace Go.Proofs.YtgdgclmkpoaagaaGreat
open Go.GX Go.RowKit
attribute [local irreducible] Calls Run RunL RunQ RunD HR HL HD blkC ownC Rd
open Nd
theorem sn_fr {l : List Sn} {n : Nat} {s : Sn} (hs : l[n]? = some s) : ∀ (i : Nat) u, (frC s.f)[i]? = some u → (cellsOf snC l)[n * 11 + i]? = some u := fun i u h => by
 refine cellsOf_get snC_len hs i u ?_
 show (frC s.f ++ [.int .i64 s.tr, .int .i64 s.wt])[i]? = some u
 rw [List.getElem?_append_left (List.getElem?_eq_some_iff.1 h).1]; exact h
theorem r16result_any (l : List Sn) (i : Int) (ok : Bool) (v : Value) (w : World) (hv : Sl w v (cellsOf snC l) l.length) (hl : l.length ≤ 1000) (hf : ∀ s ∈ l, fits .i64 s.tr) (hi : 0 ≤ i) :
  Calls Tryz.prog 81 #[v, .int .i64 i, .bool ok] w fun e w' => ∃ v', e = .returned (.tuple ⟨[v', .bool (mres l i.toNat ok).2]⟩) ∧ True ∧ Sat (base w) [ownC v' 48 11 (mres l i.toNat ok).1.length (cellsOf snC (mres l i.toNat ok).1)] w' := by
 obtain ⟨n, rfl⟩ : ∃ n : Nat, i = n := ⟨i.toNat, by omega⟩
 rw [Int.toNat_natCast]
 have hf16 : ∀ s ∈ l.take 16, fits .i64 s.tr := fun s hs => hf s (List.mem_of_mem_take hs)
 have h16 : (l.take 16).length ≤ 16 := by simp; omega
 refine calls_hr Tryz.func81 I (Nat.le_of_ble_eq_true I) ?_
 refine HR.sub (σ' := [(0, v), (1, .int .i64 (n : Int)), (2, .bool ok)]) ⟨I, I, I, trivial⟩ ?_
 repeat' (first | refine zh ?_ | refine HL.callO fn155 I I (fun w hw => r16first_any l v w ((Rd.arg hv).at hw) hl) ?_ | intro (bk : Nat))
 intro v1
 repeat' (first | refine zh ?_ | refine HL.lenR (Rd.own 0 I) I I I ?_ | intro (bk : Nat))
 refine HR.cond I (fun h2 => ?_) (fun h2 => ?_)
 ·have h2 : (l.take 16).length ≤ n := by have := of_decide_eq_true h2; omega
  rw [mres_none h2]
  repeat' (first | refine zh ?_ | intro (bk : Nat))
  refine HR.ret Tryz.func81 I [_, _] (fun _ _ => ⟨I, I, trivial⟩) ?_
  exact fun w' hw => ⟨v1, rfl, trivial, hw⟩
 have h2 : n < (l.take 16).length := by have := of_decide_eq_false h2; omega
 obtain ⟨s, hs⟩ := getSome h2
 rw [mres_some hs]
 obtain ⟨T, hT⟩ : ∃ T, T = l.take 16 := ⟨_, rfl⟩
 rw [← hT] at hf16 h16 h2 hs ⊢
 have hsf : -9223372036854775808 ≤ s.tr ∧ s.tr ≤ 9223372036854775807 := hf16 s (List.mem_of_getElem? hs)
 repeat' (first | refine zh ?_ | refine HL.idxR (Rd.own 0 I) elemSn n I I I I h2 ?_ | refine HL.fieldE (Rd.own 0 I) (by rw [cellsOf_len snC_len]; omega) I I I I I I ?_ | refine HL.loadI (Rd.own 0 I) I I I I (cells_get snC_len hs (i := 9) I) ?_ | intro (bk : Nat))
 refine HR.join (ι := Unit) (fun _ => True) (fun _ => [(1, .int .i64 (n : Int)), (2, .bool ok), (8, v1), (9, .int .i64 (max s.tr 0))]) (fun _ => [ownC v1 48 11 T.length (cellsOf snC T)]) (fun _ _ => ?_) (fun hj => ?_)
 ·have hm : mtries s = min (max s.tr 0) 7 + 1 := rfl
  repeat' (first | refine zh ?_ | apply zb ?_ ?_ | exact zc | (refine zi fun hb => ?_; try simp at hb) | intro (bk : Nat))
  refine HR.cond I (fun h3 => ?_) (fun h3 => ?_)
  ·have h3 : (ok || decide (max s.tr 0 ≥ 7)) = true := h3
   have e : (if ok = true then (T.eraseIdx n, false) else if mtries s = 8 then (T.eraseIdx n, true) else (T.set n ⟨s.f, mtries s, if s.f.ur then 0 else min (mtries s) 4⟩, false)) = (T.eraseIdx n, !ok) := by
    cases ok
    ·rw [Bool.false_or, decide_eq_true_eq] at h3
     rw [if_neg (by simp), if_pos (by omega)]; rfl
    ·rfl
   rw [e]
   repeat' (first | refine zh ?_ | refine HL.callO fn156 I I (fun w hw => r16without_any T n v1 w ((Rd.own 0 rfl).at hw) (by omega) h2) ?_ | intro (bk : Nat))
   intro v2
   repeat' (first | refine zh ?_ | intro (bk : Nat))
   refine HR.ret Tryz.func81 I [_, _] (fun _ _ => ⟨I, I, trivial⟩) ?_
   exact fun w' hw => ⟨v2, rfl, trivial, hw.pick [0] I rfl⟩
  ·have h3 : (ok || decide (max s.tr 0 ≥ 7)) = false := h3
   rw [Bool.or_eq_false_iff, decide_eq_false_iff_not] at h3
   obtain ⟨h3, h4⟩ := h3
   rw [if_neg (by rw [h3]; simp), if_neg (by omega)]
   refine HR.skip ?_
   repeat' (first | refine zh ?_ | intro (bk : Nat))
   refine HR.join (ι := Unit) (fun _ => True) (fun _ => [(1, .int .i64 (n : Int)), (8, v1), (9, .int .i64 (max s.tr 0)), (10, .int .i64 (min (mtries s) 4))]) (fun _ => [ownC v1 48 11 T.length (cellsOf snC T)]) (fun _ _ => ?_) (fun hj2 => ?_)
   ·repeat' (first | refine zh ?_ | refine HL.idxR (Rd.own 0 I) elemSn n I I I I h2 ?_ | refine HL.fieldE (Rd.own 0 I) (by rw [cellsOf_len snC_len]; omega) I I I I I I ?_ | refine HL.loadI (Rd.own 0 I) I I I I (cells_get snC_len hs (i := 7) I) ?_ | intro (bk : Nat))
    refine HL.setV 46 (v' := elemPtr v1 (n * 11)) I I ?_
    repeat' (first | refine zh ?_ | refine HL.idxR (Rd.own 0 I) elemSn n I I I I h2 ?_ | refine HL.fieldE (Rd.own 0 I) (by rw [cellsOf_len snC_len]; omega) I I I I I I ?_ | refine HL.loadI (Rd.own 0 I) I I I I (cells_get snC_len hs (i := 7) I) ?_ | intro (bk : Nat))
    refine HR.join (ι := Unit) (fun _ => True) (fun _ => [(1, .int .i64 (n : Int)), (8, v1), (9, .int .i64 (max s.tr 0)), (10, .int .i64 (if s.f.ur then 0 else min (mtries s) 4))]) (fun _ => [ownC v1 48 11 T.length (cellsOf snC T)]) (fun _ _ => ?_) (fun hj3 => ?_)
    ·have hc2 : (cellsOf snC T).length = T.length * 11 := cellsOf_len snC_len T
     repeat' (first | refine zh ?_ | refine HL.idxR (Rd.own 0 I) elemSn n I I I I h2 ?_ | refine HL.fieldE (Rd.own 0 I) (by rw [cellsOf_len snC_len]; omega) I I I I I I ?_ | refine HL.loadE (us := frC s.f) (Rd.own 0 I) I I I I (by simp) I (sn_fr hs) ?_ | refine HL.storeEs (us := snC ⟨s.f, max s.tr 0 + 1, if s.f.ur then 0 else min (mtries s) 4⟩) (j := n * 11) 0 I I I I I I I (by rw [hc2]; show n * 11 + 11 ≤ _; omega) (by simp) ?_ | intro (bk : Nat))
     refine HR.ret Tryz.func81 I [_, _] (fun _ _ => ⟨I, I, trivial⟩) ?_
     refine fun w' hw => ⟨v1, rfl, trivial, Ent.own0 (by rw [List.length_set]) ?_ w' hw⟩
     rw [hm, show min (max s.tr 0) 7 = max s.tr 0 by omega]
     rw [hm, show min (max s.tr 0) 7 = max s.tr 0 by omega] at *
     exact cells_set (i := 0) snC_len hs I (show 0 + 11 ≤ 11 by decide)
    ·refine HR.cond I (fun h5 => ?_) (fun h5 => ?_)
     ·have h5 : s.f.ur = true := h5
      rw [h5] at hj3 ⊢
      refine HR.region ?_
      repeat' (first | refine zn ?_ | apply zb ?_ ?_ | exact zc | (refine zi fun hb => ?_; try simp at hb) | intro (bk : Nat))
      exact hj3 () _ _ trivial ⟨I, I, I, I, trivial⟩ Ent.refl
     ·have h5 : s.f.ur = false := h5
      rw [h5] at hj3 ⊢
      refine HR.skip ?_
      exact hj3 () _ _ trivial ⟨I, I, I, I, trivial⟩ Ent.refl
   ·refine HR.cond I (fun h5 => ?_) (fun h5 => ?_)
    ·have h5 : max s.tr 0 + 1 > 4 := of_decide_eq_true h5
     refine HR.region ?_
     repeat' (first | refine zn ?_ | apply zb ?_ ?_ | exact zc | (refine zi fun hb => ?_; try simp at hb) | intro (bk : Nat))
     exact hj2 () _ _ trivial ⟨rfl, rfl, rfl, by show some _ = some _; congr 2; omega, trivial⟩ Ent.refl
    ·have h5 : ¬ max s.tr 0 + 1 > 4 := of_decide_eq_false h5
     refine HR.skip ?_
     exact hj2 () _ _ trivial ⟨rfl, rfl, rfl, by show some _ = some _; congr 2; omega, trivial⟩ Ent.refl
 ·refine HR.cond I (fun h3 => ?_) (fun h3 => ?_)
  ·have h3 : s.tr < 0 := of_decide_eq_true h3
   refine HR.region ?_
   repeat' (first | refine zn ?_ | apply zb ?_ ?_ | exact zc | (refine zi fun hb => ?_; try simp at hb) | intro (bk : Nat))
   exact hj () _ _ trivial ⟨rfl, rfl, rfl, by show some _ = some _; congr 2; omega, trivial⟩ Ent.refl
  ·have h3 : ¬ s.tr < 0 := of_decide_eq_false h3
   refine HR.skip ?_
   exact hj () _ _ trivial ⟨rfl, rfl, rfl, by show some _ = some _; congr 2; omega, trivial⟩ Ent.refl
end Go.Proofs.YtgdgclmkpoaagaaGreat
namespace Go.GX
open Go.RowKit
section
variable {P : Program} {f : FuncId} {N : Nat} {k : List Item} {σ : Store} {B : Base} {H H0 : List Chunk} {R : Ending → World → Prop} {ops l : List Oper} {o : Oper} {K : Act → World → Prop}
variable {d : Nat} {d' : Option Nat} {ty : TypeId} {pos : String} {af : Array Edge} {gd : Option (Nat × Bool)} {u v : Value}
theorem HQ.fieldN {KQ : Act → Prop} (o : Nat) {s : TypeId} {x : Operand} {fl : List Field} {fi j n : Nat} {fd : Field} {ti : TypeInfo} {cs : List Value} (hv : Rd B H v cs n) (hj : j < cs.length) (hs : stat N ops ⟨some d, .fieldAddr s x fi, ty, pos, af, gd⟩ σ = true) (hT : P.underlying s = some (.struct ⟨fl⟩)) (hf : nthF fl fi = some fd) (hti : P.info? fd.type = some ti) (hz : Nat.ble 1 ti.size = true) (hx : lookO σ x = some (elemPtr v j)) (ho : fd.offset = o)
  (h : HQ P N ops l ((d, elemPtr v (j + o)) :: σ) B H KQ) : HQ P N ops (⟨some d, .fieldAddr s x fi, ty, pos, af, gd⟩ :: l) σ B H KQ := by
 subst ho; exact HQ.fieldE hv hj hs hT hf hti hz hx h
theorem HD.fieldN {F : List Chunk} (o : Nat) {i : Nat} {p : List (Nat × Bool)} {s : TypeId} {x : Operand} {fl : List Field} {fi j n : Nat} {fd : Field} {ti : TypeInfo} {cs : List Value} (hv : Rd B F v cs n) (hj : j < cs.length) (ho' : ops[i]? = some ⟨some d, .fieldAddr s x fi, ty, pos, af, gd⟩) (hs : stat N ops ⟨some d, .fieldAddr s x fi, ty, pos, af, gd⟩ σ = true) (hT : P.underlying s = some (.struct ⟨fl⟩)) (hf : nthF fl fi = some fd) (hti : P.info? fd.type = some ti) (hz : Nat.ble 1 ti.size = true) (hx : lookO σ x = some (elemPtr v j)) (ho : fd.offset = o)
  (h : HD P N ops p ((d, elemPtr v (j + o)) :: σ) B H F K) : HD P N ops ((i, true) :: p) σ B H F K := by
 subst ho; exact HD.fieldE hv hj ho' hs hT hf hti hz hx h
theorem HR.joinI {id : Nat} {x : Code} {ι : Type} (Inv : ι → Prop) (st : ι → Store) (hp : ι → List Chunk) (hj : ∀ i, Inv i → HR P f N k (st i) B (hp i) R)
  (h : (∀ i σ' H', Inv i → Sub (st i) σ' → Ent B H' (hp i) → HR P f N k σ' B H' R) → HR P f N (.code x :: .inBlock id :: k) σ B H R) : HR P f N (.code x :: .inBlock id :: k) σ B H R :=
 h fun i σ' H' hi hs he => HR.sub hs (HR.ent he (hj i hi))
theorem hx_mkF {g : FuncId} {caps : List Operand} {vs : List Value} (hv : vals σ caps = some vs) (w : World) :
  (execOp (evO σ) ⟨d', .makeFunc (.func g) #[] caps.toArray, ty, pos, af, gd⟩).run P w = .ok (.value (.func (.func g) #[] vs.toArray)) w := by
 have := vals_eq hv
 simp only [execOp, List.map_toArray]
 rw [this]
 simp [Instr.makeFunc]
theorem HL.mkF {g : FuncId} {caps : List Operand} {vs : List Value} (hs : stat N ops ⟨some d, .makeFunc (.func g) #[] caps.toArray, ty, pos, af, gd⟩ σ = true) (hv : vals σ caps = some vs)
  (h : HL P N ops l ((d, .func (.func g) #[] vs.toArray) :: σ) B H K) : HL P N ops (⟨some d, .makeFunc (.func g) #[] caps.toArray, ty, pos, af, gd⟩ :: l) σ B H K :=
 HL.rd hs (fun w _ => hx_mkF hv w) h
end
end Go.GX
namespace Go.Proofs.YtgdgclmkpoaagaaGreat
open Go.GX Go.RowKit
attribute [local irreducible] Calls Run RunL RunQ RunD HR HL HD blkC ownC Rd
open Nd
theorem fn118 : IsFn Tryz.prog 118 := ⟨⟨_, _, Tryz.func118, rfl, by decide⟩⟩
theorem fn81 : IsFn Tryz.prog 81 := ⟨⟨_, _, Tryz.func81, rfl, by decide⟩⟩
end Go.Proofs.YtgdgclmkpoaagaaGreat
namespace Go.Proofs.YtgdgclmkpoaagaaGreat
open Go.GX Go.RowKit
attribute [local irreducible] Calls Run RunL RunQ RunD HR HL HD blkC ownC Rd
open Nd
theorem fn77 : IsFn Tryz.prog 77 := ⟨⟨_, _, Tryz.func77, rfl, by decide⟩⟩
theorem fn207 : IsFn Tryz.prog 207 := ⟨⟨_, _, Tryz.func207, rfl, by decide⟩⟩
theorem indexFSn_any (l : List Sn) (p : Sn → Bool) (g : FuncId) (caps : List Value) (v : Value) (w : World) (hg : IsFn Tryz.prog g) (hp : Asks Tryz.prog g caps (fun a => .agg ⟨snC a⟩) p l w) (hv : Sl w v (cellsOf snC l) l.length) (hl : l.length ≤ 1000000) :
  Calls Tryz.prog 77 #[v, .func (.func g) #[] caps.toArray] w fun e w' => e = .returned (.int .i64 (fidx p l)) ∧ Below w.heap.size w w' := by
 refine calls_hr Tryz.func77 I (Nat.le_of_ble_eq_true I) ?_
 refine HR.sub (σ' := [(0, v), (1, .func (.func g) #[] caps.toArray)]) ⟨I, I, trivial⟩ ?_
 repeat' (first | refine zh ?_ | refine HL.lenR (Rd.arg hv) I I I ?_ | intro (bk : Nat))
 refine HR.loop (ι := Nat) (fun k => k ≤ l.length ∧ ∀ j b, j < k → l[j]? = some b → p b = false) (fun k => [(0, v), (1, .func (.func g) #[] caps.toArray), (7, .int .i64 (l.length : Int)), (8, .int .i64 (k : Int))]) (fun _ => []) (fun k => l.length - k) 0 ⟨Nat.zero_le _, fun j b hj => absurd hj (Nat.not_lt_zero _)⟩ ⟨I, I, I, I, trivial⟩ Ent.refl ?_
 rintro k ⟨hk, hno⟩ ih
 repeat' (first | refine zh ?_ | intro (bk : Nat))
 refine HR.cond I (fun h2 => ?_) (fun h2 => ?_)
 ·have hlt : k < l.length := by have := of_decide_eq_true h2; omega
  obtain ⟨x, hx⟩ := getSome hlt
  repeat' (first | refine zh ?_ | refine HL.idxR (Rd.arg hv) elemSn k I I I I hlt ?_ | refine HL.loadE (Rd.arg hv) I I I I (by simp) I (cellsOf_get snC_len hx) ?_ | refine HL.callV (caps := caps) hg I I I (fun w' hw => hp x (List.mem_of_getElem? hx) w' hw.belowB) ?_ | intro (bk : Nat))
  refine HR.cond I (fun h3 => ?_) (fun h3 => ?_)
  ·have h3 : p x = true := h3
   repeat' (first | refine zh ?_ | intro (bk : Nat))
   refine HR.ret Tryz.func77 I [_] (fun _ _ => ⟨I, trivial⟩) ?_
   rw [fidx_at hx h3 hno]
   exact fun w' hw => ⟨rfl, hw.belowB⟩
  ·have h3 : p x = false := h3
   repeat' (first | refine zh ?_ | intro (bk : Nat))
   refine ih (k + 1) _ _ ⟨hlt, fun j b hj hb => ?_⟩ (by omega) ⟨I, I, I, I, trivial⟩ Ent.refl
   by_cases e : j = k
   ·subst e; rw [hx] at hb; cases hb; exact h3
   ·exact hno j b (by omega) hb
 ·have hke : k = l.length := by have := of_decide_eq_false h2; omega
  subst hke
  rw [fidx_none hno]
  repeat' (first | refine zh ?_ | intro (bk : Nat))
  refine HR.ret Tryz.func77 I [_] (fun _ _ => ⟨I, trivial⟩) ?_
  exact fun w' hw => ⟨rfl, hw.belowB⟩
theorem contFSn_any (l : List Sn) (p : Sn → Bool) (g : FuncId) (caps : List Value) (v : Value) (w : World) (hg : IsFn Tryz.prog g) (hp : Asks Tryz.prog g caps (fun a => .agg ⟨snC a⟩) p l w) (hv : Sl w v (cellsOf snC l) l.length) (hl : l.length ≤ 1000000) :
  Calls Tryz.prog 207 #[v, .func (.func g) #[] caps.toArray] w fun e w' => e = .returned (.bool (l.any p)) ∧ Below w.heap.size w w' := by
 rw [← fidx_any]
 refine calls_hr Tryz.func207 I (Nat.le_of_ble_eq_true I) ?_
 refine HR.sub (σ' := [(0, v), (1, .func (.func g) #[] caps.toArray)]) ⟨I, I, trivial⟩ ?_
 repeat' (first | refine zh ?_ | intro (bk : Nat))
 refine HL.callB fn77 I I (fun w' hw => indexFSn_any l p g caps v w' hg (fun a ha w2 hb => hp a ha w2 (GX.Below.seq hw.belowB hb)) ((Rd.arg hv).at hw) hl) ?_
 repeat' (first | refine zh ?_ | intro (bk : Nat))
 refine HR.ret Tryz.func207 I [_] (fun _ _ => ⟨I, trivial⟩) ?_
 exact fun w' hw => ⟨rfl, hw.belowB⟩
end Go.Proofs.YtgdgclmkpoaagaaGreat
namespace Go.Proofs.YtgdgclmkpoaagaaGreat
open Go.GX Go.RowKit
attribute [local irreducible] Calls Run RunL RunQ RunD HR HL HD blkC ownC Rd
open Nd
theorem fn91 : IsFn Tryz.prog 91 := ⟨⟨_, _, Tryz.func91, rfl, by decide⟩⟩
end Go.Proofs.YtgdgclmkpoaagaaGreat
namespace Go.Proofs.YtgdgclmkpoaagaaGreat
open Go.GX Go.RowKit
attribute [local irreducible] Calls Run RunL RunQ RunD HR HL HD blkC ownC Rd
open Nd
theorem filt_take {α : Type} (p : α → Bool) {l : List α} {k : Nat} {x : α} (hx : l[k]? = some x) : (l.take (k + 1)).filter p = if p x = true then (l.take k).filter p ++ [x] else (l.take k).filter p := by
 rw [take_succ_get hx, List.filter_append]
 split
 ·rename_i h; rw [List.filter_cons_of_pos h]; rfl
 ·rename_i h; rw [List.filter_cons_of_neg h]; simp
theorem bexp_any (l : List Ma) (now life : Int) (v : Value) (w : World) (hv : Sl w v (cellsOf maC l) l.length) (hl : l.length ≤ 1000) :
  Calls Tryz.prog 91 #[v, .int .i64 now, .int .i64 life] w fun e w' => ∃ v', e = .returned v' ∧ Sat (base w) [ownC v' 73 10 (bexp l now life).length (cellsOf maC (bexp l now life))] w' := by
 have h16 : (l.take 16).length ≤ 16 := by simp; omega
 unfold bexp
 refine calls_hr Tryz.func91 I (Nat.le_of_ble_eq_true I) ?_
 refine HR.sub (σ' := [(0, v), (1, .int .i64 now), (2, .int .i64 life)]) ⟨I, I, I, trivial⟩ ?_
 repeat' (first | refine zh ?_ | intro (bk : Nat))
 refine HL.callX (r := fun v' : Value => v') (Q := fun v' => Sl w v' (cellsOf maC (l.take 16)) (l.take 16).length) (G := fun _ => []) fn161 I I (fun w1 _ => mbox_any l v w w1 hv) ?_
 intro vb hvb
 obtain ⟨T, hT⟩ : ∃ T, T = l.take 16 := ⟨_, rfl⟩
 rw [← hT] at h16 hvb ⊢
 repeat' (first | refine zh ?_ | refine HL.lenR (Rd.arg hvb) I I I ?_ | intro (bk : Nat))
 refine HR.nilC 73 10 ?_
 refine HR.loop2 (α := Nat) (β := Value) (fun k o => k ≤ T.length) (fun k o => [(1, .int .i64 now), (2, .int .i64 life), (7, o), (11, vb), (12, .int .i64 (T.length : Int)), (13, .int .i64 (k : Int))]) (fun k o => [ownC o 73 10 ((T.take k).filter fun m => !bold now life m).length (cellsOf maC ((T.take k).filter fun m => !bold now life m))]) (fun k _ => T.length - k) 0 (.slice none 0 0) (Nat.zero_le _) ⟨I, I, I, I, I, I, trivial⟩ (Ent.pick [0] I I) ?_
 rintro k o hk ih
 have hfl : ((T.take k).filter fun m => !bold now life m).length ≤ 16 := Nat.le_trans (List.length_filter_le _ _) (by simp; omega)
 repeat' (first | refine zh ?_ | intro (bk : Nat))
 refine HR.cond I (fun h2 => ?_) (fun h2 => ?_)
 ·have hlt : k < T.length := by have := of_decide_eq_true h2; omega
  obtain ⟨x, hx⟩ := getSome hlt
  have hft := filt_take (fun m => !bold now life m) hx
  repeat' (first | refine zh ?_ | refine HL.idxR (Rd.arg hvb) elemMa k I I I I hlt ?_ | refine HL.loadE (Rd.arg hvb) I I I I (by simp) I (cellsOf_get maC_len hx) ?_ | refine HL.callB fn162 I I (fun w _ => mexpired_any x now life w) ?_ | intro (bk : Nat))
  refine HR.cond I (fun h3 => ?_) (fun h3 => ?_)
  ·have h3 : (!bold now life x) = true := h3
   rw [if_pos h3] at hft
   repeat' (first | refine zh ?_ | refine HL.bslice elemMa I I I I I (by decide) (by decide) ?_ | intro (bk : Nat))
   intro va
   repeat' (first | refine zh ?_ | refine HL.appR 2 I elemMa (Rd.own 0 I) I I I I (allOne_spec I) (by omega) (by omega) ?_ | intro (bk : Nat))
   intro o2
   repeat' (first | refine zh ?_ | intro (bk : Nat))
   refine ih (k + 1) o2 _ _ hlt (by omega) ⟨I, I, I, I, I, I, trivial⟩ (Ent.trans (Ent.pick [2] I I) (Ent.own0 ?_ ?_))
   ·rw [hft]; simp
   ·rw [hft, cellsOf_app]; rfl
  ·have h3 : (!bold now life x) = false := h3
   rw [if_neg (by rw [h3]; decide)] at hft
   repeat' (first | refine zh ?_ | intro (bk : Nat))
   refine ih (k + 1) o _ _ hlt (by omega) ⟨I, I, I, I, I, I, trivial⟩ (Ent.trans (Ent.pick [1] I I) (Ent.own0 ?_ ?_))
   ·rw [hft]
   ·rw [hft]
 ·have hke : k = T.length := by have := of_decide_eq_false h2; omega
  subst hke
  rw [List.take_length]
  repeat' (first | refine zh ?_ | intro (bk : Nat))
  refine HR.ret Tryz.func91 I [_] (fun _ _ => ⟨I, trivial⟩) ?_
  exact fun w' hw => ⟨o, rfl, hw⟩
end Go.Proofs.YtgdgclmkpoaagaaGreat
