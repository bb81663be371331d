/- A part of the proof: contracts of the program's functions. Conditions: none. -/
import Derived.Carry
import Derived.Deep.MidRow
import Derived.Deep.Quiet
import Derived.Laws.IdiomRangeMap
import Derived.Laws.MakeOwn
import Derived.Laws.StructEq
import Derived.Laws.Tables
import Derived.Lib.AppendStr
import Derived.Lib.AppendZerosOnto
import Derived.Lib.OthersKept
import Derived.Lib.Overlaps
import Derived.Lib.OwnBridge
import Derived.Lib.SlicesCompact
import Derived.MapKept
import Derived.Orders
import Derived.OrdersHeld
import Derived.Scope
import Derived.Sort.Grow
import Derived.StillTail
import Derived.Test.YtgdgclmkpoaagaaGreatProg
import Derived.WalkKit
import Derived.WalkLawsBesides
import Derived.WalkSpells
import Derived.Test.YtgdgclmkpoaagaaGreatGB1
import Derived.Test.YtgdgclmkpoaagaaGreatGB2
import Derived.Test.YtgdgclmkpoaagaaGreatGB3
import Derived.Test.YtgdgclmkpoaagaaGreatGB4
import Derived.Test.YtgdgclmkpoaagaaGreatGB5
import Derived.Test.YtgdgclmkpoaagaaGreatGB6
import Derived.Test.YtgdgclmkpoaagaaGreatGB7
set_option linter.unusedVariables false
set_option linter.unusedSectionVars false
set_option linter.unusedSimpArgs false
set_option maxRecDepth 100000
set_option maxHeartbeats 4000000
namespace Go.GX
open Go.RowKit
section
variable {P : Program} {f : FuncId} {N : Nat} {k : List Item} {σ : Store} {B : Base} {H H' F : List Chunk} {R : Ending → World → Prop} {ops l : List Oper} {o : Oper} {K : Act → World → Prop} {KQ : Act → Prop} {C : World → Prop}
 {d : Nat} {op : Op} {ty : TypeId} {pos : String} {af : Array Edge} {gd : Option (Nat × Bool)} {v u : Value} {w : World} {d' : Option Tmp} {p : List (Nat × Bool)} {i : Nat} {S : World → Prop}
theorem HR.exit {id : Nat} {k' : List Item} (he : exitTo id k = some k') (h : HR P f N k' σ B H R) : HR P f N (.code (.exit id) :: k) σ B H R := fun w hw => Run.exit he (h w hw)
end
end Go.GX
namespace Nd
open Go.GX Tp
def lforget (l : List Li) (n : Int) : List Li := (lval l).filter fun x => !(x.nd == n)
end Nd
namespace Nd
open Go.GX Tp
theorem lval_val (l : List Li) : lval (lval l) = lval l := by
 rw [lval, if_pos (lval_ok l)]
end Nd
namespace Nd
open Go.GX Tp
theorem lseen_ref {l rest : List Li} {n : Int} {ok : Bool} {k : Nat} {x : Li} (hr : ¬ (n < 0 ∨ n > 250)) (hrest : rest = lforget l n) (hx : (lat (lval l) n).getD ⟨n, 0, 0⟩ = x) (hf : ¬ (lat (lval l) n = none ∧ (lval l).length = 24))
  (hk : k ≤ rest.length) (h1 : ∀ j a, j < k → rest[j]? = some a → a.nd < n) (h2 : ∀ a, rest[k]? = some a → n ≤ a.nd) : lseen l n ok = rest.take k ++ lupd x ok :: rest.drop k := by
 obtain ⟨A, C, s⟩ := (lval_asc l).split n
 have hA : A.filter (fun x => !(x.nd == n)) = A := List.filter_eq_self.2 fun a ha => by have := s.lo a ha; simp; omega
 have htw := tw_at (p := fun x => decide (x.nd < n)) hk (fun j a hj ha => decide_eq_true (h1 j a hj ha)) (fun a ha => decide_eq_false (by have := h2 a ha; omega))
 have hl : lpos (lval l) n = A.length := by unfold lpos; rw [s.tw]
 unfold lforget at hrest
 rw [s.eq, List.filter_append, hA] at hrest
 rcases s.hi with ⟨h3, h4⟩ | ⟨y, D, rfl, hy, h3, h4⟩
 ·have hC : C.filter (fun x => !(x.nd == n)) = C := List.filter_eq_self.2 fun a ha => by have := h4 a ha; simp; omega
  rw [hC] at hrest
  have hs := tw_skip (p := fun x => decide (x.nd < n)) (A := A) (C := C) (fun a ha => decide_eq_true (s.lo a ha)) (fun c hc => decide_eq_false (by have := h4 c (List.mem_of_mem_head? hc); omega))
  rw [← hrest, htw.1, htw.2] at hs
  have hlat : lat (lval l) n = none := h3
  rw [hlat] at hx hf
  rw [lseen_new hr hlat (fun h => hf ⟨rfl, h⟩), hs.1, hs.2, hl, s.eq]
  subst hx
  simp
 ·have hC : (y :: D).filter (fun x => !(x.nd == n)) = D := by
   rw [List.filter_cons_of_neg (by simp [hy])]
   exact List.filter_eq_self.2 fun a ha => by have := h4 a ha; simp; omega
  rw [hC] at hrest
  have hs := tw_skip (p := fun x => decide (x.nd < n)) (A := A) (C := D) (fun a ha => decide_eq_true (s.lo a ha)) (fun c hc => decide_eq_false (by have := h4 c (List.mem_of_mem_head? hc); omega))
  rw [← hrest, htw.1, htw.2] at hs
  have hlat : lat (lval l) n = some y := h3
  rw [hlat] at hx
  simp only [Option.getD_some] at hx
  subst hx
  rw [lseen_is hr (x := y) (by rw [hl, s.eq]; exact get_mid I) hy, hs.1, hs.2, hl, s.eq]
  exact set_mid I
theorem radd_fin {fr cost : Int} {a : Ro} (hc : 1 ≤ cost ∧ cost ≤ 200) (ha : usable a = true) : fin (radd fr cost a) = (fin a && decide (a.cost + cost ≤ 200)) := by
 unfold radd
 split
 ·rename_i h
  obtain ⟨h1, h2⟩ := h
  have h1' := h1
  simp only [fin, Bool.and_eq_true, decide_eq_true_eq] at h1'
  simp only [h1, fin, Bool.true_and]
  rw [Bool.eq_iff_iff]
  simp only [Bool.and_eq_true, decide_eq_true_eq]
  omega
 ·rename_i h
  have : (fin a && decide (a.cost + cost ≤ 200)) = false := by
   rw [← Bool.not_eq_true]; intro h2
   simp only [Bool.and_eq_true, decide_eq_true_eq] at h2
   exact h h2
  rw [this]; simp [fin]
end Nd
namespace Nd
open Go.GX Tp
theorem pput_have {o : List Pt × Nat} {i : Nat} {d : By} {p : Pt} (hp : o.1[o.2]? = some p) (h : p.hv.getD i false = true) (ha : p.hv.all id = false) : pput o i d = ⟨o.1, [], false, 0⟩ := by
 have hg : o.1.getD o.2 pz = p := by rw [List.getD_eq_getElem?_getD, hp]; rfl
 unfold pput
 rw [hg, pmark_hv h, ha]
 simp only [Bool.false_eq_true, if_false]
 congr 1
 obtain ⟨hl, rfl⟩ := List.getElem?_eq_some_iff.1 hp
 exact List.set_getElem_self hl
end Nd
namespace Go.Proofs.YtgdgclmkpoaagaaGreat
open Go.GX Go.RowKit
attribute [local irreducible] Calls Run RunL RunQ RunD HR HL HD blkC ownC Rd
open Nd
theorem fn131 : IsFn Tryz.prog 131 := ⟨⟨_, _, Tryz.func131, rfl, by decide⟩⟩
theorem fn132 : IsFn Tryz.prog 132 := ⟨⟨_, _, Tryz.func132, rfl, by decide⟩⟩
theorem fn59 : IsFn Tryz.prog 59 := ⟨⟨_, _, Tryz.func59, rfl, by decide⟩⟩
theorem fn140 : IsFn Tryz.prog 140 := ⟨⟨_, _, Tryz.func140, rfl, by decide⟩⟩
theorem fn141 : IsFn Tryz.prog 141 := ⟨⟨_, _, Tryz.func141, rfl, by decide⟩⟩
theorem fn142 : IsFn Tryz.prog 142 := ⟨⟨_, _, Tryz.func142, rfl, by decide⟩⟩
theorem fn65 : IsFn Tryz.prog 65 := ⟨⟨_, _, Tryz.func65, rfl, by decide⟩⟩
theorem fn233 : IsFn Tryz.prog 233 := ⟨⟨_, _, Tryz.func233, rfl, by decide⟩⟩
theorem fn45 : IsFn Tryz.prog 45 := ⟨⟨_, _, Tryz.func45, rfl, by decide⟩⟩
theorem fn58 : IsFn Tryz.prog 58 := ⟨⟨_, _, Tryz.func58, rfl, by decide⟩⟩
theorem fn63 : IsFn Tryz.prog 63 := ⟨⟨_, _, Tryz.func63, rfl, by decide⟩⟩
theorem fn171 : IsFn Tryz.prog 171 := ⟨⟨_, _, Tryz.func171, rfl, by decide⟩⟩
theorem fn169 : IsFn Tryz.prog 169 := ⟨⟨_, _, Tryz.func169, rfl, by decide⟩⟩
theorem fn235 : IsFn Tryz.prog 235 := ⟨⟨_, _, Tryz.func235, rfl, by decide⟩⟩
theorem fn234 : IsFn Tryz.prog 234 := ⟨⟨_, _, Tryz.func234, rfl, by decide⟩⟩
theorem fn189 : IsFn Tryz.prog 189 := ⟨⟨_, _, Tryz.func189, rfl, by decide⟩⟩
theorem single_any (n : Int) (w : World) : Calls Tryz.prog 131 #[.int .i64 n] w fun e w' => e = .returned (.bool (Tp.okN n)) ∧ Below w.heap.size w w' := by
 refine calls_hr Tryz.func131 I (Nat.le_of_ble_eq_true I) ?_
 refine HR.sub (σ' := [(0, .int .i64 n)]) ⟨I, trivial⟩ ?_
 repeat' (first | refine zh ?_ | apply zb ?_ ?_ | exact zc | (refine zi fun hb => ?_; try simp at hb) | intro (bk : Nat))
 refine HR.ret Tryz.func131 I [_] (fun _ _ => ⟨I, trivial⟩) ?_
 exact fun w' hw => ⟨rfl, hw.belowB⟩
theorem address_any (n : Int) (w : World) : Calls Tryz.prog 45 #[.int .i64 n] w fun e w' => e = .returned (.bool (Tp.okN n)) ∧ Below w.heap.size w w' := by
 refine calls_hr Tryz.func45 I (Nat.le_of_ble_eq_true I) ?_
 refine HR.sub (σ' := [(0, .int .i64 n)]) ⟨I, trivial⟩ ?_
 repeat' (first | refine zh ?_ | apply zb ?_ ?_ | exact zc | (refine zi fun hb => ?_; try simp at hb) | intro (bk : Nat))
 refine HR.ret Tryz.func45 I [_] (fun _ _ => ⟨I, trivial⟩) ?_
 exact fun w' hw => ⟨rfl, hw.belowB⟩
theorem either_any (n : Int) (w : World) : Calls Tryz.prog 132 #[.int .i64 n] w fun e w' => e = .returned (.bool (okT n)) ∧ Below w.heap.size w w' := by
 refine calls_hr Tryz.func132 I (Nat.le_of_ble_eq_true I) ?_
 refine HR.sub (σ' := [(0, .int .i64 n)]) ⟨I, trivial⟩ ?_
 repeat' (first | refine zh ?_ | refine HL.callB fn131 I I (fun w _ => single_any n w) ?_ | apply zb ?_ ?_ | exact zc | (refine zi fun hb => ?_; try simp at hb) | intro (bk : Nat))
 refine HR.ret Tryz.func132 I [_] (fun _ _ => ⟨I, trivial⟩) ?_
 exact fun w' hw => ⟨rfl, hw.belowB⟩
theorem rrfin_any (r : Ro) (w : World) : Calls Tryz.prog 142 #[.agg ⟨roC r⟩] w fun e w' => e = .returned (.bool (fin r)) ∧ Below w.heap.size w w' := by
 refine calls_hr Tryz.func142 I (Nat.le_of_ble_eq_true I) ?_
 refine HR.sub (σ' := [(0, .agg ⟨roC r⟩)]) ⟨I, trivial⟩ ?_
 repeat' (first | refine zh ?_ | apply zb ?_ ?_ | exact zc | (refine zi fun hb => ?_; try simp at hb) | intro (bk : Nat))
 refine HR.ret Tryz.func142 I [_] (fun _ _ => ⟨I, trivial⟩) ?_
 exact fun w' hw => ⟨rfl, hw.belowB⟩
theorem rrlim_any (n : Int) (w : World) : Calls Tryz.prog 140 #[.int .i64 n] w fun e w' => e = .returned (.int .i64 (lim n)) ∧ Below w.heap.size w w' := by
 refine calls_hr Tryz.func140 I (Nat.le_of_ble_eq_true I) ?_
 refine HR.sub (σ' := [(0, .int .i64 n)]) ⟨I, trivial⟩ ?_
 repeat' (first | refine zh ?_ | apply zb ?_ ?_ | exact zc | (refine zi fun hb => ?_; try simp at hb) | intro (bk : Nat))
 refine HR.cond I (fun h => ?_) (fun h => ?_)
 ·have h : n < 0 := of_decide_eq_true h
  repeat' (first | refine zh ?_ | apply zb ?_ ?_ | exact zc | (refine zi fun hb => ?_; try simp at hb) | intro (bk : Nat))
  refine HR.ret Tryz.func140 I [_] (fun _ _ => ⟨I, trivial⟩) ?_
  exact fun w' hw => ⟨by rw [show lim n = 0 by unfold lim clamp; omega]; rfl, hw.belowB⟩
 have h : ¬ n < 0 := of_decide_eq_false h
 repeat' (first | refine zh ?_ | apply zb ?_ ?_ | exact zc | (refine zi fun hb => ?_; try simp at hb) | intro (bk : Nat))
 refine HR.cond I (fun h1 => ?_) (fun h1 => ?_)
 ·have h1 : n > 250 := of_decide_eq_true h1
  repeat' (first | refine zh ?_ | apply zb ?_ ?_ | exact zc | (refine zi fun hb => ?_; try simp at hb) | intro (bk : Nat))
  refine HR.ret Tryz.func140 I [_] (fun _ _ => ⟨I, trivial⟩) ?_
  exact fun w' hw => ⟨by rw [show lim n = 250 by unfold lim clamp; omega]; rfl, hw.belowB⟩
 ·have h1 : ¬ n > 250 := of_decide_eq_false h1
  repeat' (first | refine zh ?_ | apply zb ?_ ?_ | exact zc | (refine zi fun hb => ?_; try simp at hb) | intro (bk : Nat))
  refine HR.ret Tryz.func140 I [_] (fun _ _ => ⟨I, trivial⟩) ?_
  exact fun w' hw => ⟨by rw [show lim n = n by unfold lim clamp; omega]; rfl, hw.belowB⟩
theorem rrusable_any (r : Ro) (w : World) : Calls Tryz.prog 141 #[.agg ⟨roC r⟩] w fun e w' => e = .returned (.bool (usable r)) ∧ Below w.heap.size w w' := by
 refine calls_hr Tryz.func141 I (Nat.le_of_ble_eq_true I) ?_
 refine HR.sub (σ' := [(0, .agg ⟨roC r⟩)]) ⟨I, trivial⟩ ?_
 repeat' (first | refine zh ?_ | apply zb ?_ ?_ | exact zc | (refine zi fun hb => ?_; try simp at hb) | intro (bk : Nat))
 refine HR.cond I (fun h => ?_) (fun h => ?_)
 ·have h : (((decide (r.dest < 0) || decide (r.dest > 250)) || decide (r.sq < 0)) || decide (r.sq > 65535)) = true := h
  repeat' (first | refine zh ?_ | apply zb ?_ ?_ | exact zc | (refine zi fun hb => ?_; try simp at hb) | intro (bk : Nat))
  refine HR.ret Tryz.func141 I [_] (fun _ _ => ⟨I, trivial⟩) ?_
  refine fun w' hw => ⟨?_, hw.belowB⟩
  have : usable r = false := by
   rw [← Bool.not_eq_true]
   simp only [usable, Tp.okN, Bool.and_eq_true, Bool.or_eq_true, Bool.not_eq_true', Bool.or_eq_false_iff, decide_eq_true_eq, decide_eq_false_iff_not] at h ⊢
   omega
  rw [this]; rfl
 ·have h : (((decide (r.dest < 0) || decide (r.dest > 250)) || decide (r.sq < 0)) || decide (r.sq > 65535)) = false := h
  have h' := h
  simp only [Bool.or_eq_false_iff, decide_eq_false_iff_not] at h'
  have h0 : 0 ≤ r.sq := by omega
  repeat' (first | refine zh ?_ | refine HL.callB fn142 I I (fun w _ => rrfin_any r w) ?_ | apply zb ?_ ?_ | exact zc | (refine zi fun hb => ?_; try simp at hb) | intro (bk : Nat))
  refine HR.ret Tryz.func141 I [_] (fun _ _ => ⟨I, trivial⟩) ?_
  refine fun w' hw => ⟨?_, hw.belowB⟩
  have : usable r = ((fin r && (r.sq % 2 == 0)) || (r.cost == 255)) := by
   unfold usable Tp.okN
   have e1 : decide (r.sq < 0) = false := decide_eq_false (by omega)
   have e2 : decide (r.sq > 65535) = false := decide_eq_false (by omega)
   have e3 : decide (r.dest ≥ 0) = true := decide_eq_true (by omega)
   have e4 : decide (r.dest ≤ 250) = true := decide_eq_true (by omega)
   rw [e1, e2, e3, e4]; rfl
  rw [this]; rfl
theorem rrnew_any (n : Int) (w : World) : Calls Tryz.prog 65 #[.int .i64 n] w fun e w' => ∃ v, e = .returned v ∧ Sat (base w) [ownC v 79 4 (rnew n).length (cellsOf roC (rnew n))] w' := by
 refine calls_hr Tryz.func65 I (Nat.le_of_ble_eq_true I) ?_
 refine HR.sub (σ' := [(0, .int .i64 n)]) ⟨I, trivial⟩ ?_
 repeat' (first | refine zh ?_ | refine HL.callB fn140 I I (fun w _ => rrlim_any n w) ?_ | refine HL.bslice elemRo I I I I I (by decide) (by decide) ?_ | apply zb ?_ ?_ | exact zc | (refine zi fun hb => ?_; try simp at hb) | intro (bk : Nat))
 intro v
 repeat' (first | refine zh ?_ | apply zb ?_ ?_ | exact zc | (refine zi fun hb => ?_; try simp at hb) | intro (bk : Nat))
 refine HR.ret Tryz.func65 I [_] (fun _ _ => ⟨I, trivial⟩) ?_
 exact fun w' hw => ⟨v, rfl, hw⟩
theorem rrbetter_any (a b : Ro) (w : World) : Calls Tryz.prog 233 #[.agg ⟨roC a⟩, .agg ⟨roC b⟩] w fun e w' => e = .returned (.bool (better a b)) ∧ Below w.heap.size w w' := by
 refine calls_hr Tryz.func233 I (Nat.le_of_ble_eq_true I) ?_
 refine HR.sub (σ' := [(0, .agg ⟨roC a⟩), (1, .agg ⟨roC b⟩)]) ⟨I, I, trivial⟩ ?_
 repeat' (first | refine zh ?_ | apply zb ?_ ?_ | exact zc | (refine zi fun hb => ?_; try simp at hb) | intro (bk : Nat))
 refine HR.ret Tryz.func233 I [_] (fun _ _ => ⟨I, trivial⟩) ?_
 exact fun w' hw => ⟨rfl, hw.belowB⟩
theorem rclamp_any (n lo hi : Int) (hlh : lo ≤ hi) (w : World) : Calls Tryz.prog 63 #[.int .i64 n, .int .i64 lo, .int .i64 hi] w fun e w' => e = .returned (.int .i64 (clamp n lo hi)) ∧ Below w.heap.size w w' := by
 refine calls_hr Tryz.func63 I (Nat.le_of_ble_eq_true I) ?_
 refine HR.sub (σ' := [(0, .int .i64 n), (1, .int .i64 lo), (2, .int .i64 hi)]) ⟨I, I, I, trivial⟩ ?_
 repeat' (first | refine zh ?_ | apply zb ?_ ?_ | exact zc | (refine zi fun hb => ?_; try simp at hb) | intro (bk : Nat))
 refine HR.cond I (fun h => ?_) (fun h => ?_)
 ·have h : (decide (hi < lo) || decide (n > hi)) = true := h
  simp only [Bool.or_eq_true, decide_eq_true_eq] at h
  repeat' (first | refine zh ?_ | apply zb ?_ ?_ | exact zc | (refine zi fun hb => ?_; try simp at hb) | intro (bk : Nat))
  refine HR.ret Tryz.func63 I [_] (fun _ _ => ⟨I, trivial⟩) ?_
  exact fun w' hw => ⟨by rw [show clamp n lo hi = hi by unfold clamp; omega]; rfl, hw.belowB⟩
 have h : (decide (hi < lo) || decide (n > hi)) = false := h
 simp only [Bool.or_eq_false_iff, decide_eq_false_iff_not] at h
 repeat' (first | refine zh ?_ | apply zb ?_ ?_ | exact zc | (refine zi fun hb => ?_; try simp at hb) | intro (bk : Nat))
 refine HR.cond I (fun h1 => ?_) (fun h1 => ?_)
 ·have h1 : n < lo := of_decide_eq_true h1
  repeat' (first | refine zh ?_ | apply zb ?_ ?_ | exact zc | (refine zi fun hb => ?_; try simp at hb) | intro (bk : Nat))
  refine HR.ret Tryz.func63 I [_] (fun _ _ => ⟨I, trivial⟩) ?_
  exact fun w' hw => ⟨by rw [show clamp n lo hi = lo by unfold clamp; omega]; rfl, hw.belowB⟩
 ·have h1 : ¬ n < lo := of_decide_eq_false h1
  repeat' (first | refine zh ?_ | apply zb ?_ ?_ | exact zc | (refine zi fun hb => ?_; try simp at hb) | intro (bk : Nat))
  refine HR.ret Tryz.func63 I [_] (fun _ _ => ⟨I, trivial⟩) ?_
  exact fun w' hw => ⟨by rw [show clamp n lo hi = n by unfold clamp; omega]; rfl, hw.belowB⟩
theorem rtick_any (n : Int) (w : World) : Calls Tryz.prog 58 #[.int .i64 n] w fun e w' => e = .returned (.int .i64 (tick n)) ∧ Below w.heap.size w w' := by
 refine calls_hr Tryz.func58 I (Nat.le_of_ble_eq_true I) ?_
 refine HR.sub (σ' := [(0, .int .i64 n)]) ⟨I, trivial⟩ ?_
 repeat' (first | refine zh ?_ | refine HL.callB fn63 I I (fun w _ => rclamp_any n 0 1099511627776 (by decide) w) ?_ | apply zb ?_ ?_ | exact zc | (refine zi fun hb => ?_; try simp at hb) | intro (bk : Nat))
 refine HR.ret Tryz.func58 I [_] (fun _ _ => ⟨I, trivial⟩) ?_
 exact fun w' hw => ⟨rfl, hw.belowB⟩
theorem r15tick_any (n : Int) (w : World) : Calls Tryz.prog 171 #[.int .i64 n] w fun e w' => e = .returned (.int .i64 (tick n)) ∧ Below w.heap.size w w' := by
 refine calls_hr Tryz.func171 I (Nat.le_of_ble_eq_true I) ?_
 refine HR.sub (σ' := [(0, .int .i64 n)]) ⟨I, trivial⟩ ?_
 repeat' (first | refine zh ?_ | apply zb ?_ ?_ | exact zc | (refine zi fun hb => ?_; try simp at hb) | intro (bk : Nat))
 refine HR.cond I (fun h => ?_) (fun h => ?_)
 ·have h : n < 0 := of_decide_eq_true h
  repeat' (first | refine zh ?_ | apply zb ?_ ?_ | exact zc | (refine zi fun hb => ?_; try simp at hb) | intro (bk : Nat))
  refine HR.ret Tryz.func171 I [_] (fun _ _ => ⟨I, trivial⟩) ?_
  exact fun w' hw => ⟨by rw [show tick n = 0 by unfold tick clamp maxTick; omega]; rfl, hw.belowB⟩
 have h : ¬ n < 0 := of_decide_eq_false h
 repeat' (first | refine zh ?_ | apply zb ?_ ?_ | exact zc | (refine zi fun hb => ?_; try simp at hb) | intro (bk : Nat))
 refine HR.cond I (fun h1 => ?_) (fun h1 => ?_)
 ·have h1 : n > 1099511627776 := of_decide_eq_true h1
  repeat' (first | refine zh ?_ | apply zb ?_ ?_ | exact zc | (refine zi fun hb => ?_; try simp at hb) | intro (bk : Nat))
  refine HR.ret Tryz.func171 I [_] (fun _ _ => ⟨I, trivial⟩) ?_
  exact fun w' hw => ⟨by rw [show tick n = 1099511627776 by unfold tick clamp maxTick; omega]; rfl, hw.belowB⟩
 ·have h1 : ¬ n > 1099511627776 := of_decide_eq_false h1
  repeat' (first | refine zh ?_ | apply zb ?_ ?_ | exact zc | (refine zi fun hb => ?_; try simp at hb) | intro (bk : Nat))
  refine HR.ret Tryz.func171 I [_] (fun _ _ => ⟨I, trivial⟩) ?_
  exact fun w' hw => ⟨by rw [show tick n = n by unfold tick clamp maxTick; omega]; rfl, hw.belowB⟩
theorem r13lim_any (n : Int) (w : World) : Calls Tryz.prog 169 #[.int .i64 n] w fun e w' => e = .returned (.int .i64 (tick n)) ∧ Below w.heap.size w w' := by
 refine calls_hr Tryz.func169 I (Nat.le_of_ble_eq_true I) ?_
 refine HR.sub (σ' := [(0, .int .i64 n)]) ⟨I, trivial⟩ ?_
 repeat' (first | refine zh ?_ | apply zb ?_ ?_ | exact zc | (refine zi fun hb => ?_; try simp at hb) | intro (bk : Nat))
 refine HR.cond I (fun h => ?_) (fun h => ?_)
 ·have h : n < 0 := of_decide_eq_true h
  repeat' (first | refine zh ?_ | apply zb ?_ ?_ | exact zc | (refine zi fun hb => ?_; try simp at hb) | intro (bk : Nat))
  refine HR.ret Tryz.func169 I [_] (fun _ _ => ⟨I, trivial⟩) ?_
  exact fun w' hw => ⟨by rw [show tick n = 0 by unfold tick clamp maxTick; omega]; rfl, hw.belowB⟩
 have h : ¬ n < 0 := of_decide_eq_false h
 repeat' (first | refine zh ?_ | apply zb ?_ ?_ | exact zc | (refine zi fun hb => ?_; try simp at hb) | intro (bk : Nat))
 refine HR.cond I (fun h1 => ?_) (fun h1 => ?_)
 ·have h1 : n > 1099511627776 := of_decide_eq_true h1
  repeat' (first | refine zh ?_ | apply zb ?_ ?_ | exact zc | (refine zi fun hb => ?_; try simp at hb) | intro (bk : Nat))
  refine HR.ret Tryz.func169 I [_] (fun _ _ => ⟨I, trivial⟩) ?_
  exact fun w' hw => ⟨by rw [show tick n = 1099511627776 by unfold tick clamp maxTick; omega]; rfl, hw.belowB⟩
 ·have h1 : ¬ n > 1099511627776 := of_decide_eq_false h1
  repeat' (first | refine zh ?_ | apply zb ?_ ?_ | exact zc | (refine zi fun hb => ?_; try simp at hb) | intro (bk : Nat))
  refine HR.ret Tryz.func169 I [_] (fun _ _ => ⟨I, trivial⟩) ?_
  exact fun w' hw => ⟨by rw [show tick n = n by unfold tick clamp maxTick; omega]; rfl, hw.belowB⟩
end Go.Proofs.YtgdgclmkpoaagaaGreat
namespace Nd
open Go.GX Tp
theorem ne_lim (n : Int) : (n != lim n) = !okN n := by
 rw [Bool.eq_iff_iff]
 simp only [bne_iff_ne, ne_eq, Bool.not_eq_true', okN, Bool.and_eq_false_iff, decide_eq_false_iff_not]
 unfold lim clamp; omega
def rlook (t : List Ro) (d : Int) : Int := match t.findIdx? (fun x => x.dest == d) with
 | some i => i
 | none => -1
theorem rlook_at {t : List Ro} {d : Int} {i : Nat} {x : Ro} (hx : t[i]? = some x) (hd : (x.dest == d) = true) (hno : ∀ j a, j < i → t[j]? = some a → (a.dest == d) = false) : rlook t d = i := by
 have : t.findIdx? (fun x => x.dest == d) = some i := by
  rw [List.findIdx?_eq_some_iff_getElem]
  obtain ⟨hl, rfl⟩ := List.getElem?_eq_some_iff.1 hx
  exact ⟨hl, hd, fun j hj => by rw [hno j _ hj (List.getElem?_eq_getElem (by omega))]; decide⟩
 unfold rlook; rw [this]
theorem rlook_none {t : List Ro} {d : Int} (hno : ∀ j a, j < t.length → t[j]? = some a → (a.dest == d) = false) : rlook t d = -1 := by
 have : t.findIdx? (fun x => x.dest == d) = none := by
  rw [List.findIdx?_eq_none_iff]
  intro x hx
  obtain ⟨j, hj⟩ := List.getElem?_of_mem hx
  exact hno j x (List.getElem?_eq_some_iff.1 hj).1 hj
 unfold rlook; rw [this]
theorem rlook_cases (t : List Ro) (d : Int) : (rlook t d = -1 ∧ rat t d = none) ∨ ∃ (i : Nat) (x : Ro), rlook t d = i ∧ t[i]? = some x ∧ x.dest = d ∧ rat t d = some x := by
 unfold rlook
 cases h : t.findIdx? (fun x => x.dest == d) with
 | none =>
  refine .inl ⟨rfl, List.find?_eq_none.2 fun x hx => ?_⟩
  have := List.findIdx?_eq_none_iff.1 h x hx
  simp [this]
 | some i =>
  obtain ⟨hl, hd, hno⟩ := List.findIdx?_eq_some_iff_getElem.1 h
  refine .inr ⟨i, t[i], rfl, List.getElem?_eq_getElem hl, by simpa using hd, find_first (List.getElem?_eq_getElem hl) hd fun j a hj ha => ?_⟩
  obtain ⟨hl', rfl⟩ := List.getElem?_eq_some_iff.1 ha
  simpa using hno j hj
end Nd
namespace Nd
open Go.GX Tp
theorem rlook_asc {t : List Ro} (h : Asc (·.dest) t) {d : Int} {i : Nat} {x : Ro} (hx : t[i]? = some x) (hd : x.dest = d) : rpos t d = i ∧ rat t d = some x := h.pos_is hx hd
end Nd
namespace Go.GX
open Go.RowKit
section
variable {P : Program} {f : FuncId} {N : Nat} {k : List Item} {σ : Store} {B : Base} {H : List Chunk} {R : Ending → World → Prop} {ops l : List Oper} {o : Oper} {K : Act → World → Prop}
variable {d : Nat} {d' : Option Nat} {ty : TypeId} {pos : String} {af : Array Edge} {gd : Option (Nat × Bool)} {u v : Value}
theorem hx_quoT {t t' : TypeId} {x y : Operand} {a b : Int} (hx : lookO σ x = some (.int .i64 a)) (hy : lookO σ y = some (.int .i64 b)) (hb : b ≠ 0) (hf : fits .i64 (a.tdiv b)) (w : World) :
  (execOp (evO σ) ⟨d', .binOp .quo t x y t', ty, pos, af, gd⟩).run P w = .ok (.value (.int .i64 (a.tdiv b))) w := by
 have := wrap_fits hf
 simp [execOp, evO_of_lookO hx, evO_of_lookO hy, eqGuard, binOp, Op.intDiv, this, hb]
theorem hx_remT {t t' : TypeId} {x y : Operand} {a b : Int} (hx : lookO σ x = some (.int .i64 a)) (hy : lookO σ y = some (.int .i64 b)) (hb : b ≠ 0) (w : World) :
  (execOp (evO σ) ⟨d', .binOp .rem t x y t', ty, pos, af, gd⟩).run P w = .ok (.value (.int .i64 (a.tmod b))) w := by
 simp [execOp, evO_of_lookO hx, evO_of_lookO hy, eqGuard, binOp, Op.intDiv, hb]
theorem HL.quoT {t t' : TypeId} {x y : Operand} {a b : Int} (hs : stat N ops ⟨some d, .binOp .quo t x y t', ty, pos, af, gd⟩ σ = true) (hx : lookO σ x = some (.int .i64 a)) (hy : lookO σ y = some (.int .i64 b)) (hb : b ≠ 0) (hf : fits .i64 (a.tdiv b))
  (h : HL P N ops l ((d, .int .i64 (a.tdiv b)) :: σ) B H K) : HL P N ops (⟨some d, .binOp .quo t x y t', ty, pos, af, gd⟩ :: l) σ B H K := HL.rd hs (fun w _ => hx_quoT hx hy hb hf w) h
theorem HL.remT {t t' : TypeId} {x y : Operand} {a b : Int} (hs : stat N ops ⟨some d, .binOp .rem t x y t', ty, pos, af, gd⟩ σ = true) (hx : lookO σ x = some (.int .i64 a)) (hy : lookO σ y = some (.int .i64 b)) (hb : b ≠ 0)
  (h : HL P N ops l ((d, .int .i64 (a.tmod b)) :: σ) B H K) : HL P N ops (⟨some d, .binOp .rem t x y t', ty, pos, af, gd⟩ :: l) σ B H K := HL.rd hs (fun w _ => hx_remT hx hy hb w) h
end
end Go.GX
namespace Go.Proofs.YtgdgclmkpoaagaaGreat
open Go.GX Go.RowKit
attribute [local irreducible] Calls Run RunL RunQ RunD HR HL HD blkC ownC Rd
open Nd
theorem fn64 : IsFn Tryz.prog 64 := ⟨⟨_, _, Tryz.func64, rfl, by decide⟩⟩
theorem fn143 : IsFn Tryz.prog 143 := ⟨⟨_, _, Tryz.func143, rfl, by decide⟩⟩
theorem fn159 : IsFn Tryz.prog 159 := ⟨⟨_, _, Tryz.func159, rfl, by decide⟩⟩
theorem fn136 : IsFn Tryz.prog 136 := ⟨⟨_, _, Tryz.func136, rfl, by decide⟩⟩
end Go.Proofs.YtgdgclmkpoaagaaGreat
namespace Go.Proofs.YtgdgclmkpoaagaaGreat
open Go.GX Go.RowKit
attribute [local irreducible] Calls Run RunL RunQ RunD HR HL HD blkC ownC Rd
open Nd
theorem r11find_any (t : List Ro) (d : Int) (v : Value) (w : World) (hv : Sl w v (cellsOf roC t) t.length) (hl : t.length ≤ 1000) :
  Calls Tryz.prog 143 #[v, .int .i64 d] w fun e w' => e = .returned (.int .i64 (rlook t d)) ∧ Below w.heap.size w w' := by
 refine calls_hr Tryz.func143 I (Nat.le_of_ble_eq_true I) ?_
 refine HR.sub (σ' := [(0, v), (1, .int .i64 d)]) ⟨I, I, trivial⟩ ?_
 repeat' (first | refine zh ?_ | apply zb ?_ ?_ | exact zc | (refine zi fun hb => ?_; try simp at hb) | intro (bk : Nat))
 refine HR.loop (ι := Nat) (fun k => k ≤ t.length ∧ ∀ j a, j < k → t[j]? = some a → (a.dest == d) = false) (fun k => [(0, v), (1, .int .i64 d), (5, .int .i64 (k : Int))]) (fun _ => []) (fun k => t.length - k) 0 ⟨Nat.zero_le _, fun j a hj => by omega⟩ ⟨I, I, I, trivial⟩ Ent.refl ?_
 rintro k ⟨hk, hg⟩ ih
 repeat' (first | refine zh ?_ | refine HL.lenR (Rd.arg hv) I I I ?_ | apply zb ?_ ?_ | exact zc | (refine zi fun hb => ?_; try simp at hb) | intro (bk : Nat))
 refine HR.cond I (fun h2 => ?_) (fun h2 => ?_)
 ·have hlt : k < t.length := by have := of_decide_eq_true h2; omega
  obtain ⟨x, hx⟩ := getSome hlt
  repeat' (first | refine zh ?_ | refine HL.idxR (Rd.arg hv) elemRo k I I I I hlt ?_ | refine HL.fieldE (Rd.arg hv) (by rw [cellsOf_len roC_len]; omega) I I I I I I ?_ | refine HL.loadI (Rd.arg hv) I I I I (cells_get roC_len hx (i := 0) I) ?_ | apply zb ?_ ?_ | exact zc | (refine zi fun hb => ?_; try simp at hb) | intro (bk : Nat))
  refine HR.cond I (fun h3 => ?_) (fun h3 => ?_)
  ·have h3 : (x.dest == d) = true := h3
   repeat' (first | refine zh ?_ | apply zb ?_ ?_ | exact zc | (refine zi fun hb => ?_; try simp at hb) | intro (bk : Nat))
   refine HR.ret Tryz.func143 I [_] (fun _ _ => ⟨I, trivial⟩) ?_
   exact fun w' hw => ⟨by rw [rlook_at hx h3 hg]; rfl, hw.belowB⟩
  ·have h3 : (x.dest == d) = false := h3
   repeat' (first | refine zh ?_ | apply zb ?_ ?_ | exact zc | (refine zi fun hb => ?_; try simp at hb) | intro (bk : Nat))
   refine ih (k + 1) _ _ ⟨hlt, fun j a hj ha => ?_⟩ (by omega) ⟨I, I, I, trivial⟩ (Ent.pick [] I I)
   by_cases hjk : j = k
   ·subst hjk; rw [hx] at ha; cases ha; exact h3
   ·exact hg j a (by omega) ha
 ·have hke : k = t.length := by have := of_decide_eq_false h2; omega
  subst hke
  repeat' (first | refine zh ?_ | apply zb ?_ ?_ | exact zc | (refine zi fun hb => ?_; try simp at hb) | intro (bk : Nat))
  refine HR.ret Tryz.func143 I [_] (fun _ _ => ⟨I, trivial⟩) ?_
  exact fun w' hw => ⟨by rw [rlook_none hg]; rfl, hw.belowB⟩
theorem rform_ref (self : Int) (x : Ro) : (((x.dest == self) && !((x.cost == 0) && (x.nx == self))) || ((x.dest != self) && ((x.cost == 0) || (x.nx == self)))) = rform self x := by
 unfold rform
 by_cases hd : x.dest = self
 ·rw [if_pos hd]; simp [hd]
 ·have e : (x.dest == self) = false := by simpa using hd
  rw [if_neg hd, e, bne, e]; rfl
theorem rrange_ref (x : Ro) : ((!usable x || (fin x && (x.nx != lim x.nx))) || (!fin x && (x.nx != 255))) = rrange x := by
 rw [ne_lim]; rfl
theorem r11check_any (t : List Ro) (self : Int) (v : Value) (w : World) (hv : Sl w v (cellsOf roC t) t.length) (hl : t.length ≤ 1000) :
  Calls Tryz.prog 64 #[v, .int .i64 self] w fun e w' => e = .returned (.int .i64 (rchk t self)) ∧ Below w.heap.size w w' := by
 refine calls_hr Tryz.func64 I (Nat.le_of_ble_eq_true I) ?_
 refine HR.sub (σ' := [(0, v), (1, .int .i64 self)]) ⟨I, I, trivial⟩ ?_
 repeat' (first | refine zh ?_ | refine HL.lenR (Rd.arg hv) I I I ?_ | apply zb ?_ ?_ | exact zc | (refine zi fun hb => ?_; try simp at hb) | intro (bk : Nat))
 refine HR.cond I (fun h => ?_) (fun h => ?_)
 ·have h : t.length > 24 := by have := of_decide_eq_true h; omega
  repeat' (first | refine zh ?_ | apply zb ?_ ?_ | exact zc | (refine zi fun hb => ?_; try simp at hb) | intro (bk : Nat))
  refine HR.ret Tryz.func64 I [_] (fun _ _ => ⟨I, trivial⟩) ?_
  exact fun w' hw => ⟨by rw [rchk, if_pos h]; rfl, hw.belowB⟩
 have h : t.length ≤ 24 := by have := of_decide_eq_false h; omega
 repeat' (first | refine zh ?_ | refine HL.callB fn140 I I (fun w _ => rrlim_any self w) ?_ | apply zb ?_ ?_ | exact zc | (refine zi fun hb => ?_; try simp at hb) | intro (bk : Nat))
 refine HR.cond I (fun h0 => ?_) (fun h0 => ?_)
 ·have h0 : (self != lim self) = true := h0
  rw [ne_lim] at h0
  have h0 : Tp.okN self = false := by simpa using h0
  repeat' (first | refine zh ?_ | apply zb ?_ ?_ | exact zc | (refine zi fun hb => ?_; try simp at hb) | intro (bk : Nat))
  refine HR.ret Tryz.func64 I [_] (fun _ _ => ⟨I, trivial⟩) ?_
  exact fun w' hw => ⟨by rw [rchk, if_neg (by omega), if_pos h0]; rfl, hw.belowB⟩
 have h0 : (self != lim self) = false := h0
 rw [ne_lim] at h0
 have h0 : Tp.okN self = true := by simpa using h0
 repeat' (first | refine zh ?_ | apply zb ?_ ?_ | exact zc | (refine zi fun hb => ?_; try simp at hb) | intro (bk : Nat))
 refine HR.loop (ι := Nat) (fun k => k ≤ t.length ∧ firstE (rbad t) k = 0) (fun k => [(0, v), (1, .int .i64 self), (5, .int .i64 (k : Int))]) (fun _ => []) (fun k => t.length - k) 0 ⟨Nat.zero_le _, rfl⟩ ⟨I, I, I, trivial⟩ Ent.refl ?_
 rintro k ⟨hk, hg⟩ ih
 repeat' (first | refine zh ?_ | refine HL.lenR (Rd.arg hv) I I I ?_ | apply zb ?_ ?_ | exact zc | (refine zi fun hb => ?_; try simp at hb) | intro (bk : Nat))
 refine HR.cond I (fun h2 => ?_) (fun h2 => ?_)
 ·have hlt : k < t.length := by have := of_decide_eq_true h2; omega
  obtain ⟨x, hx⟩ := getSome hlt
  repeat' (first | refine zh ?_ | apply zb ?_ ?_ | exact zc | (refine zi fun hb => ?_; try simp at hb) | intro (bk : Nat))
  refine HR.regionQ hmix (by kernel_rfl) ?_
  repeat' (first | refine zq ?_ | refine HQ.idxR (Rd.arg hv) elemRo k I I I I hlt ?_ | refine HQ.loadE (Rd.arg hv) I I I I (by simp) I (cellsOf_get roC_len hx) ?_ | refine HQ.fieldE (Rd.arg hv) (by rw [cellsOf_len roC_len]; omega) I I I I I I ?_ | refine HQ.loadI (Rd.arg hv) I I I I (cells_get roC_len hx (i := 3) I) ?_ | refine HQ.callB fn141 I I (fun w _ => rrusable_any _ w) ?_ | refine HQ.callB fn142 I I (fun w _ => rrfin_any _ w) ?_ | refine HQ.callB fn140 I I (fun w _ => rrlim_any _ w) ?_ | apply zb ?_ ?_ | exact zc | (refine zi fun hb => ?_; try simp at hb))
  refine HR.cond I (fun h3 => ?_) (fun h3 => ?_)
  ·have h3 : rrange x = true := by rw [← rrange_ref]; exact h3
   repeat' (first | refine zh ?_ | apply zb ?_ ?_ | exact zc | (refine zi fun hb => ?_; try simp at hb) | intro (bk : Nat))
   refine HR.ret Tryz.func64 I [_] (fun _ _ => ⟨I, trivial⟩) ?_
   refine fun w' hw => ⟨?_, hw.belowB⟩
   have e := rbad_range hx h3
   rw [rchk_first h h0 hg (by rw [e]; decide) hlt, e]; rfl
  have h3 : rrange x = false := by rw [← rrange_ref]; exact h3
  obtain ⟨y, hy⟩ := getSome (l := t) (j := k - 1) (by omega)
  repeat' (first | refine zh ?_ | apply zb ?_ ?_ | exact zc | (refine zi fun hb => ?_; try simp at hb) | intro (bk : Nat))
  refine HR.regionQ hmix (by kernel_rfl) ?_
  repeat' (first | refine zq ?_ | refine HQ.idxR (Rd.arg hv) elemRo k I I I I hlt ?_ | refine HQ.idxR (Rd.arg hv) elemRo (k - 1) I I I (by omega) (by omega) ?_ | refine HQ.fieldE (Rd.arg hv) (by rw [cellsOf_len roC_len]; omega) I I I I I I ?_ | refine HQ.loadI (Rd.arg hv) I I I I (cells_get roC_len hx (i := 0) I) ?_ | refine HQ.loadI (Rd.arg hv) I I I I (cells_get roC_len hy (i := 0) I) ?_ | apply zb ?_ ?_ | exact zc | (refine zi fun hb => ?_; try simp at hb))
  refine HR.cond I (fun h4 => ?_) (fun h4 => ?_)
  ·have h4 : (decide ((k : Int) > 0) && decide (x.dest ≤ y.dest)) = true := h4
   simp only [Bool.and_eq_true, decide_eq_true_eq] at h4
   repeat' (first | refine zh ?_ | apply zb ?_ ?_ | exact zc | (refine zi fun hb => ?_; try simp at hb) | intro (bk : Nat))
   refine HR.ret Tryz.func64 I [_] (fun _ _ => ⟨I, trivial⟩) ?_
   refine fun w' hw => ⟨?_, hw.belowB⟩
   have e := rbad_order hx h3 (by omega) hy h4.2
   rw [rchk_first h h0 hg (by rw [e]; decide) hlt, e]; rfl
  ·have h4 : (decide ((k : Int) > 0) && decide (x.dest ≤ y.dest)) = false := h4
   have hg2 : firstE (rbad t) (k + 1) = 0 := firstE_step hg (rbad_ok hx h3 fun y' h0 hy' hle => by
    rw [hy] at hy'
    cases hy'
    rw [decide_eq_true (show (k : Int) > 0 by omega), decide_eq_true hle] at h4
    cases h4)
   repeat' (first | refine zh ?_ | apply zb ?_ ?_ | exact zc | (refine zi fun hb => ?_; try simp at hb) | intro (bk : Nat))
   exact ih (k + 1) _ _ ⟨hlt, hg2⟩ (by omega) ⟨I, I, I, trivial⟩ (Ent.pick [] I I)
 have hke : k = t.length := by have := of_decide_eq_false h2; omega
 subst hke
 obtain ⟨hrr, hasc⟩ := first_asc hg
 repeat' (first | refine zh ?_ | refine HL.callB fn143 I I (fun w hw => r11find_any t self v w ((Rd.arg hv).at hw) hl) ?_ | apply zb ?_ ?_ | exact zc | (refine zi fun hb => ?_; try simp at hb) | intro (bk : Nat))
 refine HR.cond I (fun h6 => ?_) (fun h6 => ?_)
 ·have h6 : rlook t self < 0 := of_decide_eq_true h6
  have hany : (t.any fun r => r.dest == self) = false := by
   rcases rlook_cases t self with ⟨_, e⟩ | ⟨i, x, e, _⟩
   ·rw [← Bool.not_eq_true, List.any_eq_true]
    rintro ⟨r, hr, he⟩
    exact List.find?_eq_none.1 e r hr he
   ·omega
  repeat' (first | refine zh ?_ | apply zb ?_ ?_ | exact zc | (refine zi fun hb => ?_; try simp at hb) | intro (bk : Nat))
  refine HR.ret Tryz.func64 I [_] (fun _ _ => ⟨I, trivial⟩) ?_
  exact fun w' hw => ⟨by rw [rchk_8 h h0 hg hany]; rfl, hw.belowB⟩
 have h6 : ¬ rlook t self < 0 := of_decide_eq_false h6
 have hany : (t.any fun r => r.dest == self) = true := by
  rcases rlook_cases t self with ⟨e, _⟩ | ⟨i, x, _, e, he, _⟩
  ·omega
  ·exact any_of_get e he
 repeat' (first | refine zh ?_ | apply zb ?_ ?_ | exact zc | (refine zi fun hb => ?_; try simp at hb) | intro (bk : Nat))
 refine HR.loop (ι := Nat) (fun k => k ≤ t.length ∧ (t.take k).any (rform self) = false) (fun k => [(0, v), (1, .int .i64 self), (6, .int .i64 (k : Int))]) (fun _ => []) (fun k => t.length - k) 0 ⟨Nat.zero_le _, rfl⟩ ⟨I, I, I, trivial⟩ Ent.refl ?_
 rintro k ⟨hk, hf⟩ ih
 repeat' (first | refine zh ?_ | refine HL.lenR (Rd.arg hv) I I I ?_ | apply zb ?_ ?_ | exact zc | (refine zi fun hb => ?_; try simp at hb) | intro (bk : Nat))
 refine HR.cond I (fun h2 => ?_) (fun h2 => ?_)
 ·have hlt : k < t.length := by have := of_decide_eq_true h2; omega
  obtain ⟨x, hx⟩ := getSome hlt
  repeat' (first | refine zh ?_ | refine HL.idxR (Rd.arg hv) elemRo k I I I I hlt ?_ | refine HL.fieldE (Rd.arg hv) (by rw [cellsOf_len roC_len]; omega) I I I I I I ?_ | refine HL.loadI (Rd.arg hv) I I I I (cells_get roC_len hx (i := 0) I) ?_ | refine HL.loadI (Rd.arg hv) I I I I (cells_get roC_len hx (i := 2) I) ?_ | refine HL.loadI (Rd.arg hv) I I I I (cells_get roC_len hx (i := 3) I) ?_ | apply zb ?_ ?_ | exact zc | (refine zi fun hb => ?_; try simp at hb) | intro (bk : Nat))
  refine HR.cond I (fun h3 => ?_) (fun h3 => ?_)
  ·have h3 : rform self x = true := by rw [← rform_ref]; exact h3
   repeat' (first | refine zh ?_ | apply zb ?_ ?_ | exact zc | (refine zi fun hb => ?_; try simp at hb) | intro (bk : Nat))
   refine HR.ret Tryz.func64 I [_] (fun _ _ => ⟨I, trivial⟩) ?_
   exact fun w' hw => ⟨by rw [rchk_4 h h0 hg hany (any_at hx h3)]; rfl, hw.belowB⟩
  ·have h3 : rform self x = false := by rw [← rform_ref]; exact h3
   repeat' (first | refine zh ?_ | apply zb ?_ ?_ | exact zc | (refine zi fun hb => ?_; try simp at hb) | intro (bk : Nat))
   exact ih (k + 1) _ _ ⟨hlt, any_take hx hf h3⟩ (by omega) ⟨I, I, I, trivial⟩ (Ent.pick [] I I)
 ·have hke : k = t.length := by have := of_decide_eq_false h2; omega
  subst hke
  rw [List.take_length] at hf
  repeat' (first | refine zh ?_ | apply zb ?_ ?_ | exact zc | (refine zi fun hb => ?_; try simp at hb) | intro (bk : Nat))
  refine HR.ret Tryz.func64 I [_] (fun _ _ => ⟨I, trivial⟩) ?_
  exact fun w' hw => ⟨by rw [rchk_0 h h0 hg hany hf]; rfl, hw.belowB⟩
theorem r11table_any (t : List Ro) (self : Int) (v : Value) (w : World) (hv : Sl w v (cellsOf roC t) t.length) (hl : t.length ≤ 1000) :
  Calls Tryz.prog 159 #[v, .int .i64 self] w fun e w' => ∃ v', e = .returned v' ∧ Sat (base w) [ownC v' 79 4 (rtab t self).length (cellsOf roC (rtab t self))] w' := by
 refine calls_hr Tryz.func159 I (Nat.le_of_ble_eq_true I) ?_
 refine HR.sub (σ' := [(0, v), (1, .int .i64 self)]) ⟨I, I, trivial⟩ ?_
 repeat' (first | refine zh ?_ | refine HL.callB fn140 I I (fun w _ => rrlim_any self w) ?_ | refine HL.callB fn64 I I (fun w hw => r11check_any t (lim self) v w ((Rd.arg hv).at hw) hl) ?_ | apply zb ?_ ?_ | exact zc | (refine zi fun hb => ?_; try simp at hb) | intro (bk : Nat))
 refine HR.cond I (fun h => ?_) (fun h => ?_)
 ·have h : ¬ rchk t (lim self) = 0 := by simpa using h
  repeat' (first | refine zh ?_ | refine HL.callO fn65 I I (fun w _ => rrnew_any self w) ?_ | intro (bk : Nat))
  intro v1
  repeat' (first | refine zh ?_ | intro (bk : Nat))
  refine HR.ret Tryz.func159 I [_] (fun _ _ => ⟨I, trivial⟩) ?_
  refine fun w' hw => ⟨v1, rfl, ?_⟩
  have : rtab t self = rnew self := by unfold rtab; rw [if_neg h]
  rw [this]; exact hw
 ·have h : rchk t (lim self) = 0 := by simpa using h
  have hr : rtab t self = t := by unfold rtab; rw [if_pos h]
  repeat' (first | refine zh ?_ | refine HL.bslice0 elemRo I ?_ | apply zb ?_ ?_ | exact zc | (refine zi fun hb => ?_; try simp at hb) | intro (bk : Nat))
  intro v1
  repeat' (first | refine zh ?_ | refine HL.appR 0 I elemRo (Rd.arg hv) I I I (cellsOf_len roC_len _) (one_allcells roC_one _) (by omega) (by omega) ?_ | apply zb ?_ ?_ | exact zc | (refine zi fun hb => ?_; try simp at hb) | intro (bk : Nat))
  intro v2
  repeat' (first | refine zh ?_ | apply zb ?_ ?_ | exact zc | (refine zi fun hb => ?_; try simp at hb) | intro (bk : Nat))
  refine HR.ret Tryz.func159 I [_] (fun _ _ => ⟨I, trivial⟩) ?_
  refine fun w' hw => ⟨v2, rfl, Ent.own0 ?_ ?_ w' hw⟩
  ·rw [hr]; omega
  ·rw [hr]; rfl
theorem r11hop_any (t : List Ro) (d : Int) (v : Value) (w : World) (hv : Sl w v (cellsOf roC t) t.length) (hl : t.length ≤ 1000) :
  Calls Tryz.prog 136 #[v, .int .i64 d] w fun e w' => e = .returned (.tuple ⟨[.int .i64 (rhop t d).1, .bool (rhop t d).2]⟩) ∧ Below w.heap.size w w' := by
 refine calls_hr Tryz.func136 I (Nat.le_of_ble_eq_true I) ?_
 refine HR.sub (σ' := [(0, v), (1, .int .i64 d)]) ⟨I, I, trivial⟩ ?_
 repeat' (first | refine zh ?_ | refine HL.callB fn143 I I (fun w hw => r11find_any t d v w ((Rd.arg hv).at hw) hl) ?_ | intro (bk : Nat))
 rcases rlook_cases t d with ⟨e, hf⟩ | ⟨i, x, e, hx, hd, hf⟩
 ·rw [e]
  repeat' (first | refine zh ?_ | intro (bk : Nat))
  refine HR.ret Tryz.func136 I [_, _] (fun _ _ => ⟨I, I, trivial⟩) ?_
  exact fun w' hw => ⟨by rw [rhop, hf]; rfl, hw.belowB⟩
 ·have hlt := (List.getElem?_eq_some_iff.1 hx).1
  rw [e]
  refine HL.setB 12 false I (decide_eq_false (by omega)) ?_
  repeat' (first | refine zh ?_ | refine HL.idxR (Rd.arg hv) elemRo i I I I I hlt ?_ | refine HL.loadE (Rd.arg hv) I I I I (by simp) I (cellsOf_get roC_len hx) ?_ | refine HL.callB fn142 I I (fun w _ => rrfin_any _ w) ?_ | intro (bk : Nat))
  refine HR.cond I (fun h4 => ?_) (fun h4 => ?_)
  ·have h4 : fin x = false := by simpa using h4
   repeat' (first | refine zh ?_ | apply zb ?_ ?_ | exact zc | (refine zi fun hb => ?_; try simp at hb) | intro (bk : Nat))
   refine HR.ret Tryz.func136 I [_, _] (fun _ _ => ⟨I, I, trivial⟩) ?_
   exact fun w' hw => ⟨by rw [rhop, hf]; simp only [h4]; rfl, hw.belowB⟩
  ·have h4 : fin x = true := by simpa using h4
   repeat' (first | refine zh ?_ | refine HL.idxR (Rd.arg hv) elemRo i I I I I hlt ?_ | refine HL.fieldE (Rd.arg hv) (by rw [cellsOf_len roC_len]; omega) I I I I I I ?_ | refine HL.loadI (Rd.arg hv) I I I I (cells_get roC_len hx (i := 3) I) ?_ | apply zb ?_ ?_ | exact zc | (refine zi fun hb => ?_; try simp at hb) | intro (bk : Nat))
   refine HR.ret Tryz.func136 I [_, _] (fun _ _ => ⟨I, I, trivial⟩) ?_
   exact fun w' hw => ⟨by rw [rhop, hf]; simp only [h4]; rfl, hw.belowB⟩
end Go.Proofs.YtgdgclmkpoaagaaGreat
namespace Go.GX
open Go.RowKit
section
variable {P : Program} {ops : Array Oper} {Q : Exit → Act → World → Prop} {md : Region.Mode} {S : World → Prop} {z : Nat}
def waitsAll (md : Region.Mode) (ops : Array Oper) (z : Nat) : Bool := match ops[z]? with
 | some o => (List.range ops.size).all fun i => Nat.beq i z || o.after.any fun e => Region.binds md e && Nat.beq e.on i
 | none => false
theorem waitsAll_spec (h : waitsAll md ops z = true) {oz : Oper} (ho : ops[z]? = some oz) {i : Nat} (hi : i < ops.size) (hne : i ≠ z) : ∃ e ∈ oz.after, Region.binds md e = true ∧ e.on = i := by
 unfold waitsAll at h
 rw [ho] at h
 have h1 := List.all_eq_true.1 h i (List.mem_range.2 hi)
 have h2 : Nat.beq i z = false := by
  rw [← Bool.not_eq_true]; intro hb; exact hne (Nat.eq_of_beq_eq_true hb)
 rw [h2, Bool.false_or] at h1
 obtain ⟨j, hj, h3⟩ := Array.any_eq_true.1 h1
 simp only [Bool.and_eq_true] at h3
 exact ⟨_, Array.getElem_mem hj, h3.1, Nat.eq_of_beq_eq_true h3.2⟩
theorem wpAnyZ_first (hz : waitsAll md ops z = true) {i : Nat} {oi : Oper} {v : Value} (hi : ops[i]? = some oi) (hsel : ∀ (j : Nat) (o : Oper) cs b, ops[j]? = some o → o.op ≠ .select cs b)
  (hQ : ∀ c a w, Q (.panic c) (a.put oi.dst v) w → Q (.panic c) a w) :
  ∀ (fuel : Nat) (listed : Array Bool) (a : Act) (w : World),
   (∀ j oj, ops[j]? = some oj → j ≠ i → listed.getD j true = false → (∀ e ∈ oj.after, Region.binds md e = true → e.on ≠ i) → oi.apart ops oj = true) →
   i ∈ Region.ready md ops listed → YieldsIf P ops S oi v a → S w →
   wpAnyZ P md ops Q S z fuel (listed.setIfInBounds i true) (a.put oi.dst v) w → wpAnyZ P md ops Q S z (fuel + 1) listed a w := by
 intro fuel
 induction fuel with
 | zero =>
  intro listed a w _ hr hy hS H
  refine ⟨fun h => (by rw [h] at hr; cases hr), fun j hj => ?_⟩
  by_cases hji : j = i
  ·subst hji; exact hy.wpOp hi hS ⟨.inr hS, H⟩
  ·have := ready_mono hj hji
   rw [H.1] at this
   cases this
 | succ fuel ih =>
  intro listed a w hfree hr hy hS H
  refine ⟨fun h => (by rw [h] at hr; cases hr), fun j hj => ?_⟩
  by_cases hji : j = i
  ·subst hji; exact hy.wpOp hi hS ⟨.inr hS, H⟩
  ·have h1 := H.2 j (ready_mono hj hji)
   obtain ⟨hjun, oj, hoj, hall⟩ := mem_ready.1 hj
   have hnot : ∀ e ∈ oj.after, Region.binds md e = true → e.on ≠ i := fun e he hb heq => by
    have h1 := hall e he hb
    have h0 := (mem_ready.1 hr).1
    rw [heq] at h1
    rcases Nat.lt_or_ge i listed.size with h' | h'
    ·simp [h'] at h0 h1; rw [h0] at h1; cases h1
    ·simp [Array.getElem?_eq_none h'] at h1
   have hjz : j ≠ z := by
    intro e
    subst e
    obtain ⟨e, he, hb, hon⟩ := waitsAll_spec hz hoj (Array.getElem?_eq_some_iff.1 hi).1 (Ne.symm hji)
    exact hnot e he hb hon
   have h2 := wpOp_putIf hoj (hfree j oj hoj hji hjun hnot) (fun cs b => hsel i oi cs b hi) (fun cs b => hsel j oj cs b hoj) hQ hy h1
   have hfree' : ∀ k ok, ops[k]? = some ok → k ≠ i → (listed.setIfInBounds j true).getD k true = false →
     (∀ e ∈ ok.after, Region.binds md e = true → e.on ≠ i) → oi.apart ops ok = true := fun k ok hk hki hun hno => by
    refine hfree k ok hk hki ?_ hno
    by_cases hjk : j = k
    ·subst hjk; exact hjun
    ·rw [getD_set_ne true hjk] at hun; exact hun
   refine wpOp_mono (fun a' w' h3 => ?_) h2
   have hS' : S w' := h3.2.1.resolve_left hjz
   refine ⟨.inr hS', ih (listed.setIfInBounds j true) a' w' hfree' (ready_mono hr (Ne.symm hji)) h3.1 hS' ?_⟩
   rw [Array.setIfInBounds_comm _ _ hji]
   exact h3.2.2
end
def allTrue : List (Nat × Bool) → Bool
 | [] => true
 | (_, true) :: p => allTrue p
 | (_, false) :: _ => false
def planOkZ (ops : Array Oper) (p : List (Nat × Bool)) (z : Nat) : Bool := Region.noSelect ops && Nat.beq (p.length + 1) ops.size && allTrue p && waitsAll .any ops z && planB ops (p ++ [(z, false)]) (Array.replicate ops.size false)
section
variable {P : Program} {f : FuncId} {N : Nat} {k : List Item} {σ : Store} {B : Base} {H F : List Chunk} {R : Ending → World → Prop} {ops l : List Oper} {o : Oper} {K : Act → World → Prop} {S : World → Prop} {z : Nat}
theorem wpAnyZ_of_plan {ops : Array Oper} {K : Act → World → Prop} (hn : Region.noSelect ops = true) (hz : waitsAll .any ops z = true) : ∀ (p : List (Nat × Bool)) (listed : Array Bool) (a : Act) (w : World), S w → allTrue p = true →
  planB ops (p ++ [(z, false)]) listed = true → wpPlan P ops S (fun a w => wpOp P ops (QN K) z K a w) p a w → wpAnyZ P .any ops (QN K) S z (p.length + 1) listed a w
 | [], listed, a, w, hS, _, hB, h => by
  simp only [List.nil_append, planB, Bool.and_eq_true, decide_eq_true_eq] at hB
  refine ⟨fun h0 => absurd (hB.1.symm.trans h0) (by simp), fun j hj => ?_⟩
  rw [hB.1] at hj
  have : j = z := by simpa using hj
  subst this
  exact wpOp_mono (fun a' w' h' => ⟨.inl rfl, by simpa using hB.2, rfl, h'⟩) h
 | (i, true) :: p, listed, a, w, hS, hA, hB, h => by
  obtain ⟨o, v, ho, hy, h⟩ := h
  simp only [List.cons_append, planB, Bool.and_eq_true] at hB
  have hf := Region.free_spec ho hB.1.2
  exact wpAnyZ_first hz ho (Region.noSelect_spec hn) (fun c a w h => absurd h.1 (by nofun)) _ listed a w hf (by simpa using hB.1.1) hy hS (wpAnyZ_of_plan hn hz p _ _ _ hS hA hB.2 h)
 | (i, false) :: p, listed, a, w, hS, hA, hB, h => by cases hA
theorem HR.regionZ (p : List (Nat × Bool)) (z : Nat) (is : List Nat) (hF : pickC H is = some F) (hd : distinctN is = true) {id : Nat} (hm : P.follows .mixedOrders = true) (hB : planOkZ ops.toArray p z = true)
  (h : HD P N ops p σ B H F (KZ P ops z (CRun P f k R))) : HR P f N (.code (.region id ops.toArray true) :: k) σ B H R := by
 intro w hw a ha
 simp only [planOkZ, Bool.and_eq_true] at hB
 obtain ⟨⟨⟨⟨h1, h2⟩, h3⟩, h4⟩, h5⟩ := hB
 have hb : Below w.heap.size w { w with drawn := w.drawn + 1 } := ⟨rfl, rfl, rfl, Nat.le_refl _, fun _ _ => rfl⟩
 have hw1 : Sat B H { w with drawn := w.drawn + 1 } := hw.grow hb
 refine CRun.of_wp (wp_region_any hm (wpAny_of_Z (S := fun w => Sat B F w) (z := z) _ _ _ _ ?_))
 rw [show ops.toArray.size = p.length + 1 from (Nat.eq_of_beq_eq_true h2).symm]
 rw [show ops.toArray.size = p.length + 1 from (Nat.eq_of_beq_eq_true h2).symm] at h5
 exact wpAnyZ_of_plan h1 h4 p _ _ _ (hw1.pick is hF hd) h3 h5 (h _ hw1 (hw1.pick is hF hd) a ha)
theorem HD.fieldE {d i : Nat} {p : List (Nat × Bool)} {ty : TypeId} {pos : String} {af : Array Edge} {gd : Option (Nat × Bool)} {v : Value} {s : TypeId} {x : Operand} {fl : List Field} {fi j n : Nat} {fd : Field} {ti : TypeInfo} {cs : List Value} (hv : Rd B F v cs n) (hj : j < cs.length) (ho : ops[i]? = some ⟨some d, .fieldAddr s x fi, ty, pos, af, gd⟩) (hs : stat N ops ⟨some d, .fieldAddr s x fi, ty, pos, af, gd⟩ σ = true) (hT : P.underlying s = some (.struct ⟨fl⟩)) (hf : nthF fl fi = some fd) (hti : P.info? fd.type = some ti) (hz : Nat.ble 1 ti.size = true) (hx : lookO σ x = some (elemPtr v j))
  (h : HD P N ops p ((d, elemPtr v (j + fd.offset)) :: σ) B H F K) : HD P N ops ((i, true) :: p) σ B H F K := HD.rd ho hs (hx_fieldE hv hj hT hf hti hz hx) h
end
end Go.GX
namespace Go.Proofs.YtgdgclmkpoaagaaGreat
open Go.GX Go.RowKit
attribute [local irreducible] Calls Run RunL RunQ RunD HR HL HD blkC ownC Rd
open Nd
theorem fn232 : IsFn Tryz.prog 232 := ⟨⟨_, _, Tryz.func232, rfl, by decide⟩⟩
theorem fn187 : IsFn Tryz.prog 187 := ⟨⟨_, _, Tryz.func187, rfl, by decide⟩⟩
theorem fn134 : IsFn Tryz.prog 134 := ⟨⟨_, _, Tryz.func134, rfl, by decide⟩⟩
end Go.Proofs.YtgdgclmkpoaagaaGreat
namespace Go.Proofs.YtgdgclmkpoaagaaGreat
open Go.GX Go.RowKit
attribute [local irreducible] Calls Run RunL RunQ RunD HR HL HD blkC ownC Rd
open Nd
theorem r11add_any (t : List Ro) (r : Ro) (v : Value) (w : World) (hv : Sl w v (cellsOf roC t) t.length) (hl : t.length ≤ 24) :
  Calls Tryz.prog 232 #[v, .agg ⟨roC r⟩] w fun e w' => ∃ v', e = .returned v' ∧ Sat (base w) [ownC v' 79 4 (t.take (rpos t r.dest) ++ r :: t.drop (rpos t r.dest)).length (cellsOf roC (t.take (rpos t r.dest) ++ r :: t.drop (rpos t r.dest)))] w' := by
 refine calls_hr Tryz.func232 I (Nat.le_of_ble_eq_true I) ?_
 refine HR.sub (σ' := [(0, v), (1, .agg ⟨roC r⟩)]) ⟨I, I, trivial⟩ ?_
 repeat' (first | refine zh ?_ | intro (bk : Nat))
 refine HR.nilC 79 4 ?_
 refine HR.loop2 (α := Nat) (β := Value) (fun k o => k ≤ t.length ∧ ∀ j a, j < k → t[j]? = some a → a.dest < r.dest) (fun k o => [(0, v), (3, .pointer (some ⟨bk, 0, none⟩)), (5, o), (6, .int .i64 (k : Int))]) (fun k o => [ownC o 79 4 (t.take k).length (cellsOf roC (t.take k)), blkC bk (roC r) 79]) (fun k _ => t.length - k) 0 (.slice none 0 0) ⟨Nat.zero_le _, fun j a hj => by omega⟩ ⟨I, I, I, I, trivial⟩ (Ent.pick [0, 1] I I) ?_
 rintro k o ⟨hk, hg⟩ ih
 have htl : (t.take k).length = k := by simp; omega
 repeat' (first | refine zh ?_ | intro (bk : Nat))
 refine HR.regionQ hmix (by kernel_rfl) ?_
 repeat' (first | refine zq ?_ | refine HQ.lenR (Rd.arg hv) I I I ?_ | refine HQ.idxR (Rd.arg hv) elemRo k I I I I (by omega) ?_ | refine HQ.fieldE (Rd.arg hv) (by rw [cellsOf_len roC_len]; omega) I I I I I I ?_ | refine HQ.loadI (Rd.arg hv) I I I I (cells_get roC_len (getD_is (by omega) ro0) (i := 0) I) ?_ | apply zb ?_ ?_ | exact zc | (refine zi fun hb => ?_; try simp at hb))
 refine HR.cond I (fun h2 => ?_) (fun h2 => ?_)
 ·have h2 : (decide ((k : Int) < t.length) && decide ((t.getD k ro0).dest < r.dest)) = true := h2
  simp only [Bool.and_eq_true, decide_eq_true_eq] at h2
  have hlt : k < t.length := by omega
  have hx : t[k]? = some (t.getD k ro0) := getD_is hlt ro0
  repeat' (first | refine zh ?_ | refine HL.idxR (Rd.arg hv) elemRo k I I I I hlt ?_ | refine HL.loadE (Rd.arg hv) I I I I (by simp) I (cellsOf_get roC_len hx) ?_ | refine HL.bslice elemRo I I I I I (by decide) (by decide) ?_ | intro (bk : Nat))
  intro va
  repeat' (first | refine zh ?_ | refine HL.appR 1 I elemRo (Rd.own 0 I) I I I I (allOne_spec I) (by omega) (by omega) ?_ | intro (bk : Nat))
  intro o2
  repeat' (first | refine zh ?_ | intro (bk : Nat))
  refine ih (k + 1) o2 _ _ ⟨hlt, fun j a hj ha => ?_⟩ (by omega) ⟨I, I, I, I, trivial⟩ (Ent.trans (Ent.pick [1, 2] I I) (Ent.own0 ?_ ?_))
  ·by_cases hjk : j = k
   ·subst hjk; rw [hx] at ha; cases ha; exact h2.2
   ·exact hg j a (by omega) ha
  ·rw [take_succ_get hx]; simp
  ·rw [take_succ_get hx, cellsOf_app]; rfl
 ·have h2 : (decide ((k : Int) < t.length) && decide ((t.getD k ro0).dest < r.dest)) = false := h2
  have hp : rpos t r.dest = k := rpos_is hk hg fun a ha => by
   have hlt := (List.getElem?_eq_some_iff.1 ha).1
   rw [getD_is hlt ro0] at ha
   cases ha
   rw [decide_eq_true (show (k : Int) < t.length by omega), Bool.true_and, decide_eq_false_iff_not] at h2
   omega
  rw [hp]
  repeat' (first | refine zh ?_ | refine HL.lenR (Rd.own 0 I) I I I ?_ | refine HL.bslice elemRo I I I I I (by decide) (by decide) ?_ | intro (bk : Nat))
  intro va
  repeat' (first | refine zh ?_ | refine HL.appR 1 I elemRo (Rd.own 0 I) I I I I (allOne_spec I) (by omega) (by omega) ?_ | intro (bk : Nat))
  intro o2
  rw [htl]
  repeat' (first | refine zh ?_ | refine HL.lenR (Rd.arg hv) I I I ?_ | refine HL.subI (sz := 4) k t.length (Rd.arg hv) I I I I (.inr ⟨_, _, _, rfl, rfl, by omega⟩) (.inl ⟨rfl, rfl⟩) hk (Nat.le_refl _) ?_ | refine HL.appR 1 I elemRo (Rd.sub (sz := 4) (Rd.arg hv) (cellsOf_len roC_len _) hk (Nat.le_refl _)) I I I (by rw [List.length_take, List.length_drop, cellsOf_len roC_len]; omega) (fun u hu => one_allcells roC_one _ u (List.mem_of_mem_drop (List.mem_of_mem_take hu))) (by omega) (by omega) ?_ | intro (bk : Nat))
  intro o3
  repeat' (first | refine zh ?_ | intro (bk : Nat))
  refine HR.ret Tryz.func232 I [_] (fun _ _ => ⟨I, trivial⟩) ?_
  refine fun w' hw => ⟨o3, rfl, Ent.own0 ?_ ?_ w' (hw.pick [1] I rfl)⟩
  ·simp; omega
  ·have e9 : ((cellsOf roC t).drop (k * 4)).take ((t.length - k) * 4) = cellsOf roC (t.drop k) := by
    rw [cellsOf_drop roC_len]
    exact List.take_of_length_le (by rw [cellsOf_len roC_len, List.length_drop]; exact Nat.le_refl _)
   rw [e9, cellsOf_app, List.append_assoc]
   congr 1
theorem r11apply_any (t : List Ro) (fr cost : Int) (a : Ro) (v : Value) (B0 : Base) (w : World) (hw0 : Sat B0 [ownC v 79 4 t.length (cellsOf roC t)] w) (hl : t.length ≤ 24) (hasc : Asc (·.dest) t) (hc : 1 ≤ cost ∧ cost ≤ 200) (ha : usable a = true) :
  Calls Tryz.prog 187 #[v, .int .i64 fr, .int .i64 cost, .agg ⟨roC a⟩] w fun e w' => ∃ x : Value, e = .returned x ∧ True ∧ Sat ⟨w, feet [ownC v 79 4 t.length (cellsOf roC t)]⟩ [ownC x 79 4 (rlearn t fr (radd fr cost a)).length (cellsOf roC (rlearn t fr (radd fr cost a)))] w' := by
 have hao := usable_ok ha
 have hfa := radd_fin (fr := fr) hc ha
 have hda := radd_dest fr cost a
 refine calls_hrW [ownC v 79 4 t.length (cellsOf roC t)] (hw0) Tryz.func187 I (Nat.le_of_ble_eq_true I) ?_
 refine HR.sub (σ' := [(0, v), (1, .int .i64 fr), (2, .int .i64 cost), (3, .agg ⟨roC a⟩)]) ⟨I, I, I, I, trivial⟩ ?_
 repeat' (first | refine zh ?_ | refine HL.callB fn143 I I (fun w hw => r11find_any t a.dest v w ((Rd.own 1 rfl).at hw) (by omega)) ?_ | intro (bk : Nat))
 obtain ⟨L, hL⟩ : ∃ L, L = rlook t a.dest := ⟨_, rfl⟩
 rw [← hL]
 repeat' (first | refine zh ?_ | refine HL.callB fn142 I I (fun w _ => rrfin_any a w) ?_ | apply zb ?_ ?_ | exact zc | (refine zi fun hb => ?_; try simp at hb) | intro (bk : Nat))
 refine HR.cond I (fun h => ?_) (fun h => ?_)
 ·have h : (fin a && decide (a.cost + cost ≤ 200)) = true := h
  rw [h] at hfa
  have hra : radd fr cost a = ⟨a.dest, a.sq, a.cost + cost, fr⟩ := by
   unfold radd; rw [if_pos]; simpa using h
  rw [hra] at hfa ⊢
  obtain ⟨x, hx⟩ : ∃ x : Ro, x = ⟨a.dest, a.sq, a.cost + cost, fr⟩ := ⟨_, rfl⟩
  have hxd : x.dest = a.dest := by rw [hx]
  repeat' (first | refine zh ?_ | intro (bk : Nat))
  rcases rlook_cases t a.dest with ⟨e, hf⟩ | ⟨i, o, e, ho, hod, hf⟩
  ·have hR1 : rat t x.dest = none := by rw [hxd]; exact hf
   rw [hL, e]
   rw [← hx] at hfa ⊢
   repeat' (first | refine zh ?_ | refine HL.lenR (Rd.own 2 I) I I I ?_ | intro (bk : Nat))
   refine HR.cond I (fun h3 => ?_) (fun h3 => ?_)
   ·have h3 : t.length < 24 := by have := of_decide_eq_true h3; omega
    have er : rlearn t fr x = t.take (rpos t x.dest) ++ x :: t.drop (rpos t x.dest) := by unfold rlearn; rw [hR1]; simp only; rw [if_pos ⟨hfa, h3⟩]
    subst hx
    repeat' (first | refine zh ?_ | refine HL.callO fn232 I I (fun w hw => r11add_any t ⟨a.dest, a.sq, a.cost + cost, fr⟩ v w ((Rd.own 2 rfl).at hw) hl) ?_ | intro (bk : Nat))
    intro v2
    repeat' (first | refine zh ?_ | intro (bk : Nat))
    refine HR.ret Tryz.func187 I [_] (fun _ _ => ⟨I, trivial⟩) ?_
    refine fun w' hw => ⟨_, rfl, trivial, ?_⟩
    rw [er]; exact hw.pick [0] I I
   ·have h3 : ¬ t.length < 24 := by have := of_decide_eq_false h3; omega
    have er : rlearn t fr x = t := by unfold rlearn; rw [hR1]; simp only; rw [if_neg (by omega)]
    refine HR.skip ?_
    refine HR.ctl I ?_
    refine HR.regionQ hmix (by kernel_rfl) ?_
    repeat' (first | refine zq ?_ | fail)
    repeat' (first | refine zh ?_ | intro (bk : Nat))
    refine HR.ret Tryz.func187 I [_] (fun _ _ => ⟨I, trivial⟩) ?_
    refine fun w' hw => ⟨_, rfl, trivial, ?_⟩
    rw [er]; exact hw.pick [2] I I
  ·have hlt := (List.getElem?_eq_some_iff.1 ho).1
   have hR1 : rat t x.dest = some o := by rw [hxd]; exact hf
   have hR2 : rpos t x.dest = i := by rw [hxd]; exact (rlook_asc hasc ho hod).1
   rw [hL, e]
   rw [← hx] at hfa ⊢
   repeat' (first | refine zh ?_ | intro (bk : Nat))
   refine HR.regionQ hmix (by kernel_rfl) ?_
   repeat' (first | refine zq ?_ | refine HQ.idxR (Rd.own 2 I) elemRo i I I I I hlt ?_ | refine HQ.loadE (Rd.own 2 I) I I I I (by simp) I (cellsOf_get roC_len ho) ?_ | refine HQ.callB fn233 I I (fun w _ => rrbetter_any ⟨a.dest, a.sq, a.cost + cost, fr⟩ o w) ?_)
   refine HR.cond I (fun h3 => ?_) (fun h3 => ?_)
   ·have h3 : (decide ((i : Int) ≥ 0) && better ⟨a.dest, a.sq, a.cost + cost, fr⟩ o) = true := h3
    rw [Bool.and_eq_true, ← hx] at h3
    have er : rlearn t fr x = t.set i x := by unfold rlearn; rw [hR1, hR2]; simp only; rw [hfa]; exact if_pos h3.2
    subst hx
    repeat' (first | refine zh ?_ | refine HL.idxR (Rd.own 2 I) elemRo i I I I I hlt ?_ | refine HL.storeEs (us := roC ⟨a.dest, a.sq, a.cost + cost, fr⟩) (j := i * 4) 2 I I I I I I I (by rw [cellsOf_len roC_len]; show i * 4 + 4 ≤ _; omega) (by simp) ?_ | intro (bk : Nat))
    refine HR.ret Tryz.func187 I [_] (fun _ _ => ⟨I, trivial⟩) ?_
    refine fun w' hw => ⟨_, rfl, trivial, Ent.own0 ?_ ?_ w' (hw.pick [2] I rfl)⟩
    ·rw [er]; simp
    ·rw [er]; exact cells_set (i := 0) roC_len ho I (show 0 + 4 ≤ 4 by decide)
   ·have h3 : (decide ((i : Int) ≥ 0) && better ⟨a.dest, a.sq, a.cost + cost, fr⟩ o) = false := h3
    rw [decide_eq_true (show (i : Int) ≥ 0 by omega), Bool.true_and, ← hx] at h3
    have er : rlearn t fr x = t := by unfold rlearn; rw [hR1]; simp only; rw [hfa]; exact if_neg (by simpa using h3)
    repeat' (first | refine zh ?_ | intro (bk : Nat))
    refine HR.ret Tryz.func187 I [_] (fun _ _ => ⟨I, trivial⟩) ?_
    refine fun w' hw => ⟨_, rfl, trivial, ?_⟩
    rw [er]; exact hw.pick [2] I I
 ·have h : (fin a && decide (a.cost + cost ≤ 200)) = false := h
  rw [h] at hfa
  have hra : radd fr cost a = ⟨a.dest, a.sq, 255, 255⟩ := by
   unfold radd; rw [if_neg]; intro hh; simp [hh.1, hh.2] at h
  rw [hra] at hfa ⊢
  obtain ⟨x, hx⟩ : ∃ x : Ro, x = ⟨a.dest, a.sq, 255, 255⟩ := ⟨_, rfl⟩
  have hxd : x.dest = a.dest := by rw [hx]
  rcases rlook_cases t a.dest with ⟨e, hf⟩ | ⟨i, o, e, ho, hod, hf⟩
  ·have hR1 : rat t x.dest = none := by rw [hxd]; exact hf
   rw [hL, e]
   rw [← hx] at hfa ⊢
   have er : rlearn t fr x = t := by unfold rlearn; rw [hR1]; simp only; rw [if_neg (by rw [hfa]; simp)]
   repeat' (first | refine zh ?_ | intro (bk : Nat))
   refine HR.regionQ hmix (by kernel_rfl) ?_
   repeat' (first | refine zq ?_ | fail)
   repeat' (first | refine zh ?_ | intro (bk : Nat))
   refine HR.ret Tryz.func187 I [_] (fun _ _ => ⟨I, trivial⟩) ?_
   refine fun w' hw => ⟨_, rfl, trivial, ?_⟩
   rw [er]; exact hw.pick [1] I I
  ·have hlt := (List.getElem?_eq_some_iff.1 ho).1
   have hR1 : rat t x.dest = some o := by rw [hxd]; exact hf
   have hR2 : rpos t x.dest = i := by rw [hxd]; exact (rlook_asc hasc ho hod).1
   rw [hL, e]
   rw [← hx] at hfa ⊢
   repeat' (first | refine zh ?_ | intro (bk : Nat))
   refine HR.regionQ hmix (by kernel_rfl) ?_
   repeat' (first | refine zq ?_ | refine HQ.idxR (Rd.own 1 I) elemRo i I I I I hlt ?_ | refine HQ.fieldE (Rd.own 1 I) (by rw [cellsOf_len roC_len]; omega) I I I I I I ?_ | refine HQ.loadI (Rd.own 1 I) I I I I (cells_get roC_len ho (i := 3) I) ?_ | refine HQ.loadI (Rd.own 1 I) I I I I (cells_get roC_len ho (i := 1) I) ?_ | apply zb ?_ ?_ | exact zc | (refine zi fun hb => ?_; try simp at hb))
   refine HR.cond I (fun h3 => ?_) (fun h3 => ?_)
   ·have h3 : ((decide ((i : Int) ≥ 0) && (o.nx == fr)) && decide (a.sq > o.sq)) = true := h3
    rw [decide_eq_true (show (i : Int) ≥ 0 by omega), Bool.true_and] at h3
    have er : rlearn t fr x = t.set i x := by unfold rlearn; rw [hR1, hR2]; simp only; rw [hfa]; exact if_pos (by rw [hx]; simpa using h3)
    subst hx
    repeat' (first | refine zh ?_ | refine HL.idxR (Rd.own 1 I) elemRo i I I I I hlt ?_ | refine HL.storeEs (us := roC ⟨a.dest, a.sq, 255, 255⟩) (j := i * 4) 1 I I I I I I I (by rw [cellsOf_len roC_len]; show i * 4 + 4 ≤ _; omega) (by simp) ?_ | intro (bk : Nat))
    refine HR.ret Tryz.func187 I [_] (fun _ _ => ⟨I, trivial⟩) ?_
    refine fun w' hw => ⟨_, rfl, trivial, Ent.own0 ?_ ?_ w' (hw.pick [1] I rfl)⟩
    ·rw [er]; simp
    ·rw [er]; exact cells_set (i := 0) roC_len ho I (show 0 + 4 ≤ 4 by decide)
   ·have h3 : ((decide ((i : Int) ≥ 0) && (o.nx == fr)) && decide (a.sq > o.sq)) = false := h3
    rw [decide_eq_true (show (i : Int) ≥ 0 by omega), Bool.true_and] at h3
    have er : rlearn t fr x = t := by unfold rlearn; rw [hR1]; simp only; rw [hfa]; exact if_neg (by rw [hx]; simpa using h3)
    repeat' (first | refine zh ?_ | intro (bk : Nat))
    refine HR.ret Tryz.func187 I [_] (fun _ _ => ⟨I, trivial⟩) ?_
    refine fun w' hw => ⟨_, rfl, trivial, ?_⟩
    rw [er]; exact hw.pick [1] I I
theorem r11upd_any (t : List Ro) (self fr cost : Int) (adv : List Ro) (v va : Value) (w : World) (hv : Sl w v (cellsOf roC t) t.length) (hva : Sl w va (cellsOf roC adv) adv.length) (hl : t.length ≤ 1000) (hla : adv.length ≤ 1000) :
  Calls Tryz.prog 134 #[v, .int .i64 self, .int .i64 fr, .int .i64 cost, va] w fun e w' => ∃ v', e = .returned v' ∧ Sat (base w) [ownC v' 79 4 (rupd t self fr cost adv).length (cellsOf roC (rupd t self fr cost adv))] w' := by
 have ht := rtab_tab t self
 refine calls_hr Tryz.func134 I (Nat.le_of_ble_eq_true I) ?_
 refine HR.sub (σ' := [(0, v), (1, .int .i64 self), (2, .int .i64 fr), (3, .int .i64 cost), (4, va)]) ⟨I, I, I, I, I, trivial⟩ ?_
 repeat' (first | refine zh ?_ | refine HL.callO fn159 I I (fun w hw => r11table_any t self v w ((Rd.arg hv).at hw) hl) ?_ | intro (bk : Nat))
 intro v1
 repeat' (first | refine zh ?_ | refine HL.callB fn140 I I (fun w _ => rrlim_any _ w) ?_ | apply zb ?_ ?_ | exact zc | (refine zi fun hb => ?_; try simp at hb) | intro (bk : Nat))
 refine HR.cond I (fun h0 => ?_) (fun h0 => ?_)
 ·have h0 : ((((fr != lim fr) || (fr == lim self)) || decide (cost < 1)) || decide (cost > 200)) = true := h0
  rw [ne_lim] at h0
  have e : rupd t self fr cost adv = rtab t self := by
   unfold rupd; rw [if_pos]
   simp only [Bool.or_eq_true, Bool.not_eq_true', beq_iff_eq, decide_eq_true_eq] at h0
   rcases h0 with ((h | h) | h) | h
   ·exact .inl h
   ·exact .inr (.inl h)
   ·exact .inr (.inr (.inl h))
   ·exact .inr (.inr (.inr h))
  repeat' (first | refine zh ?_ | apply zb ?_ ?_ | exact zc | (refine zi fun hb => ?_; try simp at hb) | intro (bk : Nat))
  refine HR.ret Tryz.func134 I [_] (fun _ _ => ⟨I, trivial⟩) ?_
  exact fun w' hw => ⟨v1, rfl, by rw [e]; exact hw⟩
 have h0 : ((((fr != lim fr) || (fr == lim self)) || decide (cost < 1)) || decide (cost > 200)) = false := h0
 rw [ne_lim] at h0
 simp only [Bool.or_eq_false_iff, Bool.not_eq_false', beq_eq_false_iff_ne, decide_eq_false_iff_not] at h0
 have e : rupd t self fr cost adv = adv.foldl (rstep self fr cost) (rtab t self) := by
  unfold rupd; rw [if_neg]
  rintro (h | h | h | h)
  ·rw [h0.1.1.1] at h; cases h
  ·exact h0.1.1.2 h
  ·exact h0.1.2 h
  ·exact h0.2 h
 rw [e]
 have hasc := ht.asc
 have h24 := ht.len
 obtain ⟨T, hT⟩ : ∃ T, T = rtab t self := ⟨_, rfl⟩
 rw [← hT] at hasc h24 ⊢
 repeat' (first | refine zh ?_ | apply zb ?_ ?_ | exact zc | (refine zi fun hb => ?_; try simp at hb) | intro (bk : Nat))
 refine HR.loop2 (α := Nat) (β := Value) (fun k _ => k ≤ adv.length) (fun k u => [(1, .int .i64 self), (2, .int .i64 fr), (3, .int .i64 cost), (4, va), (11, u), (12, .int .i64 (k : Int))]) (fun k u => [ownC u 79 4 ((adv.take k).foldl (rstep self fr cost) T).length (cellsOf roC ((adv.take k).foldl (rstep self fr cost) T))]) (fun k _ => adv.length - k) 0 v1 (Nat.zero_le _) ⟨I, I, I, I, I, I, trivial⟩ Ent.refl ?_
 intro k u hk ih
 repeat' (first | refine zh ?_ | refine HL.lenR (Rd.arg hva) I I I ?_ | intro (bk : Nat))
 refine HR.cond I (fun h2 => ?_) (fun h2 => ?_)
 ·have hlt : k < adv.length := by have := of_decide_eq_true h2; omega
  obtain ⟨x, hx⟩ := getSome hlt
  have hft := fold_take (rstep self fr cost) T hx
  obtain ⟨hS1, hS2⟩ := steps_asc (self := self) (fr := fr) (cost := cost) (adv := adv.take k) hasc h24
  obtain ⟨S, hS⟩ : ∃ S, S = (adv.take k).foldl (rstep self fr cost) T := ⟨_, rfl⟩
  rw [← hS] at hft hS1 hS2 ⊢
  repeat' (first | refine zh ?_ | intro (bk : Nat))
  refine HR.regionQ hmix (by kernel_rfl) ?_
  repeat' (first | refine zq ?_ | refine HQ.idxR (Rd.arg hva) elemRo k I I I I hlt ?_ | refine HQ.loadE (Rd.arg hva) I I I I (by simp) I (cellsOf_get roC_len hx) ?_ | refine HQ.fieldE (Rd.arg hva) (by rw [cellsOf_len roC_len]; omega) I I I I I I ?_ | refine HQ.loadI (Rd.arg hva) I I I I (cells_get roC_len hx (i := 0) I) ?_ | refine HQ.callB fn141 I I (fun w _ => rrusable_any x w) ?_ | refine HQ.callB fn140 I I (fun w _ => rrlim_any _ w) ?_ | apply zb ?_ ?_ | exact zc | (refine zi fun hb => ?_; try simp at hb))
  refine HR.cond I (fun h3 => ?_) (fun h3 => ?_)
  ·have h3 : (usable x && (x.dest != lim self)) = true := h3
   simp only [Bool.and_eq_true, bne_iff_ne] at h3
   have hst : rstep self fr cost S x = rlearn S fr (radd fr cost x) := by
    unfold rstep; rw [if_neg]
    rintro (h | h)
    ·rw [h3.1] at h; cases h
    ·exact h3.2 h
   rw [hst] at hft
   repeat' (first | refine zh ?_ | refine HL.idxR (Rd.arg hva) elemRo k I I I I hlt ?_ | refine HL.loadE (Rd.arg hva) I I I I (by simp) I (cellsOf_get roC_len hx) ?_ | refine HL.callW (r := fun r : Value => r) (Q := fun _ => True) (G0 := [ownC u 79 4 S.length (cellsOf roC S)]) (H0 := []) (G := fun y => [ownC y 79 4 (rlearn S fr (radd fr cost x)).length (cellsOf roC (rlearn S fr (radd fr cost x)))]) fn187 I I I (fun w hw => r11apply_any S fr cost x u _ w hw hS2 hS1 (by omega) h3.1) ?_ | intro (bk : Nat))
   intro y _
   repeat' (first | refine zh ?_ | intro (bk : Nat))
   exact ih (k + 1) y _ _ hlt (by omega) ⟨I, I, I, I, I, I, trivial⟩ (Ent.own0 (by rw [hft]) (by rw [hft]))
  ·have h3 : (usable x && (x.dest != lim self)) = false := h3
   have hst : rstep self fr cost S x = S := by
    unfold rstep; rw [if_pos]
    cases hu : usable x
    ·exact .inl I
    ·rw [hu, Bool.true_and] at h3; exact .inr (by simpa using h3)
   rw [hst] at hft
   repeat' (first | refine zh ?_ | intro (bk : Nat))
   exact ih (k + 1) u _ _ hlt (by omega) ⟨I, I, I, I, I, I, trivial⟩ (Ent.own0 (by rw [hft]) (by rw [hft]))
 ·have hke : k = adv.length := by have := of_decide_eq_false h2; omega
  subst hke
  rw [List.take_length]
  repeat' (first | refine zh ?_ | intro (bk : Nat))
  refine HR.ret Tryz.func134 I [_] (fun _ _ => ⟨I, trivial⟩) ?_
  exact fun w' hw => ⟨u, rfl, hw⟩
end Go.Proofs.YtgdgclmkpoaagaaGreat
namespace Go.Proofs.YtgdgclmkpoaagaaGreat
open Go.GX Go.RowKit
attribute [local irreducible] Calls Run RunL RunQ RunD HR HL HD blkC ownC Rd
open Nd
theorem fn133 : IsFn Tryz.prog 133 := ⟨⟨_, _, Tryz.func133, rfl, by decide⟩⟩
end Go.Proofs.YtgdgclmkpoaagaaGreat
namespace Go.Proofs.YtgdgclmkpoaagaaGreat
open Go.GX Go.RowKit
attribute [local irreducible] Calls Run RunL RunQ RunD HR HL HD blkC ownC Rd
open Nd
theorem u8_f (b : UInt8) : -9223372036854775808 ≤ (b.toNat : Int) ∧ (b.toNat : Int) ≤ 9223372036854775807 := by have := b.toNat_lt; constructor <;> omega
theorem u8_f2 (b : UInt8) : -9223372036854775808 ≤ (b.toNat : Int) * 256 ∧ (b.toNat : Int) * 256 ≤ 9223372036854775807 := by have := b.toNat_lt; constructor <;> omega
theorem u8_f3 (b c : UInt8) : -9223372036854775808 ≤ (b.toNat : Int) * 256 + (c.toNat : Int) ∧ (b.toNat : Int) * 256 + (c.toNat : Int) ≤ 9223372036854775807 := by have := b.toNat_lt; have := c.toNat_lt; constructor <;> omega
theorem r11dec_any (s : By) (w : World) (hs : s.length ≤ 9223372036854775807) :
  Calls Tryz.prog 133 #[str s] w fun e w' => ∃ v', e = .returned (.tuple ⟨[v', .int .i64 (rdec s).2]⟩) ∧ True ∧ Sat (base w) [ownC v' 79 4 (rdec s).1.length (cellsOf roC (rdec s).1)] w' := by
 refine calls_hr Tryz.func133 I (Nat.le_of_ble_eq_true I) ?_
 refine HR.sub (σ' := [(0, str s)]) ⟨I, trivial⟩ ?_
 repeat' (first | refine zh ?_ | intro (bk : Nat))
 refine HR.cond I (fun h => ?_) (fun h => ?_)
 ·have h : (((s.length : Int) % 4) != 0) = true := h
  have h : s.length % 4 ≠ 0 := by simp at h; omega
  rw [rdec_odd h]
  repeat' (first | refine zh ?_ | intro (bk : Nat))
  refine HR.nilC 79 4 ?_
  refine HR.ret Tryz.func133 I [_, _] (fun _ _ => ⟨I, I, trivial⟩) ?_
  exact fun w' hw => ⟨_, rfl, trivial, hw⟩
 have h : (((s.length : Int) % 4) != 0) = false := h
 have h : s.length % 4 = 0 := by simp at h; omega
 repeat' (first | refine zh ?_ | intro (bk : Nat))
 refine HR.cond I (fun h2 => ?_) (fun h2 => ?_)
 ·have h2 : s.length > 96 := by have := of_decide_eq_true h2; omega
  rw [rdec_long h h2]
  repeat' (first | refine zh ?_ | intro (bk : Nat))
  refine HR.nilC 79 4 ?_
  refine HR.ret Tryz.func133 I [_, _] (fun _ _ => ⟨I, I, trivial⟩) ?_
  exact fun w' hw => ⟨_, rfl, trivial, hw⟩
 have h2 : ¬ s.length > 96 := by have := of_decide_eq_false h2; omega
 obtain ⟨n, hn⟩ : ∃ n, n = s.length / 4 := ⟨_, rfl⟩
 have hsn : s.length = 4 * n := by omega
 repeat' (first | refine zh ?_ | intro (bk : Nat))
 refine HR.nilC 79 4 ?_
 refine HR.loop2 (α := Nat) (β := Value) (fun k _ => k ≤ n ∧ firstE (dbad (rdecs s n)) k = 0) (fun k u => [(0, str s), (4, u), (5, .int .i64 ((4 * k : Nat) : Int))]) (fun k u => [ownC u 79 4 (rdecs s k).length (cellsOf roC (rdecs s k))]) (fun k _ => n - k) 0 (.slice none 0 0) ⟨Nat.zero_le _, rfl⟩ ⟨I, I, I, trivial⟩ Ent.refl ?_
 rintro k u ⟨hk, hg⟩ ih
 have hdl : (s.drop (4 * k)).length = 4 * (n - k) := by rw [List.length_drop]; omega
 repeat' (first | refine zh ?_ | intro (bk : Nat))
 refine HR.cond I (fun h3 => ?_) (fun h3 => ?_)
 ·have hlt : k < n := by have := of_decide_eq_true h3; omega
  have hx : (rdecs s n)[k]? = some (rdec1 (s.drop (4 * k))) := rdecs_get s hlt
  have hrk : rdecs s (k + 1) = rdecs s k ++ [rdec1 (s.drop (4 * k))] := rfl
  have hkl := rdecs_len s k
  have b0 := (s.getD (4 * k) 0).toNat_lt
  have b1 := (s.getD (4 * k + 1) 0).toNat_lt
  have b2 := (s.getD (4 * k + 2) 0).toNat_lt
  have b3 := (s.getD (4 * k + 3) 0).toNat_lt
  refine HR.ctl I ?_
  refine HR.regionD [(0, true), (1, true), (2, true), (3, true), (4, true), (5, true), (6, true), (7, true), (8, true), (9, true), (10, true), (11, true), (12, true), (13, true), (14, true), (15, true), (16, true), (17, true), (18, true), (19, true), (20, true), (21, true), (22, false), (23, false)] [] I I hmix (by kernel_rfl) ?_
  repeat' (first | refine HD.ev I I I ?_ | refine HD.evc I I I (by first | omega | (simp; done) | (simp; omega)) ?_ | refine HD.evc I I I (by with_reducible first | exact u8_f _ | exact u8_f2 _ | exact u8_f3 _ _) ?_ | refine HD.L 0 I I I I I ?_ | refine HD.L 1 I I I I I ?_ | refine HD.L 2 I I I I I ?_ | refine HD.L 3 I I I I I ?_ | refine HD.build I I I ?_ | refine HD.field I I I ?_ | refine HD.skip I I I ?_ | refine HD.skipO I I I ?_ | (refine HD.one I ?_; first | refine HL.ev I I ?_ | (refine HL.isLoad ?_; first | refine HL.L 0 I I I I ?_ | refine HL.L 1 I I I I ?_ | refine HL.L 2 I I I I ?_ | refine HL.L 3 I I I I ?_) | (refine HL.isStore ?_; first | refine HL.S 0 I I I I I ?_ | refine HL.S 1 I I I I I ?_ | refine HL.S 2 I I I I I ?_ | refine HL.S 3 I I I I I ?_) | (refine HL.alloc I I ?_; intro bk)) | refine HL.back [] rfl rfl ?_ | refine HD.nil ?_)
  obtain ⟨x, hxe⟩ : ∃ x, x = rdec1 (s.drop (4 * k)) := ⟨_, rfl⟩
  have hgd : ∀ i, (s.drop (4 * k)).getD i 0 = s.getD (4 * k + i) 0 := fun i => by simp [List.getD_eq_getElem?_getD]
  have he : [Value.int .i64 ((s.getD (4 * k) 0).toNat : Int), .int .i64 (((s.getD (4 * k + 1) 0).toNat : Int) * 256 + ((s.getD (4 * k + 2) 0).toNat : Int)), .int .i64 ((s.getD (4 * k + 3) 0).toNat : Int), .int .i64 255] = roC x := by
   rw [hxe]; unfold rdec1; simp only [hgd, Nat.add_zero]
   simp
  refine HR.ent (Ent.pick (H' := [blkC bk [Value.int .i64 ((s.getD (4 * k) 0).toNat : Int), .int .i64 (((s.getD (4 * k + 1) 0).toNat : Int) * 256 + ((s.getD (4 * k + 2) 0).toNat : Int)), .int .i64 ((s.getD (4 * k + 3) 0).toNat : Int), .int .i64 255] 79, ownC u 79 4 (rdecs s k).length (cellsOf roC (rdecs s k))]) [0, 1] I I) ?_
  rw [he]
  rw [← hxe] at hx hrk
  rw [hkl]
  repeat' (first | refine zh ?_ | refine HL.callB fn141 I I (fun w _ => rrusable_any x w) ?_ | intro (bk : Nat))
  refine HR.cond I (fun h4 => ?_) (fun h4 => ?_)
  ·have h4 : usable x = false := by simpa using h4
   have e := dbad_range hx h4
   rw [rdec_bad h h2 (by rw [← hn]; exact hg) (by rw [← hn, e]; decide) (by omega), ← hn, e]
   repeat' (first | refine zh ?_ | intro (bk : Nat))
   refine HR.nilC 79 4 ?_
   refine HR.ret Tryz.func133 I [_, _] (fun _ _ => ⟨I, I, trivial⟩) ?_
   exact fun w' hw => ⟨_, rfl, trivial, hw.pick [0] I rfl⟩
  have h4 : usable x = true := by simpa using h4
  have hxo := usable_ok h4
  obtain ⟨y, hy⟩ : ∃ y, (k = 0 ∨ (rdecs s n)[k - 1]? = some y) ∧ (k = 0 ∨ (rdecs s k)[k - 1]? = some y) := by
   by_cases h0 : k = 0
   ·exact ⟨x, .inl h0, .inl h0⟩
   ·exact ⟨rdec1 (s.drop (4 * (k - 1))), .inr (rdecs_get s (by omega)), .inr (rdecs_get s (by omega))⟩
  repeat' (first | refine zh ?_ | intro (bk : Nat))
  refine HR.regionQ hmix (by kernel_rfl) ?_
  repeat' (first | refine zq ?_ | refine HQ.lenR (Rd.own 1 I) I I I ?_ | refine HQ.idxR (Rd.own 1 I) elemRo (k - 1) I I I (by omega) (by omega) ?_ | refine HQ.fieldE (Rd.own 1 I) (by rw [cellsOf_len roC_len]; omega) I I I I I I ?_ | refine HQ.loadI (Rd.own 1 I) I I I I (cells_get roC_len (hy.2.resolve_left (by omega)) (i := 0) I) ?_ | apply zb ?_ ?_ | exact zc | (refine zi fun hb => ?_; try simp at hb))
  refine HR.cond I (fun h5 => ?_) (fun h5 => ?_)
  ·have h5 : (decide ((k : Int) > 0) && decide (x.dest ≤ y.dest)) = true := h5
   simp only [Bool.and_eq_true, decide_eq_true_eq] at h5
   have e := dbad_order hx h4 (by omega) (hy.1.resolve_left (by omega)) h5.2
   rw [rdec_bad h h2 (by rw [← hn]; exact hg) (by rw [← hn, e]; decide) (by omega), ← hn, e]
   repeat' (first | refine zh ?_ | intro (bk : Nat))
   refine HR.nilC 79 4 ?_
   refine HR.ret Tryz.func133 I [_, _] (fun _ _ => ⟨I, I, trivial⟩) ?_
   exact fun w' hw => ⟨_, rfl, trivial, hw.pick [0] I rfl⟩
  ·have h5 : (decide ((k : Int) > 0) && decide (x.dest ≤ y.dest)) = false := h5
   have hg2 : firstE (dbad (rdecs s n)) (k + 1) = 0 := firstE_step hg (dbad_ok hx h4 fun y' h0 hy' hle => by
    have := hy.1.resolve_left (by omega)
    rw [this] at hy'
    cases hy'
    rw [decide_eq_true (show (k : Int) > 0 by omega), decide_eq_true hle] at h5
    cases h5)
   refine HR.skip ?_
   repeat' (first | refine zh ?_ | refine HL.bslice elemRo I I I I I (by decide) (by decide) ?_ | intro (bk : Nat))
   intro va
   repeat' (first | refine zh ?_ | refine HL.appR 2 I elemRo (Rd.own 0 I) I I I I (allOne_spec I) (by omega) (by omega) ?_ | intro (bk : Nat))
   intro o2
   repeat' (first | refine zh ?_ | intro (bk : Nat))
   refine ih (k + 1) o2 _ _ ⟨hlt, hg2⟩ (by omega) ⟨rfl, rfl, by show some _ = some _; congr 2, trivial⟩ (Ent.trans (Ent.pick [2] I I) (Ent.own0 ?_ ?_))
   ·rw [hrk]; simp [hkl]
   ·rw [hrk, cellsOf_app]; rfl
 ·have hke : k = n := by have := of_decide_eq_false h3; omega
  subst hke
  rw [rdec_good h h2 (by rw [← hn]; exact hg), ← hn]
  repeat' (first | refine zh ?_ | intro (bk : Nat))
  refine HR.ret Tryz.func133 I [_, _] (fun _ _ => ⟨I, I, trivial⟩) ?_
  exact fun w' hw => ⟨_, rfl, trivial, hw⟩
end Go.Proofs.YtgdgclmkpoaagaaGreat
namespace Go.Proofs.YtgdgclmkpoaagaaGreat
open Go.GX Go.RowKit
attribute [local irreducible] Calls Run RunL RunQ RunD HR HL HD blkC ownC Rd
open Nd
theorem fn155 : IsFn Tryz.prog 155 := ⟨⟨_, _, Tryz.func155, rfl, by decide⟩⟩
end Go.Proofs.YtgdgclmkpoaagaaGreat
namespace Go.Proofs.YtgdgclmkpoaagaaGreat
open Go.GX Go.RowKit
attribute [local irreducible] Calls Run RunL RunQ RunD HR HL HD blkC ownC Rd
open Nd
theorem fn156 : IsFn Tryz.prog 156 := ⟨⟨_, _, Tryz.func156, rfl, by decide⟩⟩
theorem r16first_any (l : List Sn) (v : Value) (w : World) (hv : Sl w v (cellsOf snC l) l.length) (hl : l.length ≤ 1000) :
  Calls Tryz.prog 155 #[v] w fun e w' => ∃ v', e = .returned v' ∧ Sat (base w) [ownC v' 48 11 (l.take 16).length (cellsOf snC (l.take 16))] w' := by
 refine calls_hr Tryz.func155 I (Nat.le_of_ble_eq_true I) ?_
 refine HR.sub (σ' := [(0, v)]) ⟨I, trivial⟩ ?_
 repeat' (first | refine zh ?_ | intro (bk : Nat))
 refine HR.nilC 48 11 ?_
 refine HR.loop2 (α := Nat) (β := Value) (fun k o => k ≤ l.length ∧ k ≤ 16) (fun k o => [(0, v), (3, o), (4, .int .i64 (k : Int))]) (fun k o => [ownC o 48 11 (l.take k).length (cellsOf snC (l.take k))]) (fun k _ => l.length - k) 0 (.slice none 0 0) ⟨Nat.zero_le _, by omega⟩ ⟨I, I, I, trivial⟩ Ent.refl ?_
 rintro k o ⟨hk, hk16⟩ ih
 have htl : (l.take k).length = k := by simp; omega
 repeat' (first | refine zh ?_ | refine HL.lenR (Rd.arg hv) I I I ?_ | apply zb ?_ ?_ | exact zc | (refine zi fun hb => ?_; try simp at hb) | intro (bk : Nat))
 refine HR.cond I (fun h2 => ?_) (fun h2 => ?_)
 ·have h2 : (decide ((k : Int) < l.length) && decide ((k : Int) < 16)) = true := h2
  simp only [Bool.and_eq_true, decide_eq_true_eq] at h2
  have hlt : k < l.length := by omega
  obtain ⟨x, hx⟩ := getSome hlt
  repeat' (first | refine zh ?_ | refine HL.idxR (Rd.arg hv) elemSn k I I I I hlt ?_ | refine HL.loadE (Rd.arg hv) I I I I (by simp) I (cellsOf_get snC_len hx) ?_ | refine HL.bslice elemSn I I I I I (by decide) (by decide) ?_ | intro (bk : Nat))
  intro va
  repeat' (first | refine zh ?_ | refine HL.appR 1 I elemSn (Rd.own 0 I) I I I I (allOne_spec I) (by omega) (by omega) ?_ | intro (bk : Nat))
  intro o2
  repeat' (first | refine zh ?_ | intro (bk : Nat))
  refine ih (k + 1) o2 _ _ ⟨hlt, by omega⟩ (by omega) ⟨I, I, I, trivial⟩ (Ent.trans (Ent.pick [1] I I) (Ent.own0 ?_ ?_))
  ·rw [take_succ_get hx]; simp
  ·rw [take_succ_get hx, cellsOf_app]; rfl
 ·have h2 : (decide ((k : Int) < l.length) && decide ((k : Int) < 16)) = false := h2
  have e : l.take k = l.take 16 := by
   by_cases h3 : k < l.length
   ·rw [decide_eq_true (show (k : Int) < l.length by omega), Bool.true_and, decide_eq_false_iff_not] at h2
    rw [show k = 16 by omega]
   ·rw [List.take_of_length_le (by omega), List.take_of_length_le (by omega)]
  rw [e]
  repeat' (first | refine zh ?_ | intro (bk : Nat))
  refine HR.ret Tryz.func155 I [_] (fun _ _ => ⟨I, trivial⟩) ?_
  exact fun w' hw => ⟨o, rfl, hw⟩
theorem r16without_any (l : List Sn) (i : Nat) (v : Value) (w : World) (hv : Sl w v (cellsOf snC l) l.length) (hl : l.length ≤ 1000) (hi : i < l.length) :
  Calls Tryz.prog 156 #[v, .int .i64 (i : Int)] w fun e w' => ∃ v', e = .returned v' ∧ Sat (base w) [ownC v' 48 11 (l.eraseIdx i).length (cellsOf snC (l.eraseIdx i))] w' := by
 have hstep : ∀ {k : Nat} {x : Sn}, l[k]? = some x → (l.take (k + 1)).eraseIdx i = if k = i then (l.take k).eraseIdx i else (l.take k).eraseIdx i ++ [x] := by
  intro k x hx
  have hkl := (List.getElem?_eq_some_iff.1 hx).1
  have htl : (l.take k).length = k := by simp; omega
  rw [take_succ_get hx]
  split
  ·rename_i h
   subst h
   rw [List.eraseIdx_append_of_length_le (by omega), htl, Nat.sub_self, List.eraseIdx_of_length_le (l := l.take k) (by omega)]; simp
  ·rename_i h
   by_cases h3 : i < k
   ·rw [List.eraseIdx_append_of_lt_length (by omega)]
   ·rw [List.eraseIdx_append_of_length_le (by omega), htl, List.eraseIdx_of_length_le (l := [x]) (by simp; omega), List.eraseIdx_of_length_le (l := l.take k) (by omega)]
 refine calls_hr Tryz.func156 I (Nat.le_of_ble_eq_true I) ?_
 refine HR.sub (σ' := [(0, v), (1, .int .i64 (i : Int))]) ⟨I, I, trivial⟩ ?_
 repeat' (first | refine zh ?_ | intro (bk : Nat))
 refine HR.nilC 48 11 ?_
 refine HR.loop2 (α := Nat) (β := Value) (fun k o => k ≤ l.length) (fun k o => [(0, v), (1, .int .i64 (i : Int)), (5, o), (6, .int .i64 (k : Int))]) (fun k o => [ownC o 48 11 ((l.take k).eraseIdx i).length (cellsOf snC ((l.take k).eraseIdx i))]) (fun k _ => l.length - k) 0 (.slice none 0 0) (Nat.zero_le _) ⟨I, I, I, I, trivial⟩ (by rw [List.take_zero, List.eraseIdx_nil]; exact Ent.refl) ?_
 rintro k o hk ih
 have htl : ((l.take k).eraseIdx i).length ≤ k := Nat.le_trans (List.length_eraseIdx_le _ _) (by simp; omega)
 repeat' (first | refine zh ?_ | refine HL.lenR (Rd.arg hv) I I I ?_ | intro (bk : Nat))
 refine HR.cond I (fun h2 => ?_) (fun h2 => ?_)
 ·have hlt : k < l.length := by have := of_decide_eq_true h2; omega
  obtain ⟨x, hx⟩ := getSome hlt
  have hst := hstep hx
  repeat' (first | refine zh ?_ | intro (bk : Nat))
  refine HR.cond I (fun h3 => ?_) (fun h3 => ?_)
  ·have h3 : ¬ k = i := by have h3 : ((k : Int) != (i : Int)) = true := h3; simp at h3; omega
   rw [if_neg h3] at hst
   repeat' (first | refine zh ?_ | refine HL.idxR (Rd.arg hv) elemSn k I I I I hlt ?_ | refine HL.loadE (Rd.arg hv) I I I I (by simp) I (cellsOf_get snC_len hx) ?_ | refine HL.bslice elemSn I I I I I (by decide) (by decide) ?_ | intro (bk : Nat))
   intro va
   repeat' (first | refine zh ?_ | refine HL.appR 1 I elemSn (Rd.own 0 I) I I I I (allOne_spec I) (by omega) (by omega) ?_ | intro (bk : Nat))
   intro o2
   repeat' (first | refine zh ?_ | intro (bk : Nat))
   refine ih (k + 1) o2 _ _ hlt (by omega) ⟨I, I, I, I, trivial⟩ (Ent.trans (Ent.pick [1] I I) (Ent.own0 ?_ ?_))
   ·rw [hst]; simp
   ·rw [hst, cellsOf_app]; rfl
  ·have h3 : k = i := by have h3 : ((k : Int) != (i : Int)) = false := h3; simp at h3; omega
   rw [if_pos h3] at hst
   repeat' (first | refine zh ?_ | intro (bk : Nat))
   exact ih (k + 1) o _ _ hlt (by omega) ⟨I, I, I, I, trivial⟩ (Ent.own0 (by rw [hst]) (by rw [hst]))
 ·have hke : k = l.length := by have := of_decide_eq_false h2; omega
  subst hke
  rw [List.take_length]
  repeat' (first | refine zh ?_ | intro (bk : Nat))
  refine HR.ret Tryz.func156 I [_] (fun _ _ => ⟨I, trivial⟩) ?_
  exact fun w' hw => ⟨o, rfl, hw⟩
end Go.Proofs.YtgdgclmkpoaagaaGreat
namespace Go.Proofs.YtgdgclmkpoaagaaGreat
open Go.GX Go.RowKit
attribute [local irreducible] Calls Run RunL RunQ RunD HR HL HD blkC ownC Rd
open Nd
theorem ma_fr {l : List Ma} {n : Nat} {s : Ma} (hs : l[n]? = some s) : ∀ (i : Nat) u, (frC s.f)[i]? = some u → (cellsOf maC l)[n * 10 + i]? = some u := fun i u h => by
 refine cellsOf_get maC_len hs i u ?_
 show (frC s.f ++ [.int .i64 s.si])[i]? = some u
 rw [List.getElem?_append_left (List.getElem?_eq_some_iff.1 h).1]; exact h
end Go.Proofs.YtgdgclmkpoaagaaGreat
namespace Go.GX
open Go.RowKit
section
variable {P : Program} {f : FuncId} {N : Nat} {k : List Item} {σ : Store} {B : Base} {H H0 : List Chunk} {R : Ending → World → Prop} {ops l : List Oper} {o : Oper} {K : Act → World → Prop}
variable {d : Nat} {d' : Option Nat} {ty : TypeId} {pos : String} {af : Array Edge} {gd : Option (Nat × Bool)} {u v : Value}
theorem HD.fieldN {F : List Chunk} (o : Nat) {i : Nat} {p : List (Nat × Bool)} {s : TypeId} {x : Operand} {fl : List Field} {fi j n : Nat} {fd : Field} {ti : TypeInfo} {cs : List Value} (hv : Rd B F v cs n) (hj : j < cs.length) (ho' : ops[i]? = some ⟨some d, .fieldAddr s x fi, ty, pos, af, gd⟩) (hs : stat N ops ⟨some d, .fieldAddr s x fi, ty, pos, af, gd⟩ σ = true) (hT : P.underlying s = some (.struct ⟨fl⟩)) (hf : nthF fl fi = some fd) (hti : P.info? fd.type = some ti) (hz : Nat.ble 1 ti.size = true) (hx : lookO σ x = some (elemPtr v j)) (ho : fd.offset = o)
  (h : HD P N ops p ((d, elemPtr v (j + o)) :: σ) B H F K) : HD P N ops ((i, true) :: p) σ B H F K := by
 subst ho; exact HD.fieldE hv hj ho' hs hT hf hti hz hx h
theorem HR.joinI {id : Nat} {x : Code} {ι : Type} (Inv : ι → Prop) (st : ι → Store) (hp : ι → List Chunk) (hj : ∀ i, Inv i → HR P f N k (st i) B (hp i) R)
  (h : (∀ i σ' H', Inv i → Sub (st i) σ' → Ent B H' (hp i) → HR P f N k σ' B H' R) → HR P f N (.code x :: .inBlock id :: k) σ B H R) : HR P f N (.code x :: .inBlock id :: k) σ B H R :=
 h fun i σ' H' hi hs he => HR.sub hs (HR.ent he (hj i hi))
end
end Go.GX
namespace Go.Proofs.YtgdgclmkpoaagaaGreat
open Go.GX Go.RowKit
attribute [local irreducible] Calls Run RunL RunQ RunD HR HL HD blkC ownC Rd
open Nd
theorem fn118 : IsFn Tryz.prog 118 := ⟨⟨_, _, Tryz.func118, rfl, by decide⟩⟩
theorem fn138 : IsFn Tryz.prog 138 := ⟨⟨_, _, Tryz.func138, rfl, by decide⟩⟩
end Go.Proofs.YtgdgclmkpoaagaaGreat
namespace Go.Proofs.YtgdgclmkpoaagaaGreat
open Go.GX Go.RowKit
attribute [local irreducible] Calls Run RunL RunQ RunD HR HL HD blkC ownC Rd
open Nd
theorem filt_take {α : Type} (p : α → Bool) {l : List α} {k : Nat} {x : α} (hx : l[k]? = some x) : (l.take (k + 1)).filter p = if p x = true then (l.take k).filter p ++ [x] else (l.take k).filter p := by
 rw [take_succ_get hx, List.filter_append]
 split
 ·rename_i h; rw [List.filter_cons_of_pos h]; rfl
 ·rename_i h; rw [List.filter_cons_of_neg h]; simp
end Go.Proofs.YtgdgclmkpoaagaaGreat
