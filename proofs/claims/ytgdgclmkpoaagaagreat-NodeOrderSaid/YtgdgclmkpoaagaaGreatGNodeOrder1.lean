/- A part of the proof: contracts of the program's functions. Conditions: none. -/
import Derived.Carry
import Derived.Deep.MidRow
import Derived.Deep.Quiet
import Derived.Laws.IdiomRangeMap
import Derived.Laws.MakeOwn
import Derived.Laws.StructEq
import Derived.Laws.Tables
import Derived.Lib.AppendStr
import Derived.Lib.AppendZerosOnto
import Derived.Lib.OthersKept
import Derived.Lib.Overlaps
import Derived.Lib.OwnBridge
import Derived.Lib.SlicesCompact
import Derived.MapKept
import Derived.Orders
import Derived.OrdersHeld
import Derived.Scope
import Derived.Sort.Grow
import Derived.StillTail
import Derived.Test.YtgdgclmkpoaagaaGreatProg
import Derived.Test.YtgdgclmkpoaagaaGreatShelf
import Derived.WalkKit
import Derived.WalkLawsBesides
import Derived.WalkSpells
import Derived.Test.YtgdgclmkpoaagaaGreatGB1
import Derived.Test.YtgdgclmkpoaagaaGreatGB2
import Derived.Test.YtgdgclmkpoaagaaGreatGB3
import Derived.Test.YtgdgclmkpoaagaaGreatGB4
import Derived.Test.YtgdgclmkpoaagaaGreatGB5
import Derived.Test.YtgdgclmkpoaagaaGreatGB6
import Derived.Test.YtgdgclmkpoaagaaGreatGB7
import Derived.Test.YtgdgclmkpoaagaaGreatGB8
set_option linter.unusedVariables false
set_option linter.unusedSectionVars false
set_option linter.unusedSimpArgs false
set_option maxRecDepth 100000
set_option maxHeartbeats 4000000
namespace Go.GX
open Go.RowKit
section
variable {P : Program} {f : FuncId} {N : Nat} {k : List Item} {σ : Store} {B : Base} {H H' F : List Chunk} {R : Ending → World → Prop} {ops l : List Oper} {o : Oper} {K : Act → World → Prop} {KQ : Act → Prop} {C : World → Prop}
 {d : Nat} {op : Op} {ty : TypeId} {pos : String} {af : Array Edge} {gd : Option (Nat × Bool)} {v u : Value} {w : World} {d' : Option Tmp} {p : List (Nat × Bool)} {i : Nat} {S : World → Prop}
theorem HD.lenR {t e : TypeId} {x : Operand} {n : Nat} {cs : List Value} (hv : Rd B F v cs n) (ho : ops[i]? = some ⟨some d, .call ⟨.builtin .len, #[x], #[t]⟩, ty, pos, af, gd⟩) (hs : stat N ops ⟨some d, .call ⟨.builtin .len, #[x], #[t]⟩, ty, pos, af, gd⟩ σ = true) (hT : P.underlying t = some (.slice e)) (hx : lookO σ x = some v)
  (h : HD P N ops p ((d, .int .i64 (n : Int)) :: σ) B H F K) : HD P N ops ((i, true) :: p) σ B H F K := HD.rd ho hs (hx_len hv hT hx) h
end
end Go.GX
namespace Go.GX
open Go.RowKit
section
variable {P : Program} {f : FuncId} {N : Nat} {k : List Item} {σ : Store} {B : Base} {H H' F : List Chunk} {R : Ending → World → Prop} {ops l : List Oper} {o : Oper} {K : Act → World → Prop} {KQ : Act → Prop} {C : World → Prop}
 {d : Nat} {op : Op} {ty : TypeId} {pos : String} {af : Array Edge} {gd : Option (Nat × Bool)} {v u : Value} {w : World} {d' : Option Tmp} {p : List (Nat × Bool)} {i : Nat} {S : World → Prop}
theorem Rd.blk {b n : Nat} {T : TypeId} {cs : List Value} (i : Nat) (hi : nthC H i = some (blkC b cs T)) : Rd B H (.slice (some ⟨b, 0, none⟩) n n) cs n := by
 intro w hw
 have hb : Blk w b cs T := hw.nth hi
 refine ⟨.inr ⟨b, 0, n, rfl, fun j u hu => ?_⟩, _, _, rfl, Nat.le_refl _⟩
 rw [Nat.zero_add, hb.cell]; exact hu
theorem HR.exit {id : Nat} {k' : List Item} (he : exitTo id k = some k') (h : HR P f N k' σ B H R) : HR P f N (.code (.exit id) :: k) σ B H R := fun w hw => Run.exit he (h w hw)
end
end Go.GX
namespace Nd
open Go.GX Tp
def lforget (l : List Li) (n : Int) : List Li := (lval l).filter fun x => !(x.nd == n)
def rbump (t : List Ro) (self : Int) : List Ro := match rat (rtab t self) (lim self) with
 | some r => if r.sq < 65534 then (rtab t self).set (rpos (rtab t self) (lim self)) ⟨r.dest, r.sq + 2, r.cost, r.nx⟩ else rtab t self
 | none => rtab t self
def rbrk (t : List Ro) (self next : Int) : List Ro :=
 (rtab t self).map fun r => if okN next = true ∧ r.nx = next ∧ r.dest ≠ lim self then ⟨r.dest, r.sq + 1, 255, 255⟩ else r
def mtick1 (s : Sn) : Sn := if s.wt > 0 then ⟨s.f, s.tr, s.wt - 1⟩ else s
def mtick (q : List Sn) : List Sn := (q.take 16).map mtick1
def pexp (l : List Pt) (now life : Int) : List Pt := (porder l).filter fun p => decide (tick now - p.si ≤ tick life)
def take (n : Nd) : Nd × List De := ({ order n with inbox := [] }, (order n).inbox)
def number (n : Nd) : Int := match rat n.table n.addr with
 | some r => r.sq
 | none => 0
def waits (n : Nd) (k : Int) : Bool := n.out.any fun x => x.f.kd == k
def stale (x : Sn) : Bool := (x.f.kd == 2) && !(x.f.dst == 255) && decide (x.tr > 0)
def asleep (n : Nd) (now : Int) : Nd := ((n.out.filter stale).map (·.f)).foldl (fun n f => box n f now) { n with out := n.out.filter fun x => !stale x }
def beaconF (n : Nd) : Fr := ⟨1, n.addr, 255, n.addr, 255, number n, 0, false, renc n.table⟩
def pollF (n : Nd) : Fr := ⟨3, n.addr, n.parent, n.addr, n.parent, number n, 0, true, []⟩
def bumped (n : Nd) : Nd := { n with table := rbump n.table n.addr }
def beacon (n : Nd) : Nd := if waits n 1 = false ∧ n.out.length < 16 then (queue (bumped n) (beaconF (bumped n))).1 else bumped n
def poll (n : Nd) : Nd := if waits n 3 = false then (queue (bumped n) (pollF (bumped n))).1 else bumped n
def tickN (n : Nd) (now : Int) : Nd :=
 let s := order n
 let a := asleep { s with out := mtick s.out, boxes := bexp s.boxes (tick now) 120, parts := pexp s.parts (tick now) 120 } (tick now)
 let b := if a.poll = 0 ∧ tick now % 8 = a.addr % 8 then beacon a else a
 if b.poll > 0 ∧ b.parent ≠ 255 ∧ tick now % b.poll = 0 then poll b else b
def giveUp (n : Nd) (to : Int) : Nd :=
 if okN to = false then lose n
 else { lose n with table := rbrk n.table n.addr to, links := lforget n.links to, children := n.children.filter fun c => !(c == to), parent := if n.parent = to then 255 else n.parent }
def hits (f : Fr) (x : Sn) : Bool := (x.f.kd == f.kd) && (x.f.so == f.so) && (x.f.sq == f.sq)
def result (n : Nd) (f : Fr) (ok : Bool) : Nd :=
 let s := order n
 match s.out.findIdx? (hits f) with
 | none => s
 | some i =>
  let a := { s with out := (mres s.out i ok).1 }
  let b := if okN f.dst then { a with links := lseen a.links f.dst ok } else a
  if (mres s.out i ok).2 then giveUp b f.dst else b
end Nd
namespace Nd
open Go.GX Tp
section
variable {α : Type} {key : α → Int}
theorem Asc.map_same {l : List α} (f : α → α) (hf : ∀ a, key (f a) = key a) (h : Asc key l) : Asc key (l.map f) := by
 unfold Asc
 rw [List.pairwise_map]
 exact h.imp fun {a b} hab => by rw [hf, hf]; exact hab
theorem Asc.filter {l : List α} (p : α → Bool) (h : Asc key l) : Asc key (l.filter p) := List.Pairwise.filter p h
end
theorem Tab.get {t : List Ro} {self : Int} (h : Tab self t) : ∃ r, rat t self = some r ∧ r.dest = self ∧ r.cost = 0 ∧ r.nx = self := by
 obtain ⟨r, hr, he⟩ := List.any_eq_true.1 h.own
 obtain ⟨x, hx⟩ : ∃ x, rat t self = some x := by
  cases hf : rat t self with
  | some x => exact ⟨x, rfl⟩
  | none => exact absurd he (by simpa using List.find?_eq_none.1 hf r hr)
 have hxd : x.dest = self := by simpa using List.find?_some hx
 have hform := h.form x (List.mem_of_find?_eq_some hx)
 rw [rform, if_pos hxd] at hform
 simp only [Bool.not_eq_false', Bool.and_eq_true, beq_iff_eq] at hform
 exact ⟨x, hx, hxd, hform.1, hform.2⟩
end Nd
namespace Nd
open Go.GX Tp
theorem lforget_is {l : List Li} {n : Int} {x : Li} (hx : (lval l)[lpos (lval l) n]? = some x) (hn : x.nd = n) : lforget l n = (lval l).eraseIdx (lpos (lval l) n) := by
 obtain ⟨A, C, s⟩ := (lval_asc l).split n
 have hl : lpos (lval l) n = A.length := by unfold lpos; rw [s.tw]
 have hA : A.filter (fun x => !(x.nd == n)) = A := List.filter_eq_self.2 fun a ha => by have := s.lo a ha; simp; omega
 rcases s.hi with ⟨h3, h4⟩ | ⟨y, D, rfl, hy, h3, h4⟩
 ·have := ((lval_asc l).pos_is hx hn).2
  rw [h3] at this; cases this
 ·have hC : (y :: D).filter (fun x => !(x.nd == n)) = D := by
   rw [List.filter_cons_of_neg (by simp [hy])]
   exact List.filter_eq_self.2 fun a ha => by have := h4 a ha; simp; omega
  unfold lforget
  rw [hl, s.eq, List.filter_append, hA, hC]
  simp [List.eraseIdx_append_of_length_le]
theorem lforget_no {l : List Li} {n : Int} (h : lat (lval l) n = none) : lforget l n = lval l :=
 List.filter_eq_self.2 fun a ha => by
  have := List.find?_eq_none.1 h a ha
  simpa using this
end Nd
namespace Nd
open Go.GX Tp
theorem last_id {α : Type} {n : Nat} {l : List α} (h : l.length ≤ n) : last n l = l := by
 unfold last; rw [show l.length - n = 0 by omega]; rfl
end Nd
namespace Go.Proofs.YtgdgclmkpoaagaaGreat
open Go.GX Go.RowKit
attribute [local irreducible] Calls Run RunL RunQ RunD HR HL HD blkC ownC Rd
open Nd
theorem fn140 : IsFn Tryz.prog 140 := ⟨⟨_, _, Tryz.func140, rfl, by decide⟩⟩
theorem fn141 : IsFn Tryz.prog 141 := ⟨⟨_, _, Tryz.func141, rfl, by decide⟩⟩
theorem fn142 : IsFn Tryz.prog 142 := ⟨⟨_, _, Tryz.func142, rfl, by decide⟩⟩
theorem fn65 : IsFn Tryz.prog 65 := ⟨⟨_, _, Tryz.func65, rfl, by decide⟩⟩
theorem fn45 : IsFn Tryz.prog 45 := ⟨⟨_, _, Tryz.func45, rfl, by decide⟩⟩
theorem fn63 : IsFn Tryz.prog 63 := ⟨⟨_, _, Tryz.func63, rfl, by decide⟩⟩
theorem address_any (n : Int) (w : World) : Calls Tryz.prog 45 #[.int .i64 n] w fun e w' => e = .returned (.bool (Tp.okN n)) ∧ Below w.heap.size w w' := by
 refine calls_hr Tryz.func45 I (Nat.le_of_ble_eq_true I) ?_
 refine HR.sub (σ' := [(0, .int .i64 n)]) ⟨I, trivial⟩ ?_
 repeat' (first | refine zh ?_ | apply zb ?_ ?_ | exact zc | (refine zi fun hb => ?_; try simp at hb) | intro (bk : Nat))
 refine HR.ret Tryz.func45 I [_] (fun _ _ => ⟨I, trivial⟩) ?_
 exact fun w' hw => ⟨rfl, hw.belowB⟩
theorem rrfin_any (r : Ro) (w : World) : Calls Tryz.prog 142 #[.agg ⟨roC r⟩] w fun e w' => e = .returned (.bool (fin r)) ∧ Below w.heap.size w w' := by
 refine calls_hr Tryz.func142 I (Nat.le_of_ble_eq_true I) ?_
 refine HR.sub (σ' := [(0, .agg ⟨roC r⟩)]) ⟨I, trivial⟩ ?_
 repeat' (first | refine zh ?_ | apply zb ?_ ?_ | exact zc | (refine zi fun hb => ?_; try simp at hb) | intro (bk : Nat))
 refine HR.ret Tryz.func142 I [_] (fun _ _ => ⟨I, trivial⟩) ?_
 exact fun w' hw => ⟨rfl, hw.belowB⟩
theorem rrlim_any (n : Int) (w : World) : Calls Tryz.prog 140 #[.int .i64 n] w fun e w' => e = .returned (.int .i64 (lim n)) ∧ Below w.heap.size w w' := by
 refine calls_hr Tryz.func140 I (Nat.le_of_ble_eq_true I) ?_
 refine HR.sub (σ' := [(0, .int .i64 n)]) ⟨I, trivial⟩ ?_
 repeat' (first | refine zh ?_ | apply zb ?_ ?_ | exact zc | (refine zi fun hb => ?_; try simp at hb) | intro (bk : Nat))
 refine HR.cond I (fun h => ?_) (fun h => ?_)
 ·have h : n < 0 := of_decide_eq_true h
  repeat' (first | refine zh ?_ | apply zb ?_ ?_ | exact zc | (refine zi fun hb => ?_; try simp at hb) | intro (bk : Nat))
  refine HR.ret Tryz.func140 I [_] (fun _ _ => ⟨I, trivial⟩) ?_
  exact fun w' hw => ⟨by rw [show lim n = 0 by unfold lim clamp; omega]; rfl, hw.belowB⟩
 have h : ¬ n < 0 := of_decide_eq_false h
 repeat' (first | refine zh ?_ | apply zb ?_ ?_ | exact zc | (refine zi fun hb => ?_; try simp at hb) | intro (bk : Nat))
 refine HR.cond I (fun h1 => ?_) (fun h1 => ?_)
 ·have h1 : n > 250 := of_decide_eq_true h1
  repeat' (first | refine zh ?_ | apply zb ?_ ?_ | exact zc | (refine zi fun hb => ?_; try simp at hb) | intro (bk : Nat))
  refine HR.ret Tryz.func140 I [_] (fun _ _ => ⟨I, trivial⟩) ?_
  exact fun w' hw => ⟨by rw [show lim n = 250 by unfold lim clamp; omega]; rfl, hw.belowB⟩
 ·have h1 : ¬ n > 250 := of_decide_eq_false h1
  repeat' (first | refine zh ?_ | apply zb ?_ ?_ | exact zc | (refine zi fun hb => ?_; try simp at hb) | intro (bk : Nat))
  refine HR.ret Tryz.func140 I [_] (fun _ _ => ⟨I, trivial⟩) ?_
  exact fun w' hw => ⟨by rw [show lim n = n by unfold lim clamp; omega]; rfl, hw.belowB⟩
theorem rrusable_any (r : Ro) (w : World) : Calls Tryz.prog 141 #[.agg ⟨roC r⟩] w fun e w' => e = .returned (.bool (usable r)) ∧ Below w.heap.size w w' := by
 refine calls_hr Tryz.func141 I (Nat.le_of_ble_eq_true I) ?_
 refine HR.sub (σ' := [(0, .agg ⟨roC r⟩)]) ⟨I, trivial⟩ ?_
 repeat' (first | refine zh ?_ | apply zb ?_ ?_ | exact zc | (refine zi fun hb => ?_; try simp at hb) | intro (bk : Nat))
 refine HR.cond I (fun h => ?_) (fun h => ?_)
 ·have h : (((decide (r.dest < 0) || decide (r.dest > 250)) || decide (r.sq < 0)) || decide (r.sq > 65535)) = true := h
  repeat' (first | refine zh ?_ | apply zb ?_ ?_ | exact zc | (refine zi fun hb => ?_; try simp at hb) | intro (bk : Nat))
  refine HR.ret Tryz.func141 I [_] (fun _ _ => ⟨I, trivial⟩) ?_
  refine fun w' hw => ⟨?_, hw.belowB⟩
  have : usable r = false := by
   rw [← Bool.not_eq_true]
   simp only [usable, Tp.okN, Bool.and_eq_true, Bool.or_eq_true, Bool.not_eq_true', Bool.or_eq_false_iff, decide_eq_true_eq, decide_eq_false_iff_not] at h ⊢
   omega
  rw [this]; rfl
 ·have h : (((decide (r.dest < 0) || decide (r.dest > 250)) || decide (r.sq < 0)) || decide (r.sq > 65535)) = false := h
  have h' := h
  simp only [Bool.or_eq_false_iff, decide_eq_false_iff_not] at h'
  have h0 : 0 ≤ r.sq := by omega
  repeat' (first | refine zh ?_ | refine HL.callB fn142 I I (fun w _ => rrfin_any r w) ?_ | apply zb ?_ ?_ | exact zc | (refine zi fun hb => ?_; try simp at hb) | intro (bk : Nat))
  refine HR.ret Tryz.func141 I [_] (fun _ _ => ⟨I, trivial⟩) ?_
  refine fun w' hw => ⟨?_, hw.belowB⟩
  have : usable r = ((fin r && (r.sq % 2 == 0)) || (r.cost == 255)) := by
   unfold usable Tp.okN
   have e1 : decide (r.sq < 0) = false := decide_eq_false (by omega)
   have e2 : decide (r.sq > 65535) = false := decide_eq_false (by omega)
   have e3 : decide (r.dest ≥ 0) = true := decide_eq_true (by omega)
   have e4 : decide (r.dest ≤ 250) = true := decide_eq_true (by omega)
   rw [e1, e2, e3, e4]; rfl
  rw [this]; rfl
theorem rrnew_any (n : Int) (w : World) : Calls Tryz.prog 65 #[.int .i64 n] w fun e w' => ∃ v, e = .returned v ∧ Sat (base w) [ownC v 79 4 (rnew n).length (cellsOf roC (rnew n))] w' := by
 refine calls_hr Tryz.func65 I (Nat.le_of_ble_eq_true I) ?_
 refine HR.sub (σ' := [(0, .int .i64 n)]) ⟨I, trivial⟩ ?_
 repeat' (first | refine zh ?_ | refine HL.callB fn140 I I (fun w _ => rrlim_any n w) ?_ | refine HL.bslice elemRo I I I I I (by decide) (by decide) ?_ | apply zb ?_ ?_ | exact zc | (refine zi fun hb => ?_; try simp at hb) | intro (bk : Nat))
 intro v
 repeat' (first | refine zh ?_ | apply zb ?_ ?_ | exact zc | (refine zi fun hb => ?_; try simp at hb) | intro (bk : Nat))
 refine HR.ret Tryz.func65 I [_] (fun _ _ => ⟨I, trivial⟩) ?_
 exact fun w' hw => ⟨v, rfl, hw⟩
theorem rclamp_any (n lo hi : Int) (hlh : lo ≤ hi) (w : World) : Calls Tryz.prog 63 #[.int .i64 n, .int .i64 lo, .int .i64 hi] w fun e w' => e = .returned (.int .i64 (clamp n lo hi)) ∧ Below w.heap.size w w' := by
 refine calls_hr Tryz.func63 I (Nat.le_of_ble_eq_true I) ?_
 refine HR.sub (σ' := [(0, .int .i64 n), (1, .int .i64 lo), (2, .int .i64 hi)]) ⟨I, I, I, trivial⟩ ?_
 repeat' (first | refine zh ?_ | apply zb ?_ ?_ | exact zc | (refine zi fun hb => ?_; try simp at hb) | intro (bk : Nat))
 refine HR.cond I (fun h => ?_) (fun h => ?_)
 ·have h : (decide (hi < lo) || decide (n > hi)) = true := h
  simp only [Bool.or_eq_true, decide_eq_true_eq] at h
  repeat' (first | refine zh ?_ | apply zb ?_ ?_ | exact zc | (refine zi fun hb => ?_; try simp at hb) | intro (bk : Nat))
  refine HR.ret Tryz.func63 I [_] (fun _ _ => ⟨I, trivial⟩) ?_
  exact fun w' hw => ⟨by rw [show clamp n lo hi = hi by unfold clamp; omega]; rfl, hw.belowB⟩
 have h : (decide (hi < lo) || decide (n > hi)) = false := h
 simp only [Bool.or_eq_false_iff, decide_eq_false_iff_not] at h
 repeat' (first | refine zh ?_ | apply zb ?_ ?_ | exact zc | (refine zi fun hb => ?_; try simp at hb) | intro (bk : Nat))
 refine HR.cond I (fun h1 => ?_) (fun h1 => ?_)
 ·have h1 : n < lo := of_decide_eq_true h1
  repeat' (first | refine zh ?_ | apply zb ?_ ?_ | exact zc | (refine zi fun hb => ?_; try simp at hb) | intro (bk : Nat))
  refine HR.ret Tryz.func63 I [_] (fun _ _ => ⟨I, trivial⟩) ?_
  exact fun w' hw => ⟨by rw [show clamp n lo hi = lo by unfold clamp; omega]; rfl, hw.belowB⟩
 ·have h1 : ¬ n < lo := of_decide_eq_false h1
  repeat' (first | refine zh ?_ | apply zb ?_ ?_ | exact zc | (refine zi fun hb => ?_; try simp at hb) | intro (bk : Nat))
  refine HR.ret Tryz.func63 I [_] (fun _ _ => ⟨I, trivial⟩) ?_
  exact fun w' hw => ⟨by rw [show clamp n lo hi = n by unfold clamp; omega]; rfl, hw.belowB⟩
end Go.Proofs.YtgdgclmkpoaagaaGreat
namespace Nd
open Go.GX Tp
theorem ne_lim (n : Int) : (n != lim n) = !okN n := by
 rw [Bool.eq_iff_iff]
 simp only [bne_iff_ne, ne_eq, Bool.not_eq_true', okN, Bool.and_eq_false_iff, decide_eq_false_iff_not]
 unfold lim clamp; omega
def rlook (t : List Ro) (d : Int) : Int := match t.findIdx? (fun x => x.dest == d) with
 | some i => i
 | none => -1
theorem rlook_at {t : List Ro} {d : Int} {i : Nat} {x : Ro} (hx : t[i]? = some x) (hd : (x.dest == d) = true) (hno : ∀ j a, j < i → t[j]? = some a → (a.dest == d) = false) : rlook t d = i := by
 have : t.findIdx? (fun x => x.dest == d) = some i := by
  rw [List.findIdx?_eq_some_iff_getElem]
  obtain ⟨hl, rfl⟩ := List.getElem?_eq_some_iff.1 hx
  exact ⟨hl, hd, fun j hj => by rw [hno j _ hj (List.getElem?_eq_getElem (by omega))]; decide⟩
 unfold rlook; rw [this]
theorem rlook_none {t : List Ro} {d : Int} (hno : ∀ j a, j < t.length → t[j]? = some a → (a.dest == d) = false) : rlook t d = -1 := by
 have : t.findIdx? (fun x => x.dest == d) = none := by
  rw [List.findIdx?_eq_none_iff]
  intro x hx
  obtain ⟨j, hj⟩ := List.getElem?_of_mem hx
  exact hno j x (List.getElem?_eq_some_iff.1 hj).1 hj
 unfold rlook; rw [this]
theorem rlook_cases (t : List Ro) (d : Int) : (rlook t d = -1 ∧ rat t d = none) ∨ ∃ (i : Nat) (x : Ro), rlook t d = i ∧ t[i]? = some x ∧ x.dest = d ∧ rat t d = some x := by
 unfold rlook
 cases h : t.findIdx? (fun x => x.dest == d) with
 | none =>
  refine .inl ⟨rfl, List.find?_eq_none.2 fun x hx => ?_⟩
  have := List.findIdx?_eq_none_iff.1 h x hx
  simp [this]
 | some i =>
  obtain ⟨hl, hd, hno⟩ := List.findIdx?_eq_some_iff_getElem.1 h
  refine .inr ⟨i, t[i], rfl, List.getElem?_eq_getElem hl, by simpa using hd, find_first (List.getElem?_eq_getElem hl) hd fun j a hj ha => ?_⟩
  obtain ⟨hl', rfl⟩ := List.getElem?_eq_some_iff.1 ha
  simpa using hno j hj
end Nd
namespace Nd
open Go.GX Tp
theorem rbump_has {t : List Ro} {self : Int} {x : Ro} (hx : (rtab t self)[rpos (rtab t self) (lim self)]? = some x) (hd : x.dest = lim self) : rbump t self = if x.sq < 65534 then (rtab t self).set (rpos (rtab t self) (lim self)) ⟨x.dest, x.sq + 2, x.cost, x.nx⟩ else rtab t self := by
 have := ((rtab_tab t self).asc.pos_is hx hd).2
 unfold rbump rat; rw [this]
theorem rtab_get (t : List Ro) (self : Int) : ∃ x, (rtab t self)[rpos (rtab t self) (lim self)]? = some x ∧ x.dest = lim self ∧ rat (rtab t self) (lim self) = some x := by
 obtain ⟨x, h1, h2, _⟩ := (rtab_tab t self).get
 exact ⟨x, ((rtab_tab t self).asc.pos h1).1, h2, h1⟩
def brk1 (self next : Int) (r : Ro) : Ro := if okN next = true ∧ r.nx = next ∧ r.dest ≠ lim self then ⟨r.dest, r.sq + 1, 255, 255⟩ else r
theorem rbrk_map (t : List Ro) (self next : Int) : rbrk t self next = (rtab t self).map (brk1 self next) := rfl
theorem map_part {α : Type} (f : α → α) {l : List α} {k : Nat} {x : α} (hx : l[k]? = some x) : ((l.take k).map f ++ l.drop k).set k (f x) = (l.take (k + 1)).map f ++ l.drop (k + 1) := by
 have hl : ((l.take k).map f).length = k := by
  have := (List.getElem?_eq_some_iff.1 hx).1
  simp; omega
 rw [drop_get hx, Nd.set_mid hl, take_succ_get hx]; simp
theorem map_part_same {α : Type} (f : α → α) {l : List α} {k : Nat} {x : α} (hx : l[k]? = some x) (hf : f x = x) : (l.take k).map f ++ l.drop k = (l.take (k + 1)).map f ++ l.drop (k + 1) := by
 rw [drop_get hx, take_succ_get hx]; simp [hf]
theorem map_part_get {α : Type} (f : α → α) {l : List α} {k : Nat} {x : α} (hx : l[k]? = some x) : ((l.take k).map f ++ l.drop k)[k]? = some x := by
 have hl : ((l.take k).map f).length = k := by
  have := (List.getElem?_eq_some_iff.1 hx).1
  simp; omega
 rw [drop_get hx]; exact get_mid hl
theorem map_part_len {α : Type} (f : α → α) (l : List α) (k : Nat) : ((l.take k).map f ++ l.drop k).length = l.length := by simp; omega
end Nd
namespace Go.Proofs.YtgdgclmkpoaagaaGreat
open Go.GX Go.RowKit
attribute [local irreducible] Calls Run RunL RunQ RunD HR HL HD blkC ownC Rd
open Nd
theorem fn64 : IsFn Tryz.prog 64 := ⟨⟨_, _, Tryz.func64, rfl, by decide⟩⟩
theorem fn143 : IsFn Tryz.prog 143 := ⟨⟨_, _, Tryz.func143, rfl, by decide⟩⟩
end Go.Proofs.YtgdgclmkpoaagaaGreat
namespace Go.Proofs.YtgdgclmkpoaagaaGreat
open Go.GX Go.RowKit
attribute [local irreducible] Calls Run RunL RunQ RunD HR HL HD blkC ownC Rd
open Nd
theorem r11find_any (t : List Ro) (d : Int) (v : Value) (w : World) (hv : Sl w v (cellsOf roC t) t.length) (hl : t.length ≤ 1000) :
  Calls Tryz.prog 143 #[v, .int .i64 d] w fun e w' => e = .returned (.int .i64 (rlook t d)) ∧ Below w.heap.size w w' := by
 refine calls_hr Tryz.func143 I (Nat.le_of_ble_eq_true I) ?_
 refine HR.sub (σ' := [(0, v), (1, .int .i64 d)]) ⟨I, I, trivial⟩ ?_
 repeat' (first | refine zh ?_ | apply zb ?_ ?_ | exact zc | (refine zi fun hb => ?_; try simp at hb) | intro (bk : Nat))
 refine HR.loop (ι := Nat) (fun k => k ≤ t.length ∧ ∀ j a, j < k → t[j]? = some a → (a.dest == d) = false) (fun k => [(0, v), (1, .int .i64 d), (5, .int .i64 (k : Int))]) (fun _ => []) (fun k => t.length - k) 0 ⟨Nat.zero_le _, fun j a hj => by omega⟩ ⟨I, I, I, trivial⟩ Ent.refl ?_
 rintro k ⟨hk, hg⟩ ih
 repeat' (first | refine zh ?_ | refine HL.lenR (Rd.arg hv) I I I ?_ | apply zb ?_ ?_ | exact zc | (refine zi fun hb => ?_; try simp at hb) | intro (bk : Nat))
 refine HR.cond I (fun h2 => ?_) (fun h2 => ?_)
 ·have hlt : k < t.length := by have := of_decide_eq_true h2; omega
  obtain ⟨x, hx⟩ := getSome hlt
  repeat' (first | refine zh ?_ | refine HL.idxR (Rd.arg hv) elemRo k I I I I hlt ?_ | refine HL.fieldE (Rd.arg hv) (by rw [cellsOf_len roC_len]; omega) I I I I I I ?_ | refine HL.loadI (Rd.arg hv) I I I I (cells_get roC_len hx (i := 0) I) ?_ | apply zb ?_ ?_ | exact zc | (refine zi fun hb => ?_; try simp at hb) | intro (bk : Nat))
  refine HR.cond I (fun h3 => ?_) (fun h3 => ?_)
  ·have h3 : (x.dest == d) = true := h3
   repeat' (first | refine zh ?_ | apply zb ?_ ?_ | exact zc | (refine zi fun hb => ?_; try simp at hb) | intro (bk : Nat))
   refine HR.ret Tryz.func143 I [_] (fun _ _ => ⟨I, trivial⟩) ?_
   exact fun w' hw => ⟨by rw [rlook_at hx h3 hg]; rfl, hw.belowB⟩
  ·have h3 : (x.dest == d) = false := h3
   repeat' (first | refine zh ?_ | apply zb ?_ ?_ | exact zc | (refine zi fun hb => ?_; try simp at hb) | intro (bk : Nat))
   refine ih (k + 1) _ _ ⟨hlt, fun j a hj ha => ?_⟩ (by omega) ⟨I, I, I, trivial⟩ (Ent.pick [] I I)
   by_cases hjk : j = k
   ·subst hjk; rw [hx] at ha; cases ha; exact h3
   ·exact hg j a (by omega) ha
 ·have hke : k = t.length := by have := of_decide_eq_false h2; omega
  subst hke
  repeat' (first | refine zh ?_ | apply zb ?_ ?_ | exact zc | (refine zi fun hb => ?_; try simp at hb) | intro (bk : Nat))
  refine HR.ret Tryz.func143 I [_] (fun _ _ => ⟨I, trivial⟩) ?_
  exact fun w' hw => ⟨by rw [rlook_none hg]; rfl, hw.belowB⟩
theorem rform_ref (self : Int) (x : Ro) : (((x.dest == self) && !((x.cost == 0) && (x.nx == self))) || ((x.dest != self) && ((x.cost == 0) || (x.nx == self)))) = rform self x := by
 unfold rform
 by_cases hd : x.dest = self
 ·rw [if_pos hd]; simp [hd]
 ·have e : (x.dest == self) = false := by simpa using hd
  rw [if_neg hd, e, bne, e]; rfl
theorem rrange_ref (x : Ro) : ((!usable x || (fin x && (x.nx != lim x.nx))) || (!fin x && (x.nx != 255))) = rrange x := by
 rw [ne_lim]; rfl
theorem r11check_any (t : List Ro) (self : Int) (v : Value) (w : World) (hv : Sl w v (cellsOf roC t) t.length) (hl : t.length ≤ 1000) :
  Calls Tryz.prog 64 #[v, .int .i64 self] w fun e w' => e = .returned (.int .i64 (rchk t self)) ∧ Below w.heap.size w w' := by
 refine calls_hr Tryz.func64 I (Nat.le_of_ble_eq_true I) ?_
 refine HR.sub (σ' := [(0, v), (1, .int .i64 self)]) ⟨I, I, trivial⟩ ?_
 repeat' (first | refine zh ?_ | refine HL.lenR (Rd.arg hv) I I I ?_ | apply zb ?_ ?_ | exact zc | (refine zi fun hb => ?_; try simp at hb) | intro (bk : Nat))
 refine HR.cond I (fun h => ?_) (fun h => ?_)
 ·have h : t.length > 24 := by have := of_decide_eq_true h; omega
  repeat' (first | refine zh ?_ | apply zb ?_ ?_ | exact zc | (refine zi fun hb => ?_; try simp at hb) | intro (bk : Nat))
  refine HR.ret Tryz.func64 I [_] (fun _ _ => ⟨I, trivial⟩) ?_
  exact fun w' hw => ⟨by rw [rchk, if_pos h]; rfl, hw.belowB⟩
 have h : t.length ≤ 24 := by have := of_decide_eq_false h; omega
 repeat' (first | refine zh ?_ | refine HL.callB fn140 I I (fun w _ => rrlim_any self w) ?_ | apply zb ?_ ?_ | exact zc | (refine zi fun hb => ?_; try simp at hb) | intro (bk : Nat))
 refine HR.cond I (fun h0 => ?_) (fun h0 => ?_)
 ·have h0 : (self != lim self) = true := h0
  rw [ne_lim] at h0
  have h0 : Tp.okN self = false := by simpa using h0
  repeat' (first | refine zh ?_ | apply zb ?_ ?_ | exact zc | (refine zi fun hb => ?_; try simp at hb) | intro (bk : Nat))
  refine HR.ret Tryz.func64 I [_] (fun _ _ => ⟨I, trivial⟩) ?_
  exact fun w' hw => ⟨by rw [rchk, if_neg (by omega), if_pos h0]; rfl, hw.belowB⟩
 have h0 : (self != lim self) = false := h0
 rw [ne_lim] at h0
 have h0 : Tp.okN self = true := by simpa using h0
 repeat' (first | refine zh ?_ | apply zb ?_ ?_ | exact zc | (refine zi fun hb => ?_; try simp at hb) | intro (bk : Nat))
 refine HR.loop (ι := Nat) (fun k => k ≤ t.length ∧ firstE (rbad t) k = 0) (fun k => [(0, v), (1, .int .i64 self), (5, .int .i64 (k : Int))]) (fun _ => []) (fun k => t.length - k) 0 ⟨Nat.zero_le _, rfl⟩ ⟨I, I, I, trivial⟩ Ent.refl ?_
 rintro k ⟨hk, hg⟩ ih
 repeat' (first | refine zh ?_ | refine HL.lenR (Rd.arg hv) I I I ?_ | apply zb ?_ ?_ | exact zc | (refine zi fun hb => ?_; try simp at hb) | intro (bk : Nat))
 refine HR.cond I (fun h2 => ?_) (fun h2 => ?_)
 ·have hlt : k < t.length := by have := of_decide_eq_true h2; omega
  obtain ⟨x, hx⟩ := getSome hlt
  repeat' (first | refine zh ?_ | apply zb ?_ ?_ | exact zc | (refine zi fun hb => ?_; try simp at hb) | intro (bk : Nat))
  refine HR.regionQ hmix (by kernel_rfl) ?_
  repeat' (first | refine zq ?_ | refine HQ.idxR (Rd.arg hv) elemRo k I I I I hlt ?_ | refine HQ.loadE (Rd.arg hv) I I I I (by simp) I (cellsOf_get roC_len hx) ?_ | refine HQ.fieldE (Rd.arg hv) (by rw [cellsOf_len roC_len]; omega) I I I I I I ?_ | refine HQ.loadI (Rd.arg hv) I I I I (cells_get roC_len hx (i := 3) I) ?_ | refine HQ.callB fn141 I I (fun w _ => rrusable_any _ w) ?_ | refine HQ.callB fn142 I I (fun w _ => rrfin_any _ w) ?_ | refine HQ.callB fn140 I I (fun w _ => rrlim_any _ w) ?_ | apply zb ?_ ?_ | exact zc | (refine zi fun hb => ?_; try simp at hb))
  refine HR.cond I (fun h3 => ?_) (fun h3 => ?_)
  ·have h3 : rrange x = true := by rw [← rrange_ref]; exact h3
   repeat' (first | refine zh ?_ | apply zb ?_ ?_ | exact zc | (refine zi fun hb => ?_; try simp at hb) | intro (bk : Nat))
   refine HR.ret Tryz.func64 I [_] (fun _ _ => ⟨I, trivial⟩) ?_
   refine fun w' hw => ⟨?_, hw.belowB⟩
   have e := rbad_range hx h3
   rw [rchk_first h h0 hg (by rw [e]; decide) hlt, e]; rfl
  have h3 : rrange x = false := by rw [← rrange_ref]; exact h3
  obtain ⟨y, hy⟩ := getSome (l := t) (j := k - 1) (by omega)
  repeat' (first | refine zh ?_ | apply zb ?_ ?_ | exact zc | (refine zi fun hb => ?_; try simp at hb) | intro (bk : Nat))
  refine HR.regionQ hmix (by kernel_rfl) ?_
  repeat' (first | refine zq ?_ | refine HQ.idxR (Rd.arg hv) elemRo k I I I I hlt ?_ | refine HQ.idxR (Rd.arg hv) elemRo (k - 1) I I I (by omega) (by omega) ?_ | refine HQ.fieldE (Rd.arg hv) (by rw [cellsOf_len roC_len]; omega) I I I I I I ?_ | refine HQ.loadI (Rd.arg hv) I I I I (cells_get roC_len hx (i := 0) I) ?_ | refine HQ.loadI (Rd.arg hv) I I I I (cells_get roC_len hy (i := 0) I) ?_ | apply zb ?_ ?_ | exact zc | (refine zi fun hb => ?_; try simp at hb))
  refine HR.cond I (fun h4 => ?_) (fun h4 => ?_)
  ·have h4 : (decide ((k : Int) > 0) && decide (x.dest ≤ y.dest)) = true := h4
   simp only [Bool.and_eq_true, decide_eq_true_eq] at h4
   repeat' (first | refine zh ?_ | apply zb ?_ ?_ | exact zc | (refine zi fun hb => ?_; try simp at hb) | intro (bk : Nat))
   refine HR.ret Tryz.func64 I [_] (fun _ _ => ⟨I, trivial⟩) ?_
   refine fun w' hw => ⟨?_, hw.belowB⟩
   have e := rbad_order hx h3 (by omega) hy h4.2
   rw [rchk_first h h0 hg (by rw [e]; decide) hlt, e]; rfl
  ·have h4 : (decide ((k : Int) > 0) && decide (x.dest ≤ y.dest)) = false := h4
   have hg2 : firstE (rbad t) (k + 1) = 0 := firstE_step hg (rbad_ok hx h3 fun y' h0 hy' hle => by
    rw [hy] at hy'
    cases hy'
    rw [decide_eq_true (show (k : Int) > 0 by omega), decide_eq_true hle] at h4
    cases h4)
   repeat' (first | refine zh ?_ | apply zb ?_ ?_ | exact zc | (refine zi fun hb => ?_; try simp at hb) | intro (bk : Nat))
   exact ih (k + 1) _ _ ⟨hlt, hg2⟩ (by omega) ⟨I, I, I, trivial⟩ (Ent.pick [] I I)
 have hke : k = t.length := by have := of_decide_eq_false h2; omega
 subst hke
 obtain ⟨hrr, hasc⟩ := first_asc hg
 repeat' (first | refine zh ?_ | refine HL.callB fn143 I I (fun w hw => r11find_any t self v w ((Rd.arg hv).at hw) hl) ?_ | apply zb ?_ ?_ | exact zc | (refine zi fun hb => ?_; try simp at hb) | intro (bk : Nat))
 refine HR.cond I (fun h6 => ?_) (fun h6 => ?_)
 ·have h6 : rlook t self < 0 := of_decide_eq_true h6
  have hany : (t.any fun r => r.dest == self) = false := by
   rcases rlook_cases t self with ⟨_, e⟩ | ⟨i, x, e, _⟩
   ·rw [← Bool.not_eq_true, List.any_eq_true]
    rintro ⟨r, hr, he⟩
    exact List.find?_eq_none.1 e r hr he
   ·omega
  repeat' (first | refine zh ?_ | apply zb ?_ ?_ | exact zc | (refine zi fun hb => ?_; try simp at hb) | intro (bk : Nat))
  refine HR.ret Tryz.func64 I [_] (fun _ _ => ⟨I, trivial⟩) ?_
  exact fun w' hw => ⟨by rw [rchk_8 h h0 hg hany]; rfl, hw.belowB⟩
 have h6 : ¬ rlook t self < 0 := of_decide_eq_false h6
 have hany : (t.any fun r => r.dest == self) = true := by
  rcases rlook_cases t self with ⟨e, _⟩ | ⟨i, x, _, e, he, _⟩
  ·omega
  ·exact any_of_get e he
 repeat' (first | refine zh ?_ | apply zb ?_ ?_ | exact zc | (refine zi fun hb => ?_; try simp at hb) | intro (bk : Nat))
 refine HR.loop (ι := Nat) (fun k => k ≤ t.length ∧ (t.take k).any (rform self) = false) (fun k => [(0, v), (1, .int .i64 self), (6, .int .i64 (k : Int))]) (fun _ => []) (fun k => t.length - k) 0 ⟨Nat.zero_le _, rfl⟩ ⟨I, I, I, trivial⟩ Ent.refl ?_
 rintro k ⟨hk, hf⟩ ih
 repeat' (first | refine zh ?_ | refine HL.lenR (Rd.arg hv) I I I ?_ | apply zb ?_ ?_ | exact zc | (refine zi fun hb => ?_; try simp at hb) | intro (bk : Nat))
 refine HR.cond I (fun h2 => ?_) (fun h2 => ?_)
 ·have hlt : k < t.length := by have := of_decide_eq_true h2; omega
  obtain ⟨x, hx⟩ := getSome hlt
  repeat' (first | refine zh ?_ | refine HL.idxR (Rd.arg hv) elemRo k I I I I hlt ?_ | refine HL.fieldE (Rd.arg hv) (by rw [cellsOf_len roC_len]; omega) I I I I I I ?_ | refine HL.loadI (Rd.arg hv) I I I I (cells_get roC_len hx (i := 0) I) ?_ | refine HL.loadI (Rd.arg hv) I I I I (cells_get roC_len hx (i := 2) I) ?_ | refine HL.loadI (Rd.arg hv) I I I I (cells_get roC_len hx (i := 3) I) ?_ | apply zb ?_ ?_ | exact zc | (refine zi fun hb => ?_; try simp at hb) | intro (bk : Nat))
  refine HR.cond I (fun h3 => ?_) (fun h3 => ?_)
  ·have h3 : rform self x = true := by rw [← rform_ref]; exact h3
   repeat' (first | refine zh ?_ | apply zb ?_ ?_ | exact zc | (refine zi fun hb => ?_; try simp at hb) | intro (bk : Nat))
   refine HR.ret Tryz.func64 I [_] (fun _ _ => ⟨I, trivial⟩) ?_
   exact fun w' hw => ⟨by rw [rchk_4 h h0 hg hany (any_at hx h3)]; rfl, hw.belowB⟩
  ·have h3 : rform self x = false := by rw [← rform_ref]; exact h3
   repeat' (first | refine zh ?_ | apply zb ?_ ?_ | exact zc | (refine zi fun hb => ?_; try simp at hb) | intro (bk : Nat))
   exact ih (k + 1) _ _ ⟨hlt, any_take hx hf h3⟩ (by omega) ⟨I, I, I, trivial⟩ (Ent.pick [] I I)
 ·have hke : k = t.length := by have := of_decide_eq_false h2; omega
  subst hke
  rw [List.take_length] at hf
  repeat' (first | refine zh ?_ | apply zb ?_ ?_ | exact zc | (refine zi fun hb => ?_; try simp at hb) | intro (bk : Nat))
  refine HR.ret Tryz.func64 I [_] (fun _ _ => ⟨I, trivial⟩) ?_
  exact fun w' hw => ⟨by rw [rchk_0 h h0 hg hany hf]; rfl, hw.belowB⟩
end Go.Proofs.YtgdgclmkpoaagaaGreat
namespace Go.GX
open Go.RowKit
section
variable {P : Program} {f : FuncId} {N : Nat} {k : List Item} {σ : Store} {B : Base} {H F : List Chunk} {R : Ending → World → Prop} {ops l : List Oper} {o : Oper} {K : Act → World → Prop} {S : World → Prop} {z : Nat}
theorem HD.fieldE {d i : Nat} {p : List (Nat × Bool)} {ty : TypeId} {pos : String} {af : Array Edge} {gd : Option (Nat × Bool)} {v : Value} {s : TypeId} {x : Operand} {fl : List Field} {fi j n : Nat} {fd : Field} {ti : TypeInfo} {cs : List Value} (hv : Rd B F v cs n) (hj : j < cs.length) (ho : ops[i]? = some ⟨some d, .fieldAddr s x fi, ty, pos, af, gd⟩) (hs : stat N ops ⟨some d, .fieldAddr s x fi, ty, pos, af, gd⟩ σ = true) (hT : P.underlying s = some (.struct ⟨fl⟩)) (hf : nthF fl fi = some fd) (hti : P.info? fd.type = some ti) (hz : Nat.ble 1 ti.size = true) (hx : lookO σ x = some (elemPtr v j))
  (h : HD P N ops p ((d, elemPtr v (j + fd.offset)) :: σ) B H F K) : HD P N ops ((i, true) :: p) σ B H F K := HD.rd ho hs (hx_fieldE hv hj hT hf hti hz hx) h
end
end Go.GX
namespace Go.Proofs.YtgdgclmkpoaagaaGreat
open Go.GX Go.RowKit
attribute [local irreducible] Calls Run RunL RunQ RunD HR HL HD blkC ownC Rd
open Nd
theorem fn165 : IsFn Tryz.prog 165 := ⟨⟨_, _, Tryz.func165, rfl, by decide⟩⟩
theorem fn151 : IsFn Tryz.prog 151 := ⟨⟨_, _, Tryz.func151, rfl, by decide⟩⟩
theorem rbump_any (t : List Ro) (self : Int) (v : Value) (w : World) (hv : Sl w v (cellsOf roC t) t.length) (hl : t.length ≤ 1000) :
  Calls Tryz.prog 165 #[v, .int .i64 self] w fun e w' => ∃ v', e = .returned v' ∧ Sat (base w) [ownC v' 79 4 (rbump t self).length (cellsOf roC (rbump t self))] w' := by
 have ht := rtab_tab t self
 obtain ⟨x, hx, hd, hat⟩ := rtab_get t self
 have hxo := rrange_ok (ht.rng x (List.mem_of_getElem? hx))
 have hlt := (List.getElem?_eq_some_iff.1 hx).1
 have hrb := rbump_has hx hd
 have hhas := rhas_of hx hd
 have h24 := ht.len
 refine calls_hr Tryz.func165 I (Nat.le_of_ble_eq_true I) ?_
 refine HR.sub (σ' := [(0, v), (1, .int .i64 self)]) ⟨I, I, trivial⟩ ?_
 repeat' (first | refine zh ?_ | refine HL.callB fn147 I I (fun w _ => rlim_any self w) ?_ | intro (bk : Nat))
 repeat' (first | refine zh ?_ | refine HL.callO fn176 I I (fun w hw => sane_any t self v w ((Rd.arg hv).at hw) hl) ?_ | intro (bk : Nat))
 intro v1
 obtain ⟨T, hT⟩ : ∃ T, T = rtab t self := ⟨_, rfl⟩
 rw [← hT] at hx hlt hrb hhas h24 ⊢
 obtain ⟨P, hP⟩ : ∃ P, P = rpos T (lim self) := ⟨_, rfl⟩
 rw [← hP] at hx hlt hrb
 repeat' (first | refine zh ?_ | refine HL.callB fn206 I I (fun w hw => by have := rfind_any T (lim self) v1 w ((Rd.own 0 rfl).at hw) (by omega) (hT ▸ ht.asc) (hT ▸ rtab_okN) (lim_ok self); rw [hhas, ← hP] at this; exact this) ?_ | refine HL.idxR (Rd.own 0 I) elemRo P I I I I hlt ?_ | refine HL.fieldE (Rd.own 0 I) (by rw [cellsOf_len roC_len]; omega) I I I I I I ?_ | refine HL.loadI (Rd.own 0 I) I I I I (cells_get roC_len hx (i := 1) I) ?_ | intro (bk : Nat))
 refine HR.cond I (fun h => ?_) (fun h => ?_)
 ·have h : x.sq < 65534 := of_decide_eq_true h
  rw [if_pos h] at hrb
  repeat' (first | refine zh ?_ | refine HL.idxR (Rd.own 0 I) elemRo P I I I I hlt ?_ | refine HL.fieldE (Rd.own 0 I) (by rw [cellsOf_len roC_len]; omega) I I I I I I ?_ | refine HL.loadI (Rd.own 0 I) I I I I (cells_get roC_len hx (i := 1) I) ?_ | refine HL.storeE (j := P * 4 + 1) 0 I I I I I I I (by rw [cellsOf_len roC_len]; omega) ?_ | intro (bk : Nat))
  refine HR.ret Tryz.func165 I [_] (fun _ _ => ⟨I, trivial⟩) ?_
  refine fun w' hw => ⟨v1, rfl, Ent.own0 ?_ ?_ w' hw⟩
  ·rw [hrb, List.length_set]
  ·rw [hrb]; exact cells_set1 (i := 1) roC_len hx I (by decide)
 ·have h : ¬ x.sq < 65534 := of_decide_eq_false h
  rw [if_neg h] at hrb
  repeat' (first | refine zh ?_ | intro (bk : Nat))
  refine HR.ret Tryz.func165 I [_] (fun _ _ => ⟨I, trivial⟩) ?_
  refine fun w' hw => ⟨v1, rfl, ?_⟩
  rw [hrb]; exact hw
theorem rbrk_any (t : List Ro) (self next : Int) (v : Value) (w : World) (hv : Sl w v (cellsOf roC t) t.length) (hl : t.length ≤ 1000) :
  Calls Tryz.prog 151 #[v, .int .i64 self, .int .i64 next] w fun e w' => ∃ v', e = .returned v' ∧ Sat (base w) [ownC v' 79 4 (rbrk t self next).length (cellsOf roC (rbrk t self next))] w' := by
 have ht := rtab_tab t self
 have h24 := ht.len
 rw [rbrk_map]
 refine calls_hr Tryz.func151 I (Nat.le_of_ble_eq_true I) ?_
 refine HR.sub (σ' := [(0, v), (1, .int .i64 self), (2, .int .i64 next)]) ⟨I, I, I, trivial⟩ ?_
 repeat' (first | refine zh ?_ | refine HL.callB fn147 I I (fun w _ => rlim_any self w) ?_ | intro (bk : Nat))
 repeat' (first | refine zh ?_ | refine HL.callO fn176 I I (fun w hw => sane_any t self v w ((Rd.arg hv).at hw) hl) ?_ | intro (bk : Nat))
 intro v1
 have hrng := ht.rng
 obtain ⟨T, hT⟩ : ∃ T, T = rtab t self := ⟨_, rfl⟩
 rw [← hT] at h24 hrng ⊢
 repeat' (first | refine zh ?_ | refine HL.callB fn103 I I (fun w _ => rtnode_any next w) ?_ | intro (bk : Nat))
 refine HR.cond I (fun h0 => ?_) (fun h0 => ?_)
 ·have h0 : Tp.okN next = false := by simpa using h0
  repeat' (first | refine zh ?_ | intro (bk : Nat))
  refine HR.ret Tryz.func151 I [_] (fun _ _ => ⟨I, trivial⟩) ?_
  refine fun w' hw => ⟨v1, rfl, ?_⟩
  rw [show T.map (brk1 self next) = T from (List.map_congr_left fun a _ => by unfold brk1; rw [if_neg (by rw [h0]; simp)]; rfl).trans (List.map_id T)]
  exact hw
 have h0 : Tp.okN next = true := by simpa using h0
 repeat' (first | refine zh ?_ | refine HL.lenR (Rd.own 0 I) I I I ?_ | intro (bk : Nat))
 refine HR.loop (ι := Nat) (fun k => k ≤ T.length) (fun k => [(0, v1), (1, .int .i64 (lim self)), (2, .int .i64 next), (18, v1), (19, .int .i64 (T.length : Int)), (20, .int .i64 (k : Int))]) (fun k => [ownC v1 79 4 T.length (cellsOf roC ((T.take k).map (brk1 self next) ++ T.drop k))]) (fun k => T.length - k) 0 (Nat.zero_le _) ⟨I, I, I, I, I, I, trivial⟩ Ent.refl ?_
 intro k hk ih
 have hml := map_part_len (brk1 self next) T k
 repeat' (first | refine zh ?_ | intro (bk : Nat))
 refine HR.cond I (fun h2 => ?_) (fun h2 => ?_)
 ·have hlt : k < T.length := by have := of_decide_eq_true h2; omega
  obtain ⟨x, hx⟩ := getSome hlt
  have hmg := map_part_get (brk1 self next) hx
  have hms := map_part (brk1 self next) hx
  have hxo := rrange_ok (hrng x (List.mem_of_getElem? hx))
  repeat' (first | refine zh ?_ | refine HL.idxR (Rd.own 0 I) elemRo k I I I I hlt ?_ | refine HL.loadE (Rd.own 0 I) I I I I (by simp) I (cellsOf_get roC_len hmg) ?_ | intro (bk : Nat))
  repeat' (first | refine zh ?_ | apply zb ?_ ?_ | exact zc | (refine zi fun hb => ?_; try simp at hb) | intro (bk : Nat))
  refine HR.cond I (fun h3 => ?_) (fun h3 => ?_)
  ·have h3 : ((x.nx == next) && (x.dest != lim self)) = true := h3
   simp only [Bool.and_eq_true, beq_iff_eq, bne_iff_ne, ne_eq] at h3
   have hb : brk1 self next x = ⟨x.dest, x.sq + 1, 255, 255⟩ := by unfold brk1; rw [if_pos ⟨h0, h3.1, h3.2⟩]
   rw [hb] at hms
   repeat' (first | refine zh ?_ | refine HL.idxR (Rd.own 1 I) elemRo k I I I I hlt ?_ | refine HL.storeEs (us := roC ⟨x.dest, x.sq + 1, 255, 255⟩) (j := k * 4) 1 I I I I I I I (by rw [cellsOf_len roC_len, hml]; show k * 4 + 4 ≤ _; omega) (by simp) ?_ | apply zb ?_ ?_ | exact zc | (refine zi fun hb => ?_; try simp at hb) | intro (bk : Nat))
   refine ih (k + 1) _ _ hlt (by omega) ⟨I, I, I, I, I, I, trivial⟩ (Ent.trans (Ent.pick (H' := [ownC v1 79 4 T.length _]) [1] I I) (Ent.own0 I ?_))
   rw [← hms]
   exact cells_set (i := 0) roC_len hmg I (show 0 + 4 ≤ 4 by decide)
  ·have h3 : ((x.nx == next) && (x.dest != lim self)) = false := h3
   have hb : brk1 self next x = x := by
    unfold brk1
    rw [if_neg]
    rintro ⟨_, e1, e2⟩
    rw [show (x.nx == next) = true by simpa using e1, show (x.dest != lim self) = true by simpa using e2] at h3
    cases h3
   repeat' (first | refine zh ?_ | apply zb ?_ ?_ | exact zc | (refine zi fun hb => ?_; try simp at hb) | intro (bk : Nat))
   refine ih (k + 1) _ _ hlt (by omega) ⟨I, I, I, I, I, I, trivial⟩ (Ent.trans (Ent.pick [1] I I) (Ent.own0 I ?_))
   rw [map_part_same _ hx hb]
 ·have hke : k = T.length := by have := of_decide_eq_false h2; omega
  subst hke
  rw [List.take_length, List.drop_length, List.append_nil]
  repeat' (first | refine zh ?_ | intro (bk : Nat))
  refine HR.ret Tryz.func151 I [_] (fun _ _ => ⟨I, trivial⟩) ?_
  exact fun w' hw => ⟨v1, rfl, Ent.own0 (by simp) I w' hw⟩
end Go.Proofs.YtgdgclmkpoaagaaGreat
namespace Go.Proofs.YtgdgclmkpoaagaaGreat
open Go.GX Go.RowKit
attribute [local irreducible] Calls Run RunL RunQ RunD HR HL HD blkC ownC Rd
open Nd
theorem fn90 : IsFn Tryz.prog 90 := ⟨⟨_, _, Tryz.func90, rfl, by decide⟩⟩
theorem mtick_any (l : List Sn) (v : Value) (w : World) (hv : Sl w v (cellsOf snC l) l.length) (hl : l.length ≤ 1000) (hf : ∀ s ∈ l, fits .i64 s.wt) :
  Calls Tryz.prog 90 #[v] w fun e w' => ∃ v', e = .returned v' ∧ Sat (base w) [ownC v' 48 11 (mtick l).length (cellsOf snC (mtick l))] w' := by
 have hf16 : ∀ s ∈ l.take 16, fits .i64 s.wt := fun s hs => hf s (List.mem_of_mem_take hs)
 have h16 : (l.take 16).length ≤ 16 := by simp; omega
 unfold mtick
 refine calls_hr Tryz.func90 I (Nat.le_of_ble_eq_true I) ?_
 refine HR.sub (σ' := [(0, v)]) ⟨I, trivial⟩ ?_
 repeat' (first | refine zh ?_ | refine HL.callO fn146 I I (fun w hw => mqueue_any l v w ((Rd.arg hv).at hw) hl) ?_ | intro (bk : Nat))
 intro v1
 obtain ⟨T, hT⟩ : ∃ T, T = l.take 16 := ⟨_, rfl⟩
 rw [← hT] at hf16 h16 ⊢
 repeat' (first | refine zh ?_ | refine HL.lenR (Rd.own 0 I) I I I ?_ | intro (bk : Nat))
 refine HR.loop (ι := Nat) (fun k => k ≤ T.length) (fun k => [(3, v1), (8, .int .i64 (T.length : Int)), (9, .int .i64 (k : Int))]) (fun k => [ownC v1 48 11 T.length (cellsOf snC ((T.take k).map mtick1 ++ T.drop k))]) (fun k => T.length - k) 0 (Nat.zero_le _) ⟨I, I, I, trivial⟩ Ent.refl ?_
 intro k hk ih
 have hml := map_part_len mtick1 T k
 repeat' (first | refine zh ?_ | intro (bk : Nat))
 refine HR.cond I (fun h2 => ?_) (fun h2 => ?_)
 ·have hlt : k < T.length := by have := of_decide_eq_true h2; omega
  obtain ⟨x, hx⟩ := getSome hlt
  have hmg := map_part_get mtick1 hx
  have hms := map_part mtick1 hx
  have hxf : -9223372036854775808 ≤ x.wt ∧ x.wt ≤ 9223372036854775807 := hf16 x (List.mem_of_getElem? hx)
  repeat' (first | refine zh ?_ | refine HL.idxR (Rd.own 0 I) elemSn k I I I I hlt ?_ | refine HL.fieldE (Rd.own 0 I) (by rw [cellsOf_len snC_len, hml]; omega) I I I I I I ?_ | refine HL.loadI (Rd.own 0 I) I I I I (cells_get snC_len hmg (i := 10) I) ?_ | intro (bk : Nat))
  refine HR.cond I (fun h3 => ?_) (fun h3 => ?_)
  ·have h3 : x.wt > 0 := of_decide_eq_true h3
   have e : mtick1 x = ⟨x.f, x.tr, x.wt - 1⟩ := by unfold mtick1; rw [if_pos h3]
   rw [e] at hms
   repeat' (first | refine zh ?_ | refine HL.idxR (Rd.own 0 I) elemSn k I I I I hlt ?_ | refine HL.fieldE (Rd.own 0 I) (by rw [cellsOf_len snC_len, hml]; omega) I I I I I I ?_ | refine HL.loadI (Rd.own 0 I) I I I I (cells_get snC_len hmg (i := 10) I) ?_ | refine HL.storeE (j := k * 11 + 10) 0 I I I I I I I (by rw [cellsOf_len snC_len, hml]; omega) ?_ | intro (bk : Nat))
   refine ih (k + 1) _ _ hlt (by omega) ⟨I, I, I, trivial⟩ (Ent.own0 I ?_)
   rw [← hms]
   exact cells_set1 (i := 10) snC_len hmg I (by decide)
  ·have h3 : ¬ x.wt > 0 := of_decide_eq_false h3
   have e : mtick1 x = x := by unfold mtick1; rw [if_neg h3]
   repeat' (first | refine zh ?_ | intro (bk : Nat))
   refine ih (k + 1) _ _ hlt (by omega) ⟨I, I, I, trivial⟩ (Ent.own0 I ?_)
   rw [map_part_same _ hx e]
 ·have hke : k = T.length := by have := of_decide_eq_false h2; omega
  subst hke
  rw [List.take_length, List.drop_length, List.append_nil]
  repeat' (first | refine zh ?_ | intro (bk : Nat))
  refine HR.ret Tryz.func90 I [_] (fun _ _ => ⟨I, trivial⟩) ?_
  exact fun w' hw => ⟨v1, rfl, Ent.own0 (by simp) I w' hw⟩
end Go.Proofs.YtgdgclmkpoaagaaGreat
namespace Go.Proofs.YtgdgclmkpoaagaaGreat
open Go.GX Go.RowKit
attribute [local irreducible] Calls Run RunL RunQ RunD HR HL HD blkC ownC Rd
open Nd
theorem fn202 : IsFn Tryz.prog 202 := ⟨⟨_, _, Tryz.func202, rfl, by decide⟩⟩
theorem delLi_any (l : List Li) (i : Nat) (v : Value) (B0 : Base) (w : World) (hw0 : Sat B0 [ownC v 129 3 l.length (cellsOf liC l)] w) (hi : i < l.length) (hl : l.length ≤ 1000) :
  Calls Tryz.prog 202 #[v, .int .i64 (i : Int), .int .i64 ((i : Int) + 1)] w fun e w' => ∃ r : Value, e = .returned r ∧ True ∧ Sat ⟨w, feet [ownC v 129 3 l.length (cellsOf liC l)]⟩ [ownC r 129 3 (l.eraseIdx i).length (cellsOf liC (l.eraseIdx i))] w' := by
 obtain ⟨g, off, c, rfl, hnc, hcm⟩ := Vw.row (Sat.vw hw0 (i := 0) I) (by omega)
 have hcm : c ≤ 9223372036854775807 := hcm
 have hel : (l.eraseIdx i).length = l.length - 1 := List.length_eraseIdx_of_lt hi
 refine calls_hrW [ownC (.slice (some ⟨g, off, none⟩) l.length c) 129 3 l.length (cellsOf liC l)] (hw0) Tryz.func202 I (Nat.le_of_ble_eq_true I) ?_
 refine HR.sub (σ' := [(0, .slice (some ⟨g, off, none⟩) l.length c), (1, .int .i64 (i : Int)), (2, .int .i64 ((i : Int) + 1))]) ⟨I, I, I, trivial⟩ ?_
 repeat' (first | refine zh ?_ | refine HL.lenR (Rd.own 0 I) I I I ?_ | refine HL.cut i (i + 1) l.length I I I I (.inr ⟨_, _, rfl, rfl⟩) (.inr ⟨_, _, rfl, rfl⟩) (.inr ⟨_, _, rfl, rfl⟩) (by omega) (by omega) hnc ?_ | apply zb ?_ ?_ | exact zc | (refine zi fun hb => ?_; try simp at hb) | intro (bk : Nat))
 refine HR.setB 16 false I (by simp; omega) ?_
 repeat' (first | refine zh ?_ | refine HL.lenR (Rd.own 0 I) I I I ?_ | apply zb ?_ ?_ | exact zc | (refine zi fun hb => ?_; try simp at hb) | intro (bk : Nat))
 refine HR.regionD [(0, true), (1, true), (2, true), (3, true), (4, true), (5, true), (6, false), (7, true)] [] I I hmix (by kernel_rfl) ?_
 repeat' (first | refine HD.ev I I I ?_ | refine HD.evc I I I (by first | omega | (simp; done) | (simp; omega)) ?_ | refine HD.cut (sz := 3) 0 i c I I I I I (.inl ⟨rfl, rfl⟩) (.inr ⟨_, _, rfl, rfl⟩) (.inl ⟨rfl, rfl⟩) (by omega) (by omega) (by omega) ?_ | refine HD.cut (sz := 3) (i + 1) l.length c I I I I I (.inr ⟨_, _, rfl, rfl⟩) (.inl ⟨rfl, rfl, rfl⟩) (.inl ⟨rfl, rfl⟩) (by omega) (by omega) (by omega) ?_ | refine HD.L 0 I I I I I ?_ | refine HD.L 1 I I I I I ?_ | refine HD.L 2 I I I I I ?_ | refine HD.L 3 I I I I I ?_ | refine HD.build I I I ?_ | refine HD.field I I I ?_ | refine HD.skip I I I ?_ | refine HD.skipO I I I ?_ | (refine HD.one I ?_; first | refine HL.ev I I ?_ | refine HL.appSelf i (i + 1) 0 I elemLi I I I (by omega) (by omega) hnc (one_allcells liC_one _) ?_ | (refine HL.isLoad ?_; first | refine HL.L 0 I I I I ?_ | refine HL.L 1 I I I I ?_ | refine HL.L 2 I I I I ?_ | refine HL.L 3 I I I I ?_) | (refine HL.isStore ?_; first | refine HL.S 0 I I I I I ?_ | refine HL.S 1 I I I I I ?_ | refine HL.S 2 I I I I I ?_ | refine HL.S 3 I I I I I ?_) | (refine HL.alloc I I ?_; intro bk)) | refine HL.back [] rfl rfl ?_ | refine HD.nil ?_)
 have hx : (cellsOf liC l).take (i * 3) ++ (cellsOf liC l).drop ((i + 1) * 3) ++ (cellsOf liC l).drop (i * 3 + (l.length - (i + 1)) * 3) = cellsOf liC (l.eraseIdx i) ++ (cellsOf liC l).drop ((l.length - 1) * 3) := by
  rw [cellsOf_take liC_len, cellsOf_drop liC_len, ← cellsOf_app, List.eraseIdx_eq_take_drop_succ]
  congr 2
  omega
 refine HR.ent (Ent.own0 I hx) ?_
 refine HR.setV 0 (v' := .slice (some ⟨g, off, none⟩) (l.length - 1) c) I (by rw [show i + (l.length - (i + 1)) = l.length - 1 by omega]) ?_
 refine HR.setV 7 (v' := .int .i64 (l.length : Int)) I I ?_
 repeat' (first | refine zh ?_ | refine HL.cut (sz := 3) (l.length - 1) l.length c I I I I (.inr ⟨_, _, rfl, rfl⟩) (.inr ⟨_, _, rfl, rfl⟩) (.inl ⟨rfl, rfl⟩) (by omega) hnc (Nat.le_refl _) ?_ | intro (bk : Nat))
 refine HL.setHd (cutV_lit (by omega)) ?_
 refine HL.clearO (l.length - 1) 0 I I I I I I (by decide) I (by omega) ?_
 repeat' (first | refine zh ?_ | apply zb ?_ ?_ | exact zc | (refine zi fun hb => ?_; try simp at hb) | intro (bk : Nat))
 refine HR.ret Tryz.func202 I [_] (fun _ _ => ⟨I, trivial⟩) ?_
 have hcl : (cellsOf liC (l.eraseIdx i)).length = (l.length - 1) * 3 := by rw [cellsOf_len liC_len, hel]
 refine fun w' hw => ⟨_, rfl, trivial, ?_⟩
 rw [hel]
 refine Sat.cutK hw (by omega) ?_
 rw [List.take_append_of_le_length (by simp [hcl]), List.take_take, Nat.min_self, List.take_append_of_le_length (by omega), List.take_of_length_le (by omega)]
end Go.Proofs.YtgdgclmkpoaagaaGreat
namespace Go.GX
open Go.RowKit
section
variable {P : Program} {f : FuncId} {N : Nat} {k : List Item} {σ : Store} {B : Base} {H H0 : List Chunk} {R : Ending → World → Prop} {ops l : List Oper} {o : Oper} {K : Act → World → Prop}
variable {d : Nat} {d' : Option Nat} {ty : TypeId} {pos : String} {af : Array Edge} {gd : Option (Nat × Bool)} {u v : Value}
theorem HQ.fieldN {KQ : Act → Prop} (o : Nat) {s : TypeId} {x : Operand} {fl : List Field} {fi j n : Nat} {fd : Field} {ti : TypeInfo} {cs : List Value} (hv : Rd B H v cs n) (hj : j < cs.length) (hs : stat N ops ⟨some d, .fieldAddr s x fi, ty, pos, af, gd⟩ σ = true) (hT : P.underlying s = some (.struct ⟨fl⟩)) (hf : nthF fl fi = some fd) (hti : P.info? fd.type = some ti) (hz : Nat.ble 1 ti.size = true) (hx : lookO σ x = some (elemPtr v j)) (ho : fd.offset = o)
  (h : HQ P N ops l ((d, elemPtr v (j + o)) :: σ) B H KQ) : HQ P N ops (⟨some d, .fieldAddr s x fi, ty, pos, af, gd⟩ :: l) σ B H KQ := by
 subst ho; exact HQ.fieldE hv hj hs hT hf hti hz hx h
theorem HD.fieldN {F : List Chunk} (o : Nat) {i : Nat} {p : List (Nat × Bool)} {s : TypeId} {x : Operand} {fl : List Field} {fi j n : Nat} {fd : Field} {ti : TypeInfo} {cs : List Value} (hv : Rd B F v cs n) (hj : j < cs.length) (ho' : ops[i]? = some ⟨some d, .fieldAddr s x fi, ty, pos, af, gd⟩) (hs : stat N ops ⟨some d, .fieldAddr s x fi, ty, pos, af, gd⟩ σ = true) (hT : P.underlying s = some (.struct ⟨fl⟩)) (hf : nthF fl fi = some fd) (hti : P.info? fd.type = some ti) (hz : Nat.ble 1 ti.size = true) (hx : lookO σ x = some (elemPtr v j)) (ho : fd.offset = o)
  (h : HD P N ops p ((d, elemPtr v (j + o)) :: σ) B H F K) : HD P N ops ((i, true) :: p) σ B H F K := by
 subst ho; exact HD.fieldE hv hj ho' hs hT hf hti hz hx h
theorem HR.joinI {id : Nat} {x : Code} {ι : Type} (Inv : ι → Prop) (st : ι → Store) (hp : ι → List Chunk) (hj : ∀ i, Inv i → HR P f N k (st i) B (hp i) R)
  (h : (∀ i σ' H', Inv i → Sub (st i) σ' → Ent B H' (hp i) → HR P f N k σ' B H' R) → HR P f N (.code x :: .inBlock id :: k) σ B H R) : HR P f N (.code x :: .inBlock id :: k) σ B H R :=
 h fun i σ' H' hi hs he => HR.sub hs (HR.ent he (hj i hi))
theorem hx_mkF {g : FuncId} {caps : List Operand} {vs : List Value} (hv : vals σ caps = some vs) (w : World) :
  (execOp (evO σ) ⟨d', .makeFunc (.func g) #[] caps.toArray, ty, pos, af, gd⟩).run P w = .ok (.value (.func (.func g) #[] vs.toArray)) w := by
 have := vals_eq hv
 simp only [execOp, List.map_toArray]
 rw [this]
 simp [Instr.makeFunc]
theorem HL.mkF {g : FuncId} {caps : List Operand} {vs : List Value} (hs : stat N ops ⟨some d, .makeFunc (.func g) #[] caps.toArray, ty, pos, af, gd⟩ σ = true) (hv : vals σ caps = some vs)
  (h : HL P N ops l ((d, .func (.func g) #[] vs.toArray) :: σ) B H K) : HL P N ops (⟨some d, .makeFunc (.func g) #[] caps.toArray, ty, pos, af, gd⟩ :: l) σ B H K :=
 HL.rd hs (fun w _ => hx_mkF hv w) h
end
end Go.GX
namespace Go.Proofs.YtgdgclmkpoaagaaGreat
open Go.GX Go.RowKit
attribute [local irreducible] Calls Run RunL RunQ RunD HR HL HD blkC ownC Rd
open Nd
theorem fn77 : IsFn Tryz.prog 77 := ⟨⟨_, _, Tryz.func77, rfl, by decide⟩⟩
theorem fn203 : IsFn Tryz.prog 203 := ⟨⟨_, _, Tryz.func203, rfl, by decide⟩⟩
theorem fn207 : IsFn Tryz.prog 207 := ⟨⟨_, _, Tryz.func207, rfl, by decide⟩⟩
theorem indexFSn_any (l : List Sn) (p : Sn → Bool) (g : FuncId) (caps : List Value) (v : Value) (w : World) (hg : IsFn Tryz.prog g) (hp : Asks Tryz.prog g caps (fun a => .agg ⟨snC a⟩) p l w) (hv : Sl w v (cellsOf snC l) l.length) (hl : l.length ≤ 1000000) :
  Calls Tryz.prog 77 #[v, .func (.func g) #[] caps.toArray] w fun e w' => e = .returned (.int .i64 (fidx p l)) ∧ Below w.heap.size w w' := by
 refine calls_hr Tryz.func77 I (Nat.le_of_ble_eq_true I) ?_
 refine HR.sub (σ' := [(0, v), (1, .func (.func g) #[] caps.toArray)]) ⟨I, I, trivial⟩ ?_
 repeat' (first | refine zh ?_ | refine HL.lenR (Rd.arg hv) I I I ?_ | intro (bk : Nat))
 refine HR.loop (ι := Nat) (fun k => k ≤ l.length ∧ ∀ j b, j < k → l[j]? = some b → p b = false) (fun k => [(0, v), (1, .func (.func g) #[] caps.toArray), (7, .int .i64 (l.length : Int)), (8, .int .i64 (k : Int))]) (fun _ => []) (fun k => l.length - k) 0 ⟨Nat.zero_le _, fun j b hj => absurd hj (Nat.not_lt_zero _)⟩ ⟨I, I, I, I, trivial⟩ Ent.refl ?_
 rintro k ⟨hk, hno⟩ ih
 repeat' (first | refine zh ?_ | intro (bk : Nat))
 refine HR.cond I (fun h2 => ?_) (fun h2 => ?_)
 ·have hlt : k < l.length := by have := of_decide_eq_true h2; omega
  obtain ⟨x, hx⟩ := getSome hlt
  repeat' (first | refine zh ?_ | refine HL.idxR (Rd.arg hv) elemSn k I I I I hlt ?_ | refine HL.loadE (Rd.arg hv) I I I I (by simp) I (cellsOf_get snC_len hx) ?_ | refine HL.callV (caps := caps) hg I I I (fun w' hw => hp x (List.mem_of_getElem? hx) w' hw.belowB) ?_ | intro (bk : Nat))
  refine HR.cond I (fun h3 => ?_) (fun h3 => ?_)
  ·have h3 : p x = true := h3
   repeat' (first | refine zh ?_ | intro (bk : Nat))
   refine HR.ret Tryz.func77 I [_] (fun _ _ => ⟨I, trivial⟩) ?_
   rw [fidx_at hx h3 hno]
   exact fun w' hw => ⟨rfl, hw.belowB⟩
  ·have h3 : p x = false := h3
   repeat' (first | refine zh ?_ | intro (bk : Nat))
   refine ih (k + 1) _ _ ⟨hlt, fun j b hj hb => ?_⟩ (by omega) ⟨I, I, I, I, trivial⟩ Ent.refl
   by_cases e : j = k
   ·subst e; rw [hx] at hb; cases hb; exact h3
   ·exact hno j b (by omega) hb
 ·have hke : k = l.length := by have := of_decide_eq_false h2; omega
  subst hke
  rw [fidx_none hno]
  repeat' (first | refine zh ?_ | intro (bk : Nat))
  refine HR.ret Tryz.func77 I [_] (fun _ _ => ⟨I, trivial⟩) ?_
  exact fun w' hw => ⟨rfl, hw.belowB⟩
theorem contFSn_any (l : List Sn) (p : Sn → Bool) (g : FuncId) (caps : List Value) (v : Value) (w : World) (hg : IsFn Tryz.prog g) (hp : Asks Tryz.prog g caps (fun a => .agg ⟨snC a⟩) p l w) (hv : Sl w v (cellsOf snC l) l.length) (hl : l.length ≤ 1000000) :
  Calls Tryz.prog 207 #[v, .func (.func g) #[] caps.toArray] w fun e w' => e = .returned (.bool (l.any p)) ∧ Below w.heap.size w w' := by
 rw [← fidx_any]
 refine calls_hr Tryz.func207 I (Nat.le_of_ble_eq_true I) ?_
 refine HR.sub (σ' := [(0, v), (1, .func (.func g) #[] caps.toArray)]) ⟨I, I, trivial⟩ ?_
 repeat' (first | refine zh ?_ | intro (bk : Nat))
 refine HL.callB fn77 I I (fun w' hw => indexFSn_any l p g caps v w' hg (fun a ha w2 hb => hp a ha w2 (GX.Below.seq hw.belowB hb)) ((Rd.arg hv).at hw) hl) ?_
 repeat' (first | refine zh ?_ | intro (bk : Nat))
 refine HR.ret Tryz.func207 I [_] (fun _ _ => ⟨I, trivial⟩) ?_
 exact fun w' hw => ⟨rfl, hw.belowB⟩
theorem indexFI_any (l : List Int) (p : Int → Bool) (g : FuncId) (caps : List Value) (v : Value) (w : World) (hg : IsFn Tryz.prog g) (hp : Asks Tryz.prog g caps (fun a => .int .i64 a) p l w) (hv : Sl w v (cellsOf iC l) l.length) (hl : l.length ≤ 1000000) :
  Calls Tryz.prog 203 #[v, .func (.func g) #[] caps.toArray] w fun e w' => e = .returned (.int .i64 (fidx p l)) ∧ Below w.heap.size w w' := by
 refine calls_hr Tryz.func203 I (Nat.le_of_ble_eq_true I) ?_
 refine HR.sub (σ' := [(0, v), (1, .func (.func g) #[] caps.toArray)]) ⟨I, I, trivial⟩ ?_
 repeat' (first | refine zh ?_ | refine HL.lenR (Rd.arg hv) I I I ?_ | intro (bk : Nat))
 refine HR.loop (ι := Nat) (fun k => k ≤ l.length ∧ ∀ j b, j < k → l[j]? = some b → p b = false) (fun k => [(0, v), (1, .func (.func g) #[] caps.toArray), (7, .int .i64 (l.length : Int)), (8, .int .i64 (k : Int))]) (fun _ => []) (fun k => l.length - k) 0 ⟨Nat.zero_le _, fun j b hj => absurd hj (Nat.not_lt_zero _)⟩ ⟨I, I, I, I, trivial⟩ Ent.refl ?_
 rintro k ⟨hk, hno⟩ ih
 repeat' (first | refine zh ?_ | intro (bk : Nat))
 refine HR.cond I (fun h2 => ?_) (fun h2 => ?_)
 ·have hlt : k < l.length := by have := of_decide_eq_true h2; omega
  obtain ⟨x, hx⟩ := getSome hlt
  repeat' (first | refine zh ?_ | refine HL.idxR (Rd.arg hv) elemI k I I I I hlt ?_ | refine HL.loadI (Rd.arg hv) I I I I (cellsOf_get1 hx) ?_ | refine HL.callV (caps := caps) hg I I I (fun w' hw => hp x (List.mem_of_getElem? hx) w' hw.belowB) ?_ | intro (bk : Nat))
  refine HR.cond I (fun h3 => ?_) (fun h3 => ?_)
  ·have h3 : p x = true := h3
   repeat' (first | refine zh ?_ | intro (bk : Nat))
   refine HR.ret Tryz.func203 I [_] (fun _ _ => ⟨I, trivial⟩) ?_
   rw [fidx_at hx h3 hno]
   exact fun w' hw => ⟨rfl, hw.belowB⟩
  ·have h3 : p x = false := h3
   repeat' (first | refine zh ?_ | intro (bk : Nat))
   refine ih (k + 1) _ _ ⟨hlt, fun j b hj hb => ?_⟩ (by omega) ⟨I, I, I, I, trivial⟩ Ent.refl
   by_cases e : j = k
   ·subst e; rw [hx] at hb; cases hb; exact h3
   ·exact hno j b (by omega) hb
 ·have hke : k = l.length := by have := of_decide_eq_false h2; omega
  subst hke
  rw [fidx_none hno]
  repeat' (first | refine zh ?_ | intro (bk : Nat))
  refine HR.ret Tryz.func203 I [_] (fun _ _ => ⟨I, trivial⟩) ?_
  exact fun w' hw => ⟨rfl, hw.belowB⟩
end Go.Proofs.YtgdgclmkpoaagaaGreat
namespace Go.Proofs.YtgdgclmkpoaagaaGreat
open Go.GX Go.RowKit
attribute [local irreducible] Calls Run RunL RunQ RunD HR HL HD blkC ownC Rd
open Nd
theorem fn91 : IsFn Tryz.prog 91 := ⟨⟨_, _, Tryz.func91, rfl, by decide⟩⟩
end Go.Proofs.YtgdgclmkpoaagaaGreat
namespace Go.Proofs.YtgdgclmkpoaagaaGreat
open Go.GX Go.RowKit
attribute [local irreducible] Calls Run RunL RunQ RunD HR HL HD blkC ownC Rd
open Nd
theorem filt_take {α : Type} (p : α → Bool) {l : List α} {k : Nat} {x : α} (hx : l[k]? = some x) : (l.take (k + 1)).filter p = if p x = true then (l.take k).filter p ++ [x] else (l.take k).filter p := by
 rw [take_succ_get hx, List.filter_append]
 split
 ·rename_i h; rw [List.filter_cons_of_pos h]; rfl
 ·rename_i h; rw [List.filter_cons_of_neg h]; simp
theorem bexp_any (l : List Ma) (now life : Int) (v : Value) (w : World) (hv : Sl w v (cellsOf maC l) l.length) (hl : l.length ≤ 1000) :
  Calls Tryz.prog 91 #[v, .int .i64 now, .int .i64 life] w fun e w' => ∃ v', e = .returned v' ∧ Sat (base w) [ownC v' 73 10 (bexp l now life).length (cellsOf maC (bexp l now life))] w' := by
 have h16 : (l.take 16).length ≤ 16 := by simp; omega
 unfold bexp
 refine calls_hr Tryz.func91 I (Nat.le_of_ble_eq_true I) ?_
 refine HR.sub (σ' := [(0, v), (1, .int .i64 now), (2, .int .i64 life)]) ⟨I, I, I, trivial⟩ ?_
 repeat' (first | refine zh ?_ | intro (bk : Nat))
 refine HL.callX (r := fun v' : Value => v') (Q := fun v' => Sl w v' (cellsOf maC (l.take 16)) (l.take 16).length) (G := fun _ => []) fn161 I I (fun w1 _ => mbox_any l v w w1 hv) ?_
 intro vb hvb
 obtain ⟨T, hT⟩ : ∃ T, T = l.take 16 := ⟨_, rfl⟩
 rw [← hT] at h16 hvb ⊢
 repeat' (first | refine zh ?_ | refine HL.lenR (Rd.arg hvb) I I I ?_ | intro (bk : Nat))
 refine HR.nilC 73 10 ?_
 refine HR.loop2 (α := Nat) (β := Value) (fun k o => k ≤ T.length) (fun k o => [(1, .int .i64 now), (2, .int .i64 life), (7, o), (11, vb), (12, .int .i64 (T.length : Int)), (13, .int .i64 (k : Int))]) (fun k o => [ownC o 73 10 ((T.take k).filter fun m => !bold now life m).length (cellsOf maC ((T.take k).filter fun m => !bold now life m))]) (fun k _ => T.length - k) 0 (.slice none 0 0) (Nat.zero_le _) ⟨I, I, I, I, I, I, trivial⟩ (Ent.pick [0] I I) ?_
 rintro k o hk ih
 have hfl : ((T.take k).filter fun m => !bold now life m).length ≤ 16 := Nat.le_trans (List.length_filter_le _ _) (by simp; omega)
 repeat' (first | refine zh ?_ | intro (bk : Nat))
 refine HR.cond I (fun h2 => ?_) (fun h2 => ?_)
 ·have hlt : k < T.length := by have := of_decide_eq_true h2; omega
  obtain ⟨x, hx⟩ := getSome hlt
  have hft := filt_take (fun m => !bold now life m) hx
  repeat' (first | refine zh ?_ | refine HL.idxR (Rd.arg hvb) elemMa k I I I I hlt ?_ | refine HL.loadE (Rd.arg hvb) I I I I (by simp) I (cellsOf_get maC_len hx) ?_ | refine HL.callB fn162 I I (fun w _ => mexpired_any x now life w) ?_ | intro (bk : Nat))
  refine HR.cond I (fun h3 => ?_) (fun h3 => ?_)
  ·have h3 : (!bold now life x) = true := h3
   rw [if_pos h3] at hft
   repeat' (first | refine zh ?_ | refine HL.bslice elemMa I I I I I (by decide) (by decide) ?_ | intro (bk : Nat))
   intro va
   repeat' (first | refine zh ?_ | refine HL.appR 2 I elemMa (Rd.own 0 I) I I I I (allOne_spec I) (by omega) (by omega) ?_ | intro (bk : Nat))
   intro o2
   repeat' (first | refine zh ?_ | intro (bk : Nat))
   refine ih (k + 1) o2 _ _ hlt (by omega) ⟨I, I, I, I, I, I, trivial⟩ (Ent.trans (Ent.pick [2] I I) (Ent.own0 ?_ ?_))
   ·rw [hft]; simp
   ·rw [hft, cellsOf_app]; rfl
  ·have h3 : (!bold now life x) = false := h3
   rw [if_neg (by rw [h3]; decide)] at hft
   repeat' (first | refine zh ?_ | intro (bk : Nat))
   refine ih (k + 1) o _ _ hlt (by omega) ⟨I, I, I, I, I, I, trivial⟩ (Ent.trans (Ent.pick [1] I I) (Ent.own0 ?_ ?_))
   ·rw [hft]
   ·rw [hft]
 ·have hke : k = T.length := by have := of_decide_eq_false h2; omega
  subst hke
  rw [List.take_length]
  repeat' (first | refine zh ?_ | intro (bk : Nat))
  refine HR.ret Tryz.func91 I [_] (fun _ _ => ⟨I, trivial⟩) ?_
  exact fun w' hw => ⟨o, rfl, hw⟩
end Go.Proofs.YtgdgclmkpoaagaaGreat
namespace Nd
open Go.GX Tp
theorem rbump_tab {t : List Ro} {self : Int} (h : Tab self t) : Tab self (rbump t self) ∧ Kept t (rbump t self) := by
 unfold rbump
 rw [h.tab, lim_of h.ok]
 split
 ·rename_i r hr
  obtain ⟨h1, h2⟩ := rat_pos h.asc hr
  have hm := List.mem_of_getElem? h1
  split
  ·rename_i hlt
   have hk : Kept t (t.set (rpos t self) ⟨r.dest, r.sq + 2, r.cost, r.nx⟩) := by
    intro x hx
    obtain ⟨j, hj⟩ := List.getElem?_of_mem hx
    by_cases hji : j = rpos t self
    ·subst hji; rw [h1] at hj; cases hj
     exact ⟨_, List.mem_of_getElem? (List.getElem?_set_self (List.getElem?_eq_some_iff.1 h1).1), .inr ⟨rfl, .inl (by show r.sq + 2 > r.sq; omega)⟩⟩
    ·exact ⟨x, List.mem_of_getElem? (i := j) (by rw [List.getElem?_set_ne (Ne.symm hji)]; exact hj), .inl rfl⟩
   refine ⟨⟨by rw [List.length_set]; exact h.len, h.ok, fun x hx => ?_, asc_set h.asc h1 rfl, own_kept h.own hk, fun x hx => ?_⟩, hk⟩
   ·rcases List.mem_or_eq_of_mem_set hx with hx | rfl
    ·exact h.rng x hx
    ·have hg := h.rng r hm
     have hf := h.form r hm
     unfold rform at hf
     rw [if_pos h2] at hf
     simp only [Bool.not_eq_false', Bool.and_eq_true, beq_iff_eq] at hf
     have hs := h.ok
     rw [okN_iff] at hs
     unfold rrange usable fin at hg ⊢
     rw [hf.1, hf.2, h2] at hg ⊢
     simp only [h.ok] at hg ⊢
     simp at hg ⊢
     omega
   ·rcases List.mem_or_eq_of_mem_set hx with hx | rfl
    ·exact h.form x hx
    ·have hf := h.form r hm
     unfold rform at hf ⊢
     exact hf
  ·exact ⟨h, Kept.refl t⟩
 ·exact ⟨h, Kept.refl t⟩
theorem rbrk_tab {t : List Ro} {self next : Int} (h : Tab self t) : Tab self (rbrk t self next) ∧ Kept t (rbrk t self next) := by
 rw [rbrk_map, h.tab]
 have hs := h.ok
 rw [okN_iff] at hs
 have hb : ∀ r, brk1 self next r = if okN next = true ∧ r.nx = next ∧ r.dest ≠ self then ⟨r.dest, r.sq + 1, 255, 255⟩ else r := by
  intro r; unfold brk1; rw [lim_of h.ok]
 have hk : Kept t (t.map (brk1 self next)) := by
  intro r hr
  refine ⟨brk1 self next r, List.mem_map_of_mem hr, ?_⟩
  rw [hb]; split
  ·exact .inr ⟨rfl, .inl (by show r.sq + 1 > r.sq; omega)⟩
  ·exact .inl I
 refine ⟨⟨by rw [List.length_map]; exact h.len, h.ok, fun x hx => ?_, ?_, own_kept h.own hk, fun x hx => ?_⟩, hk⟩
 ·obtain ⟨r, hr, rfl⟩ := List.mem_map.1 hx
  have hg := h.rng r hr
  rw [hb]; split
  ·rename_i hc
   obtain ⟨c1, c2, c3⟩ := hc
   rw [← c2] at c1
   have hn := c1
   rw [okN_iff] at hn
   unfold rrange usable fin at hg ⊢
   simp only [c1] at hg
   simp at hg ⊢
   obtain ⟨⟨⟨g1, g2, g3⟩, g4⟩, g5⟩ := hg
   simp only [g1]
   simp; omega
  ·exact hg
 ·refine Asc.map_same (key := fun r : Ro => r.dest) _ (fun a => ?_) h.asc
  rw [hb]; split <;> rfl
 ·obtain ⟨r, hr, rfl⟩ := List.mem_map.1 hx
  have hf := h.form r hr
  rw [hb]; split
  ·rename_i hc
   unfold rform
   rw [if_neg hc.2.2]
   simp only [Bool.or_eq_false_iff, beq_eq_false_iff_ne, ne_eq]
   exact ⟨by decide, by omega⟩
  ·exact hf
theorem lforget_ok (l : List Li) (n : Int) : lchk (lforget l n) = 0 := by
 obtain ⟨h1, h2, h3⟩ := lchk_asc (lval_ok l)
 unfold lforget
 exact lchk_of (Nat.le_trans (List.length_filter_le _ _) h1) (fun x hx => h2 x (List.mem_filter.1 hx).1) (h3.filter _)
theorem Ord.eq {n : Nd} (h : Ord n) : order n = n := by
 have e1 : clamp n.addr 0 250 = n.addr := by have := h.addr; rw [okN_iff] at this; unfold clamp; omega
 have e2 : (if n.poll < 1 then (0 : Int) else max n.poll 4) = n.poll := by have := h.poll; split <;> omega
 have e3 : (if okN n.parent = false ∨ n.parent = n.addr then (255 : Int) else n.parent) = n.parent := by
  rcases h.parent with e | ⟨h1, h2⟩
  ·split
   ·exact e.symm
   ·rfl
  ·rw [if_neg]
   rintro (h3 | h3)
   ·rw [h1] at h3; cases h3
   ·exact h2 h3
 have e4 : (if rchk n.table n.addr = 0 then n.table else [rown n.addr]) = n.table := if_pos h.table.chk
 have e5 : lval n.links = n.links := if_pos h.links
 have e6 : n.out.take 16 = n.out := List.take_of_length_le h.out
 have e7 : Nd.kids n.addr n.children = n.children := by
  refine asc_ext (kids_asc _ _).1 h.kids fun x => ?_
  rw [(kids_asc _ _).2 x]
  exact ⟨fun h => h.1, fun hx => ⟨hx, h.kid x hx⟩⟩
 have e8 : n.boxes.take 16 = n.boxes := List.take_of_length_le h.boxes
 have e9 : last 32 n.seen = n.seen := last_id h.seen
 have e10 : n.inbox.take 256 = n.inbox := List.take_of_length_le h.inbox
 have e11 : (if n.seq < 0 ∨ n.seq > 65535 then (0 : Int) else n.seq) = n.seq := by have := h.seq; split <;> omega
 have e12 : clamp n.lost 0 maxTick = n.lost := by have := h.lost; unfold clamp; omega
 unfold order
 simp only [e1, e2, e3, e4, e5, e6, e7, e8, e9, e10, e11, e12]
theorem Ord.setTable {n : Nd} (h : Ord n) {t : List Ro} (ht : Tab n.addr t) : Ord { n with table := t } := { h with table := ht }
theorem Ord.setLinks {n : Nd} (h : Ord n) {t : List Li} (ht : lchk t = 0) : Ord { n with links := t } := { h with links := ht }
theorem Ord.deliver {n : Nd} (h : Ord n) (d : De) : Ord (deliver n d) := by
 unfold Nd.deliver
 split
 ·exact h.lose
 ·exact { h with inbox := by show (n.inbox ++ [d]).length ≤ 256; simp; omega }
theorem box_table (n : Nd) (f : Fr) (now : Int) : (box n f now).table = n.table ∧ (box n f now).addr = n.addr := by
 unfold box; simp only; split <;> exact ⟨rfl, rfl⟩
theorem deliver_table (n : Nd) (d : De) : (deliver n d).table = n.table ∧ (deliver n d).addr = n.addr := by
 unfold deliver; split <;> exact ⟨rfl, rfl⟩
theorem sends_ord {target : Int} {ur : Bool} : ∀ {l : List By} {n m : Nd}, Ord n → sends target ur l n = some m → Ord m ∧ m.table = n.table ∧ m.addr = n.addr
 | [], n, m, h, e => by unfold sends at e; cases e; exact ⟨h, rfl, rfl⟩
 | p :: l, n, m, h, e => by
  unfold sends at e
  split at e
  ·have hq := h.queue (sendF n target ur p)
   have ht := queue_table n (sendF n target ur p)
   obtain ⟨g1, g2, g3⟩ := sends_ord (l := l) (show Ord { (queue n (sendF n target ur p)).1 with seq := (n.seq + 1) % 65536 } from { hq with seq := by show 0 ≤ (n.seq + 1) % 65536 ∧ (n.seq + 1) % 65536 ≤ 65535; omega }) e
   exact ⟨g1, g2.trans ht.1, g3.trans ht.2⟩
  ·cases e
theorem Good.refl {n : Nd} (h : Ord n) : Good n n := ⟨h, rfl, Kept.refl _⟩
theorem Good.trans {a b c : Nd} (h : Good a b) (h' : Good b c) : Good a c := ⟨h'.ord, h'.addr.trans h.addr, h.kept.trans h'.kept⟩
theorem Good.of_eq {n m : Nd} (h : Ord m) (h1 : m.table = n.table) (h2 : m.addr = n.addr) : Good n m := ⟨h, h2, by rw [h1]; exact Kept.refl _⟩
theorem Good.lose {n m : Nd} (h : Good n m) : Good n (lose m) := ⟨h.ord.lose, h.addr, h.kept⟩
theorem Good.queue {n m : Nd} (h : Good n m) (f : Fr) : Good n (queue m f).1 := h.trans (.of_eq (h.ord.queue f) (queue_table m f).1 (queue_table m f).2)
theorem Good.box {n m : Nd} (h : Good n m) (f : Fr) (now : Int) : Good n (box m f now) := h.trans (.of_eq (h.ord.box f now) (box_table m f now).1 (box_table m f now).2)
theorem Good.deliver {n m : Nd} (h : Good n m) (d : De) : Good n (deliver m d) := h.trans (.of_eq (h.ord.deliver d) (deliver_table m d).1 (deliver_table m d).2)
theorem Good.out {n m : Nd} (h : Good n m) {q : List Sn} (hq : q.length ≤ 16) : Good n { m with out := q } := ⟨h.ord.setOut hq, h.addr, h.kept⟩
theorem send_good {n : Nd} {target : Int} {ur : Bool} {text : By} (h : (send n target ur text).2 = 0) : Good (order n) (send n target ur text).1 := by
 have ho := order_ord n
 unfold send at h ⊢
 simp only at h ⊢
 split at h
 ·cases h
 ·rename_i h1
  rw [if_neg h1]
  split at h
  ·rename_i h2; exact absurd h h2
  ·rename_i h2
   rw [if_neg h2]
   split at h
   ·rename_i h3
    rw [if_pos h3]
    exact (Good.refl ho).deliver _
   ·rename_i h3
    rw [if_neg h3]
    split at h
    ·rename_i m hm
     obtain ⟨g1, g2, g3⟩ := sends_ord ho hm
     exact .of_eq g1 g2 g3
    ·cases h
theorem boxes_good {n : Nd} (now : Int) : ∀ (l : List Fr) {m : Nd}, Good n m → Good n (l.foldl (fun n f => box n f now) m)
 | [], _, h => h
 | f :: l, _, h => boxes_good now l (h.box f now)
theorem bumped_good {n m : Nd} (h : Good n m) : Good n (bumped m) := by
 obtain ⟨g1, g2⟩ := rbump_tab h.ord.table
 exact ⟨h.ord.setTable g1, h.addr, h.kept.trans g2⟩
theorem beacon_good {n m : Nd} (h : Good n m) : Good n (beacon m) := by
 unfold beacon; split
 ·exact (bumped_good h).queue _
 ·exact bumped_good h
theorem poll_good {n m : Nd} (h : Good n m) : Good n (poll m) := by
 unfold poll; split
 ·exact (bumped_good h).queue _
 ·exact bumped_good h
theorem asleep_good {n m : Nd} (h : Good n m) (now : Int) : Good n (asleep m now) := by
 unfold asleep
 exact boxes_good now _ (h.out (Nat.le_trans (List.length_filter_le _ _) h.ord.out))
theorem mtick_len (q : List Sn) : (mtick q).length ≤ 16 := by unfold mtick; simp; omega
theorem tick_good (n : Nd) (now : Int) : Good (order n) (tickN n now) := by
 have ho := order_ord n
 have h1 : Good (order n) (asleep { order n with out := mtick (order n).out, boxes := bexp (order n).boxes (tick now) 120, parts := pexp (order n).parts (tick now) 120 } (tick now)) :=
  asleep_good (n := order n) ⟨((ho.setOut (mtick_len (order n).out)).setBoxes (bexp_len (order n).boxes (tick now) 120)).setParts (pexp (order n).parts (tick now) 120), rfl, Kept.refl (order n).table⟩ (tick now)
 unfold tickN
 simp only
 generalize asleep { order n with out := mtick (order n).out, boxes := bexp (order n).boxes (tick now) 120, parts := pexp (order n).parts (tick now) 120 } (tick now) = a at h1 ⊢
 have h2 : Good (order n) (if a.poll = 0 ∧ tick now % 8 = a.addr % 8 then beacon a else a) := by
  split
  ·exact beacon_good h1
  ·exact h1
 generalize (if a.poll = 0 ∧ tick now % 8 = a.addr % 8 then beacon a else a) = b at h2 ⊢
 split
 ·exact poll_good h2
 ·exact h2
theorem talks_good {n : Nd} {now : Int} : ∀ (k : Nat) {m : Nd} {i : Nat}, Good n m → Good n (talks now k m i).1
 | 0, m, i, h => h
 | k + 1, m, i, h => by
  unfold talks
  split
  ·exact h
  ·split
   ·exact talks_good k h
   ·split
    ·exact h
    ·split
     ·exact talks_good k ((h.out (Nat.le_trans (List.length_eraseIdx_le _ _) h.ord.out)).box _ _)
     ·split
      ·exact h
      ·split
       ·exact talks_good k (h.out (mres_len _ _ _)).lose
       ·exact talks_good k (h.out (mres_len _ _ _))
theorem talk_good (n : Nd) (now : Int) : Good (order n) (talk n now).1 := talks_good _ (Good.refl (order_ord n))
theorem take_good (n : Nd) : Good (order n) (take n).1 := ⟨{ order_ord n with inbox := Nat.zero_le _ }, rfl, Kept.refl _⟩
theorem giveUp_good {n m : Nd} (h : Good n m) (to : Int) : Good n (giveUp m to) := by
 unfold giveUp; split
 ·exact h.lose
 ·obtain ⟨g1, g2⟩ := rbrk_tab (next := to) h.ord.table
  have hl := h.ord.lose
  refine ⟨{ hl with table := g1, links := lforget_ok _ _, kids := h.ord.kids.filter _, kid := fun x hx => h.ord.kid x (List.mem_filter.1 hx).1, parent := ?_ }, h.addr, h.kept.trans g2⟩
  show (if m.parent = to then (255 : Int) else m.parent) = 255 ∨ (okN (if m.parent = to then (255 : Int) else m.parent) = true ∧ (if m.parent = to then (255 : Int) else m.parent) ≠ m.addr)
  split
  ·exact .inl I
  ·exact h.ord.parent
theorem result_good (n : Nd) (f : Fr) (ok : Bool) : Good (order n) (result n f ok) := by
 have ho := Good.refl (order_ord n)
 unfold result
 simp only
 split
 ·exact ho
 ·rename_i i hi
  have k1 : ∀ a, Good (order n) a → Good (order n) (if okN f.dst = true then { a with links := lseen a.links f.dst ok } else a) := by
   intro a h1
   split
   ·exact ⟨h1.ord.setLinks (lseen_ok _ _ _), h1.addr, h1.kept⟩
   ·exact h1
  have h2 := k1 { order n with out := (mres (order n).out i ok).1 } (ho.out (mres_len _ _ _))
  split
  ·exact giveUp_good h2 _
  ·exact h2
theorem advertised_good {n m : Nd} {f : Fr} (h : Good n m) (hf : okN f.fr = true) (hne : f.fr ≠ m.addr) : Good n (advertised m f) := by
 unfold advertised
 simp only
 have k1 : ∀ a : Nd, Good n a → a.addr = m.addr → Good n (if a.poll > 0 ∧ a.parent = 255 ∧ (rhop (rdec f.da).1 0).2 = true then { a with parent := f.fr } else a) := by
  intro a h2 e2
  split
  ·exact ⟨{ h2.ord with parent := .inr ⟨hf, fun e => hne (e.trans e2)⟩ }, h2.addr, h2.kept⟩
  ·exact h2
 have k2 : ∀ a : Nd, Good n a → a.addr = m.addr → Good n { a with table := rupd a.table a.addr f.fr (lcost a.links f.fr) (rdec f.da).1 } := by
  intro a h1 e1
  obtain ⟨g1, g2⟩ := rupd_tab (fr := f.fr) (cost := lcost a.links f.fr) (adv := (rdec f.da).1) h1.ord.table
  exact ⟨h1.ord.setTable g1, h1.addr, h1.kept.trans g2⟩
 have h1 : Good n { m with links := lseen m.links f.fr true } := ⟨h.ord.setLinks (lseen_ok _ _ _), h.addr, h.kept⟩
 split
 ·exact h1
 ·exact k1 _ (k2 _ h1 I) I
theorem drain_good {n : Nd} {fr now : Int} : ∀ (k : Nat) {m : Nd}, Good n m → Good n (drain fr now k m)
 | 0, _, h => h
 | k + 1, m, h => by
  unfold drain
  simp only
  have hb := (btake_len m.boxes fr now 120).1
  split
  ·exact drain_good k (Good.queue (m := { m with boxes := (btake m.boxes fr now 120).2.1 }) ⟨h.ord.setBoxes hb, h.addr, h.kept⟩ _)
  ·exact ⟨h.ord.setBoxes hb, h.addr, h.kept⟩
theorem polled_good {n m : Nd} {f : Fr} {now : Int} (h : Good n m) (hf : okN f.fr = true) (hne : f.fr ≠ m.addr) : Good n (polled m f now) := by
 unfold polled
 refine drain_good _ ?_
 obtain ⟨g1, g2⟩ := rupd_tab (fr := f.fr) (cost := 10) (adv := [⟨f.fr, f.sq, 0, 0⟩]) h.ord.table
 obtain ⟨c1, c2⟩ := child_asc h.ord.kids f.fr
 refine ⟨{ h.ord with table := g1, kids := c1, kid := fun x hx => ?_ }, h.addr, h.kept.trans g2⟩
 rcases (c2 x).1 hx with rfl | hx
 ·exact ⟨hf, hne⟩
 ·exact h.ord.kid x hx
theorem received_good {n m : Nd} {f : Fr} {now : Int} (h : Good n m) : Good n (received m f now) := by
 unfold received
 simp only
 have h1 : Good n { m with seen := (mfresh m.seen ⟨f.so, f.sq⟩).1 } := ⟨{ h.ord with seen := mfresh_len _ _ }, h.addr, h.kept⟩
 have hp : ∀ q, Good n { m with seen := (mfresh m.seen ⟨f.so, f.sq⟩).1, parts := q } := fun q => ⟨h1.ord.setParts q, h1.addr, h1.kept⟩
 split
 ·exact h1
 ·split
  ·split
   ·exact h1
   ·split
    ·exact (hp _).deliver _
    ·exact hp _
  ·split
   ·exact h1.lose
   ·exact h1.queue _
theorem hear_good (n : Nd) (now : Int) (f : Fr) : Good (order n) (hear n now f) := by
 have ho := Good.refl (order_ord n)
 unfold hear
 simp only
 split
 ·exact ho
 ·rename_i h1
  have hc : fchk f = 0 := by
   rcases Int.lt_trichotomy (fchk f) 0 with h | h | h
   ·exact absurd (Or.inl (by omega)) h1
   ·exact h
   ·exact absurd (Or.inl (by omega)) h1
  have hf := (fchk_fr hc).1
  have hne : f.fr ≠ (order n).addr := fun e => h1 (.inr (.inl e))
  split
  ·exact advertised_good ho hf hne
  ·split
   ·exact polled_good ho hf hne
   ·split
    ·exact received_good ho
    ·exact ho
end Nd
namespace Go.Proofs.YtgdgclmkpoaagaaGreat
open Go.GX Go.RowKit
attribute [local irreducible] Calls Run RunL RunQ RunD HR HL HD blkC ownC Rd
open Nd
theorem fn92 : IsFn Tryz.prog 92 := ⟨⟨_, _, Tryz.func92, rfl, by decide⟩⟩
end Go.Proofs.YtgdgclmkpoaagaaGreat
namespace Go.Proofs.YtgdgclmkpoaagaaGreat
open Go.GX Go.RowKit
attribute [local irreducible] Calls Run RunL RunQ RunD HR HL HD blkC ownC Rd
open Nd
theorem ptG_filter (p : PtV → Bool) (L : List PtV) : (ptG L).Perm (ptG (L.filter p) ++ ptG (L.filter fun x => !p x)) := by
 rw [← ptG_app]
 unfold ptG
 exact (List.filter_append_perm p L).symm.flatMap_right _
end Go.Proofs.YtgdgclmkpoaagaaGreat
namespace Go.Proofs.YtgdgclmkpoaagaaGreat
open Go.GX Go.RowKit
attribute [local irreducible] Calls Run RunL RunQ RunD HR HL HD blkC ownC Rd
open Nd
theorem fexp_any (l : List PtV) (now life : Int) (v : Value) (w : World) (hv : RdPts w v l) (hs : ∀ p ∈ l, SmPt p.pt) (hl : l.length ≤ 1000) :
  Calls Tryz.prog 92 #[v, .int .i64 now, .int .i64 life] w fun e w' => ∃ x : Value × List PtV, e = .returned x.1 ∧ GdPts x (pexp (pts l) now life) ∧ Sat (base w) (ptsC x) w' := by
 have t1 := tick_rng now
 have t3 := tick_rng life
 refine calls_hr Tryz.func92 I (Nat.le_of_ble_eq_true I) ?_
 refine HR.sub (σ' := [(0, v), (1, .int .i64 now), (2, .int .i64 life)]) ⟨I, I, I, trivial⟩ ?_
 repeat' (first | refine zh ?_ | intro (bk : Nat))
 refine HL.callX (r := fun x : Value × List PtV => x.1) (Q := fun x => GdPts x (porder (pts l))) (G := fun x => ptsC x) fn163 I I (fun w1 hw1 => forder_any l v w1 (hv.ext hw1.belowB) hs hl) ?_
 rintro ⟨v1, L⟩ ⟨hL, hsh⟩
 have hL : pts L = porder (pts l) := hL
 have hsh : ∀ p ∈ L, ShPt p := hsh
 have hLl : L.length ≤ 8 := by have := porder_len (pts l); rw [← hL, pts_len] at this; exact this
 have hpv : ∀ p ∈ L, Head p.pt := fun p hp => phead_is (pvalid_head (porder_valid p.pt (by rw [← hL]; exact List.mem_map_of_mem hp)))
 repeat' (first | refine zh ?_ | refine HL.lenR (Rd.own 0 I) I I I ?_ | intro (bk : Nat))
 refine HR.nilC 76 6 ?_
 obtain ⟨p, hp⟩ : ∃ p : PtV → Bool, p = fun x => decide (tick now - x.pt.si ≤ tick life) := ⟨_, rfl⟩
 refine HR.loop2 (α := Nat) (β := Value) (fun k o => k ≤ L.length) (fun k o => [(1, .int .i64 now), (2, .int .i64 life), (7, o), (11, v1), (12, .int .i64 (L.length : Int)), (13, .int .i64 (k : Int))]) (fun k o => [ownC o 76 6 ((L.take k).filter p).length (cellsOf ptC ((L.take k).filter p)), ownC v1 76 6 L.length (cellsOf ptC L), groupC (ptG L)]) (fun k _ => L.length - k) 0 (.slice none 0 0) (Nat.zero_le _) ⟨I, I, I, I, I, I, trivial⟩ (Ent.pick [0, 1, 2] I I) ?_
 rintro k o hk ih
 have hfl : ((L.take k).filter p).length ≤ 8 := Nat.le_trans (List.length_filter_le _ _) (by simp; omega)
 repeat' (first | refine zh ?_ | intro (bk : Nat))
 refine HR.cond I (fun h2 => ?_) (fun h2 => ?_)
 ·have hlt : k < L.length := by have := of_decide_eq_true h2; omega
  obtain ⟨x, hx⟩ := getSome hlt
  have hxm := List.mem_of_getElem? hx
  have hft := filt_take p hx
  have H := hpv x hxm
  obtain ⟨a, n, c, a', n', c', ex⟩ := (hsh x hxm).lit
  obtain ⟨q, hq⟩ : ∃ q, q = x.pt := ⟨_, rfl⟩
  rw [← hq] at ex H
  subst ex
  have s0 := H.si0
  have s1 : q.si ≤ 1099511627776 := H.si1
  repeat' (first | refine zh ?_ | refine HL.idxR (Rd.own 1 I) elemPt k I I I I hlt ?_ | refine HL.loadE (Rd.own 1 I) I I I I (by simp) I (cellsOf_get ptC_len hx) ?_ | intro (bk : Nat))
  refine HR.regionD [(0, true), (2, true), (3, true), (5, true), (1, false), (4, true), (6, false), (7, true)] [0] I I hmix (by kernel_rfl) ?_
  repeat' (first | refine zd ?_ | refine HD.callB [0] I I fn164 I I I (fun w _ => flim_any _ w) ?_)
  refine HD.nil ?_
  refine HR.cond I (fun h3 => ?_) (fun h3 => ?_)
  ·have h3 : p ⟨.slice a n c, .slice a' n' c', q⟩ = true := by rw [hp]; exact h3
   rw [if_pos h3] at hft
   repeat' (first | refine zh ?_ | refine HL.bslice elemPt I I I I I (by decide) (by decide) ?_ | intro (bk : Nat))
   intro va
   repeat' (first | refine zh ?_ | intro (bk : Nat))
   refine HL.appR 2 I elemPt (Rd.own 0 I) I I I I (allOne_spec I) (by omega) (by omega) ?_
   intro o2
   repeat' (first | refine zh ?_ | intro (bk : Nat))
   refine ih (k + 1) o2 _ _ hlt (by omega) ⟨I, I, I, I, I, I, trivial⟩ (Ent.trans (Ent.pick [2, 3, 4] I I) (Ent.own0 ?_ ?_))
   ·rw [hft]; simp
   ·rw [hft, cellsOf_app]; rfl
  ·have h3 : p ⟨.slice a n c, .slice a' n' c', q⟩ = false := by rw [hp]; exact h3
   rw [if_neg (by rw [h3]; decide)] at hft
   repeat' (first | refine zh ?_ | intro (bk : Nat))
   refine ih (k + 1) o _ _ hlt (by omega) ⟨I, I, I, I, I, I, trivial⟩ (Ent.trans (Ent.pick [1, 2, 3] I I) (Ent.own0 ?_ ?_))
   ·rw [hft]
   ·rw [hft]
 ·have hke : k = L.length := by have := of_decide_eq_false h2; omega
  subst hke
  rw [List.take_length]
  repeat' (first | refine zh ?_ | intro (bk : Nat))
  refine HR.ret Tryz.func92 I [_] (fun _ _ => ⟨I, trivial⟩) ?_
  refine fun w' hw => ⟨(o, L.filter p), rfl, ⟨?_, fun y hy => hsh y (List.mem_filter.1 hy).1⟩, ?_⟩
  ·unfold pexp
   rw [← hL, hp]
   unfold pts
   rw [List.filter_map]; rfl
  ·have hw2 := hw.pick [2, 0] I I
   have hw3 := (Ent.gdrop _ (ptG_filter p L)) w' hw2
   exact hw3.pick [1, 0] I I
end Go.Proofs.YtgdgclmkpoaagaaGreat
namespace Go.Proofs.YtgdgclmkpoaagaaGreat
open Go.GX Go.RowKit
attribute [local irreducible] Calls Run RunL RunQ RunD HR HL HD blkC ownC Rd
open Nd
theorem fn153 : IsFn Tryz.prog 153 := ⟨⟨_, _, Tryz.func153, rfl, by decide⟩⟩
theorem fn154 : IsFn Tryz.prog 154 := ⟨⟨_, _, Tryz.func154, rfl, by decide⟩⟩
theorem gu1_any (bt : Nat) (to c : Int) (w : World) (hb : Sl w (.slice (some ⟨bt, 0, none⟩) 1 1) [.int .i64 to] 1) : Calls Tryz.prog 154 #[.int .i64 c, .pointer (some ⟨bt, 0, none⟩)] w fun e w' => e = .returned (.bool (c == to)) ∧ Below w.heap.size w w' := by
 refine calls_hr Tryz.func154 I (Nat.le_of_ble_eq_true I) ?_
 refine HR.sub (σ' := [(0, .int .i64 c), (1, .pointer (some ⟨bt, 0, none⟩))]) ⟨I, I, trivial⟩ ?_
 repeat' (first | refine zh ?_ | refine HL.loadI (j := 0) (Rd.arg hb) I I I I I ?_ | intro (bk : Nat))
 refine HR.ret Tryz.func154 I [_] (fun _ _ => ⟨I, trivial⟩) ?_
 exact fun w' hw => ⟨rfl, hw.belowB⟩
theorem fidx_no {α : Type} {p : α → Bool} {l : List α} (h : fidx p l = -1) : ∀ a ∈ l, p a = false := by
 rcases fidx_cases p l with ⟨_, _, h2⟩ | ⟨k, b, e, _⟩
 ·exact h2
 ·omega
theorem delFI_any (l : List Int) (to : Int) (bt : Nat) (v : Value) (B0 : Base) (w : World) (hw0 : Sat B0 [ownC v 3 1 l.length (cellsOf iC l), blkC bt [.int .i64 to] 3] w) (hl : l.length ≤ 1000000) :
  Calls Tryz.prog 153 #[v, .func (.func 154) #[] #[.pointer (some ⟨bt, 0, none⟩)]] w fun e w' => ∃ r : Value, e = .returned r ∧ True ∧ Sat ⟨w, feet [ownC v 3 1 l.length (cellsOf iC l), blkC bt [.int .i64 to] 3]⟩ [ownC r 3 1 (l.filter fun c => !(c == to)).length (cellsOf iC (l.filter fun c => !(c == to))), blkC bt [.int .i64 to] 3] w' := by
 refine calls_hrW [ownC v 3 1 l.length (cellsOf iC l), blkC bt [.int .i64 to] 3] (hw0) Tryz.func153 I (Nat.le_of_ble_eq_true I) ?_
 refine HR.sub (σ' := [(0, v), (1, .func (.func 154) #[] #[.pointer (some ⟨bt, 0, none⟩)])]) ⟨I, I, trivial⟩ ?_
 repeat' (first | refine zh ?_ | refine HL.callB fn203 I I (fun w1 hw1 => indexFI_any l (fun c => c == to) 154 [.pointer (some ⟨bt, 0, none⟩)] v w1 fn154 (fun a ha w2 hb => gu1_any bt to a w2 (((Rd.blk (n := 1) 1 rfl).at hw1).ext hb)) ((Rd.own 0 rfl).at hw1) hl) ?_ | intro (bk : Nat))
 refine HR.cond I (fun h => ?_) (fun h => ?_)
 ·have h : fidx (fun c => c == to) l = -1 := eq_of_beq h
  have e : (l.filter fun c => !(c == to)) = l := List.filter_eq_self.2 fun a ha => by have := fidx_no h a ha; simpa using this
  rw [e]
  repeat' (first | refine zh ?_ | intro (bk : Nat))
  refine HR.ret Tryz.func153 I [_] (fun _ _ => ⟨I, trivial⟩) ?_
  exact fun w' hw => ⟨v, rfl, trivial, hw⟩
 have h : ¬ fidx (fun c => c == to) l = -1 := fun e => by rw [e] at h; exact absurd h (by decide)
 rcases fidx_cases (fun c => c == to) l with ⟨h2, _⟩ | ⟨i0, a0, e0, _, ha0, hp0, hno0⟩
 ·exact absurd h2 h
 have hp0 : (a0 == to) = true := hp0
 rw [e0]
 have hi0 : i0 < l.length := (List.getElem?_eq_some_iff.1 ha0).1
 have ht0 : (l.take (i0 + 1)).filter (fun c => !(c == to)) = l.take i0 := by
  rw [take_filter ha0, if_neg (by simp [hp0])]
  refine List.filter_eq_self.2 fun a ha => ?_
  obtain ⟨j, hj, rfl⟩ := List.getElem_of_mem ha
  rw [List.length_take] at hj
  have := hno0 j _ (by omega) (List.getElem?_eq_getElem (by omega))
  rw [List.getElem_take]
  simpa using this
 refine HR.row 0 I (by omega) fun g off c hv hnc hcm => ?_
 have hcm : c ≤ 9223372036854775807 := hcm
 repeat' (first | refine zh ?_ | intro (bk : Nat))
 obtain ⟨F, hF⟩ : ∃ F : Nat → Nat, F = fun k => ((l.take k).filter fun c => !(c == to)).length := ⟨_, rfl⟩
 have hF0 : F (i0 + 1) = i0 := by rw [hF]; show ((l.take (i0 + 1)).filter _).length = i0; rw [ht0, List.length_take]; omega
 refine HR.loop (ι := Nat × List Int) (fun x => x.1 ≤ l.length ∧ x.2.length = l.length ∧ F x.1 < x.1 ∧ x.2.take (F x.1) = (l.take x.1).filter (fun c => !(c == to)) ∧ x.2.drop x.1 = l.drop x.1) (fun x => [(0, v), (1, .func (.func 154) #[] #[.pointer (some ⟨bt, 0, none⟩)]), (5, .int .i64 (F x.1 : Int)), (6, .int .i64 (x.1 : Int))]) (fun x => [ownC v 3 1 l.length (cellsOf iC x.2), blkC bt [.int .i64 to] 3]) (fun x => l.length - x.1) (i0 + 1, l) ⟨by show i0 + 1 ≤ _; omega, rfl, by show F (i0 + 1) < i0 + 1; omega, by show l.take (F (i0 + 1)) = _; rw [hF0, ht0], rfl⟩ (by rw [hF0]; exact ⟨I, I, I, I, trivial⟩) Ent.refl ?_
 rintro ⟨k, X⟩ ⟨hk, hX, hFk, hT, hD⟩ ih
 have hk : k ≤ l.length := hk
 have hX : X.length = l.length := hX
 have hFk : F k < k := hFk
 have hT : X.take (F k) = (l.take k).filter (fun c => !(c == to)) := hT
 have hD : X.drop k = l.drop k := hD
 have hTl : F k = ((l.take k).filter fun c => !(c == to)).length := by rw [hF]
 repeat' (first | refine zh ?_ | refine HL.lenR (Rd.own 0 I) I I I ?_ | intro (bk : Nat))
 refine HR.cond I (fun h2 => ?_) (fun h2 => ?_)
 ·have hlt : k < l.length := by have := of_decide_eq_true h2; omega
  obtain ⟨x, hx⟩ := getSome hlt
  have hxX : X[k]? = some x := by
   have e1 : (X.drop k)[0]? = X[k]? := by rw [List.getElem?_drop]; rfl
   have e2 : (l.drop k)[0]? = l[k]? := by rw [List.getElem?_drop]; rfl
   rw [← e1, hD, e2, hx]
  have hnext := take_filter (p := fun c => !(c == to)) hx
  have hD1 : X.drop (k + 1) = l.drop (k + 1) := by
   rw [← List.drop_drop, ← List.drop_drop, hD]
  repeat' (first | refine zh ?_ | refine HL.idxR (Rd.own 0 I) elemI k I I I I hlt ?_ | refine HL.loadI (Rd.own 0 I) I I I I (cellsOf_get1 hxX) ?_ | refine HL.callV (caps := [.pointer (some ⟨bt, 0, none⟩)]) fn154 I I I (fun w1 hw1 => gu1_any bt to x w1 ((Rd.blk (n := 1) 1 rfl).at hw1)) ?_ | intro (bk : Nat))
  refine HR.cond I (fun h3 => ?_) (fun h3 => ?_)
  ·have h3 : (!(x == to)) = true := h3
   rw [if_pos h3] at hnext
   have hF1 : F (k + 1) = F k + 1 := by rw [hTl, hF]; show ((l.take (k + 1)).filter _).length = _; rw [hnext, List.length_append]; rfl
   repeat' (first | refine zh ?_ | refine HL.idxR (Rd.own 0 I) elemI (F k) I I I I (by omega) ?_ | refine HL.storeE (j := F k * 1) 0 I I I I I I I (by rw [cellsOf_len iC_len]; omega) ?_ | intro (bk : Nat))
   refine ih (k + 1, X.set (F k) x) _ _ ⟨hlt, ?_, ?_, ?_, ?_⟩ (by show l.length - (k + 1) < l.length - k; omega) ?_ (Ent.own0 I ?_)
   ·show (X.set (F k) x).length = _; rw [List.length_set]; exact hX
   ·show F (k + 1) < k + 1; omega
   ·show (X.set (F k) x).take (F (k + 1)) = (l.take (k + 1)).filter _
    rw [hnext, ← hT, hF1, List.take_succ_eq_append_getElem (by rw [List.length_set]; omega), List.take_set_of_le (by omega), List.getElem_set_self]
   ·show (X.set (F k) x).drop (k + 1) = _
    rw [List.drop_set_of_lt (by omega), hD1]
   ·show Sub [_, _, (5, Value.int .i64 (F (k + 1) : Int)), _] _
    rw [hF1]
    exact ⟨I, I, I, I, trivial⟩
   ·obtain ⟨y, hy⟩ := getSome (l := X) (j := F k) (by omega)
    exact cells_set1 (i := 0) iC_len hy I (by decide)
  ·have h3 : (!(x == to)) = false := h3
   rw [if_neg (by rw [h3]; decide)] at hnext
   have hF1 : F (k + 1) = F k := by rw [hTl, hF]; show ((l.take (k + 1)).filter _).length = _; rw [hnext]
   repeat' (first | refine zh ?_ | intro (bk : Nat))
   refine ih (k + 1, X) _ _ ⟨hlt, hX, by show F (k + 1) < k + 1; omega, by show X.take (F (k + 1)) = (l.take (k + 1)).filter _; rw [hF1, hnext, hT], hD1⟩ (by show l.length - (k + 1) < l.length - k; omega) ?_ Ent.refl
   show Sub [_, _, (5, Value.int .i64 (F (k + 1) : Int)), _] _
   rw [hF1]
   exact ⟨I, I, I, I, trivial⟩
 ·have hke : k = l.length := by have := of_decide_eq_false h2; omega
  subst hke
  subst hv
  rw [List.take_length] at hT hTl
  repeat' (first | refine zh ?_ | refine HL.cut (sz := 1) (F l.length) l.length c I I I I (.inr ⟨_, _, rfl, rfl⟩) (.inl ⟨rfl, rfl, rfl⟩) (.inl ⟨rfl, rfl⟩) (by omega) hnc (Nat.le_refl _) ?_ | intro (bk : Nat))
  refine HL.setHd (cutV_lit (by omega)) ?_
  refine HL.clearO (F l.length) 0 I I I I I I (by decide) I (by omega) ?_
  repeat' (first | refine zh ?_ | refine HL.cut (sz := 1) 0 (F l.length) c I I I I (.inl ⟨rfl, rfl⟩) (.inr ⟨_, _, rfl, rfl⟩) (.inl ⟨rfl, rfl⟩) (by omega) (by omega) (Nat.le_refl _) ?_ | intro (bk : Nat))
  refine HR.ret Tryz.func153 I [_] (fun _ _ => ⟨I, trivial⟩) ?_
  refine fun w' hw => ⟨_, rfl, trivial, ?_⟩
  have hc0 : cutV 1 (some ⟨g, off, none⟩) 0 (F l.length) c = .slice (some ⟨g, off, none⟩) (l.filter fun c => !(c == to)).length c := by
   rw [cutV_lit (by omega), ← hTl]; simp
  rw [hc0]
  refine Sat.cutK hw (by omega) ?_
  rw [← hTl, ← hT, List.take_append_of_le_length (by simp [cellsOf_len iC_len]; omega), List.take_take, Nat.min_self, cellsOf_take iC_len]
end Go.Proofs.YtgdgclmkpoaagaaGreat
namespace Go.Proofs.YtgdgclmkpoaagaaGreat
open Go.GX Go.RowKit
attribute [local irreducible] Calls Run RunL RunQ RunD HR HL HD blkC ownC Rd
open Nd
theorem fn167 : IsFn Tryz.prog 167 := ⟨⟨_, _, Tryz.func167, rfl, by decide⟩⟩
theorem fn166 : IsFn Tryz.prog 166 := ⟨⟨_, _, Tryz.func166, rfl, by decide⟩⟩
theorem fn208 : IsFn Tryz.prog 208 := ⟨⟨_, _, Tryz.func208, rfl, by decide⟩⟩
theorem snumber_any (b : Nat) (V : NV) (n : Nd) (now : Int) (B : Base) (w : World) (hw : Sat B (stH b V n now) w) (hl : n.table.length ≤ 1000) :
  Calls Tryz.prog 167 #[ptr b] w fun e w' => ∃ _x : Unit, e = .returned (.int .i64 (number n)) ∧ True ∧ Sat ⟨w, feet (stH b V n now)⟩ (stH b V n now) w' := by
 refine calls_hrW (stH b V n now) (hw) Tryz.func167 I (Nat.le_of_ble_eq_true I) ?_
 refine HR.sub (σ' := [(0, ptr b)]) ⟨I, trivial⟩ ?_
 repeat' (first | refine zh ?_ | intro (bk : Nat))
 refine HR.loop (ι := Nat) (fun k => k ≤ n.table.length ∧ ∀ j a, j < k → n.table[j]? = some a → (a.dest == n.addr) = false) (fun k => [(0, ptr b), (9, sv V.ta n.table.length), (10, .int .i64 (n.table.length : Int)), (11, .int .i64 (k : Int))]) (fun _ => stH b V n now) (fun k => n.table.length - k) 0 ⟨Nat.zero_le _, fun j a hj => by omega⟩ ⟨I, I, I, I, trivial⟩ Ent.refl ?_
 rintro k ⟨hk, hg⟩ ih
 repeat' (first | refine zh ?_ | intro (bk : Nat))
 refine HR.cond I (fun h2 => ?_) (fun h2 => ?_)
 ·have hlt : k < n.table.length := by have := of_decide_eq_true h2; omega
  obtain ⟨x, hx⟩ := getSome hlt
  repeat' (first | refine zh ?_ | refine HL.idxR (Rd.own 1 I) elemRo k I I I I hlt ?_ | refine HL.loadE (Rd.own 1 I) I I I I (by simp) I (cellsOf_get roC_len hx) ?_ | intro (bk : Nat))
  refine HR.regionQ hmix (by kernel_rfl) ?_
  repeat' (first | refine zq ?_ | apply zb ?_ ?_ | exact zc | (refine zi fun hb => ?_; try simp at hb))
  refine HR.cond I (fun h3 => ?_) (fun h3 => ?_)
  ·have h3 : (x.dest == n.addr) = true := h3
   have hf : rat n.table n.addr = some x := find_first hx h3 hg
   repeat' (first | refine zh ?_ | intro (bk : Nat))
   refine HR.ret Tryz.func167 I [_] (fun _ _ => ⟨I, trivial⟩) ?_
   exact fun w' hw => ⟨(), by rw [number, hf]; rfl, trivial, hw.pick [1, 2, 3, 4, 5, 6, 7, 8, 9, 10] I rfl⟩
  ·have h3 : (x.dest == n.addr) = false := h3
   repeat' (first | refine zh ?_ | intro (bk : Nat))
   refine ih (k + 1) _ _ ⟨hlt, fun j a hj ha => ?_⟩ (by omega) ⟨I, I, I, I, trivial⟩ (Ent.pick [1, 2, 3, 4, 5, 6, 7, 8, 9, 10] I I)
   by_cases hjk : j = k
   ·subst hjk; rw [hx] at ha; cases ha; exact h3
   ·exact hg j a (by omega) ha
 ·have hke : k = n.table.length := by have := of_decide_eq_false h2; omega
  subst hke
  have hf : rat n.table n.addr = none := List.find?_eq_none.2 fun a ha => by
   obtain ⟨j, hj⟩ := List.getElem?_of_mem ha
   have := hg j a (List.getElem?_eq_some_iff.1 hj).1 hj
   simp [this]
  repeat' (first | refine zh ?_ | intro (bk : Nat))
  refine HR.ret Tryz.func167 I [_] (fun _ _ => ⟨I, trivial⟩) ?_
  exact fun w' hw => ⟨(), by rw [number, hf]; rfl, trivial, hw⟩
theorem swaits1_any (bt : Nat) (k : Int) (x : Sn) (w : World) (hb : Sl w (.slice (some ⟨bt, 0, none⟩) 1 1) [.int .i64 k] 1) : Calls Tryz.prog 208 #[.agg ⟨snC x⟩, .pointer (some ⟨bt, 0, none⟩)] w fun e w' => e = .returned (.bool (x.f.kd == k)) ∧ Below w.heap.size w w' := by
 refine calls_hr Tryz.func208 I (Nat.le_of_ble_eq_true I) ?_
 refine HR.sub (σ' := [(0, .agg ⟨snC x⟩), (1, .pointer (some ⟨bt, 0, none⟩))]) ⟨I, I, trivial⟩ ?_
 repeat' (first | refine zh ?_ | refine HL.loadI (j := 0) (Rd.arg hb) I I I I I ?_ | intro (bk : Nat))
 refine HR.ret Tryz.func208 I [_] (fun _ _ => ⟨I, trivial⟩) ?_
 exact fun w' hw => ⟨rfl, hw.belowB⟩
theorem swaits_any (b : Nat) (V : NV) (n : Nd) (now k : Int) (B : Base) (w : World) (hw : Sat B (stH b V n now) w) (hl : n.out.length ≤ 1000) :
  Calls Tryz.prog 166 #[ptr b, .int .i64 k] w fun e w' => ∃ _x : Unit, e = .returned (.bool (waits n k)) ∧ True ∧ Sat ⟨w, feet (stH b V n now)⟩ (stH b V n now) w' := by
 refine calls_hrW (stH b V n now) (hw) Tryz.func166 I (Nat.le_of_ble_eq_true I) ?_
 refine HR.sub (σ' := [(0, ptr b), (1, .int .i64 k)]) ⟨I, I, trivial⟩ ?_
 repeat' (first | refine zh ?_ | refine HL.mkF (g := 208) (caps := [_]) I I ?_ | refine HL.callB fn207 I I (fun w1 hw1 => contFSn_any n.out (fun x => x.f.kd == k) 208 [.pointer (some ⟨bk, 0, none⟩)] (sv V.ou n.out.length) w1 fn208 (fun a ha w2 hb => swaits1_any bk k a w2 (((Rd.blk (n := 1) 0 rfl).at hw1).ext hb)) ((Rd.own 4 rfl).at hw1) (by omega)) ?_ | intro (bk : Nat))
 refine HR.ret Tryz.func166 I [_] (fun _ _ => ⟨I, trivial⟩) ?_
 exact fun w' hw => ⟨(), rfl, trivial, hw.pick [1, 2, 3, 4, 5, 6, 7, 8, 9, 10] I rfl⟩
end Go.Proofs.YtgdgclmkpoaagaaGreat
