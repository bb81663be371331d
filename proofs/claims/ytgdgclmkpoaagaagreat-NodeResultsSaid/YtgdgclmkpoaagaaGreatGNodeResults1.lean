/- A part of the proof: contracts of the program's functions. Conditions: none. -/
import Derived.Carry
import Derived.Deep.MidRow
import Derived.Deep.Quiet
import Derived.Laws.IdiomRangeMap
import Derived.Laws.MakeOwn
import Derived.Laws.StructEq
import Derived.Laws.Tables
import Derived.Lib.AppendStr
import Derived.Lib.AppendZerosOnto
import Derived.Lib.OthersKept
import Derived.Lib.Overlaps
import Derived.Lib.OwnBridge
import Derived.Lib.SlicesCompact
import Derived.MapKept
import Derived.Orders
import Derived.OrdersHeld
import Derived.Scope
import Derived.Sort.Grow
import Derived.StillTail
import Derived.Test.YtgdgclmkpoaagaaGreatProg
import Derived.Test.YtgdgclmkpoaagaaGreatShelf
import Derived.WalkKit
import Derived.WalkLawsBesides
import Derived.WalkSpells
import Derived.Test.YtgdgclmkpoaagaaGreatGB1
import Derived.Test.YtgdgclmkpoaagaaGreatGB2
import Derived.Test.YtgdgclmkpoaagaaGreatGB3
import Derived.Test.YtgdgclmkpoaagaaGreatGB4
import Derived.Test.YtgdgclmkpoaagaaGreatGB5
import Derived.Test.YtgdgclmkpoaagaaGreatGB6
import Derived.Test.YtgdgclmkpoaagaaGreatGB7
import Derived.Test.YtgdgclmkpoaagaaGreatGB8
import Derived.Test.YtgdgclmkpoaagaaGreatGB9
set_option linter.unusedVariables false
set_option linter.unusedSectionVars false
set_option linter.unusedSimpArgs false
set_option maxRecDepth 100000
set_option maxHeartbeats 4000000
namespace Go.GX
open Go.RowKit
section
variable {P : Program} {f : FuncId} {N : Nat} {k : List Item} {σ : Store} {B : Base} {H H' F : List Chunk} {R : Ending → World → Prop} {ops l : List Oper} {o : Oper} {K : Act → World → Prop} {KQ : Act → Prop} {C : World → Prop}
 {d : Nat} {op : Op} {ty : TypeId} {pos : String} {af : Array Edge} {gd : Option (Nat × Bool)} {v u : Value} {w : World} {d' : Option Tmp} {p : List (Nat × Bool)} {i : Nat} {S : World → Prop}
theorem Rd.blk {b n : Nat} {T : TypeId} {cs : List Value} (i : Nat) (hi : nthC H i = some (blkC b cs T)) : Rd B H (.slice (some ⟨b, 0, none⟩) n n) cs n := by
 intro w hw
 have hb : Blk w b cs T := hw.nth hi
 refine ⟨.inr ⟨b, 0, n, rfl, fun j u hu => ?_⟩, _, _, rfl, Nat.le_refl _⟩
 rw [Nat.zero_add, hb.cell]; exact hu
theorem HR.exit {id : Nat} {k' : List Item} (he : exitTo id k = some k') (h : HR P f N k' σ B H R) : HR P f N (.code (.exit id) :: k) σ B H R := fun w hw => Run.exit he (h w hw)
end
end Go.GX
namespace Nd
open Go.GX Tp
def lforget (l : List Li) (n : Int) : List Li := (lval l).filter fun x => !(x.nd == n)
def rbrk (t : List Ro) (self next : Int) : List Ro :=
 (rtab t self).map fun r => if okN next = true ∧ r.nx = next ∧ r.dest ≠ lim self then ⟨r.dest, r.sq + 1, 255, 255⟩ else r
def giveUp (n : Nd) (to : Int) : Nd :=
 if okN to = false then lose n
 else { lose n with table := rbrk n.table n.addr to, links := lforget n.links to, children := n.children.filter fun c => !(c == to), parent := if n.parent = to then 255 else n.parent }
def hits (f : Fr) (x : Sn) : Bool := (x.f.kd == f.kd) && (x.f.so == f.so) && (x.f.sq == f.sq)
def result (n : Nd) (f : Fr) (ok : Bool) : Nd :=
 let s := order n
 match s.out.findIdx? (hits f) with
 | none => s
 | some i =>
  let a := { s with out := (mres s.out i ok).1 }
  let b := if okN f.dst then { a with links := lseen a.links f.dst ok } else a
  if (mres s.out i ok).2 then giveUp b f.dst else b
end Nd
namespace Nd
open Go.GX Tp
section
variable {α : Type} {key : α → Int}
theorem Asc.map_same {l : List α} (f : α → α) (hf : ∀ a, key (f a) = key a) (h : Asc key l) : Asc key (l.map f) := by
 unfold Asc
 rw [List.pairwise_map]
 exact h.imp fun {a b} hab => by rw [hf, hf]; exact hab
theorem Asc.filter {l : List α} (p : α → Bool) (h : Asc key l) : Asc key (l.filter p) := List.Pairwise.filter p h
end
theorem lval_val (l : List Li) : lval (lval l) = lval l := by
 rw [lval, if_pos (lval_ok l)]
end Nd
namespace Nd
open Go.GX Tp
theorem lseen_ref {l rest : List Li} {n : Int} {ok : Bool} {k : Nat} {x : Li} (hr : ¬ (n < 0 ∨ n > 250)) (hrest : rest = lforget l n) (hx : (lat (lval l) n).getD ⟨n, 0, 0⟩ = x) (hf : ¬ (lat (lval l) n = none ∧ (lval l).length = 24))
  (hk : k ≤ rest.length) (h1 : ∀ j a, j < k → rest[j]? = some a → a.nd < n) (h2 : ∀ a, rest[k]? = some a → n ≤ a.nd) : lseen l n ok = rest.take k ++ lupd x ok :: rest.drop k := by
 obtain ⟨A, C, s⟩ := (lval_asc l).split n
 have hA : A.filter (fun x => !(x.nd == n)) = A := List.filter_eq_self.2 fun a ha => by have := s.lo a ha; simp; omega
 have htw := tw_at (p := fun x => decide (x.nd < n)) hk (fun j a hj ha => decide_eq_true (h1 j a hj ha)) (fun a ha => decide_eq_false (by have := h2 a ha; omega))
 have hl : lpos (lval l) n = A.length := by unfold lpos; rw [s.tw]
 unfold lforget at hrest
 rw [s.eq, List.filter_append, hA] at hrest
 rcases s.hi with ⟨h3, h4⟩ | ⟨y, D, rfl, hy, h3, h4⟩
 ·have hC : C.filter (fun x => !(x.nd == n)) = C := List.filter_eq_self.2 fun a ha => by have := h4 a ha; simp; omega
  rw [hC] at hrest
  have hs := tw_skip (p := fun x => decide (x.nd < n)) (A := A) (C := C) (fun a ha => decide_eq_true (s.lo a ha)) (fun c hc => decide_eq_false (by have := h4 c (List.mem_of_mem_head? hc); omega))
  rw [← hrest, htw.1, htw.2] at hs
  have hlat : lat (lval l) n = none := h3
  rw [hlat] at hx hf
  rw [lseen_new hr hlat (fun h => hf ⟨rfl, h⟩), hs.1, hs.2, hl, s.eq]
  subst hx
  simp
 ·have hC : (y :: D).filter (fun x => !(x.nd == n)) = D := by
   rw [List.filter_cons_of_neg (by simp [hy])]
   exact List.filter_eq_self.2 fun a ha => by have := h4 a ha; simp; omega
  rw [hC] at hrest
  have hs := tw_skip (p := fun x => decide (x.nd < n)) (A := A) (C := D) (fun a ha => decide_eq_true (s.lo a ha)) (fun c hc => decide_eq_false (by have := h4 c (List.mem_of_mem_head? hc); omega))
  rw [← hrest, htw.1, htw.2] at hs
  have hlat : lat (lval l) n = some y := h3
  rw [hlat] at hx
  simp only [Option.getD_some] at hx
  subst hx
  rw [lseen_is hr (x := y) (by rw [hl, s.eq]; exact get_mid I) hy, hs.1, hs.2, hl, s.eq]
  exact set_mid I
theorem lforget_is {l : List Li} {n : Int} {x : Li} (hx : (lval l)[lpos (lval l) n]? = some x) (hn : x.nd = n) : lforget l n = (lval l).eraseIdx (lpos (lval l) n) := by
 obtain ⟨A, C, s⟩ := (lval_asc l).split n
 have hl : lpos (lval l) n = A.length := by unfold lpos; rw [s.tw]
 have hA : A.filter (fun x => !(x.nd == n)) = A := List.filter_eq_self.2 fun a ha => by have := s.lo a ha; simp; omega
 rcases s.hi with ⟨h3, h4⟩ | ⟨y, D, rfl, hy, h3, h4⟩
 ·have := ((lval_asc l).pos_is hx hn).2
  rw [h3] at this; cases this
 ·have hC : (y :: D).filter (fun x => !(x.nd == n)) = D := by
   rw [List.filter_cons_of_neg (by simp [hy])]
   exact List.filter_eq_self.2 fun a ha => by have := h4 a ha; simp; omega
  unfold lforget
  rw [hl, s.eq, List.filter_append, hA, hC]
  simp [List.eraseIdx_append_of_length_le]
theorem lforget_no {l : List Li} {n : Int} (h : lat (lval l) n = none) : lforget l n = lval l :=
 List.filter_eq_self.2 fun a ha => by
  have := List.find?_eq_none.1 h a ha
  simpa using this
end Nd
namespace Go.Proofs.YtgdgclmkpoaagaaGreat
open Go.GX Go.RowKit
attribute [local irreducible] Calls Run RunL RunQ RunD HR HL HD blkC ownC Rd
open Nd
theorem fn140 : IsFn Tryz.prog 140 := ⟨⟨_, _, Tryz.func140, rfl, by decide⟩⟩
theorem fn141 : IsFn Tryz.prog 141 := ⟨⟨_, _, Tryz.func141, rfl, by decide⟩⟩
theorem fn142 : IsFn Tryz.prog 142 := ⟨⟨_, _, Tryz.func142, rfl, by decide⟩⟩
theorem fn65 : IsFn Tryz.prog 65 := ⟨⟨_, _, Tryz.func65, rfl, by decide⟩⟩
theorem fn45 : IsFn Tryz.prog 45 := ⟨⟨_, _, Tryz.func45, rfl, by decide⟩⟩
theorem fn63 : IsFn Tryz.prog 63 := ⟨⟨_, _, Tryz.func63, rfl, by decide⟩⟩
theorem address_any (n : Int) (w : World) : Calls Tryz.prog 45 #[.int .i64 n] w fun e w' => e = .returned (.bool (Tp.okN n)) ∧ Below w.heap.size w w' := by
 refine calls_hr Tryz.func45 I (Nat.le_of_ble_eq_true I) ?_
 refine HR.sub (σ' := [(0, .int .i64 n)]) ⟨I, trivial⟩ ?_
 repeat' (first | refine zh ?_ | apply zb ?_ ?_ | exact zc | (refine zi fun hb => ?_; try simp at hb) | intro (bk : Nat))
 refine HR.ret Tryz.func45 I [_] (fun _ _ => ⟨I, trivial⟩) ?_
 exact fun w' hw => ⟨rfl, hw.belowB⟩
theorem rrfin_any (r : Ro) (w : World) : Calls Tryz.prog 142 #[.agg ⟨roC r⟩] w fun e w' => e = .returned (.bool (fin r)) ∧ Below w.heap.size w w' := by
 refine calls_hr Tryz.func142 I (Nat.le_of_ble_eq_true I) ?_
 refine HR.sub (σ' := [(0, .agg ⟨roC r⟩)]) ⟨I, trivial⟩ ?_
 repeat' (first | refine zh ?_ | apply zb ?_ ?_ | exact zc | (refine zi fun hb => ?_; try simp at hb) | intro (bk : Nat))
 refine HR.ret Tryz.func142 I [_] (fun _ _ => ⟨I, trivial⟩) ?_
 exact fun w' hw => ⟨rfl, hw.belowB⟩
theorem rrlim_any (n : Int) (w : World) : Calls Tryz.prog 140 #[.int .i64 n] w fun e w' => e = .returned (.int .i64 (lim n)) ∧ Below w.heap.size w w' := by
 refine calls_hr Tryz.func140 I (Nat.le_of_ble_eq_true I) ?_
 refine HR.sub (σ' := [(0, .int .i64 n)]) ⟨I, trivial⟩ ?_
 repeat' (first | refine zh ?_ | apply zb ?_ ?_ | exact zc | (refine zi fun hb => ?_; try simp at hb) | intro (bk : Nat))
 refine HR.cond I (fun h => ?_) (fun h => ?_)
 ·have h : n < 0 := of_decide_eq_true h
  repeat' (first | refine zh ?_ | apply zb ?_ ?_ | exact zc | (refine zi fun hb => ?_; try simp at hb) | intro (bk : Nat))
  refine HR.ret Tryz.func140 I [_] (fun _ _ => ⟨I, trivial⟩) ?_
  exact fun w' hw => ⟨by rw [show lim n = 0 by unfold lim clamp; omega]; rfl, hw.belowB⟩
 have h : ¬ n < 0 := of_decide_eq_false h
 repeat' (first | refine zh ?_ | apply zb ?_ ?_ | exact zc | (refine zi fun hb => ?_; try simp at hb) | intro (bk : Nat))
 refine HR.cond I (fun h1 => ?_) (fun h1 => ?_)
 ·have h1 : n > 250 := of_decide_eq_true h1
  repeat' (first | refine zh ?_ | apply zb ?_ ?_ | exact zc | (refine zi fun hb => ?_; try simp at hb) | intro (bk : Nat))
  refine HR.ret Tryz.func140 I [_] (fun _ _ => ⟨I, trivial⟩) ?_
  exact fun w' hw => ⟨by rw [show lim n = 250 by unfold lim clamp; omega]; rfl, hw.belowB⟩
 ·have h1 : ¬ n > 250 := of_decide_eq_false h1
  repeat' (first | refine zh ?_ | apply zb ?_ ?_ | exact zc | (refine zi fun hb => ?_; try simp at hb) | intro (bk : Nat))
  refine HR.ret Tryz.func140 I [_] (fun _ _ => ⟨I, trivial⟩) ?_
  exact fun w' hw => ⟨by rw [show lim n = n by unfold lim clamp; omega]; rfl, hw.belowB⟩
theorem rrusable_any (r : Ro) (w : World) : Calls Tryz.prog 141 #[.agg ⟨roC r⟩] w fun e w' => e = .returned (.bool (usable r)) ∧ Below w.heap.size w w' := by
 refine calls_hr Tryz.func141 I (Nat.le_of_ble_eq_true I) ?_
 refine HR.sub (σ' := [(0, .agg ⟨roC r⟩)]) ⟨I, trivial⟩ ?_
 repeat' (first | refine zh ?_ | apply zb ?_ ?_ | exact zc | (refine zi fun hb => ?_; try simp at hb) | intro (bk : Nat))
 refine HR.cond I (fun h => ?_) (fun h => ?_)
 ·have h : (((decide (r.dest < 0) || decide (r.dest > 250)) || decide (r.sq < 0)) || decide (r.sq > 65535)) = true := h
  repeat' (first | refine zh ?_ | apply zb ?_ ?_ | exact zc | (refine zi fun hb => ?_; try simp at hb) | intro (bk : Nat))
  refine HR.ret Tryz.func141 I [_] (fun _ _ => ⟨I, trivial⟩) ?_
  refine fun w' hw => ⟨?_, hw.belowB⟩
  have : usable r = false := by
   rw [← Bool.not_eq_true]
   simp only [usable, Tp.okN, Bool.and_eq_true, Bool.or_eq_true, Bool.not_eq_true', Bool.or_eq_false_iff, decide_eq_true_eq, decide_eq_false_iff_not] at h ⊢
   omega
  rw [this]; rfl
 ·have h : (((decide (r.dest < 0) || decide (r.dest > 250)) || decide (r.sq < 0)) || decide (r.sq > 65535)) = false := h
  have h' := h
  simp only [Bool.or_eq_false_iff, decide_eq_false_iff_not] at h'
  have h0 : 0 ≤ r.sq := by omega
  repeat' (first | refine zh ?_ | refine HL.callB fn142 I I (fun w _ => rrfin_any r w) ?_ | apply zb ?_ ?_ | exact zc | (refine zi fun hb => ?_; try simp at hb) | intro (bk : Nat))
  refine HR.ret Tryz.func141 I [_] (fun _ _ => ⟨I, trivial⟩) ?_
  refine fun w' hw => ⟨?_, hw.belowB⟩
  have : usable r = ((fin r && (r.sq % 2 == 0)) || (r.cost == 255)) := by
   unfold usable Tp.okN
   have e1 : decide (r.sq < 0) = false := decide_eq_false (by omega)
   have e2 : decide (r.sq > 65535) = false := decide_eq_false (by omega)
   have e3 : decide (r.dest ≥ 0) = true := decide_eq_true (by omega)
   have e4 : decide (r.dest ≤ 250) = true := decide_eq_true (by omega)
   rw [e1, e2, e3, e4]; rfl
  rw [this]; rfl
theorem rrnew_any (n : Int) (w : World) : Calls Tryz.prog 65 #[.int .i64 n] w fun e w' => ∃ v, e = .returned v ∧ Sat (base w) [ownC v 79 4 (rnew n).length (cellsOf roC (rnew n))] w' := by
 refine calls_hr Tryz.func65 I (Nat.le_of_ble_eq_true I) ?_
 refine HR.sub (σ' := [(0, .int .i64 n)]) ⟨I, trivial⟩ ?_
 repeat' (first | refine zh ?_ | refine HL.callB fn140 I I (fun w _ => rrlim_any n w) ?_ | refine HL.bslice elemRo I I I I I (by decide) (by decide) ?_ | apply zb ?_ ?_ | exact zc | (refine zi fun hb => ?_; try simp at hb) | intro (bk : Nat))
 intro v
 repeat' (first | refine zh ?_ | apply zb ?_ ?_ | exact zc | (refine zi fun hb => ?_; try simp at hb) | intro (bk : Nat))
 refine HR.ret Tryz.func65 I [_] (fun _ _ => ⟨I, trivial⟩) ?_
 exact fun w' hw => ⟨v, rfl, hw⟩
theorem rclamp_any (n lo hi : Int) (hlh : lo ≤ hi) (w : World) : Calls Tryz.prog 63 #[.int .i64 n, .int .i64 lo, .int .i64 hi] w fun e w' => e = .returned (.int .i64 (clamp n lo hi)) ∧ Below w.heap.size w w' := by
 refine calls_hr Tryz.func63 I (Nat.le_of_ble_eq_true I) ?_
 refine HR.sub (σ' := [(0, .int .i64 n), (1, .int .i64 lo), (2, .int .i64 hi)]) ⟨I, I, I, trivial⟩ ?_
 repeat' (first | refine zh ?_ | apply zb ?_ ?_ | exact zc | (refine zi fun hb => ?_; try simp at hb) | intro (bk : Nat))
 refine HR.cond I (fun h => ?_) (fun h => ?_)
 ·have h : (decide (hi < lo) || decide (n > hi)) = true := h
  simp only [Bool.or_eq_true, decide_eq_true_eq] at h
  repeat' (first | refine zh ?_ | apply zb ?_ ?_ | exact zc | (refine zi fun hb => ?_; try simp at hb) | intro (bk : Nat))
  refine HR.ret Tryz.func63 I [_] (fun _ _ => ⟨I, trivial⟩) ?_
  exact fun w' hw => ⟨by rw [show clamp n lo hi = hi by unfold clamp; omega]; rfl, hw.belowB⟩
 have h : (decide (hi < lo) || decide (n > hi)) = false := h
 simp only [Bool.or_eq_false_iff, decide_eq_false_iff_not] at h
 repeat' (first | refine zh ?_ | apply zb ?_ ?_ | exact zc | (refine zi fun hb => ?_; try simp at hb) | intro (bk : Nat))
 refine HR.cond I (fun h1 => ?_) (fun h1 => ?_)
 ·have h1 : n < lo := of_decide_eq_true h1
  repeat' (first | refine zh ?_ | apply zb ?_ ?_ | exact zc | (refine zi fun hb => ?_; try simp at hb) | intro (bk : Nat))
  refine HR.ret Tryz.func63 I [_] (fun _ _ => ⟨I, trivial⟩) ?_
  exact fun w' hw => ⟨by rw [show clamp n lo hi = lo by unfold clamp; omega]; rfl, hw.belowB⟩
 ·have h1 : ¬ n < lo := of_decide_eq_false h1
  repeat' (first | refine zh ?_ | apply zb ?_ ?_ | exact zc | (refine zi fun hb => ?_; try simp at hb) | intro (bk : Nat))
  refine HR.ret Tryz.func63 I [_] (fun _ _ => ⟨I, trivial⟩) ?_
  exact fun w' hw => ⟨by rw [show clamp n lo hi = n by unfold clamp; omega]; rfl, hw.belowB⟩
end Go.Proofs.YtgdgclmkpoaagaaGreat
namespace Nd
open Go.GX Tp
theorem ne_lim (n : Int) : (n != lim n) = !okN n := by
 rw [Bool.eq_iff_iff]
 simp only [bne_iff_ne, ne_eq, Bool.not_eq_true', okN, Bool.and_eq_false_iff, decide_eq_false_iff_not]
 unfold lim clamp; omega
theorem eq_lim (n : Int) : (n == lim n) = okN n := by
 rw [Bool.eq_iff_iff]
 simp only [beq_iff_eq, okN, Bool.and_eq_true, decide_eq_true_eq]
 unfold lim clamp; omega
def rlook (t : List Ro) (d : Int) : Int := match t.findIdx? (fun x => x.dest == d) with
 | some i => i
 | none => -1
theorem rlook_at {t : List Ro} {d : Int} {i : Nat} {x : Ro} (hx : t[i]? = some x) (hd : (x.dest == d) = true) (hno : ∀ j a, j < i → t[j]? = some a → (a.dest == d) = false) : rlook t d = i := by
 have : t.findIdx? (fun x => x.dest == d) = some i := by
  rw [List.findIdx?_eq_some_iff_getElem]
  obtain ⟨hl, rfl⟩ := List.getElem?_eq_some_iff.1 hx
  exact ⟨hl, hd, fun j hj => by rw [hno j _ hj (List.getElem?_eq_getElem (by omega))]; decide⟩
 unfold rlook; rw [this]
theorem rlook_none {t : List Ro} {d : Int} (hno : ∀ j a, j < t.length → t[j]? = some a → (a.dest == d) = false) : rlook t d = -1 := by
 have : t.findIdx? (fun x => x.dest == d) = none := by
  rw [List.findIdx?_eq_none_iff]
  intro x hx
  obtain ⟨j, hj⟩ := List.getElem?_of_mem hx
  exact hno j x (List.getElem?_eq_some_iff.1 hj).1 hj
 unfold rlook; rw [this]
theorem rlook_cases (t : List Ro) (d : Int) : (rlook t d = -1 ∧ rat t d = none) ∨ ∃ (i : Nat) (x : Ro), rlook t d = i ∧ t[i]? = some x ∧ x.dest = d ∧ rat t d = some x := by
 unfold rlook
 cases h : t.findIdx? (fun x => x.dest == d) with
 | none =>
  refine .inl ⟨rfl, List.find?_eq_none.2 fun x hx => ?_⟩
  have := List.findIdx?_eq_none_iff.1 h x hx
  simp [this]
 | some i =>
  obtain ⟨hl, hd, hno⟩ := List.findIdx?_eq_some_iff_getElem.1 h
  refine .inr ⟨i, t[i], rfl, List.getElem?_eq_getElem hl, by simpa using hd, find_first (List.getElem?_eq_getElem hl) hd fun j a hj ha => ?_⟩
  obtain ⟨hl', rfl⟩ := List.getElem?_eq_some_iff.1 ha
  simpa using hno j hj
end Nd
namespace Nd
open Go.GX Tp
def brk1 (self next : Int) (r : Ro) : Ro := if okN next = true ∧ r.nx = next ∧ r.dest ≠ lim self then ⟨r.dest, r.sq + 1, 255, 255⟩ else r
theorem rbrk_map (t : List Ro) (self next : Int) : rbrk t self next = (rtab t self).map (brk1 self next) := rfl
theorem map_part {α : Type} (f : α → α) {l : List α} {k : Nat} {x : α} (hx : l[k]? = some x) : ((l.take k).map f ++ l.drop k).set k (f x) = (l.take (k + 1)).map f ++ l.drop (k + 1) := by
 have hl : ((l.take k).map f).length = k := by
  have := (List.getElem?_eq_some_iff.1 hx).1
  simp; omega
 rw [drop_get hx, Nd.set_mid hl, take_succ_get hx]; simp
theorem map_part_same {α : Type} (f : α → α) {l : List α} {k : Nat} {x : α} (hx : l[k]? = some x) (hf : f x = x) : (l.take k).map f ++ l.drop k = (l.take (k + 1)).map f ++ l.drop (k + 1) := by
 rw [drop_get hx, take_succ_get hx]; simp [hf]
theorem map_part_get {α : Type} (f : α → α) {l : List α} {k : Nat} {x : α} (hx : l[k]? = some x) : ((l.take k).map f ++ l.drop k)[k]? = some x := by
 have hl : ((l.take k).map f).length = k := by
  have := (List.getElem?_eq_some_iff.1 hx).1
  simp; omega
 rw [drop_get hx]; exact get_mid hl
theorem map_part_len {α : Type} (f : α → α) (l : List α) (k : Nat) : ((l.take k).map f ++ l.drop k).length = l.length := by simp; omega
end Nd
namespace Go.Proofs.YtgdgclmkpoaagaaGreat
open Go.GX Go.RowKit
attribute [local irreducible] Calls Run RunL RunQ RunD HR HL HD blkC ownC Rd
open Nd
theorem fn64 : IsFn Tryz.prog 64 := ⟨⟨_, _, Tryz.func64, rfl, by decide⟩⟩
theorem fn143 : IsFn Tryz.prog 143 := ⟨⟨_, _, Tryz.func143, rfl, by decide⟩⟩
theorem fn159 : IsFn Tryz.prog 159 := ⟨⟨_, _, Tryz.func159, rfl, by decide⟩⟩
end Go.Proofs.YtgdgclmkpoaagaaGreat
namespace Go.Proofs.YtgdgclmkpoaagaaGreat
open Go.GX Go.RowKit
attribute [local irreducible] Calls Run RunL RunQ RunD HR HL HD blkC ownC Rd
open Nd
theorem r11find_any (t : List Ro) (d : Int) (v : Value) (w : World) (hv : Sl w v (cellsOf roC t) t.length) (hl : t.length ≤ 1000) :
  Calls Tryz.prog 143 #[v, .int .i64 d] w fun e w' => e = .returned (.int .i64 (rlook t d)) ∧ Below w.heap.size w w' := by
 refine calls_hr Tryz.func143 I (Nat.le_of_ble_eq_true I) ?_
 refine HR.sub (σ' := [(0, v), (1, .int .i64 d)]) ⟨I, I, trivial⟩ ?_
 repeat' (first | refine zh ?_ | apply zb ?_ ?_ | exact zc | (refine zi fun hb => ?_; try simp at hb) | intro (bk : Nat))
 refine HR.loop (ι := Nat) (fun k => k ≤ t.length ∧ ∀ j a, j < k → t[j]? = some a → (a.dest == d) = false) (fun k => [(0, v), (1, .int .i64 d), (5, .int .i64 (k : Int))]) (fun _ => []) (fun k => t.length - k) 0 ⟨Nat.zero_le _, fun j a hj => by omega⟩ ⟨I, I, I, trivial⟩ Ent.refl ?_
 rintro k ⟨hk, hg⟩ ih
 repeat' (first | refine zh ?_ | refine HL.lenR (Rd.arg hv) I I I ?_ | apply zb ?_ ?_ | exact zc | (refine zi fun hb => ?_; try simp at hb) | intro (bk : Nat))
 refine HR.cond I (fun h2 => ?_) (fun h2 => ?_)
 ·have hlt : k < t.length := by have := of_decide_eq_true h2; omega
  obtain ⟨x, hx⟩ := getSome hlt
  repeat' (first | refine zh ?_ | refine HL.idxR (Rd.arg hv) elemRo k I I I I hlt ?_ | refine HL.fieldE (Rd.arg hv) (by rw [cellsOf_len roC_len]; omega) I I I I I I ?_ | refine HL.loadI (Rd.arg hv) I I I I (cells_get roC_len hx (i := 0) I) ?_ | apply zb ?_ ?_ | exact zc | (refine zi fun hb => ?_; try simp at hb) | intro (bk : Nat))
  refine HR.cond I (fun h3 => ?_) (fun h3 => ?_)
  ·have h3 : (x.dest == d) = true := h3
   repeat' (first | refine zh ?_ | apply zb ?_ ?_ | exact zc | (refine zi fun hb => ?_; try simp at hb) | intro (bk : Nat))
   refine HR.ret Tryz.func143 I [_] (fun _ _ => ⟨I, trivial⟩) ?_
   exact fun w' hw => ⟨by rw [rlook_at hx h3 hg]; rfl, hw.belowB⟩
  ·have h3 : (x.dest == d) = false := h3
   repeat' (first | refine zh ?_ | apply zb ?_ ?_ | exact zc | (refine zi fun hb => ?_; try simp at hb) | intro (bk : Nat))
   refine ih (k + 1) _ _ ⟨hlt, fun j a hj ha => ?_⟩ (by omega) ⟨I, I, I, trivial⟩ (Ent.pick [] I I)
   by_cases hjk : j = k
   ·subst hjk; rw [hx] at ha; cases ha; exact h3
   ·exact hg j a (by omega) ha
 ·have hke : k = t.length := by have := of_decide_eq_false h2; omega
  subst hke
  repeat' (first | refine zh ?_ | apply zb ?_ ?_ | exact zc | (refine zi fun hb => ?_; try simp at hb) | intro (bk : Nat))
  refine HR.ret Tryz.func143 I [_] (fun _ _ => ⟨I, trivial⟩) ?_
  exact fun w' hw => ⟨by rw [rlook_none hg]; rfl, hw.belowB⟩
theorem rform_ref (self : Int) (x : Ro) : (((x.dest == self) && !((x.cost == 0) && (x.nx == self))) || ((x.dest != self) && ((x.cost == 0) || (x.nx == self)))) = rform self x := by
 unfold rform
 by_cases hd : x.dest = self
 ·rw [if_pos hd]; simp [hd]
 ·have e : (x.dest == self) = false := by simpa using hd
  rw [if_neg hd, e, bne, e]; rfl
theorem rrange_ref (x : Ro) : ((!usable x || (fin x && (x.nx != lim x.nx))) || (!fin x && (x.nx != 255))) = rrange x := by
 rw [ne_lim]; rfl
theorem r11check_any (t : List Ro) (self : Int) (v : Value) (w : World) (hv : Sl w v (cellsOf roC t) t.length) (hl : t.length ≤ 1000) :
  Calls Tryz.prog 64 #[v, .int .i64 self] w fun e w' => e = .returned (.int .i64 (rchk t self)) ∧ Below w.heap.size w w' := by
 refine calls_hr Tryz.func64 I (Nat.le_of_ble_eq_true I) ?_
 refine HR.sub (σ' := [(0, v), (1, .int .i64 self)]) ⟨I, I, trivial⟩ ?_
 repeat' (first | refine zh ?_ | refine HL.lenR (Rd.arg hv) I I I ?_ | apply zb ?_ ?_ | exact zc | (refine zi fun hb => ?_; try simp at hb) | intro (bk : Nat))
 refine HR.cond I (fun h => ?_) (fun h => ?_)
 ·have h : t.length > 24 := by have := of_decide_eq_true h; omega
  repeat' (first | refine zh ?_ | apply zb ?_ ?_ | exact zc | (refine zi fun hb => ?_; try simp at hb) | intro (bk : Nat))
  refine HR.ret Tryz.func64 I [_] (fun _ _ => ⟨I, trivial⟩) ?_
  exact fun w' hw => ⟨by rw [rchk, if_pos h]; rfl, hw.belowB⟩
 have h : t.length ≤ 24 := by have := of_decide_eq_false h; omega
 repeat' (first | refine zh ?_ | refine HL.callB fn140 I I (fun w _ => rrlim_any self w) ?_ | apply zb ?_ ?_ | exact zc | (refine zi fun hb => ?_; try simp at hb) | intro (bk : Nat))
 refine HR.cond I (fun h0 => ?_) (fun h0 => ?_)
 ·have h0 : (self != lim self) = true := h0
  rw [ne_lim] at h0
  have h0 : Tp.okN self = false := by simpa using h0
  repeat' (first | refine zh ?_ | apply zb ?_ ?_ | exact zc | (refine zi fun hb => ?_; try simp at hb) | intro (bk : Nat))
  refine HR.ret Tryz.func64 I [_] (fun _ _ => ⟨I, trivial⟩) ?_
  exact fun w' hw => ⟨by rw [rchk, if_neg (by omega), if_pos h0]; rfl, hw.belowB⟩
 have h0 : (self != lim self) = false := h0
 rw [ne_lim] at h0
 have h0 : Tp.okN self = true := by simpa using h0
 repeat' (first | refine zh ?_ | apply zb ?_ ?_ | exact zc | (refine zi fun hb => ?_; try simp at hb) | intro (bk : Nat))
 refine HR.loop (ι := Nat) (fun k => k ≤ t.length ∧ firstE (rbad t) k = 0) (fun k => [(0, v), (1, .int .i64 self), (5, .int .i64 (k : Int))]) (fun _ => []) (fun k => t.length - k) 0 ⟨Nat.zero_le _, rfl⟩ ⟨I, I, I, trivial⟩ Ent.refl ?_
 rintro k ⟨hk, hg⟩ ih
 repeat' (first | refine zh ?_ | refine HL.lenR (Rd.arg hv) I I I ?_ | apply zb ?_ ?_ | exact zc | (refine zi fun hb => ?_; try simp at hb) | intro (bk : Nat))
 refine HR.cond I (fun h2 => ?_) (fun h2 => ?_)
 ·have hlt : k < t.length := by have := of_decide_eq_true h2; omega
  obtain ⟨x, hx⟩ := getSome hlt
  repeat' (first | refine zh ?_ | apply zb ?_ ?_ | exact zc | (refine zi fun hb => ?_; try simp at hb) | intro (bk : Nat))
  refine HR.regionQ hmix (by kernel_rfl) ?_
  repeat' (first | refine zq ?_ | refine HQ.idxR (Rd.arg hv) elemRo k I I I I hlt ?_ | refine HQ.loadE (Rd.arg hv) I I I I (by simp) I (cellsOf_get roC_len hx) ?_ | refine HQ.fieldE (Rd.arg hv) (by rw [cellsOf_len roC_len]; omega) I I I I I I ?_ | refine HQ.loadI (Rd.arg hv) I I I I (cells_get roC_len hx (i := 3) I) ?_ | refine HQ.callB fn141 I I (fun w _ => rrusable_any _ w) ?_ | refine HQ.callB fn142 I I (fun w _ => rrfin_any _ w) ?_ | refine HQ.callB fn140 I I (fun w _ => rrlim_any _ w) ?_ | apply zb ?_ ?_ | exact zc | (refine zi fun hb => ?_; try simp at hb))
  refine HR.cond I (fun h3 => ?_) (fun h3 => ?_)
  ·have h3 : rrange x = true := by rw [← rrange_ref]; exact h3
   repeat' (first | refine zh ?_ | apply zb ?_ ?_ | exact zc | (refine zi fun hb => ?_; try simp at hb) | intro (bk : Nat))
   refine HR.ret Tryz.func64 I [_] (fun _ _ => ⟨I, trivial⟩) ?_
   refine fun w' hw => ⟨?_, hw.belowB⟩
   have e := rbad_range hx h3
   rw [rchk_first h h0 hg (by rw [e]; decide) hlt, e]; rfl
  have h3 : rrange x = false := by rw [← rrange_ref]; exact h3
  obtain ⟨y, hy⟩ := getSome (l := t) (j := k - 1) (by omega)
  repeat' (first | refine zh ?_ | apply zb ?_ ?_ | exact zc | (refine zi fun hb => ?_; try simp at hb) | intro (bk : Nat))
  refine HR.regionQ hmix (by kernel_rfl) ?_
  repeat' (first | refine zq ?_ | refine HQ.idxR (Rd.arg hv) elemRo k I I I I hlt ?_ | refine HQ.idxR (Rd.arg hv) elemRo (k - 1) I I I (by omega) (by omega) ?_ | refine HQ.fieldE (Rd.arg hv) (by rw [cellsOf_len roC_len]; omega) I I I I I I ?_ | refine HQ.loadI (Rd.arg hv) I I I I (cells_get roC_len hx (i := 0) I) ?_ | refine HQ.loadI (Rd.arg hv) I I I I (cells_get roC_len hy (i := 0) I) ?_ | apply zb ?_ ?_ | exact zc | (refine zi fun hb => ?_; try simp at hb))
  refine HR.cond I (fun h4 => ?_) (fun h4 => ?_)
  ·have h4 : (decide ((k : Int) > 0) && decide (x.dest ≤ y.dest)) = true := h4
   simp only [Bool.and_eq_true, decide_eq_true_eq] at h4
   repeat' (first | refine zh ?_ | apply zb ?_ ?_ | exact zc | (refine zi fun hb => ?_; try simp at hb) | intro (bk : Nat))
   refine HR.ret Tryz.func64 I [_] (fun _ _ => ⟨I, trivial⟩) ?_
   refine fun w' hw => ⟨?_, hw.belowB⟩
   have e := rbad_order hx h3 (by omega) hy h4.2
   rw [rchk_first h h0 hg (by rw [e]; decide) hlt, e]; rfl
  ·have h4 : (decide ((k : Int) > 0) && decide (x.dest ≤ y.dest)) = false := h4
   have hg2 : firstE (rbad t) (k + 1) = 0 := firstE_step hg (rbad_ok hx h3 fun y' h0 hy' hle => by
    rw [hy] at hy'
    cases hy'
    rw [decide_eq_true (show (k : Int) > 0 by omega), decide_eq_true hle] at h4
    cases h4)
   repeat' (first | refine zh ?_ | apply zb ?_ ?_ | exact zc | (refine zi fun hb => ?_; try simp at hb) | intro (bk : Nat))
   exact ih (k + 1) _ _ ⟨hlt, hg2⟩ (by omega) ⟨I, I, I, trivial⟩ (Ent.pick [] I I)
 have hke : k = t.length := by have := of_decide_eq_false h2; omega
 subst hke
 obtain ⟨hrr, hasc⟩ := first_asc hg
 repeat' (first | refine zh ?_ | refine HL.callB fn143 I I (fun w hw => r11find_any t self v w ((Rd.arg hv).at hw) hl) ?_ | apply zb ?_ ?_ | exact zc | (refine zi fun hb => ?_; try simp at hb) | intro (bk : Nat))
 refine HR.cond I (fun h6 => ?_) (fun h6 => ?_)
 ·have h6 : rlook t self < 0 := of_decide_eq_true h6
  have hany : (t.any fun r => r.dest == self) = false := by
   rcases rlook_cases t self with ⟨_, e⟩ | ⟨i, x, e, _⟩
   ·rw [← Bool.not_eq_true, List.any_eq_true]
    rintro ⟨r, hr, he⟩
    exact List.find?_eq_none.1 e r hr he
   ·omega
  repeat' (first | refine zh ?_ | apply zb ?_ ?_ | exact zc | (refine zi fun hb => ?_; try simp at hb) | intro (bk : Nat))
  refine HR.ret Tryz.func64 I [_] (fun _ _ => ⟨I, trivial⟩) ?_
  exact fun w' hw => ⟨by rw [rchk_8 h h0 hg hany]; rfl, hw.belowB⟩
 have h6 : ¬ rlook t self < 0 := of_decide_eq_false h6
 have hany : (t.any fun r => r.dest == self) = true := by
  rcases rlook_cases t self with ⟨e, _⟩ | ⟨i, x, _, e, he, _⟩
  ·omega
  ·exact any_of_get e he
 repeat' (first | refine zh ?_ | apply zb ?_ ?_ | exact zc | (refine zi fun hb => ?_; try simp at hb) | intro (bk : Nat))
 refine HR.loop (ι := Nat) (fun k => k ≤ t.length ∧ (t.take k).any (rform self) = false) (fun k => [(0, v), (1, .int .i64 self), (6, .int .i64 (k : Int))]) (fun _ => []) (fun k => t.length - k) 0 ⟨Nat.zero_le _, rfl⟩ ⟨I, I, I, trivial⟩ Ent.refl ?_
 rintro k ⟨hk, hf⟩ ih
 repeat' (first | refine zh ?_ | refine HL.lenR (Rd.arg hv) I I I ?_ | apply zb ?_ ?_ | exact zc | (refine zi fun hb => ?_; try simp at hb) | intro (bk : Nat))
 refine HR.cond I (fun h2 => ?_) (fun h2 => ?_)
 ·have hlt : k < t.length := by have := of_decide_eq_true h2; omega
  obtain ⟨x, hx⟩ := getSome hlt
  repeat' (first | refine zh ?_ | refine HL.idxR (Rd.arg hv) elemRo k I I I I hlt ?_ | refine HL.fieldE (Rd.arg hv) (by rw [cellsOf_len roC_len]; omega) I I I I I I ?_ | refine HL.loadI (Rd.arg hv) I I I I (cells_get roC_len hx (i := 0) I) ?_ | refine HL.loadI (Rd.arg hv) I I I I (cells_get roC_len hx (i := 2) I) ?_ | refine HL.loadI (Rd.arg hv) I I I I (cells_get roC_len hx (i := 3) I) ?_ | apply zb ?_ ?_ | exact zc | (refine zi fun hb => ?_; try simp at hb) | intro (bk : Nat))
  refine HR.cond I (fun h3 => ?_) (fun h3 => ?_)
  ·have h3 : rform self x = true := by rw [← rform_ref]; exact h3
   repeat' (first | refine zh ?_ | apply zb ?_ ?_ | exact zc | (refine zi fun hb => ?_; try simp at hb) | intro (bk : Nat))
   refine HR.ret Tryz.func64 I [_] (fun _ _ => ⟨I, trivial⟩) ?_
   exact fun w' hw => ⟨by rw [rchk_4 h h0 hg hany (any_at hx h3)]; rfl, hw.belowB⟩
  ·have h3 : rform self x = false := by rw [← rform_ref]; exact h3
   repeat' (first | refine zh ?_ | apply zb ?_ ?_ | exact zc | (refine zi fun hb => ?_; try simp at hb) | intro (bk : Nat))
   exact ih (k + 1) _ _ ⟨hlt, any_take hx hf h3⟩ (by omega) ⟨I, I, I, trivial⟩ (Ent.pick [] I I)
 ·have hke : k = t.length := by have := of_decide_eq_false h2; omega
  subst hke
  rw [List.take_length] at hf
  repeat' (first | refine zh ?_ | apply zb ?_ ?_ | exact zc | (refine zi fun hb => ?_; try simp at hb) | intro (bk : Nat))
  refine HR.ret Tryz.func64 I [_] (fun _ _ => ⟨I, trivial⟩) ?_
  exact fun w' hw => ⟨by rw [rchk_0 h h0 hg hany hf]; rfl, hw.belowB⟩
theorem r11table_any (t : List Ro) (self : Int) (v : Value) (w : World) (hv : Sl w v (cellsOf roC t) t.length) (hl : t.length ≤ 1000) :
  Calls Tryz.prog 159 #[v, .int .i64 self] w fun e w' => ∃ v', e = .returned v' ∧ Sat (base w) [ownC v' 79 4 (rtab t self).length (cellsOf roC (rtab t self))] w' := by
 refine calls_hr Tryz.func159 I (Nat.le_of_ble_eq_true I) ?_
 refine HR.sub (σ' := [(0, v), (1, .int .i64 self)]) ⟨I, I, trivial⟩ ?_
 repeat' (first | refine zh ?_ | refine HL.callB fn140 I I (fun w _ => rrlim_any self w) ?_ | refine HL.callB fn64 I I (fun w hw => r11check_any t (lim self) v w ((Rd.arg hv).at hw) hl) ?_ | apply zb ?_ ?_ | exact zc | (refine zi fun hb => ?_; try simp at hb) | intro (bk : Nat))
 refine HR.cond I (fun h => ?_) (fun h => ?_)
 ·have h : ¬ rchk t (lim self) = 0 := by simpa using h
  repeat' (first | refine zh ?_ | refine HL.callO fn65 I I (fun w _ => rrnew_any self w) ?_ | intro (bk : Nat))
  intro v1
  repeat' (first | refine zh ?_ | intro (bk : Nat))
  refine HR.ret Tryz.func159 I [_] (fun _ _ => ⟨I, trivial⟩) ?_
  refine fun w' hw => ⟨v1, rfl, ?_⟩
  have : rtab t self = rnew self := by unfold rtab; rw [if_neg h]
  rw [this]; exact hw
 ·have h : rchk t (lim self) = 0 := by simpa using h
  have hr : rtab t self = t := by unfold rtab; rw [if_pos h]
  repeat' (first | refine zh ?_ | refine HL.bslice0 elemRo I ?_ | apply zb ?_ ?_ | exact zc | (refine zi fun hb => ?_; try simp at hb) | intro (bk : Nat))
  intro v1
  repeat' (first | refine zh ?_ | refine HL.appR 0 I elemRo (Rd.arg hv) I I I (cellsOf_len roC_len _) (one_allcells roC_one _) (by omega) (by omega) ?_ | apply zb ?_ ?_ | exact zc | (refine zi fun hb => ?_; try simp at hb) | intro (bk : Nat))
  intro v2
  repeat' (first | refine zh ?_ | apply zb ?_ ?_ | exact zc | (refine zi fun hb => ?_; try simp at hb) | intro (bk : Nat))
  refine HR.ret Tryz.func159 I [_] (fun _ _ => ⟨I, trivial⟩) ?_
  refine fun w' hw => ⟨v2, rfl, Ent.own0 ?_ ?_ w' hw⟩
  ·rw [hr]; omega
  ·rw [hr]; rfl
end Go.Proofs.YtgdgclmkpoaagaaGreat
namespace Go.GX
open Go.RowKit
section
variable {P : Program} {ops : Array Oper} {Q : Exit → Act → World → Prop} {md : Region.Mode} {S : World → Prop} {z : Nat}
def waitsAll (md : Region.Mode) (ops : Array Oper) (z : Nat) : Bool := match ops[z]? with
 | some o => (List.range ops.size).all fun i => Nat.beq i z || o.after.any fun e => Region.binds md e && Nat.beq e.on i
 | none => false
theorem waitsAll_spec (h : waitsAll md ops z = true) {oz : Oper} (ho : ops[z]? = some oz) {i : Nat} (hi : i < ops.size) (hne : i ≠ z) : ∃ e ∈ oz.after, Region.binds md e = true ∧ e.on = i := by
 unfold waitsAll at h
 rw [ho] at h
 have h1 := List.all_eq_true.1 h i (List.mem_range.2 hi)
 have h2 : Nat.beq i z = false := by
  rw [← Bool.not_eq_true]; intro hb; exact hne (Nat.eq_of_beq_eq_true hb)
 rw [h2, Bool.false_or] at h1
 obtain ⟨j, hj, h3⟩ := Array.any_eq_true.1 h1
 simp only [Bool.and_eq_true] at h3
 exact ⟨_, Array.getElem_mem hj, h3.1, Nat.eq_of_beq_eq_true h3.2⟩
theorem wpAnyZ_first (hz : waitsAll md ops z = true) {i : Nat} {oi : Oper} {v : Value} (hi : ops[i]? = some oi) (hsel : ∀ (j : Nat) (o : Oper) cs b, ops[j]? = some o → o.op ≠ .select cs b)
  (hQ : ∀ c a w, Q (.panic c) (a.put oi.dst v) w → Q (.panic c) a w) :
  ∀ (fuel : Nat) (listed : Array Bool) (a : Act) (w : World),
   (∀ j oj, ops[j]? = some oj → j ≠ i → listed.getD j true = false → (∀ e ∈ oj.after, Region.binds md e = true → e.on ≠ i) → oi.apart ops oj = true) →
   i ∈ Region.ready md ops listed → YieldsIf P ops S oi v a → S w →
   wpAnyZ P md ops Q S z fuel (listed.setIfInBounds i true) (a.put oi.dst v) w → wpAnyZ P md ops Q S z (fuel + 1) listed a w := by
 intro fuel
 induction fuel with
 | zero =>
  intro listed a w _ hr hy hS H
  refine ⟨fun h => (by rw [h] at hr; cases hr), fun j hj => ?_⟩
  by_cases hji : j = i
  ·subst hji; exact hy.wpOp hi hS ⟨.inr hS, H⟩
  ·have := ready_mono hj hji
   rw [H.1] at this
   cases this
 | succ fuel ih =>
  intro listed a w hfree hr hy hS H
  refine ⟨fun h => (by rw [h] at hr; cases hr), fun j hj => ?_⟩
  by_cases hji : j = i
  ·subst hji; exact hy.wpOp hi hS ⟨.inr hS, H⟩
  ·have h1 := H.2 j (ready_mono hj hji)
   obtain ⟨hjun, oj, hoj, hall⟩ := mem_ready.1 hj
   have hnot : ∀ e ∈ oj.after, Region.binds md e = true → e.on ≠ i := fun e he hb heq => by
    have h1 := hall e he hb
    have h0 := (mem_ready.1 hr).1
    rw [heq] at h1
    rcases Nat.lt_or_ge i listed.size with h' | h'
    ·simp [h'] at h0 h1; rw [h0] at h1; cases h1
    ·simp [Array.getElem?_eq_none h'] at h1
   have hjz : j ≠ z := by
    intro e
    subst e
    obtain ⟨e, he, hb, hon⟩ := waitsAll_spec hz hoj (Array.getElem?_eq_some_iff.1 hi).1 (Ne.symm hji)
    exact hnot e he hb hon
   have h2 := wpOp_putIf hoj (hfree j oj hoj hji hjun hnot) (fun cs b => hsel i oi cs b hi) (fun cs b => hsel j oj cs b hoj) hQ hy h1
   have hfree' : ∀ k ok, ops[k]? = some ok → k ≠ i → (listed.setIfInBounds j true).getD k true = false →
     (∀ e ∈ ok.after, Region.binds md e = true → e.on ≠ i) → oi.apart ops ok = true := fun k ok hk hki hun hno => by
    refine hfree k ok hk hki ?_ hno
    by_cases hjk : j = k
    ·subst hjk; exact hjun
    ·rw [getD_set_ne true hjk] at hun; exact hun
   refine wpOp_mono (fun a' w' h3 => ?_) h2
   have hS' : S w' := h3.2.1.resolve_left hjz
   refine ⟨.inr hS', ih (listed.setIfInBounds j true) a' w' hfree' (ready_mono hr (Ne.symm hji)) h3.1 hS' ?_⟩
   rw [Array.setIfInBounds_comm _ _ hji]
   exact h3.2.2
end
def allTrue : List (Nat × Bool) → Bool
 | [] => true
 | (_, true) :: p => allTrue p
 | (_, false) :: _ => false
def planOkZ (ops : Array Oper) (p : List (Nat × Bool)) (z : Nat) : Bool := Region.noSelect ops && Nat.beq (p.length + 1) ops.size && allTrue p && waitsAll .any ops z && planB ops (p ++ [(z, false)]) (Array.replicate ops.size false)
section
variable {P : Program} {f : FuncId} {N : Nat} {k : List Item} {σ : Store} {B : Base} {H F : List Chunk} {R : Ending → World → Prop} {ops l : List Oper} {o : Oper} {K : Act → World → Prop} {S : World → Prop} {z : Nat}
theorem wpAnyZ_of_plan {ops : Array Oper} {K : Act → World → Prop} (hn : Region.noSelect ops = true) (hz : waitsAll .any ops z = true) : ∀ (p : List (Nat × Bool)) (listed : Array Bool) (a : Act) (w : World), S w → allTrue p = true →
  planB ops (p ++ [(z, false)]) listed = true → wpPlan P ops S (fun a w => wpOp P ops (QN K) z K a w) p a w → wpAnyZ P .any ops (QN K) S z (p.length + 1) listed a w
 | [], listed, a, w, hS, _, hB, h => by
  simp only [List.nil_append, planB, Bool.and_eq_true, decide_eq_true_eq] at hB
  refine ⟨fun h0 => absurd (hB.1.symm.trans h0) (by simp), fun j hj => ?_⟩
  rw [hB.1] at hj
  have : j = z := by simpa using hj
  subst this
  exact wpOp_mono (fun a' w' h' => ⟨.inl rfl, by simpa using hB.2, rfl, h'⟩) h
 | (i, true) :: p, listed, a, w, hS, hA, hB, h => by
  obtain ⟨o, v, ho, hy, h⟩ := h
  simp only [List.cons_append, planB, Bool.and_eq_true] at hB
  have hf := Region.free_spec ho hB.1.2
  exact wpAnyZ_first hz ho (Region.noSelect_spec hn) (fun c a w h => absurd h.1 (by nofun)) _ listed a w hf (by simpa using hB.1.1) hy hS (wpAnyZ_of_plan hn hz p _ _ _ hS hA hB.2 h)
 | (i, false) :: p, listed, a, w, hS, hA, hB, h => by cases hA
theorem HR.regionZ (p : List (Nat × Bool)) (z : Nat) (is : List Nat) (hF : pickC H is = some F) (hd : distinctN is = true) {id : Nat} (hm : P.follows .mixedOrders = true) (hB : planOkZ ops.toArray p z = true)
  (h : HD P N ops p σ B H F (KZ P ops z (CRun P f k R))) : HR P f N (.code (.region id ops.toArray true) :: k) σ B H R := by
 intro w hw a ha
 simp only [planOkZ, Bool.and_eq_true] at hB
 obtain ⟨⟨⟨⟨h1, h2⟩, h3⟩, h4⟩, h5⟩ := hB
 have hb : Below w.heap.size w { w with drawn := w.drawn + 1 } := ⟨rfl, rfl, rfl, Nat.le_refl _, fun _ _ => rfl⟩
 have hw1 : Sat B H { w with drawn := w.drawn + 1 } := hw.grow hb
 refine CRun.of_wp (wp_region_any hm (wpAny_of_Z (S := fun w => Sat B F w) (z := z) _ _ _ _ ?_))
 rw [show ops.toArray.size = p.length + 1 from (Nat.eq_of_beq_eq_true h2).symm]
 rw [show ops.toArray.size = p.length + 1 from (Nat.eq_of_beq_eq_true h2).symm] at h5
 exact wpAnyZ_of_plan h1 h4 p _ _ _ (hw1.pick is hF hd) h3 h5 (h _ hw1 (hw1.pick is hF hd) a ha)
theorem HD.fieldE {d i : Nat} {p : List (Nat × Bool)} {ty : TypeId} {pos : String} {af : Array Edge} {gd : Option (Nat × Bool)} {v : Value} {s : TypeId} {x : Operand} {fl : List Field} {fi j n : Nat} {fd : Field} {ti : TypeInfo} {cs : List Value} (hv : Rd B F v cs n) (hj : j < cs.length) (ho : ops[i]? = some ⟨some d, .fieldAddr s x fi, ty, pos, af, gd⟩) (hs : stat N ops ⟨some d, .fieldAddr s x fi, ty, pos, af, gd⟩ σ = true) (hT : P.underlying s = some (.struct ⟨fl⟩)) (hf : nthF fl fi = some fd) (hti : P.info? fd.type = some ti) (hz : Nat.ble 1 ti.size = true) (hx : lookO σ x = some (elemPtr v j))
  (h : HD P N ops p ((d, elemPtr v (j + fd.offset)) :: σ) B H F K) : HD P N ops ((i, true) :: p) σ B H F K := HD.rd ho hs (hx_fieldE hv hj hT hf hti hz hx) h
end
end Go.GX
namespace Go.Proofs.YtgdgclmkpoaagaaGreat
open Go.GX Go.RowKit
attribute [local irreducible] Calls Run RunL RunQ RunD HR HL HD blkC ownC Rd
open Nd
theorem fn151 : IsFn Tryz.prog 151 := ⟨⟨_, _, Tryz.func151, rfl, by decide⟩⟩
theorem fn84 : IsFn Tryz.prog 84 := ⟨⟨_, _, Tryz.func84, rfl, by decide⟩⟩
theorem rbrk_any (t : List Ro) (self next : Int) (v : Value) (w : World) (hv : Sl w v (cellsOf roC t) t.length) (hl : t.length ≤ 1000) :
  Calls Tryz.prog 151 #[v, .int .i64 self, .int .i64 next] w fun e w' => ∃ v', e = .returned v' ∧ Sat (base w) [ownC v' 79 4 (rbrk t self next).length (cellsOf roC (rbrk t self next))] w' := by
 have ht := rtab_tab t self
 have h24 := ht.len
 rw [rbrk_map]
 refine calls_hr Tryz.func151 I (Nat.le_of_ble_eq_true I) ?_
 refine HR.sub (σ' := [(0, v), (1, .int .i64 self), (2, .int .i64 next)]) ⟨I, I, I, trivial⟩ ?_
 repeat' (first | refine zh ?_ | refine HL.callB fn147 I I (fun w _ => rlim_any self w) ?_ | intro (bk : Nat))
 repeat' (first | refine zh ?_ | refine HL.callO fn176 I I (fun w hw => sane_any t self v w ((Rd.arg hv).at hw) hl) ?_ | intro (bk : Nat))
 intro v1
 have hrng := ht.rng
 obtain ⟨T, hT⟩ : ∃ T, T = rtab t self := ⟨_, rfl⟩
 rw [← hT] at h24 hrng ⊢
 repeat' (first | refine zh ?_ | refine HL.callB fn103 I I (fun w _ => rtnode_any next w) ?_ | intro (bk : Nat))
 refine HR.cond I (fun h0 => ?_) (fun h0 => ?_)
 ·have h0 : Tp.okN next = false := by simpa using h0
  repeat' (first | refine zh ?_ | intro (bk : Nat))
  refine HR.ret Tryz.func151 I [_] (fun _ _ => ⟨I, trivial⟩) ?_
  refine fun w' hw => ⟨v1, rfl, ?_⟩
  rw [show T.map (brk1 self next) = T from (List.map_congr_left fun a _ => by unfold brk1; rw [if_neg (by rw [h0]; simp)]; rfl).trans (List.map_id T)]
  exact hw
 have h0 : Tp.okN next = true := by simpa using h0
 repeat' (first | refine zh ?_ | refine HL.lenR (Rd.own 0 I) I I I ?_ | intro (bk : Nat))
 refine HR.loop (ι := Nat) (fun k => k ≤ T.length) (fun k => [(0, v1), (1, .int .i64 (lim self)), (2, .int .i64 next), (18, v1), (19, .int .i64 (T.length : Int)), (20, .int .i64 (k : Int))]) (fun k => [ownC v1 79 4 T.length (cellsOf roC ((T.take k).map (brk1 self next) ++ T.drop k))]) (fun k => T.length - k) 0 (Nat.zero_le _) ⟨I, I, I, I, I, I, trivial⟩ Ent.refl ?_
 intro k hk ih
 have hml := map_part_len (brk1 self next) T k
 repeat' (first | refine zh ?_ | intro (bk : Nat))
 refine HR.cond I (fun h2 => ?_) (fun h2 => ?_)
 ·have hlt : k < T.length := by have := of_decide_eq_true h2; omega
  obtain ⟨x, hx⟩ := getSome hlt
  have hmg := map_part_get (brk1 self next) hx
  have hms := map_part (brk1 self next) hx
  have hxo := rrange_ok (hrng x (List.mem_of_getElem? hx))
  repeat' (first | refine zh ?_ | refine HL.idxR (Rd.own 0 I) elemRo k I I I I hlt ?_ | refine HL.loadE (Rd.own 0 I) I I I I (by simp) I (cellsOf_get roC_len hmg) ?_ | intro (bk : Nat))
  repeat' (first | refine zh ?_ | apply zb ?_ ?_ | exact zc | (refine zi fun hb => ?_; try simp at hb) | intro (bk : Nat))
  refine HR.cond I (fun h3 => ?_) (fun h3 => ?_)
  ·have h3 : ((x.nx == next) && (x.dest != lim self)) = true := h3
   simp only [Bool.and_eq_true, beq_iff_eq, bne_iff_ne, ne_eq] at h3
   have hb : brk1 self next x = ⟨x.dest, x.sq + 1, 255, 255⟩ := by unfold brk1; rw [if_pos ⟨h0, h3.1, h3.2⟩]
   rw [hb] at hms
   repeat' (first | refine zh ?_ | refine HL.idxR (Rd.own 1 I) elemRo k I I I I hlt ?_ | refine HL.storeEs (us := roC ⟨x.dest, x.sq + 1, 255, 255⟩) (j := k * 4) 1 I I I I I I I (by rw [cellsOf_len roC_len, hml]; show k * 4 + 4 ≤ _; omega) (by simp) ?_ | apply zb ?_ ?_ | exact zc | (refine zi fun hb => ?_; try simp at hb) | intro (bk : Nat))
   refine ih (k + 1) _ _ hlt (by omega) ⟨I, I, I, I, I, I, trivial⟩ (Ent.trans (Ent.pick (H' := [ownC v1 79 4 T.length _]) [1] I I) (Ent.own0 I ?_))
   rw [← hms]
   exact cells_set (i := 0) roC_len hmg I (show 0 + 4 ≤ 4 by decide)
  ·have h3 : ((x.nx == next) && (x.dest != lim self)) = false := h3
   have hb : brk1 self next x = x := by
    unfold brk1
    rw [if_neg]
    rintro ⟨_, e1, e2⟩
    rw [show (x.nx == next) = true by simpa using e1, show (x.dest != lim self) = true by simpa using e2] at h3
    cases h3
   repeat' (first | refine zh ?_ | apply zb ?_ ?_ | exact zc | (refine zi fun hb => ?_; try simp at hb) | intro (bk : Nat))
   refine ih (k + 1) _ _ hlt (by omega) ⟨I, I, I, I, I, I, trivial⟩ (Ent.trans (Ent.pick [1] I I) (Ent.own0 I ?_))
   rw [map_part_same _ hx hb]
 ·have hke : k = T.length := by have := of_decide_eq_false h2; omega
  subst hke
  rw [List.take_length, List.drop_length, List.append_nil]
  repeat' (first | refine zh ?_ | intro (bk : Nat))
  refine HR.ret Tryz.func151 I [_] (fun _ _ => ⟨I, trivial⟩) ?_
  exact fun w' hw => ⟨v1, rfl, Ent.own0 (by simp) I w' hw⟩
theorem r11brk_any (t : List Ro) (self next : Int) (v : Value) (w : World) (hv : Sl w v (cellsOf roC t) t.length) (hl : t.length ≤ 1000) :
  Calls Tryz.prog 84 #[v, .int .i64 self, .int .i64 next] w fun e w' => ∃ v', e = .returned v' ∧ Sat (base w) [ownC v' 79 4 (rbrk t self next).length (cellsOf roC (rbrk t self next))] w' := by
 have ht := rtab_tab t self
 have h24 := ht.len
 rw [rbrk_map]
 refine calls_hr Tryz.func84 I (Nat.le_of_ble_eq_true I) ?_
 refine HR.sub (σ' := [(0, v), (1, .int .i64 self), (2, .int .i64 next)]) ⟨I, I, I, trivial⟩ ?_
 repeat' (first | refine zh ?_ | refine HL.callO fn159 I I (fun w hw => r11table_any t self v w ((Rd.arg hv).at hw) hl) ?_ | intro (bk : Nat))
 intro v1
 have hrng := ht.rng
 obtain ⟨T, hT⟩ : ∃ T, T = rtab t self := ⟨_, rfl⟩
 rw [← hT] at h24 hrng ⊢
 repeat' (first | refine zh ?_ | intro (bk : Nat))
 refine HR.loop (ι := Nat) (fun k => k ≤ T.length) (fun k => [(1, .int .i64 self), (2, .int .i64 next), (7, v1), (8, .int .i64 (k : Int))]) (fun k => [ownC v1 79 4 T.length (cellsOf roC ((T.take k).map (brk1 self next) ++ T.drop k))]) (fun k => T.length - k) 0 (Nat.zero_le _) ⟨I, I, I, I, trivial⟩ Ent.refl ?_
 intro k hk ih
 have hml := map_part_len (brk1 self next) T k
 repeat' (first | refine zh ?_ | refine HL.lenR (Rd.own 0 I) I I I ?_ | intro (bk : Nat))
 refine HR.cond I (fun h2 => ?_) (fun h2 => ?_)
 ·have hlt : k < T.length := by have := of_decide_eq_true h2; omega
  obtain ⟨x, hx⟩ := getSome hlt
  have hmg := map_part_get (brk1 self next) hx
  have hms := map_part (brk1 self next) hx
  have hxo := rrange_ok (hrng x (List.mem_of_getElem? hx))
  repeat' (first | refine zh ?_ | apply zb ?_ ?_ | exact zc | (refine zi fun hb => ?_; try simp at hb) | intro (bk : Nat))
  refine HR.regionQ hmix (by kernel_rfl) ?_
  repeat' (first | refine zq ?_ | refine HQ.callB fn140 I I (fun w _ => rrlim_any _ w) ?_ | refine HQ.idxR (Rd.own 0 I) elemRo k I I I I hlt ?_ | refine HQ.fieldE (Rd.own 0 I) (by rw [cellsOf_len roC_len, hml]; omega) I I I I I I ?_ | refine HQ.loadI (Rd.own 0 I) I I I I (cells_get roC_len hmg (i := 3) I) ?_ | refine HQ.loadI (Rd.own 0 I) I I I I (cells_get roC_len hmg (i := 0) I) ?_ | apply zb ?_ ?_ | exact zc | (refine zi fun hb => ?_; try simp at hb))
  refine HR.cond I (fun h3 => ?_) (fun h3 => ?_)
  ·have h3 : (((next == lim next) && (x.nx == next)) && (x.dest != lim self)) = true := h3
   rw [eq_lim] at h3
   simp only [Bool.and_eq_true, beq_iff_eq, bne_iff_ne, ne_eq] at h3
   have hb : brk1 self next x = ⟨x.dest, x.sq + 1, 255, 255⟩ := by unfold brk1; rw [if_pos ⟨h3.1.1, h3.1.2, h3.2⟩]
   rw [hb] at hms
   repeat' (first | refine zh ?_ | intro (bk : Nat))
   refine HR.regionZ [(0, true), (1, true), (2, true), (3, true), (4, true), (5, true), (6, true), (7, true), (8, true), (9, true), (10, true), (11, true), (12, true), (13, true), (14, true)] 15 [0] I I hmix (by kernel_rfl) ?_
   repeat' (first | refine zd ?_ | refine HD.idxR (Rd.own 0 I) elemRo k I I I I I hlt ?_ | refine HD.fieldE (Rd.own 0 I) (by rw [cellsOf_len roC_len, hml]; omega) I I I I I I I ?_ | refine HD.loadI (Rd.own 0 I) I I I I I (cells_get roC_len hmg (i := 0) I) ?_ | refine HD.loadI (Rd.own 0 I) I I I I I (cells_get roC_len hmg (i := 1) I) ?_)
   refine HD.last I ?_
   repeat' (first | refine zn ?_ | refine HL.storeEs (us := roC ⟨x.dest, x.sq + 1, 255, 255⟩) (j := k * 4) 0 I I I I I I I (by rw [cellsOf_len roC_len, hml]; show k * 4 + 4 ≤ _; omega) (by simp) ?_ | apply zb ?_ ?_ | exact zc | (refine zi fun hb => ?_; try simp at hb) | intro (bk : Nat))
   repeat' (first | refine zh ?_ | apply zb ?_ ?_ | exact zc | (refine zi fun hb => ?_; try simp at hb) | intro (bk : Nat))
   refine ih (k + 1) _ _ hlt (by omega) ⟨I, I, I, I, trivial⟩ (Ent.own0 I ?_)
   rw [← hms]
   exact cells_set (i := 0) roC_len hmg I (show 0 + 4 ≤ 4 by decide)
  ·have h3 : (((next == lim next) && (x.nx == next)) && (x.dest != lim self)) = false := h3
   rw [eq_lim] at h3
   have hb : brk1 self next x = x := by
    unfold brk1
    rw [if_neg]
    rintro ⟨e0, e1, e2⟩
    rw [e0, show (x.nx == next) = true by simpa using e1, show (x.dest != lim self) = true by simpa using e2] at h3
    cases h3
   repeat' (first | refine zh ?_ | apply zb ?_ ?_ | exact zc | (refine zi fun hb => ?_; try simp at hb) | intro (bk : Nat))
   refine ih (k + 1) _ _ hlt (by omega) ⟨I, I, I, I, trivial⟩ (Ent.own0 I ?_)
   rw [map_part_same _ hx hb]
 ·have hke : k = T.length := by have := of_decide_eq_false h2; omega
  subst hke
  rw [List.take_length, List.drop_length, List.append_nil]
  repeat' (first | refine zh ?_ | intro (bk : Nat))
  refine HR.ret Tryz.func84 I [_] (fun _ _ => ⟨I, trivial⟩) ?_
  exact fun w' hw => ⟨v1, rfl, Ent.own0 (by simp) I w' hw⟩
end Go.Proofs.YtgdgclmkpoaagaaGreat
namespace Go.Proofs.YtgdgclmkpoaagaaGreat
open Go.GX Go.RowKit
attribute [local irreducible] Calls Run RunL RunQ RunD HR HL HD blkC ownC Rd
open Nd
theorem fn155 : IsFn Tryz.prog 155 := ⟨⟨_, _, Tryz.func155, rfl, by decide⟩⟩
end Go.Proofs.YtgdgclmkpoaagaaGreat
namespace Go.Proofs.YtgdgclmkpoaagaaGreat
open Go.GX Go.RowKit
attribute [local irreducible] Calls Run RunL RunQ RunD HR HL HD blkC ownC Rd
open Nd
theorem fn156 : IsFn Tryz.prog 156 := ⟨⟨_, _, Tryz.func156, rfl, by decide⟩⟩
theorem r16first_any (l : List Sn) (v : Value) (w : World) (hv : Sl w v (cellsOf snC l) l.length) (hl : l.length ≤ 1000) :
  Calls Tryz.prog 155 #[v] w fun e w' => ∃ v', e = .returned v' ∧ Sat (base w) [ownC v' 48 11 (l.take 16).length (cellsOf snC (l.take 16))] w' := by
 refine calls_hr Tryz.func155 I (Nat.le_of_ble_eq_true I) ?_
 refine HR.sub (σ' := [(0, v)]) ⟨I, trivial⟩ ?_
 repeat' (first | refine zh ?_ | intro (bk : Nat))
 refine HR.nilC 48 11 ?_
 refine HR.loop2 (α := Nat) (β := Value) (fun k o => k ≤ l.length ∧ k ≤ 16) (fun k o => [(0, v), (3, o), (4, .int .i64 (k : Int))]) (fun k o => [ownC o 48 11 (l.take k).length (cellsOf snC (l.take k))]) (fun k _ => l.length - k) 0 (.slice none 0 0) ⟨Nat.zero_le _, by omega⟩ ⟨I, I, I, trivial⟩ Ent.refl ?_
 rintro k o ⟨hk, hk16⟩ ih
 have htl : (l.take k).length = k := by simp; omega
 repeat' (first | refine zh ?_ | refine HL.lenR (Rd.arg hv) I I I ?_ | apply zb ?_ ?_ | exact zc | (refine zi fun hb => ?_; try simp at hb) | intro (bk : Nat))
 refine HR.cond I (fun h2 => ?_) (fun h2 => ?_)
 ·have h2 : (decide ((k : Int) < l.length) && decide ((k : Int) < 16)) = true := h2
  simp only [Bool.and_eq_true, decide_eq_true_eq] at h2
  have hlt : k < l.length := by omega
  obtain ⟨x, hx⟩ := getSome hlt
  repeat' (first | refine zh ?_ | refine HL.idxR (Rd.arg hv) elemSn k I I I I hlt ?_ | refine HL.loadE (Rd.arg hv) I I I I (by simp) I (cellsOf_get snC_len hx) ?_ | refine HL.bslice elemSn I I I I I (by decide) (by decide) ?_ | intro (bk : Nat))
  intro va
  repeat' (first | refine zh ?_ | refine HL.appR 1 I elemSn (Rd.own 0 I) I I I I (allOne_spec I) (by omega) (by omega) ?_ | intro (bk : Nat))
  intro o2
  repeat' (first | refine zh ?_ | intro (bk : Nat))
  refine ih (k + 1) o2 _ _ ⟨hlt, by omega⟩ (by omega) ⟨I, I, I, trivial⟩ (Ent.trans (Ent.pick [1] I I) (Ent.own0 ?_ ?_))
  ·rw [take_succ_get hx]; simp
  ·rw [take_succ_get hx, cellsOf_app]; rfl
 ·have h2 : (decide ((k : Int) < l.length) && decide ((k : Int) < 16)) = false := h2
  have e : l.take k = l.take 16 := by
   by_cases h3 : k < l.length
   ·rw [decide_eq_true (show (k : Int) < l.length by omega), Bool.true_and, decide_eq_false_iff_not] at h2
    rw [show k = 16 by omega]
   ·rw [List.take_of_length_le (by omega), List.take_of_length_le (by omega)]
  rw [e]
  repeat' (first | refine zh ?_ | intro (bk : Nat))
  refine HR.ret Tryz.func155 I [_] (fun _ _ => ⟨I, trivial⟩) ?_
  exact fun w' hw => ⟨o, rfl, hw⟩
theorem r16without_any (l : List Sn) (i : Nat) (v : Value) (w : World) (hv : Sl w v (cellsOf snC l) l.length) (hl : l.length ≤ 1000) (hi : i < l.length) :
  Calls Tryz.prog 156 #[v, .int .i64 (i : Int)] w fun e w' => ∃ v', e = .returned v' ∧ Sat (base w) [ownC v' 48 11 (l.eraseIdx i).length (cellsOf snC (l.eraseIdx i))] w' := by
 have hstep : ∀ {k : Nat} {x : Sn}, l[k]? = some x → (l.take (k + 1)).eraseIdx i = if k = i then (l.take k).eraseIdx i else (l.take k).eraseIdx i ++ [x] := by
  intro k x hx
  have hkl := (List.getElem?_eq_some_iff.1 hx).1
  have htl : (l.take k).length = k := by simp; omega
  rw [take_succ_get hx]
  split
  ·rename_i h
   subst h
   rw [List.eraseIdx_append_of_length_le (by omega), htl, Nat.sub_self, List.eraseIdx_of_length_le (l := l.take k) (by omega)]; simp
  ·rename_i h
   by_cases h3 : i < k
   ·rw [List.eraseIdx_append_of_lt_length (by omega)]
   ·rw [List.eraseIdx_append_of_length_le (by omega), htl, List.eraseIdx_of_length_le (l := [x]) (by simp; omega), List.eraseIdx_of_length_le (l := l.take k) (by omega)]
 refine calls_hr Tryz.func156 I (Nat.le_of_ble_eq_true I) ?_
 refine HR.sub (σ' := [(0, v), (1, .int .i64 (i : Int))]) ⟨I, I, trivial⟩ ?_
 repeat' (first | refine zh ?_ | intro (bk : Nat))
 refine HR.nilC 48 11 ?_
 refine HR.loop2 (α := Nat) (β := Value) (fun k o => k ≤ l.length) (fun k o => [(0, v), (1, .int .i64 (i : Int)), (5, o), (6, .int .i64 (k : Int))]) (fun k o => [ownC o 48 11 ((l.take k).eraseIdx i).length (cellsOf snC ((l.take k).eraseIdx i))]) (fun k _ => l.length - k) 0 (.slice none 0 0) (Nat.zero_le _) ⟨I, I, I, I, trivial⟩ (by rw [List.take_zero, List.eraseIdx_nil]; exact Ent.refl) ?_
 rintro k o hk ih
 have htl : ((l.take k).eraseIdx i).length ≤ k := Nat.le_trans (List.length_eraseIdx_le _ _) (by simp; omega)
 repeat' (first | refine zh ?_ | refine HL.lenR (Rd.arg hv) I I I ?_ | intro (bk : Nat))
 refine HR.cond I (fun h2 => ?_) (fun h2 => ?_)
 ·have hlt : k < l.length := by have := of_decide_eq_true h2; omega
  obtain ⟨x, hx⟩ := getSome hlt
  have hst := hstep hx
  repeat' (first | refine zh ?_ | intro (bk : Nat))
  refine HR.cond I (fun h3 => ?_) (fun h3 => ?_)
  ·have h3 : ¬ k = i := by have h3 : ((k : Int) != (i : Int)) = true := h3; simp at h3; omega
   rw [if_neg h3] at hst
   repeat' (first | refine zh ?_ | refine HL.idxR (Rd.arg hv) elemSn k I I I I hlt ?_ | refine HL.loadE (Rd.arg hv) I I I I (by simp) I (cellsOf_get snC_len hx) ?_ | refine HL.bslice elemSn I I I I I (by decide) (by decide) ?_ | intro (bk : Nat))
   intro va
   repeat' (first | refine zh ?_ | refine HL.appR 1 I elemSn (Rd.own 0 I) I I I I (allOne_spec I) (by omega) (by omega) ?_ | intro (bk : Nat))
   intro o2
   repeat' (first | refine zh ?_ | intro (bk : Nat))
   refine ih (k + 1) o2 _ _ hlt (by omega) ⟨I, I, I, I, trivial⟩ (Ent.trans (Ent.pick [1] I I) (Ent.own0 ?_ ?_))
   ·rw [hst]; simp
   ·rw [hst, cellsOf_app]; rfl
  ·have h3 : k = i := by have h3 : ((k : Int) != (i : Int)) = false := h3; simp at h3; omega
   rw [if_pos h3] at hst
   repeat' (first | refine zh ?_ | intro (bk : Nat))
   exact ih (k + 1) o _ _ hlt (by omega) ⟨I, I, I, I, trivial⟩ (Ent.own0 (by rw [hst]) (by rw [hst]))
 ·have hke : k = l.length := by have := of_decide_eq_false h2; omega
  subst hke
  rw [List.take_length]
  repeat' (first | refine zh ?_ | intro (bk : Nat))
  refine HR.ret Tryz.func156 I [_] (fun _ _ => ⟨I, trivial⟩) ?_
  exact fun w' hw => ⟨o, rfl, hw⟩
end Go.Proofs.YtgdgclmkpoaagaaGreat
namespace Go.Proofs.YtgdgclmkpoaagaaGreat
open Go.GX Go.RowKit
attribute [local irreducible] Calls Run RunL RunQ RunD HR HL HD blkC ownC Rd
open Nd
theorem sn_fr {l : List Sn} {n : Nat} {s : Sn} (hs : l[n]? = some s) : ∀ (i : Nat) u, (frC s.f)[i]? = some u → (cellsOf snC l)[n * 11 + i]? = some u := fun i u h => by
 refine cellsOf_get snC_len hs i u ?_
 show (frC s.f ++ [.int .i64 s.tr, .int .i64 s.wt])[i]? = some u
 rw [List.getElem?_append_left (List.getElem?_eq_some_iff.1 h).1]; exact h
theorem r16result_any (l : List Sn) (i : Int) (ok : Bool) (v : Value) (w : World) (hv : Sl w v (cellsOf snC l) l.length) (hl : l.length ≤ 1000) (hf : ∀ s ∈ l, fits .i64 s.tr) (hi : 0 ≤ i) :
  Calls Tryz.prog 81 #[v, .int .i64 i, .bool ok] w fun e w' => ∃ v', e = .returned (.tuple ⟨[v', .bool (mres l i.toNat ok).2]⟩) ∧ True ∧ Sat (base w) [ownC v' 48 11 (mres l i.toNat ok).1.length (cellsOf snC (mres l i.toNat ok).1)] w' := by
 obtain ⟨n, rfl⟩ : ∃ n : Nat, i = n := ⟨i.toNat, by omega⟩
 rw [Int.toNat_natCast]
 have hf16 : ∀ s ∈ l.take 16, fits .i64 s.tr := fun s hs => hf s (List.mem_of_mem_take hs)
 have h16 : (l.take 16).length ≤ 16 := by simp; omega
 refine calls_hr Tryz.func81 I (Nat.le_of_ble_eq_true I) ?_
 refine HR.sub (σ' := [(0, v), (1, .int .i64 (n : Int)), (2, .bool ok)]) ⟨I, I, I, trivial⟩ ?_
 repeat' (first | refine zh ?_ | refine HL.callO fn155 I I (fun w hw => r16first_any l v w ((Rd.arg hv).at hw) hl) ?_ | intro (bk : Nat))
 intro v1
 repeat' (first | refine zh ?_ | refine HL.lenR (Rd.own 0 I) I I I ?_ | intro (bk : Nat))
 refine HR.cond I (fun h2 => ?_) (fun h2 => ?_)
 ·have h2 : (l.take 16).length ≤ n := by have := of_decide_eq_true h2; omega
  rw [mres_none h2]
  repeat' (first | refine zh ?_ | intro (bk : Nat))
  refine HR.ret Tryz.func81 I [_, _] (fun _ _ => ⟨I, I, trivial⟩) ?_
  exact fun w' hw => ⟨v1, rfl, trivial, hw⟩
 have h2 : n < (l.take 16).length := by have := of_decide_eq_false h2; omega
 obtain ⟨s, hs⟩ := getSome h2
 rw [mres_some hs]
 obtain ⟨T, hT⟩ : ∃ T, T = l.take 16 := ⟨_, rfl⟩
 rw [← hT] at hf16 h16 h2 hs ⊢
 have hsf : -9223372036854775808 ≤ s.tr ∧ s.tr ≤ 9223372036854775807 := hf16 s (List.mem_of_getElem? hs)
 repeat' (first | refine zh ?_ | refine HL.idxR (Rd.own 0 I) elemSn n I I I I h2 ?_ | refine HL.fieldE (Rd.own 0 I) (by rw [cellsOf_len snC_len]; omega) I I I I I I ?_ | refine HL.loadI (Rd.own 0 I) I I I I (cells_get snC_len hs (i := 9) I) ?_ | intro (bk : Nat))
 refine HR.join (ι := Unit) (fun _ => True) (fun _ => [(1, .int .i64 (n : Int)), (2, .bool ok), (8, v1), (9, .int .i64 (max s.tr 0))]) (fun _ => [ownC v1 48 11 T.length (cellsOf snC T)]) (fun _ _ => ?_) (fun hj => ?_)
 ·have hm : mtries s = min (max s.tr 0) 7 + 1 := rfl
  repeat' (first | refine zh ?_ | apply zb ?_ ?_ | exact zc | (refine zi fun hb => ?_; try simp at hb) | intro (bk : Nat))
  refine HR.cond I (fun h3 => ?_) (fun h3 => ?_)
  ·have h3 : (ok || decide (max s.tr 0 ≥ 7)) = true := h3
   have e : (if ok = true then (T.eraseIdx n, false) else if mtries s = 8 then (T.eraseIdx n, true) else (T.set n ⟨s.f, mtries s, if s.f.ur then 0 else min (mtries s) 4⟩, false)) = (T.eraseIdx n, !ok) := by
    cases ok
    ·rw [Bool.false_or, decide_eq_true_eq] at h3
     rw [if_neg (by simp), if_pos (by omega)]; rfl
    ·rfl
   rw [e]
   repeat' (first | refine zh ?_ | refine HL.callO fn156 I I (fun w hw => r16without_any T n v1 w ((Rd.own 0 rfl).at hw) (by omega) h2) ?_ | intro (bk : Nat))
   intro v2
   repeat' (first | refine zh ?_ | intro (bk : Nat))
   refine HR.ret Tryz.func81 I [_, _] (fun _ _ => ⟨I, I, trivial⟩) ?_
   exact fun w' hw => ⟨v2, rfl, trivial, hw.pick [0] I rfl⟩
  ·have h3 : (ok || decide (max s.tr 0 ≥ 7)) = false := h3
   rw [Bool.or_eq_false_iff, decide_eq_false_iff_not] at h3
   obtain ⟨h3, h4⟩ := h3
   rw [if_neg (by rw [h3]; simp), if_neg (by omega)]
   refine HR.skip ?_
   repeat' (first | refine zh ?_ | intro (bk : Nat))
   refine HR.join (ι := Unit) (fun _ => True) (fun _ => [(1, .int .i64 (n : Int)), (8, v1), (9, .int .i64 (max s.tr 0)), (10, .int .i64 (min (mtries s) 4))]) (fun _ => [ownC v1 48 11 T.length (cellsOf snC T)]) (fun _ _ => ?_) (fun hj2 => ?_)
   ·repeat' (first | refine zh ?_ | refine HL.idxR (Rd.own 0 I) elemSn n I I I I h2 ?_ | refine HL.fieldE (Rd.own 0 I) (by rw [cellsOf_len snC_len]; omega) I I I I I I ?_ | refine HL.loadI (Rd.own 0 I) I I I I (cells_get snC_len hs (i := 7) I) ?_ | intro (bk : Nat))
    refine HL.setV 46 (v' := elemPtr v1 (n * 11)) I I ?_
    repeat' (first | refine zh ?_ | refine HL.idxR (Rd.own 0 I) elemSn n I I I I h2 ?_ | refine HL.fieldE (Rd.own 0 I) (by rw [cellsOf_len snC_len]; omega) I I I I I I ?_ | refine HL.loadI (Rd.own 0 I) I I I I (cells_get snC_len hs (i := 7) I) ?_ | intro (bk : Nat))
    refine HR.join (ι := Unit) (fun _ => True) (fun _ => [(1, .int .i64 (n : Int)), (8, v1), (9, .int .i64 (max s.tr 0)), (10, .int .i64 (if s.f.ur then 0 else min (mtries s) 4))]) (fun _ => [ownC v1 48 11 T.length (cellsOf snC T)]) (fun _ _ => ?_) (fun hj3 => ?_)
    ·have hc2 : (cellsOf snC T).length = T.length * 11 := cellsOf_len snC_len T
     repeat' (first | refine zh ?_ | refine HL.idxR (Rd.own 0 I) elemSn n I I I I h2 ?_ | refine HL.fieldE (Rd.own 0 I) (by rw [cellsOf_len snC_len]; omega) I I I I I I ?_ | refine HL.loadE (us := frC s.f) (Rd.own 0 I) I I I I (by simp) I (sn_fr hs) ?_ | refine HL.storeEs (us := snC ⟨s.f, max s.tr 0 + 1, if s.f.ur then 0 else min (mtries s) 4⟩) (j := n * 11) 0 I I I I I I I (by rw [hc2]; show n * 11 + 11 ≤ _; omega) (by simp) ?_ | intro (bk : Nat))
     refine HR.ret Tryz.func81 I [_, _] (fun _ _ => ⟨I, I, trivial⟩) ?_
     refine fun w' hw => ⟨v1, rfl, trivial, Ent.own0 (by rw [List.length_set]) ?_ w' hw⟩
     rw [hm, show min (max s.tr 0) 7 = max s.tr 0 by omega]
     rw [hm, show min (max s.tr 0) 7 = max s.tr 0 by omega] at *
     exact cells_set (i := 0) snC_len hs I (show 0 + 11 ≤ 11 by decide)
    ·refine HR.cond I (fun h5 => ?_) (fun h5 => ?_)
     ·have h5 : s.f.ur = true := h5
      rw [h5] at hj3 ⊢
      refine HR.region ?_
      repeat' (first | refine zn ?_ | apply zb ?_ ?_ | exact zc | (refine zi fun hb => ?_; try simp at hb) | intro (bk : Nat))
      exact hj3 () _ _ trivial ⟨I, I, I, I, trivial⟩ Ent.refl
     ·have h5 : s.f.ur = false := h5
      rw [h5] at hj3 ⊢
      refine HR.skip ?_
      exact hj3 () _ _ trivial ⟨I, I, I, I, trivial⟩ Ent.refl
   ·refine HR.cond I (fun h5 => ?_) (fun h5 => ?_)
    ·have h5 : max s.tr 0 + 1 > 4 := of_decide_eq_true h5
     refine HR.region ?_
     repeat' (first | refine zn ?_ | apply zb ?_ ?_ | exact zc | (refine zi fun hb => ?_; try simp at hb) | intro (bk : Nat))
     exact hj2 () _ _ trivial ⟨rfl, rfl, rfl, by show some _ = some _; congr 2; omega, trivial⟩ Ent.refl
    ·have h5 : ¬ max s.tr 0 + 1 > 4 := of_decide_eq_false h5
     refine HR.skip ?_
     exact hj2 () _ _ trivial ⟨rfl, rfl, rfl, by show some _ = some _; congr 2; omega, trivial⟩ Ent.refl
 ·refine HR.cond I (fun h3 => ?_) (fun h3 => ?_)
  ·have h3 : s.tr < 0 := of_decide_eq_true h3
   refine HR.region ?_
   repeat' (first | refine zn ?_ | apply zb ?_ ?_ | exact zc | (refine zi fun hb => ?_; try simp at hb) | intro (bk : Nat))
   exact hj () _ _ trivial ⟨rfl, rfl, rfl, by show some _ = some _; congr 2; omega, trivial⟩ Ent.refl
  ·have h3 : ¬ s.tr < 0 := of_decide_eq_false h3
   refine HR.skip ?_
   exact hj () _ _ trivial ⟨rfl, rfl, rfl, by show some _ = some _; congr 2; omega, trivial⟩ Ent.refl
end Go.Proofs.YtgdgclmkpoaagaaGreat
namespace Go.Proofs.YtgdgclmkpoaagaaGreat
open Go.GX Go.RowKit
attribute [local irreducible] Calls Run RunL RunQ RunD HR HL HD blkC ownC Rd
open Nd
theorem fn202 : IsFn Tryz.prog 202 := ⟨⟨_, _, Tryz.func202, rfl, by decide⟩⟩
theorem delLi_any (l : List Li) (i : Nat) (v : Value) (B0 : Base) (w : World) (hw0 : Sat B0 [ownC v 129 3 l.length (cellsOf liC l)] w) (hi : i < l.length) (hl : l.length ≤ 1000) :
  Calls Tryz.prog 202 #[v, .int .i64 (i : Int), .int .i64 ((i : Int) + 1)] w fun e w' => ∃ r : Value, e = .returned r ∧ True ∧ Sat ⟨w, feet [ownC v 129 3 l.length (cellsOf liC l)]⟩ [ownC r 129 3 (l.eraseIdx i).length (cellsOf liC (l.eraseIdx i))] w' := by
 obtain ⟨g, off, c, rfl, hnc, hcm⟩ := Vw.row (Sat.vw hw0 (i := 0) I) (by omega)
 have hcm : c ≤ 9223372036854775807 := hcm
 have hel : (l.eraseIdx i).length = l.length - 1 := List.length_eraseIdx_of_lt hi
 refine calls_hrW [ownC (.slice (some ⟨g, off, none⟩) l.length c) 129 3 l.length (cellsOf liC l)] (hw0) Tryz.func202 I (Nat.le_of_ble_eq_true I) ?_
 refine HR.sub (σ' := [(0, .slice (some ⟨g, off, none⟩) l.length c), (1, .int .i64 (i : Int)), (2, .int .i64 ((i : Int) + 1))]) ⟨I, I, I, trivial⟩ ?_
 repeat' (first | refine zh ?_ | refine HL.lenR (Rd.own 0 I) I I I ?_ | refine HL.cut i (i + 1) l.length I I I I (.inr ⟨_, _, rfl, rfl⟩) (.inr ⟨_, _, rfl, rfl⟩) (.inr ⟨_, _, rfl, rfl⟩) (by omega) (by omega) hnc ?_ | apply zb ?_ ?_ | exact zc | (refine zi fun hb => ?_; try simp at hb) | intro (bk : Nat))
 refine HR.setB 16 false I (by simp; omega) ?_
 repeat' (first | refine zh ?_ | refine HL.lenR (Rd.own 0 I) I I I ?_ | apply zb ?_ ?_ | exact zc | (refine zi fun hb => ?_; try simp at hb) | intro (bk : Nat))
 refine HR.regionD [(0, true), (1, true), (2, true), (3, true), (4, true), (5, true), (6, false), (7, true)] [] I I hmix (by kernel_rfl) ?_
 repeat' (first | refine HD.ev I I I ?_ | refine HD.evc I I I (by first | omega | (simp; done) | (simp; omega)) ?_ | refine HD.cut (sz := 3) 0 i c I I I I I (.inl ⟨rfl, rfl⟩) (.inr ⟨_, _, rfl, rfl⟩) (.inl ⟨rfl, rfl⟩) (by omega) (by omega) (by omega) ?_ | refine HD.cut (sz := 3) (i + 1) l.length c I I I I I (.inr ⟨_, _, rfl, rfl⟩) (.inl ⟨rfl, rfl, rfl⟩) (.inl ⟨rfl, rfl⟩) (by omega) (by omega) (by omega) ?_ | refine HD.L 0 I I I I I ?_ | refine HD.L 1 I I I I I ?_ | refine HD.L 2 I I I I I ?_ | refine HD.L 3 I I I I I ?_ | refine HD.build I I I ?_ | refine HD.field I I I ?_ | refine HD.skip I I I ?_ | refine HD.skipO I I I ?_ | (refine HD.one I ?_; first | refine HL.ev I I ?_ | refine HL.appSelf i (i + 1) 0 I elemLi I I I (by omega) (by omega) hnc (one_allcells liC_one _) ?_ | (refine HL.isLoad ?_; first | refine HL.L 0 I I I I ?_ | refine HL.L 1 I I I I ?_ | refine HL.L 2 I I I I ?_ | refine HL.L 3 I I I I ?_) | (refine HL.isStore ?_; first | refine HL.S 0 I I I I I ?_ | refine HL.S 1 I I I I I ?_ | refine HL.S 2 I I I I I ?_ | refine HL.S 3 I I I I I ?_) | (refine HL.alloc I I ?_; intro bk)) | refine HL.back [] rfl rfl ?_ | refine HD.nil ?_)
 have hx : (cellsOf liC l).take (i * 3) ++ (cellsOf liC l).drop ((i + 1) * 3) ++ (cellsOf liC l).drop (i * 3 + (l.length - (i + 1)) * 3) = cellsOf liC (l.eraseIdx i) ++ (cellsOf liC l).drop ((l.length - 1) * 3) := by
  rw [cellsOf_take liC_len, cellsOf_drop liC_len, ← cellsOf_app, List.eraseIdx_eq_take_drop_succ]
  congr 2
  omega
 refine HR.ent (Ent.own0 I hx) ?_
 refine HR.setV 0 (v' := .slice (some ⟨g, off, none⟩) (l.length - 1) c) I (by rw [show i + (l.length - (i + 1)) = l.length - 1 by omega]) ?_
 refine HR.setV 7 (v' := .int .i64 (l.length : Int)) I I ?_
 repeat' (first | refine zh ?_ | refine HL.cut (sz := 3) (l.length - 1) l.length c I I I I (.inr ⟨_, _, rfl, rfl⟩) (.inr ⟨_, _, rfl, rfl⟩) (.inl ⟨rfl, rfl⟩) (by omega) hnc (Nat.le_refl _) ?_ | intro (bk : Nat))
 refine HL.setHd (cutV_lit (by omega)) ?_
 refine HL.clearO (l.length - 1) 0 I I I I I I (by decide) I (by omega) ?_
 repeat' (first | refine zh ?_ | apply zb ?_ ?_ | exact zc | (refine zi fun hb => ?_; try simp at hb) | intro (bk : Nat))
 refine HR.ret Tryz.func202 I [_] (fun _ _ => ⟨I, trivial⟩) ?_
 have hcl : (cellsOf liC (l.eraseIdx i)).length = (l.length - 1) * 3 := by rw [cellsOf_len liC_len, hel]
 refine fun w' hw => ⟨_, rfl, trivial, ?_⟩
 rw [hel]
 refine Sat.cutK hw (by omega) ?_
 rw [List.take_append_of_le_length (by simp [hcl]), List.take_take, Nat.min_self, List.take_append_of_le_length (by omega), List.take_of_length_le (by omega)]
end Go.Proofs.YtgdgclmkpoaagaaGreat
namespace Go.GX
open Go.RowKit
section
variable {P : Program} {f : FuncId} {N : Nat} {k : List Item} {σ : Store} {B : Base} {H H0 : List Chunk} {R : Ending → World → Prop} {ops l : List Oper} {o : Oper} {K : Act → World → Prop}
variable {d : Nat} {d' : Option Nat} {ty : TypeId} {pos : String} {af : Array Edge} {gd : Option (Nat × Bool)} {u v : Value}
theorem HR.joinI {id : Nat} {x : Code} {ι : Type} (Inv : ι → Prop) (st : ι → Store) (hp : ι → List Chunk) (hj : ∀ i, Inv i → HR P f N k (st i) B (hp i) R)
  (h : (∀ i σ' H', Inv i → Sub (st i) σ' → Ent B H' (hp i) → HR P f N k σ' B H' R) → HR P f N (.code x :: .inBlock id :: k) σ B H R) : HR P f N (.code x :: .inBlock id :: k) σ B H R :=
 h fun i σ' H' hi hs he => HR.sub hs (HR.ent he (hj i hi))
theorem hx_mkF {g : FuncId} {caps : List Operand} {vs : List Value} (hv : vals σ caps = some vs) (w : World) :
  (execOp (evO σ) ⟨d', .makeFunc (.func g) #[] caps.toArray, ty, pos, af, gd⟩).run P w = .ok (.value (.func (.func g) #[] vs.toArray)) w := by
 have := vals_eq hv
 simp only [execOp, List.map_toArray]
 rw [this]
 simp [Instr.makeFunc]
theorem HL.mkF {g : FuncId} {caps : List Operand} {vs : List Value} (hs : stat N ops ⟨some d, .makeFunc (.func g) #[] caps.toArray, ty, pos, af, gd⟩ σ = true) (hv : vals σ caps = some vs)
  (h : HL P N ops l ((d, .func (.func g) #[] vs.toArray) :: σ) B H K) : HL P N ops (⟨some d, .makeFunc (.func g) #[] caps.toArray, ty, pos, af, gd⟩ :: l) σ B H K :=
 HL.rd hs (fun w _ => hx_mkF hv w) h
end
end Go.GX
namespace Go.Proofs.YtgdgclmkpoaagaaGreat
open Go.GX Go.RowKit
attribute [local irreducible] Calls Run RunL RunQ RunD HR HL HD blkC ownC Rd
open Nd
theorem fn81 : IsFn Tryz.prog 81 := ⟨⟨_, _, Tryz.func81, rfl, by decide⟩⟩
end Go.Proofs.YtgdgclmkpoaagaaGreat
namespace Go.Proofs.YtgdgclmkpoaagaaGreat
open Go.GX Go.RowKit
attribute [local irreducible] Calls Run RunL RunQ RunD HR HL HD blkC ownC Rd
open Nd
theorem fn77 : IsFn Tryz.prog 77 := ⟨⟨_, _, Tryz.func77, rfl, by decide⟩⟩
theorem fn203 : IsFn Tryz.prog 203 := ⟨⟨_, _, Tryz.func203, rfl, by decide⟩⟩
theorem indexFSn_any (l : List Sn) (p : Sn → Bool) (g : FuncId) (caps : List Value) (v : Value) (w : World) (hg : IsFn Tryz.prog g) (hp : Asks Tryz.prog g caps (fun a => .agg ⟨snC a⟩) p l w) (hv : Sl w v (cellsOf snC l) l.length) (hl : l.length ≤ 1000000) :
  Calls Tryz.prog 77 #[v, .func (.func g) #[] caps.toArray] w fun e w' => e = .returned (.int .i64 (fidx p l)) ∧ Below w.heap.size w w' := by
 refine calls_hr Tryz.func77 I (Nat.le_of_ble_eq_true I) ?_
 refine HR.sub (σ' := [(0, v), (1, .func (.func g) #[] caps.toArray)]) ⟨I, I, trivial⟩ ?_
 repeat' (first | refine zh ?_ | refine HL.lenR (Rd.arg hv) I I I ?_ | intro (bk : Nat))
 refine HR.loop (ι := Nat) (fun k => k ≤ l.length ∧ ∀ j b, j < k → l[j]? = some b → p b = false) (fun k => [(0, v), (1, .func (.func g) #[] caps.toArray), (7, .int .i64 (l.length : Int)), (8, .int .i64 (k : Int))]) (fun _ => []) (fun k => l.length - k) 0 ⟨Nat.zero_le _, fun j b hj => absurd hj (Nat.not_lt_zero _)⟩ ⟨I, I, I, I, trivial⟩ Ent.refl ?_
 rintro k ⟨hk, hno⟩ ih
 repeat' (first | refine zh ?_ | intro (bk : Nat))
 refine HR.cond I (fun h2 => ?_) (fun h2 => ?_)
 ·have hlt : k < l.length := by have := of_decide_eq_true h2; omega
  obtain ⟨x, hx⟩ := getSome hlt
  repeat' (first | refine zh ?_ | refine HL.idxR (Rd.arg hv) elemSn k I I I I hlt ?_ | refine HL.loadE (Rd.arg hv) I I I I (by simp) I (cellsOf_get snC_len hx) ?_ | refine HL.callV (caps := caps) hg I I I (fun w' hw => hp x (List.mem_of_getElem? hx) w' hw.belowB) ?_ | intro (bk : Nat))
  refine HR.cond I (fun h3 => ?_) (fun h3 => ?_)
  ·have h3 : p x = true := h3
   repeat' (first | refine zh ?_ | intro (bk : Nat))
   refine HR.ret Tryz.func77 I [_] (fun _ _ => ⟨I, trivial⟩) ?_
   rw [fidx_at hx h3 hno]
   exact fun w' hw => ⟨rfl, hw.belowB⟩
  ·have h3 : p x = false := h3
   repeat' (first | refine zh ?_ | intro (bk : Nat))
   refine ih (k + 1) _ _ ⟨hlt, fun j b hj hb => ?_⟩ (by omega) ⟨I, I, I, I, trivial⟩ Ent.refl
   by_cases e : j = k
   ·subst e; rw [hx] at hb; cases hb; exact h3
   ·exact hno j b (by omega) hb
 ·have hke : k = l.length := by have := of_decide_eq_false h2; omega
  subst hke
  rw [fidx_none hno]
  repeat' (first | refine zh ?_ | intro (bk : Nat))
  refine HR.ret Tryz.func77 I [_] (fun _ _ => ⟨I, trivial⟩) ?_
  exact fun w' hw => ⟨rfl, hw.belowB⟩
theorem indexFI_any (l : List Int) (p : Int → Bool) (g : FuncId) (caps : List Value) (v : Value) (w : World) (hg : IsFn Tryz.prog g) (hp : Asks Tryz.prog g caps (fun a => .int .i64 a) p l w) (hv : Sl w v (cellsOf iC l) l.length) (hl : l.length ≤ 1000000) :
  Calls Tryz.prog 203 #[v, .func (.func g) #[] caps.toArray] w fun e w' => e = .returned (.int .i64 (fidx p l)) ∧ Below w.heap.size w w' := by
 refine calls_hr Tryz.func203 I (Nat.le_of_ble_eq_true I) ?_
 refine HR.sub (σ' := [(0, v), (1, .func (.func g) #[] caps.toArray)]) ⟨I, I, trivial⟩ ?_
 repeat' (first | refine zh ?_ | refine HL.lenR (Rd.arg hv) I I I ?_ | intro (bk : Nat))
 refine HR.loop (ι := Nat) (fun k => k ≤ l.length ∧ ∀ j b, j < k → l[j]? = some b → p b = false) (fun k => [(0, v), (1, .func (.func g) #[] caps.toArray), (7, .int .i64 (l.length : Int)), (8, .int .i64 (k : Int))]) (fun _ => []) (fun k => l.length - k) 0 ⟨Nat.zero_le _, fun j b hj => absurd hj (Nat.not_lt_zero _)⟩ ⟨I, I, I, I, trivial⟩ Ent.refl ?_
 rintro k ⟨hk, hno⟩ ih
 repeat' (first | refine zh ?_ | intro (bk : Nat))
 refine HR.cond I (fun h2 => ?_) (fun h2 => ?_)
 ·have hlt : k < l.length := by have := of_decide_eq_true h2; omega
  obtain ⟨x, hx⟩ := getSome hlt
  repeat' (first | refine zh ?_ | refine HL.idxR (Rd.arg hv) elemI k I I I I hlt ?_ | refine HL.loadI (Rd.arg hv) I I I I (cellsOf_get1 hx) ?_ | refine HL.callV (caps := caps) hg I I I (fun w' hw => hp x (List.mem_of_getElem? hx) w' hw.belowB) ?_ | intro (bk : Nat))
  refine HR.cond I (fun h3 => ?_) (fun h3 => ?_)
  ·have h3 : p x = true := h3
   repeat' (first | refine zh ?_ | intro (bk : Nat))
   refine HR.ret Tryz.func203 I [_] (fun _ _ => ⟨I, trivial⟩) ?_
   rw [fidx_at hx h3 hno]
   exact fun w' hw => ⟨rfl, hw.belowB⟩
  ·have h3 : p x = false := h3
   repeat' (first | refine zh ?_ | intro (bk : Nat))
   refine ih (k + 1) _ _ ⟨hlt, fun j b hj hb => ?_⟩ (by omega) ⟨I, I, I, I, trivial⟩ Ent.refl
   by_cases e : j = k
   ·subst e; rw [hx] at hb; cases hb; exact h3
   ·exact hno j b (by omega) hb
 ·have hke : k = l.length := by have := of_decide_eq_false h2; omega
  subst hke
  rw [fidx_none hno]
  repeat' (first | refine zh ?_ | intro (bk : Nat))
  refine HR.ret Tryz.func203 I [_] (fun _ _ => ⟨I, trivial⟩) ?_
  exact fun w' hw => ⟨rfl, hw.belowB⟩
end Go.Proofs.YtgdgclmkpoaagaaGreat
namespace Nd
open Go.GX Tp
theorem rbrk_tab {t : List Ro} {self next : Int} (h : Tab self t) : Tab self (rbrk t self next) ∧ Kept t (rbrk t self next) := by
 rw [rbrk_map, h.tab]
 have hs := h.ok
 rw [okN_iff] at hs
 have hb : ∀ r, brk1 self next r = if okN next = true ∧ r.nx = next ∧ r.dest ≠ self then ⟨r.dest, r.sq + 1, 255, 255⟩ else r := by
  intro r; unfold brk1; rw [lim_of h.ok]
 have hk : Kept t (t.map (brk1 self next)) := by
  intro r hr
  refine ⟨brk1 self next r, List.mem_map_of_mem hr, ?_⟩
  rw [hb]; split
  ·exact .inr ⟨rfl, .inl (by show r.sq + 1 > r.sq; omega)⟩
  ·exact .inl I
 refine ⟨⟨by rw [List.length_map]; exact h.len, h.ok, fun x hx => ?_, ?_, own_kept h.own hk, fun x hx => ?_⟩, hk⟩
 ·obtain ⟨r, hr, rfl⟩ := List.mem_map.1 hx
  have hg := h.rng r hr
  rw [hb]; split
  ·rename_i hc
   obtain ⟨c1, c2, c3⟩ := hc
   rw [← c2] at c1
   have hn := c1
   rw [okN_iff] at hn
   unfold rrange usable fin at hg ⊢
   simp only [c1] at hg
   simp at hg ⊢
   obtain ⟨⟨⟨g1, g2, g3⟩, g4⟩, g5⟩ := hg
   simp only [g1]
   simp; omega
  ·exact hg
 ·refine Asc.map_same (key := fun r : Ro => r.dest) _ (fun a => ?_) h.asc
  rw [hb]; split <;> rfl
 ·obtain ⟨r, hr, rfl⟩ := List.mem_map.1 hx
  have hf := h.form r hr
  rw [hb]; split
  ·rename_i hc
   unfold rform
   rw [if_neg hc.2.2]
   simp only [Bool.or_eq_false_iff, beq_eq_false_iff_ne, ne_eq]
   exact ⟨by decide, by omega⟩
  ·exact hf
theorem lforget_ok (l : List Li) (n : Int) : lchk (lforget l n) = 0 := by
 obtain ⟨h1, h2, h3⟩ := lchk_asc (lval_ok l)
 unfold lforget
 exact lchk_of (Nat.le_trans (List.length_filter_le _ _) h1) (fun x hx => h2 x (List.mem_filter.1 hx).1) (h3.filter _)
theorem Ord.setLinks {n : Nd} (h : Ord n) {t : List Li} (ht : lchk t = 0) : Ord { n with links := t } := { h with links := ht }
theorem Good.refl {n : Nd} (h : Ord n) : Good n n := ⟨h, rfl, Kept.refl _⟩
theorem Good.lose {n m : Nd} (h : Good n m) : Good n (lose m) := ⟨h.ord.lose, h.addr, h.kept⟩
theorem Good.out {n m : Nd} (h : Good n m) {q : List Sn} (hq : q.length ≤ 16) : Good n { m with out := q } := ⟨h.ord.setOut hq, h.addr, h.kept⟩
theorem giveUp_good {n m : Nd} (h : Good n m) (to : Int) : Good n (giveUp m to) := by
 unfold giveUp; split
 ·exact h.lose
 ·obtain ⟨g1, g2⟩ := rbrk_tab (next := to) h.ord.table
  have hl := h.ord.lose
  refine ⟨{ hl with table := g1, links := lforget_ok _ _, kids := h.ord.kids.filter _, kid := fun x hx => h.ord.kid x (List.mem_filter.1 hx).1, parent := ?_ }, h.addr, h.kept.trans g2⟩
  show (if m.parent = to then (255 : Int) else m.parent) = 255 ∨ (okN (if m.parent = to then (255 : Int) else m.parent) = true ∧ (if m.parent = to then (255 : Int) else m.parent) ≠ m.addr)
  split
  ·exact .inl I
  ·exact h.ord.parent
theorem result_good (n : Nd) (f : Fr) (ok : Bool) : Good (order n) (result n f ok) := by
 have ho := Good.refl (order_ord n)
 unfold result
 simp only
 split
 ·exact ho
 ·rename_i i hi
  have k1 : ∀ a, Good (order n) a → Good (order n) (if okN f.dst = true then { a with links := lseen a.links f.dst ok } else a) := by
   intro a h1
   split
   ·exact ⟨h1.ord.setLinks (lseen_ok _ _ _), h1.addr, h1.kept⟩
   ·exact h1
  have h2 := k1 { order n with out := (mres (order n).out i ok).1 } (ho.out (mres_len _ _ _))
  split
  ·exact giveUp_good h2 _
  ·exact h2
end Nd
namespace Go.Proofs.YtgdgclmkpoaagaaGreat
open Go.GX Go.RowKit
attribute [local irreducible] Calls Run RunL RunQ RunD HR HL HD blkC ownC Rd
open Nd
theorem fn153 : IsFn Tryz.prog 153 := ⟨⟨_, _, Tryz.func153, rfl, by decide⟩⟩
theorem fn154 : IsFn Tryz.prog 154 := ⟨⟨_, _, Tryz.func154, rfl, by decide⟩⟩
theorem gu1_any (bt : Nat) (to c : Int) (w : World) (hb : Sl w (.slice (some ⟨bt, 0, none⟩) 1 1) [.int .i64 to] 1) : Calls Tryz.prog 154 #[.int .i64 c, .pointer (some ⟨bt, 0, none⟩)] w fun e w' => e = .returned (.bool (c == to)) ∧ Below w.heap.size w w' := by
 refine calls_hr Tryz.func154 I (Nat.le_of_ble_eq_true I) ?_
 refine HR.sub (σ' := [(0, .int .i64 c), (1, .pointer (some ⟨bt, 0, none⟩))]) ⟨I, I, trivial⟩ ?_
 repeat' (first | refine zh ?_ | refine HL.loadI (j := 0) (Rd.arg hb) I I I I I ?_ | intro (bk : Nat))
 refine HR.ret Tryz.func154 I [_] (fun _ _ => ⟨I, trivial⟩) ?_
 exact fun w' hw => ⟨rfl, hw.belowB⟩
theorem fidx_no {α : Type} {p : α → Bool} {l : List α} (h : fidx p l = -1) : ∀ a ∈ l, p a = false := by
 rcases fidx_cases p l with ⟨_, _, h2⟩ | ⟨k, b, e, _⟩
 ·exact h2
 ·omega
theorem delFI_any (l : List Int) (to : Int) (bt : Nat) (v : Value) (B0 : Base) (w : World) (hw0 : Sat B0 [ownC v 3 1 l.length (cellsOf iC l), blkC bt [.int .i64 to] 3] w) (hl : l.length ≤ 1000000) :
  Calls Tryz.prog 153 #[v, .func (.func 154) #[] #[.pointer (some ⟨bt, 0, none⟩)]] w fun e w' => ∃ r : Value, e = .returned r ∧ True ∧ Sat ⟨w, feet [ownC v 3 1 l.length (cellsOf iC l), blkC bt [.int .i64 to] 3]⟩ [ownC r 3 1 (l.filter fun c => !(c == to)).length (cellsOf iC (l.filter fun c => !(c == to))), blkC bt [.int .i64 to] 3] w' := by
 refine calls_hrW [ownC v 3 1 l.length (cellsOf iC l), blkC bt [.int .i64 to] 3] (hw0) Tryz.func153 I (Nat.le_of_ble_eq_true I) ?_
 refine HR.sub (σ' := [(0, v), (1, .func (.func 154) #[] #[.pointer (some ⟨bt, 0, none⟩)])]) ⟨I, I, trivial⟩ ?_
 repeat' (first | refine zh ?_ | refine HL.callB fn203 I I (fun w1 hw1 => indexFI_any l (fun c => c == to) 154 [.pointer (some ⟨bt, 0, none⟩)] v w1 fn154 (fun a ha w2 hb => gu1_any bt to a w2 (((Rd.blk (n := 1) 1 rfl).at hw1).ext hb)) ((Rd.own 0 rfl).at hw1) hl) ?_ | intro (bk : Nat))
 refine HR.cond I (fun h => ?_) (fun h => ?_)
 ·have h : fidx (fun c => c == to) l = -1 := eq_of_beq h
  have e : (l.filter fun c => !(c == to)) = l := List.filter_eq_self.2 fun a ha => by have := fidx_no h a ha; simpa using this
  rw [e]
  repeat' (first | refine zh ?_ | intro (bk : Nat))
  refine HR.ret Tryz.func153 I [_] (fun _ _ => ⟨I, trivial⟩) ?_
  exact fun w' hw => ⟨v, rfl, trivial, hw⟩
 have h : ¬ fidx (fun c => c == to) l = -1 := fun e => by rw [e] at h; exact absurd h (by decide)
 rcases fidx_cases (fun c => c == to) l with ⟨h2, _⟩ | ⟨i0, a0, e0, _, ha0, hp0, hno0⟩
 ·exact absurd h2 h
 have hp0 : (a0 == to) = true := hp0
 rw [e0]
 have hi0 : i0 < l.length := (List.getElem?_eq_some_iff.1 ha0).1
 have ht0 : (l.take (i0 + 1)).filter (fun c => !(c == to)) = l.take i0 := by
  rw [take_filter ha0, if_neg (by simp [hp0])]
  refine List.filter_eq_self.2 fun a ha => ?_
  obtain ⟨j, hj, rfl⟩ := List.getElem_of_mem ha
  rw [List.length_take] at hj
  have := hno0 j _ (by omega) (List.getElem?_eq_getElem (by omega))
  rw [List.getElem_take]
  simpa using this
 refine HR.row 0 I (by omega) fun g off c hv hnc hcm => ?_
 have hcm : c ≤ 9223372036854775807 := hcm
 repeat' (first | refine zh ?_ | intro (bk : Nat))
 obtain ⟨F, hF⟩ : ∃ F : Nat → Nat, F = fun k => ((l.take k).filter fun c => !(c == to)).length := ⟨_, rfl⟩
 have hF0 : F (i0 + 1) = i0 := by rw [hF]; show ((l.take (i0 + 1)).filter _).length = i0; rw [ht0, List.length_take]; omega
 refine HR.loop (ι := Nat × List Int) (fun x => x.1 ≤ l.length ∧ x.2.length = l.length ∧ F x.1 < x.1 ∧ x.2.take (F x.1) = (l.take x.1).filter (fun c => !(c == to)) ∧ x.2.drop x.1 = l.drop x.1) (fun x => [(0, v), (1, .func (.func 154) #[] #[.pointer (some ⟨bt, 0, none⟩)]), (5, .int .i64 (F x.1 : Int)), (6, .int .i64 (x.1 : Int))]) (fun x => [ownC v 3 1 l.length (cellsOf iC x.2), blkC bt [.int .i64 to] 3]) (fun x => l.length - x.1) (i0 + 1, l) ⟨by show i0 + 1 ≤ _; omega, rfl, by show F (i0 + 1) < i0 + 1; omega, by show l.take (F (i0 + 1)) = _; rw [hF0, ht0], rfl⟩ (by rw [hF0]; exact ⟨I, I, I, I, trivial⟩) Ent.refl ?_
 rintro ⟨k, X⟩ ⟨hk, hX, hFk, hT, hD⟩ ih
 have hk : k ≤ l.length := hk
 have hX : X.length = l.length := hX
 have hFk : F k < k := hFk
 have hT : X.take (F k) = (l.take k).filter (fun c => !(c == to)) := hT
 have hD : X.drop k = l.drop k := hD
 have hTl : F k = ((l.take k).filter fun c => !(c == to)).length := by rw [hF]
 repeat' (first | refine zh ?_ | refine HL.lenR (Rd.own 0 I) I I I ?_ | intro (bk : Nat))
 refine HR.cond I (fun h2 => ?_) (fun h2 => ?_)
 ·have hlt : k < l.length := by have := of_decide_eq_true h2; omega
  obtain ⟨x, hx⟩ := getSome hlt
  have hxX : X[k]? = some x := by
   have e1 : (X.drop k)[0]? = X[k]? := by rw [List.getElem?_drop]; rfl
   have e2 : (l.drop k)[0]? = l[k]? := by rw [List.getElem?_drop]; rfl
   rw [← e1, hD, e2, hx]
  have hnext := take_filter (p := fun c => !(c == to)) hx
  have hD1 : X.drop (k + 1) = l.drop (k + 1) := by
   rw [← List.drop_drop, ← List.drop_drop, hD]
  repeat' (first | refine zh ?_ | refine HL.idxR (Rd.own 0 I) elemI k I I I I hlt ?_ | refine HL.loadI (Rd.own 0 I) I I I I (cellsOf_get1 hxX) ?_ | refine HL.callV (caps := [.pointer (some ⟨bt, 0, none⟩)]) fn154 I I I (fun w1 hw1 => gu1_any bt to x w1 ((Rd.blk (n := 1) 1 rfl).at hw1)) ?_ | intro (bk : Nat))
  refine HR.cond I (fun h3 => ?_) (fun h3 => ?_)
  ·have h3 : (!(x == to)) = true := h3
   rw [if_pos h3] at hnext
   have hF1 : F (k + 1) = F k + 1 := by rw [hTl, hF]; show ((l.take (k + 1)).filter _).length = _; rw [hnext, List.length_append]; rfl
   repeat' (first | refine zh ?_ | refine HL.idxR (Rd.own 0 I) elemI (F k) I I I I (by omega) ?_ | refine HL.storeE (j := F k * 1) 0 I I I I I I I (by rw [cellsOf_len iC_len]; omega) ?_ | intro (bk : Nat))
   refine ih (k + 1, X.set (F k) x) _ _ ⟨hlt, ?_, ?_, ?_, ?_⟩ (by show l.length - (k + 1) < l.length - k; omega) ?_ (Ent.own0 I ?_)
   ·show (X.set (F k) x).length = _; rw [List.length_set]; exact hX
   ·show F (k + 1) < k + 1; omega
   ·show (X.set (F k) x).take (F (k + 1)) = (l.take (k + 1)).filter _
    rw [hnext, ← hT, hF1, List.take_succ_eq_append_getElem (by rw [List.length_set]; omega), List.take_set_of_le (by omega), List.getElem_set_self]
   ·show (X.set (F k) x).drop (k + 1) = _
    rw [List.drop_set_of_lt (by omega), hD1]
   ·show Sub [_, _, (5, Value.int .i64 (F (k + 1) : Int)), _] _
    rw [hF1]
    exact ⟨I, I, I, I, trivial⟩
   ·obtain ⟨y, hy⟩ := getSome (l := X) (j := F k) (by omega)
    exact cells_set1 (i := 0) iC_len hy I (by decide)
  ·have h3 : (!(x == to)) = false := h3
   rw [if_neg (by rw [h3]; decide)] at hnext
   have hF1 : F (k + 1) = F k := by rw [hTl, hF]; show ((l.take (k + 1)).filter _).length = _; rw [hnext]
   repeat' (first | refine zh ?_ | intro (bk : Nat))
   refine ih (k + 1, X) _ _ ⟨hlt, hX, by show F (k + 1) < k + 1; omega, by show X.take (F (k + 1)) = (l.take (k + 1)).filter _; rw [hF1, hnext, hT], hD1⟩ (by show l.length - (k + 1) < l.length - k; omega) ?_ Ent.refl
   show Sub [_, _, (5, Value.int .i64 (F (k + 1) : Int)), _] _
   rw [hF1]
   exact ⟨I, I, I, I, trivial⟩
 ·have hke : k = l.length := by have := of_decide_eq_false h2; omega
  subst hke
  subst hv
  rw [List.take_length] at hT hTl
  repeat' (first | refine zh ?_ | refine HL.cut (sz := 1) (F l.length) l.length c I I I I (.inr ⟨_, _, rfl, rfl⟩) (.inl ⟨rfl, rfl, rfl⟩) (.inl ⟨rfl, rfl⟩) (by omega) hnc (Nat.le_refl _) ?_ | intro (bk : Nat))
  refine HL.setHd (cutV_lit (by omega)) ?_
  refine HL.clearO (F l.length) 0 I I I I I I (by decide) I (by omega) ?_
  repeat' (first | refine zh ?_ | refine HL.cut (sz := 1) 0 (F l.length) c I I I I (.inl ⟨rfl, rfl⟩) (.inr ⟨_, _, rfl, rfl⟩) (.inl ⟨rfl, rfl⟩) (by omega) (by omega) (Nat.le_refl _) ?_ | intro (bk : Nat))
  refine HR.ret Tryz.func153 I [_] (fun _ _ => ⟨I, trivial⟩) ?_
  refine fun w' hw => ⟨_, rfl, trivial, ?_⟩
  have hc0 : cutV 1 (some ⟨g, off, none⟩) 0 (F l.length) c = .slice (some ⟨g, off, none⟩) (l.filter fun c => !(c == to)).length c := by
   rw [cutV_lit (by omega), ← hTl]; simp
  rw [hc0]
  refine Sat.cutK hw (by omega) ?_
  rw [← hTl, ← hT, List.take_append_of_le_length (by simp [cellsOf_len iC_len]; omega), List.take_take, Nat.min_self, cellsOf_take iC_len]
end Go.Proofs.YtgdgclmkpoaagaaGreat
namespace Go.Proofs.YtgdgclmkpoaagaaGreat
open Go.GX Go.RowKit
attribute [local irreducible] Calls Run RunL RunQ RunD HR HL HD blkC ownC Rd
open Nd
theorem fn152 : IsFn Tryz.prog 152 := ⟨⟨_, _, Tryz.func152, rfl, by decide⟩⟩
end Go.Proofs.YtgdgclmkpoaagaaGreat
namespace Go.Proofs.YtgdgclmkpoaagaaGreat
open Go.GX Go.RowKit
attribute [local irreducible] Calls Run RunL RunQ RunD HR HL HD blkC ownC Rd
open Nd
theorem lforget_any (l : List Li) (n : Int) (v : Value) (w : World) (hv : Sl w v (cellsOf liC l) l.length) (hl : l.length ≤ 1000) :
  Calls Tryz.prog 152 #[v, .int .i64 n] w fun e w' => ∃ v', e = .returned v' ∧ Sat (base w) [ownC v' 129 3 (lforget l n).length (cellsOf liC (lforget l n))] w' := by
 have hlen := lval_len l
 refine calls_hr Tryz.func152 I (Nat.le_of_ble_eq_true I) ?_
 refine HR.sub (σ' := [(0, v), (1, .int .i64 n)]) ⟨I, I, trivial⟩ ?_
 repeat' (first | refine zh ?_ | refine HL.callO fn148 I I (fun w hw => ltable_any l v w ((Rd.arg hv).at hw) hl) ?_ | intro (bk : Nat))
 intro v1
 repeat' (first | refine zh ?_ | refine HL.callB fn149 I I (fun w hw => lfind_any (lval l) n v1 w ((Rd.own 0 rfl).at hw) (by omega)) ?_ | intro (bk : Nat))
 refine HR.cond I (fun h => ?_) (fun h => ?_)
 ·obtain ⟨x, hx, hn⟩ := lhas_true h
  have hlt := (List.getElem?_eq_some_iff.1 hx).1
  repeat' (first | refine zh ?_ | intro (bk : Nat))
  refine HL.callW (r := fun r : Value => r) (Q := fun _ => True) (G0 := [ownC v1 129 3 (lval l).length (cellsOf liC (lval l))]) (H0 := []) (G := fun r => [ownC r 129 3 ((lval l).eraseIdx (lpos (lval l) n)).length (cellsOf liC ((lval l).eraseIdx (lpos (lval l) n)))]) fn202 I I I (fun w hw => delLi_any (lval l) (lpos (lval l) n) v1 _ w hw hlt (by omega)) ?_
  intro r _
  repeat' (first | refine zh ?_ | intro (bk : Nat))
  refine HR.ret Tryz.func152 I [_] (fun _ _ => ⟨I, trivial⟩) ?_
  exact fun w' hw => ⟨r, rfl, by rw [lforget_is hx hn]; exact hw⟩
 ·have hno := lat_no (lhas_false h)
  repeat' (first | refine zh ?_ | intro (bk : Nat))
  refine HR.ret Tryz.func152 I [_] (fun _ _ => ⟨I, trivial⟩) ?_
  exact fun w' hw => ⟨v1, rfl, by rw [lforget_no hno]; exact hw⟩
end Go.Proofs.YtgdgclmkpoaagaaGreat
namespace Go.Proofs.YtgdgclmkpoaagaaGreat
open Go.GX Go.RowKit
attribute [local irreducible] Calls Run RunL RunQ RunD HR HL HD blkC ownC Rd
open Nd
theorem fn144 : IsFn Tryz.prog 144 := ⟨⟨_, _, Tryz.func144, rfl, by decide⟩⟩
theorem fn66 : IsFn Tryz.prog 66 := ⟨⟨_, _, Tryz.func66, rfl, by decide⟩⟩
theorem fn157 : IsFn Tryz.prog 157 := ⟨⟨_, _, Tryz.func157, rfl, by decide⟩⟩
theorem fn158 : IsFn Tryz.prog 158 := ⟨⟨_, _, Tryz.func158, rfl, by decide⟩⟩
theorem fn85 : IsFn Tryz.prog 85 := ⟨⟨_, _, Tryz.func85, rfl, by decide⟩⟩
theorem fn82 : IsFn Tryz.prog 82 := ⟨⟨_, _, Tryz.func82, rfl, by decide⟩⟩
theorem rpower_any (n : Int) (w : World) (hn : 0 ≤ n ∧ n ≤ 16) : Calls Tryz.prog 144 #[.int .i64 n] w fun e w' => e = .returned (.int .i64 (2 ^ n.toNat)) ∧ Below w.heap.size w w' := by
 obtain ⟨m, rfl⟩ : ∃ m : Nat, n = m := ⟨n.toNat, by omega⟩
 refine calls_hr Tryz.func144 I (Nat.le_of_ble_eq_true I) ?_
 refine HR.sub (σ' := [(0, .int .i64 (m : Int))]) ⟨I, trivial⟩ ?_
 repeat' (first | refine zh ?_ | apply zb ?_ ?_ | exact zc | (refine zi fun hb => ?_; try simp at hb) | intro (bk : Nat))
 refine HR.loop (ι := Nat) (fun k => k ≤ m) (fun k => [(0, .int .i64 (m : Int)), (3, .int .i64 ((2 ^ k : Nat) : Int)), (4, .int .i64 (k : Int))]) (fun _ => []) (fun k => m - k) 0 (Nat.zero_le _) ⟨I, I, I, trivial⟩ Ent.refl ?_
 intro k hk ih
 have h2 : 2 ^ k ≤ 2 ^ 16 := Nat.pow_le_pow_right (by decide) (by omega)
 have h16 : 2 ^ 16 = 65536 := by decide
 rw [h16] at h2
 obtain ⟨p, hpe⟩ : ∃ p, p = 2 ^ k := ⟨_, rfl⟩
 rw [← hpe] at h2 ⊢
 repeat' (first | refine zh ?_ | apply zb ?_ ?_ | exact zc | (refine zi fun hb => ?_; try simp at hb) | intro (bk : Nat))
 refine HR.cond I (fun h => ?_) (fun h => ?_)
 ·have hlt : k < m := by have := of_decide_eq_true h; omega
  repeat' (first | refine zh ?_ | apply zb ?_ ?_ | exact zc | (refine zi fun hb => ?_; try simp at hb) | intro (bk : Nat))
  refine HR.setV 3 (v' := .int .i64 ((2 ^ (k + 1) : Nat) : Int)) I (show Value.int .i64 (2 * (p : Int)) = _ by rw [Nat.pow_succ, ← hpe]; congr 1; omega) ?_
  exact ih (k + 1) _ _ hlt (by omega) ⟨I, I, I, trivial⟩ Ent.refl
 ·have hke : k = m := by have := of_decide_eq_false h; omega
  subst hke
  repeat' (first | refine zh ?_ | apply zb ?_ ?_ | exact zc | (refine zi fun hb => ?_; try simp at hb) | intro (bk : Nat))
  refine HR.ret Tryz.func144 I [_] (fun _ _ => ⟨I, trivial⟩) ?_
  refine fun w' hw => ⟨?_, hw.belowB⟩
  rw [hpe]
  simp only [resV, Int.toNat_natCast, Int.natCast_pow]
  rfl
theorem r10check_any (l : List Li) (v : Value) (w : World) (hv : Sl w v (cellsOf liC l) l.length) (hl : l.length ≤ 1000) :
  Calls Tryz.prog 66 #[v] w fun e w' => e = .returned (.int .i64 (lchk l)) ∧ Below w.heap.size w w' := by
 refine calls_hr Tryz.func66 I (Nat.le_of_ble_eq_true I) ?_
 refine HR.sub (σ' := [(0, v)]) ⟨I, trivial⟩ ?_
 repeat' (first | refine zh ?_ | refine HL.lenR (Rd.arg hv) I I I ?_ | apply zb ?_ ?_ | exact zc | (refine zi fun hb => ?_; try simp at hb) | intro (bk : Nat))
 refine HR.cond I (fun h => ?_) (fun h => ?_)
 ·have h : l.length > 24 := by have := of_decide_eq_true h; omega
  repeat' (first | refine zh ?_ | apply zb ?_ ?_ | exact zc | (refine zi fun hb => ?_; try simp at hb) | intro (bk : Nat))
  refine HR.ret Tryz.func66 I [_] (fun _ _ => ⟨I, trivial⟩) ?_
  exact fun w' hw => ⟨by rw [lchk, if_pos h]; rfl, hw.belowB⟩
 have h : l.length ≤ 24 := by have := of_decide_eq_false h; omega
 repeat' (first | refine zh ?_ | apply zb ?_ ?_ | exact zc | (refine zi fun hb => ?_; try simp at hb) | intro (bk : Nat))
 refine HR.loop (ι := Nat) (fun k => k ≤ l.length ∧ firstE (lbad l) k = 0) (fun k => [(0, v), (3, .int .i64 (k : Int))]) (fun _ => []) (fun k => l.length - k) 0 ⟨Nat.zero_le _, rfl⟩ ⟨I, I, trivial⟩ Ent.refl ?_
 rintro k ⟨hk, hg⟩ ih
 repeat' (first | refine zh ?_ | refine HL.lenR (Rd.arg hv) I I I ?_ | apply zb ?_ ?_ | exact zc | (refine zi fun hb => ?_; try simp at hb) | intro (bk : Nat))
 refine HR.cond I (fun h2 => ?_) (fun h2 => ?_)
 ·have hlt : k < l.length := by have := of_decide_eq_true h2; omega
  obtain ⟨x, hx⟩ := getSome hlt
  repeat' (first | refine zh ?_ | refine HL.idxR (Rd.arg hv) elemLi k I I I I hlt ?_ | refine HL.loadE (Rd.arg hv) I I I I (by simp) I (cellsOf_get liC_len hx) ?_ | intro (bk : Nat))
  refine HR.regionQ hmix (by kernel_rfl) ?_
  repeat' (first | refine zq ?_ | refine HQ.callB fn144 I I (fun w _ => rpower_any x.ct w (by omega)) ?_ | apply zb ?_ ?_ | exact zc | (refine zi fun hb => ?_; try simp at hb))
  refine HR.cond I (fun h3 => ?_) (fun h3 => ?_)
  ·have h3 : lrange x = true := h3
   repeat' (first | refine zh ?_ | apply zb ?_ ?_ | exact zc | (refine zi fun hb => ?_; try simp at hb) | intro (bk : Nat))
   refine HR.ret Tryz.func66 I [_] (fun _ _ => ⟨I, trivial⟩) ?_
   refine fun w' hw => ⟨?_, hw.belowB⟩
   have e := lbad_range hx h3
   rw [lchk_at h hg (by rw [e]; decide) hlt, e]; rfl
  have h3 : lrange x = false := h3
  obtain ⟨y, hy⟩ := getSome (l := l) (j := k - 1) (by omega)
  repeat' (first | refine zh ?_ | apply zb ?_ ?_ | exact zc | (refine zi fun hb => ?_; try simp at hb) | intro (bk : Nat))
  refine HR.regionQ hmix (by kernel_rfl) ?_
  repeat' (first | refine zq ?_ | refine HQ.idxR (Rd.arg hv) elemLi (k - 1) I I I (by omega) (by omega) ?_ | refine HQ.fieldE (Rd.arg hv) (by rw [cellsOf_len liC_len]; omega) I I I I I I ?_ | refine HQ.loadI (Rd.arg hv) I I I I (cells_get liC_len hy (i := 0) I) ?_ | apply zb ?_ ?_ | exact zc | (refine zi fun hb => ?_; try simp at hb))
  refine HR.cond I (fun h4 => ?_) (fun h4 => ?_)
  ·have h4 : (decide ((k : Int) > 0) && decide (y.nd ≥ x.nd)) = true := h4
   simp only [Bool.and_eq_true, decide_eq_true_eq] at h4
   repeat' (first | refine zh ?_ | apply zb ?_ ?_ | exact zc | (refine zi fun hb => ?_; try simp at hb) | intro (bk : Nat))
   refine HR.ret Tryz.func66 I [_] (fun _ _ => ⟨I, trivial⟩) ?_
   refine fun w' hw => ⟨?_, hw.belowB⟩
   have e := lbad_order hx h3 (by omega) hy h4.2
   rw [lchk_at h hg (by rw [e]; decide) hlt, e]; rfl
  ·have h4 : (decide ((k : Int) > 0) && decide (y.nd ≥ x.nd)) = false := h4
   repeat' (first | refine zh ?_ | apply zb ?_ ?_ | exact zc | (refine zi fun hb => ?_; try simp at hb) | intro (bk : Nat))
   refine ih (k + 1) _ _ ⟨hlt, firstE_step hg (lbad_ok hx h3 fun y' h0 hy' hle => ?_)⟩ (by omega) ⟨I, I, trivial⟩ (Ent.pick [] I I)
   rw [hy] at hy'
   cases hy'
   rw [decide_eq_true (show (k : Int) > 0 by omega), decide_eq_true (show y.nd ≥ x.nd from hle)] at h4
   cases h4
 ·have hke : k = l.length := by have := of_decide_eq_false h2; omega
  subst hke
  repeat' (first | refine zh ?_ | apply zb ?_ ?_ | exact zc | (refine zi fun hb => ?_; try simp at hb) | intro (bk : Nat))
  refine HR.ret Tryz.func66 I [_] (fun _ _ => ⟨I, trivial⟩) ?_
  exact fun w' hw => ⟨by rw [lchk, if_neg (by omega), hg]; rfl, hw.belowB⟩
theorem r10valid_any (l : List Li) (v : Value) (w : World) (hv : Sl w v (cellsOf liC l) l.length) (hl : l.length ≤ 1000) :
  Calls Tryz.prog 157 #[v] w fun e w' => ∃ v', e = .returned v' ∧ Sat (base w) [ownC v' 129 3 (lval l).length (cellsOf liC (lval l))] w' := by
 refine calls_hr Tryz.func157 I (Nat.le_of_ble_eq_true I) ?_
 refine HR.sub (σ' := [(0, v)]) ⟨I, trivial⟩ ?_
 repeat' (first | refine zh ?_ | refine HL.callB fn66 I I (fun w hw => r10check_any l v w ((Rd.arg hv).at hw) hl) ?_ | apply zb ?_ ?_ | exact zc | (refine zi fun hb => ?_; try simp at hb) | intro (bk : Nat))
 refine HR.cond I (fun h => ?_) (fun h => ?_)
 ·have h : ¬ lchk l = 0 := by simpa using h
  repeat' (first | refine zh ?_ | apply zb ?_ ?_ | exact zc | (refine zi fun hb => ?_; try simp at hb) | intro (bk : Nat))
  refine HR.nilC 129 3 ?_
  refine HR.ret Tryz.func157 I [_] (fun _ _ => ⟨I, trivial⟩) ?_
  exact fun w' hw => ⟨.slice none 0 0, rfl, by rw [lval, if_neg h]; exact hw⟩
 ·have h : lchk l = 0 := by simpa using h
  have h24 := (lchk_asc h).1
  repeat' (first | refine zh ?_ | refine HL.bslice0 elemLi I ?_ | apply zb ?_ ?_ | exact zc | (refine zi fun hb => ?_; try simp at hb) | intro (bk : Nat))
  intro v1
  repeat' (first | refine zh ?_ | refine HL.appR 0 I elemLi (Rd.arg hv) I I I (cellsOf_len liC_len _) (one_allcells liC_one _) (by omega) (by omega) ?_ | apply zb ?_ ?_ | exact zc | (refine zi fun hb => ?_; try simp at hb) | intro (bk : Nat))
  intro v2
  repeat' (first | refine zh ?_ | apply zb ?_ ?_ | exact zc | (refine zi fun hb => ?_; try simp at hb) | intro (bk : Nat))
  refine HR.ret Tryz.func157 I [_] (fun _ _ => ⟨I, trivial⟩) ?_
  refine fun w' hw => ⟨v2, rfl, Ent.own0 ?_ ?_ w' hw⟩
  ·rw [lval, if_pos h]; omega
  ·rw [lval, if_pos h]; rfl
end Go.Proofs.YtgdgclmkpoaagaaGreat
