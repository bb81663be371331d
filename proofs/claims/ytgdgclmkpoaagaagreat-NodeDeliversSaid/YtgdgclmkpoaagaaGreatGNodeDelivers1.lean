/- A part of the proof: contracts of the program's functions. Conditions: none. -/
import Derived.Carry
import Derived.Deep.MidRow
import Derived.Deep.Quiet
import Derived.Laws.IdiomRangeMap
import Derived.Laws.MakeOwn
import Derived.Laws.StructEq
import Derived.Laws.Tables
import Derived.Lib.AppendStr
import Derived.Lib.AppendZerosOnto
import Derived.Lib.OthersKept
import Derived.Lib.Overlaps
import Derived.Lib.OwnBridge
import Derived.Lib.SlicesCompact
import Derived.MapKept
import Derived.Orders
import Derived.OrdersHeld
import Derived.Scope
import Derived.Sort.Grow
import Derived.StillTail
import Derived.Test.YtgdgclmkpoaagaaGreatProg
import Derived.Test.YtgdgclmkpoaagaaGreatShelf
import Derived.WalkKit
import Derived.WalkLawsBesides
import Derived.WalkSpells
import Derived.Test.YtgdgclmkpoaagaaGreatGB1
import Derived.Test.YtgdgclmkpoaagaaGreatGB2
import Derived.Test.YtgdgclmkpoaagaaGreatGB3
import Derived.Test.YtgdgclmkpoaagaaGreatGB4
import Derived.Test.YtgdgclmkpoaagaaGreatGB5
import Derived.Test.YtgdgclmkpoaagaaGreatGB6
import Derived.Test.YtgdgclmkpoaagaaGreatGB7
import Derived.Test.YtgdgclmkpoaagaaGreatGB8
set_option linter.unusedVariables false
set_option linter.unusedSectionVars false
set_option linter.unusedSimpArgs false
set_option maxRecDepth 100000
set_option maxHeartbeats 4000000
namespace Go.GX
open Go.RowKit
section
variable {P : Program} {f : FuncId} {N : Nat} {k : List Item} {σ : Store} {B : Base} {H H' F : List Chunk} {R : Ending → World → Prop} {ops l : List Oper} {o : Oper} {K : Act → World → Prop} {KQ : Act → Prop} {C : World → Prop}
 {d : Nat} {op : Op} {ty : TypeId} {pos : String} {af : Array Edge} {gd : Option (Nat × Bool)} {v u : Value} {w : World} {d' : Option Tmp} {p : List (Nat × Bool)} {i : Nat} {S : World → Prop}
theorem Rd.blk {b n : Nat} {T : TypeId} {cs : List Value} (i : Nat) (hi : nthC H i = some (blkC b cs T)) : Rd B H (.slice (some ⟨b, 0, none⟩) n n) cs n := by
 intro w hw
 have hb : Blk w b cs T := hw.nth hi
 refine ⟨.inr ⟨b, 0, n, rfl, fun j u hu => ?_⟩, _, _, rfl, Nat.le_refl _⟩
 rw [Nat.zero_add, hb.cell]; exact hu
end
end Go.GX
namespace Nd
open Go.GX Tp
def lforget (l : List Li) (n : Int) : List Li := (lval l).filter fun x => !(x.nd == n)
def rbump (t : List Ro) (self : Int) : List Ro := match rat (rtab t self) (lim self) with
 | some r => if r.sq < 65534 then (rtab t self).set (rpos (rtab t self) (lim self)) ⟨r.dest, r.sq + 2, r.cost, r.nx⟩ else rtab t self
 | none => rtab t self
def rbrk (t : List Ro) (self next : Int) : List Ro :=
 (rtab t self).map fun r => if okN next = true ∧ r.nx = next ∧ r.dest ≠ lim self then ⟨r.dest, r.sq + 1, 255, 255⟩ else r
def mtick1 (s : Sn) : Sn := if s.wt > 0 then ⟨s.f, s.tr, s.wt - 1⟩ else s
def mtick (q : List Sn) : List Sn := (q.take 16).map mtick1
def pexp (l : List Pt) (now life : Int) : List Pt := (porder l).filter fun p => decide (tick now - p.si ≤ tick life)
def take (n : Nd) : Nd × List De := ({ order n with inbox := [] }, (order n).inbox)
def number (n : Nd) : Int := match rat n.table n.addr with
 | some r => r.sq
 | none => 0
def waits (n : Nd) (k : Int) : Bool := n.out.any fun x => x.f.kd == k
def stale (x : Sn) : Bool := (x.f.kd == 2) && !(x.f.dst == 255) && decide (x.tr > 0)
def asleep (n : Nd) (now : Int) : Nd := ((n.out.filter stale).map (·.f)).foldl (fun n f => box n f now) { n with out := n.out.filter fun x => !stale x }
def beaconF (n : Nd) : Fr := ⟨1, n.addr, 255, n.addr, 255, number n, 0, false, renc n.table⟩
def pollF (n : Nd) : Fr := ⟨3, n.addr, n.parent, n.addr, n.parent, number n, 0, true, []⟩
def bumped (n : Nd) : Nd := { n with table := rbump n.table n.addr }
def beacon (n : Nd) : Nd := if waits n 1 = false ∧ n.out.length < 16 then (queue (bumped n) (beaconF (bumped n))).1 else bumped n
def poll (n : Nd) : Nd := if waits n 3 = false then (queue (bumped n) (pollF (bumped n))).1 else bumped n
def tickN (n : Nd) (now : Int) : Nd :=
 let s := order n
 let a := asleep { s with out := mtick s.out, boxes := bexp s.boxes (tick now) 120, parts := pexp s.parts (tick now) 120 } (tick now)
 let b := if a.poll = 0 ∧ tick now % 8 = a.addr % 8 then beacon a else a
 if b.poll > 0 ∧ b.parent ≠ 255 ∧ tick now % b.poll = 0 then poll b else b
def giveUp (n : Nd) (to : Int) : Nd :=
 if okN to = false then lose n
 else { lose n with table := rbrk n.table n.addr to, links := lforget n.links to, children := n.children.filter fun c => !(c == to), parent := if n.parent = to then 255 else n.parent }
def hits (f : Fr) (x : Sn) : Bool := (x.f.kd == f.kd) && (x.f.so == f.so) && (x.f.sq == f.sq)
def result (n : Nd) (f : Fr) (ok : Bool) : Nd :=
 let s := order n
 match s.out.findIdx? (hits f) with
 | none => s
 | some i =>
  let a := { s with out := (mres s.out i ok).1 }
  let b := if okN f.dst then { a with links := lseen a.links f.dst ok } else a
  if (mres s.out i ok).2 then giveUp b f.dst else b
end Nd
namespace Nd
open Go.GX Tp
theorem Tab.get {t : List Ro} {self : Int} (h : Tab self t) : ∃ r, rat t self = some r ∧ r.dest = self ∧ r.cost = 0 ∧ r.nx = self := by
 obtain ⟨r, hr, he⟩ := List.any_eq_true.1 h.own
 obtain ⟨x, hx⟩ : ∃ x, rat t self = some x := by
  cases hf : rat t self with
  | some x => exact ⟨x, rfl⟩
  | none => exact absurd he (by simpa using List.find?_eq_none.1 hf r hr)
 have hxd : x.dest = self := by simpa using List.find?_some hx
 have hform := h.form x (List.mem_of_find?_eq_some hx)
 rw [rform, if_pos hxd] at hform
 simp only [Bool.not_eq_false', Bool.and_eq_true, beq_iff_eq] at hform
 exact ⟨x, hx, hxd, hform.1, hform.2⟩
end Nd
namespace Nd
open Go.GX Tp
theorem lforget_is {l : List Li} {n : Int} {x : Li} (hx : (lval l)[lpos (lval l) n]? = some x) (hn : x.nd = n) : lforget l n = (lval l).eraseIdx (lpos (lval l) n) := by
 obtain ⟨A, C, s⟩ := (lval_asc l).split n
 have hl : lpos (lval l) n = A.length := by unfold lpos; rw [s.tw]
 have hA : A.filter (fun x => !(x.nd == n)) = A := List.filter_eq_self.2 fun a ha => by have := s.lo a ha; simp; omega
 rcases s.hi with ⟨h3, h4⟩ | ⟨y, D, rfl, hy, h3, h4⟩
 ·have := ((lval_asc l).pos_is hx hn).2
  rw [h3] at this; cases this
 ·have hC : (y :: D).filter (fun x => !(x.nd == n)) = D := by
   rw [List.filter_cons_of_neg (by simp [hy])]
   exact List.filter_eq_self.2 fun a ha => by have := h4 a ha; simp; omega
  unfold lforget
  rw [hl, s.eq, List.filter_append, hA, hC]
  simp [List.eraseIdx_append_of_length_le]
theorem lforget_no {l : List Li} {n : Int} (h : lat (lval l) n = none) : lforget l n = lval l :=
 List.filter_eq_self.2 fun a ha => by
  have := List.find?_eq_none.1 h a ha
  simpa using this
end Nd
namespace Nd
open Go.GX Tp
theorem last_id {α : Type} {n : Nat} {l : List α} (h : l.length ≤ n) : last n l = l := by
 unfold last; rw [show l.length - n = 0 by omega]; rfl
end Nd
namespace Nd
open Go.GX Tp
end Nd
namespace Nd
open Go.GX Tp
theorem rbump_has {t : List Ro} {self : Int} {x : Ro} (hx : (rtab t self)[rpos (rtab t self) (lim self)]? = some x) (hd : x.dest = lim self) : rbump t self = if x.sq < 65534 then (rtab t self).set (rpos (rtab t self) (lim self)) ⟨x.dest, x.sq + 2, x.cost, x.nx⟩ else rtab t self := by
 have := ((rtab_tab t self).asc.pos_is hx hd).2
 unfold rbump rat; rw [this]
theorem rtab_get (t : List Ro) (self : Int) : ∃ x, (rtab t self)[rpos (rtab t self) (lim self)]? = some x ∧ x.dest = lim self ∧ rat (rtab t self) (lim self) = some x := by
 obtain ⟨x, h1, h2, _⟩ := (rtab_tab t self).get
 exact ⟨x, ((rtab_tab t self).asc.pos h1).1, h2, h1⟩
def brk1 (self next : Int) (r : Ro) : Ro := if okN next = true ∧ r.nx = next ∧ r.dest ≠ lim self then ⟨r.dest, r.sq + 1, 255, 255⟩ else r
theorem rbrk_map (t : List Ro) (self next : Int) : rbrk t self next = (rtab t self).map (brk1 self next) := rfl
theorem map_part {α : Type} (f : α → α) {l : List α} {k : Nat} {x : α} (hx : l[k]? = some x) : ((l.take k).map f ++ l.drop k).set k (f x) = (l.take (k + 1)).map f ++ l.drop (k + 1) := by
 have hl : ((l.take k).map f).length = k := by
  have := (List.getElem?_eq_some_iff.1 hx).1
  simp; omega
 rw [drop_get hx, Nd.set_mid hl, take_succ_get hx]; simp
theorem map_part_same {α : Type} (f : α → α) {l : List α} {k : Nat} {x : α} (hx : l[k]? = some x) (hf : f x = x) : (l.take k).map f ++ l.drop k = (l.take (k + 1)).map f ++ l.drop (k + 1) := by
 rw [drop_get hx, take_succ_get hx]; simp [hf]
theorem map_part_get {α : Type} (f : α → α) {l : List α} {k : Nat} {x : α} (hx : l[k]? = some x) : ((l.take k).map f ++ l.drop k)[k]? = some x := by
 have hl : ((l.take k).map f).length = k := by
  have := (List.getElem?_eq_some_iff.1 hx).1
  simp; omega
 rw [drop_get hx]; exact get_mid hl
theorem map_part_len {α : Type} (f : α → α) (l : List α) (k : Nat) : ((l.take k).map f ++ l.drop k).length = l.length := by simp; omega
end Nd
namespace Go.Proofs.YtgdgclmkpoaagaaGreat
open Go.GX Go.RowKit
attribute [local irreducible] Calls Run RunL RunQ RunD HR HL HD blkC ownC Rd
open Nd
theorem fn165 : IsFn Tryz.prog 165 := ⟨⟨_, _, Tryz.func165, rfl, by decide⟩⟩
theorem fn151 : IsFn Tryz.prog 151 := ⟨⟨_, _, Tryz.func151, rfl, by decide⟩⟩
theorem rbump_any (t : List Ro) (self : Int) (v : Value) (w : World) (hv : Sl w v (cellsOf roC t) t.length) (hl : t.length ≤ 1000) :
  Calls Tryz.prog 165 #[v, .int .i64 self] w fun e w' => ∃ v', e = .returned v' ∧ Sat (base w) [ownC v' 79 4 (rbump t self).length (cellsOf roC (rbump t self))] w' := by
 have ht := rtab_tab t self
 obtain ⟨x, hx, hd, hat⟩ := rtab_get t self
 have hxo := rrange_ok (ht.rng x (List.mem_of_getElem? hx))
 have hlt := (List.getElem?_eq_some_iff.1 hx).1
 have hrb := rbump_has hx hd
 have hhas := rhas_of hx hd
 have h24 := ht.len
 refine calls_hr Tryz.func165 I (Nat.le_of_ble_eq_true I) ?_
 refine HR.sub (σ' := [(0, v), (1, .int .i64 self)]) ⟨I, I, trivial⟩ ?_
 repeat' (first | refine zh ?_ | refine HL.callB fn147 I I (fun w _ => rlim_any self w) ?_ | intro (bk : Nat))
 repeat' (first | refine zh ?_ | refine HL.callO fn176 I I (fun w hw => sane_any t self v w ((Rd.arg hv).at hw) hl) ?_ | intro (bk : Nat))
 intro v1
 obtain ⟨T, hT⟩ : ∃ T, T = rtab t self := ⟨_, rfl⟩
 rw [← hT] at hx hlt hrb hhas h24 ⊢
 obtain ⟨P, hP⟩ : ∃ P, P = rpos T (lim self) := ⟨_, rfl⟩
 rw [← hP] at hx hlt hrb
 repeat' (first | refine zh ?_ | refine HL.callB fn206 I I (fun w hw => by have := rfind_any T (lim self) v1 w ((Rd.own 0 rfl).at hw) (by omega) (hT ▸ ht.asc) (hT ▸ rtab_okN) (lim_ok self); rw [hhas, ← hP] at this; exact this) ?_ | refine HL.idxR (Rd.own 0 I) elemRo P I I I I hlt ?_ | refine HL.fieldE (Rd.own 0 I) (by rw [cellsOf_len roC_len]; omega) I I I I I I ?_ | refine HL.loadI (Rd.own 0 I) I I I I (cells_get roC_len hx (i := 1) I) ?_ | intro (bk : Nat))
 refine HR.cond I (fun h => ?_) (fun h => ?_)
 ·have h : x.sq < 65534 := of_decide_eq_true h
  rw [if_pos h] at hrb
  repeat' (first | refine zh ?_ | refine HL.idxR (Rd.own 0 I) elemRo P I I I I hlt ?_ | refine HL.fieldE (Rd.own 0 I) (by rw [cellsOf_len roC_len]; omega) I I I I I I ?_ | refine HL.loadI (Rd.own 0 I) I I I I (cells_get roC_len hx (i := 1) I) ?_ | refine HL.storeE (j := P * 4 + 1) 0 I I I I I I I (by rw [cellsOf_len roC_len]; omega) ?_ | intro (bk : Nat))
  refine HR.ret Tryz.func165 I [_] (fun _ _ => ⟨I, trivial⟩) ?_
  refine fun w' hw => ⟨v1, rfl, Ent.own0 ?_ ?_ w' hw⟩
  ·rw [hrb, List.length_set]
  ·rw [hrb]; exact cells_set1 (i := 1) roC_len hx I (by decide)
 ·have h : ¬ x.sq < 65534 := of_decide_eq_false h
  rw [if_neg h] at hrb
  repeat' (first | refine zh ?_ | intro (bk : Nat))
  refine HR.ret Tryz.func165 I [_] (fun _ _ => ⟨I, trivial⟩) ?_
  refine fun w' hw => ⟨v1, rfl, ?_⟩
  rw [hrb]; exact hw
theorem rbrk_any (t : List Ro) (self next : Int) (v : Value) (w : World) (hv : Sl w v (cellsOf roC t) t.length) (hl : t.length ≤ 1000) :
  Calls Tryz.prog 151 #[v, .int .i64 self, .int .i64 next] w fun e w' => ∃ v', e = .returned v' ∧ Sat (base w) [ownC v' 79 4 (rbrk t self next).length (cellsOf roC (rbrk t self next))] w' := by
 have ht := rtab_tab t self
 have h24 := ht.len
 rw [rbrk_map]
 refine calls_hr Tryz.func151 I (Nat.le_of_ble_eq_true I) ?_
 refine HR.sub (σ' := [(0, v), (1, .int .i64 self), (2, .int .i64 next)]) ⟨I, I, I, trivial⟩ ?_
 repeat' (first | refine zh ?_ | refine HL.callB fn147 I I (fun w _ => rlim_any self w) ?_ | intro (bk : Nat))
 repeat' (first | refine zh ?_ | refine HL.callO fn176 I I (fun w hw => sane_any t self v w ((Rd.arg hv).at hw) hl) ?_ | intro (bk : Nat))
 intro v1
 have hrng := ht.rng
 obtain ⟨T, hT⟩ : ∃ T, T = rtab t self := ⟨_, rfl⟩
 rw [← hT] at h24 hrng ⊢
 repeat' (first | refine zh ?_ | refine HL.callB fn103 I I (fun w _ => rtnode_any next w) ?_ | intro (bk : Nat))
 refine HR.cond I (fun h0 => ?_) (fun h0 => ?_)
 ·have h0 : Tp.okN next = false := by simpa using h0
  repeat' (first | refine zh ?_ | intro (bk : Nat))
  refine HR.ret Tryz.func151 I [_] (fun _ _ => ⟨I, trivial⟩) ?_
  refine fun w' hw => ⟨v1, rfl, ?_⟩
  rw [show T.map (brk1 self next) = T from (List.map_congr_left fun a _ => by unfold brk1; rw [if_neg (by rw [h0]; simp)]; rfl).trans (List.map_id T)]
  exact hw
 have h0 : Tp.okN next = true := by simpa using h0
 repeat' (first | refine zh ?_ | refine HL.lenR (Rd.own 0 I) I I I ?_ | intro (bk : Nat))
 refine HR.loop (ι := Nat) (fun k => k ≤ T.length) (fun k => [(0, v1), (1, .int .i64 (lim self)), (2, .int .i64 next), (18, v1), (19, .int .i64 (T.length : Int)), (20, .int .i64 (k : Int))]) (fun k => [ownC v1 79 4 T.length (cellsOf roC ((T.take k).map (brk1 self next) ++ T.drop k))]) (fun k => T.length - k) 0 (Nat.zero_le _) ⟨I, I, I, I, I, I, trivial⟩ Ent.refl ?_
 intro k hk ih
 have hml := map_part_len (brk1 self next) T k
 repeat' (first | refine zh ?_ | intro (bk : Nat))
 refine HR.cond I (fun h2 => ?_) (fun h2 => ?_)
 ·have hlt : k < T.length := by have := of_decide_eq_true h2; omega
  obtain ⟨x, hx⟩ := getSome hlt
  have hmg := map_part_get (brk1 self next) hx
  have hms := map_part (brk1 self next) hx
  have hxo := rrange_ok (hrng x (List.mem_of_getElem? hx))
  repeat' (first | refine zh ?_ | refine HL.idxR (Rd.own 0 I) elemRo k I I I I hlt ?_ | refine HL.loadE (Rd.own 0 I) I I I I (by simp) I (cellsOf_get roC_len hmg) ?_ | intro (bk : Nat))
  repeat' (first | refine zh ?_ | apply zb ?_ ?_ | exact zc | (refine zi fun hb => ?_; try simp at hb) | intro (bk : Nat))
  refine HR.cond I (fun h3 => ?_) (fun h3 => ?_)
  ·have h3 : ((x.nx == next) && (x.dest != lim self)) = true := h3
   simp only [Bool.and_eq_true, beq_iff_eq, bne_iff_ne, ne_eq] at h3
   have hb : brk1 self next x = ⟨x.dest, x.sq + 1, 255, 255⟩ := by unfold brk1; rw [if_pos ⟨h0, h3.1, h3.2⟩]
   rw [hb] at hms
   repeat' (first | refine zh ?_ | refine HL.idxR (Rd.own 1 I) elemRo k I I I I hlt ?_ | refine HL.storeEs (us := roC ⟨x.dest, x.sq + 1, 255, 255⟩) (j := k * 4) 1 I I I I I I I (by rw [cellsOf_len roC_len, hml]; show k * 4 + 4 ≤ _; omega) (by simp) ?_ | apply zb ?_ ?_ | exact zc | (refine zi fun hb => ?_; try simp at hb) | intro (bk : Nat))
   refine ih (k + 1) _ _ hlt (by omega) ⟨I, I, I, I, I, I, trivial⟩ (Ent.trans (Ent.pick (H' := [ownC v1 79 4 T.length _]) [1] I I) (Ent.own0 I ?_))
   rw [← hms]
   exact cells_set (i := 0) roC_len hmg I (show 0 + 4 ≤ 4 by decide)
  ·have h3 : ((x.nx == next) && (x.dest != lim self)) = false := h3
   have hb : brk1 self next x = x := by
    unfold brk1
    rw [if_neg]
    rintro ⟨_, e1, e2⟩
    rw [show (x.nx == next) = true by simpa using e1, show (x.dest != lim self) = true by simpa using e2] at h3
    cases h3
   repeat' (first | refine zh ?_ | apply zb ?_ ?_ | exact zc | (refine zi fun hb => ?_; try simp at hb) | intro (bk : Nat))
   refine ih (k + 1) _ _ hlt (by omega) ⟨I, I, I, I, I, I, trivial⟩ (Ent.trans (Ent.pick [1] I I) (Ent.own0 I ?_))
   rw [map_part_same _ hx hb]
 ·have hke : k = T.length := by have := of_decide_eq_false h2; omega
  subst hke
  rw [List.take_length, List.drop_length, List.append_nil]
  repeat' (first | refine zh ?_ | intro (bk : Nat))
  refine HR.ret Tryz.func151 I [_] (fun _ _ => ⟨I, trivial⟩) ?_
  exact fun w' hw => ⟨v1, rfl, Ent.own0 (by simp) I w' hw⟩
end Go.Proofs.YtgdgclmkpoaagaaGreat
namespace Go.Proofs.YtgdgclmkpoaagaaGreat
open Go.GX Go.RowKit
attribute [local irreducible] Calls Run RunL RunQ RunD HR HL HD blkC ownC Rd
open Nd
theorem fn90 : IsFn Tryz.prog 90 := ⟨⟨_, _, Tryz.func90, rfl, by decide⟩⟩
theorem mtick_any (l : List Sn) (v : Value) (w : World) (hv : Sl w v (cellsOf snC l) l.length) (hl : l.length ≤ 1000) (hf : ∀ s ∈ l, fits .i64 s.wt) :
  Calls Tryz.prog 90 #[v] w fun e w' => ∃ v', e = .returned v' ∧ Sat (base w) [ownC v' 48 11 (mtick l).length (cellsOf snC (mtick l))] w' := by
 have hf16 : ∀ s ∈ l.take 16, fits .i64 s.wt := fun s hs => hf s (List.mem_of_mem_take hs)
 have h16 : (l.take 16).length ≤ 16 := by simp; omega
 unfold mtick
 refine calls_hr Tryz.func90 I (Nat.le_of_ble_eq_true I) ?_
 refine HR.sub (σ' := [(0, v)]) ⟨I, trivial⟩ ?_
 repeat' (first | refine zh ?_ | refine HL.callO fn146 I I (fun w hw => mqueue_any l v w ((Rd.arg hv).at hw) hl) ?_ | intro (bk : Nat))
 intro v1
 obtain ⟨T, hT⟩ : ∃ T, T = l.take 16 := ⟨_, rfl⟩
 rw [← hT] at hf16 h16 ⊢
 repeat' (first | refine zh ?_ | refine HL.lenR (Rd.own 0 I) I I I ?_ | intro (bk : Nat))
 refine HR.loop (ι := Nat) (fun k => k ≤ T.length) (fun k => [(3, v1), (8, .int .i64 (T.length : Int)), (9, .int .i64 (k : Int))]) (fun k => [ownC v1 48 11 T.length (cellsOf snC ((T.take k).map mtick1 ++ T.drop k))]) (fun k => T.length - k) 0 (Nat.zero_le _) ⟨I, I, I, trivial⟩ Ent.refl ?_
 intro k hk ih
 have hml := map_part_len mtick1 T k
 repeat' (first | refine zh ?_ | intro (bk : Nat))
 refine HR.cond I (fun h2 => ?_) (fun h2 => ?_)
 ·have hlt : k < T.length := by have := of_decide_eq_true h2; omega
  obtain ⟨x, hx⟩ := getSome hlt
  have hmg := map_part_get mtick1 hx
  have hms := map_part mtick1 hx
  have hxf : -9223372036854775808 ≤ x.wt ∧ x.wt ≤ 9223372036854775807 := hf16 x (List.mem_of_getElem? hx)
  repeat' (first | refine zh ?_ | refine HL.idxR (Rd.own 0 I) elemSn k I I I I hlt ?_ | refine HL.fieldE (Rd.own 0 I) (by rw [cellsOf_len snC_len, hml]; omega) I I I I I I ?_ | refine HL.loadI (Rd.own 0 I) I I I I (cells_get snC_len hmg (i := 10) I) ?_ | intro (bk : Nat))
  refine HR.cond I (fun h3 => ?_) (fun h3 => ?_)
  ·have h3 : x.wt > 0 := of_decide_eq_true h3
   have e : mtick1 x = ⟨x.f, x.tr, x.wt - 1⟩ := by unfold mtick1; rw [if_pos h3]
   rw [e] at hms
   repeat' (first | refine zh ?_ | refine HL.idxR (Rd.own 0 I) elemSn k I I I I hlt ?_ | refine HL.fieldE (Rd.own 0 I) (by rw [cellsOf_len snC_len, hml]; omega) I I I I I I ?_ | refine HL.loadI (Rd.own 0 I) I I I I (cells_get snC_len hmg (i := 10) I) ?_ | refine HL.storeE (j := k * 11 + 10) 0 I I I I I I I (by rw [cellsOf_len snC_len, hml]; omega) ?_ | intro (bk : Nat))
   refine ih (k + 1) _ _ hlt (by omega) ⟨I, I, I, trivial⟩ (Ent.own0 I ?_)
   rw [← hms]
   exact cells_set1 (i := 10) snC_len hmg I (by decide)
  ·have h3 : ¬ x.wt > 0 := of_decide_eq_false h3
   have e : mtick1 x = x := by unfold mtick1; rw [if_neg h3]
   repeat' (first | refine zh ?_ | intro (bk : Nat))
   refine ih (k + 1) _ _ hlt (by omega) ⟨I, I, I, trivial⟩ (Ent.own0 I ?_)
   rw [map_part_same _ hx e]
 ·have hke : k = T.length := by have := of_decide_eq_false h2; omega
  subst hke
  rw [List.take_length, List.drop_length, List.append_nil]
  repeat' (first | refine zh ?_ | intro (bk : Nat))
  refine HR.ret Tryz.func90 I [_] (fun _ _ => ⟨I, trivial⟩) ?_
  exact fun w' hw => ⟨v1, rfl, Ent.own0 (by simp) I w' hw⟩
end Go.Proofs.YtgdgclmkpoaagaaGreat
namespace Go.Proofs.YtgdgclmkpoaagaaGreat
open Go.GX Go.RowKit
attribute [local irreducible] Calls Run RunL RunQ RunD HR HL HD blkC ownC Rd
open Nd
theorem fn202 : IsFn Tryz.prog 202 := ⟨⟨_, _, Tryz.func202, rfl, by decide⟩⟩
theorem delLi_any (l : List Li) (i : Nat) (v : Value) (B0 : Base) (w : World) (hw0 : Sat B0 [ownC v 129 3 l.length (cellsOf liC l)] w) (hi : i < l.length) (hl : l.length ≤ 1000) :
  Calls Tryz.prog 202 #[v, .int .i64 (i : Int), .int .i64 ((i : Int) + 1)] w fun e w' => ∃ r : Value, e = .returned r ∧ True ∧ Sat ⟨w, feet [ownC v 129 3 l.length (cellsOf liC l)]⟩ [ownC r 129 3 (l.eraseIdx i).length (cellsOf liC (l.eraseIdx i))] w' := by
 obtain ⟨g, off, c, rfl, hnc, hcm⟩ := Vw.row (Sat.vw hw0 (i := 0) I) (by omega)
 have hcm : c ≤ 9223372036854775807 := hcm
 have hel : (l.eraseIdx i).length = l.length - 1 := List.length_eraseIdx_of_lt hi
 refine calls_hrW [ownC (.slice (some ⟨g, off, none⟩) l.length c) 129 3 l.length (cellsOf liC l)] (hw0) Tryz.func202 I (Nat.le_of_ble_eq_true I) ?_
 refine HR.sub (σ' := [(0, .slice (some ⟨g, off, none⟩) l.length c), (1, .int .i64 (i : Int)), (2, .int .i64 ((i : Int) + 1))]) ⟨I, I, I, trivial⟩ ?_
 repeat' (first | refine zh ?_ | refine HL.lenR (Rd.own 0 I) I I I ?_ | refine HL.cut i (i + 1) l.length I I I I (.inr ⟨_, _, rfl, rfl⟩) (.inr ⟨_, _, rfl, rfl⟩) (.inr ⟨_, _, rfl, rfl⟩) (by omega) (by omega) hnc ?_ | apply zb ?_ ?_ | exact zc | (refine zi fun hb => ?_; try simp at hb) | intro (bk : Nat))
 refine HR.setB 16 false I (by simp; omega) ?_
 repeat' (first | refine zh ?_ | refine HL.lenR (Rd.own 0 I) I I I ?_ | apply zb ?_ ?_ | exact zc | (refine zi fun hb => ?_; try simp at hb) | intro (bk : Nat))
 refine HR.regionD [(0, true), (1, true), (2, true), (3, true), (4, true), (5, true), (6, false), (7, true)] [] I I hmix (by kernel_rfl) ?_
 repeat' (first | refine HD.ev I I I ?_ | refine HD.evc I I I (by first | omega | (simp; done) | (simp; omega)) ?_ | refine HD.cut (sz := 3) 0 i c I I I I I (.inl ⟨rfl, rfl⟩) (.inr ⟨_, _, rfl, rfl⟩) (.inl ⟨rfl, rfl⟩) (by omega) (by omega) (by omega) ?_ | refine HD.cut (sz := 3) (i + 1) l.length c I I I I I (.inr ⟨_, _, rfl, rfl⟩) (.inl ⟨rfl, rfl, rfl⟩) (.inl ⟨rfl, rfl⟩) (by omega) (by omega) (by omega) ?_ | refine HD.L 0 I I I I I ?_ | refine HD.L 1 I I I I I ?_ | refine HD.L 2 I I I I I ?_ | refine HD.L 3 I I I I I ?_ | refine HD.build I I I ?_ | refine HD.field I I I ?_ | refine HD.skip I I I ?_ | refine HD.skipO I I I ?_ | (refine HD.one I ?_; first | refine HL.ev I I ?_ | refine HL.appSelf i (i + 1) 0 I elemLi I I I (by omega) (by omega) hnc (one_allcells liC_one _) ?_ | (refine HL.isLoad ?_; first | refine HL.L 0 I I I I ?_ | refine HL.L 1 I I I I ?_ | refine HL.L 2 I I I I ?_ | refine HL.L 3 I I I I ?_) | (refine HL.isStore ?_; first | refine HL.S 0 I I I I I ?_ | refine HL.S 1 I I I I I ?_ | refine HL.S 2 I I I I I ?_ | refine HL.S 3 I I I I I ?_) | (refine HL.alloc I I ?_; intro bk)) | refine HL.back [] rfl rfl ?_ | refine HD.nil ?_)
 have hx : (cellsOf liC l).take (i * 3) ++ (cellsOf liC l).drop ((i + 1) * 3) ++ (cellsOf liC l).drop (i * 3 + (l.length - (i + 1)) * 3) = cellsOf liC (l.eraseIdx i) ++ (cellsOf liC l).drop ((l.length - 1) * 3) := by
  rw [cellsOf_take liC_len, cellsOf_drop liC_len, ← cellsOf_app, List.eraseIdx_eq_take_drop_succ]
  congr 2
  omega
 refine HR.ent (Ent.own0 I hx) ?_
 refine HR.setV 0 (v' := .slice (some ⟨g, off, none⟩) (l.length - 1) c) I (by rw [show i + (l.length - (i + 1)) = l.length - 1 by omega]) ?_
 refine HR.setV 7 (v' := .int .i64 (l.length : Int)) I I ?_
 repeat' (first | refine zh ?_ | refine HL.cut (sz := 3) (l.length - 1) l.length c I I I I (.inr ⟨_, _, rfl, rfl⟩) (.inr ⟨_, _, rfl, rfl⟩) (.inl ⟨rfl, rfl⟩) (by omega) hnc (Nat.le_refl _) ?_ | intro (bk : Nat))
 refine HL.setHd (cutV_lit (by omega)) ?_
 refine HL.clearO (l.length - 1) 0 I I I I I I (by decide) I (by omega) ?_
 repeat' (first | refine zh ?_ | apply zb ?_ ?_ | exact zc | (refine zi fun hb => ?_; try simp at hb) | intro (bk : Nat))
 refine HR.ret Tryz.func202 I [_] (fun _ _ => ⟨I, trivial⟩) ?_
 have hcl : (cellsOf liC (l.eraseIdx i)).length = (l.length - 1) * 3 := by rw [cellsOf_len liC_len, hel]
 refine fun w' hw => ⟨_, rfl, trivial, ?_⟩
 rw [hel]
 refine Sat.cutK hw (by omega) ?_
 rw [List.take_append_of_le_length (by simp [hcl]), List.take_take, Nat.min_self, List.take_append_of_le_length (by omega), List.take_of_length_le (by omega)]
end Go.Proofs.YtgdgclmkpoaagaaGreat
namespace Go.GX
open Go.RowKit
section
variable {P : Program} {f : FuncId} {N : Nat} {k : List Item} {σ : Store} {B : Base} {H H0 : List Chunk} {R : Ending → World → Prop} {ops l : List Oper} {o : Oper} {K : Act → World → Prop}
variable {d : Nat} {d' : Option Nat} {ty : TypeId} {pos : String} {af : Array Edge} {gd : Option (Nat × Bool)} {u v : Value}
theorem hx_mkF {g : FuncId} {caps : List Operand} {vs : List Value} (hv : vals σ caps = some vs) (w : World) :
  (execOp (evO σ) ⟨d', .makeFunc (.func g) #[] caps.toArray, ty, pos, af, gd⟩).run P w = .ok (.value (.func (.func g) #[] vs.toArray)) w := by
 have := vals_eq hv
 simp only [execOp, List.map_toArray]
 rw [this]
 simp [Instr.makeFunc]
theorem HL.mkF {g : FuncId} {caps : List Operand} {vs : List Value} (hs : stat N ops ⟨some d, .makeFunc (.func g) #[] caps.toArray, ty, pos, af, gd⟩ σ = true) (hv : vals σ caps = some vs)
  (h : HL P N ops l ((d, .func (.func g) #[] vs.toArray) :: σ) B H K) : HL P N ops (⟨some d, .makeFunc (.func g) #[] caps.toArray, ty, pos, af, gd⟩ :: l) σ B H K :=
 HL.rd hs (fun w _ => hx_mkF hv w) h
end
end Go.GX
namespace Go.Proofs.YtgdgclmkpoaagaaGreat
open Go.GX Go.RowKit
attribute [local irreducible] Calls Run RunL RunQ RunD HR HL HD blkC ownC Rd
open Nd
theorem fn77 : IsFn Tryz.prog 77 := ⟨⟨_, _, Tryz.func77, rfl, by decide⟩⟩
theorem fn203 : IsFn Tryz.prog 203 := ⟨⟨_, _, Tryz.func203, rfl, by decide⟩⟩
theorem fn207 : IsFn Tryz.prog 207 := ⟨⟨_, _, Tryz.func207, rfl, by decide⟩⟩
theorem indexFSn_any (l : List Sn) (p : Sn → Bool) (g : FuncId) (caps : List Value) (v : Value) (w : World) (hg : IsFn Tryz.prog g) (hp : Asks Tryz.prog g caps (fun a => .agg ⟨snC a⟩) p l w) (hv : Sl w v (cellsOf snC l) l.length) (hl : l.length ≤ 1000000) :
  Calls Tryz.prog 77 #[v, .func (.func g) #[] caps.toArray] w fun e w' => e = .returned (.int .i64 (fidx p l)) ∧ Below w.heap.size w w' := by
 refine calls_hr Tryz.func77 I (Nat.le_of_ble_eq_true I) ?_
 refine HR.sub (σ' := [(0, v), (1, .func (.func g) #[] caps.toArray)]) ⟨I, I, trivial⟩ ?_
 repeat' (first | refine zh ?_ | refine HL.lenR (Rd.arg hv) I I I ?_ | intro (bk : Nat))
 refine HR.loop (ι := Nat) (fun k => k ≤ l.length ∧ ∀ j b, j < k → l[j]? = some b → p b = false) (fun k => [(0, v), (1, .func (.func g) #[] caps.toArray), (7, .int .i64 (l.length : Int)), (8, .int .i64 (k : Int))]) (fun _ => []) (fun k => l.length - k) 0 ⟨Nat.zero_le _, fun j b hj => absurd hj (Nat.not_lt_zero _)⟩ ⟨I, I, I, I, trivial⟩ Ent.refl ?_
 rintro k ⟨hk, hno⟩ ih
 repeat' (first | refine zh ?_ | intro (bk : Nat))
 refine HR.cond I (fun h2 => ?_) (fun h2 => ?_)
 ·have hlt : k < l.length := by have := of_decide_eq_true h2; omega
  obtain ⟨x, hx⟩ := getSome hlt
  repeat' (first | refine zh ?_ | refine HL.idxR (Rd.arg hv) elemSn k I I I I hlt ?_ | refine HL.loadE (Rd.arg hv) I I I I (by simp) I (cellsOf_get snC_len hx) ?_ | refine HL.callV (caps := caps) hg I I I (fun w' hw => hp x (List.mem_of_getElem? hx) w' hw.belowB) ?_ | intro (bk : Nat))
  refine HR.cond I (fun h3 => ?_) (fun h3 => ?_)
  ·have h3 : p x = true := h3
   repeat' (first | refine zh ?_ | intro (bk : Nat))
   refine HR.ret Tryz.func77 I [_] (fun _ _ => ⟨I, trivial⟩) ?_
   rw [fidx_at hx h3 hno]
   exact fun w' hw => ⟨rfl, hw.belowB⟩
  ·have h3 : p x = false := h3
   repeat' (first | refine zh ?_ | intro (bk : Nat))
   refine ih (k + 1) _ _ ⟨hlt, fun j b hj hb => ?_⟩ (by omega) ⟨I, I, I, I, trivial⟩ Ent.refl
   by_cases e : j = k
   ·subst e; rw [hx] at hb; cases hb; exact h3
   ·exact hno j b (by omega) hb
 ·have hke : k = l.length := by have := of_decide_eq_false h2; omega
  subst hke
  rw [fidx_none hno]
  repeat' (first | refine zh ?_ | intro (bk : Nat))
  refine HR.ret Tryz.func77 I [_] (fun _ _ => ⟨I, trivial⟩) ?_
  exact fun w' hw => ⟨rfl, hw.belowB⟩
theorem contFSn_any (l : List Sn) (p : Sn → Bool) (g : FuncId) (caps : List Value) (v : Value) (w : World) (hg : IsFn Tryz.prog g) (hp : Asks Tryz.prog g caps (fun a => .agg ⟨snC a⟩) p l w) (hv : Sl w v (cellsOf snC l) l.length) (hl : l.length ≤ 1000000) :
  Calls Tryz.prog 207 #[v, .func (.func g) #[] caps.toArray] w fun e w' => e = .returned (.bool (l.any p)) ∧ Below w.heap.size w w' := by
 rw [← fidx_any]
 refine calls_hr Tryz.func207 I (Nat.le_of_ble_eq_true I) ?_
 refine HR.sub (σ' := [(0, v), (1, .func (.func g) #[] caps.toArray)]) ⟨I, I, trivial⟩ ?_
 repeat' (first | refine zh ?_ | intro (bk : Nat))
 refine HL.callB fn77 I I (fun w' hw => indexFSn_any l p g caps v w' hg (fun a ha w2 hb => hp a ha w2 (GX.Below.seq hw.belowB hb)) ((Rd.arg hv).at hw) hl) ?_
 repeat' (first | refine zh ?_ | intro (bk : Nat))
 refine HR.ret Tryz.func207 I [_] (fun _ _ => ⟨I, trivial⟩) ?_
 exact fun w' hw => ⟨rfl, hw.belowB⟩
theorem indexFI_any (l : List Int) (p : Int → Bool) (g : FuncId) (caps : List Value) (v : Value) (w : World) (hg : IsFn Tryz.prog g) (hp : Asks Tryz.prog g caps (fun a => .int .i64 a) p l w) (hv : Sl w v (cellsOf iC l) l.length) (hl : l.length ≤ 1000000) :
  Calls Tryz.prog 203 #[v, .func (.func g) #[] caps.toArray] w fun e w' => e = .returned (.int .i64 (fidx p l)) ∧ Below w.heap.size w w' := by
 refine calls_hr Tryz.func203 I (Nat.le_of_ble_eq_true I) ?_
 refine HR.sub (σ' := [(0, v), (1, .func (.func g) #[] caps.toArray)]) ⟨I, I, trivial⟩ ?_
 repeat' (first | refine zh ?_ | refine HL.lenR (Rd.arg hv) I I I ?_ | intro (bk : Nat))
 refine HR.loop (ι := Nat) (fun k => k ≤ l.length ∧ ∀ j b, j < k → l[j]? = some b → p b = false) (fun k => [(0, v), (1, .func (.func g) #[] caps.toArray), (7, .int .i64 (l.length : Int)), (8, .int .i64 (k : Int))]) (fun _ => []) (fun k => l.length - k) 0 ⟨Nat.zero_le _, fun j b hj => absurd hj (Nat.not_lt_zero _)⟩ ⟨I, I, I, I, trivial⟩ Ent.refl ?_
 rintro k ⟨hk, hno⟩ ih
 repeat' (first | refine zh ?_ | intro (bk : Nat))
 refine HR.cond I (fun h2 => ?_) (fun h2 => ?_)
 ·have hlt : k < l.length := by have := of_decide_eq_true h2; omega
  obtain ⟨x, hx⟩ := getSome hlt
  repeat' (first | refine zh ?_ | refine HL.idxR (Rd.arg hv) elemI k I I I I hlt ?_ | refine HL.loadI (Rd.arg hv) I I I I (cellsOf_get1 hx) ?_ | refine HL.callV (caps := caps) hg I I I (fun w' hw => hp x (List.mem_of_getElem? hx) w' hw.belowB) ?_ | intro (bk : Nat))
  refine HR.cond I (fun h3 => ?_) (fun h3 => ?_)
  ·have h3 : p x = true := h3
   repeat' (first | refine zh ?_ | intro (bk : Nat))
   refine HR.ret Tryz.func203 I [_] (fun _ _ => ⟨I, trivial⟩) ?_
   rw [fidx_at hx h3 hno]
   exact fun w' hw => ⟨rfl, hw.belowB⟩
  ·have h3 : p x = false := h3
   repeat' (first | refine zh ?_ | intro (bk : Nat))
   refine ih (k + 1) _ _ ⟨hlt, fun j b hj hb => ?_⟩ (by omega) ⟨I, I, I, I, trivial⟩ Ent.refl
   by_cases e : j = k
   ·subst e; rw [hx] at hb; cases hb; exact h3
   ·exact hno j b (by omega) hb
 ·have hke : k = l.length := by have := of_decide_eq_false h2; omega
  subst hke
  rw [fidx_none hno]
  repeat' (first | refine zh ?_ | intro (bk : Nat))
  refine HR.ret Tryz.func203 I [_] (fun _ _ => ⟨I, trivial⟩) ?_
  exact fun w' hw => ⟨rfl, hw.belowB⟩
end Go.Proofs.YtgdgclmkpoaagaaGreat
namespace Go.Proofs.YtgdgclmkpoaagaaGreat
open Go.GX Go.RowKit
attribute [local irreducible] Calls Run RunL RunQ RunD HR HL HD blkC ownC Rd
open Nd
theorem fn91 : IsFn Tryz.prog 91 := ⟨⟨_, _, Tryz.func91, rfl, by decide⟩⟩
end Go.Proofs.YtgdgclmkpoaagaaGreat
namespace Go.Proofs.YtgdgclmkpoaagaaGreat
open Go.GX Go.RowKit
attribute [local irreducible] Calls Run RunL RunQ RunD HR HL HD blkC ownC Rd
open Nd
theorem filt_take {α : Type} (p : α → Bool) {l : List α} {k : Nat} {x : α} (hx : l[k]? = some x) : (l.take (k + 1)).filter p = if p x = true then (l.take k).filter p ++ [x] else (l.take k).filter p := by
 rw [take_succ_get hx, List.filter_append]
 split
 ·rename_i h; rw [List.filter_cons_of_pos h]; rfl
 ·rename_i h; rw [List.filter_cons_of_neg h]; simp
theorem bexp_any (l : List Ma) (now life : Int) (v : Value) (w : World) (hv : Sl w v (cellsOf maC l) l.length) (hl : l.length ≤ 1000) :
  Calls Tryz.prog 91 #[v, .int .i64 now, .int .i64 life] w fun e w' => ∃ v', e = .returned v' ∧ Sat (base w) [ownC v' 73 10 (bexp l now life).length (cellsOf maC (bexp l now life))] w' := by
 have h16 : (l.take 16).length ≤ 16 := by simp; omega
 unfold bexp
 refine calls_hr Tryz.func91 I (Nat.le_of_ble_eq_true I) ?_
 refine HR.sub (σ' := [(0, v), (1, .int .i64 now), (2, .int .i64 life)]) ⟨I, I, I, trivial⟩ ?_
 repeat' (first | refine zh ?_ | intro (bk : Nat))
 refine HL.callX (r := fun v' : Value => v') (Q := fun v' => Sl w v' (cellsOf maC (l.take 16)) (l.take 16).length) (G := fun _ => []) fn161 I I (fun w1 _ => mbox_any l v w w1 hv) ?_
 intro vb hvb
 obtain ⟨T, hT⟩ : ∃ T, T = l.take 16 := ⟨_, rfl⟩
 rw [← hT] at h16 hvb ⊢
 repeat' (first | refine zh ?_ | refine HL.lenR (Rd.arg hvb) I I I ?_ | intro (bk : Nat))
 refine HR.nilC 73 10 ?_
 refine HR.loop2 (α := Nat) (β := Value) (fun k o => k ≤ T.length) (fun k o => [(1, .int .i64 now), (2, .int .i64 life), (7, o), (11, vb), (12, .int .i64 (T.length : Int)), (13, .int .i64 (k : Int))]) (fun k o => [ownC o 73 10 ((T.take k).filter fun m => !bold now life m).length (cellsOf maC ((T.take k).filter fun m => !bold now life m))]) (fun k _ => T.length - k) 0 (.slice none 0 0) (Nat.zero_le _) ⟨I, I, I, I, I, I, trivial⟩ (Ent.pick [0] I I) ?_
 rintro k o hk ih
 have hfl : ((T.take k).filter fun m => !bold now life m).length ≤ 16 := Nat.le_trans (List.length_filter_le _ _) (by simp; omega)
 repeat' (first | refine zh ?_ | intro (bk : Nat))
 refine HR.cond I (fun h2 => ?_) (fun h2 => ?_)
 ·have hlt : k < T.length := by have := of_decide_eq_true h2; omega
  obtain ⟨x, hx⟩ := getSome hlt
  have hft := filt_take (fun m => !bold now life m) hx
  repeat' (first | refine zh ?_ | refine HL.idxR (Rd.arg hvb) elemMa k I I I I hlt ?_ | refine HL.loadE (Rd.arg hvb) I I I I (by simp) I (cellsOf_get maC_len hx) ?_ | refine HL.callB fn162 I I (fun w _ => mexpired_any x now life w) ?_ | intro (bk : Nat))
  refine HR.cond I (fun h3 => ?_) (fun h3 => ?_)
  ·have h3 : (!bold now life x) = true := h3
   rw [if_pos h3] at hft
   repeat' (first | refine zh ?_ | refine HL.bslice elemMa I I I I I (by decide) (by decide) ?_ | intro (bk : Nat))
   intro va
   repeat' (first | refine zh ?_ | refine HL.appR 2 I elemMa (Rd.own 0 I) I I I I (allOne_spec I) (by omega) (by omega) ?_ | intro (bk : Nat))
   intro o2
   repeat' (first | refine zh ?_ | intro (bk : Nat))
   refine ih (k + 1) o2 _ _ hlt (by omega) ⟨I, I, I, I, I, I, trivial⟩ (Ent.trans (Ent.pick [2] I I) (Ent.own0 ?_ ?_))
   ·rw [hft]; simp
   ·rw [hft, cellsOf_app]; rfl
  ·have h3 : (!bold now life x) = false := h3
   rw [if_neg (by rw [h3]; decide)] at hft
   repeat' (first | refine zh ?_ | intro (bk : Nat))
   refine ih (k + 1) o _ _ hlt (by omega) ⟨I, I, I, I, I, I, trivial⟩ (Ent.trans (Ent.pick [1] I I) (Ent.own0 ?_ ?_))
   ·rw [hft]
   ·rw [hft]
 ·have hke : k = T.length := by have := of_decide_eq_false h2; omega
  subst hke
  rw [List.take_length]
  repeat' (first | refine zh ?_ | intro (bk : Nat))
  refine HR.ret Tryz.func91 I [_] (fun _ _ => ⟨I, trivial⟩) ?_
  exact fun w' hw => ⟨o, rfl, hw⟩
end Go.Proofs.YtgdgclmkpoaagaaGreat
namespace Nd
open Go.GX Tp
theorem rbump_tab {t : List Ro} {self : Int} (h : Tab self t) : Tab self (rbump t self) ∧ Kept t (rbump t self) := by
 unfold rbump
 rw [h.tab, lim_of h.ok]
 split
 ·rename_i r hr
  obtain ⟨h1, h2⟩ := rat_pos h.asc hr
  have hm := List.mem_of_getElem? h1
  split
  ·rename_i hlt
   have hk : Kept t (t.set (rpos t self) ⟨r.dest, r.sq + 2, r.cost, r.nx⟩) := by
    intro x hx
    obtain ⟨j, hj⟩ := List.getElem?_of_mem hx
    by_cases hji : j = rpos t self
    ·subst hji; rw [h1] at hj; cases hj
     exact ⟨_, List.mem_of_getElem? (List.getElem?_set_self (List.getElem?_eq_some_iff.1 h1).1), .inr ⟨rfl, .inl (by show r.sq + 2 > r.sq; omega)⟩⟩
    ·exact ⟨x, List.mem_of_getElem? (i := j) (by rw [List.getElem?_set_ne (Ne.symm hji)]; exact hj), .inl rfl⟩
   refine ⟨⟨by rw [List.length_set]; exact h.len, h.ok, fun x hx => ?_, asc_set h.asc h1 rfl, own_kept h.own hk, fun x hx => ?_⟩, hk⟩
   ·rcases List.mem_or_eq_of_mem_set hx with hx | rfl
    ·exact h.rng x hx
    ·have hg := h.rng r hm
     have hf := h.form r hm
     unfold rform at hf
     rw [if_pos h2] at hf
     simp only [Bool.not_eq_false', Bool.and_eq_true, beq_iff_eq] at hf
     have hs := h.ok
     rw [okN_iff] at hs
     unfold rrange usable fin at hg ⊢
     rw [hf.1, hf.2, h2] at hg ⊢
     simp only [h.ok] at hg ⊢
     simp at hg ⊢
     omega
   ·rcases List.mem_or_eq_of_mem_set hx with hx | rfl
    ·exact h.form x hx
    ·have hf := h.form r hm
     unfold rform at hf ⊢
     exact hf
  ·exact ⟨h, Kept.refl t⟩
 ·exact ⟨h, Kept.refl t⟩
theorem Ord.eq {n : Nd} (h : Ord n) : order n = n := by
 have e1 : clamp n.addr 0 250 = n.addr := by have := h.addr; rw [okN_iff] at this; unfold clamp; omega
 have e2 : (if n.poll < 1 then (0 : Int) else max n.poll 4) = n.poll := by have := h.poll; split <;> omega
 have e3 : (if okN n.parent = false ∨ n.parent = n.addr then (255 : Int) else n.parent) = n.parent := by
  rcases h.parent with e | ⟨h1, h2⟩
  ·split
   ·exact e.symm
   ·rfl
  ·rw [if_neg]
   rintro (h3 | h3)
   ·rw [h1] at h3; cases h3
   ·exact h2 h3
 have e4 : (if rchk n.table n.addr = 0 then n.table else [rown n.addr]) = n.table := if_pos h.table.chk
 have e5 : lval n.links = n.links := if_pos h.links
 have e6 : n.out.take 16 = n.out := List.take_of_length_le h.out
 have e7 : Nd.kids n.addr n.children = n.children := by
  refine asc_ext (kids_asc _ _).1 h.kids fun x => ?_
  rw [(kids_asc _ _).2 x]
  exact ⟨fun h => h.1, fun hx => ⟨hx, h.kid x hx⟩⟩
 have e8 : n.boxes.take 16 = n.boxes := List.take_of_length_le h.boxes
 have e9 : last 32 n.seen = n.seen := last_id h.seen
 have e10 : n.inbox.take 256 = n.inbox := List.take_of_length_le h.inbox
 have e11 : (if n.seq < 0 ∨ n.seq > 65535 then (0 : Int) else n.seq) = n.seq := by have := h.seq; split <;> omega
 have e12 : clamp n.lost 0 maxTick = n.lost := by have := h.lost; unfold clamp; omega
 unfold order
 simp only [e1, e2, e3, e4, e5, e6, e7, e8, e9, e10, e11, e12]
theorem Ord.setTable {n : Nd} (h : Ord n) {t : List Ro} (ht : Tab n.addr t) : Ord { n with table := t } := { h with table := ht }
theorem Ord.setLinks {n : Nd} (h : Ord n) {t : List Li} (ht : lchk t = 0) : Ord { n with links := t } := { h with links := ht }
theorem Ord.deliver {n : Nd} (h : Ord n) (d : De) : Ord (deliver n d) := by
 unfold Nd.deliver
 split
 ·exact h.lose
 ·exact { h with inbox := by show (n.inbox ++ [d]).length ≤ 256; simp; omega }
theorem box_table (n : Nd) (f : Fr) (now : Int) : (box n f now).table = n.table ∧ (box n f now).addr = n.addr := by
 unfold box; simp only; split <;> exact ⟨rfl, rfl⟩
theorem deliver_table (n : Nd) (d : De) : (deliver n d).table = n.table ∧ (deliver n d).addr = n.addr := by
 unfold deliver; split <;> exact ⟨rfl, rfl⟩
theorem sends_ord {target : Int} {ur : Bool} : ∀ {l : List By} {n m : Nd}, Ord n → sends target ur l n = some m → Ord m ∧ m.table = n.table ∧ m.addr = n.addr
 | [], n, m, h, e => by unfold sends at e; cases e; exact ⟨h, rfl, rfl⟩
 | p :: l, n, m, h, e => by
  unfold sends at e
  split at e
  ·have hq := h.queue (sendF n target ur p)
   have ht := queue_table n (sendF n target ur p)
   obtain ⟨g1, g2, g3⟩ := sends_ord (l := l) (show Ord { (queue n (sendF n target ur p)).1 with seq := (n.seq + 1) % 65536 } from { hq with seq := by show 0 ≤ (n.seq + 1) % 65536 ∧ (n.seq + 1) % 65536 ≤ 65535; omega }) e
   exact ⟨g1, g2.trans ht.1, g3.trans ht.2⟩
  ·cases e
theorem Good.refl {n : Nd} (h : Ord n) : Good n n := ⟨h, rfl, Kept.refl _⟩
theorem Good.trans {a b c : Nd} (h : Good a b) (h' : Good b c) : Good a c := ⟨h'.ord, h'.addr.trans h.addr, h.kept.trans h'.kept⟩
theorem Good.of_eq {n m : Nd} (h : Ord m) (h1 : m.table = n.table) (h2 : m.addr = n.addr) : Good n m := ⟨h, h2, by rw [h1]; exact Kept.refl _⟩
theorem Good.lose {n m : Nd} (h : Good n m) : Good n (lose m) := ⟨h.ord.lose, h.addr, h.kept⟩
theorem Good.queue {n m : Nd} (h : Good n m) (f : Fr) : Good n (queue m f).1 := h.trans (.of_eq (h.ord.queue f) (queue_table m f).1 (queue_table m f).2)
theorem Good.box {n m : Nd} (h : Good n m) (f : Fr) (now : Int) : Good n (box m f now) := h.trans (.of_eq (h.ord.box f now) (box_table m f now).1 (box_table m f now).2)
theorem Good.deliver {n m : Nd} (h : Good n m) (d : De) : Good n (deliver m d) := h.trans (.of_eq (h.ord.deliver d) (deliver_table m d).1 (deliver_table m d).2)
theorem Good.out {n m : Nd} (h : Good n m) {q : List Sn} (hq : q.length ≤ 16) : Good n { m with out := q } := ⟨h.ord.setOut hq, h.addr, h.kept⟩
theorem send_good {n : Nd} {target : Int} {ur : Bool} {text : By} (h : (send n target ur text).2 = 0) : Good (order n) (send n target ur text).1 := by
 have ho := order_ord n
 unfold send at h ⊢
 simp only at h ⊢
 split at h
 ·cases h
 ·rename_i h1
  rw [if_neg h1]
  split at h
  ·rename_i h2; exact absurd h h2
  ·rename_i h2
   rw [if_neg h2]
   split at h
   ·rename_i h3
    rw [if_pos h3]
    exact (Good.refl ho).deliver _
   ·rename_i h3
    rw [if_neg h3]
    split at h
    ·rename_i m hm
     obtain ⟨g1, g2, g3⟩ := sends_ord ho hm
     exact .of_eq g1 g2 g3
    ·cases h
theorem boxes_good {n : Nd} (now : Int) : ∀ (l : List Fr) {m : Nd}, Good n m → Good n (l.foldl (fun n f => box n f now) m)
 | [], _, h => h
 | f :: l, _, h => boxes_good now l (h.box f now)
theorem bumped_good {n m : Nd} (h : Good n m) : Good n (bumped m) := by
 obtain ⟨g1, g2⟩ := rbump_tab h.ord.table
 exact ⟨h.ord.setTable g1, h.addr, h.kept.trans g2⟩
theorem beacon_good {n m : Nd} (h : Good n m) : Good n (beacon m) := by
 unfold beacon; split
 ·exact (bumped_good h).queue _
 ·exact bumped_good h
theorem asleep_good {n m : Nd} (h : Good n m) (now : Int) : Good n (asleep m now) := by
 unfold asleep
 exact boxes_good now _ (h.out (Nat.le_trans (List.length_filter_le _ _) h.ord.out))
theorem mtick_len (q : List Sn) : (mtick q).length ≤ 16 := by unfold mtick; simp; omega
theorem advertised_good {n m : Nd} {f : Fr} (h : Good n m) (hf : okN f.fr = true) (hne : f.fr ≠ m.addr) : Good n (advertised m f) := by
 unfold advertised
 simp only
 have k1 : ∀ a : Nd, Good n a → a.addr = m.addr → Good n (if a.poll > 0 ∧ a.parent = 255 ∧ (rhop (rdec f.da).1 0).2 = true then { a with parent := f.fr } else a) := by
  intro a h2 e2
  split
  ·exact ⟨{ h2.ord with parent := .inr ⟨hf, fun e => hne (e.trans e2)⟩ }, h2.addr, h2.kept⟩
  ·exact h2
 have k2 : ∀ a : Nd, Good n a → a.addr = m.addr → Good n { a with table := rupd a.table a.addr f.fr (lcost a.links f.fr) (rdec f.da).1 } := by
  intro a h1 e1
  obtain ⟨g1, g2⟩ := rupd_tab (fr := f.fr) (cost := lcost a.links f.fr) (adv := (rdec f.da).1) h1.ord.table
  exact ⟨h1.ord.setTable g1, h1.addr, h1.kept.trans g2⟩
 have h1 : Good n { m with links := lseen m.links f.fr true } := ⟨h.ord.setLinks (lseen_ok _ _ _), h.addr, h.kept⟩
 split
 ·exact h1
 ·exact k1 _ (k2 _ h1 I) I
theorem drain_good {n : Nd} {fr now : Int} : ∀ (k : Nat) {m : Nd}, Good n m → Good n (drain fr now k m)
 | 0, _, h => h
 | k + 1, m, h => by
  unfold drain
  simp only
  have hb := (btake_len m.boxes fr now 120).1
  split
  ·exact drain_good k (Good.queue (m := { m with boxes := (btake m.boxes fr now 120).2.1 }) ⟨h.ord.setBoxes hb, h.addr, h.kept⟩ _)
  ·exact ⟨h.ord.setBoxes hb, h.addr, h.kept⟩
theorem polled_good {n m : Nd} {f : Fr} {now : Int} (h : Good n m) (hf : okN f.fr = true) (hne : f.fr ≠ m.addr) : Good n (polled m f now) := by
 unfold polled
 refine drain_good _ ?_
 obtain ⟨g1, g2⟩ := rupd_tab (fr := f.fr) (cost := 10) (adv := [⟨f.fr, f.sq, 0, 0⟩]) h.ord.table
 obtain ⟨c1, c2⟩ := child_asc h.ord.kids f.fr
 refine ⟨{ h.ord with table := g1, kids := c1, kid := fun x hx => ?_ }, h.addr, h.kept.trans g2⟩
 rcases (c2 x).1 hx with rfl | hx
 ·exact ⟨hf, hne⟩
 ·exact h.ord.kid x hx
theorem received_good {n m : Nd} {f : Fr} {now : Int} (h : Good n m) : Good n (received m f now) := by
 unfold received
 simp only
 have h1 : Good n { m with seen := (mfresh m.seen ⟨f.so, f.sq⟩).1 } := ⟨{ h.ord with seen := mfresh_len _ _ }, h.addr, h.kept⟩
 have hp : ∀ q, Good n { m with seen := (mfresh m.seen ⟨f.so, f.sq⟩).1, parts := q } := fun q => ⟨h1.ord.setParts q, h1.addr, h1.kept⟩
 split
 ·exact h1
 ·split
  ·split
   ·exact h1
   ·split
    ·exact (hp _).deliver _
    ·exact hp _
  ·split
   ·exact h1.lose
   ·exact h1.queue _
theorem hear_good (n : Nd) (now : Int) (f : Fr) : Good (order n) (hear n now f) := by
 have ho := Good.refl (order_ord n)
 unfold hear
 simp only
 split
 ·exact ho
 ·rename_i h1
  have hc : fchk f = 0 := by
   rcases Int.lt_trichotomy (fchk f) 0 with h | h | h
   ·exact absurd (Or.inl (by omega)) h1
   ·exact h
   ·exact absurd (Or.inl (by omega)) h1
  have hf := (fchk_fr hc).1
  have hne : f.fr ≠ (order n).addr := fun e => h1 (.inr (.inl e))
  split
  ·exact advertised_good ho hf hne
  ·split
   ·exact polled_good ho hf hne
   ·split
    ·exact received_good ho
    ·exact ho
end Nd
namespace Nd
open Go.GX Tp
theorem u8v {n : Int} (h : 0 ≤ n) (h2 : n ≤ 255) : ((u8 n).toNat : Int) = n := by
 unfold u8; rw [UInt8.toNat_ofNat']; omega
def nd (a : Int) : Nd := ⟨a, 0, 255, [rown a], [], [], [], [], [], [], [], 0, 0⟩
theorem new_is {a : Int} (h : okN a = true) : new a 0 = nd a := by
 have ha : clamp a 0 250 = a := lim_of h
 unfold new order
 simp only [ha]
 have h1 : rchk [] a = 8 := by unfold rchk; rw [h]; rfl
 rw [h1]
 rfl
theorem nd_ord {a : Int} (h : okN a = true) : Ord (nd a) := by rw [← new_is h]; exact order_ord _
def bea (b : Int) : Fr := ⟨1, b, 255, b, 255, 2, 0, false, [u8 b, 0, 2, 0]⟩
def ndT (b : Int) (o : List Sn) : Nd := ⟨b, 0, 255, [⟨b, 2, 0, b⟩], [], o, [], [], [], [], [], 0, 0⟩
theorem tick_small {n : Int} (h0 : 0 ≤ n) (h1 : n ≤ 1000) : tick n = n := by
 have : (1000 : Int) ≤ maxTick := by decide
 unfold tick clamp; omega
theorem tickN_new {b : Int} (h : okN b = true) : tickN (nd b) (b % 8) = ndT b [⟨bea b, 0, 0⟩] := by
 have hb := h
 rw [okN_iff] at hb
 have ht : tick (b % 8) = b % 8 := tick_small (by omega) (by omega)
 have hr : rtab [rown b] b = [rown b] := (rown_tab h).tab
 have hl := lim_of h
 have hbm : rbump [rown b] b = [⟨b, 2, 0, b⟩] := by
  unfold rbump
  rw [hr, hl]
  simp [rat, rown, rpos]
 have hu : usable ⟨b, 2, 0, b⟩ = true := by simp [usable, h, fin]
 have henc : renc [⟨b, 2, 0, b⟩] = [u8 b, 0, 2, 0] := by
  unfold renc
  simp [hu, renc1]
  decide
 unfold tickN
 rw [(nd_ord h).eq, ht]
 have ha : asleep { nd b with out := mtick (nd b).out, boxes := bexp (nd b).boxes (b % 8) 120, parts := pexp (nd b).parts (b % 8) 120 } (b % 8) = nd b := rfl
 have hw : beacon (nd b) = ndT b [⟨bea b, 0, 0⟩] := by
  have e : bumped (nd b) = ndT b [] := by
   unfold bumped
   show ({ nd b with table := rbump [rown b] b } : Nd) = _
   rw [hbm]; rfl
  unfold beacon
  rw [if_pos ⟨rfl, by show 0 < 16; decide⟩, e]
  have ef : beaconF (ndT b []) = bea b := by
   unfold beaconF
   show Ra.Fr.mk 1 b 255 b 255 (number (ndT b [])) 0 false (renc [⟨b, 2, 0, b⟩]) = _
   rw [henc]
   have : number (ndT b []) = 2 := by unfold number; simp [rat, ndT]
   rw [this]; rfl
  rw [ef]
  rfl
 have e1 : (if (nd b).poll = 0 ∧ b % 8 % 8 = (nd b).addr % 8 then beacon (nd b) else nd b) = ndT b [⟨bea b, 0, 0⟩] := (if_pos ⟨rfl, by show b % 8 % 8 = b % 8; omega⟩).trans hw
 simp only
 rw [ha, e1, if_neg]
 intro hh
 have : (0 : Int) > 0 := hh.1
 omega
theorem ndT_ord {b : Int} (h : okN b = true) {o : List Sn} (ho : o.length ≤ 16) : Ord (ndT b o) := by
 have hb := h
 rw [okN_iff] at hb
 have ht : Tab b [⟨b, 2, 0, b⟩] := by
  refine ⟨by simp, h, fun r hr => ?_, by simp [Asc], by simp, fun r hr => ?_⟩
  ·rw [List.mem_singleton] at hr
   subst hr
   simp [rrange, usable, fin, h]
  ·rw [List.mem_singleton] at hr
   subst hr
   simp [rform]
 exact { nd_ord h with table := ht, out := ho }
theorem talk_new {b : Int} (h : okN b = true) (now : Int) : talk (ndT b [⟨bea b, 0, 0⟩]) now = (ndT b [⟨bea b, 0, 0⟩], bea b, true) := by
 unfold talk
 rw [(ndT_ord h (by simp)).eq]
 rfl
theorem result_new {b : Int} (h : okN b = true) : result (ndT b [⟨bea b, 0, 0⟩]) (bea b) true = ndT b [] := by
 unfold result
 rw [(ndT_ord h (by simp)).eq]
 have : (ndT b [⟨bea b, 0, 0⟩]).out.findIdx? (hits (bea b)) = some 0 := by
  show List.findIdx? (hits (bea b)) [⟨bea b, 0, 0⟩] = some 0
  simp [hits, List.findIdx?_cons]
 simp only
 rw [this]
 rfl
def routeTo (b : Int) : Ro := ⟨b, 2, 10, b⟩
def tabTo (a b : Int) : List Ro := if a < b then [rown a, routeTo b] else [routeTo b, rown a]
theorem rhop_to {a b : Int} (hne : a ≠ b) : rhop (tabTo a b) b = (b, true) := by
 have e : rat (tabTo a b) b = some (routeTo b) := by
  unfold rat tabTo
  split <;> simp [rown, routeTo, hne]
 unfold rhop
 rw [e]
 simp [fin, routeTo]
theorem fchk_bea {b : Int} (h : okN b = true) : fchk (bea b) = 0 := by
 have hb := h
 rw [okN_iff] at hb
 unfold fchk
 rw [if_neg (by show ¬ ((1 : Int) < 1 ∨ (1 : Int) > 4); omega)]
 have h1 : frange (bea b) = false := by simp [frange, bea, h, okT]
 have h2 : fform (bea b) = true := by
  unfold fform bea
  simp; omega
 rw [h1, h2]
 simp [bea]
theorem hear_new {a b : Int} (ha : okN a = true) (hb : okN b = true) (hne : a ≠ b) (now : Int) : hear (nd a) now (bea b) = { nd a with links := [⟨b, 1, 1⟩], table := tabTo a b } := by
 have hb' := hb
 rw [okN_iff] at hb'
 unfold hear
 rw [(nd_ord ha).eq]
 simp only
 rw [if_neg, if_pos (show (bea b).kd = 1 from rfl)]
 ·unfold advertised
  have hl : lseen (nd a).links (bea b).fr true = [⟨b, 1, 1⟩] := by
   show lseen [] b true = _
   unfold lseen
   rw [if_neg (by omega)]
   rfl
  have hd1 : rdecs (bea b).da 1 = [⟨b, 2, 0, 255⟩] := by
   show [rdec1 (List.drop 0 [u8 b, 0, 2, 0])] = _
   unfold rdec1
   have : ((u8 b).toNat : Int) = b := u8v (by omega) (by omega)
   show [Ro.mk ((u8 b).toNat : Int) 2 0 255] = _
   rw [this]
  have hu : usable ⟨b, 2, 0, 255⟩ = true := by simp [usable, hb, fin]
  have hd : rdec (bea b).da = ([⟨b, 2, 0, 255⟩], 0) := by
   unfold rdec
   have e : (bea b).da.length = 4 := rfl
   rw [e]
   simp only [Nat.reduceMod, Nat.reduceDiv, ne_eq, not_true_eq_false, if_false]
   rw [hd1]
   have hz : firstE (dbad [⟨b, 2, 0, 255⟩]) 1 = 0 := by
    refine firstE_none fun k hk => ?_
    have : k = 0 := by omega
    subst this
    unfold dbad
    simp [hu]
   rw [hz]; rfl
  have hc : lcost [⟨b, 1, 1⟩] b = 10 := by
   have hv : lval [⟨b, 1, 1⟩] = [⟨b, 1, 1⟩] := by
    refine if_pos (lchk_of (by simp) (fun x hx => ?_) (by simp [Asc]))
    rw [List.mem_singleton] at hx; subst hx
    simp [lrange]; omega
   unfold lcost
   rw [hv]
   simp [lat]
   decide
  simp only
  rw [hl, hd]
  simp only [ne_eq, not_true_eq_false, if_false]
  have hup : rupd [rown a] a b 10 [⟨b, 2, 0, 255⟩] = tabTo a b := by
   unfold rupd
   rw [(rown_tab ha).tab, lim_of ha, if_neg (by rw [hb]; simp; omega)]
   show rstep a b 10 [rown a] ⟨b, 2, 0, 255⟩ = _
   unfold rstep
   rw [lim_of ha, if_neg (by rw [hu]; simp; omega)]
   have hra : radd b 10 ⟨b, 2, 0, 255⟩ = routeTo b := by
    unfold radd routeTo fin
    simp
   rw [hra]
   unfold rlearn
   have hn : rat [rown a] (routeTo b).dest = none := by simp [rat, rown, routeTo, hne]
   rw [hn]
   simp only
   have hf : fin (routeTo b) = true := by simp [fin, routeTo]
   rw [if_pos ⟨hf, by simp⟩]
   unfold tabTo rpos
   have e1 : (routeTo b).dest = b := rfl
   have e2 : (rown a).dest = a := rfl
   rw [e1]
   by_cases hab : a < b
   ·rw [if_pos hab, List.takeWhile_cons, e2, if_pos (by simpa using hab)]; rfl
   ·rw [if_neg hab, List.takeWhile_cons, e2, if_neg (by simpa using hab)]; rfl
  have hup' : rupd (nd a).table (nd a).addr (bea b).fr (lcost [⟨b, 1, 1⟩] (bea b).fr) [⟨b, 2, 0, 255⟩] = tabTo a b := by
   show rupd [rown a] a b (lcost [⟨b, 1, 1⟩] b) [⟨b, 2, 0, 255⟩] = _
   rw [hc]; exact hup
  rw [hup', if_neg]
  intro hh
  have : (0 : Int) > 0 := hh.1
  omega
 ·rw [fchk_bea hb]
  rintro (h | h | h)
  ·exact h I
  ·exact hne h.symm
  ·exact h.2 I
def pieceF (a b : Int) (ur : Bool) (s : By) (i : Nat) : Fr := ⟨2, a, 255, a, b, i, 0, ur, piece s 0 i⟩
def outs (a b : Int) (ur : Bool) (s : By) (i n : Nat) : List Sn := (List.range' i n).map fun k => ⟨pieceF a b ur s k, 0, 0⟩
theorem outs_ur {a b : Int} {ur : Bool} {s : By} {i n : Nat} : ∀ x ∈ outs a b ur s i n, x.f.ur = ur := by
 intro x hx
 obtain ⟨k, _, rfl⟩ := List.mem_map.1 hx
 rfl
theorem mput_outs {a b : Int} {ur : Bool} {s : By} {n : Nat} (hn : n < 16) : mput (outs a b ur s 0 n) (pieceF a b ur s n) = (outs a b ur s 0 (n + 1), true) := by
 have hl : (outs a b ur s 0 n).length = n := by simp [outs]
 have hs : outs a b ur s 0 (n + 1) = outs a b ur s 0 n ++ [⟨pieceF a b ur s n, 0, 0⟩] := by
  unfold outs
  rw [List.range'_concat]; simp
 unfold mput qput
 rw [List.take_of_length_le (by omega), hl, if_neg (show ¬ n = 16 by omega), if_neg (show ¬ n = 16 by omega), hs]
 have hu := outs_ur (a := a) (b := b) (ur := ur) (s := s) (i := 0) (n := n)
 cases ur
 ·rw [if_pos (show sur ⟨pieceF a b false s n, 0, 0⟩ = false from rfl)]
 ·rw [if_neg (by show ¬ true = false; decide)]
  have htw : ∀ l : List Sn, (∀ x ∈ l, x.f.ur = true) → l.takeWhile sur = l ∧ l.dropWhile sur = [] := by
   intro l
   induction l with
   | nil => intro _; exact ⟨rfl, rfl⟩
   | cons y l ih =>
    intro h
    have hy : sur y = true := h y (List.mem_cons_self ..)
    obtain ⟨i1, i2⟩ := ih fun x hx => h x (List.mem_cons_of_mem _ hx)
    rw [List.takeWhile_cons_of_pos hy, List.dropWhile_cons_of_pos hy, i1, i2]
    exact ⟨rfl, rfl⟩
  unfold ins
  rw [(htw _ hu).1, (htw _ hu).2]
def sent (m : Nd) (a b : Int) (ur : Bool) (s : By) (n : Nat) : Nd := { m with out := outs a b ur s 0 n, seq := n }
theorem sends_is {m : Nd} {a b : Int} {ur : Bool} {s : By} (ha : m.addr = a) {c : Nat} (hc : c ≤ 16) : ∀ (d n : Nat), n + d = c →
  sends b ur ((List.range' n d).map (piece s 0)) (sent m a b ur s n) = some (sent m a b ur s c)
 | 0, n, e => by
  have : n = c := by omega
  subst this; rfl
 | d + 1, n, e => by
  rw [List.range'_succ, List.map_cons]
  unfold sends
  have hf : sendF (sent m a b ur s n) b ur (piece s 0 n) = pieceF a b ur s n := by
   unfold sendF sent pieceF
   simp only [ha]
  have hq : queue (sent m a b ur s n) (pieceF a b ur s n) = ({ sent m a b ur s n with out := outs a b ur s 0 (n + 1) }, true) := by
   unfold queue
   have e : (sent m a b ur s n).out = outs a b ur s 0 n := rfl
   rw [e, mput_outs (by omega)]
   simp [outs]
  rw [hf, hq]
  simp only [if_true]
  have : ({ ({ sent m a b ur s n with out := outs a b ur s 0 (n + 1) } : Nd) with seq := ((sent m a b ur s n).seq + 1) % 65536 } : Nd) = sent m a b ur s (n + 1) := by
   unfold sent
   simp only [Nd.mk.injEq, true_and, and_true]
   omega
  rw [this]
  exact sends_is ha hc d (n + 1) (by omega)
theorem pcount_le {s : By} (h : s.length ≤ 1000) : pcount s.length ≤ 16 ∧ 1 ≤ pcount s.length := by unfold pcount; omega
structure Snd (a b : Int) (m : Nd) : Prop where
 ord : Ord m
 addr : m.addr = a
 poll : m.poll = 0
 table : m.table = tabTo a b
 children : m.children = []
 lost : m.lost = 0
theorem send_is {m : Nd} {a b : Int} {ur : Bool} {s : By} (h : Snd a b m) (ho : m.out = []) (hs : m.seq = 0) (hb : okN b = true) (hne : a ≠ b) (hl : s.length ≤ 1000) :
  send m b ur s = (sent m a b ur s (pcount s.length), 0) := by
 unfold send
 rw [h.ord.eq]
 have h1 : psplit s (m.seq % 256) = ((List.range (pcount s.length)).map (piece s 0), 0) := by
  unfold psplit
  rw [hs, if_neg (by omega), if_neg (by omega)]
  rfl
 simp only
 rw [if_neg (by rw [hb]; decide), h1, if_neg (by simp), if_neg (by rw [h.addr]; exact Ne.symm hne)]
 have h0 : sent m a b ur s 0 = m := by unfold sent outs; cases m; simp_all
 have := sends_is (m := m) (b := b) (ur := ur) (s := s) h.addr (pcount_le hl).1 (pcount s.length) 0 (by omega)
 rw [h0, ← List.range_eq_range'] at this
 rw [this]
def ent (a : Int) (s : By) (i : Nat) : Pt := ⟨a, 0, pcount s.length, 100, (List.range (pcount s.length)).map fun j => decide (j < i), (List.range (pcount s.length)).map fun j => if j < i then data s j else []⟩
theorem piece_len {s : By} {i : Nat} : (piece s 0 i).length = 3 + (data s i).length := by unfold piece data; simp; omega
theorem fits_data {s : By} (hl : s.length ≤ 1000) {i : Nat} (hi : i < pcount s.length) : fits i (pcount s.length) ((data s i).length : Int) = true := by
 rw [data_len]
 have hp : pcount s.length = max 1 ((s.length + 63) / 64) := rfl
 unfold fits
 by_cases h1 : (i : Int) = (pcount s.length : Int) - 1
 ·rw [if_neg (by omega)]
  by_cases h2 : (pcount s.length : Int) = 1
  ·rw [if_pos h2]; simp; omega
  ·rw [if_neg h2]
   split <;> (simp only [Bool.and_eq_true, decide_eq_true_eq]; omega)
 ·rw [if_pos h1, beq_iff_eq]; omega
theorem b8_piece {s : By} (hl : s.length ≤ 1000) {i : Nat} (hi : i < pcount s.length) : b8 (piece s 0 i) 0 = 0 ∧ b8 (piece s 0 i) 1 = i ∧ b8 (piece s 0 i) 2 = pcount s.length ∧ (piece s 0 i).drop 3 = data s i := by
 have hp := pcount_le hl
 refine ⟨rfl, ?_, ?_, rfl⟩
 ·show ((u8 (i : Int)).toNat : Int) = i
  exact u8v (by omega) (by omega)
 ·show ((u8 (pcount s.length : Int)).toNat : Int) = _
  exact u8v (by omega) (by omega)
theorem pchk_piece {s : By} (hl : s.length ≤ 1000) {i : Nat} (hi : i < pcount s.length) : pchk (piece s 0 i) = 0 := by
 obtain ⟨h0, h1, h2, h3⟩ := b8_piece hl hi
 have hp := pcount_le hl
 have h4 := piece_len (s := s) (i := i)
 unfold pchk
 rw [if_neg (by omega), h1, h2]
 have hf := fits_data hl hi
 rw [show ((piece s 0 i).length : Int) - 3 = ((data s i).length : Int) by omega, hf]
 rw [if_neg]
 simp; omega
theorem ent_hv {a : Int} {s : By} {i j : Nat} (hj : j < pcount s.length) : (ent a s i).hv.getD j false = decide (j < i) := by
 simp [ent, List.getD_eq_getElem?_getD, hj]
theorem ent_da {a : Int} {s : By} {i j : Nat} (hj : j < pcount s.length) : (ent a s i).da.getD j [] = if j < i then data s j else [] := by
 simp [ent, List.getD_eq_getElem?_getD, hj]
theorem ent_mark {a : Int} {s : By} {i : Nat} (hi : i < pcount s.length) : pmark (ent a s i) i (data s i) = ent a s (i + 1) := by
 unfold pmark
 rw [ent_hv hi, if_neg (by simp)]
 unfold ent
 simp only [Pt.mk.injEq, true_and]
 refine ⟨List.ext_getElem? fun k => ?_, List.ext_getElem? fun k => ?_⟩
 ·rw [List.getElem?_set]
  by_cases hk : k < pcount s.length
  ·by_cases e : i = k
   ·subst e; simp [hk]
   ·simp [hk, e]; omega
  ·simp [hk]; omega
 ·rw [List.getElem?_set]
  by_cases hk : k < pcount s.length
  ·by_cases e : i = k
   ·subst e; simp [hk]
   ·simp [hk, e]
    by_cases e2 : k < i
    ·rw [if_pos e2, if_pos (by omega)]
    ·rw [if_neg e2, if_neg (by omega)]
  ·simp [hk]; omega
theorem ent_zero {a now : Int} {s : By} (hn : tick now = 100) : pbegin a 0 (pcount s.length) now = ent a s 0 := by
 unfold pbegin ent
 rw [hn]
 simp only [Pt.mk.injEq, true_and, Int.toNat_natCast]
 refine ⟨List.ext_getElem? fun k => ?_, List.ext_getElem? fun k => ?_⟩
 ·by_cases hk : k < pcount s.length <;> simp [hk, List.getElem?_replicate]
 ·by_cases hk : k < pcount s.length <;> simp [hk, List.getElem?_replicate]
theorem ent_all {a : Int} {s : By} {i : Nat} (hi : i ≤ pcount s.length) : (ent a s i).hv.all id = decide (i = pcount s.length) := by
 by_cases e : i = pcount s.length
 ·rw [decide_eq_true e, List.all_eq_true]
  intro b hb
  obtain ⟨j, hj, rfl⟩ := List.mem_map.1 hb
  rw [List.mem_range] at hj
  show decide (j < i) = true
  exact decide_eq_true (by omega)
 ·rw [decide_eq_false e, ← Bool.not_eq_true, List.all_eq_true]
  intro h
  have := h false (List.mem_map.2 ⟨i, List.mem_range.2 (by omega), by simp⟩)
  cases this
theorem pnum_ent {a : Int} {s : By} (i : Nat) (hi : i ≤ pcount s.length) : pnum (ent a s i).hv = i := by
 unfold pnum ent
 simp only
 have : ∀ c, i ≤ c → ((List.range c).map fun j => decide (j < i)).countP id = i := by
  intro c hc
  rw [List.countP_map]
  have e : (id ∘ fun j => decide (j < i)) = fun j => decide (j < i) := rfl
  rw [e]
  obtain ⟨d, rfl⟩ : ∃ d, c = i + d := ⟨c - i, by omega⟩
  rw [List.range_add, List.countP_append, List.countP_map]
  rw [List.countP_eq_length.2 (fun x hx => decide_eq_true (List.mem_range.1 hx)), List.countP_eq_zero.2 (fun x hx => by simp), List.length_range]
  rfl
 exact this _ hi
theorem ent_valid {a : Int} {s : By} (hl : s.length ≤ 1000) {i : Nat} (h0 : 0 < i) (hi : i < pcount s.length) : pvalid (ent a s i) = true := by
 have hp := pcount_le hl
 have hlen : (ent a s i).hv.length = pcount s.length := by simp [ent]
 have hd : (ent a s i).da.length = pcount s.length := by simp [ent]
 unfold pvalid
 rw [pnum_ent i (by omega)]
 have hh : phead (ent a s i) = false := by
  unfold phead
  rw [hlen, hd]
  show (decide ((0 : Int) < 0) || decide ((0 : Int) > 255) || decide ((pcount s.length : Int) < 2) || decide ((pcount s.length : Int) > 16) || decide ((100 : Int) < 0) || decide ((100 : Int) > maxTick) || !((pcount s.length : Int) == (pcount s.length : Int)) || !((pcount s.length : Int) == (pcount s.length : Int))) = false
  rw [decide_eq_false (by omega), decide_eq_false (by omega)]
  simp
  exact ⟨⟨by omega, by omega⟩, by decide⟩
 rw [hh, hlen]
 have ha : (List.range (pcount s.length)).all (pone (ent a s i)) = true := by
  rw [List.all_eq_true]
  intro j hj
  rw [List.mem_range] at hj
  unfold pone
  rw [ent_hv hj, ent_da hj]
  by_cases hji : j < i
  ·rw [if_pos (by simpa using hji), if_pos hji]
   exact fits_data hl hj
  ·rw [if_neg (by simpa using hji), if_neg hji]
   rfl
 rw [ha]
 have : (ent a s i).ct = (pcount s.length : Int) := rfl
 rw [this]
 simp; omega
theorem flat_data (s : By) : ∀ n, ((List.range n).map (data s)).flatten = s.take (64 * n)
 | 0 => by simp
 | n + 1 => by
  rw [List.range_succ, List.map_append, List.flatten_append, flat_data s n]
  simp only [List.map_cons, List.map_nil, List.flatten_cons, List.flatten_nil, List.append_nil]
  unfold data
  rw [show 64 * (n + 1) = 64 * n + 64 by omega, List.take_add]
theorem ent_text {a : Int} {s : By} : (ent a s (pcount s.length)).da.flatten = s := by
 have e : (ent a s (pcount s.length)).da = (List.range (pcount s.length)).map (data s) := by
  unfold ent
  refine List.map_congr_left fun j hj => ?_
  rw [if_pos (List.mem_range.1 hj)]
 rw [e, flat_data, List.take_of_length_le]
 unfold pcount; omega
def parts (a : Int) (s : By) (i : Nat) : List Pt := if i = 0 ∨ i = pcount s.length then [] else [ent a s i]
theorem porder_parts {a : Int} {s : By} (hl : s.length ≤ 1000) {i : Nat} (hi : i ≤ pcount s.length) : porder (parts a s i) = parts a s i := by
 unfold parts
 split
 ·rfl
 ·have hv := ent_valid (a := a) hl (i := i) (by omega) (by omega)
  unfold porder
  have : List.foldl pstep [] [ent a s i] = [ent a s i] := by
   show pstep [] (ent a s i) = _
   unfold pstep
   rw [hv]; rfl
  rw [this]; rfl
theorem padd_is {a now : Int} {s : By} (hl : s.length ≤ 1000) {i : Nat} (hi : i < pcount s.length) (hn : i = 0 → tick now = 100) :
  padd (parts a s i) a now (piece s 0 i) = ⟨parts a s (i + 1), if i + 1 = pcount s.length then s else [], decide (i + 1 = pcount s.length), 0⟩ := by
 obtain ⟨h0, h1, h2, h3⟩ := b8_piece hl hi
 have hp := pcount_le hl
 unfold padd
 rw [if_neg (by simp [pchk_piece hl hi]), h0, h1, h2, h3, porder_parts hl (by omega)]
 by_cases hc : pcount s.length = 1
 ·have hi0 : i = 0 := by omega
  subst hi0
  rw [if_pos (by omega)]
  have e1 : parts a s 0 = [] := if_pos (.inl I)
  have e2 : parts a s (0 + 1) = [] := if_pos (.inr (by omega))
  have e3 : data s 0 = s := by
   unfold data
   have : s.length ≤ 64 := by have : pcount s.length = max 1 ((s.length + 63) / 64) := rfl; omega
   show (s.drop 0).take 64 = s
   rw [List.drop_zero, List.take_of_length_le this]
  rw [e1, e2, e3, if_pos (by omega), decide_eq_true (by omega)]
  rfl
 ·rw [if_neg (by omega)]
  have hnew : pnew (pdrop (parts a s i) a 0 (pcount s.length)) a 0 (pcount s.length) now = ([ent a s i], 0) := by
   unfold parts
   by_cases hi0 : i = 0
   ·subst hi0
    rw [if_pos (.inl rfl)]
    show (proom [] ++ [pbegin a 0 (pcount s.length) now], (proom []).length) = _
    rw [ent_zero (hn rfl)]; rfl
   ·rw [if_neg (by omega)]
    have hf : pfind [ent a s i] a 0 = some 0 := by
     unfold pfind
     rw [List.findIdx?_cons]
     have : pis a 0 (ent a s i) = true := by simp [pis, ent]
     rw [this]; rfl
    unfold pdrop
    rw [hf]
    simp only
    rw [if_pos (show (([ent a s i] : List Pt).getD 0 pz).ct = ((pcount s.length : Nat) : Int) from rfl)]
    rfl
  rw [hnew, Int.toNat_natCast]
  unfold pput
  have hg : ([ent a s i] : List Pt).getD 0 pz = ent a s i := rfl
  simp only
  rw [hg, ent_mark hi, ent_all (by omega)]
  by_cases he : i + 1 = pcount s.length
  ·rw [if_pos (by simpa using he), if_pos he, decide_eq_true he]
   have e2 : parts a s (i + 1) = [] := if_pos (.inr he)
   rw [e2, he, ent_text]
   rfl
  ·rw [if_neg (by simpa using he), if_neg he, decide_eq_false he]
   have e2 : parts a s (i + 1) = [ent a s (i + 1)] := if_neg (by omega)
   rw [e2]
   rfl
structure Rcv (a b : Int) (s : By) (i : Nat) (m : Nd) : Prop where
 ord : Ord m
 addr : m.addr = b
 parts : m.parts = parts a s i
 seen : m.seen = (List.range i).map fun k : Nat => (⟨a, (k : Int)⟩ : Pr)
 inbox : m.inbox = if i = pcount s.length then [⟨a, s⟩] else []
 lost : m.lost = 0
def toF (a b : Int) (ur : Bool) (s : By) (i : Nat) : Fr := { pieceF a b ur s i with dst := b }
theorem talk_snd {m : Nd} {a b now : Int} {ur : Bool} {s : By} {i n : Nat} (h : Snd a b m) (hne : a ≠ b) (ho : m.out = outs a b ur s i (n + 1)) : talk m now = (m, toF a b ur s i, true) := by
 unfold talk
 rw [h.ord.eq]
 unfold talks
 have h0 : m.out[0]? = some ⟨pieceF a b ur s i, 0, 0⟩ := by rw [ho]; unfold outs; rw [List.range'_succ]; rfl
 rw [h0]
 simp only
 rw [if_neg (by decide), if_neg (by show ¬ ((2 : Int) ≠ 2 ∨ (255 : Int) ≠ 255); omega), if_neg]
 ·have hh : hop m (pieceF a b ur s i).ta = (b, true) := by
   show hop m b = _
   unfold hop
   rw [h.poll, if_neg (by omega), h.table, rhop_to hne]
  rw [hh]; rfl
 ·rintro ⟨_, hc⟩
  unfold isChild at hc
  rw [h.children] at hc
  simp at hc
theorem result_snd {m : Nd} {a b : Int} {ur : Bool} {s : By} {i n : Nat} (h : Snd a b m) (hb : okN b = true) (ho : m.out = outs a b ur s i (n + 1)) :
  Snd a b (result m (toF a b ur s i) true) ∧ (result m (toF a b ur s i) true).out = outs a b ur s (i + 1) n := by
 have h0 : m.out = ⟨pieceF a b ur s i, 0, 0⟩ :: outs a b ur s (i + 1) n := by rw [ho]; unfold outs; rw [List.range'_succ]; rfl
 have hl16 := h.ord.out
 have hf : m.out.findIdx? (hits (toF a b ur s i)) = some 0 := by
  rw [h0, List.findIdx?_cons]
  have : hits (toF a b ur s i) ⟨pieceF a b ur s i, 0, 0⟩ = true := by simp [hits, toF, pieceF]
  rw [this]; rfl
 have hm : mres m.out 0 true = (outs a b ur s (i + 1) n, false) := by
  unfold mres
  rw [List.take_of_length_le hl16, h0]
  rfl
 have hr : result m (toF a b ur s i) true = { m with out := outs a b ur s (i + 1) n, links := lseen m.links b true } := by
  unfold result
  rw [h.ord.eq]
  simp only
  rw [hf]
  simp only
  rw [hm]
  have : okN (toF a b ur s i).dst = true := hb
  rw [this]
  rfl
 rw [hr]
 refine ⟨⟨?_, h.addr, h.poll, h.table, h.children, h.lost⟩, rfl⟩
 refine Ord.setLinks (n := { m with out := outs a b ur s (i + 1) n }) (h.ord.setOut ?_) (lseen_ok _ _ _)
 rw [h0] at hl16
 simp at hl16; omega
theorem fchk_to {a b : Int} {ur : Bool} {s : By} {i : Nat} (ha : okN a = true) (hb : okN b = true) (hne : a ≠ b) (hl : s.length ≤ 1000) (hi : i < pcount s.length) : fchk (toF a b ur s i) = 0 := by
 have hp := pcount_le hl
 have hd := data_len s i
 unfold fchk
 rw [if_neg (by show ¬ ((2 : Int) < 1 ∨ (2 : Int) > 4); omega)]
 have h1 : frange (toF a b ur s i) = false := by
  show (!okN a || !okN a || !(okN b || (b == 255)) || !(okN b || (b == 255)) || decide ((i : Int) < 0) || decide ((i : Int) > 65535) || decide ((0 : Int) < 0) || decide ((0 : Int) > 15)) = false
  rw [ha, hb, decide_eq_false (show ¬ (i : Int) < 0 by omega), decide_eq_false (show ¬ (i : Int) > 65535 by omega)]
  rfl
 have h2 : fform (toF a b ur s i) = true := by
  simp [fform, toF, pieceF, hne]
 have h3 : (toF a b ur s i).da.length ≤ 109 := by
  show (piece s 0 i).length ≤ 109
  rw [piece_len]; omega
 rw [h1, h2, if_neg (by decide), if_neg (by omega), if_neg (by decide)]
theorem hear_rcv {m : Nd} {a b now : Int} {ur : Bool} {s : By} {i : Nat} (h : Rcv a b s i m) (ha : okN a = true) (hb : okN b = true) (hne : a ≠ b) (hl : s.length ≤ 1000) (hi : i < pcount s.length) (hn : now = 100 + i) :
  Rcv a b s (i + 1) (hear m now (toF a b ur s i)) := by
 have hp := pcount_le hl
 have hg := hear_good m now (toF a b ur s i)
 rw [h.ord.eq] at hg
 have ht : tick now = now := tick_small (by omega) (by omega)
 have hr : hear m now (toF a b ur s i) = received m (toF a b ur s i) now := by
  unfold hear
  rw [h.ord.eq, ht]
  simp only
  rw [if_neg, if_neg (by show ¬ (2 : Int) = 1; omega), if_neg (by rintro ⟨e, _⟩; have e : (2 : Int) = 3 := e; omega), if_pos ⟨rfl, h.addr.symm⟩]
  rw [fchk_to ha hb hne hl hi, h.addr]
  rintro (e | e | e)
  ·exact e I
  ·exact hne e
  ·exact e.1 I
 have hsl : m.seen.length = i := by rw [h.seen]; simp
 have hfr : mfresh m.seen ⟨(toF a b ur s i).so, (toF a b ur s i).sq⟩ = ((List.range (i + 1)).map fun k : Nat => (⟨a, (k : Int)⟩ : Pr), true) := by
  show mfresh m.seen ⟨a, i⟩ = _
  unfold mfresh
  rw [last_id (by omega), if_neg, last_id (by rw [List.length_append, hsl]; show i + 1 ≤ 32; omega), h.seen]
  ·rw [List.range_succ, List.map_append]; rfl
  ·rw [h.seen]
   intro hm
   obtain ⟨k, hk, e⟩ := List.mem_map.1 hm
   rw [List.mem_range] at hk
   simp only [Pr.mk.injEq, true_and] at e
   omega
 have hpa := padd_is (a := a) (now := now) hl hi (fun e => by rw [ht]; omega)
 have hrc : received m (toF a b ur s i) now = (if i + 1 = pcount s.length then deliver { m with seen := (List.range (i + 1)).map fun k : Nat => (⟨a, (k : Int)⟩ : Pr), parts := parts a s (i + 1) } ⟨a, s⟩ else { m with seen := (List.range (i + 1)).map fun k : Nat => (⟨a, (k : Int)⟩ : Pr), parts := parts a s (i + 1) }) := by
  unfold received
  simp only
  rw [hfr]
  simp only [Bool.true_eq_false, if_false]
  have e1 : (toF a b ur s i).ta = b := rfl
  have e2 : (toF a b ur s i).so = a := rfl
  have e3 : (toF a b ur s i).da = piece s 0 i := rfl
  rw [e1, e2, e3, if_pos h.addr.symm, h.parts, hpa]
  simp only [ne_eq, not_true_eq_false, if_false]
  by_cases he : i + 1 = pcount s.length
  ·rw [decide_eq_true he, if_pos rfl, if_pos he, if_pos he]
  ·rw [decide_eq_false he, if_neg (by decide), if_neg he]
 have hib : m.inbox = [] := by rw [h.inbox, if_neg (by omega)]
 rw [hr] at hg ⊢
 refine ⟨hg.ord, hg.addr.trans h.addr, ?_, ?_, ?_, ?_⟩ <;> rw [hrc] <;> split
 ·rename_i he; unfold deliver; rw [if_neg (by show ¬ m.inbox.length ≥ 256; rw [hib]; simp)]
 ·rfl
 ·unfold deliver; rw [if_neg (by show ¬ m.inbox.length ≥ 256; rw [hib]; simp)]
 ·rfl
 ·rename_i he
  unfold deliver; rw [if_neg (by show ¬ m.inbox.length ≥ 256; rw [hib]; simp)]
  show m.inbox ++ [⟨a, s⟩] = _
  rw [hib]; rfl
 ·rename_i he
  exact hib
 ·unfold deliver; rw [if_neg (by show ¬ m.inbox.length ≥ 256; rw [hib]; simp)]; exact h.lost
 ·exact h.lost
def ways (a b : Int) (ur : Bool) (s : By) : Nat → Nd × Nd
 | 0 => ((send (hear (nd a) (b % 8) (bea b)) b ur s).1, ndT b [])
 | i + 1 =>
  let p := ways a b ur s i
  let t := talk p.1 (100 + i)
  (result t.1 t.2.1 true, hear p.2 (100 + i) t.2.1)
theorem heard_snd {a b : Int} (ha : okN a = true) (hb : okN b = true) (hne : a ≠ b) (now : Int) : Snd a b (hear (nd a) now (bea b)) ∧ (hear (nd a) now (bea b)).out = [] ∧ (hear (nd a) now (bea b)).seq = 0 := by
 have hg := (hear_good (nd a) now (bea b)).ord
 rw [hear_new ha hb hne] at hg ⊢
 exact ⟨⟨hg, rfl, rfl, rfl, rfl, rfl⟩, rfl, rfl⟩
theorem ways_is {a b : Int} {ur : Bool} {s : By} (ha : okN a = true) (hb : okN b = true) (hne : a ≠ b) (hl : s.length ≤ 1000) : ∀ i, i ≤ pcount s.length →
  Snd a b (ways a b ur s i).1 ∧ (ways a b ur s i).1.out = outs a b ur s i (pcount s.length - i) ∧ Rcv a b s i (ways a b ur s i).2
 | 0, _ => by
  have hp := pcount_le hl
  obtain ⟨h1, h2, h3⟩ := heard_snd ha hb hne (b % 8)
  have hs := send_is (ur := ur) (s := s) h1 h2 h3 hb hne hl
  have hg := send_good (n := hear (nd a) (b % 8) (bea b)) (target := b) (ur := ur) (text := s) (by rw [hs])
  unfold ways
  rw [hs] at hg ⊢
  refine ⟨⟨hg.ord, h1.addr, h1.poll, h1.table, h1.children, h1.lost⟩, rfl, ⟨ndT_ord hb (Nat.zero_le _), rfl, ?_, rfl, ?_, rfl⟩⟩
  ·exact (if_pos (.inl rfl)).symm
  ·rw [if_neg (by omega)]; rfl
 | i + 1, hi => by
  obtain ⟨h1, h2, h3⟩ := ways_is (ur := ur) ha hb hne hl i (by omega)
  have e : pcount s.length - i = (pcount s.length - (i + 1)) + 1 := by omega
  rw [e] at h2
  unfold ways
  simp only
  rw [talk_snd h1 hne h2]
  obtain ⟨g1, g2⟩ := result_snd h1 hb h2
  exact ⟨g1, g2, hear_rcv h3 ha hb hne hl (by omega) rfl⟩
end Nd
namespace Go.Proofs.YtgdgclmkpoaagaaGreat
open Go.GX Go.RowKit
attribute [local irreducible] Calls Run RunL RunQ RunD HR HL HD blkC ownC Rd
open Nd
theorem fn37 : IsFn Tryz.prog 37 := ⟨⟨_, _, Tryz.func37, rfl, by decide⟩⟩
theorem r15split_any (s : By) (id : Int) (w : World) (hs : s.length ≤ 9223372036854775807) :
  Calls Tryz.prog 37 #[str s, .int .i64 id] w fun e w' => ∃ v', e = .returned (.tuple ⟨[v', .int .i64 (psplit s id).2]⟩) ∧ True ∧ Sat (base w) [ownC v' 9 1 (psplit s id).1.length (cellsOf sC (psplit s id).1)] w' := by
 refine calls_hr Tryz.func37 I (Nat.le_of_ble_eq_true I) ?_
 refine HR.sub (σ' := [(0, str s), (1, .int .i64 id)]) ⟨I, I, trivial⟩ ?_
 repeat' (first | refine zh ?_ | intro (bk : Nat))
 refine HR.cond I (fun h => ?_) (fun h => ?_)
 ·have h : s.length > 1000 := by have := of_decide_eq_true h; omega
  rw [psplit_long h]
  repeat' (first | refine zh ?_ | intro (bk : Nat))
  refine HR.nilC 9 1 ?_
  refine HR.ret Tryz.func37 I [_, _] (fun _ _ => ⟨I, I, trivial⟩) ?_
  exact fun w' hw => ⟨_, rfl, trivial, hw⟩
 have h : ¬ s.length > 1000 := by have := of_decide_eq_false h; omega
 repeat' (first | refine zh ?_ | apply zb ?_ ?_ | exact zc | (refine zi fun hb => ?_; try simp at hb) | intro (bk : Nat))
 refine HR.cond I (fun h2 => ?_) (fun h2 => ?_)
 ·have h2 : (decide (id < 0) || decide (id > 255)) = true := h2
  rw [psplit_bad h (by simpa using h2)]
  repeat' (first | refine zh ?_ | intro (bk : Nat))
  refine HR.nilC 9 1 ?_
  refine HR.ret Tryz.func37 I [_, _] (fun _ _ => ⟨I, I, trivial⟩) ?_
  exact fun w' hw => ⟨_, rfl, trivial, hw⟩
 have h2 : (decide (id < 0) || decide (id > 255)) = false := h2
 have h2 : ¬ (id < 0 ∨ id > 255) := by simpa using h2
 rw [psplit_ok h h2]
 have hpd : pcount s.length = max 1 ((s.length + 63) / 64) := rfl
 obtain ⟨c, hc⟩ : ∃ c, c = pcount s.length := ⟨_, rfl⟩
 rw [← hc] at hpd ⊢
 repeat' (first | refine zh ?_ | intro (bk : Nat))
 refine HR.join (ι := Unit) (fun _ => True) (fun _ => [(0, str s), (1, .int .i64 id), (6, .int .i64 (c : Int))]) (fun _ => []) (fun _ _ => ?_) (fun hj => ?_)
 ·repeat' (first | refine zh ?_ | intro (bk : Nat))
  refine HR.nilC 9 1 ?_
  refine HR.loop2 (α := Nat) (β := Value) (fun k _ => k ≤ c) (fun k o => [(0, str s), (1, .int .i64 id), (6, .int .i64 (c : Int)), (7, o), (8, .int .i64 (k : Int))]) (fun k o => [ownC o 9 1 ((List.range k).map (piece s id)).length (cellsOf sC ((List.range k).map (piece s id)))]) (fun k _ => c - k) 0 (.slice none 0 0) (Nat.zero_le _) ⟨I, I, I, I, I, trivial⟩ (Ent.pick [0] I I) ?_
  rintro k o hk ih
  repeat' (first | refine zh ?_ | intro (bk : Nat))
  refine HR.cond I (fun h3 => ?_) (fun h3 => ?_)
  ·have hlt : k < c := by have := of_decide_eq_true h3; omega
   have hps := pieces_step s id k
   obtain ⟨L, hL⟩ : ∃ L, L = (List.range k).map (piece s id) := ⟨_, rfl⟩
   have hLl : L.length ≤ 16 := by rw [hL]; simp; omega
   rw [← hL] at hps ⊢
   repeat' (first | refine zh ?_ | intro (bk : Nat))
   refine HR.join (ι := Unit) (fun _ => True) (fun _ => [(0, str s), (1, .int .i64 id), (6, .int .i64 (c : Int)), (7, o), (8, .int .i64 (k : Int)), (9, .int .i64 ((min s.length (64 * (k + 1)) : Nat) : Int))]) (fun _ => [ownC o 9 1 L.length (cellsOf sC L)]) (fun _ _ => ?_) (fun hj2 => ?_)
   ·have hpk : [u8 id, u8 k, u8 c] ++ data s k = piece s id k := by unfold piece data; rw [hc]
    have hdl : (data s k).length ≤ 64 := by rw [data_len]; omega
    refine HR.regionD [(0, true), (1, true), (2, true), (3, true), (4, true), (5, true), (6, true), (9, true), (10, true), (11, true), (12, true), (13, true), (7, false), (8, false), (14, true), (15, false), (16, false), (17, true)] [] I I hmix (by kernel_rfl) ?_
    repeat' (first | refine zd ?_ | fail)
    refine HD.setV 53 (v' := str (data s k)) I (by rw [← data_cut]; try rfl) ?_
    refine HD.one I ?_
    refine HL.bslice elemU8 I I I I I (by decide) (by decide) ?_
    intro va
    refine HL.ent (H' := [ownC va 5 1 [u8 id, u8 k, u8 c].length (bcells [u8 id, u8 k, u8 c]), ownC o 9 1 L.length (cellsOf sC L)]) (Ent.own0 I (by rw [piece_head ⟨by omega, by omega⟩ (by omega) (by omega)]; try rfl)) ?_
    refine HL.back [] I I ?_
    refine HD.one I ?_
    refine HL.bstr (Rd.own 0 I) I I I I I ?_
    refine HL.back [] I I ?_
    refine HD.evc I I I (by simp; omega) ?_
    refine HD.setV 54 (v' := str (piece s id k)) I (by rw [← hpk]; try rfl) ?_
    refine HD.one I ?_
    refine HL.bslice elemS I I I I I (by decide) (by decide) ?_
    intro vb
    refine HL.back [] I I ?_
    refine HD.one I ?_
    refine HL.appR 2 I elemS (Rd.own 0 I) I I I I (allOne_spec I) (by omega) (by omega) ?_
    intro o2
    refine HL.back [] I I ?_
    repeat' (first | refine zd ?_ | fail)
    refine HD.nil ?_
    repeat' (first | refine zh ?_ | intro (bk : Nat))
    refine ih (k + 1) o2 _ _ hlt (by omega) ⟨I, I, I, I, I, trivial⟩ (Ent.trans (Ent.pick [2] I I) (Ent.own0 ?_ ?_))
    ·rw [hps]; simp
    ·rw [hps, cellsOf_app]; rfl
   ·refine HR.cond I (fun h4 => ?_) (fun h4 => ?_)
    ·have h4 : ((k : Int) + 1) * 64 > (s.length : Int) := of_decide_eq_true h4
     refine HR.region ?_
     repeat' (first | refine zn ?_ | apply zb ?_ ?_ | exact zc | (refine zi fun hb => ?_; try simp at hb) | intro (bk : Nat))
     exact hj2 () _ _ trivial ⟨rfl, rfl, rfl, rfl, rfl, by show some (Value.int IntKind.i64 _) = some _; congr 2; omega, trivial⟩ Ent.refl
    ·have h4 : ¬ ((k : Int) + 1) * 64 > (s.length : Int) := of_decide_eq_false h4
     refine HR.skip ?_
     exact hj2 () _ _ trivial ⟨rfl, rfl, rfl, rfl, rfl, by show some (Value.int IntKind.i64 _) = some _; congr 2; omega, trivial⟩ Ent.refl
  ·have hke : k = c := by have := of_decide_eq_false h3; omega
   subst hke
   repeat' (first | refine zh ?_ | intro (bk : Nat))
   refine HR.ret Tryz.func37 I [_, _] (fun _ _ => ⟨I, I, trivial⟩) ?_
   exact fun w' hw => ⟨o, rfl, trivial, hw⟩
 ·refine HR.cond I (fun h3 => ?_) (fun h3 => ?_)
  ·refine HR.region ?_
   repeat' (first | refine zn ?_ | apply zb ?_ ?_ | exact zc | (refine zi fun hb => ?_; try simp at hb) | intro (bk : Nat))
   exact hj () _ _ trivial ⟨rfl, rfl, by show some _ = some _; have h3 : (((s.length : Int) + 64 - 1) / 64 == 0) = true := h3; simp at h3; congr 2; omega, trivial⟩ Ent.refl
  ·refine HR.skip ?_
   exact hj () _ _ trivial ⟨rfl, rfl, by show some (Value.int IntKind.i64 _) = some _; have h3 : (((s.length : Int) + 64 - 1) / 64 == 0) = false := h3; simp at h3; congr 2; omega, trivial⟩ Ent.refl
end Go.Proofs.YtgdgclmkpoaagaaGreat
namespace Go.Proofs.YtgdgclmkpoaagaaGreat
open Go.GX Go.RowKit
attribute [local irreducible] Calls Run RunL RunQ RunD HR HL HD blkC ownC Rd
open Nd
theorem fn92 : IsFn Tryz.prog 92 := ⟨⟨_, _, Tryz.func92, rfl, by decide⟩⟩
end Go.Proofs.YtgdgclmkpoaagaaGreat
namespace Go.Proofs.YtgdgclmkpoaagaaGreat
open Go.GX Go.RowKit
attribute [local irreducible] Calls Run RunL RunQ RunD HR HL HD blkC ownC Rd
open Nd
theorem ptG_filter (p : PtV → Bool) (L : List PtV) : (ptG L).Perm (ptG (L.filter p) ++ ptG (L.filter fun x => !p x)) := by
 rw [← ptG_app]
 unfold ptG
 exact (List.filter_append_perm p L).symm.flatMap_right _
end Go.Proofs.YtgdgclmkpoaagaaGreat
namespace Go.Proofs.YtgdgclmkpoaagaaGreat
open Go.GX Go.RowKit
attribute [local irreducible] Calls Run RunL RunQ RunD HR HL HD blkC ownC Rd
open Nd
theorem fexp_any (l : List PtV) (now life : Int) (v : Value) (w : World) (hv : RdPts w v l) (hs : ∀ p ∈ l, SmPt p.pt) (hl : l.length ≤ 1000) :
  Calls Tryz.prog 92 #[v, .int .i64 now, .int .i64 life] w fun e w' => ∃ x : Value × List PtV, e = .returned x.1 ∧ GdPts x (pexp (pts l) now life) ∧ Sat (base w) (ptsC x) w' := by
 have t1 := tick_rng now
 have t3 := tick_rng life
 refine calls_hr Tryz.func92 I (Nat.le_of_ble_eq_true I) ?_
 refine HR.sub (σ' := [(0, v), (1, .int .i64 now), (2, .int .i64 life)]) ⟨I, I, I, trivial⟩ ?_
 repeat' (first | refine zh ?_ | intro (bk : Nat))
 refine HL.callX (r := fun x : Value × List PtV => x.1) (Q := fun x => GdPts x (porder (pts l))) (G := fun x => ptsC x) fn163 I I (fun w1 hw1 => forder_any l v w1 (hv.ext hw1.belowB) hs hl) ?_
 rintro ⟨v1, L⟩ ⟨hL, hsh⟩
 have hL : pts L = porder (pts l) := hL
 have hsh : ∀ p ∈ L, ShPt p := hsh
 have hLl : L.length ≤ 8 := by have := porder_len (pts l); rw [← hL, pts_len] at this; exact this
 have hpv : ∀ p ∈ L, Head p.pt := fun p hp => phead_is (pvalid_head (porder_valid p.pt (by rw [← hL]; exact List.mem_map_of_mem hp)))
 repeat' (first | refine zh ?_ | refine HL.lenR (Rd.own 0 I) I I I ?_ | intro (bk : Nat))
 refine HR.nilC 76 6 ?_
 obtain ⟨p, hp⟩ : ∃ p : PtV → Bool, p = fun x => decide (tick now - x.pt.si ≤ tick life) := ⟨_, rfl⟩
 refine HR.loop2 (α := Nat) (β := Value) (fun k o => k ≤ L.length) (fun k o => [(1, .int .i64 now), (2, .int .i64 life), (7, o), (11, v1), (12, .int .i64 (L.length : Int)), (13, .int .i64 (k : Int))]) (fun k o => [ownC o 76 6 ((L.take k).filter p).length (cellsOf ptC ((L.take k).filter p)), ownC v1 76 6 L.length (cellsOf ptC L), groupC (ptG L)]) (fun k _ => L.length - k) 0 (.slice none 0 0) (Nat.zero_le _) ⟨I, I, I, I, I, I, trivial⟩ (Ent.pick [0, 1, 2] I I) ?_
 rintro k o hk ih
 have hfl : ((L.take k).filter p).length ≤ 8 := Nat.le_trans (List.length_filter_le _ _) (by simp; omega)
 repeat' (first | refine zh ?_ | intro (bk : Nat))
 refine HR.cond I (fun h2 => ?_) (fun h2 => ?_)
 ·have hlt : k < L.length := by have := of_decide_eq_true h2; omega
  obtain ⟨x, hx⟩ := getSome hlt
  have hxm := List.mem_of_getElem? hx
  have hft := filt_take p hx
  have H := hpv x hxm
  obtain ⟨a, n, c, a', n', c', ex⟩ := (hsh x hxm).lit
  obtain ⟨q, hq⟩ : ∃ q, q = x.pt := ⟨_, rfl⟩
  rw [← hq] at ex H
  subst ex
  have s0 := H.si0
  have s1 : q.si ≤ 1099511627776 := H.si1
  repeat' (first | refine zh ?_ | refine HL.idxR (Rd.own 1 I) elemPt k I I I I hlt ?_ | refine HL.loadE (Rd.own 1 I) I I I I (by simp) I (cellsOf_get ptC_len hx) ?_ | intro (bk : Nat))
  refine HR.regionD [(0, true), (2, true), (3, true), (5, true), (1, false), (4, true), (6, false), (7, true)] [0] I I hmix (by kernel_rfl) ?_
  repeat' (first | refine zd ?_ | refine HD.callB [0] I I fn164 I I I (fun w _ => flim_any _ w) ?_)
  refine HD.nil ?_
  refine HR.cond I (fun h3 => ?_) (fun h3 => ?_)
  ·have h3 : p ⟨.slice a n c, .slice a' n' c', q⟩ = true := by rw [hp]; exact h3
   rw [if_pos h3] at hft
   repeat' (first | refine zh ?_ | refine HL.bslice elemPt I I I I I (by decide) (by decide) ?_ | intro (bk : Nat))
   intro va
   repeat' (first | refine zh ?_ | intro (bk : Nat))
   refine HL.appR 2 I elemPt (Rd.own 0 I) I I I I (allOne_spec I) (by omega) (by omega) ?_
   intro o2
   repeat' (first | refine zh ?_ | intro (bk : Nat))
   refine ih (k + 1) o2 _ _ hlt (by omega) ⟨I, I, I, I, I, I, trivial⟩ (Ent.trans (Ent.pick [2, 3, 4] I I) (Ent.own0 ?_ ?_))
   ·rw [hft]; simp
   ·rw [hft, cellsOf_app]; rfl
  ·have h3 : p ⟨.slice a n c, .slice a' n' c', q⟩ = false := by rw [hp]; exact h3
   rw [if_neg (by rw [h3]; decide)] at hft
   repeat' (first | refine zh ?_ | intro (bk : Nat))
   refine ih (k + 1) o _ _ hlt (by omega) ⟨I, I, I, I, I, I, trivial⟩ (Ent.trans (Ent.pick [1, 2, 3] I I) (Ent.own0 ?_ ?_))
   ·rw [hft]
   ·rw [hft]
 ·have hke : k = L.length := by have := of_decide_eq_false h2; omega
  subst hke
  rw [List.take_length]
  repeat' (first | refine zh ?_ | intro (bk : Nat))
  refine HR.ret Tryz.func92 I [_] (fun _ _ => ⟨I, trivial⟩) ?_
  refine fun w' hw => ⟨(o, L.filter p), rfl, ⟨?_, fun y hy => hsh y (List.mem_filter.1 hy).1⟩, ?_⟩
  ·unfold pexp
   rw [← hL, hp]
   unfold pts
   rw [List.filter_map]; rfl
  ·have hw2 := hw.pick [2, 0] I I
   have hw3 := (Ent.gdrop _ (ptG_filter p L)) w' hw2
   exact hw3.pick [1, 0] I I
end Go.Proofs.YtgdgclmkpoaagaaGreat
namespace Go.Proofs.YtgdgclmkpoaagaaGreat
open Go.GX Go.RowKit
attribute [local irreducible] Calls Run RunL RunQ RunD HR HL HD blkC ownC Rd
open Nd
theorem fn153 : IsFn Tryz.prog 153 := ⟨⟨_, _, Tryz.func153, rfl, by decide⟩⟩
theorem fn154 : IsFn Tryz.prog 154 := ⟨⟨_, _, Tryz.func154, rfl, by decide⟩⟩
theorem gu1_any (bt : Nat) (to c : Int) (w : World) (hb : Sl w (.slice (some ⟨bt, 0, none⟩) 1 1) [.int .i64 to] 1) : Calls Tryz.prog 154 #[.int .i64 c, .pointer (some ⟨bt, 0, none⟩)] w fun e w' => e = .returned (.bool (c == to)) ∧ Below w.heap.size w w' := by
 refine calls_hr Tryz.func154 I (Nat.le_of_ble_eq_true I) ?_
 refine HR.sub (σ' := [(0, .int .i64 c), (1, .pointer (some ⟨bt, 0, none⟩))]) ⟨I, I, trivial⟩ ?_
 repeat' (first | refine zh ?_ | refine HL.loadI (j := 0) (Rd.arg hb) I I I I I ?_ | intro (bk : Nat))
 refine HR.ret Tryz.func154 I [_] (fun _ _ => ⟨I, trivial⟩) ?_
 exact fun w' hw => ⟨rfl, hw.belowB⟩
theorem fidx_no {α : Type} {p : α → Bool} {l : List α} (h : fidx p l = -1) : ∀ a ∈ l, p a = false := by
 rcases fidx_cases p l with ⟨_, _, h2⟩ | ⟨k, b, e, _⟩
 ·exact h2
 ·omega
theorem delFI_any (l : List Int) (to : Int) (bt : Nat) (v : Value) (B0 : Base) (w : World) (hw0 : Sat B0 [ownC v 3 1 l.length (cellsOf iC l), blkC bt [.int .i64 to] 3] w) (hl : l.length ≤ 1000000) :
  Calls Tryz.prog 153 #[v, .func (.func 154) #[] #[.pointer (some ⟨bt, 0, none⟩)]] w fun e w' => ∃ r : Value, e = .returned r ∧ True ∧ Sat ⟨w, feet [ownC v 3 1 l.length (cellsOf iC l), blkC bt [.int .i64 to] 3]⟩ [ownC r 3 1 (l.filter fun c => !(c == to)).length (cellsOf iC (l.filter fun c => !(c == to))), blkC bt [.int .i64 to] 3] w' := by
 refine calls_hrW [ownC v 3 1 l.length (cellsOf iC l), blkC bt [.int .i64 to] 3] (hw0) Tryz.func153 I (Nat.le_of_ble_eq_true I) ?_
 refine HR.sub (σ' := [(0, v), (1, .func (.func 154) #[] #[.pointer (some ⟨bt, 0, none⟩)])]) ⟨I, I, trivial⟩ ?_
 repeat' (first | refine zh ?_ | refine HL.callB fn203 I I (fun w1 hw1 => indexFI_any l (fun c => c == to) 154 [.pointer (some ⟨bt, 0, none⟩)] v w1 fn154 (fun a ha w2 hb => gu1_any bt to a w2 (((Rd.blk (n := 1) 1 rfl).at hw1).ext hb)) ((Rd.own 0 rfl).at hw1) hl) ?_ | intro (bk : Nat))
 refine HR.cond I (fun h => ?_) (fun h => ?_)
 ·have h : fidx (fun c => c == to) l = -1 := eq_of_beq h
  have e : (l.filter fun c => !(c == to)) = l := List.filter_eq_self.2 fun a ha => by have := fidx_no h a ha; simpa using this
  rw [e]
  repeat' (first | refine zh ?_ | intro (bk : Nat))
  refine HR.ret Tryz.func153 I [_] (fun _ _ => ⟨I, trivial⟩) ?_
  exact fun w' hw => ⟨v, rfl, trivial, hw⟩
 have h : ¬ fidx (fun c => c == to) l = -1 := fun e => by rw [e] at h; exact absurd h (by decide)
 rcases fidx_cases (fun c => c == to) l with ⟨h2, _⟩ | ⟨i0, a0, e0, _, ha0, hp0, hno0⟩
 ·exact absurd h2 h
 have hp0 : (a0 == to) = true := hp0
 rw [e0]
 have hi0 : i0 < l.length := (List.getElem?_eq_some_iff.1 ha0).1
 have ht0 : (l.take (i0 + 1)).filter (fun c => !(c == to)) = l.take i0 := by
  rw [take_filter ha0, if_neg (by simp [hp0])]
  refine List.filter_eq_self.2 fun a ha => ?_
  obtain ⟨j, hj, rfl⟩ := List.getElem_of_mem ha
  rw [List.length_take] at hj
  have := hno0 j _ (by omega) (List.getElem?_eq_getElem (by omega))
  rw [List.getElem_take]
  simpa using this
 refine HR.row 0 I (by omega) fun g off c hv hnc hcm => ?_
 have hcm : c ≤ 9223372036854775807 := hcm
 repeat' (first | refine zh ?_ | intro (bk : Nat))
 obtain ⟨F, hF⟩ : ∃ F : Nat → Nat, F = fun k => ((l.take k).filter fun c => !(c == to)).length := ⟨_, rfl⟩
 have hF0 : F (i0 + 1) = i0 := by rw [hF]; show ((l.take (i0 + 1)).filter _).length = i0; rw [ht0, List.length_take]; omega
 refine HR.loop (ι := Nat × List Int) (fun x => x.1 ≤ l.length ∧ x.2.length = l.length ∧ F x.1 < x.1 ∧ x.2.take (F x.1) = (l.take x.1).filter (fun c => !(c == to)) ∧ x.2.drop x.1 = l.drop x.1) (fun x => [(0, v), (1, .func (.func 154) #[] #[.pointer (some ⟨bt, 0, none⟩)]), (5, .int .i64 (F x.1 : Int)), (6, .int .i64 (x.1 : Int))]) (fun x => [ownC v 3 1 l.length (cellsOf iC x.2), blkC bt [.int .i64 to] 3]) (fun x => l.length - x.1) (i0 + 1, l) ⟨by show i0 + 1 ≤ _; omega, rfl, by show F (i0 + 1) < i0 + 1; omega, by show l.take (F (i0 + 1)) = _; rw [hF0, ht0], rfl⟩ (by rw [hF0]; exact ⟨I, I, I, I, trivial⟩) Ent.refl ?_
 rintro ⟨k, X⟩ ⟨hk, hX, hFk, hT, hD⟩ ih
 have hk : k ≤ l.length := hk
 have hX : X.length = l.length := hX
 have hFk : F k < k := hFk
 have hT : X.take (F k) = (l.take k).filter (fun c => !(c == to)) := hT
 have hD : X.drop k = l.drop k := hD
 have hTl : F k = ((l.take k).filter fun c => !(c == to)).length := by rw [hF]
 repeat' (first | refine zh ?_ | refine HL.lenR (Rd.own 0 I) I I I ?_ | intro (bk : Nat))
 refine HR.cond I (fun h2 => ?_) (fun h2 => ?_)
 ·have hlt : k < l.length := by have := of_decide_eq_true h2; omega
  obtain ⟨x, hx⟩ := getSome hlt
  have hxX : X[k]? = some x := by
   have e1 : (X.drop k)[0]? = X[k]? := by rw [List.getElem?_drop]; rfl
   have e2 : (l.drop k)[0]? = l[k]? := by rw [List.getElem?_drop]; rfl
   rw [← e1, hD, e2, hx]
  have hnext := take_filter (p := fun c => !(c == to)) hx
  have hD1 : X.drop (k + 1) = l.drop (k + 1) := by
   rw [← List.drop_drop, ← List.drop_drop, hD]
  repeat' (first | refine zh ?_ | refine HL.idxR (Rd.own 0 I) elemI k I I I I hlt ?_ | refine HL.loadI (Rd.own 0 I) I I I I (cellsOf_get1 hxX) ?_ | refine HL.callV (caps := [.pointer (some ⟨bt, 0, none⟩)]) fn154 I I I (fun w1 hw1 => gu1_any bt to x w1 ((Rd.blk (n := 1) 1 rfl).at hw1)) ?_ | intro (bk : Nat))
  refine HR.cond I (fun h3 => ?_) (fun h3 => ?_)
  ·have h3 : (!(x == to)) = true := h3
   rw [if_pos h3] at hnext
   have hF1 : F (k + 1) = F k + 1 := by rw [hTl, hF]; show ((l.take (k + 1)).filter _).length = _; rw [hnext, List.length_append]; rfl
   repeat' (first | refine zh ?_ | refine HL.idxR (Rd.own 0 I) elemI (F k) I I I I (by omega) ?_ | refine HL.storeE (j := F k * 1) 0 I I I I I I I (by rw [cellsOf_len iC_len]; omega) ?_ | intro (bk : Nat))
   refine ih (k + 1, X.set (F k) x) _ _ ⟨hlt, ?_, ?_, ?_, ?_⟩ (by show l.length - (k + 1) < l.length - k; omega) ?_ (Ent.own0 I ?_)
   ·show (X.set (F k) x).length = _; rw [List.length_set]; exact hX
   ·show F (k + 1) < k + 1; omega
   ·show (X.set (F k) x).take (F (k + 1)) = (l.take (k + 1)).filter _
    rw [hnext, ← hT, hF1, List.take_succ_eq_append_getElem (by rw [List.length_set]; omega), List.take_set_of_le (by omega), List.getElem_set_self]
   ·show (X.set (F k) x).drop (k + 1) = _
    rw [List.drop_set_of_lt (by omega), hD1]
   ·show Sub [_, _, (5, Value.int .i64 (F (k + 1) : Int)), _] _
    rw [hF1]
    exact ⟨I, I, I, I, trivial⟩
   ·obtain ⟨y, hy⟩ := getSome (l := X) (j := F k) (by omega)
    exact cells_set1 (i := 0) iC_len hy I (by decide)
  ·have h3 : (!(x == to)) = false := h3
   rw [if_neg (by rw [h3]; decide)] at hnext
   have hF1 : F (k + 1) = F k := by rw [hTl, hF]; show ((l.take (k + 1)).filter _).length = _; rw [hnext]
   repeat' (first | refine zh ?_ | intro (bk : Nat))
   refine ih (k + 1, X) _ _ ⟨hlt, hX, by show F (k + 1) < k + 1; omega, by show X.take (F (k + 1)) = (l.take (k + 1)).filter _; rw [hF1, hnext, hT], hD1⟩ (by show l.length - (k + 1) < l.length - k; omega) ?_ Ent.refl
   show Sub [_, _, (5, Value.int .i64 (F (k + 1) : Int)), _] _
   rw [hF1]
   exact ⟨I, I, I, I, trivial⟩
 ·have hke : k = l.length := by have := of_decide_eq_false h2; omega
  subst hke
  subst hv
  rw [List.take_length] at hT hTl
  repeat' (first | refine zh ?_ | refine HL.cut (sz := 1) (F l.length) l.length c I I I I (.inr ⟨_, _, rfl, rfl⟩) (.inl ⟨rfl, rfl, rfl⟩) (.inl ⟨rfl, rfl⟩) (by omega) hnc (Nat.le_refl _) ?_ | intro (bk : Nat))
  refine HL.setHd (cutV_lit (by omega)) ?_
  refine HL.clearO (F l.length) 0 I I I I I I (by decide) I (by omega) ?_
  repeat' (first | refine zh ?_ | refine HL.cut (sz := 1) 0 (F l.length) c I I I I (.inl ⟨rfl, rfl⟩) (.inr ⟨_, _, rfl, rfl⟩) (.inl ⟨rfl, rfl⟩) (by omega) (by omega) (Nat.le_refl _) ?_ | intro (bk : Nat))
  refine HR.ret Tryz.func153 I [_] (fun _ _ => ⟨I, trivial⟩) ?_
  refine fun w' hw => ⟨_, rfl, trivial, ?_⟩
  have hc0 : cutV 1 (some ⟨g, off, none⟩) 0 (F l.length) c = .slice (some ⟨g, off, none⟩) (l.filter fun c => !(c == to)).length c := by
   rw [cutV_lit (by omega), ← hTl]; simp
  rw [hc0]
  refine Sat.cutK hw (by omega) ?_
  rw [← hTl, ← hT, List.take_append_of_le_length (by simp [cellsOf_len iC_len]; omega), List.take_take, Nat.min_self, cellsOf_take iC_len]
end Go.Proofs.YtgdgclmkpoaagaaGreat
namespace Go.Proofs.YtgdgclmkpoaagaaGreat
open Go.GX Go.RowKit
attribute [local irreducible] Calls Run RunL RunQ RunD HR HL HD blkC ownC Rd
open Nd
theorem fn167 : IsFn Tryz.prog 167 := ⟨⟨_, _, Tryz.func167, rfl, by decide⟩⟩
theorem fn166 : IsFn Tryz.prog 166 := ⟨⟨_, _, Tryz.func166, rfl, by decide⟩⟩
theorem fn208 : IsFn Tryz.prog 208 := ⟨⟨_, _, Tryz.func208, rfl, by decide⟩⟩
theorem snumber_any (b : Nat) (V : NV) (n : Nd) (now : Int) (B : Base) (w : World) (hw : Sat B (stH b V n now) w) (hl : n.table.length ≤ 1000) :
  Calls Tryz.prog 167 #[ptr b] w fun e w' => ∃ _x : Unit, e = .returned (.int .i64 (number n)) ∧ True ∧ Sat ⟨w, feet (stH b V n now)⟩ (stH b V n now) w' := by
 refine calls_hrW (stH b V n now) (hw) Tryz.func167 I (Nat.le_of_ble_eq_true I) ?_
 refine HR.sub (σ' := [(0, ptr b)]) ⟨I, trivial⟩ ?_
 repeat' (first | refine zh ?_ | intro (bk : Nat))
 refine HR.loop (ι := Nat) (fun k => k ≤ n.table.length ∧ ∀ j a, j < k → n.table[j]? = some a → (a.dest == n.addr) = false) (fun k => [(0, ptr b), (9, sv V.ta n.table.length), (10, .int .i64 (n.table.length : Int)), (11, .int .i64 (k : Int))]) (fun _ => stH b V n now) (fun k => n.table.length - k) 0 ⟨Nat.zero_le _, fun j a hj => by omega⟩ ⟨I, I, I, I, trivial⟩ Ent.refl ?_
 rintro k ⟨hk, hg⟩ ih
 repeat' (first | refine zh ?_ | intro (bk : Nat))
 refine HR.cond I (fun h2 => ?_) (fun h2 => ?_)
 ·have hlt : k < n.table.length := by have := of_decide_eq_true h2; omega
  obtain ⟨x, hx⟩ := getSome hlt
  repeat' (first | refine zh ?_ | refine HL.idxR (Rd.own 1 I) elemRo k I I I I hlt ?_ | refine HL.loadE (Rd.own 1 I) I I I I (by simp) I (cellsOf_get roC_len hx) ?_ | intro (bk : Nat))
  refine HR.regionQ hmix (by kernel_rfl) ?_
  repeat' (first | refine zq ?_ | apply zb ?_ ?_ | exact zc | (refine zi fun hb => ?_; try simp at hb))
  refine HR.cond I (fun h3 => ?_) (fun h3 => ?_)
  ·have h3 : (x.dest == n.addr) = true := h3
   have hf : rat n.table n.addr = some x := find_first hx h3 hg
   repeat' (first | refine zh ?_ | intro (bk : Nat))
   refine HR.ret Tryz.func167 I [_] (fun _ _ => ⟨I, trivial⟩) ?_
   exact fun w' hw => ⟨(), by rw [number, hf]; rfl, trivial, hw.pick [1, 2, 3, 4, 5, 6, 7, 8, 9, 10] I rfl⟩
  ·have h3 : (x.dest == n.addr) = false := h3
   repeat' (first | refine zh ?_ | intro (bk : Nat))
   refine ih (k + 1) _ _ ⟨hlt, fun j a hj ha => ?_⟩ (by omega) ⟨I, I, I, I, trivial⟩ (Ent.pick [1, 2, 3, 4, 5, 6, 7, 8, 9, 10] I I)
   by_cases hjk : j = k
   ·subst hjk; rw [hx] at ha; cases ha; exact h3
   ·exact hg j a (by omega) ha
 ·have hke : k = n.table.length := by have := of_decide_eq_false h2; omega
  subst hke
  have hf : rat n.table n.addr = none := List.find?_eq_none.2 fun a ha => by
   obtain ⟨j, hj⟩ := List.getElem?_of_mem ha
   have := hg j a (List.getElem?_eq_some_iff.1 hj).1 hj
   simp [this]
  repeat' (first | refine zh ?_ | intro (bk : Nat))
  refine HR.ret Tryz.func167 I [_] (fun _ _ => ⟨I, trivial⟩) ?_
  exact fun w' hw => ⟨(), by rw [number, hf]; rfl, trivial, hw⟩
theorem swaits1_any (bt : Nat) (k : Int) (x : Sn) (w : World) (hb : Sl w (.slice (some ⟨bt, 0, none⟩) 1 1) [.int .i64 k] 1) : Calls Tryz.prog 208 #[.agg ⟨snC x⟩, .pointer (some ⟨bt, 0, none⟩)] w fun e w' => e = .returned (.bool (x.f.kd == k)) ∧ Below w.heap.size w w' := by
 refine calls_hr Tryz.func208 I (Nat.le_of_ble_eq_true I) ?_
 refine HR.sub (σ' := [(0, .agg ⟨snC x⟩), (1, .pointer (some ⟨bt, 0, none⟩))]) ⟨I, I, trivial⟩ ?_
 repeat' (first | refine zh ?_ | refine HL.loadI (j := 0) (Rd.arg hb) I I I I I ?_ | intro (bk : Nat))
 refine HR.ret Tryz.func208 I [_] (fun _ _ => ⟨I, trivial⟩) ?_
 exact fun w' hw => ⟨rfl, hw.belowB⟩
theorem swaits_any (b : Nat) (V : NV) (n : Nd) (now k : Int) (B : Base) (w : World) (hw : Sat B (stH b V n now) w) (hl : n.out.length ≤ 1000) :
  Calls Tryz.prog 166 #[ptr b, .int .i64 k] w fun e w' => ∃ _x : Unit, e = .returned (.bool (waits n k)) ∧ True ∧ Sat ⟨w, feet (stH b V n now)⟩ (stH b V n now) w' := by
 refine calls_hrW (stH b V n now) (hw) Tryz.func166 I (Nat.le_of_ble_eq_true I) ?_
 refine HR.sub (σ' := [(0, ptr b), (1, .int .i64 k)]) ⟨I, I, trivial⟩ ?_
 repeat' (first | refine zh ?_ | refine HL.mkF (g := 208) (caps := [_]) I I ?_ | refine HL.callB fn207 I I (fun w1 hw1 => contFSn_any n.out (fun x => x.f.kd == k) 208 [.pointer (some ⟨bk, 0, none⟩)] (sv V.ou n.out.length) w1 fn208 (fun a ha w2 hb => swaits1_any bk k a w2 (((Rd.blk (n := 1) 0 rfl).at hw1).ext hb)) ((Rd.own 4 rfl).at hw1) (by omega)) ?_ | intro (bk : Nat))
 refine HR.ret Tryz.func166 I [_] (fun _ _ => ⟨I, trivial⟩) ?_
 exact fun w' hw => ⟨(), rfl, trivial, hw.pick [1, 2, 3, 4, 5, 6, 7, 8, 9, 10] I rfl⟩
end Go.Proofs.YtgdgclmkpoaagaaGreat
