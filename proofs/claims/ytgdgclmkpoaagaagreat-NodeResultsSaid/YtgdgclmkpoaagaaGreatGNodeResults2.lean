/- A part of the proof: contracts of the program's functions. Conditions: none. -/
import Derived.Carry
import Derived.Deep.MidRow
import Derived.Deep.Quiet
import Derived.Laws.IdiomRangeMap
import Derived.Laws.MakeOwn
import Derived.Laws.StructEq
import Derived.Laws.Tables
import Derived.Lib.AppendStr
import Derived.Lib.AppendZerosOnto
import Derived.Lib.OthersKept
import Derived.Lib.Overlaps
import Derived.Lib.OwnBridge
import Derived.Lib.SlicesCompact
import Derived.MapKept
import Derived.Orders
import Derived.OrdersHeld
import Derived.Scope
import Derived.SliceStrings
import Derived.Sort.Grow
import Derived.StillTail
import Derived.Test.YtgdgclmkpoaagaaGreatProg
import Derived.Test.YtgdgclmkpoaagaaGreatShelf
import Derived.WalkKit
import Derived.WalkLawsBesides
import Derived.WalkSpells
import Derived.Test.YtgdgclmkpoaagaaGreatGB1
import Derived.Test.YtgdgclmkpoaagaaGreatGB10
import Derived.Test.YtgdgclmkpoaagaaGreatGB11
import Derived.Test.YtgdgclmkpoaagaaGreatGB2
import Derived.Test.YtgdgclmkpoaagaaGreatGB3
import Derived.Test.YtgdgclmkpoaagaaGreatGB4
import Derived.Test.YtgdgclmkpoaagaaGreatGB5
import Derived.Test.YtgdgclmkpoaagaaGreatGB6
import Derived.Test.YtgdgclmkpoaagaaGreatGB7
import Derived.Test.YtgdgclmkpoaagaaGreatGB8
import Derived.Test.YtgdgclmkpoaagaaGreatGB9
import Derived.Test.YtgdgclmkpoaagaaGreatGNodeResults1
set_option linter.unusedVariables false
set_option linter.unusedSectionVars false
set_option linter.unusedSimpArgs false
set_option maxRecDepth 100000
set_option maxHeartbeats 4000000
namespace Go.Proofs.YtgdgclmkpoaagaaGreat
open Go.GX Go.RowKit
attribute [local irreducible] Calls Run RunL RunQ RunD HR HL HD blkC ownC Rd
open Nd
def latZ (l : List Li) (n : Int) : Li := (lat l n).getD ⟨0, 0, 0⟩
theorem r10at_any (l : List Li) (n : Int) (v : Value) (w : World) (hv : Sl w v (cellsOf liC l) l.length) (hl : l.length ≤ 1000) :
  Calls Tryz.prog 158 #[v, .int .i64 n] w fun e w' => e = .returned (.tuple ⟨[.agg ⟨liC (latZ (lval l) n)⟩, .bool (lat (lval l) n).isSome]⟩) ∧ Below w.heap.size w w' := by
 have hlen := lval_len l
 refine calls_hr Tryz.func158 I (Nat.le_of_ble_eq_true I) ?_
 refine HR.sub (σ' := [(0, v), (1, .int .i64 n)]) ⟨I, I, trivial⟩ ?_
 repeat' (first | refine zh ?_ | intro (bk : Nat))
 refine HL.callO fn157 I I (fun w hw => r10valid_any l v w ((Rd.arg hv).at hw) hl) ?_
 intro v1
 repeat' (first | refine zh ?_ | intro (bk : Nat))
 obtain ⟨L, hL⟩ : ∃ L, L = lval l := ⟨_, rfl⟩
 rw [← hL] at hlen ⊢
 refine HR.loop (ι := Nat) (fun k => k ≤ L.length ∧ ∀ j a, j < k → L[j]? = some a → (a.nd == n) = false) (fun k => [(1, .int .i64 n), (4, .pointer (some ⟨bk, 0, none⟩)), (6, v1), (7, .int .i64 (k : Int))]) (fun _ => [ownC v1 129 3 L.length (cellsOf liC L), blkC bk (liC ⟨0, 0, 0⟩) 129]) (fun k => L.length - k) 0 ⟨Nat.zero_le _, fun j a hj => by omega⟩ ⟨I, I, I, I, trivial⟩ Ent.refl ?_
 rintro k ⟨hk, hg⟩ ih
 repeat' (first | refine zh ?_ | refine HL.lenR (Rd.own 0 I) I I I ?_ | intro (bk : Nat))
 refine HR.cond I (fun h2 => ?_) (fun h2 => ?_)
 ·have hlt : k < L.length := by have := of_decide_eq_true h2; omega
  obtain ⟨x, hx⟩ := getSome hlt
  repeat' (first | refine zh ?_ | refine HL.idxR (Rd.own 0 I) elemLi k I I I I hlt ?_ | refine HL.fieldE (Rd.own 0 I) (by rw [cellsOf_len liC_len]; omega) I I I I I I ?_ | refine HL.loadI (Rd.own 0 I) I I I I (cells_get liC_len hx (i := 0) I) ?_ | intro (bk : Nat))
  refine HR.cond I (fun h3 => ?_) (fun h3 => ?_)
  ·have h3 : (x.nd == n) = true := h3
   have hf : lat L n = some x := find_first hx h3 hg
   repeat' (first | refine zh ?_ | refine HL.idxR (Rd.own 0 I) elemLi k I I I I hlt ?_ | refine HL.loadE (Rd.own 0 I) I I I I (by simp) I (cellsOf_get liC_len hx) ?_ | intro (bk : Nat))
   refine HR.ret Tryz.func158 I [_, _] (fun w hw => ⟨⟨_, rfl, loadVarR hw 1 I I I I rfl⟩, rfl, trivial⟩) ?_
   exact fun w' hw => ⟨by rw [latZ, hf]; rfl, hw.belowB⟩
  ·have h3 : (x.nd == n) = false := h3
   repeat' (first | refine zh ?_ | intro (bk : Nat))
   refine ih (k + 1) _ _ ⟨hlt, fun j a hj ha => ?_⟩ (by omega) ⟨I, I, I, I, trivial⟩ Ent.refl
   by_cases hjk : j = k
   ·subst hjk; rw [hx] at ha; cases ha; exact h3
   ·exact hg j a (by omega) ha
 ·have hke : k = L.length := by have := of_decide_eq_false h2; omega
  have hf : lat L n = none := List.find?_eq_none.2 fun a ha => by
   obtain ⟨j, hj⟩ := List.getElem?_of_mem ha
   have := hg j a (by rw [hke]; exact (List.getElem?_eq_some_iff.1 hj).1) hj
   simp [this]
  repeat' (first | refine zh ?_ | intro (bk : Nat))
  refine HR.ret Tryz.func158 I [_, _] (fun w hw => ⟨⟨_, rfl, loadVarR hw 1 I I I I rfl⟩, rfl, trivial⟩) ?_
  exact fun w' hw => ⟨by rw [latZ, hf]; rfl, hw.belowB⟩
theorem r10forget_any (l : List Li) (n : Int) (v : Value) (w : World) (hv : Sl w v (cellsOf liC l) l.length) (hl : l.length ≤ 1000) :
  Calls Tryz.prog 85 #[v, .int .i64 n] w fun e w' => ∃ v', e = .returned v' ∧ Sat (base w) [ownC v' 129 3 (lforget l n).length (cellsOf liC (lforget l n))] w' := by
 have hlen := lval_len l
 refine calls_hr Tryz.func85 I (Nat.le_of_ble_eq_true I) ?_
 refine HR.sub (σ' := [(0, v), (1, .int .i64 n)]) ⟨I, I, trivial⟩ ?_
 repeat' (first | refine zh ?_ | intro (bk : Nat))
 refine HL.callO fn157 I I (fun w hw => r10valid_any l v w ((Rd.arg hv).at hw) hl) ?_
 intro v1
 repeat' (first | refine zh ?_ | intro (bk : Nat))
 have hfe : lforget l n = (lval l).filter (fun x => !(x.nd == n)) := rfl
 rw [hfe]
 obtain ⟨L, hL⟩ : ∃ L, L = lval l := ⟨_, rfl⟩
 rw [← hL] at hlen ⊢
 clear hfe
 refine HR.nilC 129 3 ?_
 refine HR.loop2 (α := Nat) (β := Value) (fun k o => k ≤ L.length) (fun k o => [(1, .int .i64 n), (5, v1), (6, o), (7, .int .i64 (k : Int))]) (fun k o => [ownC o 129 3 ((L.take k).filter (fun x => !(x.nd == n))).length (cellsOf liC ((L.take k).filter (fun x => !(x.nd == n)))), ownC v1 129 3 L.length (cellsOf liC L)]) (fun k _ => L.length - k) 0 (.slice none 0 0) (Nat.zero_le _) ⟨I, I, I, I, trivial⟩ Ent.refl ?_
 intro k o hk ih
 repeat' (first | refine zh ?_ | refine HL.lenR (Rd.own 1 I) I I I ?_ | intro (bk : Nat))
 refine HR.cond I (fun h2 => ?_) (fun h2 => ?_)
 ·have hlt : k < L.length := by have := of_decide_eq_true h2; omega
  obtain ⟨x, hx⟩ := getSome hlt
  have hfl : ((L.take k).filter (fun x => !(x.nd == n))).length ≤ 24 := Nat.le_trans (List.length_filter_le _ _) (by simp; omega)
  repeat' (first | refine zh ?_ | refine HL.idxR (Rd.own 1 I) elemLi k I I I I hlt ?_ | refine HL.fieldE (Rd.own 1 I) (by rw [cellsOf_len liC_len]; omega) I I I I I I ?_ | refine HL.loadI (Rd.own 1 I) I I I I (cells_get liC_len hx (i := 0) I) ?_ | intro (bk : Nat))
  refine HR.cond I (fun h3 => ?_) (fun h3 => ?_)
  ·have h3 : (x.nd != n) = true := h3
   repeat' (first | refine zh ?_ | refine HL.idxR (Rd.own 1 I) elemLi k I I I I hlt ?_ | refine HL.loadE (Rd.own 1 I) I I I I (by simp) I (cellsOf_get liC_len hx) ?_ | refine HL.bslice elemLi I I I I I (by decide) (by decide) ?_ | intro (bk : Nat))
   intro va
   repeat' (first | refine zh ?_ | refine HL.appR 1 I elemLi (Rd.own 0 I) I I I I (allOne_spec I) (by omega) (by omega) ?_ | intro (bk : Nat))
   intro o2
   repeat' (first | refine zh ?_ | intro (bk : Nat))
   refine ih (k + 1) o2 _ _ hlt (by omega) ⟨I, I, I, I, trivial⟩ (Ent.trans (Ent.pick [1, 2] I I) (Ent.own0 ?_ ?_))
   ·rw [take_succ_get hx, List.filter_append, List.filter_cons_of_pos (by simpa [bne] using h3)]; simp
   ·rw [take_succ_get hx, List.filter_append, List.filter_cons_of_pos (by simpa [bne] using h3), cellsOf_app]; rfl
  ·have h3 : (x.nd != n) = false := h3
   repeat' (first | refine zh ?_ | intro (bk : Nat))
   refine ih (k + 1) o _ _ hlt (by omega) ⟨I, I, I, I, trivial⟩ (Ent.own0 ?_ ?_)
   ·rw [take_succ_get hx, List.filter_append, List.filter_cons_of_neg (by simpa [bne] using h3)]; simp
   ·rw [take_succ_get hx, List.filter_append, List.filter_cons_of_neg (by simpa [bne] using h3)]; simp
 ·have hke : k = L.length := by have := of_decide_eq_false h2; omega
  subst hke
  rw [List.take_length]
  repeat' (first | refine zh ?_ | intro (bk : Nat))
  refine HR.ret Tryz.func85 I [_] (fun _ _ => ⟨I, trivial⟩) ?_
  exact fun w' hw => ⟨o, rfl, hw.pick [0] I rfl⟩
end Go.Proofs.YtgdgclmkpoaagaaGreat
namespace Go.Proofs.YtgdgclmkpoaagaaGreat
open Go.GX Go.RowKit
attribute [local irreducible] Calls Run RunL RunQ RunD HR HL HD blkC ownC Rd
open Nd
theorem lseen_rest {l : List Li} {n : Int} {ok : Bool} {k : Nat} (hr : ¬ (n < 0 ∨ n > 250)) (hf : ¬ (lat (lval l) n = none ∧ (lval l).length = 24)) (hk : k ≤ (lforget l n).length) (h1 : ∀ j a, j < k → (lforget l n)[j]? = some a → a.nd < n) (h2 : ∀ a, (lforget l n)[k]? = some a → n ≤ a.nd) :
  lseen l n ok = (lforget l n).take k ++ ⟨n, (2 * (latZ (lval l) n).bi + (if ok then 1 else 0)) % 65536, min ((latZ (lval l) n).ct + 1) 16⟩ :: (lforget l n).drop k := by
 have key := lseen_ref (l := l) (rest := lforget l n) (n := n) (ok := ok) (k := k) (x := (lat (lval l) n).getD ⟨n, 0, 0⟩) hr I I hf hk h1 h2
 rw [key]
 congr 2
 unfold lupd latZ
 cases hx : lat (lval l) n with
 | none => rfl
 | some x => rw [← (lat_mem hx).2]; rfl
theorem r10seen_any (l : List Li) (n : Int) (ok : Bool) (v : Value) (w : World) (hv : Sl w v (cellsOf liC l) l.length) (hl : l.length ≤ 1000) :
  Calls Tryz.prog 82 #[v, .int .i64 n, .bool ok] w fun e w' => ∃ v', e = .returned v' ∧ Sat (base w) [ownC v' 129 3 (lseen l n ok).length (cellsOf liC (lseen l n ok))] w' := by
 have hlen := lval_len l
 have hz : 0 ≤ (latZ (lval l) n).bi ∧ (latZ (lval l) n).bi < 65536 ∧ 0 ≤ (latZ (lval l) n).ct ∧ (latZ (lval l) n).ct ≤ 16 := by
  unfold latZ
  cases hf : lat (lval l) n with
  | none => simp
  | some x =>
   have hr := lrange_lt (lval_mem (lat_mem hf).1)
   exact ⟨hr.2.2.2.2.1, hr.2.2.2.2.2, hr.2.2.1, hr.2.2.2.1⟩
 refine calls_hr Tryz.func82 I (Nat.le_of_ble_eq_true I) ?_
 refine HR.sub (σ' := [(0, v), (1, .int .i64 n), (2, .bool ok)]) ⟨I, I, I, trivial⟩ ?_
 repeat' (first | refine zh ?_ | intro (bk : Nat))
 refine HL.callO fn157 I I (fun w hw => r10valid_any l v w ((Rd.arg hv).at hw) hl) ?_
 intro v1
 repeat' (first | refine zh ?_ | refine HL.callB fn158 I I (fun w hw => by have := r10at_any (lval l) n v1 w ((Rd.own 0 rfl).at hw) (by omega); rw [lval_val] at this; exact this) ?_ | intro (bk : Nat))
 obtain ⟨Z, hZ⟩ : ∃ Z, Z = latZ (lval l) n := ⟨_, rfl⟩
 rw [← hZ] at hz ⊢
 repeat' (first | refine zh ?_ | refine HL.lenR (Rd.own 1 I) I I I ?_ | apply zb ?_ ?_ | exact zc | (refine zi fun hb => ?_; try simp at hb) | intro (bk : Nat))
 refine HR.cond I (fun h => ?_) (fun h => ?_)
 ·have h : ((decide (n < 0) || decide (n > 250)) || (!(lat (lval l) n).isSome && decide (((lval l).length : Int) ≥ 24))) = true := h
  repeat' (first | refine zh ?_ | apply zb ?_ ?_ | exact zc | (refine zi fun hb => ?_; try simp at hb) | intro (bk : Nat))
  refine HR.ret Tryz.func82 I [_] (fun _ _ => ⟨I, trivial⟩) ?_
  refine fun w' hw => ⟨v1, rfl, ?_⟩
  have : lseen l n ok = lval l := by
   by_cases hr : n < 0 ∨ n > 250
   ·exact lseen_out hr
   ·have e : (decide (n < 0) || decide (n > 250)) = false := by simp; omega
    rw [e, Bool.false_or, Bool.and_eq_true, decide_eq_true_eq] at h
    exact lseen_full hr (by simpa using h.1) (by omega)
  rw [this]
  exact hw.pick [1] I I
 have h : ((decide (n < 0) || decide (n > 250)) || (!(lat (lval l) n).isSome && decide (((lval l).length : Int) ≥ 24))) = false := h
 rw [Bool.or_eq_false_iff] at h
 have hr : ¬ (n < 0 ∨ n > 250) := by have := h.1; simp only [Bool.or_eq_false_iff, decide_eq_false_iff_not] at this; omega
 have hfull : ¬ (lat (lval l) n = none ∧ (lval l).length = 24) := by
  rintro ⟨e1, e2⟩
  have := h.2
  rw [e1, e2] at this
  simp at this
 have hbit : 0 ≤ (if ok then (1 : Int) else 0) ∧ (if ok then (1 : Int) else 0) ≤ 1 := by cases ok <;> simp
 repeat' (first | refine zh ?_ | intro (bk : Nat))
 refine HR.join (ι := Unit) (fun _ => True) (fun _ => [(1, .int .i64 n), (7, v1), (8, .pointer (some ⟨bk, 0, none⟩)), (10, .int .i64 (if ok then 1 else 0))]) (fun _ => [blkC bk (liC Z) 129, ownC v1 129 3 (lval l).length (cellsOf liC (lval l))]) ?_ (fun hj2 => ?_)
 rotate_left
 ·refine HR.cond I (fun h3 => ?_) (fun h3 => ?_)
  ·subst h3
   refine HR.region ?_
   repeat' (first | refine zn ?_ | apply zb ?_ ?_ | exact zc | (refine zi fun hb => ?_; try simp at hb) | intro (bk : Nat))
   exact hj2 () _ _ trivial ⟨I, I, I, I, trivial⟩ Ent.refl
  ·subst h3
   refine HR.skip ?_
   exact hj2 () _ _ trivial ⟨I, I, I, I, trivial⟩ Ent.refl
 intro _ _
 obtain ⟨bit, hbe⟩ : ∃ bit, bit = (if ok then (1 : Int) else 0) := ⟨_, rfl⟩
 rw [← hbe] at hbit ⊢
 have key := fun k => lseen_rest (l := l) (n := n) (ok := ok) (k := k) hr hfull
 rw [← hbe, ← hZ] at key
 have hcb : 0 ≤ Z.ct + 1 ∧ Z.ct + 1 ≤ 17 := by omega
 repeat' (first | refine zh ?_ | intro (bk : Nat))
 refine HR.join (ι := Unit) (fun _ => True) (fun _ => [(1, .int .i64 n), (7, v1), (8, .pointer (some ⟨bk, 0, none⟩))]) (fun _ => [blkC bk (liC ⟨n, (2 * Z.bi + bit) % 65536, min (Z.ct + 1) 16⟩) 129, ownC v1 129 3 (lval l).length (cellsOf liC (lval l))]) ?_ (fun hj2 => ?_)
 rotate_left
 ·refine HR.cond I (fun h3 => ?_) (fun h3 => ?_)
  ·have h3 : Z.ct + 1 > 16 := of_decide_eq_true h3
   refine HR.region ?_
   repeat' (first | refine zn ?_ | apply zb ?_ ?_ | exact zc | (refine zi fun hb => ?_; try simp at hb) | intro (bk : Nat))
   exact hj2 () _ _ trivial ⟨I, I, I, trivial⟩ (by rw [show min (Z.ct + 1) 16 = 16 by omega]; exact Ent.refl)
  ·have h3 : ¬ Z.ct + 1 > 16 := of_decide_eq_false h3
   refine HR.skip ?_
   exact hj2 () _ _ trivial ⟨I, I, I, trivial⟩ (by rw [show min (Z.ct + 1) 16 = Z.ct + 1 by omega]; exact Ent.refl)
 intro _ _
 repeat' (first | refine zh ?_ | intro (bk : Nat))
 refine HL.callO fn85 I I (fun w hw => by have := r10forget_any (lval l) n v1 w ((Rd.own 1 rfl).at hw) (by omega); rw [show lforget (lval l) n = lforget l n by unfold lforget; rw [lval_val]] at this; exact this) ?_
 intro v2
 have hfl : (lforget l n).length ≤ 24 := Nat.le_trans (List.length_filter_le _ _) hlen
 obtain ⟨X, hX⟩ : ∃ X : Li, X = ⟨n, (2 * Z.bi + bit) % 65536, min (Z.ct + 1) 16⟩ := ⟨_, rfl⟩
 rw [← hX] at key ⊢
 obtain ⟨L, hL⟩ : ∃ L, L = lforget l n := ⟨_, rfl⟩
 rw [← hL] at key hfl ⊢
 repeat' (first | refine zh ?_ | intro (bk : Nat))
 refine HR.nilC 129 3 ?_
 refine HR.loop2 (α := Nat) (β := Value) (fun k o => k ≤ L.length ∧ ∀ j a, j < k → L[j]? = some a → a.nd < n) (fun k o => [(1, .int .i64 n), (8, .pointer (some ⟨bk, 0, none⟩)), (11, o), (12, v2), (13, .int .i64 (k : Int))]) (fun k o => [ownC o 129 3 (L.take k).length (cellsOf liC (L.take k)), ownC v2 129 3 L.length (cellsOf liC L), blkC bk (liC X) 129]) (fun k _ => L.length - k) 0 (.slice none 0 0) ⟨Nat.zero_le _, fun j a hj => by omega⟩ ⟨I, I, I, I, I, trivial⟩ (Ent.pick [0, 1, 2] I I) ?_
 rintro k o ⟨hk, hg⟩ ih
 have htl : (L.take k).length = k := by simp; omega
 repeat' (first | refine zh ?_ | refine HL.lenR (Rd.own 1 I) I I I ?_ | refine HL.idxR (Rd.own 1 I) elemLi k I I I I (by omega) ?_ | refine HL.fieldE (Rd.own 1 I) (by rw [cellsOf_len liC_len]; omega) I I I I I I ?_ | refine HL.loadI (Rd.own 1 I) I I I I (cells_get liC_len (getD_is (by omega) li0) (i := 0) I) ?_ | apply zb ?_ ?_ | exact zc | (refine zi fun hb => ?_; try simp at hb) | intro (bk : Nat))
 refine HR.cond I (fun h2 => ?_) (fun h2 => ?_)
 ·have h2 : (decide ((k : Int) < L.length) && decide ((L.getD k li0).nd < n)) = true := h2
  simp only [Bool.and_eq_true, decide_eq_true_eq] at h2
  have hlt : k < L.length := by omega
  have hx : L[k]? = some (L.getD k li0) := getD_is hlt li0
  repeat' (first | refine zh ?_ | refine HL.idxR (Rd.own 1 I) elemLi k I I I I hlt ?_ | refine HL.loadE (Rd.own 1 I) I I I I (by simp) I (cellsOf_get liC_len hx) ?_ | refine HL.bslice elemLi I I I I I (by decide) (by decide) ?_ | intro (bk : Nat))
  intro va
  repeat' (first | refine zh ?_ | refine HL.appR 1 I elemLi (Rd.own 0 I) I I I I (allOne_spec I) (by omega) (by omega) ?_ | intro (bk : Nat))
  intro o2
  repeat' (first | refine zh ?_ | intro (bk : Nat))
  refine ih (k + 1) o2 _ _ ⟨hlt, fun j a hj ha => ?_⟩ (by omega) ⟨I, I, I, I, I, trivial⟩ (Ent.trans (Ent.pick [1, 2, 3] I I) (Ent.own0 ?_ ?_))
  ·by_cases hjk : j = k
   ·subst hjk; rw [hx] at ha; cases ha; exact h2.2
   ·exact hg j a (by omega) ha
  ·rw [take_succ_get hx]; simp
  ·rw [take_succ_get hx, cellsOf_app]; rfl
 ·have h2 : (decide ((k : Int) < L.length) && decide ((L.getD k li0).nd < n)) = false := h2
  have hs := key k hk hg fun a ha => by
   have hlt := (List.getElem?_eq_some_iff.1 ha).1
   rw [getD_is hlt li0] at ha
   cases ha
   rw [decide_eq_true (show (k : Int) < L.length by omega), Bool.true_and, decide_eq_false_iff_not] at h2
   omega
  repeat' (first | refine zh ?_ | refine HL.bslice elemLi I I I I I (by decide) (by decide) ?_ | intro (bk : Nat))
  intro va
  repeat' (first | refine zh ?_ | refine HL.appR 1 I elemLi (Rd.own 0 I) I I I I (allOne_spec I) (by omega) (by omega) ?_ | intro (bk : Nat))
  intro o2
  rw [htl]
  repeat' (first | refine zh ?_ | refine HL.lenR (Rd.own 1 I) I I I ?_ | refine HL.subI (sz := 3) k L.length (Rd.own 2 I) I I I I (.inr ⟨_, _, _, rfl, rfl, by omega⟩) (.inl ⟨rfl, rfl⟩) hk (Nat.le_refl _) ?_ | refine HL.appR 1 I elemLi (Rd.sub (sz := 3) (Rd.own 2 I) (cellsOf_len liC_len _) hk (Nat.le_refl _)) I I I (by rw [List.length_take, List.length_drop, cellsOf_len liC_len]; omega) (fun u hu => one_allcells liC_one _ u (List.mem_of_mem_drop (List.mem_of_mem_take hu))) (by omega) (by omega) ?_ | intro (bk : Nat))
  intro o3
  repeat' (first | refine zh ?_ | intro (bk : Nat))
  refine HR.ret Tryz.func82 I [_] (fun _ _ => ⟨I, trivial⟩) ?_
  refine fun w' hw => ⟨o3, rfl, Ent.own0 ?_ ?_ w' (hw.pick [1] I rfl)⟩
  ·rw [hs]; simp; omega
  ·have e9 : ((cellsOf liC L).drop (k * 3)).take ((L.length - k) * 3) = cellsOf liC (L.drop k) := by
    rw [cellsOf_drop liC_len]
    exact List.take_of_length_le (by rw [cellsOf_len liC_len, List.length_drop]; exact Nat.le_refl _)
   rw [hs, e9, cellsOf_app, List.append_assoc]
   congr 1
end Go.Proofs.YtgdgclmkpoaagaaGreat
namespace Go.Proofs.YtgdgclmkpoaagaaGreat
open Go.GX Go.RowKit
attribute [local irreducible] Calls Run RunL RunQ RunD HR HL HD blkC ownC Rd
open Nd
theorem fn80 : IsFn Tryz.prog 80 := ⟨⟨_, _, Tryz.func80, rfl, by decide⟩⟩
theorem fn30 : IsFn Tryz.prog 30 := ⟨⟨_, _, Tryz.func30, rfl, by decide⟩⟩
theorem fn78 : IsFn Tryz.prog 78 := ⟨⟨_, _, Tryz.func78, rfl, by decide⟩⟩
abbrev tiC (bt : Nat) (to : Int) : Chunk := blkC bt [.int .i64 to] 3
theorem sgiveUp_any (b : Nat) (V : NV) (n : Nd) (now to : Int) (B : Base) (w : World) (hw : Sat B (stH b V n now) w) (ho : Ord n) :
  Calls Tryz.prog 80 #[ptr b, .int .i64 to] w fun e w' => ∃ x : SV × SV × SV, e = .returned (.tuple ⟨[]⟩) ∧ True ∧ Sat ⟨w, feet (stH b V n now)⟩ (stH b { V with ta := x.1, li := x.2.1, ch := x.2.2 } (giveUp n to) now) w' := by
 have h24 := tlen ho
 have l24 := llen ho
 have k251 := klen ho
 have hsp : giveUp n to = if Tp.okN to = false then lose n else { lose n with table := rbrk n.table n.addr to, links := lforget n.links to, children := n.children.filter fun c => !(c == to), parent := if n.parent = to then 255 else n.parent } := rfl
 rw [hsp]
 refine calls_hrW (stH b V n now) (hw) Tryz.func80 I (Nat.le_of_ble_eq_true I) ?_
 refine HR.sub (σ' := [(0, ptr b), (1, .int .i64 to)]) ⟨I, I, trivial⟩ ?_
 refine HR.ctl I ?_
 refine HR.region ?_
 refine HL.box I I ?_
 intro bt
 repeat' (first | refine zh ?_ | intro (bk : Nat))
 refine HL.ent (H' := blkS b V n now :: tiC bt to :: ndH V n) (Ent.pick [1, 0, 2, 3, 4, 5, 6, 7, 8, 9, 10] I I) ?_
 refine HL.callW (r := fun _ : Unit => .tuple ⟨[]⟩) (Q := fun _ => True) (G0 := [blkS b V n now]) (H0 := tiC bt to :: ndH V n) (G := fun _ => [blkS b V (lose n) now]) fn75 I I I (fun w1 hw1 => slose_any b V n now _ w1 (hw1.pick [0] I I) ho.lost) ?_
 intro _ _
 repeat' (first | refine zh ?_ | refine HL.callB fn41 I I (fun w _ => inside_any to w) ?_ | intro (bk : Nat))
 refine HR.cond I (fun h1 => ?_) (fun h1 => ?_)
 ·have h1 : Tp.okN to = false := by simpa using h1
  rw [if_pos h1]
  repeat' (first | refine zh ?_ | intro (bk : Nat))
  refine HR.ret Tryz.func80 I [] (fun _ _ => trivial) ?_
  exact fun w' hw => ⟨(V.ta, V.li, V.ch), rfl, trivial, hw.pick [0, 2, 3, 4, 5, 6, 7, 8, 9, 10] I rfl⟩
 have h1 : ¬ Tp.okN to = false := by simpa using h1
 rw [if_neg h1]
 repeat' (first | refine zh ?_ | intro (bk : Nat))
 refine HR.regionY [(0, true), (1, true), (2, true), (3, true), (4, true), (5, true), (6, true), (7, true), (8, true), (9, true), (10, true), (11, true), (12, false), (13, true), (14, true), (15, true)] 16 [0, 1] I I hmix (by kernel_rfl) ?_
 repeat' (first | refine zd ?_ | fail)
 refine HD.one I ?_
 refine HL.callO fn151 I I (fun w1 hw1 => rbrk_any n.table n.addr to _ w1 ((Rd.own 2 rfl).at hw1) (by omega)) ?_
 intro v1
 refine HL.shape 0 I fun a1 c1 hv => ?_
 subst hv
 refine HL.back [1, 2] I I ?_
 repeat' (first | refine zd ?_ | fail)
 refine HD.last I ?_
 repeat' (first | refine zn ?_ | intro (bk : Nat))
 refine HR.ent (Ent.pick [1, 2, 0, 4, 5, 6, 7, 8, 9, 10, 11] I I) ?_
 repeat' (first | refine zh ?_ | intro (bk : Nat))
 refine HR.regionY [(0, true), (1, true), (2, true), (3, true), (4, true), (5, true), (6, true), (7, false), (8, true), (9, true), (10, true)] 11 [0, 1] I I hmix (by kernel_rfl) ?_
 repeat' (first | refine zd ?_ | fail)
 refine HD.one I ?_
 refine HL.callO fn152 I I (fun w1 hw1 => lforget_any n.links to _ w1 ((Rd.own 3 rfl).at hw1) (by omega)) ?_
 intro v2
 refine HL.shape 0 I fun a2 c2 hv => ?_
 subst hv
 refine HL.back [1, 2] I I ?_
 repeat' (first | refine zd ?_ | fail)
 refine HD.last I ?_
 repeat' (first | refine zn ?_ | intro (bk : Nat))
 refine HR.ent (Ent.pick [6, 2, 1, 3, 0, 5, 7, 8, 9, 10, 11] I I) ?_
 repeat' (first | refine zh ?_ | refine HL.mkF (g := 154) (caps := [_]) I I ?_ | intro (bk : Nat))
 refine HL.callW (r := fun z : Value => z) (Q := fun _ => True) (G0 := [cI (sv V.ch n.children.length) n.children, tiC bt to]) (H0 := [_, _, _, _, _, _, _, _, _]) (G := fun z => [ownC z 3 1 (n.children.filter fun c => !(c == to)).length (cellsOf iC (n.children.filter fun c => !(c == to))), tiC bt to]) fn153 I I I (fun w1 hw1 => delFI_any n.children to bt _ _ w1 (hw1.pick [0, 1] I I) (by omega)) ?_
 intro z _
 refine HL.shape 0 I fun a3 c3 hv => ?_
 subst hv
 repeat' (first | refine zh ?_ | intro (bk : Nat))
 refine HR.ent (Ent.pick [2, 1, 3, 4, 5, 0, 6, 7, 8, 9, 10] I I) ?_
 refine HR.regionQ hmix (by kernel_rfl) ?_
 repeat' (first | refine zq ?_ | apply zb ?_ ?_ | exact zc | (refine zi fun hb => ?_; try simp at hb))
 refine HR.cond I (fun h2 => ?_) (fun h2 => ?_)
 ·have h2 : n.parent = to := eq_of_beq h2
  rw [if_pos h2]
  repeat' (first | refine zh ?_ | intro (bk : Nat))
  refine HR.fin Tryz.func80 I [] (fun _ _ => trivial) ?_
  exact fun w' hw => ⟨((a1, c1), (a2, c2), (a3, c3)), rfl, trivial, hw.pick [0, 2, 3, 4, 5, 6, 7, 8, 9, 10] I rfl⟩
 ·have h2 : (n.parent == to) = false := h2
  have h2 : ¬ n.parent = to := by simpa using h2
  rw [if_neg h2]
  repeat' (first | refine zh ?_ | intro (bk : Nat))
  refine HR.fin Tryz.func80 I [] (fun _ _ => trivial) ?_
  exact fun w' hw => ⟨((a1, c1), (a2, c2), (a3, c3)), rfl, trivial, hw.pick [0, 2, 3, 4, 5, 6, 7, 8, 9, 10] I rfl⟩
theorem result1_any (bf : Nat) (f : Fr) (x : Sn) (w : World) (hcap : Sl w (.slice (some ⟨bf, 0, none⟩) 9 9) (frC f) 9) : Calls Tryz.prog 78 #[.agg ⟨snC x⟩, .pointer (some ⟨bf, 0, none⟩)] w fun e w' => e = .returned (.bool (hits f x)) ∧ Below w.heap.size w w' := by
 refine calls_hr Tryz.func78 I (Nat.le_of_ble_eq_true I) ?_
 refine HR.sub (σ' := [(0, .agg ⟨snC x⟩), (1, .pointer (some ⟨bf, 0, none⟩))]) ⟨I, I, trivial⟩ ?_
 repeat' (first | refine zh ?_ | refine HL.loadI (j := 0) (Rd.arg hcap) I I I I I ?_ | refine HL.loadI (j := 3) (Rd.arg hcap) I I I I I ?_ | refine HL.loadI (j := 5) (Rd.arg hcap) I I I I I ?_ | apply zb ?_ ?_ | exact zc | (refine zi fun hb => ?_; try simp at hb) | intro (bk : Nat))
 refine HR.ret Tryz.func78 I [_] (fun _ _ => ⟨I, trivial⟩) ?_
 exact fun w' hw => ⟨rfl, hw.belowB⟩
theorem giveUp_parts (n : Nd) (to : Int) : (giveUp n to).parts = n.parts := by
 by_cases h : Tp.okN to = false
 ·unfold giveUp; rw [if_pos h]; rfl
 ·unfold giveUp; rw [if_neg h]; rfl
theorem sresult_any (V : NV) (n : Nd) (f : Fr) (ok : Bool) (w : World) (h : OkN w V n) (hs : SmN n) :
  Calls Tryz.prog 30 #[.agg ⟨ndC V n⟩, .agg ⟨frC f⟩, .bool ok] w fun e w' => ∃ V' : NV, e = .returned (.agg ⟨ndC V' (result n f ok)⟩) ∧ Pts V' (result n f ok) ∧ Sat (base w) (ndH V' (result n f ok)) w' := by
 obtain ⟨m, hm⟩ : ∃ m, m = order n := ⟨_, rfl⟩
 have ho : Ord m := by rw [hm]; exact order_ord n
 have h16 := ho.out
 have hsp : result n f ok = match m.out.findIdx? (hits f) with
  | none => m
  | some i => if (mres m.out i ok).2 then giveUp (if Tp.okN f.dst then { m with out := (mres m.out i ok).1, links := lseen m.links f.dst ok } else { m with out := (mres m.out i ok).1 }) f.dst else (if Tp.okN f.dst then { m with out := (mres m.out i ok).1, links := lseen m.links f.dst ok } else { m with out := (mres m.out i ok).1 }) := by rw [hm]; rfl
 obtain ⟨Z, hZ⟩ : ∃ Z, Z = result n f ok := ⟨_, rfl⟩
 rw [← hZ]
 rw [hsp] at hZ
 refine calls_hr Tryz.func30 I (Nat.le_of_ble_eq_true I) ?_
 refine HR.sub (σ' := [(0, .agg ⟨ndC V n⟩), (1, .agg ⟨frC f⟩), (2, .bool ok)]) ⟨I, I, I, trivial⟩ ?_
 refine HR.ctl I ?_
 refine HR.region ?_
 refine HL.box I I ?_
 intro bn
 refine HL.box I I ?_
 intro bf
 repeat' (first | refine zh ?_ | intro (bk : Nat))
 refine HL.callX (r := fun x : Nat × NV => ptr x.1) (Q := fun x => Pts x.2 m) (G := fun x => stH x.1 x.2 m (tick 0)) fn40 I I (fun w1 hw1 => by rw [hm]; exact enter_any V n 0 w1 (h.ext hw1.belowB) hs) ?_
 rintro ⟨b, V2⟩ hP
 have hP : Pts V2 m := hP
 refine HL.ent (Ent.pick [10, 11, 0, 1, 2, 3, 4, 5, 6, 7, 8, 9] I I) ?_
 repeat' (first | refine zh ?_ | refine HL.mkF (g := 78) (caps := [_]) I I ?_ | refine HL.callB fn77 I I (fun w1 hw1 => indexFSn_any m.out (hits f) 78 [.pointer (some ⟨bf, 0, none⟩)] (sv V2.ou m.out.length) w1 fn78 (fun a ha w2 hb => result1_any bf f a w2 (((Rd.blk (n := 9) 1 rfl).at hw1).ext hb)) ((Rd.own 5 rfl).at hw1) (by omega)) ?_ | intro (bk : Nat))
 rcases fidx_cases (hits f) m.out with ⟨e1, e2, _⟩ | ⟨i, x, e1, e2, e3, _⟩
 ·rw [e2] at hZ
  have hZ : Z = m := hZ
  rw [e1, hZ]
  repeat' (first | refine zh ?_ | intro (bk : Nat))
  refine HR.ret Tryz.func30 I [_] (fun w hw => ⟨⟨_, rfl, loadVarR hw 0 I I I I rfl⟩, trivial⟩) ?_
  exact fun w' hw => ⟨V2, rfl, hP, hw.pick [3, 4, 5, 6, 7, 8, 9, 10, 11] I rfl⟩
 rw [e2] at hZ
 rw [e1]
 have hmr := mres_len m.out i ok
 obtain ⟨r, hr⟩ : ∃ r, r = mres m.out i ok := ⟨_, rfl⟩
 rw [← hr] at hmr
 have hm1 := ho.setOut hmr
 have hml : Ord { m with out := r.1, links := lseen m.links f.dst ok } := hm1.setLinks (lseen_ok _ _ _)
 have hl24 := llen ho
 obtain ⟨m2, hm2⟩ : ∃ m2, m2 = if Tp.okN f.dst then { m with out := r.1, links := lseen m.links f.dst ok } else { m with out := r.1 } := ⟨_, rfl⟩
 have ho2 : Ord m2 := by rw [hm2]; split; exact hml; exact hm1
 have hp2 : m2.parts = m.parts := by rw [hm2]; split <;> rfl
 have hZ : Z = if r.2 = true then giveUp m2 f.dst else m2 := by rw [hZ, hm2, hr]
 rw [hZ]
 repeat' (first | refine zh ?_ | intro (bk : Nat))
 refine HL.callX (r := fun v' : Value => .tuple ⟨[v', .bool r.2]⟩) (Q := fun _ => True) (G := fun v' => [cSn v' r.1]) fn74 I I (fun w1 hw1 => by rw [hr]; exact mresult_any m.out i ok _ w1 ((Rd.own 5 rfl).at hw1) (by omega)) ?_
 intro v1 _
 refine HL.shape 0 I fun a c hv => ?_
 subst hv
 repeat' (first | refine zh ?_ | refine HL.callB fn41 I I (fun w _ => inside_any f.dst w) ?_ | intro (bk : Nat))
 refine HR.ent (H' := _ :: _ :: stH b { V2 with ou := (a, c) } { m with out := r.1 } (tick 0)) (Ent.pick [1, 2, 3, 4, 5, 0, 7, 8, 9, 10, 11, 12] I I) ?_
 refine HR.join (ι := SV) (fun _ => True) (fun _ => [(6, ptr bk), (4, ptr bf), (7, ptr b), (10, .bool r.2)]) (fun x => blkC bk zerC 31 :: blkC bf (frC f) 42 :: stH b { V2 with ou := (a, c), li := x } m2 (tick 0)) (fun x _ => ?_) (fun hj => ?_)
 rotate_left
 ·refine HR.cond I (fun h1 => ?_) (fun h1 => ?_)
  ·have h1 : Tp.okN f.dst = true := h1
   rw [h1, if_pos rfl] at hm2
   repeat' (first | refine zh ?_ | intro (bk : Nat))
   refine HR.regionY [(0, true), (1, true), (2, true), (3, true), (4, true), (5, true), (6, true), (7, true), (8, true), (9, false), (10, true), (11, true), (12, true)] 13 [1, 2] I I hmix (by kernel_rfl) ?_
   repeat' (first | refine zd ?_ | fail)
   refine HD.one I ?_
   refine HL.callO fn79 I I (fun w1 hw1 => lseen_any m.links f.dst ok _ w1 ((Rd.own 4 rfl).at hw1) (by omega)) ?_
   intro v2
   refine HL.shape 0 I fun a2 c2 hv => ?_
   subst hv
   refine HL.back [2, 3] I I ?_
   repeat' (first | refine zd ?_ | fail)
   refine HD.last I ?_
   repeat' (first | refine zn ?_ | intro (bk : Nat))
   refine hj (a2, c2) _ _ trivial ⟨I, I, I, I, trivial⟩ ?_
   rw [hm2]
   exact Ent.pick [1, 2, 3, 4, 0, 6, 7, 8, 9, 10, 11, 12] I I
  ·have h1 : Tp.okN f.dst = false := h1
   rw [h1, if_neg (by decide)] at hm2
   refine HR.skip ?_
   refine hj V2.li _ _ trivial ⟨I, I, I, I, trivial⟩ ?_
   rw [hm2]
   exact Ent.refl
 repeat' (first | refine zh ?_ | intro (bk : Nat))
 refine HR.cond I (fun h1 => ?_) (fun h1 => ?_)
 ·have h1 : r.2 = true := h1
  rw [if_pos h1]
  repeat' (first | refine zh ?_ | intro (bk : Nat))
  refine HL.ent (Ent.pick [2, 3, 4, 5, 6, 7, 8, 9, 10, 11, 0] I I) ?_
  refine HL.callW (r := fun _ : SV × SV × SV => .tuple ⟨[]⟩) (Q := fun _ => True) (G0 := stH b { V2 with ou := (a, c), li := x } m2 (tick 0)) (H0 := [_]) (G := fun y => stH b { V2 with ou := (a, c), ta := y.1, li := y.2.1, ch := y.2.2 } (giveUp m2 f.dst) (tick 0)) fn80 I I I (fun w1 hw1 => sgiveUp_any b { V2 with ou := (a, c), li := x } m2 (tick 0) f.dst _ w1 (hw1.pick [0, 1, 2, 3, 4, 5, 6, 7, 8, 9] I I) ho2) ?_
  intro y _
  refine HL.ent (Ent.pick [10, 0, 1, 2, 3, 4, 5, 6, 7, 8, 9] I I) ?_
  repeat' (first | refine zh ?_ | intro (bk : Nat))
  refine HR.ret Tryz.func30 I [_] (fun w hw => ⟨⟨_, rfl, loadVarR hw 0 I I I I rfl⟩, trivial⟩) ?_
  exact fun w' hw => ⟨{ V2 with ou := (a, c), ta := y.1, li := y.2.1, ch := y.2.2 }, rfl, ⟨by rw [giveUp_parts, hp2]; exact hP.eq, hP.sh⟩, hw.pick [2, 3, 4, 5, 6, 7, 8, 9, 10] I rfl⟩
 ·have h1 : r.2 = false := h1
  rw [if_neg (by rw [h1]; decide)]
  repeat' (first | refine zh ?_ | intro (bk : Nat))
  refine HR.ret Tryz.func30 I [_] (fun w hw => ⟨⟨_, rfl, loadVarR hw 0 I I I I rfl⟩, trivial⟩) ?_
  exact fun w' hw => ⟨{ V2 with ou := (a, c), li := x }, rfl, ⟨by rw [hp2]; exact hP.eq, hP.sh⟩, hw.pick [3, 4, 5, 6, 7, 8, 9, 10, 11] I rfl⟩
end Go.Proofs.YtgdgclmkpoaagaaGreat
namespace Go.Proofs.YtgdgclmkpoaagaaGreat
open Go.GX Go.RowKit
attribute [local irreducible] Calls Run RunL RunQ RunD HR HL HD blkC ownC Rd
open Nd
theorem fn83 : IsFn Tryz.prog 83 := ⟨⟨_, _, Tryz.func83, rfl, by decide⟩⟩
theorem rlose_any (V : NV) (n : Nd) (w : World) (hl : 0 ≤ n.lost ∧ n.lost ≤ maxTick) :
  Calls Tryz.prog 83 #[.agg ⟨ndC V n⟩] w fun e w' => e = .returned (.agg ⟨ndC V (lose n)⟩) ∧ Below w.heap.size w w' := by
 obtain ⟨h0, h1⟩ := hl
 have h1 : n.lost ≤ 1099511627776 := h1
 refine calls_hr Tryz.func83 I (Nat.le_of_ble_eq_true I) ?_
 refine HR.sub (σ' := [(0, .agg ⟨ndC V n⟩)]) ⟨I, trivial⟩ ?_
 repeat' (first | refine zh ?_ | intro (bk : Nat))
 refine HR.ret Tryz.func83 I [_] (fun w hw => ⟨⟨_, rfl, loadVarR hw 0 I I I I rfl⟩, trivial⟩) ?_
 have e : (if 1099511627776 < n.lost + 1 then (1099511627776 : Int) else n.lost + 1) = min (n.lost + 1) maxTick := by
  show _ = min (n.lost + 1) 1099511627776
  split <;> omega
 refine fun w' hw => ⟨?_, hw.belowB⟩
 show Ending.returned (.agg ⟨ndC V { n with lost := if 1099511627776 < n.lost + 1 then (1099511627776 : Int) else n.lost + 1 }⟩) = _
 rw [e]; rfl
end Go.Proofs.YtgdgclmkpoaagaaGreat
namespace Go.Proofs.YtgdgclmkpoaagaaGreat
open Go.GX Go.RowKit
attribute [local irreducible] Calls Run RunL RunQ RunD HR HL HD blkC ownC Rd
open Nd
theorem fn67 : IsFn Tryz.prog 67 := ⟨⟨_, _, Tryz.func67, rfl, by decide⟩⟩
end Go.Proofs.YtgdgclmkpoaagaaGreat
namespace Go.Proofs.YtgdgclmkpoaagaaGreat
open Go.GX Go.RowKit
attribute [local irreducible] Calls Run RunL RunQ RunD HR HL HD blkC ownC Rd
open Nd
theorem tw_at {p : Int → Bool} : ∀ {l : List Int} {k : Nat}, k ≤ l.length → (∀ j a, j < k → l[j]? = some a → p a = true) → (∀ a, l[k]? = some a → p a = false) → l.takeWhile p = l.take k ∧ l.dropWhile p = l.drop k
 | [], k, hk, _, _ => by
  have : k = 0 := by simpa using hk
  subst this; exact ⟨rfl, rfl⟩
 | x :: l, 0, _, _, h2 => by
  have hx := h2 x I
  rw [List.takeWhile_cons_of_neg (by rw [hx]; decide), List.dropWhile_cons_of_neg (by rw [hx]; decide)]
  exact ⟨rfl, rfl⟩
 | x :: l, k + 1, hk, h1, h2 => by
  have hx := h1 0 x (Nat.succ_pos _) I
  obtain ⟨e1, e2⟩ := tw_at (l := l) (k := k) (by simpa using hk) (fun j a hj ha => h1 (j + 1) a (by omega) ha) (fun a ha => h2 a ha)
  rw [List.takeWhile_cons_of_pos hx, List.dropWhile_cons_of_pos hx, e1, e2]
  exact ⟨rfl, rfl⟩
theorem child_at {l : List Int} {c : Int} {k : Nat} (ha : Asc id l) (hk : k ≤ l.length) (h1 : ∀ j a, j < k → l[j]? = some a → a < c) (h2 : ∀ a, l[k]? = some a → ¬ a < c) : child l c = if l[k]? = some c then l else l.take k ++ c :: l.drop k := by
 obtain ⟨e1, e2⟩ := tw_at (p := fun x => decide (x < c)) hk (fun j a hj hja => decide_eq_true (h1 j a hj hja)) (fun a hka => decide_eq_false (h2 a hka))
 unfold child
 rw [e1, e2]
 have hmem : c ∈ l ↔ l[k]? = some c := by
  constructor
  ·intro h
   obtain ⟨j, hj⟩ := List.getElem?_of_mem h
   rcases Nat.lt_trichotomy j k with h3 | h3 | h3
   ·exact absurd (h1 j c h3 hj) (Int.lt_irrefl c)
   ·rw [← h3]; exact hj
   ·obtain ⟨x, hx⟩ := getSome (show k < l.length by have := (List.getElem?_eq_some_iff.1 hj).1; omega)
    have h4 : x < c := ha.lt h3 hx hj
    exact absurd h4 (h2 x hx)
  ·exact fun h => List.mem_of_getElem? h
 by_cases h : c ∈ l
 ·rw [if_pos h, if_pos (hmem.1 h)]
 ·rw [if_neg h, if_neg fun e => h (hmem.2 e)]
theorem iC_one (a : Int) : allOne (iC a) = true := rfl
theorem rchild_any (l : List Int) (c : Int) (v : Value) (B0 : Base) (w : World) (hw0 : Sat B0 [cI v l] w) (hl : l.length ≤ 1000) (ha : Asc id l) :
  Calls Tryz.prog 67 #[v, .int .i64 c] w fun e w' => ∃ r : Value, e = .returned r ∧ True ∧ Sat ⟨w, feet [cI v l]⟩ [cI r (child l c)] w' := by
 refine calls_hrW [cI v l] (hw0) Tryz.func67 I (Nat.le_of_ble_eq_true I) ?_
 refine HR.sub (σ' := [(0, v), (1, .int .i64 c)]) ⟨I, I, trivial⟩ ?_
 repeat' (first | refine zh ?_ | intro (bk : Nat))
 refine HR.nilC 3 1 ?_
 refine HR.joinI (ι := Nat × Value) (fun x => x.1 ≤ l.length ∧ (∀ j a, j < x.1 → l[j]? = some a → a < c) ∧ ∀ a, l[x.1]? = some a → ¬ a < c) (fun x => [(0, v), (1, .int .i64 c), (5, x.2), (6, .int .i64 (x.1 : Int))]) (fun x => [cI x.2 (l.take x.1), cI v l]) (fun x hx => ?_) (fun hj => ?_)
 rotate_left
 ·refine HR.loop (ι := Nat × Value) (fun x => x.1 ≤ l.length ∧ ∀ j a, j < x.1 → l[j]? = some a → a < c) (fun x => [(0, v), (1, .int .i64 c), (5, x.2), (6, .int .i64 (x.1 : Int))]) (fun x => [cI x.2 (l.take x.1), cI v l]) (fun x => l.length - x.1) (0, .slice none 0 0) ⟨Nat.zero_le _, fun j a hj => absurd hj (Nat.not_lt_zero _)⟩ ⟨I, I, I, I, trivial⟩ Ent.refl ?_
  rintro ⟨k, o⟩ ⟨hk, hg⟩ ih
  have hk : k ≤ l.length := hk
  have hg : ∀ j a, j < k → l[j]? = some a → a < c := hg
  refine HR.ctl I ?_
  refine HR.region ?_
  repeat' (first | refine zn ?_ | refine HL.lenR (Rd.own 1 I) I I I ?_ | intro (bk : Nat))
  refine HL.split 11 I (fun hb => ?_) (fun hb => ?_)
  ·have hlt : k < l.length := by have h1 : (k : Int) < (l.length : Int) := of_decide_eq_true hb; omega
   obtain ⟨x, hx⟩ := getSome hlt
   repeat' (first | refine zn ?_ | refine HL.idxR (Rd.own 1 I) elemI k I I I I hlt ?_ | refine HL.loadI (Rd.own 1 I) I I I I (cellsOf_get1 hx) ?_ | intro (bk : Nat))
   refine HR.cond I (fun h2 => ?_) (fun h2 => ?_)
   ·have h2 : x < c := of_decide_eq_true h2
    repeat' (first | refine zh ?_ | refine HL.idxR (Rd.own 1 I) elemI k I I I I hlt ?_ | refine HL.loadI (Rd.own 1 I) I I I I (cellsOf_get1 hx) ?_ | intro (bk : Nat))
    refine HL.bslice elemI I I I I I (by decide) (by decide) ?_
    intro va
    refine HL.appR 1 I elemI (Rd.own 0 I) I I I I (allOne_spec I) (by show ((l.take k).length + 1) * 8 ≤ _; rw [List.length_take]; omega) (by show (l.take k).length + 1 ≤ _; rw [List.length_take]; omega) ?_
    intro v2
    repeat' (first | refine zh ?_ | intro (bk : Nat))
    refine ih (k + 1, v2) _ _ ⟨hlt, fun j a hj hja => ?_⟩ (by show l.length - (k + 1) < l.length - k; omega) ⟨I, I, I, I, trivial⟩ ?_
    ·by_cases hjk : j = k
     ·subst hjk; rw [hx] at hja; cases hja; exact h2
     ·have hj : j < k + 1 := hj
      exact hg j a (by omega) hja
    ·show Ent _ _ [ownC v2 3 1 (l.take (k + 1)).length (cellsOf iC (l.take (k + 1))), cI v l]
     rw [take_succ_get hx, List.length_append, cellsOf_app]
     exact Ent.pick [1, 2] I I
   ·have h2 : ¬ x < c := of_decide_eq_false h2
    refine HR.exit I ?_
    exact hj (k, o) _ _ ⟨hk, hg, fun a hka => by have hka : l[k]? = some a := hka; rw [hx] at hka; cases hka; exact h2⟩ ⟨I, I, I, I, trivial⟩ Ent.refl
  ·have hlt : ¬ k < l.length := by have h1 : ¬ (k : Int) < (l.length : Int) := of_decide_eq_false hb; omega
   repeat' (first | refine zn ?_ | intro (bk : Nat))
   refine HR.condF I ?_
   refine HR.exit I ?_
   exact hj (k, o) _ _ ⟨hk, hg, fun a hka => absurd (List.getElem?_eq_some_iff.1 hka).1 hlt⟩ ⟨I, I, I, I, trivial⟩ Ent.refl
 obtain ⟨k, o⟩ := x
 obtain ⟨hk, h1, h2⟩ := hx
 have hk : k ≤ l.length := hk
 have hsp := child_at ha hk h1 h2
 rw [hsp]
 have htk : (l.take k).length = k := by rw [List.length_take]; omega
 refine HR.ctl I ?_
 refine HR.join (ι := Unit) (fun _ => True) (fun _ => [(0, v), (1, .int .i64 c), (5, o), (6, .int .i64 (k : Int)), (39, .bool (decide (l[k]? = some c)))]) (fun _ => [cI o (l.take k), cI v l]) (fun _ _ => ?_) (fun hj => ?_)
 rotate_left
 ·refine HR.region ?_
  repeat' (first | refine zn ?_ | refine HL.lenR (Rd.own 1 I) I I I ?_ | intro (bk : Nat))
  refine HL.split 32 I (fun hb => ?_) (fun hb => ?_)
  ·have hlt : k < l.length := by have h1 : (k : Int) < (l.length : Int) := of_decide_eq_true hb; omega
   obtain ⟨x, hx⟩ := getSome hlt
   repeat' (first | refine zn ?_ | refine HL.idxR (Rd.own 1 I) elemI k I I I I hlt ?_ | refine HL.loadI (Rd.own 1 I) I I I I (cellsOf_get1 hx) ?_ | intro (bk : Nat))
   refine hj () _ _ trivial ⟨rfl, rfl, rfl, rfl, ?_, trivial⟩ Ent.refl
   show some (Value.bool (x == c)) = some (Value.bool (decide (l[k]? = some c)))
   rw [hx]
   by_cases e : x = c
   ·subst e; simp
   ·simp [e]
  ·have hlt : ¬ k < l.length := by have h1 : ¬ (k : Int) < (l.length : Int) := of_decide_eq_false hb; omega
   repeat' (first | refine zn ?_ | intro (bk : Nat))
   refine hj () _ _ trivial ⟨rfl, rfl, rfl, rfl, ?_, trivial⟩ Ent.refl
   show some (Value.bool false) = some (Value.bool (decide (l[k]? = some c)))
   rw [List.getElem?_eq_none (by omega)]; rfl
 refine HR.cond I (fun h3 => ?_) (fun h3 => ?_)
 ·have h3 : l[k]? = some c := of_decide_eq_true h3
  rw [if_pos h3]
  repeat' (first | refine zh ?_ | intro (bk : Nat))
  refine HR.ret Tryz.func67 I [_] (fun _ _ => ⟨I, trivial⟩) ?_
  exact fun w' hw => ⟨v, rfl, trivial, hw.pick [1] I rfl⟩
 have h3 : ¬ l[k]? = some c := of_decide_eq_false h3
 rw [if_neg h3]
 repeat' (first | refine zh ?_ | intro (bk : Nat))
 refine HL.bslice elemI I I I I I (by decide) (by decide) ?_
 intro va
 refine HL.appR 1 I elemI (Rd.own 0 I) I I I I (allOne_spec I) (by omega) (by omega) ?_
 intro v2
 have hcl : (cellsOf iC l).length = l.length * 1 := cellsOf_len iC_len _
 repeat' (first | refine zh ?_ | refine HL.lenR (Rd.own 2 I) I I I ?_ | intro (bk : Nat))
 refine HL.subI (sz := 1) k l.length (Rd.own 2 I) I I I I (.inr ⟨_, _, _, rfl, rfl, rfl⟩) (.inl ⟨rfl, rfl⟩) hk (Nat.le_refl _) ?_
 refine HL.appR 1 I elemI (Rd.sub (sz := 1) (Rd.own 2 I) hcl hk (Nat.le_refl _)) I I I (by rw [List.length_take, List.length_drop, hcl]; omega) (fun u hu => one_allcells iC_one _ u (List.mem_of_mem_drop (List.mem_of_mem_take hu))) (by omega) (by omega) ?_
 intro v3
 repeat' (first | refine zh ?_ | intro (bk : Nat))
 refine HR.ret Tryz.func67 I [_] (fun _ _ => ⟨I, trivial⟩) ?_
 refine fun w' hw => ⟨v3, rfl, trivial, ?_⟩
 refine Ent.own0 ?_ ?_ w' (hw.pick [1] I I)
 ·rw [List.length_append, List.length_cons, List.length_drop, htk]; omega
 ·rw [cellsOf_app, cellsOf_drop iC_len, List.take_of_length_le (l := cellsOf iC (l.drop k)) (by rw [cellsOf_len iC_len, List.length_drop]; omega), List.append_assoc]; rfl
end Go.Proofs.YtgdgclmkpoaagaaGreat
namespace Go.Proofs.YtgdgclmkpoaagaaGreat
open Go.GX Go.RowKit
attribute [local irreducible] Calls Run RunL RunQ RunD HR HL HD blkC ownC Rd
open Nd
theorem fn20 : IsFn Tryz.prog 20 := ⟨⟨_, _, Tryz.func20, rfl, by decide⟩⟩
structure ROk (V : NV) (n : Nd) (V' : NV) (Gt : List Chunk) (m : Nd) : Prop where
 pa : V'.pa = V.pa
 ps : V'.ps = V.ps
 ta : ∀ w2, Sl w2 (sv V.ta n.table.length) (cellsOf roC n.table) n.table.length → (groupC Gt).p w2 → Sl w2 (sv V'.ta m.table.length) (cellsOf roC m.table) m.table.length
 li : ∀ w2, Sl w2 (sv V.li n.links.length) (cellsOf liC n.links) n.links.length → Sl w2 (sv V'.li m.links.length) (cellsOf liC m.links) m.links.length
abbrev roH (V : NV) (Gt : List Chunk) (m : Nd) : List Chunk := [groupC Gt, cSn (sv V.ou m.out.length) m.out, cMa (sv V.bo m.boxes.length) m.boxes, cI (sv V.ch m.children.length) m.children, cPr (sv V.se m.seen.length) m.seen, cDe (sv V.ib m.inbox.length) m.inbox]
theorem fold_step (p : Int → Bool) {l : List Int} {k : Nat} {x : Int} (hx : l[k]? = some x) : ((l.take (k + 1)).filter p).foldl child [] = if p x = true then child (((l.take k).filter p).foldl child []) x else ((l.take k).filter p).foldl child [] := by
 rw [take_filter hx]
 split
 ·rw [List.foldl_append]; rfl
 ·rfl
theorem rorder_any (V : NV) (n : Nd) (w : World) (h : OkN w V n) (hs : SmN n) :
  Calls Tryz.prog 20 #[.agg ⟨ndC V n⟩] w fun e w' => ∃ x : NV × List Chunk, e = .returned (.agg ⟨ndC x.1 (order n)⟩) ∧ ROk V n x.1 x.2 (order n) ∧ Sat (base w) (roH x.1 x.2 (order n)) w' := by
 have l1 := hs.ta
 have l2 := hs.li
 have l3 := hs.ou
 have l4 := hs.ch
 have l5 := hs.bo
 have l6 := hs.se
 have l7 := hs.ib
 obtain ⟨m, hm⟩ : ∃ m, m = order n := ⟨_, rfl⟩
 have e_ad : m.addr = clamp n.addr 0 250 := by rw [hm]; rfl
 have e_po : m.poll = if n.poll < 1 then 0 else max n.poll 4 := by rw [hm]; rfl
 have e_pr : m.parent = if Tp.okN n.parent = false ∨ n.parent = m.addr then 255 else n.parent := by rw [hm]; rfl
 have e_ta : m.table = if rchk n.table m.addr = 0 then n.table else [rown m.addr] := by rw [hm]; rfl
 have e_li : m.links = if lchk n.links = 0 then n.links else [] := by rw [hm]; rfl
 have e_ou : m.out = n.out.take (min n.out.length 16) := by rw [hm, ← take_minl]; rfl
 have e_ch : m.children = (n.children.filter fun c => Tp.okN c && !(c == m.addr)).foldl child [] := by rw [hm]; rfl
 have e_bo : m.boxes = n.boxes.take (min n.boxes.length 16) := by rw [hm, ← take_minl]; rfl
 have e_se : m.seen = n.seen.drop (n.seen.length - 32) := by rw [hm]; rfl
 have e_ib : m.inbox = n.inbox.take (min n.inbox.length 256) := by rw [hm, ← take_minl]; rfl
 have e_sq : m.seq = if n.seq < 0 ∨ n.seq > 65535 then 0 else n.seq := by rw [hm]; rfl
 have e_lo : m.lost = clamp n.lost 0 1099511627776 := by rw [hm]; rfl
 have e_nw : rnew m.addr = [rown m.addr] := by rw [e_ad]; unfold rnew lim; rw [clamp2]
 have s_ou := Sl.pre snC_len h.ou (Nat.min_le_left _ _) e_ou
 have s_bo := Sl.pre maC_len h.bo (Nat.min_le_left _ _) e_bo
 have s_se := Sl.suf prC_len h.se (Nat.sub_le _ _) e_se
 have s_ib := Sl.pre deC_len h.ib (Nat.min_le_left _ _) e_ib
 have k3 : m.out.length ≤ 16 := by rw [e_ou, List.length_take]; omega
 have k5 : m.boxes.length ≤ 16 := by rw [e_bo, List.length_take]; omega
 have k6 : m.seen.length ≤ 32 := by rw [e_se, List.length_drop]; omega
 have k7 : m.inbox.length ≤ 256 := by rw [e_ib, List.length_take]; omega
 rw [← hm]
 refine calls_hr Tryz.func20 I (Nat.le_of_ble_eq_true I) ?_
 refine HR.sub (σ' := [(0, .agg ⟨ndC V n⟩)]) ⟨I, trivial⟩ ?_
 refine HR.ctl I ?_
 refine HR.region ?_
 refine HL.box I I ?_
 intro b1
 refine HL.alloc I I ?_
 intro b2
 repeat' (first | refine zh ?_ | refine HL.callB fn63 I I (fun w _ => rclamp_any n.addr 0 250 (by decide) w) ?_ | intro (bk : Nat))
 refine HR.ent (H' := [blkC b1 [.int .i64 m.addr, .int .i64 n.poll, .int .i64 n.parent, sv V.ta n.table.length, sv V.li n.links.length, sv V.ou n.out.length, sv V.ch n.children.length, sv V.bo n.boxes.length, sv V.se n.seen.length, sv V.pa V.ps.length, sv V.ib n.inbox.length, .int .i64 n.seq, .int .i64 n.lost] 31, rsC b2]) (Ent.trans (Ent.pick [1, 0] I I) (Ent.of_eq (by rw [e_ad]; rfl))) ?_
 refine HR.join (ι := Unit) (fun _ => True) (fun _ => [(1, ptr b1), (2, ptr b2)]) (fun _ => [blkC b1 [.int .i64 m.addr, .int .i64 m.poll, .int .i64 n.parent, sv V.ta n.table.length, sv V.li n.links.length, sv V.ou n.out.length, sv V.ch n.children.length, sv V.bo n.boxes.length, sv V.se n.seen.length, sv V.pa V.ps.length, sv V.ib n.inbox.length, .int .i64 n.seq, .int .i64 n.lost] 31, rsC b2]) (fun _ _ => ?_) (fun hj => ?_)
 rotate_left
 ·refine HR.cond I (fun h => ?_) (fun h => ?_)
  ·have h : n.poll < 1 := of_decide_eq_true h
   refine HR.region ?_
   repeat' (first | refine zn ?_ | apply zb ?_ ?_ | exact zc | (refine zi fun hb => ?_; try simp at hb) | intro (bk : Nat))
   refine hj () _ _ trivial ⟨I, I, trivial⟩ (Ent.of_eq ?_)
   rw [e_po, if_pos h]; rfl
  ·have h : ¬ n.poll < 1 := of_decide_eq_false h
   rw [if_neg h] at e_po
   refine HR.ctl I ?_
   refine HR.region ?_
   repeat' (first | refine zn ?_ | apply zb ?_ ?_ | exact zc | (refine zi fun hb => ?_; try simp at hb) | intro (bk : Nat))
   refine HR.cond I (fun h2 => ?_) (fun h2 => ?_)
   ·have h2 : n.poll < 4 := of_decide_eq_true h2
    refine HR.region ?_
    repeat' (first | refine zn ?_ | apply zb ?_ ?_ | exact zc | (refine zi fun hb => ?_; try simp at hb) | intro (bk : Nat))
    refine hj () _ _ trivial ⟨I, I, trivial⟩ (Ent.of_eq ?_)
    rw [show m.poll = 4 from by rw [e_po]; omega]; rfl
   ·have h2 : ¬ n.poll < 4 := of_decide_eq_false h2
    refine HR.skip ?_
    refine hj () _ _ trivial ⟨I, I, trivial⟩ (Ent.of_eq ?_)
    rw [show m.poll = n.poll from by rw [e_po]; omega]
 repeat' (first | refine zh ?_ | refine HL.callB fn45 I I (fun w _ => address_any n.parent w) ?_ | apply zb ?_ ?_ | exact zc | (refine zi fun hb => ?_; try simp at hb) | intro (bk : Nat))
 refine HR.join (ι := Unit) (fun _ => True) (fun _ => [(1, ptr b1), (2, ptr b2)]) (fun _ => [blkC b1 [.int .i64 m.addr, .int .i64 m.poll, .int .i64 m.parent, sv V.ta n.table.length, sv V.li n.links.length, sv V.ou n.out.length, sv V.ch n.children.length, sv V.bo n.boxes.length, sv V.se n.seen.length, sv V.pa V.ps.length, sv V.ib n.inbox.length, .int .i64 n.seq, .int .i64 n.lost] 31, rsC b2]) (fun _ _ => ?_) (fun hj => ?_)
 rotate_left
 ·refine HR.cond I (fun h => ?_) (fun h => ?_)
  ·have h : (!Tp.okN n.parent || (n.parent == m.addr)) = true := h
   have h2 : Tp.okN n.parent = false ∨ n.parent = m.addr := by simpa using h
   refine HR.region ?_
   repeat' (first | refine zn ?_ | apply zb ?_ ?_ | exact zc | (refine zi fun hb => ?_; try simp at hb) | intro (bk : Nat))
   refine hj () _ _ trivial ⟨I, I, trivial⟩ (Ent.of_eq ?_)
   rw [e_pr, if_pos h2]; rfl
  ·have h : (!Tp.okN n.parent || (n.parent == m.addr)) = false := h
   have h2 : ¬ (Tp.okN n.parent = false ∨ n.parent = m.addr) := by simpa using h
   refine HR.skip ?_
   refine hj () _ _ trivial ⟨I, I, trivial⟩ (Ent.of_eq ?_)
   rw [e_pr, if_neg h2]
 repeat' (first | refine zh ?_ | refine HL.callB fn64 I I (fun w hw => r11check_any n.table m.addr _ w ((Rd.arg h.ta).at hw) l1) ?_ | intro (bk : Nat))
 refine HR.join (ι := SV × List Chunk) (fun x => ∀ w2, Sl w2 (sv V.ta n.table.length) (cellsOf roC n.table) n.table.length → (groupC x.2).p w2 → Sl w2 (sv x.1 m.table.length) (cellsOf roC m.table) m.table.length) (fun _ => [(1, ptr b1), (2, ptr b2)]) (fun x => [blkC b1 [.int .i64 m.addr, .int .i64 m.poll, .int .i64 m.parent, sv x.1 m.table.length, sv V.li n.links.length, sv V.ou n.out.length, sv V.ch n.children.length, sv V.bo n.boxes.length, sv V.se n.seen.length, sv V.pa V.ps.length, sv V.ib n.inbox.length, .int .i64 n.seq, .int .i64 n.lost] 31, rsC b2, groupC x.2]) (fun xt ht => ?_) (fun hj => ?_)
 rotate_left
 ·refine HR.cond I (fun h2 => ?_) (fun h2 => ?_)
  ·have h2 : ¬ rchk n.table m.addr = 0 := by simpa using h2
   rw [if_neg h2, ← e_nw] at e_ta
   refine HR.region ?_
   repeat' (first | refine zn ?_ | refine HL.callO fn65 I I (fun w _ => rrnew_any m.addr w) ?_ | apply zb ?_ ?_ | exact zc | (refine zi fun hb => ?_; try simp at hb) | intro (bk : Nat))
   intro v2
   refine HL.shape 0 I fun a2 c2 hv => ?_
   subst hv
   repeat' (first | refine zn ?_ | apply zb ?_ ?_ | exact zc | (refine zi fun hb => ?_; try simp at hb) | intro (bk : Nat))
   refine hj ((a2, c2), [cTa (.slice a2 (rnew m.addr).length c2) (rnew m.addr)]) _ _ (fun w2 _ hp => ?_) ⟨I, I, trivial⟩ ?_
   ·rw [e_ta]; exact ownC_sl hp.1
   ·rw [e_ta]; exact Ent.trans (Ent.group (G := [cTa (.slice a2 (rnew m.addr).length c2) (rnew m.addr)])) (Ent.pick [1, 2, 0] I I)
  ·have h2 : rchk n.table m.addr = 0 := by simpa using h2
   rw [if_pos h2] at e_ta
   refine HR.skip ?_
   refine hj (V.ta, []) _ _ (fun w2 hw2 _ => ?_) ⟨I, I, trivial⟩ ?_
   ·rw [e_ta]; exact hw2
   ·rw [e_ta]; exact Ent.trans Ent.gnil (Ent.pick [1, 2, 0] I I)
 obtain ⟨xt, Gt⟩ := xt
 have ht : ∀ w2, Sl w2 (sv V.ta n.table.length) (cellsOf roC n.table) n.table.length → (groupC Gt).p w2 → Sl w2 (sv xt m.table.length) (cellsOf roC m.table) m.table.length := ht
 repeat' (first | refine zh ?_ | refine HL.callB fn66 I I (fun w hw => r10check_any n.links _ w ((Rd.arg h.li).at hw) l2) ?_ | intro (bk : Nat))
 refine HR.join (ι := SV) (fun x => ∀ w2, Sl w2 (sv V.li n.links.length) (cellsOf liC n.links) n.links.length → Sl w2 (sv x m.links.length) (cellsOf liC m.links) m.links.length) (fun _ => [(1, ptr b1), (2, ptr b2)]) (fun x => [blkC b1 [.int .i64 m.addr, .int .i64 m.poll, .int .i64 m.parent, sv xt m.table.length, sv x m.links.length, sv V.ou n.out.length, sv V.ch n.children.length, sv V.bo n.boxes.length, sv V.se n.seen.length, sv V.pa V.ps.length, sv V.ib n.inbox.length, .int .i64 n.seq, .int .i64 n.lost] 31, rsC b2, groupC Gt]) (fun xl hli => ?_) (fun hj => ?_)
 rotate_left
 ·refine HR.cond I (fun h2 => ?_) (fun h2 => ?_)
  ·have h2 : ¬ lchk n.links = 0 := by simpa using h2
   rw [if_neg h2] at e_li
   refine HR.region ?_
   repeat' (first | refine zn ?_ | apply zb ?_ ?_ | exact zc | (refine zi fun hb => ?_; try simp at hb) | intro (bk : Nat))
   refine hj (none, 0) _ _ (fun w2 _ => ?_) ⟨I, I, trivial⟩ ?_
   ·rw [e_li]; exact Sl.nil w2
   ·rw [e_li]; exact Ent.refl
  ·have h2 : lchk n.links = 0 := by simpa using h2
   rw [if_pos h2] at e_li
   refine HR.skip ?_
   refine hj V.li _ _ (fun w2 hw2 => ?_) ⟨I, I, trivial⟩ ?_
   ·rw [e_li]; exact hw2
   ·rw [e_li]; exact Ent.refl
 repeat' (first | refine zh ?_ | refine HL.bslice0 elemSn I ?_ | intro (bk : Nat))
 intro v0
 repeat' (first | refine zh ?_ | intro (bk : Nat))
 refine HL.setV 50 (v' := .int .i64 ((min n.out.length 16 : Nat) : Int)) I (by rw [← min_i]; rfl) ?_
 repeat' (first | refine zh ?_ | refine HL.subI (sz := 11) 0 (min n.out.length 16) (Rd.arg h.ou) I I I I (.inl ⟨rfl, rfl⟩) (.inr ⟨_, _, _, rfl, rfl, rfl⟩) (Nat.zero_le _) (Nat.min_le_left _ _) ?_ | intro (bk : Nat))
 refine HL.appR 0 I elemSn (Rd.arg s_ou) I I I (cellsOf_len snC_len _) (one_allcells snC_one _) (by omega) (by omega) ?_
 intro v1
 refine HL.ent (H' := cSn v1 m.out :: [blkC b1 [.int .i64 m.addr, .int .i64 m.poll, .int .i64 m.parent, sv xt m.table.length, sv xl m.links.length, sv V.ou n.out.length, sv V.ch n.children.length, sv V.bo n.boxes.length, sv V.se n.seen.length, sv V.pa V.ps.length, sv V.ib n.inbox.length, .int .i64 n.seq, .int .i64 n.lost] 31, rsC b2, groupC Gt]) (Ent.own0 (Nat.zero_add _) (List.nil_append _)) ?_
 refine HL.shape 0 I fun a3 c3 hv => ?_
 subst hv
 refine HL.ent (H' := [blkC b1 [.int .i64 m.addr, .int .i64 m.poll, .int .i64 m.parent, sv xt m.table.length, sv xl m.links.length, sv V.ou n.out.length, sv V.ch n.children.length, sv V.bo n.boxes.length, sv V.se n.seen.length, sv V.pa V.ps.length, sv V.ib n.inbox.length, .int .i64 n.seq, .int .i64 n.lost] 31, rsC b2, groupC Gt, cSn (.slice a3 m.out.length c3) m.out]) (Ent.pick [1, 2, 3, 0] I I) ?_
 repeat' (first | refine zh ?_ | refine HL.bslice0 elemMa I ?_ | intro (bk : Nat))
 intro v0
 repeat' (first | refine zh ?_ | intro (bk : Nat))
 refine HL.setV 60 (v' := .int .i64 ((min n.boxes.length 16 : Nat) : Int)) I (by rw [← min_i]; rfl) ?_
 repeat' (first | refine zh ?_ | refine HL.subI (sz := 10) 0 (min n.boxes.length 16) (Rd.arg h.bo) I I I I (.inl ⟨rfl, rfl⟩) (.inr ⟨_, _, _, rfl, rfl, rfl⟩) (Nat.zero_le _) (Nat.min_le_left _ _) ?_ | intro (bk : Nat))
 refine HL.appR 0 I elemMa (Rd.arg s_bo) I I I (cellsOf_len maC_len _) (one_allcells maC_one _) (by omega) (by omega) ?_
 intro v1
 refine HL.ent (H' := cMa v1 m.boxes :: [blkC b1 [.int .i64 m.addr, .int .i64 m.poll, .int .i64 m.parent, sv xt m.table.length, sv xl m.links.length, .slice a3 m.out.length c3, sv V.ch n.children.length, sv V.bo n.boxes.length, sv V.se n.seen.length, sv V.pa V.ps.length, sv V.ib n.inbox.length, .int .i64 n.seq, .int .i64 n.lost] 31, rsC b2, groupC Gt, cSn (.slice a3 m.out.length c3) m.out]) (Ent.own0 (Nat.zero_add _) (List.nil_append _)) ?_
 refine HL.shape 0 I fun a5 c5 hv => ?_
 subst hv
 refine HL.ent (H' := [blkC b1 [.int .i64 m.addr, .int .i64 m.poll, .int .i64 m.parent, sv xt m.table.length, sv xl m.links.length, .slice a3 m.out.length c3, sv V.ch n.children.length, sv V.bo n.boxes.length, sv V.se n.seen.length, sv V.pa V.ps.length, sv V.ib n.inbox.length, .int .i64 n.seq, .int .i64 n.lost] 31, rsC b2, groupC Gt, cSn (.slice a3 m.out.length c3) m.out, cMa (.slice a5 m.boxes.length c5) m.boxes]) (Ent.pick [1, 2, 3, 4, 0] I I) ?_
 repeat' (first | refine zh ?_ | intro (bk : Nat))
 refine HR.nilC 3 1 ?_
 obtain ⟨g, hg⟩ : ∃ g : Nat → List Int, g = fun k => ((n.children.take k).filter fun c => Tp.okN c && !(c == m.addr)).foldl child [] := ⟨_, rfl⟩
 have hga : ∀ k, Asc id (g k) := fun k => by rw [hg]; exact (childs_asc (l := (n.children.take k).filter fun c => Tp.okN c && !(c == m.addr)) (acc := []) List.Pairwise.nil).1
 have hgl : ∀ k, (g k).length ≤ 1000 := fun k => Nat.le_trans (asc_bound (hga k) fun x hx => by
  rw [hg] at hx
  have hx := ((childs_asc (l := (n.children.take k).filter fun c => Tp.okN c && !(c == m.addr)) (acc := []) List.Pairwise.nil).2 x).1 hx
  rcases hx with hx | hx
  ·have := (List.mem_filter.1 hx).2
   simp only [Bool.and_eq_true] at this
   exact this.1
  ·cases hx) (by decide)
 refine HR.loop (ι := Nat × Value) (fun x => x.1 ≤ n.children.length) (fun x => [(1, ptr b1), (2, ptr b2), (3, x.2), (4, .int .i64 (x.1 : Int))]) (fun x => [cI x.2 (g x.1), blkC b1 [.int .i64 m.addr, .int .i64 m.poll, .int .i64 m.parent, sv xt m.table.length, sv xl m.links.length, .slice a3 m.out.length c3, sv V.ch n.children.length, .slice a5 m.boxes.length c5, sv V.se n.seen.length, sv V.pa V.ps.length, sv V.ib n.inbox.length, .int .i64 n.seq, .int .i64 n.lost] 31, rsC b2, groupC Gt, cSn (.slice a3 m.out.length c3) m.out, cMa (.slice a5 m.boxes.length c5) m.boxes]) (fun x => n.children.length - x.1) (0, .slice none 0 0) (Nat.zero_le _) ⟨I, I, I, I, trivial⟩ (by rw [hg]; exact Ent.refl) ?_
 rintro ⟨k, v⟩ hk ih
 have hk : k ≤ n.children.length := hk
 repeat' (first | refine zh ?_ | intro (bk : Nat))
 refine HR.cond I (fun h2 => ?_) (fun h2 => ?_)
 ·have hlt : k < n.children.length := by have := of_decide_eq_true h2; omega
  obtain ⟨c, hc⟩ := getSome hlt
  have hgs := fold_step (fun c => Tp.okN c && !(c == m.addr)) hc
  have hgs : g (k + 1) = if (Tp.okN c && !(c == m.addr)) = true then child (g k) c else g k := by rw [hg]; exact hgs
  repeat' (first | refine zh ?_ | intro (bk : Nat))
  refine HR.join (ι := Unit) (fun _ => True) (fun _ => [(1, ptr b1), (2, ptr b2), (3, v), (4, .int .i64 (k : Int)), (86, .bool (Tp.okN c && !(c == m.addr)))]) (fun _ => [cI v (g k), blkC b1 [.int .i64 m.addr, .int .i64 m.poll, .int .i64 m.parent, sv xt m.table.length, sv xl m.links.length, .slice a3 m.out.length c3, sv V.ch n.children.length, .slice a5 m.boxes.length c5, sv V.se n.seen.length, sv V.pa V.ps.length, sv V.ib n.inbox.length, .int .i64 n.seq, .int .i64 n.lost] 31, rsC b2, groupC Gt, cSn (.slice a3 m.out.length c3) m.out, cMa (.slice a5 m.boxes.length c5) m.boxes]) (fun _ _ => ?_) (fun hj => ?_)
  rotate_left
  ·refine HR.regionD [(0, true), (1, true), (2, true), (3, true), (4, true), (5, false), (6, true), (7, true), (8, true), (9, true), (10, true), (11, true), (12, true), (13, true), (14, true), (15, true)] [1] I I hmix (by kernel_rfl) ?_
   repeat' (first | refine zd ?_ | refine HD.idxR (Rd.arg h.ch) elemI k I I I I I hlt ?_ | refine HD.loadI (Rd.arg h.ch) I I I I I (cellsOf_get1 hc) ?_)
   refine HD.one I ?_
   refine HL.callB fn45 I I (fun w _ => address_any c w) ?_
   refine HL.back [1] I I ?_
   repeat' (first | refine zd ?_ | fail)
   refine HD.split 77 I (fun hb => ?_) (fun hb => ?_)
   ·repeat' (first | refine zd ?_ | refine HD.idxR (Rd.arg h.ch) elemI k I I I I I hlt ?_ | refine HD.loadI (Rd.arg h.ch) I I I I I (cellsOf_get1 hc) ?_)
    refine HD.nil ?_
    refine hj () _ _ trivial ⟨rfl, rfl, rfl, rfl, ?_, trivial⟩ Ent.refl
    show some (Value.bool (!(c == m.addr))) = some (Value.bool (Tp.okN c && !(c == m.addr)))
    rw [show Tp.okN c = true from hb]; rfl
   ·repeat' (first | refine zd ?_ | fail)
    refine HD.nil ?_
    refine hj () _ _ trivial ⟨rfl, rfl, rfl, rfl, ?_, trivial⟩ Ent.refl
    show some (Value.bool false) = some (Value.bool (Tp.okN c && !(c == m.addr)))
    rw [show Tp.okN c = false from hb]; rfl
  refine HR.cond I (fun h3 => ?_) (fun h3 => ?_)
  ·have h3 : (Tp.okN c && !(c == m.addr)) = true := h3
   rw [if_pos h3] at hgs
   repeat' (first | refine zh ?_ | refine HL.idxR (Rd.arg h.ch) elemI k I I I I hlt ?_ | refine HL.loadI (Rd.arg h.ch) I I I I (cellsOf_get1 hc) ?_ | intro (bk : Nat))
   refine HL.callW (r := fun r : Value => r) (Q := fun _ => True) (G0 := [cI v (g k)]) (H0 := [blkC b1 [.int .i64 m.addr, .int .i64 m.poll, .int .i64 m.parent, sv xt m.table.length, sv xl m.links.length, .slice a3 m.out.length c3, sv V.ch n.children.length, .slice a5 m.boxes.length c5, sv V.se n.seen.length, sv V.pa V.ps.length, sv V.ib n.inbox.length, .int .i64 n.seq, .int .i64 n.lost] 31, rsC b2, groupC Gt, cSn (.slice a3 m.out.length c3) m.out, cMa (.slice a5 m.boxes.length c5) m.boxes]) (G := fun r => [cI r (child (g k) c)]) fn67 I I I (fun w1 hw1 => rchild_any (g k) c v _ w1 (hw1.pick [0] I I) (hgl k) (hga k)) ?_
   intro r _
   repeat' (first | refine zh ?_ | intro (bk : Nat))
   refine ih (k + 1, r) _ _ hlt (by show n.children.length - (k + 1) < n.children.length - k; omega) ⟨I, I, I, I, trivial⟩ ?_
   show Ent _ _ [cI r (g (k + 1)), blkC b1 [.int .i64 m.addr, .int .i64 m.poll, .int .i64 m.parent, sv xt m.table.length, sv xl m.links.length, .slice a3 m.out.length c3, sv V.ch n.children.length, .slice a5 m.boxes.length c5, sv V.se n.seen.length, sv V.pa V.ps.length, sv V.ib n.inbox.length, .int .i64 n.seq, .int .i64 n.lost] 31, rsC b2, groupC Gt, cSn (.slice a3 m.out.length c3) m.out, cMa (.slice a5 m.boxes.length c5) m.boxes]
   rw [hgs]
   exact Ent.refl
  ·have h3 : (Tp.okN c && !(c == m.addr)) = false := h3
   rw [if_neg (by rw [h3]; decide)] at hgs
   repeat' (first | refine zh ?_ | intro (bk : Nat))
   refine ih (k + 1, v) _ _ hlt (by show n.children.length - (k + 1) < n.children.length - k; omega) ⟨I, I, I, I, trivial⟩ ?_
   show Ent _ _ [cI v (g (k + 1)), blkC b1 [.int .i64 m.addr, .int .i64 m.poll, .int .i64 m.parent, sv xt m.table.length, sv xl m.links.length, .slice a3 m.out.length c3, sv V.ch n.children.length, .slice a5 m.boxes.length c5, sv V.se n.seen.length, sv V.pa V.ps.length, sv V.ib n.inbox.length, .int .i64 n.seq, .int .i64 n.lost] 31, rsC b2, groupC Gt, cSn (.slice a3 m.out.length c3) m.out, cMa (.slice a5 m.boxes.length c5) m.boxes]
   rw [hgs]
   exact Ent.refl
 have hke : k = n.children.length := by have := of_decide_eq_false h2; omega
 subst hke
 have hgm : g n.children.length = m.children := by rw [e_ch, hg]; show ((n.children.take n.children.length).filter _).foldl child [] = _; rw [List.take_length]
 refine HR.ent (H' := [cI v m.children, blkC b1 [.int .i64 m.addr, .int .i64 m.poll, .int .i64 m.parent, sv xt m.table.length, sv xl m.links.length, .slice a3 m.out.length c3, sv V.ch n.children.length, .slice a5 m.boxes.length c5, sv V.se n.seen.length, sv V.pa V.ps.length, sv V.ib n.inbox.length, .int .i64 n.seq, .int .i64 n.lost] 31, rsC b2, groupC Gt, cSn (.slice a3 m.out.length c3) m.out, cMa (.slice a5 m.boxes.length c5) m.boxes]) (Ent.of_eq (by rw [← hgm])) ?_
 repeat' (first | refine zh ?_ | intro (bk : Nat))
 refine HL.shape 0 I fun a4 c4 hv => ?_
 subst hv
 refine HL.ent (H' := [blkC b1 [.int .i64 m.addr, .int .i64 m.poll, .int .i64 m.parent, sv xt m.table.length, sv xl m.links.length, .slice a3 m.out.length c3, sv V.ch n.children.length, .slice a5 m.boxes.length c5, sv V.se n.seen.length, sv V.pa V.ps.length, sv V.ib n.inbox.length, .int .i64 n.seq, .int .i64 n.lost] 31, rsC b2, groupC Gt, cSn (.slice a3 m.out.length c3) m.out, cMa (.slice a5 m.boxes.length c5) m.boxes, cI (.slice a4 m.children.length c4) m.children]) (Ent.pick [1, 2, 3, 4, 5, 0] I I) ?_
 repeat' (first | refine zh ?_ | refine HL.bslice0 elemPr I ?_ | intro (bk : Nat))
 intro v0
 repeat' (first | refine zh ?_ | intro (bk : Nat))
 refine HL.setV 103 (v' := .int .i64 ((n.seen.length - 32 : Nat) : Int)) I (by rw [← max0]) ?_
 repeat' (first | refine zh ?_ | refine HL.subI (sz := 2) (n.seen.length - 32) n.seen.length (Rd.arg h.se) I I I I (.inr ⟨_, _, _, rfl, rfl, rfl⟩) (.inl ⟨rfl, rfl⟩) (Nat.sub_le _ _) (Nat.le_refl _) ?_ | intro (bk : Nat))
 refine HL.appR 0 I elemPr (Rd.arg s_se) I I I (cellsOf_len prC_len _) (one_allcells prC_one _) (by omega) (by omega) ?_
 intro v1
 refine HL.ent (H' := cPr v1 m.seen :: [blkC b1 [.int .i64 m.addr, .int .i64 m.poll, .int .i64 m.parent, sv xt m.table.length, sv xl m.links.length, .slice a3 m.out.length c3, .slice a4 m.children.length c4, .slice a5 m.boxes.length c5, sv V.se n.seen.length, sv V.pa V.ps.length, sv V.ib n.inbox.length, .int .i64 n.seq, .int .i64 n.lost] 31, rsC b2, groupC Gt, cSn (.slice a3 m.out.length c3) m.out, cMa (.slice a5 m.boxes.length c5) m.boxes, cI (.slice a4 m.children.length c4) m.children]) (Ent.own0 (Nat.zero_add _) (List.nil_append _)) ?_
 refine HL.shape 0 I fun a6 c6 hv => ?_
 subst hv
 refine HL.ent (H' := [blkC b1 [.int .i64 m.addr, .int .i64 m.poll, .int .i64 m.parent, sv xt m.table.length, sv xl m.links.length, .slice a3 m.out.length c3, .slice a4 m.children.length c4, .slice a5 m.boxes.length c5, sv V.se n.seen.length, sv V.pa V.ps.length, sv V.ib n.inbox.length, .int .i64 n.seq, .int .i64 n.lost] 31, rsC b2, groupC Gt, cSn (.slice a3 m.out.length c3) m.out, cMa (.slice a5 m.boxes.length c5) m.boxes, cI (.slice a4 m.children.length c4) m.children, cPr (.slice a6 m.seen.length c6) m.seen]) (Ent.pick [1, 2, 3, 4, 5, 6, 0] I I) ?_
 repeat' (first | refine zh ?_ | refine HL.bslice0 elemDe I ?_ | intro (bk : Nat))
 intro v0
 repeat' (first | refine zh ?_ | intro (bk : Nat))
 refine HL.setV 113 (v' := .int .i64 ((min n.inbox.length 256 : Nat) : Int)) I (by rw [← min_i]; rfl) ?_
 repeat' (first | refine zh ?_ | refine HL.subI (sz := 2) 0 (min n.inbox.length 256) (Rd.arg h.ib) I I I I (.inl ⟨rfl, rfl⟩) (.inr ⟨_, _, _, rfl, rfl, rfl⟩) (Nat.zero_le _) (Nat.min_le_left _ _) ?_ | intro (bk : Nat))
 refine HL.appR 0 I elemDe (Rd.arg s_ib) I I I (cellsOf_len deC_len _) (one_allcells deC_one _) (by omega) (by omega) ?_
 intro v1
 refine HL.ent (H' := cDe v1 m.inbox :: [blkC b1 [.int .i64 m.addr, .int .i64 m.poll, .int .i64 m.parent, sv xt m.table.length, sv xl m.links.length, .slice a3 m.out.length c3, .slice a4 m.children.length c4, .slice a5 m.boxes.length c5, .slice a6 m.seen.length c6, sv V.pa V.ps.length, sv V.ib n.inbox.length, .int .i64 n.seq, .int .i64 n.lost] 31, rsC b2, groupC Gt, cSn (.slice a3 m.out.length c3) m.out, cMa (.slice a5 m.boxes.length c5) m.boxes, cI (.slice a4 m.children.length c4) m.children, cPr (.slice a6 m.seen.length c6) m.seen]) (Ent.own0 (Nat.zero_add _) (List.nil_append _)) ?_
 refine HL.shape 0 I fun a7 c7 hv => ?_
 subst hv
 refine HL.ent (H' := [blkC b1 [.int .i64 m.addr, .int .i64 m.poll, .int .i64 m.parent, sv xt m.table.length, sv xl m.links.length, .slice a3 m.out.length c3, .slice a4 m.children.length c4, .slice a5 m.boxes.length c5, .slice a6 m.seen.length c6, sv V.pa V.ps.length, sv V.ib n.inbox.length, .int .i64 n.seq, .int .i64 n.lost] 31, rsC b2, groupC Gt, cSn (.slice a3 m.out.length c3) m.out, cMa (.slice a5 m.boxes.length c5) m.boxes, cI (.slice a4 m.children.length c4) m.children, cPr (.slice a6 m.seen.length c6) m.seen, cDe (.slice a7 m.inbox.length c7) m.inbox]) (Ent.pick [1, 2, 3, 4, 5, 6, 7, 0] I I) ?_
 repeat' (first | refine zh ?_ | apply zb ?_ ?_ | exact zc | (refine zi fun hb => ?_; try simp at hb) | intro (bk : Nat))
 refine HR.join (ι := Unit) (fun _ => True) (fun _ => [(1, ptr b1), (2, ptr b2)]) (fun _ => [blkC b1 [.int .i64 m.addr, .int .i64 m.poll, .int .i64 m.parent, sv xt m.table.length, sv xl m.links.length, .slice a3 m.out.length c3, .slice a4 m.children.length c4, .slice a5 m.boxes.length c5, .slice a6 m.seen.length c6, sv V.pa V.ps.length, .slice a7 m.inbox.length c7, .int .i64 m.seq, .int .i64 n.lost] 31, rsC b2, groupC Gt, cSn (.slice a3 m.out.length c3) m.out, cMa (.slice a5 m.boxes.length c5) m.boxes, cI (.slice a4 m.children.length c4) m.children, cPr (.slice a6 m.seen.length c6) m.seen, cDe (.slice a7 m.inbox.length c7) m.inbox]) (fun _ _ => ?_) (fun hj => ?_)
 rotate_left
 ·refine HR.cond I (fun h2 => ?_) (fun h2 => ?_)
  ·have h2 : (decide (n.seq < 0) || decide (n.seq > 65535)) = true := h2
   have h3 : n.seq < 0 ∨ n.seq > 65535 := by simpa using h2
   refine HR.region ?_
   repeat' (first | refine zn ?_ | apply zb ?_ ?_ | exact zc | (refine zi fun hb => ?_; try simp at hb) | intro (bk : Nat))
   refine hj () _ _ trivial ⟨I, I, trivial⟩ (Ent.of_eq ?_)
   rw [e_sq, if_pos h3]; rfl
  ·have h2 : (decide (n.seq < 0) || decide (n.seq > 65535)) = false := h2
   have h3 : ¬ (n.seq < 0 ∨ n.seq > 65535) := by simpa using h2
   refine HR.skip ?_
   refine hj () _ _ trivial ⟨I, I, trivial⟩ (Ent.of_eq ?_)
   rw [e_sq, if_neg h3]; rfl
 repeat' (first | refine zh ?_ | refine HL.callB fn63 I I (fun w _ => rclamp_any n.lost 0 1099511627776 (by decide) w) ?_ | intro (bk : Nat))
 refine HR.ret Tryz.func20 I [_] (fun w hw => ⟨⟨_, rfl, loadVarR hw 1 I I I I rfl⟩, trivial⟩) ?_
 refine fun w' hw => ⟨(⟨xt, xl, (a3, c3), (a4, c4), (a5, c5), (a6, c6), V.pa, (a7, c7), V.ps⟩, Gt), ?_, ⟨rfl, rfl, ht, hli⟩, hw.pick [2, 3, 4, 5, 6, 7] I rfl⟩
 show _ = Ending.returned (.agg ⟨ndC ⟨xt, xl, (a3, c3), (a4, c4), (a5, c5), (a6, c6), V.pa, (a7, c7), V.ps⟩ m⟩)
 rw [show ndC ⟨xt, xl, (a3, c3), (a4, c4), (a5, c5), (a6, c6), V.pa, (a7, c7), V.ps⟩ m = ndC ⟨xt, xl, (a3, c3), (a4, c4), (a5, c5), (a6, c6), V.pa, (a7, c7), V.ps⟩ { m with lost := clamp n.lost 0 1099511627776 } from by rw [← e_lo]]
 rfl
end Go.Proofs.YtgdgclmkpoaagaaGreat
namespace Go.Proofs.YtgdgclmkpoaagaaGreat
open Go.GX Go.RowKit
attribute [local irreducible] Calls Run RunL RunQ RunD HR HL HD blkC ownC Rd
open Nd
abbrev Imp (V0 : NV) (n0 : Nd) (V : NV) (G : List Chunk) (n : Nd) : Prop := ∀ w2, OkN w2 V0 n0 → (groupC G).p w2 → OkN w2 V n
theorem ROk.okn {V V' : NV} {n m : Nd} {Gt : List Chunk} (hr : ROk V n V' Gt m) (hp : m.parts = n.parts) : Imp V n V' (roH V' Gt m) m := by
 intro w2 h2 hg
 refine ⟨hr.ta w2 h2.ta (groupC_mem hg (List.mem_cons_self ..)), hr.li w2 h2.li, ownC_sl (groupC_mem hg (c := cSn (sv V'.ou m.out.length) m.out) (by simp)), ownC_sl (groupC_mem hg (c := cI (sv V'.ch m.children.length) m.children) (by simp)), ownC_sl (groupC_mem hg (c := cMa (sv V'.bo m.boxes.length) m.boxes) (by simp)), ownC_sl (groupC_mem hg (c := cPr (sv V'.se m.seen.length) m.seen) (by simp)), ?_, ownC_sl (groupC_mem hg (c := cDe (sv V'.ib m.inbox.length) m.inbox) (by simp)), ?_⟩
 ·rw [hr.pa, hr.ps]; exact h2.pa
 ·rw [hr.ps, hp]; exact h2.eq
end Go.Proofs.YtgdgclmkpoaagaaGreat
namespace Go.Proofs.YtgdgclmkpoaagaaGreat
open Go.GX Go.RowKit
attribute [local irreducible] Calls Run RunL RunQ RunD HR HL HD blkC ownC Rd
open Nd
theorem fn31 : IsFn Tryz.prog 31 := ⟨⟨_, _, Tryz.func31, rfl, by decide⟩⟩
theorem rresult_any (V : NV) (n : Nd) (f : Fr) (ok : Bool) (w : World) (h : OkN w V n) (hs : SmN n) (hf : ∀ s ∈ n.out, fits .i64 s.tr) :
  Calls Tryz.prog 31 #[.agg ⟨ndC V n⟩, .agg ⟨frC f⟩, .bool ok] w fun e w' => ∃ x : NV × List Chunk, e = .returned (.agg ⟨ndC x.1 (result n f ok)⟩) ∧ Imp V n x.1 x.2 (result n f ok) ∧ Sat (base w) [groupC x.2] w' := by
 obtain ⟨m, hm⟩ : ∃ m, m = order n := ⟨_, rfl⟩
 have hmp : m.parts = n.parts := by rw [hm]; rfl
 have hmf : ∀ s ∈ m.out, fits .i64 s.tr := fun s hs => hf s (List.mem_of_mem_take (by rw [hm] at hs; exact hs))
 have ho : Ord m := by rw [hm]; exact order_ord n
 have h16 := ho.out
 have hsp : result n f ok = match m.out.findIdx? (hits f) with
  | none => m
  | some i => if (mres m.out i ok).2 then giveUp (if Tp.okN f.dst then { m with out := (mres m.out i ok).1, links := lseen m.links f.dst ok } else { m with out := (mres m.out i ok).1 }) f.dst else (if Tp.okN f.dst then { m with out := (mres m.out i ok).1, links := lseen m.links f.dst ok } else { m with out := (mres m.out i ok).1 }) := by rw [hm]; rfl
 obtain ⟨Z, hZ⟩ : ∃ Z, Z = result n f ok := ⟨_, rfl⟩
 rw [← hZ]
 rw [hsp] at hZ
 refine calls_hr Tryz.func31 I (Nat.le_of_ble_eq_true I) ?_
 refine HR.sub (σ' := [(0, .agg ⟨ndC V n⟩), (1, .agg ⟨frC f⟩), (2, .bool ok)]) ⟨I, I, I, trivial⟩ ?_
 refine HR.ctl I ?_
 refine HR.region ?_
 refine HL.box I I ?_
 intro b3
 refine HL.box I I ?_
 intro b4
 refine HL.alloc I I ?_
 intro b6
 repeat' (first | refine zh ?_ | intro (bk : Nat))
 refine HL.callX (r := fun x : NV × List Chunk => .agg ⟨ndC x.1 m⟩) (Q := fun x => ROk V n x.1 x.2 m) (G := fun x => roH x.1 x.2 m) fn20 I I (fun w1 hw1 => by rw [hm]; exact rorder_any V n w1 (h.ext hw1.belowB) hs) ?_
 rintro ⟨V2, Gt⟩ hR
 have hR : ROk V n V2 Gt m := hR
 refine HL.ent (Ent.pick [8, 7, 6, 0, 1, 2, 3, 4, 5] I I) ?_
 repeat' (first | refine zh ?_ | intro (bk : Nat))
 refine HR.loop (ι := Nat) (fun i => i ≤ m.out.length ∧ ∀ j x, j < i → m.out[j]? = some x → hits f x = false) (fun i => [(2, .bool ok), (3, ptr b3), (4, ptr b4), (6, ptr b6), (7, .int .i64 (i : Int))]) (fun _ => [blkC b3 (ndC V2 m) 31, blkC b4 (frC f) 42, rsC b6, groupC Gt, cSn (sv V2.ou m.out.length) m.out, cMa (sv V2.bo m.boxes.length) m.boxes, cI (sv V2.ch m.children.length) m.children, cPr (sv V2.se m.seen.length) m.seen, cDe (sv V2.ib m.inbox.length) m.inbox]) (fun i => m.out.length - i) 0 ⟨Nat.zero_le _, fun j x hj => absurd hj (Nat.not_lt_zero _)⟩ ⟨I, I, I, I, I, trivial⟩ Ent.refl ?_
 rintro i ⟨hi, hno⟩ ih
 repeat' (first | refine zh ?_ | refine HL.lenR (Rd.own 4 I) I I I ?_ | intro (bk : Nat))
 refine HR.cond I (fun h1 => ?_) (fun h1 => ?_)
 rotate_left
 ·have h1 : ¬ (i : Int) < (m.out.length : Int) := of_decide_eq_false h1
  have hfi : m.out.findIdx? (hits f) = none := List.findIdx?_eq_none_iff.2 fun x hx => by
   obtain ⟨j, hj⟩ := List.getElem?_of_mem hx
   exact hno j x (by have := (List.getElem?_eq_some_iff.1 hj).1; omega) hj
  rw [hfi] at hZ
  have hZ : Z = m := hZ
  rw [hZ]
  repeat' (first | refine zh ?_ | intro (bk : Nat))
  refine HR.ret Tryz.func31 I [_] (fun w hw => ⟨⟨_, rfl, loadVarR hw 2 I I I I rfl⟩, trivial⟩) ?_
  exact fun w' hw => ⟨(V2, roH V2 Gt m), rfl, hR.okn hmp, Ent.trans (Ent.pick [3, 4, 5, 6, 7, 8] I I) (Ent.group (G := roH V2 Gt m) (H := [])) w' hw⟩
 have h1 : (i : Int) < (m.out.length : Int) := of_decide_eq_true h1
 have hlt : i < m.out.length := by omega
 obtain ⟨x, hx⟩ := getSome hlt
 have hcl : (cellsOf snC m.out).length = m.out.length * 11 := cellsOf_len snC_len _
 repeat' (first | refine zh ?_ | refine HL.idxR (Rd.own 4 I) elemSn i I I I I hlt ?_ | refine HL.fieldN 0 (Rd.own 4 I) (by rw [hcl]; omega) I I I I I I I ?_ | refine HL.loadE (Rd.own 4 I) I I I I (by simp) I (frame_get hx) ?_ | apply zb ?_ ?_ | exact zc | (refine zi fun hb => ?_; try simp at hb) | intro (bk : Nat))
 refine HR.cond I (fun h2 => ?_) (fun h2 => ?_)
 ·have h2 : ((!(x.f.kd == f.kd) || !(x.f.so == f.so)) || !(x.f.sq == f.sq)) = true := h2
  have h3 : hits f x = false := by
   unfold hits
   cases e1 : (x.f.kd == f.kd) <;> cases e2 : (x.f.so == f.so) <;> cases e3 : (x.f.sq == f.sq) <;> simp [e1, e2, e3] at h2 ⊢
  repeat' (first | refine zh ?_ | intro (bk : Nat))
  refine ih (i + 1) _ _ ⟨hlt, fun j y hj hy => ?_⟩ (by show m.out.length - (i + 1) < m.out.length - i; omega) ⟨I, I, I, I, I, trivial⟩ (Ent.pick [1, 2, 3, 4, 5, 6, 7, 8, 9] I I)
  by_cases e : j = i
  ·subst e; rw [hx] at hy; cases hy; exact h3
  ·exact hno j y (by omega) hy
 have h2 : ((!(x.f.kd == f.kd) || !(x.f.so == f.so)) || !(x.f.sq == f.sq)) = false := h2
 have h3 : hits f x = true := by
  unfold hits
  cases e1 : (x.f.kd == f.kd) <;> cases e2 : (x.f.so == f.so) <;> cases e3 : (x.f.sq == f.sq) <;> simp [e1, e2, e3] at h2 ⊢
 have hfi : m.out.findIdx? (hits f) = some i := by
  rw [List.findIdx?_eq_some_iff_getElem]
  obtain ⟨_, e⟩ := List.getElem?_eq_some_iff.1 hx
  refine ⟨hlt, by rw [e]; exact h3, fun j hj => ?_⟩
  have := hno j m.out[j] hj (List.getElem?_eq_getElem (by omega))
  rw [this]; decide
 rw [hfi] at hZ
 have hmr := mres_len m.out i ok
 obtain ⟨r, hr⟩ : ∃ r, r = mres m.out i ok := ⟨_, rfl⟩
 rw [← hr] at hmr
 have hm1 := ho.setOut hmr
 have hml : Ord { m with out := r.1, links := lseen m.links f.dst ok } := hm1.setLinks (lseen_ok _ _ _)
 have hl24 := llen ho
 obtain ⟨b, hb⟩ : ∃ b, b = if Tp.okN f.dst then { m with out := r.1, links := lseen m.links f.dst ok } else { m with out := r.1 } := ⟨_, rfl⟩
 have hob : Ord b := by rw [hb]; split; exact hml; exact hm1
 have hbe : ∃ q, b = { m with out := r.1, links := q } := by rw [hb]; split; exact ⟨_, rfl⟩; exact ⟨m.links, rfl⟩
 have hZ : Z = if r.2 = true then giveUp b f.dst else b := by rw [hZ, hb, hr]
 repeat' (first | refine zh ?_ | intro (bk : Nat))
 refine HL.callX (r := fun v' : Value => .tuple ⟨[v', .bool r.2]⟩) (Q := fun _ => True) (G := fun v' => [cSn v' r.1]) fn81 I I (fun w1 hw1 => by have := r16result_any m.out (i : Int) ok _ w1 ((Rd.own 5 rfl).at hw1) (by omega) hmf (by omega); rw [Int.toNat_natCast] at this; rw [hr]; exact this) ?_
 intro v1 _
 refine HL.shape 0 I fun a1 c1 hv => ?_
 subst hv
 repeat' (first | refine zh ?_ | refine HL.callB fn45 I I (fun w _ => address_any f.dst w) ?_ | intro (bk : Nat))
 refine HR.ent (H' := [blkC b3 (ndC { V2 with ou := (a1, c1) } { m with out := r.1 }) 31, blkC b4 (frC f) 42, rsC b6, groupC Gt, cSn (.slice a1 r.1.length c1) r.1, cMa (sv V2.bo m.boxes.length) m.boxes, cI (sv V2.ch m.children.length) m.children, cPr (sv V2.se m.seen.length) m.seen, cDe (sv V2.ib m.inbox.length) m.inbox]) (Ent.pick [2, 3, 4, 5, 0, 7, 8, 9, 10] I I) ?_
 refine HR.join (ι := SV × List Chunk) (fun x => ∀ w2, Sl w2 (sv V2.li m.links.length) (cellsOf liC m.links) m.links.length → (groupC x.2).p w2 → Sl w2 (sv x.1 b.links.length) (cellsOf liC b.links) b.links.length) (fun _ => [(3, ptr b3), (4, ptr b4), (6, ptr b6), (10, .bool r.2)]) (fun x => [blkC b3 (ndC { V2 with ou := (a1, c1), li := x.1 } b) 31, blkC b4 (frC f) 42, rsC b6, groupC Gt, cSn (.slice a1 r.1.length c1) r.1, cMa (sv V2.bo m.boxes.length) m.boxes, cI (sv V2.ch m.children.length) m.children, cPr (sv V2.se m.seen.length) m.seen, cDe (sv V2.ib m.inbox.length) m.inbox, groupC x.2]) (fun x hx => ?_) (fun hj => ?_)
 rotate_left
 ·refine HR.cond I (fun h4 => ?_) (fun h4 => ?_)
  ·have h4 : Tp.okN f.dst = true := h4
   rw [h4, if_pos rfl] at hb
   refine HR.region ?_
   repeat' (first | refine zn ?_ | refine HL.callO fn82 I I (fun w1 hw1 => r10seen_any m.links f.dst ok _ w1 (hR.li w1 (h.li.ext hw1.belowB)) (by omega)) ?_ | apply zb ?_ ?_ | exact zc | (refine zi fun hb => ?_; try simp at hb) | intro (bk : Nat))
   intro v2
   refine HL.shape 0 I fun a2 c2 hv => ?_
   subst hv
   repeat' (first | refine zn ?_ | apply zb ?_ ?_ | exact zc | (refine zi fun hb => ?_; try simp at hb) | intro (bk : Nat))
   refine hj ((a2, c2), [cLi (.slice a2 (lseen m.links f.dst ok).length c2) (lseen m.links f.dst ok)]) _ _ (fun w2 _ hg => ?_) ⟨I, I, I, I, trivial⟩ ?_
   ·rw [hb]; exact ownC_sl hg.1
   ·rw [hb]
    exact Ent.trans (Ent.group (G := [cLi (.slice a2 (lseen m.links f.dst ok).length c2) (lseen m.links f.dst ok)])) (Ent.pick [1, 2, 3, 4, 5, 6, 7, 8, 9, 0] I I)
  ·have h4 : Tp.okN f.dst = false := h4
   rw [h4, if_neg (by decide)] at hb
   refine HR.skip ?_
   refine hj (V2.li, []) _ _ (fun w2 hw2 _ => ?_) ⟨I, I, I, I, trivial⟩ ?_
   ·rw [hb]; exact hw2
   ·rw [hb]; exact Ent.trans Ent.gnil (Ent.pick [1, 2, 3, 4, 5, 6, 7, 8, 9, 0] I I)
 obtain ⟨y, Gl⟩ := x
 have hy : ∀ w2, Sl w2 (sv V2.li m.links.length) (cellsOf liC m.links) m.links.length → (groupC Gl).p w2 → Sl w2 (sv y b.links.length) (cellsOf liC b.links) b.links.length := hx
 obtain ⟨q, hbq⟩ := hbe
 have b_ta : b.table = m.table := by rw [hbq]
 have b_ou : b.out = r.1 := by rw [hbq]
 have b_bo : b.boxes = m.boxes := by rw [hbq]
 have b_ch : b.children = m.children := by rw [hbq]
 have b_se : b.seen = m.seen := by rw [hbq]
 have b_ib : b.inbox = m.inbox := by rw [hbq]
 have b_pa : b.parts = n.parts := by rw [hbq]; exact hmp
 have okb : Imp V n { V2 with ou := (a1, c1), li := y } [groupC Gt, cSn (.slice a1 r.1.length c1) r.1, cMa (sv V2.bo m.boxes.length) m.boxes, cI (sv V2.ch m.children.length) m.children, cPr (sv V2.se m.seen.length) m.seen, cDe (sv V2.ib m.inbox.length) m.inbox, groupC Gl] b := by
  intro w2 h2 hg
  refine ⟨?_, hy w2 (hR.li w2 h2.li) (groupC_mem hg (c := groupC Gl) (by simp)), ?_, ?_, ?_, ?_, ?_, ?_, ?_⟩
  ·rw [b_ta]; exact hR.ta w2 h2.ta (groupC_mem hg (c := groupC Gt) (by simp))
  ·rw [b_ou]; exact ownC_sl (groupC_mem hg (c := cSn (.slice a1 r.1.length c1) r.1) (by simp))
  ·rw [b_ch]; exact ownC_sl (groupC_mem hg (c := cI (sv V2.ch m.children.length) m.children) (by simp))
  ·rw [b_bo]; exact ownC_sl (groupC_mem hg (c := cMa (sv V2.bo m.boxes.length) m.boxes) (by simp))
  ·rw [b_se]; exact ownC_sl (groupC_mem hg (c := cPr (sv V2.se m.seen.length) m.seen) (by simp))
  ·show RdPts w2 (sv V2.pa V2.ps.length) V2.ps
   rw [hR.pa, hR.ps]; exact h2.pa
  ·rw [b_ib]; exact ownC_sl (groupC_mem hg (c := cDe (sv V2.ib m.inbox.length) m.inbox) (by simp))
  ·show pts V2.ps = _
   rw [hR.ps, b_pa]; exact h2.eq
 cases hr2 : r.2 with
 | false =>
  rw [hr2] at hZ
  have hZ : Z = b := hZ
  rw [hZ]
  repeat' (first | refine zh ?_ | intro (bk : Nat))
  refine HR.ret Tryz.func31 I [_] (fun w hw => ⟨⟨_, rfl, loadVarR hw 2 I I I I rfl⟩, trivial⟩) ?_
  exact fun w' hw => ⟨(_, _), rfl, okb, Ent.trans (Ent.pick [3, 4, 5, 6, 7, 8, 9] I I) (Ent.group (G := [_, _, _, _, _, _, _]) (H := [])) w' hw⟩
 | true =>
 rw [hr2] at hZ
 have hZ : Z = giveUp b f.dst := hZ
 have hbl := hob.lost
 obtain ⟨d, hd⟩ : ∃ d, d = lose b := ⟨_, rfl⟩
 repeat' (first | refine zh ?_ | refine HL.callB (r := .agg ⟨ndC { V2 with ou := (a1, c1), li := y } d⟩) fn83 I I (fun w1 _ => by rw [hd]; exact rlose_any { V2 with ou := (a1, c1), li := y } b w1 hbl) ?_ | refine HL.callB fn45 I I (fun w _ => address_any f.dst w) ?_ | intro (bk : Nat))
 refine HR.cond I (fun h5 => ?_) (fun h5 => ?_)
 rotate_left
 ·have h5 : Tp.okN f.dst = false := h5
  have hZ : Z = d := by rw [hZ, hd]; unfold giveUp; rw [if_pos h5]
  rw [hZ]
  repeat' (first | refine zh ?_ | intro (bk : Nat))
  refine HR.ret Tryz.func31 I [_] (fun w hw => ⟨⟨_, rfl, loadVarR hw 2 I I I I rfl⟩, trivial⟩) ?_
  refine fun w' hw => ⟨({ V2 with ou := (a1, c1), li := y }, [groupC Gt, cSn (.slice a1 r.1.length c1) r.1, cMa (sv V2.bo m.boxes.length) m.boxes, cI (sv V2.ch m.children.length) m.children, cPr (sv V2.se m.seen.length) m.seen, cDe (sv V2.ib m.inbox.length) m.inbox, groupC Gl]), ?_, fun w2 h2 hg => ?_, Ent.trans (Ent.pick [3, 4, 5, 6, 7, 8, 9] I I) (Ent.group (G := [_, _, _, _, _, _, _]) (H := [])) w' hw⟩
  ·rw [hd]; rfl
  ·have o := okb w2 h2 hg
   rw [hd]
   exact ⟨o.ta, o.li, o.ou, o.ch, o.bo, o.se, o.pa, o.ib, o.eq⟩
 have h5 : Tp.okN f.dst = true := h5
 have hZ : Z = { d with table := rbrk b.table b.addr f.dst, links := lforget b.links f.dst, children := b.children.filter fun c => !(c == f.dst), parent := if b.parent = f.dst then 255 else b.parent } := by
  rw [hZ, hd]; unfold giveUp; rw [if_neg (by rw [h5]; decide)]
 have d_ta : d.table = b.table := by rw [hd]; rfl
 have d_ad : d.addr = b.addr := by rw [hd]; rfl
 have d_li : d.links = b.links := by rw [hd]; rfl
 have d_ch : d.children = m.children := by rw [hd, ← b_ch]; rfl
 have d_pr : d.parent = b.parent := by rw [hd]; rfl
 have d_ou : d.out = r.1 := by rw [hd, ← b_ou]; rfl
 have d_bo : d.boxes = m.boxes := by rw [hd, ← b_bo]; rfl
 have d_se : d.seen = m.seen := by rw [hd, ← b_se]; rfl
 have d_ib : d.inbox = m.inbox := by rw [hd, ← b_ib]; rfl
 have d_pa : d.parts = n.parts := by rw [hd, ← b_pa]; rfl
 have hb24 := tlen hob
 have hbl24 := llen hob
 have hk251 := klen ho
 rw [← d_ta, ← d_ad, ← d_li, b_ch, ← d_pr] at hZ
 obtain ⟨TT, hTT⟩ : ∃ TT, TT = rbrk d.table d.addr f.dst := ⟨_, rfl⟩
 obtain ⟨LL, hLL⟩ : ∃ LL, LL = lforget d.links f.dst := ⟨_, rfl⟩
 rw [← hTT, ← hLL] at hZ
 repeat' (first | refine zh ?_ | refine HL.callO fn84 I I (fun w1 hw1 => r11brk_any d.table d.addr f.dst _ w1 (by rw [d_ta, b_ta]; exact hR.ta w1 (h.ta.ext hw1.belowB) (Sat.grp 3 hw1 I)) (by rw [d_ta]; omega)) ?_ | intro (bk : Nat))
 intro v3
 refine HL.shape 0 I fun a3 c3 hv => ?_
 subst hv
 rw [← hTT]
 repeat' (first | refine zh ?_ | refine HL.callO fn85 I I (fun w1 hw1 => r10forget_any d.links f.dst _ w1 (by rw [d_li]; exact hy w1 (hR.li w1 (h.li.ext hw1.belowB)) (Sat.grp 10 hw1 I)) (by rw [d_li]; omega)) ?_ | intro (bk : Nat))
 intro v4
 refine HL.shape 0 I fun a4 c4 hv => ?_
 subst hv
 rw [← hLL]
 repeat' (first | refine zh ?_ | intro (bk : Nat))
 refine HR.nilC 3 1 ?_
 refine HR.ent (H' := [cI (.slice none 0 0) [], blkC b3 (ndC { V2 with ou := (a1, c1), ta := (a3, c3), li := (a4, c4) } { d with table := TT, links := LL, children := m.children }) 31, blkC b4 (frC f) 42, rsC b6, cTa (.slice a3 TT.length c3) TT, cLi (.slice a4 LL.length c4) LL, cSn (.slice a1 r.1.length c1) r.1, cMa (sv V2.bo m.boxes.length) m.boxes, cI (sv V2.ch m.children.length) m.children, cPr (sv V2.se m.seen.length) m.seen, cDe (sv V2.ib m.inbox.length) m.inbox]) (Ent.trans (Ent.pick [0, 3, 4, 5, 2, 1, 7, 8, 9, 10, 11] I I) (Ent.of_eq (by rw [hd, ← b_ch]; rfl))) ?_
 refine HR.loop (ι := Nat × Value) (fun x => x.1 ≤ m.children.length) (fun x => [(3, ptr b3), (4, ptr b4), (6, ptr b6), (11, x.2), (12, .int .i64 (x.1 : Int))]) (fun x => [cI x.2 ((m.children.take x.1).filter fun c => !(c == f.dst)), blkC b3 (ndC { V2 with ou := (a1, c1), ta := (a3, c3), li := (a4, c4) } { d with table := TT, links := LL, children := m.children }) 31, blkC b4 (frC f) 42, rsC b6, cTa (.slice a3 TT.length c3) TT, cLi (.slice a4 LL.length c4) LL, cSn (.slice a1 r.1.length c1) r.1, cMa (sv V2.bo m.boxes.length) m.boxes, cI (sv V2.ch m.children.length) m.children, cPr (sv V2.se m.seen.length) m.seen, cDe (sv V2.ib m.inbox.length) m.inbox]) (fun x => m.children.length - x.1) (0, .slice none 0 0) (Nat.zero_le _) ⟨I, I, I, I, I, trivial⟩ Ent.refl ?_
 rintro ⟨k, o⟩ hk ih
 have hk : k ≤ m.children.length := hk
 have hcm : (m.children.take k).length ≤ k := by rw [List.length_take]; omega
 have hfl : ((m.children.take k).filter fun c => !(c == f.dst)).length ≤ k := Nat.le_trans (List.length_filter_le _ _) hcm
 repeat' (first | refine zh ?_ | refine HL.lenR (Rd.own 8 I) I I I ?_ | intro (bk : Nat))
 refine HR.cond I (fun h6 => ?_) (fun h6 => ?_)
 ·have hkl : k < m.children.length := by have : (k : Int) < (m.children.length : Int) := of_decide_eq_true h6; omega
  obtain ⟨c, hc⟩ := getSome hkl
  have htf := take_filter (p := fun c => !(c == f.dst)) hc
  repeat' (first | refine zh ?_ | intro (bk : Nat))
  refine HR.regionQ hmix (by kernel_rfl) ?_
  repeat' (first | refine zq ?_ | refine HQ.idxR (Rd.own 8 I) elemI k I I I I hkl ?_ | refine HQ.loadI (Rd.own 8 I) I I I I (cellsOf_get1 hc) ?_)
  refine HR.cond I (fun h7 => ?_) (fun h7 => ?_)
  ·have h7 : (!(c == f.dst)) = true := h7
   rw [if_pos h7] at htf
   repeat' (first | refine zh ?_ | refine HL.idxR (Rd.own 8 I) elemI k I I I I hkl ?_ | refine HL.loadI (Rd.own 8 I) I I I I (cellsOf_get1 hc) ?_ | intro (bk : Nat))
   refine HL.bslice elemI I I I I I (by decide) (by decide) ?_
   intro va
   refine HL.appR 1 I elemI (Rd.own 0 I) I I I I (allOne_spec I) (by show (((m.children.take k).filter fun c => !(c == f.dst)).length + 1) * 8 ≤ _; omega) (by show ((m.children.take k).filter fun c => !(c == f.dst)).length + 1 ≤ _; omega) ?_
   intro v5
   repeat' (first | refine zh ?_ | intro (bk : Nat))
   refine ih (k + 1, v5) _ _ hkl (by show m.children.length - (k + 1) < m.children.length - k; omega) ⟨I, I, I, I, I, trivial⟩ ?_
   show Ent _ _ (ownC v5 3 1 ((m.children.take (k + 1)).filter fun c => !(c == f.dst)).length (cellsOf iC ((m.children.take (k + 1)).filter fun c => !(c == f.dst))) :: _)
   rw [htf, List.length_append, cellsOf_app]
   exact Ent.pick [1, 2, 3, 4, 5, 6, 7, 8, 9, 10, 11] I I
  ·have h7 : (!(c == f.dst)) = false := h7
   rw [if_neg (by rw [h7]; decide)] at htf
   repeat' (first | refine zh ?_ | intro (bk : Nat))
   refine ih (k + 1, o) _ _ hkl (by show m.children.length - (k + 1) < m.children.length - k; omega) ⟨I, I, I, I, I, trivial⟩ ?_
   show Ent _ _ (cI o ((m.children.take (k + 1)).filter fun c => !(c == f.dst)) :: _)
   rw [htf]
   exact Ent.refl
 have hke : k = m.children.length := by have : ¬ (k : Int) < (m.children.length : Int) := of_decide_eq_false h6; omega
 subst hke
 obtain ⟨CC, hCC⟩ : ∃ CC, CC = m.children.filter fun c => !(c == f.dst) := ⟨_, rfl⟩
 rw [← hCC] at hZ
 refine HR.ent (H' := [cI o CC, blkC b3 (ndC { V2 with ou := (a1, c1), ta := (a3, c3), li := (a4, c4) } { d with table := TT, links := LL, children := m.children }) 31, blkC b4 (frC f) 42, rsC b6, cTa (.slice a3 TT.length c3) TT, cLi (.slice a4 LL.length c4) LL, cSn (.slice a1 r.1.length c1) r.1, cMa (sv V2.bo m.boxes.length) m.boxes, cPr (sv V2.se m.seen.length) m.seen, cDe (sv V2.ib m.inbox.length) m.inbox]) (Ent.trans (Ent.pick [0, 1, 2, 3, 4, 5, 6, 7, 9, 10] I I) (Ent.of_eq (by rw [hCC]; simp only [List.take_length]))) ?_
 repeat' (first | refine zh ?_ | intro (bk : Nat))
 refine HL.shape 0 I fun a5 c5 hv => ?_
 subst hv
 have fin : ∀ z : Nd, z = { d with table := TT, links := LL, children := CC, parent := z.parent } → ∀ w', Sat (base w) [cTa (.slice a3 TT.length c3) TT, cLi (.slice a4 LL.length c4) LL, cSn (.slice a1 r.1.length c1) r.1, cI (.slice a5 CC.length c5) CC, cMa (sv V2.bo m.boxes.length) m.boxes, cPr (sv V2.se m.seen.length) m.seen, cDe (sv V2.ib m.inbox.length) m.inbox] w' → Imp V n { V2 with ou := (a1, c1), ta := (a3, c3), li := (a4, c4), ch := (a5, c5) } [cTa (.slice a3 TT.length c3) TT, cLi (.slice a4 LL.length c4) LL, cSn (.slice a1 r.1.length c1) r.1, cI (.slice a5 CC.length c5) CC, cMa (sv V2.bo m.boxes.length) m.boxes, cPr (sv V2.se m.seen.length) m.seen, cDe (sv V2.ib m.inbox.length) m.inbox] z ∧ Sat (base w) [groupC [cTa (.slice a3 TT.length c3) TT, cLi (.slice a4 LL.length c4) LL, cSn (.slice a1 r.1.length c1) r.1, cI (.slice a5 CC.length c5) CC, cMa (sv V2.bo m.boxes.length) m.boxes, cPr (sv V2.se m.seen.length) m.seen, cDe (sv V2.ib m.inbox.length) m.inbox]] w' := by
  intro z e w' hw
  refine ⟨fun w2 h2 hg => ?_, Ent.group (G := [_, _, _, _, _, _, _]) (H := []) w' hw⟩
  have g1 := groupC_mem hg (c := cTa (.slice a3 TT.length c3) TT) (by simp)
  have g2 := groupC_mem hg (c := cLi (.slice a4 LL.length c4) LL) (by simp)
  have g3 := groupC_mem hg (c := cSn (.slice a1 r.1.length c1) r.1) (by simp)
  have g4 := groupC_mem hg (c := cI (.slice a5 CC.length c5) CC) (by simp)
  have g5 := groupC_mem hg (c := cMa (sv V2.bo m.boxes.length) m.boxes) (by simp)
  have g6 := groupC_mem hg (c := cPr (sv V2.se m.seen.length) m.seen) (by simp)
  have g7 := groupC_mem hg (c := cDe (sv V2.ib m.inbox.length) m.inbox) (by simp)
  have e1 : z.table = TT := by rw [e]
  have e2 : z.links = LL := by rw [e]
  have e3 : z.out = r.1 := by rw [e]; exact d_ou
  have e4 : z.children = CC := by rw [e]
  have e5 : z.boxes = m.boxes := by rw [e]; exact d_bo
  have e6 : z.seen = m.seen := by rw [e]; exact d_se
  have e7 : z.inbox = m.inbox := by rw [e]; exact d_ib
  have e8 : z.parts = n.parts := by rw [e]; exact d_pa
  refine ⟨?_, ?_, ?_, ?_, ?_, ?_, ?_, ?_, ?_⟩
  ·rw [e1]; exact ownC_sl g1
  ·rw [e2]; exact ownC_sl g2
  ·rw [e3]; exact ownC_sl g3
  ·rw [e4]; exact ownC_sl g4
  ·rw [e5]; exact ownC_sl g5
  ·rw [e6]; exact ownC_sl g6
  ·show RdPts w2 (sv V2.pa V2.ps.length) V2.ps
   rw [hR.pa, hR.ps]; exact h2.pa
  ·rw [e7]; exact ownC_sl g7
  ·show pts V2.ps = _
   rw [hR.ps, e8]; exact h2.eq
 repeat' (first | refine zh ?_ | intro (bk : Nat))
 refine HR.cond I (fun h7 => ?_) (fun h7 => ?_)
 ·have h7 : d.parent = f.dst := eq_of_beq h7
  rw [if_pos h7] at hZ
  repeat' (first | refine zh ?_ | intro (bk : Nat))
  refine HR.ret Tryz.func31 I [_] (fun w hw => ⟨⟨_, rfl, loadVarR hw 3 I I I I rfl⟩, trivial⟩) ?_
  intro w' hw
  obtain ⟨f1, f2⟩ := fin Z (by rw [hZ]) w' (hw.pick [4, 5, 6, 0, 7, 8, 9] I I)
  exact ⟨(_, _), by rw [hZ]; rfl, f1, f2⟩
 ·have h7 : ¬ d.parent = f.dst := by have h7 : (d.parent == f.dst) = false := h7; simpa using h7
  rw [if_neg h7] at hZ
  repeat' (first | refine zh ?_ | intro (bk : Nat))
  refine HR.ret Tryz.func31 I [_] (fun w hw => ⟨⟨_, rfl, loadVarR hw 3 I I I I rfl⟩, trivial⟩) ?_
  intro w' hw
  obtain ⟨f1, f2⟩ := fin Z (by rw [hZ]) w' (hw.pick [4, 5, 6, 0, 7, 8, 9] I I)
  exact ⟨(_, _), by rw [hZ]; rfl, f1, f2⟩
end Go.Proofs.YtgdgclmkpoaagaaGreat
namespace Go.Proofs.YtgdgclmkpoaagaaGreat
open Go.GX Go.RowKit
attribute [local irreducible] Calls Run RunL RunQ RunD HR HL HD blkC ownC Rd
open Nd
theorem presult_any (V : NV) (n : Nd) (f : Fr) (ok : Bool) (w : World) (h : OkN w V n) (hs : SmN n) :
  Calls Tryz.prog 30 #[.agg ⟨ndC V n⟩, .agg ⟨frC f⟩, .bool ok] w fun e w' => ∃ x : NV × List Chunk, e = .returned (.agg ⟨ndC x.1 (result n f ok)⟩) ∧ Own x.1 x.2 (result n f ok) ∧ Sat (base w) [groupC x.2] w' :=
 (sresult_any V n f ok w h hs).mono fun e w' ⟨V', h1, h2, h3⟩ => ⟨(V', ndH V' _), h1, h2.own, sat_grp h3⟩
theorem result_ptsm {n : Nd} {f : Fr} {ok : Bool} (h : PtSm n.parts) : PtSm (result n f ok).parts := by
 unfold result
 simp only
 split
 ·exact h
 ·split
  ·rw [giveUp_parts]; split <;> exact h
  ·split <;> exact h
end Go.Proofs.YtgdgclmkpoaagaaGreat
namespace Go.Proofs.YtgdgclmkpoaagaaGreat
open Go.GX Go.RowKit
attribute [local irreducible] Calls Run RunL RunQ RunD HR HL HD blkC ownC Rd
open Nd
theorem nodeResults_any (V : NV) (n : Nd) (f : Fr) (ok : Bool) (w : World) (h : OkN w V n) (hw0 : WfN n) (hfl : f.da.length ≤ 9223372036854775807) :
  Calls Tryz.prog 8 #[.agg ⟨ndC V n⟩, .agg ⟨frC f⟩, .bool ok] w fun e w' => e = .returned (.bool true) ∧ Below w.heap.size w w' := by
 refine calls_hr Tryz.func8 I (Nat.le_of_ble_eq_true I) ?_
 refine HR.sub (σ' := [(0, .agg ⟨ndC V n⟩), (1, .agg ⟨frC f⟩), (2, .bool ok)]) ⟨I, I, I, trivial⟩ ?_
 refine HR.ctl I ?_
 refine HR.region ?_
 refine HL.box I I ?_
 intro b3
 refine HL.box I I ?_
 intro b4
 repeat' (first | refine zh ?_ | intro (bk : Nat))
 refine HL.callX (r := fun b : Bool => .bool b) (Q := fun b => b = false → FitN n) (G := fun _ => []) fn12 I I (fun w1 hw1 => large_any V n w1 (h.ext hw1.belowB) hw0) ?_
 intro b hb
 cases b with
 | true =>
  repeat' (first | refine zh ?_ | refine HL.callB fn13 I I (fun w1 _ => awake_any w1) ?_ | intro (bk : Nat))
  refine HR.ret Tryz.func8 I [_] (fun _ _ => ⟨I, trivial⟩) ?_
  exact fun w' hw => ⟨rfl, hw.belowB⟩
 | false =>
 have hf := hb I
 have hs := hf.sm' hw0
 repeat' (first | refine zh ?_ | refine HL.callB fn17 I I (fun w1 _ => long_any f w1 hfl) ?_ | intro (bk : Nat))
 refine HR.cond I (fun h1 => ?_) (fun h1 => ?_)
 ·repeat' (first | refine zh ?_ | refine HL.callB fn13 I I (fun w1 _ => awake_any w1) ?_ | intro (bk : Nat))
  refine HR.ret Tryz.func8 I [_] (fun _ _ => ⟨I, trivial⟩) ?_
  exact fun w' hw => ⟨rfl, hw.belowB⟩
 have hbg := (ord_sm (result_good n f ok).ord (result_ptsm (f := f) (ok := ok) hs.pt)).bg
 refine HR.ctl I ?_
 refine HR.regionD [(0, true), (1, true), (2, true), (4, true), (5, true), (6, true), (3, false), (7, false), (8, false), (9, true), (10, false), (11, true), (12, true)] [0, 1] I I hmix (by kernel_rfl) ?_
 repeat' (first | refine zd ?_ | fail)
 refine HD.one I ?_
 refine HL.callX (r := fun x : NV × List Chunk => .agg ⟨ndC x.1 (result n f ok)⟩) (Q := fun x => Own x.1 x.2 (result n f ok)) (G := fun x => [groupC x.2]) fn30 I I (fun w1 hw1 => presult_any V n f ok w1 (h.ext hw1.belowB) hs) ?_
 rintro ⟨V1, G1⟩ h2
 refine HL.back [1, 2] I I ?_
 refine HD.one I ?_
 refine HL.callX (r := fun x : NV × List Chunk => .agg ⟨ndC x.1 (result n f ok)⟩) (Q := fun x => Imp V n x.1 x.2 (result n f ok)) (G := fun x => [groupC x.2]) fn31 I I (fun w1 hw1 => rresult_any V n f ok w1 (h.ext hw1.belowB) hs hw0.tr) ?_
 rintro ⟨V2, G2⟩ h3
 refine HL.back [2, 3] I I ?_
 refine HD.one I ?_
 refine HL.callB (r := .bool true) fn16 I I (fun w1 hw1 => same17_any V1 V2 (result n f ok) w1 (h2 w1 (Sat.grp 1 hw1 I)) (h3 w1 (h.ext hw1.belowB) (Sat.grp 0 hw1 I)) hbg) ?_
 refine HL.back [2, 3] I I ?_
 repeat' (first | refine zd ?_ | fail)
 refine HD.one I ?_
 refine HL.callB fn13 I I (fun w1 _ => awake_any w1) ?_
 refine HL.back [2, 3] I I ?_
 repeat' (first | refine zd ?_ | fail)
 refine HD.nil ?_
 repeat' (first | refine zh ?_ | intro (bk : Nat))
 refine HR.ret Tryz.func8 I [_] (fun _ _ => ⟨I, trivial⟩) ?_
 exact fun w' hw => ⟨rfl, hw.belowB⟩
end Go.Proofs.YtgdgclmkpoaagaaGreat
namespace Go.Proofs.YtgdgclmkpoaagaaGreat
open Go.GX Go.RowKit
attribute [local irreducible] Calls Run RunL RunQ RunD HR HL HD blkC ownC Rd
open Nd
variable {H : Type} {enc : TypeId × Value → H} {W : World}
theorem nodeResults.nodeResults_any (a : NdA) (f : Fr) (ok : Bool) (w : World) (g : NdOk w a) (hf : f.da.length ≤ 9223372036854775807) :
  Calls Tryz.prog 8 #[.agg ⟨ndE a⟩, .agg ⟨frC f⟩, .bool ok] w fun e w' => e = .returned (.bool true) ∧ Below w.heap.size w w' := Proofs.YtgdgclmkpoaagaaGreat.nodeResults_any a.1 a.2 f ok w g.ok g.wf hf
end Go.Proofs.YtgdgclmkpoaagaaGreat
