/- A part of the proof: contracts of the program's functions. Conditions: none. -/
import Derived.Carry
import Derived.Deep.MidRow
import Derived.Deep.Quiet
import Derived.Laws.MakeOwn
import Derived.Laws.StructEq
import Derived.Lib.AppendStr
import Derived.Lib.OthersKept
import Derived.MapKept
import Derived.Orders
import Derived.OrdersHeld
import Derived.StillTail
import Derived.WalkKit
import Derived.WalkLawsBesides
import Derived.WalkSpells
import Derived.Test.YtgfdoognildoeaaGreatMB1
set_option linter.unusedVariables false
set_option linter.unusedSectionVars false
set_option linter.unusedSimpArgs false
set_option maxRecDepth 100000
set_option maxHeartbeats 4000000
namespace Go.GX
open Go.RowKit
theorem Below.seq {w w1 w2 : World} (h1 : Below w.heap.size w w1) (h2 : Below w1.heap.size w1 w2) : Below w.heap.size w w2 := h1.trans (h2.mono h1.size)
def planB (ops : Array Oper) : List (Nat × Bool) → Array Bool → Bool
 | [], listed => (Region.ready .any ops listed).isEmpty
 | (i, true) :: p, listed => (Region.ready .any ops listed).contains i && Region.free .any ops listed i && planB ops p (listed.setIfInBounds i true)
 | (i, false) :: p, listed => decide (Region.ready .any ops listed = [i]) && planB ops p (listed.setIfInBounds i true)
def planOk (ops : Array Oper) (p : List (Nat × Bool)) : Bool := Region.noSelect ops && Nat.beq p.length ops.size && planB ops p (Array.replicate ops.size false)
section
variable {P : Program} {S : World → Prop}
def QN (K : Act → World → Prop) : Exit → Act → World → Prop := fun e a w => e = .normal ∧ K a w
def wpPlan (P : Program) (ops : Array Oper) (S : World → Prop) (K : Act → World → Prop) : List (Nat × Bool) → Act → World → Prop
 | [], a, w => K a w
 | (i, true) :: p, a, w => ∃ o v, ops[i]? = some o ∧ YieldsIf P ops S o v a ∧ wpPlan P ops S K p (a.put o.dst v) w
 | (i, false) :: p, a, w => wpOp P ops (QN K) i (fun a' w' => S w' ∧ wpPlan P ops S K p a' w') a w
theorem wpAnyH_of_plan {ops : Array Oper} {K : Act → World → Prop} (hn : Region.noSelect ops = true) : ∀ (p : List (Nat × Bool)) (listed : Array Bool) (a : Act) (w : World), S w →
  planB ops p listed = true → wpPlan P ops S K p a w → wpAnyH P .any ops (QN K) S p.length listed a w
 | [], listed, a, w, hS, hB, h => ⟨by simpa [planB] using hB, rfl, h⟩
 | (i, true) :: p, listed, a, w, hS, hB, h => by
  obtain ⟨o, v, ho, hy, h⟩ := h
  simp only [planB, Bool.and_eq_true] at hB
  exact wpAnyH_take ho hn hB.1.2 hB.1.1 (fun c a w h => absurd h.1 (by nofun)) hy hS (wpAnyH_of_plan hn p _ _ _ hS hB.2 h)
 | (i, false) :: p, listed, a, w, hS, hB, h => by
  simp only [planB, Bool.and_eq_true, decide_eq_true_eq] at hB
  refine wpAnyH_all hB.1 (by simp) fun j hj => ?_
  have : j = i := by simpa using hj
  subst this
  exact wpOp_mono (fun a' w' h' => ⟨h'.1, wpAnyH_of_plan hn p _ _ _ h'.1 hB.2 h'.2⟩) h
def RunD (P : Program) (N : Nat) (S : World → Prop) (ops : List Oper) (p : List (Nat × Bool)) (σ : Store) (w : World) (K : Act → World → Prop) : Prop :=
 S w → ∀ a, Agr N σ a → wpPlan P ops.toArray S K p a w
variable {f : FuncId} {N : Nat} {k : List Item} {σ : Store} {w w' : World} {R : Ending → World → Prop} {ops l : List Oper} {o : Oper} {K : Act → World → Prop} {p : List (Nat × Bool)} {i : Nat}
 {v : Value} {d : Nat} {op : Op} {ty : TypeId} {pos : String} {af : Array Edge} {gd : Option (Nat × Bool)}
theorem Run.regionDS (p : List (Nat × Bool)) (S : World → Prop) {id : Nat} (hm : P.follows .mixedOrders = true) (hB : planOk ops.toArray p = true)
  (h : ∀ w1, Below w.heap.size w w1 → w1.heap = w.heap → S w1 ∧ RunD P N S ops p σ w1 (CRun P f k R)) : Run P f N (.code (.region id ops.toArray true) :: k) σ w R := by
 intro a ha
 refine CRun.of_wp (wp_region_held (S := S) hm ?_)
 simp only [planOk, Bool.and_eq_true] at hB
 rw [show ops.toArray.size = p.length from (Nat.eq_of_beq_eq_true hB.1.2).symm]
 obtain ⟨hS, h⟩ := h { w with drawn := w.drawn + 1 } ⟨rfl, rfl, rfl, Nat.le_refl _, fun _ _ => rfl⟩ rfl
 have h2 := hB.2
 rw [show ops.toArray.size = p.length from (Nat.eq_of_beq_eq_true hB.1.2).symm] at h2
 exact wpAnyH_of_plan hB.1.1 p _ _ _ hS h2 (h hS a ha)
theorem RunD.nil (h : Run P f N k σ w R) : RunD P N S ops [] σ w (CRun P f k R) := fun _ a ha => h a ha
theorem RunD.rd (ho : ops[i]? = some ⟨some d, op, ty, pos, af, gd⟩) (hs : stat N ops ⟨some d, op, ty, pos, af, gd⟩ σ = true)
  (hr : ∀ w, S w → (execOp (evO σ) ⟨some d, op, ty, pos, af, gd⟩).run P w = .ok (.value v) w) (h : RunD P N S ops p ((d, v) :: σ) w K) : RunD P N S ops ((i, true) :: p) σ w K := by
 intro hS a ha
 obtain ⟨h1, h2, h3, h4⟩ := stat_spec hs
 refine ⟨_, v, by simpa using ho, .inl ⟨wantedS_wanted ha h4, fun w hw => ?_⟩, h hS _ (ha.put (some d) v h3)⟩
 rw [evalAt ha _ h1 h2]
 exact hr w hw
theorem RunD.ev (ho : ops[i]? = some ⟨some d, op, ty, pos, af, gd⟩) (hs : stat N ops ⟨some d, op, ty, pos, af, gd⟩ σ = true) (he : evOp P σ op = some v) (h : RunD P N S ops p ((d, v) :: σ) w K) :
  RunD P N S ops ((i, true) :: p) σ w K := RunD.rd ho hs (fun _ _ => evOp_run he) h
theorem RunD.evc {c : Prop} (ho : ops[i]? = some ⟨some d, op, ty, pos, af, gd⟩) (hs : stat N ops ⟨some d, op, ty, pos, af, gd⟩ σ = true) (he : evC P σ op = some (v, c)) (hc : c) (h : RunD P N S ops p ((d, v) :: σ) w K) :
  RunD P N S ops ((i, true) :: p) σ w K := RunD.rd ho hs (fun _ _ => evC_run he hc) h
theorem RunD.skip (ho : ops[i]? = some ⟨some d, op, ty, pos, af, gd⟩) (hw : wantedS ops gd σ = some false) (hd : dstOk N (some d) = true) (h : RunD P N S ops p ((d, undef) :: σ) w K) : RunD P N S ops ((i, true) :: p) σ w K := by
 intro hS a ha
 exact ⟨_, undef, by simpa using ho, .inr ⟨wantedS_wanted ha (o := ⟨some d, op, ty, pos, af, gd⟩) hw, rfl⟩, h hS _ (ha.put (some d) undef hd)⟩
theorem RunD.skipO (ho : ops[i]? = some ⟨some d, op, ty, pos, af, gd⟩) (hw : wantedS ops gd σ = some false) (hd : dstOk N (some d) = true) (h : RunD P N S ops p ((d, undef) :: σ) w K) : RunD P N S ops ((i, false) :: p) σ w K := by
 intro hS a ha
 have hw' := wantedS_wanted ha (o := ⟨some d, op, ty, pos, af, gd⟩) hw
 simp only [wpPlan, wpOp, show ops.toArray[i]? = some _ by simpa using ho, hw', Bool.false_eq_true, if_false]
 exact ⟨hS, h hS _ (ha.put (some d) undef hd)⟩
def DK (P : Program) (S : World → Prop) (ops : List Oper) (p : List (Nat × Bool)) (K : Act → World → Prop) : Act → World → Prop := fun a' w' => S w' ∧ wpPlan P ops.toArray S K p a' w'
theorem QN_noOut {K : Act → World → Prop} (h : LetsOut (QN K)) : False := by
 obtain ⟨a, w, h, _⟩ := h
 cases h
theorem wp_QN {K' K2 : Act → World → Prop} {a : Act} {next : Act → World → Prop} (h : o.wp P a w next (QN K')) : o.wp P a w next (QN K2) := by
 unfold Oper.wp at *
 generalize (execOp a.eval o).run P w = r at *
 cases r with
 | ok n w' =>
  cases n <;> simp only [Oper.upon] at h ⊢
  case value u => exact h
  case skip => exact h
  case defer d => exact h
  case enter f args =>
   refine Calls.mono h fun e w'' he => ?_
   cases e with
   | returned u => exact he
   | panicked c => exact absurd he.1 (by nofun)
   | outgrown => exact (QN_noOut he).elim
  case row row args => exact h
 | halt x w' =>
  cases x <;> simp only [Oper.upon] at h ⊢
  case panic u => exact absurd h.1 (by nofun)
theorem RunD.one (ho : ops[i]? = some o) (h : RunL P N ops [o] σ w (DK P S ops p K)) : RunD P N S ops ((i, false) :: p) σ w K := by
 intro hS a ha
 replace h := h a ha
 simp only [wpPlan, wpOp, show ops.toArray[i]? = some o by simpa using ho]
 unfold wpList at h
 split
 ·rename_i hw
  rw [if_pos hw] at h
  rcases h with h | h
  ·left
   have h2 : o.wp P a w (fun a' w' => (QN (DK P S ops p K)) .normal a' w') (QN (DK P S ops p K)) := h
   exact Oper.wp_mono (fun a' w' h' => h'.2) (wp_QN h2)
  ·exact (QN_noOut (K := DK P S ops p K) h.2).elim
 ·rename_i hw
  rw [if_neg hw] at h
  exact h.2
theorem RunL.back (hS : S w) (h : RunD P N S ops p σ w K) : RunL P N ops [] σ w (DK P S ops p K) := fun a ha => wpList_nil ⟨rfl, hS, h hS a ha⟩
end
end Go.GX
namespace Go.GX
open Go.RowKit
section
variable {P : Program} {N : Nat} {σ : Store} {w : World} {ops l : List Oper} {K : Act → World → Prop}
theorem RunL.setV (t : Nat) {v v' : Value} (hl : look σ t = some v) (e : v = v') (h : RunL P N ops l ((t, v') :: σ) w K) : RunL P N ops l σ w K :=
 fun a ha => h a (ha.weaken fun t' u hu => by
  rw [look_cons] at hu
  split at hu
  ·rename_i e'; subst e'; cases hu; rw [← e]; exact hl
  ·exact hu)
theorem RunL.setB (t : Nat) {b : Bool} (c : Bool) (hl : look σ t = some (.bool b)) (e : b = c) (h : RunL P N ops l ((t, .bool c) :: σ) w K) : RunL P N ops l σ w K :=
 RunL.setV t hl (by rw [e]) h
end
end Go.GX
namespace Go.GX
open Go.RowKit
end Go.GX
namespace Go.GX
open Go.RowKit
section
variable {P : Program} {N : Nat} {σ : Store} {w w' : World} {ops l : List Oper} {K : Act → World → Prop} {KQ : Act → Prop} {C : World → Prop} {d : Nat} {ty : TypeId} {pos : String} {af : Array Edge} {gd : Option (Nat × Bool)} {v u : Value} {n : Nat} {t e : TypeId} {cs : List Value}
theorem ex_loadS {d : Option Tmp} {x : Operand} {b o : Nat} {td : TypeDesc} (hc : w.rangeAt b o cs) (hT : P.underlying t = some td) (hr : td.isRow = true) (hi : (P.info? t).map (·.size) = some cs.length) (hx : lookO σ x = some (.pointer (some ⟨b, o, none⟩))) :
  (execOp (evO σ) ⟨d, .load t x, ty, pos, af, gd⟩).run P w = .ok (.value (.agg cs.toArray)) w := by
 simp [execOp, evO_of_lookO hx, run_loadAt_mid w b o t cs td hc hT hr hi]
theorem IsSl.range {xs : List Value} {m k : Nat} (hv : IsSl w v cs n) (hxs : xs ≠ []) (hc : ∀ j u, xs[j]? = some u → cs[k + j]? = some u) : ∃ b o, elemPtr v k = .pointer (some ⟨b, o, none⟩) ∧ w.rangeAt b o xs := by
 rcases hv with ⟨_, _, rfl⟩ | ⟨b, off, cap, rfl, hcell⟩
 ·cases xs with
  | nil => exact absurd I hxs
  | cons a r => have := hc 0 a rfl; simp at this
 ·exact ⟨b, off + k, rfl, fun j u hu => by have := hcell _ _ (hc j u hu); rwa [← Nat.add_assoc] at this⟩
end
end Go.GX
namespace Go.GX
open Go.RowKit
def fndL {K : Type} [DecidableEq K] (k : K) : List (K × Value) → Nat → Option (Nat × Value)
 | [], _ => none
 | (a, v) :: m, i => if k = a then some (i, v) else fndL k m (i + 1)
structure KeyK (P : Program) (kt : TypeId) {K : Type} [DecidableEq K] (enc : K → Value) : Prop where
 find : ∀ (k : K) (m : List (K × Value)) (es : List MapEntry) (w : World), es.map (fun e => (e.key, e.val)) = m.map (fun p => (enc p.1, p.2)) → (Instr.findKey kt (enc k) es).run P w = .ok (fndL k m 0) w
 check : ∀ (e : Bool) (k : K) (w : World), (Instr.checkKey e 10000 kt (enc k)).run P w = .ok () w
 stays : ∀ (k : K) (w : World), (Instr.keyThatStays (enc k) (enc k)).run P w = .ok (enc k) w
 inj : ∀ a b : K, enc a = enc b → a = b
theorem findNow_int (k : Int) : ∀ (m : List (Int × Value)) (es : List MapEntry) (i : Nat), es.map (fun e => (e.key, e.val)) = m.map (fun p => (Value.int .i64 p.1, p.2)) → Instr.findNow (.int .i64) (.int .i64 k) es i = some (fndL k m i)
 | [], es, i, h => by
  have : es = [] := by simpa using h
  subst this; rfl
 | (a, v) :: m, [], i, h => by simp at h
 | (a, v) :: m, e :: es, i, h => by
  simp only [List.map_cons, List.cons.injEq, Prod.mk.injEq] at h
  obtain ⟨⟨h1, h2⟩, h3⟩ := h
  unfold Instr.findNow fndL
  rw [h1]
  simp only [Instr.sameNow]
  by_cases e : k = a
  ·subst e; simp [h2]
  ·have e2 : (k == a) = false := by simpa using e
   rw [e2, if_neg e]
   simp only [if_true]
   exact findNow_int k m es (i + 1) h3
theorem key_int {P : Program} {kt : TypeId} (ht : P.underlying kt = some (.int .i64)) : KeyK P kt (fun z : Int => Value.int .i64 z) := by
 have hk : ∀ k, MapKept.IsKey (.int .i64) (Value.int .i64 k) := fun k => by simp [MapKept.IsKey]
 exact ⟨fun k m es w h => MapKept.run_findKey ht (findNow_int k m es 0 h), fun e k w => MapKept.run_checkKey ht (hk k) e 9999, fun k w => MapKept.run_keyThatStays (hk k), fun a b h => by simpa using h⟩
end Go.GX
namespace Go.GX
open Go.RowKit
section
variable {K : Type} [DecidableEq K] {P : Program} {kt : TypeId} {enc : K → Value} {w w' : World} {b : Nat} {m : List (K × Value)}
def MapAt (enc : K → Value) (w : World) (b : Nat) (m : List (K × Value)) : Prop :=
 ∃ es clock, w.heap[b]? = some (.map es clock) ∧ es.toList.map (fun e => (e.key, e.val)) = m.map (fun p => (enc p.1, p.2)) ∧ MapKept.Stamped es clock
def getM (k : K) : List (K × Value) → Option Value
 | [] => none
 | (a, v) :: m => if k = a then some v else getM k m
theorem fndL_getM (k : K) : ∀ (m : List (K × Value)) (i : Nat), (fndL k m i).map (·.2) = getM k m
 | [], i => rfl
 | (a, v) :: m, i => by
  unfold fndL getM
  split
  ·rfl
  ·exact fndL_getM k m (i + 1)
end
end Go.GX
namespace Go.GX
open Go.RowKit
section
variable {K : Type} [DecidableEq K] {P : Program} {t kt et : TypeId} {enc : K → Value} {w w' : World} {b : Nat} {m : List (K × Value)} {z v : Value}
theorem run_lookupM (hK : KeyK P kt enc) (hm : P.underlying t = some (.map kt et)) (hz : ∀ w, (zeroValue et).run P w = .ok z w) (h : MapAt enc w b m) (k : K) (ok : Bool) :
  (Instr.lookup t (.map (some b)) (enc k) ok).run P w = .ok (if ok then .tuple #[(getM k m).getD z, .bool (getM k m).isSome] else (getM k m).getD z) w := by
 obtain ⟨es, clock, h1, h2, h3⟩ := h
 have hf := hK.find k m es.toList w h2
 have hg := fndL_getM k m 0
 unfold Instr.lookup
 simp only [Sem.run_bind, run_underlying hm, MapKept.run_getObj_map h1, hK.check, Result.andThen]
 cases hx : fndL k m 0 with
 | none =>
  rw [hx] at hg hf
  have hg' : getM k m = none := hg.symm
  rw [hg']
  cases ok <;> simp [hf, hz, Result.andThen]
 | some p =>
  rw [hx] at hg hf
  obtain ⟨i, u⟩ := p
  have hg' : getM k m = some u := hg.symm
  rw [hg']
  cases ok <;> simp [hf, Result.andThen]
end
end Go.GX
namespace Go.GX
open Go.RowKit
section
variable {K : Type} [DecidableEq K]
def setM (k : K) (v : Value) : List (K × Value) → List (K × Value)
 | [] => [(k, v)]
 | (a, u) :: m => if k = a then (a, v) :: m else (a, u) :: setM k v m
def delM (k : K) : List (K × Value) → List (K × Value)
 | [] => []
 | (a, u) :: m => if k = a then m else (a, u) :: delM k m
theorem fndL_shift (k : K) : ∀ (m : List (K × Value)) (i : Nat), fndL k m i = (fndL k m 0).map (fun p => (p.1 + i, p.2))
 | [], i => rfl
 | (a, v) :: m, i => by
  unfold fndL
  split
  ·simp
  ·rw [fndL_shift k m (i + 1), fndL_shift k m (0 + 1)]
   cases fndL k m 0 with
   | none => rfl
   | some p => simp; omega
theorem setM_none {k : K} {v : Value} : ∀ {m : List (K × Value)}, fndL k m 0 = none → setM k v m = m ++ [(k, v)]
 | [], _ => rfl
 | (a, u) :: m, h => by
  unfold fndL at h
  split at h
  ·cases h
  ·rename_i hk
   rw [fndL_shift] at h
   have h' : fndL k m 0 = none := by cases hx : fndL k m 0 with
    | none => rfl
    | some p => rw [hx] at h; cases h
   unfold setM
   rw [if_neg hk, setM_none h']; rfl
theorem setM_some {k : K} {v : Value} : ∀ {m : List (K × Value)} {i : Nat} {u : Value}, fndL k m 0 = some (i, u) → setM k v m = m.modify i (fun p => (p.1, v)) ∧ m[i]? = some (k, u)
 | [], i, u, h => by cases h
 | (a, w) :: m, i, u, h => by
  unfold fndL at h
  split at h
  ·rename_i hk
   cases h
   subst hk
   exact ⟨by unfold setM; rw [if_pos rfl]; rfl, rfl⟩
  ·rename_i hk
   rw [fndL_shift] at h
   cases hx : fndL k m 0 with
   | none => rw [hx] at h; cases h
   | some p =>
    rw [hx] at h
    obtain ⟨j, u'⟩ := p
    simp only [Option.map_some, Option.some.injEq, Prod.mk.injEq] at h
    obtain ⟨rfl, rfl⟩ := h
    obtain ⟨h1, h2⟩ := setM_some (v := v) hx
    refine ⟨?_, by simpa using h2⟩
    unfold setM
    rw [if_neg hk, h1]; rfl
end
end Go.GX
namespace Go.GX
open Go.RowKit
section
variable {K : Type} [DecidableEq K] {P : Program} {t kt et : TypeId} {enc : K → Value} {w : World} {b : Nat} {m : List (K × Value)}
theorem fndL_none_ne {k : K} : ∀ {m : List (K × Value)}, fndL k m 0 = none → ∀ p ∈ m, p.1 ≠ k
 | [], _, p, hp => by cases hp
 | (a, u) :: m, h, p, hp => by
  unfold fndL at h
  split at h
  ·cases h
  ·rename_i hk
   rw [fndL_shift] at h
   have h' : fndL k m 0 = none := by cases hx : fndL k m 0 with
    | none => rfl
    | some q => rw [hx] at h; cases h
   rcases List.mem_cons.1 hp with rfl | hp
   ·exact fun e => hk e.symm
   ·exact fndL_none_ne h' p hp
theorem run_updateM (hK : KeyK P kt enc) (hm : P.underlying t = some (.map kt et)) (h : MapAt enc w b m) (k : K) (v : Value) :
  ∃ w', (Instr.mapUpdate t (.map (some b)) (enc k) v).run P w = .ok () w' ∧ MapAt enc w' b (setM k v m) ∧ w.grownBy w' (some b) ∧ w'.heap.size = w.heap.size := by
 obtain ⟨es, clock, h1, h2, h3⟩ := h
 have hf := hK.find k m es.toList w h2
 have grown : ∀ o, w.grownBy { w with heap := w.heap.setIfInBounds b o } (some b) := fun o => ⟨rfl, rfl, rfl, by simp, fun r hr hne => (MapKept.heap_set h1).2 r (fun e => hne (by rw [e]))⟩
 cases hx : fndL k m 0 with
 | none =>
  rw [hx] at hf
  refine ⟨{ w with heap := w.heap.setIfInBounds b (.map (es.push { key := enc k, val := v, born := clock }) (clock + 1)) }, ?_, ⟨_, _, (MapKept.heap_set h1).1, ?_, MapKept.stamped_push h3 ?_⟩, grown _, by simp⟩
  ·simp [Instr.mapUpdate, run_underlying hm, MapKept.run_getObj_map h1, hK.check, hf, MapKept.run_setObj_map _ h1, Result.andThen]
  ·rw [setM_none hx]; simp [h2]
  ·intro x hx' e
   have hmem : (x.key, x.val) ∈ es.toList.map (fun e => (e.key, e.val)) := List.mem_map.2 ⟨x, hx', rfl⟩
   rw [h2] at hmem
   obtain ⟨p, hp, he⟩ := List.mem_map.1 hmem
   simp only [Prod.mk.injEq] at he
   exact fndL_none_ne hx p hp (hK.inj _ _ (he.1.trans e))
 | some p =>
  obtain ⟨i, u⟩ := p
  rw [hx] at hf
  obtain ⟨g1, g2⟩ := setM_some (v := v) hx
  have hi : (es.toList.map (fun e => (e.key, e.val)))[i]? = some (enc k, u) := by rw [h2, List.getElem?_map, g2]; rfl
  rw [List.getElem?_map] at hi
  cases he : es.toList[i]? with
  | none => rw [he] at hi; cases hi
  | some e0 =>
   rw [he] at hi
   simp only [Option.map_some, Option.some.injEq, Prod.mk.injEq] at hi
   have hj : es[i]? = some e0 := by simpa using he
   refine ⟨{ w with heap := w.heap.setIfInBounds b (.map (es.modify i fun e => { e with key := enc k, val := v }) clock) }, ?_, ⟨_, _, (MapKept.heap_set h1).1, ?_, MapKept.stamped_modify h3 _ _ (fun _ _ => rfl) (fun e' _ he' => by rw [hj] at he'; cases he'; exact hi.1.symm)⟩, grown _, by simp⟩
   ·simp [Instr.mapUpdate, run_underlying hm, MapKept.run_getObj_map h1, hK.check, hf, hj, hi.1, hK.stays, MapKept.run_setObj_map _ h1, Result.andThen]
   ·rw [g1]
    apply List.ext_getElem?
    intro j
    have h2j : (es.toList.map (fun e => (e.key, e.val)))[j]? = (m.map (fun p => (enc p.1, p.2)))[j]? := by rw [h2]
    simp only [List.getElem?_map, Array.getElem?_toList, Array.getElem?_modify, List.getElem?_modify] at h2j ⊢
    by_cases hij : i = j
    ·subst hij
     rw [hj, g2]; simp
    ·simp only [hij, if_false]
     simpa using h2j
end
end Go.GX
namespace Go.GX
open Go.RowKit
section
variable {K : Type} [DecidableEq K] {P : Program} {t kt et : TypeId} {enc : K → Value} {w : World} {b : Nat} {m : List (K × Value)} {z v : Value}
 {N : Nat} {σ : Store} {ops l : List Oper} {KK : Act → World → Prop} {d : Nat} {ty : TypeId} {pos : String} {af : Array Edge} {gd : Option (Nat × Bool)}
theorem RunL.makeM (enc : K → Value) (hs : stat N ops ⟨some d, .makeMap t none, ty, pos, af, gd⟩ σ = true)
  (h : ∀ w', MapAt enc w' w.heap.size [] → Below w.heap.size w w' → RunL P N ops l ((d, .map (some w.heap.size)) :: σ) w' KK) : RunL P N ops (⟨some d, .makeMap t none, ty, pos, af, gd⟩ :: l) σ w KK := by
 refine RunL.op (w' := w.alloc (.map #[] 0)) hs ?_ (h _ ⟨#[], 0, (MapKept.heap_alloc w _).1, rfl, MapKept.stamped_empty 0⟩ ((Below.refl _ _).alloc (Nat.le_refl _) _))
 simp [execOp, run_makeMap]
end
end Go.GX
namespace Go.GX
open Go.RowKit
structure Chunk where
 foot : Nat → Prop
 p : World → Prop
 loc : ∀ w w' : World, (∀ k, foot k → w'.heap[k]? = w.heap[k]?) → p w → p w'
 lt : ∀ w, p w → ∀ k, foot k → k < w.heap.size
structure Base where
 w : World
 X : Nat → Prop
def AllP (B : Base) (w : World) : List Chunk → Prop
 | [] => True
 | c :: H => c.p w ∧ (∀ k, c.foot k → B.w.heap.size ≤ k ∨ B.X k) ∧ (∀ d ∈ H, ∀ k, c.foot k → ¬ d.foot k) ∧ AllP B w H
structure Sat (B : Base) (H : List Chunk) (w : World) : Prop where
 os : w.os = B.w.os
 tape : w.tape = B.w.tape
 output : w.output = B.w.output
 size : B.w.heap.size ≤ w.heap.size
 block : ∀ k, k < B.w.heap.size → ¬ B.X k → w.heap[k]? = B.w.heap[k]?
 all : AllP B w H
abbrev base (w : World) : Base := ⟨w, fun _ => False⟩
def feet (H : List Chunk) (k : Nat) : Prop := ∃ c ∈ H, c.foot k
theorem AllP.mem {B : Base} {w : World} : ∀ {H : List Chunk}, AllP B w H → ∀ c ∈ H, c.p w ∧ (∀ k, c.foot k → B.w.heap.size ≤ k ∨ B.X k)
 | [], _, c, hc => by cases hc
 | d :: H, h, c, hc => by
  obtain ⟨h1, h2, h3, h4⟩ := h
  rcases List.mem_cons.1 hc with rfl | hc
  ·exact ⟨h1, h2⟩
  ·exact AllP.mem h4 c hc
theorem AllP.grow {B : Base} {w w' : World} (hg : ∀ k, k < w.heap.size → w'.heap[k]? = w.heap[k]?) : ∀ {H : List Chunk}, AllP B w H → AllP B w' H
 | [], _ => trivial
 | c :: H, h => ⟨c.loc w w' (fun k hk => hg k (c.lt w h.1 k hk)) h.1, h.2.1, h.2.2.1, AllP.grow hg h.2.2.2⟩
theorem Sat.lt {B : Base} {H : List Chunk} {w : World} (h : Sat B H w) {c : Chunk} (hc : c ∈ H) : ∀ k, c.foot k → k < w.heap.size := c.lt w (h.all.mem c hc).1
theorem Sat.grow {B : Base} {H : List Chunk} {w w' : World} (h : Sat B H w) (hb : Below w.heap.size w w') : Sat B H w' :=
 ⟨hb.os.trans h.os, hb.tape.trans h.tape, hb.output.trans h.output, Nat.le_trans h.size hb.size, fun k hk hx => (hb.block k (Nat.lt_of_lt_of_le hk h.size)).trans (h.block k hk hx), h.all.grow hb.block⟩
theorem Sat.push {B : Base} {H : List Chunk} {w w' : World} (h : Sat B H w) (hb : Below w.heap.size w w') {c : Chunk} (hc : c.p w') (hf : ∀ k, c.foot k → w.heap.size ≤ k) : Sat B (c :: H) w' := by
 have h' := h.grow hb
 refine ⟨h'.os, h'.tape, h'.output, h'.size, h'.block, hc, fun k hk => .inl (Nat.le_trans h.size (hf k hk)), fun d hd k hk hk' => ?_, h'.all⟩
 have := h.lt hd k hk'
 have := hf k hk
 omega
def nthC : List Chunk → Nat → Option Chunk
 | [], _ => none
 | c :: _, 0 => some c
 | _ :: r, n + 1 => nthC r n
def setC : List Chunk → Nat → Chunk → List Chunk
 | [], _, _ => []
 | _ :: r, 0, c => c :: r
 | d :: r, n + 1, c => d :: setC r n c
theorem nthC_mem : ∀ {H : List Chunk} {i : Nat} {c : Chunk}, nthC H i = some c → c ∈ H
 | [], _, _, h => by cases h
 | d :: r, 0, c, h => by cases h; exact List.mem_cons_self ..
 | d :: r, n + 1, c, h => List.mem_cons_of_mem _ (nthC_mem (H := r) h)
theorem Sat.nth {B : Base} {H : List Chunk} {w : World} (h : Sat B H w) {i : Nat} {c : Chunk} (hc : nthC H i = some c) : c.p w := (h.all.mem c (nthC_mem hc)).1
theorem Sat.nthX {B : Base} {H : List Chunk} {w : World} (h : Sat B H w) {i : Nat} {c : Chunk} (hc : nthC H i = some c) : ∀ k, c.foot k → B.w.heap.size ≤ k ∨ B.X k := (h.all.mem c (nthC_mem hc)).2
theorem setC_mem : ∀ {H : List Chunk} {i : Nat} {c d : Chunk}, d ∈ setC H i c → d = c ∨ d ∈ H
 | [], _, _, _, h => by cases h
 | e :: r, 0, c, d, h => by
  rcases List.mem_cons.1 h with h | h
  ·exact .inl h
  ·exact .inr (List.mem_cons_of_mem _ h)
 | e :: r, n + 1, c, d, h => by
  rcases List.mem_cons.1 h with h | h
  ·exact .inr (h ▸ List.mem_cons_self ..)
  ·rcases setC_mem (H := r) h with h | h
   ·exact .inl h
   ·exact .inr (List.mem_cons_of_mem _ h)
theorem AllP.set {B : Base} {w w' : World} {c c' : Chunk} (hsz : B.w.heap.size ≤ w.heap.size) (hg : ∀ k, k < w.heap.size → ¬ c.foot k → w'.heap[k]? = w.heap[k]?) (hc' : c'.p w') (hf : ∀ k, c'.foot k → c.foot k ∨ w.heap.size ≤ k) :
  ∀ {H : List Chunk} {i : Nat}, nthC H i = some c → AllP B w H → AllP B w' (setC H i c')
 | [], _, h, _ => by cases h
 | d :: r, 0, h, ha => by
  cases h
  obtain ⟨h1, h2, h3, h4⟩ := ha
  have keep : ∀ {r : List Chunk}, (∀ d ∈ r, ∀ k, c.foot k → ¬ d.foot k) → AllP B w r → AllP B w' r := by
   intro r
   induction r with
   | nil => intro _ _; trivial
   | cons d r ih =>
    intro h3 h4
    obtain ⟨g1, g2, g3, g4⟩ := h4
    exact ⟨d.loc w w' (fun k hk => hg k (d.lt w g1 k hk) (fun hk' => h3 d (List.mem_cons_self ..) k hk' hk)) g1, g2, g3, ih (fun d hd => h3 d (List.mem_cons_of_mem _ hd)) g4⟩
  refine ⟨hc', fun k hk => ?_, fun d hd k hk hk' => ?_, keep h3 h4⟩
  ·rcases hf k hk with h | h
   ·exact h2 k h
   ·exact .inl (Nat.le_trans hsz h)
  ·rcases hf k hk with h | h
   ·exact h3 d hd k h hk'
   ·have := d.lt w (h4.mem d hd).1 k hk'
    omega
 | d :: r, n + 1, h, ha => by
  obtain ⟨h1, h2, h3, h4⟩ := ha
  have hm := nthC_mem (H := r) h
  refine ⟨d.loc w w' (fun k hk => hg k (d.lt w h1 k hk) (fun hk' => h3 c hm k hk hk')) h1, h2, fun e he k hk hk' => ?_, AllP.set hsz hg hc' hf (H := r) h h4⟩
  rcases setC_mem he with rfl | he
  ·rcases hf k hk' with h' | h'
   ·exact h3 c hm k hk h'
   ·have := d.lt w h1 k hk
    omega
  ·exact h3 e he k hk hk'
theorem Sat.upd {B : Base} {H : List Chunk} {w w' : World} {c c' : Chunk} {i : Nat} (h : Sat B H w) (hi : nthC H i = some c) (h1 : w'.os = w.os) (h2 : w'.tape = w.tape) (h3 : w'.output = w.output) (h4 : w.heap.size ≤ w'.heap.size)
  (hg : ∀ k, k < w.heap.size → ¬ c.foot k → w'.heap[k]? = w.heap[k]?) (hc' : c'.p w') (hf : ∀ k, c'.foot k → c.foot k ∨ w.heap.size ≤ k) : Sat B (setC H i c') w' := by
 refine ⟨h1.trans h.os, h2.trans h.tape, h3.trans h.output, Nat.le_trans h.size h4, fun k hk hx => ?_, AllP.set h.size hg hc' hf hi h.all⟩
 rw [hg k (Nat.lt_of_lt_of_le hk h.size) (fun hk' => ?_)]
 ·exact h.block k hk hx
 ·rcases h.nthX hi k hk' with h' | h'
  ·omega
  ·exact hx h'
theorem Sat.updG {B : Base} {H : List Chunk} {w w' : World} {c c' : Chunk} {i : Nat} {r : Option Nat} (h : Sat B H w) (hi : nthC H i = some c) (hg : w.grownBy w' r) (hr : ∀ k, r = some k → c.foot k)
  (hc' : c'.p w') (hf : ∀ k, c'.foot k → c.foot k ∨ w.heap.size ≤ k) : Sat B (setC H i c') w' :=
 h.upd hi hg.os hg.tape hg.output hg.size (fun k hk hx => hg.block k hk (fun e => hx (hr k e.symm))) hc' hf
def pickC (H : List Chunk) : List Nat → Option (List Chunk)
 | [] => some []
 | i :: r => match nthC H i, pickC H r with
  | some c, some l => some (c :: l)
  | _, _ => none
def distinctN : List Nat → Bool
 | [] => true
 | i :: r => match natIn i r with
  | true => false
  | false => distinctN r
theorem AllP.apart {B : Base} {w : World} : ∀ {H : List Chunk} {i j : Nat} {c d : Chunk}, AllP B w H → nthC H i = some c → nthC H j = some d → i ≠ j → ∀ k, c.foot k → ¬ d.foot k
 | [], _, _, _, _, _, h, _, _ => by cases h
 | e :: r, 0, 0, c, d, ha, hi, hj, hne => absurd I hne
 | e :: r, 0, j + 1, c, d, ha, hi, hj, hne => by cases hi; exact ha.2.2.1 d (nthC_mem (H := r) hj)
 | e :: r, i + 1, 0, c, d, ha, hi, hj, hne => by cases hj; exact fun k hk hk' => ha.2.2.1 c (nthC_mem (H := r) hi) k hk' hk
 | e :: r, i + 1, j + 1, c, d, ha, hi, hj, hne => AllP.apart (H := r) ha.2.2.2 hi hj (fun e => hne (by rw [e]))
theorem natIn_of {x : Nat} : ∀ {l : List Nat}, x ∈ l → natIn x l = true
 | y :: l, h => by
  unfold natIn
  split
  ·rfl
  ·rename_i hb
   rcases List.mem_cons.1 h with rfl | h
   ·rw [Nat.beq_refl] at hb; cases hb
   ·exact natIn_of h
theorem pickC_spec {H : List Chunk} : ∀ {is : List Nat} {l : List Chunk}, pickC H is = some l → ∀ d ∈ l, ∃ j ∈ is, nthC H j = some d
 | [], l, h, d, hd => by cases h; cases hd
 | i :: is, l, h, d, hd => by
  unfold pickC at h
  split at h
  ·rename_i c l' hc hl
   cases h
   rcases List.mem_cons.1 hd with rfl | hd
   ·exact ⟨i, List.mem_cons_self .., hc⟩
   ·obtain ⟨j, hj, h⟩ := pickC_spec hl d hd
    exact ⟨j, List.mem_cons_of_mem _ hj, h⟩
  ·cases h
theorem AllP.pick {B : Base} {w : World} {H : List Chunk} (ha : AllP B w H) : ∀ {is : List Nat} {l : List Chunk}, pickC H is = some l → distinctN is = true → AllP B w l
 | [], l, h, _ => by cases h; trivial
 | i :: is, l, h, hd => by
  unfold pickC at h
  split at h
  ·rename_i c l' hc hl
   cases h
   unfold distinctN at hd
   split at hd
   ·cases hd
   ·rename_i hn
    have hm := ha.mem c (nthC_mem hc)
    refine ⟨hm.1, hm.2, fun d hd' k => ?_, AllP.pick ha hl hd⟩
    obtain ⟨j, hj, hjd⟩ := pickC_spec hl d hd'
    exact ha.apart hc hjd (fun e => by subst e; rw [natIn_of hj] at hn; cases hn) k
  ·cases h
theorem Sat.pick {B : Base} {H H' : List Chunk} {w : World} (is : List Nat) (h : Sat B H w) (hp : pickC H is = some H') (hd : distinctN is = true) : Sat B H' w :=
 ⟨h.os, h.tape, h.output, h.size, h.block, h.all.pick hp hd⟩
theorem Sat.as {B : Base} {H : List Chunk} {w : World} {c c' : Chunk} (i : Nat) (h : Sat B H w) (hi : nthC H i = some c) (hc' : c.p w → c'.p w) (hf : ∀ k, c'.foot k → c.foot k) : Sat B (setC H i c') w :=
 h.upd hi I I I (Nat.le_refl _) (fun _ _ _ => rfl) (hc' (h.nth hi)) (fun k hk => .inl (hf k hk))
theorem Sat.of_below {w w' : World} (h : Below w.heap.size w w') : Sat (base w) [] w' := ⟨h.os, h.tape, h.output, h.size, fun k hk _ => h.block k hk, trivial⟩
theorem Sat.below {B : Base} {H : List Chunk} {w : World} (h : Sat B H w) (hX : ∀ k, ¬ B.X k) : Below B.w.heap.size B.w w := ⟨h.os, h.tape, h.output, h.size, fun k hk => h.block k hk (hX k)⟩
theorem Sat.belowB {w0 : World} {H : List Chunk} {w : World} (h : Sat (base w0) H w) : Below w0.heap.size w0 w := h.below fun _ h => h
theorem Sat.start (w : World) : Sat (base w) [] w := .of_below (Below.refl _ _)
theorem AllP.append {B : Base} {w : World} : ∀ {G H : List Chunk}, AllP B w G → AllP B w H → (∀ c ∈ G, ∀ d ∈ H, ∀ k, c.foot k → ¬ d.foot k) → AllP B w (G ++ H)
 | [], _, _, h, _ => h
 | c :: G, H, hG, hH, hx => ⟨hG.1, hG.2.1, fun d hd k hk => by
   rcases List.mem_append.1 hd with hd | hd
   ·exact hG.2.2.1 d hd k hk
   ·exact hx c (List.mem_cons_self ..) d hd k hk, AllP.append hG.2.2.2 hH (fun c hc => hx c (List.mem_cons_of_mem _ hc))⟩
theorem Sat.join {B : Base} {H G : List Chunk} {w w' : World} (h : Sat B H w) (hg : Sat (base w) G w') : Sat B (G ++ H) w' := by
 have h' := h.grow hg.belowB
 refine ⟨h'.os, h'.tape, h'.output, h'.size, h'.block, AllP.append ?_ h'.all fun c hc d hd k hk hk' => ?_⟩
 ·have : ∀ {G : List Chunk}, AllP (base w) w' G → AllP B w' G := by
   intro G
   induction G with
   | nil => intro _; trivial
   | cons c G ih => intro hG; exact ⟨hG.1, fun k hk => by
     rcases hG.2.1 k hk with h1 | h1
     ·exact .inl (Nat.le_trans h.size h1)
     ·exact h1.elim, hG.2.2.1, ih hG.2.2.2⟩
  exact this hg.all
 ·rcases (hg.all.mem c hc).2 k hk with h1 | h1
  ·have := h.lt hd k hk'
   have h1 : w.heap.size ≤ k := h1
   omega
  ·exact h1.elim
theorem AllP.split {B : Base} {w : World} : ∀ {G H : List Chunk}, AllP B w (G ++ H) → AllP B w G ∧ AllP B w H ∧ (∀ c ∈ G, ∀ d ∈ H, ∀ k, c.foot k → ¬ d.foot k)
 | [], _, h => ⟨trivial, h, fun c hc => by cases hc⟩
 | c :: G, H, h => by
  obtain ⟨h1, h2, h3⟩ := AllP.split h.2.2.2
  refine ⟨⟨h.1, h.2.1, fun d hd => h.2.2.1 d (List.mem_append_left _ hd), h1⟩, h2, fun d hd e he k hk => ?_⟩
  rcases List.mem_cons.1 hd with rfl | hd
  ·exact h.2.2.1 e (List.mem_append_right _ he) k hk
  ·exact h3 d hd e he k hk
theorem Sat.frame {B : Base} {G G' H : List Chunk} {w w' : World} (h : Sat B (G ++ H) w) (hg : Sat ⟨w, feet G⟩ G' w') : Sat B (G' ++ H) w' := by
 obtain ⟨a1, a2, a3⟩ := h.all.split
 have keepH : ∀ {H : List Chunk}, (∀ c ∈ G, ∀ d ∈ H, ∀ k, c.foot k → ¬ d.foot k) → AllP B w H → AllP B w' H := by
  intro H
  induction H with
  | nil => intro _ _; trivial
  | cons d H ih =>
   intro hx hH
   refine ⟨d.loc w w' (fun k hk => hg.block k (d.lt w hH.1 k hk) ?_) hH.1, hH.2.1, hH.2.2.1, ih (fun c hc e he => hx c hc e (List.mem_cons_of_mem _ he)) hH.2.2.2⟩
   rintro ⟨c, hc, hk'⟩
   exact hx c hc d (List.mem_cons_self ..) k hk' hk
 have turnG : ∀ {G' : List Chunk}, AllP ⟨w, feet G⟩ w' G' → AllP B w' G' := by
  intro G'
  induction G' with
  | nil => intro _; trivial
  | cons c G' ih => intro hG'; exact ⟨hG'.1, fun k hk => by
    rcases hG'.2.1 k hk with h1 | ⟨d, hd, hk'⟩
    ·exact .inl (Nat.le_trans h.size h1)
    ·exact (a1.mem d hd).2 k hk', hG'.2.2.1, ih hG'.2.2.2⟩
 refine ⟨hg.os.trans h.os, hg.tape.trans h.tape, hg.output.trans h.output, Nat.le_trans h.size hg.size, fun k hk hx => ?_, AllP.append (turnG hg.all) (keepH a3 a2) fun c hc d hd k hk hk' => ?_⟩
 ·rw [hg.block k (Nat.lt_of_lt_of_le hk h.size) ?_]
  ·exact h.block k hk hx
  ·rintro ⟨c, hc, hk'⟩
   rcases (a1.mem c hc).2 k hk' with h1 | h1
   ·omega
   ·exact hx h1
 ·rcases (hg.all.mem c hc).2 k hk with h1 | ⟨e, he, hk2⟩
  ·have := d.lt w (a2.mem d hd).1 k hk'
   have h1 : w.heap.size ≤ k := h1
   omega
  ·exact a3 e he d hd k hk2 hk'
theorem Sat.ofGrown {w w' : World} {c c' : Chunk} {r : Option Nat} (hg : w.grownBy w' r) (hr : ∀ k, r = some k → c.foot k) (hc : c'.p w') (hf : ∀ k, c'.foot k → c.foot k ∨ w.heap.size ≤ k) : Sat ⟨w, feet [c]⟩ [c'] w' := by
 refine ⟨hg.os, hg.tape, hg.output, hg.size, fun k hk hx => hg.block k hk (fun e => hx ⟨c, List.mem_cons_self .., hr k e.symm⟩), hc, fun k hk => ?_, (fun d hd => by cases hd), trivial⟩
 rcases hf k hk with h | h
 ·exact .inr ⟨c, List.mem_cons_self .., h⟩
 ·exact .inl h
def blkC (b : Nat) (cs : List Value) (T : TypeId) : Chunk where
 foot := fun k => k = b
 p := fun w => Blk w b cs T
 loc := fun w w' h hp => by unfold Blk at hp ⊢; rw [h b rfl]; exact hp
 lt := fun w hp k hk => by subst hk; exact hp.lt
def mapC {K : Type} [DecidableEq K] (enc : K → Value) (b : Nat) (m : List (K × Value)) : Chunk where
 foot := fun k => k = b
 p := fun w => MapAt enc w b m
 loc := fun w w' h hp => by
  obtain ⟨es, clock, h1, h2, h3⟩ := hp
  exact ⟨es, clock, by rw [h b rfl]; exact h1, h2, h3⟩
 lt := fun w hp k hk => by
  obtain ⟨es, clock, h1, _⟩ := hp
  subst hk; exact (Array.getElem?_eq_some_iff.1 h1).1
theorem ownsRow_ge {w : World} {B e sz n : Nat} {v : Value} {xs : List Value} (h : w.ownsRow B e sz v n xs) : ∀ k, v.ownBlock = some k → B ≤ k := by
 intro k hk
 rcases h.2 with ⟨rfl, _⟩ | ⟨g, cap, cur, rfl, h1, h2⟩
 ·cases hk
 ·cases hk; exact h1
def HR (P : Program) (f : FuncId) (N : Nat) (k : List Item) (σ : Store) (B : Base) (H : List Chunk) (R : Ending → World → Prop) : Prop := ∀ w, Sat B H w → Run P f N k σ w R
def HL (P : Program) (N : Nat) (ops l : List Oper) (σ : Store) (B : Base) (H : List Chunk) (K : Act → World → Prop) : Prop := ∀ w, Sat B H w → RunL P N ops l σ w K
def Ent (B : Base) (H H' : List Chunk) : Prop := ∀ w, Sat B H w → Sat B H' w
theorem Ent.refl {B : Base} {H : List Chunk} : Ent B H H := fun _ h => h
theorem Ent.pick {B : Base} {H H' : List Chunk} (is : List Nat) (hp : pickC H is = some H') (hd : distinctN is = true) : Ent B H H' := fun w h => h.pick is hp hd
theorem Ent.trans {B : Base} {H H' H'' : List Chunk} (h : Ent B H H') (h' : Ent B H' H'') : Ent B H H'' := fun w hw => h' w (h w hw)
theorem Ent.of_eq {B : Base} {H H' : List Chunk} (h : H = H') : Ent B H H' := fun w hw => h ▸ hw
section
variable {P : Program} {f : FuncId} {N : Nat} {k : List Item} {σ : Store} {B : Base} {H H' : List Chunk} {R : Ending → World → Prop} {ops l : List Oper} {o : Oper} {K : Act → World → Prop}
theorem calls_hr {fn : Func} {c : Code} {args : Array Value} {w : World} (hf : P.funcs[f]? = some fn) (hb : fn.body = some c) (hN : args.size ≤ fn.ntmps)
  (h : HR P f fn.ntmps [.code c] (args.toList.zipIdx.map fun (v, i) => (i, v)) (base w) [] R) : Calls P f args w R := calls_of_run hf hb hN (h w (Sat.start w))
theorem calls_hrW {fn : Func} {c : Code} {args : Array Value} {w : World} (G : List Chunk) (hG : Sat B G w) (hf : P.funcs[f]? = some fn) (hb : fn.body = some c) (hN : args.size ≤ fn.ntmps)
  (h : HR P f fn.ntmps [.code c] (args.toList.zipIdx.map fun (v, i) => (i, v)) ⟨w, feet G⟩ G R) : Calls P f args w R := by
 refine calls_of_run hf hb hN (h w ⟨rfl, rfl, rfl, Nat.le_refl _, fun _ _ _ => rfl, ?_⟩)
 have : ∀ {G' : List Chunk}, (∀ c ∈ G', c ∈ G) → AllP B w G' → AllP ⟨w, feet G⟩ w G' := by
  intro G'
  induction G' with
  | nil => intro _ _; trivial
  | cons c G' ih => intro hm ha; exact ⟨ha.1, fun k hk => .inr ⟨c, hm c (List.mem_cons_self ..), hk⟩, ha.2.2.1, ih (fun d hd => hm d (List.mem_cons_of_mem _ hd)) ha.2.2.2⟩
 exact this (fun _ h => h) hG.all
theorem HR.sub {σ' : Store} (hs : Sub σ' σ) (h : HR P f N k σ' B H R) : HR P f N k σ B H R := fun w hw => Run.sub hs (h w hw)
theorem HR.ent (he : Ent B H H') (h : HR P f N k σ B H' R) : HR P f N k σ B H R := fun w hw => h w (he w hw)
theorem HR.ctl {k' : List Item} (hk : ctl k = some k') (h : HR P f N k' σ B H R) : HR P f N k σ B H R := fun w hw => Run.ctl hk (h w hw)
theorem HR.region {id : Nat} (h : HL P N ops ops σ B H (CRun P f k R)) : HR P f N (.code (.region id ops.toArray false) :: k) σ B H R := fun w hw => Run.region (h w hw)
theorem HR.cond {t : Nat} {b : Bool} {x y : Code} (hl : look σ t = some (.bool b)) (ht : b = true → HR P f N (.code x :: k) σ B H R) (hf : b = false → HR P f N (.code y :: k) σ B H R) :
  HR P f N (.code (.cond (.tmp t) x y) :: k) σ B H R := fun w hw => Run.cond hl (fun e => ht e w hw) (fun e => hf e w hw)
theorem HR.condT {t : Nat} {x y : Code} (hl : look σ t = some (.bool true)) (h : HR P f N (.code x :: k) σ B H R) : HR P f N (.code (.cond (.tmp t) x y) :: k) σ B H R := fun w hw => Run.condT hl (h w hw)
theorem HR.condF {t : Nat} {x y : Code} (hl : look σ t = some (.bool false)) (h : HR P f N (.code y :: k) σ B H R) : HR P f N (.code (.cond (.tmp t) x y) :: k) σ B H R := fun w hw => Run.condF hl (h w hw)
theorem HR.join {x : Code} {ι : Type} (Inv : ι → Prop) (st : ι → Store) (hp : ι → List Chunk) (hj : ∀ i, Inv i → HR P f N k (st i) B (hp i) R)
  (h : (∀ i σ' H', Inv i → Sub (st i) σ' → Ent B H' (hp i) → HR P f N k σ' B H' R) → HR P f N (.code x :: k) σ B H R) : HR P f N (.code x :: k) σ B H R :=
 h fun i σ' H' h1 h2 h3 => HR.sub h2 (HR.ent h3 (hj i h1))
theorem HR.loop {c : Code} {ι : Type} (Inv : ι → Prop) (st : ι → Store) (hp : ι → List Chunk) (μ : ι → Nat) (i0 : ι) (h0 : Inv i0) (hσ : Sub (st i0) σ) (hH : Ent B H (hp i0))
  (round : ∀ i, Inv i → (∀ i' σ' H', Inv i' → μ i' < μ i → Sub (st i') σ' → Ent B H' (hp i') → HR P f N (.inLoop c :: k) σ' B H' R) → HR P f N (.code c :: .inLoop c :: k) (st i) B (hp i) R) :
  HR P f N (.code (.loop c) :: k) σ B H R := by
 intro w hw
 refine Run.loop (fun i w => Inv i ∧ Sat B (hp i) w) st μ i0 ⟨h0, hH w hw⟩ hσ fun i w ⟨hI, hS⟩ ih => round i hI (fun i' σ' H' h1 h2 h3 h4 w' hw' => ih i' w' σ' ⟨h1, h4 w' hw'⟩ h2 h3) w hS
theorem HR.loop2 {c : Code} {α β : Type} (Inv : α → β → Prop) (st : α → β → Store) (hp : α → β → List Chunk) (μ : α → β → Nat) (a0 : α) (b0 : β) (h0 : Inv a0 b0) (hσ : Sub (st a0 b0) σ) (hH : Ent B H (hp a0 b0))
  (round : ∀ a b, Inv a b → (∀ a' b' σ' H', Inv a' b' → μ a' b' < μ a b → Sub (st a' b') σ' → Ent B H' (hp a' b') → HR P f N (.inLoop c :: k) σ' B H' R) → HR P f N (.code c :: .inLoop c :: k) (st a b) B (hp a b) R) :
  HR P f N (.code (.loop c) :: k) σ B H R :=
 HR.loop (ι := α × β) (fun i => Inv i.1 i.2) (fun i => st i.1 i.2) (fun i => hp i.1 i.2) (fun i => μ i.1 i.2) (a0, b0) h0 hσ hH fun i hI ih => round i.1 i.2 hI fun a' b' => ih (a', b')
theorem HR.loop3 {c : Code} {α β γ : Type} (Inv : α → β → γ → Prop) (st : α → β → γ → Store) (hp : α → β → γ → List Chunk) (μ : α → β → γ → Nat) (a0 : α) (b0 : β) (c0 : γ) (h0 : Inv a0 b0 c0) (hσ : Sub (st a0 b0 c0) σ) (hH : Ent B H (hp a0 b0 c0))
  (round : ∀ a b g, Inv a b g → (∀ a' b' g' σ' H', Inv a' b' g' → μ a' b' g' < μ a b g → Sub (st a' b' g') σ' → Ent B H' (hp a' b' g') → HR P f N (.inLoop c :: k) σ' B H' R) → HR P f N (.code c :: .inLoop c :: k) (st a b g) B (hp a b g) R) :
  HR P f N (.code (.loop c) :: k) σ B H R :=
 HR.loop (ι := α × β × γ) (fun i => Inv i.1 i.2.1 i.2.2) (fun i => st i.1 i.2.1 i.2.2) (fun i => hp i.1 i.2.1 i.2.2) (fun i => μ i.1 i.2.1 i.2.2) (a0, b0, c0) h0 hσ hH fun i hI ih => round i.1 i.2.1 i.2.2 hI fun a' b' c' => ih (a', b', c')
theorem HR.loop4 {c : Code} {α β γ δ : Type} (Inv : α → β → γ → δ → Prop) (st : α → β → γ → δ → Store) (hp : α → β → γ → δ → List Chunk) (μ : α → β → γ → δ → Nat) (a0 : α) (b0 : β) (c0 : γ) (d0 : δ) (h0 : Inv a0 b0 c0 d0) (hσ : Sub (st a0 b0 c0 d0) σ) (hH : Ent B H (hp a0 b0 c0 d0))
  (round : ∀ a b g e, Inv a b g e → (∀ a' b' g' e' σ' H', Inv a' b' g' e' → μ a' b' g' e' < μ a b g e → Sub (st a' b' g' e') σ' → Ent B H' (hp a' b' g' e') → HR P f N (.inLoop c :: k) σ' B H' R) → HR P f N (.code c :: .inLoop c :: k) (st a b g e) B (hp a b g e) R) :
  HR P f N (.code (.loop c) :: k) σ B H R :=
 HR.loop (ι := α × β × γ × δ) (fun i => Inv i.1 i.2.1 i.2.2.1 i.2.2.2) (fun i => st i.1 i.2.1 i.2.2.1 i.2.2.2) (fun i => hp i.1 i.2.1 i.2.2.1 i.2.2.2) (fun i => μ i.1 i.2.1 i.2.2.1 i.2.2.2) (a0, b0, c0, d0) h0 hσ hH fun i hI ih => round i.1 i.2.1 i.2.2.1 i.2.2.2 hI fun a' b' c' d' => ih (a', b', c', d')
theorem HR.ret {fn : Func} {l : List ResultVar} (hf : P.funcs[f]? = some fn) (hl : fn.results = l.toArray) (vs : List Value) (hr : ∀ w, Sat B H w → ResR P w σ l vs) (hR : ∀ w, Sat B H w → R (.returned (resV vs)) w) : HR P f N (.code .ret :: k) σ B H R :=
 fun w hw => Run.ret hf hl vs (hr w hw) (hR w hw)
theorem HR.fin {fn : Func} {l : List ResultVar} (hf : P.funcs[f]? = some fn) (hl : fn.results = l.toArray) (vs : List Value) (hr : ∀ w, Sat B H w → ResR P w σ l vs) (hR : ∀ w, Sat B H w → R (.returned (resV vs)) w) : HR P f N [] σ B H R :=
 fun w hw => Run.fin hf hl vs (hr w hw) (hR w hw)
theorem HL.nil (h : HR P f N k σ B H R) : HL P N ops [] σ B H (CRun P f k R) := fun w hw => RunL.nil (h w hw)
theorem HL.ent (he : Ent B H H') (h : HL P N ops l σ B H' K) : HL P N ops l σ B H K := fun w hw => h w (he w hw)
theorem HR.as {c c' : Chunk} (i : Nat) (hi : nthC H i = some c) (hc' : ∀ w, c.p w → c'.p w) (hf : ∀ k, c'.foot k → c.foot k) (h : HR P f N k σ B (setC H i c') R) : HR P f N k σ B H R :=
 fun w hw => h w (hw.as i hi (hc' w) hf)
theorem HL.know {Q : Prop} (hq : ∀ w, Sat B H w → Q) (h : Q → HL P N ops l σ B H K) : HL P N ops l σ B H K := fun w hw => h (hq w hw) w hw
theorem HR.know {Q : Prop} (hq : ∀ w, Sat B H w → Q) (h : Q → HR P f N k σ B H R) : HR P f N k σ B H R := fun w hw => h (hq w hw) w hw
variable {d : Nat} {op : Op} {ty : TypeId} {pos : String} {af : Array Edge} {gd : Option (Nat × Bool)} {v : Value}
theorem HL.rd (hs : stat N ops ⟨some d, op, ty, pos, af, gd⟩ σ = true) (hr : ∀ w, Sat B H w → (execOp (evO σ) ⟨some d, op, ty, pos, af, gd⟩).run P w = .ok (.value v) w) (h : HL P N ops l ((d, v) :: σ) B H K) :
  HL P N ops (⟨some d, op, ty, pos, af, gd⟩ :: l) σ B H K := fun w hw => RunL.op hs (hr w hw) (h w hw)
theorem HL.ev (hs : stat N ops ⟨some d, op, ty, pos, af, gd⟩ σ = true) (he : evOp P σ op = some v) (h : HL P N ops l ((d, v) :: σ) B H K) : HL P N ops (⟨some d, op, ty, pos, af, gd⟩ :: l) σ B H K :=
 fun w hw => RunL.ev hs he (h w hw)
theorem HL.evc {c : Prop} (hs : stat N ops ⟨some d, op, ty, pos, af, gd⟩ σ = true) (he : evC P σ op = some (v, c)) (hc : c) (h : HL P N ops l ((d, v) :: σ) B H K) : HL P N ops (⟨some d, op, ty, pos, af, gd⟩ :: l) σ B H K :=
 fun w hw => RunL.evc hs he hc (h w hw)
theorem HL.skip (hw : wantedS ops gd σ = some false) (hd : dstOk N (some d) = true) (h : HL P N ops l ((d, undef) :: σ) B H K) : HL P N ops (⟨some d, op, ty, pos, af, gd⟩ :: l) σ B H K :=
 fun w hs => RunL.skip hw hd (h w hs)
theorem HL.skip0 (hw : wantedS ops gd σ = some false) (h : HL P N ops l σ B H K) : HL P N ops (⟨none, op, ty, pos, af, gd⟩ :: l) σ B H K :=
 fun w hs => RunL.skip0 hw (h w hs)
theorem HL.opX {α : Type} (val : α → Value) (G : α → List Chunk) (Q : α → Prop) (hs : stat N ops ⟨some d, op, ty, pos, af, gd⟩ σ = true)
  (hr : ∀ w, Sat B H w → ∃ x w', (execOp (evO σ) ⟨some d, op, ty, pos, af, gd⟩).run P w = .ok (.value (val x)) w' ∧ Q x ∧ Sat B (G x) w') (h : ∀ x, Q x → HL P N ops l ((d, val x) :: σ) B (G x) K) : HL P N ops (⟨some d, op, ty, pos, af, gd⟩ :: l) σ B H K := by
 intro w hw
 obtain ⟨x, w', h1, h2, h3⟩ := hr w hw
 exact RunL.op hs h1 (h x h2 w' h3)
theorem HL.opU (hs : stat N ops ⟨none, op, ty, pos, af, gd⟩ σ = true)
  (hr : ∀ w, Sat B H w → ∃ w', (execOp (evO σ) ⟨none, op, ty, pos, af, gd⟩).run P w = .ok .skip w' ∧ Sat B H' w') (h : HL P N ops l σ B H' K) : HL P N ops (⟨none, op, ty, pos, af, gd⟩ :: l) σ B H K := by
 intro w hw
 obtain ⟨w', h1, h2⟩ := hr w hw
 exact RunL.opU hs h1 (h w' h2)
theorem HL.op0 {α : Type} (val : α → Value) (G : α → List Chunk) (Q : α → Prop) (hs : stat N ops ⟨none, op, ty, pos, af, gd⟩ σ = true)
  (hr : ∀ w, Sat B H w → ∃ x w', (execOp (evO σ) ⟨none, op, ty, pos, af, gd⟩).run P w = .ok (.value (val x)) w' ∧ Q x ∧ Sat B (G x) w') (h : ∀ x, Q x → HL P N ops l σ B (G x) K) : HL P N ops (⟨none, op, ty, pos, af, gd⟩ :: l) σ B H K := by
 intro w hw
 obtain ⟨x, w', h1, h2, h3⟩ := hr w hw
 exact RunL.op0 hs h1 (h x h2 w' h3)
theorem HL.setV (t : Nat) {v v' : Value} (hl : look σ t = some v) (e : v = v') (h : HL P N ops l ((t, v') :: σ) B H K) : HL P N ops l σ B H K := fun w hw => RunL.setV t hl e (h w hw)
theorem HL.setB (t : Nat) {b : Bool} (c : Bool) (hl : look σ t = some (.bool b)) (e : b = c) (h : HL P N ops l ((t, .bool c) :: σ) B H K) : HL P N ops l σ B H K := fun w hw => RunL.setB t c hl e (h w hw)
theorem Run.setV {w : World} (t : Nat) {v v' : Value} (hl : look σ t = some v) (e : v = v') (h : Run P f N k ((t, v') :: σ) w R) : Run P f N k σ w R :=
 fun a ha => h a (ha.weaken fun t' u hu => by
  rw [look_cons] at hu
  split at hu
  ·rename_i e'; subst e'; cases hu; rw [← e]; exact hl
  ·exact hu)
theorem HR.setV (t : Nat) {v v' : Value} (hl : look σ t = some v) (e : v = v') (h : HR P f N k ((t, v') :: σ) B H R) : HR P f N k σ B H R := fun w hw => Run.setV t hl e (h w hw)
theorem HR.setB (t : Nat) {b : Bool} (c : Bool) (hl : look σ t = some (.bool b)) (e : b = c) (h : HR P f N k ((t, .bool c) :: σ) B H R) : HR P f N k σ B H R := HR.setV t hl (by rw [e]) h
theorem HL.andB {tj te n dp : Nat} {b e : Bool} {rest : List Oper}
  (hg : gslot ops o = some (tj, true)) (hl : look σ tj = some (.bool b)) (hn : cutPick tj (o :: l) = some n)
  (hd : (o :: l).drop n = ⟨some dp, .pick (.tmp tj) (.tmp te) (.const (.bool false)), ty, pos, af, gd⟩ :: rest)
  (hgd : wantedS ops gd σ = some true) (hte : look σ te = none) (hok : blkOk N ops tj true n σ (o :: l) = true) (hdp : dstOk N (some dp) = true)
  (h1 : b = true → HL P N ops ((o :: l).take n) ((tj, .bool true) :: σ) B H (fun a' w' => Sat B H w' ∧ Agr N ((te, .bool e) :: (tj, .bool true) :: σ) a'))
  (h2 : HL P N ops rest ((dp, .bool (b && e)) :: σ) B H K) : HL P N ops (o :: l) σ B H K :=
 fun w hw => RunL.blk (want := true) (C := fun w' => Sat B H w') hw hl hte hd hgd (.inl ⟨rfl, rfl, rfl⟩) hok hdp (fun e => h1 e w hw) (fun w' hw' => h2 w' hw')
theorem HL.orB {tj te n dp : Nat} {b e : Bool} {rest : List Oper}
  (hg : gslot ops o = some (tj, false)) (hl : look σ tj = some (.bool b)) (hn : cutPick tj (o :: l) = some n)
  (hd : (o :: l).drop n = ⟨some dp, .pick (.tmp tj) (.const (.bool true)) (.tmp te), ty, pos, af, gd⟩ :: rest)
  (hgd : wantedS ops gd σ = some true) (hte : look σ te = none) (hok : blkOk N ops tj false n σ (o :: l) = true) (hdp : dstOk N (some dp) = true)
  (h1 : b = false → HL P N ops ((o :: l).take n) ((tj, .bool false) :: σ) B H (fun a' w' => Sat B H w' ∧ Agr N ((te, .bool e) :: (tj, .bool false) :: σ) a'))
  (h2 : HL P N ops rest ((dp, .bool (b || e)) :: σ) B H K) : HL P N ops (o :: l) σ B H K :=
 fun w hw => RunL.blk (want := false) (C := fun w' => Sat B H w') hw hl hte hd hgd (.inr ⟨rfl, rfl, rfl⟩) hok hdp (fun e => h1 e w hw) (fun w' hw' => h2 w' hw')
theorem HL.blkEnd {te : Nat} {e : Bool} {σ₀ : Store} (he : look σ te = some (.bool e)) (hp : popTo (lenS σ - lenS σ₀) σ = some σ₀) (hH : Ent B H H') : HL P N ops [] σ B H (fun a' w' => Sat B H' w' ∧ Agr N ((te, .bool e) :: σ₀) a') :=
 fun w hw a ha => wpList_nil ⟨rfl, hH w hw, ha.weaken (fun t v hv => by
  rw [look_cons] at hv
  split at hv
  ·rename_i e'; subst e'; cases hv; exact he
  ·exact popTo_spec hp t v hv)⟩
theorem HL.callX {α : Type} {r : α → Value} {Q : α → Prop} {G : α → List Chunk} {g : FuncId} {args : List Operand} {a1 : List Value} {tys : Array TypeId} (hg : IsFn P g)
  (hs : stat N ops ⟨some d, .call ⟨.value (.func g), args.toArray, tys⟩, ty, pos, af, gd⟩ σ = true) (ha : vals σ args = some a1)
  (hc : ∀ w, Sat B H w → Calls P g a1.toArray w fun e w' => ∃ x, e = .returned (r x) ∧ Q x ∧ Sat (base w) (G x) w')
  (h : ∀ x, Q x → HL P N ops l ((d, r x) :: σ) B (G x ++ H) K) : HL P N ops (⟨some d, .call ⟨.value (.func g), args.toArray, tys⟩, ty, pos, af, gd⟩ :: l) σ B H K :=
 fun w hw => RunL.call hg hs ha ((hc w hw).mono fun e w' ⟨x, h1, h2, h3⟩ => ⟨r x, h1, h x h2 w' (hw.join h3)⟩)
theorem HL.callB {r : Value} {g : FuncId} {args : List Operand} {a1 : List Value} {tys : Array TypeId} (hg : IsFn P g)
  (hs : stat N ops ⟨some d, .call ⟨.value (.func g), args.toArray, tys⟩, ty, pos, af, gd⟩ σ = true) (ha : vals σ args = some a1)
  (hc : ∀ w, Sat B H w → Calls P g a1.toArray w fun e w' => e = .returned r ∧ Below w.heap.size w w')
  (h : HL P N ops l ((d, r) :: σ) B H K) : HL P N ops (⟨some d, .call ⟨.value (.func g), args.toArray, tys⟩, ty, pos, af, gd⟩ :: l) σ B H K :=
 fun w hw => RunL.call hg hs ha ((hc w hw).mono fun e w' ⟨h1, h2⟩ => ⟨r, h1, h w' (hw.grow h2)⟩)
theorem HL.callW {α : Type} {r : α → Value} {Q : α → Prop} {G0 H0 : List Chunk} {G : α → List Chunk} {g : FuncId} {args : List Operand} {a1 : List Value} {tys : Array TypeId} (hg : IsFn P g)
  (hs : stat N ops ⟨some d, .call ⟨.value (.func g), args.toArray, tys⟩, ty, pos, af, gd⟩ σ = true) (ha : vals σ args = some a1) (hH : H = G0 ++ H0)
  (hc : ∀ w, Sat B H w → Calls P g a1.toArray w fun e w' => ∃ x, e = .returned (r x) ∧ Q x ∧ Sat ⟨w, feet G0⟩ (G x) w')
  (h : ∀ x, Q x → HL P N ops l ((d, r x) :: σ) B (G x ++ H0) K) : HL P N ops (⟨some d, .call ⟨.value (.func g), args.toArray, tys⟩, ty, pos, af, gd⟩ :: l) σ B H K :=
 fun w hw => RunL.call hg hs ha ((hc w hw).mono fun e w' ⟨x, h1, h2, h3⟩ => ⟨r x, h1, h x h2 w' (Sat.frame (hH ▸ hw) h3)⟩)
abbrev HQ (P : Program) (N : Nat) (ops l : List Oper) (σ : Store) (B : Base) (H : List Chunk) (K : Act → Prop) : Prop := RunQ P N (fun w => Sat B H w) ops l σ K
theorem HR.regionQ {id : Nat} (hm : P.follows .mixedOrders = true) (hB : Region.lexB .any ops.toArray = true)
  (h : HQ P N ops ops σ B H (fun a' => ∀ w', Sat B H w' → CRun P f k R a' w')) : HR P f N (.code (.region id ops.toArray true) :: k) σ B H R := by
 intro w hw a ha
 refine CRun.of_wp (wp_region_quiet (C := fun w' => Sat B H w') hm hB (hw.grow ⟨rfl, rfl, rfl, Nat.le_refl _, fun _ _ => rfl⟩) ?_)
 exact wpQuiet_mono (fun a' h w' hw' => ⟨rfl, h w' hw'⟩) (h a ha)
theorem HQ.nil (h : HR P f N k σ B H R) : HQ P N ops [] σ B H (fun a' => ∀ w', Sat B H w' → CRun P f k R a' w') := fun a ha w' hw' => h w' hw' a ha
theorem HQ.callB {KQ : Act → Prop} {r : Value} {g : FuncId} {args : List Operand} {a1 : List Value} {tys : Array TypeId} (hg : IsFn P g)
  (hs : stat N ops ⟨some d, .call ⟨.value (.func g), args.toArray, tys⟩, ty, pos, af, gd⟩ σ = true) (ha : vals σ args = some a1)
  (hc : ∀ w, Sat B H w → Calls P g a1.toArray w fun e w' => e = .returned r ∧ Below w.heap.size w w')
  (h : HQ P N ops l ((d, r) :: σ) B H KQ) : HQ P N ops (⟨some d, .call ⟨.value (.func g), args.toArray, tys⟩, ty, pos, af, gd⟩ :: l) σ B H KQ :=
 RunQ.call hg hs ha (fun w hw => (hc w hw).mono fun e w' ⟨h1, h2⟩ => ⟨h1, hw.grow h2⟩) h
def HD (P : Program) (N : Nat) (ops : List Oper) (p : List (Nat × Bool)) (σ : Store) (B : Base) (H F : List Chunk) (K : Act → World → Prop) : Prop := ∀ w, Sat B H w → RunD P N (fun w => Sat B F w) ops p σ w K
theorem HR.regionD {F : List Chunk} (p : List (Nat × Bool)) (is : List Nat) (hF : pickC H is = some F) (hd : distinctN is = true) {id : Nat} (hm : P.follows .mixedOrders = true) (hB : planOk ops.toArray p = true) (h : HD P N ops p σ B H F (CRun P f k R)) : HR P f N (.code (.region id ops.toArray true) :: k) σ B H R :=
 fun w hw => Run.regionDS p (fun w => Sat B F w) hm hB fun w1 h1 h2 => ⟨(hw.grow h1).pick is hF hd, h w1 (hw.grow h1)⟩
variable {F : List Chunk} {i : Nat} {p : List (Nat × Bool)}
theorem HD.nil (h : HR P f N k σ B H R) : HD P N ops [] σ B H F (CRun P f k R) := fun w hw => RunD.nil (h w hw)
theorem HD.rd (ho : ops[i]? = some ⟨some d, op, ty, pos, af, gd⟩) (hs : stat N ops ⟨some d, op, ty, pos, af, gd⟩ σ = true)
  (hr : ∀ w, Sat B F w → (execOp (evO σ) ⟨some d, op, ty, pos, af, gd⟩).run P w = .ok (.value v) w) (h : HD P N ops p ((d, v) :: σ) B H F K) : HD P N ops ((i, true) :: p) σ B H F K := fun w hw => RunD.rd ho hs hr (h w hw)
theorem HD.ev (ho : ops[i]? = some ⟨some d, op, ty, pos, af, gd⟩) (hs : stat N ops ⟨some d, op, ty, pos, af, gd⟩ σ = true) (he : evOp P σ op = some v) (h : HD P N ops p ((d, v) :: σ) B H F K) : HD P N ops ((i, true) :: p) σ B H F K :=
 fun w hw => RunD.ev ho hs he (h w hw)
theorem HD.evc {c : Prop} (ho : ops[i]? = some ⟨some d, op, ty, pos, af, gd⟩) (hs : stat N ops ⟨some d, op, ty, pos, af, gd⟩ σ = true) (he : evC P σ op = some (v, c)) (hc : c) (h : HD P N ops p ((d, v) :: σ) B H F K) : HD P N ops ((i, true) :: p) σ B H F K :=
 fun w hw => RunD.evc ho hs he hc (h w hw)
theorem HD.skip (ho : ops[i]? = some ⟨some d, op, ty, pos, af, gd⟩) (hw : wantedS ops gd σ = some false) (hd : dstOk N (some d) = true) (h : HD P N ops p ((d, undef) :: σ) B H F K) : HD P N ops ((i, true) :: p) σ B H F K :=
 fun w hs => RunD.skip ho hw hd (h w hs)
theorem HD.skipO (ho : ops[i]? = some ⟨some d, op, ty, pos, af, gd⟩) (hw : wantedS ops gd σ = some false) (hd : dstOk N (some d) = true) (h : HD P N ops p ((d, undef) :: σ) B H F K) : HD P N ops ((i, false) :: p) σ B H F K :=
 fun w hs => RunD.skipO ho hw hd (h w hs)
theorem HD.one (ho : ops[i]? = some o) (h : HL P N ops [o] σ B H (DK P (fun w => Sat B F w) ops p K)) : HD P N ops ((i, false) :: p) σ B H F K := fun w hw => RunD.one ho (h w hw)
theorem HL.back (is : List Nat) (hF : pickC H is = some F) (hd : distinctN is = true) (h : HD P N ops p σ B H F K) : HL P N ops [] σ B H (DK P (fun w => Sat B F w) ops p K) := fun w hw => RunL.back (hw.pick is hF hd) (h w hw)
end
end Go.GX
namespace Go.GX
open Go.RowKit
def Sl (w : World) (v : Value) (cs : List Value) (n : Nat) : Prop := IsSl w v cs n ∧ ∃ a c, v = .slice a n c ∧ n ≤ c
def Vw (w : World) (v : Value) (e sz n : Nat) (xs : List Value) : Prop :=
 xs.length = n * sz ∧ ((v = .slice none 0 0 ∧ n = 0) ∨ ∃ g off cap cur, v = .slice (some ⟨g, off, none⟩) n cap ∧ w.heap[g]? = some (.cells cur e (0, 0)) ∧ n ≤ cap ∧ cap ≤ maxLen ∧ off + cap * sz ≤ cur.size ∧ (cur.toList.drop off).take (n * sz) = xs)
theorem Vw.of_own {w : World} {B e sz n : Nat} {v : Value} {xs : List Value} (h : w.ownsRow B e sz v n xs) : Vw w v e sz n xs := by
 refine ⟨h.1, ?_⟩
 rcases h.2 with h' | ⟨g, cap, cur, hv, h1, h2, h3, h4, h5, h6⟩
 ·exact .inl h'
 ·exact .inr ⟨g, 0, cap, cur, hv, h2, h3, h4, by omega, by simpa using h6⟩
theorem Vw.sl {w : World} {e sz n : Nat} {v : Value} {xs : List Value} (h : Vw w v e sz n xs) : Sl w v xs n := by
 rcases h with ⟨hl, ⟨rfl, rfl⟩ | ⟨g, off, cap, cur, rfl, h2, h3, h4, h5, h6⟩⟩
 ·have : xs = [] := List.eq_nil_of_length_eq_zero (by simpa using hl)
  subst this
  exact ⟨IsSl.nil w, none, 0, rfl, Nat.le_refl _⟩
 ·refine ⟨.inr ⟨g, off, cap, rfl, fun j u hu => ?_⟩, _, cap, rfl, h3⟩
  rw [cell_of_row w g (off + j) cur e (0, 0) h2]
  rw [← h6, List.getElem?_take] at hu
  split at hu
  ·simpa using hu
  ·cases hu
def ownC (v : Value) (e sz n : Nat) (xs : List Value) : Chunk where
 foot := fun k => v.ownBlock = some k
 p := fun w => Vw w v e sz n xs
 loc := fun w w' h hp => by
  refine ⟨hp.1, ?_⟩
  rcases hp.2 with h' | ⟨g, off, cap, cur, rfl, h1, h2⟩
  ·exact .inl h'
  ·exact .inr ⟨g, off, cap, cur, rfl, by rw [h g rfl]; exact h1, h2⟩
 lt := fun w hp k hk => by
  rcases hp.2 with ⟨rfl, _⟩ | ⟨g, off, cap, cur, rfl, h1, h2⟩
  ·cases hk
  ·cases hk; exact (Array.getElem?_eq_some_iff.1 h1).1
theorem Sl.ext {w w' : World} {v : Value} {cs : List Value} {n : Nat} (h : Sl w v cs n) (hb : Below w.heap.size w w') : Sl w' v cs n := ⟨h.1.ext hb, h.2⟩
theorem Sl.nil (w : World) : Sl w (.slice none 0 0) [] 0 := ⟨IsSl.nil w, none, 0, rfl, Nat.le_refl _⟩
section
variable {P : Program} {N : Nat} {σ : Store} {w w' : World} {ops l : List Oper} {K : Act → World → Prop} {d : Nat} {ty : TypeId} {pos : String} {af : Array Edge} {gd : Option (Nat × Bool)} {v u : Value} {cs : List Value} {n : Nat} {t e : TypeId} {sz bytes : Nat}
theorem run_append_roomV (t ty e : TypeId) (i : TypeInfo) (ht : P.underlying t = some (.slice e)) (hi : P.info? e = some i)
  (g off sLen sCap : Nat) (cur : Array Value) (hg : w.heap[g]? = some (.cells cur e (0, 0)))
  (a : Addr) (m c : Nat) (news : List Value) (hl : news.length = m * i.size) (hnews : ∀ j u, news[j]? = some u → w.cell? (a.add j) = some u) (h1 : ∀ u ∈ news, u.oneCell' = true)
  (hroom : sLen + m ≤ sCap) (hfit : off + sLen * i.size + news.length ≤ cur.size) :
  (Builtin.append_ #[t, t] ty #[.slice (some ⟨g, off, none⟩) sLen sCap, .slice (some a) m c]).run P w =
   .ok (.slice (some ⟨g, off, none⟩) (sLen + m) sCap) (w.setRow g (cur.toList.take (off + sLen * i.size) ++ news ++ cur.toList.drop (off + sLen * i.size + news.length)).toArray) := by
 have hf := run_firstCells_some (P := P) w i.size m a m c news hl hnews
 have hst := run_storeCells_at P g (off + sLen * i.size) e news 0 cur w hg (by simpa using hfit) h1
 simp only [Nat.add_zero] at hst
 have hadd : (⟨g, off, none⟩ : Addr).add (sLen * i.size) = ⟨g, off + sLen * i.size, none⟩ := by unfold Addr.add; split <;> simp_all
 simp [Builtin.append_, run_underlying ht, sizeOf, typeInfo, hi, Builtin.lenOf, hroom, hf, hadd, hst]
theorem run_append_vw (hE : Elem P t e sz bytes) {xs : List Value} (hown : Vw w v e sz n xs) {v2 : Value} {m : Nat} {news : List Value} (hv2 : IsSl w v2 news m) (hl : news.length = m * sz) (h1 : ∀ u ∈ news, u.oneCell' = true)
  (hb : (n + m) * bytes ≤ 140737488355328) (h63 : n + m ≤ 9223372036854775807) :
  ∃ v' w', (Builtin.append_ #[t, t] ty #[v, v2]).run P w = .ok v' w' ∧ Vw w' v' e sz (n + m) (xs ++ news) ∧ w.grownBy w' v.ownBlock ∧ (∀ k, v'.ownBlock = some k → v.ownBlock = some k ∨ w.heap.size ≤ k) := by
 obtain ⟨i, z, g1, g2, g3, g4, g5⟩ := hE.info
 have same : ∀ {n0 : Nat}, Vw w v e sz n0 xs → m = 0 → news = [] → Vw w v e sz (n0 + m) (xs ++ news) := by
  intro n0 h hm hn; subst hm; subst hn; simpa using h
 rcases hv2 with ⟨hv2, rfl, rfl⟩ | ⟨b, off2, cap2, rfl, hc⟩
 ·refine ⟨v, w, ?_, same hown I rfl, grownBy_refl _ _, fun k hk => .inl hk⟩
  rcases hown.2 with ⟨rfl, rfl⟩ | ⟨g, off, cap, cur, rfl, _, hnc, _⟩
  ·rcases hv2 with rfl | ⟨a, c, rfl⟩
   ·simp [Builtin.append_, run_underlying hE.slice, sizeOf, typeInfo, g1, Builtin.lenOf, Builtin.firstCells]
   ·simp [Builtin.append_, run_underlying hE.slice, sizeOf, typeInfo, g1, Builtin.lenOf, Builtin.firstCells, loadCells, loadCellsFrom]
  ·rcases hv2 with rfl | ⟨a, c, rfl⟩
   ·simp [Builtin.append_, run_underlying hE.slice, sizeOf, typeInfo, g1, Builtin.lenOf, Builtin.firstCells, hnc, storeCells]
   ·simp [Builtin.append_, run_underlying hE.slice, sizeOf, typeInfo, g1, Builtin.lenOf, Builtin.firstCells, loadCells, loadCellsFrom, hnc, storeCells]
 ·have hadd : ∀ j, (⟨b, off2, none⟩ : Addr).add j = ⟨b, off2 + j, none⟩ := fun j => by unfold Addr.add; split <;> simp_all
  have hnews : ∀ j u, news[j]? = some u → w.cell? ((⟨b, off2, none⟩ : Addr).add j) = some u := fun j u hu => by rw [hadd]; exact hc j u hu
  subst g3
  subst g4
  have hlen : (xs ++ news).length = (n + m) * i.size := by rw [List.length_append, hown.1, hl, Nat.add_mul]
  have grown : ∀ (old : Nat), old < n + m → ∀ (row : Option Nat),
    Vw (w.drew.alloc (.cells (xs.toArray ++ news.toArray ++ Builtin.zeroCells z.cells (grownCap w (n + m) old e - (n + m))) e))
     (.slice (some ⟨w.heap.size, 0, none⟩) (n + m) (grownCap w (n + m) old e)) e i.size (n + m) (xs ++ news) ∧
    w.grownBy (w.drew.alloc (.cells (xs.toArray ++ news.toArray ++ Builtin.zeroCells z.cells (grownCap w (n + m) old e - (n + m))) e)) row := by
   intro old ho row
   have hge := grownCap_ge w (n + m) old e
   have hcm : grownCap w (n + m) old e ≤ maxLen := grownCap_le_maxLen w (n + m) old e (by unfold maxLen; omega)
   refine ⟨⟨hlen, .inr ⟨w.heap.size, 0, _, _, rfl, heap_alloc_new w.drew _, hge, hcm, ?_, ?_⟩⟩, ⟨rfl, rfl, rfl, by simp, fun k hk _ => heap_alloc_old w.drew _ hk⟩⟩
   ·simp only [Array.size_append, List.size_toArray, size_zeroCells, g5, hown.1, hl, ← Nat.add_mul]
    have : n + m + (grownCap w (n + m) old e - (n + m)) = grownCap w (n + m) old e := by omega
    rw [this]; omega
   ·simp only [Array.toList_append, List.append_assoc, List.drop_zero]
    rw [← List.append_assoc, ← hlen]
    exact List.take_left
  rcases hown.2 with ⟨rfl, rfl⟩ | ⟨g, off, cap, cur, rfl, hg, hnc, hcm, hcs, htake⟩
  ·have hx : xs = [] := List.eq_nil_of_length_eq_zero (by simpa using hown.1)
   subst hx
   by_cases hm : m = 0
   ·subst hm
    have hn : news = [] := List.eq_nil_of_length_eq_zero (by simpa using hl)
    subst hn
    refine ⟨.slice none 0 0, w, ?_, ⟨by simp, .inl ⟨rfl, rfl⟩⟩, grownBy_refl _ _, fun k hk => by cases hk⟩
    simp [Builtin.append_, run_underlying hE.slice, sizeOf, typeInfo, g1, Builtin.lenOf, Builtin.firstCells, loadCells, loadCellsFrom]
   ·have hr := run_append_nil (P := P) w t ty e i z hE.slice g1 g2 ⟨b, off2, none⟩ m cap2 news hl hnews (by omega) (by omega) (by have hb := hb; simp only [Nat.zero_add] at hb; omega)
    have hgr := grown 0 (by omega) (Value.ownBlock (.slice none 0 0))
    simp only [Nat.zero_add, List.nil_append, Array.empty_append] at hgr ⊢
    exact ⟨_, _, hr, hgr.1, hgr.2, fun k hk => by cases hk; exact .inr (Nat.le_refl _)⟩
  ·by_cases hroom : n + m ≤ cap
   ·have hmul : (n + m) * i.size ≤ cap * i.size := Nat.mul_le_mul_right _ hroom
    have hfit : off + n * i.size + news.length ≤ cur.size := by rw [hl]; rw [Nat.add_mul] at hmul; omega
    have hr := run_append_roomV (w := w) (P := P) t ty e i hE.slice g1 g off n cap cur hg ⟨b, off2, none⟩ m cap2 news hl hnews h1 hroom hfit
    refine ⟨_, _, hr, ⟨hlen, .inr ⟨g, off, cap, _, rfl, setRow_heap w g cur _ e _ hg, hroom, hcm, ?_, ?_⟩⟩, ⟨rfl, rfl, rfl, by simp, fun k _ hk => setRow_other w g k _ (fun e => hk (by simp [Value.ownBlock, e]))⟩, fun k hk => by cases hk; exact .inl rfl⟩
    ·simp only [List.size_toArray, List.length_append, List.length_take, List.length_drop, Array.length_toList]
     omega
    ·have hlen2 : off ≤ cur.toList.length := by rw [Array.length_toList]; omega
     have e1 : cur.toList.take (off + n * i.size) = cur.toList.take off ++ xs := by rw [← htake, List.take_add]
     simp only [e1, List.append_assoc]
     rw [List.drop_append_of_le_length (by simp; omega), List.drop_eq_nil_of_le (by simp; omega), List.nil_append, ← List.append_assoc, ← hlen]
     exact List.take_left
   ·have holds : ∀ j u, xs[j]? = some u → w.cell? ((⟨g, off, none⟩ : Addr).add j) = some u := by
     intro j u hu
     have ha : (⟨g, off, none⟩ : Addr).add j = ⟨g, off + j, none⟩ := by unfold Addr.add; split <;> simp_all
     rw [ha, cell_of_row w g (off + j) cur e (0, 0) hg]
     rw [← htake, List.getElem?_take] at hu
     split at hu
     ·simpa using hu
     ·cases hu
    have hr := run_append_grow (P := P) w t ty e i z hE.slice g1 g2 ⟨g, off, none⟩ n cap xs hown.1 holds ⟨b, off2, none⟩ m cap2 news hl hnews (by omega) (by omega) (growslice_fits (by omega) hb)
    have hgr := grown cap (by omega) (Value.ownBlock (.slice (some ⟨g, off, none⟩) n cap))
    exact ⟨_, _, hr, hgr.1, hgr.2, fun k hk => by cases hk; exact .inr (Nat.le_refl _)⟩
def subV (sz : Nat) (v : Value) (l h : Nat) : Value :=
 match v with
 | .slice a _ cap => .slice (if cap = l then a else a.map (·.add (l * sz))) (h - l) (cap - l)
 | v => v
theorem run_subV {b : TypeId} {l h : Nat} {lo hi : Option Value} (hT : P.underlying t = some (.slice e)) (hS : (P.info? e).map (·.size) = some sz) (hv : Sl w v cs n)
  (hlo : (lo = none ∧ l = 0) ∨ ∃ k, lo = some (.int k (l : Int))) (hhi : (hi = none ∧ h = n) ∨ ∃ k, hi = some (.int k (h : Int))) (h1 : l ≤ h) (h2 : h ≤ n) (w1 : World) :
  (Instr.sliceAt t v lo hi none).run P w1 = .ok (subV sz v l h) w1 := by
 obtain ⟨_, a, c, rfl, hc⟩ := hv
 obtain ⟨ti, g1, g2⟩ : ∃ ti, P.info? e = some ti ∧ ti.size = sz := by
  cases h : P.info? e with
  | none => rw [h] at hS; cases hS
  | some ti => rw [h] at hS; exact ⟨ti, rfl, by simpa using hS⟩
 have hl' : (l : Int) ≤ (h : Int) := by omega
 have hlc : h ≤ c := by omega
 have e0 : (sizeOf e).run P w1 = .ok sz w1 := by simp [sizeOf, typeInfo, g1, g2]
 rcases hlo with ⟨rfl, rfl⟩ | ⟨k1, rfl⟩ <;> rcases hhi with ⟨rfl, rfl⟩ | ⟨k2, rfl⟩ <;>
  simp [Instr.sliceAt, Instr.slice, Instr.sliceBounds, Instr.sliceBound, asIntOf, underlying, hT, e0, subV, h1, hlc]
theorem subV_block (sz : Nat) (v : Value) (l h : Nat) : (subV sz v l h).ownBlock = v.ownBlock := by
 unfold subV
 cases v with
 | slice a n c =>
  simp only [Value.ownBlock]
  split
  ·rename_i heq
   cases a with
   | none => simp at heq
   | some a =>
    simp only [Value.slice.injEq, Option.map_some] at heq
    split at heq
    ·have := heq.1; simp at this; subst this; rfl
    ·have := heq.1; simp at this; subst this; simp [Addr.add]; split <;> rfl
  ·rename_i heq
   cases a with
   | none => rfl
   | some a =>
    exfalso
    refine heq (if c = l then a else a.add (l * sz)) (h - l) (c - l) ?_
    simp only [Option.map_some]
    split <;> rfl
 | _ => rfl
theorem Sl.sub {xs : List Value} {l h : Nat} (hv : Sl w v xs n) (hl : xs.length = n * sz) (h1 : l ≤ h) (h2 : h ≤ n) : Sl w (subV sz v l h) ((xs.drop (l * sz)).take ((h - l) * sz)) (h - l) := by
 obtain ⟨hi, a, c, rfl, hc⟩ := hv
 refine ⟨?_, _, c - l, rfl, by omega⟩
 by_cases h0 : h - l = 0
 ·rw [h0]
  simp only [Nat.zero_mul, List.take_zero]
  unfold subV
  rw [h0]
  by_cases hcl : c = l
  ·subst hcl
   simp only [if_true, Nat.sub_self]
   cases a with
   | none => exact .inl ⟨.inl rfl, rfl, rfl⟩
   | some a => exact .inl ⟨.inr ⟨a, 0, rfl⟩, rfl, rfl⟩
  ·simp only [hcl, if_false]
   cases a with
   | none =>
    rcases hi with ⟨h | ⟨a, c', h⟩, _, _⟩ | ⟨b, off, cap, h, _⟩
    ·simp at h; omega
    ·simp at h
    ·simp at h
   | some a => exact .inl ⟨.inr ⟨_, _, rfl⟩, rfl, rfl⟩
 ·rcases hi with ⟨_, hn, _⟩ | ⟨b, off, cap, h, hcell⟩
  ·omega
  ·simp only [Value.slice.injEq] at h
   obtain ⟨rfl, _, rfl⟩ := h
   have hne : ¬ c = l := by omega
   have ha : (⟨b, off, none⟩ : Addr).add (l * sz) = ⟨b, off + l * sz, none⟩ := by unfold Addr.add; split <;> simp_all
   refine .inr ⟨b, off + l * sz, c - l, by simp [subV, hne, ha], fun j u hu => ?_⟩
   rw [List.getElem?_take] at hu
   split at hu
   ·rw [List.getElem?_drop] at hu
    have := hcell _ _ hu
    rwa [← Nat.add_assoc] at this
   ·cases hu
theorem Vw.sub {xs : List Value} {l h : Nat} (hv : Vw w v e sz n xs) (h1 : l ≤ h) (h2 : h ≤ n) : Vw w (subV sz v l h) e sz (h - l) ((xs.drop (l * sz)).take ((h - l) * sz)) := by
 obtain ⟨hl, hv⟩ := hv
 have hlen : ((xs.drop (l * sz)).take ((h - l) * sz)).length = (h - l) * sz := by
  have e1 : l * sz ≤ n * sz := Nat.mul_le_mul_right _ (by omega)
  have e2 : (h - l) * sz ≤ (n - l) * sz := Nat.mul_le_mul_right _ (by omega)
  rw [Nat.sub_mul n l sz] at e2
  rw [List.length_take, List.length_drop, hl]
  omega
 refine ⟨hlen, ?_⟩
 rcases hv with ⟨rfl, rfl⟩ | ⟨g, off, cap, cur, rfl, hg, hnc, hcm, hcs, htake⟩
 ·have : l = 0 := by omega
  have : h = 0 := by omega
  subst l; subst h
  exact .inl ⟨by simp [subV], rfl⟩
 ·have ha : (⟨g, off, none⟩ : Addr).add (l * sz) = ⟨g, off + l * sz, none⟩ := by unfold Addr.add; split <;> simp_all
  by_cases hcl : cap = l
  ·subst hcl
   have h0 : h - cap = 0 := by omega
   refine .inr ⟨g, off, 0, cur, by simp [subV, h0], hg, by omega, by omega, by omega, by simp [h0]⟩
  ·refine .inr ⟨g, off + l * sz, cap - l, cur, by simp [subV, hcl, ha], hg, by omega, by omega, ?_, ?_⟩
   ·have e1 : l * sz ≤ cap * sz := Nat.mul_le_mul_right _ (by omega)
    rw [Nat.sub_mul]; omega
   ·rw [← htake, List.drop_take, List.take_take, List.drop_drop]
    congr 1
    rw [Nat.min_eq_left]
    have e2 : (h - l) * sz ≤ (n - l) * sz := Nat.mul_le_mul_right _ (by omega)
    rw [Nat.sub_mul n l sz] at e2
    exact e2
end
end Go.GX
namespace Go.GX
open Go.RowKit
def takeL : Nat → List Value → Option (List Value)
 | 0, _ => some []
 | n + 1, c :: cs => match takeL n cs with
  | some l => some (c :: l)
  | none => none
 | _ + 1, [] => none
def rngV : List Value → Nat → Nat → Option (List Value)
 | cs, 0, m => takeL m cs
 | _ :: cs, o + 1, m => rngV cs o m
 | [], _ + 1, _ => none
theorem takeL_eq : ∀ {m : Nat} {cs us : List Value}, takeL m cs = some us → us = cs.take m ∧ us.length = m
 | 0, cs, us, h => by simp [takeL] at h; subst h; simp
 | n + 1, [], us, h => by simp [takeL] at h
 | n + 1, c :: cs, us, h => by
  unfold takeL at h
  split at h
  ·rename_i l hl; cases h
   obtain ⟨h1, h2⟩ := takeL_eq hl
   exact ⟨by simp [h1], by simp [h2]⟩
  ·cases h
theorem rngV_eq : ∀ {o m : Nat} {cs us : List Value}, rngV cs o m = some us → us = (cs.drop o).take m ∧ us.length = m
 | 0, m, cs, us, h => by unfold rngV at h; simpa using takeL_eq h
 | o + 1, m, c :: cs, us, h => by unfold rngV at h; simpa using rngV_eq h
 | o + 1, m, [], us, h => by simp [rngV] at h
theorem rngV_get {o m : Nat} {cs us : List Value} (h : rngV cs o m = some us) : ∀ (j : Nat) u, us[j]? = some u → cs[o + j]? = some u := by
 obtain ⟨h1, h2⟩ := rngV_eq h
 intro j u hu
 have hj : j < m := by
  have := (List.getElem?_eq_some_iff.1 hu).1; omega
 rw [h1, List.getElem?_take_of_lt hj, List.getElem?_drop] at hu
 exact hu
def overW : List Value → List Value → List Value
 | [], cs => cs
 | u :: us, _ :: cs => u :: overW us cs
 | _ :: _, [] => []
def putR : List Value → Nat → List Value → List Value
 | cs, 0, us => overW us cs
 | c :: cs, o + 1, us => c :: putR cs o us
 | [], _ + 1, _ => []
def lenV : List Value → Nat
 | [] => 0
 | _ :: r => lenV r + 1
theorem lenV_eq : ∀ (l : List Value), lenV l = l.length
 | [] => rfl
 | _ :: r => by simp [lenV, lenV_eq r]
theorem overW_eq : ∀ {us cs : List Value}, us.length ≤ cs.length → overW us cs = us ++ cs.drop us.length
 | [], cs, _ => by simp [overW]
 | u :: us, [], h => by simp at h
 | u :: us, c :: cs, h => by simp [overW, overW_eq (us := us) (cs := cs) (by simpa using h)]
theorem putR_eq : ∀ {o : Nat} {us cs : List Value}, o + us.length ≤ cs.length → putR cs o us = cs.take o ++ us ++ cs.drop (o + us.length)
 | 0, us, cs, h => by unfold putR; rw [overW_eq (by omega)]; simp
 | o + 1, us, [], h => by simp at h
 | o + 1, us, c :: cs, h => by
  unfold putR
  rw [putR_eq (by simp at h; omega)]
  simp only [List.take_succ_cons, List.cons_append, List.append_assoc]
  rw [show o + 1 + us.length = (o + us.length) + 1 by omega, List.drop_succ_cons]
def allOne : List Value → Bool
 | [] => true
 | .agg _ :: _ => false
 | .tuple _ :: _ => false
 | _ :: r => allOne r
theorem allOne_spec : ∀ {us : List Value}, allOne us = true → ∀ u ∈ us, u.oneCell' = true
 | [], _, u, hu => by cases hu
 | v :: r, h, u, hu => by
  rcases List.mem_cons.1 hu with rfl | hu
  ·cases u <;> first | rfl | (simp [allOne] at h)
  ·refine allOne_spec (us := r) ?_ u hu
   cases v <;> first | exact h | (simp [allOne] at h)
section
variable {P : Program} {f : FuncId} {N : Nat} {k : List Item} {σ : Store} {B : Base} {H H' : List Chunk} {R : Ending → World → Prop} {ops l : List Oper} {o : Oper} {K : Act → World → Prop} {KQ : Act → Prop}
 {d : Nat} {op : Op} {ty : TypeId} {pos : String} {af : Array Edge} {gd : Option (Nat × Bool)} {v u : Value} {w : World} {d' : Option Tmp}
theorem hx_loadB {t : TypeId} {td : TypeDesc} {x : Operand} {b j : Nat} {T : TypeId} {cs : List Value} (i : Nat) (hi : nthC H i = some (blkC b cs T)) (hT : P.underlying t = some td) (hp : plainT td = true)
  (hx : lookO σ x = some (.pointer (some ⟨b, j, none⟩))) (hu : nthV cs j = some u) : ∀ w, Sat B H w → (execOp (evO σ) ⟨d', .load t x, ty, pos, af, gd⟩).run P w = .ok (.value u) w := by
 intro w hw
 have hB : Blk w b cs T := hw.nth hi
 exact ex_load1 hT hp (evO_of_lookO hx) (by rw [hB.cell, ← nthV_eq]; exact hu)
theorem hx_loadR {t : TypeId} {td : TypeDesc} {x : Operand} {b o m : Nat} {T : TypeId} {cs us : List Value} (i : Nat) (hi : nthC H i = some (blkC b cs T)) (hT : P.underlying t = some td) (hr : td.isRow = true) (hm : (P.info? t).map (·.size) = some m)
  (hx : lookO σ x = some (.pointer (some ⟨b, o, none⟩))) (hu : rngV cs o m = some us) : ∀ w, Sat B H w → (execOp (evO σ) ⟨d', .load t x, ty, pos, af, gd⟩).run P w = .ok (.value (.agg ⟨us⟩)) w := by
 intro w hw
 have hB : Blk w b cs T := hw.nth hi
 exact ex_loadS (cs := us) (fun j u hj => by rw [hB.cell]; exact rngV_get hu j u hj) hT hr (by rw [(rngV_eq hu).2]; exact hm) hx
def Rd (B : Base) (H : List Chunk) (v : Value) (cs : List Value) (n : Nat) : Prop := ∀ w, Sat B H w → Sl w v cs n
theorem Rd.arg {w0 : World} {cs : List Value} {n : Nat} (hv : Sl w0 v cs n) : Rd (base w0) H v cs n := fun w hw => hv.ext hw.belowB
theorem Rd.own {e sz n : Nat} {xs : List Value} (i : Nat) (hi : nthC H i = some (ownC v e sz n xs)) : Rd B H v xs n := fun w hw => (show Vw w v e sz n xs from hw.nth hi).sl
theorem Rd.sub {sz n l h : Nat} {xs : List Value} (hv : Rd B H v xs n) (hl : xs.length = n * sz) (h1 : l ≤ h) (h2 : h ≤ n) : Rd B H (subV sz v l h) ((xs.drop (l * sz)).take ((h - l) * sz)) (h - l) := fun w hw => (hv w hw).sub hl h1 h2
theorem Rd.at {n : Nat} {xs : List Value} (hv : Rd B H v xs n) (hw : Sat B H w) : Sl w v xs n := hv w hw
theorem Rd.is {n : Nat} {xs : List Value} (hv : Rd B H v xs n) (hw : Sat B H w) : IsSl w v xs n := (hv w hw).1
theorem hx_len {t e : TypeId} {x : Operand} {n : Nat} {cs : List Value} (hv : Rd B H v cs n) (hT : P.underlying t = some (.slice e)) (hx : lookO σ x = some v) :
  ∀ w, Sat B H w → (execOp (evO σ) ⟨d', .call ⟨.builtin .len, #[x], #[t]⟩, ty, pos, af, gd⟩).run P w = .ok (.value (.int .i64 (n : Int))) w := fun w hw => ex_lenI (hv.is hw) hT hx w
theorem hx_idx {t e sz bytes : TypeId} {x i : Operand} {n : Nat} {cs : List Value} {kk : IntKind} {m : Int} (hv : Rd B H v cs n) (hE : Elem P t e sz bytes) (j : Nat) (hx : lookO σ x = some v) (hi : lookO σ i = some (.int kk m)) (hj : m = (j : Int)) (hlt : j < n) :
  ∀ w, Sat B H w → (execOp (evO σ) ⟨d', .indexAddr t x i, ty, pos, af, gd⟩).run P w = .ok (.value (elemPtr v (j * sz))) w := fun w hw => ex_idxI (hv.is hw) hE hx hi j hj hlt w
theorem hx_loadI {t : TypeId} {td : TypeDesc} {x : Operand} {n j : Nat} {cs : List Value} (hv : Rd B H v cs n) (hT : P.underlying t = some td) (hp : plainT td = true) (hx : lookO σ x = some (elemPtr v j)) (hu : cs[j]? = some u) :
  ∀ w, Sat B H w → (execOp (evO σ) ⟨d', .load t x, ty, pos, af, gd⟩).run P w = .ok (.value u) w := by
 intro w hw
 obtain ⟨p, h1, h2, _⟩ := (hv.is hw).cell hu
 rw [h1] at hx
 exact ex_load1 hT hp (evO_of_lookO hx) h2
theorem hx_loadE {t : TypeId} {td : TypeDesc} {x : Operand} {n j : Nat} {cs us : List Value} (hv : Rd B H v cs n) (hT : P.underlying t = some td) (hr : td.isRow = true) (hm : (P.info? t).map (·.size) = some us.length) (hne : us ≠ []) (hx : lookO σ x = some (elemPtr v j)) (hu : ∀ (i : Nat) u, us[i]? = some u → cs[j + i]? = some u) :
  ∀ w, Sat B H w → (execOp (evO σ) ⟨d', .load t x, ty, pos, af, gd⟩).run P w = .ok (.value (.agg ⟨us⟩)) w := by
 intro w hw
 obtain ⟨b, o, e1, e2⟩ := (hv.is hw).range (m := 0) hne hu
 rw [e1] at hx
 exact ex_loadS e2 hT hr hm hx
theorem hx_fieldE {s : TypeId} {x : Operand} {fl : List Field} {fi j n : Nat} {fd : Field} {ti : TypeInfo} {cs : List Value} (hv : Rd B H v cs n) (hj : j < cs.length) (hT : P.underlying s = some (.struct ⟨fl⟩)) (hf : nthF fl fi = some fd) (hti : P.info? fd.type = some ti) (hz : Nat.ble 1 ti.size = true) (hx : lookO σ x = some (elemPtr v j)) :
  ∀ w, Sat B H w → (execOp (evO σ) ⟨some d, .fieldAddr s x fi, ty, pos, af, gd⟩).run P w = .ok (.value (elemPtr v (j + fd.offset))) w := by
 intro w hw
 rcases (hv.is hw) with ⟨_, _, rfl⟩ | ⟨b, off, cap, rfl, _⟩
 ·simp at hj
 ·have hx' : lookO σ x = some (.pointer (some ⟨b, off + j, none⟩)) := hx
  have hz' : ti.size ≠ 0 := by have := Nat.le_of_ble_eq_true hz; omega
  have hc : evC P σ (.fieldAddr s x fi) = some (.pointer (some ⟨b, plusO (off + j) fd.offset, none⟩), 0 < 1) := by
   simp only [evC, hT, hx', hf, hti]
   split
   ·rename_i h0; exact absurd h0 hz'
   ·rfl
  have := evC_run (P := P) (w := w) (d := some d) (ty := ty) (pos := pos) (af := af) (gd := gd) hc (by decide)
  rw [this, plusO_eq]
  simp [elemPtr, Nat.add_assoc]
theorem hx_sub {t e sz : TypeId} {x : Operand} {lo hi : Option Operand} {n l h : Nat} {cs : List Value} (hv : Rd B H v cs n) (hT : P.underlying t = some (.slice e)) (hS : (P.info? e).map (·.size) = some sz) (hx : lookO σ x = some v)
  (hlo : (lo = none ∧ l = 0) ∨ ∃ y k, lo = some y ∧ lookO σ y = some (.int k (l : Int))) (hhi : (hi = none ∧ h = n) ∨ ∃ y k, hi = some y ∧ lookO σ y = some (.int k (h : Int))) (h1 : l ≤ h) (h2 : h ≤ n) :
  ∀ w, Sat B H w → (execOp (evO σ) ⟨d', .slice t x lo hi none, ty, pos, af, gd⟩).run P w = .ok (.value (subV sz v l h)) w := by
 intro w hw
 have := run_subV (P := P) (v := v) (lo := lo.map (evO σ)) (hi := hi.map (evO σ)) (b := 0) hT hS (hv w hw) (by
  rcases hlo with ⟨rfl, h⟩ | ⟨y, k, rfl, h⟩
  ·exact .inl ⟨rfl, h⟩
  ·exact .inr ⟨k, by simp [evO_of_lookO h]⟩) (by
  rcases hhi with ⟨rfl, h⟩ | ⟨y, k, rfl, h⟩
  ·exact .inl ⟨rfl, h⟩
  ·exact .inr ⟨k, by simp [evO_of_lookO h]⟩) h1 h2 w
 simp [execOp, evO_of_lookO hx, this]
theorem HL.lenR {t e : TypeId} {x : Operand} {n : Nat} {cs : List Value} (hv : Rd B H v cs n) (hs : stat N ops ⟨some d, .call ⟨.builtin .len, #[x], #[t]⟩, ty, pos, af, gd⟩ σ = true) (hT : P.underlying t = some (.slice e)) (hx : lookO σ x = some v)
  (h : HL P N ops l ((d, .int .i64 (n : Int)) :: σ) B H K) : HL P N ops (⟨some d, .call ⟨.builtin .len, #[x], #[t]⟩, ty, pos, af, gd⟩ :: l) σ B H K := HL.rd hs (hx_len hv hT hx) h
theorem HQ.lenR {t e : TypeId} {x : Operand} {n : Nat} {cs : List Value} (hv : Rd B H v cs n) (hs : stat N ops ⟨some d, .call ⟨.builtin .len, #[x], #[t]⟩, ty, pos, af, gd⟩ σ = true) (hT : P.underlying t = some (.slice e)) (hx : lookO σ x = some v)
  (h : HQ P N ops l ((d, .int .i64 (n : Int)) :: σ) B H KQ) : HQ P N ops (⟨some d, .call ⟨.builtin .len, #[x], #[t]⟩, ty, pos, af, gd⟩ :: l) σ B H KQ := RunQ.op hs (hx_len hv hT hx) h
theorem HL.idxR {t e sz bytes : TypeId} {x i : Operand} {n : Nat} {cs : List Value} {kk : IntKind} {m : Int} (hv : Rd B H v cs n) (hE : Elem P t e sz bytes) (j : Nat) (hs : stat N ops ⟨some d, .indexAddr t x i, ty, pos, af, gd⟩ σ = true) (hx : lookO σ x = some v) (hi : lookO σ i = some (.int kk m)) (hj : m = (j : Int)) (hlt : j < n)
  (h : HL P N ops l ((d, elemPtr v (j * sz)) :: σ) B H K) : HL P N ops (⟨some d, .indexAddr t x i, ty, pos, af, gd⟩ :: l) σ B H K := HL.rd hs (hx_idx hv hE j hx hi hj hlt) h
theorem HQ.idxR {t e sz bytes : TypeId} {x i : Operand} {n : Nat} {cs : List Value} {kk : IntKind} {m : Int} (hv : Rd B H v cs n) (hE : Elem P t e sz bytes) (j : Nat) (hs : stat N ops ⟨some d, .indexAddr t x i, ty, pos, af, gd⟩ σ = true) (hx : lookO σ x = some v) (hi : lookO σ i = some (.int kk m)) (hj : m = (j : Int)) (hlt : j < n)
  (h : HQ P N ops l ((d, elemPtr v (j * sz)) :: σ) B H KQ) : HQ P N ops (⟨some d, .indexAddr t x i, ty, pos, af, gd⟩ :: l) σ B H KQ := RunQ.op hs (hx_idx hv hE j hx hi hj hlt) h
theorem HL.loadI {t : TypeId} {td : TypeDesc} {x : Operand} {n j : Nat} {cs : List Value} (hv : Rd B H v cs n) (hs : stat N ops ⟨some d, .load t x, ty, pos, af, gd⟩ σ = true) (hT : P.underlying t = some td) (hp : plainT td = true) (hx : lookO σ x = some (elemPtr v j)) (hu : cs[j]? = some u)
  (h : HL P N ops l ((d, u) :: σ) B H K) : HL P N ops (⟨some d, .load t x, ty, pos, af, gd⟩ :: l) σ B H K := HL.rd hs (hx_loadI hv hT hp hx hu) h
theorem HQ.loadI {t : TypeId} {td : TypeDesc} {x : Operand} {n j : Nat} {cs : List Value} (hv : Rd B H v cs n) (hs : stat N ops ⟨some d, .load t x, ty, pos, af, gd⟩ σ = true) (hT : P.underlying t = some td) (hp : plainT td = true) (hx : lookO σ x = some (elemPtr v j)) (hu : cs[j]? = some u)
  (h : HQ P N ops l ((d, u) :: σ) B H KQ) : HQ P N ops (⟨some d, .load t x, ty, pos, af, gd⟩ :: l) σ B H KQ := RunQ.op hs (hx_loadI hv hT hp hx hu) h
theorem HL.loadE {t : TypeId} {td : TypeDesc} {x : Operand} {n j : Nat} {cs us : List Value} (hv : Rd B H v cs n) (hs : stat N ops ⟨some d, .load t x, ty, pos, af, gd⟩ σ = true) (hT : P.underlying t = some td) (hr : td.isRow = true) (hm : (P.info? t).map (·.size) = some us.length) (hne : us ≠ []) (hx : lookO σ x = some (elemPtr v j)) (hu : ∀ (i : Nat) u, us[i]? = some u → cs[j + i]? = some u)
  (h : HL P N ops l ((d, .agg ⟨us⟩) :: σ) B H K) : HL P N ops (⟨some d, .load t x, ty, pos, af, gd⟩ :: l) σ B H K := HL.rd hs (hx_loadE hv hT hr hm hne hx hu) h
theorem HQ.loadE {t : TypeId} {td : TypeDesc} {x : Operand} {n j : Nat} {cs us : List Value} (hv : Rd B H v cs n) (hs : stat N ops ⟨some d, .load t x, ty, pos, af, gd⟩ σ = true) (hT : P.underlying t = some td) (hr : td.isRow = true) (hm : (P.info? t).map (·.size) = some us.length) (hne : us ≠ []) (hx : lookO σ x = some (elemPtr v j)) (hu : ∀ (i : Nat) u, us[i]? = some u → cs[j + i]? = some u)
  (h : HQ P N ops l ((d, .agg ⟨us⟩) :: σ) B H KQ) : HQ P N ops (⟨some d, .load t x, ty, pos, af, gd⟩ :: l) σ B H KQ := RunQ.op hs (hx_loadE hv hT hr hm hne hx hu) h
theorem HL.fieldE {s : TypeId} {x : Operand} {fl : List Field} {fi j n : Nat} {fd : Field} {ti : TypeInfo} {cs : List Value} (hv : Rd B H v cs n) (hj : j < cs.length) (hs : stat N ops ⟨some d, .fieldAddr s x fi, ty, pos, af, gd⟩ σ = true) (hT : P.underlying s = some (.struct ⟨fl⟩)) (hf : nthF fl fi = some fd) (hti : P.info? fd.type = some ti) (hz : Nat.ble 1 ti.size = true) (hx : lookO σ x = some (elemPtr v j))
  (h : HL P N ops l ((d, elemPtr v (j + fd.offset)) :: σ) B H K) : HL P N ops (⟨some d, .fieldAddr s x fi, ty, pos, af, gd⟩ :: l) σ B H K := HL.rd hs (hx_fieldE hv hj hT hf hti hz hx) h
theorem HQ.fieldE {s : TypeId} {x : Operand} {fl : List Field} {fi j n : Nat} {fd : Field} {ti : TypeInfo} {cs : List Value} (hv : Rd B H v cs n) (hj : j < cs.length) (hs : stat N ops ⟨some d, .fieldAddr s x fi, ty, pos, af, gd⟩ σ = true) (hT : P.underlying s = some (.struct ⟨fl⟩)) (hf : nthF fl fi = some fd) (hti : P.info? fd.type = some ti) (hz : Nat.ble 1 ti.size = true) (hx : lookO σ x = some (elemPtr v j))
  (h : HQ P N ops l ((d, elemPtr v (j + fd.offset)) :: σ) B H KQ) : HQ P N ops (⟨some d, .fieldAddr s x fi, ty, pos, af, gd⟩ :: l) σ B H KQ := RunQ.op hs (hx_fieldE hv hj hT hf hti hz hx) h
theorem HL.isOp (h : HL P N ops (o :: l) σ B H K) : HL P N ops (o :: l) σ B H K := h
theorem HL.isLoad {t : TypeId} {x : Operand} (h : HL P N ops (⟨some d, .load t x, ty, pos, af, gd⟩ :: l) σ B H K) : HL P N ops (⟨some d, .load t x, ty, pos, af, gd⟩ :: l) σ B H K := h
theorem HL.isStore {t : TypeId} {x y : Operand} (h : HL P N ops (⟨none, .store t x y, ty, pos, af, gd⟩ :: l) σ B H K) : HL P N ops (⟨none, .store t x y, ty, pos, af, gd⟩ :: l) σ B H K := h
theorem HQ.isOp (h : HQ P N ops (o :: l) σ B H KQ) : HQ P N ops (o :: l) σ B H KQ := h
theorem HQ.isLoad {t : TypeId} {x : Operand} (h : HQ P N ops (⟨some d, .load t x, ty, pos, af, gd⟩ :: l) σ B H KQ) : HQ P N ops (⟨some d, .load t x, ty, pos, af, gd⟩ :: l) σ B H KQ := h
theorem HL.box {x : Operand} {T : TypeId} (hs : stat N ops ⟨some d, .box T x, ty, pos, af, gd⟩ σ = true) (hx : lookO σ x = some u)
  (h : ∀ b, HL P N ops l ((d, .pointer (some ⟨b, 0, none⟩)) :: σ) B (blkC b (cellsL u) T :: H) K) : HL P N ops (⟨some d, .box T x, ty, pos, af, gd⟩ :: l) σ B H K :=
 fun w hw => RunL.box hs hx fun w' h1 h2 _ => h w.heap.size w' (hw.push h2 h1 fun k hk => Nat.le_of_eq hk.symm)
theorem HL.alloc {T : TypeId} (hs : stat N ops ⟨some d, .alloc T, ty, pos, af, gd⟩ σ = true) (hz : (P.info? T).bind (·.zero) = some u)
  (h : ∀ b, HL P N ops l ((d, .pointer (some ⟨b, 0, none⟩)) :: σ) B (blkC b (cellsL u) T :: H) K) : HL P N ops (⟨some d, .alloc T, ty, pos, af, gd⟩ :: l) σ B H K :=
 fun w hw => RunL.alloc hs hz fun w' h1 h2 _ => h w.heap.size w' (hw.push h2 h1 fun k hk => Nat.le_of_eq hk.symm)
theorem run_storeR {t : TypeId} {b o : Nat} {T : TypeId} {cs us : List Value} {y : Value} (hB : Blk w b cs T) (hm : (P.info? t).map (·.size) = some us.length) (hy : cellsL y = us) (hone : allOne us = true) (hfit : o + us.length ≤ cs.length) :
  (storeVar t ⟨b, o, none⟩ y).run P w = .ok () (w.setRow b (putR cs o us).toArray) := by
 have e1 : (sizeOf t).run P w = .ok us.length w := by
  cases h : P.info? t with
  | none => rw [h] at hm; cases hm
  | some ti => rw [h] at hm; simp at hm; simp [sizeOf, typeInfo, h, hm]
 have hst := run_storeCells_at P b o T us 0 cs.toArray w hB (by simpa using hfit) (allOne_spec hone)
 have hc : y.cells = us.toArray := by rw [cellsL_eq, hy]
 simp only [Nat.add_zero] at hst
 have e2 : (cs.toArray.toList.take o ++ us ++ cs.toArray.toList.drop (o + us.length)).toArray = (putR cs o us).toArray := by rw [putR_eq hfit]
 rw [e2] at hst
 unfold storeVar
 rw [Sem.run_bind, e1]
 simp only [Result.andThen_ok, hc]
 simp [hst]
theorem HL.storeR {t : TypeId} {x y : Operand} {b o : Nat} {T : TypeId} {cs us : List Value} (i : Nat) (hx : lookO σ x = some (.pointer (some ⟨b, o, none⟩))) (hi : nthC H i = some (blkC b cs T)) (hs : stat N ops ⟨none, .store t x y, ty, pos, af, gd⟩ σ = true)
  (hy : lookO σ y = some u) (hus : cellsL u = us) (hm : (P.info? t).map (·.size) = some (lenV us)) (hone : allOne us = true) (hfit : Nat.ble (o + lenV us) (lenV cs) = true)
  (h : HL P N ops l σ B (setC H i (blkC b (putR cs o us) T)) K) : HL P N ops (⟨none, .store t x y, ty, pos, af, gd⟩ :: l) σ B H K := by
 rw [lenV_eq] at hm
 have hfit' := Nat.le_of_ble_eq_true hfit
 rw [lenV_eq, lenV_eq] at hfit'
 refine HL.opU hs (fun w hw => ?_) h
 have hB : Blk w b cs T := hw.nth hi
 have hr := run_storeR (P := P) (t := t) (o := o) hB hm hus hone hfit'
 have hB2 := hB
 unfold Blk at hB2
 refine ⟨w.setRow b (putR cs o us).toArray, ?_, ?_⟩
 ·simp [execOp, evO_of_lookO hx, evO_of_lookO hy, Instr.storeAt, Instr.sureAddr, hr]
 ·refine hw.upd hi I I I (by simp [World.setRow]) (fun k hk hne => ?_) ?_ (fun k hk => .inl hk)
  ·exact setRow_other w b k _ (fun e => hne e)
  ·show Blk _ b _ T
   unfold Blk; simp [World.setRow, hB2, Array.getElem?_modify]
theorem HL.appR {t e sz bytes : TypeId} {s x : Operand} {v2 : Value} {n m : Nat} {xs news : List Value} (i : Nat) (hi : nthC H i = some (ownC v e sz n xs)) (hE : Elem P t e sz bytes) (hv2 : Rd B H v2 news m)
  (hs : stat N ops ⟨some d, .call ⟨.builtin .append, #[s, x], #[t, t]⟩, ty, pos, af, gd⟩ σ = true) (hx : lookO σ s = some v) (hy : lookO σ x = some v2) (hl : news.length = m * sz) (h1 : ∀ u ∈ news, u.oneCell' = true)
  (hb : (n + m) * bytes ≤ 140737488355328) (h63 : n + m ≤ 9223372036854775807)
  (h : ∀ v', HL P N ops l ((d, v') :: σ) B (setC H i (ownC v' e sz (n + m) (xs ++ news))) K) : HL P N ops (⟨some d, .call ⟨.builtin .append, #[s, x], #[t, t]⟩, ty, pos, af, gd⟩ :: l) σ B H K := by
 refine HL.opX (fun v => v) (fun v' => setC H i (ownC v' e sz (n + m) (xs ++ news))) (fun _ => True) hs (fun w hw => ?_) (fun v' _ => h v')
 obtain ⟨v', w', hr, h2, h3, h4⟩ := run_append_vw (P := P) (ty := ty) hE (show Vw w v e sz n xs from hw.nth hi) (hv2.is hw) hl h1 hb h63
 refine ⟨v', w', ?_, trivial, hw.updG hi h3 (fun k hk => hk) h2 h4⟩
 simp [execOp, resolve, evO_of_lookO hx, evO_of_lookO hy, invoke, builtin, hr]
theorem HL.bslice {t e sz bytes : TypeId} {ps : List (Nat × Operand)} {xs : List Operand} {vs : List Value} {m : Nat} {cs : List Value} (hE : Elem P t e sz bytes) (hs : stat N ops ⟨some d, .buildSlice t m ps.toArray, ty, pos, af, gd⟩ σ = true) (hps : partsX 0 ps = some xs) (hvs : vals σ xs = some vs) (hcs : flatC sz vs = some cs) (hm : vs.length = m) (hsm : m * sz ≤ 16777216) (hm0 : 0 < m)
  (h : ∀ v', HL P N ops l ((d, v') :: σ) B (ownC v' e sz m cs :: H) K) : HL P N ops (⟨some d, .buildSlice t m ps.toArray, ty, pos, af, gd⟩ :: l) σ B H K :=
 fun w hw => RunL.bslice hE hs hps hvs hcs hm hsm hm0 fun w' v' h1 h2 h3 => h v' w' (hw.push h3 (Vw.of_own h1) (ownsRow_ge h1))
theorem Sat.nilC (h : Sat B H w) (e sz : Nat) : Sat B (ownC (.slice none 0 0) e sz 0 [] :: H) w :=
 h.push (Below.refl _ _) ⟨by simp, .inl ⟨rfl, rfl⟩⟩ (fun k hk => by cases hk)
theorem HR.nilC (e sz : Nat) (h : HR P f N k σ B (ownC (.slice none 0 0) e sz 0 [] :: H) R) : HR P f N k σ B H R := fun w hw => h w (hw.nilC e sz)
theorem HL.subO {t e sz : TypeId} {x : Operand} {lo hi : Option Operand} {n : Nat} (a b : Nat) {cs : List Value} (i : Nat) (hi' : nthC H i = some (ownC v e sz n cs)) (hs : stat N ops ⟨some d, .slice t x lo hi none, ty, pos, af, gd⟩ σ = true) (hT : P.underlying t = some (.slice e)) (hS : (P.info? e).map (·.size) = some sz) (hx : lookO σ x = some v)
  (hlo : (lo = none ∧ a = 0) ∨ ∃ y k, lo = some y ∧ lookO σ y = some (.int k (a : Int))) (hhi : (hi = none ∧ b = n) ∨ ∃ y k, hi = some y ∧ lookO σ y = some (.int k (b : Int))) (h1 : a ≤ b) (h2 : b ≤ n)
  (h : HL P N ops l ((d, subV sz v a b) :: σ) B (setC H i (ownC (subV sz v a b) e sz (b - a) ((cs.drop (a * sz)).take ((b - a) * sz)))) K) : HL P N ops (⟨some d, .slice t x lo hi none, ty, pos, af, gd⟩ :: l) σ B H K := by
 refine HL.rd hs (hx_sub (Rd.own i hi') hT hS hx hlo hhi h1 h2) fun w hw => h w (hw.as i hi' (fun hv => Vw.sub hv h1 h2) (fun k hk => ?_))
 have hk' : (subV sz v a b).ownBlock = some k := hk
 rw [subV_block] at hk'
 exact hk'
theorem flat_rep (zl : List Value) (hz : 0 < zl.length) : ∀ (n j : Nat), j < n * zl.length → ((List.replicate n zl).flatten)[j]? = zl[j % zl.length]?
 | 0, j, h => by simp at h
 | n + 1, j, h => by
  rw [List.replicate_succ, List.flatten_cons]
  by_cases hj : j < zl.length
  ·rw [List.getElem?_append_left hj, Nat.mod_eq_of_lt hj]
  ·rw [List.getElem?_append_right (by omega), flat_rep zl hz n (j - zl.length) (by rw [Nat.add_mul, Nat.one_mul] at h; omega)]
   rw [Nat.mod_eq_sub_mod (a := j) (by omega)]
theorem flat_rep_length (zl : List Value) : ∀ n, ((List.replicate n zl).flatten).length = n * zl.length
 | 0 => by simp
 | n + 1 => by rw [List.replicate_succ, List.flatten_cons, List.length_append, flat_rep_length zl n, Nat.add_mul]; omega
theorem HL.makeS {t e sz bytes : TypeId} {nn cc : Operand} {z : Value} {k1 k2 : IntKind} {a c : Int} (n cap : Nat) (hE : Elem P t e sz bytes) (hz : (P.info? e).bind (·.zero) = some z) (hs : stat N ops ⟨some d, .makeSlice t nn cc, ty, pos, af, gd⟩ σ = true)
  (hn : lookO σ nn = some (.int k1 a)) (hc : lookO σ cc = some (.int k2 c)) (ha : a = (n : Int)) (hac : c = (cap : Int)) (hnc : n ≤ cap) (hcb : bytes * cap ≤ 281474976710656) (hcm : cap ≤ 9223372036854775807)
  (h : ∀ v', HL P N ops l ((d, v') :: σ) B (ownC v' e sz n ((List.replicate n (cellsL z)).flatten) :: H) K) : HL P N ops (⟨some d, .makeSlice t nn cc, ty, pos, af, gd⟩ :: l) σ B H K := by
 subst ha
 subst hac
 obtain ⟨i, z', g1, g2, g3, g4, g5⟩ := hE.info
 have hzz : z' = z := by rw [g1] at hz; simpa [g2] using hz
 subst hzz
 have hpos := hE.pos
 have hzl : (cellsL z').length = sz := by
  have := g5; rw [cellsL_eq] at this; simpa using this
 refine HL.opX (fun v => v) (fun v' => ownC v' e sz n ((List.replicate n (cellsL z')).flatten) :: H) (fun _ => True) hs (fun w hw => ?_) (fun v' _ => h v')
 have hr := run_make (P := P) w t e i z' hE.slice g1 g2 k1 k2 (n : Int) (cap : Int) (by omega) (by omega) (by rw [g4, ← Int.natCast_mul]; exact Int.ofNat_le.2 hcb) (Int.ofNat_le.2 hcm)
 simp only [Int.toNat_natCast] at hr
 refine ⟨.slice (some ⟨w.heap.size, 0, none⟩) n cap, w.alloc (.cells (madeCells z'.cells (cap * i.size)) e), ?_, trivial, hw.push ((Below.refl _ _).alloc (Nat.le_refl _) _) ⟨?_, .inr ⟨w.heap.size, 0, cap, _, rfl, heap_alloc_new w _, hnc, by unfold maxLen; omega, ?_, ?_⟩⟩ (fun k hk => by cases hk; exact Nat.le_refl _)⟩
 ·simp [execOp, evO_of_lookO hn, evO_of_lookO hc, hr]
 ·rw [flat_rep_length, hzl]
 ·rw [size_madeCells, g3]; omega
 ·apply List.ext_getElem?
  intro j
  rw [List.drop_zero, List.getElem?_take]
  split
  ·rename_i hj
   rw [flat_rep _ (by omega) n j (by rw [hzl]; exact hj)]
   have hlt : j < cap * i.size := by rw [g3]; exact Nat.lt_of_lt_of_le hj (Nat.mul_le_mul_right _ hnc)
   have hmod : j % sz < sz := Nat.mod_lt _ hpos
   rw [Array.getElem?_toList]
   simp only [madeCells, Array.getElem?_map, Array.getElem?_range, hlt, if_true, Option.map_some, hzl, g5]
   rw [getElem!_pos z'.cells (j % sz) (by rw [g5]; exact hmod)]
   rw [List.getElem?_eq_getElem (by rw [hzl]; exact hmod)]
   congr 1
   simp only [cellsL_eq, List.getElem_toArray]
  ·rw [List.getElem?_eq_none (by rw [flat_rep_length, hzl]; omega)]
end
end Go.GX
