/- Maps: a block that holds the pairs of a list, and what the operations do to it. Conditions: none. -/
import Derived.Test.YtiepojpebndgoaaGxMore
import Derived.Carry
import Derived.Laws.StructEq
import Derived.MapKept
namespace Go.GX
open Go.RowKit
set_option linter.unusedVariables false
set_option linter.unusedSectionVars false
set_option linter.unusedSimpArgs false

def fndL {K : Type} [DecidableEq K] (k : K) : List (K × Value) → Nat → Option (Nat × Value)
  | [], _ => none
  | (a, v) :: m, i => if k = a then some (i, v) else fndL k m (i + 1)

/-- What a key's type must grant. -/
structure KeyK (P : Program) (kt : TypeId) {K : Type} [DecidableEq K] (enc : K → Value) : Prop where
  find : ∀ (k : K) (m : List (K × Value)) (es : List MapEntry) (w : World), es.map (fun e => (e.key, e.val)) = m.map (fun p => (enc p.1, p.2)) → (Instr.findKey kt (enc k) es).run P w = .ok (fndL k m 0) w
  check : ∀ (e : Bool) (k : K) (w : World), (Instr.checkKey e 10000 kt (enc k)).run P w = .ok () w
  stays : ∀ (k : K) (w : World), (Instr.keyThatStays (enc k) (enc k)).run P w = .ok (enc k) w
  inj : ∀ a b : K, enc a = enc b → a = b

theorem findNow_int (k : Int) : ∀ (m : List (Int × Value)) (es : List MapEntry) (i : Nat), es.map (fun e => (e.key, e.val)) = m.map (fun p => (Value.int .i64 p.1, p.2)) → Instr.findNow (.int .i64) (.int .i64 k) es i = some (fndL k m i)
  | [], es, i, h => by
    have : es = [] := by simpa using h
    subst this; rfl
  | (a, v) :: m, [], i, h => by simp at h
  | (a, v) :: m, e :: es, i, h => by
    simp only [List.map_cons, List.cons.injEq, Prod.mk.injEq] at h
    obtain ⟨⟨h1, h2⟩, h3⟩ := h
    unfold Instr.findNow fndL
    rw [h1]
    simp only [Instr.sameNow]
    by_cases e : k = a
    · subst e; simp [h2]
    · have e2 : (k == a) = false := by simpa using e
      rw [e2, if_neg e]
      simp only [if_true]
      exact findNow_int k m es (i + 1) h3

theorem key_int {P : Program} {kt : TypeId} (ht : P.underlying kt = some (.int .i64)) : KeyK P kt (fun z : Int => Value.int .i64 z) := by
  have hk : ∀ k, MapKept.IsKey (.int .i64) (Value.int .i64 k) := fun k => by simp [MapKept.IsKey]
  exact ⟨fun k m es w h => MapKept.run_findKey ht (findNow_int k m es 0 h), fun e k w => MapKept.run_checkKey ht (hk k) e 9999, fun k w => MapKept.run_keyThatStays (hk k), fun a b h => by simpa using h⟩
end Go.GX
namespace Go.GX
open Go.RowKit
set_option linter.unusedVariables false
set_option linter.unusedSectionVars false
set_option linter.unusedSimpArgs false
section
variable {K : Type} [DecidableEq K] {P : Program} {kt : TypeId} {enc : K → Value} {w w' : World} {b : Nat} {m : List (K × Value)}
/-- Block b holds a map with these pairs, in the order of their coming. -/
def MapAt (enc : K → Value) (w : World) (b : Nat) (m : List (K × Value)) : Prop :=
  ∃ es clock, w.heap[b]? = some (.map es clock) ∧ es.toList.map (fun e => (e.key, e.val)) = m.map (fun p => (enc p.1, p.2)) ∧ MapKept.Stamped es clock
/-- The value at a key. -/
def getM (k : K) : List (K × Value) → Option Value
  | [] => none
  | (a, v) :: m => if k = a then some v else getM k m
theorem fndL_getM (k : K) : ∀ (m : List (K × Value)) (i : Nat), (fndL k m i).map (·.2) = getM k m
  | [], i => rfl
  | (a, v) :: m, i => by
    unfold fndL getM
    split
    · rfl
    · exact fndL_getM k m (i + 1)
theorem MapAt.below (h : MapAt enc w b m) (hb : Below w.heap.size w w') : MapAt enc w' b m := by
  obtain ⟨es, clock, h1, h2, h3⟩ := h
  have hlt : b < w.heap.size := (Array.getElem?_eq_some_iff.1 h1).1
  exact ⟨es, clock, by rw [hb.block b hlt]; exact h1, h2, h3⟩
end
end Go.GX
