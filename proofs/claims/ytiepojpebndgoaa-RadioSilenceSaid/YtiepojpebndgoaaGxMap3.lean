/- Writing to a map. Conditions: none. -/
import Derived.Test.YtiepojpebndgoaaGxMap2
namespace Go.GX
open Go.RowKit
set_option linter.unusedVariables false
set_option linter.unusedSectionVars false
set_option linter.unusedSimpArgs false
section
variable {K : Type} [DecidableEq K]
def setM (k : K) (v : Value) : List (K × Value) → List (K × Value)
  | [] => [(k, v)]
  | (a, u) :: m => if k = a then (a, v) :: m else (a, u) :: setM k v m
def delM (k : K) : List (K × Value) → List (K × Value)
  | [] => []
  | (a, u) :: m => if k = a then m else (a, u) :: delM k m
theorem fndL_shift (k : K) : ∀ (m : List (K × Value)) (i : Nat), fndL k m i = (fndL k m 0).map (fun p => (p.1 + i, p.2))
  | [], i => rfl
  | (a, v) :: m, i => by
    unfold fndL
    split
    · simp
    · rw [fndL_shift k m (i + 1), fndL_shift k m (0 + 1)]
      cases fndL k m 0 with
      | none => rfl
      | some p => simp; omega
theorem setM_none {k : K} {v : Value} : ∀ {m : List (K × Value)}, fndL k m 0 = none → setM k v m = m ++ [(k, v)]
  | [], _ => rfl
  | (a, u) :: m, h => by
    unfold fndL at h
    split at h
    · cases h
    · rename_i hk
      rw [fndL_shift] at h
      have h' : fndL k m 0 = none := by cases hx : fndL k m 0 with
        | none => rfl
        | some p => rw [hx] at h; cases h
      unfold setM
      rw [if_neg hk, setM_none h']; rfl
theorem setM_some {k : K} {v : Value} : ∀ {m : List (K × Value)} {i : Nat} {u : Value}, fndL k m 0 = some (i, u) → setM k v m = m.modify i (fun p => (p.1, v)) ∧ m[i]? = some (k, u)
  | [], i, u, h => by cases h
  | (a, w) :: m, i, u, h => by
    unfold fndL at h
    split at h
    · rename_i hk
      cases h
      subst hk
      exact ⟨by unfold setM; rw [if_pos rfl]; rfl, rfl⟩
    · rename_i hk
      rw [fndL_shift] at h
      cases hx : fndL k m 0 with
      | none => rw [hx] at h; cases h
      | some p =>
        rw [hx] at h
        obtain ⟨j, u'⟩ := p
        simp only [Option.map_some, Option.some.injEq, Prod.mk.injEq] at h
        obtain ⟨rfl, rfl⟩ := h
        obtain ⟨h1, h2⟩ := setM_some (v := v) hx
        refine ⟨?_, by simpa using h2⟩
        unfold setM
        rw [if_neg hk, h1]; rfl
end
end Go.GX
namespace Go.GX
open Go.RowKit
section
variable {K : Type} [DecidableEq K] {P : Program} {t kt et : TypeId} {enc : K → Value} {w : World} {b : Nat} {m : List (K × Value)}
theorem fndL_none_ne {k : K} : ∀ {m : List (K × Value)}, fndL k m 0 = none → ∀ p ∈ m, p.1 ≠ k
  | [], _, p, hp => by cases hp
  | (a, u) :: m, h, p, hp => by
    unfold fndL at h
    split at h
    · cases h
    · rename_i hk
      rw [fndL_shift] at h
      have h' : fndL k m 0 = none := by cases hx : fndL k m 0 with
        | none => rfl
        | some q => rw [hx] at h; cases h
      rcases List.mem_cons.1 hp with rfl | hp
      · exact fun e => hk e.symm
      · exact fndL_none_ne h' p hp
/-- 'm[k] = v'. -/
theorem run_updateM (hK : KeyK P kt enc) (hm : P.underlying t = some (.map kt et)) (h : MapAt enc w b m) (k : K) (v : Value) :
    ∃ w', (Instr.mapUpdate t (.map (some b)) (enc k) v).run P w = .ok () w' ∧ MapAt enc w' b (setM k v m) ∧ w.grownBy w' (some b) ∧ w'.heap.size = w.heap.size := by
  obtain ⟨es, clock, h1, h2, h3⟩ := h
  have hf := hK.find k m es.toList w h2
  have grown : ∀ o, w.grownBy { w with heap := w.heap.setIfInBounds b o } (some b) := fun o => ⟨rfl, rfl, rfl, by simp, fun r hr hne => (MapKept.heap_set h1).2 r (fun e => hne (by rw [e]))⟩
  cases hx : fndL k m 0 with
  | none =>
    rw [hx] at hf
    refine ⟨{ w with heap := w.heap.setIfInBounds b (.map (es.push { key := enc k, val := v, born := clock }) (clock + 1)) }, ?_, ⟨_, _, (MapKept.heap_set h1).1, ?_, MapKept.stamped_push h3 ?_⟩, grown _, by simp⟩
    · simp [Instr.mapUpdate, run_underlying hm, MapKept.run_getObj_map h1, hK.check, hf, MapKept.run_setObj_map _ h1, Result.andThen]
    · rw [setM_none hx]; simp [h2]
    · intro x hx' e
      have hmem : (x.key, x.val) ∈ es.toList.map (fun e => (e.key, e.val)) := List.mem_map.2 ⟨x, hx', rfl⟩
      rw [h2] at hmem
      obtain ⟨p, hp, he⟩ := List.mem_map.1 hmem
      simp only [Prod.mk.injEq] at he
      exact fndL_none_ne hx p hp (hK.inj _ _ (he.1.trans e))
  | some p =>
    obtain ⟨i, u⟩ := p
    rw [hx] at hf
    obtain ⟨g1, g2⟩ := setM_some (v := v) hx
    have hi : (es.toList.map (fun e => (e.key, e.val)))[i]? = some (enc k, u) := by rw [h2, List.getElem?_map, g2]; rfl
    rw [List.getElem?_map] at hi
    cases he : es.toList[i]? with
    | none => rw [he] at hi; cases hi
    | some e0 =>
      rw [he] at hi
      simp only [Option.map_some, Option.some.injEq, Prod.mk.injEq] at hi
      have hj : es[i]? = some e0 := by simpa using he
      refine ⟨{ w with heap := w.heap.setIfInBounds b (.map (es.modify i fun e => { e with key := enc k, val := v }) clock) }, ?_, ⟨_, _, (MapKept.heap_set h1).1, ?_, MapKept.stamped_modify h3 _ _ (fun _ _ => rfl) (fun e' _ he' => by rw [hj] at he'; cases he'; exact hi.1.symm)⟩, grown _, by simp⟩
      · simp [Instr.mapUpdate, run_underlying hm, MapKept.run_getObj_map h1, hK.check, hf, hj, hi.1, hK.stays, MapKept.run_setObj_map _ h1, Result.andThen]
      · rw [g1]
        apply List.ext_getElem?
        intro j
        have h2j : (es.toList.map (fun e => (e.key, e.val)))[j]? = (m.map (fun p => (enc p.1, p.2)))[j]? := by rw [h2]
        simp only [List.getElem?_map, Array.getElem?_toList, Array.getElem?_modify, List.getElem?_modify] at h2j ⊢
        by_cases hij : i = j
        · subst hij
          rw [hj, g2]; simp
        · simp only [hij, if_false]
          simpa using h2j
end
end Go.GX
