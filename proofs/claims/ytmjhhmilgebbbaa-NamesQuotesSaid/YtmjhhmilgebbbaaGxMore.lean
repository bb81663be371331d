/- Small rules more. Conditions: none. -/
import Derived.Test.YtmjhhmilgebbbaaGxDraw
namespace Go.GX
open Go.RowKit
set_option linter.unusedVariables false
section
variable {P : Program} {N : Nat} {σ : Store} {w : World} {ops l : List Oper} {K : Act → World → Prop}
/-- A slot's value written otherwise. -/
theorem RunL.setV (t : Nat) {v v' : Value} (hl : look σ t = some v) (e : v = v') (h : RunL P N ops l ((t, v') :: σ) w K) : RunL P N ops l σ w K :=
  fun a ha => h a (ha.weaken fun t' u hu => by
    rw [look_cons] at hu
    split at hu
    · rename_i e'; subst e'; cases hu; rw [← e]; exact hl
    · exact hu)
/-- A test that is known. -/
theorem RunL.setB (t : Nat) {b : Bool} (c : Bool) (hl : look σ t = some (.bool b)) (e : b = c) (h : RunL P N ops l ((t, .bool c) :: σ) w K) : RunL P N ops l σ w K :=
  RunL.setV t hl (by rw [e]) h
end
end Go.GX
namespace Go.GX
open Go.RowKit
set_option linter.unusedVariables false
section
variable {P : Program} {N : Nat} {σ : Store} {w w' : World} {ops l : List Oper} {K : Act → World → Prop} {d : Nat} {ty : TypeId} {pos : String} {af : Array Edge} {gd : Option (Nat × Bool)} {v u : Value} {n : Nat} {t e : TypeId} {sz bytes : Nat}
/-- A store into an element of one's own slice. -/
theorem RunL.storeO {w0 : World} {xs : List Value} {x y : Operand} {j : Nat} (ho : OwnS w0 w e sz v n xs) (hs : stat N ops ⟨none, .store t x y, ty, pos, af, gd⟩ σ = true) (hS : (P.info? t).map (·.size) = some 1) (hx : lookO σ x = some (elemPtr v j)) (hy : lookO σ y = some u) (h1 : u.cells = #[u]) (h2 : u.oneCell' = true) (hj : j < n * sz)
    (h : ∀ w', OwnS w0 w' e sz v n (xs.set j u) → w.grownBy w' v.ownBlock → w'.heap.size = w.heap.size → RunL P N ops l σ w' K) : RunL P N ops (⟨none, .store t x y, ty, pos, af, gd⟩ :: l) σ w K := by
  have hlt := ho.own.lt
  rcases ho.own.2 with ⟨_, hn⟩ | ⟨g, cap, cur, hv, _⟩
  · subst hn; omega
  · subst hv
    have hl := ho.len
    have hc : w.cell? ⟨g, j, none⟩ = some (xs[j]'(by omega)) := by rw [ho.own.cellAt j hj]; exact List.getElem?_eq_getElem (by omega)
    obtain ⟨k1, k2⟩ := ho.own.stored j u
    have hx' : lookO σ x = some (.pointer (some ⟨g, j, none⟩)) := by rw [hx]; simp [elemPtr]
    refine RunL.opU (w' := w.setCell ⟨g, j, none⟩ u) hs ?_ (h _ ⟨ho.below.grown k2 ho.below.size (fun k hk => ?_), k1⟩ k2 (by simp [World.setCell]))
    · simp [execOp, evO_of_lookO hx', evO_of_lookO hy, Instr.storeAt, Instr.sureAddr, run_storeVar1 hS h1 h2 hc (ho.own.frozenAt j)]
    · cases hk; exact (hlt g rfl).1
end
end Go.GX
