/- More rules: a slice held against nil, an empty slice's literal. Conditions: as each says. -/
import Derived.Test.YtiepojpebndgoaaGxD2
namespace Go.GX
open Go.RowKit
set_option linter.unusedVariables false
set_option linter.unusedSectionVars false
set_option linter.unusedSimpArgs false
section
variable {P : Program} {f : FuncId} {N : Nat} {k : List Item} {σ : Store} {B : Base} {H H' F : List Chunk} {R : Ending → World → Prop} {ops l : List Oper} {o : Oper} {K : Act → World → Prop} {KQ : Act → Prop} {C : World → Prop}
  {d : Nat} {op : Op} {ty : TypeId} {pos : String} {af : Array Edge} {gd : Option (Nat × Bool)} {v u : Value} {w : World} {d' : Option Tmp} {p : List (Nat × Bool)} {i : Nat} {S : World → Prop}
theorem run_eqSl (w : World) (n : Nat) (t e : TypeId) (a : Option Addr) (m c m' c' : Nat) (h : P.underlying t = some (.slice e)) : (Op.equalIn (n + 1) t (.slice a m c) (.slice none m' c')).run P w = .ok a.isNone w := by
  cases a <;> simp [Op.equalIn, run_underlying h]
theorem hx_eqNil {t e t' : TypeId} {x y : Operand} {a : Option Addr} {m c m' c' : Nat} (hT : P.underlying t = some (.slice e)) (hx : lookO σ x = some (.slice a m c)) (hy : lookO σ y = some (.slice none m' c')) :
    ∀ w, (execOp (evO σ) ⟨d', .binOp .eql t x y t', ty, pos, af, gd⟩).run P w = .ok (.value (.bool a.isNone)) w := by
  intro w
  have h1 := run_eqSl w 9999 t e a m c m' c' hT
  simp [execOp, evO_of_lookO hx, evO_of_lookO hy, eqGuard, binOp, Op.equal, Op.maxDepth, h1]
theorem hx_neNil {t e t' : TypeId} {x y : Operand} {a : Option Addr} {m c m' c' : Nat} (hT : P.underlying t = some (.slice e)) (hx : lookO σ x = some (.slice a m c)) (hy : lookO σ y = some (.slice none m' c')) :
    ∀ w, (execOp (evO σ) ⟨d', .binOp .neq t x y t', ty, pos, af, gd⟩).run P w = .ok (.value (.bool (!a.isNone))) w := by
  intro w
  have h1 := run_eqSl w 9999 t e a m c m' c' hT
  simp [execOp, evO_of_lookO hx, evO_of_lookO hy, eqGuard, binOp, Op.equal, Op.maxDepth, h1]
theorem HL.eqNil {t e t' : TypeId} {x y : Operand} {a : Option Addr} {m c m' c' : Nat} (hs : stat N ops ⟨some d, .binOp .eql t x y t', ty, pos, af, gd⟩ σ = true) (hT : P.underlying t = some (.slice e)) (hx : lookO σ x = some (.slice a m c)) (hy : lookO σ y = some (.slice none m' c'))
    (h : HL P N ops l ((d, .bool a.isNone) :: σ) B H K) : HL P N ops (⟨some d, .binOp .eql t x y t', ty, pos, af, gd⟩ :: l) σ B H K := HL.rd hs (fun w _ => hx_eqNil hT hx hy w) h
theorem HL.neNil {t e t' : TypeId} {x y : Operand} {a : Option Addr} {m c m' c' : Nat} (hs : stat N ops ⟨some d, .binOp .neq t x y t', ty, pos, af, gd⟩ σ = true) (hT : P.underlying t = some (.slice e)) (hx : lookO σ x = some (.slice a m c)) (hy : lookO σ y = some (.slice none m' c'))
    (h : HL P N ops l ((d, .bool (!a.isNone)) :: σ) B H K) : HL P N ops (⟨some d, .binOp .neq t x y t', ty, pos, af, gd⟩ :: l) σ B H K := HL.rd hs (fun w _ => hx_neNil hT hx hy w) h
theorem HQ.eqNil {t e t' : TypeId} {x y : Operand} {a : Option Addr} {m c m' c' : Nat} (hs : stat N ops ⟨some d, .binOp .eql t x y t', ty, pos, af, gd⟩ σ = true) (hT : P.underlying t = some (.slice e)) (hx : lookO σ x = some (.slice a m c)) (hy : lookO σ y = some (.slice none m' c'))
    (h : HQ P N ops l ((d, .bool a.isNone) :: σ) B H KQ) : HQ P N ops (⟨some d, .binOp .eql t x y t', ty, pos, af, gd⟩ :: l) σ B H KQ := RunQ.op hs (fun w _ => hx_eqNil hT hx hy w) h
/-- An empty slice's literal: a new block of no cells. -/
theorem HL.bslice0 {t e sz bytes : TypeId} (hE : Elem P t e sz bytes) (hs : stat N ops ⟨some d, .buildSlice t 0 #[], ty, pos, af, gd⟩ σ = true)
    (h : ∀ v', HL P N ops l ((d, v') :: σ) B (ownC v' e sz 0 [] :: H) K) : HL P N ops (⟨some d, .buildSlice t 0 #[], ty, pos, af, gd⟩ :: l) σ B H K := by
  intro w hw
  obtain ⟨i, z, g1, g2, g3, g4, g5⟩ := hE.info
  have hr : (execOp (evO σ) ⟨some d, .buildSlice t 0 #[], ty, pos, af, gd⟩).run P w = .ok (.value (.slice (some ⟨w.heap.size, 0, none⟩) 0 0)) (w.alloc (.cells #[] e)) := by
    have e0 : (sizeOf e).run P w = .ok sz w := by simp [sizeOf, typeInfo, g1, g3]
    simp [execOp, Instr.buildSlice, run_underlying hE.slice, e0, Instr.fill, newRow]
    congr 2
    exact Array.eq_empty_of_size_eq_zero (by simp)
  refine RunL.op hs hr (h _ _ (hw.push ((Below.refl _ _).alloc (Nat.le_refl _) _) ⟨by simp, .inr ⟨w.heap.size, 0, 0, #[], rfl, heap_alloc_new w _, Nat.le_refl _, by unfold maxLen; omega, by simp, by simp⟩⟩ (fun k hk => by cases hk; exact Nat.le_refl _)))
end
end Go.GX
