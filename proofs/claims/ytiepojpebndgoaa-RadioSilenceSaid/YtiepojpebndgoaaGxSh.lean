/- The rules for cells of variables, in short form. Conditions: as each says. -/
import Derived.Test.YtiepojpebndgoaaGxIter
namespace Go.GX
open Go.RowKit
set_option linter.unusedVariables false
set_option linter.unusedSectionVars false
set_option linter.unusedSimpArgs false
def plainTy (P : Program) (t : TypeId) : Bool := match P.underlying t with
  | some td => plainT td
  | none => false
theorem plainTy_spec {P : Program} {t : TypeId} (h : plainTy P t = true) : ∃ td, P.underlying t = some td ∧ plainT td = true := by
  unfold plainTy at h
  split at h
  · rename_i td hu; exact ⟨td, hu, h⟩
  · cases h
/-- What a load of type t from cells cs at o yields. -/
def ldV (P : Program) (t : TypeId) (cs : List Value) (o : Nat) : Option Value := match P.underlying t with
  | some td => match plainT td with
    | true => nthV cs o
    | false => match P.info? t with
      | some ti => match rngV cs o ti.size with
        | some us => some (.agg ⟨us⟩)
        | none => none
      | none => none
  | none => none
/-- The cells behind a store of type t. -/
def stV (P : Program) (t : TypeId) (cs : List Value) (o : Nat) (u : Value) : Option (List Value) := match P.info? t with
  | some ti => match Nat.beq ti.size (lenV (cellsL u)), allOne (cellsL u), Nat.ble (o + lenV (cellsL u)) (lenV cs) with
    | true, true, true => some (putR cs o (cellsL u))
    | _, _, _ => none
  | none => none
section
variable {P : Program} {f : FuncId} {N : Nat} {k : List Item} {σ : Store} {B : Base} {H H' F : List Chunk} {R : Ending → World → Prop} {ops l : List Oper} {o : Oper} {K : Act → World → Prop} {KQ : Act → Prop}
  {d : Nat} {op : Op} {ty : TypeId} {pos : String} {af : Array Edge} {gd : Option (Nat × Bool)} {v u : Value} {w : World} {d' : Option Tmp}
theorem isRow_of {td : TypeDesc} (h : plainT td = false) : td.isRow = true := by cases td <;> first | rfl | (simp [plainT] at h)
theorem hx_ld {t : TypeId} {x : Operand} {b j : Nat} {T : TypeId} {cs : List Value} (i : Nat) (hx : lookO σ x = some (.pointer (some ⟨b, j, none⟩))) (hi : nthC H i = some (blkC b cs T)) (hu : ldV P t cs j = some u) :
    ∀ w, Sat B H w → (execOp (evO σ) ⟨d', .load t x, ty, pos, af, gd⟩).run P w = .ok (.value u) w := by
  unfold ldV at hu
  split at hu
  · rename_i td hT
    split at hu
    · rename_i hp; exact hx_loadB i hi hT hp hx hu
    · rename_i hp
      split at hu
      · rename_i ti hti
        split at hu
        · rename_i us hus; cases hu; exact hx_loadR i hi hT (isRow_of hp) (by rw [hti]; rfl) hx hus
        · cases hu
      · cases hu
  · cases hu
/-- A load from a variable of one's own. -/
theorem HL.L {t : TypeId} {x : Operand} {b j : Nat} {T : TypeId} {cs : List Value} (i : Nat) (hx : lookO σ x = some (.pointer (some ⟨b, j, none⟩))) (hi : nthC H i = some (blkC b cs T)) (hs : stat N ops ⟨some d, .load t x, ty, pos, af, gd⟩ σ = true) (hu : ldV P t cs j = some u)
    (h : HL P N ops l ((d, u) :: σ) B H K) : HL P N ops (⟨some d, .load t x, ty, pos, af, gd⟩ :: l) σ B H K := HL.rd hs (hx_ld i hx hi hu) h
theorem HQ.L {t : TypeId} {x : Operand} {b j : Nat} {T : TypeId} {cs : List Value} (i : Nat) (hx : lookO σ x = some (.pointer (some ⟨b, j, none⟩))) (hi : nthC H i = some (blkC b cs T)) (hs : stat N ops ⟨some d, .load t x, ty, pos, af, gd⟩ σ = true) (hu : ldV P t cs j = some u)
    (h : HQ P N ops l ((d, u) :: σ) B H KQ) : HQ P N ops (⟨some d, .load t x, ty, pos, af, gd⟩ :: l) σ B H KQ := RunQ.op hs (hx_ld i hx hi hu) h
theorem HD.L {t : TypeId} {x : Operand} {b j n : Nat} {p : List (Nat × Bool)} {T : TypeId} {cs : List Value} (i : Nat) (hx : lookO σ x = some (.pointer (some ⟨b, j, none⟩))) (hi : nthC F i = some (blkC b cs T)) (ho : ops[n]? = some ⟨some d, .load t x, ty, pos, af, gd⟩) (hs : stat N ops ⟨some d, .load t x, ty, pos, af, gd⟩ σ = true) (hu : ldV P t cs j = some u)
    (h : HD P N ops p ((d, u) :: σ) B H F K) : HD P N ops ((n, true) :: p) σ B H F K := HD.rd ho hs (hx_ld i hx hi hu) h
/-- A store into one. -/
theorem HL.S {t : TypeId} {x y : Operand} {b o : Nat} {T : TypeId} {cs cs' : List Value} (i : Nat) (hx : lookO σ x = some (.pointer (some ⟨b, o, none⟩))) (hi : nthC H i = some (blkC b cs T)) (hs : stat N ops ⟨none, .store t x y, ty, pos, af, gd⟩ σ = true) (hy : lookO σ y = some u) (hc : stV P t cs o u = some cs')
    (h : HL P N ops l σ B (setC H i (blkC b cs' T)) K) : HL P N ops (⟨none, .store t x y, ty, pos, af, gd⟩ :: l) σ B H K := by
  unfold stV at hc
  split at hc
  · rename_i ti hti
    split at hc
    · rename_i h1 h2 h3
      cases hc
      exact HL.storeR i hx hi hs hy rfl (by rw [hti, ← Nat.eq_of_beq_eq_true h1]; rfl) h2 h3 h
    · cases hc
  · cases hc
end
end Go.GX
