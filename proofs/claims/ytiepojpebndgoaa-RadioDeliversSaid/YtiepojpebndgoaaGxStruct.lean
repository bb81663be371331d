/- Values of several cells: load and store. Conditions: none. -/
import Derived.Test.YtiepojpebndgoaaGxMore
import Derived.Deep.MidRow
namespace Go.GX
open Go.RowKit
set_option linter.unusedVariables false
set_option linter.unusedSectionVars false
set_option linter.unusedSimpArgs false
section
variable {P : Program} {N : Nat} {σ : Store} {w w' : World} {ops l : List Oper} {K : Act → World → Prop} {KQ : Act → Prop} {C : World → Prop} {d : Nat} {ty : TypeId} {pos : String} {af : Array Edge} {gd : Option (Nat × Bool)} {v u : Value} {n : Nat} {t e : TypeId} {cs : List Value}

theorem ex_loadS {d : Option Tmp} {x : Operand} {b o : Nat} {td : TypeDesc} (hc : w.rangeAt b o cs) (hT : P.underlying t = some td) (hr : td.isRow = true) (hi : (P.info? t).map (·.size) = some cs.length) (hx : lookO σ x = some (.pointer (some ⟨b, o, none⟩))) :
    (execOp (evO σ) ⟨d, .load t x, ty, pos, af, gd⟩).run P w = .ok (.value (.agg cs.toArray)) w := by
  simp [execOp, evO_of_lookO hx, run_loadAt_mid w b o t cs td hc hT hr hi]
theorem Blk.range {b : Nat} {T : TypeId} (h : Blk w b cs T) : w.rangeAt b 0 cs := fun j v hv => by rw [Nat.zero_add, h.cell]; exact hv
/-- The whole variable. -/
theorem RunL.loadW {x : Operand} {b : Nat} {T : TypeId} {td : TypeDesc} (hB : Blk w b cs T) (hs : stat N ops ⟨some d, .load t x, ty, pos, af, gd⟩ σ = true) (hT : P.underlying t = some td) (hr : td.isRow = true) (hi : (P.info? t).map (·.size) = some cs.length)
    (hx : lookO σ x = some (.pointer (some ⟨b, 0, none⟩))) (h : RunL P N ops l ((d, .agg cs.toArray) :: σ) w K) : RunL P N ops (⟨some d, .load t x, ty, pos, af, gd⟩ :: l) σ w K :=
  RunL.op hs (ex_loadS hB.range hT hr hi hx) h
theorem RunQ.loadW {x : Operand} {b : Nat} {T : TypeId} {td : TypeDesc} (hB : ∀ w, C w → Blk w b cs T) (hs : stat N ops ⟨some d, .load t x, ty, pos, af, gd⟩ σ = true) (hT : P.underlying t = some td) (hr : td.isRow = true) (hi : (P.info? t).map (·.size) = some cs.length)
    (hx : lookO σ x = some (.pointer (some ⟨b, 0, none⟩))) (h : RunQ P N C ops l ((d, .agg cs.toArray) :: σ) KQ) : RunQ P N C ops (⟨some d, .load t x, ty, pos, af, gd⟩ :: l) σ KQ :=
  RunQ.op hs (fun w hw => ex_loadS (hB w hw).range hT hr hi hx) h
/-- The cells of an element. -/
theorem IsSl.range {xs : List Value} {m k : Nat} (hv : IsSl w v cs n) (hxs : xs ≠ []) (hc : ∀ j u, xs[j]? = some u → cs[k + j]? = some u) : ∃ b o, elemPtr v k = .pointer (some ⟨b, o, none⟩) ∧ w.rangeAt b o xs := by
  rcases hv with ⟨_, _, rfl⟩ | ⟨b, off, cap, rfl, hcell⟩
  · cases xs with
    | nil => exact absurd rfl hxs
    | cons a r => have := hc 0 a rfl; simp at this
  · exact ⟨b, off + k, rfl, fun j u hu => by have := hcell _ _ (hc j u hu); rwa [← Nat.add_assoc] at this⟩
theorem RunL.loadE {x : Operand} {k : Nat} {xs : List Value} {td : TypeDesc} (hv : IsSl w v cs n) (hxs : xs ≠ []) (hc : ∀ j u, xs[j]? = some u → cs[k + j]? = some u) (hs : stat N ops ⟨some d, .load t x, ty, pos, af, gd⟩ σ = true) (hT : P.underlying t = some td) (hr : td.isRow = true) (hi : (P.info? t).map (·.size) = some xs.length)
    (hx : lookO σ x = some (elemPtr v k)) (h : RunL P N ops l ((d, .agg xs.toArray) :: σ) w K) : RunL P N ops (⟨some d, .load t x, ty, pos, af, gd⟩ :: l) σ w K := by
  obtain ⟨b, o, e1, e2⟩ := hv.range (m := 0) hxs hc
  rw [e1] at hx
  exact RunL.op hs (ex_loadS e2 hT hr hi hx) h
theorem RunQ.loadE {x : Operand} {k : Nat} {xs : List Value} {td : TypeDesc} (hv : IsSl w v cs n) (hxs : xs ≠ []) (hc : ∀ j u, xs[j]? = some u → cs[k + j]? = some u) (hs : stat N ops ⟨some d, .load t x, ty, pos, af, gd⟩ σ = true) (hT : P.underlying t = some td) (hr : td.isRow = true) (hi : (P.info? t).map (·.size) = some xs.length)
    (hx : lookO σ x = some (elemPtr v k)) (h : RunQ P N (fun w' => Below w.heap.size w w') ops l ((d, .agg xs.toArray) :: σ) KQ) : RunQ P N (fun w' => Below w.heap.size w w') ops (⟨some d, .load t x, ty, pos, af, gd⟩ :: l) σ KQ := by
  obtain ⟨b, o, e1, e2⟩ := hv.range (m := 0) hxs hc
  rw [e1] at hx
  refine RunQ.op hs (fun w' hw' => ex_loadS (fun j u hu => ?_) hT hr hi hx) h
  rw [hw'.cell (World.block_lt_of_cell? w _ (e2 j u hu))]; exact e2 j u hu
/-- The whole variable written. -/
theorem RunL.storeW {x y : Operand} {b : Nat} {T : TypeId} {us : List Value} (hB : Blk w b cs T) (hs : stat N ops ⟨none, .store t x y, ty, pos, af, gd⟩ σ = true) (hi : (P.info? t).map (·.size) = some us.length) (hl : us.length = cs.length) (h1 : us.all (·.oneCell') = true)
    (hx : lookO σ x = some (.pointer (some ⟨b, 0, none⟩))) (hy : lookO σ y = some (.agg us.toArray))
    (h : ∀ w', Blk w' b us T → w.grownBy w' (some b) → w'.heap.size = w.heap.size → RunL P N ops l σ w' K) : RunL P N ops (⟨none, .store t x y, ty, pos, af, gd⟩ :: l) σ w K := by
  unfold Blk at hB
  have hr := run_storeVar_row (P := P) w b T t cs.toArray us.toArray hB (by simpa using hi) (by simpa using hl.symm) (by simpa using h1)
  refine RunL.opU (w' := w.setRow b us.toArray) hs ?_ (h _ ?_ ?_ ?_)
  · simp [execOp, evO_of_lookO hx, evO_of_lookO hy, Instr.storeAt, Instr.sureAddr, hr]
  · unfold Blk; simp [World.setRow, hB, Array.getElem?_modify]
  · exact ⟨rfl, rfl, rfl, by simp [World.setRow], fun k hk hne => by simp [World.setRow, Array.getElem?_modify, show b ≠ k from fun e => hne (by rw [e])]⟩
  · simp [World.setRow]
end
end Go.GX
