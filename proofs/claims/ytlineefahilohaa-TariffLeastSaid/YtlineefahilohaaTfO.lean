/- A part of the proof: contracts of the program's functions. Conditions: none. -/
import Derived.Test.YtlineefahilohaaTf7
import Derived.Test.YtlineefahilohaaGxOpen2
import Derived.Test.YtlineefahilohaaGxDraw
namespace Go.Proofs.Ytlineefahilohaa
open Go.GX Go.RowKit
attribute [local irreducible] Calls Run RunL RunQ RunD HR HL HD blkC ownC mapC Rd slicesC iterC RdM
set_option linter.unusedVariables false
set_option linter.unusedSectionVars false
set_option linter.unusedSimpArgs false
set_option maxRecDepth 100000

open Tf
variable {H : Type} {enc : TypeId × Value → H} {W : World}
theorem opT22 : Opens enc Try.prog W 22 (fun p : Value × List Int => [p.1]) (fun p => Sl W p.1 (cellsOf iC p.2) p.2.length ∧ p.2.length ≤ 9223372036854775807 ∧ ∀ a ∈ p.2, (Lit.int .i64 a).wf = true) :=
  Opens.slice (sz := 1) rfl (by kernel_rfl) (by decide) iC_len (Opens.int rfl)
abbrev TfA := Value × Value × Tr
abbrev tfE (a : TfA) : List Value := [a.1, a.2.1, .int .i64 a.2.2.fu]
def tfG (W : World) (a : TfA) : Prop := Sl W a.1 (cellsOf iC a.2.2.b) a.2.2.b.length ∧ Sl W a.2.1 (cellsOf iC a.2.2.s) a.2.2.s.length
theorem opT24 : Opens enc Try.prog W 24 tfE (tfG W) := by
  intro fuel cs x h
  obtain ⟨hl, hf⟩ := Opens.fields (fs := _) rfl h
  have c1 : Try.prog.cellsOf 24 = 3 := by kernel_rfl
  have c2 : Try.prog.cellsOf 22 = 1 := by kernel_rfl
  have c3 : Try.prog.cellsOf 3 = 1 := by kernel_rfl
  rw [c1] at hl
  obtain ⟨f1, y1, h1⟩ := hf _ (List.mem_cons_self ..)
  obtain ⟨f2, y2, h2⟩ := hf _ (List.mem_cons_of_mem _ (List.mem_cons_self ..))
  obtain ⟨f3, y3, h3⟩ := hf _ (List.mem_cons_of_mem _ (List.mem_cons_of_mem _ (List.mem_cons_self ..)))
  obtain ⟨⟨v1, l1⟩, ha, g1, _⟩ := opT22 f1 _ _ h1
  obtain ⟨⟨v2, l2⟩, hb, g2, _⟩ := opT22 f2 _ _ h2
  obtain ⟨n, hc, _⟩ := Opens.int (k := .i64) rfl f3 _ _ h3
  refine ⟨⟨v1, v2, ⟨l1, l2, n⟩⟩, ?_, g1, g2⟩
  have e1 := parts_eq ha (m := 1) (by simp [c2]) (by simp [c2])
  have e2 := parts_eq hb (m := 2) (by simp [c2]) (by simp [c2])
  have e3 := parts_eq hc (m := 3) (by simp [c3]) (by simp [c3])
  simp only [List.drop_zero] at e1
  rw [e1, e2, e3, List.drop_eq_nil_of_le (by omega)]; rfl
theorem tariffChecks.tariffChecks_any (a : TfA) (n : Int) (w : World) (g : tfG w a) :
    Calls Try.prog 3 #[.agg ⟨tfE a⟩, .int .i64 n] w fun e w' => e = .returned (.bool true) ∧ Below w.heap.size w w' := Proofs.Ytlineefahilohaa.tariffChecks_any a.2.2 a.1 a.2.1 n w g.1 g.2
theorem tariffCosts.tariffCosts_any (a : TfA) (i : Int) (nets : List Int) (vn : Value) (w : World) (g : tfG w a) (hvn : Sl w vn (cellsOf iC nets) nets.length) :
    Calls Try.prog 4 #[.agg ⟨tfE a⟩, .int .i64 i, vn] w fun e w' => e = .returned (.bool true) ∧ Below w.heap.size w w' := Proofs.Ytlineefahilohaa.tariffCosts_any a.2.2 a.1 a.2.1 i nets vn w g.1 g.2 hvn
theorem tariffStarts.tariffStarts_any (a : TfA) (k : Int) (w : World) (g : tfG w a) :
    Calls Try.prog 5 #[.agg ⟨tfE a⟩, .int .i64 k] w fun e w' => e = .returned (.bool true) ∧ Below w.heap.size w w' := Proofs.Ytlineefahilohaa.tariffStarts_any a.2.2 a.1 a.2.1 k w g.1 g.2
end Go.Proofs.Ytlineefahilohaa
