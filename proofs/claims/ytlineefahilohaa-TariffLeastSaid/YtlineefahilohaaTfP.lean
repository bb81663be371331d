/- A part of the proof: contracts of the program's functions. Conditions: none. -/
import Derived.Test.YtlineefahilohaaTf8
import Derived.Test.YtlineefahilohaaTfO
import Derived.Test.YtlineefahilohaaGxDraw
namespace Go.Proofs.Ytlineefahilohaa
open Go.GX Go.RowKit
attribute [local irreducible] Calls Run RunL RunQ RunD HR HL HD blkC ownC mapC Rd slicesC iterC RdM
set_option linter.unusedVariables false
set_option linter.unusedSectionVars false
set_option linter.unusedSimpArgs false
set_option maxRecDepth 100000

open Tf
variable {H : Type} {enc : TypeId × Value → H} {W : World}
theorem opT38 : Opens enc Try.prog W 38 (fun p : Int × Int => [.int .i64 p.1, .int .i64 p.2]) (fun _ => True) := by
  intro fuel cs x h
  obtain ⟨hl, hf⟩ := Opens.array (n := 2) (e := 3) rfl h
  have c1 : Try.prog.cellsOf 38 = 2 := by kernel_rfl
  have c2 : Try.prog.cellsOf 3 = 1 := by kernel_rfl
  rw [c1] at hl
  obtain ⟨f1, y1, h1⟩ := hf 0 (by decide)
  obtain ⟨f2, y2, h2⟩ := hf 1 (by decide)
  obtain ⟨a, ha, _⟩ := Opens.int (k := .i64) rfl f1 _ _ h1
  obtain ⟨b, hb, _⟩ := Opens.int (k := .i64) rfl f2 _ _ h2
  refine ⟨⟨a, b⟩, ?_, trivial⟩
  have e1 := parts_eq ha (m := 1) (by simp [c2]) (by simp [c2])
  have e2 := parts_eq hb (m := 2) (by simp [c2]) (by simp [c2])
  simp only [Nat.zero_mul, List.drop_zero, Nat.one_mul, c2] at e1 e2
  rw [e1, e2, List.drop_eq_nil_of_le (by omega)]; rfl
theorem tariffSplits.tariffSplits_any (a : TfA) (i : Int) (x : Int × Int) (w : World) (g : tfG w a) (_ : True) :
    Calls Try.prog 6 #[.agg ⟨tfE a⟩, .int .i64 i, .agg ⟨[.int .i64 x.1, .int .i64 x.2]⟩] w fun e w' => e = .returned (.bool true) ∧ Below w.heap.size w w' := Proofs.Ytlineefahilohaa.tariffSplits_any a.2.2 a.1 a.2.1 i x.1 x.2 w g.1 g.2
theorem tariffSums.tariffSums_any (a : TfA) (nets : List Int) (vn : Value) (w : World) (g : tfG w a) (hvn : Sl w vn (cellsOf iC nets) nets.length) :
    Calls Try.prog 7 #[.agg ⟨tfE a⟩, vn] w fun e w' => e = .returned (.bool true) ∧ Below w.heap.size w w' := Proofs.Ytlineefahilohaa.tariffSums_any a.2.2 a.1 a.2.1 nets vn w g.1 g.2 hvn
end Go.Proofs.Ytlineefahilohaa
