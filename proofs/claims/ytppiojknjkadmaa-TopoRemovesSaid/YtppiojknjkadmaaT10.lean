/- A part of the proof: contracts of the program's functions. Conditions: none. -/
import Derived.Test.YtppiojknjkadmaaT9
import Derived.Test.YtppiojknjkadmaaGxOpen2
import Derived.Test.YtppiojknjkadmaaGxDraw
namespace Go.Proofs.Ytppiojknjkadmaa
open Go.GX Go.RowKit
attribute [local irreducible] Calls Run RunL RunQ RunD HR HL HD blkC ownC mapC Rd
set_option linter.unusedVariables false
set_option linter.unusedSectionVars false
set_option linter.unusedSimpArgs false
set_option maxRecDepth 100000

variable {H : Type} {enc : TypeId × Value → H} {W : World}
theorem opT28 : Opens enc Try.prog W 28 (fun p : Value × List Int => [p.1]) (fun p => Sl W p.1 (cellsOf iC p.2) p.2.length ∧ p.2.length ≤ 9223372036854775807 ∧ ∀ a ∈ p.2, (Lit.int .i64 a).wf = true) :=
  Opens.slice (sz := 1) rfl (by kernel_rfl) (by decide) iC_len (Opens.int rfl)
theorem opT41 : Opens enc Try.prog W 41 edC (fun _ => True) := by
  intro fuel cs x h
  obtain ⟨hl, hf⟩ := Opens.fields (fs := _) rfl h
  have c1 : Try.prog.cellsOf 41 = 2 := by kernel_rfl
  have c2 : Try.prog.cellsOf 3 = 1 := by kernel_rfl
  rw [c1] at hl
  obtain ⟨f1, y1, h1⟩ := hf _ (List.mem_cons_self ..)
  obtain ⟨f2, y2, h2⟩ := hf _ (List.mem_cons_of_mem _ (List.mem_cons_self ..))
  obtain ⟨a, ha, _⟩ := Opens.int (k := .i64) rfl f1 _ _ h1
  obtain ⟨b, hb, _⟩ := Opens.int (k := .i64) rfl f2 _ _ h2
  refine ⟨⟨a, b⟩, ?_, trivial⟩
  have e1 := parts_eq ha (m := 1) (by simp [c2]) (by simp [c2])
  have e2 := parts_eq hb (m := 2) (by simp [c2]) (by simp [c2])
  simp only [List.drop_zero] at e1
  rw [e1, e2, List.drop_eq_nil_of_le (by omega)]; rfl
theorem opT22 : Opens enc Try.prog W 22 (fun p : Value × List Ed => [p.1]) (fun p => Sl W p.1 (cellsOf edC p.2) p.2.length ∧ p.2.length ≤ 9223372036854775807 ∧ ∀ a ∈ p.2, True) :=
  Opens.slice (sz := 2) rfl (by kernel_rfl) (by decide) edC_len opT41
end Go.Proofs.Ytppiojknjkadmaa
