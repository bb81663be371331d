/- A part of the proof: contracts of the program's functions. Conditions: none. -/
import Derived.Test.YtiepojpebndgoaaRb9
import Derived.Test.YtiepojpebndgoaaGxOpen2
import Derived.Test.YtiepojpebndgoaaGxDraw
namespace Go.Proofs.Ytiepojpebndgoaa
open Go.GX Go.RowKit
attribute [local irreducible] Calls Run RunL RunQ RunD HR HL HD blkC ownC mapC Rd slicesC iterC RdM
set_option linter.unusedVariables false
set_option linter.unusedSectionVars false
set_option linter.unusedSimpArgs false
set_option maxRecDepth 100000

open Ra
variable {H : Type} {enc : TypeId × Value → H} {W : World}
theorem opT23 : Opens enc Try.prog W 23 (fun p : Value × List Int => [p.1]) (fun p => Sl W p.1 (cellsOf iC p.2) p.2.length ∧ p.2.length ≤ 9223372036854775807 ∧ ∀ a ∈ p.2, (Lit.int .i64 a).wf = true) :=
  Opens.slice (sz := 1) rfl (by kernel_rfl) (by decide) iC_len (Opens.int rfl)
theorem opT49 : Opens enc Try.prog W 49 edC (fun _ => True) := by
  intro fuel cs x h
  obtain ⟨hl, hf⟩ := Opens.fields (fs := _) rfl h
  have c1 : Try.prog.cellsOf 49 = 2 := by kernel_rfl
  have c2 : Try.prog.cellsOf 3 = 1 := by kernel_rfl
  rw [c1] at hl
  obtain ⟨f1, y1, h1⟩ := hf _ (List.mem_cons_self ..)
  obtain ⟨f2, y2, h2⟩ := hf _ (List.mem_cons_of_mem _ (List.mem_cons_self ..))
  obtain ⟨a, ha, _⟩ := Opens.int (k := .i64) rfl f1 _ _ h1
  obtain ⟨b, hb, _⟩ := Opens.int (k := .i64) rfl f2 _ _ h2
  refine ⟨⟨a, b⟩, ?_, trivial⟩
  have e1 := parts_eq ha (m := 1) (by simp [c2]) (by simp [c2])
  have e2 := parts_eq hb (m := 2) (by simp [c2]) (by simp [c2])
  simp only [List.drop_zero] at e1
  rw [e1, e2, List.drop_eq_nil_of_le (by omega)]; rfl
theorem opT22 : Opens enc Try.prog W 22 (fun p : Value × List Ed => [p.1]) (fun p => Sl W p.1 (cellsOf edC p.2) p.2.length ∧ p.2.length ≤ 9223372036854775807 ∧ ∀ a ∈ p.2, True) :=
  Opens.slice (sz := 2) rfl (by kernel_rfl) (by decide) edC_len opT49
abbrev AirA := Value × Value × Value × Air
abbrev airE (a : AirA) : List Value := [a.1, a.2.1, a.2.2.1]
structure AirG (W : World) (a : AirA) : Prop where
  e : Sl W a.1 (cellsOf edC a.2.2.2.e) a.2.2.2.e.length
  o : Sl W a.2.1 (cellsOf iC a.2.2.2.o) a.2.2.2.o.length
  n : Sl W a.2.2.1 (cellsOf iC a.2.2.2.n) a.2.2.2.n.length
theorem opT25 : Opens enc Try.prog W 25 airE (AirG W) := by
  intro fuel cs x h
  obtain ⟨hl, hf⟩ := Opens.fields (fs := _) rfl h
  have c1 : Try.prog.cellsOf 25 = 3 := by kernel_rfl
  have c2 : Try.prog.cellsOf 23 = 1 := by kernel_rfl
  have c3 : Try.prog.cellsOf 22 = 1 := by kernel_rfl
  rw [c1] at hl
  obtain ⟨f1, y1, h1⟩ := hf _ (List.mem_cons_self ..)
  obtain ⟨f2, y2, h2⟩ := hf _ (List.mem_cons_of_mem _ (List.mem_cons_self ..))
  obtain ⟨f3, y3, h3⟩ := hf _ (List.mem_cons_of_mem _ (List.mem_cons_of_mem _ (List.mem_cons_self ..)))
  obtain ⟨⟨v1, l1⟩, ha, g1, _⟩ := opT22 f1 _ _ h1
  obtain ⟨⟨v2, l2⟩, hb, g2, _⟩ := opT23 f2 _ _ h2
  obtain ⟨⟨v3, l3⟩, hc, g3, _⟩ := opT23 f3 _ _ h3
  refine ⟨⟨v1, v2, v3, ⟨l1, l2, l3⟩⟩, ?_, ⟨g1, g2, g3⟩⟩
  have e1 := parts_eq ha (m := 1) (by simp [c3]) (by simp [c3])
  have e2 := parts_eq hb (m := 2) (by simp [c2]) (by simp [c2])
  have e3 := parts_eq hc (m := 3) (by simp [c2]) (by simp [c2])
  simp only [List.drop_zero] at e1
  rw [e1, e2, e3, List.drop_eq_nil_of_le (by omega)]; rfl
theorem radioChecks.radioChecks_any (a : AirA) (w : World) (g : AirG w a) :
    Calls Try.prog 3 #[.agg ⟨airE a⟩] w fun e w' => e = .returned (.bool true) ∧ Below w.heap.size w w' := Proofs.Ytiepojpebndgoaa.radioChecks_any a.2.2.2 _ _ _ w g.e g.o g.n
end Go.Proofs.Ytiepojpebndgoaa
