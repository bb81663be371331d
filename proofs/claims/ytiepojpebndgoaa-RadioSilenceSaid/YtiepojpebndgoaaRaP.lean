/- A part of the proof: contracts of the program's functions. Conditions: none. -/
import Derived.Test.YtiepojpebndgoaaRaO
import Derived.Test.YtiepojpebndgoaaRc4
import Derived.Test.YtiepojpebndgoaaGxDraw
namespace Go.Proofs.Ytiepojpebndgoaa
open Go.GX Go.RowKit
attribute [local irreducible] Calls Run RunL RunQ RunD HR HL HD blkC ownC mapC Rd slicesC iterC RdM
set_option linter.unusedVariables false
set_option linter.unusedSectionVars false
set_option linter.unusedSimpArgs false
set_option maxRecDepth 100000

open Ra
variable {H : Type} {enc : TypeId × Value → H} {W : World}
theorem opT31 : Opens enc Try.prog W 31 frC (fun _ => True) := by
  intro fuel cs x h
  obtain ⟨hl, hf⟩ := Opens.fields (fs := _) rfl h
  have c1 : Try.prog.cellsOf 31 = 9 := by kernel_rfl
  have ci : Try.prog.cellsOf 3 = 1 := by kernel_rfl
  have cb : Try.prog.cellsOf 4 = 1 := by kernel_rfl
  have cs' : Try.prog.cellsOf 9 = 1 := by kernel_rfl
  rw [c1] at hl
  obtain ⟨f1, y1, h1⟩ := hf _ (List.mem_cons_self ..)
  obtain ⟨f2, y2, h2⟩ := hf _ (List.mem_cons_of_mem _ (List.mem_cons_self ..))
  obtain ⟨f3, y3, h3⟩ := hf _ (List.mem_cons_of_mem _ (List.mem_cons_of_mem _ (List.mem_cons_self ..)))
  obtain ⟨f4, y4, h4⟩ := hf _ (List.mem_cons_of_mem _ (List.mem_cons_of_mem _ (List.mem_cons_of_mem _ (List.mem_cons_self ..))))
  obtain ⟨f5, y5, h5⟩ := hf _ (List.mem_cons_of_mem _ (List.mem_cons_of_mem _ (List.mem_cons_of_mem _ (List.mem_cons_of_mem _ (List.mem_cons_self ..)))))
  obtain ⟨f6, y6, h6⟩ := hf _ (List.mem_cons_of_mem _ (List.mem_cons_of_mem _ (List.mem_cons_of_mem _ (List.mem_cons_of_mem _ (List.mem_cons_of_mem _ (List.mem_cons_self ..))))))
  obtain ⟨f7, y7, h7⟩ := hf _ (List.mem_cons_of_mem _ (List.mem_cons_of_mem _ (List.mem_cons_of_mem _ (List.mem_cons_of_mem _ (List.mem_cons_of_mem _ (List.mem_cons_of_mem _ (List.mem_cons_self ..)))))))
  obtain ⟨f8, y8, h8⟩ := hf _ (List.mem_cons_of_mem _ (List.mem_cons_of_mem _ (List.mem_cons_of_mem _ (List.mem_cons_of_mem _ (List.mem_cons_of_mem _ (List.mem_cons_of_mem _ (List.mem_cons_of_mem _ (List.mem_cons_self ..))))))))
  obtain ⟨f9, y9, h9⟩ := hf _ (List.mem_cons_of_mem _ (List.mem_cons_of_mem _ (List.mem_cons_of_mem _ (List.mem_cons_of_mem _ (List.mem_cons_of_mem _ (List.mem_cons_of_mem _ (List.mem_cons_of_mem _ (List.mem_cons_of_mem _ (List.mem_cons_self ..)))))))))
  obtain ⟨a1, g1, _⟩ := Opens.int (k := .i64) rfl f1 _ _ h1
  obtain ⟨a2, g2, _⟩ := Opens.int (k := .i64) rfl f2 _ _ h2
  obtain ⟨a3, g3, _⟩ := Opens.int (k := .i64) rfl f3 _ _ h3
  obtain ⟨a4, g4, _⟩ := Opens.int (k := .i64) rfl f4 _ _ h4
  obtain ⟨a5, g5, _⟩ := Opens.int (k := .i64) rfl f5 _ _ h5
  obtain ⟨a6, g6, _⟩ := Opens.int (k := .i64) rfl f6 _ _ h6
  obtain ⟨a7, g7, _⟩ := Opens.int (k := .i64) rfl f7 _ _ h7
  obtain ⟨a8, g8, _⟩ := Opens.bool rfl f8 _ _ h8
  obtain ⟨a9, g9, _⟩ := Opens.str rfl f9 _ _ h9
  refine ⟨⟨a1, a2, a3, a4, a5, a6, a7, a8, a9⟩, ?_, trivial⟩
  have e1 := parts_eq g1 (m := 1) (by simp [ci]) (by simp [ci])
  have e2 := parts_eq g2 (m := 2) (by simp [ci]) (by simp [ci])
  have e3 := parts_eq g3 (m := 3) (by simp [ci]) (by simp [ci])
  have e4 := parts_eq g4 (m := 4) (by simp [ci]) (by simp [ci])
  have e5 := parts_eq g5 (m := 5) (by simp [ci]) (by simp [ci])
  have e6 := parts_eq g6 (m := 6) (by simp [ci]) (by simp [ci])
  have e7 := parts_eq g7 (m := 7) (by simp [ci]) (by simp [ci])
  have e8 := parts_eq g8 (m := 8) (by simp [cb]) (by simp [cb])
  have e9 := parts_eq g9 (m := 9) (by simp [cs']) (by simp [cs'])
  simp only [List.drop_zero] at e1
  rw [e1, e2, e3, e4, e5, e6, e7, e8, e9, List.drop_eq_nil_of_le (by omega)]; rfl
theorem radioDelivers.radioDelivers_any (a : AirA) (f : Fr) (w : World) (g : AirG w a) (_ : True) :
    Calls Try.prog 4 #[.agg ⟨airE a⟩, .agg ⟨frC f⟩] w fun e w' => e = .returned (.bool true) ∧ Below w.heap.size w w' := Proofs.Ytiepojpebndgoaa.radioDelivers_any a.2.2.2 f _ _ _ w g.e g.o g.n
theorem radioReceivers.radioReceivers_any (a : AirA) (f : Fr) (w : World) (g : AirG w a) (_ : True) :
    Calls Try.prog 7 #[.agg ⟨airE a⟩, .agg ⟨frC f⟩] w fun e w' => e = .returned (.bool true) ∧ Below w.heap.size w w' := Proofs.Ytiepojpebndgoaa.radioReceivers_any a.2.2.2 f _ _ _ w g.e g.o g.n
theorem radioJams.radioJams_any (a : AirA) (l : List Int) (vl : Value) (w : World) (g : AirG w a) (hl : Sl w vl (cellsOf iC l) l.length) :
    Calls Try.prog 8 #[.agg ⟨airE a⟩, vl] w fun e w' => e = .returned (.bool true) ∧ Below w.heap.size w w' := Proofs.Ytiepojpebndgoaa.radioJams_any a.2.2.2 l _ _ _ vl w g.e g.o g.n hl
theorem radioSilence.radioSilence_any (a : AirA) (l : List Int) (vl : Value) (f : Fr) (w : World) (g : AirG w a) (hl : Sl w vl (cellsOf iC l) l.length) (_ : True) :
    Calls Try.prog 9 #[.agg ⟨airE a⟩, vl, .agg ⟨frC f⟩] w fun e w' => e = .returned (.bool true) ∧ Below w.heap.size w w' := Proofs.Ytiepojpebndgoaa.radioSilence_any a.2.2.2 l f _ _ _ vl w g.e g.o g.n hl
theorem radioChannels.radioChannels_any (l : List Int) (vl : Value) (now lim : Int) (w : World) (hl : Sl w vl (cellsOf iC l) l.length) :
    Calls Try.prog 5 #[vl, .int .i64 now, .int .i64 lim] w fun e w' => e = .returned (.bool true) ∧ Below w.heap.size w w' := Proofs.Ytiepojpebndgoaa.radioChannels_any l vl now lim w hl
theorem radioQuietest.radioQuietest_any (l : List Int) (vl : Value) (now lim : Int) (w : World) (hl : Sl w vl (cellsOf iC l) l.length) :
    Calls Try.prog 6 #[vl, .int .i64 now, .int .i64 lim] w fun e w' => e = .returned (.bool true) ∧ Below w.heap.size w w' := Proofs.Ytiepojpebndgoaa.radioQuietest_any l vl now lim w hl
end Go.Proofs.Ytiepojpebndgoaa
