/- A part of the proof: contracts of the program's functions. Conditions: none. -/
import Derived.Test.YtfjomclebkgocaaPart2
import Derived.Test.YtfjomclebkgocaaPart3
import Derived.Test.YtfjomclebkgocaaPart6
import Derived.Test.YtfjomclebkgocaaPart7
namespace Go.Proofs.Ytfjomclebkgocaa
open Go.GX Go.RowKit
attribute [local irreducible] Calls Run RunL RunQ RunD HR HL HD blkC ownC mapC Rd slicesC iterC RdM
set_option linter.unusedVariables false
set_option linter.unusedSectionVars false
set_option linter.unusedSimpArgs false
set_option maxRecDepth 100000

open Tk
attribute [local irreducible] rdV fnv mac
theorem fn12 : IsFn Try.prog 12 := ⟨⟨_, _, Try.func12, rfl, by decide⟩⟩
theorem fn13 : IsFn Try.prog 13 := ⟨⟨_, _, Try.func13, rfl, by decide⟩⟩
theorem fn37 : IsFn Try.prog 37 := ⟨⟨_, _, Try.func37, rfl, by decide⟩⟩
theorem fn38 : IsFn Try.prog 38 := ⟨⟨_, _, Try.func38, rfl, by decide⟩⟩
theorem fn18 : IsFn Try.prog 18 := ⟨⟨_, _, Try.func18, rfl, by decide⟩⟩
theorem fn19 : IsFn Try.prog 19 := ⟨⟨_, _, Try.func19, rfl, by decide⟩⟩
abbrev seV (s : Se) : Value := .agg ⟨seC s⟩
theorem check48_any (s : Se) (w : World) (hm : s.mem.length ≤ 9223372036854775807) : Calls Try.prog 12 #[seV s] w fun e w' => e = .returned (.int .i64 (Tk.check s)) ∧ Below w.heap.size w w' := by
  refine calls_hr Try.func12 rfl (Nat.le_of_ble_eq_true rfl) ?_
  refine HR.sub (σ' := [(0, seV s)]) ⟨rfl, trivial⟩ ?_
  repeat' (first | (refine HL.isOp ?_; first | refine HL.ev rfl rfl ?_ | refine HL.evc rfl rfl (by first | omega | (simp; done) | (simp; omega)) ?_ | refine HL.callB fn31 rfl rfl (fun w _ => valid_any s.mem w (by omega)) ?_ | (refine HL.isLoad ?_; first | refine HL.L 0 rfl rfl rfl rfl ?_ | refine HL.L 1 rfl rfl rfl rfl ?_ | refine HL.L 2 rfl rfl rfl rfl ?_ | refine HL.L 3 rfl rfl rfl rfl ?_) | (refine HL.isStore ?_; first | refine HL.S 0 rfl rfl rfl rfl rfl ?_ | refine HL.S 1 rfl rfl rfl rfl rfl ?_ | refine HL.S 2 rfl rfl rfl rfl rfl ?_ | refine HL.S 3 rfl rfl rfl rfl rfl ?_) | refine HL.build rfl rfl ?_ | refine HL.field rfl rfl ?_ | (refine HL.box rfl rfl ?_; intro bk) | (refine HL.alloc rfl rfl ?_; intro bk) | refine HL.skip rfl rfl ?_ | refine HL.skip0 rfl ?_ | apply HL.andB rfl rfl rfl rfl rfl rfl rfl rfl | apply HL.orB rfl rfl rfl rfl rfl rfl rfl rfl) | refine HL.nil ?_ | refine HR.ctl rfl ?_ | refine HR.region ?_ | refine HR.condT rfl ?_ | refine HR.condF rfl ?_ | exact HL.blkEnd rfl rfl Ent.refl | (refine fun (hb : (_ : Bool) = _) => ?_; try simp at hb))
  refine HR.cond rfl (fun h => ?_) (fun h => ?_)
  · have h : Nm.valid s.mem = false := by simpa using h
    repeat' (first | (refine HL.isOp ?_; first | refine HL.ev rfl rfl ?_ | refine HL.evc rfl rfl (by first | omega | (simp; done) | (simp; omega)) ?_ | (refine HL.isLoad ?_; first | refine HL.L 0 rfl rfl rfl rfl ?_ | refine HL.L 1 rfl rfl rfl rfl ?_ | refine HL.L 2 rfl rfl rfl rfl ?_ | refine HL.L 3 rfl rfl rfl rfl ?_) | (refine HL.isStore ?_; first | refine HL.S 0 rfl rfl rfl rfl rfl ?_ | refine HL.S 1 rfl rfl rfl rfl rfl ?_ | refine HL.S 2 rfl rfl rfl rfl rfl ?_ | refine HL.S 3 rfl rfl rfl rfl rfl ?_) | refine HL.build rfl rfl ?_ | refine HL.field rfl rfl ?_ | (refine HL.box rfl rfl ?_; intro bk) | (refine HL.alloc rfl rfl ?_; intro bk) | refine HL.skip rfl rfl ?_ | refine HL.skip0 rfl ?_ | apply HL.andB rfl rfl rfl rfl rfl rfl rfl rfl | apply HL.orB rfl rfl rfl rfl rfl rfl rfl rfl) | refine HL.nil ?_ | refine HR.ctl rfl ?_ | refine HR.region ?_ | refine HR.condT rfl ?_ | refine HR.condF rfl ?_ | exact HL.blkEnd rfl rfl Ent.refl | (refine fun (hb : (_ : Bool) = _) => ?_; try simp at hb))
    refine HR.ret Try.func12 rfl [_] (fun _ _ => ⟨rfl, trivial⟩) ?_
    exact fun w' hw => ⟨by rw [Tk.check, if_pos h]; rfl, hw.belowB⟩
  have h : ¬ Nm.valid s.mem = false := by simpa using h
  repeat' (first | (refine HL.isOp ?_; first | refine HL.ev rfl rfl ?_ | refine HL.evc rfl rfl (by first | omega | (simp; done) | (simp; omega)) ?_ | (refine HL.isLoad ?_; first | refine HL.L 0 rfl rfl rfl rfl ?_ | refine HL.L 1 rfl rfl rfl rfl ?_ | refine HL.L 2 rfl rfl rfl rfl ?_ | refine HL.L 3 rfl rfl rfl rfl ?_) | (refine HL.isStore ?_; first | refine HL.S 0 rfl rfl rfl rfl rfl ?_ | refine HL.S 1 rfl rfl rfl rfl rfl ?_ | refine HL.S 2 rfl rfl rfl rfl rfl ?_ | refine HL.S 3 rfl rfl rfl rfl rfl ?_) | refine HL.build rfl rfl ?_ | refine HL.field rfl rfl ?_ | (refine HL.box rfl rfl ?_; intro bk) | (refine HL.alloc rfl rfl ?_; intro bk) | refine HL.skip rfl rfl ?_ | refine HL.skip0 rfl ?_ | apply HL.andB rfl rfl rfl rfl rfl rfl rfl rfl | apply HL.orB rfl rfl rfl rfl rfl rfl rfl rfl) | refine HL.nil ?_ | refine HR.ctl rfl ?_ | refine HR.region ?_ | refine HR.condT rfl ?_ | refine HR.condF rfl ?_ | exact HL.blkEnd rfl rfl Ent.refl | (refine fun (hb : (_ : Bool) = _) => ?_; try simp at hb))
  refine HR.cond rfl (fun h1 => ?_) (fun h1 => ?_)
  · have h1 : bad s = true := h1
    repeat' (first | (refine HL.isOp ?_; first | refine HL.ev rfl rfl ?_ | refine HL.evc rfl rfl (by first | omega | (simp; done) | (simp; omega)) ?_ | (refine HL.isLoad ?_; first | refine HL.L 0 rfl rfl rfl rfl ?_ | refine HL.L 1 rfl rfl rfl rfl ?_ | refine HL.L 2 rfl rfl rfl rfl ?_ | refine HL.L 3 rfl rfl rfl rfl ?_) | (refine HL.isStore ?_; first | refine HL.S 0 rfl rfl rfl rfl rfl ?_ | refine HL.S 1 rfl rfl rfl rfl rfl ?_ | refine HL.S 2 rfl rfl rfl rfl rfl ?_ | refine HL.S 3 rfl rfl rfl rfl rfl ?_) | refine HL.build rfl rfl ?_ | refine HL.field rfl rfl ?_ | (refine HL.box rfl rfl ?_; intro bk) | (refine HL.alloc rfl rfl ?_; intro bk) | refine HL.skip rfl rfl ?_ | refine HL.skip0 rfl ?_ | apply HL.andB rfl rfl rfl rfl rfl rfl rfl rfl | apply HL.orB rfl rfl rfl rfl rfl rfl rfl rfl) | refine HL.nil ?_ | refine HR.ctl rfl ?_ | refine HR.region ?_ | refine HR.condT rfl ?_ | refine HR.condF rfl ?_ | exact HL.blkEnd rfl rfl Ent.refl | (refine fun (hb : (_ : Bool) = _) => ?_; try simp at hb))
    refine HR.ret Try.func12 rfl [_] (fun _ _ => ⟨rfl, trivial⟩) ?_
    exact fun w' hw => ⟨by rw [Tk.check, if_neg h, if_pos h1]; rfl, hw.belowB⟩
  have h1 : bad s = false := h1
  have h1' : ¬ bad s = true := by rw [h1]; decide
  have hb := h1
  simp only [bad, Bool.or_eq_false_iff, decide_eq_false_iff_not] at hb
  repeat' (first | (refine HL.isOp ?_; first | refine HL.ev rfl rfl ?_ | refine HL.evc rfl rfl (by first | omega | (simp; done) | (simp; omega)) ?_ | (refine HL.isLoad ?_; first | refine HL.L 0 rfl rfl rfl rfl ?_ | refine HL.L 1 rfl rfl rfl rfl ?_ | refine HL.L 2 rfl rfl rfl rfl ?_ | refine HL.L 3 rfl rfl rfl rfl ?_) | (refine HL.isStore ?_; first | refine HL.S 0 rfl rfl rfl rfl rfl ?_ | refine HL.S 1 rfl rfl rfl rfl rfl ?_ | refine HL.S 2 rfl rfl rfl rfl rfl ?_ | refine HL.S 3 rfl rfl rfl rfl rfl ?_) | refine HL.build rfl rfl ?_ | refine HL.field rfl rfl ?_ | (refine HL.box rfl rfl ?_; intro bk) | (refine HL.alloc rfl rfl ?_; intro bk) | refine HL.skip rfl rfl ?_ | refine HL.skip0 rfl ?_ | apply HL.andB rfl rfl rfl rfl rfl rfl rfl rfl | apply HL.orB rfl rfl rfl rfl rfl rfl rfl rfl) | refine HL.nil ?_ | refine HR.ctl rfl ?_ | refine HR.region ?_ | refine HR.condT rfl ?_ | refine HR.condF rfl ?_ | exact HL.blkEnd rfl rfl Ent.refl | (refine fun (hb : (_ : Bool) = _) => ?_; try simp at hb))
  refine HR.cond rfl (fun h2 => ?_) (fun h2 => ?_)
  · have h2 : s.exp - s.iss > 43200 := of_decide_eq_true h2
    repeat' (first | (refine HL.isOp ?_; first | refine HL.ev rfl rfl ?_ | refine HL.evc rfl rfl (by first | omega | (simp; done) | (simp; omega)) ?_ | (refine HL.isLoad ?_; first | refine HL.L 0 rfl rfl rfl rfl ?_ | refine HL.L 1 rfl rfl rfl rfl ?_ | refine HL.L 2 rfl rfl rfl rfl ?_ | refine HL.L 3 rfl rfl rfl rfl ?_) | (refine HL.isStore ?_; first | refine HL.S 0 rfl rfl rfl rfl rfl ?_ | refine HL.S 1 rfl rfl rfl rfl rfl ?_ | refine HL.S 2 rfl rfl rfl rfl rfl ?_ | refine HL.S 3 rfl rfl rfl rfl rfl ?_) | refine HL.build rfl rfl ?_ | refine HL.field rfl rfl ?_ | (refine HL.box rfl rfl ?_; intro bk) | (refine HL.alloc rfl rfl ?_; intro bk) | refine HL.skip rfl rfl ?_ | refine HL.skip0 rfl ?_ | apply HL.andB rfl rfl rfl rfl rfl rfl rfl rfl | apply HL.orB rfl rfl rfl rfl rfl rfl rfl rfl) | refine HL.nil ?_ | refine HR.ctl rfl ?_ | refine HR.region ?_ | refine HR.condT rfl ?_ | refine HR.condF rfl ?_ | exact HL.blkEnd rfl rfl Ent.refl | (refine fun (hb : (_ : Bool) = _) => ?_; try simp at hb))
    refine HR.ret Try.func12 rfl [_] (fun _ _ => ⟨rfl, trivial⟩) ?_
    exact fun w' hw => ⟨by rw [Tk.check, if_neg h, if_neg h1', if_pos h2]; rfl, hw.belowB⟩
  · have h2 : ¬ s.exp - s.iss > 43200 := of_decide_eq_false h2
    repeat' (first | (refine HL.isOp ?_; first | refine HL.ev rfl rfl ?_ | refine HL.evc rfl rfl (by first | omega | (simp; done) | (simp; omega)) ?_ | (refine HL.isLoad ?_; first | refine HL.L 0 rfl rfl rfl rfl ?_ | refine HL.L 1 rfl rfl rfl rfl ?_ | refine HL.L 2 rfl rfl rfl rfl ?_ | refine HL.L 3 rfl rfl rfl rfl ?_) | (refine HL.isStore ?_; first | refine HL.S 0 rfl rfl rfl rfl rfl ?_ | refine HL.S 1 rfl rfl rfl rfl rfl ?_ | refine HL.S 2 rfl rfl rfl rfl rfl ?_ | refine HL.S 3 rfl rfl rfl rfl rfl ?_) | refine HL.build rfl rfl ?_ | refine HL.field rfl rfl ?_ | (refine HL.box rfl rfl ?_; intro bk) | (refine HL.alloc rfl rfl ?_; intro bk) | refine HL.skip rfl rfl ?_ | refine HL.skip0 rfl ?_ | apply HL.andB rfl rfl rfl rfl rfl rfl rfl rfl | apply HL.orB rfl rfl rfl rfl rfl rfl rfl rfl) | refine HL.nil ?_ | refine HR.ctl rfl ?_ | refine HR.region ?_ | refine HR.condT rfl ?_ | refine HR.condF rfl ?_ | exact HL.blkEnd rfl rfl Ent.refl | (refine fun (hb : (_ : Bool) = _) => ?_; try simp at hb))
    refine HR.ret Try.func12 rfl [_] (fun _ _ => ⟨rfl, trivial⟩) ?_
    exact fun w' hw => ⟨by rw [Tk.check, if_neg h, if_neg h1', if_neg h2]; rfl, hw.belowB⟩
theorem rcheck48_any (s : Se) (w : World) (hm : s.mem.length ≤ 9223372036854775807) : Calls Try.prog 13 #[seV s] w fun e w' => e = .returned (.int .i64 (Tk.check s)) ∧ Below w.heap.size w w' := by
  refine calls_hr Try.func13 rfl (Nat.le_of_ble_eq_true rfl) ?_
  refine HR.sub (σ' := [(0, seV s)]) ⟨rfl, trivial⟩ ?_
  repeat' (first | (refine HL.isOp ?_; first | refine HL.ev rfl rfl ?_ | refine HL.evc rfl rfl (by first | omega | (simp; done) | (simp; omega)) ?_ | refine HL.callB fn32 rfl rfl (fun w _ => (rvalid_any s.mem w (by omega)).mono fun e w' ⟨h1, h2⟩ => ⟨h1, h2 ▸ Below.refl _ _⟩) ?_ | (refine HL.isLoad ?_; first | refine HL.L 0 rfl rfl rfl rfl ?_ | refine HL.L 1 rfl rfl rfl rfl ?_ | refine HL.L 2 rfl rfl rfl rfl ?_ | refine HL.L 3 rfl rfl rfl rfl ?_) | (refine HL.isStore ?_; first | refine HL.S 0 rfl rfl rfl rfl rfl ?_ | refine HL.S 1 rfl rfl rfl rfl rfl ?_ | refine HL.S 2 rfl rfl rfl rfl rfl ?_ | refine HL.S 3 rfl rfl rfl rfl rfl ?_) | refine HL.build rfl rfl ?_ | refine HL.field rfl rfl ?_ | (refine HL.box rfl rfl ?_; intro bk) | (refine HL.alloc rfl rfl ?_; intro bk) | refine HL.skip rfl rfl ?_ | refine HL.skip0 rfl ?_ | apply HL.andB rfl rfl rfl rfl rfl rfl rfl rfl | apply HL.orB rfl rfl rfl rfl rfl rfl rfl rfl) | refine HL.nil ?_ | refine HR.ctl rfl ?_ | refine HR.region ?_ | refine HR.condT rfl ?_ | refine HR.condF rfl ?_ | exact HL.blkEnd rfl rfl Ent.refl | (refine fun (hb : (_ : Bool) = _) => ?_; try simp at hb))
  refine HR.cond rfl (fun h => ?_) (fun h => ?_)
  · have h : Nm.valid s.mem = false := by simpa using h
    repeat' (first | (refine HL.isOp ?_; first | refine HL.ev rfl rfl ?_ | refine HL.evc rfl rfl (by first | omega | (simp; done) | (simp; omega)) ?_ | (refine HL.isLoad ?_; first | refine HL.L 0 rfl rfl rfl rfl ?_ | refine HL.L 1 rfl rfl rfl rfl ?_ | refine HL.L 2 rfl rfl rfl rfl ?_ | refine HL.L 3 rfl rfl rfl rfl ?_) | (refine HL.isStore ?_; first | refine HL.S 0 rfl rfl rfl rfl rfl ?_ | refine HL.S 1 rfl rfl rfl rfl rfl ?_ | refine HL.S 2 rfl rfl rfl rfl rfl ?_ | refine HL.S 3 rfl rfl rfl rfl rfl ?_) | refine HL.build rfl rfl ?_ | refine HL.field rfl rfl ?_ | (refine HL.box rfl rfl ?_; intro bk) | (refine HL.alloc rfl rfl ?_; intro bk) | refine HL.skip rfl rfl ?_ | refine HL.skip0 rfl ?_ | apply HL.andB rfl rfl rfl rfl rfl rfl rfl rfl | apply HL.orB rfl rfl rfl rfl rfl rfl rfl rfl) | refine HL.nil ?_ | refine HR.ctl rfl ?_ | refine HR.region ?_ | refine HR.condT rfl ?_ | refine HR.condF rfl ?_ | exact HL.blkEnd rfl rfl Ent.refl | (refine fun (hb : (_ : Bool) = _) => ?_; try simp at hb))
    refine HR.ret Try.func13 rfl [_] (fun _ _ => ⟨rfl, trivial⟩) ?_
    exact fun w' hw => ⟨by rw [Tk.check, if_pos h]; rfl, hw.belowB⟩
  have h : ¬ Nm.valid s.mem = false := by simpa using h
  repeat' (first | (refine HL.isOp ?_; first | refine HL.ev rfl rfl ?_ | refine HL.evc rfl rfl (by first | omega | (simp; done) | (simp; omega)) ?_ | (refine HL.isLoad ?_; first | refine HL.L 0 rfl rfl rfl rfl ?_ | refine HL.L 1 rfl rfl rfl rfl ?_ | refine HL.L 2 rfl rfl rfl rfl ?_ | refine HL.L 3 rfl rfl rfl rfl ?_) | (refine HL.isStore ?_; first | refine HL.S 0 rfl rfl rfl rfl rfl ?_ | refine HL.S 1 rfl rfl rfl rfl rfl ?_ | refine HL.S 2 rfl rfl rfl rfl rfl ?_ | refine HL.S 3 rfl rfl rfl rfl rfl ?_) | refine HL.build rfl rfl ?_ | refine HL.field rfl rfl ?_ | (refine HL.box rfl rfl ?_; intro bk) | (refine HL.alloc rfl rfl ?_; intro bk) | refine HL.skip rfl rfl ?_ | refine HL.skip0 rfl ?_ | apply HL.andB rfl rfl rfl rfl rfl rfl rfl rfl | apply HL.orB rfl rfl rfl rfl rfl rfl rfl rfl) | refine HL.nil ?_ | refine HR.ctl rfl ?_ | refine HR.region ?_ | refine HR.condT rfl ?_ | refine HR.condF rfl ?_ | exact HL.blkEnd rfl rfl Ent.refl | (refine fun (hb : (_ : Bool) = _) => ?_; try simp at hb))
  refine HR.cond rfl (fun h1 => ?_) (fun h1 => ?_)
  · have h1 : bad s = true := h1
    repeat' (first | (refine HL.isOp ?_; first | refine HL.ev rfl rfl ?_ | refine HL.evc rfl rfl (by first | omega | (simp; done) | (simp; omega)) ?_ | (refine HL.isLoad ?_; first | refine HL.L 0 rfl rfl rfl rfl ?_ | refine HL.L 1 rfl rfl rfl rfl ?_ | refine HL.L 2 rfl rfl rfl rfl ?_ | refine HL.L 3 rfl rfl rfl rfl ?_) | (refine HL.isStore ?_; first | refine HL.S 0 rfl rfl rfl rfl rfl ?_ | refine HL.S 1 rfl rfl rfl rfl rfl ?_ | refine HL.S 2 rfl rfl rfl rfl rfl ?_ | refine HL.S 3 rfl rfl rfl rfl rfl ?_) | refine HL.build rfl rfl ?_ | refine HL.field rfl rfl ?_ | (refine HL.box rfl rfl ?_; intro bk) | (refine HL.alloc rfl rfl ?_; intro bk) | refine HL.skip rfl rfl ?_ | refine HL.skip0 rfl ?_ | apply HL.andB rfl rfl rfl rfl rfl rfl rfl rfl | apply HL.orB rfl rfl rfl rfl rfl rfl rfl rfl) | refine HL.nil ?_ | refine HR.ctl rfl ?_ | refine HR.region ?_ | refine HR.condT rfl ?_ | refine HR.condF rfl ?_ | exact HL.blkEnd rfl rfl Ent.refl | (refine fun (hb : (_ : Bool) = _) => ?_; try simp at hb))
    refine HR.ret Try.func13 rfl [_] (fun _ _ => ⟨rfl, trivial⟩) ?_
    exact fun w' hw => ⟨by rw [Tk.check, if_neg h, if_pos h1]; rfl, hw.belowB⟩
  have h1 : bad s = false := h1
  have h1' : ¬ bad s = true := by rw [h1]; decide
  have hb := h1
  simp only [bad, Bool.or_eq_false_iff, decide_eq_false_iff_not] at hb
  repeat' (first | (refine HL.isOp ?_; first | refine HL.ev rfl rfl ?_ | refine HL.evc rfl rfl (by first | omega | (simp; done) | (simp; omega)) ?_ | (refine HL.isLoad ?_; first | refine HL.L 0 rfl rfl rfl rfl ?_ | refine HL.L 1 rfl rfl rfl rfl ?_ | refine HL.L 2 rfl rfl rfl rfl ?_ | refine HL.L 3 rfl rfl rfl rfl ?_) | (refine HL.isStore ?_; first | refine HL.S 0 rfl rfl rfl rfl rfl ?_ | refine HL.S 1 rfl rfl rfl rfl rfl ?_ | refine HL.S 2 rfl rfl rfl rfl rfl ?_ | refine HL.S 3 rfl rfl rfl rfl rfl ?_) | refine HL.build rfl rfl ?_ | refine HL.field rfl rfl ?_ | (refine HL.box rfl rfl ?_; intro bk) | (refine HL.alloc rfl rfl ?_; intro bk) | refine HL.skip rfl rfl ?_ | refine HL.skip0 rfl ?_ | apply HL.andB rfl rfl rfl rfl rfl rfl rfl rfl | apply HL.orB rfl rfl rfl rfl rfl rfl rfl rfl) | refine HL.nil ?_ | refine HR.ctl rfl ?_ | refine HR.region ?_ | refine HR.condT rfl ?_ | refine HR.condF rfl ?_ | exact HL.blkEnd rfl rfl Ent.refl | (refine fun (hb : (_ : Bool) = _) => ?_; try simp at hb))
  refine HR.cond rfl (fun h2 => ?_) (fun h2 => ?_)
  · have h2 : s.exp - s.iss > 43200 := of_decide_eq_true h2
    repeat' (first | (refine HL.isOp ?_; first | refine HL.ev rfl rfl ?_ | refine HL.evc rfl rfl (by first | omega | (simp; done) | (simp; omega)) ?_ | (refine HL.isLoad ?_; first | refine HL.L 0 rfl rfl rfl rfl ?_ | refine HL.L 1 rfl rfl rfl rfl ?_ | refine HL.L 2 rfl rfl rfl rfl ?_ | refine HL.L 3 rfl rfl rfl rfl ?_) | (refine HL.isStore ?_; first | refine HL.S 0 rfl rfl rfl rfl rfl ?_ | refine HL.S 1 rfl rfl rfl rfl rfl ?_ | refine HL.S 2 rfl rfl rfl rfl rfl ?_ | refine HL.S 3 rfl rfl rfl rfl rfl ?_) | refine HL.build rfl rfl ?_ | refine HL.field rfl rfl ?_ | (refine HL.box rfl rfl ?_; intro bk) | (refine HL.alloc rfl rfl ?_; intro bk) | refine HL.skip rfl rfl ?_ | refine HL.skip0 rfl ?_ | apply HL.andB rfl rfl rfl rfl rfl rfl rfl rfl | apply HL.orB rfl rfl rfl rfl rfl rfl rfl rfl) | refine HL.nil ?_ | refine HR.ctl rfl ?_ | refine HR.region ?_ | refine HR.condT rfl ?_ | refine HR.condF rfl ?_ | exact HL.blkEnd rfl rfl Ent.refl | (refine fun (hb : (_ : Bool) = _) => ?_; try simp at hb))
    refine HR.ret Try.func13 rfl [_] (fun _ _ => ⟨rfl, trivial⟩) ?_
    exact fun w' hw => ⟨by rw [Tk.check, if_neg h, if_neg h1', if_pos h2]; rfl, hw.belowB⟩
  · have h2 : ¬ s.exp - s.iss > 43200 := of_decide_eq_false h2
    repeat' (first | (refine HL.isOp ?_; first | refine HL.ev rfl rfl ?_ | refine HL.evc rfl rfl (by first | omega | (simp; done) | (simp; omega)) ?_ | (refine HL.isLoad ?_; first | refine HL.L 0 rfl rfl rfl rfl ?_ | refine HL.L 1 rfl rfl rfl rfl ?_ | refine HL.L 2 rfl rfl rfl rfl ?_ | refine HL.L 3 rfl rfl rfl rfl ?_) | (refine HL.isStore ?_; first | refine HL.S 0 rfl rfl rfl rfl rfl ?_ | refine HL.S 1 rfl rfl rfl rfl rfl ?_ | refine HL.S 2 rfl rfl rfl rfl rfl ?_ | refine HL.S 3 rfl rfl rfl rfl rfl ?_) | refine HL.build rfl rfl ?_ | refine HL.field rfl rfl ?_ | (refine HL.box rfl rfl ?_; intro bk) | (refine HL.alloc rfl rfl ?_; intro bk) | refine HL.skip rfl rfl ?_ | refine HL.skip0 rfl ?_ | apply HL.andB rfl rfl rfl rfl rfl rfl rfl rfl | apply HL.orB rfl rfl rfl rfl rfl rfl rfl rfl) | refine HL.nil ?_ | refine HR.ctl rfl ?_ | refine HR.region ?_ | refine HR.condT rfl ?_ | refine HR.condF rfl ?_ | exact HL.blkEnd rfl rfl Ent.refl | (refine fun (hb : (_ : Bool) = _) => ?_; try simp at hb))
    refine HR.ret Try.func13 rfl [_] (fun _ _ => ⟨rfl, trivial⟩) ?_
    exact fun w' hw => ⟨by rw [Tk.check, if_neg h, if_neg h1', if_neg h2]; rfl, hw.belowB⟩
theorem Ok.fits {s : Se} (h : Ok s) : s.mem.length ≤ 24 ∧ fits .i64 s.id ∧ fits .i64 s.iss ∧ fits .i64 s.exp := by
  obtain ⟨a1, a2, a3, a4, a5, a6, a7⟩ := h
  refine ⟨valid_len a1, ?_, ?_, ?_⟩ <;> simp only [GX.fits] <;> omega
theorem encI_len {n : Int} (h : fits .i64 n) : (encI n).length ≤ 10 := var_len10 (zig_lt h)
theorem payload_len {s : Se} (h : Ok s) : (text s.mem).length ≤ 34 ∧ (payload s).length ≤ 64 := by
  obtain ⟨h1, h2, h3, h4⟩ := Ok.fits h
  have e0 := encI_len (n := (s.mem.length : Int)) (by simp only [GX.fits]; omega)
  have e1 := encI_len h2
  have e2 := encI_len h3
  have e3 := encI_len h4
  have t1 : (text s.mem).length ≤ 34 := by rw [text, List.length_append]; omega
  refine ⟨t1, ?_⟩
  simp only [payload, List.length_append]; omega
theorem payload_any (s : Se) (w : World) (hok : Ok s) : Calls Try.prog 37 #[seV s] w fun e w' => e = .returned (str (payload s)) ∧ Below w.heap.size w w' := by
  obtain ⟨h1, h2, h3, h4⟩ := Ok.fits hok
  obtain ⟨l1, l2⟩ := payload_len hok
  have e1 := encI_len h2
  have e2 := encI_len h3
  have e3 := encI_len h4
  refine calls_hr Try.func37 rfl (Nat.le_of_ble_eq_true rfl) ?_
  refine HR.sub (σ' := [(0, seV s)]) ⟨rfl, trivial⟩ ?_
  repeat' (first | (refine HL.isOp ?_; first | refine HL.ev rfl rfl ?_ | refine HL.evc rfl rfl (by first | omega | (simp; done) | (simp; omega)) ?_ | (refine HL.isLoad ?_; first | refine HL.L 0 rfl rfl rfl rfl ?_ | refine HL.L 1 rfl rfl rfl rfl ?_ | refine HL.L 2 rfl rfl rfl rfl ?_ | refine HL.L 3 rfl rfl rfl rfl ?_) | (refine HL.isStore ?_; first | refine HL.S 0 rfl rfl rfl rfl rfl ?_ | refine HL.S 1 rfl rfl rfl rfl rfl ?_ | refine HL.S 2 rfl rfl rfl rfl rfl ?_ | refine HL.S 3 rfl rfl rfl rfl rfl ?_) | refine HL.build rfl rfl ?_ | refine HL.field rfl rfl ?_ | (refine HL.box rfl rfl ?_; intro bk) | (refine HL.alloc rfl rfl ?_; intro bk) | refine HL.skip rfl rfl ?_ | refine HL.skip0 rfl ?_) | refine HL.nil ?_ | refine HR.ctl rfl ?_ | refine HR.region ?_ | refine HR.condT rfl ?_ | refine HR.condF rfl ?_)
  refine HR.regionD [(0, true), (1, true), (3, true), (4, true), (7, true), (8, true), (11, true), (12, true), (2, false), (5, false), (6, true), (9, false), (10, true), (13, false), (14, true), (15, true)] [0] rfl rfl hmix (by kernel_rfl) ?_
  repeat' (first | refine HD.ev rfl rfl rfl ?_ | refine HD.evc rfl rfl rfl (by first | omega | (simp; done) | (simp; omega)) ?_ | refine HD.L 0 rfl rfl rfl rfl rfl ?_ | refine HD.L 1 rfl rfl rfl rfl rfl ?_ | refine HD.L 2 rfl rfl rfl rfl rfl ?_ | refine HD.L 3 rfl rfl rfl rfl rfl ?_ | refine HD.build rfl rfl rfl ?_ | refine HD.field rfl rfl rfl ?_ | refine HD.skip rfl rfl rfl ?_ | refine HD.skipO rfl rfl rfl ?_ | (refine HD.one rfl ?_; first | refine HL.ev rfl rfl ?_ | refine HL.callB fn59 rfl rfl (fun w _ => text_any s.mem w (by omega)) ?_ | refine HL.callB fn60 rfl rfl (fun w _ => int_any s.id w h2) ?_ | refine HL.callB fn60 rfl rfl (fun w _ => int_any s.iss w h3) ?_ | refine HL.callB fn60 rfl rfl (fun w _ => int_any s.exp w h4) ?_ | (refine HL.isLoad ?_; first | refine HL.L 0 rfl rfl rfl rfl ?_ | refine HL.L 1 rfl rfl rfl rfl ?_ | refine HL.L 2 rfl rfl rfl rfl ?_ | refine HL.L 3 rfl rfl rfl rfl ?_) | (refine HL.isStore ?_; first | refine HL.S 0 rfl rfl rfl rfl rfl ?_ | refine HL.S 1 rfl rfl rfl rfl rfl ?_ | refine HL.S 2 rfl rfl rfl rfl rfl ?_ | refine HL.S 3 rfl rfl rfl rfl rfl ?_) | (refine HL.alloc rfl rfl ?_; intro bk)) | refine HL.back [0] rfl rfl ?_ | refine HD.nil ?_)
  repeat' (first | (refine HL.isOp ?_; first | refine HL.ev rfl rfl ?_ | refine HL.evc rfl rfl (by first | omega | (simp; done) | (simp; omega)) ?_ | (refine HL.isLoad ?_; first | refine HL.L 0 rfl rfl rfl rfl ?_ | refine HL.L 1 rfl rfl rfl rfl ?_ | refine HL.L 2 rfl rfl rfl rfl ?_ | refine HL.L 3 rfl rfl rfl rfl ?_) | (refine HL.isStore ?_; first | refine HL.S 0 rfl rfl rfl rfl rfl ?_ | refine HL.S 1 rfl rfl rfl rfl rfl ?_ | refine HL.S 2 rfl rfl rfl rfl rfl ?_ | refine HL.S 3 rfl rfl rfl rfl rfl ?_) | refine HL.build rfl rfl ?_ | refine HL.field rfl rfl ?_ | (refine HL.box rfl rfl ?_; intro bk) | (refine HL.alloc rfl rfl ?_; intro bk) | refine HL.skip rfl rfl ?_ | refine HL.skip0 rfl ?_) | refine HL.nil ?_ | refine HR.ctl rfl ?_ | refine HR.region ?_ | refine HR.condT rfl ?_ | refine HR.condF rfl ?_)
  refine HR.ret Try.func37 rfl [_] (fun _ _ => ⟨rfl, trivial⟩) ?_
  exact fun w' hw => ⟨rfl, hw.belowB⟩
theorem rpayload_any (s : Se) (w : World) (hok : Ok s) : Calls Try.prog 38 #[seV s] w fun e w' => e = .returned (str (payload s)) ∧ Below w.heap.size w w' := by
  obtain ⟨h1, h2, h3, h4⟩ := Ok.fits hok
  obtain ⟨l1, l2⟩ := payload_len hok
  have e1 := encI_len h2
  have e2 := encI_len h3
  have e3 := encI_len h4
  refine calls_hr Try.func38 rfl (Nat.le_of_ble_eq_true rfl) ?_
  refine HR.sub (σ' := [(0, seV s)]) ⟨rfl, trivial⟩ ?_
  repeat' (first | (refine HL.isOp ?_; first | refine HL.ev rfl rfl ?_ | refine HL.evc rfl rfl (by first | omega | (simp; done) | (simp; omega)) ?_ | (refine HL.isLoad ?_; first | refine HL.L 0 rfl rfl rfl rfl ?_ | refine HL.L 1 rfl rfl rfl rfl ?_ | refine HL.L 2 rfl rfl rfl rfl ?_ | refine HL.L 3 rfl rfl rfl rfl ?_) | (refine HL.isStore ?_; first | refine HL.S 0 rfl rfl rfl rfl rfl ?_ | refine HL.S 1 rfl rfl rfl rfl rfl ?_ | refine HL.S 2 rfl rfl rfl rfl rfl ?_ | refine HL.S 3 rfl rfl rfl rfl rfl ?_) | refine HL.build rfl rfl ?_ | refine HL.field rfl rfl ?_ | (refine HL.box rfl rfl ?_; intro bk) | (refine HL.alloc rfl rfl ?_; intro bk) | refine HL.skip rfl rfl ?_ | refine HL.skip0 rfl ?_) | refine HL.nil ?_ | refine HR.ctl rfl ?_ | refine HR.region ?_ | refine HR.condT rfl ?_ | refine HR.condF rfl ?_)
  refine HR.regionD [(0, true), (1, true), (3, true), (4, true), (7, true), (8, true), (11, true), (12, true), (2, false), (5, false), (6, true), (9, false), (10, true), (13, false), (14, true), (15, true)] [0] rfl rfl hmix (by kernel_rfl) ?_
  repeat' (first | refine HD.ev rfl rfl rfl ?_ | refine HD.evc rfl rfl rfl (by first | omega | (simp; done) | (simp; omega)) ?_ | refine HD.L 0 rfl rfl rfl rfl rfl ?_ | refine HD.L 1 rfl rfl rfl rfl rfl ?_ | refine HD.L 2 rfl rfl rfl rfl rfl ?_ | refine HD.L 3 rfl rfl rfl rfl rfl ?_ | refine HD.build rfl rfl rfl ?_ | refine HD.field rfl rfl rfl ?_ | refine HD.skip rfl rfl rfl ?_ | refine HD.skipO rfl rfl rfl ?_ | (refine HD.one rfl ?_; first | refine HL.ev rfl rfl ?_ | refine HL.callB fn61 rfl rfl (fun w _ => rtext_any s.mem w (by omega)) ?_ | refine HL.callB fn62 rfl rfl (fun w _ => rint_any s.id w h2) ?_ | refine HL.callB fn62 rfl rfl (fun w _ => rint_any s.iss w h3) ?_ | refine HL.callB fn62 rfl rfl (fun w _ => rint_any s.exp w h4) ?_ | (refine HL.isLoad ?_; first | refine HL.L 0 rfl rfl rfl rfl ?_ | refine HL.L 1 rfl rfl rfl rfl ?_ | refine HL.L 2 rfl rfl rfl rfl ?_ | refine HL.L 3 rfl rfl rfl rfl ?_) | (refine HL.isStore ?_; first | refine HL.S 0 rfl rfl rfl rfl rfl ?_ | refine HL.S 1 rfl rfl rfl rfl rfl ?_ | refine HL.S 2 rfl rfl rfl rfl rfl ?_ | refine HL.S 3 rfl rfl rfl rfl rfl ?_) | (refine HL.alloc rfl rfl ?_; intro bk)) | refine HL.back [0] rfl rfl ?_ | refine HD.nil ?_)
  repeat' (first | (refine HL.isOp ?_; first | refine HL.ev rfl rfl ?_ | refine HL.evc rfl rfl (by first | omega | (simp; done) | (simp; omega)) ?_ | (refine HL.isLoad ?_; first | refine HL.L 0 rfl rfl rfl rfl ?_ | refine HL.L 1 rfl rfl rfl rfl ?_ | refine HL.L 2 rfl rfl rfl rfl ?_ | refine HL.L 3 rfl rfl rfl rfl ?_) | (refine HL.isStore ?_; first | refine HL.S 0 rfl rfl rfl rfl rfl ?_ | refine HL.S 1 rfl rfl rfl rfl rfl ?_ | refine HL.S 2 rfl rfl rfl rfl rfl ?_ | refine HL.S 3 rfl rfl rfl rfl rfl ?_) | refine HL.build rfl rfl ?_ | refine HL.field rfl rfl ?_ | (refine HL.box rfl rfl ?_; intro bk) | (refine HL.alloc rfl rfl ?_; intro bk) | refine HL.skip rfl rfl ?_ | refine HL.skip0 rfl ?_) | refine HL.nil ?_ | refine HR.ctl rfl ?_ | refine HR.region ?_ | refine HR.condT rfl ?_ | refine HR.condF rfl ?_)
  refine HR.ret Try.func38 rfl [_] (fun _ _ => ⟨rfl, trivial⟩) ?_
  exact fun w' hw => ⟨rfl, hw.belowB⟩
theorem issue_any (key : Nat) (s : Se) (w : World) (hm : s.mem.length ≤ 9223372036854775807) : Calls Try.prog 18 #[.int .u64 (key : Int), seV s] w fun e w' => e = .returned (.tuple ⟨[str (issue key s).1, .int .i64 (issue key s).2]⟩) ∧ Below w.heap.size w w' := by
  refine calls_hr Try.func18 rfl (Nat.le_of_ble_eq_true rfl) ?_
  refine HR.sub (σ' := [(0, .int .u64 (key : Int)), (1, seV s)]) ⟨rfl, rfl, trivial⟩ ?_
  repeat' (first | (refine HL.isOp ?_; first | refine HL.ev rfl rfl ?_ | refine HL.evc rfl rfl (by first | omega | (simp; done) | (simp; omega)) ?_ | refine HL.callB fn12 rfl rfl (fun w _ => check48_any s w hm) ?_ | (refine HL.isLoad ?_; first | refine HL.L 0 rfl rfl rfl rfl ?_ | refine HL.L 1 rfl rfl rfl rfl ?_ | refine HL.L 2 rfl rfl rfl rfl ?_ | refine HL.L 3 rfl rfl rfl rfl ?_) | (refine HL.isStore ?_; first | refine HL.S 0 rfl rfl rfl rfl rfl ?_ | refine HL.S 1 rfl rfl rfl rfl rfl ?_ | refine HL.S 2 rfl rfl rfl rfl rfl ?_ | refine HL.S 3 rfl rfl rfl rfl rfl ?_) | refine HL.build rfl rfl ?_ | refine HL.field rfl rfl ?_ | (refine HL.box rfl rfl ?_; intro bk) | (refine HL.alloc rfl rfl ?_; intro bk) | refine HL.skip rfl rfl ?_ | refine HL.skip0 rfl ?_ | apply HL.andB rfl rfl rfl rfl rfl rfl rfl rfl | apply HL.orB rfl rfl rfl rfl rfl rfl rfl rfl) | refine HL.nil ?_ | refine HR.ctl rfl ?_ | refine HR.region ?_ | refine HR.condT rfl ?_ | refine HR.condF rfl ?_ | exact HL.blkEnd rfl rfl Ent.refl | (refine fun (hb : (_ : Bool) = _) => ?_; try simp at hb))
  refine HR.cond rfl (fun h => ?_) (fun h => ?_)
  · have h : ¬ Tk.check s = 0 := by simpa using h
    repeat' (first | (refine HL.isOp ?_; first | refine HL.ev rfl rfl ?_ | refine HL.evc rfl rfl (by first | omega | (simp; done) | (simp; omega)) ?_ | (refine HL.isLoad ?_; first | refine HL.L 0 rfl rfl rfl rfl ?_ | refine HL.L 1 rfl rfl rfl rfl ?_ | refine HL.L 2 rfl rfl rfl rfl ?_ | refine HL.L 3 rfl rfl rfl rfl ?_) | (refine HL.isStore ?_; first | refine HL.S 0 rfl rfl rfl rfl rfl ?_ | refine HL.S 1 rfl rfl rfl rfl rfl ?_ | refine HL.S 2 rfl rfl rfl rfl rfl ?_ | refine HL.S 3 rfl rfl rfl rfl rfl ?_) | refine HL.build rfl rfl ?_ | refine HL.field rfl rfl ?_ | (refine HL.box rfl rfl ?_; intro bk) | (refine HL.alloc rfl rfl ?_; intro bk) | refine HL.skip rfl rfl ?_ | refine HL.skip0 rfl ?_ | apply HL.andB rfl rfl rfl rfl rfl rfl rfl rfl | apply HL.orB rfl rfl rfl rfl rfl rfl rfl rfl) | refine HL.nil ?_ | refine HR.ctl rfl ?_ | refine HR.region ?_ | refine HR.condT rfl ?_ | refine HR.condF rfl ?_ | exact HL.blkEnd rfl rfl Ent.refl | (refine fun (hb : (_ : Bool) = _) => ?_; try simp at hb))
    refine HR.ret Try.func18 rfl [_, _] (fun _ _ => ⟨rfl, rfl, trivial⟩) ?_
    exact fun w' hw => ⟨by rw [issue, if_neg h]; rfl, hw.belowB⟩
  · have h : Tk.check s = 0 := by simpa using h
    have hok := ok_of h
    have hl := (payload_len hok).2
    have hl2 := seal_len key (payload s)
    repeat' (first | (refine HL.isOp ?_; first | refine HL.ev rfl rfl ?_ | refine HL.evc rfl rfl (by first | omega | (simp; done) | (simp; omega)) ?_ | refine HL.callB fn37 rfl rfl (fun w _ => payload_any s w hok) ?_ | refine HL.callB fn36 rfl rfl (fun w _ => seal_any key (payload s) w (by omega)) ?_ | refine HL.callB fn16 rfl rfl (fun w _ => hex_any (seal_ key (payload s)) w (by omega)) ?_ | (refine HL.isLoad ?_; first | refine HL.L 0 rfl rfl rfl rfl ?_ | refine HL.L 1 rfl rfl rfl rfl ?_ | refine HL.L 2 rfl rfl rfl rfl ?_ | refine HL.L 3 rfl rfl rfl rfl ?_) | (refine HL.isStore ?_; first | refine HL.S 0 rfl rfl rfl rfl rfl ?_ | refine HL.S 1 rfl rfl rfl rfl rfl ?_ | refine HL.S 2 rfl rfl rfl rfl rfl ?_ | refine HL.S 3 rfl rfl rfl rfl rfl ?_) | refine HL.build rfl rfl ?_ | refine HL.field rfl rfl ?_ | (refine HL.box rfl rfl ?_; intro bk) | (refine HL.alloc rfl rfl ?_; intro bk) | refine HL.skip rfl rfl ?_ | refine HL.skip0 rfl ?_ | apply HL.andB rfl rfl rfl rfl rfl rfl rfl rfl | apply HL.orB rfl rfl rfl rfl rfl rfl rfl rfl) | refine HL.nil ?_ | refine HR.ctl rfl ?_ | refine HR.region ?_ | refine HR.condT rfl ?_ | refine HR.condF rfl ?_ | exact HL.blkEnd rfl rfl Ent.refl | (refine fun (hb : (_ : Bool) = _) => ?_; try simp at hb))
    refine HR.ret Try.func18 rfl [_, _] (fun _ _ => ⟨rfl, rfl, trivial⟩) ?_
    exact fun w' hw => ⟨by rw [issue, if_pos h]; rfl, hw.belowB⟩
theorem rissue_any (key : Nat) (s : Se) (w : World) (hm : s.mem.length ≤ 9223372036854775807) : Calls Try.prog 19 #[.int .u64 (key : Int), seV s] w fun e w' => e = .returned (.tuple ⟨[str (issue key s).1, .int .i64 (issue key s).2]⟩) ∧ Below w.heap.size w w' := by
  refine calls_hr Try.func19 rfl (Nat.le_of_ble_eq_true rfl) ?_
  refine HR.sub (σ' := [(0, .int .u64 (key : Int)), (1, seV s)]) ⟨rfl, rfl, trivial⟩ ?_
  repeat' (first | (refine HL.isOp ?_; first | refine HL.ev rfl rfl ?_ | refine HL.evc rfl rfl (by first | omega | (simp; done) | (simp; omega)) ?_ | refine HL.callB fn13 rfl rfl (fun w _ => rcheck48_any s w hm) ?_ | (refine HL.isLoad ?_; first | refine HL.L 0 rfl rfl rfl rfl ?_ | refine HL.L 1 rfl rfl rfl rfl ?_ | refine HL.L 2 rfl rfl rfl rfl ?_ | refine HL.L 3 rfl rfl rfl rfl ?_) | (refine HL.isStore ?_; first | refine HL.S 0 rfl rfl rfl rfl rfl ?_ | refine HL.S 1 rfl rfl rfl rfl rfl ?_ | refine HL.S 2 rfl rfl rfl rfl rfl ?_ | refine HL.S 3 rfl rfl rfl rfl rfl ?_) | refine HL.build rfl rfl ?_ | refine HL.field rfl rfl ?_ | (refine HL.box rfl rfl ?_; intro bk) | (refine HL.alloc rfl rfl ?_; intro bk) | refine HL.skip rfl rfl ?_ | refine HL.skip0 rfl ?_ | apply HL.andB rfl rfl rfl rfl rfl rfl rfl rfl | apply HL.orB rfl rfl rfl rfl rfl rfl rfl rfl) | refine HL.nil ?_ | refine HR.ctl rfl ?_ | refine HR.region ?_ | refine HR.condT rfl ?_ | refine HR.condF rfl ?_ | exact HL.blkEnd rfl rfl Ent.refl | (refine fun (hb : (_ : Bool) = _) => ?_; try simp at hb))
  refine HR.cond rfl (fun h => ?_) (fun h => ?_)
  · have h : ¬ Tk.check s = 0 := by simpa using h
    repeat' (first | (refine HL.isOp ?_; first | refine HL.ev rfl rfl ?_ | refine HL.evc rfl rfl (by first | omega | (simp; done) | (simp; omega)) ?_ | (refine HL.isLoad ?_; first | refine HL.L 0 rfl rfl rfl rfl ?_ | refine HL.L 1 rfl rfl rfl rfl ?_ | refine HL.L 2 rfl rfl rfl rfl ?_ | refine HL.L 3 rfl rfl rfl rfl ?_) | (refine HL.isStore ?_; first | refine HL.S 0 rfl rfl rfl rfl rfl ?_ | refine HL.S 1 rfl rfl rfl rfl rfl ?_ | refine HL.S 2 rfl rfl rfl rfl rfl ?_ | refine HL.S 3 rfl rfl rfl rfl rfl ?_) | refine HL.build rfl rfl ?_ | refine HL.field rfl rfl ?_ | (refine HL.box rfl rfl ?_; intro bk) | (refine HL.alloc rfl rfl ?_; intro bk) | refine HL.skip rfl rfl ?_ | refine HL.skip0 rfl ?_ | apply HL.andB rfl rfl rfl rfl rfl rfl rfl rfl | apply HL.orB rfl rfl rfl rfl rfl rfl rfl rfl) | refine HL.nil ?_ | refine HR.ctl rfl ?_ | refine HR.region ?_ | refine HR.condT rfl ?_ | refine HR.condF rfl ?_ | exact HL.blkEnd rfl rfl Ent.refl | (refine fun (hb : (_ : Bool) = _) => ?_; try simp at hb))
    refine HR.ret Try.func19 rfl [_, _] (fun _ _ => ⟨rfl, rfl, trivial⟩) ?_
    exact fun w' hw => ⟨by rw [issue, if_neg h]; rfl, hw.belowB⟩
  · have h : Tk.check s = 0 := by simpa using h
    have hok := ok_of h
    have hl := (payload_len hok).2
    have hl2 := seal_len key (payload s)
    repeat' (first | (refine HL.isOp ?_; first | refine HL.ev rfl rfl ?_ | refine HL.evc rfl rfl (by first | omega | (simp; done) | (simp; omega)) ?_ | refine HL.callB fn38 rfl rfl (fun w _ => rpayload_any s w hok) ?_ | refine HL.callB fn20 rfl rfl (fun w _ => rseal_any key (payload s) w (by omega)) ?_ | refine HL.callB fn17 rfl rfl (fun w _ => rhex_any (seal_ key (payload s)) w (by omega)) ?_ | (refine HL.isLoad ?_; first | refine HL.L 0 rfl rfl rfl rfl ?_ | refine HL.L 1 rfl rfl rfl rfl ?_ | refine HL.L 2 rfl rfl rfl rfl ?_ | refine HL.L 3 rfl rfl rfl rfl ?_) | (refine HL.isStore ?_; first | refine HL.S 0 rfl rfl rfl rfl rfl ?_ | refine HL.S 1 rfl rfl rfl rfl rfl ?_ | refine HL.S 2 rfl rfl rfl rfl rfl ?_ | refine HL.S 3 rfl rfl rfl rfl rfl ?_) | refine HL.build rfl rfl ?_ | refine HL.field rfl rfl ?_ | (refine HL.box rfl rfl ?_; intro bk) | (refine HL.alloc rfl rfl ?_; intro bk) | refine HL.skip rfl rfl ?_ | refine HL.skip0 rfl ?_ | apply HL.andB rfl rfl rfl rfl rfl rfl rfl rfl | apply HL.orB rfl rfl rfl rfl rfl rfl rfl rfl) | refine HL.nil ?_ | refine HR.ctl rfl ?_ | refine HR.region ?_ | refine HR.condT rfl ?_ | refine HR.condF rfl ?_ | exact HL.blkEnd rfl rfl Ent.refl | (refine fun (hb : (_ : Bool) = _) => ?_; try simp at hb))
    refine HR.ret Try.func19 rfl [_, _] (fun _ _ => ⟨rfl, rfl, trivial⟩) ?_
    exact fun w' hw => ⟨by rw [issue, if_pos h]; rfl, hw.belowB⟩
end Go.Proofs.Ytfjomclebkgocaa

/- What the functions of the chapter on graphs compute: edges, checks, removals. Conditions: none. -/
namespace Go.GX
open Go.RowKit
set_option linter.unusedVariables false
set_option linter.unusedSectionVars false
set_option linter.unusedSimpArgs false
structure Ed where
  a : Int
  b : Int
  deriving DecidableEq
def edC (e : Ed) : List Value := [.int .i64 e.a, .int .i64 e.b]
theorem edC_len (e : Ed) : (edC e).length = 2 := rfl
theorem edC_one (e : Ed) : allOne (edC e) = true := rfl
namespace Tp
def okN (n : Int) : Bool := decide (n ≥ 0) && decide (n ≤ 250)
def okE (e : Ed) : Bool := okN e.a && okN e.b && (e.a != e.b)
def link (e : Ed) : Ed := ⟨if e.b < e.a then e.b else e.a, if e.b > e.a then e.b else e.a⟩
def same (a b : Ed) : Bool := (a.a == b.a && (a.b == b.b && true)) || (a.a == b.b && a.b == b.a)
theorem same_link (x y : Ed) : same x y = decide (link x = link y) := by
  obtain ⟨a, b⟩ := x
  obtain ⟨c, d⟩ := y
  simp only [same, link]
  rw [Bool.eq_iff_iff]
  simp only [Bool.or_eq_true, Bool.and_eq_true, beq_iff_eq, and_true, decide_eq_true_eq, Ed.mk.injEq]
  split <;> split <;> split <;> split <;> omega
def chk (pre : List Ed) : List Ed → Int
  | [] => 0
  | e :: r => if okE e = false then 2 else if link e ∈ pre.map link then 9 else chk (pre ++ [e]) r
def check (l : List Ed) : Int := if l.length > 256 then 3 else chk [] l
theorem chk_at {l : List Ed} {j : Nat} {e : Ed} (he : l[j]? = some e) (hok : okE e = true) (hn : link e ∉ (l.take j).map link) : chk (l.take j) (l.drop j) = chk (l.take (j + 1)) (l.drop (j + 1)) := by
  rw [drop_get he, chk, if_neg (by rw [hok]; decide), if_neg hn, take_succ_get he]
theorem chk_bad {l : List Ed} {j : Nat} {e : Ed} (he : l[j]? = some e) (hok : okE e = false) : chk (l.take j) (l.drop j) = 2 := by
  rw [drop_get he, chk, if_pos hok]
theorem chk_dup {l : List Ed} {j : Nat} {e : Ed} (he : l[j]? = some e) (hok : okE e = true) (hn : link e ∈ (l.take j).map link) : chk (l.take j) (l.drop j) = 9 := by
  rw [drop_get he, chk, if_neg (by rw [hok]; decide), if_pos hn]
def stays (off : List Int) (e : Ed) : Bool := okE e && !(decide (e.a ∈ off)) && !(decide (e.b ∈ off))
def without (l : List Ed) (off : List Int) : List Ed := l.filter (stays off)
theorem without_take {l : List Ed} {off : List Int} {j : Nat} {e : Ed} (he : l[j]? = some e) : without (l.take (j + 1)) off = without (l.take j) off ++ if stays off e then [e] else [] := by
  rw [take_succ_get he, without, List.filter_append]
  simp only [List.filter_cons, List.filter_nil]
  rfl
theorem without_len (l : List Ed) (off : List Int) : (without l off).length ≤ l.length := List.length_filter_le _ _
end Tp
end Go.GX

/- The graph of a list of edges: neighbors, distances. Conditions: none. -/
namespace Go.GX.Tp
open Go.GX
set_option linter.unusedVariables false
set_option linter.unusedSectionVars false
set_option linter.unusedSimpArgs false
def nodes : List Int := (List.range 251).map Int.ofNat
theorem mem_nodes {n : Int} : n ∈ nodes ↔ okN n = true := by
  simp only [nodes, List.mem_map, List.mem_range, okN, Bool.and_eq_true, decide_eq_true_eq]
  constructor
  · rintro ⟨k, hk, rfl⟩
    exact ⟨Int.natCast_nonneg k, by have : (k : Int) ≤ 250 := by omega
                                    exact this⟩
  · rintro ⟨h1, h2⟩
    exact ⟨n.toNat, by omega, by simp; omega⟩
theorem nodes_sorted : nodes.Pairwise (· < ·) := by
  unfold nodes
  rw [List.pairwise_map]
  exact List.pairwise_lt_range.imp fun h => by simpa using h
def linked (l : List Ed) (a b : Int) : Bool := l.any fun e => okE e && same e ⟨a, b⟩
theorem linked_iff {l : List Ed} {a b : Int} : linked l a b = true ↔ ∃ e ∈ l, okE e = true ∧ (e = ⟨a, b⟩ ∨ e = ⟨b, a⟩) := by
  simp only [linked, List.any_eq_true, Bool.and_eq_true, same, Bool.or_eq_true, beq_iff_eq, and_true]
  constructor
  · rintro ⟨⟨x, y⟩, he, hok, h⟩
    refine ⟨⟨x, y⟩, he, hok, ?_⟩
    rcases h with ⟨h1, h2⟩ | ⟨h1, h2⟩
    · left; simp_all
    · right; simp_all
  · rintro ⟨⟨x, y⟩, he, hok, h⟩
    refine ⟨⟨x, y⟩, he, hok, ?_⟩
    rcases h with h | h
    · left; simp_all
    · right; simp_all
theorem linked_symm {l : List Ed} {a b : Int} : linked l a b = linked l b a := by
  rw [Bool.eq_iff_iff, linked_iff, linked_iff]
  constructor <;> (rintro ⟨e, h1, h2, h3⟩; exact ⟨e, h1, h2, h3.symm⟩)
theorem linked_ok {l : List Ed} {a b : Int} (h : linked l a b = true) : okN a = true ∧ okN b = true ∧ a ≠ b := by
  obtain ⟨e, _, hok, h⟩ := linked_iff.1 h
  simp only [okE, Bool.and_eq_true, bne_iff_ne, ne_eq] at hok
  rcases h with rfl | rfl
  · exact ⟨hok.1.1, hok.1.2, hok.2⟩
  · exact ⟨hok.1.2, hok.1.1, fun e => hok.2 e.symm⟩
def nbrs (l : List Ed) (n : Int) : List Int := nodes.filter (linked l n)
theorem mem_nbrs {l : List Ed} {n k : Int} : k ∈ nbrs l n ↔ linked l n k = true := by
  simp only [nbrs, List.mem_filter, mem_nodes]
  exact ⟨fun h => h.2, fun h => ⟨(linked_ok h).2.1, h⟩⟩
theorem nbrs_sorted (l : List Ed) (n : Int) : (nbrs l n).Pairwise (· < ·) := nodes_sorted.sublist List.filter_sublist
theorem nbrs_len (l : List Ed) (n : Int) : (nbrs l n).length ≤ 251 := by
  have := List.length_filter_le (linked l n) nodes
  have h2 : nodes.length = 251 := by simp [nodes]
  unfold nbrs; omega
/-- Two strictly ascending lists with the same members are one. -/
theorem sorted_ext : ∀ {a b : List Int}, a.Pairwise (· < ·) → b.Pairwise (· < ·) → (∀ x, x ∈ a ↔ x ∈ b) → a = b
  | [], [], _, _, _ => rfl
  | [], y :: b, _, _, h => by have := (h y).2 (List.mem_cons_self ..); cases this
  | x :: a, [], _, _, h => by have := (h x).1 (List.mem_cons_self ..); cases this
  | x :: a, y :: b, ha, hb, h => by
    obtain ⟨ha1, ha2⟩ := List.pairwise_cons.1 ha
    obtain ⟨hb1, hb2⟩ := List.pairwise_cons.1 hb
    have hxy : x = y := by
      rcases List.mem_cons.1 ((h x).1 (List.mem_cons_self ..)) with e | e
      · exact e
      · rcases List.mem_cons.1 ((h y).2 (List.mem_cons_self ..)) with e' | e'
        · exact e'.symm
        · have := hb1 x e; have := ha1 y e'; omega
    subst hxy
    congr 1
    refine sorted_ext ha2 hb2 fun z => ?_
    constructor
    · intro hz
      rcases List.mem_cons.1 ((h z).1 (List.mem_cons_of_mem _ hz)) with e | e
      · subst e; have := ha1 z hz; omega
      · exact e
    · intro hz
      rcases List.mem_cons.1 ((h z).2 (List.mem_cons_of_mem _ hz)) with e | e
      · subst e; have := hb1 z hz; omega
      · exact e
/-- What an ordered list of different numbers is. -/
theorem sort_unique {a : List Int} {s : List Int} (hp : s.Perm a) (hs : s.Pairwise (· ≤ ·)) (hn : a.Nodup) {b : List Int} (hb : b.Pairwise (· < ·)) (hm : ∀ x, x ∈ a ↔ x ∈ b) : s = b := by
  refine sorted_ext ?_ hb fun x => by rw [hp.mem_iff, hm]
  have hn' : s.Nodup := hp.nodup_iff.2 hn
  exact (hs.and hn').imp fun ⟨h1, h2⟩ => by omega

/-! ### Building the graph -/
/-- After the edges l: who stands in the list of n. -/
structure Adj (l : List Ed) (adj : Int → List Int) : Prop where
  nodup : ∀ n, (adj n).Nodup
  mem : ∀ n x, x ∈ adj n ↔ linked l n x = true
theorem Adj.nil : Adj [] fun _ => [] := ⟨fun _ => List.nodup_nil, fun n x => by simp [linked]⟩
theorem linked_snoc {l : List Ed} {e : Ed} {a b : Int} : linked (l ++ [e]) a b = (linked l a b || (okE e && same e ⟨a, b⟩)) := by simp [linked]
theorem link_in {l : List Ed} {a b : Int} (hab : a ≠ b) (h1 : okN a = true) (h2 : okN b = true) : linked l a b = true ↔ ∃ e ∈ l, okE e = true ∧ link e = link ⟨a, b⟩ := by
  rw [linked_iff]
  have : ∀ e : Ed, (e = ⟨a, b⟩ ∨ e = ⟨b, a⟩) ↔ link e = link ⟨a, b⟩ := by
    intro e
    have := same_link e ⟨a, b⟩
    have h3 : (same e ⟨a, b⟩ = true) ↔ (e = ⟨a, b⟩ ∨ e = ⟨b, a⟩) := by
      obtain ⟨x, y⟩ := e
      simp [same]
    rw [← h3, this, decide_eq_true_eq]
  exact ⟨fun ⟨e, h1, h2, h3⟩ => ⟨e, h1, h2, (this e).1 h3⟩, fun ⟨e, h1, h2, h3⟩ => ⟨e, h1, h2, (this e).2 h3⟩⟩
def upd (adj : Int → List Int) (n : Int) (xs : List Int) : Int → List Int := fun k => if k = n then xs else adj k
theorem Adj.skip {l : List Ed} {adj : Int → List Int} {e : Ed} (h : Adj l adj) (hs : okE e = false ∨ ∃ e' ∈ l, okE e' = true ∧ link e' = link e) : Adj (l ++ [e]) adj := by
  refine ⟨h.nodup, fun n x => ?_⟩
  rw [h.mem, linked_snoc]
  rcases hs with hs | ⟨e', h1, h2, h3⟩
  · simp [hs]
  · constructor
    · intro h; simp [h]
    · intro hh
      rcases Bool.or_eq_true_iff.1 hh with hh | hh
      · exact hh
      · obtain ⟨hok, hsm⟩ := Bool.and_eq_true_iff.1 hh
        rw [same_link, decide_eq_true_eq] at hsm
        simp only [linked, List.any_eq_true, Bool.and_eq_true]
        exact ⟨e', h1, h2, by rw [same_link, h3, hsm]; simp⟩
theorem Adj.add {l : List Ed} {adj : Int → List Int} {e : Ed} (h : Adj l adj) (hok : okE e = true) (hs : ∀ e' ∈ l, okE e' = true → link e' ≠ link e) : Adj (l ++ [e]) (upd (upd adj e.a (adj e.a ++ [e.b])) e.b (adj e.b ++ [e.a])) := by
  obtain ⟨a, b⟩ := e
  have hok' := hok
  simp only [okE, Bool.and_eq_true, bne_iff_ne, ne_eq] at hok'
  obtain ⟨⟨ha, hb⟩, hab⟩ := hok'
  have hn : linked l a b = false := by
    rw [← Bool.not_eq_true]
    intro hl
    obtain ⟨e', h1, h2, h3⟩ := (link_in hab ha hb).1 hl
    exact hs e' h1 h2 h3
  have hn2 : linked l b a = false := by rw [linked_symm]; exact hn
  have nb : b ∉ adj a := fun hm => by rw [h.mem, hn] at hm; cases hm
  have na : a ∉ adj b := fun hm => by rw [h.mem, hn2] at hm; cases hm
  have nd : ∀ (n x : Int), x ∉ adj n → (adj n ++ [x]).Nodup := fun n x hx => List.nodup_append.2 ⟨h.nodup n, by simp, fun y hy z hz => by simp at hz; subst hz; exact fun e => hx (e ▸ hy)⟩
  refine ⟨fun n => ?_, fun n x => ?_⟩
  · simp only [upd]
    split
    · exact nd _ _ na
    · split
      · exact nd _ _ nb
      · exact h.nodup n
  · rw [linked_snoc, hok]
    simp only [upd, same, Bool.true_and]
    by_cases h1 : n = b
    · subst h1
      have : ¬ n = a := fun e => hab e.symm
      rw [if_pos rfl, List.mem_append, h.mem]
      simp only [List.mem_singleton, Bool.or_eq_true, Bool.and_eq_true, beq_iff_eq, and_true]
      grind
    · rw [if_neg h1]
      by_cases h2 : n = a
      · subst h2
        rw [if_pos rfl, List.mem_append, h.mem]
        simp only [List.mem_singleton, Bool.or_eq_true, Bool.and_eq_true, beq_iff_eq, and_true]
        grind
      · rw [if_neg h2, h.mem]
        simp only [Bool.or_eq_true, Bool.and_eq_true, beq_iff_eq, and_true]
        grind
theorem Adj.len {l : List Ed} {adj : Int → List Int} (h : Adj l adj) (n : Int) : (adj n).length ≤ 251 := by
  have h1 : (adj n).Subset nodes := fun x hx => mem_nodes.2 (linked_ok ((h.mem n x).1 hx)).2.1
  have := List.Nodup.length_le_of_subset (h.nodup n) h1
  simpa [nodes] using this
end Go.GX.Tp

/- Distances in a graph: what they are, and two searches that find them. Conditions: none. -/
namespace Go.GX.Tp
open Go.GX
set_option linter.unusedVariables false
set_option linter.unusedSectionVars false
set_option linter.unusedSimpArgs false
structure IsDist (l : List Ed) (src : Int) (D : Int → Option Nat) : Prop where
  zero : ∀ n, D n = some 0 ↔ (n = src ∧ okN src = true)
  pre : ∀ n k, D n = some (k + 1) → ∃ m, linked l m n = true ∧ D m = some k
  step : ∀ m n k, linked l m n = true → D m = some k → ∃ j, j ≤ k + 1 ∧ D n = some j
theorem IsDist.le {l : List Ed} {src : Int} {D D' : Int → Option Nat} (h : IsDist l src D) (h' : IsDist l src D') : ∀ (k : Nat) (n : Int), D n = some k → ∃ j, j ≤ k ∧ D' n = some j
  | 0, n, hn => ⟨0, Nat.le_refl _, (h'.zero n).2 ((h.zero n).1 hn)⟩
  | k + 1, n, hn => by
    obtain ⟨m, hl, hm⟩ := h.pre n k hn
    obtain ⟨j, hj, hd⟩ := IsDist.le h h' k m hm
    obtain ⟨i, hi, hd2⟩ := h'.step m n j hl hd
    exact ⟨i, by omega, hd2⟩
theorem IsDist.unique {l : List Ed} {src : Int} {D D' : Int → Option Nat} (h : IsDist l src D) (h' : IsDist l src D') : D = D' := by
  funext n
  cases hn : D n with
  | none =>
    cases hn' : D' n with
    | none => rfl
    | some k => obtain ⟨j, _, hj⟩ := h'.le h k n hn'; rw [hn] at hj; cases hj
  | some k =>
    obtain ⟨j, hj, hd⟩ := h.le h' k n hn
    obtain ⟨i, hi, hd2⟩ := h'.le h j n hd
    rw [hn] at hd2; cases hd2
    rw [hd]; congr 1; omega
theorem IsDist.okn {l : List Ed} {src : Int} {D : Int → Option Nat} (h : IsDist l src D) {n : Int} {k : Nat} (hn : D n = some k) : okN n = true := by
  cases k with
  | zero => obtain ⟨e, h2⟩ := (h.zero n).1 hn; subst e; exact h2
  | succ k => obtain ⟨m, hl, _⟩ := h.pre n k hn; exact (linked_ok hl).2.1
theorem IsDist.down {l : List Ed} {src : Int} {D : Int → Option Nat} (h : IsDist l src D) : ∀ (k : Nat) (n : Int), D n = some k → ∀ j, j ≤ k → ∃ m, D m = some j
  | 0, n, hn, j, hj => ⟨n, by have : j = 0 := by omega
                              rw [this]; exact hn⟩
  | k + 1, n, hn, j, hj => by
    by_cases e : j = k + 1
    · exact ⟨n, e ▸ hn⟩
    · obtain ⟨m, _, hm⟩ := h.pre n k hn
      exact IsDist.down h k m hm j (by omega)
/-- Chains down to 0 that stay among the nodes: at most 250 long. -/
theorem chain_le {D : Int → Option Nat} (ok : ∀ n k, D n = some k → okN n = true) {k : Nat} (hd : ∀ j, j ≤ k → ∃ m, D m = some j) : k ≤ 250 := by
  have h1 : ((List.range (k + 1)).map some).Nodup := by
    rw [List.nodup_iff_pairwise_ne, List.pairwise_map]
    exact (List.nodup_range (n := k + 1)).imp fun h e => h (by simpa using e)
  have h2 : ((List.range (k + 1)).map some).Subset (nodes.map D) := by
    intro x hx
    obtain ⟨j, hj, rfl⟩ := List.mem_map.1 hx
    obtain ⟨m, hm⟩ := hd j (by have := List.mem_range.1 hj; omega)
    exact List.mem_map.2 ⟨m, mem_nodes.2 (ok m j hm), hm⟩
  have := List.Nodup.length_le_of_subset h1 h2
  simp [nodes] at this
  omega
theorem IsDist.bound {l : List Ed} {src : Int} {D : Int → Option Nat} (h : IsDist l src D) {n : Int} {k : Nat} (hn : D n = some k) : k ≤ 250 :=
  chain_le (fun n k hn => h.okn hn) (h.down k n hn)
theorem IsDist.none {l : List Ed} {src : Int} (h : okN src = false) : IsDist l src fun _ => none :=
  ⟨fun n => by simp [h], fun n k h => (by cases h), fun m n k _ h => by cases h⟩

/-- The search with a queue. -/
structure Bfs (l : List Ed) (src : Int) (D : Int → Option Nat) (q : List Int) (cur : Option Int) (h : Nat) : Prop where
  zero : ∀ n, D n = some 0 ↔ n = src
  node : ∀ n k, D n = some k → okN n = true
  pre : ∀ n k, D n = some (k + 1) → ∃ m, linked l m n = true ∧ D m = some k
  done : ∀ m n k, linked l m n = true → D m = some k → m ∉ q → cur ≠ some m → ∃ j, j ≤ k + 1 ∧ D n = some j
  q12 : ∃ q1 q2, q = q1 ++ q2 ∧ (∀ m ∈ q1, D m = some h) ∧ (∀ m ∈ q2, D m = some (h + 1))
  curh : ∀ c, cur = some c → D c = some h
  bound : ∀ n k, D n = some k → k ≤ h + 1
def updD (D : Int → Option Nat) (x : Int) (k : Nat) : Int → Option Nat := fun n => if n = x then some k else D n
theorem Bfs.start {l : List Ed} {src : Int} (hok : okN src = true) : Bfs l src (updD (fun _ => .none) src 0) [src] .none 0 := by
  refine ⟨fun n => ?_, fun n k h => ?_, fun n k h => ?_, fun m n k hl hm hq hc => ?_, ⟨[src], [], rfl, fun m hm => ?_, fun m hm => by cases hm⟩, fun c h => (by cases h), fun n k h => ?_⟩
  · simp [updD]
  · simp only [updD] at h; split at h
    · rename_i e; rw [e]; exact hok
    · cases h
  · simp only [updD] at h; split at h <;> cases h
  · simp only [updD] at hm; split at hm
    · rename_i e; subst e; simp at hq
    · cases hm
  · simp at hm; simp [updD, hm]
  · simp only [updD] at h; split at h
    · cases h; omega
    · cases h
theorem Bfs.pop {l : List Ed} {src c : Int} {D : Int → Option Nat} {q : List Int} {h : Nat} (hb : Bfs l src D (c :: q) .none h) : ∃ h', Bfs l src D q (some c) h' ∧ D c = some h' := by
  have hdone : ∀ m n k, linked l m n = true → D m = some k → m ∉ q → some c ≠ some m → ∃ j, j ≤ k + 1 ∧ D n = some j := fun m n k hl hm hq hc =>
    hb.done m n k hl hm (fun hm' => by rcases List.mem_cons.1 hm' with e | e; exact hc (by rw [e]); exact hq e) (by nofun)
  obtain ⟨q1, q2, e, h1, h2⟩ := hb.q12
  cases q1 with
  | nil =>
    simp only [List.nil_append] at e
    subst e
    have hc := h2 c (List.mem_cons_self ..)
    exact ⟨h + 1, ⟨hb.zero, hb.node, hb.pre, hdone, ⟨q, [], by simp, fun m hm => h2 m (List.mem_cons_of_mem _ hm), fun m hm => by cases hm⟩, fun c' e => by cases e; exact hc, fun n k hn => by have := hb.bound n k hn; omega⟩, hc⟩
  | cons c' q1 =>
    simp only [List.cons_append, List.cons.injEq] at e
    obtain ⟨rfl, rfl⟩ := e
    have hc := h1 c (List.mem_cons_self ..)
    exact ⟨h, ⟨hb.zero, hb.node, hb.pre, hdone, ⟨q1, q2, rfl, fun m hm => h1 m (List.mem_cons_of_mem _ hm), h2⟩, fun c' e => by cases e; exact hc, hb.bound⟩, hc⟩
theorem Bfs.push {l : List Ed} {src c x : Int} {D : Int → Option Nat} {q : List Int} {h : Nat} (hb : Bfs l src D q (some c) h) (hx : D x = .none) (hl : linked l c x = true) : Bfs l src (updD D x (h + 1)) (q ++ [x]) (some c) h := by
  have hc := hb.curh c rfl
  have keep : ∀ {n k}, D n = some k → updD D x (h + 1) n = some k := by
    intro n k hn
    unfold updD
    rw [if_neg (fun e => by rw [e, hx] at hn; cases hn)]; exact hn
  have inv : ∀ {n k}, updD D x (h + 1) n = some k → (n = x ∧ k = h + 1) ∨ D n = some k := by
    intro n k hn
    unfold updD at hn
    split at hn
    · rename_i e; cases hn; exact .inl ⟨e, rfl⟩
    · exact .inr hn
  refine ⟨fun n => ?_, fun n k hn => ?_, fun n k hn => ?_, fun m n k hl' hm hq hcm => ?_, ?_, fun c' e => by cases e; exact keep hc, fun n k hn => ?_⟩
  · rw [← hb.zero]
    constructor
    · intro hn; rcases inv hn with ⟨_, e⟩ | hn
      · omega
      · exact hn
    · exact keep
  · rcases inv hn with ⟨e, _⟩ | hn
    · subst e; exact (linked_ok hl).2.1
    · exact hb.node n k hn
  · rcases inv hn with ⟨e1, e2⟩ | hn
    · subst e1; have : k = h := by omega
      subst this; exact ⟨c, hl, keep hc⟩
    · obtain ⟨m, h1, h2⟩ := hb.pre n k hn; exact ⟨m, h1, keep h2⟩
  · simp only [List.mem_append, List.mem_singleton, not_or] at hq
    rcases inv hm with ⟨e, _⟩ | hm
    · exact absurd e hq.2
    · obtain ⟨j, h1, h2⟩ := hb.done m n k hl' hm hq.1 hcm
      exact ⟨j, h1, keep h2⟩
  · obtain ⟨q1, q2, e, h1, h2⟩ := hb.q12
    refine ⟨q1, q2 ++ [x], by rw [e, List.append_assoc], fun m hm => keep (h1 m hm), fun m hm => ?_⟩
    rcases List.mem_append.1 hm with hm | hm
    · exact keep (h2 m hm)
    · simp at hm; subst hm; simp [updD]
  · rcases inv hn with ⟨_, e⟩ | hn
    · omega
    · exact hb.bound n k hn
theorem Bfs.next {l : List Ed} {src c : Int} {D : Int → Option Nat} {q : List Int} {h : Nat} (hb : Bfs l src D q (some c) h) (hall : ∀ x, linked l c x = true → D x ≠ .none) : Bfs l src D q .none h := by
  refine ⟨hb.zero, hb.node, hb.pre, fun m n k hl hm hq _ => ?_, hb.q12, fun c h => (by cases h), hb.bound⟩
  by_cases e : m = c
  · subst e
    have hc := hb.curh m rfl
    rw [hc] at hm; cases hm
    cases hn : D n with
    | none => exact absurd hn (hall n hl)
    | some j => exact ⟨j, hb.bound n j hn, rfl⟩
  · exact hb.done m n k hl hm hq (fun e' => e (by cases e'; rfl))
theorem Bfs.final {l : List Ed} {src : Int} {D : Int → Option Nat} {h : Nat} (hok : okN src = true) (hb : Bfs l src D [] .none h) : IsDist l src D :=
  ⟨fun n => by rw [hb.zero]; exact ⟨fun e => ⟨e, hok⟩, fun e => e.1⟩, hb.pre, fun m n k hl hm => hb.done m n k hl hm (by simp) (by nofun)⟩
theorem Bfs.bound250 {l : List Ed} {src : Int} {D : Int → Option Nat} {q : List Int} {cur : Option Int} {h : Nat} (hb : Bfs l src D q cur h) {n : Int} {k : Nat} (hn : D n = some k) : k ≤ 250 := by
  refine chain_le hb.node ?_
  have : ∀ (k : Nat) (n : Int), D n = some k → ∀ j, j ≤ k → ∃ m, D m = some j := by
    intro k
    induction k with
    | zero => intro n hn j hj; exact ⟨n, by have : j = 0 := by omega
                                            rw [this]; exact hn⟩
    | succ k ih =>
      intro n hn j hj
      by_cases e : j = k + 1
      · exact ⟨n, e ▸ hn⟩
      · obtain ⟨m, _, hm⟩ := hb.pre n k hn
        exact ih m hm j (by omega)
  exact this k n hn

/-- The search by rounds: s rounds are over. -/
structure Rnd (l : List Ed) (src : Int) (D : Int → Option Nat) (s : Nat) : Prop where
  zero : ∀ n, D n = some 0 ↔ n = src
  node : ∀ n k, D n = some k → okN n = true
  pre : ∀ n k, D n = some (k + 1) → ∃ m, linked l m n = true ∧ D m = some k
  done : ∀ m n k, linked l m n = true → D m = some k → k < s → ∃ j, j ≤ k + 1 ∧ D n = some j
/-- In round s, i edges are over. -/
structure RndE (l : List Ed) (src : Int) (D : Int → Option Nat) (s i : Nat) : Prop where
  base : Rnd l src D s
  bound : ∀ n k, D n = some k → k ≤ s + 1
  edges : ∀ e ∈ l.take i, okE e = true → (D e.a = some s → D e.b ≠ .none) ∧ (D e.b = some s → D e.a ≠ .none)
theorem Rnd.start {l : List Ed} {src : Int} (hok : okN src = true) : Rnd l src (updD (fun _ => .none) src 0) 0 := by
  refine ⟨fun n => ?_, fun n k h => ?_, fun n k h => ?_, fun m n k _ _ hk => by omega⟩
  · simp [updD]
  · simp only [updD] at h; split at h
    · rename_i e; rw [e]; exact hok
    · cases h
  · simp only [updD] at h; split at h <;> cases h
theorem RndE.relax {l : List Ed} {src a b : Int} {D : Int → Option Nat} {s i : Nat} (h : RndE l src D s i) (hl : linked l a b = true) (ha : D a = some s) (hb : D b = .none) : RndE l src (updD D b (s + 1)) s i := by
  have keep : ∀ {n k}, D n = some k → updD D b (s + 1) n = some k := by
    intro n k hn
    unfold updD
    rw [if_neg (fun e => by rw [e, hb] at hn; cases hn)]; exact hn
  have inv : ∀ {n k}, updD D b (s + 1) n = some k → (n = b ∧ k = s + 1) ∨ D n = some k := by
    intro n k hn
    unfold updD at hn
    split at hn
    · rename_i e; cases hn; exact .inl ⟨e, rfl⟩
    · exact .inr hn
  have keepN : ∀ {n}, D n ≠ .none → updD D b (s + 1) n ≠ .none := by
    intro n hn
    cases e : D n with
    | none => exact absurd e hn
    | some k => rw [keep e]; nofun
  refine ⟨⟨fun n => ?_, fun n k hn => ?_, fun n k hn => ?_, fun m n k hl' hm hk => ?_⟩, fun n k hn => ?_, fun e he hok => ?_⟩
  · rw [← h.base.zero]
    constructor
    · intro hn; rcases inv hn with ⟨_, e⟩ | hn
      · omega
      · exact hn
    · exact keep
  · rcases inv hn with ⟨e, _⟩ | hn
    · subst e; exact (linked_ok hl).2.1
    · exact h.base.node n k hn
  · rcases inv hn with ⟨e1, e2⟩ | hn
    · subst e1; have : k = s := by omega
      subst this; exact ⟨a, hl, keep ha⟩
    · obtain ⟨m, h1, h2⟩ := h.base.pre n k hn; exact ⟨m, h1, keep h2⟩
  · rcases inv hm with ⟨_, e⟩ | hm
    · omega
    · obtain ⟨j, h1, h2⟩ := h.base.done m n k hl' hm hk
      exact ⟨j, h1, keep h2⟩
  · rcases inv hn with ⟨_, e⟩ | hn
    · omega
    · exact h.bound n k hn
  · obtain ⟨g1, g2⟩ := h.edges e he hok
    refine ⟨fun hn => ?_, fun hn => ?_⟩
    · rcases inv hn with ⟨_, e'⟩ | hn
      · omega
      · exact keepN (g1 hn)
    · rcases inv hn with ⟨_, e'⟩ | hn
      · omega
      · exact keepN (g2 hn)
theorem RndE.edge {l : List Ed} {src : Int} {D : Int → Option Nat} {s i : Nat} {e : Ed} (h : RndE l src D s i) (he : l[i]? = some e) (hs : okE e = true → (D e.a = some s → D e.b ≠ .none) ∧ (D e.b = some s → D e.a ≠ .none)) : RndE l src D s (i + 1) := by
  refine ⟨h.base, h.bound, fun e' he' hok => ?_⟩
  rw [take_succ_get he] at he'
  rcases List.mem_append.1 he' with h1 | h1
  · exact h.edges e' h1 hok
  · simp at h1; subst h1; exact hs hok
theorem RndE.first {l : List Ed} {src : Int} {D : Int → Option Nat} {s : Nat} (h : Rnd l src D s) (hb : ∀ n k, D n = some k → k ≤ s + 1) : RndE l src D s 0 := ⟨h, hb, fun e he => by simp at he⟩
theorem RndE.last {l : List Ed} {src : Int} {D : Int → Option Nat} {s : Nat} (h : RndE l src D s l.length) : Rnd l src D (s + 1) := by
  refine ⟨h.base.zero, h.base.node, h.base.pre, fun m n k hl hm hk => ?_⟩
  by_cases e : k < s
  · exact h.base.done m n k hl hm e
  · have : k = s := by omega
    subst this
    obtain ⟨e, he, hok, hab⟩ := linked_iff.1 hl
    have h3 := h.edges e (by rw [List.take_length]; exact he) hok
    have hn : D n ≠ .none := by
      rcases hab with rfl | rfl
      · exact h3.1 hm
      · exact h3.2 hm
    cases hn' : D n with
    | none => exact absurd hn' hn
    | some j => exact ⟨j, h.bound n j hn', rfl⟩
theorem Rnd.final {l : List Ed} {src : Int} {D : Int → Option Nat} (hok : okN src = true) (h : Rnd l src D 251) : IsDist l src D := by
  have down : ∀ (k : Nat) (n : Int), D n = some k → ∀ j, j ≤ k → ∃ m, D m = some j := by
    intro k
    induction k with
    | zero => intro n hn j hj; exact ⟨n, by have : j = 0 := by omega
                                            rw [this]; exact hn⟩
    | succ k ih =>
      intro n hn j hj
      by_cases e : j = k + 1
      · exact ⟨n, e ▸ hn⟩
      · obtain ⟨m, _, hm⟩ := h.pre n k hn
        exact ih m hm j (by omega)
  exact ⟨fun n => by rw [h.zero]; exact ⟨fun e => ⟨e, hok⟩, fun e => e.1⟩, h.pre, fun m n k hl hm => h.done m n k hl hm (by have := chain_le h.node (down k m hm); omega)⟩

/-- The distances. -/
noncomputable def dist (l : List Ed) (src : Int) : Int → Option Nat := by
  classical exact if h : ∃ D, IsDist l src D then h.choose else fun _ => .none
theorem IsDist.eq {l : List Ed} {src : Int} {D : Int → Option Nat} (h : IsDist l src D) : dist l src = D := by
  have hx : ∃ D, IsDist l src D := ⟨D, h⟩
  have : dist l src = hx.choose := by unfold dist; rw [dif_pos hx]
  rw [this]
  exact hx.choose_spec.unique h
end Go.GX.Tp

/- Sorted numbers; distances exist. Conditions: none. -/
namespace Go.GX
set_option linter.unusedVariables false
set_option linter.unusedSectionVars false
set_option linter.unusedSimpArgs false
def sortZ (l : List Int) : List Int := l.mergeSort fun x y => decide (x ≤ y)
theorem sortZ_perm (l : List Int) : (sortZ l).Perm l := List.mergeSort_perm _ _
theorem sortZ_sorted (l : List Int) : (sortZ l).Pairwise (· ≤ ·) := by
  have := List.pairwise_mergeSort (le := fun x y : Int => decide (x ≤ y)) (by intro a b c h1 h2; simp at *; omega) (by intro a b; simp; omega) l
  exact this.imp fun h => by simpa using h
theorem sortZ_len (l : List Int) : (sortZ l).length = l.length := (sortZ_perm l).length_eq
def dvO (o : Option Nat) : Option Value := o.map fun k : Nat => Value.int .i64 (k : Int)
theorem sortZ_nil : sortZ [] = [] := by simp [sortZ]
namespace Tp
theorem Adj.sorted {l : List Ed} {adj : Int → List Int} (h : Adj l adj) (n : Int) : sortZ (adj n) = nbrs l n :=
  sort_unique (sortZ_perm _) (sortZ_sorted _) (h.nodup n) (nbrs_sorted l n) fun x => by rw [h.mem, mem_nbrs]
theorem Rnd.more {l : List Ed} {src : Int} {D : Int → Option Nat} {s : Nat} (h : Rnd l src D s) (hb : ∀ n k, D n = some k → k ≤ s) : ∃ D', Rnd l src D' (s + 1) ∧ ∀ n k, D' n = some k → k ≤ s + 1 := by
  classical
  let D' : Int → Option Nat := fun n => if D n ≠ none then D n else if ∃ m, linked l m n = true ∧ D m = some s then some (s + 1) else none
  have keep : ∀ {n k}, D n = some k → D' n = some k := by
    intro n k hn
    show (if D n ≠ none then D n else _) = _
    rw [if_pos (by rw [hn]; nofun)]; exact hn
  have inv : ∀ {n k}, D' n = some k → D n = some k ∨ (k = s + 1 ∧ ∃ m, linked l m n = true ∧ D m = some s) := by
    intro n k hn
    have hn : (if D n ≠ none then D n else if ∃ m, linked l m n = true ∧ D m = some s then some (s + 1) else none) = some k := hn
    split at hn
    · exact .inl hn
    · split at hn
      · rename_i hx; cases hn; exact .inr ⟨rfl, hx⟩
      · cases hn
  refine ⟨D', ⟨fun n => ?_, fun n k hn => ?_, fun n k hn => ?_, fun m n k hl hm hk => ?_⟩, fun n k hn => ?_⟩
  · rw [← h.zero]
    constructor
    · intro hn; rcases inv hn with hn | ⟨e, _⟩
      · exact hn
      · omega
    · exact keep
  · rcases inv hn with hn | ⟨_, m, hl, _⟩
    · exact h.node n k hn
    · exact (linked_ok hl).2.1
  · rcases inv hn with hn | ⟨e, m, hl, hm⟩
    · obtain ⟨m, h1, h2⟩ := h.pre n k hn; exact ⟨m, h1, keep h2⟩
    · have : k = s := by omega
      subst this; exact ⟨m, hl, keep hm⟩
  · rcases inv hm with hm2 | ⟨e, _⟩
    · by_cases e : k < s
      · obtain ⟨j, h1, h2⟩ := h.done m n k hl hm2 e; exact ⟨j, h1, keep h2⟩
      · have : k = s := by omega
        subst this
        by_cases hn : D n ≠ none
        · cases hn' : D n with
          | none => exact absurd hn' hn
          | some j => have := hb n j hn'; exact ⟨j, by omega, keep hn'⟩
        · refine ⟨k + 1, Nat.le_refl _, ?_⟩
          show (if D n ≠ none then D n else if ∃ m, linked l m n = true ∧ D m = some k then some (k + 1) else none) = _
          rw [if_neg hn, if_pos ⟨m, hl, hm2⟩]
    · omega
  · rcases inv hn with hn | ⟨e, _⟩
    · have := hb n k hn; omega
    · omega
theorem dist_exists (l : List Ed) (src : Int) : ∃ D, IsDist l src D := by
  cases hok : okN src with
  | false => exact ⟨_, IsDist.none hok⟩
  | true =>
    have : ∀ s, ∃ D, Rnd l src D s ∧ ∀ n k, D n = some k → k ≤ s := by
      intro s
      induction s with
      | zero => exact ⟨_, Rnd.start hok, fun n k h => by simp only [updD] at h; split at h <;> cases h; omega⟩
      | succ s ih => obtain ⟨D, h1, h2⟩ := ih; exact h1.more h2
    obtain ⟨D, h1, _⟩ := this 251
    exact ⟨D, h1.final hok⟩
/-- The numbers below k that meet p. -/
def upto (p : Int → Bool) (k : Nat) : List Int := ((List.range k).map Int.ofNat).filter p
theorem upto_succ (p : Int → Bool) (k : Nat) : upto p (k + 1) = upto p k ++ if p (k : Int) = true then [(k : Int)] else [] := by
  unfold upto
  rw [List.range_succ, List.map_append, List.filter_append]
  congr 1
  simp only [List.map_cons, List.map_nil, List.filter_cons, List.filter_nil]
  rfl
theorem upto_len (p : Int → Bool) (k : Nat) : (upto p k).length ≤ k := by
  have := List.length_filter_le p ((List.range k).map Int.ofNat)
  simpa [upto] using this
/-- The nodes with a distance. -/
def reachN (D : Int → Option Nat) (k : Nat) : List Int := ((List.range k).map Int.ofNat).filter fun n => (D n).isSome
def reachD (D : Int → Option Nat) : List Int := reachN D 251
theorem reachN_succ (D : Int → Option Nat) (k : Nat) : reachN D (k + 1) = reachN D k ++ if (D k).isSome = true then [(k : Int)] else [] := by
  unfold reachN
  rw [List.range_succ, List.map_append, List.filter_append]
  congr 1
  simp only [List.map_cons, List.map_nil, List.filter_cons, List.filter_nil]
  rfl
theorem reachN_len (D : Int → Option Nat) (k : Nat) : (reachN D k).length ≤ k := by
  have := List.length_filter_le (fun n => (D n).isSome) ((List.range k).map Int.ofNat)
  simpa [reachN] using this
theorem mem_reachD {D : Int → Option Nat} {n : Int} : n ∈ reachD D ↔ okN n = true ∧ (D n).isSome = true := by
  have : n ∈ reachD D ↔ n ∈ nodes ∧ (D n).isSome = true := by unfold reachD reachN nodes; rw [List.mem_filter]
  rw [this, mem_nodes]
theorem reachD_sorted (D : Int → Option Nat) : (reachD D).Pairwise (· < ·) := nodes_sorted.sublist List.filter_sublist
def dz (o : Option Nat) : Nat := o.getD 0
theorem dist_is (l : List Ed) (src : Int) : IsDist l src (dist l src) := by
  obtain ⟨D, h⟩ := dist_exists l src
  rw [h.eq]; exact h
end Tp
end Go.GX

/- The list of revoked numbers: kept ascending, each once. Conditions: none. -/
namespace Tk
open Go Go.GX
set_option linter.unusedVariables false
def putF (n : Int) : List Int → Bool → List Int
  | [], d => if d = true then [] else [n]
  | x :: r, d => (if d = false ∧ n ≤ x then [n] else []) ++ ((if x ≠ n then [x] else []) ++ putF n r (d || decide (n ≤ x)))
theorem putF_true (n : Int) : ∀ l : List Int, putF n l true = l.filter (fun x => decide (x ≠ n))
  | [] => rfl
  | x :: r => by
    unfold putF
    rw [if_neg (by simp), Bool.true_or, putF_true n r, List.nil_append, List.filter_cons]
    by_cases h : x = n <;> simp [h]
theorem putF_mem (n : Int) : ∀ (l : List Int) (x : Int), x ∈ putF n l false ↔ x = n ∨ x ∈ l
  | [], x => by simp [putF]
  | y :: r, x => by
    unfold putF
    by_cases h : n ≤ y
    · rw [if_pos ⟨rfl, h⟩, show (false || decide (n ≤ y)) = true by simp [h], putF_true]
      by_cases hy : y = n
      · subst hy; simp
        by_cases hx : x = y <;> simp [hx]
      · simp [hy]
        by_cases hx : x = n <;> simp [hx]
    · rw [if_neg (by rintro ⟨_, h'⟩; exact h h'), show (false || decide (n ≤ y)) = false by simp [h]]
      have hy : y ≠ n := by omega
      rw [if_pos hy]
      simp only [List.nil_append, List.cons_append, List.mem_cons, putF_mem n r x]
      constructor
      · rintro (h1 | h1 | h1) <;> simp [h1]
      · rintro (h1 | h1 | h1) <;> simp [h1]
theorem putF_asc (n : Int) : ∀ (l : List Int), l.Pairwise (· < ·) → (putF n l false).Pairwise (· < ·)
  | [], _ => by simp [putF]
  | y :: r, hp => by
    obtain ⟨h1, h2⟩ := List.pairwise_cons.1 hp
    unfold putF
    by_cases h : n ≤ y
    · rw [if_pos ⟨rfl, h⟩, show (false || decide (n ≤ y)) = true by simp [h], putF_true]
      have hf : (r.filter fun x => decide (x ≠ n)).Pairwise (· < ·) := h2.sublist List.filter_sublist
      by_cases hy : y = n
      · subst hy
        rw [if_neg (by simp)]
        simp only [List.nil_append, List.cons_append]
        exact List.pairwise_cons.2 ⟨fun x hx => h1 x (List.mem_filter.1 hx).1, hf⟩
      · rw [if_pos hy]
        simp only [List.nil_append, List.cons_append]
        refine List.pairwise_cons.2 ⟨fun x hx => ?_, List.pairwise_cons.2 ⟨fun x hx => h1 x (List.mem_filter.1 hx).1, hf⟩⟩
        rcases List.mem_cons.1 hx with rfl | hx
        · omega
        · have := h1 x (List.mem_filter.1 hx).1; omega
    · rw [if_neg (by rintro ⟨_, h'⟩; exact h h'), show (false || decide (n ≤ y)) = false by simp [h], if_pos (by omega)]
      simp only [List.nil_append, List.cons_append]
      refine List.pairwise_cons.2 ⟨fun x hx => ?_, putF_asc n r h2⟩
      rcases (putF_mem n r x).1 hx with rfl | hx
      · omega
      · exact h1 x hx
theorem putF_len (n : Int) : ∀ (l : List Int) (d : Bool), (putF n l d).length ≤ 2 * l.length + 1
  | [], d => by unfold putF; split <;> simp
  | x :: r, d => by
    have := putF_len n r (d || decide (n ≤ x))
    unfold putF
    simp only [List.length_append, List.length_cons]
    have a1 : (if d = false ∧ n ≤ x then [n] else []).length ≤ 1 := by split <;> simp
    have a2 : (if x ≠ n then [x] else []).length ≤ 1 := by split <;> simp
    omega
theorem putF_len1 (n : Int) (l : List Int) (h : l.Pairwise (· < ·)) : (putF n l false).length ≤ l.length + 1 := by
  have hn : (putF n l false).Nodup := (putF_asc n l h).imp fun h => by omega
  have := List.Nodup.length_le_of_subset hn (l₂ := n :: l) (fun x hx => by rcases (putF_mem n l x).1 hx with rfl | hx <;> simp [*])
  simpa using this
def revR (id : Int) (l : List Int) : List Int := l.foldl (fun o x => putF x o false) [id]
theorem revR_spec (id : Int) : ∀ (l : List Int) (o : List Int), o.Pairwise (· < ·) → (l.foldl (fun o x => putF x o false) o).Pairwise (· < ·) ∧ ∀ x, x ∈ l.foldl (fun o x => putF x o false) o ↔ x ∈ o ∨ x ∈ l
  | [], o, h => ⟨h, fun x => by simp⟩
  | y :: r, o, h => by
    obtain ⟨h1, h2⟩ := revR_spec id r (putF y o false) (putF_asc y o h)
    refine ⟨h1, fun x => ?_⟩
    rw [List.foldl_cons, h2, putF_mem, List.mem_cons]
    constructor
    · rintro ((h | h) | h) <;> simp [h]
    · rintro (h | h | h) <;> simp [h]
theorem revR_eq (id : Int) (l : List Int) : revR id l = revoke l id := by
  obtain ⟨h1, h2⟩ := revR_spec id l [id] (by simp)
  refine Tp.sorted_ext h1 (Tf.dif_asc _) fun x => ?_
  have e := mem_revoke (l := l) (id := id) (x := x)
  unfold revoke at e
  show x ∈ l.foldl (fun o x => putF x o false) [id] ↔ x ∈ Tf.dif (l ++ [id])
  rw [h2, e, List.mem_singleton]; exact or_comm
theorem revR_take (id : Int) {l : List Int} {k : Nat} {x : Int} (h : l[k]? = some x) : revR id (l.take (k + 1)) = putF x (revR id (l.take k)) false := by
  rw [take_succ_get h, revR, List.foldl_append]; rfl
theorem revR_asc (id : Int) (l : List Int) : (revR id l).Pairwise (· < ·) := (revR_spec id l [id] (by simp)).1
theorem revR_len (id : Int) (l : List Int) : (revR id l).length ≤ l.length + 1 := by
  have hn : (revR id l).Nodup := (revR_asc id l).imp fun h => by omega
  have := List.Nodup.length_le_of_subset hn (l₂ := id :: l) (fun x hx => by
    rcases (((revR_spec id l [id] (by simp)).2 x).1 hx) with h | h
    · simp at h; simp [h]
    · simp [h])
  simpa using this
end Tk
