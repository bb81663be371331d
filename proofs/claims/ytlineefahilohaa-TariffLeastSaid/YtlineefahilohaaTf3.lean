/- A part of the proof: contracts of the program's functions. Conditions: none. -/
import Derived.Test.YtlineefahilohaaTf2
import Derived.Test.YtlineefahilohaaGxDraw
namespace Go.Proofs.Ytlineefahilohaa
open Go.GX Go.RowKit
attribute [local irreducible] Calls Run RunL RunQ RunD HR HL HD blkC ownC mapC Rd slicesC iterC RdM
set_option linter.unusedVariables false
set_option linter.unusedSectionVars false
set_option linter.unusedSimpArgs false
set_option maxRecDepth 100000

open Tf
theorem fn22 : IsFn Try.prog 22 := ⟨⟨_, _, Try.func22, rfl, by decide⟩⟩
theorem fn23 : IsFn Try.prog 23 := ⟨⟨_, _, Try.func23, rfl, by decide⟩⟩
theorem fn24 : IsFn Try.prog 24 := ⟨⟨_, _, Try.func24, rfl, by decide⟩⟩
theorem fn25 : IsFn Try.prog 25 := ⟨⟨_, _, Try.func25, rfl, by decide⟩⟩
theorem fn26 : IsFn Try.prog 26 := ⟨⟨_, _, Try.func26, rfl, by decide⟩⟩
theorem fn13 : IsFn Try.prog 13 := ⟨⟨_, _, Try.func13, rfl, by decide⟩⟩
theorem fn14 : IsFn Try.prog 14 := ⟨⟨_, _, Try.func14, rfl, by decide⟩⟩
theorem fn15 : IsFn Try.prog 15 := ⟨⟨_, _, Try.func15, rfl, by decide⟩⟩

theorem prices_no {t : Tr} {i : Int} {vb vs : Value} (h : inB t i = false) (w : World) (hv : OkV w t vb vs) :
    Calls Try.prog 33 #[tfV vb vs t.fu, .int .i64 i] w fun e w' => e = .returned (.tuple ⟨[.agg ⟨[.int .i64 0, .int .i64 0]⟩, .bool false]⟩) ∧ Below w.heap.size w w' := by
  have := prices_any t i vb vs w hv
  simpa [h] using this
theorem prices_at {t : Tr} {j : Nat} {x y : Int} {vb vs : Value} (h : check t = 0) (hx : t.b[j]? = some x) (hy : t.s[j]? = some y) (w : World) (hv : OkV w t vb vs) :
    Calls Try.prog 33 #[tfV vb vs t.fu, .int .i64 (j : Int)] w fun e w' => e = .returned (.tuple ⟨[.agg ⟨[.int .i64 x, .int .i64 y]⟩, .bool true]⟩) ∧ Below w.heap.size w w' := by
  have := prices_any t j vb vs w hv
  rw [inB_nat h (List.getElem?_eq_some_iff.1 hx).1, if_pos rfl, if_pos rfl, bAt_get hx, sAt_get hy] at this
  exact this

theorem amount_any (x y n : Int) (w : World) (hx : 0 ≤ x ∧ x ≤ 1000000) (hy : 0 ≤ y ∧ y ≤ 1000000) :
    Calls Try.prog 34 #[.agg ⟨[.int .i64 x, .int .i64 y]⟩, .int .i64 n] w fun e w' => e = .returned (.int .i64 (amount x y n)) ∧ Below w.heap.size w w' := by
  have h1 := mul_bound (clamp_le n) hx
  have h2 := mul_bound (clamp_le n) hy
  refine calls_hr Try.func34 rfl (Nat.le_of_ble_eq_true rfl) ?_
  refine HR.sub (σ' := [(0, .agg ⟨[.int .i64 x, .int .i64 y]⟩), (1, .int .i64 n)]) ⟨rfl, rfl, trivial⟩ ?_
  repeat' (first | (refine HL.isOp ?_; first | refine HL.ev rfl rfl ?_ | refine HL.evc rfl rfl (by first | omega | simp | (simp; omega)) ?_ | refine HL.callB fn39 rfl rfl (fun w _ => numClamp_any n (-1000) 1000 w) ?_ | (refine HL.isLoad ?_; first | refine HL.L 0 rfl rfl rfl rfl ?_ | refine HL.L 1 rfl rfl rfl rfl ?_ | refine HL.L 2 rfl rfl rfl rfl ?_ | refine HL.L 3 rfl rfl rfl rfl ?_) | (refine HL.isStore ?_; first | refine HL.S 0 rfl rfl rfl rfl rfl ?_ | refine HL.S 1 rfl rfl rfl rfl rfl ?_ | refine HL.S 2 rfl rfl rfl rfl rfl ?_ | refine HL.S 3 rfl rfl rfl rfl rfl ?_) | refine HL.build rfl rfl ?_ | refine HL.field rfl rfl ?_ | (refine HL.box rfl rfl ?_; intro bk) | (refine HL.alloc rfl rfl ?_; intro bk) | refine HL.skip rfl rfl ?_ | refine HL.skip0 rfl ?_ | apply HL.andB rfl rfl rfl rfl rfl rfl rfl rfl | apply HL.orB rfl rfl rfl rfl rfl rfl rfl rfl) | refine HL.nil ?_ | refine HR.ctl rfl ?_ | refine HR.region ?_ | refine HR.condT rfl ?_ | refine HR.condF rfl ?_ | exact HL.blkEnd rfl rfl Ent.refl | (refine fun (hb : (_ : Bool) = _) => ?_; try simp at hb))
  refine HR.cond rfl (fun h => ?_) (fun h => ?_)
  · repeat' (first | (refine HL.isOp ?_; first | refine HL.ev rfl rfl ?_ | refine HL.evc rfl rfl (by first | omega | simp | (simp; omega)) ?_ | refine HL.idxA rfl rfl ?_ | (refine HL.isLoad ?_; first | refine HL.L 0 rfl rfl rfl rfl ?_ | refine HL.L 1 rfl rfl rfl rfl ?_ | refine HL.L 2 rfl rfl rfl rfl ?_ | refine HL.L 3 rfl rfl rfl rfl ?_) | (refine HL.isStore ?_; first | refine HL.S 0 rfl rfl rfl rfl rfl ?_ | refine HL.S 1 rfl rfl rfl rfl rfl ?_ | refine HL.S 2 rfl rfl rfl rfl rfl ?_ | refine HL.S 3 rfl rfl rfl rfl rfl ?_) | refine HL.build rfl rfl ?_ | refine HL.field rfl rfl ?_ | (refine HL.box rfl rfl ?_; intro bk) | (refine HL.alloc rfl rfl ?_; intro bk) | refine HL.skip rfl rfl ?_ | refine HL.skip0 rfl ?_ | apply HL.andB rfl rfl rfl rfl rfl rfl rfl rfl | apply HL.orB rfl rfl rfl rfl rfl rfl rfl rfl) | refine HL.nil ?_ | refine HR.ctl rfl ?_ | refine HR.region ?_ | refine HR.condT rfl ?_ | refine HR.condF rfl ?_ | exact HL.blkEnd rfl rfl Ent.refl | (refine fun (hb : (_ : Bool) = _) => ?_; try simp at hb))
    refine HR.ret Try.func34 rfl [_] (fun _ _ => ⟨rfl, trivial⟩) ?_
    exact fun w' hw => ⟨by unfold amount; rw [if_pos (of_decide_eq_true h)]; rfl, hw.belowB⟩
  · repeat' (first | (refine HL.isOp ?_; first | refine HL.ev rfl rfl ?_ | refine HL.evc rfl rfl (by first | omega | simp | (simp; omega)) ?_ | refine HL.idxA rfl rfl ?_ | (refine HL.isLoad ?_; first | refine HL.L 0 rfl rfl rfl rfl ?_ | refine HL.L 1 rfl rfl rfl rfl ?_ | refine HL.L 2 rfl rfl rfl rfl ?_ | refine HL.L 3 rfl rfl rfl rfl ?_) | (refine HL.isStore ?_; first | refine HL.S 0 rfl rfl rfl rfl rfl ?_ | refine HL.S 1 rfl rfl rfl rfl rfl ?_ | refine HL.S 2 rfl rfl rfl rfl rfl ?_ | refine HL.S 3 rfl rfl rfl rfl rfl ?_) | refine HL.build rfl rfl ?_ | refine HL.field rfl rfl ?_ | (refine HL.box rfl rfl ?_; intro bk) | (refine HL.alloc rfl rfl ?_; intro bk) | refine HL.skip rfl rfl ?_ | refine HL.skip0 rfl ?_ | apply HL.andB rfl rfl rfl rfl rfl rfl rfl rfl | apply HL.orB rfl rfl rfl rfl rfl rfl rfl rfl) | refine HL.nil ?_ | refine HR.ctl rfl ?_ | refine HR.region ?_ | refine HR.condT rfl ?_ | refine HR.condF rfl ?_ | exact HL.blkEnd rfl rfl Ent.refl | (refine fun (hb : (_ : Bool) = _) => ?_; try simp at hb))
    refine HR.ret Try.func34 rfl [_] (fun _ _ => ⟨rfl, trivial⟩) ?_
    exact fun w' hw => ⟨by unfold amount; rw [if_neg (of_decide_eq_false h)]; rfl, hw.belowB⟩

theorem cost_any (t : Tr) (i n : Int) (vb vs : Value) (w : World) (hv : OkV w t vb vs) :
    Calls Try.prog 18 #[tfV vb vs t.fu, .int .i64 i, .int .i64 n] w fun e w' => e = .returned (.int .i64 (cost t i n)) ∧ Below w.heap.size w w' := by
  refine calls_hr Try.func18 rfl (Nat.le_of_ble_eq_true rfl) ?_
  refine HR.sub (σ' := [(0, tfV vb vs t.fu), (1, .int .i64 i), (2, .int .i64 n)]) ⟨rfl, rfl, rfl, trivial⟩ ?_
  cases hi : inB t i with
  | false =>
    repeat' (first | (refine HL.isOp ?_; first | refine HL.ev rfl rfl ?_ | refine HL.evc rfl rfl (by first | omega | simp | (simp; omega)) ?_ | refine HL.callB fn33 rfl rfl (fun w hw => prices_no hi w (hv.at hw)) ?_ | (refine HL.isLoad ?_; first | refine HL.L 0 rfl rfl rfl rfl ?_ | refine HL.L 1 rfl rfl rfl rfl ?_ | refine HL.L 2 rfl rfl rfl rfl ?_ | refine HL.L 3 rfl rfl rfl rfl ?_) | (refine HL.isStore ?_; first | refine HL.S 0 rfl rfl rfl rfl rfl ?_ | refine HL.S 1 rfl rfl rfl rfl rfl ?_ | refine HL.S 2 rfl rfl rfl rfl rfl ?_ | refine HL.S 3 rfl rfl rfl rfl rfl ?_) | refine HL.build rfl rfl ?_ | refine HL.field rfl rfl ?_ | (refine HL.box rfl rfl ?_; intro bk) | (refine HL.alloc rfl rfl ?_; intro bk) | refine HL.skip rfl rfl ?_ | refine HL.skip0 rfl ?_ | apply HL.andB rfl rfl rfl rfl rfl rfl rfl rfl | apply HL.orB rfl rfl rfl rfl rfl rfl rfl rfl) | refine HL.nil ?_ | refine HR.ctl rfl ?_ | refine HR.region ?_ | refine HR.condT rfl ?_ | refine HR.condF rfl ?_ | exact HL.blkEnd rfl rfl Ent.refl | (refine fun (hb : (_ : Bool) = _) => ?_; try simp at hb))
    refine HR.ret Try.func18 rfl [_] (fun _ _ => ⟨rfl, trivial⟩) ?_
    exact fun w' hw => ⟨by simp [cost, hi, resV], hw.belowB⟩
  | true =>
    obtain ⟨j, rfl, hj, h0⟩ := inB_of hi
    have ho := ok_of h0
    obtain ⟨x, hx⟩ := getSome hj
    obtain ⟨y, hy⟩ := getSome (show j < t.s.length by rw [ho.n3]; exact hj)
    repeat' (first | (refine HL.isOp ?_; first | refine HL.ev rfl rfl ?_ | refine HL.evc rfl rfl (by first | omega | simp | (simp; omega)) ?_ | refine HL.callB fn33 rfl rfl (fun w hw => prices_at h0 hx hy w (hv.at hw)) ?_ | refine HL.callB fn34 rfl rfl (fun w _ => amount_any x y n w (ho.pb x (List.mem_of_getElem? hx)) (ho.ps y (List.mem_of_getElem? hy))) ?_ | (refine HL.isLoad ?_; first | refine HL.L 0 rfl rfl rfl rfl ?_ | refine HL.L 1 rfl rfl rfl rfl ?_ | refine HL.L 2 rfl rfl rfl rfl ?_ | refine HL.L 3 rfl rfl rfl rfl ?_) | (refine HL.isStore ?_; first | refine HL.S 0 rfl rfl rfl rfl rfl ?_ | refine HL.S 1 rfl rfl rfl rfl rfl ?_ | refine HL.S 2 rfl rfl rfl rfl rfl ?_ | refine HL.S 3 rfl rfl rfl rfl rfl ?_) | refine HL.build rfl rfl ?_ | refine HL.field rfl rfl ?_ | (refine HL.box rfl rfl ?_; intro bk) | (refine HL.alloc rfl rfl ?_; intro bk) | refine HL.skip rfl rfl ?_ | refine HL.skip0 rfl ?_ | apply HL.andB rfl rfl rfl rfl rfl rfl rfl rfl | apply HL.orB rfl rfl rfl rfl rfl rfl rfl rfl) | refine HL.nil ?_ | refine HR.ctl rfl ?_ | refine HR.region ?_ | refine HR.condT rfl ?_ | refine HR.condF rfl ?_ | exact HL.blkEnd rfl rfl Ent.refl | (refine fun (hb : (_ : Bool) = _) => ?_; try simp at hb))
    refine HR.ret Try.func18 rfl [_] (fun _ _ => ⟨rfl, trivial⟩) ?_
    exact fun w' hw => ⟨by rw [cost_at h0 hx hy]; rfl, hw.belowB⟩

theorem inB_slots {t : Tr} {i : Int} : (decide (i < 0) || decide (i ≥ (slots t : Int))) = !inB t i := by
  rw [Bool.eq_iff_iff]
  simp only [Bool.or_eq_true, decide_eq_true_eq, Bool.not_eq_true', ← Bool.not_eq_true, inB, Bool.and_eq_true]
  by_cases h : check t = 0
  · rw [slots_ok h]; omega
  · rw [slots_no h]; omega

theorem rcost_any (t : Tr) (i n : Int) (vb vs : Value) (w : World) (hv : OkV w t vb vs) :
    Calls Try.prog 19 #[tfV vb vs t.fu, .int .i64 i, .int .i64 n] w fun e w' => e = .returned (.int .i64 (cost t i n)) ∧ Below w.heap.size w w' := by
  refine calls_hr Try.func19 rfl (Nat.le_of_ble_eq_true rfl) ?_
  refine HR.sub (σ' := [(0, tfV vb vs t.fu), (1, .int .i64 i), (2, .int .i64 n)]) ⟨rfl, rfl, rfl, trivial⟩ ?_
  repeat' (first | (refine HL.isOp ?_; first | refine HL.ev rfl rfl ?_ | refine HL.evc rfl rfl (by first | omega | simp | (simp; omega)) ?_ | refine HL.callB fn32 rfl rfl (fun w hw => slots_any t vb vs w (hv.at hw)) ?_ | (refine HL.isLoad ?_; first | refine HL.L 0 rfl rfl rfl rfl ?_ | refine HL.L 1 rfl rfl rfl rfl ?_ | refine HL.L 2 rfl rfl rfl rfl ?_ | refine HL.L 3 rfl rfl rfl rfl ?_) | (refine HL.isStore ?_; first | refine HL.S 0 rfl rfl rfl rfl rfl ?_ | refine HL.S 1 rfl rfl rfl rfl rfl ?_ | refine HL.S 2 rfl rfl rfl rfl rfl ?_ | refine HL.S 3 rfl rfl rfl rfl rfl ?_) | refine HL.build rfl rfl ?_ | refine HL.field rfl rfl ?_ | (refine HL.box rfl rfl ?_; intro bk) | (refine HL.alloc rfl rfl ?_; intro bk) | refine HL.skip rfl rfl ?_ | refine HL.skip0 rfl ?_ | apply HL.andB rfl rfl rfl rfl rfl rfl rfl rfl | apply HL.orB rfl rfl rfl rfl rfl rfl rfl rfl) | refine HL.nil ?_ | refine HR.ctl rfl ?_ | refine HR.region ?_ | refine HR.condT rfl ?_ | refine HR.condF rfl ?_ | exact HL.blkEnd rfl rfl Ent.refl | (refine fun (hb : (_ : Bool) = _) => ?_; try simp at hb))
  refine HR.cond rfl (fun h => ?_) (fun h => ?_)
  · rw [inB_slots] at h
    have hi : inB t i = false := by simpa using h
    repeat' (first | (refine HL.isOp ?_; first | refine HL.ev rfl rfl ?_ | refine HL.evc rfl rfl (by first | omega | simp | (simp; omega)) ?_ | (refine HL.isLoad ?_; first | refine HL.L 0 rfl rfl rfl rfl ?_ | refine HL.L 1 rfl rfl rfl rfl ?_ | refine HL.L 2 rfl rfl rfl rfl ?_ | refine HL.L 3 rfl rfl rfl rfl ?_) | (refine HL.isStore ?_; first | refine HL.S 0 rfl rfl rfl rfl rfl ?_ | refine HL.S 1 rfl rfl rfl rfl rfl ?_ | refine HL.S 2 rfl rfl rfl rfl rfl ?_ | refine HL.S 3 rfl rfl rfl rfl rfl ?_) | refine HL.build rfl rfl ?_ | refine HL.field rfl rfl ?_ | (refine HL.box rfl rfl ?_; intro bk) | (refine HL.alloc rfl rfl ?_; intro bk) | refine HL.skip rfl rfl ?_ | refine HL.skip0 rfl ?_ | apply HL.andB rfl rfl rfl rfl rfl rfl rfl rfl | apply HL.orB rfl rfl rfl rfl rfl rfl rfl rfl) | refine HL.nil ?_ | refine HR.ctl rfl ?_ | refine HR.region ?_ | refine HR.condT rfl ?_ | refine HR.condF rfl ?_ | exact HL.blkEnd rfl rfl Ent.refl | (refine fun (hb : (_ : Bool) = _) => ?_; try simp at hb))
    refine HR.ret Try.func19 rfl [_] (fun _ _ => ⟨rfl, trivial⟩) ?_
    exact fun w' hw => ⟨by simp [cost, hi, resV], hw.belowB⟩
  · rw [inB_slots] at h
    have hi : inB t i = true := by simpa using h
    obtain ⟨j, rfl, hj, h0⟩ := inB_of hi
    have ho := ok_of h0
    obtain ⟨x, hx⟩ := getSome hj
    have hj2 : j < t.s.length := by rw [ho.n3]; exact hj
    obtain ⟨y, hy⟩ := getSome hj2
    have h1 := mul_bound (clamp_le n) (ho.pb x (List.mem_of_getElem? hx))
    have h2 := mul_bound (clamp_le n) (ho.ps y (List.mem_of_getElem? hy))
    repeat' (first | (refine HL.isOp ?_; first | refine HL.ev rfl rfl ?_ | refine HL.evc rfl rfl (by first | omega | simp | (simp; omega)) ?_ | refine HL.callB fn35 rfl rfl (fun w _ => rclamp_any n (-1000) 1000 w) ?_ | (refine HL.isLoad ?_; first | refine HL.L 0 rfl rfl rfl rfl ?_ | refine HL.L 1 rfl rfl rfl rfl ?_ | refine HL.L 2 rfl rfl rfl rfl ?_ | refine HL.L 3 rfl rfl rfl rfl ?_) | (refine HL.isStore ?_; first | refine HL.S 0 rfl rfl rfl rfl rfl ?_ | refine HL.S 1 rfl rfl rfl rfl rfl ?_ | refine HL.S 2 rfl rfl rfl rfl rfl ?_ | refine HL.S 3 rfl rfl rfl rfl rfl ?_) | refine HL.build rfl rfl ?_ | refine HL.field rfl rfl ?_ | (refine HL.box rfl rfl ?_; intro bk) | (refine HL.alloc rfl rfl ?_; intro bk) | refine HL.skip rfl rfl ?_ | refine HL.skip0 rfl ?_ | apply HL.andB rfl rfl rfl rfl rfl rfl rfl rfl | apply HL.orB rfl rfl rfl rfl rfl rfl rfl rfl) | refine HL.nil ?_ | refine HR.ctl rfl ?_ | refine HR.region ?_ | refine HR.condT rfl ?_ | refine HR.condF rfl ?_ | exact HL.blkEnd rfl rfl Ent.refl | (refine fun (hb : (_ : Bool) = _) => ?_; try simp at hb))
    refine HR.cond rfl (fun h => ?_) (fun h => ?_)
    · repeat' (first | (refine HL.isOp ?_; first | refine HL.ev rfl rfl ?_ | refine HL.evc rfl rfl (by first | omega | simp | (simp; omega)) ?_ | refine HL.idxR (Rd.arg hv.s) elemI j rfl rfl rfl rfl hj2 ?_ | refine HL.loadI (Rd.arg hv.s) rfl rfl rfl rfl (cellsOf_get1 hy) ?_ | (refine HL.isLoad ?_; first | refine HL.L 0 rfl rfl rfl rfl ?_ | refine HL.L 1 rfl rfl rfl rfl ?_ | refine HL.L 2 rfl rfl rfl rfl ?_ | refine HL.L 3 rfl rfl rfl rfl ?_) | (refine HL.isStore ?_; first | refine HL.S 0 rfl rfl rfl rfl rfl ?_ | refine HL.S 1 rfl rfl rfl rfl rfl ?_ | refine HL.S 2 rfl rfl rfl rfl rfl ?_ | refine HL.S 3 rfl rfl rfl rfl rfl ?_) | refine HL.build rfl rfl ?_ | refine HL.field rfl rfl ?_ | (refine HL.box rfl rfl ?_; intro bk) | (refine HL.alloc rfl rfl ?_; intro bk) | refine HL.skip rfl rfl ?_ | refine HL.skip0 rfl ?_ | apply HL.andB rfl rfl rfl rfl rfl rfl rfl rfl | apply HL.orB rfl rfl rfl rfl rfl rfl rfl rfl) | refine HL.nil ?_ | refine HR.ctl rfl ?_ | refine HR.region ?_ | refine HR.condT rfl ?_ | refine HR.condF rfl ?_ | exact HL.blkEnd rfl rfl Ent.refl | (refine fun (hb : (_ : Bool) = _) => ?_; try simp at hb))
      refine HR.ret Try.func19 rfl [_] (fun _ _ => ⟨rfl, trivial⟩) ?_
      exact fun w' hw => ⟨by rw [cost_at h0 hx hy]; unfold amount; rw [if_pos (of_decide_eq_true h)]; rfl, hw.belowB⟩
    · repeat' (first | (refine HL.isOp ?_; first | refine HL.ev rfl rfl ?_ | refine HL.evc rfl rfl (by first | omega | simp | (simp; omega)) ?_ | refine HL.idxR (Rd.arg hv.b) elemI j rfl rfl rfl rfl hj ?_ | refine HL.loadI (Rd.arg hv.b) rfl rfl rfl rfl (cellsOf_get1 hx) ?_ | (refine HL.isLoad ?_; first | refine HL.L 0 rfl rfl rfl rfl ?_ | refine HL.L 1 rfl rfl rfl rfl ?_ | refine HL.L 2 rfl rfl rfl rfl ?_ | refine HL.L 3 rfl rfl rfl rfl ?_) | (refine HL.isStore ?_; first | refine HL.S 0 rfl rfl rfl rfl rfl ?_ | refine HL.S 1 rfl rfl rfl rfl rfl ?_ | refine HL.S 2 rfl rfl rfl rfl rfl ?_ | refine HL.S 3 rfl rfl rfl rfl rfl ?_) | refine HL.build rfl rfl ?_ | refine HL.field rfl rfl ?_ | (refine HL.box rfl rfl ?_; intro bk) | (refine HL.alloc rfl rfl ?_; intro bk) | refine HL.skip rfl rfl ?_ | refine HL.skip0 rfl ?_ | apply HL.andB rfl rfl rfl rfl rfl rfl rfl rfl | apply HL.orB rfl rfl rfl rfl rfl rfl rfl rfl) | refine HL.nil ?_ | refine HR.ctl rfl ?_ | refine HR.region ?_ | refine HR.condT rfl ?_ | refine HR.condF rfl ?_ | exact HL.blkEnd rfl rfl Ent.refl | (refine fun (hb : (_ : Bool) = _) => ?_; try simp at hb))
      refine HR.ret Try.func19 rfl [_] (fun _ _ => ⟨rfl, trivial⟩) ?_
      exact fun w' hw => ⟨by rw [cost_at h0 hx hy]; unfold amount; rw [if_neg (of_decide_eq_false h)]; rfl, hw.belowB⟩

theorem fits_any (t : Tr) (i n : Int) (vb vs : Value) (w : World) (hv : OkV w t vb vs) :
    Calls Try.prog 20 #[tfV vb vs t.fu, .int .i64 i, .int .i64 n] w fun e w' => e = .returned (.bool (fit t i n)) ∧ Below w.heap.size w w' := by
  refine calls_hr Try.func20 rfl (Nat.le_of_ble_eq_true rfl) ?_
  refine HR.sub (σ' := [(0, tfV vb vs t.fu), (1, .int .i64 i), (2, .int .i64 n)]) ⟨rfl, rfl, rfl, trivial⟩ ?_
  cases hi : inB t i with
  | false =>
    repeat' (first | (refine HL.isOp ?_; first | refine HL.ev rfl rfl ?_ | refine HL.evc rfl rfl (by first | omega | simp | (simp; omega)) ?_ | refine HL.callB fn33 rfl rfl (fun w hw => prices_no hi w (hv.at hw)) ?_ | (refine HL.isLoad ?_; first | refine HL.L 0 rfl rfl rfl rfl ?_ | refine HL.L 1 rfl rfl rfl rfl ?_ | refine HL.L 2 rfl rfl rfl rfl ?_ | refine HL.L 3 rfl rfl rfl rfl ?_) | (refine HL.isStore ?_; first | refine HL.S 0 rfl rfl rfl rfl rfl ?_ | refine HL.S 1 rfl rfl rfl rfl rfl ?_ | refine HL.S 2 rfl rfl rfl rfl rfl ?_ | refine HL.S 3 rfl rfl rfl rfl rfl ?_) | refine HL.build rfl rfl ?_ | refine HL.field rfl rfl ?_ | (refine HL.box rfl rfl ?_; intro bk) | (refine HL.alloc rfl rfl ?_; intro bk) | refine HL.skip rfl rfl ?_ | refine HL.skip0 rfl ?_) | refine HL.nil ?_ | refine HR.ctl rfl ?_ | refine HR.region ?_ | refine HR.condT rfl ?_ | refine HR.condF rfl ?_)
    refine HR.ret Try.func20 rfl [_] (fun _ _ => ⟨rfl, trivial⟩) ?_
    exact fun w' hw => ⟨by simp [fit, hi, resV], hw.belowB⟩
  | true =>
    obtain ⟨j, rfl, hj, h0⟩ := inB_of hi
    have ho := ok_of h0
    obtain ⟨x, hx⟩ := getSome hj
    obtain ⟨y, hy⟩ := getSome (show j < t.s.length by rw [ho.n3]; exact hj)
    have f1 := ho.f1
    have f2 := ho.f2
    repeat' (first | (refine HL.isOp ?_; first | refine HL.ev rfl rfl ?_ | refine HL.evc rfl rfl (by first | omega | simp | (simp; omega)) ?_ | refine HL.callB fn33 rfl rfl (fun w hw => prices_at h0 hx hy w (hv.at hw)) ?_ | (refine HL.isLoad ?_; first | refine HL.L 0 rfl rfl rfl rfl ?_ | refine HL.L 1 rfl rfl rfl rfl ?_ | refine HL.L 2 rfl rfl rfl rfl ?_ | refine HL.L 3 rfl rfl rfl rfl ?_) | (refine HL.isStore ?_; first | refine HL.S 0 rfl rfl rfl rfl rfl ?_ | refine HL.S 1 rfl rfl rfl rfl rfl ?_ | refine HL.S 2 rfl rfl rfl rfl rfl ?_ | refine HL.S 3 rfl rfl rfl rfl rfl ?_) | refine HL.build rfl rfl ?_ | refine HL.field rfl rfl ?_ | (refine HL.box rfl rfl ?_; intro bk) | (refine HL.alloc rfl rfl ?_; intro bk) | refine HL.skip rfl rfl ?_ | refine HL.skip0 rfl ?_) | refine HL.nil ?_ | refine HR.ctl rfl ?_ | refine HR.region ?_ | refine HR.condT rfl ?_ | refine HR.condF rfl ?_)
    repeat' (first | (refine HL.isOp ?_; first | refine HL.ev rfl rfl ?_ | refine HL.evc rfl rfl (by first | omega | simp | (simp; omega)) ?_ | (refine HL.isLoad ?_; first | refine HL.L 0 rfl rfl rfl rfl ?_ | refine HL.L 1 rfl rfl rfl rfl ?_ | refine HL.L 2 rfl rfl rfl rfl ?_ | refine HL.L 3 rfl rfl rfl rfl ?_) | (refine HL.isStore ?_; first | refine HL.S 0 rfl rfl rfl rfl rfl ?_ | refine HL.S 1 rfl rfl rfl rfl rfl ?_ | refine HL.S 2 rfl rfl rfl rfl rfl ?_ | refine HL.S 3 rfl rfl rfl rfl rfl ?_) | refine HL.build rfl rfl ?_ | refine HL.field rfl rfl ?_ | (refine HL.box rfl rfl ?_; intro bk) | (refine HL.alloc rfl rfl ?_; intro bk) | refine HL.skip rfl rfl ?_ | refine HL.skip0 rfl ?_ | apply HL.andB rfl rfl rfl rfl rfl rfl rfl rfl | apply HL.orB rfl rfl rfl rfl rfl rfl rfl rfl) | refine HL.nil ?_ | refine HR.ctl rfl ?_ | refine HR.region ?_ | refine HR.condT rfl ?_ | refine HR.condF rfl ?_ | exact HL.blkEnd rfl rfl Ent.refl | (refine fun (hb : (_ : Bool) = _) => ?_; try simp at hb))
    refine HR.ret Try.func20 rfl [_] (fun _ _ => ⟨rfl, trivial⟩) ?_
    exact fun w' hw => ⟨by simp [fit, hi, resV], hw.belowB⟩

theorem rfits_any (t : Tr) (i n : Int) (vb vs : Value) (w : World) (hv : OkV w t vb vs) :
    Calls Try.prog 21 #[tfV vb vs t.fu, .int .i64 i, .int .i64 n] w fun e w' => e = .returned (.bool (fit t i n)) ∧ Below w.heap.size w w' := by
  refine calls_hr Try.func21 rfl (Nat.le_of_ble_eq_true rfl) ?_
  refine HR.sub (σ' := [(0, tfV vb vs t.fu), (1, .int .i64 i), (2, .int .i64 n)]) ⟨rfl, rfl, rfl, trivial⟩ ?_
  have e : (decide (i ≥ 0) && decide (i < (slots t : Int))) = inB t i := by
    rw [Bool.eq_iff_iff]
    simp only [Bool.and_eq_true, decide_eq_true_eq, inB]
    by_cases h : check t = 0
    · rw [slots_ok h]; omega
    · rw [slots_no h]; omega
  have hf : 0 ≤ i ∧ i < (slots t : Int) → 1 ≤ t.fu ∧ t.fu ≤ 1000 := fun h => by
    have ho := ok_of (ok_slots (t := t) (j := i.toNat) (by omega))
    exact ⟨ho.f1, ho.f2⟩
  repeat' (first | (refine HL.isOp ?_; first | refine HL.ev rfl rfl ?_ | refine HL.evc rfl rfl (by first | omega | simp | (simp; omega)) ?_ | refine HL.callB fn32 rfl rfl (fun w hw => slots_any t vb vs w (hv.at hw)) ?_ | (refine HL.isLoad ?_; first | refine HL.L 0 rfl rfl rfl rfl ?_ | refine HL.L 1 rfl rfl rfl rfl ?_ | refine HL.L 2 rfl rfl rfl rfl ?_ | refine HL.L 3 rfl rfl rfl rfl ?_) | (refine HL.isStore ?_; first | refine HL.S 0 rfl rfl rfl rfl rfl ?_ | refine HL.S 1 rfl rfl rfl rfl rfl ?_ | refine HL.S 2 rfl rfl rfl rfl rfl ?_ | refine HL.S 3 rfl rfl rfl rfl rfl ?_) | refine HL.build rfl rfl ?_ | refine HL.field rfl rfl ?_ | (refine HL.box rfl rfl ?_; intro bk) | (refine HL.alloc rfl rfl ?_; intro bk) | refine HL.skip rfl rfl ?_ | refine HL.skip0 rfl ?_ | apply HL.andB rfl rfl rfl rfl rfl rfl rfl rfl | apply HL.orB rfl rfl rfl rfl rfl rfl rfl rfl) | refine HL.nil ?_ | refine HR.ctl rfl ?_ | refine HR.region ?_ | refine HR.condT rfl ?_ | refine HR.condF rfl ?_ | exact HL.blkEnd rfl rfl Ent.refl | (refine fun (hb : (_ : Bool) = _) => ?_; try simp at hb))
  refine HR.ret Try.func21 rfl [_] (fun _ _ => ⟨rfl, trivial⟩) ?_
  exact fun w' hw => ⟨by unfold fit; rw [← e]; rfl, hw.belowB⟩

theorem slot_any (n : Int) (w : World) : Calls Try.prog 16 #[.int .i64 n] w fun e w' => e = .returned (.int .i64 ((if n > 0 then n else 0) % 1440 / 15)) ∧ Below w.heap.size w w' := by
  refine calls_hr Try.func16 rfl (Nat.le_of_ble_eq_true rfl) ?_
  refine HR.sub (σ' := [(0, .int .i64 n)]) ⟨rfl, trivial⟩ ?_
  repeat' (first | (refine HL.isOp ?_; first | refine HL.ev rfl rfl ?_ | refine HL.evc rfl rfl (by first | omega | simp | (simp; omega)) ?_ | (refine HL.isLoad ?_; first | refine HL.L 0 rfl rfl rfl rfl ?_ | refine HL.L 1 rfl rfl rfl rfl ?_ | refine HL.L 2 rfl rfl rfl rfl ?_ | refine HL.L 3 rfl rfl rfl rfl ?_) | (refine HL.isStore ?_; first | refine HL.S 0 rfl rfl rfl rfl rfl ?_ | refine HL.S 1 rfl rfl rfl rfl rfl ?_ | refine HL.S 2 rfl rfl rfl rfl rfl ?_ | refine HL.S 3 rfl rfl rfl rfl rfl ?_) | refine HL.build rfl rfl ?_ | refine HL.field rfl rfl ?_ | (refine HL.box rfl rfl ?_; intro bk) | (refine HL.alloc rfl rfl ?_; intro bk) | refine HL.skip rfl rfl ?_ | refine HL.skip0 rfl ?_ | apply HL.andB rfl rfl rfl rfl rfl rfl rfl rfl | apply HL.orB rfl rfl rfl rfl rfl rfl rfl rfl) | refine HL.nil ?_ | refine HR.ctl rfl ?_ | refine HR.region ?_ | refine HR.condT rfl ?_ | refine HR.condF rfl ?_ | exact HL.blkEnd rfl rfl Ent.refl | (refine fun (hb : (_ : Bool) = _) => ?_; try simp at hb))
  refine HR.ret Try.func16 rfl [_] (fun _ _ => ⟨rfl, trivial⟩) ?_
  exact fun w' hw => ⟨rfl, hw.belowB⟩

theorem rslot_any (n : Int) (w : World) : Calls Try.prog 17 #[.int .i64 n] w fun e w' => e = .returned (.int .i64 ((if n > 0 then n else 0) % 1440 / 15)) ∧ Below w.heap.size w w' := by
  refine calls_hr Try.func17 rfl (Nat.le_of_ble_eq_true rfl) ?_
  refine HR.sub (σ' := [(0, .int .i64 n)]) ⟨rfl, trivial⟩ ?_
  repeat' (first | (refine HL.isOp ?_; first | refine HL.ev rfl rfl ?_ | refine HL.evc rfl rfl (by first | omega | simp | (simp; omega)) ?_ | (refine HL.isLoad ?_; first | refine HL.L 0 rfl rfl rfl rfl ?_ | refine HL.L 1 rfl rfl rfl rfl ?_ | refine HL.L 2 rfl rfl rfl rfl ?_ | refine HL.L 3 rfl rfl rfl rfl ?_) | (refine HL.isStore ?_; first | refine HL.S 0 rfl rfl rfl rfl rfl ?_ | refine HL.S 1 rfl rfl rfl rfl rfl ?_ | refine HL.S 2 rfl rfl rfl rfl rfl ?_ | refine HL.S 3 rfl rfl rfl rfl rfl ?_) | refine HL.build rfl rfl ?_ | refine HL.field rfl rfl ?_ | (refine HL.box rfl rfl ?_; intro bk) | (refine HL.alloc rfl rfl ?_; intro bk) | refine HL.skip rfl rfl ?_ | refine HL.skip0 rfl ?_ | apply HL.andB rfl rfl rfl rfl rfl rfl rfl rfl | apply HL.orB rfl rfl rfl rfl rfl rfl rfl rfl) | refine HL.nil ?_ | refine HR.ctl rfl ?_ | refine HR.region ?_ | refine HR.condT rfl ?_ | refine HR.condF rfl ?_ | exact HL.blkEnd rfl rfl Ent.refl | (refine fun (hb : (_ : Bool) = _) => ?_; try simp at hb))
  refine HR.cond rfl (fun h => ?_) (fun h => ?_)
  · have h := of_decide_eq_true h
    rw [if_neg (by omega)]
    repeat' (first | (refine HL.isOp ?_; first | refine HL.ev rfl rfl ?_ | refine HL.evc rfl rfl (by first | omega | simp | (simp; omega)) ?_ | (refine HL.isLoad ?_; first | refine HL.L 0 rfl rfl rfl rfl ?_ | refine HL.L 1 rfl rfl rfl rfl ?_ | refine HL.L 2 rfl rfl rfl rfl ?_ | refine HL.L 3 rfl rfl rfl rfl ?_) | (refine HL.isStore ?_; first | refine HL.S 0 rfl rfl rfl rfl rfl ?_ | refine HL.S 1 rfl rfl rfl rfl rfl ?_ | refine HL.S 2 rfl rfl rfl rfl rfl ?_ | refine HL.S 3 rfl rfl rfl rfl rfl ?_) | refine HL.build rfl rfl ?_ | refine HL.field rfl rfl ?_ | (refine HL.box rfl rfl ?_; intro bk) | (refine HL.alloc rfl rfl ?_; intro bk) | refine HL.skip rfl rfl ?_ | refine HL.skip0 rfl ?_ | apply HL.andB rfl rfl rfl rfl rfl rfl rfl rfl | apply HL.orB rfl rfl rfl rfl rfl rfl rfl rfl) | refine HL.nil ?_ | refine HR.ctl rfl ?_ | refine HR.region ?_ | refine HR.condT rfl ?_ | refine HR.condF rfl ?_ | exact HL.blkEnd rfl rfl Ent.refl | (refine fun (hb : (_ : Bool) = _) => ?_; try simp at hb))
    refine HR.ret Try.func17 rfl [_] (fun _ _ => ⟨rfl, trivial⟩) ?_
    exact fun w' hw => ⟨rfl, hw.belowB⟩
  · have h := of_decide_eq_false h
    have e : (if n > 0 then n else 0) = n := by split <;> omega
    rw [e]
    repeat' (first | (refine HL.isOp ?_; first | refine HL.ev rfl rfl ?_ | refine HL.evc rfl rfl (by first | omega | simp | (simp; omega)) ?_ | (refine HL.isLoad ?_; first | refine HL.L 0 rfl rfl rfl rfl ?_ | refine HL.L 1 rfl rfl rfl rfl ?_ | refine HL.L 2 rfl rfl rfl rfl ?_ | refine HL.L 3 rfl rfl rfl rfl ?_) | (refine HL.isStore ?_; first | refine HL.S 0 rfl rfl rfl rfl rfl ?_ | refine HL.S 1 rfl rfl rfl rfl rfl ?_ | refine HL.S 2 rfl rfl rfl rfl rfl ?_ | refine HL.S 3 rfl rfl rfl rfl rfl ?_) | refine HL.build rfl rfl ?_ | refine HL.field rfl rfl ?_ | (refine HL.box rfl rfl ?_; intro bk) | (refine HL.alloc rfl rfl ?_; intro bk) | refine HL.skip rfl rfl ?_ | refine HL.skip0 rfl ?_ | apply HL.andB rfl rfl rfl rfl rfl rfl rfl rfl | apply HL.orB rfl rfl rfl rfl rfl rfl rfl rfl) | refine HL.nil ?_ | refine HR.ctl rfl ?_ | refine HR.region ?_ | refine HR.condT rfl ?_ | refine HR.condF rfl ?_ | exact HL.blkEnd rfl rfl Ent.refl | (refine fun (hb : (_ : Bool) = _) => ?_; try simp at hb))
    refine HR.ret Try.func17 rfl [_] (fun _ _ => ⟨rfl, trivial⟩) ?_
    exact fun w' hw => ⟨rfl, hw.belowB⟩
end Go.Proofs.Ytlineefahilohaa
