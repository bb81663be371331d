/- A part of the proof: contracts of the program's functions. Conditions: none. -/
import Derived.Test.YtiepojpebndgoaaRb3
import Derived.Test.YtiepojpebndgoaaGxDraw
namespace Go.Proofs.Ytiepojpebndgoaa
open Go.GX Go.RowKit
attribute [local irreducible] Calls Run RunL RunQ RunD HR HL HD blkC ownC mapC Rd slicesC iterC RdM
set_option linter.unusedVariables false
set_option linter.unusedSectionVars false
set_option linter.unusedSimpArgs false
set_option maxRecDepth 100000

open Ra
theorem fn23 : IsFn Try.prog 23 := ⟨⟨_, _, Try.func23, rfl, by decide⟩⟩
theorem fn24 : IsFn Try.prog 24 := ⟨⟨_, _, Try.func24, rfl, by decide⟩⟩
theorem fn25 : IsFn Try.prog 25 := ⟨⟨_, _, Try.func25, rfl, by decide⟩⟩
theorem fn26 : IsFn Try.prog 26 := ⟨⟨_, _, Try.func26, rfl, by decide⟩⟩

theorem clear_any (a : Air) (ve vo vn : Value) (w : World) (hv : OkA w a ve vo vn) :
    Calls Try.prog 25 #[airV ve vo vn] w fun e w' => ∃ x : Value × Value, e = .returned (airV x.1 x.2 (.slice none 0 0)) ∧ True ∧ Sat (base w) [ownC x.1 49 2 (san a).e.length (cellsOf edC (san a).e), ownC x.2 3 1 (san a).o.length (cellsOf iC (san a).o)] w' := by
  obtain ⟨ve', vo', vn', hs, hval⟩ := valid_ex hv
  generalize san a = A at hs ⊢
  obtain ⟨e1, e2, rfl, _⟩ := hs.e.2
  obtain ⟨o1, o2, rfl, _⟩ := hs.o.2
  obtain ⟨n1, n2, rfl, _⟩ := hs.n.2
  have le := hs.le
  have lo := hs.lo
  refine calls_hr Try.func25 rfl (Nat.le_of_ble_eq_true rfl) ?_
  refine HR.sub (σ' := [(0, airV ve vo vn)]) ⟨rfl, trivial⟩ ?_
  repeat' (first | (refine HL.isOp ?_; first | refine HL.ev rfl rfl ?_ | refine HL.evc rfl rfl (by first | omega | simp | (simp; omega)) ?_ | refine HL.callB fn34 rfl rfl (fun w hw => hval w (hv.at hw)) ?_ | (refine HL.isLoad ?_; first | refine HL.L 0 rfl rfl rfl rfl ?_ | refine HL.L 1 rfl rfl rfl rfl ?_ | refine HL.L 2 rfl rfl rfl rfl ?_ | refine HL.L 3 rfl rfl rfl rfl ?_ | refine HL.L 4 rfl rfl rfl rfl ?_ | refine HL.L 5 rfl rfl rfl rfl ?_) | (refine HL.isStore ?_; first | refine HL.S 0 rfl rfl rfl rfl rfl ?_ | refine HL.S 1 rfl rfl rfl rfl rfl ?_ | refine HL.S 2 rfl rfl rfl rfl rfl ?_ | refine HL.S 3 rfl rfl rfl rfl rfl ?_ | refine HL.S 4 rfl rfl rfl rfl rfl ?_ | refine HL.S 5 rfl rfl rfl rfl rfl ?_) | refine HL.build rfl rfl ?_ | refine HL.field rfl rfl ?_ | (refine HL.box rfl rfl ?_; intro bk) | (refine HL.alloc rfl rfl ?_; intro bk) | refine HL.skip rfl rfl ?_ | refine HL.skip0 rfl ?_) | refine HL.nil ?_ | refine HR.ctl rfl ?_ | refine HR.region ?_ | refine HR.condT rfl ?_ | refine HR.condF rfl ?_)
  refine HR.regionA [1] rfl rfl hmix ?_
  first | refine HA.ev 0 (by kernel_rfl) rfl rfl rfl ?_ | refine HA.evc 0 (by kernel_rfl) rfl rfl rfl (by first | omega | simp | (simp; omega)) ?_ | refine HA.loadB 0 0 (by kernel_rfl) rfl rfl rfl rfl rfl rfl rfl ?_ | refine HA.loadB 0 1 (by kernel_rfl) rfl rfl rfl rfl rfl rfl rfl ?_ | refine HA.loadB 0 2 (by kernel_rfl) rfl rfl rfl rfl rfl rfl rfl ?_ | refine HA.loadB 0 3 (by kernel_rfl) rfl rfl rfl rfl rfl rfl rfl ?_ | refine HA.loadB 0 4 (by kernel_rfl) rfl rfl rfl rfl rfl rfl rfl ?_ | refine HA.loadB 0 5 (by kernel_rfl) rfl rfl rfl rfl rfl rfl rfl ?_ | refine HA.loadR 0 0 (by kernel_rfl) rfl rfl rfl rfl rfl rfl rfl rfl ?_ | refine HA.loadR 0 1 (by kernel_rfl) rfl rfl rfl rfl rfl rfl rfl rfl ?_ | refine HA.loadR 0 2 (by kernel_rfl) rfl rfl rfl rfl rfl rfl rfl rfl ?_ | refine HA.loadR 0 3 (by kernel_rfl) rfl rfl rfl rfl rfl rfl rfl rfl ?_ | refine HA.loadR 0 4 (by kernel_rfl) rfl rfl rfl rfl rfl rfl rfl rfl ?_ | refine HA.loadR 0 5 (by kernel_rfl) rfl rfl rfl rfl rfl rfl rfl rfl ?_ | refine HA.build 0 (by kernel_rfl) rfl rfl rfl ?_
  first | refine HA.ev 1 (by kernel_rfl) rfl rfl rfl ?_ | refine HA.evc 1 (by kernel_rfl) rfl rfl rfl (by first | omega | simp | (simp; omega)) ?_ | refine HA.loadB 1 0 (by kernel_rfl) rfl rfl rfl rfl rfl rfl rfl ?_ | refine HA.loadB 1 1 (by kernel_rfl) rfl rfl rfl rfl rfl rfl rfl ?_ | refine HA.loadB 1 2 (by kernel_rfl) rfl rfl rfl rfl rfl rfl rfl ?_ | refine HA.loadB 1 3 (by kernel_rfl) rfl rfl rfl rfl rfl rfl rfl ?_ | refine HA.loadB 1 4 (by kernel_rfl) rfl rfl rfl rfl rfl rfl rfl ?_ | refine HA.loadB 1 5 (by kernel_rfl) rfl rfl rfl rfl rfl rfl rfl ?_ | refine HA.loadR 1 0 (by kernel_rfl) rfl rfl rfl rfl rfl rfl rfl rfl ?_ | refine HA.loadR 1 1 (by kernel_rfl) rfl rfl rfl rfl rfl rfl rfl rfl ?_ | refine HA.loadR 1 2 (by kernel_rfl) rfl rfl rfl rfl rfl rfl rfl rfl ?_ | refine HA.loadR 1 3 (by kernel_rfl) rfl rfl rfl rfl rfl rfl rfl rfl ?_ | refine HA.loadR 1 4 (by kernel_rfl) rfl rfl rfl rfl rfl rfl rfl rfl ?_ | refine HA.loadR 1 5 (by kernel_rfl) rfl rfl rfl rfl rfl rfl rfl rfl ?_ | refine HA.build 1 (by kernel_rfl) rfl rfl rfl ?_
  first | refine HA.ev 3 (by kernel_rfl) rfl rfl rfl ?_ | refine HA.evc 3 (by kernel_rfl) rfl rfl rfl (by first | omega | simp | (simp; omega)) ?_ | refine HA.loadB 3 0 (by kernel_rfl) rfl rfl rfl rfl rfl rfl rfl ?_ | refine HA.loadB 3 1 (by kernel_rfl) rfl rfl rfl rfl rfl rfl rfl ?_ | refine HA.loadB 3 2 (by kernel_rfl) rfl rfl rfl rfl rfl rfl rfl ?_ | refine HA.loadB 3 3 (by kernel_rfl) rfl rfl rfl rfl rfl rfl rfl ?_ | refine HA.loadB 3 4 (by kernel_rfl) rfl rfl rfl rfl rfl rfl rfl ?_ | refine HA.loadB 3 5 (by kernel_rfl) rfl rfl rfl rfl rfl rfl rfl ?_ | refine HA.loadR 3 0 (by kernel_rfl) rfl rfl rfl rfl rfl rfl rfl rfl ?_ | refine HA.loadR 3 1 (by kernel_rfl) rfl rfl rfl rfl rfl rfl rfl rfl ?_ | refine HA.loadR 3 2 (by kernel_rfl) rfl rfl rfl rfl rfl rfl rfl rfl ?_ | refine HA.loadR 3 3 (by kernel_rfl) rfl rfl rfl rfl rfl rfl rfl rfl ?_ | refine HA.loadR 3 4 (by kernel_rfl) rfl rfl rfl rfl rfl rfl rfl rfl ?_ | refine HA.loadR 3 5 (by kernel_rfl) rfl rfl rfl rfl rfl rfl rfl rfl ?_ | refine HA.build 3 (by kernel_rfl) rfl rfl rfl ?_
  first | refine HA.ev 4 (by kernel_rfl) rfl rfl rfl ?_ | refine HA.evc 4 (by kernel_rfl) rfl rfl rfl (by first | omega | simp | (simp; omega)) ?_ | refine HA.loadB 4 0 (by kernel_rfl) rfl rfl rfl rfl rfl rfl rfl ?_ | refine HA.loadB 4 1 (by kernel_rfl) rfl rfl rfl rfl rfl rfl rfl ?_ | refine HA.loadB 4 2 (by kernel_rfl) rfl rfl rfl rfl rfl rfl rfl ?_ | refine HA.loadB 4 3 (by kernel_rfl) rfl rfl rfl rfl rfl rfl rfl ?_ | refine HA.loadB 4 4 (by kernel_rfl) rfl rfl rfl rfl rfl rfl rfl ?_ | refine HA.loadB 4 5 (by kernel_rfl) rfl rfl rfl rfl rfl rfl rfl ?_ | refine HA.loadR 4 0 (by kernel_rfl) rfl rfl rfl rfl rfl rfl rfl rfl ?_ | refine HA.loadR 4 1 (by kernel_rfl) rfl rfl rfl rfl rfl rfl rfl rfl ?_ | refine HA.loadR 4 2 (by kernel_rfl) rfl rfl rfl rfl rfl rfl rfl rfl ?_ | refine HA.loadR 4 3 (by kernel_rfl) rfl rfl rfl rfl rfl rfl rfl rfl ?_ | refine HA.loadR 4 4 (by kernel_rfl) rfl rfl rfl rfl rfl rfl rfl rfl ?_ | refine HA.loadR 4 5 (by kernel_rfl) rfl rfl rfl rfl rfl rfl rfl rfl ?_ | refine HA.build 4 (by kernel_rfl) rfl rfl rfl ?_
  refine HA.two 2 5 (by kernel_rfl) rfl rfl ?_ ?_
  · refine HL.callO fn43 rfl rfl (fun w hw => cloneE_any A.e _ w ((Rd.arg hs.e).at hw) (by omega)) ?_
    intro v1
    refine HL.backA [2] rfl rfl ?_
    refine HA.one 5 (by kernel_rfl) rfl ?_
    refine HL.bslice elemL rfl rfl rfl rfl rfl (by decide) (by decide) ?_
    intro v2
    refine HL.backA [3] rfl rfl ?_
    refine HA.one 6 (by kernel_rfl) rfl ?_
    refine HL.callO fn31 rfl rfl (fun w hw => joined1 ((Rd.own 0 rfl).at hw) ((Rd.arg hs.o).at hw) hs.lo) ?_
    intro v3
    refine HL.shape 0 rfl ?_
    rintro a3 c3 rfl
    refine HL.shape 2 rfl ?_
    rintro a1 c1 rfl
    refine HL.backA [4] rfl rfl ?_
    first | refine HA.ev 7 (by kernel_rfl) rfl rfl rfl ?_ | refine HA.evc 7 (by kernel_rfl) rfl rfl rfl (by first | omega | simp | (simp; omega)) ?_ | refine HA.loadB 7 0 (by kernel_rfl) rfl rfl rfl rfl rfl rfl rfl ?_ | refine HA.loadB 7 1 (by kernel_rfl) rfl rfl rfl rfl rfl rfl rfl ?_ | refine HA.loadB 7 2 (by kernel_rfl) rfl rfl rfl rfl rfl rfl rfl ?_ | refine HA.loadB 7 3 (by kernel_rfl) rfl rfl rfl rfl rfl rfl rfl ?_ | refine HA.loadB 7 4 (by kernel_rfl) rfl rfl rfl rfl rfl rfl rfl ?_ | refine HA.loadB 7 5 (by kernel_rfl) rfl rfl rfl rfl rfl rfl rfl ?_ | refine HA.loadR 7 0 (by kernel_rfl) rfl rfl rfl rfl rfl rfl rfl rfl ?_ | refine HA.loadR 7 1 (by kernel_rfl) rfl rfl rfl rfl rfl rfl rfl rfl ?_ | refine HA.loadR 7 2 (by kernel_rfl) rfl rfl rfl rfl rfl rfl rfl rfl ?_ | refine HA.loadR 7 3 (by kernel_rfl) rfl rfl rfl rfl rfl rfl rfl rfl ?_ | refine HA.loadR 7 4 (by kernel_rfl) rfl rfl rfl rfl rfl rfl rfl rfl ?_ | refine HA.loadR 7 5 (by kernel_rfl) rfl rfl rfl rfl rfl rfl rfl rfl ?_ | refine HA.build 7 (by kernel_rfl) rfl rfl rfl ?_
    refine HA.one 8 (by kernel_rfl) rfl ?_
    refine HL.S 3 rfl rfl rfl rfl rfl ?_
    refine HL.backA [4] rfl rfl ?_
    refine HA.done (by kernel_rfl) ?_
    repeat' (first | (refine HL.isOp ?_; first | refine HL.ev rfl rfl ?_ | refine HL.evc rfl rfl (by first | omega | simp | (simp; omega)) ?_ | (refine HL.isLoad ?_; first | refine HL.L 0 rfl rfl rfl rfl ?_ | refine HL.L 1 rfl rfl rfl rfl ?_ | refine HL.L 2 rfl rfl rfl rfl ?_ | refine HL.L 3 rfl rfl rfl rfl ?_ | refine HL.L 4 rfl rfl rfl rfl ?_ | refine HL.L 5 rfl rfl rfl rfl ?_) | (refine HL.isStore ?_; first | refine HL.S 0 rfl rfl rfl rfl rfl ?_ | refine HL.S 1 rfl rfl rfl rfl rfl ?_ | refine HL.S 2 rfl rfl rfl rfl rfl ?_ | refine HL.S 3 rfl rfl rfl rfl rfl ?_ | refine HL.S 4 rfl rfl rfl rfl rfl ?_ | refine HL.S 5 rfl rfl rfl rfl rfl ?_) | refine HL.build rfl rfl ?_ | refine HL.field rfl rfl ?_ | (refine HL.box rfl rfl ?_; intro bk) | (refine HL.alloc rfl rfl ?_; intro bk) | refine HL.skip rfl rfl ?_ | refine HL.skip0 rfl ?_) | refine HL.nil ?_ | refine HR.ctl rfl ?_ | refine HR.region ?_ | refine HR.condT rfl ?_ | refine HR.condF rfl ?_)
    refine HR.ret Try.func25 rfl [_] (fun w hw => ⟨⟨_, rfl, loadVarR hw 3 rfl rfl rfl rfl rfl⟩, trivial⟩) ?_
    exact fun w' hw => ⟨(_, _), rfl, trivial, hw.pick [2, 0] rfl rfl⟩
  · refine HL.bslice elemL rfl rfl rfl rfl rfl (by decide) (by decide) ?_
    intro v2
    refine HL.backA [2] rfl rfl ?_
    refine HA.one 2 (by kernel_rfl) rfl ?_
    refine HL.callO fn43 rfl rfl (fun w hw => cloneE_any A.e _ w ((Rd.arg hs.e).at hw) (by omega)) ?_
    intro v1
    refine HL.backA [3] rfl rfl ?_
    refine HA.one 6 (by kernel_rfl) rfl ?_
    refine HL.callO fn31 rfl rfl (fun w hw => joined1 ((Rd.own 1 rfl).at hw) ((Rd.arg hs.o).at hw) hs.lo) ?_
    intro v3
    refine HL.shape 0 rfl ?_
    rintro a3 c3 rfl
    refine HL.shape 1 rfl ?_
    rintro a1 c1 rfl
    refine HL.backA [4] rfl rfl ?_
    first | refine HA.ev 7 (by kernel_rfl) rfl rfl rfl ?_ | refine HA.evc 7 (by kernel_rfl) rfl rfl rfl (by first | omega | simp | (simp; omega)) ?_ | refine HA.loadB 7 0 (by kernel_rfl) rfl rfl rfl rfl rfl rfl rfl ?_ | refine HA.loadB 7 1 (by kernel_rfl) rfl rfl rfl rfl rfl rfl rfl ?_ | refine HA.loadB 7 2 (by kernel_rfl) rfl rfl rfl rfl rfl rfl rfl ?_ | refine HA.loadB 7 3 (by kernel_rfl) rfl rfl rfl rfl rfl rfl rfl ?_ | refine HA.loadB 7 4 (by kernel_rfl) rfl rfl rfl rfl rfl rfl rfl ?_ | refine HA.loadB 7 5 (by kernel_rfl) rfl rfl rfl rfl rfl rfl rfl ?_ | refine HA.loadR 7 0 (by kernel_rfl) rfl rfl rfl rfl rfl rfl rfl rfl ?_ | refine HA.loadR 7 1 (by kernel_rfl) rfl rfl rfl rfl rfl rfl rfl rfl ?_ | refine HA.loadR 7 2 (by kernel_rfl) rfl rfl rfl rfl rfl rfl rfl rfl ?_ | refine HA.loadR 7 3 (by kernel_rfl) rfl rfl rfl rfl rfl rfl rfl rfl ?_ | refine HA.loadR 7 4 (by kernel_rfl) rfl rfl rfl rfl rfl rfl rfl rfl ?_ | refine HA.loadR 7 5 (by kernel_rfl) rfl rfl rfl rfl rfl rfl rfl rfl ?_ | refine HA.build 7 (by kernel_rfl) rfl rfl rfl ?_
    refine HA.one 8 (by kernel_rfl) rfl ?_
    refine HL.S 3 rfl rfl rfl rfl rfl ?_
    refine HL.backA [4] rfl rfl ?_
    refine HA.done (by kernel_rfl) ?_
    repeat' (first | (refine HL.isOp ?_; first | refine HL.ev rfl rfl ?_ | refine HL.evc rfl rfl (by first | omega | simp | (simp; omega)) ?_ | (refine HL.isLoad ?_; first | refine HL.L 0 rfl rfl rfl rfl ?_ | refine HL.L 1 rfl rfl rfl rfl ?_ | refine HL.L 2 rfl rfl rfl rfl ?_ | refine HL.L 3 rfl rfl rfl rfl ?_ | refine HL.L 4 rfl rfl rfl rfl ?_ | refine HL.L 5 rfl rfl rfl rfl ?_) | (refine HL.isStore ?_; first | refine HL.S 0 rfl rfl rfl rfl rfl ?_ | refine HL.S 1 rfl rfl rfl rfl rfl ?_ | refine HL.S 2 rfl rfl rfl rfl rfl ?_ | refine HL.S 3 rfl rfl rfl rfl rfl ?_ | refine HL.S 4 rfl rfl rfl rfl rfl ?_ | refine HL.S 5 rfl rfl rfl rfl rfl ?_) | refine HL.build rfl rfl ?_ | refine HL.field rfl rfl ?_ | (refine HL.box rfl rfl ?_; intro bk) | (refine HL.alloc rfl rfl ?_; intro bk) | refine HL.skip rfl rfl ?_ | refine HL.skip0 rfl ?_) | refine HL.nil ?_ | refine HR.ctl rfl ?_ | refine HR.region ?_ | refine HR.condT rfl ?_ | refine HR.condF rfl ?_)
    refine HR.ret Try.func25 rfl [_] (fun w hw => ⟨⟨_, rfl, loadVarR hw 3 rfl rfl rfl rfl rfl⟩, trivial⟩) ?_
    exact fun w' hw => ⟨(_, _), rfl, trivial, hw.pick [1, 0] rfl rfl⟩

theorem rclear_ex {a : Air} {ve vo vn : Value} {w0 : World} (hv : OkA w0 a ve vo vn) : ∃ ve' vo' vn', OkA w0 (san a) ve' vo' vn' ∧ ∀ w, OkA w a ve vo vn → Calls Try.prog 26 #[airV ve vo vn] w fun e w' => e = .returned (airV ve' vo' (.slice none 0 0)) ∧ Below w.heap.size w w' := by
  obtain ⟨ve', vo', vn', hs, hval⟩ := sane_ex hv
  refine ⟨ve', vo', vn', hs, fun w hv => ?_⟩
  obtain ⟨e1, e2, rfl, _⟩ := hs.e.2
  obtain ⟨o1, o2, rfl, _⟩ := hs.o.2
  obtain ⟨n1, n2, rfl, _⟩ := hs.n.2
  refine calls_hr Try.func26 rfl (Nat.le_of_ble_eq_true rfl) ?_
  refine HR.sub (σ' := [(0, airV ve vo vn)]) ⟨rfl, trivial⟩ ?_
  repeat' (first | (refine HL.isOp ?_; first | refine HL.ev rfl rfl ?_ | refine HL.evc rfl rfl (by first | omega | simp | (simp; omega)) ?_ | refine HL.callB fn36 rfl rfl (fun w hw => hval w (hv.at hw)) ?_ | (refine HL.isLoad ?_; first | refine HL.L 0 rfl rfl rfl rfl ?_ | refine HL.L 1 rfl rfl rfl rfl ?_ | refine HL.L 2 rfl rfl rfl rfl ?_ | refine HL.L 3 rfl rfl rfl rfl ?_ | refine HL.L 4 rfl rfl rfl rfl ?_ | refine HL.L 5 rfl rfl rfl rfl ?_) | (refine HL.isStore ?_; first | refine HL.S 0 rfl rfl rfl rfl rfl ?_ | refine HL.S 1 rfl rfl rfl rfl rfl ?_ | refine HL.S 2 rfl rfl rfl rfl rfl ?_ | refine HL.S 3 rfl rfl rfl rfl rfl ?_ | refine HL.S 4 rfl rfl rfl rfl rfl ?_ | refine HL.S 5 rfl rfl rfl rfl rfl ?_) | refine HL.build rfl rfl ?_ | refine HL.field rfl rfl ?_ | (refine HL.box rfl rfl ?_; intro bk) | (refine HL.alloc rfl rfl ?_; intro bk) | refine HL.skip rfl rfl ?_ | refine HL.skip0 rfl ?_) | refine HL.nil ?_ | refine HR.ctl rfl ?_ | refine HR.region ?_ | refine HR.condT rfl ?_ | refine HR.condF rfl ?_)
  refine HR.ret Try.func26 rfl [_] (fun w hw => ⟨⟨_, rfl, loadVarR hw 0 rfl rfl rfl rfl rfl⟩, trivial⟩) ?_
  exact fun w' hw => ⟨rfl, hw.belowB⟩
end Go.Proofs.Ytiepojpebndgoaa
