/- A part of the proof: contracts of the program's functions. Conditions: none. -/
import Derived.Test.YtmjhhmilgebbbaaNm12
import Derived.Test.YtmjhhmilgebbbaaNmLaw
import Derived.Test.YtmjhhmilgebbbaaGxDraw
namespace Go.Proofs.Ytmjhhmilgebbbaa
open Go.GX Go.RowKit
attribute [local irreducible] Calls Run RunL RunQ RunD
set_option linter.unusedVariables false
set_option maxRecDepth 100000


theorem same_self (a : List (List UInt8)) (u v : Value) (w : World) (ha : IsSl w u (scells a) a.length) (hb : IsSl w v (scells a) a.length) (hla : a.length ≤ 1000000000) :
    Calls Try.prog 17 #[u, v] w fun e w' => e = .returned (.bool true) ∧ Below w.heap.size w w' := by
  have h := same_any a a u v w ha hb hla
  rwa [show (a == a) = true from beq_self_eq_true _] at h

theorem namesFields_any (s : List UInt8) (w : World) :
    Calls Try.prog 4 #[str s] w fun e w' => e = .returned (.bool true) ∧ Below w.heap.size w w' := by
  refine calls_of_run Try.func4 rfl (Nat.le_of_ble_eq_true rfl) ?_
  refine Run.sub (σ' := [(0, str s)]) ⟨rfl, trivial⟩ ?_
  repeat' (first | refine RunL.ev rfl rfl ?_ | refine RunL.evc rfl rfl (by first | omega | (simp; done) | (simp; omega) | exact List.length_pos_iff.2 (by assumption)) ?_ | refine RunL.nil ?_ | refine Run.ctl rfl ?_ | refine Run.region ?_ | refine Run.condT rfl ?_ | refine Run.condF rfl ?_ | refine RunL.skip rfl rfl ?_ | refine RunL.skip0 rfl ?_ | exact RunL.blkEnd rfl rfl | apply RunL.andB rfl rfl rfl rfl rfl rfl rfl rfl | apply RunL.orB rfl rfl rfl rfl rfl rfl rfl rfl | (refine fun (hb : (_ : Bool) = _) => ?_; try simp at hb))
  refine Run.cond rfl (fun h => ?_) (fun h => ?_)
  · repeat' (first | refine RunL.ev rfl rfl ?_ | refine RunL.evc rfl rfl (by first | omega | (simp; done) | (simp; omega) | exact List.length_pos_iff.2 (by assumption)) ?_ | refine RunL.nil ?_ | refine Run.ctl rfl ?_ | refine Run.region ?_ | refine Run.condT rfl ?_ | refine Run.condF rfl ?_ | refine RunL.skip rfl rfl ?_ | refine RunL.skip0 rfl ?_ | exact RunL.blkEnd rfl rfl | apply RunL.andB rfl rfl rfl rfl rfl rfl rfl rfl | apply RunL.orB rfl rfl rfl rfl rfl rfl rfl rfl | (refine fun (hb : (_ : Bool) = _) => ?_; try simp at hb))
    refine RunL.callB fn12 rfl rfl (lives_any _) ?_
    intro w1 hb1
    repeat' (first | refine RunL.ev rfl rfl ?_ | refine RunL.evc rfl rfl (by first | omega | (simp; done) | (simp; omega) | exact List.length_pos_iff.2 (by assumption)) ?_ | refine RunL.nil ?_ | refine Run.ctl rfl ?_ | refine Run.region ?_ | refine Run.condT rfl ?_ | refine Run.condF rfl ?_ | refine RunL.skip rfl rfl ?_ | refine RunL.skip0 rfl ?_ | exact RunL.blkEnd rfl rfl | apply RunL.andB rfl rfl rfl rfl rfl rfl rfl rfl | apply RunL.orB rfl rfl rfl rfl rfl rfl rfl rfl | (refine fun (hb : (_ : Bool) = _) => ?_; try simp at hb))
    refine Run.ret Try.func4 rfl [_] ⟨rfl, trivial⟩ ?_
    exact ⟨rfl, hb1⟩
  have hs : s.length ≤ 1000000000 := by have := of_decide_eq_false h; omega
  have hl := Nm.fieldsR_len s
  repeat' (first | refine RunL.ev rfl rfl ?_ | refine RunL.evc rfl rfl (by first | omega | (simp; done) | (simp; omega) | exact List.length_pos_iff.2 (by assumption)) ?_ | refine RunL.nil ?_ | refine Run.ctl rfl ?_ | refine Run.region ?_ | refine Run.condT rfl ?_ | refine Run.condF rfl ?_ | refine RunL.skip rfl rfl ?_ | refine RunL.skip0 rfl ?_ | exact RunL.blkEnd rfl rfl | apply RunL.andB rfl rfl rfl rfl rfl rfl rfl rfl | apply RunL.orB rfl rfl rfl rfl rfl rfl rfl rfl | (refine fun (hb : (_ : Bool) = _) => ?_; try simp at hb))
  refine RunL.call fn15 rfl rfl ((fields_any s _ hs).mono ?_)
  rintro e w1 ⟨u, rfl, h1, hb1⟩
  refine ⟨_, rfl, ?_⟩
  repeat' (first | refine RunL.ev rfl rfl ?_ | refine RunL.evc rfl rfl (by first | omega | (simp; done) | (simp; omega) | exact List.length_pos_iff.2 (by assumption)) ?_ | refine RunL.nil ?_ | refine Run.ctl rfl ?_ | refine Run.region ?_ | refine Run.condT rfl ?_ | refine Run.condF rfl ?_ | refine RunL.skip rfl rfl ?_ | refine RunL.skip0 rfl ?_ | exact RunL.blkEnd rfl rfl | apply RunL.andB rfl rfl rfl rfl rfl rfl rfl rfl | apply RunL.orB rfl rfl rfl rfl rfl rfl rfl rfl | (refine fun (hb : (_ : Bool) = _) => ?_; try simp at hb))
  refine RunL.call fn16 rfl rfl ((rfields_any s _ hs).mono ?_)
  rintro e w2 ⟨v, rfl, h2, hb2⟩
  refine ⟨_, rfl, ?_⟩
  repeat' (first | refine RunL.ev rfl rfl ?_ | refine RunL.evc rfl rfl (by first | omega | (simp; done) | (simp; omega) | exact List.length_pos_iff.2 (by assumption)) ?_ | refine RunL.nil ?_ | refine Run.ctl rfl ?_ | refine Run.region ?_ | refine Run.condT rfl ?_ | refine Run.condF rfl ?_ | refine RunL.skip rfl rfl ?_ | refine RunL.skip0 rfl ?_)
  refine RunL.setB 24 true rfl (beq_self_eq_true _) ?_
  repeat' (first | refine RunL.ev rfl rfl ?_ | refine RunL.evc rfl rfl (by first | omega | (simp; done) | (simp; omega) | exact List.length_pos_iff.2 (by assumption)) ?_ | refine RunL.nil ?_ | refine Run.ctl rfl ?_ | refine Run.region ?_ | refine Run.condT rfl ?_ | refine Run.condF rfl ?_ | refine RunL.skip rfl rfl ?_ | refine RunL.skip0 rfl ?_)
  refine RunL.callB fn17 rfl rfl (same_self _ u v _ (h1.ext hb2) h2 (by omega)) ?_
  intro w3 hb3
  repeat' (first | refine RunL.ev rfl rfl ?_ | refine RunL.evc rfl rfl (by first | omega | (simp; done) | (simp; omega) | exact List.length_pos_iff.2 (by assumption)) ?_ | refine RunL.nil ?_ | refine Run.ctl rfl ?_ | refine Run.region ?_ | refine Run.condT rfl ?_ | refine Run.condF rfl ?_ | refine RunL.skip rfl rfl ?_ | refine RunL.skip0 rfl ?_)
  refine RunL.callB fn12 rfl rfl (lives_any _) ?_
  intro w4 hb4
  repeat' (first | refine RunL.ev rfl rfl ?_ | refine RunL.evc rfl rfl (by first | omega | (simp; done) | (simp; omega) | exact List.length_pos_iff.2 (by assumption)) ?_ | refine RunL.nil ?_ | refine Run.ctl rfl ?_ | refine Run.region ?_ | refine Run.condT rfl ?_ | refine Run.condF rfl ?_ | refine RunL.skip rfl rfl ?_ | refine RunL.skip0 rfl ?_)
  refine Run.ret Try.func4 rfl [_] ⟨rfl, trivial⟩ ?_
  exact ⟨rfl, Below.seq (Below.seq (Below.seq hb1 hb2) hb3) hb4⟩

theorem namesQuotes_any (s : List UInt8) (w : World) :
    Calls Try.prog 5 #[str s] w fun e w' => e = .returned (.bool true) ∧ Below w.heap.size w w' := by
  refine calls_of_run Try.func5 rfl (Nat.le_of_ble_eq_true rfl) ?_
  refine Run.sub (σ' := [(0, str s)]) ⟨rfl, trivial⟩ ?_
  have hc : decide ((s.length : Int) > 2000) = true ∨ decide ((s.length : Int) > 2000) = false := by cases decide ((s.length : Int) > 2000) <;> simp
  rcases hc with h | h
  · repeat' (first | refine RunL.ev rfl rfl ?_ | refine RunL.evc rfl rfl (by first | omega | (simp; done) | (simp; omega) | exact List.length_pos_iff.2 (by assumption)) ?_ | refine RunL.nil ?_ | refine Run.ctl rfl ?_ | refine Run.region ?_ | refine Run.condT rfl ?_ | refine Run.condF rfl ?_ | refine RunL.skip rfl rfl ?_ | refine RunL.skip0 rfl ?_)
    refine RunL.setB 6 true rfl h ?_
    repeat' (first | refine RunL.ev rfl rfl ?_ | refine RunL.evc rfl rfl (by first | omega | (simp; done) | (simp; omega) | exact List.length_pos_iff.2 (by assumption)) ?_ | refine RunL.nil ?_ | refine Run.ctl rfl ?_ | refine Run.region ?_ | refine Run.condT rfl ?_ | refine Run.condF rfl ?_ | refine RunL.skip rfl rfl ?_ | refine RunL.skip0 rfl ?_)
    refine Run.ret Try.func5 rfl [_] ⟨rfl, trivial⟩ ?_
    exact ⟨rfl, Below.refl _ _⟩
  · have hs : s.length ≤ 1000000000 := by have := of_decide_eq_false h; omega
    repeat' (first | refine RunL.ev rfl rfl ?_ | refine RunL.evc rfl rfl (by first | omega | (simp; done) | (simp; omega) | exact List.length_pos_iff.2 (by assumption)) ?_ | refine RunL.nil ?_ | refine Run.ctl rfl ?_ | refine Run.region ?_ | refine Run.condT rfl ?_ | refine Run.condF rfl ?_ | refine RunL.skip rfl rfl ?_ | refine RunL.skip0 rfl ?_)
    refine RunL.setB 6 false rfl h ?_
    repeat' (first | refine RunL.ev rfl rfl ?_ | refine RunL.evc rfl rfl (by first | omega | (simp; done) | (simp; omega) | exact List.length_pos_iff.2 (by assumption)) ?_ | refine RunL.nil ?_ | refine Run.ctl rfl ?_ | refine Run.region ?_ | refine Run.condT rfl ?_ | refine Run.condF rfl ?_ | refine RunL.skip rfl rfl ?_ | refine RunL.skip0 rfl ?_)
    refine RunL.callB fn18 rfl rfl (quote_any s _ hs) ?_
    intro w1 hb1
    repeat' (first | refine RunL.ev rfl rfl ?_ | refine RunL.evc rfl rfl (by first | omega | (simp; done) | (simp; omega) | exact List.length_pos_iff.2 (by assumption)) ?_ | refine RunL.nil ?_ | refine Run.ctl rfl ?_ | refine Run.region ?_ | refine Run.condT rfl ?_ | refine Run.condF rfl ?_ | refine RunL.skip rfl rfl ?_ | refine RunL.skip0 rfl ?_)
    refine RunL.callB fn19 rfl rfl (rquote_any s _ (by omega)) ?_
    intro w2 hb2
    repeat' (first | refine RunL.ev rfl rfl ?_ | refine RunL.evc rfl rfl (by first | omega | (simp; done) | (simp; omega) | exact List.length_pos_iff.2 (by assumption)) ?_ | refine RunL.nil ?_ | refine Run.ctl rfl ?_ | refine Run.region ?_ | refine Run.condT rfl ?_ | refine Run.condF rfl ?_ | refine RunL.skip rfl rfl ?_ | refine RunL.skip0 rfl ?_)
    refine RunL.setB 12 true rfl (beq_self_eq_true _) ?_
    repeat' (first | refine RunL.ev rfl rfl ?_ | refine RunL.evc rfl rfl (by first | omega | (simp; done) | (simp; omega) | exact List.length_pos_iff.2 (by assumption)) ?_ | refine RunL.nil ?_ | refine Run.ctl rfl ?_ | refine Run.region ?_ | refine Run.condT rfl ?_ | refine Run.condF rfl ?_ | refine RunL.skip rfl rfl ?_ | refine RunL.skip0 rfl ?_)
    refine RunL.callB fn12 rfl rfl (lives_any _) ?_
    intro w3 hb3
    repeat' (first | refine RunL.ev rfl rfl ?_ | refine RunL.evc rfl rfl (by first | omega | (simp; done) | (simp; omega) | exact List.length_pos_iff.2 (by assumption)) ?_ | refine RunL.nil ?_ | refine Run.ctl rfl ?_ | refine Run.region ?_ | refine Run.condT rfl ?_ | refine Run.condF rfl ?_ | refine RunL.skip rfl rfl ?_ | refine RunL.skip0 rfl ?_)
    refine Run.ret Try.func5 rfl [_] ⟨rfl, trivial⟩ ?_
    exact ⟨rfl, Below.seq (Below.seq hb1 hb2) hb3⟩
end Go.Proofs.Ytmjhhmilgebbbaa
