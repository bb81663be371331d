/- A part of the proof: contracts of the program's functions. Conditions: none. -/
import Derived.Test.YtmjhhmilgebbbaaNm18
import Derived.Test.YtmjhhmilgebbbaaNmSort3
import Derived.Test.YtmjhhmilgebbbaaGxDraw
namespace Go.Proofs.Ytmjhhmilgebbbaa
open Go.GX Go.RowKit
attribute [local irreducible] Calls Run RunL RunQ RunD
set_option linter.unusedVariables false
set_option maxRecDepth 100000


theorem rsorted_any (l : List (List UInt8)) (v0 : Value) (w : World) (hv : IsSl w v0 (scells l) l.length) (hl : l.length ≤ 1000000000) :
    Calls Try.prog 27 #[v0] w fun e w' => ∃ u, e = .returned u ∧ IsSl w' u (scells (Nm.sorted l)) (Nm.sorted l).length ∧ Below w.heap.size w w' := by
  refine calls_of_run Try.func27 rfl (Nat.le_of_ble_eq_true rfl) ?_
  refine Run.sub (σ' := [(0, v0)]) ⟨rfl, trivial⟩ ?_
  repeat' (first | refine RunL.ev rfl rfl ?_ | refine RunL.evc rfl rfl (by first | omega | (simp; done) | (simp; omega) | exact List.length_pos_iff.2 (by assumption)) ?_ | refine RunL.nil ?_ | refine Run.ctl rfl ?_ | refine Run.region ?_ | refine Run.condT rfl ?_ | refine Run.condF rfl ?_ | refine RunL.skip rfl rfl ?_ | refine RunL.skip0 rfl ?_ | exact RunL.blkEnd rfl rfl | apply RunL.andB rfl rfl rfl rfl rfl rfl rfl rfl | apply RunL.orB rfl rfl rfl rfl rfl rfl rfl rfl | (refine fun (hb : (_ : Bool) = _) => ?_; try simp at hb))
  refine Run.loop3 (fun (i : Nat) (v : Value) (acc : List (List UInt8)) w' => OwnS w w' 9 1 v acc.length (scells acc) ∧ i ≤ l.length ∧ acc.length ≤ i ∧ acc.Pairwise (· < ·) ∧ ∀ y, y ∈ acc ↔ y ∈ l.take i) (fun i v _ => [(0, v0), (3, v), (4, .int .i64 (i : Int))]) (fun i _ _ => l.length - i) 0 (.slice none 0 0) [] ⟨OwnS.nil w _ _ (Below.refl _ _), by simp, by simp, by simp, by simp⟩ ⟨rfl, rfl, rfl, trivial⟩ ?_
  rintro i v acc w2 ⟨ho, hi, hal, hasc, hmem⟩ ih
  repeat' (first | refine RunL.ev rfl rfl ?_ | refine RunL.evc rfl rfl (by first | omega | (simp; done) | (simp; omega) | exact List.length_pos_iff.2 (by assumption)) ?_ | refine RunL.lenI hv rfl rfl rfl ?_ | refine RunL.nil ?_ | refine Run.ctl rfl ?_ | refine Run.region ?_ | refine Run.condT rfl ?_ | refine Run.condF rfl ?_ | refine RunL.skip rfl rfl ?_ | refine RunL.skip0 rfl ?_ | exact RunL.blkEnd rfl rfl | apply RunL.andB rfl rfl rfl rfl rfl rfl rfl rfl | apply RunL.orB rfl rfl rfl rfl rfl rfl rfl rfl | (refine fun (hb : (_ : Bool) = _) => ?_; try simp at hb))
  refine Run.cond rfl (fun h1 => ?_) (fun h1 => ?_)
  · have hlt : i < l.length := by have := of_decide_eq_true h1; omega
    have hv2 := hv.ext ho.below
    repeat' (first | refine RunL.ev rfl rfl ?_ | refine RunL.evc rfl rfl (by first | omega | (simp; done) | (simp; omega) | exact List.length_pos_iff.2 (by assumption)) ?_ | refine RunL.idxI hv elem27 i rfl rfl rfl rfl hlt ?_ | refine RunL.loadI hv2 rfl rfl rfl rfl (scells_get hlt) ?_ | refine RunL.callP fn25 rfl rfl (rindex_any l (l.getD i []) v0 _ hv2 hl) ?_ | refine RunL.nil ?_ | refine Run.ctl rfl ?_ | refine Run.region ?_ | refine Run.condT rfl ?_ | refine Run.condF rfl ?_ | refine RunL.skip rfl rfl ?_ | refine RunL.skip0 rfl ?_ | exact RunL.blkEnd rfl rfl | apply RunL.andB rfl rfl rfl rfl rfl rfl rfl rfl | apply RunL.orB rfl rfl rfl rfl rfl rfl rfl rfl | (refine fun (hb : (_ : Bool) = _) => ?_; try simp at hb))
    have htk : l.take (i + 1) = l.take i ++ [l.getD i []] := Nm.take_snoc l i [] hlt
    refine Run.cond rfl (fun h2 => ?_) (fun h2 => ?_)
    · have hold := Nm.idx_old hlt h2
      repeat' (first | refine RunL.ev rfl rfl ?_ | refine RunL.evc rfl rfl (by first | omega | (simp; done) | (simp; omega) | exact List.length_pos_iff.2 (by assumption)) ?_ | refine RunL.nil ?_ | refine Run.ctl rfl ?_ | refine Run.region ?_ | refine Run.condT rfl ?_ | refine Run.condF rfl ?_ | refine RunL.skip rfl rfl ?_ | refine RunL.skip0 rfl ?_ | exact RunL.blkEnd rfl rfl | apply RunL.andB rfl rfl rfl rfl rfl rfl rfl rfl | apply RunL.orB rfl rfl rfl rfl rfl rfl rfl rfl | (refine fun (hb : (_ : Bool) = _) => ?_; try simp at hb))
      exact ih (i + 1) v acc _ _ ⟨ho, hlt, by omega, hasc, fun y => by
        rw [hmem, htk, List.mem_append, List.mem_singleton]
        exact ⟨.inl, fun h => h.elim id fun h => h ▸ hold⟩⟩ (by omega) ⟨rfl, rfl, rfl, trivial⟩
    have hnew := Nm.idx_new hlt h2
    have hxa : l.getD i [] ∉ acc := fun h => hnew ((hmem _).1 h)
    repeat' (first | refine RunL.ev rfl rfl ?_ | refine RunL.evc rfl rfl (by first | omega | (simp; done) | (simp; omega) | exact List.length_pos_iff.2 (by assumption)) ?_ | refine RunL.idxI hv elem27 i rfl rfl rfl rfl hlt ?_ | refine RunL.loadI hv2 rfl rfl rfl rfl (scells_get hlt) ?_ | refine RunL.nil ?_ | refine Run.ctl rfl ?_ | refine Run.region ?_ | refine Run.condT rfl ?_ | refine Run.condF rfl ?_ | refine RunL.skip rfl rfl ?_ | refine RunL.skip0 rfl ?_ | exact RunL.blkEnd rfl rfl | apply RunL.andB rfl rfl rfl rfl rfl rfl rfl rfl | apply RunL.orB rfl rfl rfl rfl rfl rfl rfl rfl | (refine fun (hb : (_ : Bool) = _) => ?_; try simp at hb))
    refine RunL.appB elem27 ho rfl rfl rfl rfl rfl rfl rfl rfl (by decide) (by simp [Value.oneCell']) (by decide) (by omega) (by omega) ?_
    intro v' w3 ho' _
    generalize l.getD i [] = x at *
    have ho2 := ho'.cast (n' := acc.length + 1) (xs' := scells (Nm.ins acc x acc.length)) rfl (by rw [Nm.ins_end, scells_append]; rfl)
    repeat' (first | refine RunL.ev rfl rfl ?_ | refine RunL.evc rfl rfl (by first | omega | (simp; done) | (simp; omega) | exact List.length_pos_iff.2 (by assumption)) ?_ | refine RunL.lenI ho2.isSl rfl rfl rfl ?_ | refine RunL.nil ?_ | refine Run.ctl rfl ?_ | refine Run.region ?_ | refine Run.condT rfl ?_ | refine Run.condF rfl ?_ | refine RunL.skip rfl rfl ?_ | refine RunL.skip0 rfl ?_ | exact RunL.blkEnd rfl rfl | apply RunL.andB rfl rfl rfl rfl rfl rfl rfl rfl | apply RunL.orB rfl rfl rfl rfl rfl rfl rfl rfl | (refine fun (hb : (_ : Bool) = _) => ?_; try simp at hb))
    refine Run.loop (ι := Nat) (fun k w' => OwnS w w' 9 1 v' (acc.length + 1) (scells (Nm.ins acc x k)) ∧ k ≤ acc.length ∧ ∀ y ∈ acc.drop k, x < y) (fun k => [(0, v0), (3, v'), (4, .int .i64 (i : Int)), (5, .int .i64 (k : Int))]) (fun k => k) acc.length ⟨ho2, Nat.le_refl _, by simp⟩ ⟨rfl, rfl, rfl, congrArg (fun z => some (Value.int .i64 z)) (show ((acc.length + 1 : Nat) : Int) - 1 = (acc.length : Int) by omega), trivial⟩ ?_
    rintro k w4 ⟨ho4, hk, hd⟩ ih2
    have hil := Nm.ins_len (x := x) hk
    refine Run.ctl rfl ?_
    refine Run.regionQ hmix (by kernel_rfl) ?_
    have hgx : (scells (Nm.ins acc x k))[k * 1]? = some (str x) := by rw [scells_get (by omega), Nm.ins_get hk]
    have hgy : 0 < k → (scells (Nm.ins acc x k))[(k - 1) * 1]? = some (str (acc.getD (k - 1) [])) := fun h0 => by rw [scells_get (by omega), Nm.ins_get1 h0 hk]
    repeat' (first | refine RunQ.ev rfl rfl ?_ | refine RunQ.evc rfl rfl (by first | omega | (simp; done) | (simp; omega) | exact List.length_pos_iff.2 (by assumption)) ?_ | refine RunQ.idxI ho4.isSl elem27 k rfl rfl rfl rfl (by omega) ?_ | refine RunQ.idxI ho4.isSl elem27 (k - 1) rfl rfl rfl (by omega) (by omega) ?_ | refine RunQ.loadI ho4.isSl rfl rfl rfl rfl hgx ?_ | refine RunQ.loadI ho4.isSl rfl rfl rfl rfl (hgy (by omega)) ?_ | exact RunQ.blkEnd rfl rfl | apply RunQ.andB rfl rfl rfl rfl rfl rfl rfl rfl | apply RunQ.orB rfl rfl rfl rfl rfl rfl rfl rfl | (refine fun (hb : (_ : Bool) = _) => ?_; try simp at hb) | refine RunQ.skip rfl rfl ?_)
    refine RunQ.nil ?_
    intro w5 hb5
    have ho5 := ho4.ext hb5
    refine Run.cond rfl (fun h3 => ?_) (fun h3 => ?_)
    · obtain ⟨h3a, h3b⟩ := Bool.and_eq_true_iff.1 h3
      have h0 : 0 < k := by have := of_decide_eq_true h3a; omega
      repeat' (first | refine RunL.ev rfl rfl ?_ | refine RunL.evc rfl rfl (by first | omega | (simp; done) | (simp; omega) | exact List.length_pos_iff.2 (by assumption)) ?_ | refine RunL.idxI ho4.isSl elem27 k rfl rfl rfl rfl (by omega) ?_ | refine RunL.idxI ho4.isSl elem27 (k - 1) rfl rfl rfl (by omega) (by omega) ?_ | refine RunL.loadI ho5.isSl rfl rfl rfl rfl hgx ?_ | refine RunL.loadI ho5.isSl rfl rfl rfl rfl (hgy h0) ?_ | refine RunL.nil ?_ | refine Run.ctl rfl ?_ | refine Run.region ?_ | refine Run.condT rfl ?_ | refine Run.condF rfl ?_ | refine RunL.skip rfl rfl ?_ | refine RunL.skip0 rfl ?_ | exact RunL.blkEnd rfl rfl | apply RunL.andB rfl rfl rfl rfl rfl rfl rfl rfl | apply RunL.orB rfl rfl rfl rfl rfl rfl rfl rfl | (refine fun (hb : (_ : Bool) = _) => ?_; try simp at hb))
      have hlx : x < acc.getD (k - 1) [] := by rw [bytesLess_eq] at h3b; exact of_decide_eq_true h3b
      refine RunL.storeO ho5 rfl rfl rfl rfl rfl rfl (by omega) ?_
      intro w6 ho6 _ _
      repeat' (first | refine RunL.ev rfl rfl ?_ | refine RunL.evc rfl rfl (by first | omega | (simp; done) | (simp; omega) | exact List.length_pos_iff.2 (by assumption)) ?_ | refine RunL.idxI ho4.isSl elem27 (k - 1) rfl rfl rfl (by omega) (by omega) ?_ | refine RunL.nil ?_ | refine Run.ctl rfl ?_ | refine Run.region ?_ | refine Run.condT rfl ?_ | refine Run.condF rfl ?_ | refine RunL.skip rfl rfl ?_ | refine RunL.skip0 rfl ?_ | exact RunL.blkEnd rfl rfl | apply RunL.andB rfl rfl rfl rfl rfl rfl rfl rfl | apply RunL.orB rfl rfl rfl rfl rfl rfl rfl rfl | (refine fun (hb : (_ : Bool) = _) => ?_; try simp at hb))
      refine RunL.storeO ho6 rfl rfl rfl rfl rfl rfl (by omega) ?_
      intro w7 ho7 _ _
      have ho8 := ho7.cast (n' := acc.length + 1) (xs' := scells (Nm.ins acc x (k - 1))) rfl (Nm.ins_swap str h0 hk)
      repeat' (first | refine RunL.ev rfl rfl ?_ | refine RunL.evc rfl rfl (by first | omega | (simp; done) | (simp; omega) | exact List.length_pos_iff.2 (by assumption)) ?_ | refine RunL.nil ?_ | refine Run.ctl rfl ?_ | refine Run.region ?_ | refine Run.condT rfl ?_ | refine Run.condF rfl ?_ | refine RunL.skip rfl rfl ?_ | refine RunL.skip0 rfl ?_ | exact RunL.blkEnd rfl rfl | apply RunL.andB rfl rfl rfl rfl rfl rfl rfl rfl | apply RunL.orB rfl rfl rfl rfl rfl rfl rfl rfl | (refine fun (hb : (_ : Bool) = _) => ?_; try simp at hb))
      exact ih2 (k - 1) _ _ ⟨ho8, by omega, Nm.drop_pred h0 hk hd hlx⟩ (by omega) ⟨rfl, rfl, rfl, congrArg (fun z => some (Value.int .i64 z)) (show (k : Int) - 1 = ((k - 1 : Nat) : Int) by omega), trivial⟩
    · have hst : k = 0 ∨ ¬ x < acc.getD (k - 1) [] := by
        rcases Bool.and_eq_false_iff.1 h3 with h | h
        · left; have := of_decide_eq_false h; omega
        · right; rw [bytesLess_eq] at h; exact of_decide_eq_false h
      repeat' (first | refine RunL.ev rfl rfl ?_ | refine RunL.evc rfl rfl (by first | omega | (simp; done) | (simp; omega) | exact List.length_pos_iff.2 (by assumption)) ?_ | refine RunL.nil ?_ | refine Run.ctl rfl ?_ | refine Run.region ?_ | refine Run.condT rfl ?_ | refine Run.condF rfl ?_ | refine RunL.skip rfl rfl ?_ | refine RunL.skip0 rfl ?_ | exact RunL.blkEnd rfl rfl | apply RunL.andB rfl rfl rfl rfl rfl rfl rfl rfl | apply RunL.orB rfl rfl rfl rfl rfl rfl rfl rfl | (refine fun (hb : (_ : Bool) = _) => ?_; try simp at hb))
      refine ih (i + 1) v' (Nm.ins acc x k) _ _ ⟨ho5.cast hil.symm rfl, hlt, by omega, Nm.ins_asc hasc hxa hk hd hst, fun y => ?_⟩ (by omega) ⟨rfl, rfl, rfl, trivial⟩
      rw [Nm.ins_mem, htk, List.mem_append, List.mem_singleton, hmem]
      exact Or.comm
  · have hie : i = l.length := by have := of_decide_eq_false h1; omega
    have hs : acc = Nm.sorted l := Nm.sorted_unique hasc fun y => by rw [hmem, hie, List.take_length]
    repeat' (first | refine RunL.ev rfl rfl ?_ | refine RunL.evc rfl rfl (by first | omega | (simp; done) | (simp; omega) | exact List.length_pos_iff.2 (by assumption)) ?_ | refine RunL.nil ?_ | refine Run.ctl rfl ?_ | refine Run.region ?_ | refine Run.condT rfl ?_ | refine Run.condF rfl ?_ | refine RunL.skip rfl rfl ?_ | refine RunL.skip0 rfl ?_ | exact RunL.blkEnd rfl rfl | apply RunL.andB rfl rfl rfl rfl rfl rfl rfl rfl | apply RunL.orB rfl rfl rfl rfl rfl rfl rfl rfl | (refine fun (hb : (_ : Bool) = _) => ?_; try simp at hb))
    refine Run.ret Try.func27 rfl [_] ⟨rfl, trivial⟩ ?_
    rw [← hs]
    exact ⟨_, rfl, ho.isSl, ho.below⟩
end Go.Proofs.Ytmjhhmilgebbbaa
