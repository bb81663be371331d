/- A part of the proof: contracts of the program's functions. Conditions: none. -/
import Derived.Test.YtmjhhmilgebbbaaNm14
import Derived.Test.YtmjhhmilgebbbaaGxDraw
namespace Go.Proofs.Ytmjhhmilgebbbaa
open Go.GX Go.RowKit
attribute [local irreducible] Calls Run RunL RunQ RunD
set_option linter.unusedVariables false
set_option maxRecDepth 100000


theorem namesJoined_any (l : List (List UInt8)) (v : Value) (w : World) (hv : IsSl w v (scells l) l.length) :
    Calls Try.prog 8 #[v] w fun e w' => e = .returned (.bool true) ∧ Below w.heap.size w w' := by
  refine calls_of_run Try.func8 rfl (Nat.le_of_ble_eq_true rfl) ?_
  refine Run.sub (σ' := [(0, v)]) ⟨rfl, trivial⟩ ?_
  repeat' (first | refine RunL.ev rfl rfl ?_ | refine RunL.evc rfl rfl (by first | omega | (simp; done) | (simp; omega) | exact List.length_pos_iff.2 (by assumption)) ?_ | refine RunL.lenI hv rfl rfl rfl ?_ | refine RunL.nil ?_ | refine Run.ctl rfl ?_ | refine Run.region ?_ | refine Run.condT rfl ?_ | refine Run.condF rfl ?_ | refine RunL.skip rfl rfl ?_ | refine RunL.skip0 rfl ?_ | exact RunL.blkEnd rfl rfl | apply RunL.andB rfl rfl rfl rfl rfl rfl rfl rfl | apply RunL.orB rfl rfl rfl rfl rfl rfl rfl rfl | (refine fun (hb : (_ : Bool) = _) => ?_; try simp at hb))
  refine Run.cond rfl (fun h => ?_) (fun h => ?_)
  · repeat' (first | refine RunL.ev rfl rfl ?_ | refine RunL.evc rfl rfl (by first | omega | (simp; done) | (simp; omega) | exact List.length_pos_iff.2 (by assumption)) ?_ | refine RunL.nil ?_ | refine Run.ctl rfl ?_ | refine Run.region ?_ | refine Run.condT rfl ?_ | refine Run.condF rfl ?_ | refine RunL.skip rfl rfl ?_ | refine RunL.skip0 rfl ?_ | exact RunL.blkEnd rfl rfl | apply RunL.andB rfl rfl rfl rfl rfl rfl rfl rfl | apply RunL.orB rfl rfl rfl rfl rfl rfl rfl rfl | (refine fun (hb : (_ : Bool) = _) => ?_; try simp at hb))
    refine RunL.callB fn12 rfl rfl (lives_any _) ?_
    intro w1 hb1
    repeat' (first | refine RunL.ev rfl rfl ?_ | refine RunL.evc rfl rfl (by first | omega | (simp; done) | (simp; omega) | exact List.length_pos_iff.2 (by assumption)) ?_ | refine RunL.nil ?_ | refine Run.ctl rfl ?_ | refine Run.region ?_ | refine Run.condT rfl ?_ | refine Run.condF rfl ?_ | refine RunL.skip rfl rfl ?_ | refine RunL.skip0 rfl ?_ | exact RunL.blkEnd rfl rfl | apply RunL.andB rfl rfl rfl rfl rfl rfl rfl rfl | apply RunL.orB rfl rfl rfl rfl rfl rfl rfl rfl | (refine fun (hb : (_ : Bool) = _) => ?_; try simp at hb))
    refine Run.ret Try.func8 rfl [_] ⟨rfl, trivial⟩ ?_
    exact ⟨rfl, hb1⟩
  have hl40 : l.length ≤ 40 := by have := of_decide_eq_false h; omega
  repeat' (first | refine RunL.ev rfl rfl ?_ | refine RunL.evc rfl rfl (by first | omega | (simp; done) | (simp; omega) | exact List.length_pos_iff.2 (by assumption)) ?_ | refine RunL.nil ?_ | refine Run.ctl rfl ?_ | refine Run.region ?_ | refine Run.condT rfl ?_ | refine Run.condF rfl ?_ | refine RunL.skip rfl rfl ?_ | refine RunL.skip0 rfl ?_ | exact RunL.blkEnd rfl rfl | apply RunL.andB rfl rfl rfl rfl rfl rfl rfl rfl | apply RunL.orB rfl rfl rfl rfl rfl rfl rfl rfl | (refine fun (hb : (_ : Bool) = _) => ?_; try simp at hb))
  refine Run.loop (ι := Nat) (fun k w' => Below w.heap.size w w' ∧ k ≤ l.length ∧ ∀ s ∈ l.take k, s.length ≤ 100) (fun k => [(0, v), (3, str (Nm.joinQ (l.take k))), (4, .int .i64 (k : Int))]) (fun k => l.length - k) 0 ⟨Below.refl _ _, Nat.zero_le _, by simp⟩ ⟨rfl, rfl, rfl, trivial⟩ ?_
  rintro k w2 ⟨hb2, hk, hs⟩ ih
  have hjl := Nm.joinQ_len (l.take k) hs
  have htk : (l.take k).length = k := by simp; omega
  repeat' (first | refine RunL.ev rfl rfl ?_ | refine RunL.evc rfl rfl (by first | omega | (simp; done) | (simp; omega) | exact List.length_pos_iff.2 (by assumption)) ?_ | refine RunL.lenI hv rfl rfl rfl ?_ | refine RunL.nil ?_ | refine Run.ctl rfl ?_ | refine Run.region ?_ | refine Run.condT rfl ?_ | refine Run.condF rfl ?_ | refine RunL.skip rfl rfl ?_ | refine RunL.skip0 rfl ?_ | exact RunL.blkEnd rfl rfl | apply RunL.andB rfl rfl rfl rfl rfl rfl rfl rfl | apply RunL.orB rfl rfl rfl rfl rfl rfl rfl rfl | (refine fun (hb : (_ : Bool) = _) => ?_; try simp at hb))
  refine Run.cond rfl (fun h2 => ?_) (fun h2 => ?_)
  · have hlt : k < l.length := by have := of_decide_eq_true h2; omega
    repeat' (first | refine RunL.ev rfl rfl ?_ | refine RunL.evc rfl rfl (by first | omega | (simp; done) | (simp; omega) | exact List.length_pos_iff.2 (by assumption)) ?_ | refine RunL.idxI hv elem27 k rfl rfl rfl rfl hlt ?_ | refine RunL.loadI (hv.ext hb2) rfl rfl rfl rfl (scells_get hlt) ?_ | refine RunL.nil ?_ | refine Run.ctl rfl ?_ | refine Run.region ?_ | refine Run.condT rfl ?_ | refine Run.condF rfl ?_ | refine RunL.skip rfl rfl ?_ | refine RunL.skip0 rfl ?_ | exact RunL.blkEnd rfl rfl | apply RunL.andB rfl rfl rfl rfl rfl rfl rfl rfl | apply RunL.orB rfl rfl rfl rfl rfl rfl rfl rfl | (refine fun (hb : (_ : Bool) = _) => ?_; try simp at hb))
    refine Run.cond rfl (fun h3 => ?_) (fun h3 => ?_)
    · repeat' (first | refine RunL.ev rfl rfl ?_ | refine RunL.evc rfl rfl (by first | omega | (simp; done) | (simp; omega) | exact List.length_pos_iff.2 (by assumption)) ?_ | refine RunL.nil ?_ | refine Run.ctl rfl ?_ | refine Run.region ?_ | refine Run.condT rfl ?_ | refine Run.condF rfl ?_ | refine RunL.skip rfl rfl ?_ | refine RunL.skip0 rfl ?_ | exact RunL.blkEnd rfl rfl | apply RunL.andB rfl rfl rfl rfl rfl rfl rfl rfl | apply RunL.orB rfl rfl rfl rfl rfl rfl rfl rfl | (refine fun (hb : (_ : Bool) = _) => ?_; try simp at hb))
      refine RunL.callB fn12 rfl rfl (lives_any _) ?_
      intro w1 hb1
      repeat' (first | refine RunL.ev rfl rfl ?_ | refine RunL.evc rfl rfl (by first | omega | (simp; done) | (simp; omega) | exact List.length_pos_iff.2 (by assumption)) ?_ | refine RunL.nil ?_ | refine Run.ctl rfl ?_ | refine Run.region ?_ | refine Run.condT rfl ?_ | refine Run.condF rfl ?_ | refine RunL.skip rfl rfl ?_ | refine RunL.skip0 rfl ?_ | exact RunL.blkEnd rfl rfl | apply RunL.andB rfl rfl rfl rfl rfl rfl rfl rfl | apply RunL.orB rfl rfl rfl rfl rfl rfl rfl rfl | (refine fun (hb : (_ : Bool) = _) => ?_; try simp at hb))
      refine Run.ret Try.func8 rfl [_] ⟨rfl, trivial⟩ ?_
      exact ⟨rfl, Below.seq hb2 hb1⟩
    have h100 : (l.getD k []).length ≤ 100 := by have := of_decide_eq_false h3; omega
    repeat' (first | refine RunL.ev rfl rfl ?_ | refine RunL.evc rfl rfl (by first | omega | (simp; done) | (simp; omega) | exact List.length_pos_iff.2 (by assumption)) ?_ | refine RunL.nil ?_ | refine Run.ctl rfl ?_ | refine Run.region ?_ | refine Run.condT rfl ?_ | refine Run.condF rfl ?_ | refine RunL.skip rfl rfl ?_ | refine RunL.skip0 rfl ?_ | exact RunL.blkEnd rfl rfl | apply RunL.andB rfl rfl rfl rfl rfl rfl rfl rfl | apply RunL.orB rfl rfl rfl rfl rfl rfl rfl rfl | (refine fun (hb : (_ : Bool) = _) => ?_; try simp at hb))
    refine Run.condJ (ι := List UInt8) (fun x w' => w' = w2 ∧ x = (if (l.take k).length = 0 then Nm.joinQ (l.take k) else Nm.joinQ (l.take k) ++ [32])) (fun x => [(0, v), (3, str x), (4, .int .i64 (k : Int))]) rfl ?_ ?_ ?_
    · rintro x w' ⟨e, hx⟩
      subst w'
      have hxl : x.length ≤ 20000 := by
        rw [hx]
        split
        · omega
        · simp only [List.length_append, List.length_cons, List.length_nil]; omega
      have hql := Nm.quote_len (l.getD k [])
      repeat' (first | refine RunL.ev rfl rfl ?_ | refine RunL.evc rfl rfl (by first | omega | (simp; done) | (simp; omega) | exact List.length_pos_iff.2 (by assumption)) ?_ | refine RunL.idxI hv elem27 k rfl rfl rfl rfl hlt ?_ | refine RunL.loadI (hv.ext hb2) rfl rfl rfl rfl (scells_get hlt) ?_ | refine RunL.nil ?_ | refine Run.ctl rfl ?_ | refine Run.region ?_ | refine Run.condT rfl ?_ | refine Run.condF rfl ?_ | refine RunL.skip rfl rfl ?_ | refine RunL.skip0 rfl ?_ | exact RunL.blkEnd rfl rfl | apply RunL.andB rfl rfl rfl rfl rfl rfl rfl rfl | apply RunL.orB rfl rfl rfl rfl rfl rfl rfl rfl | (refine fun (hb : (_ : Bool) = _) => ?_; try simp at hb))
      refine RunL.callB fn18 rfl rfl (quote_any (l.getD k []) _ (by omega)) ?_
      intro w3 hb3
      have hx2 : x ++ Nm.quote (l.getD k []) = Nm.joinQ (l.take (k + 1)) := by rw [Nm.take_snoc l k [] hlt, Nm.joinQ_snoc, hx]
      repeat' (first | refine RunL.ev rfl rfl ?_ | refine RunL.evc rfl rfl (by first | omega | (simp; done) | (simp; omega) | exact List.length_pos_iff.2 (by assumption)) ?_ | refine RunL.nil ?_ | refine Run.ctl rfl ?_ | refine Run.region ?_ | refine Run.condT rfl ?_ | refine Run.condF rfl ?_ | refine RunL.skip rfl rfl ?_ | refine RunL.skip0 rfl ?_ | exact RunL.blkEnd rfl rfl | apply RunL.andB rfl rfl rfl rfl rfl rfl rfl rfl | apply RunL.orB rfl rfl rfl rfl rfl rfl rfl rfl | (refine fun (hb : (_ : Bool) = _) => ?_; try simp at hb))
      refine ih (k + 1) _ _ ⟨Below.seq hb2 hb3, hlt, fun s hm => ?_⟩ (by omega) ⟨rfl, by rw [← hx2]; rfl, rfl, trivial⟩
      rw [Nm.take_snoc l k [] hlt, List.mem_append] at hm
      rcases hm with hm | hm
      · exact hs s hm
      · rw [List.mem_singleton.1 hm]; exact h100
    · intro h4 J
      have : k ≠ 0 := by have := of_decide_eq_true h4; omega
      refine Run.region ?_
      repeat' (first | refine RunL.ev rfl rfl ?_ | refine RunL.evc rfl rfl (by first | omega | (simp; done) | (simp; omega) | exact List.length_pos_iff.2 (by assumption)) ?_ | refine RunL.nil ?_ | exact RunL.blkEnd rfl rfl | apply RunL.andB rfl rfl rfl rfl rfl rfl rfl rfl | apply RunL.orB rfl rfl rfl rfl rfl rfl rfl rfl | (refine fun (hb : (_ : Bool) = _) => ?_; try simp at hb) | refine RunL.skip rfl rfl ?_ | refine RunL.skip0 rfl ?_)
      exact J _ _ _ ⟨rfl, (if_neg (by omega)).symm⟩ ⟨rfl, rfl, rfl, trivial⟩
    · intro h4 J
      have : k = 0 := by have := of_decide_eq_false h4; omega
      refine Run.skip ?_
      exact J _ _ _ ⟨rfl, (if_pos (by omega)).symm⟩ ⟨rfl, rfl, rfl, trivial⟩
  · have hke : k = l.length := by have := of_decide_eq_false h2; omega
    subst hke
    rw [List.take_length] at *
    have hF := fun w' => fields_any (Nm.joinQ l) w' (by omega)
    rw [Nm.fieldsR_join, List.length_map] at hF
    repeat' (first | refine RunL.ev rfl rfl ?_ | refine RunL.evc rfl rfl (by first | omega | (simp; done) | (simp; omega) | exact List.length_pos_iff.2 (by assumption)) ?_ | refine RunL.nil ?_ | refine Run.ctl rfl ?_ | refine Run.region ?_ | refine Run.condT rfl ?_ | refine Run.condF rfl ?_ | refine RunL.skip rfl rfl ?_ | refine RunL.skip0 rfl ?_ | exact RunL.blkEnd rfl rfl | apply RunL.andB rfl rfl rfl rfl rfl rfl rfl rfl | apply RunL.orB rfl rfl rfl rfl rfl rfl rfl rfl | (refine fun (hb : (_ : Bool) = _) => ?_; try simp at hb))
    refine RunL.call fn15 rfl rfl ((hF _).mono ?_)
    rintro e w3 ⟨u, rfl, hu, hb3⟩
    refine ⟨_, rfl, ?_⟩
    have hv3 := (hv.ext hb2).ext hb3
    repeat' (first | refine RunL.ev rfl rfl ?_ | refine RunL.evc rfl rfl (by first | omega | (simp; done) | (simp; omega) | exact List.length_pos_iff.2 (by assumption)) ?_ | refine RunL.lenI hu rfl rfl rfl ?_ | refine RunL.lenI hv rfl rfl rfl ?_ | refine RunL.nil ?_ | refine Run.ctl rfl ?_ | refine Run.region ?_ | refine Run.condT rfl ?_ | refine Run.condF rfl ?_ | refine RunL.skip rfl rfl ?_ | refine RunL.skip0 rfl ?_)
    refine Run.cond rfl (fun h5 => ?_) (fun h5 => ?_)
    · simp at h5
    repeat' (first | refine RunL.ev rfl rfl ?_ | refine RunL.evc rfl rfl (by first | omega | (simp; done) | (simp; omega) | exact List.length_pos_iff.2 (by assumption)) ?_ | refine RunL.nil ?_ | refine Run.ctl rfl ?_ | refine Run.region ?_ | refine Run.condT rfl ?_ | refine Run.condF rfl ?_ | refine RunL.skip rfl rfl ?_ | refine RunL.skip0 rfl ?_)
    refine Run.loop (ι := Nat) (fun k w' => Below w.heap.size w w' ∧ IsSl w' v (scells l) l.length ∧ IsSl w' u (scells (l.map Nm.quote)) l.length ∧ k ≤ l.length) (fun k => [(0, v), (5, u), (7, .int .i64 (k : Int))]) (fun k => l.length - k) 0 ⟨Below.seq hb2 hb3, hv3, hu, Nat.zero_le _⟩ ⟨rfl, rfl, rfl, trivial⟩ ?_
    rintro k w4 ⟨hb4, hv4, hu4, hk4⟩ ih2
    repeat' (first | refine RunL.ev rfl rfl ?_ | refine RunL.evc rfl rfl (by first | omega | (simp; done) | (simp; omega) | exact List.length_pos_iff.2 (by assumption)) ?_ | refine RunL.lenI hv rfl rfl rfl ?_ | refine RunL.nil ?_ | refine Run.ctl rfl ?_ | refine Run.region ?_ | refine Run.condT rfl ?_ | refine Run.condF rfl ?_ | refine RunL.skip rfl rfl ?_ | refine RunL.skip0 rfl ?_ | exact RunL.blkEnd rfl rfl | apply RunL.andB rfl rfl rfl rfl rfl rfl rfl rfl | apply RunL.orB rfl rfl rfl rfl rfl rfl rfl rfl | (refine fun (hb : (_ : Bool) = _) => ?_; try simp at hb))
    refine Run.cond rfl (fun h5 => ?_) (fun h5 => ?_)
    · have hlt : k < l.length := by have := of_decide_eq_true h5; omega
      have h100 : (l.getD k []).length ≤ 100 := by
        refine hs _ ?_
        rw [List.getD_eq_getElem?_getD, List.getElem?_eq_getElem hlt]; exact List.getElem_mem hlt
      have hgu : (scells (l.map Nm.quote))[k * 1]? = some (str (Nm.quote (l.getD k []))) := by
        rw [scells_get (by simpa using hlt)]
        congr 2
        rw [List.getD_eq_getElem?_getD, List.getD_eq_getElem?_getD, List.getElem?_map, List.getElem?_eq_getElem hlt]; rfl
      refine Run.ctl rfl ?_
      refine Run.regionQ hmix (by kernel_rfl) ?_
      repeat' (first | refine RunQ.ev rfl rfl ?_ | refine RunQ.evc rfl rfl (by first | omega | (simp; done) | (simp; omega) | exact List.length_pos_iff.2 (by assumption)) ?_ | refine RunQ.idxI hu elem27 k rfl rfl rfl rfl hlt ?_ | refine RunQ.idxI hv elem27 k rfl rfl rfl rfl hlt ?_ | refine RunQ.loadI hu4 rfl rfl rfl rfl hgu ?_ | refine RunQ.loadI hv4 rfl rfl rfl rfl (scells_get hlt) ?_ | refine RunQ.callB fn19 rfl rfl (fun w' _ => rquote_any (l.getD k []) w' (by omega)) ?_ | exact RunQ.blkEnd rfl rfl | apply RunQ.andB rfl rfl rfl rfl rfl rfl rfl rfl | apply RunQ.orB rfl rfl rfl rfl rfl rfl rfl rfl | (refine fun (hb : (_ : Bool) = _) => ?_; try simp at hb) | refine RunQ.skip rfl rfl ?_)
      refine RunQ.nil ?_
      intro w5 hb5
      refine Run.cond rfl (fun h6 => ?_) (fun h6 => ?_)
      · simp at h6
      · repeat' (first | refine RunL.ev rfl rfl ?_ | refine RunL.evc rfl rfl (by first | omega | (simp; done) | (simp; omega) | exact List.length_pos_iff.2 (by assumption)) ?_ | refine RunL.nil ?_ | refine Run.ctl rfl ?_ | refine Run.region ?_ | refine Run.condT rfl ?_ | refine Run.condF rfl ?_ | refine RunL.skip rfl rfl ?_ | refine RunL.skip0 rfl ?_ | exact RunL.blkEnd rfl rfl | apply RunL.andB rfl rfl rfl rfl rfl rfl rfl rfl | apply RunL.orB rfl rfl rfl rfl rfl rfl rfl rfl | (refine fun (hb : (_ : Bool) = _) => ?_; try simp at hb))
        exact ih2 (k + 1) _ _ ⟨Below.seq hb4 hb5, hv4.ext hb5, hu4.ext hb5, hlt⟩ (by omega) ⟨rfl, rfl, rfl, trivial⟩
    · repeat' (first | refine RunL.ev rfl rfl ?_ | refine RunL.evc rfl rfl (by first | omega | (simp; done) | (simp; omega) | exact List.length_pos_iff.2 (by assumption)) ?_ | refine RunL.nil ?_ | refine Run.ctl rfl ?_ | refine Run.region ?_ | refine Run.condT rfl ?_ | refine Run.condF rfl ?_ | refine RunL.skip rfl rfl ?_ | refine RunL.skip0 rfl ?_ | exact RunL.blkEnd rfl rfl | apply RunL.andB rfl rfl rfl rfl rfl rfl rfl rfl | apply RunL.orB rfl rfl rfl rfl rfl rfl rfl rfl | (refine fun (hb : (_ : Bool) = _) => ?_; try simp at hb))
      refine RunL.callB fn12 rfl rfl (lives_any _) ?_
      intro w5 hb5
      repeat' (first | refine RunL.ev rfl rfl ?_ | refine RunL.evc rfl rfl (by first | omega | (simp; done) | (simp; omega) | exact List.length_pos_iff.2 (by assumption)) ?_ | refine RunL.nil ?_ | refine Run.ctl rfl ?_ | refine Run.region ?_ | refine Run.condT rfl ?_ | refine Run.condF rfl ?_ | refine RunL.skip rfl rfl ?_ | refine RunL.skip0 rfl ?_ | exact RunL.blkEnd rfl rfl | apply RunL.andB rfl rfl rfl rfl rfl rfl rfl rfl | apply RunL.orB rfl rfl rfl rfl rfl rfl rfl rfl | (refine fun (hb : (_ : Bool) = _) => ?_; try simp at hb))
      refine Run.ret Try.func8 rfl [_] ⟨rfl, trivial⟩ ?_
      exact ⟨rfl, Below.seq hb4 hb5⟩
end Go.Proofs.Ytmjhhmilgebbbaa
