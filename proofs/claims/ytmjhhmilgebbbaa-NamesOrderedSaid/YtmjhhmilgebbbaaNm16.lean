/- A part of the proof: contracts of the program's functions. Conditions: none. -/
import Derived.Test.YtmjhhmilgebbbaaNm15
import Derived.Test.YtmjhhmilgebbbaaNmIdx
import Derived.Test.YtmjhhmilgebbbaaGxDraw
namespace Go.Proofs.Ytmjhhmilgebbbaa
open Go.GX Go.RowKit
attribute [local irreducible] Calls Run RunL RunQ RunD
set_option linter.unusedVariables false
set_option maxRecDepth 100000

theorem fn26 : IsFn Try.prog 26 := ⟨⟨_, _, Try.func26, rfl, by decide⟩⟩
theorem fn25 : IsFn Try.prog 25 := ⟨⟨_, _, Try.func25, rfl, by decide⟩⟩
theorem fn22 : IsFn Try.prog 22 := ⟨⟨_, _, Try.func22, rfl, by decide⟩⟩
theorem fn23 : IsFn Try.prog 23 := ⟨⟨_, _, Try.func23, rfl, by decide⟩⟩
theorem fn40 : IsFn Try.prog 40 := ⟨⟨_, _, Try.func40, rfl, by decide⟩⟩

theorem slIndex_any (l : List (List UInt8)) (s : List UInt8) (v : Value) (w : World) (hv : IsSl w v (scells l) l.length) (hl : l.length ≤ 1000000000) :
    Calls Try.prog 40 #[v, str s] w fun e w' => e = .returned (.int .i64 (Nm.idx l s)) ∧ w' = w := by
  rcases hv with ⟨h, h0, _⟩ | ⟨b, off, cap, rfl, hc⟩
  · have : l = [] := List.eq_nil_of_length_eq_zero h0
    subst this
    rcases h with rfl | ⟨a, c, rfl⟩
    · exact Try.slices_Index_string_empty none 0 ⟨s.toArray⟩ w
    · exact Try.slices_Index_string_empty (some a) c ⟨s.toArray⟩ w
  · have h1 := Try.slices_Index_string b off l.length cap (l.map Nm.bs) ⟨s.toArray⟩ w (by simp) (by omega) (fun j hj => by
      rw [List.length_map] at hj
      rw [List.getD_eq_getElem?_getD, List.getElem?_map, List.getElem?_eq_getElem hj]
      exact hc j _ (by rw [scells, List.getElem?_map, List.getElem?_eq_getElem hj]; rfl))
    rwa [List.take_of_length_le (by simp)] at h1

theorem index_any (l : List (List UInt8)) (s : List UInt8) (v : Value) (w : World) (hv : IsSl w v (scells l) l.length) (hl : l.length ≤ 1000000000) :
    Calls Try.prog 26 #[v, str s] w fun e w' => e = .returned (.int .i64 (Nm.idx l s)) ∧ w' = w := by
  refine calls_of_run Try.func26 rfl (Nat.le_of_ble_eq_true rfl) ?_
  refine Run.sub (σ' := [(0, v), (1, str s)]) ⟨rfl, rfl, trivial⟩ ?_
  repeat' (first | refine RunL.ev rfl rfl ?_ | refine RunL.evc rfl rfl (by first | omega | (simp; done) | (simp; omega) | exact List.length_pos_iff.2 (by assumption)) ?_ | refine RunL.callP fn40 rfl rfl (slIndex_any l s v _ hv hl) ?_ | refine RunL.nil ?_ | refine Run.ctl rfl ?_ | refine Run.region ?_ | refine Run.condT rfl ?_ | refine Run.condF rfl ?_ | refine RunL.skip rfl rfl ?_ | refine RunL.skip0 rfl ?_)
  refine Run.ret Try.func26 rfl [_] ⟨rfl, trivial⟩ ?_
  exact ⟨rfl, rfl⟩

theorem rindex_any (l : List (List UInt8)) (s : List UInt8) (v : Value) (w : World) (hv : IsSl w v (scells l) l.length) (hl : l.length ≤ 1000000000) :
    Calls Try.prog 25 #[v, str s] w fun e w' => e = .returned (.int .i64 (Nm.idx l s)) ∧ w' = w := by
  refine calls_of_run Try.func25 rfl (Nat.le_of_ble_eq_true rfl) ?_
  refine Run.sub (σ' := [(0, v), (1, str s)]) ⟨rfl, rfl, trivial⟩ ?_
  repeat' (first | refine RunL.ev rfl rfl ?_ | refine RunL.evc rfl rfl (by first | omega | (simp; done) | (simp; omega) | exact List.length_pos_iff.2 (by assumption)) ?_ | refine RunL.nil ?_ | refine Run.ctl rfl ?_ | refine Run.region ?_ | refine Run.condT rfl ?_ | refine Run.condF rfl ?_ | refine RunL.skip rfl rfl ?_ | refine RunL.skip0 rfl ?_ | exact RunL.blkEnd rfl rfl | apply RunL.andB rfl rfl rfl rfl rfl rfl rfl rfl | apply RunL.orB rfl rfl rfl rfl rfl rfl rfl rfl | (refine fun (hb : (_ : Bool) = _) => ?_; try simp at hb))
  refine Run.loop (ι := Nat) (fun k w' => w' = w ∧ k ≤ l.length ∧ ∀ j, j < k → l.getD j [] ≠ s) (fun k => [(0, v), (1, str s), (5, .int .i64 (k : Int))]) (fun k => l.length - k) 0 ⟨rfl, Nat.zero_le _, fun _ h => by omega⟩ ⟨rfl, rfl, rfl, trivial⟩ ?_
  rintro k w2 ⟨e, hk, hg⟩ ih
  subst w2
  repeat' (first | refine RunL.ev rfl rfl ?_ | refine RunL.evc rfl rfl (by first | omega | (simp; done) | (simp; omega) | exact List.length_pos_iff.2 (by assumption)) ?_ | refine RunL.lenI hv rfl rfl rfl ?_ | refine RunL.nil ?_ | refine Run.ctl rfl ?_ | refine Run.region ?_ | refine Run.condT rfl ?_ | refine Run.condF rfl ?_ | refine RunL.skip rfl rfl ?_ | refine RunL.skip0 rfl ?_ | exact RunL.blkEnd rfl rfl | apply RunL.andB rfl rfl rfl rfl rfl rfl rfl rfl | apply RunL.orB rfl rfl rfl rfl rfl rfl rfl rfl | (refine fun (hb : (_ : Bool) = _) => ?_; try simp at hb))
  refine Run.cond rfl (fun h2 => ?_) (fun h2 => ?_)
  · have hlt : k < l.length := by have := of_decide_eq_true h2; omega
    repeat' (first | refine RunL.ev rfl rfl ?_ | refine RunL.evc rfl rfl (by first | omega | (simp; done) | (simp; omega) | exact List.length_pos_iff.2 (by assumption)) ?_ | refine RunL.idxI hv elem27 k rfl rfl rfl rfl hlt ?_ | refine RunL.loadI hv rfl rfl rfl rfl (scells_get hlt) ?_ | refine RunL.nil ?_ | refine Run.ctl rfl ?_ | refine Run.region ?_ | refine Run.condT rfl ?_ | refine Run.condF rfl ?_ | refine RunL.skip rfl rfl ?_ | refine RunL.skip0 rfl ?_ | exact RunL.blkEnd rfl rfl | apply RunL.andB rfl rfl rfl rfl rfl rfl rfl rfl | apply RunL.orB rfl rfl rfl rfl rfl rfl rfl rfl | (refine fun (hb : (_ : Bool) = _) => ?_; try simp at hb))
    refine Run.cond rfl (fun h3 => ?_) (fun h3 => ?_)
    · repeat' (first | refine RunL.ev rfl rfl ?_ | refine RunL.evc rfl rfl (by first | omega | (simp; done) | (simp; omega) | exact List.length_pos_iff.2 (by assumption)) ?_ | refine RunL.nil ?_ | refine Run.ctl rfl ?_ | refine Run.region ?_ | refine Run.condT rfl ?_ | refine Run.condF rfl ?_ | refine RunL.skip rfl rfl ?_ | refine RunL.skip0 rfl ?_ | exact RunL.blkEnd rfl rfl | apply RunL.andB rfl rfl rfl rfl rfl rfl rfl rfl | apply RunL.orB rfl rfl rfl rfl rfl rfl rfl rfl | (refine fun (hb : (_ : Bool) = _) => ?_; try simp at hb))
      refine Run.ret Try.func25 rfl [_] ⟨rfl, trivial⟩ ?_
      refine ⟨?_, rfl⟩
      rw [Nm.idx_at hlt (by simpa only [beq_iff_eq] using h3) hg]; rfl
    · repeat' (first | refine RunL.ev rfl rfl ?_ | refine RunL.evc rfl rfl (by first | omega | (simp; done) | (simp; omega) | exact List.length_pos_iff.2 (by assumption)) ?_ | refine RunL.nil ?_ | refine Run.ctl rfl ?_ | refine Run.region ?_ | refine Run.condT rfl ?_ | refine Run.condF rfl ?_ | refine RunL.skip rfl rfl ?_ | refine RunL.skip0 rfl ?_ | exact RunL.blkEnd rfl rfl | apply RunL.andB rfl rfl rfl rfl rfl rfl rfl rfl | apply RunL.orB rfl rfl rfl rfl rfl rfl rfl rfl | (refine fun (hb : (_ : Bool) = _) => ?_; try simp at hb))
      exact ih (k + 1) _ _ ⟨rfl, hlt, fun j hj => if e : j = k then e ▸ (by simpa only [beq_eq_false_iff_ne, ne_eq] using h3) else hg j (by omega)⟩ (by omega) ⟨rfl, rfl, rfl, trivial⟩
  · have hke : k = l.length := by have := of_decide_eq_false h2; omega
    subst hke
    repeat' (first | refine RunL.ev rfl rfl ?_ | refine RunL.evc rfl rfl (by first | omega | (simp; done) | (simp; omega) | exact List.length_pos_iff.2 (by assumption)) ?_ | refine RunL.nil ?_ | refine Run.ctl rfl ?_ | refine Run.region ?_ | refine Run.condT rfl ?_ | refine Run.condF rfl ?_ | refine RunL.skip rfl rfl ?_ | refine RunL.skip0 rfl ?_ | exact RunL.blkEnd rfl rfl | apply RunL.andB rfl rfl rfl rfl rfl rfl rfl rfl | apply RunL.orB rfl rfl rfl rfl rfl rfl rfl rfl | (refine fun (hb : (_ : Bool) = _) => ?_; try simp at hb))
    refine Run.ret Try.func25 rfl [_] ⟨rfl, trivial⟩ ?_
    refine ⟨?_, rfl⟩
    rw [Nm.idx_none hg]; rfl

theorem distinct_any (l : List (List UInt8)) (v : Value) (w : World) (hv : IsSl w v (scells l) l.length) (hl : l.length ≤ 1000000000) (hs : ∀ s ∈ l, s.length ≤ 9223372036854775807) :
    Calls Try.prog 22 #[v] w fun e w' => e = .returned (.bool (Nm.distinct l)) ∧ Below w.heap.size w w' := by
  refine calls_of_run Try.func22 rfl (Nat.le_of_ble_eq_true rfl) ?_
  refine Run.sub (σ' := [(0, v)]) ⟨rfl, trivial⟩ ?_
  repeat' (first | refine RunL.ev rfl rfl ?_ | refine RunL.evc rfl rfl (by first | omega | (simp; done) | (simp; omega) | exact List.length_pos_iff.2 (by assumption)) ?_ | refine RunL.lenI hv rfl rfl rfl ?_ | refine RunL.nil ?_ | refine Run.ctl rfl ?_ | refine Run.region ?_ | refine Run.condT rfl ?_ | refine Run.condF rfl ?_ | refine RunL.skip rfl rfl ?_ | refine RunL.skip0 rfl ?_ | exact RunL.blkEnd rfl rfl | apply RunL.andB rfl rfl rfl rfl rfl rfl rfl rfl | apply RunL.orB rfl rfl rfl rfl rfl rfl rfl rfl | (refine fun (hb : (_ : Bool) = _) => ?_; try simp at hb))
  refine Run.loop (ι := Nat) (fun k w' => Below w.heap.size w w' ∧ k ≤ l.length ∧ ∀ j, j < k → Nm.okAt l j = true) (fun k => [(0, v), (5, v), (6, .int .i64 (l.length : Int)), (7, .int .i64 (k : Int))]) (fun k => l.length - k) 0 ⟨Below.refl _ _, Nat.zero_le _, fun _ h => by omega⟩ ⟨rfl, rfl, rfl, rfl, trivial⟩ ?_
  rintro k w2 ⟨hb2, hk, hg⟩ ih
  repeat' (first | refine RunL.ev rfl rfl ?_ | refine RunL.evc rfl rfl (by first | omega | (simp; done) | (simp; omega) | exact List.length_pos_iff.2 (by assumption)) ?_ | refine RunL.nil ?_ | refine Run.ctl rfl ?_ | refine Run.region ?_ | refine Run.condT rfl ?_ | refine Run.condF rfl ?_ | refine RunL.skip rfl rfl ?_ | refine RunL.skip0 rfl ?_ | exact RunL.blkEnd rfl rfl | apply RunL.andB rfl rfl rfl rfl rfl rfl rfl rfl | apply RunL.orB rfl rfl rfl rfl rfl rfl rfl rfl | (refine fun (hb : (_ : Bool) = _) => ?_; try simp at hb))
  refine Run.cond rfl (fun h2 => ?_) (fun h2 => ?_)
  · have hlt : k < l.length := by have := of_decide_eq_true h2; omega
    repeat' (first | refine RunL.ev rfl rfl ?_ | refine RunL.evc rfl rfl (by first | omega | (simp; done) | (simp; omega) | exact List.length_pos_iff.2 (by assumption)) ?_ | refine RunL.idxI hv elem27 k rfl rfl rfl rfl hlt ?_ | refine RunL.loadI (hv.ext hb2) rfl rfl rfl rfl (scells_get hlt) ?_ | refine RunL.nil ?_ | refine Run.ctl rfl ?_ | refine Run.region ?_ | refine Run.condT rfl ?_ | refine Run.condF rfl ?_ | refine RunL.skip rfl rfl ?_ | refine RunL.skip0 rfl ?_ | exact RunL.blkEnd rfl rfl | apply RunL.andB rfl rfl rfl rfl rfl rfl rfl rfl | apply RunL.orB rfl rfl rfl rfl rfl rfl rfl rfl | (refine fun (hb : (_ : Bool) = _) => ?_; try simp at hb))
    refine RunL.callB fn20 rfl rfl (valid_any (l.getD k []) _ (hs _ (Nm.getD_mem hlt))) ?_
    intro w3 hb3
    repeat' (first | refine RunL.ev rfl rfl ?_ | refine RunL.evc rfl rfl (by first | omega | (simp; done) | (simp; omega) | exact List.length_pos_iff.2 (by assumption)) ?_ | refine RunL.callP fn26 rfl rfl (index_any l (l.getD k []) v _ ((hv.ext hb2).ext hb3) hl) ?_ | refine RunL.nil ?_ | refine Run.ctl rfl ?_ | refine Run.region ?_ | refine Run.condT rfl ?_ | refine Run.condF rfl ?_ | refine RunL.skip rfl rfl ?_ | refine RunL.skip0 rfl ?_ | exact RunL.blkEnd rfl rfl | apply RunL.andB rfl rfl rfl rfl rfl rfl rfl rfl | apply RunL.orB rfl rfl rfl rfl rfl rfl rfl rfl | (refine fun (hb : (_ : Bool) = _) => ?_; try simp at hb))
    refine Run.cond rfl (fun h3 => ?_) (fun h3 => ?_)
    · repeat' (first | refine RunL.ev rfl rfl ?_ | refine RunL.evc rfl rfl (by first | omega | (simp; done) | (simp; omega) | exact List.length_pos_iff.2 (by assumption)) ?_ | refine RunL.nil ?_ | refine Run.ctl rfl ?_ | refine Run.region ?_ | refine Run.condT rfl ?_ | refine Run.condF rfl ?_ | refine RunL.skip rfl rfl ?_ | refine RunL.skip0 rfl ?_ | exact RunL.blkEnd rfl rfl | apply RunL.andB rfl rfl rfl rfl rfl rfl rfl rfl | apply RunL.orB rfl rfl rfl rfl rfl rfl rfl rfl | (refine fun (hb : (_ : Bool) = _) => ?_; try simp at hb))
      refine Run.ret Try.func22 rfl [_] ⟨rfl, trivial⟩ ?_
      refine ⟨?_, Below.seq hb2 hb3⟩
      rw [Nm.distinct_false hlt h3]; rfl
    · repeat' (first | refine RunL.ev rfl rfl ?_ | refine RunL.evc rfl rfl (by first | omega | (simp; done) | (simp; omega) | exact List.length_pos_iff.2 (by assumption)) ?_ | refine RunL.nil ?_ | refine Run.ctl rfl ?_ | refine Run.region ?_ | refine Run.condT rfl ?_ | refine Run.condF rfl ?_ | refine RunL.skip rfl rfl ?_ | refine RunL.skip0 rfl ?_ | exact RunL.blkEnd rfl rfl | apply RunL.andB rfl rfl rfl rfl rfl rfl rfl rfl | apply RunL.orB rfl rfl rfl rfl rfl rfl rfl rfl | (refine fun (hb : (_ : Bool) = _) => ?_; try simp at hb))
      exact ih (k + 1) _ _ ⟨Below.seq hb2 hb3, hlt, fun j hj => if e : j = k then e ▸ Nm.okAt_of h3 else hg j (by omega)⟩ (by omega) ⟨rfl, rfl, rfl, rfl, trivial⟩
  · have hke : k = l.length := by have := of_decide_eq_false h2; omega
    subst hke
    repeat' (first | refine RunL.ev rfl rfl ?_ | refine RunL.evc rfl rfl (by first | omega | (simp; done) | (simp; omega) | exact List.length_pos_iff.2 (by assumption)) ?_ | refine RunL.nil ?_ | refine Run.ctl rfl ?_ | refine Run.region ?_ | refine Run.condT rfl ?_ | refine Run.condF rfl ?_ | refine RunL.skip rfl rfl ?_ | refine RunL.skip0 rfl ?_ | exact RunL.blkEnd rfl rfl | apply RunL.andB rfl rfl rfl rfl rfl rfl rfl rfl | apply RunL.orB rfl rfl rfl rfl rfl rfl rfl rfl | (refine fun (hb : (_ : Bool) = _) => ?_; try simp at hb))
    refine Run.ret Try.func22 rfl [_] ⟨rfl, trivial⟩ ?_
    refine ⟨?_, hb2⟩
    rw [Nm.distinct_true hg]; rfl

theorem rdistinct_any (l : List (List UInt8)) (v : Value) (w : World) (hv : IsSl w v (scells l) l.length) (hl : l.length ≤ 1000000000) (hs : ∀ s ∈ l, s.length ≤ 9223372036854775807) :
    Calls Try.prog 23 #[v] w fun e w' => e = .returned (.bool (Nm.distinct l)) ∧ Below w.heap.size w w' := by
  refine calls_of_run Try.func23 rfl (Nat.le_of_ble_eq_true rfl) ?_
  refine Run.sub (σ' := [(0, v)]) ⟨rfl, trivial⟩ ?_
  repeat' (first | refine RunL.ev rfl rfl ?_ | refine RunL.evc rfl rfl (by first | omega | (simp; done) | (simp; omega) | exact List.length_pos_iff.2 (by assumption)) ?_ | refine RunL.nil ?_ | refine Run.ctl rfl ?_ | refine Run.region ?_ | refine Run.condT rfl ?_ | refine Run.condF rfl ?_ | refine RunL.skip rfl rfl ?_ | refine RunL.skip0 rfl ?_ | exact RunL.blkEnd rfl rfl | apply RunL.andB rfl rfl rfl rfl rfl rfl rfl rfl | apply RunL.orB rfl rfl rfl rfl rfl rfl rfl rfl | (refine fun (hb : (_ : Bool) = _) => ?_; try simp at hb))
  refine Run.loop (ι := Nat) (fun k w' => w' = w ∧ k ≤ l.length ∧ ∀ j, j < k → Nm.okAt l j = true) (fun k => [(0, v), (3, .int .i64 (k : Int))]) (fun k => l.length - k) 0 ⟨rfl, Nat.zero_le _, fun _ h => by omega⟩ ⟨rfl, rfl, trivial⟩ ?_
  rintro k w2 ⟨e, hk, hg⟩ ih
  subst w2
  repeat' (first | refine RunL.ev rfl rfl ?_ | refine RunL.evc rfl rfl (by first | omega | (simp; done) | (simp; omega) | exact List.length_pos_iff.2 (by assumption)) ?_ | refine RunL.lenI hv rfl rfl rfl ?_ | refine RunL.nil ?_ | refine Run.ctl rfl ?_ | refine Run.region ?_ | refine Run.condT rfl ?_ | refine Run.condF rfl ?_ | refine RunL.skip rfl rfl ?_ | refine RunL.skip0 rfl ?_ | exact RunL.blkEnd rfl rfl | apply RunL.andB rfl rfl rfl rfl rfl rfl rfl rfl | apply RunL.orB rfl rfl rfl rfl rfl rfl rfl rfl | (refine fun (hb : (_ : Bool) = _) => ?_; try simp at hb))
  refine Run.cond rfl (fun h2 => ?_) (fun h2 => ?_)
  · have hlt : k < l.length := by have := of_decide_eq_true h2; omega
    repeat' (first | refine RunL.ev rfl rfl ?_ | refine RunL.evc rfl rfl (by first | omega | (simp; done) | (simp; omega) | exact List.length_pos_iff.2 (by assumption)) ?_ | refine RunL.idxI hv elem27 k rfl rfl rfl rfl hlt ?_ | refine RunL.loadI hv rfl rfl rfl rfl (scells_get hlt) ?_ | refine RunL.callP fn21 rfl rfl (rvalid_any (l.getD k []) _ (hs _ (Nm.getD_mem hlt))) ?_ | refine RunL.callP fn25 rfl rfl (rindex_any l (l.getD k []) v _ hv hl) ?_ | refine RunL.nil ?_ | refine Run.ctl rfl ?_ | refine Run.region ?_ | refine Run.condT rfl ?_ | refine Run.condF rfl ?_ | refine RunL.skip rfl rfl ?_ | refine RunL.skip0 rfl ?_ | exact RunL.blkEnd rfl rfl | apply RunL.andB rfl rfl rfl rfl rfl rfl rfl rfl | apply RunL.orB rfl rfl rfl rfl rfl rfl rfl rfl | (refine fun (hb : (_ : Bool) = _) => ?_; try simp at hb))
    refine Run.cond rfl (fun h3 => ?_) (fun h3 => ?_)
    · repeat' (first | refine RunL.ev rfl rfl ?_ | refine RunL.evc rfl rfl (by first | omega | (simp; done) | (simp; omega) | exact List.length_pos_iff.2 (by assumption)) ?_ | refine RunL.nil ?_ | refine Run.ctl rfl ?_ | refine Run.region ?_ | refine Run.condT rfl ?_ | refine Run.condF rfl ?_ | refine RunL.skip rfl rfl ?_ | refine RunL.skip0 rfl ?_ | exact RunL.blkEnd rfl rfl | apply RunL.andB rfl rfl rfl rfl rfl rfl rfl rfl | apply RunL.orB rfl rfl rfl rfl rfl rfl rfl rfl | (refine fun (hb : (_ : Bool) = _) => ?_; try simp at hb))
      refine Run.ret Try.func23 rfl [_] ⟨rfl, trivial⟩ ?_
      refine ⟨?_, Below.refl _ _⟩
      rw [Nm.distinct_false hlt h3]; rfl
    · repeat' (first | refine RunL.ev rfl rfl ?_ | refine RunL.evc rfl rfl (by first | omega | (simp; done) | (simp; omega) | exact List.length_pos_iff.2 (by assumption)) ?_ | refine RunL.nil ?_ | refine Run.ctl rfl ?_ | refine Run.region ?_ | refine Run.condT rfl ?_ | refine Run.condF rfl ?_ | refine RunL.skip rfl rfl ?_ | refine RunL.skip0 rfl ?_ | exact RunL.blkEnd rfl rfl | apply RunL.andB rfl rfl rfl rfl rfl rfl rfl rfl | apply RunL.orB rfl rfl rfl rfl rfl rfl rfl rfl | (refine fun (hb : (_ : Bool) = _) => ?_; try simp at hb))
      exact ih (k + 1) _ _ ⟨rfl, hlt, fun j hj => if e : j = k then e ▸ Nm.okAt_of h3 else hg j (by omega)⟩ (by omega) ⟨rfl, rfl, trivial⟩
  · have hke : k = l.length := by have := of_decide_eq_false h2; omega
    subst hke
    repeat' (first | refine RunL.ev rfl rfl ?_ | refine RunL.evc rfl rfl (by first | omega | (simp; done) | (simp; omega) | exact List.length_pos_iff.2 (by assumption)) ?_ | refine RunL.nil ?_ | refine Run.ctl rfl ?_ | refine Run.region ?_ | refine Run.condT rfl ?_ | refine Run.condF rfl ?_ | refine RunL.skip rfl rfl ?_ | refine RunL.skip0 rfl ?_ | exact RunL.blkEnd rfl rfl | apply RunL.andB rfl rfl rfl rfl rfl rfl rfl rfl | apply RunL.orB rfl rfl rfl rfl rfl rfl rfl rfl | (refine fun (hb : (_ : Bool) = _) => ?_; try simp at hb))
    refine Run.ret Try.func23 rfl [_] ⟨rfl, trivial⟩ ?_
    refine ⟨?_, Below.refl _ _⟩
    rw [Nm.distinct_true hg]; rfl
end Go.Proofs.Ytmjhhmilgebbbaa
