/- A part of the proof: contracts of the program's functions. Conditions: none. -/
import Derived.Test.YtmjhhmilgebbbaaNm8
import Derived.Test.YtmjhhmilgebbbaaGxDraw
namespace Go.Proofs.Ytmjhhmilgebbbaa
open Go.GX Go.RowKit
attribute [local irreducible] Calls Run RunL RunQ RunD
set_option linter.unusedVariables false
set_option maxRecDepth 100000


theorem elem27 : Elem Try.prog 27 9 1 16 := ⟨rfl, ⟨_, _, rfl, rfl, rfl, rfl, rfl⟩, by decide⟩
def scells (l : List (List UInt8)) : List Value := l.map str
theorem scells_append (a b : List (List UInt8)) : scells (a ++ b) = scells a ++ scells b := List.map_append ..

theorem fields_any (s : List UInt8) (w : World) (hs : s.length ≤ 1000000000) :
    Calls Try.prog 15 #[str s] w fun e w' => ∃ v, e = .returned (.tuple #[v, .int .i64 ((Nm.fieldsR s).2 : Int)]) ∧ IsSl w' v (scells (Nm.fieldsR s).1) (Nm.fieldsR s).1.length ∧ Below w.heap.size w w' := by
  refine calls_of_run Try.func15 rfl (Nat.le_of_ble_eq_true rfl) ?_
  refine Run.sub (σ' := [(0, str s)]) ⟨rfl, trivial⟩ ?_
  repeat' (first | refine RunL.ev rfl rfl ?_ | refine RunL.evc rfl rfl (by first | omega | (simp; done) | (simp; omega) | exact List.length_pos_iff.2 (by assumption)) ?_ | refine RunL.nil ?_ | refine Run.ctl rfl ?_ | refine Run.region ?_ | refine Run.condT rfl ?_ | refine Run.condF rfl ?_ | refine RunL.skip rfl rfl ?_ | refine RunL.skip0 rfl ?_ | exact RunL.blkEnd rfl rfl | apply RunL.andB rfl rfl rfl rfl rfl rfl rfl rfl | apply RunL.orB rfl rfl rfl rfl rfl rfl rfl rfl | (refine fun (hb : (_ : Bool) = _) => ?_; try simp at hb))
  refine Run.cond rfl (fun h => ?_) (fun h => ?_)
  · have : s = [] := by simpa using h
    subst this
    repeat' (first | refine RunL.ev rfl rfl ?_ | refine RunL.evc rfl rfl (by first | omega | (simp; done) | (simp; omega) | exact List.length_pos_iff.2 (by assumption)) ?_ | refine RunL.nil ?_ | refine Run.ctl rfl ?_ | refine Run.region ?_ | refine Run.condT rfl ?_ | refine Run.condF rfl ?_ | refine RunL.skip rfl rfl ?_ | refine RunL.skip0 rfl ?_ | exact RunL.blkEnd rfl rfl | apply RunL.andB rfl rfl rfl rfl rfl rfl rfl rfl | apply RunL.orB rfl rfl rfl rfl rfl rfl rfl rfl | (refine fun (hb : (_ : Bool) = _) => ?_; try simp at hb))
    refine Run.ret Try.func15 rfl [_, _] ⟨rfl, rfl, trivial⟩ ?_
    exact ⟨_, rfl, IsSl.nil _, Below.refl _ _⟩
  have hne : s ≠ [] := by intro e; subst e; simp at h
  have hF := Nm.fields_eq hne
  repeat' (first | refine RunL.ev rfl rfl ?_ | refine RunL.evc rfl rfl (by first | omega | (simp; done) | (simp; omega) | exact List.length_pos_iff.2 (by assumption)) ?_ | refine RunL.nil ?_ | refine Run.ctl rfl ?_ | refine Run.region ?_ | refine Run.condT rfl ?_ | refine Run.condF rfl ?_ | refine RunL.skip rfl rfl ?_ | refine RunL.skip0 rfl ?_ | exact RunL.blkEnd rfl rfl | apply RunL.andB rfl rfl rfl rfl rfl rfl rfl rfl | apply RunL.orB rfl rfl rfl rfl rfl rfl rfl rfl | (refine fun (hb : (_ : Bool) = _) => ?_; try simp at hb))
  refine Run.loop3 (fun (x : List UInt8) (v : Value) (acc : List (List UInt8)) w' => OwnS w w' 9 1 v acc.length (scells acc) ∧ acc.length + x.length ≤ s.length ∧ Nm.fields s = (Nm.Fg x).map (acc ++ ·)) (fun x v _ => [(0, str x), (4, v)]) (fun x _ _ => x.length) s (.slice none 0 0) [] ⟨OwnS.nil w _ _ (Below.refl _ _), by simp, by rw [hF]; cases Nm.Fg s <;> simp⟩ ⟨rfl, rfl, trivial⟩ ?_
  rintro x v acc w2 ⟨ho, hl, hx⟩ ih
  repeat' (first | refine RunL.ev rfl rfl ?_ | refine RunL.evc rfl rfl (by first | omega | (simp; done) | (simp; omega) | exact List.length_pos_iff.2 (by assumption)) ?_ | refine RunL.nil ?_ | refine Run.ctl rfl ?_ | refine Run.region ?_ | refine Run.condT rfl ?_ | refine Run.condF rfl ?_ | refine RunL.skip rfl rfl ?_ | refine RunL.skip0 rfl ?_ | exact RunL.blkEnd rfl rfl | apply RunL.andB rfl rfl rfl rfl rfl rfl rfl rfl | apply RunL.orB rfl rfl rfl rfl rfl rfl rfl rfl | (refine fun (hb : (_ : Bool) = _) => ?_; try simp at hb))
  refine Run.cond rfl (fun h2 => ?_) (fun h2 => ?_)
  · have : x = [] := by simpa using h2
    subst this
    repeat' (first | refine RunL.ev rfl rfl ?_ | refine RunL.evc rfl rfl (by first | omega | (simp; done) | (simp; omega) | exact List.length_pos_iff.2 (by assumption)) ?_ | refine RunL.nil ?_ | refine Run.ctl rfl ?_ | refine Run.region ?_ | refine Run.condT rfl ?_ | refine Run.condF rfl ?_ | refine RunL.skip rfl rfl ?_ | refine RunL.skip0 rfl ?_ | exact RunL.blkEnd rfl rfl | apply RunL.andB rfl rfl rfl rfl rfl rfl rfl rfl | apply RunL.orB rfl rfl rfl rfl rfl rfl rfl rfl | (refine fun (hb : (_ : Bool) = _) => ?_; try simp at hb))
    refine Run.ret Try.func15 rfl [_, _] ⟨rfl, rfl, trivial⟩ ?_
    rw [Nm.fieldsR_none (by rw [hx]; rfl)]
    exact ⟨_, rfl, IsSl.nil _, ho.below⟩
  have hxn : 0 < x.length := by cases x <;> simp_all
  have hc := fun w' => part_any x w' (by omega) hxn
  cases hp : Nm.partS x with
  | none =>
    rw [hp] at hc
    repeat' (first | refine RunL.ev rfl rfl ?_ | refine RunL.evc rfl rfl (by first | omega | (simp; done) | (simp; omega) | exact List.length_pos_iff.2 (by assumption)) ?_ | refine RunL.nil ?_ | refine Run.ctl rfl ?_ | refine Run.region ?_ | refine Run.condT rfl ?_ | refine Run.condF rfl ?_ | refine RunL.skip rfl rfl ?_ | refine RunL.skip0 rfl ?_ | exact RunL.blkEnd rfl rfl | apply RunL.andB rfl rfl rfl rfl rfl rfl rfl rfl | apply RunL.orB rfl rfl rfl rfl rfl rfl rfl rfl | (refine fun (hb : (_ : Bool) = _) => ?_; try simp at hb))
    refine RunL.callB (r := .int .i64 (-1)) fn30 rfl rfl (hc _) ?_
    intro w3 hb3
    repeat' (first | refine RunL.ev rfl rfl ?_ | refine RunL.evc rfl rfl (by first | omega | (simp; done) | (simp; omega) | exact List.length_pos_iff.2 (by assumption)) ?_ | refine RunL.nil ?_ | refine Run.ctl rfl ?_ | refine Run.region ?_ | refine Run.condT rfl ?_ | refine Run.condF rfl ?_ | refine RunL.skip rfl rfl ?_ | refine RunL.skip0 rfl ?_ | exact RunL.blkEnd rfl rfl | apply RunL.andB rfl rfl rfl rfl rfl rfl rfl rfl | apply RunL.orB rfl rfl rfl rfl rfl rfl rfl rfl | (refine fun (hb : (_ : Bool) = _) => ?_; try simp at hb))
    refine Run.ret Try.func15 rfl [_, _] ⟨rfl, rfl, trivial⟩ ?_
    rw [Nm.fieldsR_none (by rw [hx, Nm.Fg_none hp]; rfl)]
    exact ⟨_, rfl, IsSl.nil _, ho.below.trans (hb3.mono ho.below.size)⟩
  | some k =>
    rw [hp] at hc
    obtain ⟨hk0, hk⟩ := Nm.partS_le hp
    repeat' (first | refine RunL.ev rfl rfl ?_ | refine RunL.evc rfl rfl (by first | omega | (simp; done) | (simp; omega) | exact List.length_pos_iff.2 (by assumption)) ?_ | refine RunL.nil ?_ | refine Run.ctl rfl ?_ | refine Run.region ?_ | refine Run.condT rfl ?_ | refine Run.condF rfl ?_ | refine RunL.skip rfl rfl ?_ | refine RunL.skip0 rfl ?_ | exact RunL.blkEnd rfl rfl | apply RunL.andB rfl rfl rfl rfl rfl rfl rfl rfl | apply RunL.orB rfl rfl rfl rfl rfl rfl rfl rfl | (refine fun (hb : (_ : Bool) = _) => ?_; try simp at hb))
    refine RunL.callB (r := .int .i64 (k : Int)) fn30 rfl rfl (hc _) ?_
    intro w3 hb3
    repeat' (first | refine RunL.ev rfl rfl ?_ | refine RunL.evc rfl rfl (by first | omega | (simp; done) | (simp; omega) | exact List.length_pos_iff.2 (by assumption)) ?_ | refine RunL.nil ?_ | refine Run.ctl rfl ?_ | refine Run.region ?_ | refine Run.condT rfl ?_ | refine Run.condF rfl ?_ | refine RunL.skip rfl rfl ?_ | refine RunL.skip0 rfl ?_ | exact RunL.blkEnd rfl rfl | apply RunL.andB rfl rfl rfl rfl rfl rfl rfl rfl | apply RunL.orB rfl rfl rfl rfl rfl rfl rfl rfl | (refine fun (hb : (_ : Bool) = _) => ?_; try simp at hb))
    have hFx := Nm.Fg_some hp
    refine Run.cond rfl (fun h5 => ?_) (fun h5 => ?_)
    · obtain ⟨h5a, h5b⟩ := Bool.and_eq_true_iff.1 h5
      repeat' (first | refine RunL.ev rfl rfl ?_ | refine RunL.evc rfl rfl (by first | omega | (simp; done) | (simp; omega) | exact List.length_pos_iff.2 (by assumption)) ?_ | refine RunL.nil ?_ | refine Run.ctl rfl ?_ | refine Run.region ?_ | refine Run.condT rfl ?_ | refine Run.condF rfl ?_ | refine RunL.skip rfl rfl ?_ | refine RunL.skip0 rfl ?_ | exact RunL.blkEnd rfl rfl | apply RunL.andB rfl rfl rfl rfl rfl rfl rfl rfl | apply RunL.orB rfl rfl rfl rfl rfl rfl rfl rfl | (refine fun (hb : (_ : Bool) = _) => ?_; try simp at hb))
      refine Run.ret Try.func15 rfl [_, _] ⟨rfl, rfl, trivial⟩ ?_
      rw [Nm.fieldsR_none (by rw [hx, hFx, if_neg (by have := of_decide_eq_true h5a; omega), if_neg (by intro e; rw [e] at h5b; simp at h5b)]; rfl)]
      exact ⟨_, rfl, IsSl.nil _, ho.below.trans (hb3.mono ho.below.size)⟩
    have hkl : (x.take k).length = k := by simp; omega
    repeat' (first | refine RunL.ev rfl rfl ?_ | refine RunL.evc rfl rfl (by first | omega | (simp; done) | (simp; omega) | exact List.length_pos_iff.2 (by assumption)) ?_ | refine RunL.nil ?_ | refine Run.ctl rfl ?_ | refine Run.region ?_ | refine Run.condT rfl ?_ | refine Run.condF rfl ?_ | refine RunL.skip rfl rfl ?_ | refine RunL.skip0 rfl ?_ | exact RunL.blkEnd rfl rfl | apply RunL.andB rfl rfl rfl rfl rfl rfl rfl rfl | apply RunL.orB rfl rfl rfl rfl rfl rfl rfl rfl | (refine fun (hb : (_ : Bool) = _) => ?_; try simp at hb))
    refine RunL.appB elem27 (ho.ext hb3) rfl rfl rfl rfl rfl rfl rfl rfl (by decide) (by simp [Value.oneCell']) (by decide) (by omega) (by omega) ?_
    intro v' w' ho' _
    have ho2 := ho'.cast (n' := (acc ++ [x.take k]).length) (xs' := scells (acc ++ [x.take k])) (by simp) (by rw [scells_append]; rfl)
    repeat' (first | refine RunL.ev rfl rfl ?_ | refine RunL.evc rfl rfl (by first | omega | (simp; done) | (simp; omega) | exact List.length_pos_iff.2 (by assumption)) ?_ | refine RunL.nil ?_ | refine Run.ctl rfl ?_ | refine Run.region ?_ | refine Run.condT rfl ?_ | refine Run.condF rfl ?_ | refine RunL.skip rfl rfl ?_ | refine RunL.skip0 rfl ?_ | exact RunL.blkEnd rfl rfl | apply RunL.andB rfl rfl rfl rfl rfl rfl rfl rfl | apply RunL.orB rfl rfl rfl rfl rfl rfl rfl rfl | (refine fun (hb : (_ : Bool) = _) => ?_; try simp at hb))
    refine Run.cond rfl (fun h6 => ?_) (fun h6 => ?_)
    · have hkx : k = x.length := by simp only [beq_iff_eq] at h6; omega
      repeat' (first | refine RunL.ev rfl rfl ?_ | refine RunL.evc rfl rfl (by first | omega | (simp; done) | (simp; omega) | exact List.length_pos_iff.2 (by assumption)) ?_ | refine RunL.nil ?_ | refine Run.ctl rfl ?_ | refine Run.region ?_ | refine Run.condT rfl ?_ | refine Run.condF rfl ?_ | refine RunL.skip rfl rfl ?_ | refine RunL.skip0 rfl ?_ | exact RunL.blkEnd rfl rfl | apply RunL.andB rfl rfl rfl rfl rfl rfl rfl rfl | apply RunL.orB rfl rfl rfl rfl rfl rfl rfl rfl | (refine fun (hb : (_ : Bool) = _) => ?_; try simp at hb))
      refine Run.ret Try.func15 rfl [_, _] ⟨rfl, rfl, trivial⟩ ?_
      rw [if_pos hkx] at hFx
      rw [Nm.fieldsR_some (by rw [hx, hFx]; rfl)]
      rw [hkx, List.take_length] at ho2
      exact ⟨_, rfl, ho2.isSl, ho2.below⟩
    · have hkx : k ≠ x.length := by simp only [beq_eq_false_iff_ne, ne_eq] at h6; omega
      have h32 : x.getD k 0 = 32 := by
        rcases Bool.and_eq_false_iff.1 h5 with h | h
        · have := of_decide_eq_false h; omega
        · have : (x.getD k 0).toNat = 32 := by simp only [bne_eq_false_iff_eq] at h; omega
          exact UInt8.toNat_inj.1 this
      rw [if_neg hkx, if_pos h32] at hFx
      repeat' (first | refine RunL.ev rfl rfl ?_ | refine RunL.evc rfl rfl (by first | omega | (simp; done) | (simp; omega) | exact List.length_pos_iff.2 (by assumption)) ?_ | refine RunL.nil ?_ | refine Run.ctl rfl ?_ | refine Run.region ?_ | refine Run.condT rfl ?_ | refine Run.condF rfl ?_ | refine RunL.skip rfl rfl ?_ | refine RunL.skip0 rfl ?_ | exact RunL.blkEnd rfl rfl | apply RunL.andB rfl rfl rfl rfl rfl rfl rfl rfl | apply RunL.orB rfl rfl rfl rfl rfl rfl rfl rfl | (refine fun (hb : (_ : Bool) = _) => ?_; try simp at hb))
      refine ih (x.drop (k + 1)) v' (acc ++ [x.take k]) _ _ ⟨ho2, by simp; omega, ?_⟩ (by simp; omega) ⟨rfl, rfl, trivial⟩
      rw [hx, hFx]
      cases Nm.Fg (x.drop (k + 1)) <;> simp
end Go.Proofs.Ytmjhhmilgebbbaa
