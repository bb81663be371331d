/- A part of the proof: contracts of the program's functions. Conditions: none. -/
import Derived.Test.YtmjhhmilgebbbaaNm9
import Derived.Test.YtmjhhmilgebbbaaGxDraw
namespace Go.Proofs.Ytmjhhmilgebbbaa
open Go.GX Go.RowKit
attribute [local irreducible] Calls Run RunL RunQ RunD
set_option linter.unusedVariables false
set_option maxRecDepth 100000


theorem rfields_any (s : List UInt8) (w : World) (hs : s.length ≤ 1000000000) :
    Calls Try.prog 16 #[str s] w fun e w' => ∃ v, e = .returned (.tuple #[v, .int .i64 ((Nm.fieldsR s).2 : Int)]) ∧ IsSl w' v (scells (Nm.fieldsR s).1) (Nm.fieldsR s).1.length ∧ Below w.heap.size w w' := by
  refine calls_of_run Try.func16 rfl (Nat.le_of_ble_eq_true rfl) ?_
  refine Run.sub (σ' := [(0, str s)]) ⟨rfl, trivial⟩ ?_
  repeat' (first | refine RunL.ev rfl rfl ?_ | refine RunL.evc rfl rfl (by first | omega | (simp; done) | (simp; omega) | exact List.length_pos_iff.2 (by assumption)) ?_ | refine RunL.nil ?_ | refine Run.ctl rfl ?_ | refine Run.region ?_ | refine Run.condT rfl ?_ | refine Run.condF rfl ?_ | refine RunL.skip rfl rfl ?_ | refine RunL.skip0 rfl ?_ | exact RunL.blkEnd rfl rfl | apply RunL.andB rfl rfl rfl rfl rfl rfl rfl rfl | apply RunL.orB rfl rfl rfl rfl rfl rfl rfl rfl | (refine fun (hb : (_ : Bool) = _) => ?_; try simp at hb))
  refine Run.cond rfl (fun h => ?_) (fun h => ?_)
  · have : s = [] := by simpa using h
    subst this
    repeat' (first | refine RunL.ev rfl rfl ?_ | refine RunL.evc rfl rfl (by first | omega | (simp; done) | (simp; omega) | exact List.length_pos_iff.2 (by assumption)) ?_ | refine RunL.nil ?_ | refine Run.ctl rfl ?_ | refine Run.region ?_ | refine Run.condT rfl ?_ | refine Run.condF rfl ?_ | refine RunL.skip rfl rfl ?_ | refine RunL.skip0 rfl ?_ | exact RunL.blkEnd rfl rfl | apply RunL.andB rfl rfl rfl rfl rfl rfl rfl rfl | apply RunL.orB rfl rfl rfl rfl rfl rfl rfl rfl | (refine fun (hb : (_ : Bool) = _) => ?_; try simp at hb))
    refine Run.ret Try.func16 rfl [_, _] ⟨rfl, rfl, trivial⟩ ?_
    exact ⟨_, rfl, IsSl.nil _, Below.refl _ _⟩
  have hne : s ≠ [] := by intro e; subst e; simp at h
  have hF := Nm.fields_eq hne
  repeat' (first | refine RunL.ev rfl rfl ?_ | refine RunL.evc rfl rfl (by first | omega | (simp; done) | (simp; omega) | exact List.length_pos_iff.2 (by assumption)) ?_ | refine RunL.nil ?_ | refine Run.ctl rfl ?_ | refine Run.region ?_ | refine Run.condT rfl ?_ | refine Run.condF rfl ?_ | refine RunL.skip rfl rfl ?_ | refine RunL.skip0 rfl ?_ | exact RunL.blkEnd rfl rfl | apply RunL.andB rfl rfl rfl rfl rfl rfl rfl rfl | apply RunL.orB rfl rfl rfl rfl rfl rfl rfl rfl | (refine fun (hb : (_ : Bool) = _) => ?_; try simp at hb))
  refine Run.loop3 (fun (p : Nat) (v : Value) (acc : List (List UInt8)) w' => OwnS w w' 9 1 v acc.length (scells acc) ∧ p ≤ s.length ∧ acc.length ≤ p ∧ Nm.fields s = (Nm.Fg (s.drop p)).map (acc ++ ·)) (fun p v _ => [(0, str s), (5, .int .i64 (p : Int)), (4, v)]) (fun p _ _ => s.length - p) 0 (.slice none 0 0) [] ⟨OwnS.nil w _ _ (Below.refl _ _), by simp, by simp, by rw [hF, List.drop_zero]; cases Nm.Fg s <;> simp⟩ ⟨rfl, rfl, rfl, trivial⟩ ?_
  rintro p v acc w2 ⟨ho, hpl, hl, hx⟩ ih
  have hc := fun w' => rpart_any s p w' (by omega) hpl
  cases hp : Nm.partS (s.drop p) with
  | none =>
    rw [hp] at hc
    repeat' (first | refine RunL.ev rfl rfl ?_ | refine RunL.evc rfl rfl (by first | omega | (simp; done) | (simp; omega) | exact List.length_pos_iff.2 (by assumption)) ?_ | refine RunL.nil ?_ | refine Run.ctl rfl ?_ | refine Run.region ?_ | refine Run.condT rfl ?_ | refine Run.condF rfl ?_ | refine RunL.skip rfl rfl ?_ | refine RunL.skip0 rfl ?_ | exact RunL.blkEnd rfl rfl | apply RunL.andB rfl rfl rfl rfl rfl rfl rfl rfl | apply RunL.orB rfl rfl rfl rfl rfl rfl rfl rfl | (refine fun (hb : (_ : Bool) = _) => ?_; try simp at hb))
    refine RunL.callB (r := .int .i64 (-1)) fn31 rfl rfl (hc _) ?_
    intro w3 hb3
    repeat' (first | refine RunL.ev rfl rfl ?_ | refine RunL.evc rfl rfl (by first | omega | (simp; done) | (simp; omega) | exact List.length_pos_iff.2 (by assumption)) ?_ | refine RunL.nil ?_ | refine Run.ctl rfl ?_ | refine Run.region ?_ | refine Run.condT rfl ?_ | refine Run.condF rfl ?_ | refine RunL.skip rfl rfl ?_ | refine RunL.skip0 rfl ?_ | exact RunL.blkEnd rfl rfl | apply RunL.andB rfl rfl rfl rfl rfl rfl rfl rfl | apply RunL.orB rfl rfl rfl rfl rfl rfl rfl rfl | (refine fun (hb : (_ : Bool) = _) => ?_; try simp at hb))
    refine Run.ret Try.func16 rfl [_, _] ⟨rfl, rfl, trivial⟩ ?_
    rw [Nm.fieldsR_none (by rw [hx, Nm.Fg_none hp]; rfl)]
    exact ⟨_, rfl, IsSl.nil _, ho.below.trans (hb3.mono ho.below.size)⟩
  | some k =>
    rw [hp] at hc
    obtain ⟨hk0, hk⟩ := Nm.partS_le hp
    have hdl : (s.drop p).length = s.length - p := by simp
    have hFx := Nm.Fg_some hp
    repeat' (first | refine RunL.ev rfl rfl ?_ | refine RunL.evc rfl rfl (by first | omega | (simp; done) | (simp; omega) | exact List.length_pos_iff.2 (by assumption)) ?_ | refine RunL.nil ?_ | refine Run.ctl rfl ?_ | refine Run.region ?_ | refine Run.condT rfl ?_ | refine Run.condF rfl ?_ | refine RunL.skip rfl rfl ?_ | refine RunL.skip0 rfl ?_ | exact RunL.blkEnd rfl rfl | apply RunL.andB rfl rfl rfl rfl rfl rfl rfl rfl | apply RunL.orB rfl rfl rfl rfl rfl rfl rfl rfl | (refine fun (hb : (_ : Bool) = _) => ?_; try simp at hb))
    refine RunL.callB (r := .int .i64 ((p + k : Nat) : Int)) fn31 rfl rfl (hc _) ?_
    intro w3 hb3
    repeat' (first | refine RunL.ev rfl rfl ?_ | refine RunL.evc rfl rfl (by first | omega | (simp; done) | (simp; omega) | exact List.length_pos_iff.2 (by assumption)) ?_ | refine RunL.nil ?_ | refine Run.ctl rfl ?_ | refine Run.region ?_ | refine Run.condT rfl ?_ | refine Run.condF rfl ?_ | refine RunL.skip rfl rfl ?_ | refine RunL.skip0 rfl ?_ | exact RunL.blkEnd rfl rfl | apply RunL.andB rfl rfl rfl rfl rfl rfl rfl rfl | apply RunL.orB rfl rfl rfl rfl rfl rfl rfl rfl | (refine fun (hb : (_ : Bool) = _) => ?_; try simp at hb))
    have hkl : ((s.drop p).take k).length = k := by simp; omega
    repeat' (first | refine RunL.ev rfl rfl ?_ | refine RunL.evc rfl rfl (by first | omega | (simp; done) | (simp; omega) | exact List.length_pos_iff.2 (by assumption)) ?_ | refine RunL.nil ?_ | refine Run.ctl rfl ?_ | refine Run.region ?_ | refine Run.condT rfl ?_ | refine Run.condF rfl ?_ | refine RunL.skip rfl rfl ?_ | refine RunL.skip0 rfl ?_ | exact RunL.blkEnd rfl rfl | apply RunL.andB rfl rfl rfl rfl rfl rfl rfl rfl | apply RunL.orB rfl rfl rfl rfl rfl rfl rfl rfl | (refine fun (hb : (_ : Bool) = _) => ?_; try simp at hb))
    refine RunL.appB elem27 (ho.ext hb3) rfl rfl rfl rfl rfl rfl rfl rfl (by decide) (by simp [Value.oneCell']) (by decide) (by omega) (by omega) ?_
    intro v' w' ho' _
    have ho2 := ho'.cast (n' := (acc ++ [(s.drop p).take k]).length) (xs' := scells (acc ++ [(s.drop p).take k])) (by simp) (by rw [scells_append, show p + k - p = k by omega]; rfl)
    repeat' (first | refine RunL.ev rfl rfl ?_ | refine RunL.evc rfl rfl (by first | omega | (simp; done) | (simp; omega) | exact List.length_pos_iff.2 (by assumption)) ?_ | refine RunL.nil ?_ | refine Run.ctl rfl ?_ | refine Run.region ?_ | refine Run.condT rfl ?_ | refine Run.condF rfl ?_ | refine RunL.skip rfl rfl ?_ | refine RunL.skip0 rfl ?_ | exact RunL.blkEnd rfl rfl | apply RunL.andB rfl rfl rfl rfl rfl rfl rfl rfl | apply RunL.orB rfl rfl rfl rfl rfl rfl rfl rfl | (refine fun (hb : (_ : Bool) = _) => ?_; try simp at hb))
    refine Run.cond rfl (fun h6 => ?_) (fun h6 => ?_)
    · have hkx : k = (s.drop p).length := by simp only [beq_iff_eq] at h6; omega
      repeat' (first | refine RunL.ev rfl rfl ?_ | refine RunL.evc rfl rfl (by first | omega | (simp; done) | (simp; omega) | exact List.length_pos_iff.2 (by assumption)) ?_ | refine RunL.nil ?_ | refine Run.ctl rfl ?_ | refine Run.region ?_ | refine Run.condT rfl ?_ | refine Run.condF rfl ?_ | refine RunL.skip rfl rfl ?_ | refine RunL.skip0 rfl ?_ | exact RunL.blkEnd rfl rfl | apply RunL.andB rfl rfl rfl rfl rfl rfl rfl rfl | apply RunL.orB rfl rfl rfl rfl rfl rfl rfl rfl | (refine fun (hb : (_ : Bool) = _) => ?_; try simp at hb))
      refine Run.ret Try.func16 rfl [_, _] ⟨rfl, rfl, trivial⟩ ?_
      rw [if_pos hkx] at hFx
      rw [Nm.fieldsR_some (by rw [hx, hFx]; rfl)]
      rw [show (s.drop p).take k = s.drop p by rw [hkx, List.take_length]] at ho2
      exact ⟨_, rfl, ho2.isSl, ho2.below⟩
    · have hkx : k ≠ (s.drop p).length := by simp only [beq_eq_false_iff_ne, ne_eq] at h6; omega
      have hlt : p + k < s.length := by omega
      rw [if_neg hkx] at hFx
      repeat' (first | refine RunL.ev rfl rfl ?_ | refine RunL.evc rfl rfl (by first | omega | (simp; done) | (simp; omega) | exact List.length_pos_iff.2 (by assumption)) ?_ | refine RunL.nil ?_ | refine Run.ctl rfl ?_ | refine Run.region ?_ | refine Run.condT rfl ?_ | refine Run.condF rfl ?_ | refine RunL.skip rfl rfl ?_ | refine RunL.skip0 rfl ?_ | exact RunL.blkEnd rfl rfl | apply RunL.andB rfl rfl rfl rfl rfl rfl rfl rfl | apply RunL.orB rfl rfl rfl rfl rfl rfl rfl rfl | (refine fun (hb : (_ : Bool) = _) => ?_; try simp at hb))
      refine Run.cond rfl (fun h7 => ?_) (fun h7 => ?_)
      · repeat' (first | refine RunL.ev rfl rfl ?_ | refine RunL.evc rfl rfl (by first | omega | (simp; done) | (simp; omega) | exact List.length_pos_iff.2 (by assumption)) ?_ | refine RunL.nil ?_ | refine Run.ctl rfl ?_ | refine Run.region ?_ | refine Run.condT rfl ?_ | refine Run.condF rfl ?_ | refine RunL.skip rfl rfl ?_ | refine RunL.skip0 rfl ?_ | exact RunL.blkEnd rfl rfl | apply RunL.andB rfl rfl rfl rfl rfl rfl rfl rfl | apply RunL.orB rfl rfl rfl rfl rfl rfl rfl rfl | (refine fun (hb : (_ : Bool) = _) => ?_; try simp at hb))
        refine Run.ret Try.func16 rfl [_, _] ⟨rfl, rfl, trivial⟩ ?_
        rw [Nm.fieldsR_none (by rw [hx, hFx, if_neg (by rw [getD_drop]; intro e; rw [e] at h7; simp at h7)]; rfl)]
        exact ⟨_, rfl, IsSl.nil _, ho2.below⟩
      · have h32 : (s.drop p).getD k 0 = 32 := by
          rw [getD_drop]
          have : (s.getD (p + k) 0).toNat = 32 := by simp only [bne_eq_false_iff_eq] at h7; omega
          exact UInt8.toNat_inj.1 this
        rw [if_pos h32] at hFx
        repeat' (first | refine RunL.ev rfl rfl ?_ | refine RunL.evc rfl rfl (by first | omega | (simp; done) | (simp; omega) | exact List.length_pos_iff.2 (by assumption)) ?_ | refine RunL.nil ?_ | refine Run.ctl rfl ?_ | refine Run.region ?_ | refine Run.condT rfl ?_ | refine Run.condF rfl ?_ | refine RunL.skip rfl rfl ?_ | refine RunL.skip0 rfl ?_ | exact RunL.blkEnd rfl rfl | apply RunL.andB rfl rfl rfl rfl rfl rfl rfl rfl | apply RunL.orB rfl rfl rfl rfl rfl rfl rfl rfl | (refine fun (hb : (_ : Bool) = _) => ?_; try simp at hb))
        refine ih (p + k + 1) v' (acc ++ [(s.drop p).take k]) _ _ ⟨ho2, by omega, by simp; omega, ?_⟩ (by omega) ⟨rfl, rfl, rfl, trivial⟩
        rw [hx, hFx, List.drop_drop, show p + (k + 1) = p + k + 1 by omega]
        cases Nm.Fg (s.drop (p + k + 1)) <;> simp

theorem scells_get {a : List (List UInt8)} {k : Nat} (h : k < a.length) : (scells a)[k * 1]? = some (str (a.getD k [])) := by
  rw [Nat.mul_one, scells, List.getElem?_map, List.getD_eq_getElem?_getD, List.getElem?_eq_getElem h]; rfl

theorem same_any (a b : List (List UInt8)) (u v : Value) (w : World) (ha : IsSl w u (scells a) a.length) (hb : IsSl w v (scells b) b.length) (hla : a.length ≤ 1000000000) :
    Calls Try.prog 17 #[u, v] w fun e w' => e = .returned (.bool (a == b)) ∧ Below w.heap.size w w' := by
  refine calls_of_run Try.func17 rfl (Nat.le_of_ble_eq_true rfl) ?_
  refine Run.sub (σ' := [(0, u), (1, v)]) ⟨rfl, rfl, trivial⟩ ?_
  repeat' (first | refine RunL.ev rfl rfl ?_ | refine RunL.evc rfl rfl (by first | omega | (simp; done) | (simp; omega) | exact List.length_pos_iff.2 (by assumption)) ?_ | refine RunL.lenI ha rfl rfl rfl ?_ | refine RunL.lenI hb rfl rfl rfl ?_ | refine RunL.nil ?_ | refine Run.ctl rfl ?_ | refine Run.region ?_ | refine Run.condT rfl ?_ | refine Run.condF rfl ?_ | refine RunL.skip rfl rfl ?_ | refine RunL.skip0 rfl ?_ | exact RunL.blkEnd rfl rfl | apply RunL.andB rfl rfl rfl rfl rfl rfl rfl rfl | apply RunL.orB rfl rfl rfl rfl rfl rfl rfl rfl | (refine fun (hb : (_ : Bool) = _) => ?_; try simp at hb))
  refine Run.cond rfl (fun h => ?_) (fun h => ?_)
  · repeat' (first | refine RunL.ev rfl rfl ?_ | refine RunL.evc rfl rfl (by first | omega | (simp; done) | (simp; omega) | exact List.length_pos_iff.2 (by assumption)) ?_ | refine RunL.nil ?_ | refine Run.ctl rfl ?_ | refine Run.region ?_ | refine Run.condT rfl ?_ | refine Run.condF rfl ?_ | refine RunL.skip rfl rfl ?_ | refine RunL.skip0 rfl ?_ | exact RunL.blkEnd rfl rfl | apply RunL.andB rfl rfl rfl rfl rfl rfl rfl rfl | apply RunL.orB rfl rfl rfl rfl rfl rfl rfl rfl | (refine fun (hb : (_ : Bool) = _) => ?_; try simp at hb))
    refine Run.ret Try.func17 rfl [_] ⟨rfl, trivial⟩ ?_
    refine ⟨?_, Below.refl _ _⟩
    have : a.length ≠ b.length := by simp only [bne_iff_ne, ne_eq] at h; omega
    have : (a == b) = false := by rw [beq_eq_false_iff_ne]; intro e; rw [e] at this; exact this rfl
    rw [this]; rfl
  have hl : a.length = b.length := by simp only [bne_eq_false_iff_eq] at h; omega
  repeat' (first | refine RunL.ev rfl rfl ?_ | refine RunL.evc rfl rfl (by first | omega | (simp; done) | (simp; omega) | exact List.length_pos_iff.2 (by assumption)) ?_ | refine RunL.nil ?_ | refine Run.ctl rfl ?_ | refine Run.region ?_ | refine Run.condT rfl ?_ | refine Run.condF rfl ?_ | refine RunL.skip rfl rfl ?_ | refine RunL.skip0 rfl ?_ | exact RunL.blkEnd rfl rfl | apply RunL.andB rfl rfl rfl rfl rfl rfl rfl rfl | apply RunL.orB rfl rfl rfl rfl rfl rfl rfl rfl | (refine fun (hb : (_ : Bool) = _) => ?_; try simp at hb))
  refine Run.loop (ι := Nat) (fun k w' => Below w.heap.size w w' ∧ k ≤ a.length ∧ a.take k = b.take k) (fun k => [(0, u), (1, v), (5, .int .i64 (k : Int))]) (fun k => a.length - k) 0 ⟨Below.refl _ _, Nat.zero_le _, rfl⟩ ⟨rfl, rfl, rfl, trivial⟩ ?_
  rintro k w2 ⟨hb2, hk, hg⟩ ih
  repeat' (first | refine RunL.ev rfl rfl ?_ | refine RunL.evc rfl rfl (by first | omega | (simp; done) | (simp; omega) | exact List.length_pos_iff.2 (by assumption)) ?_ | refine RunL.lenI ha rfl rfl rfl ?_ | refine RunL.nil ?_ | refine Run.ctl rfl ?_ | refine Run.region ?_ | refine Run.condT rfl ?_ | refine Run.condF rfl ?_ | refine RunL.skip rfl rfl ?_ | refine RunL.skip0 rfl ?_ | exact RunL.blkEnd rfl rfl | apply RunL.andB rfl rfl rfl rfl rfl rfl rfl rfl | apply RunL.orB rfl rfl rfl rfl rfl rfl rfl rfl | (refine fun (hb : (_ : Bool) = _) => ?_; try simp at hb))
  refine Run.cond rfl (fun h2 => ?_) (fun h2 => ?_)
  · have hlt : k < a.length := by have := of_decide_eq_true h2; omega
    refine Run.ctl rfl ?_
    refine Run.regionQ hmix (by kernel_rfl) ?_
    repeat' (first | refine RunQ.ev rfl rfl ?_ | refine RunQ.evc rfl rfl (by first | omega | (simp; done) | (simp; omega) | exact List.length_pos_iff.2 (by assumption)) ?_ | refine RunQ.idxI ha elem27 k rfl rfl rfl rfl hlt ?_ | refine RunQ.idxI hb elem27 k rfl rfl rfl rfl (by omega) ?_ | refine RunQ.loadI (ha.ext hb2) rfl rfl rfl rfl (scells_get hlt) ?_ | refine RunQ.loadI (hb.ext hb2) rfl rfl rfl rfl (scells_get (show k < b.length by omega)) ?_ | exact RunQ.blkEnd rfl rfl | apply RunQ.andB rfl rfl rfl rfl rfl rfl rfl rfl | apply RunQ.orB rfl rfl rfl rfl rfl rfl rfl rfl | (refine fun (hb : (_ : Bool) = _) => ?_; try simp at hb) | refine RunQ.skip rfl rfl ?_)
    refine RunQ.nil ?_
    intro w3 hb3
    have hb4 := hb2.trans (hb3.mono hb2.size)
    refine Run.cond rfl (fun h3 => ?_) (fun h3 => ?_)
    · repeat' (first | refine RunL.ev rfl rfl ?_ | refine RunL.evc rfl rfl (by first | omega | (simp; done) | (simp; omega) | exact List.length_pos_iff.2 (by assumption)) ?_ | refine RunL.nil ?_ | refine Run.ctl rfl ?_ | refine Run.region ?_ | refine Run.condT rfl ?_ | refine Run.condF rfl ?_ | refine RunL.skip rfl rfl ?_ | refine RunL.skip0 rfl ?_ | exact RunL.blkEnd rfl rfl | apply RunL.andB rfl rfl rfl rfl rfl rfl rfl rfl | apply RunL.orB rfl rfl rfl rfl rfl rfl rfl rfl | (refine fun (hb : (_ : Bool) = _) => ?_; try simp at hb))
      refine Run.ret Try.func17 rfl [_] ⟨rfl, trivial⟩ ?_
      refine ⟨?_, hb4⟩
      have : (a == b) = false := by rw [beq_eq_false_iff_ne]; intro e; rw [e] at h3; simp at h3
      rw [this]; rfl
    · repeat' (first | refine RunL.ev rfl rfl ?_ | refine RunL.evc rfl rfl (by first | omega | (simp; done) | (simp; omega) | exact List.length_pos_iff.2 (by assumption)) ?_ | refine RunL.nil ?_ | refine Run.ctl rfl ?_ | refine Run.region ?_ | refine Run.condT rfl ?_ | refine Run.condF rfl ?_ | refine RunL.skip rfl rfl ?_ | refine RunL.skip0 rfl ?_ | exact RunL.blkEnd rfl rfl | apply RunL.andB rfl rfl rfl rfl rfl rfl rfl rfl | apply RunL.orB rfl rfl rfl rfl rfl rfl rfl rfl | (refine fun (hb : (_ : Bool) = _) => ?_; try simp at hb))
      have h4 : a.getD k [] = b.getD k [] := by simpa only [Bool.not_eq_false', beq_iff_eq] using h3
      exact ih (k + 1) _ _ ⟨hb4, hlt, by rw [Nm.take_snoc a k [] hlt, Nm.take_snoc b k [] (by omega), hg, h4]⟩ (by omega) ⟨rfl, rfl, rfl, trivial⟩
  · have hke : k = a.length := by have := of_decide_eq_false h2; omega
    repeat' (first | refine RunL.ev rfl rfl ?_ | refine RunL.evc rfl rfl (by first | omega | (simp; done) | (simp; omega) | exact List.length_pos_iff.2 (by assumption)) ?_ | refine RunL.nil ?_ | refine Run.ctl rfl ?_ | refine Run.region ?_ | refine Run.condT rfl ?_ | refine Run.condF rfl ?_ | refine RunL.skip rfl rfl ?_ | refine RunL.skip0 rfl ?_ | exact RunL.blkEnd rfl rfl | apply RunL.andB rfl rfl rfl rfl rfl rfl rfl rfl | apply RunL.orB rfl rfl rfl rfl rfl rfl rfl rfl | (refine fun (hb : (_ : Bool) = _) => ?_; try simp at hb))
    refine Run.ret Try.func17 rfl [_] ⟨rfl, trivial⟩ ?_
    refine ⟨?_, hb2⟩
    have : (a == b) = true := by
      rw [beq_iff_eq]
      rw [hke, List.take_length, hl, List.take_length] at hg
      exact hg
    rw [this]; rfl
end Go.Proofs.Ytmjhhmilgebbbaa
