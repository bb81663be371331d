/- A part of the proof: contracts of the program's functions. Conditions: none. -/
import Derived.Test.YtmjhhmilgebbbaaNm4
import Derived.Test.YtmjhhmilgebbbaaGxDraw
namespace Go.Proofs.Ytmjhhmilgebbbaa
open Go.GX Go.RowKit
attribute [local irreducible] Calls Run RunL RunQ RunD
set_option linter.unusedVariables false
set_option maxRecDepth 100000


theorem getD_drop (s : List UInt8) (i j : Nat) : (s.drop i).getD j 0 = s.getD (i + j) 0 := by simp

theorem rquoted_any (s : List UInt8) (p : Nat) (w : World) (hs : s.length ≤ 1000000000) (hp : p ≤ 1000000001) :
    Calls Try.prog 29 #[str s, .int .i64 (p : Int)] w fun e w' => e = .returned (.tuple #[str (Nm.rquotedR s p).1, .int .i64 (Nm.rquotedR s p).2]) ∧ Below w.heap.size w w' := by
  refine calls_of_run Try.func29 rfl (Nat.le_of_ble_eq_true rfl) ?_
  refine Run.sub (σ' := [(0, str s), (1, .int .i64 (p : Int))]) ⟨rfl, rfl, trivial⟩ ?_
  repeat' (first | refine RunL.ev rfl rfl ?_ | refine RunL.evc rfl rfl (by first | omega | (simp; done) | (simp; omega) | exact List.length_pos_iff.2 (by assumption)) ?_ | refine RunL.nil ?_ | refine Run.ctl rfl ?_ | refine Run.region ?_ | refine Run.condT rfl ?_ | refine Run.condF rfl ?_ | refine RunL.skip rfl rfl ?_ | refine RunL.skip0 rfl ?_ | exact RunL.blkEnd rfl rfl | apply RunL.andB rfl rfl rfl rfl rfl rfl rfl rfl | apply RunL.orB rfl rfl rfl rfl rfl rfl rfl rfl | (refine fun (hb : (_ : Bool) = _) => ?_; try simp at hb))
  refine Run.cond rfl (fun h0 => ?_) (fun h0 => ?_)
  · repeat' (first | refine RunL.ev rfl rfl ?_ | refine RunL.evc rfl rfl (by first | omega | (simp; done) | (simp; omega) | exact List.length_pos_iff.2 (by assumption)) ?_ | refine RunL.nil ?_ | refine Run.ctl rfl ?_ | refine Run.region ?_ | refine Run.condT rfl ?_ | refine Run.condF rfl ?_ | refine RunL.skip rfl rfl ?_ | refine RunL.skip0 rfl ?_ | exact RunL.blkEnd rfl rfl | apply RunL.andB rfl rfl rfl rfl rfl rfl rfl rfl | apply RunL.orB rfl rfl rfl rfl rfl rfl rfl rfl | (refine fun (hb : (_ : Bool) = _) => ?_; try simp at hb))
    refine Run.ret Try.func29 rfl [_, _] ⟨rfl, rfl, trivial⟩ ?_
    refine ⟨?_, Below.refl _ _⟩
    rw [Nm.rq_none (by
      rw [Bool.or_eq_true] at h0
      rcases h0 with h0 | h0
      · have : s.drop p = [] := List.drop_eq_nil_of_le (by simp at h0; omega)
        rw [this]; rfl
      · have e : (s.drop p).getD 0 0 = s.getD p 0 := getD_drop s p 0
        cases hd : s.drop p with
        | nil => rfl
        | cons a r =>
          rw [hd] at e
          have : a ≠ 34 := by intro e'; subst e'; simp only [List.getD_cons_zero] at e; rw [← e] at h0; simp at h0
          simp [Nm.dq, this])]
    rfl
  obtain ⟨h0a, h0b⟩ := Bool.or_eq_false_iff.1 h0
  have hpl : p < s.length := by simp at h0a; omega
  repeat' (first | refine RunL.ev rfl rfl ?_ | refine RunL.evc rfl rfl (by first | omega | (simp; done) | (simp; omega) | exact List.length_pos_iff.2 (by assumption)) ?_ | refine RunL.nil ?_ | refine Run.ctl rfl ?_ | refine Run.region ?_ | refine Run.condT rfl ?_ | refine Run.condF rfl ?_ | refine RunL.skip rfl rfl ?_ | refine RunL.skip0 rfl ?_ | exact RunL.blkEnd rfl rfl | apply RunL.andB rfl rfl rfl rfl rfl rfl rfl rfl | apply RunL.orB rfl rfl rfl rfl rfl rfl rfl rfl | (refine fun (hb : (_ : Bool) = _) => ?_; try simp at hb))
  refine Run.loop3 (fun (i : Nat) (v : Value) (acc : List UInt8) w' => OwnS w w' 5 1 v acc.length (bcells acc) ∧ i ≤ s.length ∧ p < i ∧ acc.length ≤ i ∧ Nm.RInv (s.drop p) acc (s.drop i)) (fun i v _ => [(0, str s), (1, .int .i64 (p : Int)), (6, v), (7, .int .i64 (i : Int))]) (fun i _ _ => s.length - i) (p + 1) (.slice none 0 0) [] ⟨OwnS.nil w _ _ (Below.refl _ _), hpl, by omega, by simp, by have := Nm.RInv.start (x := s.drop p); rwa [List.drop_drop] at this⟩ ⟨rfl, rfl, rfl, rfl, trivial⟩ ?_
  rintro i v acc w2 ⟨ho, hi, hpi, hal, hR⟩ ih
  repeat' (first | refine RunL.ev rfl rfl ?_ | refine RunL.evc rfl rfl (by first | omega | (simp; done) | (simp; omega) | exact List.length_pos_iff.2 (by assumption)) ?_ | refine RunL.nil ?_ | refine Run.ctl rfl ?_ | refine Run.region ?_ | refine Run.condT rfl ?_ | refine Run.condF rfl ?_ | refine RunL.skip rfl rfl ?_ | refine RunL.skip0 rfl ?_ | exact RunL.blkEnd rfl rfl | apply RunL.andB rfl rfl rfl rfl rfl rfl rfl rfl | apply RunL.orB rfl rfl rfl rfl rfl rfl rfl rfl | (refine fun (hb : (_ : Bool) = _) => ?_; try simp at hb))
  refine Run.cond rfl (fun h1 => ?_) (fun h1 => ?_)
  · obtain ⟨h1a, h1b⟩ := Bool.and_eq_true_iff.1 h1
    have hil : i < s.length := by simp at h1a; omega
    have h34 : (s.drop i).getD 0 0 ≠ 34 := by
      rw [getD_drop]; intro e; rw [Nat.add_zero] at e; rw [e] at h1b; simp at h1b
    have hd0 : s.drop i = s.getD i 0 :: s.drop (i + 1) := by
      rw [List.drop_eq_getElem_cons hil, List.getD_eq_getElem?_getD, List.getElem?_eq_getElem hil]; rfl
    repeat' (first | refine RunL.ev rfl rfl ?_ | refine RunL.evc rfl rfl (by first | omega | (simp; done) | (simp; omega) | exact List.length_pos_iff.2 (by assumption)) ?_ | refine RunL.nil ?_ | refine Run.ctl rfl ?_ | refine Run.region ?_ | refine Run.condT rfl ?_ | refine Run.condF rfl ?_ | refine RunL.skip rfl rfl ?_ | refine RunL.skip0 rfl ?_ | exact RunL.blkEnd rfl rfl | apply RunL.andB rfl rfl rfl rfl rfl rfl rfl rfl | apply RunL.orB rfl rfl rfl rfl rfl rfl rfl rfl | (refine fun (hb : (_ : Bool) = _) => ?_; try simp at hb))
    refine Run.cond rfl (fun h2 => ?_) (fun h2 => ?_)
    · have hne : s.getD i 0 ≠ 92 := by intro e; rw [e] at h2; simp at h2
      repeat' (first | refine RunL.ev rfl rfl ?_ | refine RunL.evc rfl rfl (by first | omega | (simp; done) | (simp; omega) | exact List.length_pos_iff.2 (by assumption)) ?_ | refine RunL.nil ?_ | refine Run.ctl rfl ?_ | refine Run.region ?_ | refine Run.condT rfl ?_ | refine Run.condF rfl ?_ | refine RunL.skip rfl rfl ?_ | refine RunL.skip0 rfl ?_ | exact RunL.blkEnd rfl rfl | apply RunL.andB rfl rfl rfl rfl rfl rfl rfl rfl | apply RunL.orB rfl rfl rfl rfl rfl rfl rfl rfl | (refine fun (hb : (_ : Bool) = _) => ?_; try simp at hb))
      refine RunL.appB elem44 ho rfl rfl rfl rfl rfl rfl rfl rfl (by decide) (by simp [Value.oneCell']) (by decide) (by omega) (by omega) ?_
      intro v' w' ho' _
      repeat' (first | refine RunL.ev rfl rfl ?_ | refine RunL.evc rfl rfl (by first | omega | (simp; done) | (simp; omega) | exact List.length_pos_iff.2 (by assumption)) ?_ | refine RunL.nil ?_ | refine Run.ctl rfl ?_ | refine Run.region ?_ | refine Run.condT rfl ?_ | refine Run.condF rfl ?_ | refine RunL.skip rfl rfl ?_ | refine RunL.skip0 rfl ?_ | exact RunL.blkEnd rfl rfl | apply RunL.andB rfl rfl rfl rfl rfl rfl rfl rfl | apply RunL.orB rfl rfl rfl rfl rfl rfl rfl rfl | (refine fun (hb : (_ : Bool) = _) => ?_; try simp at hb))
      exact ih (i + 1) v' (acc ++ [s.getD i 0]) _ _ ⟨ho'.cast (by simp) (by rw [bcells_append]; rfl), hil, by omega, by simp; omega, hR.step (Nm.rstep1 hd0 hne) h34⟩ (by omega) ⟨rfl, rfl, rfl, rfl, trivial⟩
    have h92 : s.getD i 0 = 92 := by
      have : (s.getD i 0).toNat = 92 := by simp only [bne_eq_false_iff_eq] at h2; omega
      exact UInt8.toNat_inj.1 this
    rw [h92] at hd0
    repeat' (first | refine RunL.ev rfl rfl ?_ | refine RunL.evc rfl rfl (by first | omega | (simp; done) | (simp; omega) | exact List.length_pos_iff.2 (by assumption)) ?_ | refine RunL.nil ?_ | refine Run.ctl rfl ?_ | refine Run.region ?_ | refine Run.condT rfl ?_ | refine Run.condF rfl ?_ | refine RunL.skip rfl rfl ?_ | refine RunL.skip0 rfl ?_ | exact RunL.blkEnd rfl rfl | apply RunL.andB rfl rfl rfl rfl rfl rfl rfl rfl | apply RunL.orB rfl rfl rfl rfl rfl rfl rfl rfl | (refine fun (hb : (_ : Bool) = _) => ?_; try simp at hb))
    refine Run.cond rfl (fun h3 => ?_) (fun h3 => ?_)
    · obtain ⟨h3a, h3b⟩ := Bool.and_eq_true_iff.1 h3
      have hil2 : i + 1 < s.length := by simp at h3a; omega
      have hd1 : s.drop (i + 1) = s.getD (i + 1) 0 :: s.drop (i + 2) := by
        rw [List.drop_eq_getElem_cons hil2, List.getD_eq_getElem?_getD, List.getElem?_eq_getElem hil2]; rfl
      have hb : s.getD (i + 1) 0 = 34 ∨ s.getD (i + 1) 0 = 92 := by
        rcases Bool.or_eq_true_iff.1 h3b with h | h
        · left
          have : (s.getD (i + 1) 0).toNat = 34 := by simp only [beq_iff_eq] at h; omega
          exact UInt8.toNat_inj.1 this
        · right
          have : (s.getD (i + 1) 0).toNat = 92 := by simp only [beq_iff_eq] at h; omega
          exact UInt8.toNat_inj.1 this
      repeat' (first | refine RunL.ev rfl rfl ?_ | refine RunL.evc rfl rfl (by first | omega | (simp; done) | (simp; omega) | exact List.length_pos_iff.2 (by assumption)) ?_ | refine RunL.nil ?_ | refine Run.ctl rfl ?_ | refine Run.region ?_ | refine Run.condT rfl ?_ | refine Run.condF rfl ?_ | refine RunL.skip rfl rfl ?_ | refine RunL.skip0 rfl ?_ | exact RunL.blkEnd rfl rfl | apply RunL.andB rfl rfl rfl rfl rfl rfl rfl rfl | apply RunL.orB rfl rfl rfl rfl rfl rfl rfl rfl | (refine fun (hb : (_ : Bool) = _) => ?_; try simp at hb))
      refine RunL.appB elem44 ho rfl rfl rfl rfl rfl rfl rfl rfl (by decide) (by simp [Value.oneCell']) (by decide) (by omega) (by omega) ?_
      intro v' w' ho' _
      repeat' (first | refine RunL.ev rfl rfl ?_ | refine RunL.evc rfl rfl (by first | omega | (simp; done) | (simp; omega) | exact List.length_pos_iff.2 (by assumption)) ?_ | refine RunL.nil ?_ | refine Run.ctl rfl ?_ | refine Run.region ?_ | refine Run.condT rfl ?_ | refine Run.condF rfl ?_ | refine RunL.skip rfl rfl ?_ | refine RunL.skip0 rfl ?_ | exact RunL.blkEnd rfl rfl | apply RunL.andB rfl rfl rfl rfl rfl rfl rfl rfl | apply RunL.orB rfl rfl rfl rfl rfl rfl rfl rfl | (refine fun (hb : (_ : Bool) = _) => ?_; try simp at hb))
      exact ih (i + 2) v' (acc ++ [s.getD (i + 1) 0]) _ _ ⟨ho'.cast (by simp) (by rw [bcells_append]; rfl), hil2, by omega, by simp; omega, hR.step (Nm.rstep2 (by rw [hd0, hd1]) hb) h34⟩ (by omega) ⟨rfl, rfl, rfl, rfl, trivial⟩
    have hno2 : ∀ b q, s.drop i = 92 :: b :: q → b ≠ 34 ∧ b ≠ 92 := by
      intro b q e
      have hl := congrArg List.length e
      simp at hl
      have eb : s.getD (i + 1) 0 = b := by rw [← getD_drop, e]; rfl
      rw [eb] at h3
      constructor <;> (intro e'; subst e'; simp at h3; omega)
    have lt2 := (s.getD (i + 2) 0).toNat_lt
    have lt3 := (s.getD (i + 3) 0).toNat_lt
    repeat' (first | refine RunL.ev rfl rfl ?_ | refine RunL.evc rfl rfl (by first | omega | (simp; done) | (simp; omega) | exact List.length_pos_iff.2 (by assumption)) ?_ | refine RunL.callP fn43 rfl rfl (rhex_any ((s.getD (i + 2) 0).toNat : Int) _ (by omega) (by omega)) ?_ | refine RunL.callP fn43 rfl rfl (rhex_any ((s.getD (i + 3) 0).toNat : Int) _ (by omega) (by omega)) ?_ | refine RunL.nil ?_ | refine Run.ctl rfl ?_ | refine Run.region ?_ | refine Run.condT rfl ?_ | refine Run.condF rfl ?_ | refine RunL.skip rfl rfl ?_ | refine RunL.skip0 rfl ?_ | exact RunL.blkEnd rfl rfl | apply RunL.andB rfl rfl rfl rfl rfl rfl rfl rfl | apply RunL.orB rfl rfl rfl rfl rfl rfl rfl rfl | (refine fun (hb : (_ : Bool) = _) => ?_; try simp at hb))
    refine Run.cond rfl (fun h4 => ?_) (fun h4 => ?_)
    · obtain ⟨h4x, h4d⟩ := Bool.and_eq_true_iff.1 h4
      obtain ⟨h4y, h4c⟩ := Bool.and_eq_true_iff.1 h4x
      obtain ⟨h4a, h4b⟩ := Bool.and_eq_true_iff.1 h4y
      have hil3 : i + 3 < s.length := by simp at h4a; omega
      obtain ⟨m, hm1, hm2, hm3⟩ := Nm.hexv_some h4c
      obtain ⟨n, hn1, hn2, hn3⟩ := Nm.hexv_some h4d
      have h120 : s.getD (i + 1) 0 = 120 := by
        have : (s.getD (i + 1) 0).toNat = 120 := by simp only [beq_iff_eq] at h4b; omega
        exact UInt8.toNat_inj.1 this
      have hd1 : s.drop (i + 1) = 120 :: s.drop (i + 2) := by
        rw [List.drop_eq_getElem_cons (by omega), ← h120, List.getD_eq_getElem?_getD, List.getElem?_eq_getElem (by omega)]; rfl
      have hd2 : s.drop (i + 2) = s.getD (i + 2) 0 :: s.drop (i + 3) := by
        rw [List.drop_eq_getElem_cons (by omega), List.getD_eq_getElem?_getD, List.getElem?_eq_getElem (by omega)]; rfl
      have hd3 : s.drop (i + 3) = s.getD (i + 3) 0 :: s.drop (i + 4) := by
        rw [List.drop_eq_getElem_cons (by omega), List.getD_eq_getElem?_getD, List.getElem?_eq_getElem (by omega)]; rfl
      have cp : ∀ w', Calls Try.prog 43 #[.int .u8 ((s.getD (i + 2) 0).toNat : Int)] w' fun e w'' => e = .returned (.int .i64 (m : Int)) ∧ w'' = w' := fun w' => by rw [← hm3]; exact rhex_any _ w' (by omega) (by omega)
      have cq : ∀ w', Calls Try.prog 43 #[.int .u8 ((s.getD (i + 3) 0).toNat : Int)] w' fun e w'' => e = .returned (.int .i64 (n : Int)) ∧ w'' = w' := fun w' => by rw [← hn3]; exact rhex_any _ w' (by omega) (by omega)
      refine Run.ctl rfl ?_
      refine Run.regionD [(0, true), (1, true), (2, true), (3, true), (4, true), (7, true), (8, true), (9, true), (10, true), (5, false), (6, true), (11, false), (12, true), (13, true), (14, false), (15, false), (16, false)] hmix (by kernel_rfl) ?_
      intro w3 hb3 hh3
      repeat' (first | refine RunD.ev rfl rfl rfl ?_ | refine RunD.evc rfl rfl rfl (by first | omega | (simp; done) | (simp; omega) | exact List.length_pos_iff.2 (by assumption)) ?_ | refine RunD.one rfl (RunL.callP fn43 rfl rfl (cp _) (RunL.back trivial ?_)) | refine RunD.one rfl (RunL.callP fn43 rfl rfl (cq _) (RunL.back trivial ?_)) | refine RunD.skip rfl rfl rfl ?_ | refine RunD.skipO rfl rfl rfl ?_)
      refine RunD.tail rfl ?_
      refine RunL.appB elem44 (ho.ext hb3) rfl rfl rfl rfl rfl rfl rfl rfl (by decide) (by simp [Value.oneCell']) (by decide) (by omega) (by omega) ?_
      intro v' w' ho' _
      repeat' (first | refine RunL.ev rfl rfl ?_ | refine RunL.evc rfl rfl (by first | omega | (simp; done) | (simp; omega) | exact List.length_pos_iff.2 (by assumption)) ?_ | refine RunL.nil ?_ | refine Run.ctl rfl ?_ | refine Run.region ?_ | refine Run.condT rfl ?_ | refine Run.condF rfl ?_ | refine RunL.skip rfl rfl ?_ | refine RunL.skip0 rfl ?_ | exact RunL.blkEnd rfl rfl | apply RunL.andB rfl rfl rfl rfl rfl rfl rfl rfl | apply RunL.orB rfl rfl rfl rfl rfl rfl rfl rfl | (refine fun (hb : (_ : Bool) = _) => ?_; try simp at hb))
      exact ih (i + 4) v' (acc ++ [UInt8.ofNat (16 * m + n)]) _ _ ⟨ho'.cast (by simp) (by rw [bcells_append]; simp [bcells]; omega), hil3, by omega, by simp; omega, hR.step (Nm.rstep3 (by rw [hd0, hd1, hd2, hd3]) hm1 hn1) h34⟩ (by omega) ⟨rfl, rfl, rfl, rfl, trivial⟩
    · repeat' (first | refine RunL.ev rfl rfl ?_ | refine RunL.evc rfl rfl (by first | omega | (simp; done) | (simp; omega) | exact List.length_pos_iff.2 (by assumption)) ?_ | refine RunL.nil ?_ | refine Run.ctl rfl ?_ | refine Run.region ?_ | refine Run.condT rfl ?_ | refine Run.condF rfl ?_ | refine RunL.skip rfl rfl ?_ | refine RunL.skip0 rfl ?_ | exact RunL.blkEnd rfl rfl | apply RunL.andB rfl rfl rfl rfl rfl rfl rfl rfl | apply RunL.orB rfl rfl rfl rfl rfl rfl rfl rfl | (refine fun (hb : (_ : Bool) = _) => ?_; try simp at hb))
      refine Run.ret Try.func29 rfl [_, _] ⟨rfl, rfl, trivial⟩ ?_
      refine ⟨?_, ho.below⟩
      rw [Nm.rq_none (hR.none (Nm.rstop h34 (by rw [hd0]; rfl) hno2 ?_))]
      · rfl
      · intro a b q e
        have hl := congrArg List.length e
        simp at hl
        have e1 : s.getD (i + 1) 0 = 120 := by rw [← getD_drop, e]; rfl
        have e2 : s.getD (i + 2) 0 = a := by rw [← getD_drop, e]; rfl
        have e3 : s.getD (i + 3) 0 = b := by rw [← getD_drop, e]; rfl
        rcases Bool.and_eq_false_iff.1 h4 with h | h
        · rcases Bool.and_eq_false_iff.1 h with h | h
          · exfalso
            rcases Bool.and_eq_false_iff.1 h with h | h
            · simp at h; omega
            · rw [e1] at h; simp at h
          · left; rw [← e2]; exact Nm.hexv_none h
        · right; rw [← e3]; exact Nm.hexv_none h
  · have hend : i < s.length → s.getD i 0 = 34 := by
      intro hlt
      rcases Bool.and_eq_false_iff.1 h1 with h | h
      · simp at h; omega
      · have : (s.getD i 0).toNat = 34 := by simp only [bne_eq_false_iff_eq] at h; omega
        exact UInt8.toNat_inj.1 this
    refine Run.ctl rfl ?_
    refine Run.regionQ hmix (by kernel_rfl) ?_
    repeat' (first | refine RunQ.ev rfl rfl ?_ | refine RunQ.evc rfl rfl (by first | omega | (simp; done) | (simp; omega) | exact List.length_pos_iff.2 (by assumption)) ?_ | refine RunQ.bstr (fun w' hw' => ho.isSl.ext hw') rfl rfl rfl rfl rfl ?_ | refine RunQ.callB fn19 rfl rfl (fun w' _ => rquote_any acc w' (by omega)) ?_ | exact RunQ.blkEnd rfl rfl | apply RunQ.andB rfl rfl rfl rfl rfl rfl rfl rfl | apply RunQ.orB rfl rfl rfl rfl rfl rfl rfl rfl | (refine fun (hb : (_ : Bool) = _) => ?_; try simp at hb) | refine RunQ.skip rfl rfl ?_)
    refine RunQ.nil ?_
    intro w3 hb3
    refine Run.cond rfl (fun h4 => ?_) (fun h4 => ?_)
    · repeat' (first | refine RunL.ev rfl rfl ?_ | refine RunL.evc rfl rfl (by first | omega | (simp; done) | (simp; omega) | exact List.length_pos_iff.2 (by assumption)) ?_ | refine RunL.nil ?_ | refine Run.ctl rfl ?_ | refine Run.region ?_ | refine Run.condT rfl ?_ | refine Run.condF rfl ?_ | refine RunL.skip rfl rfl ?_ | refine RunL.skip0 rfl ?_ | exact RunL.blkEnd rfl rfl | apply RunL.andB rfl rfl rfl rfl rfl rfl rfl rfl | apply RunL.orB rfl rfl rfl rfl rfl rfl rfl rfl | (refine fun (hb : (_ : Bool) = _) => ?_; try simp at hb))
      refine Run.ret Try.func29 rfl [_, _] ⟨rfl, rfl, trivial⟩ ?_
      refine ⟨?_, ho.below.trans (hb3.mono ho.below.size)⟩
      rw [Nm.rq_none ?_]
      · rfl
      · by_cases hil : i < s.length
        · have hd0 : s.drop i = 34 :: s.drop (i + 1) := by
            rw [List.drop_eq_getElem_cons hil, ← hend hil, List.getD_eq_getElem?_getD, List.getElem?_eq_getElem hil]; rfl
          rw [hd0] at hR
          refine Nm.rfin_none (m := i + 1 - p) hR (by simp; omega) ?_
          rcases Bool.or_eq_true_iff.1 h4 with h | h
          · simp at h; omega
          · intro e; rw [e] at h; simp at h
        · rw [List.drop_eq_nil_of_le (show s.length ≤ i by omega)] at hR
          exact Nm.rfin_nil hR
    · obtain ⟨h4a, h4b⟩ := Bool.or_eq_false_iff.1 h4
      have hil : i < s.length := by simp at h4a; omega
      repeat' (first | refine RunL.ev rfl rfl ?_ | refine RunL.evc rfl rfl (by first | omega | (simp; done) | (simp; omega) | exact List.length_pos_iff.2 (by assumption)) ?_ | refine RunL.bstr (ho.isSl.ext hb3) rfl rfl rfl rfl rfl ?_ | refine RunL.nil ?_ | refine Run.ctl rfl ?_ | refine Run.region ?_ | refine Run.condT rfl ?_ | refine Run.condF rfl ?_ | refine RunL.skip rfl rfl ?_ | refine RunL.skip0 rfl ?_ | exact RunL.blkEnd rfl rfl | apply RunL.andB rfl rfl rfl rfl rfl rfl rfl rfl | apply RunL.orB rfl rfl rfl rfl rfl rfl rfl rfl | (refine fun (hb : (_ : Bool) = _) => ?_; try simp at hb))
      refine Run.ret Try.func29 rfl [_, _] ⟨rfl, rfl, trivial⟩ ?_
      refine ⟨?_, ho.below.trans (hb3.mono ho.below.size)⟩
      have hq : Nm.quote acc = (s.drop p).take (i + 1 - p) := by simpa using h4b
      have hx : s.drop p = Nm.quote acc ++ (s.drop p).drop (i + 1 - p) := by rw [hq]; exact (List.take_append_drop _ _).symm
      have hql : (Nm.quote acc).length = i + 1 - p := by rw [hq]; simp; omega
      rw [Nm.rq_some hx, hql, show p + (i + 1 - p) = i + 1 by omega]; rfl
end Go.Proofs.Ytmjhhmilgebbbaa
