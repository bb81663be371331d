/- A part of the proof: contracts of the program's functions. Conditions: none. -/
import Derived.Test.YtmjhhmilgebbbaaNm6
import Derived.Test.YtmjhhmilgebbbaaNmUtf
import Derived.Test.YtmjhhmilgebbbaaGxDraw
namespace Go.Proofs.Ytmjhhmilgebbbaa
open Go.GX Go.RowKit
attribute [local irreducible] Calls Run RunL RunQ RunD
set_option linter.unusedVariables false
set_option maxRecDepth 100000


theorem part_any (s : List UInt8) (w : World) (hs : s.length ≤ 1000000000) (h0 : 0 < s.length) :
    Calls Try.prog 30 #[str s] w fun e w' => e = .returned (.int .i64 (Nm.partV (Nm.partS s))) ∧ Below w.heap.size w w' := by
  refine calls_of_run Try.func30 rfl (Nat.le_of_ble_eq_true rfl) ?_
  refine Run.sub (σ' := [(0, str s)]) ⟨rfl, trivial⟩ ?_
  repeat' (first | refine RunL.ev rfl rfl ?_ | refine RunL.evc rfl rfl (by first | omega | (simp; done) | (simp; omega) | exact List.length_pos_iff.2 (by assumption)) ?_ | refine RunL.nil ?_ | refine Run.ctl rfl ?_ | refine Run.region ?_ | refine Run.condT rfl ?_ | refine Run.condF rfl ?_ | refine RunL.skip rfl rfl ?_ | refine RunL.skip0 rfl ?_ | exact RunL.blkEnd rfl rfl | apply RunL.andB rfl rfl rfl rfl rfl rfl rfl rfl | apply RunL.orB rfl rfl rfl rfl rfl rfl rfl rfl | (refine fun (hb : (_ : Bool) = _) => ?_; try simp at hb))
  refine Run.cond rfl (fun h => ?_) (fun h => ?_)
  · have h34 : s.getD 0 0 = 34 := by
      have : (s.getD 0 0).toNat = 34 := by simp only [beq_iff_eq] at h; omega
      exact UInt8.toNat_inj.1 this
    repeat' (first | refine RunL.ev rfl rfl ?_ | refine RunL.evc rfl rfl (by first | omega | (simp; done) | (simp; omega) | exact List.length_pos_iff.2 (by assumption)) ?_ | refine RunL.nil ?_ | refine Run.ctl rfl ?_ | refine Run.region ?_ | refine Run.condT rfl ?_ | refine Run.condF rfl ?_ | refine RunL.skip rfl rfl ?_ | refine RunL.skip0 rfl ?_ | exact RunL.blkEnd rfl rfl | apply RunL.andB rfl rfl rfl rfl rfl rfl rfl rfl | apply RunL.orB rfl rfl rfl rfl rfl rfl rfl rfl | (refine fun (hb : (_ : Bool) = _) => ?_; try simp at hb))
    refine RunL.callB fn28 rfl rfl (quoted_any s _ hs) ?_
    intro w1 hb1
    repeat' (first | refine RunL.ev rfl rfl ?_ | refine RunL.evc rfl rfl (by first | omega | (simp; done) | (simp; omega) | exact List.length_pos_iff.2 (by assumption)) ?_ | refine RunL.nil ?_ | refine Run.ctl rfl ?_ | refine Run.region ?_ | refine Run.condT rfl ?_ | refine Run.condF rfl ?_ | refine RunL.skip rfl rfl ?_ | refine RunL.skip0 rfl ?_ | exact RunL.blkEnd rfl rfl | apply RunL.andB rfl rfl rfl rfl rfl rfl rfl rfl | apply RunL.orB rfl rfl rfl rfl rfl rfl rfl rfl | (refine fun (hb : (_ : Bool) = _) => ?_; try simp at hb))
    refine Run.cond rfl (fun h2 => ?_) (fun h2 => ?_)
    · repeat' (first | refine RunL.ev rfl rfl ?_ | refine RunL.evc rfl rfl (by first | omega | (simp; done) | (simp; omega) | exact List.length_pos_iff.2 (by assumption)) ?_ | refine RunL.nil ?_ | refine Run.ctl rfl ?_ | refine Run.region ?_ | refine Run.condT rfl ?_ | refine Run.condF rfl ?_ | refine RunL.skip rfl rfl ?_ | refine RunL.skip0 rfl ?_ | exact RunL.blkEnd rfl rfl | apply RunL.andB rfl rfl rfl rfl rfl rfl rfl rfl | apply RunL.orB rfl rfl rfl rfl rfl rfl rfl rfl | (refine fun (hb : (_ : Bool) = _) => ?_; try simp at hb))
      refine Run.ret Try.func30 rfl [_] ⟨rfl, trivial⟩ ?_
      refine ⟨?_, hb1⟩
      unfold Nm.partS; rw [if_pos h34, if_pos (by simp at h2; omega)]; rfl
    · repeat' (first | refine RunL.ev rfl rfl ?_ | refine RunL.evc rfl rfl (by first | omega | (simp; done) | (simp; omega) | exact List.length_pos_iff.2 (by assumption)) ?_ | refine RunL.nil ?_ | refine Run.ctl rfl ?_ | refine Run.region ?_ | refine Run.condT rfl ?_ | refine Run.condF rfl ?_ | refine RunL.skip rfl rfl ?_ | refine RunL.skip0 rfl ?_ | exact RunL.blkEnd rfl rfl | apply RunL.andB rfl rfl rfl rfl rfl rfl rfl rfl | apply RunL.orB rfl rfl rfl rfl rfl rfl rfl rfl | (refine fun (hb : (_ : Bool) = _) => ?_; try simp at hb))
      refine Run.ret Try.func30 rfl [_] ⟨rfl, trivial⟩ ?_
      refine ⟨?_, hb1⟩
      unfold Nm.partS; rw [if_pos h34, if_neg (by simp at h2; omega)]; rfl
  have h34 : s.getD 0 0 ≠ 34 := by intro e; rw [e] at h; simp at h
  repeat' (first | refine RunL.ev rfl rfl ?_ | refine RunL.evc rfl rfl (by first | omega | (simp; done) | (simp; omega) | exact List.length_pos_iff.2 (by assumption)) ?_ | refine RunL.nil ?_ | refine Run.ctl rfl ?_ | refine Run.region ?_ | refine Run.condT rfl ?_ | refine Run.condF rfl ?_ | refine RunL.skip rfl rfl ?_ | refine RunL.skip0 rfl ?_ | exact RunL.blkEnd rfl rfl | apply RunL.andB rfl rfl rfl rfl rfl rfl rfl rfl | apply RunL.orB rfl rfl rfl rfl rfl rfl rfl rfl | (refine fun (hb : (_ : Bool) = _) => ?_; try simp at hb))
  have h1 := Try.strings_IndexByte ⟨s.toArray⟩ (32 : Int) w
  refine RunL.callP fn44 rfl rfl h1 ?_
  repeat' (first | refine RunL.ev rfl rfl ?_ | refine RunL.evc rfl rfl (by first | omega | (simp; done) | (simp; omega) | exact List.length_pos_iff.2 (by assumption)) ?_ | refine RunL.nil ?_ | refine Run.ctl rfl ?_ | refine Run.region ?_ | refine Run.condT rfl ?_ | refine Run.condF rfl ?_ | refine RunL.skip rfl rfl ?_ | refine RunL.skip0 rfl ?_ | exact RunL.blkEnd rfl rfl | apply RunL.andB rfl rfl rfl rfl rfl rfl rfl rfl | apply RunL.orB rfl rfl rfl rfl rfl rfl rfl rfl | (refine fun (hb : (_ : Bool) = _) => ?_; try simp at hb))
  refine Run.condJ (ι := Nat) (fun k w' => w' = w ∧ k ≤ s.length ∧ (∀ j, j < k → s.getD j 0 ≠ 32) ∧ (k = s.length ∨ s.getD k 0 = 32)) (fun k => [(0, str s), (5, .int .i64 (k : Int))]) rfl ?_ ?_ ?_
  · rintro k w' ⟨e, hk, hne, hst⟩
    subst w'
    repeat' (first | refine RunL.ev rfl rfl ?_ | refine RunL.evc rfl rfl (by first | omega | (simp; done) | (simp; omega) | exact List.length_pos_iff.2 (by assumption)) ?_ | refine RunL.nil ?_ | refine Run.ctl rfl ?_ | refine Run.region ?_ | refine Run.condT rfl ?_ | refine Run.condF rfl ?_ | refine RunL.skip rfl rfl ?_ | refine RunL.skip0 rfl ?_ | exact RunL.blkEnd rfl rfl | apply RunL.andB rfl rfl rfl rfl rfl rfl rfl rfl | apply RunL.orB rfl rfl rfl rfl rfl rfl rfl rfl | (refine fun (hb : (_ : Bool) = _) => ?_; try simp at hb))
    refine Run.cond rfl (fun h2 => ?_) (fun h2 => ?_)
    · repeat' (first | refine RunL.ev rfl rfl ?_ | refine RunL.evc rfl rfl (by first | omega | (simp; done) | (simp; omega) | exact List.length_pos_iff.2 (by assumption)) ?_ | refine RunL.nil ?_ | refine Run.ctl rfl ?_ | refine Run.region ?_ | refine Run.condT rfl ?_ | refine Run.condF rfl ?_ | refine RunL.skip rfl rfl ?_ | refine RunL.skip0 rfl ?_ | exact RunL.blkEnd rfl rfl | apply RunL.andB rfl rfl rfl rfl rfl rfl rfl rfl | apply RunL.orB rfl rfl rfl rfl rfl rfl rfl rfl | (refine fun (hb : (_ : Bool) = _) => ?_; try simp at hb))
      refine Run.ret Try.func30 rfl [_] ⟨rfl, trivial⟩ ?_
      refine ⟨?_, Below.refl _ _⟩
      have : k = 0 := by simp at h2; omega
      subst this
      rw [Nm.partS_stop h34 hk hne (fun j hj => by omega) hst]; rfl
    · have hk0 : k ≠ 0 := by simp at h2; omega
      repeat' (first | refine RunL.ev rfl rfl ?_ | refine RunL.evc rfl rfl (by first | omega | (simp; done) | (simp; omega) | exact List.length_pos_iff.2 (by assumption)) ?_ | refine RunL.nil ?_ | refine Run.ctl rfl ?_ | refine Run.region ?_ | refine Run.condT rfl ?_ | refine Run.condF rfl ?_ | refine RunL.skip rfl rfl ?_ | refine RunL.skip0 rfl ?_ | exact RunL.blkEnd rfl rfl | apply RunL.andB rfl rfl rfl rfl rfl rfl rfl rfl | apply RunL.orB rfl rfl rfl rfl rfl rfl rfl rfl | (refine fun (hb : (_ : Bool) = _) => ?_; try simp at hb))
      have hlk : (s.take k).length = k := by simp; omega
      have hget : ∀ j, j < k → (s.take k).getD j 0 = s.getD j 0 := fun j hj => by
        rw [List.getD_eq_getElem?_getD, List.getD_eq_getElem?_getD, List.getElem?_take_of_lt hj]
      refine RunL.rangeS (s := s.take k) rfl rfl rfl ?_
      intro w1 hit hb1
      repeat' (first | refine RunL.ev rfl rfl ?_ | refine RunL.evc rfl rfl (by first | omega | (simp; done) | (simp; omega) | exact List.length_pos_iff.2 (by assumption)) ?_ | refine RunL.nil ?_ | refine Run.ctl rfl ?_ | refine Run.region ?_ | refine Run.condT rfl ?_ | refine Run.condF rfl ?_ | refine RunL.skip rfl rfl ?_ | refine RunL.skip0 rfl ?_ | exact RunL.blkEnd rfl rfl | apply RunL.andB rfl rfl rfl rfl rfl rfl rfl rfl | apply RunL.orB rfl rfl rfl rfl rfl rfl rfl rfl | (refine fun (hb : (_ : Bool) = _) => ?_; try simp at hb))
      refine Run.loop (ι := Nat) (fun p w' => Below w.heap.size w w' ∧ w'.heap[w.heap.size]? = some (.stringIter ⟨(s.take k).toArray⟩ p) ∧ p ≤ k ∧ ∀ j, j < p → 32 ≤ (s.getD j 0).toNat) (fun p => [(0, str s), (5, .int .i64 (k : Int)), (30, .pointer (some ⟨w.heap.size, 0, none⟩))]) (fun p => k - p) 0 ⟨hb1, hit, Nat.zero_le _, fun _ h => by omega⟩ ⟨rfl, rfl, rfl, trivial⟩ ?_
      rintro p w2 ⟨hb2, hit2, hp, hg⟩ ih
      refine Run.ctl rfl ?_
      refine Run.region ?_
      by_cases hlt : p < k
      · refine RunL.nextS hit2 (by omega) rfl rfl ?_
        intro w3 hit3 hb3 hsz
        obtain ⟨d1, d2, d3, d4⟩ := Nm.dec_cont (s.take k) p (by omega)
        rw [hget p hlt] at d3
        repeat' (first | refine RunL.ev rfl rfl ?_ | refine RunL.evc rfl rfl (by first | omega | (simp; done) | (simp; omega) | exact List.length_pos_iff.2 (by assumption)) ?_ | refine RunL.nil ?_ | refine Run.ctl rfl ?_ | refine Run.region ?_ | refine Run.condT rfl ?_ | refine Run.condF rfl ?_ | refine RunL.skip rfl rfl ?_ | refine RunL.skip0 rfl ?_ | exact RunL.blkEnd rfl rfl | apply RunL.andB rfl rfl rfl rfl rfl rfl rfl rfl | apply RunL.orB rfl rfl rfl rfl rfl rfl rfl rfl | (refine fun (hb : (_ : Bool) = _) => ?_; try simp at hb))
        refine Run.cond rfl (fun h5 => ?_) (fun h5 => ?_)
        · repeat' (first | refine RunL.ev rfl rfl ?_ | refine RunL.evc rfl rfl (by first | omega | (simp; done) | (simp; omega) | exact List.length_pos_iff.2 (by assumption)) ?_ | refine RunL.nil ?_ | refine Run.ctl rfl ?_ | refine Run.region ?_ | refine Run.condT rfl ?_ | refine Run.condF rfl ?_ | refine RunL.skip rfl rfl ?_ | refine RunL.skip0 rfl ?_ | exact RunL.blkEnd rfl rfl | apply RunL.andB rfl rfl rfl rfl rfl rfl rfl rfl | apply RunL.orB rfl rfl rfl rfl rfl rfl rfl rfl | (refine fun (hb : (_ : Bool) = _) => ?_; try simp at hb))
          refine Run.ret Try.func30 rfl [_] ⟨rfl, trivial⟩ ?_
          refine ⟨?_, hb2.trans (hb3 _ (Nat.le_refl _))⟩
          rw [Nm.partS_bad h34 (show p < s.length by omega) (fun j hj => hne j (by omega)) (d3.1 (by simp at h5; omega))]; rfl
        · repeat' (first | refine RunL.ev rfl rfl ?_ | refine RunL.evc rfl rfl (by first | omega | (simp; done) | (simp; omega) | exact List.length_pos_iff.2 (by assumption)) ?_ | refine RunL.nil ?_ | refine Run.ctl rfl ?_ | refine Run.region ?_ | refine Run.condT rfl ?_ | refine Run.condF rfl ?_ | refine RunL.skip rfl rfl ?_ | refine RunL.skip0 rfl ?_ | exact RunL.blkEnd rfl rfl | apply RunL.andB rfl rfl rfl rfl rfl rfl rfl rfl | apply RunL.orB rfl rfl rfl rfl rfl rfl rfl rfl | (refine fun (hb : (_ : Bool) = _) => ?_; try simp at hb))
          refine ih (p + (Utf8.decode ⟨(s.take k).toArray⟩ p).2) _ _ ⟨hb2.trans (hb3 _ (Nat.le_refl _)), hit3, by omega, fun j hj => ?_⟩ (by omega) ⟨rfl, rfl, rfl, trivial⟩
          by_cases h6 : j < p
          · exact hg j h6
          · by_cases h7 : j = p
            · subst h7
              have := mt d3.2 (by simp at h5; omega)
              omega
            · have := d4 (j - p) (by omega) (by omega)
              rw [show p + (j - p) = j by omega, hget j (by omega)] at this
              exact this
      · refine RunL.nextEnd hit2 (by omega) rfl rfl ?_
        repeat' (first | refine RunL.ev rfl rfl ?_ | refine RunL.evc rfl rfl (by first | omega | (simp; done) | (simp; omega) | exact List.length_pos_iff.2 (by assumption)) ?_ | refine RunL.nil ?_ | refine Run.ctl rfl ?_ | refine Run.region ?_ | refine Run.condT rfl ?_ | refine Run.condF rfl ?_ | refine RunL.skip rfl rfl ?_ | refine RunL.skip0 rfl ?_ | exact RunL.blkEnd rfl rfl | apply RunL.andB rfl rfl rfl rfl rfl rfl rfl rfl | apply RunL.orB rfl rfl rfl rfl rfl rfl rfl rfl | (refine fun (hb : (_ : Bool) = _) => ?_; try simp at hb))
        refine Run.ret Try.func30 rfl [_] ⟨rfl, trivial⟩ ?_
        refine ⟨?_, hb2⟩
        rw [Nm.partS_stop h34 hk hne (fun j hj => hg j (by omega)) hst, if_neg hk0]; rfl
  · intro h2 J
    refine Run.region ?_
    repeat' (first | refine RunL.ev rfl rfl ?_ | refine RunL.evc rfl rfl (by first | omega | (simp; done) | (simp; omega) | exact List.length_pos_iff.2 (by assumption)) ?_ | refine RunL.nil ?_ | exact RunL.blkEnd rfl rfl | apply RunL.andB rfl rfl rfl rfl rfl rfl rfl rfl | apply RunL.orB rfl rfl rfl rfl rfl rfl rfl rfl | (refine fun (hb : (_ : Bool) = _) => ?_; try simp at hb) | refine RunL.skip rfl rfl ?_ | refine RunL.skip0 rfl ?_)
    exact J s.length _ _ ⟨rfl, Nat.le_refl _, Nm.ib_none (by simpa using h2), .inl rfl⟩ ⟨rfl, rfl, trivial⟩
  · intro h2 J
    refine Run.skip ?_
    obtain ⟨k, hk⟩ : ∃ k : Nat, Lib.indexByte s 32 = (k : Int) := ⟨(Lib.indexByte s 32).toNat, by simp at h2; omega⟩
    obtain ⟨g1, g2, g3⟩ := Nm.ib_some hk
    exact J k _ _ ⟨rfl, by omega, g3, .inr g2⟩ ⟨rfl, by rw [← hk]; rfl, trivial⟩
end Go.Proofs.Ytmjhhmilgebbbaa
