/- A part of the proof: contracts of the program's functions. Conditions: none. -/
import Derived.Test.YtmjhhmilgebbbaaRows
import Derived.Test.YtmjhhmilgebbbaaGxMem
import Derived.Test.YtmjhhmilgebbbaaNmSpec
import Derived.Test.YtmjhhmilgebbbaaGxDraw
namespace Go.Proofs.Ytmjhhmilgebbbaa
open Go.GX Go.RowKit
attribute [local irreducible] Calls Run RunL RunQ RunD
set_option linter.unusedVariables false
set_option maxRecDepth 100000

theorem fn36 : IsFn Try.prog 36 := ⟨⟨_, _, Try.func36, rfl, by decide⟩⟩
theorem fn21 : IsFn Try.prog 21 := ⟨⟨_, _, Try.func21, rfl, by decide⟩⟩
theorem fn20 : IsFn Try.prog 20 := ⟨⟨_, _, Try.func20, rfl, by decide⟩⟩
theorem fn35 : IsFn Try.prog 35 := ⟨⟨_, _, Try.func35, rfl, by decide⟩⟩
theorem fn43 : IsFn Try.prog 43 := ⟨⟨_, _, Try.func43, rfl, by decide⟩⟩

theorem letter_any (c : Int) (w : World) :
    Calls Try.prog 36 #[.int .i32 c] w fun e w' => e = .returned (.bool (Nm.lett c)) ∧ w' = w := by
  refine calls_of_run Try.func36 rfl (Nat.le_of_ble_eq_true rfl) ?_
  refine Run.sub (σ' := [(0, .int .i32 c)]) ⟨rfl, trivial⟩ ?_
  repeat' (first | refine RunL.ev rfl rfl ?_ | refine RunL.evc rfl rfl (by first | omega | (simp; done) | (simp; omega) | exact List.length_pos_iff.2 (by assumption)) ?_ | refine RunL.nil ?_ | refine Run.ctl rfl ?_ | refine Run.region ?_ | refine Run.condT rfl ?_ | refine Run.condF rfl ?_ | refine RunL.skip rfl rfl ?_ | refine RunL.skip0 rfl ?_ | exact RunL.blkEnd rfl rfl | apply RunL.andB rfl rfl rfl rfl rfl rfl rfl rfl | apply RunL.orB rfl rfl rfl rfl rfl rfl rfl rfl | (refine fun (hb : (_ : Bool) = _) => ?_; try simp at hb))
  refine Run.ret Try.func36 rfl [_] ⟨rfl, trivial⟩ ?_
  exact ⟨rfl, rfl⟩

theorem rvalid_any (s : List UInt8) (w : World) (hs : s.length ≤ 9223372036854775807) :
    Calls Try.prog 21 #[str s] w fun e w' => e = .returned (.bool (Nm.valid s)) ∧ w' = w := by
  refine calls_of_run Try.func21 rfl (Nat.le_of_ble_eq_true rfl) ?_
  refine Run.sub (σ' := [(0, str s)]) ⟨rfl, trivial⟩ ?_
  repeat' (first | refine RunL.ev rfl rfl ?_ | refine RunL.evc rfl rfl (by first | omega | (simp; done) | (simp; omega) | exact List.length_pos_iff.2 (by assumption)) ?_ | refine RunL.nil ?_ | refine Run.ctl rfl ?_ | refine Run.region ?_ | refine Run.condT rfl ?_ | refine Run.condF rfl ?_ | refine RunL.skip rfl rfl ?_ | refine RunL.skip0 rfl ?_ | exact RunL.blkEnd rfl rfl | apply RunL.andB rfl rfl rfl rfl rfl rfl rfl rfl | apply RunL.orB rfl rfl rfl rfl rfl rfl rfl rfl | (refine fun (hb : (_ : Bool) = _) => ?_; try simp at hb))
  refine Run.cond rfl (fun hc => ?_) (fun hc => ?_)
  · repeat' (first | refine RunL.ev rfl rfl ?_ | refine RunL.evc rfl rfl (by first | omega | (simp; done) | (simp; omega) | exact List.length_pos_iff.2 (by assumption)) ?_ | refine RunL.nil ?_ | refine Run.ctl rfl ?_ | refine Run.region ?_ | refine Run.condT rfl ?_ | refine Run.condF rfl ?_ | refine RunL.skip rfl rfl ?_ | refine RunL.skip0 rfl ?_ | exact RunL.blkEnd rfl rfl | apply RunL.andB rfl rfl rfl rfl rfl rfl rfl rfl | apply RunL.orB rfl rfl rfl rfl rfl rfl rfl rfl | (refine fun (hb : (_ : Bool) = _) => ?_; try simp at hb))
    refine Run.ret Try.func21 rfl [_] ⟨rfl, trivial⟩ ?_
    refine ⟨?_, rfl⟩
    unfold Nm.valid; rw [hc]; rfl
  repeat' (first | refine RunL.ev rfl rfl ?_ | refine RunL.evc rfl rfl (by first | omega | (simp; done) | (simp; omega) | exact List.length_pos_iff.2 (by assumption)) ?_ | refine RunL.nil ?_ | refine Run.ctl rfl ?_ | refine Run.region ?_ | refine Run.condT rfl ?_ | refine Run.condF rfl ?_ | refine RunL.skip rfl rfl ?_ | refine RunL.skip0 rfl ?_ | exact RunL.blkEnd rfl rfl | apply RunL.andB rfl rfl rfl rfl rfl rfl rfl rfl | apply RunL.orB rfl rfl rfl rfl rfl rfl rfl rfl | (refine fun (hb : (_ : Bool) = _) => ?_; try simp at hb))
  refine Run.loop (ι := Nat) (fun k w' => w' = w ∧ k ≤ s.length ∧ ∀ j, j < k → Nm.badAt s j = false) (fun k => [(0, str s), (3, .int .i64 (k : Int))]) (fun k => s.length - k) 0 ⟨rfl, Nat.zero_le _, fun _ h => by omega⟩ ⟨rfl, rfl, trivial⟩ ?_
  rintro k w' ⟨rfl, hk, hg⟩ ih
  repeat' (first | refine RunL.ev rfl rfl ?_ | refine RunL.evc rfl rfl (by first | omega | (simp; done) | (simp; omega) | exact List.length_pos_iff.2 (by assumption)) ?_ | refine RunL.nil ?_ | refine Run.ctl rfl ?_ | refine Run.region ?_ | refine Run.condT rfl ?_ | refine Run.condF rfl ?_ | refine RunL.skip rfl rfl ?_ | refine RunL.skip0 rfl ?_ | exact RunL.blkEnd rfl rfl | apply RunL.andB rfl rfl rfl rfl rfl rfl rfl rfl | apply RunL.orB rfl rfl rfl rfl rfl rfl rfl rfl | (refine fun (hb : (_ : Bool) = _) => ?_; try simp at hb))
  refine Run.cond rfl (fun hk2 => ?_) (fun hk2 => ?_)
  · have hlt : k < s.length := by simpa using hk2
    repeat' (first | refine RunL.ev rfl rfl ?_ | refine RunL.evc rfl rfl (by first | omega | (simp; done) | (simp; omega) | exact List.length_pos_iff.2 (by assumption)) ?_ | refine RunL.nil ?_ | refine Run.ctl rfl ?_ | refine Run.region ?_ | refine Run.condT rfl ?_ | refine Run.condF rfl ?_ | refine RunL.skip rfl rfl ?_ | refine RunL.skip0 rfl ?_ | exact RunL.blkEnd rfl rfl | apply RunL.andB rfl rfl rfl rfl rfl rfl rfl rfl | apply RunL.orB rfl rfl rfl rfl rfl rfl rfl rfl | (refine fun (hb : (_ : Bool) = _) => ?_; try simp at hb))
    refine Run.cond rfl (fun hb => ?_) (fun hb => ?_)
    · repeat' (first | refine RunL.ev rfl rfl ?_ | refine RunL.evc rfl rfl (by first | omega | (simp; done) | (simp; omega) | exact List.length_pos_iff.2 (by assumption)) ?_ | refine RunL.nil ?_ | refine Run.ctl rfl ?_ | refine Run.region ?_ | refine Run.condT rfl ?_ | refine Run.condF rfl ?_ | refine RunL.skip rfl rfl ?_ | refine RunL.skip0 rfl ?_ | exact RunL.blkEnd rfl rfl | apply RunL.andB rfl rfl rfl rfl rfl rfl rfl rfl | apply RunL.orB rfl rfl rfl rfl rfl rfl rfl rfl | (refine fun (hb : (_ : Bool) = _) => ?_; try simp at hb))
      refine Run.ret Try.func21 rfl [_] ⟨rfl, trivial⟩ ?_
      refine ⟨?_, rfl⟩
      rw [Nm.valid_false hlt hb]; rfl
    · repeat' (first | refine RunL.ev rfl rfl ?_ | refine RunL.evc rfl rfl (by first | omega | (simp; done) | (simp; omega) | exact List.length_pos_iff.2 (by assumption)) ?_ | refine RunL.nil ?_ | refine Run.ctl rfl ?_ | refine Run.region ?_ | refine Run.condT rfl ?_ | refine Run.condF rfl ?_ | refine RunL.skip rfl rfl ?_ | refine RunL.skip0 rfl ?_ | exact RunL.blkEnd rfl rfl | apply RunL.andB rfl rfl rfl rfl rfl rfl rfl rfl | apply RunL.orB rfl rfl rfl rfl rfl rfl rfl rfl | (refine fun (hb : (_ : Bool) = _) => ?_; try simp at hb))
      exact ih (k + 1) _ _ ⟨rfl, hlt, fun j hj => if e : j = k then e ▸ hb else hg j (by omega)⟩ (by omega) ⟨rfl, rfl, trivial⟩
  · repeat' (first | refine RunL.ev rfl rfl ?_ | refine RunL.evc rfl rfl (by first | omega | (simp; done) | (simp; omega) | exact List.length_pos_iff.2 (by assumption)) ?_ | refine RunL.nil ?_ | refine Run.ctl rfl ?_ | refine Run.region ?_ | refine Run.condT rfl ?_ | refine Run.condF rfl ?_ | refine RunL.skip rfl rfl ?_ | refine RunL.skip0 rfl ?_ | exact RunL.blkEnd rfl rfl | apply RunL.andB rfl rfl rfl rfl rfl rfl rfl rfl | apply RunL.orB rfl rfl rfl rfl rfl rfl rfl rfl | (refine fun (hb : (_ : Bool) = _) => ?_; try simp at hb))
    refine Run.ret Try.func21 rfl [_] ⟨rfl, trivial⟩ ?_
    refine ⟨?_, rfl⟩
    rw [Nm.valid_true hc (fun j hj => hg j (by simp at hk2; omega))]; rfl

theorem get_str (s : List UInt8) (p : Nat) (h : p < s.length) (h' : p < (⟨s.toArray⟩ : ByteArray).size) : (⟨s.toArray⟩ : ByteArray)[p] = s.getD p 0 := by
  rw [List.getD_eq_getElem?_getD, List.getElem?_eq_getElem h]; rfl

theorem dec_bad (s : List UInt8) (p : Nat) (h : p < s.length) :
    Nm.badc ((Utf8.decode ⟨s.toArray⟩ p).1 : Int) ((p : Int) == 0) = Nm.badAt s p ∧ (Nm.badAt s p = false → (Utf8.decode ⟨s.toArray⟩ p).2 = 1) := by
  have hsz : p < (⟨s.toArray⟩ : ByteArray).size := by simpa [ByteArray.size] using h
  have hget := get_str s p h hsz
  by_cases ha : ((⟨s.toArray⟩ : ByteArray)[p]).toNat < 128
  · rw [decode_ascii _ p hsz ha, hget]
    exact ⟨rfl, fun _ => rfl⟩
  · have hh := decode_high ⟨s.toArray⟩ p hsz (by omega)
    rw [hget] at ha
    have big : ∀ (n : Nat) (f : Bool), 128 ≤ n → Nm.badc (n : Int) f = true := by
      intro n f hn
      have e1 : decide ((n : Int) ≤ 122) = false := by simp; omega
      have e2 : ((n : Int) != 95) = true := by simp; omega
      have e3 : ((n : Int) != 45) = true := by simp; omega
      have e4 : decide ((n : Int) > 57) = true := by simp; omega
      simp [Nm.badc, Nm.lett, e1, e2, e3, e4]
    have g1 : Nm.badAt s p = true := big _ _ (by omega)
    rw [g1]
    exact ⟨big _ _ hh.1, fun e => by cases e⟩

theorem valid_any (s : List UInt8) (w : World) (hs : s.length ≤ 9223372036854775807) :
    Calls Try.prog 20 #[str s] w fun e w' => e = .returned (.bool (Nm.valid s)) ∧ Below w.heap.size w w' := by
  refine calls_of_run Try.func20 rfl (Nat.le_of_ble_eq_true rfl) ?_
  refine Run.sub (σ' := [(0, str s)]) ⟨rfl, trivial⟩ ?_
  repeat' (first | refine RunL.ev rfl rfl ?_ | refine RunL.evc rfl rfl (by first | omega | (simp; done) | (simp; omega) | exact List.length_pos_iff.2 (by assumption)) ?_ | refine RunL.nil ?_ | refine Run.ctl rfl ?_ | refine Run.region ?_ | refine Run.condT rfl ?_ | refine Run.condF rfl ?_ | refine RunL.skip rfl rfl ?_ | refine RunL.skip0 rfl ?_ | exact RunL.blkEnd rfl rfl | apply RunL.andB rfl rfl rfl rfl rfl rfl rfl rfl | apply RunL.orB rfl rfl rfl rfl rfl rfl rfl rfl | (refine fun (hb : (_ : Bool) = _) => ?_; try simp at hb))
  refine Run.cond rfl (fun hc => ?_) (fun hc => ?_)
  · repeat' (first | refine RunL.ev rfl rfl ?_ | refine RunL.evc rfl rfl (by first | omega | (simp; done) | (simp; omega) | exact List.length_pos_iff.2 (by assumption)) ?_ | refine RunL.nil ?_ | refine Run.ctl rfl ?_ | refine Run.region ?_ | refine Run.condT rfl ?_ | refine Run.condF rfl ?_ | refine RunL.skip rfl rfl ?_ | refine RunL.skip0 rfl ?_ | exact RunL.blkEnd rfl rfl | apply RunL.andB rfl rfl rfl rfl rfl rfl rfl rfl | apply RunL.orB rfl rfl rfl rfl rfl rfl rfl rfl | (refine fun (hb : (_ : Bool) = _) => ?_; try simp at hb))
    refine Run.ret Try.func20 rfl [_] ⟨rfl, trivial⟩ ?_
    refine ⟨?_, Below.refl _ _⟩
    unfold Nm.valid; rw [hc]; rfl
  repeat' (first | refine RunL.ev rfl rfl ?_ | refine RunL.evc rfl rfl (by first | omega | (simp; done) | (simp; omega) | exact List.length_pos_iff.2 (by assumption)) ?_ | refine RunL.nil ?_ | refine Run.ctl rfl ?_ | refine Run.region ?_ | refine Run.condT rfl ?_ | refine Run.condF rfl ?_ | refine RunL.skip rfl rfl ?_ | refine RunL.skip0 rfl ?_ | exact RunL.blkEnd rfl rfl | apply RunL.andB rfl rfl rfl rfl rfl rfl rfl rfl | apply RunL.orB rfl rfl rfl rfl rfl rfl rfl rfl | (refine fun (hb : (_ : Bool) = _) => ?_; try simp at hb))
  refine RunL.rangeS rfl rfl rfl ?_
  intro w1 hit hb1
  repeat' (first | refine RunL.ev rfl rfl ?_ | refine RunL.evc rfl rfl (by first | omega | (simp; done) | (simp; omega) | exact List.length_pos_iff.2 (by assumption)) ?_ | refine RunL.nil ?_ | refine Run.ctl rfl ?_ | refine Run.region ?_ | refine Run.condT rfl ?_ | refine Run.condF rfl ?_ | refine RunL.skip rfl rfl ?_ | refine RunL.skip0 rfl ?_ | exact RunL.blkEnd rfl rfl | apply RunL.andB rfl rfl rfl rfl rfl rfl rfl rfl | apply RunL.orB rfl rfl rfl rfl rfl rfl rfl rfl | (refine fun (hb : (_ : Bool) = _) => ?_; try simp at hb))
  refine Run.loop (ι := Nat) (fun k w' => Below w.heap.size w w' ∧ w'.heap[w.heap.size]? = some (.stringIter ⟨s.toArray⟩ k) ∧ k ≤ s.length ∧ ∀ j, j < k → Nm.badAt s j = false) (fun k => [(0, str s), (14, .pointer (some ⟨w.heap.size, 0, none⟩))]) (fun k => s.length - k) 0 ⟨hb1, hit, Nat.zero_le _, fun _ h => by omega⟩ ⟨rfl, rfl, trivial⟩ ?_
  rintro k w2 ⟨hb2, hit2, hk, hg⟩ ih
  refine Run.ctl rfl ?_
  refine Run.region ?_
  by_cases hlt : k < s.length
  · refine RunL.nextS hit2 hlt rfl rfl ?_
    intro w3 hit3 hb3 hsz
    have hd := dec_bad s k hlt
    obtain ⟨hd1, hd2⟩ := hd
    repeat' (first | refine RunL.ev rfl rfl ?_ | refine RunL.evc rfl rfl (by first | omega | (simp; done) | (simp; omega) | exact List.length_pos_iff.2 (by assumption)) ?_ | refine RunL.callP fn36 rfl rfl (letter_any _ _) ?_ | refine RunL.nil ?_ | refine Run.ctl rfl ?_ | refine Run.region ?_ | refine Run.condT rfl ?_ | refine Run.condF rfl ?_ | refine RunL.skip rfl rfl ?_ | refine RunL.skip0 rfl ?_ | exact RunL.blkEnd rfl rfl | apply RunL.andB rfl rfl rfl rfl rfl rfl rfl rfl | apply RunL.orB rfl rfl rfl rfl rfl rfl rfl rfl | (refine fun (hb : (_ : Bool) = _) => ?_; try simp at hb))
    refine Run.cond rfl (fun hb => ?_) (fun hb => ?_)
    · repeat' (first | refine RunL.ev rfl rfl ?_ | refine RunL.evc rfl rfl (by first | omega | (simp; done) | (simp; omega) | exact List.length_pos_iff.2 (by assumption)) ?_ | refine RunL.nil ?_ | refine Run.ctl rfl ?_ | refine Run.region ?_ | refine Run.condT rfl ?_ | refine Run.condF rfl ?_ | refine RunL.skip rfl rfl ?_ | refine RunL.skip0 rfl ?_ | exact RunL.blkEnd rfl rfl | apply RunL.andB rfl rfl rfl rfl rfl rfl rfl rfl | apply RunL.orB rfl rfl rfl rfl rfl rfl rfl rfl | (refine fun (hb : (_ : Bool) = _) => ?_; try simp at hb))
      refine Run.ret Try.func20 rfl [_] ⟨rfl, trivial⟩ ?_
      refine ⟨?_, hb2.trans (hb3 _ (Nat.le_refl _))⟩
      rw [Nm.valid_false hlt (by rw [← hd1]; exact hb)]; rfl
    · have hb' : Nm.badAt s k = false := by rw [← hd1]; exact hb
      rw [hd2 hb'] at hit3
      repeat' (first | refine RunL.ev rfl rfl ?_ | refine RunL.evc rfl rfl (by first | omega | (simp; done) | (simp; omega) | exact List.length_pos_iff.2 (by assumption)) ?_ | refine RunL.nil ?_ | refine Run.ctl rfl ?_ | refine Run.region ?_ | refine Run.condT rfl ?_ | refine Run.condF rfl ?_ | refine RunL.skip rfl rfl ?_ | refine RunL.skip0 rfl ?_ | exact RunL.blkEnd rfl rfl | apply RunL.andB rfl rfl rfl rfl rfl rfl rfl rfl | apply RunL.orB rfl rfl rfl rfl rfl rfl rfl rfl | (refine fun (hb : (_ : Bool) = _) => ?_; try simp at hb))
      exact ih (k + 1) _ _ ⟨hb2.trans (hb3 _ (Nat.le_refl _)), hit3, hlt, fun j hj => if e : j = k then e ▸ hb' else hg j (by omega)⟩ (by omega) ⟨rfl, rfl, trivial⟩
  · refine RunL.nextEnd hit2 hlt rfl rfl ?_
    repeat' (first | refine RunL.ev rfl rfl ?_ | refine RunL.evc rfl rfl (by first | omega | (simp; done) | (simp; omega) | exact List.length_pos_iff.2 (by assumption)) ?_ | refine RunL.nil ?_ | refine Run.ctl rfl ?_ | refine Run.region ?_ | refine Run.condT rfl ?_ | refine Run.condF rfl ?_ | refine RunL.skip rfl rfl ?_ | refine RunL.skip0 rfl ?_ | exact RunL.blkEnd rfl rfl | apply RunL.andB rfl rfl rfl rfl rfl rfl rfl rfl | apply RunL.orB rfl rfl rfl rfl rfl rfl rfl rfl | (refine fun (hb : (_ : Bool) = _) => ?_; try simp at hb))
    refine Run.ret Try.func20 rfl [_] ⟨rfl, trivial⟩ ?_
    refine ⟨?_, hb2⟩
    rw [Nm.valid_true hc (fun j hj => hg j (by omega))]; rfl
end Go.Proofs.Ytmjhhmilgebbbaa
