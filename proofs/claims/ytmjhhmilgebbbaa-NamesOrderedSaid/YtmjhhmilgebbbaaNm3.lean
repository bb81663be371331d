/- A part of the proof: contracts of the program's functions. Conditions: none. -/
import Derived.Test.YtmjhhmilgebbbaaBld
import Derived.Test.YtmjhhmilgebbbaaGxDraw
namespace Go.Proofs.Ytmjhhmilgebbbaa
open Go.GX Go.RowKit
attribute [local irreducible] Calls Run RunL RunQ RunD
set_option linter.unusedVariables false
set_option maxRecDepth 100000


theorem hmix : Try.prog.follows .mixedOrders = true := by kernel_rfl

theorem form_any (c : UInt8) (w : World) :
    Calls Try.prog 33 #[.int .u8 (c.toNat : Int)] w fun e w' => e = .returned (str (Nm.quoteB c)) ∧ Below w.heap.size w w' := by
  have hc256 := c.toNat_lt
  refine calls_of_run Try.func33 rfl (Nat.le_of_ble_eq_true rfl) ?_
  refine Run.sub (σ' := [(0, .int .u8 (c.toNat : Int))]) ⟨rfl, trivial⟩ ?_
  repeat' (first | refine RunL.ev rfl rfl ?_ | refine RunL.evc rfl rfl (by first | omega | (simp; done) | (simp; omega) | exact List.length_pos_iff.2 (by assumption)) ?_ | refine RunL.nil ?_ | refine Run.ctl rfl ?_ | refine Run.region ?_ | refine Run.condT rfl ?_ | refine Run.condF rfl ?_ | refine RunL.skip rfl rfl ?_ | refine RunL.skip0 rfl ?_ | exact RunL.blkEnd rfl rfl | apply RunL.andB rfl rfl rfl rfl rfl rfl rfl rfl | apply RunL.orB rfl rfl rfl rfl rfl rfl rfl rfl | (refine fun (hb : (_ : Bool) = _) => ?_; try simp at hb))
  refine Run.cond rfl (fun hc => ?_) (fun hc => ?_)
  · repeat' (first | refine RunL.ev rfl rfl ?_ | refine RunL.evc rfl rfl (by first | omega | (simp; done) | (simp; omega) | exact List.length_pos_iff.2 (by assumption)) ?_ | refine RunL.nil ?_ | refine Run.ctl rfl ?_ | refine Run.region ?_ | refine Run.condT rfl ?_ | refine Run.condF rfl ?_ | refine RunL.skip rfl rfl ?_ | refine RunL.skip0 rfl ?_ | exact RunL.blkEnd rfl rfl | apply RunL.andB rfl rfl rfl rfl rfl rfl rfl rfl | apply RunL.orB rfl rfl rfl rfl rfl rfl rfl rfl | (refine fun (hb : (_ : Bool) = _) => ?_; try simp at hb))
    refine RunL.bslice elem44 rfl rfl rfl rfl rfl (by decide) (by decide) ?_
    intro w1 v1 ho1 _ hb1
    refine RunL.bstr (l' := [c]) (IsSl_own ho1) rfl rfl rfl rfl rfl ?_
    repeat' (first | refine RunL.ev rfl rfl ?_ | refine RunL.evc rfl rfl (by first | omega | (simp; done) | (simp; omega) | exact List.length_pos_iff.2 (by assumption)) ?_ | refine RunL.nil ?_ | refine Run.ctl rfl ?_ | refine Run.region ?_ | refine Run.condT rfl ?_ | refine Run.condF rfl ?_ | refine RunL.skip rfl rfl ?_ | refine RunL.skip0 rfl ?_ | exact RunL.blkEnd rfl rfl | apply RunL.andB rfl rfl rfl rfl rfl rfl rfl rfl | apply RunL.orB rfl rfl rfl rfl rfl rfl rfl rfl | (refine fun (hb : (_ : Bool) = _) => ?_; try simp at hb))
    refine Run.ret Try.func33 rfl [_] ⟨rfl, trivial⟩ ?_
    refine ⟨?_, hb1⟩
    rw [Nm.quoteB_1 hc]; rfl
  repeat' (first | refine RunL.ev rfl rfl ?_ | refine RunL.evc rfl rfl (by first | omega | (simp; done) | (simp; omega) | exact List.length_pos_iff.2 (by assumption)) ?_ | refine RunL.nil ?_ | refine Run.ctl rfl ?_ | refine Run.region ?_ | refine Run.condT rfl ?_ | refine Run.condF rfl ?_ | refine RunL.skip rfl rfl ?_ | refine RunL.skip0 rfl ?_ | exact RunL.blkEnd rfl rfl | apply RunL.andB rfl rfl rfl rfl rfl rfl rfl rfl | apply RunL.orB rfl rfl rfl rfl rfl rfl rfl rfl | (refine fun (hb : (_ : Bool) = _) => ?_; try simp at hb))
  refine Run.cond rfl (fun hd => ?_) (fun hd => ?_)
  · refine Run.ctl rfl ?_
    refine Run.regionQ hmix (by kernel_rfl) ?_
    have ha := Nm.and15 c.toNat
    repeat' (first | refine RunQ.ev rfl rfl ?_ | refine RunQ.evc rfl rfl (by first | omega | (simp; done) | (simp; omega) | exact List.length_pos_iff.2 (by assumption)) ?_ | exact RunQ.blkEnd rfl rfl | apply RunQ.andB rfl rfl rfl rfl rfl rfl rfl rfl | apply RunQ.orB rfl rfl rfl rfl rfl rfl rfl rfl | (refine fun (hb : (_ : Bool) = _) => ?_; try simp at hb) | refine RunQ.skip rfl rfl ?_)
    refine RunQ.nil ?_
    intro w1 hb1
    repeat' (first | refine RunL.ev rfl rfl ?_ | refine RunL.evc rfl rfl (by first | omega | (simp; done) | (simp; omega) | exact List.length_pos_iff.2 (by assumption)) ?_ | refine RunL.nil ?_ | refine Run.ctl rfl ?_ | refine Run.region ?_ | refine Run.condT rfl ?_ | refine Run.condF rfl ?_ | refine RunL.skip rfl rfl ?_ | refine RunL.skip0 rfl ?_ | exact RunL.blkEnd rfl rfl | apply RunL.andB rfl rfl rfl rfl rfl rfl rfl rfl | apply RunL.orB rfl rfl rfl rfl rfl rfl rfl rfl | (refine fun (hb : (_ : Bool) = _) => ?_; try simp at hb))
    refine Run.ret Try.func33 rfl [_] ⟨rfl, trivial⟩ ?_
    refine ⟨?_, hb1⟩
    have e1 := Nm.hexslice (c.toNat / 16) (by omega)
    have e2 := Nm.hexslice (c.toNat &&& 15) (by omega)
    rw [Nm.quoteB_2 hc hd]
    show Ending.returned (str (([92, 120] ++ List.take (c.toNat / 16 + 1 - c.toNat / 16) (List.drop (c.toNat / 16) Nm.hexdigs)) ++ List.take ((c.toNat &&& 15) + 1 - (c.toNat &&& 15)) (List.drop (c.toNat &&& 15) Nm.hexdigs))) = _
    rw [e1, e2, ha, Nm.hexd_mod]
    rfl
  · repeat' (first | refine RunL.ev rfl rfl ?_ | refine RunL.evc rfl rfl (by first | omega | (simp; done) | (simp; omega) | exact List.length_pos_iff.2 (by assumption)) ?_ | refine RunL.nil ?_ | refine Run.ctl rfl ?_ | refine Run.region ?_ | refine Run.condT rfl ?_ | refine Run.condF rfl ?_ | refine RunL.skip rfl rfl ?_ | refine RunL.skip0 rfl ?_ | exact RunL.blkEnd rfl rfl | apply RunL.andB rfl rfl rfl rfl rfl rfl rfl rfl | apply RunL.orB rfl rfl rfl rfl rfl rfl rfl rfl | (refine fun (hb : (_ : Bool) = _) => ?_; try simp at hb))
    refine RunL.bslice elem44 rfl rfl rfl rfl rfl (by decide) (by decide) ?_
    intro w1 v1 ho1 _ hb1
    refine RunL.bstr (l' := [c]) (IsSl_own ho1) rfl rfl rfl rfl rfl ?_
    repeat' (first | refine RunL.ev rfl rfl ?_ | refine RunL.evc rfl rfl (by first | omega | (simp; done) | (simp; omega) | exact List.length_pos_iff.2 (by assumption)) ?_ | refine RunL.nil ?_ | refine Run.ctl rfl ?_ | refine Run.region ?_ | refine Run.condT rfl ?_ | refine Run.condF rfl ?_ | refine RunL.skip rfl rfl ?_ | refine RunL.skip0 rfl ?_ | exact RunL.blkEnd rfl rfl | apply RunL.andB rfl rfl rfl rfl rfl rfl rfl rfl | apply RunL.orB rfl rfl rfl rfl rfl rfl rfl rfl | (refine fun (hb : (_ : Bool) = _) => ?_; try simp at hb))
    refine Run.ret Try.func33 rfl [_] ⟨rfl, trivial⟩ ?_
    refine ⟨?_, hb1⟩
    rw [Nm.quoteB_3 hc hd]; rfl

theorem quote_any (s : List UInt8) (w : World) (hs : s.length ≤ 1000000000) :
    Calls Try.prog 18 #[str s] w fun e w' => e = .returned (str (Nm.quote s)) ∧ Below w.heap.size w w' := by
  refine calls_of_run Try.func18 rfl (Nat.le_of_ble_eq_true rfl) ?_
  refine Run.sub (σ' := [(0, str s)]) ⟨rfl, trivial⟩ ?_
  repeat' (first | refine RunL.ev rfl rfl ?_ | refine RunL.evc rfl rfl (by first | omega | (simp; done) | (simp; omega) | exact List.length_pos_iff.2 (by assumption)) ?_ | refine RunL.nil ?_ | refine Run.ctl rfl ?_ | refine Run.region ?_ | refine Run.condT rfl ?_ | refine Run.condF rfl ?_ | refine RunL.skip rfl rfl ?_ | refine RunL.skip0 rfl ?_ | exact RunL.blkEnd rfl rfl | apply RunL.andB rfl rfl rfl rfl rfl rfl rfl rfl | apply RunL.orB rfl rfl rfl rfl rfl rfl rfl rfl | (refine fun (hb : (_ : Bool) = _) => ?_; try simp at hb))
  refine RunL.alloc rfl rfl ?_
  intro w1 hB1 hb1 _
  have hI1 := fresh_IsB w w1 hB1
  repeat' (first | refine RunL.ev rfl rfl ?_ | refine RunL.evc rfl rfl (by first | omega | (simp; done) | (simp; omega) | exact List.length_pos_iff.2 (by assumption)) ?_ | refine RunL.nil ?_ | refine Run.ctl rfl ?_ | refine Run.region ?_ | refine Run.condT rfl ?_ | refine Run.condF rfl ?_ | refine RunL.skip rfl rfl ?_ | refine RunL.skip0 rfl ?_ | exact RunL.blkEnd rfl rfl | apply RunL.andB rfl rfl rfl rfl rfl rfl rfl rfl | apply RunL.orB rfl rfl rfl rfl rfl rfl rfl rfl | (refine fun (hb : (_ : Bool) = _) => ?_; try simp at hb))
  refine RunL.call fn32 rfl rfl ((writeString_any w _ [] [34] _ hI1 hb1 (by simp) (by simp)).mono ?_)
  rintro e w2 ⟨rfl, hI2, hb2⟩
  refine ⟨_, rfl, ?_⟩
  repeat' (first | refine RunL.ev rfl rfl ?_ | refine RunL.evc rfl rfl (by first | omega | (simp; done) | (simp; omega) | exact List.length_pos_iff.2 (by assumption)) ?_ | refine RunL.nil ?_ | refine Run.ctl rfl ?_ | refine Run.region ?_ | refine Run.condT rfl ?_ | refine Run.condF rfl ?_ | refine RunL.skip rfl rfl ?_ | refine RunL.skip0 rfl ?_ | exact RunL.blkEnd rfl rfl | apply RunL.andB rfl rfl rfl rfl rfl rfl rfl rfl | apply RunL.orB rfl rfl rfl rfl rfl rfl rfl rfl | (refine fun (hb : (_ : Bool) = _) => ?_; try simp at hb))
  refine Run.loop (ι := Nat) (fun k w' => IsB w w.heap.size (Nm.qacc s k) w' ∧ Below w.heap.size w w' ∧ k ≤ s.length) (fun k => [(0, str s), (3, .pointer (some ⟨w.heap.size, 0, none⟩)), (7, .int .i64 (s.length : Int)), (8, .int .i64 (k : Int))]) (fun k => s.length - k) 0 ⟨hI2, hb2, Nat.zero_le _⟩ ⟨rfl, rfl, rfl, rfl, trivial⟩ ?_
  rintro k w3 ⟨hI, hb, hk⟩ ih
  have hql := Nm.qacc_len s k
  repeat' (first | refine RunL.ev rfl rfl ?_ | refine RunL.evc rfl rfl (by first | omega | (simp; done) | (simp; omega) | exact List.length_pos_iff.2 (by assumption)) ?_ | refine RunL.nil ?_ | refine Run.ctl rfl ?_ | refine Run.region ?_ | refine Run.condT rfl ?_ | refine Run.condF rfl ?_ | refine RunL.skip rfl rfl ?_ | refine RunL.skip0 rfl ?_ | exact RunL.blkEnd rfl rfl | apply RunL.andB rfl rfl rfl rfl rfl rfl rfl rfl | apply RunL.orB rfl rfl rfl rfl rfl rfl rfl rfl | (refine fun (hb : (_ : Bool) = _) => ?_; try simp at hb))
  refine Run.cond rfl (fun hk2 => ?_) (fun hk2 => ?_)
  · have hlt : k < s.length := by simpa using hk2
    have hqs := Nm.qacc_succ s k hlt
    have hq4 := Nm.quoteB_len (s.getD k 0)
    repeat' (first | refine RunL.ev rfl rfl ?_ | refine RunL.evc rfl rfl (by first | omega | (simp; done) | (simp; omega) | exact List.length_pos_iff.2 (by assumption)) ?_ | refine RunL.nil ?_ | refine Run.ctl rfl ?_ | refine Run.region ?_ | refine Run.condT rfl ?_ | refine Run.condF rfl ?_ | refine RunL.skip rfl rfl ?_ | refine RunL.skip0 rfl ?_ | exact RunL.blkEnd rfl rfl | apply RunL.andB rfl rfl rfl rfl rfl rfl rfl rfl | apply RunL.orB rfl rfl rfl rfl rfl rfl rfl rfl | (refine fun (hb : (_ : Bool) = _) => ?_; try simp at hb))
    refine RunL.callB fn33 rfl rfl (form_any (s.getD k 0) _) ?_
    intro w4 hb4
    refine RunL.call fn32 rfl rfl ((writeString_any w _ (Nm.qacc s k) (Nm.quoteB (s.getD k 0)) _ (isB_ext hI hb hb4) (hb.trans (hb4.mono hb.size)) (by omega) (by omega)).mono ?_)
    rintro e w5 ⟨rfl, hI5, hb5⟩
    refine ⟨_, rfl, ?_⟩
    repeat' (first | refine RunL.ev rfl rfl ?_ | refine RunL.evc rfl rfl (by first | omega | (simp; done) | (simp; omega) | exact List.length_pos_iff.2 (by assumption)) ?_ | refine RunL.nil ?_ | refine Run.ctl rfl ?_ | refine Run.region ?_ | refine Run.condT rfl ?_ | refine Run.condF rfl ?_ | refine RunL.skip rfl rfl ?_ | refine RunL.skip0 rfl ?_ | exact RunL.blkEnd rfl rfl | apply RunL.andB rfl rfl rfl rfl rfl rfl rfl rfl | apply RunL.orB rfl rfl rfl rfl rfl rfl rfl rfl | (refine fun (hb : (_ : Bool) = _) => ?_; try simp at hb))
    exact ih (k + 1) _ _ ⟨by rw [hqs]; exact hI5, hb5, hlt⟩ (by omega) ⟨rfl, rfl, rfl, rfl, trivial⟩
  · have hke : k = s.length := by simp at hk2; omega
    subst hke
    repeat' (first | refine RunL.ev rfl rfl ?_ | refine RunL.evc rfl rfl (by first | omega | (simp; done) | (simp; omega) | exact List.length_pos_iff.2 (by assumption)) ?_ | refine RunL.nil ?_ | refine Run.ctl rfl ?_ | refine Run.region ?_ | refine Run.condT rfl ?_ | refine Run.condF rfl ?_ | refine RunL.skip rfl rfl ?_ | refine RunL.skip0 rfl ?_ | exact RunL.blkEnd rfl rfl | apply RunL.andB rfl rfl rfl rfl rfl rfl rfl rfl | apply RunL.orB rfl rfl rfl rfl rfl rfl rfl rfl | (refine fun (hb : (_ : Bool) = _) => ?_; try simp at hb))
    refine RunL.call fn32 rfl rfl ((writeString_any w _ (Nm.qacc s s.length) [34] _ hI hb (by omega) (by simp)).mono ?_)
    rintro e w5 ⟨rfl, hI5, hb5⟩
    refine ⟨_, rfl, ?_⟩
    rw [← Nm.quote_eq] at hI5
    repeat' (first | refine RunL.ev rfl rfl ?_ | refine RunL.evc rfl rfl (by first | omega | (simp; done) | (simp; omega) | exact List.length_pos_iff.2 (by assumption)) ?_ | refine RunL.nil ?_ | refine Run.ctl rfl ?_ | refine Run.region ?_ | refine Run.condT rfl ?_ | refine Run.condF rfl ?_ | refine RunL.skip rfl rfl ?_ | refine RunL.skip0 rfl ?_ | exact RunL.blkEnd rfl rfl | apply RunL.andB rfl rfl rfl rfl rfl rfl rfl rfl | apply RunL.orB rfl rfl rfl rfl rfl rfl rfl rfl | (refine fun (hb : (_ : Bool) = _) => ?_; try simp at hb))
    refine RunL.call fn34 rfl rfl ((builderString_any w _ _ _ hI5 hb5).mono ?_)
    rintro e w6 ⟨rfl, hb6⟩
    refine ⟨_, rfl, ?_⟩
    repeat' (first | refine RunL.ev rfl rfl ?_ | refine RunL.evc rfl rfl (by first | omega | (simp; done) | (simp; omega) | exact List.length_pos_iff.2 (by assumption)) ?_ | refine RunL.nil ?_ | refine Run.ctl rfl ?_ | refine Run.region ?_ | refine Run.condT rfl ?_ | refine Run.condF rfl ?_ | refine RunL.skip rfl rfl ?_ | refine RunL.skip0 rfl ?_ | exact RunL.blkEnd rfl rfl | apply RunL.andB rfl rfl rfl rfl rfl rfl rfl rfl | apply RunL.orB rfl rfl rfl rfl rfl rfl rfl rfl | (refine fun (hb : (_ : Bool) = _) => ?_; try simp at hb))
    refine Run.ret Try.func18 rfl [_] ⟨rfl, trivial⟩ ?_
    exact ⟨rfl, hb6⟩
end Go.Proofs.Ytmjhhmilgebbbaa
