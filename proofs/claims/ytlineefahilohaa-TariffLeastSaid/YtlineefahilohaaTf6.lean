/- A part of the proof: contracts of the program's functions. Conditions: none. -/
import Derived.Test.YtlineefahilohaaTf5
import Derived.Test.YtlineefahilohaaGxDraw
namespace Go.Proofs.Ytlineefahilohaa
open Go.GX Go.RowKit
attribute [local irreducible] Calls Run RunL RunQ RunD HR HL HD blkC ownC mapC Rd slicesC iterC RdM
set_option linter.unusedVariables false
set_option linter.unusedSectionVars false
set_option linter.unusedSimpArgs false
set_option maxRecDepth 100000

open Tf
theorem fn10 : IsFn Try.prog 10 := ⟨⟨_, _, Try.func10, rfl, by decide⟩⟩

theorem rbands_any (t : Tr) (vb vs : Value) (w : World) (hv : OkV w t vb vs) :
    Calls Try.prog 15 #[tfV vb vs t.fu] w fun e w' => ∃ v, e = .returned v ∧ Sat (base w) [ownC v 3 1 (bands t).length (cellsOf iC (bands t))] w' := by
  have hsl := slots_le t
  have hdl : (bands t).length ≤ slots t := by
    by_cases h : check t = 0
    · rw [bands_ok h, slots_ok h]; exact dif_len _
    · rw [bands_no h]; simp
  refine calls_hr Try.func15 rfl (Nat.le_of_ble_eq_true rfl) ?_
  refine HR.sub (σ' := [(0, tfV vb vs t.fu)]) ⟨rfl, trivial⟩ ?_
  repeat' (first | (refine HL.isOp ?_; first | refine HL.ev rfl rfl ?_ | refine HL.evc rfl rfl (by first | omega | simp | (simp; omega)) ?_ | (refine HL.isLoad ?_; first | refine HL.L 0 rfl rfl rfl rfl ?_ | refine HL.L 1 rfl rfl rfl rfl ?_ | refine HL.L 2 rfl rfl rfl rfl ?_ | refine HL.L 3 rfl rfl rfl rfl ?_) | (refine HL.isStore ?_; first | refine HL.S 0 rfl rfl rfl rfl rfl ?_ | refine HL.S 1 rfl rfl rfl rfl rfl ?_ | refine HL.S 2 rfl rfl rfl rfl rfl ?_ | refine HL.S 3 rfl rfl rfl rfl rfl ?_) | refine HL.build rfl rfl ?_ | refine HL.field rfl rfl ?_ | (refine HL.box rfl rfl ?_; intro bk) | (refine HL.alloc rfl rfl ?_; intro bk) | refine HL.skip rfl rfl ?_ | refine HL.skip0 rfl ?_ | apply HL.andB rfl rfl rfl rfl rfl rfl rfl rfl | apply HL.orB rfl rfl rfl rfl rfl rfl rfl rfl) | refine HL.nil ?_ | refine HR.ctl rfl ?_ | refine HR.region ?_ | refine HR.condT rfl ?_ | refine HR.condF rfl ?_ | exact HL.blkEnd rfl rfl Ent.refl | (refine fun (hb : (_ : Bool) = _) => ?_; try simp at hb))
  refine HR.nilC 3 1 ?_
  refine HR.loop2 (α := Nat) (β := Value) (fun i v => i ≤ slots t) (fun i v => [(1, .pointer (some ⟨bk, 0, none⟩)), (3, v), (4, .int .i64 (lst (bands t) i)), (5, .int .i64 (i : Int))]) (fun i v => [ownC v 3 1 ((bands t).take i).length (cellsOf iC ((bands t).take i)), blkC bk [vb, vs, .int .i64 t.fu] 24]) (fun i v => slots t - i) 0 (.slice none 0 0) (Nat.zero_le _) ⟨rfl, rfl, rfl, rfl, trivial⟩ Ent.refl ?_
  intro i v hi ih
  repeat' (first | (refine HL.isOp ?_; first | refine HL.ev rfl rfl ?_ | refine HL.evc rfl rfl (by first | omega | simp | (simp; omega)) ?_ | refine HL.callB fn32 rfl rfl (fun w hw => slots_any t vb vs w (hv.at hw)) ?_ | (refine HL.isLoad ?_; first | refine HL.L 0 rfl rfl rfl rfl ?_ | refine HL.L 1 rfl rfl rfl rfl ?_ | refine HL.L 2 rfl rfl rfl rfl ?_ | refine HL.L 3 rfl rfl rfl rfl ?_) | (refine HL.isStore ?_; first | refine HL.S 0 rfl rfl rfl rfl rfl ?_ | refine HL.S 1 rfl rfl rfl rfl rfl ?_ | refine HL.S 2 rfl rfl rfl rfl rfl ?_ | refine HL.S 3 rfl rfl rfl rfl rfl ?_) | refine HL.build rfl rfl ?_ | refine HL.field rfl rfl ?_ | (refine HL.box rfl rfl ?_; intro bk) | (refine HL.alloc rfl rfl ?_; intro bk) | refine HL.skip rfl rfl ?_ | refine HL.skip0 rfl ?_ | apply HL.andB rfl rfl rfl rfl rfl rfl rfl rfl | apply HL.orB rfl rfl rfl rfl rfl rfl rfl rfl) | refine HL.nil ?_ | refine HR.ctl rfl ?_ | refine HR.region ?_ | refine HR.condT rfl ?_ | refine HR.condF rfl ?_ | exact HL.blkEnd rfl rfl Ent.refl | (refine fun (hb : (_ : Bool) = _) => ?_; try simp at hb))
  refine HR.cond rfl (fun h => ?_) (fun h => ?_)
  · have hlt : i < slots t := by have := of_decide_eq_true h; omega
    have h0 := ok_slots hlt
    have ho := ok_of h0
    have hse := slots_ok h0
    have n2 := ho.n2
    have hnx := nxt_at (fun x hx => (ho.pb x hx).1) i
    rw [← bands_ok h0] at hnx
    repeat' (first | (refine HL.isOp ?_; first | refine HL.ev rfl rfl ?_ | refine HL.evc rfl rfl (by first | omega | simp | (simp; omega)) ?_ | (refine HL.isLoad ?_; first | refine HL.L 0 rfl rfl rfl rfl ?_ | refine HL.L 1 rfl rfl rfl rfl ?_ | refine HL.L 2 rfl rfl rfl rfl ?_ | refine HL.L 3 rfl rfl rfl rfl ?_) | (refine HL.isStore ?_; first | refine HL.S 0 rfl rfl rfl rfl rfl ?_ | refine HL.S 1 rfl rfl rfl rfl rfl ?_ | refine HL.S 2 rfl rfl rfl rfl rfl ?_ | refine HL.S 3 rfl rfl rfl rfl rfl ?_) | refine HL.build rfl rfl ?_ | refine HL.field rfl rfl ?_ | (refine HL.box rfl rfl ?_; intro bk) | (refine HL.alloc rfl rfl ?_; intro bk) | refine HL.skip rfl rfl ?_ | refine HL.skip0 rfl ?_ | apply HL.andB rfl rfl rfl rfl rfl rfl rfl rfl | apply HL.orB rfl rfl rfl rfl rfl rfl rfl rfl) | refine HL.nil ?_ | refine HR.ctl rfl ?_ | refine HR.region ?_ | refine HR.condT rfl ?_ | refine HR.condF rfl ?_ | exact HL.blkEnd rfl rfl Ent.refl | (refine fun (hb : (_ : Bool) = _) => ?_; try simp at hb))
    refine HR.setV 6 (v' := .int .i64 (nxt (lst (bands t) i) (t.b.take 0))) rfl (by simp [nxt]) ?_
    refine HR.loop (ι := Nat) (fun k => k ≤ t.b.length) (fun k => [(1, .pointer (some ⟨bk, 0, none⟩)), (3, v), (4, .int .i64 (lst (bands t) i)), (5, .int .i64 (i : Int)), (6, .int .i64 (nxt (lst (bands t) i) (t.b.take k))), (7, .int .i64 (k : Int))]) (fun k => [ownC v 3 1 ((bands t).take i).length (cellsOf iC ((bands t).take i)), blkC bk [vb, vs, .int .i64 t.fu] 24]) (fun k => t.b.length - k) 0 (Nat.zero_le _) ⟨rfl, rfl, rfl, rfl, rfl, rfl, trivial⟩ Ent.refl ?_
    intro k hk ih2
    repeat' (first | (refine HL.isOp ?_; first | refine HL.ev rfl rfl ?_ | refine HL.evc rfl rfl (by first | omega | simp | (simp; omega)) ?_ | refine HL.callB fn32 rfl rfl (fun w hw => slots_any t vb vs w (hv.at hw)) ?_ | (refine HL.isLoad ?_; first | refine HL.L 0 rfl rfl rfl rfl ?_ | refine HL.L 1 rfl rfl rfl rfl ?_ | refine HL.L 2 rfl rfl rfl rfl ?_ | refine HL.L 3 rfl rfl rfl rfl ?_) | (refine HL.isStore ?_; first | refine HL.S 0 rfl rfl rfl rfl rfl ?_ | refine HL.S 1 rfl rfl rfl rfl rfl ?_ | refine HL.S 2 rfl rfl rfl rfl rfl ?_ | refine HL.S 3 rfl rfl rfl rfl rfl ?_) | refine HL.build rfl rfl ?_ | refine HL.field rfl rfl ?_ | (refine HL.box rfl rfl ?_; intro bk) | (refine HL.alloc rfl rfl ?_; intro bk) | refine HL.skip rfl rfl ?_ | refine HL.skip0 rfl ?_ | apply HL.andB rfl rfl rfl rfl rfl rfl rfl rfl | apply HL.orB rfl rfl rfl rfl rfl rfl rfl rfl) | refine HL.nil ?_ | refine HR.ctl rfl ?_ | refine HR.region ?_ | refine HR.condT rfl ?_ | refine HR.condF rfl ?_ | exact HL.blkEnd rfl rfl Ent.refl | (refine fun (hb : (_ : Bool) = _) => ?_; try simp at hb))
    refine HR.cond rfl (fun h2 => ?_) (fun h2 => ?_)
    · have hkl : k < t.b.length := by have := of_decide_eq_true h2; omega
      obtain ⟨x, hx⟩ := getSome hkl
      repeat' (first | (refine HL.isOp ?_; first | refine HL.ev rfl rfl ?_ | refine HL.evc rfl rfl (by first | omega | simp | (simp; omega)) ?_ | refine HL.idxR (Rd.arg hv.b) elemI k rfl rfl rfl rfl hkl ?_ | refine HL.loadI (Rd.arg hv.b) rfl rfl rfl rfl (cellsOf_get1 hx) ?_ | (refine HL.isLoad ?_; first | refine HL.L 0 rfl rfl rfl rfl ?_ | refine HL.L 1 rfl rfl rfl rfl ?_ | refine HL.L 2 rfl rfl rfl rfl ?_ | refine HL.L 3 rfl rfl rfl rfl ?_) | (refine HL.isStore ?_; first | refine HL.S 0 rfl rfl rfl rfl rfl ?_ | refine HL.S 1 rfl rfl rfl rfl rfl ?_ | refine HL.S 2 rfl rfl rfl rfl rfl ?_ | refine HL.S 3 rfl rfl rfl rfl rfl ?_) | refine HL.build rfl rfl ?_ | refine HL.field rfl rfl ?_ | (refine HL.box rfl rfl ?_; intro bk) | (refine HL.alloc rfl rfl ?_; intro bk) | refine HL.skip rfl rfl ?_ | refine HL.skip0 rfl ?_ | apply HL.andB rfl rfl rfl rfl rfl rfl rfl rfl | apply HL.orB rfl rfl rfl rfl rfl rfl rfl rfl) | refine HL.nil ?_ | refine HR.ctl rfl ?_ | refine HR.region ?_ | refine HR.condT rfl ?_ | refine HR.condF rfl ?_ | exact HL.blkEnd rfl rfl Ent.refl | (refine fun (hb : (_ : Bool) = _) => ?_; try simp at hb))
      refine HR.cond rfl (fun h3 => ?_) (fun h3 => ?_)
      · repeat' (first | (refine HL.isOp ?_; first | refine HL.ev rfl rfl ?_ | refine HL.evc rfl rfl (by first | omega | simp | (simp; omega)) ?_ | refine HL.idxR (Rd.arg hv.b) elemI k rfl rfl rfl rfl hkl ?_ | refine HL.loadI (Rd.arg hv.b) rfl rfl rfl rfl (cellsOf_get1 hx) ?_ | (refine HL.isLoad ?_; first | refine HL.L 0 rfl rfl rfl rfl ?_ | refine HL.L 1 rfl rfl rfl rfl ?_ | refine HL.L 2 rfl rfl rfl rfl ?_ | refine HL.L 3 rfl rfl rfl rfl ?_) | (refine HL.isStore ?_; first | refine HL.S 0 rfl rfl rfl rfl rfl ?_ | refine HL.S 1 rfl rfl rfl rfl rfl ?_ | refine HL.S 2 rfl rfl rfl rfl rfl ?_ | refine HL.S 3 rfl rfl rfl rfl rfl ?_) | refine HL.build rfl rfl ?_ | refine HL.field rfl rfl ?_ | (refine HL.box rfl rfl ?_; intro bk) | (refine HL.alloc rfl rfl ?_; intro bk) | refine HL.skip rfl rfl ?_ | refine HL.skip0 rfl ?_ | apply HL.andB rfl rfl rfl rfl rfl rfl rfl rfl | apply HL.orB rfl rfl rfl rfl rfl rfl rfl rfl) | refine HL.nil ?_ | refine HR.ctl rfl ?_ | refine HR.region ?_ | refine HR.condT rfl ?_ | refine HR.condF rfl ?_ | exact HL.blkEnd rfl rfl Ent.refl | (refine fun (hb : (_ : Bool) = _) => ?_; try simp at hb))
        refine HR.setV 6 (v' := .int .i64 (nxt (lst (bands t) i) (t.b.take (k + 1)))) rfl (by rw [nxt_snoc hx, nxtF, if_pos h3]) ?_
        exact ih2 (k + 1) _ _ hkl (by omega) ⟨rfl, rfl, rfl, rfl, rfl, rfl, trivial⟩ Ent.refl
      · repeat' (first | (refine HL.isOp ?_; first | refine HL.ev rfl rfl ?_ | refine HL.evc rfl rfl (by first | omega | simp | (simp; omega)) ?_ | (refine HL.isLoad ?_; first | refine HL.L 0 rfl rfl rfl rfl ?_ | refine HL.L 1 rfl rfl rfl rfl ?_ | refine HL.L 2 rfl rfl rfl rfl ?_ | refine HL.L 3 rfl rfl rfl rfl ?_) | (refine HL.isStore ?_; first | refine HL.S 0 rfl rfl rfl rfl rfl ?_ | refine HL.S 1 rfl rfl rfl rfl rfl ?_ | refine HL.S 2 rfl rfl rfl rfl rfl ?_ | refine HL.S 3 rfl rfl rfl rfl rfl ?_) | refine HL.build rfl rfl ?_ | refine HL.field rfl rfl ?_ | (refine HL.box rfl rfl ?_; intro bk) | (refine HL.alloc rfl rfl ?_; intro bk) | refine HL.skip rfl rfl ?_ | refine HL.skip0 rfl ?_ | apply HL.andB rfl rfl rfl rfl rfl rfl rfl rfl | apply HL.orB rfl rfl rfl rfl rfl rfl rfl rfl) | refine HL.nil ?_ | refine HR.ctl rfl ?_ | refine HR.region ?_ | refine HR.condT rfl ?_ | refine HR.condF rfl ?_ | exact HL.blkEnd rfl rfl Ent.refl | (refine fun (hb : (_ : Bool) = _) => ?_; try simp at hb))
        refine HR.setV 6 (v' := .int .i64 (nxt (lst (bands t) i) (t.b.take (k + 1)))) rfl (by rw [nxt_snoc hx, nxtF, h3]; rfl) ?_
        exact ih2 (k + 1) _ _ hkl (by omega) ⟨rfl, rfl, rfl, rfl, rfl, rfl, trivial⟩ Ent.refl
    have hke : k = t.b.length := by have := of_decide_eq_false h2; omega
    subst hke
    rw [List.take_length, hnx]
    cases ha : (bands t)[i]? with
    | none =>
      have hil := List.getElem?_eq_none_iff.1 ha
      have hne : bands t ≠ [] := by
        rw [bands_ok h0]; intro e
        have := dif_ne ho.n1
        rw [e] at this; simp at this
      repeat' (first | (refine HL.isOp ?_; first | refine HL.ev rfl rfl ?_ | refine HL.evc rfl rfl (by first | omega | simp | (simp; omega)) ?_ | (refine HL.isLoad ?_; first | refine HL.L 0 rfl rfl rfl rfl ?_ | refine HL.L 1 rfl rfl rfl rfl ?_ | refine HL.L 2 rfl rfl rfl rfl ?_ | refine HL.L 3 rfl rfl rfl rfl ?_) | (refine HL.isStore ?_; first | refine HL.S 0 rfl rfl rfl rfl rfl ?_ | refine HL.S 1 rfl rfl rfl rfl rfl ?_ | refine HL.S 2 rfl rfl rfl rfl rfl ?_ | refine HL.S 3 rfl rfl rfl rfl rfl ?_) | refine HL.build rfl rfl ?_ | refine HL.field rfl rfl ?_ | (refine HL.box rfl rfl ?_; intro bk) | (refine HL.alloc rfl rfl ?_; intro bk) | refine HL.skip rfl rfl ?_ | refine HL.skip0 rfl ?_ | apply HL.andB rfl rfl rfl rfl rfl rfl rfl rfl | apply HL.orB rfl rfl rfl rfl rfl rfl rfl rfl) | refine HL.nil ?_ | refine HR.ctl rfl ?_ | refine HR.region ?_ | refine HR.condT rfl ?_ | refine HR.condF rfl ?_ | exact HL.blkEnd rfl rfl Ent.refl | (refine fun (hb : (_ : Bool) = _) => ?_; try simp at hb))
      rw [← lst_past hil hne]
      refine ih (i + 1) v _ _ hlt (by omega) ⟨rfl, rfl, rfl, rfl, trivial⟩ (Ent.own0 ?_ ?_) <;> rw [List.take_of_length_le hil, List.take_of_length_le (by omega)]
    | some a =>
      have ha0 : 0 ≤ a := by
        have := List.mem_of_getElem? ha
        rw [bands_ok h0, dif_mem] at this
        exact (ho.pb a this).1
      have hil := (List.getElem?_eq_some_iff.1 ha).1
      have htl : ((bands t).take i).length = i := by simp; omega
      repeat' (first | (refine HL.isOp ?_; first | refine HL.ev rfl rfl ?_ | refine HL.evc rfl rfl (by first | omega | simp | (simp; omega)) ?_ | (refine HL.isLoad ?_; first | refine HL.L 0 rfl rfl rfl rfl ?_ | refine HL.L 1 rfl rfl rfl rfl ?_ | refine HL.L 2 rfl rfl rfl rfl ?_ | refine HL.L 3 rfl rfl rfl rfl ?_) | (refine HL.isStore ?_; first | refine HL.S 0 rfl rfl rfl rfl rfl ?_ | refine HL.S 1 rfl rfl rfl rfl rfl ?_ | refine HL.S 2 rfl rfl rfl rfl rfl ?_ | refine HL.S 3 rfl rfl rfl rfl rfl ?_) | refine HL.build rfl rfl ?_ | refine HL.field rfl rfl ?_ | (refine HL.box rfl rfl ?_; intro bk) | (refine HL.alloc rfl rfl ?_; intro bk) | refine HL.skip rfl rfl ?_ | refine HL.skip0 rfl ?_ | apply HL.andB rfl rfl rfl rfl rfl rfl rfl rfl | apply HL.orB rfl rfl rfl rfl rfl rfl rfl rfl) | refine HL.nil ?_ | refine HR.ctl rfl ?_ | refine HR.region ?_ | refine HR.condT rfl ?_ | refine HR.condF rfl ?_ | exact HL.blkEnd rfl rfl Ent.refl | (refine fun (hb : (_ : Bool) = _) => ?_; try simp at hb))
      refine HR.cond rfl (fun h3 => ?_) (fun h3 => ?_)
      · repeat' (first | (refine HL.isOp ?_; first | refine HL.ev rfl rfl ?_ | refine HL.evc rfl rfl (by first | omega | simp | (simp; omega)) ?_ | refine HL.bslice elemI rfl rfl rfl rfl rfl (by decide) (by decide) ?_ | (refine HL.isLoad ?_; first | refine HL.L 0 rfl rfl rfl rfl ?_ | refine HL.L 1 rfl rfl rfl rfl ?_ | refine HL.L 2 rfl rfl rfl rfl ?_ | refine HL.L 3 rfl rfl rfl rfl ?_) | (refine HL.isStore ?_; first | refine HL.S 0 rfl rfl rfl rfl rfl ?_ | refine HL.S 1 rfl rfl rfl rfl rfl ?_ | refine HL.S 2 rfl rfl rfl rfl rfl ?_ | refine HL.S 3 rfl rfl rfl rfl rfl ?_) | refine HL.build rfl rfl ?_ | refine HL.field rfl rfl ?_ | (refine HL.box rfl rfl ?_; intro bk) | (refine HL.alloc rfl rfl ?_; intro bk) | refine HL.skip rfl rfl ?_ | refine HL.skip0 rfl ?_ | apply HL.andB rfl rfl rfl rfl rfl rfl rfl rfl | apply HL.orB rfl rfl rfl rfl rfl rfl rfl rfl) | refine HL.nil ?_ | refine HR.ctl rfl ?_ | refine HR.region ?_ | refine HR.condT rfl ?_ | refine HR.condF rfl ?_ | exact HL.blkEnd rfl rfl Ent.refl | (refine fun (hb : (_ : Bool) = _) => ?_; try simp at hb))
        intro v1
        repeat' (first | (refine HL.isOp ?_; first | refine HL.ev rfl rfl ?_ | refine HL.evc rfl rfl (by first | omega | simp | (simp; omega)) ?_ | refine HL.appR 1 rfl elemI (Rd.own 0 rfl) rfl rfl rfl rfl (allOne_spec rfl) (by omega) (by omega) ?_ | (refine HL.isLoad ?_; first | refine HL.L 0 rfl rfl rfl rfl ?_ | refine HL.L 1 rfl rfl rfl rfl ?_ | refine HL.L 2 rfl rfl rfl rfl ?_ | refine HL.L 3 rfl rfl rfl rfl ?_) | (refine HL.isStore ?_; first | refine HL.S 0 rfl rfl rfl rfl rfl ?_ | refine HL.S 1 rfl rfl rfl rfl rfl ?_ | refine HL.S 2 rfl rfl rfl rfl rfl ?_ | refine HL.S 3 rfl rfl rfl rfl rfl ?_) | refine HL.build rfl rfl ?_ | refine HL.field rfl rfl ?_ | (refine HL.box rfl rfl ?_; intro bk) | (refine HL.alloc rfl rfl ?_; intro bk) | refine HL.skip rfl rfl ?_ | refine HL.skip0 rfl ?_ | apply HL.andB rfl rfl rfl rfl rfl rfl rfl rfl | apply HL.orB rfl rfl rfl rfl rfl rfl rfl rfl) | refine HL.nil ?_ | refine HR.ctl rfl ?_ | refine HR.region ?_ | refine HR.condT rfl ?_ | refine HR.condF rfl ?_ | exact HL.blkEnd rfl rfl Ent.refl | (refine fun (hb : (_ : Bool) = _) => ?_; try simp at hb))
        intro v2
        repeat' (first | (refine HL.isOp ?_; first | refine HL.ev rfl rfl ?_ | refine HL.evc rfl rfl (by first | omega | simp | (simp; omega)) ?_ | (refine HL.isLoad ?_; first | refine HL.L 0 rfl rfl rfl rfl ?_ | refine HL.L 1 rfl rfl rfl rfl ?_ | refine HL.L 2 rfl rfl rfl rfl ?_ | refine HL.L 3 rfl rfl rfl rfl ?_) | (refine HL.isStore ?_; first | refine HL.S 0 rfl rfl rfl rfl rfl ?_ | refine HL.S 1 rfl rfl rfl rfl rfl ?_ | refine HL.S 2 rfl rfl rfl rfl rfl ?_ | refine HL.S 3 rfl rfl rfl rfl rfl ?_) | refine HL.build rfl rfl ?_ | refine HL.field rfl rfl ?_ | (refine HL.box rfl rfl ?_; intro bk) | (refine HL.alloc rfl rfl ?_; intro bk) | refine HL.skip rfl rfl ?_ | refine HL.skip0 rfl ?_ | apply HL.andB rfl rfl rfl rfl rfl rfl rfl rfl | apply HL.orB rfl rfl rfl rfl rfl rfl rfl rfl) | refine HL.nil ?_ | refine HR.ctl rfl ?_ | refine HR.region ?_ | refine HR.condT rfl ?_ | refine HR.condF rfl ?_ | exact HL.blkEnd rfl rfl Ent.refl | (refine fun (hb : (_ : Bool) = _) => ?_; try simp at hb))
        refine HR.setV 4 (v' := .int .i64 (lst (bands t) (i + 1))) rfl (by rw [lst_succ ha]; rfl) ?_
        refine ih (i + 1) v2 _ _ hlt (by omega) ⟨rfl, rfl, rfl, rfl, trivial⟩ (Ent.trans (Ent.pick [1, 2] rfl rfl) (Ent.own0 ?_ ?_))
        · rw [take_succ_get ha]; simp
        · rw [take_succ_get ha, cellsOf_app, cellsOf_one]; rfl
      · exfalso
        have h3 : decide (a ≥ 0) = false := h3
        have := of_decide_eq_false h3
        omega
  · have hie : i = slots t := by have := of_decide_eq_false h; omega
    subst hie
    repeat' (first | (refine HL.isOp ?_; first | refine HL.ev rfl rfl ?_ | refine HL.evc rfl rfl (by first | omega | simp | (simp; omega)) ?_ | (refine HL.isLoad ?_; first | refine HL.L 0 rfl rfl rfl rfl ?_ | refine HL.L 1 rfl rfl rfl rfl ?_ | refine HL.L 2 rfl rfl rfl rfl ?_ | refine HL.L 3 rfl rfl rfl rfl ?_) | (refine HL.isStore ?_; first | refine HL.S 0 rfl rfl rfl rfl rfl ?_ | refine HL.S 1 rfl rfl rfl rfl rfl ?_ | refine HL.S 2 rfl rfl rfl rfl rfl ?_ | refine HL.S 3 rfl rfl rfl rfl rfl ?_) | refine HL.build rfl rfl ?_ | refine HL.field rfl rfl ?_ | (refine HL.box rfl rfl ?_; intro bk) | (refine HL.alloc rfl rfl ?_; intro bk) | refine HL.skip rfl rfl ?_ | refine HL.skip0 rfl ?_ | apply HL.andB rfl rfl rfl rfl rfl rfl rfl rfl | apply HL.orB rfl rfl rfl rfl rfl rfl rfl rfl) | refine HL.nil ?_ | refine HR.ctl rfl ?_ | refine HR.region ?_ | refine HR.condT rfl ?_ | refine HR.condF rfl ?_ | exact HL.blkEnd rfl rfl Ent.refl | (refine fun (hb : (_ : Bool) = _) => ?_; try simp at hb))
    refine HR.ret Try.func15 rfl [_] (fun _ _ => ⟨rfl, trivial⟩) ?_
    refine fun w' hw => ⟨v, rfl, ?_⟩
    rw [List.take_of_length_le hdl] at hw
    exact hw.pick [0] rfl rfl

def tEx : Tr := ⟨[30, 10, 20], [5, 5, 0], 9⟩
theorem aw_check : check tEx = 0 := by decide
theorem aw_bands : bands tEx = [10, 20, 30] := by rw [bands_ok aw_check]; exact aw_dif
theorem aw_cost1 : cost tEx 0 4 = 120 := by decide
theorem aw_cost2 : cost tEx 1 (-4) = -20 := by decide
theorem aw_total : total tEx [1, -2, 3] = 80 := by decide
theorem aw_cheap1 : cheapest tEx 1 = 1 := by decide
theorem aw_cheap2 : cheapest tEx 2 = 1 := by decide
theorem aw_fit1 : fit tEx 2 (-9) = true := by decide
theorem aw_fit2 : fit tEx 3 0 = false := by decide
theorem OkV.own {B : Base} {H : List Chunk} {t : Tr} {vb vs : Value} {w : World} (i j : Nat) (hi : nthC H i = some (ownC vb 3 1 t.b.length (cellsOf iC t.b))) (hj : nthC H j = some (ownC vs 3 1 t.s.length (cellsOf iC t.s))) (lb : t.b.length ≤ 1000000) (ls : t.s.length ≤ 1000000) (hw : Sat B H w) : OkV w t vb vs :=
  ⟨(Rd.own i hi).at hw, (Rd.own j hj).at hw, lb, ls⟩

theorem awake_any (w0 : World) : Calls Try.prog 10 #[] w0 fun e w' => e = .returned (.bool true) ∧ Below w0.heap.size w0 w' := by
  refine calls_hr Try.func10 rfl (Nat.le_of_ble_eq_true rfl) ?_
  refine HR.sub (σ' := []) trivial ?_
  repeat' (first | (refine HL.isOp ?_; first | refine HL.ev rfl rfl ?_ | refine HL.evc rfl rfl (by first | omega | simp | (simp; omega)) ?_ | refine HL.bslice elemI rfl rfl rfl rfl rfl (by decide) (by decide) ?_ | (refine HL.isLoad ?_; first | refine HL.L 0 rfl rfl rfl rfl ?_ | refine HL.L 1 rfl rfl rfl rfl ?_ | refine HL.L 2 rfl rfl rfl rfl ?_ | refine HL.L 3 rfl rfl rfl rfl ?_) | (refine HL.isStore ?_; first | refine HL.S 0 rfl rfl rfl rfl rfl ?_ | refine HL.S 1 rfl rfl rfl rfl rfl ?_ | refine HL.S 2 rfl rfl rfl rfl rfl ?_ | refine HL.S 3 rfl rfl rfl rfl rfl ?_) | refine HL.build rfl rfl ?_ | refine HL.field rfl rfl ?_ | (refine HL.box rfl rfl ?_; intro bk) | (refine HL.alloc rfl rfl ?_; intro bk) | refine HL.skip rfl rfl ?_ | refine HL.skip0 rfl ?_) | refine HL.nil ?_ | refine HR.ctl rfl ?_ | refine HR.region ?_ | refine HR.condT rfl ?_ | refine HR.condF rfl ?_)
  intro v1
  repeat' (first | (refine HL.isOp ?_; first | refine HL.ev rfl rfl ?_ | refine HL.evc rfl rfl (by first | omega | simp | (simp; omega)) ?_ | refine HL.bslice elemI rfl rfl rfl rfl rfl (by decide) (by decide) ?_ | (refine HL.isLoad ?_; first | refine HL.L 0 rfl rfl rfl rfl ?_ | refine HL.L 1 rfl rfl rfl rfl ?_ | refine HL.L 2 rfl rfl rfl rfl ?_ | refine HL.L 3 rfl rfl rfl rfl ?_) | (refine HL.isStore ?_; first | refine HL.S 0 rfl rfl rfl rfl rfl ?_ | refine HL.S 1 rfl rfl rfl rfl rfl ?_ | refine HL.S 2 rfl rfl rfl rfl rfl ?_ | refine HL.S 3 rfl rfl rfl rfl rfl ?_) | refine HL.build rfl rfl ?_ | refine HL.field rfl rfl ?_ | (refine HL.box rfl rfl ?_; intro bk) | (refine HL.alloc rfl rfl ?_; intro bk) | refine HL.skip rfl rfl ?_ | refine HL.skip0 rfl ?_) | refine HL.nil ?_ | refine HR.ctl rfl ?_ | refine HR.region ?_ | refine HR.condT rfl ?_ | refine HR.condF rfl ?_)
  intro v2
  refine HL.shape 1 rfl ?_
  rintro a1 c1 rfl
  refine HL.shape 0 rfl ?_
  rintro a2 c2 rfl
  repeat' (first | (refine HL.isOp ?_; first | refine HL.ev rfl rfl ?_ | refine HL.evc rfl rfl (by first | omega | simp | (simp; omega)) ?_ | refine HL.callB fn11 rfl rfl (fun w hw => by have := check_any tEx _ _ w (OkV.own 2 1 rfl rfl (by decide) (by decide) hw); rw [aw_check] at this; exact this) ?_ | refine HL.callB fn18 rfl rfl (fun w hw => by have := cost_any tEx 0 4 _ _ w (OkV.own 2 1 rfl rfl (by decide) (by decide) hw); rw [aw_cost1] at this; exact this) ?_ | refine HL.callB fn18 rfl rfl (fun w hw => by have := cost_any tEx 1 (-4) _ _ w (OkV.own 2 1 rfl rfl (by decide) (by decide) hw); rw [aw_cost2] at this; exact this) ?_ | (refine HL.isLoad ?_; first | refine HL.L 0 rfl rfl rfl rfl ?_ | refine HL.L 1 rfl rfl rfl rfl ?_ | refine HL.L 2 rfl rfl rfl rfl ?_ | refine HL.L 3 rfl rfl rfl rfl ?_) | (refine HL.isStore ?_; first | refine HL.S 0 rfl rfl rfl rfl rfl ?_ | refine HL.S 1 rfl rfl rfl rfl rfl ?_ | refine HL.S 2 rfl rfl rfl rfl rfl ?_ | refine HL.S 3 rfl rfl rfl rfl rfl ?_) | refine HL.build rfl rfl ?_ | refine HL.field rfl rfl ?_ | (refine HL.box rfl rfl ?_; intro bk) | (refine HL.alloc rfl rfl ?_; intro bk) | refine HL.skip rfl rfl ?_ | refine HL.skip0 rfl ?_) | refine HL.nil ?_ | refine HR.ctl rfl ?_ | refine HR.region ?_ | refine HR.condT rfl ?_ | refine HR.condF rfl ?_)
  refine HL.bslice elemI rfl rfl rfl rfl rfl (by decide) (by decide) ?_
  intro v3
  repeat' (first | (refine HL.isOp ?_; first | refine HL.ev rfl rfl ?_ | refine HL.evc rfl rfl (by first | omega | simp | (simp; omega)) ?_ | refine HL.callB fn22 rfl rfl (fun w hw => by have := total_any tEx [1, -2, 3] _ _ v3 w (OkV.own 3 2 rfl rfl (by decide) (by decide) hw) ((Rd.own 0 rfl).at hw) (by decide); rw [aw_total] at this; exact this) ?_ | refine HL.callB fn24 rfl rfl (fun w hw => by have := cheapest_any tEx 1 _ _ w (OkV.own 3 2 rfl rfl (by decide) (by decide) hw); rw [aw_cheap1] at this; exact this) ?_ | refine HL.callB fn24 rfl rfl (fun w hw => by have := cheapest_any tEx 2 _ _ w (OkV.own 3 2 rfl rfl (by decide) (by decide) hw); rw [aw_cheap2] at this; exact this) ?_ | (refine HL.isLoad ?_; first | refine HL.L 0 rfl rfl rfl rfl ?_ | refine HL.L 1 rfl rfl rfl rfl ?_ | refine HL.L 2 rfl rfl rfl rfl ?_ | refine HL.L 3 rfl rfl rfl rfl ?_) | (refine HL.isStore ?_; first | refine HL.S 0 rfl rfl rfl rfl rfl ?_ | refine HL.S 1 rfl rfl rfl rfl rfl ?_ | refine HL.S 2 rfl rfl rfl rfl rfl ?_ | refine HL.S 3 rfl rfl rfl rfl rfl ?_) | refine HL.build rfl rfl ?_ | refine HL.field rfl rfl ?_ | (refine HL.box rfl rfl ?_; intro bk) | (refine HL.alloc rfl rfl ?_; intro bk) | refine HL.skip rfl rfl ?_ | refine HL.skip0 rfl ?_) | refine HL.nil ?_ | refine HR.ctl rfl ?_ | refine HR.region ?_ | refine HR.condT rfl ?_ | refine HR.condF rfl ?_)
  refine HL.callO fn14 rfl rfl (fun w hw => bands_any tEx _ _ w (OkV.own 3 2 rfl rfl (by decide) (by decide) hw)) ?_
  intro v4
  rw [aw_bands]
  refine HL.bslice elemI rfl rfl rfl rfl rfl (by decide) (by decide) ?_
  intro v5
  repeat' (first | (refine HL.isOp ?_; first | refine HL.ev rfl rfl ?_ | refine HL.evc rfl rfl (by first | omega | simp | (simp; omega)) ?_ | refine HL.callB fn13 rfl rfl (fun w hw => sameT_any [10, 20, 30] v4 v5 w ((Rd.own 1 rfl).at hw) ((Rd.own 0 rfl).at hw) (by decide)) ?_ | refine HL.callB fn16 rfl rfl (fun w hw => slot_any _ w) ?_ | refine HL.callB fn20 rfl rfl (fun w hw => by have := fits_any tEx 2 (-9) _ _ w (OkV.own 5 4 rfl rfl (by decide) (by decide) hw); rw [aw_fit1] at this; exact this) ?_ | refine HL.callB fn20 rfl rfl (fun w hw => by have := fits_any tEx 3 0 _ _ w (OkV.own 5 4 rfl rfl (by decide) (by decide) hw); rw [aw_fit2] at this; exact this) ?_ | (refine HL.isLoad ?_; first | refine HL.L 0 rfl rfl rfl rfl ?_ | refine HL.L 1 rfl rfl rfl rfl ?_ | refine HL.L 2 rfl rfl rfl rfl ?_ | refine HL.L 3 rfl rfl rfl rfl ?_) | (refine HL.isStore ?_; first | refine HL.S 0 rfl rfl rfl rfl rfl ?_ | refine HL.S 1 rfl rfl rfl rfl rfl ?_ | refine HL.S 2 rfl rfl rfl rfl rfl ?_ | refine HL.S 3 rfl rfl rfl rfl rfl ?_) | refine HL.build rfl rfl ?_ | refine HL.field rfl rfl ?_ | (refine HL.box rfl rfl ?_; intro bk) | (refine HL.alloc rfl rfl ?_; intro bk) | refine HL.skip rfl rfl ?_ | refine HL.skip0 rfl ?_) | refine HL.nil ?_ | refine HR.ctl rfl ?_ | refine HR.region ?_ | refine HR.condT rfl ?_ | refine HR.condF rfl ?_)
  refine HR.ret Try.func10 rfl [_] (fun _ _ => ⟨rfl, trivial⟩) ?_
  exact fun w' hw => ⟨rfl, hw.belowB⟩
end Go.Proofs.Ytlineefahilohaa
