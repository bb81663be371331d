/- A part of the proof: contracts of the program's functions. Conditions: none. -/
import Derived.Test.YtlineefahilohaaShelf
import Derived.Test.YtlineefahilohaaTf4
import Derived.Test.YtlineefahilohaaGxDraw
namespace Go.Proofs.Ytlineefahilohaa
open Go.GX Go.RowKit
attribute [local irreducible] Calls Run RunL RunQ RunD HR HL HD blkC ownC mapC Rd slicesC iterC RdM
set_option linter.unusedVariables false
set_option linter.unusedSectionVars false
set_option linter.unusedSimpArgs false
set_option maxRecDepth 100000

open Tf
theorem fn29 : IsFn Try.prog 29 := ⟨⟨_, _, Try.func29, rfl, by decide⟩⟩
theorem fn30 : IsFn Try.prog 30 := ⟨⟨_, _, Try.func30, rfl, by decide⟩⟩
theorem fn31 : IsFn Try.prog 31 := ⟨⟨_, _, Try.func31, rfl, by decide⟩⟩

theorem cheapest_any (t : Tr) (k : Int) (vb vs : Value) (w : World) (hv : OkV w t vb vs) :
    Calls Try.prog 24 #[tfV vb vs t.fu, .int .i64 k] w fun e w' => e = .returned (.int .i64 (cheapest t k)) ∧ Below w.heap.size w w' := by
  refine calls_hr Try.func24 rfl (Nat.le_of_ble_eq_true rfl) ?_
  refine HR.sub (σ' := [(0, tfV vb vs t.fu), (1, .int .i64 k)]) ⟨rfl, rfl, trivial⟩ ?_
  repeat' (first | (refine HL.isOp ?_; first | refine HL.ev rfl rfl ?_ | refine HL.evc rfl rfl (by first | omega | simp | (simp; omega)) ?_ | refine HL.callB fn11 rfl rfl (fun w hw => check_any t vb vs w (hv.at hw)) ?_ | refine HL.lenR (Rd.arg hv.b) rfl rfl rfl ?_ | (refine HL.isLoad ?_; first | refine HL.L 0 rfl rfl rfl rfl ?_ | refine HL.L 1 rfl rfl rfl rfl ?_ | refine HL.L 2 rfl rfl rfl rfl ?_ | refine HL.L 3 rfl rfl rfl rfl ?_) | (refine HL.isStore ?_; first | refine HL.S 0 rfl rfl rfl rfl rfl ?_ | refine HL.S 1 rfl rfl rfl rfl rfl ?_ | refine HL.S 2 rfl rfl rfl rfl rfl ?_ | refine HL.S 3 rfl rfl rfl rfl rfl ?_) | refine HL.build rfl rfl ?_ | refine HL.field rfl rfl ?_ | (refine HL.box rfl rfl ?_; intro bk) | (refine HL.alloc rfl rfl ?_; intro bk) | refine HL.skip rfl rfl ?_ | refine HL.skip0 rfl ?_ | apply HL.andB rfl rfl rfl rfl rfl rfl rfl rfl | apply HL.orB rfl rfl rfl rfl rfl rfl rfl rfl) | refine HL.nil ?_ | refine HR.ctl rfl ?_ | refine HR.region ?_ | refine HR.condT rfl ?_ | refine HR.condF rfl ?_ | exact HL.blkEnd rfl rfl Ent.refl | (refine fun (hb : (_ : Bool) = _) => ?_; try simp at hb))
  refine HR.cond rfl (fun h => ?_) (fun h => ?_)
  · have h : (check t != 0 || decide (k < 1) || decide (k > (t.b.length : Int))) = true := h
    have hno : ¬ (1 ≤ k ∧ k ≤ slots t) := by
      intro ⟨h1, h2⟩
      have h0 : check t = 0 := ok_slots (j := 0) (by omega)
      rw [slots_ok h0] at h2
      simp only [h0, Bool.or_eq_true, decide_eq_true_eq, bne_self_eq_false, Bool.false_eq_true, false_or] at h
      omega
    repeat' (first | (refine HL.isOp ?_; first | refine HL.ev rfl rfl ?_ | refine HL.evc rfl rfl (by first | omega | simp | (simp; omega)) ?_ | (refine HL.isLoad ?_; first | refine HL.L 0 rfl rfl rfl rfl ?_ | refine HL.L 1 rfl rfl rfl rfl ?_ | refine HL.L 2 rfl rfl rfl rfl ?_ | refine HL.L 3 rfl rfl rfl rfl ?_) | (refine HL.isStore ?_; first | refine HL.S 0 rfl rfl rfl rfl rfl ?_ | refine HL.S 1 rfl rfl rfl rfl rfl ?_ | refine HL.S 2 rfl rfl rfl rfl rfl ?_ | refine HL.S 3 rfl rfl rfl rfl rfl ?_) | refine HL.build rfl rfl ?_ | refine HL.field rfl rfl ?_ | (refine HL.box rfl rfl ?_; intro bk) | (refine HL.alloc rfl rfl ?_; intro bk) | refine HL.skip rfl rfl ?_ | refine HL.skip0 rfl ?_ | apply HL.andB rfl rfl rfl rfl rfl rfl rfl rfl | apply HL.orB rfl rfl rfl rfl rfl rfl rfl rfl) | refine HL.nil ?_ | refine HR.ctl rfl ?_ | refine HR.region ?_ | refine HR.condT rfl ?_ | refine HR.condF rfl ?_ | exact HL.blkEnd rfl rfl Ent.refl | (refine fun (hb : (_ : Bool) = _) => ?_; try simp at hb))
    refine HR.ret Try.func24 rfl [_] (fun _ _ => ⟨rfl, trivial⟩) ?_
    exact fun w' hw => ⟨by rw [cheapest, if_neg hno]; rfl, hw.belowB⟩
  have h : (check t != 0 || decide (k < 1) || decide (k > (t.b.length : Int))) = false := h
  simp only [Bool.or_eq_false_iff, decide_eq_false_iff_not, bne_eq_false_iff_eq] at h
  obtain ⟨n, rfl⟩ : ∃ n : Nat, k = n := ⟨k.toNat, by omega⟩
  have h0 : check t = 0 := h.1.1
  have ho := ok_of h0
  have n2 := ho.n2
  have hse := slots_ok h0
  have hnb : n ≤ t.b.length := by omega
  have hsub : Sl w (subV 1 vb 0 n) (cellsOf iC (t.b.take n)) n := by
    have := Sl.sub hv.b (cellsOf_len iC_len t.b) (l := 0) (h := n) (Nat.zero_le _) (by omega)
    rw [cellsOf_drop iC_len, cellsOf_take iC_len] at this
    simpa using this
  repeat' (first | (refine HL.isOp ?_; first | refine HL.ev rfl rfl ?_ | refine HL.evc rfl rfl (by first | omega | simp | (simp; omega)) ?_ | refine HL.subR 0 n (Rd.arg hv.b) rfl rfl rfl rfl (.inl ⟨rfl, rfl⟩) (.inr ⟨_, _, rfl, rfl⟩) (Nat.zero_le _) (by omega) ?_ | refine HL.lenR (Rd.arg hsub) rfl rfl rfl ?_ | (refine HL.isLoad ?_; first | refine HL.L 0 rfl rfl rfl rfl ?_ | refine HL.L 1 rfl rfl rfl rfl ?_ | refine HL.L 2 rfl rfl rfl rfl ?_ | refine HL.L 3 rfl rfl rfl rfl ?_) | (refine HL.isStore ?_; first | refine HL.S 0 rfl rfl rfl rfl rfl ?_ | refine HL.S 1 rfl rfl rfl rfl rfl ?_ | refine HL.S 2 rfl rfl rfl rfl rfl ?_ | refine HL.S 3 rfl rfl rfl rfl rfl ?_) | refine HL.build rfl rfl ?_ | refine HL.field rfl rfl ?_ | (refine HL.box rfl rfl ?_; intro bk) | (refine HL.alloc rfl rfl ?_; intro bk) | refine HL.skip rfl rfl ?_ | refine HL.skip0 rfl ?_ | apply HL.andB rfl rfl rfl rfl rfl rfl rfl rfl | apply HL.orB rfl rfl rfl rfl rfl rfl rfl rfl) | refine HL.nil ?_ | refine HR.ctl rfl ?_ | refine HR.region ?_ | refine HR.condT rfl ?_ | refine HR.condF rfl ?_ | exact HL.blkEnd rfl rfl Ent.refl | (refine fun (hb : (_ : Bool) = _) => ?_; try simp at hb))
  refine HR.setV 5 (v' := .int .i64 (sumAt t.b 0 0)) rfl (by simp [sumAt]) ?_
  refine HR.loop (ι := Nat) (fun j => j ≤ n) (fun j => [(1, .int .i64 (n : Int)), (2, .pointer (some ⟨bk, 0, none⟩)), (5, .int .i64 (sumAt t.b 0 j)), (28, subV 1 vb 0 n), (29, .int .i64 (n : Int)), (30, .int .i64 (j : Int))]) (fun _ => [blkC bk [vb, vs, .int .i64 t.fu] 24]) (fun j => n - j) 0 (Nat.zero_le _) ⟨rfl, rfl, rfl, rfl, rfl, rfl, trivial⟩ Ent.refl ?_
  intro j hj ih
  repeat' (first | (refine HL.isOp ?_; first | refine HL.ev rfl rfl ?_ | refine HL.evc rfl rfl (by first | omega | simp | (simp; omega)) ?_ | (refine HL.isLoad ?_; first | refine HL.L 0 rfl rfl rfl rfl ?_ | refine HL.L 1 rfl rfl rfl rfl ?_ | refine HL.L 2 rfl rfl rfl rfl ?_ | refine HL.L 3 rfl rfl rfl rfl ?_) | (refine HL.isStore ?_; first | refine HL.S 0 rfl rfl rfl rfl rfl ?_ | refine HL.S 1 rfl rfl rfl rfl rfl ?_ | refine HL.S 2 rfl rfl rfl rfl rfl ?_ | refine HL.S 3 rfl rfl rfl rfl rfl ?_) | refine HL.build rfl rfl ?_ | refine HL.field rfl rfl ?_ | (refine HL.box rfl rfl ?_; intro bk) | (refine HL.alloc rfl rfl ?_; intro bk) | refine HL.skip rfl rfl ?_ | refine HL.skip0 rfl ?_ | apply HL.andB rfl rfl rfl rfl rfl rfl rfl rfl | apply HL.orB rfl rfl rfl rfl rfl rfl rfl rfl) | refine HL.nil ?_ | refine HR.ctl rfl ?_ | refine HR.region ?_ | refine HR.condT rfl ?_ | refine HR.condF rfl ?_ | exact HL.blkEnd rfl rfl Ent.refl | (refine fun (hb : (_ : Bool) = _) => ?_; try simp at hb))
  refine HR.cond rfl (fun h2 => ?_) (fun h2 => ?_)
  · have hlt : j < n := by have := of_decide_eq_true h2; omega
    obtain ⟨x, hx⟩ := getSome (show j < t.b.length by omega)
    have hxt : (t.b.take n)[j]? = some x := by rw [List.getElem?_take_of_lt hlt]; exact hx
    have px := ho.pb x (List.mem_of_getElem? hx)
    have b1 := sumAt_bound ho.pb 0 j
    repeat' (first | (refine HL.isOp ?_; first | refine HL.ev rfl rfl ?_ | refine HL.evc rfl rfl (by first | omega | simp | (simp; omega)) ?_ | refine HL.idxR (Rd.arg hsub) elemI j rfl rfl rfl rfl hlt ?_ | refine HL.loadI (Rd.arg hsub) rfl rfl rfl rfl (cellsOf_get1 hxt) ?_ | (refine HL.isLoad ?_; first | refine HL.L 0 rfl rfl rfl rfl ?_ | refine HL.L 1 rfl rfl rfl rfl ?_ | refine HL.L 2 rfl rfl rfl rfl ?_ | refine HL.L 3 rfl rfl rfl rfl ?_) | (refine HL.isStore ?_; first | refine HL.S 0 rfl rfl rfl rfl rfl ?_ | refine HL.S 1 rfl rfl rfl rfl rfl ?_ | refine HL.S 2 rfl rfl rfl rfl rfl ?_ | refine HL.S 3 rfl rfl rfl rfl rfl ?_) | refine HL.build rfl rfl ?_ | refine HL.field rfl rfl ?_ | (refine HL.box rfl rfl ?_; intro bk) | (refine HL.alloc rfl rfl ?_; intro bk) | refine HL.skip rfl rfl ?_ | refine HL.skip0 rfl ?_ | apply HL.andB rfl rfl rfl rfl rfl rfl rfl rfl | apply HL.orB rfl rfl rfl rfl rfl rfl rfl rfl) | refine HL.nil ?_ | refine HR.ctl rfl ?_ | refine HR.region ?_ | refine HR.condT rfl ?_ | refine HR.condF rfl ?_ | exact HL.blkEnd rfl rfl Ent.refl | (refine fun (hb : (_ : Bool) = _) => ?_; try simp at hb))
    refine HR.setV 5 (v' := .int .i64 (sumAt t.b 0 (j + 1))) rfl (by rw [sumAt_succ (by rw [Nat.zero_add]; exact hx)]) ?_
    exact ih (j + 1) _ _ hlt (by omega) ⟨rfl, rfl, rfl, rfl, rfl, rfl, trivial⟩ Ent.refl
  have hke : j = n := by have := of_decide_eq_false h2; omega
  subst hke
  repeat' (first | (refine HL.isOp ?_; first | refine HL.ev rfl rfl ?_ | refine HL.evc rfl rfl (by first | omega | simp | (simp; omega)) ?_ | (refine HL.isLoad ?_; first | refine HL.L 0 rfl rfl rfl rfl ?_ | refine HL.L 1 rfl rfl rfl rfl ?_ | refine HL.L 2 rfl rfl rfl rfl ?_ | refine HL.L 3 rfl rfl rfl rfl ?_) | (refine HL.isStore ?_; first | refine HL.S 0 rfl rfl rfl rfl rfl ?_ | refine HL.S 1 rfl rfl rfl rfl rfl ?_ | refine HL.S 2 rfl rfl rfl rfl rfl ?_ | refine HL.S 3 rfl rfl rfl rfl rfl ?_) | refine HL.build rfl rfl ?_ | refine HL.field rfl rfl ?_ | (refine HL.box rfl rfl ?_; intro bk) | (refine HL.alloc rfl rfl ?_; intro bk) | refine HL.skip rfl rfl ?_ | refine HL.skip0 rfl ?_ | apply HL.andB rfl rfl rfl rfl rfl rfl rfl rfl | apply HL.orB rfl rfl rfl rfl rfl rfl rfl rfl) | refine HL.nil ?_ | refine HR.ctl rfl ?_ | refine HR.region ?_ | refine HR.condT rfl ?_ | refine HR.condF rfl ?_ | exact HL.blkEnd rfl rfl Ent.refl | (refine fun (hb : (_ : Bool) = _) => ?_; try simp at hb))
  refine HR.setV 10 (v' := .int .i64 ((j : Int) + ((0 : Nat) : Int))) rfl (by simp) ?_
  refine HR.loop (ι := Nat) (fun m => m + j ≤ t.b.length) (fun m => [(1, .int .i64 (j : Int)), (2, .pointer (some ⟨bk, 0, none⟩)), (5, .int .i64 (sumAt t.b m j)), (8, .int .i64 (best t.b j m : Int)), (9, .int .i64 (sumAt t.b (best t.b j m) j)), (10, .int .i64 ((j : Int) + (m : Int)))]) (fun _ => [blkC bk [vb, vs, .int .i64 t.fu] 24]) (fun m => t.b.length - m) 0 (by omega) ⟨rfl, rfl, rfl, rfl, rfl, rfl, trivial⟩ Ent.refl ?_
  intro m hm ih
  repeat' (first | (refine HL.isOp ?_; first | refine HL.ev rfl rfl ?_ | refine HL.evc rfl rfl (by first | omega | simp | (simp; omega)) ?_ | refine HL.lenR (Rd.arg hv.b) rfl rfl rfl ?_ | (refine HL.isLoad ?_; first | refine HL.L 0 rfl rfl rfl rfl ?_ | refine HL.L 1 rfl rfl rfl rfl ?_ | refine HL.L 2 rfl rfl rfl rfl ?_ | refine HL.L 3 rfl rfl rfl rfl ?_) | (refine HL.isStore ?_; first | refine HL.S 0 rfl rfl rfl rfl rfl ?_ | refine HL.S 1 rfl rfl rfl rfl rfl ?_ | refine HL.S 2 rfl rfl rfl rfl rfl ?_ | refine HL.S 3 rfl rfl rfl rfl rfl ?_) | refine HL.build rfl rfl ?_ | refine HL.field rfl rfl ?_ | (refine HL.box rfl rfl ?_; intro bk) | (refine HL.alloc rfl rfl ?_; intro bk) | refine HL.skip rfl rfl ?_ | refine HL.skip0 rfl ?_ | apply HL.andB rfl rfl rfl rfl rfl rfl rfl rfl | apply HL.orB rfl rfl rfl rfl rfl rfl rfl rfl) | refine HL.nil ?_ | refine HR.ctl rfl ?_ | refine HR.region ?_ | refine HR.condT rfl ?_ | refine HR.condF rfl ?_ | exact HL.blkEnd rfl rfl Ent.refl | (refine fun (hb : (_ : Bool) = _) => ?_; try simp at hb))
  refine HR.cond rfl (fun h2 => ?_) (fun h2 => ?_)
  · have hlt : m + j < t.b.length := by have := of_decide_eq_true h2; omega
    have hlm : m < t.b.length := by omega
    have hbl := best_le t.b j m
    obtain ⟨x, hx⟩ := getSome hlm
    obtain ⟨y, hy⟩ := getSome hlt
    have px := ho.pb x (List.mem_of_getElem? hx)
    have py := ho.pb y (List.mem_of_getElem? hy)
    have b1 := sumAt_bound ho.pb m j
    have hmv := sumAt_move (b := t.b) (i := m) (k := j) (by omega) hx hy
    have hji : (j : Int) + (m : Int) = ((m + j : Nat) : Int) := by omega
    repeat' (first | (refine HL.isOp ?_; first | refine HL.ev rfl rfl ?_ | refine HL.evc rfl rfl (by first | omega | simp | (simp; omega)) ?_ | (refine HL.isLoad ?_; first | refine HL.L 0 rfl rfl rfl rfl ?_ | refine HL.L 1 rfl rfl rfl rfl ?_ | refine HL.L 2 rfl rfl rfl rfl ?_ | refine HL.L 3 rfl rfl rfl rfl ?_) | (refine HL.isStore ?_; first | refine HL.S 0 rfl rfl rfl rfl rfl ?_ | refine HL.S 1 rfl rfl rfl rfl rfl ?_ | refine HL.S 2 rfl rfl rfl rfl rfl ?_ | refine HL.S 3 rfl rfl rfl rfl rfl ?_) | refine HL.build rfl rfl ?_ | refine HL.field rfl rfl ?_ | (refine HL.box rfl rfl ?_; intro bk) | (refine HL.alloc rfl rfl ?_; intro bk) | refine HL.skip rfl rfl ?_ | refine HL.skip0 rfl ?_ | apply HL.andB rfl rfl rfl rfl rfl rfl rfl rfl | apply HL.orB rfl rfl rfl rfl rfl rfl rfl rfl) | refine HL.nil ?_ | refine HR.ctl rfl ?_ | refine HR.region ?_ | refine HR.condT rfl ?_ | refine HR.condF rfl ?_ | exact HL.blkEnd rfl rfl Ent.refl | (refine fun (hb : (_ : Bool) = _) => ?_; try simp at hb))
    refine HR.regionQ hmix (by kernel_rfl) ?_
    repeat' (first | (refine HQ.isOp ?_; first | refine RunQ.ev rfl rfl ?_ | refine RunQ.evc rfl rfl (by first | omega | simp | (simp; omega)) ?_ | refine HQ.idxR (Rd.arg hv.b) elemI (m + j) rfl rfl rfl hji hlt ?_ | refine HQ.idxR (Rd.arg hv.b) elemI m rfl rfl rfl (by omega) hlm ?_ | refine HQ.loadI (Rd.arg hv.b) rfl rfl rfl rfl (cellsOf_get1 hx) ?_ | refine HQ.loadI (Rd.arg hv.b) rfl rfl rfl rfl (cellsOf_get1 hy) ?_ | (refine HQ.isLoad ?_; first | refine HQ.L 0 rfl rfl rfl rfl ?_ | refine HQ.L 1 rfl rfl rfl rfl ?_ | refine HQ.L 2 rfl rfl rfl rfl ?_ | refine HQ.L 3 rfl rfl rfl rfl ?_) | refine RunQ.build rfl rfl ?_ | refine RunQ.field rfl rfl ?_ | apply RunQ.andB rfl rfl rfl rfl rfl rfl rfl rfl | apply RunQ.orB rfl rfl rfl rfl rfl rfl rfl rfl | refine RunQ.skip rfl rfl ?_) | exact RunQ.blkEnd rfl rfl | refine HQ.nil ?_ | (refine fun (hb : (_ : Bool) = _) => ?_; try simp at hb))
    refine HR.setV 5 (v' := .int .i64 (sumAt t.b (m + 1) j)) rfl (by rw [hmv]; congr 1; omega) ?_
    repeat' (first | (refine HL.isOp ?_; first | refine HL.ev rfl rfl ?_ | refine HL.evc rfl rfl (by first | omega | simp | (simp; omega)) ?_ | (refine HL.isLoad ?_; first | refine HL.L 0 rfl rfl rfl rfl ?_ | refine HL.L 1 rfl rfl rfl rfl ?_ | refine HL.L 2 rfl rfl rfl rfl ?_ | refine HL.L 3 rfl rfl rfl rfl ?_) | (refine HL.isStore ?_; first | refine HL.S 0 rfl rfl rfl rfl rfl ?_ | refine HL.S 1 rfl rfl rfl rfl rfl ?_ | refine HL.S 2 rfl rfl rfl rfl rfl ?_ | refine HL.S 3 rfl rfl rfl rfl rfl ?_) | refine HL.build rfl rfl ?_ | refine HL.field rfl rfl ?_ | (refine HL.box rfl rfl ?_; intro bk) | (refine HL.alloc rfl rfl ?_; intro bk) | refine HL.skip rfl rfl ?_ | refine HL.skip0 rfl ?_ | apply HL.andB rfl rfl rfl rfl rfl rfl rfl rfl | apply HL.orB rfl rfl rfl rfl rfl rfl rfl rfl) | refine HL.nil ?_ | refine HR.ctl rfl ?_ | refine HR.region ?_ | refine HR.condT rfl ?_ | refine HR.condF rfl ?_ | exact HL.blkEnd rfl rfl Ent.refl | (refine fun (hb : (_ : Bool) = _) => ?_; try simp at hb))
    refine HR.cond rfl (fun h3 => ?_) (fun h3 => ?_)
    · repeat' (first | (refine HL.isOp ?_; first | refine HL.ev rfl rfl ?_ | refine HL.evc rfl rfl (by first | omega | simp | (simp; omega)) ?_ | (refine HL.isLoad ?_; first | refine HL.L 0 rfl rfl rfl rfl ?_ | refine HL.L 1 rfl rfl rfl rfl ?_ | refine HL.L 2 rfl rfl rfl rfl ?_ | refine HL.L 3 rfl rfl rfl rfl ?_) | (refine HL.isStore ?_; first | refine HL.S 0 rfl rfl rfl rfl rfl ?_ | refine HL.S 1 rfl rfl rfl rfl rfl ?_ | refine HL.S 2 rfl rfl rfl rfl rfl ?_ | refine HL.S 3 rfl rfl rfl rfl rfl ?_) | refine HL.build rfl rfl ?_ | refine HL.field rfl rfl ?_ | (refine HL.box rfl rfl ?_; intro bk) | (refine HL.alloc rfl rfl ?_; intro bk) | refine HL.skip rfl rfl ?_ | refine HL.skip0 rfl ?_ | apply HL.andB rfl rfl rfl rfl rfl rfl rfl rfl | apply HL.orB rfl rfl rfl rfl rfl rfl rfl rfl) | refine HL.nil ?_ | refine HR.ctl rfl ?_ | refine HR.region ?_ | refine HR.condT rfl ?_ | refine HR.condF rfl ?_ | exact HL.blkEnd rfl rfl Ent.refl | (refine fun (hb : (_ : Bool) = _) => ?_; try simp at hb))
      refine HR.setV 10 (v' := .int .i64 ((j : Int) + ((m + 1 : Nat) : Int))) rfl (by congr 1 <;> omega) ?_
      have hb : best t.b j (m + 1) = m + 1 := by rw [best, if_pos (of_decide_eq_true h3)]
      refine HR.setV 8 (v' := .int .i64 (best t.b j (m + 1) : Int)) rfl (by rw [hb]; congr 1; omega) ?_
      refine HR.setV 9 (v' := .int .i64 (sumAt t.b (best t.b j (m + 1)) j)) rfl (by rw [hb]) ?_
      exact ih (m + 1) _ _ (by omega) (by omega) ⟨rfl, rfl, rfl, rfl, rfl, rfl, trivial⟩ Ent.refl
    · repeat' (first | (refine HL.isOp ?_; first | refine HL.ev rfl rfl ?_ | refine HL.evc rfl rfl (by first | omega | simp | (simp; omega)) ?_ | (refine HL.isLoad ?_; first | refine HL.L 0 rfl rfl rfl rfl ?_ | refine HL.L 1 rfl rfl rfl rfl ?_ | refine HL.L 2 rfl rfl rfl rfl ?_ | refine HL.L 3 rfl rfl rfl rfl ?_) | (refine HL.isStore ?_; first | refine HL.S 0 rfl rfl rfl rfl rfl ?_ | refine HL.S 1 rfl rfl rfl rfl rfl ?_ | refine HL.S 2 rfl rfl rfl rfl rfl ?_ | refine HL.S 3 rfl rfl rfl rfl rfl ?_) | refine HL.build rfl rfl ?_ | refine HL.field rfl rfl ?_ | (refine HL.box rfl rfl ?_; intro bk) | (refine HL.alloc rfl rfl ?_; intro bk) | refine HL.skip rfl rfl ?_ | refine HL.skip0 rfl ?_ | apply HL.andB rfl rfl rfl rfl rfl rfl rfl rfl | apply HL.orB rfl rfl rfl rfl rfl rfl rfl rfl) | refine HL.nil ?_ | refine HR.ctl rfl ?_ | refine HR.region ?_ | refine HR.condT rfl ?_ | refine HR.condF rfl ?_ | exact HL.blkEnd rfl rfl Ent.refl | (refine fun (hb : (_ : Bool) = _) => ?_; try simp at hb))
      refine HR.setV 10 (v' := .int .i64 ((j : Int) + ((m + 1 : Nat) : Int))) rfl (by congr 1 <;> omega) ?_
      have hb : best t.b j (m + 1) = best t.b j m := by rw [best, if_neg (of_decide_eq_false h3)]
      refine HR.setV 8 (v' := .int .i64 (best t.b j (m + 1) : Int)) rfl (by rw [hb]) ?_
      refine HR.setV 9 (v' := .int .i64 (sumAt t.b (best t.b j (m + 1)) j)) rfl (by rw [hb]) ?_
      exact ih (m + 1) _ _ (by omega) (by omega) ⟨rfl, rfl, rfl, rfl, rfl, rfl, trivial⟩ Ent.refl
  · have hke : m = t.b.length - j := by have := of_decide_eq_false h2; omega
    subst hke
    repeat' (first | (refine HL.isOp ?_; first | refine HL.ev rfl rfl ?_ | refine HL.evc rfl rfl (by first | omega | simp | (simp; omega)) ?_ | (refine HL.isLoad ?_; first | refine HL.L 0 rfl rfl rfl rfl ?_ | refine HL.L 1 rfl rfl rfl rfl ?_ | refine HL.L 2 rfl rfl rfl rfl ?_ | refine HL.L 3 rfl rfl rfl rfl ?_) | (refine HL.isStore ?_; first | refine HL.S 0 rfl rfl rfl rfl rfl ?_ | refine HL.S 1 rfl rfl rfl rfl rfl ?_ | refine HL.S 2 rfl rfl rfl rfl rfl ?_ | refine HL.S 3 rfl rfl rfl rfl rfl ?_) | refine HL.build rfl rfl ?_ | refine HL.field rfl rfl ?_ | (refine HL.box rfl rfl ?_; intro bk) | (refine HL.alloc rfl rfl ?_; intro bk) | refine HL.skip rfl rfl ?_ | refine HL.skip0 rfl ?_ | apply HL.andB rfl rfl rfl rfl rfl rfl rfl rfl | apply HL.orB rfl rfl rfl rfl rfl rfl rfl rfl) | refine HL.nil ?_ | refine HR.ctl rfl ?_ | refine HR.region ?_ | refine HR.condT rfl ?_ | refine HR.condF rfl ?_ | exact HL.blkEnd rfl rfl Ent.refl | (refine fun (hb : (_ : Bool) = _) => ?_; try simp at hb))
    refine HR.ret Try.func24 rfl [_] (fun _ _ => ⟨rfl, trivial⟩) ?_
    exact fun w' hw => ⟨by rw [cheapest, if_pos (by omega)]; rfl, hw.belowB⟩

theorem same_any (a b : List Int) (va vb : Value) (w : World) (ha : Sl w va (cellsOf iC a) a.length) (hvb : Sl w vb (cellsOf iC b) b.length) (hla : a.length ≤ 1000000) :
    Calls Try.prog 13 #[va, vb] w fun e' w' => e' = .returned (.bool (decide (a = b))) ∧ Below w.heap.size w w' := by
  refine calls_hr Try.func13 rfl (Nat.le_of_ble_eq_true rfl) ?_
  refine HR.sub (σ' := [(0, va), (1, vb)]) ⟨rfl, rfl, trivial⟩ ?_
  repeat' (first | (refine HL.isOp ?_; first | refine HL.ev rfl rfl ?_ | refine HL.evc rfl rfl (by first | omega | simp | (simp; omega)) ?_ | refine HL.lenR (Rd.arg ha) rfl rfl rfl ?_ | refine HL.lenR (Rd.arg hvb) rfl rfl rfl ?_ | (refine HL.isLoad ?_; first | refine HL.L 0 rfl rfl rfl rfl ?_ | refine HL.L 1 rfl rfl rfl rfl ?_ | refine HL.L 2 rfl rfl rfl rfl ?_ | refine HL.L 3 rfl rfl rfl rfl ?_) | (refine HL.isStore ?_; first | refine HL.S 0 rfl rfl rfl rfl rfl ?_ | refine HL.S 1 rfl rfl rfl rfl rfl ?_ | refine HL.S 2 rfl rfl rfl rfl rfl ?_ | refine HL.S 3 rfl rfl rfl rfl rfl ?_) | refine HL.build rfl rfl ?_ | refine HL.field rfl rfl ?_ | (refine HL.box rfl rfl ?_; intro bk) | (refine HL.alloc rfl rfl ?_; intro bk) | refine HL.skip rfl rfl ?_ | refine HL.skip0 rfl ?_ | apply HL.andB rfl rfl rfl rfl rfl rfl rfl rfl | apply HL.orB rfl rfl rfl rfl rfl rfl rfl rfl) | refine HL.nil ?_ | refine HR.ctl rfl ?_ | refine HR.region ?_ | refine HR.condT rfl ?_ | refine HR.condF rfl ?_ | exact HL.blkEnd rfl rfl Ent.refl | (refine fun (hb : (_ : Bool) = _) => ?_; try simp at hb))
  refine HR.cond rfl (fun h1 => ?_) (fun h1 => ?_)
  · repeat' (first | (refine HL.isOp ?_; first | refine HL.ev rfl rfl ?_ | refine HL.evc rfl rfl (by first | omega | simp | (simp; omega)) ?_ | (refine HL.isLoad ?_; first | refine HL.L 0 rfl rfl rfl rfl ?_ | refine HL.L 1 rfl rfl rfl rfl ?_ | refine HL.L 2 rfl rfl rfl rfl ?_ | refine HL.L 3 rfl rfl rfl rfl ?_) | (refine HL.isStore ?_; first | refine HL.S 0 rfl rfl rfl rfl rfl ?_ | refine HL.S 1 rfl rfl rfl rfl rfl ?_ | refine HL.S 2 rfl rfl rfl rfl rfl ?_ | refine HL.S 3 rfl rfl rfl rfl rfl ?_) | refine HL.build rfl rfl ?_ | refine HL.field rfl rfl ?_ | (refine HL.box rfl rfl ?_; intro bk) | (refine HL.alloc rfl rfl ?_; intro bk) | refine HL.skip rfl rfl ?_ | refine HL.skip0 rfl ?_ | apply HL.andB rfl rfl rfl rfl rfl rfl rfl rfl | apply HL.orB rfl rfl rfl rfl rfl rfl rfl rfl) | refine HL.nil ?_ | refine HR.ctl rfl ?_ | refine HR.region ?_ | refine HR.condT rfl ?_ | refine HR.condF rfl ?_ | exact HL.blkEnd rfl rfl Ent.refl | (refine fun (hb : (_ : Bool) = _) => ?_; try simp at hb))
    refine HR.ret Try.func13 rfl [_] (fun _ _ => ⟨rfl, trivial⟩) ?_
    have : a ≠ b := by rintro rfl; simp at h1
    exact fun w' hw => ⟨by simp [this, resV], hw.belowB⟩
  have hl : a.length = b.length := by have h1' : ((a.length : Int) != (b.length : Int)) = false := h1; simp at h1'; omega
  repeat' (first | (refine HL.isOp ?_; first | refine HL.ev rfl rfl ?_ | refine HL.evc rfl rfl (by first | omega | simp | (simp; omega)) ?_ | (refine HL.isLoad ?_; first | refine HL.L 0 rfl rfl rfl rfl ?_ | refine HL.L 1 rfl rfl rfl rfl ?_ | refine HL.L 2 rfl rfl rfl rfl ?_ | refine HL.L 3 rfl rfl rfl rfl ?_) | (refine HL.isStore ?_; first | refine HL.S 0 rfl rfl rfl rfl rfl ?_ | refine HL.S 1 rfl rfl rfl rfl rfl ?_ | refine HL.S 2 rfl rfl rfl rfl rfl ?_ | refine HL.S 3 rfl rfl rfl rfl rfl ?_) | refine HL.build rfl rfl ?_ | refine HL.field rfl rfl ?_ | (refine HL.box rfl rfl ?_; intro bk) | (refine HL.alloc rfl rfl ?_; intro bk) | refine HL.skip rfl rfl ?_ | refine HL.skip0 rfl ?_ | apply HL.andB rfl rfl rfl rfl rfl rfl rfl rfl | apply HL.orB rfl rfl rfl rfl rfl rfl rfl rfl) | refine HL.nil ?_ | refine HR.ctl rfl ?_ | refine HR.region ?_ | refine HR.condT rfl ?_ | refine HR.condF rfl ?_ | exact HL.blkEnd rfl rfl Ent.refl | (refine fun (hb : (_ : Bool) = _) => ?_; try simp at hb))
  refine HR.loop (ι := Nat) (fun k => k ≤ a.length ∧ a.take k = b.take k) (fun k => [(0, va), (1, vb), (5, .int .i64 (k : Int))]) (fun _ => []) (fun k => a.length - k) 0 ⟨Nat.zero_le _, by simp⟩ ⟨rfl, rfl, rfl, trivial⟩ Ent.refl ?_
  rintro k ⟨hk, hg⟩ ih
  repeat' (first | (refine HL.isOp ?_; first | refine HL.ev rfl rfl ?_ | refine HL.evc rfl rfl (by first | omega | simp | (simp; omega)) ?_ | refine HL.lenR (Rd.arg ha) rfl rfl rfl ?_ | (refine HL.isLoad ?_; first | refine HL.L 0 rfl rfl rfl rfl ?_ | refine HL.L 1 rfl rfl rfl rfl ?_ | refine HL.L 2 rfl rfl rfl rfl ?_ | refine HL.L 3 rfl rfl rfl rfl ?_) | (refine HL.isStore ?_; first | refine HL.S 0 rfl rfl rfl rfl rfl ?_ | refine HL.S 1 rfl rfl rfl rfl rfl ?_ | refine HL.S 2 rfl rfl rfl rfl rfl ?_ | refine HL.S 3 rfl rfl rfl rfl rfl ?_) | refine HL.build rfl rfl ?_ | refine HL.field rfl rfl ?_ | (refine HL.box rfl rfl ?_; intro bk) | (refine HL.alloc rfl rfl ?_; intro bk) | refine HL.skip rfl rfl ?_ | refine HL.skip0 rfl ?_ | apply HL.andB rfl rfl rfl rfl rfl rfl rfl rfl | apply HL.orB rfl rfl rfl rfl rfl rfl rfl rfl) | refine HL.nil ?_ | refine HR.ctl rfl ?_ | refine HR.region ?_ | refine HR.condT rfl ?_ | refine HR.condF rfl ?_ | exact HL.blkEnd rfl rfl Ent.refl | (refine fun (hb : (_ : Bool) = _) => ?_; try simp at hb))
  refine HR.cond rfl (fun h2 => ?_) (fun h2 => ?_)
  · have hlt : k < a.length := by have := of_decide_eq_true h2; omega
    obtain ⟨x, hx⟩ := getSome hlt
    obtain ⟨y, hy⟩ := getSome (show k < b.length by omega)
    repeat' (first | (refine HL.isOp ?_; first | refine HL.ev rfl rfl ?_ | refine HL.evc rfl rfl (by first | omega | simp | (simp; omega)) ?_ | (refine HL.isLoad ?_; first | refine HL.L 0 rfl rfl rfl rfl ?_ | refine HL.L 1 rfl rfl rfl rfl ?_ | refine HL.L 2 rfl rfl rfl rfl ?_ | refine HL.L 3 rfl rfl rfl rfl ?_) | (refine HL.isStore ?_; first | refine HL.S 0 rfl rfl rfl rfl rfl ?_ | refine HL.S 1 rfl rfl rfl rfl rfl ?_ | refine HL.S 2 rfl rfl rfl rfl rfl ?_ | refine HL.S 3 rfl rfl rfl rfl rfl ?_) | refine HL.build rfl rfl ?_ | refine HL.field rfl rfl ?_ | (refine HL.box rfl rfl ?_; intro bk) | (refine HL.alloc rfl rfl ?_; intro bk) | refine HL.skip rfl rfl ?_ | refine HL.skip0 rfl ?_ | apply HL.andB rfl rfl rfl rfl rfl rfl rfl rfl | apply HL.orB rfl rfl rfl rfl rfl rfl rfl rfl) | refine HL.nil ?_ | refine HR.ctl rfl ?_ | refine HR.region ?_ | refine HR.condT rfl ?_ | refine HR.condF rfl ?_ | exact HL.blkEnd rfl rfl Ent.refl | (refine fun (hb : (_ : Bool) = _) => ?_; try simp at hb))
    refine HR.regionQ hmix (by kernel_rfl) ?_
    repeat' (first | (refine HQ.isOp ?_; first | refine RunQ.ev rfl rfl ?_ | refine RunQ.evc rfl rfl (by first | omega | simp | (simp; omega)) ?_ | refine HQ.idxR (Rd.arg ha) elemI k rfl rfl rfl rfl hlt ?_ | refine HQ.idxR (Rd.arg hvb) elemI k rfl rfl rfl rfl (by omega) ?_ | refine HQ.loadI (Rd.arg ha) rfl rfl rfl rfl (cellsOf_get1 hx) ?_ | refine HQ.loadI (Rd.arg hvb) rfl rfl rfl rfl (cellsOf_get1 hy) ?_ | (refine HQ.isLoad ?_; first | refine HQ.L 0 rfl rfl rfl rfl ?_ | refine HQ.L 1 rfl rfl rfl rfl ?_ | refine HQ.L 2 rfl rfl rfl rfl ?_ | refine HQ.L 3 rfl rfl rfl rfl ?_) | refine RunQ.build rfl rfl ?_ | refine RunQ.field rfl rfl ?_ | apply RunQ.andB rfl rfl rfl rfl rfl rfl rfl rfl | apply RunQ.orB rfl rfl rfl rfl rfl rfl rfl rfl | refine RunQ.skip rfl rfl ?_) | exact RunQ.blkEnd rfl rfl | refine HQ.nil ?_ | (refine fun (hb : (_ : Bool) = _) => ?_; try simp at hb))
    refine HR.cond rfl (fun h3 => ?_) (fun h3 => ?_)
    · repeat' (first | (refine HL.isOp ?_; first | refine HL.ev rfl rfl ?_ | refine HL.evc rfl rfl (by first | omega | simp | (simp; omega)) ?_ | (refine HL.isLoad ?_; first | refine HL.L 0 rfl rfl rfl rfl ?_ | refine HL.L 1 rfl rfl rfl rfl ?_ | refine HL.L 2 rfl rfl rfl rfl ?_ | refine HL.L 3 rfl rfl rfl rfl ?_) | (refine HL.isStore ?_; first | refine HL.S 0 rfl rfl rfl rfl rfl ?_ | refine HL.S 1 rfl rfl rfl rfl rfl ?_ | refine HL.S 2 rfl rfl rfl rfl rfl ?_ | refine HL.S 3 rfl rfl rfl rfl rfl ?_) | refine HL.build rfl rfl ?_ | refine HL.field rfl rfl ?_ | (refine HL.box rfl rfl ?_; intro bk) | (refine HL.alloc rfl rfl ?_; intro bk) | refine HL.skip rfl rfl ?_ | refine HL.skip0 rfl ?_ | apply HL.andB rfl rfl rfl rfl rfl rfl rfl rfl | apply HL.orB rfl rfl rfl rfl rfl rfl rfl rfl) | refine HL.nil ?_ | refine HR.ctl rfl ?_ | refine HR.region ?_ | refine HR.condT rfl ?_ | refine HR.condF rfl ?_ | exact HL.blkEnd rfl rfl Ent.refl | (refine fun (hb : (_ : Bool) = _) => ?_; try simp at hb))
      refine HR.ret Try.func13 rfl [_] (fun _ _ => ⟨rfl, trivial⟩) ?_
      have : a ≠ b := by rintro rfl; rw [hx] at hy; cases hy; simp at h3
      exact fun w' hw => ⟨by simp [this, resV], hw.belowB⟩
    · repeat' (first | (refine HL.isOp ?_; first | refine HL.ev rfl rfl ?_ | refine HL.evc rfl rfl (by first | omega | simp | (simp; omega)) ?_ | (refine HL.isLoad ?_; first | refine HL.L 0 rfl rfl rfl rfl ?_ | refine HL.L 1 rfl rfl rfl rfl ?_ | refine HL.L 2 rfl rfl rfl rfl ?_ | refine HL.L 3 rfl rfl rfl rfl ?_) | (refine HL.isStore ?_; first | refine HL.S 0 rfl rfl rfl rfl rfl ?_ | refine HL.S 1 rfl rfl rfl rfl rfl ?_ | refine HL.S 2 rfl rfl rfl rfl rfl ?_ | refine HL.S 3 rfl rfl rfl rfl rfl ?_) | refine HL.build rfl rfl ?_ | refine HL.field rfl rfl ?_ | (refine HL.box rfl rfl ?_; intro bk) | (refine HL.alloc rfl rfl ?_; intro bk) | refine HL.skip rfl rfl ?_ | refine HL.skip0 rfl ?_ | apply HL.andB rfl rfl rfl rfl rfl rfl rfl rfl | apply HL.orB rfl rfl rfl rfl rfl rfl rfl rfl) | refine HL.nil ?_ | refine HR.ctl rfl ?_ | refine HR.region ?_ | refine HR.condT rfl ?_ | refine HR.condF rfl ?_ | exact HL.blkEnd rfl rfl Ent.refl | (refine fun (hb : (_ : Bool) = _) => ?_; try simp at hb))
      refine ih (k + 1) _ _ ⟨hlt, ?_⟩ (by omega) ⟨rfl, rfl, rfl, trivial⟩ Ent.refl
      rw [take_succ_get hx, take_succ_get hy, hg]
      simp at h3; rw [h3]
  · have hke : k = a.length := by have := of_decide_eq_false h2; omega
    subst hke
    repeat' (first | (refine HL.isOp ?_; first | refine HL.ev rfl rfl ?_ | refine HL.evc rfl rfl (by first | omega | simp | (simp; omega)) ?_ | (refine HL.isLoad ?_; first | refine HL.L 0 rfl rfl rfl rfl ?_ | refine HL.L 1 rfl rfl rfl rfl ?_ | refine HL.L 2 rfl rfl rfl rfl ?_ | refine HL.L 3 rfl rfl rfl rfl ?_) | (refine HL.isStore ?_; first | refine HL.S 0 rfl rfl rfl rfl rfl ?_ | refine HL.S 1 rfl rfl rfl rfl rfl ?_ | refine HL.S 2 rfl rfl rfl rfl rfl ?_ | refine HL.S 3 rfl rfl rfl rfl rfl ?_) | refine HL.build rfl rfl ?_ | refine HL.field rfl rfl ?_ | (refine HL.box rfl rfl ?_; intro bk) | (refine HL.alloc rfl rfl ?_; intro bk) | refine HL.skip rfl rfl ?_ | refine HL.skip0 rfl ?_ | apply HL.andB rfl rfl rfl rfl rfl rfl rfl rfl | apply HL.orB rfl rfl rfl rfl rfl rfl rfl rfl) | refine HL.nil ?_ | refine HR.ctl rfl ?_ | refine HR.region ?_ | refine HR.condT rfl ?_ | refine HR.condF rfl ?_ | exact HL.blkEnd rfl rfl Ent.refl | (refine fun (hb : (_ : Bool) = _) => ?_; try simp at hb))
    refine HR.ret Try.func13 rfl [_] (fun _ _ => ⟨rfl, trivial⟩) ?_
    rw [List.take_length, hl, List.take_length] at hg
    exact fun w' hw => ⟨by simp [hg, resV], hw.belowB⟩
theorem sameT_any (a : List Int) (va vb : Value) (w : World) (ha : Sl w va (cellsOf iC a) a.length) (hvb : Sl w vb (cellsOf iC a) a.length) (hla : a.length ≤ 1000000) :
    Calls Try.prog 13 #[va, vb] w fun e' w' => e' = .returned (.bool true) ∧ Below w.heap.size w w' := by
  have := same_any a a va vb w ha hvb hla
  simpa using this

/-! ### Bands -/
theorem clone_any (l : List Int) (v : Value) (w : World) (hv : Sl w v (cellsOf iC l) l.length) (h1 : 1 ≤ l.length) (hl : l.length ≤ 1000000) :
    Calls Try.prog 29 #[v] w fun e w' => ∃ v', e = .returned v' ∧ Sat (base w) [ownC v' 3 1 l.length (cellsOf iC l)] w' := by
  rcases hv.1 with ⟨_, h0, _⟩ | ⟨b, off, cap, rfl, hc⟩
  · omega
  · refine (Try.slices_Clone_int b off l.length cap l w (Nat.le_refl _) (by omega) (fun j hj => ?_)).mono ?_
    · obtain ⟨a, ha⟩ := getSome hj
      have := hc (j * 1) _ (cellsOf_get1 (f := Value.int .i64) ha)
      rw [Nat.mul_one] at this
      rw [this, List.getD_eq_getElem?_getD, ha]; rfl
    · rintro e w' ⟨v', rfl, ho, _, hb⟩
      rw [List.take_length, ← cellsOf_one1] at ho
      exact ⟨v', rfl, Sat.ofOwn hb ho⟩

theorem sort_any (v : Value) (n : Nat) (zs : List Int) (w : World) (hv : Vw w v 3 1 n (cellsOf iC zs)) (hn : n ≤ 1000000) :
    Calls Try.prog 30 #[v] w fun e w' => ∃ x : Unit, e = .returned (.tuple #[]) ∧ True ∧ Sat ⟨w, feet [ownC v 3 1 n (cellsOf iC zs)]⟩ [ownC v 3 1 n (cellsOf iC (srt zs))] w' := by
  have hl : zs.length = n := by have := hv.1; rw [cellsOf_len iC_len] at this; omega
  have stay : n = 0 → (∃ p cap, v = .slice p 0 cap) → Calls Try.prog 30 #[v] w fun e w' => ∃ x : Unit, e = .returned (.tuple #[]) ∧ True ∧ Sat ⟨w, feet [ownC v 3 1 n (cellsOf iC zs)]⟩ [ownC v 3 1 n (cellsOf iC (srt zs))] w' := by
    intro h0 hp
    obtain ⟨p, cap, rfl⟩ := hp
    have hz : zs = [] := List.eq_nil_of_length_eq_zero (by omega)
    subst hz
    refine (Try.slices_Sort_int_none p cap w).mono ?_
    rintro e w' ⟨rfl, rfl⟩
    exact ⟨(), rfl, trivial, by simpa using Sat.sameOwn hv⟩
  rcases hv.2 with ⟨rfl, h0⟩ | ⟨g, off, cap, cur, rfl, _⟩
  · exact stay h0 ⟨none, 0, rfl⟩
  · have hv' : Vw w (.slice (some ⟨g, off, none⟩) n cap) 3 1 n (zs.map (Value.int .i64)) := by rw [← cellsOf_one1]; exact hv
    obtain ⟨h1, h2, h3⟩ := hv'.holds
    have := Try.slices_Sort_int g off cap zs w h3 h1 (by omega)
    rw [hl] at this
    refine this.mono ?_
    rintro e w' ⟨rfl, q, os, rfl⟩
    exact ⟨(), rfl, trivial, Sat.putOwn (enc := Value.int .i64) (zs := zs) (ys := srt zs) hv (by rw [List.length_mergeSort]; exact hl)⟩

theorem compact_any (v : Value) (n : Nat) (zs : List Int) (w : World) (hv : Vw w v 3 1 n (cellsOf iC zs)) (hn : n ≤ 1000000) (h1 : 1 ≤ n) :
    Calls Try.prog 31 #[v] w fun e w' => ∃ x : Value, e = .returned x ∧ True ∧ Sat ⟨w, feet [ownC v 3 1 n (cellsOf iC zs)]⟩ [ownC x 3 1 (Lib.compact zs).length (cellsOf iC (Lib.compact zs))] w' := by
  have hl : zs.length = n := by have := hv.1; rw [cellsOf_len iC_len] at this; omega
  rcases hv.2 with ⟨rfl, h0⟩ | ⟨g, off, cap, cur, rfl, _, hcap, _⟩
  · omega
  · have hv' : Vw w (.slice (some ⟨g, off, none⟩) n cap) 3 1 n (zs.map (Value.int .i64)) := by rw [← cellsOf_one1]; exact hv
    obtain ⟨h1', h2, h3⟩ := hv'.holds
    have hcl : (Lib.compact zs).length ≤ n := by rw [← hl]; exact Lib.compact_length_le zs
    have := Try.slices_Compact_int g off cap zs w h3 (by omega) (by omega)
    rw [hl] at this
    refine this.mono ?_
    rintro e w' ⟨rfl, q, rfl⟩
    exact ⟨_, rfl, trivial, Sat.cutOwn (Sat.putOwn0 (enc := Value.int .i64) (q := q) (zs := zs) (ys := Lib.compact zs ++ List.replicate (n - (Lib.compact zs).length) 0) hv (by simp; omega)) hcl (by simp)⟩

theorem bands_any (t : Tr) (vb vs : Value) (w : World) (hv : OkV w t vb vs) :
    Calls Try.prog 14 #[tfV vb vs t.fu] w fun e w' => ∃ v, e = .returned v ∧ Sat (base w) [ownC v 3 1 (bands t).length (cellsOf iC (bands t))] w' := by
  refine calls_hr Try.func14 rfl (Nat.le_of_ble_eq_true rfl) ?_
  refine HR.sub (σ' := [(0, tfV vb vs t.fu)]) ⟨rfl, trivial⟩ ?_
  repeat' (first | (refine HL.isOp ?_; first | refine HL.ev rfl rfl ?_ | refine HL.evc rfl rfl (by first | omega | simp | (simp; omega)) ?_ | refine HL.callB fn11 rfl rfl (fun w hw => check_any t vb vs w (hv.at hw)) ?_ | (refine HL.isLoad ?_; first | refine HL.L 0 rfl rfl rfl rfl ?_ | refine HL.L 1 rfl rfl rfl rfl ?_ | refine HL.L 2 rfl rfl rfl rfl ?_ | refine HL.L 3 rfl rfl rfl rfl ?_) | (refine HL.isStore ?_; first | refine HL.S 0 rfl rfl rfl rfl rfl ?_ | refine HL.S 1 rfl rfl rfl rfl rfl ?_ | refine HL.S 2 rfl rfl rfl rfl rfl ?_ | refine HL.S 3 rfl rfl rfl rfl rfl ?_) | refine HL.build rfl rfl ?_ | refine HL.field rfl rfl ?_ | (refine HL.box rfl rfl ?_; intro bk) | (refine HL.alloc rfl rfl ?_; intro bk) | refine HL.skip rfl rfl ?_ | refine HL.skip0 rfl ?_ | apply HL.andB rfl rfl rfl rfl rfl rfl rfl rfl | apply HL.orB rfl rfl rfl rfl rfl rfl rfl rfl) | refine HL.nil ?_ | refine HR.ctl rfl ?_ | refine HR.region ?_ | refine HR.condT rfl ?_ | refine HR.condF rfl ?_ | exact HL.blkEnd rfl rfl Ent.refl | (refine fun (hb : (_ : Bool) = _) => ?_; try simp at hb))
  refine HR.cond rfl (fun h => ?_) (fun h => ?_)
  · have hno : ¬ check t = 0 := by simpa using h
    repeat' (first | (refine HL.isOp ?_; first | refine HL.ev rfl rfl ?_ | refine HL.evc rfl rfl (by first | omega | simp | (simp; omega)) ?_ | (refine HL.isLoad ?_; first | refine HL.L 0 rfl rfl rfl rfl ?_ | refine HL.L 1 rfl rfl rfl rfl ?_ | refine HL.L 2 rfl rfl rfl rfl ?_ | refine HL.L 3 rfl rfl rfl rfl ?_) | (refine HL.isStore ?_; first | refine HL.S 0 rfl rfl rfl rfl rfl ?_ | refine HL.S 1 rfl rfl rfl rfl rfl ?_ | refine HL.S 2 rfl rfl rfl rfl rfl ?_ | refine HL.S 3 rfl rfl rfl rfl rfl ?_) | refine HL.build rfl rfl ?_ | refine HL.field rfl rfl ?_ | (refine HL.box rfl rfl ?_; intro bk) | (refine HL.alloc rfl rfl ?_; intro bk) | refine HL.skip rfl rfl ?_ | refine HL.skip0 rfl ?_ | apply HL.andB rfl rfl rfl rfl rfl rfl rfl rfl | apply HL.orB rfl rfl rfl rfl rfl rfl rfl rfl) | refine HL.nil ?_ | refine HR.ctl rfl ?_ | refine HR.region ?_ | refine HR.condT rfl ?_ | refine HR.condF rfl ?_ | exact HL.blkEnd rfl rfl Ent.refl | (refine fun (hb : (_ : Bool) = _) => ?_; try simp at hb))
    refine HR.nilC 3 1 ?_
    refine HR.ret Try.func14 rfl [_] (fun _ _ => ⟨rfl, trivial⟩) ?_
    exact fun w' hw => ⟨.slice none 0 0, rfl, by rw [bands_no hno]; exact hw.pick [0] rfl rfl⟩
  have h0 : check t = 0 := by simpa using h
  have ho := ok_of h0
  have n1 := ho.n1
  have n2 := ho.n2
  repeat' (first | (refine HL.isOp ?_; first | refine HL.ev rfl rfl ?_ | refine HL.evc rfl rfl (by first | omega | simp | (simp; omega)) ?_ | (refine HL.isLoad ?_; first | refine HL.L 0 rfl rfl rfl rfl ?_ | refine HL.L 1 rfl rfl rfl rfl ?_ | refine HL.L 2 rfl rfl rfl rfl ?_ | refine HL.L 3 rfl rfl rfl rfl ?_) | (refine HL.isStore ?_; first | refine HL.S 0 rfl rfl rfl rfl rfl ?_ | refine HL.S 1 rfl rfl rfl rfl rfl ?_ | refine HL.S 2 rfl rfl rfl rfl rfl ?_ | refine HL.S 3 rfl rfl rfl rfl rfl ?_) | refine HL.build rfl rfl ?_ | refine HL.field rfl rfl ?_ | (refine HL.box rfl rfl ?_; intro bk) | (refine HL.alloc rfl rfl ?_; intro bk) | refine HL.skip rfl rfl ?_ | refine HL.skip0 rfl ?_ | apply HL.andB rfl rfl rfl rfl rfl rfl rfl rfl | apply HL.orB rfl rfl rfl rfl rfl rfl rfl rfl) | refine HL.nil ?_ | refine HR.ctl rfl ?_ | refine HR.region ?_ | refine HR.condT rfl ?_ | refine HR.condF rfl ?_ | exact HL.blkEnd rfl rfl Ent.refl | (refine fun (hb : (_ : Bool) = _) => ?_; try simp at hb))
  refine HL.callO fn29 rfl rfl (fun w hw => clone_any t.b vb w ((Rd.arg hv.b).at hw) n1 (by omega)) ?_
  intro v1
  repeat' (first | (refine HL.isOp ?_; first | refine HL.ev rfl rfl ?_ | refine HL.evc rfl rfl (by first | omega | simp | (simp; omega)) ?_ | (refine HL.isLoad ?_; first | refine HL.L 0 rfl rfl rfl rfl ?_ | refine HL.L 1 rfl rfl rfl rfl ?_ | refine HL.L 2 rfl rfl rfl rfl ?_ | refine HL.L 3 rfl rfl rfl rfl ?_) | (refine HL.isStore ?_; first | refine HL.S 0 rfl rfl rfl rfl rfl ?_ | refine HL.S 1 rfl rfl rfl rfl rfl ?_ | refine HL.S 2 rfl rfl rfl rfl rfl ?_ | refine HL.S 3 rfl rfl rfl rfl rfl ?_) | refine HL.build rfl rfl ?_ | refine HL.field rfl rfl ?_ | (refine HL.box rfl rfl ?_; intro bk) | (refine HL.alloc rfl rfl ?_; intro bk) | refine HL.skip rfl rfl ?_ | refine HL.skip0 rfl ?_ | apply HL.andB rfl rfl rfl rfl rfl rfl rfl rfl | apply HL.orB rfl rfl rfl rfl rfl rfl rfl rfl) | refine HL.nil ?_ | refine HR.ctl rfl ?_ | refine HR.region ?_ | refine HR.condT rfl ?_ | refine HR.condF rfl ?_ | exact HL.blkEnd rfl rfl Ent.refl | (refine fun (hb : (_ : Bool) = _) => ?_; try simp at hb))
  refine HL.callW (r := fun _ : Unit => .tuple #[]) (Q := fun _ => True) (G0 := [ownC v1 3 1 t.b.length (cellsOf iC t.b)]) (G := fun _ => [ownC v1 3 1 t.b.length (cellsOf iC (srt t.b))]) fn30 rfl rfl rfl (fun w hw => sort_any v1 _ _ w (hw.vw (i := 0) rfl) (by omega)) ?_
  intro _ _
  repeat' (first | (refine HL.isOp ?_; first | refine HL.ev rfl rfl ?_ | refine HL.evc rfl rfl (by first | omega | simp | (simp; omega)) ?_ | (refine HL.isLoad ?_; first | refine HL.L 0 rfl rfl rfl rfl ?_ | refine HL.L 1 rfl rfl rfl rfl ?_ | refine HL.L 2 rfl rfl rfl rfl ?_ | refine HL.L 3 rfl rfl rfl rfl ?_) | (refine HL.isStore ?_; first | refine HL.S 0 rfl rfl rfl rfl rfl ?_ | refine HL.S 1 rfl rfl rfl rfl rfl ?_ | refine HL.S 2 rfl rfl rfl rfl rfl ?_ | refine HL.S 3 rfl rfl rfl rfl rfl ?_) | refine HL.build rfl rfl ?_ | refine HL.field rfl rfl ?_ | (refine HL.box rfl rfl ?_; intro bk) | (refine HL.alloc rfl rfl ?_; intro bk) | refine HL.skip rfl rfl ?_ | refine HL.skip0 rfl ?_ | apply HL.andB rfl rfl rfl rfl rfl rfl rfl rfl | apply HL.orB rfl rfl rfl rfl rfl rfl rfl rfl) | refine HL.nil ?_ | refine HR.ctl rfl ?_ | refine HR.region ?_ | refine HR.condT rfl ?_ | refine HR.condF rfl ?_ | exact HL.blkEnd rfl rfl Ent.refl | (refine fun (hb : (_ : Bool) = _) => ?_; try simp at hb))
  refine HL.callW (r := fun x : Value => x) (Q := fun _ => True) (G0 := [ownC v1 3 1 t.b.length (cellsOf iC (srt t.b))]) (G := fun x => [ownC x 3 1 (dif t.b).length (cellsOf iC (dif t.b))]) fn31 rfl rfl rfl (fun w hw => compact_any v1 _ _ w (hw.vw (i := 0) rfl) (by omega) n1) ?_
  intro v2 _
  repeat' (first | (refine HL.isOp ?_; first | refine HL.ev rfl rfl ?_ | refine HL.evc rfl rfl (by first | omega | simp | (simp; omega)) ?_ | (refine HL.isLoad ?_; first | refine HL.L 0 rfl rfl rfl rfl ?_ | refine HL.L 1 rfl rfl rfl rfl ?_ | refine HL.L 2 rfl rfl rfl rfl ?_ | refine HL.L 3 rfl rfl rfl rfl ?_) | (refine HL.isStore ?_; first | refine HL.S 0 rfl rfl rfl rfl rfl ?_ | refine HL.S 1 rfl rfl rfl rfl rfl ?_ | refine HL.S 2 rfl rfl rfl rfl rfl ?_ | refine HL.S 3 rfl rfl rfl rfl rfl ?_) | refine HL.build rfl rfl ?_ | refine HL.field rfl rfl ?_ | (refine HL.box rfl rfl ?_; intro bk) | (refine HL.alloc rfl rfl ?_; intro bk) | refine HL.skip rfl rfl ?_ | refine HL.skip0 rfl ?_ | apply HL.andB rfl rfl rfl rfl rfl rfl rfl rfl | apply HL.orB rfl rfl rfl rfl rfl rfl rfl rfl) | refine HL.nil ?_ | refine HR.ctl rfl ?_ | refine HR.region ?_ | refine HR.condT rfl ?_ | refine HR.condF rfl ?_ | exact HL.blkEnd rfl rfl Ent.refl | (refine fun (hb : (_ : Bool) = _) => ?_; try simp at hb))
  refine HR.ret Try.func14 rfl [_] (fun _ _ => ⟨rfl, trivial⟩) ?_
  exact fun w' hw => ⟨v2, rfl, by rw [bands_ok h0]; exact hw.pick [0] rfl rfl⟩
end Go.Proofs.Ytlineefahilohaa
