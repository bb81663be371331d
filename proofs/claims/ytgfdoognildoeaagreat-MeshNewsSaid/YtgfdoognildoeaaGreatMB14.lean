/- A part of the proof: contracts of the program's functions. Conditions: none. -/
import Derived.Carry
import Derived.Deep.MidRow
import Derived.Deep.Quiet
import Derived.Laws.IdiomRangeMap
import Derived.Laws.MakeOwn
import Derived.Laws.StructEq
import Derived.Laws.Tables
import Derived.Lib.AppendStr
import Derived.Lib.AppendZerosOnto
import Derived.Lib.OthersKept
import Derived.Lib.Overlaps
import Derived.Lib.OwnBridge
import Derived.Lib.SlicesCompact
import Derived.MapKept
import Derived.Orders
import Derived.OrdersHeld
import Derived.Scope
import Derived.Sort.Grow
import Derived.StillTail
import Derived.Test.YtgfdoognildoeaaGreatProg
import Derived.Test.YtgfdoognildoeaaGreatShelf
import Derived.WalkKit
import Derived.WalkLawsBesides
import Derived.WalkSpells
import Derived.Test.YtgfdoognildoeaaGreatMB1
import Derived.Test.YtgfdoognildoeaaGreatMB2
import Derived.Test.YtgfdoognildoeaaGreatMB3
import Derived.Test.YtgfdoognildoeaaGreatMB4
import Derived.Test.YtgfdoognildoeaaGreatMB5
import Derived.Test.YtgfdoognildoeaaGreatMB6
import Derived.Test.YtgfdoognildoeaaGreatMB7
import Derived.Test.YtgfdoognildoeaaGreatMB8
import Derived.Test.YtgfdoognildoeaaGreatMB9
import Derived.Test.YtgfdoognildoeaaGreatMB13
set_option linter.unusedVariables false
set_option linter.unusedSectionVars false
set_option linter.unusedSimpArgs false
set_option maxRecDepth 100000
set_option maxHeartbeats 4000000
namespace Go.Proofs.YtgfdoognildoeaaGreat
open Go.GX Go.RowKit
attribute [local irreducible] Calls Run RunL RunQ RunD HR HL HD blkC ownC mapC Rd slicesC iterC
theorem keyE : KeyK Tryz.prog 206 (fun e : Ed => Value.agg ⟨edC e⟩) := by
 refine key_struct I (fun a b w => ?_) (fun e k w => ?_) (fun k w => ?_) (fun a b h => ?_)
 ·rw [eqStruct_run (xs := edC a) (ys := edC b) (by kernel_rfl) I w]
  congr 1
  obtain ⟨a1, a2⟩ := a
  obtain ⟨b1, b2⟩ := b
  rw [Bool.eq_iff_iff]
  simp
 ·exact checkKey_struct (fl := _) I I e 9998 w
 ·exact stays_plain (by intro v hv; simp [edC] at hv; rcases hv with rfl | rfl <;> simp [Instr.sameBits]) w
 ·obtain ⟨a1, a2⟩ := a
  obtain ⟨b1, b2⟩ := b
  simpa [edC] using h
theorem check_any (l : List Ed) (vl : Value) (w : World) (hl : Sl w vl (cellsOf edC l) l.length) (hll : l.length ≤ 1000000) :
  Calls Tryz.prog 147 #[vl] w fun e' w' => e' = .returned (.int .i64 (Tp.check l)) ∧ Below w.heap.size w w' := by
 refine calls_hr Tryz.func147 I (Nat.le_of_ble_eq_true I) ?_
 refine HR.sub (σ' := [(0, vl)]) ⟨I, trivial⟩ ?_
 repeat' (first | (refine HL.isOp ?_; first | refine HL.ev I I ?_ | refine HL.evc I I (by first | omega | (simp; done) | (simp; omega)) ?_ | refine HL.lenR (Rd.arg hl) I I I ?_ | (refine HL.isLoad ?_; first | refine HL.L 0 I I I I ?_ | refine HL.L 1 I I I I ?_ | refine HL.L 2 I I I I ?_ | refine HL.L 3 I I I I ?_) | (refine HL.isStore ?_; first | refine HL.S 0 I I I I I ?_ | refine HL.S 1 I I I I I ?_ | refine HL.S 2 I I I I I ?_ | refine HL.S 3 I I I I I ?_) | refine HL.build I I ?_ | refine HL.field I I ?_ | (refine HL.box I I ?_; intro bk) | (refine HL.alloc I I ?_; intro bk) | refine HL.skip rfl rfl ?_ | refine HL.skip0 rfl ?_ | apply HL.andB rfl rfl rfl rfl rfl rfl rfl rfl | apply HL.orB rfl rfl rfl rfl rfl rfl rfl rfl) | refine HL.nil ?_ | refine HR.ctl rfl ?_ | refine HR.region ?_ | refine HR.condT rfl ?_ | refine HR.condF rfl ?_ | exact HL.blkEnd rfl rfl Ent.refl | (refine fun (hb : (_ : Bool) = _) => ?_; try simp at hb))
 refine HR.cond I (fun h1 => ?_) (fun h1 => ?_)
 ·repeat' (first | (refine HL.isOp ?_; first | refine HL.ev I I ?_ | refine HL.evc I I (by first | omega | (simp; done) | (simp; omega)) ?_ | (refine HL.isLoad ?_; first | refine HL.L 0 I I I I ?_ | refine HL.L 1 I I I I ?_ | refine HL.L 2 I I I I ?_ | refine HL.L 3 I I I I ?_) | (refine HL.isStore ?_; first | refine HL.S 0 I I I I I ?_ | refine HL.S 1 I I I I I ?_ | refine HL.S 2 I I I I I ?_ | refine HL.S 3 I I I I I ?_) | refine HL.build I I ?_ | refine HL.field I I ?_ | (refine HL.box I I ?_; intro bk) | (refine HL.alloc I I ?_; intro bk) | refine HL.skip rfl rfl ?_ | refine HL.skip0 rfl ?_ | apply HL.andB rfl rfl rfl rfl rfl rfl rfl rfl | apply HL.orB rfl rfl rfl rfl rfl rfl rfl rfl) | refine HL.nil ?_ | refine HR.ctl rfl ?_ | refine HR.region ?_ | refine HR.condT rfl ?_ | refine HR.condF rfl ?_ | exact HL.blkEnd rfl rfl Ent.refl | (refine fun (hb : (_ : Bool) = _) => ?_; try simp at hb))
  refine HR.ret Tryz.func147 I [_] (fun _ _ => ⟨I, trivial⟩) ?_
  have : l.length > 256 := by have := of_decide_eq_true h1; omega
  exact fun w' hw => ⟨by simp [Tp.check, this, resV], hw.belowB⟩
 have hl6 : ¬ l.length > 256 := by have := of_decide_eq_false h1; omega
 have hck : Tp.check l = Tp.chk (l.take 0) (l.drop 0) := by simp [Tp.check, hl6]
 repeat' (first | (refine HL.isOp ?_; first | refine HL.ev I I ?_ | refine HL.evc I I (by first | omega | (simp; done) | (simp; omega)) ?_ | refine HL.makeM (fun e : Ed => Value.agg ⟨edC e⟩) I ?_ | (refine HL.isLoad ?_; first | refine HL.L 0 I I I I ?_ | refine HL.L 1 I I I I ?_ | refine HL.L 2 I I I I ?_ | refine HL.L 3 I I I I ?_) | (refine HL.isStore ?_; first | refine HL.S 0 I I I I I ?_ | refine HL.S 1 I I I I I ?_ | refine HL.S 2 I I I I I ?_ | refine HL.S 3 I I I I I ?_) | refine HL.build I I ?_ | refine HL.field I I ?_ | (refine HL.box I I ?_; intro bk) | (refine HL.alloc I I ?_; intro bk) | refine HL.skip rfl rfl ?_ | refine HL.skip0 rfl ?_ | apply HL.andB rfl rfl rfl rfl rfl rfl rfl rfl | apply HL.orB rfl rfl rfl rfl rfl rfl rfl rfl) | refine HL.nil ?_ | refine HR.ctl rfl ?_ | refine HR.region ?_ | refine HR.condT rfl ?_ | refine HR.condF rfl ?_ | exact HL.blkEnd rfl rfl Ent.refl | (refine fun (hb : (_ : Bool) = _) => ?_; try simp at hb))
 intro b
 repeat' (first | (refine HL.isOp ?_; first | refine HL.ev I I ?_ | refine HL.evc I I (by first | omega | (simp; done) | (simp; omega)) ?_ | refine HL.lenR (Rd.arg hl) I I I ?_ | (refine HL.isLoad ?_; first | refine HL.L 0 I I I I ?_ | refine HL.L 1 I I I I ?_ | refine HL.L 2 I I I I ?_ | refine HL.L 3 I I I I ?_) | (refine HL.isStore ?_; first | refine HL.S 0 I I I I I ?_ | refine HL.S 1 I I I I I ?_ | refine HL.S 2 I I I I I ?_ | refine HL.S 3 I I I I I ?_) | refine HL.build I I ?_ | refine HL.field I I ?_ | (refine HL.box I I ?_; intro bk) | (refine HL.alloc I I ?_; intro bk) | refine HL.skip rfl rfl ?_ | refine HL.skip0 rfl ?_ | apply HL.andB rfl rfl rfl rfl rfl rfl rfl rfl | apply HL.orB rfl rfl rfl rfl rfl rfl rfl rfl) | refine HL.nil ?_ | refine HR.ctl rfl ?_ | refine HR.region ?_ | refine HR.condT rfl ?_ | refine HR.condF rfl ?_ | exact HL.blkEnd rfl rfl Ent.refl | (refine fun (hb : (_ : Bool) = _) => ?_; try simp at hb))
 refine HR.loop2 (α := Nat) (β := List (Ed × Value)) (fun k m => k ≤ l.length ∧ Tp.check l = Tp.chk (l.take k) (l.drop k) ∧ ∀ z, (getM z m).getD (.bool false) = .bool (decide (z ∈ (l.take k).map Tp.link))) (fun k m => [(3, .map (some b)), (10, vl), (11, .int .i64 (l.length : Int)), (12, .int .i64 (k : Int))]) (fun k m => [mapC (fun e : Ed => Value.agg ⟨edC e⟩) b m]) (fun k m => l.length - k) 0 [] ⟨Nat.zero_le _, hck, fun z => by simp [getM]⟩ ⟨I, I, I, I, trivial⟩ Ent.refl ?_
 rintro k m ⟨hk, hc, hg⟩ ih
 repeat' (first | (refine HL.isOp ?_; first | refine HL.ev I I ?_ | refine HL.evc I I (by first | omega | (simp; done) | (simp; omega)) ?_ | (refine HL.isLoad ?_; first | refine HL.L 0 I I I I ?_ | refine HL.L 1 I I I I ?_ | refine HL.L 2 I I I I ?_ | refine HL.L 3 I I I I ?_) | (refine HL.isStore ?_; first | refine HL.S 0 I I I I I ?_ | refine HL.S 1 I I I I I ?_ | refine HL.S 2 I I I I I ?_ | refine HL.S 3 I I I I I ?_) | refine HL.build I I ?_ | refine HL.field I I ?_ | (refine HL.box I I ?_; intro bk) | (refine HL.alloc I I ?_; intro bk) | refine HL.skip rfl rfl ?_ | refine HL.skip0 rfl ?_ | apply HL.andB rfl rfl rfl rfl rfl rfl rfl rfl | apply HL.orB rfl rfl rfl rfl rfl rfl rfl rfl) | refine HL.nil ?_ | refine HR.ctl rfl ?_ | refine HR.region ?_ | refine HR.condT rfl ?_ | refine HR.condF rfl ?_ | exact HL.blkEnd rfl rfl Ent.refl | (refine fun (hb : (_ : Bool) = _) => ?_; try simp at hb))
 refine HR.cond I (fun h2 => ?_) (fun h2 => ?_)
 ·have hlt : k < l.length := by have := of_decide_eq_true h2; omega
  obtain ⟨e, he⟩ := getSome hlt
  repeat' (first | (refine HL.isOp ?_; first | refine HL.ev I I ?_ | refine HL.evc I I (by first | omega | (simp; done) | (simp; omega)) ?_ | refine HL.idxR (Rd.arg hl) elemE k I I I I hlt ?_ | refine HL.loadE (Rd.arg hl) I I I I (by simp [edC]) I (cellsOf_get edC_len he) ?_ | refine HL.callB fn202 I I (fun w _ => valid_any e w) ?_ | (refine HL.isLoad ?_; first | refine HL.L 0 I I I I ?_ | refine HL.L 1 I I I I ?_ | refine HL.L 2 I I I I ?_ | refine HL.L 3 I I I I ?_) | (refine HL.isStore ?_; first | refine HL.S 0 I I I I I ?_ | refine HL.S 1 I I I I I ?_ | refine HL.S 2 I I I I I ?_ | refine HL.S 3 I I I I I ?_) | refine HL.build I I ?_ | refine HL.field I I ?_ | (refine HL.box I I ?_; intro bk) | (refine HL.alloc I I ?_; intro bk) | refine HL.skip rfl rfl ?_ | refine HL.skip0 rfl ?_ | apply HL.andB rfl rfl rfl rfl rfl rfl rfl rfl | apply HL.orB rfl rfl rfl rfl rfl rfl rfl rfl) | refine HL.nil ?_ | refine HR.ctl rfl ?_ | refine HR.region ?_ | refine HR.condT rfl ?_ | refine HR.condF rfl ?_ | exact HL.blkEnd rfl rfl Ent.refl | (refine fun (hb : (_ : Bool) = _) => ?_; try simp at hb))
  refine HR.cond I (fun h3 => ?_) (fun h3 => ?_)
  ·repeat' (first | (refine HL.isOp ?_; first | refine HL.ev I I ?_ | refine HL.evc I I (by first | omega | (simp; done) | (simp; omega)) ?_ | (refine HL.isLoad ?_; first | refine HL.L 0 I I I I ?_ | refine HL.L 1 I I I I ?_ | refine HL.L 2 I I I I ?_ | refine HL.L 3 I I I I ?_) | (refine HL.isStore ?_; first | refine HL.S 0 I I I I I ?_ | refine HL.S 1 I I I I I ?_ | refine HL.S 2 I I I I I ?_ | refine HL.S 3 I I I I I ?_) | refine HL.build I I ?_ | refine HL.field I I ?_ | (refine HL.box I I ?_; intro bk) | (refine HL.alloc I I ?_; intro bk) | refine HL.skip rfl rfl ?_ | refine HL.skip0 rfl ?_ | apply HL.andB rfl rfl rfl rfl rfl rfl rfl rfl | apply HL.orB rfl rfl rfl rfl rfl rfl rfl rfl) | refine HL.nil ?_ | refine HR.ctl rfl ?_ | refine HR.region ?_ | refine HR.condT rfl ?_ | refine HR.condF rfl ?_ | exact HL.blkEnd rfl rfl Ent.refl | (refine fun (hb : (_ : Bool) = _) => ?_; try simp at hb))
   refine HR.ret Tryz.func147 I [_] (fun _ _ => ⟨I, trivial⟩) ?_
   exact fun w' hw => ⟨by rw [hc, Tp.chk_bad he (by simpa using h3)]; rfl, hw.belowB⟩
  have hok : Tp.okE e = true := by simpa using h3
  repeat' (first | (refine HL.isOp ?_; first | refine HL.ev I I ?_ | refine HL.evc I I (by first | omega | (simp; done) | (simp; omega)) ?_ | refine HL.callB fn203 I I (fun w _ => link_any e w) ?_ | refine HL.lookV 1 I keyE I I I I I (hg _) ?_ | (refine HL.isLoad ?_; first | refine HL.L 0 I I I I ?_ | refine HL.L 1 I I I I ?_ | refine HL.L 2 I I I I ?_ | refine HL.L 3 I I I I ?_) | (refine HL.isStore ?_; first | refine HL.S 0 I I I I I ?_ | refine HL.S 1 I I I I I ?_ | refine HL.S 2 I I I I I ?_ | refine HL.S 3 I I I I I ?_) | refine HL.build I I ?_ | refine HL.field I I ?_ | (refine HL.box I I ?_; intro bk) | (refine HL.alloc I I ?_; intro bk) | refine HL.skip rfl rfl ?_ | refine HL.skip0 rfl ?_ | apply HL.andB rfl rfl rfl rfl rfl rfl rfl rfl | apply HL.orB rfl rfl rfl rfl rfl rfl rfl rfl) | refine HL.nil ?_ | refine HR.ctl rfl ?_ | refine HR.region ?_ | refine HR.condT rfl ?_ | refine HR.condF rfl ?_ | exact HL.blkEnd rfl rfl Ent.refl | (refine fun (hb : (_ : Bool) = _) => ?_; try simp at hb))
  refine HR.cond I (fun h4 => ?_) (fun h4 => ?_)
  ·repeat' (first | (refine HL.isOp ?_; first | refine HL.ev I I ?_ | refine HL.evc I I (by first | omega | (simp; done) | (simp; omega)) ?_ | (refine HL.isLoad ?_; first | refine HL.L 0 I I I I ?_ | refine HL.L 1 I I I I ?_ | refine HL.L 2 I I I I ?_ | refine HL.L 3 I I I I ?_) | (refine HL.isStore ?_; first | refine HL.S 0 I I I I I ?_ | refine HL.S 1 I I I I I ?_ | refine HL.S 2 I I I I I ?_ | refine HL.S 3 I I I I I ?_) | refine HL.build I I ?_ | refine HL.field I I ?_ | (refine HL.box I I ?_; intro bk) | (refine HL.alloc I I ?_; intro bk) | refine HL.skip rfl rfl ?_ | refine HL.skip0 rfl ?_ | apply HL.andB rfl rfl rfl rfl rfl rfl rfl rfl | apply HL.orB rfl rfl rfl rfl rfl rfl rfl rfl) | refine HL.nil ?_ | refine HR.ctl rfl ?_ | refine HR.region ?_ | refine HR.condT rfl ?_ | refine HR.condF rfl ?_ | exact HL.blkEnd rfl rfl Ent.refl | (refine fun (hb : (_ : Bool) = _) => ?_; try simp at hb))
   refine HR.ret Tryz.func147 I [_] (fun _ _ => ⟨I, trivial⟩) ?_
   exact fun w' hw => ⟨by rw [hc, Tp.chk_dup he hok (of_decide_eq_true h4)]; rfl, hw.belowB⟩
  repeat' (first | (refine HL.isOp ?_; first | refine HL.ev I I ?_ | refine HL.evc I I (by first | omega | (simp; done) | (simp; omega)) ?_ | refine HL.callB fn203 I I (fun w _ => link_any e w) ?_ | refine HL.updM 1 I keyE I I I I I ?_ | (refine HL.isLoad ?_; first | refine HL.L 0 I I I I ?_ | refine HL.L 1 I I I I ?_ | refine HL.L 2 I I I I ?_ | refine HL.L 3 I I I I ?_) | (refine HL.isStore ?_; first | refine HL.S 0 I I I I I ?_ | refine HL.S 1 I I I I I ?_ | refine HL.S 2 I I I I I ?_ | refine HL.S 3 I I I I I ?_) | refine HL.build I I ?_ | refine HL.field I I ?_ | (refine HL.box I I ?_; intro bk) | (refine HL.alloc I I ?_; intro bk) | refine HL.skip rfl rfl ?_ | refine HL.skip0 rfl ?_ | apply HL.andB rfl rfl rfl rfl rfl rfl rfl rfl | apply HL.orB rfl rfl rfl rfl rfl rfl rfl rfl) | refine HL.nil ?_ | refine HR.ctl rfl ?_ | refine HR.region ?_ | refine HR.condT rfl ?_ | refine HR.condF rfl ?_ | exact HL.blkEnd rfl rfl Ent.refl | (refine fun (hb : (_ : Bool) = _) => ?_; try simp at hb))
  refine ih (k + 1) _ _ _ ⟨hlt, ?_, fun z => ?_⟩ (by omega) ⟨I, I, I, I, trivial⟩ (Ent.pick [1] I I)
  ·rw [hc, Tp.chk_at he hok (of_decide_eq_false h4)]
  ·rw [getM_setM, take_succ_get he]
   by_cases hz : z = Tp.link e
   ·simp [hz]
   ·rw [if_neg hz, hg]
    simp [hz]
 ·have hke : k = l.length := by have := of_decide_eq_false h2; omega
  subst hke
  repeat' (first | (refine HL.isOp ?_; first | refine HL.ev I I ?_ | refine HL.evc I I (by first | omega | (simp; done) | (simp; omega)) ?_ | (refine HL.isLoad ?_; first | refine HL.L 0 I I I I ?_ | refine HL.L 1 I I I I ?_ | refine HL.L 2 I I I I ?_ | refine HL.L 3 I I I I ?_) | (refine HL.isStore ?_; first | refine HL.S 0 I I I I I ?_ | refine HL.S 1 I I I I I ?_ | refine HL.S 2 I I I I I ?_ | refine HL.S 3 I I I I I ?_) | refine HL.build I I ?_ | refine HL.field I I ?_ | (refine HL.box I I ?_; intro bk) | (refine HL.alloc I I ?_; intro bk) | refine HL.skip rfl rfl ?_ | refine HL.skip0 rfl ?_ | apply HL.andB rfl rfl rfl rfl rfl rfl rfl rfl | apply HL.orB rfl rfl rfl rfl rfl rfl rfl rfl) | refine HL.nil ?_ | refine HR.ctl rfl ?_ | refine HR.region ?_ | refine HR.condT rfl ?_ | refine HR.condF rfl ?_ | exact HL.blkEnd rfl rfl Ent.refl | (refine fun (hb : (_ : Bool) = _) => ?_; try simp at hb))
  refine HR.ret Tryz.func147 I [_] (fun _ _ => ⟨I, trivial⟩) ?_
  exact fun w' hw => ⟨by rw [hc]; simp [Tp.chk, resV], hw.belowB⟩
end Go.Proofs.YtgfdoognildoeaaGreat
namespace Go.GX
def sortZ (l : List Int) : List Int := l.mergeSort fun x y => decide (x ≤ y)
theorem sortZ_perm (l : List Int) : (sortZ l).Perm l := List.mergeSort_perm _ _
theorem sortZ_sorted (l : List Int) : (sortZ l).Pairwise (· ≤ ·) := by
 have := List.pairwise_mergeSort (le := fun x y : Int => decide (x ≤ y)) (by intro a b c h1 h2; simp at *; omega) (by intro a b; simp; omega) l
 exact this.imp fun h => by simpa using h
theorem sortZ_len (l : List Int) : (sortZ l).length = l.length := (sortZ_perm l).length_eq
theorem sortZ_nil : sortZ [] = [] := by simp [sortZ]
namespace Tp
theorem Adj.sorted {l : List Ed} {adj : Int → List Int} (h : Adj l adj) (n : Int) : sortZ (adj n) = nbrs l n :=
 sort_unique (sortZ_perm _) (sortZ_sorted _) (h.nodup n) (nbrs_sorted l n) fun x => by rw [h.mem, mem_nbrs]
end Tp
end Go.GX
namespace Go.Proofs.YtgfdoognildoeaaGreat
open Go.GX Go.RowKit
attribute [local irreducible] Calls Run RunL RunQ RunD HR HL HD blkC ownC mapC Rd slicesC iterC
theorem fn161 : IsFn Tryz.prog 161 := ⟨⟨_, _, Tryz.func161, rfl, by decide⟩⟩
abbrev encI : Int → Value := fun z => Value.int .i64 z
abbrev encE : Ed → Value := fun e => Value.agg ⟨edC e⟩
theorem graph_any (l : List Ed) (vl : Value) (w : World) (hl : Sl w vl (cellsOf edC l) l.length) (hll : l.length ≤ 1000) :
  Calls Tryz.prog 161 #[vl] w fun e w' => ∃ x : Nat × List (Int × Value), e = .returned (.map (some x.1)) ∧ (∀ n, getM n x.2 = none → Tp.nbrs l n = []) ∧ Sat (base w) [slicesC 3 x.2 (Tp.nbrs l), mapC encI x.1 x.2] w' := by
 refine calls_hr Tryz.func161 I (Nat.le_of_ble_eq_true I) ?_
 refine HR.sub (σ' := [(0, vl)]) ⟨I, trivial⟩ ?_
 repeat' (first | (refine HL.isOp ?_; first | refine HL.ev I I ?_ | refine HL.evc I I (by first | omega | (simp; done) | (simp; omega)) ?_ | refine HL.makeM encI I ?_ | (refine HL.isLoad ?_; first | refine HL.L 0 I I I I ?_ | refine HL.L 1 I I I I ?_ | refine HL.L 2 I I I I ?_ | refine HL.L 3 I I I I ?_) | (refine HL.isStore ?_; first | refine HL.S 0 I I I I I ?_ | refine HL.S 1 I I I I I ?_ | refine HL.S 2 I I I I I ?_ | refine HL.S 3 I I I I I ?_) | refine HL.build I I ?_ | refine HL.field I I ?_ | (refine HL.box I I ?_; intro bk) | (refine HL.alloc I I ?_; intro bk) | refine HL.skip rfl rfl ?_ | refine HL.skip0 rfl ?_ | apply HL.andB rfl rfl rfl rfl rfl rfl rfl rfl | apply HL.orB rfl rfl rfl rfl rfl rfl rfl rfl) | refine HL.nil ?_ | refine HR.ctl rfl ?_ | refine HR.region ?_ | refine HR.condT rfl ?_ | refine HR.condF rfl ?_ | exact HL.blkEnd rfl rfl Ent.refl | (refine fun (hb : (_ : Bool) = _) => ?_; try simp at hb))
 intro b
 repeat' (first | (refine HL.isOp ?_; first | refine HL.ev I I ?_ | refine HL.evc I I (by first | omega | (simp; done) | (simp; omega)) ?_ | refine HL.makeM encE I ?_ | (refine HL.isLoad ?_; first | refine HL.L 0 I I I I ?_ | refine HL.L 1 I I I I ?_ | refine HL.L 2 I I I I ?_ | refine HL.L 3 I I I I ?_) | (refine HL.isStore ?_; first | refine HL.S 0 I I I I I ?_ | refine HL.S 1 I I I I I ?_ | refine HL.S 2 I I I I I ?_ | refine HL.S 3 I I I I I ?_) | refine HL.build I I ?_ | refine HL.field I I ?_ | (refine HL.box I I ?_; intro bk) | (refine HL.alloc I I ?_; intro bk) | refine HL.skip rfl rfl ?_ | refine HL.skip0 rfl ?_ | apply HL.andB rfl rfl rfl rfl rfl rfl rfl rfl | apply HL.orB rfl rfl rfl rfl rfl rfl rfl rfl) | refine HL.nil ?_ | refine HR.ctl rfl ?_ | refine HR.region ?_ | refine HR.condT rfl ?_ | refine HR.condF rfl ?_ | exact HL.blkEnd rfl rfl Ent.refl | (refine fun (hb : (_ : Bool) = _) => ?_; try simp at hb))
 intro bs
 repeat' (first | (refine HL.isOp ?_; first | refine HL.ev I I ?_ | refine HL.evc I I (by first | omega | (simp; done) | (simp; omega)) ?_ | refine HL.lenR (Rd.arg hl) I I I ?_ | (refine HL.isLoad ?_; first | refine HL.L 0 I I I I ?_ | refine HL.L 1 I I I I ?_ | refine HL.L 2 I I I I ?_ | refine HL.L 3 I I I I ?_) | (refine HL.isStore ?_; first | refine HL.S 0 I I I I I ?_ | refine HL.S 1 I I I I I ?_ | refine HL.S 2 I I I I I ?_ | refine HL.S 3 I I I I I ?_) | refine HL.build I I ?_ | refine HL.field I I ?_ | (refine HL.box I I ?_; intro bk) | (refine HL.alloc I I ?_; intro bk) | refine HL.skip rfl rfl ?_ | refine HL.skip0 rfl ?_ | apply HL.andB rfl rfl rfl rfl rfl rfl rfl rfl | apply HL.orB rfl rfl rfl rfl rfl rfl rfl rfl) | refine HL.nil ?_ | refine HR.ctl rfl ?_ | refine HR.region ?_ | refine HR.condT rfl ?_ | refine HR.condF rfl ?_ | exact HL.blkEnd rfl rfl Ent.refl | (refine fun (hb : (_ : Bool) = _) => ?_; try simp at hb))
 refine HR.loop4 (α := Nat) (β := List (Int × Value)) (γ := Int → List Int) (δ := List (Ed × Value))
  (fun k m adj sm => k ≤ l.length ∧ NodupM m ∧ Tp.Adj (l.take k) adj ∧ (∀ n, getM n m = none → adj n = []) ∧ ∀ z, (getM z sm).getD (.bool false) = .bool (decide (∃ e ∈ l.take k, Tp.okE e = true ∧ Tp.link e = z)))
  (fun k m adj sm => [(3, .map (some b)), (4, .map (some bs)), (11, vl), (12, .int .i64 (l.length : Int)), (13, .int .i64 (k : Int))])
  (fun k m adj sm => [slicesC 3 m adj, mapC encI b m, mapC encE bs sm]) (fun k m adj sm => l.length - k) 0 [] (fun _ => []) [] ⟨Nat.zero_le _, List.nodup_nil, Tp.Adj.nil, fun _ _ => rfl, fun z => by simp [getM]⟩ ⟨I, I, I, I, I, trivial⟩ ?_ ?_
 ·exact Ent.trans (Ent.pick [1, 0] I I) Ent.emptyS
 rintro k m adj sm ⟨hk, hnd, hadj, hnil, hsm⟩ ih
 repeat' (first | (refine HL.isOp ?_; first | refine HL.ev I I ?_ | refine HL.evc I I (by first | omega | (simp; done) | (simp; omega)) ?_ | (refine HL.isLoad ?_; first | refine HL.L 0 I I I I ?_ | refine HL.L 1 I I I I ?_ | refine HL.L 2 I I I I ?_ | refine HL.L 3 I I I I ?_) | (refine HL.isStore ?_; first | refine HL.S 0 I I I I I ?_ | refine HL.S 1 I I I I I ?_ | refine HL.S 2 I I I I I ?_ | refine HL.S 3 I I I I I ?_) | refine HL.build I I ?_ | refine HL.field I I ?_ | (refine HL.box I I ?_; intro bk) | (refine HL.alloc I I ?_; intro bk) | refine HL.skip rfl rfl ?_ | refine HL.skip0 rfl ?_ | apply HL.andB rfl rfl rfl rfl rfl rfl rfl rfl | apply HL.orB rfl rfl rfl rfl rfl rfl rfl rfl) | refine HL.nil ?_ | refine HR.ctl rfl ?_ | refine HR.region ?_ | refine HR.condT rfl ?_ | refine HR.condF rfl ?_ | exact HL.blkEnd rfl rfl Ent.refl | (refine fun (hb : (_ : Bool) = _) => ?_; try simp at hb))
 refine HR.cond I (fun h2 => ?_) (fun h2 => ?_)
 ·have hlt : k < l.length := by have := of_decide_eq_true h2; omega
  obtain ⟨e, he⟩ := getSome hlt
  have hsmN : ∀ z, (getM z (setM (Tp.link e) (.bool true) sm)).getD (.bool false) = .bool (decide (z = Tp.link e ∨ ∃ e ∈ l.take k, Tp.okE e = true ∧ Tp.link e = z)) := fun z => by
   rw [getM_setM]
   by_cases hz : z = Tp.link e
   ·simp [hz]
   ·rw [if_neg hz, hsm]; simp [hz]
  repeat' (first | (refine HL.isOp ?_; first | refine HL.ev I I ?_ | refine HL.evc I I (by first | omega | (simp; done) | (simp; omega)) ?_ | refine HL.idxR (Rd.arg hl) elemE k I I I I hlt ?_ | refine HL.loadE (Rd.arg hl) I I I I (by simp [edC]) I (cellsOf_get edC_len he) ?_ | refine HL.callB fn202 I I (fun w _ => valid_any e w) ?_ | refine HL.callB fn203 I I (fun w _ => link_any e w) ?_ | refine HL.lookV 3 I keyE I I I I I (hsm _) ?_ | (refine HL.isLoad ?_; first | refine HL.L 0 I I I I ?_ | refine HL.L 1 I I I I ?_ | refine HL.L 2 I I I I ?_ | refine HL.L 3 I I I I ?_) | (refine HL.isStore ?_; first | refine HL.S 0 I I I I I ?_ | refine HL.S 1 I I I I I ?_ | refine HL.S 2 I I I I I ?_ | refine HL.S 3 I I I I I ?_) | refine HL.build I I ?_ | refine HL.field I I ?_ | (refine HL.box I I ?_; intro bk) | (refine HL.alloc I I ?_; intro bk) | refine HL.skip rfl rfl ?_ | refine HL.skip0 rfl ?_ | apply HL.andB rfl rfl rfl rfl rfl rfl rfl rfl | apply HL.orB rfl rfl rfl rfl rfl rfl rfl rfl) | refine HL.nil ?_ | refine HR.ctl rfl ?_ | refine HR.region ?_ | refine HR.condT rfl ?_ | refine HR.condF rfl ?_ | exact HL.blkEnd rfl rfl Ent.refl | (refine fun (hb : (_ : Bool) = _) => ?_; try simp at hb))
  refine HR.cond I (fun h3 => ?_) (fun h3 => ?_)
  ·obtain ⟨hok, hnew⟩ := Bool.and_eq_true_iff.1 h3
   have hnew : ∀ e' ∈ l.take k, Tp.okE e' = true → Tp.link e' ≠ Tp.link e := by
    intro e' h4 h5 h6
    simp only [Bool.not_eq_true', decide_eq_false_iff_not] at hnew
    exact hnew ⟨e', h4, h5, h6⟩
   have hab : e.a ≠ e.b := by simp [Tp.okE] at hok; exact hok.2
   have hadd := hadj.add hok hnew
   have hl1 := hadj.len e.a
   have hl2 := hadj.len e.b
   repeat' (first | (refine HL.isOp ?_; first | refine HL.ev I I ?_ | refine HL.evc I I (by first | omega | (simp; done) | (simp; omega)) ?_ | refine HL.callB fn203 I I (fun w _ => link_any e w) ?_ | refine HL.updM 3 I keyE I I I I I ?_ | (refine HL.isLoad ?_; first | refine HL.L 0 I I I I ?_ | refine HL.L 1 I I I I ?_ | refine HL.L 2 I I I I ?_ | refine HL.L 3 I I I I ?_) | (refine HL.isStore ?_; first | refine HL.S 0 I I I I I ?_ | refine HL.S 1 I I I I I ?_ | refine HL.S 2 I I I I I ?_ | refine HL.S 3 I I I I I ?_) | refine HL.build I I ?_ | refine HL.field I I ?_ | (refine HL.box I I ?_; intro bk) | (refine HL.alloc I I ?_; intro bk) | refine HL.skip rfl rfl ?_ | refine HL.skip0 rfl ?_ | apply HL.andB rfl rfl rfl rfl rfl rfl rfl rfl | apply HL.orB rfl rfl rfl rfl rfl rfl rfl rfl) | refine HL.nil ?_ | refine HR.ctl rfl ?_ | refine HR.region ?_ | refine HR.condT rfl ?_ | refine HR.condF rfl ?_ | exact HL.blkEnd rfl rfl Ent.refl | (refine fun (hb : (_ : Bool) = _) => ?_; try simp at hb))
   refine HR.join (ι := Value) (fun v => True) (fun v => [(3, .map (some b)), (4, .map (some bs)), (6, .pointer (some ⟨bk, 0, none⟩)), (11, vl), (12, .int .i64 (l.length : Int)), (13, .int .i64 (k : Int))])
    (fun v => [slicesC 3 (setM e.a v m) (Tp.upd adj e.a (adj e.a ++ [e.b])), blkC bk [.int .i64 e.a, .int .i64 e.b] 206, mapC encI b (setM e.a v m), mapC encE bs (setM (Tp.link e) (.bool true) sm)]) (fun v _ => ?_) (fun hj => ?_)
   ·have hba : e.b ≠ e.a := fun h => hab h.symm
    have hadj1 : Tp.upd adj e.a (adj e.a ++ [e.b]) e.b = adj e.b := by simp [Tp.upd, hba]
    have hnil1 : getM e.b (setM e.a v m) = none → Tp.upd adj e.a (adj e.a ++ [e.b]) e.b = [] := by
     rw [getM_setM, if_neg hba, hadj1]; exact hnil _
    refine HR.ent (H' := [ownC ((getM e.b (setM e.a v m)).getD (.slice none 0 0)) 3 1 (adj e.b).length (cellsOf iC (adj e.b)), slicesC 3 (delM e.b (setM e.a v m)) (Tp.upd adj e.a (adj e.a ++ [e.b])), blkC bk [.int .i64 e.a, .int .i64 e.b] 206, mapC encI b (setM e.a v m), mapC encE bs (setM (Tp.link e) (.bool true) sm)]) (by rw [← hadj1]; exact Ent.takeS (nodup_setM hnd) hnil1 I) ?_
    repeat' (first | (refine HL.isOp ?_; first | refine HL.ev I I ?_ | refine HL.evc I I (by first | omega | (simp; done) | (simp; omega)) ?_ | (refine HL.isLoad ?_; first | refine HL.L 0 I I I I ?_ | refine HL.L 1 I I I I ?_ | refine HL.L 2 I I I I ?_ | refine HL.L 3 I I I I ?_) | (refine HL.isStore ?_; first | refine HL.S 0 I I I I I ?_ | refine HL.S 1 I I I I I ?_ | refine HL.S 2 I I I I I ?_ | refine HL.S 3 I I I I I ?_) | refine HL.build I I ?_ | refine HL.field I I ?_ | (refine HL.box I I ?_; intro bk) | (refine HL.alloc I I ?_; intro bk) | refine HL.skip rfl rfl ?_ | refine HL.skip0 rfl ?_ | apply HL.andB rfl rfl rfl rfl rfl rfl rfl rfl | apply HL.orB rfl rfl rfl rfl rfl rfl rfl rfl) | refine HL.nil ?_ | refine HR.ctl rfl ?_ | refine HR.region ?_ | refine HR.condT rfl ?_ | refine HR.condF rfl ?_ | exact HL.blkEnd rfl rfl Ent.refl | (refine fun (hb : (_ : Bool) = _) => ?_; try simp at hb))
    refine HR.regionA [2] I I hmix ?_
    first | refine HA.ev 0 (by kernel_rfl) I I I ?_ | refine HA.evc 0 (by kernel_rfl) I I I (by first | omega | (simp; done) | (simp; omega)) ?_ | refine HA.loadB 0 0 (by kernel_rfl) I I I I I I I ?_ | refine HA.loadB 0 1 (by kernel_rfl) I I I I I I I ?_ | refine HA.loadB 0 2 (by kernel_rfl) I I I I I I I ?_ | refine HA.loadB 0 3 (by kernel_rfl) I I I I I I I ?_ | refine HA.loadR 0 0 (by kernel_rfl) I I I I I I I I ?_ | refine HA.loadR 0 1 (by kernel_rfl) I I I I I I I I ?_ | refine HA.loadR 0 2 (by kernel_rfl) I I I I I I I I ?_ | refine HA.loadR 0 3 (by kernel_rfl) I I I I I I I I ?_ | refine HA.build 0 (by kernel_rfl) I I I ?_
    first | refine HA.ev 1 (by kernel_rfl) I I I ?_ | refine HA.evc 1 (by kernel_rfl) I I I (by first | omega | (simp; done) | (simp; omega)) ?_ | refine HA.loadB 1 0 (by kernel_rfl) I I I I I I I ?_ | refine HA.loadB 1 1 (by kernel_rfl) I I I I I I I ?_ | refine HA.loadB 1 2 (by kernel_rfl) I I I I I I I ?_ | refine HA.loadB 1 3 (by kernel_rfl) I I I I I I I ?_ | refine HA.loadR 1 0 (by kernel_rfl) I I I I I I I I ?_ | refine HA.loadR 1 1 (by kernel_rfl) I I I I I I I I ?_ | refine HA.loadR 1 2 (by kernel_rfl) I I I I I I I I ?_ | refine HA.loadR 1 3 (by kernel_rfl) I I I I I I I I ?_ | refine HA.build 1 (by kernel_rfl) I I I ?_
    first | refine HA.ev 2 (by kernel_rfl) I I I ?_ | refine HA.evc 2 (by kernel_rfl) I I I (by first | omega | (simp; done) | (simp; omega)) ?_ | refine HA.loadB 2 0 (by kernel_rfl) I I I I I I I ?_ | refine HA.loadB 2 1 (by kernel_rfl) I I I I I I I ?_ | refine HA.loadB 2 2 (by kernel_rfl) I I I I I I I ?_ | refine HA.loadB 2 3 (by kernel_rfl) I I I I I I I ?_ | refine HA.loadR 2 0 (by kernel_rfl) I I I I I I I I ?_ | refine HA.loadR 2 1 (by kernel_rfl) I I I I I I I I ?_ | refine HA.loadR 2 2 (by kernel_rfl) I I I I I I I I ?_ | refine HA.loadR 2 3 (by kernel_rfl) I I I I I I I I ?_ | refine HA.build 2 (by kernel_rfl) I I I ?_
    first | refine HA.ev 3 (by kernel_rfl) I I I ?_ | refine HA.evc 3 (by kernel_rfl) I I I (by first | omega | (simp; done) | (simp; omega)) ?_ | refine HA.loadB 3 0 (by kernel_rfl) I I I I I I I ?_ | refine HA.loadB 3 1 (by kernel_rfl) I I I I I I I ?_ | refine HA.loadB 3 2 (by kernel_rfl) I I I I I I I ?_ | refine HA.loadB 3 3 (by kernel_rfl) I I I I I I I ?_ | refine HA.loadR 3 0 (by kernel_rfl) I I I I I I I I ?_ | refine HA.loadR 3 1 (by kernel_rfl) I I I I I I I I ?_ | refine HA.loadR 3 2 (by kernel_rfl) I I I I I I I I ?_ | refine HA.loadR 3 3 (by kernel_rfl) I I I I I I I I ?_ | refine HA.build 3 (by kernel_rfl) I I I ?_
    first | refine HA.ev 4 (by kernel_rfl) I I I ?_ | refine HA.evc 4 (by kernel_rfl) I I I (by first | omega | (simp; done) | (simp; omega)) ?_ | refine HA.loadB 4 0 (by kernel_rfl) I I I I I I I ?_ | refine HA.loadB 4 1 (by kernel_rfl) I I I I I I I ?_ | refine HA.loadB 4 2 (by kernel_rfl) I I I I I I I ?_ | refine HA.loadB 4 3 (by kernel_rfl) I I I I I I I ?_ | refine HA.loadR 4 0 (by kernel_rfl) I I I I I I I I ?_ | refine HA.loadR 4 1 (by kernel_rfl) I I I I I I I I ?_ | refine HA.loadR 4 2 (by kernel_rfl) I I I I I I I I ?_ | refine HA.loadR 4 3 (by kernel_rfl) I I I I I I I I ?_ | refine HA.build 4 (by kernel_rfl) I I I ?_
    first | refine HA.ev 5 (by kernel_rfl) I I I ?_ | refine HA.evc 5 (by kernel_rfl) I I I (by first | omega | (simp; done) | (simp; omega)) ?_ | refine HA.loadB 5 0 (by kernel_rfl) I I I I I I I ?_ | refine HA.loadB 5 1 (by kernel_rfl) I I I I I I I ?_ | refine HA.loadB 5 2 (by kernel_rfl) I I I I I I I ?_ | refine HA.loadB 5 3 (by kernel_rfl) I I I I I I I ?_ | refine HA.loadR 5 0 (by kernel_rfl) I I I I I I I I ?_ | refine HA.loadR 5 1 (by kernel_rfl) I I I I I I I I ?_ | refine HA.loadR 5 2 (by kernel_rfl) I I I I I I I I ?_ | refine HA.loadR 5 3 (by kernel_rfl) I I I I I I I I ?_ | refine HA.build 5 (by kernel_rfl) I I I ?_
    first | refine HA.ev 7 (by kernel_rfl) I I I ?_ | refine HA.evc 7 (by kernel_rfl) I I I (by first | omega | (simp; done) | (simp; omega)) ?_ | refine HA.loadB 7 0 (by kernel_rfl) I I I I I I I ?_ | refine HA.loadB 7 1 (by kernel_rfl) I I I I I I I ?_ | refine HA.loadB 7 2 (by kernel_rfl) I I I I I I I ?_ | refine HA.loadB 7 3 (by kernel_rfl) I I I I I I I ?_ | refine HA.loadR 7 0 (by kernel_rfl) I I I I I I I I ?_ | refine HA.loadR 7 1 (by kernel_rfl) I I I I I I I I ?_ | refine HA.loadR 7 2 (by kernel_rfl) I I I I I I I I ?_ | refine HA.loadR 7 3 (by kernel_rfl) I I I I I I I I ?_ | refine HA.build 7 (by kernel_rfl) I I I ?_
    first | refine HA.ev 8 (by kernel_rfl) I I I ?_ | refine HA.evc 8 (by kernel_rfl) I I I (by first | omega | (simp; done) | (simp; omega)) ?_ | refine HA.loadB 8 0 (by kernel_rfl) I I I I I I I ?_ | refine HA.loadB 8 1 (by kernel_rfl) I I I I I I I ?_ | refine HA.loadB 8 2 (by kernel_rfl) I I I I I I I ?_ | refine HA.loadB 8 3 (by kernel_rfl) I I I I I I I ?_ | refine HA.loadR 8 0 (by kernel_rfl) I I I I I I I I ?_ | refine HA.loadR 8 1 (by kernel_rfl) I I I I I I I I ?_ | refine HA.loadR 8 2 (by kernel_rfl) I I I I I I I I ?_ | refine HA.loadR 8 3 (by kernel_rfl) I I I I I I I I ?_ | refine HA.build 8 (by kernel_rfl) I I I ?_
    refine HA.two 6 9 (by kernel_rfl) I I ?_ ?_
    ·refine HL.lookV 3 I keyI I I I I I I ?_
     refine HL.backA [2] I I ?_
     refine HA.one 9 (by kernel_rfl) I ?_
     refine HL.bslice elemI I I I I I (by decide) (by decide) ?_
     intro v1
     refine HL.backA [3] I I ?_
     refine HA.one 10 (by kernel_rfl) I ?_
     refine HL.appR 1 I elemI (Rd.own 0 I) I I I I (allOne_spec I) (by omega) (by omega) ?_
     intro v2
     refine HL.backA [3] I I ?_
     refine HA.one 11 (by kernel_rfl) I ?_
     refine HL.updM 4 I keyI I I I I I ?_
     refine HL.backA [3] I I ?_
     refine HA.done (by kernel_rfl) ?_
     repeat' (first | (refine HL.isOp ?_; first | refine HL.ev I I ?_ | refine HL.evc I I (by first | omega | (simp; done) | (simp; omega)) ?_ | (refine HL.isLoad ?_; first | refine HL.L 0 I I I I ?_ | refine HL.L 1 I I I I ?_ | refine HL.L 2 I I I I ?_ | refine HL.L 3 I I I I ?_) | (refine HL.isStore ?_; first | refine HL.S 0 I I I I I ?_ | refine HL.S 1 I I I I I ?_ | refine HL.S 2 I I I I I ?_ | refine HL.S 3 I I I I I ?_) | refine HL.build I I ?_ | refine HL.field I I ?_ | (refine HL.box I I ?_; intro bk) | (refine HL.alloc I I ?_; intro bk) | refine HL.skip rfl rfl ?_ | refine HL.skip0 rfl ?_ | apply HL.andB rfl rfl rfl rfl rfl rfl rfl rfl | apply HL.orB rfl rfl rfl rfl rfl rfl rfl rfl) | refine HL.nil ?_ | refine HR.ctl rfl ?_ | refine HR.region ?_ | refine HR.condT rfl ?_ | refine HR.condF rfl ?_ | exact HL.blkEnd rfl rfl Ent.refl | (refine fun (hb : (_ : Bool) = _) => ?_; try simp at hb))
     refine ih (k + 1) (setM e.b v2 (setM e.a v m)) (Tp.upd (Tp.upd adj e.a (adj e.a ++ [e.b])) e.b (adj e.b ++ [e.a])) (setM (Tp.link e) (.bool true) sm) _ _ ⟨hlt, nodup_setM (nodup_setM hnd), by rw [take_succ_get he]; exact hadd, ?_, ?_⟩ (by omega) ⟨I, I, I, I, I, trivial⟩ ?_
     ·intro n hn
      rw [getM_setM, getM_setM] at hn
      by_cases h1 : n = e.b
      ·rw [if_pos h1] at hn; cases hn
      ·rw [if_neg h1] at hn
       by_cases h2 : n = e.a
       ·rw [if_pos h2] at hn; cases hn
       ·rw [if_neg h2] at hn; simp [Tp.upd, h1, h2, hnil n hn]
     ·intro z; rw [hsmN, take_succ_get he]; congr 2; simp only [List.mem_append, List.mem_singleton, eq_iff_iff]; constructor
      ·rintro (h | ⟨e', h4, h5⟩)
       ·exact ⟨e, .inr rfl, hok, h.symm⟩
       ·exact ⟨e', .inl h4, h5⟩
      ·rintro ⟨e', h4 | rfl, h5, h6⟩
       ·exact .inr ⟨e', h4, h5, h6⟩
       ·exact .inl h6.symm
     ·refine Ent.trans (Ent.pick [1, 2, 4, 5] I I) (Ent.trans (Ent.own0 ?_ ?_) (Ent.giveS (adj' := Tp.upd (Tp.upd adj e.a (adj e.a ++ [e.b])) e.b (adj e.b ++ [e.a])) (nodup_setM hnd) ?_))
      ·simp [Tp.upd, hba]
      ·simp [Tp.upd, cellsOf_app, cellsOf_one]
      ·intro n hn; simp [Tp.upd, hn]
    ·refine HL.bslice elemI I I I I I (by decide) (by decide) ?_
     intro v1
     refine HL.backA [3] I I ?_
     refine HA.one 6 (by kernel_rfl) I ?_
     refine HL.lookV 4 I keyI I I I I I I ?_
     refine HL.backA [3] I I ?_
     refine HA.one 10 (by kernel_rfl) I ?_
     refine HL.appR 1 I elemI (Rd.own 0 I) I I I I (allOne_spec I) (by omega) (by omega) ?_
     intro v2
     refine HL.backA [3] I I ?_
     refine HA.one 11 (by kernel_rfl) I ?_
     refine HL.updM 4 I keyI I I I I I ?_
     refine HL.backA [3] I I ?_
     refine HA.done (by kernel_rfl) ?_
     repeat' (first | (refine HL.isOp ?_; first | refine HL.ev I I ?_ | refine HL.evc I I (by first | omega | (simp; done) | (simp; omega)) ?_ | (refine HL.isLoad ?_; first | refine HL.L 0 I I I I ?_ | refine HL.L 1 I I I I ?_ | refine HL.L 2 I I I I ?_ | refine HL.L 3 I I I I ?_) | (refine HL.isStore ?_; first | refine HL.S 0 I I I I I ?_ | refine HL.S 1 I I I I I ?_ | refine HL.S 2 I I I I I ?_ | refine HL.S 3 I I I I I ?_) | refine HL.build I I ?_ | refine HL.field I I ?_ | (refine HL.box I I ?_; intro bk) | (refine HL.alloc I I ?_; intro bk) | refine HL.skip rfl rfl ?_ | refine HL.skip0 rfl ?_ | apply HL.andB rfl rfl rfl rfl rfl rfl rfl rfl | apply HL.orB rfl rfl rfl rfl rfl rfl rfl rfl) | refine HL.nil ?_ | refine HR.ctl rfl ?_ | refine HR.region ?_ | refine HR.condT rfl ?_ | refine HR.condF rfl ?_ | exact HL.blkEnd rfl rfl Ent.refl | (refine fun (hb : (_ : Bool) = _) => ?_; try simp at hb))
     refine ih (k + 1) (setM e.b v2 (setM e.a v m)) (Tp.upd (Tp.upd adj e.a (adj e.a ++ [e.b])) e.b (adj e.b ++ [e.a])) (setM (Tp.link e) (.bool true) sm) _ _ ⟨hlt, nodup_setM (nodup_setM hnd), by rw [take_succ_get he]; exact hadd, ?_, ?_⟩ (by omega) ⟨I, I, I, I, I, trivial⟩ ?_
     ·intro n hn
      rw [getM_setM, getM_setM] at hn
      by_cases h1 : n = e.b
      ·rw [if_pos h1] at hn; cases hn
      ·rw [if_neg h1] at hn
       by_cases h2 : n = e.a
       ·rw [if_pos h2] at hn; cases hn
       ·rw [if_neg h2] at hn; simp [Tp.upd, h1, h2, hnil n hn]
     ·intro z; rw [hsmN, take_succ_get he]; congr 2; simp only [List.mem_append, List.mem_singleton, eq_iff_iff]; constructor
      ·rintro (h | ⟨e', h4, h5⟩)
       ·exact ⟨e, .inr rfl, hok, h.symm⟩
       ·exact ⟨e', .inl h4, h5⟩
      ·rintro ⟨e', h4 | rfl, h5, h6⟩
       ·exact .inr ⟨e', h4, h5, h6⟩
       ·exact .inl h6.symm
     ·refine Ent.trans (Ent.pick [1, 2, 4, 5] I I) (Ent.trans (Ent.own0 ?_ ?_) (Ent.giveS (adj' := Tp.upd (Tp.upd adj e.a (adj e.a ++ [e.b])) e.b (adj e.b ++ [e.a])) (nodup_setM hnd) ?_))
      ·simp [Tp.upd, hba]
      ·simp [Tp.upd, cellsOf_app, cellsOf_one]
      ·intro n hn; simp [Tp.upd, hn]
   ·refine HR.ent (H' := [ownC ((getM e.a m).getD (.slice none 0 0)) 3 1 (adj e.a).length (cellsOf iC (adj e.a)), slicesC 3 (delM e.a m) adj, blkC bk [.int .i64 e.a, .int .i64 e.b] 206, mapC encI b m, mapC encE bs (setM (Tp.link e) (.bool true) sm)]) (Ent.trans (Ent.pick [1, 0, 2, 3] I I) (Ent.takeS hnd (hnil _) I)) ?_
    refine HR.regionA [2] I I hmix ?_
    first | refine HA.ev 0 (by kernel_rfl) I I I ?_ | refine HA.evc 0 (by kernel_rfl) I I I (by first | omega | (simp; done) | (simp; omega)) ?_ | refine HA.loadB 0 0 (by kernel_rfl) I I I I I I I ?_ | refine HA.loadB 0 1 (by kernel_rfl) I I I I I I I ?_ | refine HA.loadB 0 2 (by kernel_rfl) I I I I I I I ?_ | refine HA.loadB 0 3 (by kernel_rfl) I I I I I I I ?_ | refine HA.loadR 0 0 (by kernel_rfl) I I I I I I I I ?_ | refine HA.loadR 0 1 (by kernel_rfl) I I I I I I I I ?_ | refine HA.loadR 0 2 (by kernel_rfl) I I I I I I I I ?_ | refine HA.loadR 0 3 (by kernel_rfl) I I I I I I I I ?_ | refine HA.build 0 (by kernel_rfl) I I I ?_
    first | refine HA.ev 1 (by kernel_rfl) I I I ?_ | refine HA.evc 1 (by kernel_rfl) I I I (by first | omega | (simp; done) | (simp; omega)) ?_ | refine HA.loadB 1 0 (by kernel_rfl) I I I I I I I ?_ | refine HA.loadB 1 1 (by kernel_rfl) I I I I I I I ?_ | refine HA.loadB 1 2 (by kernel_rfl) I I I I I I I ?_ | refine HA.loadB 1 3 (by kernel_rfl) I I I I I I I ?_ | refine HA.loadR 1 0 (by kernel_rfl) I I I I I I I I ?_ | refine HA.loadR 1 1 (by kernel_rfl) I I I I I I I I ?_ | refine HA.loadR 1 2 (by kernel_rfl) I I I I I I I I ?_ | refine HA.loadR 1 3 (by kernel_rfl) I I I I I I I I ?_ | refine HA.build 1 (by kernel_rfl) I I I ?_
    first | refine HA.ev 2 (by kernel_rfl) I I I ?_ | refine HA.evc 2 (by kernel_rfl) I I I (by first | omega | (simp; done) | (simp; omega)) ?_ | refine HA.loadB 2 0 (by kernel_rfl) I I I I I I I ?_ | refine HA.loadB 2 1 (by kernel_rfl) I I I I I I I ?_ | refine HA.loadB 2 2 (by kernel_rfl) I I I I I I I ?_ | refine HA.loadB 2 3 (by kernel_rfl) I I I I I I I ?_ | refine HA.loadR 2 0 (by kernel_rfl) I I I I I I I I ?_ | refine HA.loadR 2 1 (by kernel_rfl) I I I I I I I I ?_ | refine HA.loadR 2 2 (by kernel_rfl) I I I I I I I I ?_ | refine HA.loadR 2 3 (by kernel_rfl) I I I I I I I I ?_ | refine HA.build 2 (by kernel_rfl) I I I ?_
    first | refine HA.ev 3 (by kernel_rfl) I I I ?_ | refine HA.evc 3 (by kernel_rfl) I I I (by first | omega | (simp; done) | (simp; omega)) ?_ | refine HA.loadB 3 0 (by kernel_rfl) I I I I I I I ?_ | refine HA.loadB 3 1 (by kernel_rfl) I I I I I I I ?_ | refine HA.loadB 3 2 (by kernel_rfl) I I I I I I I ?_ | refine HA.loadB 3 3 (by kernel_rfl) I I I I I I I ?_ | refine HA.loadR 3 0 (by kernel_rfl) I I I I I I I I ?_ | refine HA.loadR 3 1 (by kernel_rfl) I I I I I I I I ?_ | refine HA.loadR 3 2 (by kernel_rfl) I I I I I I I I ?_ | refine HA.loadR 3 3 (by kernel_rfl) I I I I I I I I ?_ | refine HA.build 3 (by kernel_rfl) I I I ?_
    first | refine HA.ev 4 (by kernel_rfl) I I I ?_ | refine HA.evc 4 (by kernel_rfl) I I I (by first | omega | (simp; done) | (simp; omega)) ?_ | refine HA.loadB 4 0 (by kernel_rfl) I I I I I I I ?_ | refine HA.loadB 4 1 (by kernel_rfl) I I I I I I I ?_ | refine HA.loadB 4 2 (by kernel_rfl) I I I I I I I ?_ | refine HA.loadB 4 3 (by kernel_rfl) I I I I I I I ?_ | refine HA.loadR 4 0 (by kernel_rfl) I I I I I I I I ?_ | refine HA.loadR 4 1 (by kernel_rfl) I I I I I I I I ?_ | refine HA.loadR 4 2 (by kernel_rfl) I I I I I I I I ?_ | refine HA.loadR 4 3 (by kernel_rfl) I I I I I I I I ?_ | refine HA.build 4 (by kernel_rfl) I I I ?_
    first | refine HA.ev 5 (by kernel_rfl) I I I ?_ | refine HA.evc 5 (by kernel_rfl) I I I (by first | omega | (simp; done) | (simp; omega)) ?_ | refine HA.loadB 5 0 (by kernel_rfl) I I I I I I I ?_ | refine HA.loadB 5 1 (by kernel_rfl) I I I I I I I ?_ | refine HA.loadB 5 2 (by kernel_rfl) I I I I I I I ?_ | refine HA.loadB 5 3 (by kernel_rfl) I I I I I I I ?_ | refine HA.loadR 5 0 (by kernel_rfl) I I I I I I I I ?_ | refine HA.loadR 5 1 (by kernel_rfl) I I I I I I I I ?_ | refine HA.loadR 5 2 (by kernel_rfl) I I I I I I I I ?_ | refine HA.loadR 5 3 (by kernel_rfl) I I I I I I I I ?_ | refine HA.build 5 (by kernel_rfl) I I I ?_
    first | refine HA.ev 7 (by kernel_rfl) I I I ?_ | refine HA.evc 7 (by kernel_rfl) I I I (by first | omega | (simp; done) | (simp; omega)) ?_ | refine HA.loadB 7 0 (by kernel_rfl) I I I I I I I ?_ | refine HA.loadB 7 1 (by kernel_rfl) I I I I I I I ?_ | refine HA.loadB 7 2 (by kernel_rfl) I I I I I I I ?_ | refine HA.loadB 7 3 (by kernel_rfl) I I I I I I I ?_ | refine HA.loadR 7 0 (by kernel_rfl) I I I I I I I I ?_ | refine HA.loadR 7 1 (by kernel_rfl) I I I I I I I I ?_ | refine HA.loadR 7 2 (by kernel_rfl) I I I I I I I I ?_ | refine HA.loadR 7 3 (by kernel_rfl) I I I I I I I I ?_ | refine HA.build 7 (by kernel_rfl) I I I ?_
    first | refine HA.ev 8 (by kernel_rfl) I I I ?_ | refine HA.evc 8 (by kernel_rfl) I I I (by first | omega | (simp; done) | (simp; omega)) ?_ | refine HA.loadB 8 0 (by kernel_rfl) I I I I I I I ?_ | refine HA.loadB 8 1 (by kernel_rfl) I I I I I I I ?_ | refine HA.loadB 8 2 (by kernel_rfl) I I I I I I I ?_ | refine HA.loadB 8 3 (by kernel_rfl) I I I I I I I ?_ | refine HA.loadR 8 0 (by kernel_rfl) I I I I I I I I ?_ | refine HA.loadR 8 1 (by kernel_rfl) I I I I I I I I ?_ | refine HA.loadR 8 2 (by kernel_rfl) I I I I I I I I ?_ | refine HA.loadR 8 3 (by kernel_rfl) I I I I I I I I ?_ | refine HA.build 8 (by kernel_rfl) I I I ?_
    refine HA.two 6 9 (by kernel_rfl) I I ?_ ?_
    ·refine HL.lookV 3 I keyI I I I I I I ?_
     refine HL.backA [2] I I ?_
     refine HA.one 9 (by kernel_rfl) I ?_
     refine HL.bslice elemI I I I I I (by decide) (by decide) ?_
     intro v1
     refine HL.backA [3] I I ?_
     refine HA.one 10 (by kernel_rfl) I ?_
     refine HL.appR 1 I elemI (Rd.own 0 I) I I I I (allOne_spec I) (by omega) (by omega) ?_
     intro v2
     refine HL.backA [3] I I ?_
     refine HA.one 11 (by kernel_rfl) I ?_
     refine HL.updM 4 I keyI I I I I I ?_
     refine HL.backA [3] I I ?_
     refine HA.done (by kernel_rfl) ?_
     refine hj v2 _ _ trivial ⟨I, I, I, I, I, I, trivial⟩ (Ent.trans (Ent.pick [1, 2, 3, 4, 5] I I) (Ent.trans (Ent.own0 ?_ ?_) (Ent.giveS (adj' := Tp.upd adj e.a (adj e.a ++ [e.b])) hnd ?_)))
     ·simp [Tp.upd]
     ·simp [Tp.upd, cellsOf_app, cellsOf_one]
     ·intro n hn; simp [Tp.upd, hn]
    ·refine HL.bslice elemI I I I I I (by decide) (by decide) ?_
     intro v1
     refine HL.backA [3] I I ?_
     refine HA.one 6 (by kernel_rfl) I ?_
     refine HL.lookV 4 I keyI I I I I I I ?_
     refine HL.backA [3] I I ?_
     refine HA.one 10 (by kernel_rfl) I ?_
     refine HL.appR 1 I elemI (Rd.own 0 I) I I I I (allOne_spec I) (by omega) (by omega) ?_
     intro v2
     refine HL.backA [3] I I ?_
     refine HA.one 11 (by kernel_rfl) I ?_
     refine HL.updM 4 I keyI I I I I I ?_
     refine HL.backA [3] I I ?_
     refine HA.done (by kernel_rfl) ?_
     refine hj v2 _ _ trivial ⟨I, I, I, I, I, I, trivial⟩ (Ent.trans (Ent.pick [1, 2, 3, 4, 5] I I) (Ent.trans (Ent.own0 ?_ ?_) (Ent.giveS (adj' := Tp.upd adj e.a (adj e.a ++ [e.b])) hnd ?_)))
     ·simp [Tp.upd]
     ·simp [Tp.upd, cellsOf_app, cellsOf_one]
     ·intro n hn; simp [Tp.upd, hn]
  ·repeat' (first | (refine HL.isOp ?_; first | refine HL.ev I I ?_ | refine HL.evc I I (by first | omega | (simp; done) | (simp; omega)) ?_ | (refine HL.isLoad ?_; first | refine HL.L 0 I I I I ?_ | refine HL.L 1 I I I I ?_ | refine HL.L 2 I I I I ?_ | refine HL.L 3 I I I I ?_) | (refine HL.isStore ?_; first | refine HL.S 0 I I I I I ?_ | refine HL.S 1 I I I I I ?_ | refine HL.S 2 I I I I I ?_ | refine HL.S 3 I I I I I ?_) | refine HL.build I I ?_ | refine HL.field I I ?_ | (refine HL.box I I ?_; intro bk) | (refine HL.alloc I I ?_; intro bk) | refine HL.skip rfl rfl ?_ | refine HL.skip0 rfl ?_ | apply HL.andB rfl rfl rfl rfl rfl rfl rfl rfl | apply HL.orB rfl rfl rfl rfl rfl rfl rfl rfl) | refine HL.nil ?_ | refine HR.ctl rfl ?_ | refine HR.region ?_ | refine HR.condT rfl ?_ | refine HR.condF rfl ?_ | exact HL.blkEnd rfl rfl Ent.refl | (refine fun (hb : (_ : Bool) = _) => ?_; try simp at hb))
   have hst : Tp.okE e = false ∨ ∃ e' ∈ l.take k, Tp.okE e' = true ∧ Tp.link e' = Tp.link e := by
    rcases Bool.and_eq_false_iff.1 h3 with h | h
    ·exact .inl h
    ·right; simpa using h
   refine ih (k + 1) m adj sm _ _ ⟨hlt, hnd, by rw [take_succ_get he]; exact hadj.skip hst, hnil, ?_⟩ (by omega) ⟨I, I, I, I, I, trivial⟩ (Ent.pick [1, 2, 3] I I)
   intro z
   rw [hsm, take_succ_get he]
   congr 2
   simp only [List.mem_append, List.mem_singleton, eq_iff_iff]
   constructor
   ·rintro ⟨e', h4, h5⟩; exact ⟨e', .inl h4, h5⟩
   ·rintro ⟨e', h4 | rfl, h5, h6⟩
    ·exact ⟨e', h4, h5, h6⟩
    ·rcases hst with h | ⟨e2, g1, g2, g3⟩
     ·rw [h] at h5; cases h5
     ·exact ⟨e2, g1, g2, by rw [g3, h6]⟩
 ·have hke : k = l.length := by have := of_decide_eq_false h2; omega
  subst hke
  rw [List.take_length] at hadj
  repeat' (first | (refine HL.isOp ?_; first | refine HL.ev I I ?_ | refine HL.evc I I (by first | omega | (simp; done) | (simp; omega)) ?_ | refine HL.rangeM 1 I I I I ?_ | (refine HL.isLoad ?_; first | refine HL.L 0 I I I I ?_ | refine HL.L 1 I I I I ?_ | refine HL.L 2 I I I I ?_ | refine HL.L 3 I I I I ?_) | (refine HL.isStore ?_; first | refine HL.S 0 I I I I I ?_ | refine HL.S 1 I I I I I ?_ | refine HL.S 2 I I I I I ?_ | refine HL.S 3 I I I I I ?_) | refine HL.build I I ?_ | refine HL.field I I ?_ | (refine HL.box I I ?_; intro bk) | (refine HL.alloc I I ?_; intro bk) | refine HL.skip rfl rfl ?_ | refine HL.skip0 rfl ?_ | apply HL.andB rfl rfl rfl rfl rfl rfl rfl rfl | apply HL.orB rfl rfl rfl rfl rfl rfl rfl rfl) | refine HL.nil ?_ | refine HR.ctl rfl ?_ | refine HR.region ?_ | refine HR.condT rfl ?_ | refine HR.condF rfl ?_ | exact HL.blkEnd rfl rfl Ent.refl | (refine fun (hb : (_ : Bool) = _) => ?_; try simp at hb))
  intro r
  repeat' (first | (refine HL.isOp ?_; first | refine HL.ev I I ?_ | refine HL.evc I I (by first | omega | (simp; done) | (simp; omega)) ?_ | (refine HL.isLoad ?_; first | refine HL.L 0 I I I I ?_ | refine HL.L 1 I I I I ?_ | refine HL.L 2 I I I I ?_ | refine HL.L 3 I I I I ?_) | (refine HL.isStore ?_; first | refine HL.S 0 I I I I I ?_ | refine HL.S 1 I I I I I ?_ | refine HL.S 2 I I I I I ?_ | refine HL.S 3 I I I I I ?_) | refine HL.build I I ?_ | refine HL.field I I ?_ | (refine HL.box I I ?_; intro bk) | (refine HL.alloc I I ?_; intro bk) | refine HL.skip rfl rfl ?_ | refine HL.skip0 rfl ?_ | apply HL.andB rfl rfl rfl rfl rfl rfl rfl rfl | apply HL.orB rfl rfl rfl rfl rfl rfl rfl rfl) | refine HL.nil ?_ | refine HR.ctl rfl ?_ | refine HR.region ?_ | refine HR.condT rfl ?_ | refine HR.condF rfl ?_ | exact HL.blkEnd rfl rfl Ent.refl | (refine fun (hb : (_ : Bool) = _) => ?_; try simp at hb))
  have hsame : ∀ n, (if n ∈ ([] : List Int) then Tp.nbrs l n else adj n) = adj n := fun n => by simp
  refine HR.loop (ι := List Int) (fun seen => seen.Nodup ∧ seen.Subset (m.map (·.1))) (fun seen => [(3, .map (some b)), (53, .pointer (some ⟨r, 0, none⟩))]) (fun seen => [slicesC 3 m (fun n => if n ∈ seen then Tp.nbrs l n else adj n), iterC encI r b m seen]) (fun seen => m.length - seen.length) [] ⟨List.nodup_nil, by intro x hx; cases hx⟩ ⟨I, I, trivial⟩ (Ent.trans (Ent.pick [0, 1] I I) (Ent.asS fun n => (hsame n).symm)) ?_
  rintro seen ⟨hsn, hss⟩ ih2
  repeat' (first | (refine HL.isOp ?_; first | refine HL.ev I I ?_ | refine HL.evc I I (by first | omega | (simp; done) | (simp; omega)) ?_ | (refine HL.isLoad ?_; first | refine HL.L 0 I I I I ?_ | refine HL.L 1 I I I I ?_ | refine HL.L 2 I I I I ?_ | refine HL.L 3 I I I I ?_) | (refine HL.isStore ?_; first | refine HL.S 0 I I I I I ?_ | refine HL.S 1 I I I I I ?_ | refine HL.S 2 I I I I I ?_ | refine HL.S 3 I I I I I ?_) | refine HL.build I I ?_ | refine HL.field I I ?_ | (refine HL.box I I ?_; intro bk) | (refine HL.alloc I I ?_; intro bk) | refine HL.skip rfl rfl ?_ | refine HL.skip0 rfl ?_ | apply HL.andB rfl rfl rfl rfl rfl rfl rfl rfl | apply HL.orB rfl rfl rfl rfl rfl rfl rfl rfl) | refine HL.nil ?_ | refine HR.ctl rfl ?_ | refine HR.region ?_ | refine HR.condT rfl ?_ | refine HR.condF rfl ?_ | exact HL.blkEnd rfl rfl Ent.refl | (refine fun (hb : (_ : Bool) = _) => ?_; try simp at hb))
  refine HL.nextM 1 I (fun a b h => by simpa using h) I I (fun hend => ?_) (fun a u hau hns => ?_)
  ·repeat' (first | (refine HL.isOp ?_; first | refine HL.ev I I ?_ | refine HL.evc I I (by first | omega | (simp; done) | (simp; omega)) ?_ | (refine HL.isLoad ?_; first | refine HL.L 0 I I I I ?_ | refine HL.L 1 I I I I ?_ | refine HL.L 2 I I I I ?_ | refine HL.L 3 I I I I ?_) | (refine HL.isStore ?_; first | refine HL.S 0 I I I I I ?_ | refine HL.S 1 I I I I I ?_ | refine HL.S 2 I I I I I ?_ | refine HL.S 3 I I I I I ?_) | refine HL.build I I ?_ | refine HL.field I I ?_ | (refine HL.box I I ?_; intro bk) | (refine HL.alloc I I ?_; intro bk) | refine HL.skip rfl rfl ?_ | refine HL.skip0 rfl ?_ | apply HL.andB rfl rfl rfl rfl rfl rfl rfl rfl | apply HL.orB rfl rfl rfl rfl rfl rfl rfl rfl) | refine HL.nil ?_ | refine HR.ctl rfl ?_ | refine HR.region ?_ | refine HR.condT rfl ?_ | refine HR.condF rfl ?_ | exact HL.blkEnd rfl rfl Ent.refl | (refine fun (hb : (_ : Bool) = _) => ?_; try simp at hb))
   refine HR.iterEnd 1 I ?_
   have hfin : ∀ n, (if n ∈ seen then Tp.nbrs l n else adj n) = Tp.nbrs l n := by
    intro n
    by_cases hn : n ∈ seen
    ·rw [if_pos hn]
    ·rw [if_neg hn]
     have h0 : adj n = [] := by
      refine hnil n (getM_none.2 fun hm => ?_)
      obtain ⟨p, hp, rfl⟩ := List.mem_map.1 hm
      exact hn (hend p hp)
     rw [h0, ← hadj.sorted n, h0, sortZ_nil]
   refine HR.ent (Ent.asS hfin) ?_
   refine HR.ret Tryz.func161 I [_] (fun _ _ => ⟨I, trivial⟩) ?_
   refine fun w' hw => ⟨(b, m), rfl, fun n hn => ?_, hw⟩
   rw [← hadj.sorted n, hnil n hn, sortZ_nil]
  ·have hg := getM_of_mem hnd hau
   have hla := hadj.len a
   repeat' (first | (refine HL.isOp ?_; first | refine HL.ev I I ?_ | refine HL.evc I I (by first | omega | (simp; done) | (simp; omega)) ?_ | refine HL.entryM 1 I (fun a b h => by simpa using h) hau I I ?_ | (refine HL.isLoad ?_; first | refine HL.L 0 I I I I ?_ | refine HL.L 1 I I I I ?_ | refine HL.L 2 I I I I ?_ | refine HL.L 3 I I I I ?_) | (refine HL.isStore ?_; first | refine HL.S 0 I I I I I ?_ | refine HL.S 1 I I I I I ?_ | refine HL.S 2 I I I I I ?_ | refine HL.S 3 I I I I I ?_) | refine HL.build I I ?_ | refine HL.field I I ?_ | (refine HL.box I I ?_; intro bk) | (refine HL.alloc I I ?_; intro bk) | refine HL.skip rfl rfl ?_ | refine HL.skip0 rfl ?_ | apply HL.andB rfl rfl rfl rfl rfl rfl rfl rfl | apply HL.orB rfl rfl rfl rfl rfl rfl rfl rfl) | refine HL.nil ?_ | refine HR.ctl rfl ?_ | refine HR.region ?_ | refine HR.condT rfl ?_ | refine HR.condF rfl ?_ | exact HL.blkEnd rfl rfl Ent.refl | (refine fun (hb : (_ : Bool) = _) => ?_; try simp at hb))
   refine HL.ent (Ent.takeS (v := u) hnd (fun h => by rw [hg] at h; cases h) (by simp [hg])) ?_
   rw [if_neg hns]
   refine HL.callW (r := fun _ : Unit => .tuple #[]) (Q := fun _ => True) (G := fun _ => [ownC u 3 1 (adj a).length (cellsOf iC (sortZ (adj a)))]) fn135 I I I (fun w hw => sortI_any u _ _ w (by have := hw.nth (i := 0) rfl; unfold ownC at this; exact this) (by omega)) ?_
   intro _ _
   repeat' (first | (refine HL.isOp ?_; first | refine HL.ev I I ?_ | refine HL.evc I I (by first | omega | (simp; done) | (simp; omega)) ?_ | (refine HL.isLoad ?_; first | refine HL.L 0 I I I I ?_ | refine HL.L 1 I I I I ?_ | refine HL.L 2 I I I I ?_ | refine HL.L 3 I I I I ?_) | (refine HL.isStore ?_; first | refine HL.S 0 I I I I I ?_ | refine HL.S 1 I I I I I ?_ | refine HL.S 2 I I I I I ?_ | refine HL.S 3 I I I I I ?_) | refine HL.build I I ?_ | refine HL.field I I ?_ | (refine HL.box I I ?_; intro bk) | (refine HL.alloc I I ?_; intro bk) | refine HL.skip rfl rfl ?_ | refine HL.skip0 rfl ?_ | apply HL.andB rfl rfl rfl rfl rfl rfl rfl rfl | apply HL.orB rfl rfl rfl rfl rfl rfl rfl rfl) | refine HL.nil ?_ | refine HR.ctl rfl ?_ | refine HR.region ?_ | refine HR.condT rfl ?_ | refine HR.condF rfl ?_ | exact HL.blkEnd rfl rfl Ent.refl | (refine fun (hb : (_ : Bool) = _) => ?_; try simp at hb))
   have hlen : (Tp.nbrs l a).length = (adj a).length := by rw [← hadj.sorted a, sortZ_len]
   have hin : (a :: seen).Nodup ∧ (a :: seen).Subset (m.map (·.1)) := ⟨List.nodup_cons.2 ⟨hns, hsn⟩, fun x hx => by rcases List.mem_cons.1 hx with rfl | hx; exact List.mem_map.2 ⟨_, hau, rfl⟩; exact hss hx⟩
   have hlt : (a :: seen).length ≤ m.length := by
    have := List.Nodup.length_le_of_subset hin.1 hin.2
    simpa using this
   refine ih2 (a :: seen) _ _ hin (by simp at hlt ⊢; omega) ⟨I, I, trivial⟩ (Ent.trans (Ent.own0 (n' := (if a ∈ a :: seen then Tp.nbrs l a else adj a).length) (xs' := cellsOf iC (if a ∈ a :: seen then Tp.nbrs l a else adj a)) ?_ ?_) ?_)
   ·simp [hlen]
   ·simp [hadj.sorted a]
   ·have := Ent.giveS (B := base w) (H := [iterC encI r b m (a :: seen)]) (e := 3) (v := u) (a := a) (adj := fun n => if n ∈ seen then Tp.nbrs l n else adj n) (adj' := fun n => if n ∈ a :: seen then Tp.nbrs l n else adj n) hnd (fun n hn => by simp [hn])
    rw [setM_same hg] at this
    exact this
end Go.Proofs.YtgfdoognildoeaaGreat
namespace Go.Proofs.YtgfdoognildoeaaGreat
open Go.GX Go.RowKit
attribute [local irreducible] Calls Run RunL RunQ RunD HR HL HD blkC ownC mapC Rd slicesC iterC
theorem fn83 : IsFn Tryz.prog 83 := ⟨⟨_, _, Tryz.func83, rfl, by decide⟩⟩
theorem near_any (l : List Ed) (n : Int) (vl : Value) (w : World) (hl : Sl w vl (cellsOf edC l) l.length) (hll : l.length ≤ 1000) :
  Calls Tryz.prog 83 #[vl, .int .i64 n] w fun e w' => ∃ v, e = .returned v ∧ Sat (base w) [ownC v 3 1 (Tp.nbrs l n).length (cellsOf iC (Tp.nbrs l n))] w' := by
 refine calls_hr Tryz.func83 I (Nat.le_of_ble_eq_true I) ?_
 refine HR.sub (σ' := [(0, vl), (1, .int .i64 n)]) ⟨I, I, trivial⟩ ?_
 repeat' (first | (refine HL.isOp ?_; first | refine HL.ev I I ?_ | refine HL.evc I I (by first | omega | (simp; done) | (simp; omega)) ?_ | (refine HL.isLoad ?_; first | refine HL.L 0 I I I I ?_ | refine HL.L 1 I I I I ?_ | refine HL.L 2 I I I I ?_ | refine HL.L 3 I I I I ?_) | (refine HL.isStore ?_; first | refine HL.S 0 I I I I I ?_ | refine HL.S 1 I I I I I ?_ | refine HL.S 2 I I I I I ?_ | refine HL.S 3 I I I I I ?_) | refine HL.build I I ?_ | refine HL.field I I ?_ | (refine HL.box I I ?_; intro bk) | (refine HL.alloc I I ?_; intro bk) | refine HL.skip rfl rfl ?_ | refine HL.skip0 rfl ?_ | apply HL.andB rfl rfl rfl rfl rfl rfl rfl rfl | apply HL.orB rfl rfl rfl rfl rfl rfl rfl rfl) | refine HL.nil ?_ | refine HR.ctl rfl ?_ | refine HR.region ?_ | refine HR.condT rfl ?_ | refine HR.condF rfl ?_ | exact HL.blkEnd rfl rfl Ent.refl | (refine fun (hb : (_ : Bool) = _) => ?_; try simp at hb))
 refine HL.callX fn161 I I (fun w hw => graph_any l vl w ((Rd.arg hl).at hw) hll) ?_
 rintro ⟨b, m⟩ h0
 refine HL.know (Q := NodupM m) (fun w hw => hw.nodupM (i := 1) I) fun hnd => ?_
 repeat' (first | (refine HL.isOp ?_; first | refine HL.ev I I ?_ | refine HL.evc I I (by first | omega | (simp; done) | (simp; omega)) ?_ | refine HL.lookV 1 I keyI I I I I I I ?_ | (refine HL.isLoad ?_; first | refine HL.L 0 I I I I ?_ | refine HL.L 1 I I I I ?_ | refine HL.L 2 I I I I ?_ | refine HL.L 3 I I I I ?_) | (refine HL.isStore ?_; first | refine HL.S 0 I I I I I ?_ | refine HL.S 1 I I I I I ?_ | refine HL.S 2 I I I I I ?_ | refine HL.S 3 I I I I I ?_) | refine HL.build I I ?_ | refine HL.field I I ?_ | (refine HL.box I I ?_; intro bk) | (refine HL.alloc I I ?_; intro bk) | refine HL.skip rfl rfl ?_ | refine HL.skip0 rfl ?_ | apply HL.andB rfl rfl rfl rfl rfl rfl rfl rfl | apply HL.orB rfl rfl rfl rfl rfl rfl rfl rfl) | refine HL.nil ?_ | refine HR.ctl rfl ?_ | refine HR.region ?_ | refine HR.condT rfl ?_ | refine HR.condF rfl ?_ | exact HL.blkEnd rfl rfl Ent.refl | (refine fun (hb : (_ : Bool) = _) => ?_; try simp at hb))
 refine HR.ret Tryz.func83 I [_] (fun _ _ => ⟨I, trivial⟩) ?_
 exact fun w' hw => ⟨_, rfl, (Ent.takeS hnd (h0 n) I w' hw).pick [0] I rfl⟩
end Go.Proofs.YtgfdoognildoeaaGreat
namespace Go.Proofs.YtgfdoognildoeaaGreat
open Go.GX Go.RowKit
attribute [local irreducible] Calls Run RunL RunQ RunD HR HL HD blkC ownC mapC Rd slicesC iterC
open Ra
theorem fn77 : IsFn Tryz.prog 77 := ⟨⟨_, _, Tryz.func77, rfl, by decide⟩⟩
theorem fn82 : IsFn Tryz.prog 82 := ⟨⟨_, _, Tryz.func82, rfl, by decide⟩⟩
theorem fn81 : IsFn Tryz.prog 81 := ⟨⟨_, _, Tryz.func81, rfl, by decide⟩⟩
theorem elemL : Elem Tryz.prog 184 22 1 24 := ⟨rfl, ⟨_, _, rfl, rfl, rfl, rfl, rfl⟩, by decide⟩
abbrev airV (ve vo vn : Value) : Value := .agg ⟨[ve, vo, vn]⟩
structure OkA (w : World) (a : Air) (ve vo vn : Value) : Prop where
 e : Sl w ve (cellsOf edC a.e) a.e.length
 o : Sl w vo (cellsOf iC a.o) a.o.length
 n : Sl w vn (cellsOf iC a.n) a.n.length
 le : a.e.length ≤ 300
 lo : a.o.length ≤ 60
 ln : a.n.length ≤ 60
theorem OkA.at {w0 w : World} {a : Air} {ve vo vn : Value} (h : OkA w0 a ve vo vn) {H : List Chunk} (hw : Sat (base w0) H w) : OkA w a ve vo vn := ⟨(Rd.arg h.e).at hw, (Rd.arg h.o).at hw, (Rd.arg h.n).at hw, h.le, h.lo, h.ln⟩
theorem joined_any (ls : List (Value × List Int)) (vl : Value) (w : World) (hl : Sl w vl (cellsOf (fun p : Value × List Int => [p.1]) ls) ls.length) (hs : ∀ p ∈ ls, Sl w p.1 (cellsOf iC p.2) p.2.length) (hlen : ls.length ≤ 2) (hb : ∀ p ∈ ls, p.2.length ≤ 1000) :
  Calls Tryz.prog 82 #[vl] w fun e w' => ∃ v, e = .returned v ∧ Sat (base w) [ownC v 3 1 (ls.map (·.2)).flatten.length (cellsOf iC (ls.map (·.2)).flatten)] w' := by
 refine calls_hr Tryz.func82 I (Nat.le_of_ble_eq_true I) ?_
 refine HR.sub (σ' := [(0, vl)]) ⟨I, trivial⟩ ?_
 repeat' (first | (refine HL.isOp ?_; first | refine HL.ev I I ?_ | refine HL.evc I I (by first | omega | (simp; done) | (simp; omega)) ?_ | refine HL.lenR (Rd.arg hl) I I I ?_ | (refine HL.isLoad ?_; first | refine HL.L 0 I I I I ?_ | refine HL.L 1 I I I I ?_ | refine HL.L 2 I I I I ?_ | refine HL.L 3 I I I I ?_) | (refine HL.isStore ?_; first | refine HL.S 0 I I I I I ?_ | refine HL.S 1 I I I I I ?_ | refine HL.S 2 I I I I I ?_ | refine HL.S 3 I I I I I ?_) | refine HL.build I I ?_ | refine HL.field I I ?_ | (refine HL.box I I ?_; intro bk) | (refine HL.alloc I I ?_; intro bk) | refine HL.skip rfl rfl ?_ | refine HL.skip0 rfl ?_ | apply HL.andB rfl rfl rfl rfl rfl rfl rfl rfl | apply HL.orB rfl rfl rfl rfl rfl rfl rfl rfl) | refine HL.nil ?_ | refine HR.ctl rfl ?_ | refine HR.region ?_ | refine HR.condT rfl ?_ | refine HR.condF rfl ?_ | exact HL.blkEnd rfl rfl Ent.refl | (refine fun (hb : (_ : Bool) = _) => ?_; try simp at hb))
 refine HR.nilC 3 1 ?_
 refine HR.loop2 (α := Nat) (β := Value) (fun k v => k ≤ ls.length ∧ ((ls.take k).map (·.2)).flatten.length ≤ 1000 * k) (fun k v => [(3, v), (6, vl), (7, .int .i64 (ls.length : Int)), (8, .int .i64 (k : Int))]) (fun k v => [ownC v 3 1 ((ls.take k).map (·.2)).flatten.length (cellsOf iC ((ls.take k).map (·.2)).flatten)]) (fun k v => ls.length - k) 0 (.slice none 0 0) ⟨Nat.zero_le _, by simp⟩ ⟨I, I, I, I, trivial⟩ Ent.refl ?_
 rintro k v ⟨hk, hkl⟩ ih
 repeat' (first | (refine HL.isOp ?_; first | refine HL.ev I I ?_ | refine HL.evc I I (by first | omega | (simp; done) | (simp; omega)) ?_ | (refine HL.isLoad ?_; first | refine HL.L 0 I I I I ?_ | refine HL.L 1 I I I I ?_ | refine HL.L 2 I I I I ?_ | refine HL.L 3 I I I I ?_) | (refine HL.isStore ?_; first | refine HL.S 0 I I I I I ?_ | refine HL.S 1 I I I I I ?_ | refine HL.S 2 I I I I I ?_ | refine HL.S 3 I I I I I ?_) | refine HL.build I I ?_ | refine HL.field I I ?_ | (refine HL.box I I ?_; intro bk) | (refine HL.alloc I I ?_; intro bk) | refine HL.skip rfl rfl ?_ | refine HL.skip0 rfl ?_ | apply HL.andB rfl rfl rfl rfl rfl rfl rfl rfl | apply HL.orB rfl rfl rfl rfl rfl rfl rfl rfl) | refine HL.nil ?_ | refine HR.ctl rfl ?_ | refine HR.region ?_ | refine HR.condT rfl ?_ | refine HR.condF rfl ?_ | exact HL.blkEnd rfl rfl Ent.refl | (refine fun (hb : (_ : Bool) = _) => ?_; try simp at hb))
 refine HR.cond I (fun h2 => ?_) (fun h2 => ?_)
 ·have hlt : k < ls.length := by have := of_decide_eq_true h2; omega
  obtain ⟨p, hp⟩ := getSome hlt
  have hpl := hb p (List.mem_of_getElem? hp)
  have hps := hs p (List.mem_of_getElem? hp)
  repeat' (first | (refine HL.isOp ?_; first | refine HL.ev I I ?_ | refine HL.evc I I (by first | omega | (simp; done) | (simp; omega)) ?_ | refine HL.idxR (Rd.arg hl) elemL k I I I I hlt ?_ | refine HL.loadI (Rd.arg hl) I I I I (cellsOf_get1 (f := fun p : Value × List Int => p.1) hp) ?_ | refine HL.appR 0 I elemI (Rd.arg hps) I I I (cellsOf_len iC_len _) (one_allcells (fun _ => rfl) _) (by omega) (by omega) ?_ | (refine HL.isLoad ?_; first | refine HL.L 0 I I I I ?_ | refine HL.L 1 I I I I ?_ | refine HL.L 2 I I I I ?_ | refine HL.L 3 I I I I ?_) | (refine HL.isStore ?_; first | refine HL.S 0 I I I I I ?_ | refine HL.S 1 I I I I I ?_ | refine HL.S 2 I I I I I ?_ | refine HL.S 3 I I I I I ?_) | refine HL.build I I ?_ | refine HL.field I I ?_ | (refine HL.box I I ?_; intro bk) | (refine HL.alloc I I ?_; intro bk) | refine HL.skip rfl rfl ?_ | refine HL.skip0 rfl ?_ | apply HL.andB rfl rfl rfl rfl rfl rfl rfl rfl | apply HL.orB rfl rfl rfl rfl rfl rfl rfl rfl) | refine HL.nil ?_ | refine HR.ctl rfl ?_ | refine HR.region ?_ | refine HR.condT rfl ?_ | refine HR.condF rfl ?_ | exact HL.blkEnd rfl rfl Ent.refl | (refine fun (hb : (_ : Bool) = _) => ?_; try simp at hb))
  intro v2
  repeat' (first | (refine HL.isOp ?_; first | refine HL.ev I I ?_ | refine HL.evc I I (by first | omega | (simp; done) | (simp; omega)) ?_ | (refine HL.isLoad ?_; first | refine HL.L 0 I I I I ?_ | refine HL.L 1 I I I I ?_ | refine HL.L 2 I I I I ?_ | refine HL.L 3 I I I I ?_) | (refine HL.isStore ?_; first | refine HL.S 0 I I I I I ?_ | refine HL.S 1 I I I I I ?_ | refine HL.S 2 I I I I I ?_ | refine HL.S 3 I I I I I ?_) | refine HL.build I I ?_ | refine HL.field I I ?_ | (refine HL.box I I ?_; intro bk) | (refine HL.alloc I I ?_; intro bk) | refine HL.skip rfl rfl ?_ | refine HL.skip0 rfl ?_ | apply HL.andB rfl rfl rfl rfl rfl rfl rfl rfl | apply HL.orB rfl rfl rfl rfl rfl rfl rfl rfl) | refine HL.nil ?_ | refine HR.ctl rfl ?_ | refine HR.region ?_ | refine HR.condT rfl ?_ | refine HR.condF rfl ?_ | exact HL.blkEnd rfl rfl Ent.refl | (refine fun (hb : (_ : Bool) = _) => ?_; try simp at hb))
  have et : ((ls.take (k + 1)).map (·.2)).flatten = ((ls.take k).map (·.2)).flatten ++ p.2 := by rw [take_succ_get hp]; simp
  refine ih (k + 1) v2 _ _ ⟨hlt, by rw [et, List.length_append]; omega⟩ (by omega) ⟨I, I, I, I, trivial⟩ (Ent.own0 ?_ ?_)
  ·rw [et, List.length_append]
  ·rw [et, cellsOf_app]
 ·have hke : k = ls.length := by have := of_decide_eq_false h2; omega
  subst hke
  repeat' (first | (refine HL.isOp ?_; first | refine HL.ev I I ?_ | refine HL.evc I I (by first | omega | (simp; done) | (simp; omega)) ?_ | (refine HL.isLoad ?_; first | refine HL.L 0 I I I I ?_ | refine HL.L 1 I I I I ?_ | refine HL.L 2 I I I I ?_ | refine HL.L 3 I I I I ?_) | (refine HL.isStore ?_; first | refine HL.S 0 I I I I I ?_ | refine HL.S 1 I I I I I ?_ | refine HL.S 2 I I I I I ?_ | refine HL.S 3 I I I I I ?_) | refine HL.build I I ?_ | refine HL.field I I ?_ | (refine HL.box I I ?_; intro bk) | (refine HL.alloc I I ?_; intro bk) | refine HL.skip rfl rfl ?_ | refine HL.skip0 rfl ?_ | apply HL.andB rfl rfl rfl rfl rfl rfl rfl rfl | apply HL.orB rfl rfl rfl rfl rfl rfl rfl rfl) | refine HL.nil ?_ | refine HR.ctl rfl ?_ | refine HR.region ?_ | refine HR.condT rfl ?_ | refine HR.condF rfl ?_ | exact HL.blkEnd rfl rfl Ent.refl | (refine fun (hb : (_ : Bool) = _) => ?_; try simp at hb))
  refine HR.ret Tryz.func82 I [_] (fun _ _ => ⟨I, trivial⟩) ?_
  rw [List.take_length]
  exact fun w' hw => ⟨v, rfl, hw⟩
theorem joined2 {l m : List Int} {v1 v2 vl : Value} {w : World} (hl : Sl w vl [v1, v2] 2) (h1 : Sl w v1 (cellsOf iC l) l.length) (h2 : Sl w v2 (cellsOf iC m) m.length) (b1 : l.length ≤ 60) (b2 : m.length ≤ 60) :
  Calls Tryz.prog 82 #[vl] w fun e w' => ∃ v, e = .returned v ∧ Sat (base w) [ownC v 3 1 (l ++ m).length (cellsOf iC (l ++ m))] w' := by
 have := joined_any [(v1, l), (v2, m)] vl w hl (fun p hp => by simp only [List.mem_cons, List.not_mem_nil, or_false] at hp; rcases hp with rfl | rfl; exact h1; exact h2) (Nat.le_refl _) (fun p hp => by simp at hp; rcases hp with rfl | rfl <;> simp <;> omega)
 simpa using this
theorem check18_any (a : Air) (ve vo vn : Value) (w : World) (hv : OkA w a ve vo vn) :
  Calls Tryz.prog 77 #[airV ve vo vn] w fun e w' => e = .returned (.int .i64 (Ra.check a)) ∧ Below w.heap.size w w' := by
 have le := hv.le
 have lo := hv.lo
 have ln := hv.ln
 obtain ⟨o1, o2, rfl, _⟩ := hv.o.2
 obtain ⟨n1, n2, rfl, _⟩ := hv.n.2
 refine calls_hr Tryz.func77 I (Nat.le_of_ble_eq_true I) ?_
 refine HR.sub (σ' := [(0, airV ve (.slice o1 a.o.length o2) (.slice n1 a.n.length n2))]) ⟨I, trivial⟩ ?_
 repeat' (first | (refine HL.isOp ?_; first | refine HL.ev I I ?_ | refine HL.evc I I (by first | omega | (simp; done) | (simp; omega)) ?_ | refine HL.callB fn147 I I (fun w hw => check_any a.e ve w ((Rd.arg hv.e).at hw) (by omega)) ?_ | (refine HL.isLoad ?_; first | refine HL.L 0 I I I I ?_ | refine HL.L 1 I I I I ?_ | refine HL.L 2 I I I I ?_ | refine HL.L 3 I I I I ?_) | (refine HL.isStore ?_; first | refine HL.S 0 I I I I I ?_ | refine HL.S 1 I I I I I ?_ | refine HL.S 2 I I I I I ?_ | refine HL.S 3 I I I I I ?_) | refine HL.build I I ?_ | refine HL.field I I ?_ | (refine HL.box I I ?_; intro bk) | (refine HL.alloc I I ?_; intro bk) | refine HL.skip rfl rfl ?_ | refine HL.skip0 rfl ?_ | apply HL.andB rfl rfl rfl rfl rfl rfl rfl rfl | apply HL.orB rfl rfl rfl rfl rfl rfl rfl rfl) | refine HL.nil ?_ | refine HR.ctl rfl ?_ | refine HR.region ?_ | refine HR.condT rfl ?_ | refine HR.condF rfl ?_ | exact HL.blkEnd rfl rfl Ent.refl | (refine fun (hb : (_ : Bool) = _) => ?_; try simp at hb))
 refine HR.cond I (fun h => ?_) (fun h => ?_)
 ·repeat' (first | (refine HL.isOp ?_; first | refine HL.ev I I ?_ | refine HL.evc I I (by first | omega | (simp; done) | (simp; omega)) ?_ | (refine HL.isLoad ?_; first | refine HL.L 0 I I I I ?_ | refine HL.L 1 I I I I ?_ | refine HL.L 2 I I I I ?_ | refine HL.L 3 I I I I ?_) | (refine HL.isStore ?_; first | refine HL.S 0 I I I I I ?_ | refine HL.S 1 I I I I I ?_ | refine HL.S 2 I I I I I ?_ | refine HL.S 3 I I I I I ?_) | refine HL.build I I ?_ | refine HL.field I I ?_ | (refine HL.box I I ?_; intro bk) | (refine HL.alloc I I ?_; intro bk) | refine HL.skip rfl rfl ?_ | refine HL.skip0 rfl ?_ | apply HL.andB rfl rfl rfl rfl rfl rfl rfl rfl | apply HL.orB rfl rfl rfl rfl rfl rfl rfl rfl) | refine HL.nil ?_ | refine HR.ctl rfl ?_ | refine HR.region ?_ | refine HR.condT rfl ?_ | refine HR.condF rfl ?_ | exact HL.blkEnd rfl rfl Ent.refl | (refine fun (hb : (_ : Bool) = _) => ?_; try simp at hb))
  refine HR.ret Tryz.func77 I [_] (fun _ _ => ⟨I, trivial⟩) ?_
  exact fun w' hw => ⟨by rw [check_e (by simpa using h)]; rfl, hw.belowB⟩
 have h0 : Tp.check a.e = 0 := by simpa using h
 repeat' (first | (refine HL.isOp ?_; first | refine HL.ev I I ?_ | refine HL.evc I I (by first | omega | (simp; done) | (simp; omega)) ?_ | (refine HL.isLoad ?_; first | refine HL.L 0 I I I I ?_ | refine HL.L 1 I I I I ?_ | refine HL.L 2 I I I I ?_ | refine HL.L 3 I I I I ?_) | (refine HL.isStore ?_; first | refine HL.S 0 I I I I I ?_ | refine HL.S 1 I I I I I ?_ | refine HL.S 2 I I I I I ?_ | refine HL.S 3 I I I I I ?_) | refine HL.build I I ?_ | refine HL.field I I ?_ | (refine HL.box I I ?_; intro bk) | (refine HL.alloc I I ?_; intro bk) | refine HL.skip rfl rfl ?_ | refine HL.skip0 rfl ?_ | apply HL.andB rfl rfl rfl rfl rfl rfl rfl rfl | apply HL.orB rfl rfl rfl rfl rfl rfl rfl rfl) | refine HL.nil ?_ | refine HR.ctl rfl ?_ | refine HR.region ?_ | refine HR.condT rfl ?_ | refine HR.condF rfl ?_ | exact HL.blkEnd rfl rfl Ent.refl | (refine fun (hb : (_ : Bool) = _) => ?_; try simp at hb))
 refine HL.bslice elemL I I I I I (by decide) (by decide) ?_
 intro v1
 refine HL.callO fn82 I I (fun w hw => joined2 ((Rd.own 0 rfl).at hw) ((Rd.arg hv.o).at hw) ((Rd.arg hv.n).at hw) hv.lo hv.ln) ?_
 intro v2
 have hal : (a.o ++ a.n).length ≤ 120 := by rw [List.length_append]; omega
 repeat' (first | (refine HL.isOp ?_; first | refine HL.ev I I ?_ | refine HL.evc I I (by first | omega | (simp; done) | (simp; omega)) ?_ | refine HL.lenR (Rd.own 0 I) I I I ?_ | (refine HL.isLoad ?_; first | refine HL.L 0 I I I I ?_ | refine HL.L 1 I I I I ?_ | refine HL.L 2 I I I I ?_ | refine HL.L 3 I I I I ?_) | (refine HL.isStore ?_; first | refine HL.S 0 I I I I I ?_ | refine HL.S 1 I I I I I ?_ | refine HL.S 2 I I I I I ?_ | refine HL.S 3 I I I I I ?_) | refine HL.build I I ?_ | refine HL.field I I ?_ | (refine HL.box I I ?_; intro bk) | (refine HL.alloc I I ?_; intro bk) | refine HL.skip rfl rfl ?_ | refine HL.skip0 rfl ?_ | apply HL.andB rfl rfl rfl rfl rfl rfl rfl rfl | apply HL.orB rfl rfl rfl rfl rfl rfl rfl rfl) | refine HL.nil ?_ | refine HR.ctl rfl ?_ | refine HR.region ?_ | refine HR.condT rfl ?_ | refine HR.condF rfl ?_ | exact HL.blkEnd rfl rfl Ent.refl | (refine fun (hb : (_ : Bool) = _) => ?_; try simp at hb))
 refine HR.loop (ι := Nat) (fun k => k ≤ (a.o ++ a.n).length ∧ ((a.o ++ a.n).take k).all Tp.okN = true) (fun k => [(1, .pointer (some ⟨bk, 0, none⟩)), (17, v2), (18, .int .i64 ((a.o ++ a.n).length : Int)), (19, .int .i64 (k : Int))]) (fun _ => [ownC v2 3 1 (a.o ++ a.n).length (cellsOf iC (a.o ++ a.n)), blkC bk [ve, .slice o1 a.o.length o2, .slice n1 a.n.length n2] 34]) (fun k => (a.o ++ a.n).length - k) 0 ⟨Nat.zero_le _, by simp⟩ ⟨I, I, I, I, trivial⟩ (Ent.pick [0, 2] I I) ?_
 rintro k ⟨hk, hg⟩ ih
 repeat' (first | (refine HL.isOp ?_; first | refine HL.ev I I ?_ | refine HL.evc I I (by first | omega | (simp; done) | (simp; omega)) ?_ | (refine HL.isLoad ?_; first | refine HL.L 0 I I I I ?_ | refine HL.L 1 I I I I ?_ | refine HL.L 2 I I I I ?_ | refine HL.L 3 I I I I ?_) | (refine HL.isStore ?_; first | refine HL.S 0 I I I I I ?_ | refine HL.S 1 I I I I I ?_ | refine HL.S 2 I I I I I ?_ | refine HL.S 3 I I I I I ?_) | refine HL.build I I ?_ | refine HL.field I I ?_ | (refine HL.box I I ?_; intro bk) | (refine HL.alloc I I ?_; intro bk) | refine HL.skip rfl rfl ?_ | refine HL.skip0 rfl ?_ | apply HL.andB rfl rfl rfl rfl rfl rfl rfl rfl | apply HL.orB rfl rfl rfl rfl rfl rfl rfl rfl) | refine HL.nil ?_ | refine HR.ctl rfl ?_ | refine HR.region ?_ | refine HR.condT rfl ?_ | refine HR.condF rfl ?_ | exact HL.blkEnd rfl rfl Ent.refl | (refine fun (hb : (_ : Bool) = _) => ?_; try simp at hb))
 refine HR.cond I (fun h2 => ?_) (fun h2 => ?_)
 ·have hlt : k < (a.o ++ a.n).length := by have := of_decide_eq_true h2; omega
  obtain ⟨x, hx⟩ := getSome hlt
  repeat' (first | (refine HL.isOp ?_; first | refine HL.ev I I ?_ | refine HL.evc I I (by first | omega | (simp; done) | (simp; omega)) ?_ | refine HL.idxR (Rd.own 0 I) elemI k I I I I hlt ?_ | refine HL.loadI (Rd.own 0 I) I I I I (cellsOf_get1 hx) ?_ | (refine HL.isLoad ?_; first | refine HL.L 0 I I I I ?_ | refine HL.L 1 I I I I ?_ | refine HL.L 2 I I I I ?_ | refine HL.L 3 I I I I ?_) | (refine HL.isStore ?_; first | refine HL.S 0 I I I I I ?_ | refine HL.S 1 I I I I I ?_ | refine HL.S 2 I I I I I ?_ | refine HL.S 3 I I I I I ?_) | refine HL.build I I ?_ | refine HL.field I I ?_ | (refine HL.box I I ?_; intro bk) | (refine HL.alloc I I ?_; intro bk) | refine HL.skip rfl rfl ?_ | refine HL.skip0 rfl ?_ | apply HL.andB rfl rfl rfl rfl rfl rfl rfl rfl | apply HL.orB rfl rfl rfl rfl rfl rfl rfl rfl) | refine HL.nil ?_ | refine HR.ctl rfl ?_ | refine HR.region ?_ | refine HR.condT rfl ?_ | refine HR.condF rfl ?_ | exact HL.blkEnd rfl rfl Ent.refl | (refine fun (hb : (_ : Bool) = _) => ?_; try simp at hb))
  have hx2 : (decide (x < 0) || decide (x > 250)) = !Tp.okN x := by
   rw [Bool.eq_iff_iff]; simp only [Tp.okN, Bool.or_eq_true, decide_eq_true_eq, Bool.not_eq_true', Bool.and_eq_false_iff, decide_eq_false_iff_not]; omega
  refine HR.cond I (fun h3 => ?_) (fun h3 => ?_)
  ·rw [hx2] at h3
   repeat' (first | (refine HL.isOp ?_; first | refine HL.ev I I ?_ | refine HL.evc I I (by first | omega | (simp; done) | (simp; omega)) ?_ | (refine HL.isLoad ?_; first | refine HL.L 0 I I I I ?_ | refine HL.L 1 I I I I ?_ | refine HL.L 2 I I I I ?_ | refine HL.L 3 I I I I ?_) | (refine HL.isStore ?_; first | refine HL.S 0 I I I I I ?_ | refine HL.S 1 I I I I I ?_ | refine HL.S 2 I I I I I ?_ | refine HL.S 3 I I I I I ?_) | refine HL.build I I ?_ | refine HL.field I I ?_ | (refine HL.box I I ?_; intro bk) | (refine HL.alloc I I ?_; intro bk) | refine HL.skip rfl rfl ?_ | refine HL.skip0 rfl ?_ | apply HL.andB rfl rfl rfl rfl rfl rfl rfl rfl | apply HL.orB rfl rfl rfl rfl rfl rfl rfl rfl) | refine HL.nil ?_ | refine HR.ctl rfl ?_ | refine HR.region ?_ | refine HR.condT rfl ?_ | refine HR.condF rfl ?_ | exact HL.blkEnd rfl rfl Ent.refl | (refine fun (hb : (_ : Bool) = _) => ?_; try simp at hb))
   refine HR.ret Tryz.func77 I [_] (fun _ _ => ⟨I, trivial⟩) ?_
   exact fun w' hw => ⟨by rw [check_2 h0 (all_at hx (by simpa using h3))]; rfl, hw.belowB⟩
  ·rw [hx2] at h3
   repeat' (first | (refine HL.isOp ?_; first | refine HL.ev I I ?_ | refine HL.evc I I (by first | omega | (simp; done) | (simp; omega)) ?_ | (refine HL.isLoad ?_; first | refine HL.L 0 I I I I ?_ | refine HL.L 1 I I I I ?_ | refine HL.L 2 I I I I ?_ | refine HL.L 3 I I I I ?_) | (refine HL.isStore ?_; first | refine HL.S 0 I I I I I ?_ | refine HL.S 1 I I I I I ?_ | refine HL.S 2 I I I I I ?_ | refine HL.S 3 I I I I I ?_) | refine HL.build I I ?_ | refine HL.field I I ?_ | (refine HL.box I I ?_; intro bk) | (refine HL.alloc I I ?_; intro bk) | refine HL.skip rfl rfl ?_ | refine HL.skip0 rfl ?_ | apply HL.andB rfl rfl rfl rfl rfl rfl rfl rfl | apply HL.orB rfl rfl rfl rfl rfl rfl rfl rfl) | refine HL.nil ?_ | refine HR.ctl rfl ?_ | refine HR.region ?_ | refine HR.condT rfl ?_ | refine HR.condF rfl ?_ | exact HL.blkEnd rfl rfl Ent.refl | (refine fun (hb : (_ : Bool) = _) => ?_; try simp at hb))
   exact ih (k + 1) _ _ ⟨hlt, by rw [all_take hx, hg]; simpa using h3⟩ (by omega) ⟨I, I, I, I, trivial⟩ Ent.refl
 have hke : k = (a.o ++ a.n).length := by have := of_decide_eq_false h2; omega
 subst hke
 rw [List.take_length] at hg
 repeat' (first | (refine HL.isOp ?_; first | refine HL.ev I I ?_ | refine HL.evc I I (by first | omega | (simp; done) | (simp; omega)) ?_ | refine HL.lenR (Rd.arg hv.o) I I I ?_ | refine HL.lenR (Rd.arg hv.n) I I I ?_ | (refine HL.isLoad ?_; first | refine HL.L 0 I I I I ?_ | refine HL.L 1 I I I I ?_ | refine HL.L 2 I I I I ?_ | refine HL.L 3 I I I I ?_) | (refine HL.isStore ?_; first | refine HL.S 0 I I I I I ?_ | refine HL.S 1 I I I I I ?_ | refine HL.S 2 I I I I I ?_ | refine HL.S 3 I I I I I ?_) | refine HL.build I I ?_ | refine HL.field I I ?_ | (refine HL.box I I ?_; intro bk) | (refine HL.alloc I I ?_; intro bk) | refine HL.skip rfl rfl ?_ | refine HL.skip0 rfl ?_ | apply HL.andB rfl rfl rfl rfl rfl rfl rfl rfl | apply HL.orB rfl rfl rfl rfl rfl rfl rfl rfl) | refine HL.nil ?_ | refine HR.ctl rfl ?_ | refine HR.region ?_ | refine HR.condT rfl ?_ | refine HR.condF rfl ?_ | exact HL.blkEnd rfl rfl Ent.refl | (refine fun (hb : (_ : Bool) = _) => ?_; try simp at hb))
 refine HR.cond I (fun h3 => ?_) (fun h3 => ?_)
 ·have h3 : (decide ((a.o.length : Int) > 24) || decide ((a.n.length : Int) > 24)) = true := h3
  simp only [Bool.or_eq_true, decide_eq_true_eq] at h3
  repeat' (first | (refine HL.isOp ?_; first | refine HL.ev I I ?_ | refine HL.evc I I (by first | omega | (simp; done) | (simp; omega)) ?_ | (refine HL.isLoad ?_; first | refine HL.L 0 I I I I ?_ | refine HL.L 1 I I I I ?_ | refine HL.L 2 I I I I ?_ | refine HL.L 3 I I I I ?_) | (refine HL.isStore ?_; first | refine HL.S 0 I I I I I ?_ | refine HL.S 1 I I I I I ?_ | refine HL.S 2 I I I I I ?_ | refine HL.S 3 I I I I I ?_) | refine HL.build I I ?_ | refine HL.field I I ?_ | (refine HL.box I I ?_; intro bk) | (refine HL.alloc I I ?_; intro bk) | refine HL.skip rfl rfl ?_ | refine HL.skip0 rfl ?_ | apply HL.andB rfl rfl rfl rfl rfl rfl rfl rfl | apply HL.orB rfl rfl rfl rfl rfl rfl rfl rfl) | refine HL.nil ?_ | refine HR.ctl rfl ?_ | refine HR.region ?_ | refine HR.condT rfl ?_ | refine HR.condF rfl ?_ | exact HL.blkEnd rfl rfl Ent.refl | (refine fun (hb : (_ : Bool) = _) => ?_; try simp at hb))
  refine HR.ret Tryz.func77 I [_] (fun _ _ => ⟨I, trivial⟩) ?_
  exact fun w' hw => ⟨by rw [check_3 h0 hg (by omega)]; rfl, hw.belowB⟩
 ·have h3 : (decide ((a.o.length : Int) > 24) || decide ((a.n.length : Int) > 24)) = false := h3
  simp only [Bool.or_eq_false_iff, decide_eq_false_iff_not] at h3
  repeat' (first | (refine HL.isOp ?_; first | refine HL.ev I I ?_ | refine HL.evc I I (by first | omega | (simp; done) | (simp; omega)) ?_ | (refine HL.isLoad ?_; first | refine HL.L 0 I I I I ?_ | refine HL.L 1 I I I I ?_ | refine HL.L 2 I I I I ?_ | refine HL.L 3 I I I I ?_) | (refine HL.isStore ?_; first | refine HL.S 0 I I I I I ?_ | refine HL.S 1 I I I I I ?_ | refine HL.S 2 I I I I I ?_ | refine HL.S 3 I I I I I ?_) | refine HL.build I I ?_ | refine HL.field I I ?_ | (refine HL.box I I ?_; intro bk) | (refine HL.alloc I I ?_; intro bk) | refine HL.skip rfl rfl ?_ | refine HL.skip0 rfl ?_ | apply HL.andB rfl rfl rfl rfl rfl rfl rfl rfl | apply HL.orB rfl rfl rfl rfl rfl rfl rfl rfl) | refine HL.nil ?_ | refine HR.ctl rfl ?_ | refine HR.region ?_ | refine HR.condT rfl ?_ | refine HR.condF rfl ?_ | exact HL.blkEnd rfl rfl Ent.refl | (refine fun (hb : (_ : Bool) = _) => ?_; try simp at hb))
  refine HR.ret Tryz.func77 I [_] (fun _ _ => ⟨I, trivial⟩) ?_
  exact fun w' hw => ⟨by rw [check_0 h0 hg (by omega)]; rfl, hw.belowB⟩
end Go.Proofs.YtgfdoognildoeaaGreat
