/- A part of the proof: contracts of the program's functions. Conditions: none. -/
import Derived.Test.YtiepojpebndgoaaShelf
import Derived.Test.YtiepojpebndgoaaRa2
import Derived.Test.YtiepojpebndgoaaGxIter
import Derived.Test.YtiepojpebndgoaaTpEx
import Derived.Test.YtiepojpebndgoaaGxDraw
namespace Go.Proofs.Ytiepojpebndgoaa
open Go.GX Go.RowKit
attribute [local irreducible] Calls Run RunL RunQ RunD HR HL HD blkC ownC mapC Rd slicesC iterC RdM
set_option linter.unusedVariables false
set_option linter.unusedSectionVars false
set_option linter.unusedSimpArgs false
set_option maxRecDepth 100000

theorem fn41 : IsFn Try.prog 41 := ⟨⟨_, _, Try.func41, rfl, by decide⟩⟩
theorem fn39 : IsFn Try.prog 39 := ⟨⟨_, _, Try.func39, rfl, by decide⟩⟩

theorem sortI_any (v : Value) (n : Nat) (zs : List Int) (w : World) (hv : Vw w v 3 1 n (cellsOf iC zs)) (hn : n ≤ 1000000) :
    Calls Try.prog 41 #[v] w fun e w' => ∃ x : Unit, e = .returned (.tuple #[]) ∧ True ∧ Sat ⟨w, feet [ownC v 3 1 n (cellsOf iC zs)]⟩ [ownC v 3 1 n (cellsOf iC (sortZ zs))] w' := by
  have hl : zs.length = n := by have := hv.1; rw [cellsOf_len iC_len] at this; omega
  have stay : n = 0 → (∃ p cap, v = .slice p 0 cap) → Calls Try.prog 41 #[v] w fun e w' => ∃ x : Unit, e = .returned (.tuple #[]) ∧ True ∧ Sat ⟨w, feet [ownC v 3 1 n (cellsOf iC zs)]⟩ [ownC v 3 1 n (cellsOf iC (sortZ zs))] w' := by
    intro h0 hp
    obtain ⟨p, cap, rfl⟩ := hp
    have hz : zs = [] := List.eq_nil_of_length_eq_zero (by omega)
    subst hz
    refine (Try.slices_Sort_int_none p cap w).mono ?_
    rintro e w' ⟨rfl, rfl⟩
    exact ⟨(), rfl, trivial, by simpa [sortZ] using Sat.sameOwn hv⟩
  rcases hv.2 with ⟨rfl, h0⟩ | ⟨g, off, cap, cur, rfl, _⟩
  · exact stay h0 ⟨none, 0, rfl⟩
  · have hv' : Vw w (.slice (some ⟨g, off, none⟩) n cap) 3 1 n (zs.map (Value.int .i64)) := by rw [← cellsOf_one1]; exact hv
    obtain ⟨h1, h2, h3⟩ := hv'.holds
    have := Try.slices_Sort_int g off cap zs w h3 h1 (by omega)
    rw [hl] at this
    refine this.mono ?_
    rintro e w' ⟨rfl, q, os, rfl⟩
    exact ⟨(), rfl, trivial, Sat.putOwn (enc := Value.int .i64) (zs := zs) (ys := sortZ zs) hv (by rw [sortZ_len]; exact hl)⟩

abbrev encI : Int → Value := fun z => Value.int .i64 z
abbrev encE : Ed → Value := fun e => Value.agg ⟨edC e⟩

theorem graph_any (l : List Ed) (vl : Value) (w : World) (hl : Sl w vl (cellsOf edC l) l.length) (hll : l.length ≤ 1000) :
    Calls Try.prog 39 #[vl] w fun e w' => ∃ x : Nat × List (Int × Value), e = .returned (.map (some x.1)) ∧ (∀ n, getM n x.2 = none → Tp.nbrs l n = []) ∧ Sat (base w) [slicesC 3 x.2 (Tp.nbrs l), mapC encI x.1 x.2] w' := by
  refine calls_hr Try.func39 rfl (Nat.le_of_ble_eq_true rfl) ?_
  refine HR.sub (σ' := [(0, vl)]) ⟨rfl, trivial⟩ ?_
  repeat' (first | (refine HL.isOp ?_; first | refine HL.ev rfl rfl ?_ | refine HL.evc rfl rfl (by first | omega | simp | (simp; omega)) ?_ | refine HL.makeM encI rfl ?_ | (refine HL.isLoad ?_; first | refine HL.L 0 rfl rfl rfl rfl ?_ | refine HL.L 1 rfl rfl rfl rfl ?_ | refine HL.L 2 rfl rfl rfl rfl ?_ | refine HL.L 3 rfl rfl rfl rfl ?_) | (refine HL.isStore ?_; first | refine HL.S 0 rfl rfl rfl rfl rfl ?_ | refine HL.S 1 rfl rfl rfl rfl rfl ?_ | refine HL.S 2 rfl rfl rfl rfl rfl ?_ | refine HL.S 3 rfl rfl rfl rfl rfl ?_) | refine HL.build rfl rfl ?_ | refine HL.field rfl rfl ?_ | (refine HL.box rfl rfl ?_; intro bk) | (refine HL.alloc rfl rfl ?_; intro bk) | refine HL.skip rfl rfl ?_ | refine HL.skip0 rfl ?_ | apply HL.andB rfl rfl rfl rfl rfl rfl rfl rfl | apply HL.orB rfl rfl rfl rfl rfl rfl rfl rfl) | refine HL.nil ?_ | refine HR.ctl rfl ?_ | refine HR.region ?_ | refine HR.condT rfl ?_ | refine HR.condF rfl ?_ | exact HL.blkEnd rfl rfl Ent.refl | (refine fun (hb : (_ : Bool) = _) => ?_; try simp at hb))
  intro b
  repeat' (first | (refine HL.isOp ?_; first | refine HL.ev rfl rfl ?_ | refine HL.evc rfl rfl (by first | omega | simp | (simp; omega)) ?_ | refine HL.makeM encE rfl ?_ | (refine HL.isLoad ?_; first | refine HL.L 0 rfl rfl rfl rfl ?_ | refine HL.L 1 rfl rfl rfl rfl ?_ | refine HL.L 2 rfl rfl rfl rfl ?_ | refine HL.L 3 rfl rfl rfl rfl ?_) | (refine HL.isStore ?_; first | refine HL.S 0 rfl rfl rfl rfl rfl ?_ | refine HL.S 1 rfl rfl rfl rfl rfl ?_ | refine HL.S 2 rfl rfl rfl rfl rfl ?_ | refine HL.S 3 rfl rfl rfl rfl rfl ?_) | refine HL.build rfl rfl ?_ | refine HL.field rfl rfl ?_ | (refine HL.box rfl rfl ?_; intro bk) | (refine HL.alloc rfl rfl ?_; intro bk) | refine HL.skip rfl rfl ?_ | refine HL.skip0 rfl ?_ | apply HL.andB rfl rfl rfl rfl rfl rfl rfl rfl | apply HL.orB rfl rfl rfl rfl rfl rfl rfl rfl) | refine HL.nil ?_ | refine HR.ctl rfl ?_ | refine HR.region ?_ | refine HR.condT rfl ?_ | refine HR.condF rfl ?_ | exact HL.blkEnd rfl rfl Ent.refl | (refine fun (hb : (_ : Bool) = _) => ?_; try simp at hb))
  intro bs
  repeat' (first | (refine HL.isOp ?_; first | refine HL.ev rfl rfl ?_ | refine HL.evc rfl rfl (by first | omega | simp | (simp; omega)) ?_ | refine HL.lenR (Rd.arg hl) rfl rfl rfl ?_ | (refine HL.isLoad ?_; first | refine HL.L 0 rfl rfl rfl rfl ?_ | refine HL.L 1 rfl rfl rfl rfl ?_ | refine HL.L 2 rfl rfl rfl rfl ?_ | refine HL.L 3 rfl rfl rfl rfl ?_) | (refine HL.isStore ?_; first | refine HL.S 0 rfl rfl rfl rfl rfl ?_ | refine HL.S 1 rfl rfl rfl rfl rfl ?_ | refine HL.S 2 rfl rfl rfl rfl rfl ?_ | refine HL.S 3 rfl rfl rfl rfl rfl ?_) | refine HL.build rfl rfl ?_ | refine HL.field rfl rfl ?_ | (refine HL.box rfl rfl ?_; intro bk) | (refine HL.alloc rfl rfl ?_; intro bk) | refine HL.skip rfl rfl ?_ | refine HL.skip0 rfl ?_ | apply HL.andB rfl rfl rfl rfl rfl rfl rfl rfl | apply HL.orB rfl rfl rfl rfl rfl rfl rfl rfl) | refine HL.nil ?_ | refine HR.ctl rfl ?_ | refine HR.region ?_ | refine HR.condT rfl ?_ | refine HR.condF rfl ?_ | exact HL.blkEnd rfl rfl Ent.refl | (refine fun (hb : (_ : Bool) = _) => ?_; try simp at hb))
  refine HR.loop4 (α := Nat) (β := List (Int × Value)) (γ := Int → List Int) (δ := List (Ed × Value))
    (fun k m adj sm => k ≤ l.length ∧ NodupM m ∧ Tp.Adj (l.take k) adj ∧ (∀ n, getM n m = none → adj n = []) ∧ ∀ z, (getM z sm).getD (.bool false) = .bool (decide (∃ e ∈ l.take k, Tp.okE e = true ∧ Tp.link e = z)))
    (fun k m adj sm => [(3, .map (some b)), (4, .map (some bs)), (11, vl), (12, .int .i64 (l.length : Int)), (13, .int .i64 (k : Int))])
    (fun k m adj sm => [slicesC 3 m adj, mapC encI b m, mapC encE bs sm]) (fun k m adj sm => l.length - k) 0 [] (fun _ => []) [] ⟨Nat.zero_le _, List.nodup_nil, Tp.Adj.nil, fun _ _ => rfl, fun z => by simp [getM]⟩ ⟨rfl, rfl, rfl, rfl, rfl, trivial⟩ ?_ ?_
  · exact Ent.trans (Ent.pick [1, 0] rfl rfl) Ent.emptyS
  rintro k m adj sm ⟨hk, hnd, hadj, hnil, hsm⟩ ih
  repeat' (first | (refine HL.isOp ?_; first | refine HL.ev rfl rfl ?_ | refine HL.evc rfl rfl (by first | omega | simp | (simp; omega)) ?_ | (refine HL.isLoad ?_; first | refine HL.L 0 rfl rfl rfl rfl ?_ | refine HL.L 1 rfl rfl rfl rfl ?_ | refine HL.L 2 rfl rfl rfl rfl ?_ | refine HL.L 3 rfl rfl rfl rfl ?_) | (refine HL.isStore ?_; first | refine HL.S 0 rfl rfl rfl rfl rfl ?_ | refine HL.S 1 rfl rfl rfl rfl rfl ?_ | refine HL.S 2 rfl rfl rfl rfl rfl ?_ | refine HL.S 3 rfl rfl rfl rfl rfl ?_) | refine HL.build rfl rfl ?_ | refine HL.field rfl rfl ?_ | (refine HL.box rfl rfl ?_; intro bk) | (refine HL.alloc rfl rfl ?_; intro bk) | refine HL.skip rfl rfl ?_ | refine HL.skip0 rfl ?_ | apply HL.andB rfl rfl rfl rfl rfl rfl rfl rfl | apply HL.orB rfl rfl rfl rfl rfl rfl rfl rfl) | refine HL.nil ?_ | refine HR.ctl rfl ?_ | refine HR.region ?_ | refine HR.condT rfl ?_ | refine HR.condF rfl ?_ | exact HL.blkEnd rfl rfl Ent.refl | (refine fun (hb : (_ : Bool) = _) => ?_; try simp at hb))
  refine HR.cond rfl (fun h2 => ?_) (fun h2 => ?_)
  · have hlt : k < l.length := by have := of_decide_eq_true h2; omega
    obtain ⟨e, he⟩ := getSome hlt
    have hsmN : ∀ z, (getM z (setM (Tp.link e) (.bool true) sm)).getD (.bool false) = .bool (decide (z = Tp.link e ∨ ∃ e ∈ l.take k, Tp.okE e = true ∧ Tp.link e = z)) := fun z => by
      rw [getM_setM]
      by_cases hz : z = Tp.link e
      · simp [hz]
      · rw [if_neg hz, hsm]; simp [hz]
    repeat' (first | (refine HL.isOp ?_; first | refine HL.ev rfl rfl ?_ | refine HL.evc rfl rfl (by first | omega | simp | (simp; omega)) ?_ | refine HL.idxR (Rd.arg hl) elemE k rfl rfl rfl rfl hlt ?_ | refine HL.loadE (Rd.arg hl) rfl rfl rfl rfl (by simp [edC]) rfl (cellsOf_get edC_len he) ?_ | refine HL.callB fn45 rfl rfl (fun w _ => valid_any e w) ?_ | refine HL.callB fn46 rfl rfl (fun w _ => link_any e w) ?_ | refine HL.lookV 3 rfl keyE rfl rfl rfl rfl rfl (hsm _) ?_ | (refine HL.isLoad ?_; first | refine HL.L 0 rfl rfl rfl rfl ?_ | refine HL.L 1 rfl rfl rfl rfl ?_ | refine HL.L 2 rfl rfl rfl rfl ?_ | refine HL.L 3 rfl rfl rfl rfl ?_) | (refine HL.isStore ?_; first | refine HL.S 0 rfl rfl rfl rfl rfl ?_ | refine HL.S 1 rfl rfl rfl rfl rfl ?_ | refine HL.S 2 rfl rfl rfl rfl rfl ?_ | refine HL.S 3 rfl rfl rfl rfl rfl ?_) | refine HL.build rfl rfl ?_ | refine HL.field rfl rfl ?_ | (refine HL.box rfl rfl ?_; intro bk) | (refine HL.alloc rfl rfl ?_; intro bk) | refine HL.skip rfl rfl ?_ | refine HL.skip0 rfl ?_ | apply HL.andB rfl rfl rfl rfl rfl rfl rfl rfl | apply HL.orB rfl rfl rfl rfl rfl rfl rfl rfl) | refine HL.nil ?_ | refine HR.ctl rfl ?_ | refine HR.region ?_ | refine HR.condT rfl ?_ | refine HR.condF rfl ?_ | exact HL.blkEnd rfl rfl Ent.refl | (refine fun (hb : (_ : Bool) = _) => ?_; try simp at hb))
    refine HR.cond rfl (fun h3 => ?_) (fun h3 => ?_)
    · obtain ⟨hok, hnew⟩ := Bool.and_eq_true_iff.1 h3
      have hnew : ∀ e' ∈ l.take k, Tp.okE e' = true → Tp.link e' ≠ Tp.link e := by
        intro e' h4 h5 h6
        simp only [Bool.not_eq_true', decide_eq_false_iff_not] at hnew
        exact hnew ⟨e', h4, h5, h6⟩
      have hab : e.a ≠ e.b := by simp [Tp.okE] at hok; exact hok.2
      have hadd := hadj.add hok hnew
      have hl1 := hadj.len e.a
      have hl2 := hadj.len e.b
      repeat' (first | (refine HL.isOp ?_; first | refine HL.ev rfl rfl ?_ | refine HL.evc rfl rfl (by first | omega | simp | (simp; omega)) ?_ | refine HL.callB fn46 rfl rfl (fun w _ => link_any e w) ?_ | refine HL.updM 3 rfl keyE rfl rfl rfl rfl rfl ?_ | (refine HL.isLoad ?_; first | refine HL.L 0 rfl rfl rfl rfl ?_ | refine HL.L 1 rfl rfl rfl rfl ?_ | refine HL.L 2 rfl rfl rfl rfl ?_ | refine HL.L 3 rfl rfl rfl rfl ?_) | (refine HL.isStore ?_; first | refine HL.S 0 rfl rfl rfl rfl rfl ?_ | refine HL.S 1 rfl rfl rfl rfl rfl ?_ | refine HL.S 2 rfl rfl rfl rfl rfl ?_ | refine HL.S 3 rfl rfl rfl rfl rfl ?_) | refine HL.build rfl rfl ?_ | refine HL.field rfl rfl ?_ | (refine HL.box rfl rfl ?_; intro bk) | (refine HL.alloc rfl rfl ?_; intro bk) | refine HL.skip rfl rfl ?_ | refine HL.skip0 rfl ?_ | apply HL.andB rfl rfl rfl rfl rfl rfl rfl rfl | apply HL.orB rfl rfl rfl rfl rfl rfl rfl rfl) | refine HL.nil ?_ | refine HR.ctl rfl ?_ | refine HR.region ?_ | refine HR.condT rfl ?_ | refine HR.condF rfl ?_ | exact HL.blkEnd rfl rfl Ent.refl | (refine fun (hb : (_ : Bool) = _) => ?_; try simp at hb))
      refine HR.join (ι := Value) (fun v => True) (fun v => [(3, .map (some b)), (4, .map (some bs)), (6, .pointer (some ⟨bk, 0, none⟩)), (11, vl), (12, .int .i64 (l.length : Int)), (13, .int .i64 (k : Int))])
        (fun v => [slicesC 3 (setM e.a v m) (Tp.upd adj e.a (adj e.a ++ [e.b])), blkC bk [.int .i64 e.a, .int .i64 e.b] 49, mapC encI b (setM e.a v m), mapC encE bs (setM (Tp.link e) (.bool true) sm)]) (fun v _ => ?_) (fun hj => ?_)
      · have hba : e.b ≠ e.a := fun h => hab h.symm
        have hadj1 : Tp.upd adj e.a (adj e.a ++ [e.b]) e.b = adj e.b := by simp [Tp.upd, hba]
        have hnil1 : getM e.b (setM e.a v m) = none → Tp.upd adj e.a (adj e.a ++ [e.b]) e.b = [] := by
          rw [getM_setM, if_neg hba, hadj1]; exact hnil _
        refine HR.ent (H' := [ownC ((getM e.b (setM e.a v m)).getD (.slice none 0 0)) 3 1 (adj e.b).length (cellsOf iC (adj e.b)), slicesC 3 (delM e.b (setM e.a v m)) (Tp.upd adj e.a (adj e.a ++ [e.b])), blkC bk [.int .i64 e.a, .int .i64 e.b] 49, mapC encI b (setM e.a v m), mapC encE bs (setM (Tp.link e) (.bool true) sm)]) (by rw [← hadj1]; exact Ent.takeS (nodup_setM hnd) hnil1 rfl) ?_
        repeat' (first | (refine HL.isOp ?_; first | refine HL.ev rfl rfl ?_ | refine HL.evc rfl rfl (by first | omega | simp | (simp; omega)) ?_ | (refine HL.isLoad ?_; first | refine HL.L 0 rfl rfl rfl rfl ?_ | refine HL.L 1 rfl rfl rfl rfl ?_ | refine HL.L 2 rfl rfl rfl rfl ?_ | refine HL.L 3 rfl rfl rfl rfl ?_) | (refine HL.isStore ?_; first | refine HL.S 0 rfl rfl rfl rfl rfl ?_ | refine HL.S 1 rfl rfl rfl rfl rfl ?_ | refine HL.S 2 rfl rfl rfl rfl rfl ?_ | refine HL.S 3 rfl rfl rfl rfl rfl ?_) | refine HL.build rfl rfl ?_ | refine HL.field rfl rfl ?_ | (refine HL.box rfl rfl ?_; intro bk) | (refine HL.alloc rfl rfl ?_; intro bk) | refine HL.skip rfl rfl ?_ | refine HL.skip0 rfl ?_ | apply HL.andB rfl rfl rfl rfl rfl rfl rfl rfl | apply HL.orB rfl rfl rfl rfl rfl rfl rfl rfl) | refine HL.nil ?_ | refine HR.ctl rfl ?_ | refine HR.region ?_ | refine HR.condT rfl ?_ | refine HR.condF rfl ?_ | exact HL.blkEnd rfl rfl Ent.refl | (refine fun (hb : (_ : Bool) = _) => ?_; try simp at hb))
        refine HR.regionA [2] rfl rfl hmix ?_
        first | refine HA.ev 0 (by kernel_rfl) rfl rfl rfl ?_ | refine HA.evc 0 (by kernel_rfl) rfl rfl rfl (by first | omega | simp | (simp; omega)) ?_ | refine HA.loadB 0 0 (by kernel_rfl) rfl rfl rfl rfl rfl rfl rfl ?_ | refine HA.loadB 0 1 (by kernel_rfl) rfl rfl rfl rfl rfl rfl rfl ?_ | refine HA.loadB 0 2 (by kernel_rfl) rfl rfl rfl rfl rfl rfl rfl ?_ | refine HA.loadB 0 3 (by kernel_rfl) rfl rfl rfl rfl rfl rfl rfl ?_ | refine HA.loadR 0 0 (by kernel_rfl) rfl rfl rfl rfl rfl rfl rfl rfl ?_ | refine HA.loadR 0 1 (by kernel_rfl) rfl rfl rfl rfl rfl rfl rfl rfl ?_ | refine HA.loadR 0 2 (by kernel_rfl) rfl rfl rfl rfl rfl rfl rfl rfl ?_ | refine HA.loadR 0 3 (by kernel_rfl) rfl rfl rfl rfl rfl rfl rfl rfl ?_ | refine HA.build 0 (by kernel_rfl) rfl rfl rfl ?_
        first | refine HA.ev 1 (by kernel_rfl) rfl rfl rfl ?_ | refine HA.evc 1 (by kernel_rfl) rfl rfl rfl (by first | omega | simp | (simp; omega)) ?_ | refine HA.loadB 1 0 (by kernel_rfl) rfl rfl rfl rfl rfl rfl rfl ?_ | refine HA.loadB 1 1 (by kernel_rfl) rfl rfl rfl rfl rfl rfl rfl ?_ | refine HA.loadB 1 2 (by kernel_rfl) rfl rfl rfl rfl rfl rfl rfl ?_ | refine HA.loadB 1 3 (by kernel_rfl) rfl rfl rfl rfl rfl rfl rfl ?_ | refine HA.loadR 1 0 (by kernel_rfl) rfl rfl rfl rfl rfl rfl rfl rfl ?_ | refine HA.loadR 1 1 (by kernel_rfl) rfl rfl rfl rfl rfl rfl rfl rfl ?_ | refine HA.loadR 1 2 (by kernel_rfl) rfl rfl rfl rfl rfl rfl rfl rfl ?_ | refine HA.loadR 1 3 (by kernel_rfl) rfl rfl rfl rfl rfl rfl rfl rfl ?_ | refine HA.build 1 (by kernel_rfl) rfl rfl rfl ?_
        first | refine HA.ev 2 (by kernel_rfl) rfl rfl rfl ?_ | refine HA.evc 2 (by kernel_rfl) rfl rfl rfl (by first | omega | simp | (simp; omega)) ?_ | refine HA.loadB 2 0 (by kernel_rfl) rfl rfl rfl rfl rfl rfl rfl ?_ | refine HA.loadB 2 1 (by kernel_rfl) rfl rfl rfl rfl rfl rfl rfl ?_ | refine HA.loadB 2 2 (by kernel_rfl) rfl rfl rfl rfl rfl rfl rfl ?_ | refine HA.loadB 2 3 (by kernel_rfl) rfl rfl rfl rfl rfl rfl rfl ?_ | refine HA.loadR 2 0 (by kernel_rfl) rfl rfl rfl rfl rfl rfl rfl rfl ?_ | refine HA.loadR 2 1 (by kernel_rfl) rfl rfl rfl rfl rfl rfl rfl rfl ?_ | refine HA.loadR 2 2 (by kernel_rfl) rfl rfl rfl rfl rfl rfl rfl rfl ?_ | refine HA.loadR 2 3 (by kernel_rfl) rfl rfl rfl rfl rfl rfl rfl rfl ?_ | refine HA.build 2 (by kernel_rfl) rfl rfl rfl ?_
        first | refine HA.ev 3 (by kernel_rfl) rfl rfl rfl ?_ | refine HA.evc 3 (by kernel_rfl) rfl rfl rfl (by first | omega | simp | (simp; omega)) ?_ | refine HA.loadB 3 0 (by kernel_rfl) rfl rfl rfl rfl rfl rfl rfl ?_ | refine HA.loadB 3 1 (by kernel_rfl) rfl rfl rfl rfl rfl rfl rfl ?_ | refine HA.loadB 3 2 (by kernel_rfl) rfl rfl rfl rfl rfl rfl rfl ?_ | refine HA.loadB 3 3 (by kernel_rfl) rfl rfl rfl rfl rfl rfl rfl ?_ | refine HA.loadR 3 0 (by kernel_rfl) rfl rfl rfl rfl rfl rfl rfl rfl ?_ | refine HA.loadR 3 1 (by kernel_rfl) rfl rfl rfl rfl rfl rfl rfl rfl ?_ | refine HA.loadR 3 2 (by kernel_rfl) rfl rfl rfl rfl rfl rfl rfl rfl ?_ | refine HA.loadR 3 3 (by kernel_rfl) rfl rfl rfl rfl rfl rfl rfl rfl ?_ | refine HA.build 3 (by kernel_rfl) rfl rfl rfl ?_
        first | refine HA.ev 4 (by kernel_rfl) rfl rfl rfl ?_ | refine HA.evc 4 (by kernel_rfl) rfl rfl rfl (by first | omega | simp | (simp; omega)) ?_ | refine HA.loadB 4 0 (by kernel_rfl) rfl rfl rfl rfl rfl rfl rfl ?_ | refine HA.loadB 4 1 (by kernel_rfl) rfl rfl rfl rfl rfl rfl rfl ?_ | refine HA.loadB 4 2 (by kernel_rfl) rfl rfl rfl rfl rfl rfl rfl ?_ | refine HA.loadB 4 3 (by kernel_rfl) rfl rfl rfl rfl rfl rfl rfl ?_ | refine HA.loadR 4 0 (by kernel_rfl) rfl rfl rfl rfl rfl rfl rfl rfl ?_ | refine HA.loadR 4 1 (by kernel_rfl) rfl rfl rfl rfl rfl rfl rfl rfl ?_ | refine HA.loadR 4 2 (by kernel_rfl) rfl rfl rfl rfl rfl rfl rfl rfl ?_ | refine HA.loadR 4 3 (by kernel_rfl) rfl rfl rfl rfl rfl rfl rfl rfl ?_ | refine HA.build 4 (by kernel_rfl) rfl rfl rfl ?_
        first | refine HA.ev 5 (by kernel_rfl) rfl rfl rfl ?_ | refine HA.evc 5 (by kernel_rfl) rfl rfl rfl (by first | omega | simp | (simp; omega)) ?_ | refine HA.loadB 5 0 (by kernel_rfl) rfl rfl rfl rfl rfl rfl rfl ?_ | refine HA.loadB 5 1 (by kernel_rfl) rfl rfl rfl rfl rfl rfl rfl ?_ | refine HA.loadB 5 2 (by kernel_rfl) rfl rfl rfl rfl rfl rfl rfl ?_ | refine HA.loadB 5 3 (by kernel_rfl) rfl rfl rfl rfl rfl rfl rfl ?_ | refine HA.loadR 5 0 (by kernel_rfl) rfl rfl rfl rfl rfl rfl rfl rfl ?_ | refine HA.loadR 5 1 (by kernel_rfl) rfl rfl rfl rfl rfl rfl rfl rfl ?_ | refine HA.loadR 5 2 (by kernel_rfl) rfl rfl rfl rfl rfl rfl rfl rfl ?_ | refine HA.loadR 5 3 (by kernel_rfl) rfl rfl rfl rfl rfl rfl rfl rfl ?_ | refine HA.build 5 (by kernel_rfl) rfl rfl rfl ?_
        first | refine HA.ev 7 (by kernel_rfl) rfl rfl rfl ?_ | refine HA.evc 7 (by kernel_rfl) rfl rfl rfl (by first | omega | simp | (simp; omega)) ?_ | refine HA.loadB 7 0 (by kernel_rfl) rfl rfl rfl rfl rfl rfl rfl ?_ | refine HA.loadB 7 1 (by kernel_rfl) rfl rfl rfl rfl rfl rfl rfl ?_ | refine HA.loadB 7 2 (by kernel_rfl) rfl rfl rfl rfl rfl rfl rfl ?_ | refine HA.loadB 7 3 (by kernel_rfl) rfl rfl rfl rfl rfl rfl rfl ?_ | refine HA.loadR 7 0 (by kernel_rfl) rfl rfl rfl rfl rfl rfl rfl rfl ?_ | refine HA.loadR 7 1 (by kernel_rfl) rfl rfl rfl rfl rfl rfl rfl rfl ?_ | refine HA.loadR 7 2 (by kernel_rfl) rfl rfl rfl rfl rfl rfl rfl rfl ?_ | refine HA.loadR 7 3 (by kernel_rfl) rfl rfl rfl rfl rfl rfl rfl rfl ?_ | refine HA.build 7 (by kernel_rfl) rfl rfl rfl ?_
        first | refine HA.ev 8 (by kernel_rfl) rfl rfl rfl ?_ | refine HA.evc 8 (by kernel_rfl) rfl rfl rfl (by first | omega | simp | (simp; omega)) ?_ | refine HA.loadB 8 0 (by kernel_rfl) rfl rfl rfl rfl rfl rfl rfl ?_ | refine HA.loadB 8 1 (by kernel_rfl) rfl rfl rfl rfl rfl rfl rfl ?_ | refine HA.loadB 8 2 (by kernel_rfl) rfl rfl rfl rfl rfl rfl rfl ?_ | refine HA.loadB 8 3 (by kernel_rfl) rfl rfl rfl rfl rfl rfl rfl ?_ | refine HA.loadR 8 0 (by kernel_rfl) rfl rfl rfl rfl rfl rfl rfl rfl ?_ | refine HA.loadR 8 1 (by kernel_rfl) rfl rfl rfl rfl rfl rfl rfl rfl ?_ | refine HA.loadR 8 2 (by kernel_rfl) rfl rfl rfl rfl rfl rfl rfl rfl ?_ | refine HA.loadR 8 3 (by kernel_rfl) rfl rfl rfl rfl rfl rfl rfl rfl ?_ | refine HA.build 8 (by kernel_rfl) rfl rfl rfl ?_
        refine HA.two 6 9 (by kernel_rfl) rfl rfl ?_ ?_
        · refine HL.lookV 3 rfl keyI rfl rfl rfl rfl rfl rfl ?_
          refine HL.backA [2] rfl rfl ?_
          refine HA.one 9 (by kernel_rfl) rfl ?_
          refine HL.bslice elemI rfl rfl rfl rfl rfl (by decide) (by decide) ?_
          intro v1
          refine HL.backA [3] rfl rfl ?_
          refine HA.one 10 (by kernel_rfl) rfl ?_
          refine HL.appR 1 rfl elemI (Rd.own 0 rfl) rfl rfl rfl rfl (allOne_spec rfl) (by omega) (by omega) ?_
          intro v2
          refine HL.backA [3] rfl rfl ?_
          refine HA.one 11 (by kernel_rfl) rfl ?_
          refine HL.updM 4 rfl keyI rfl rfl rfl rfl rfl ?_
          refine HL.backA [3] rfl rfl ?_
          refine HA.done (by kernel_rfl) ?_
          repeat' (first | (refine HL.isOp ?_; first | refine HL.ev rfl rfl ?_ | refine HL.evc rfl rfl (by first | omega | simp | (simp; omega)) ?_ | (refine HL.isLoad ?_; first | refine HL.L 0 rfl rfl rfl rfl ?_ | refine HL.L 1 rfl rfl rfl rfl ?_ | refine HL.L 2 rfl rfl rfl rfl ?_ | refine HL.L 3 rfl rfl rfl rfl ?_) | (refine HL.isStore ?_; first | refine HL.S 0 rfl rfl rfl rfl rfl ?_ | refine HL.S 1 rfl rfl rfl rfl rfl ?_ | refine HL.S 2 rfl rfl rfl rfl rfl ?_ | refine HL.S 3 rfl rfl rfl rfl rfl ?_) | refine HL.build rfl rfl ?_ | refine HL.field rfl rfl ?_ | (refine HL.box rfl rfl ?_; intro bk) | (refine HL.alloc rfl rfl ?_; intro bk) | refine HL.skip rfl rfl ?_ | refine HL.skip0 rfl ?_ | apply HL.andB rfl rfl rfl rfl rfl rfl rfl rfl | apply HL.orB rfl rfl rfl rfl rfl rfl rfl rfl) | refine HL.nil ?_ | refine HR.ctl rfl ?_ | refine HR.region ?_ | refine HR.condT rfl ?_ | refine HR.condF rfl ?_ | exact HL.blkEnd rfl rfl Ent.refl | (refine fun (hb : (_ : Bool) = _) => ?_; try simp at hb))
          refine ih (k + 1) (setM e.b v2 (setM e.a v m)) (Tp.upd (Tp.upd adj e.a (adj e.a ++ [e.b])) e.b (adj e.b ++ [e.a])) (setM (Tp.link e) (.bool true) sm) _ _ ⟨hlt, nodup_setM (nodup_setM hnd), by rw [take_succ_get he]; exact hadd, ?_, ?_⟩ (by omega) ⟨rfl, rfl, rfl, rfl, rfl, trivial⟩ ?_
          · intro n hn
            rw [getM_setM, getM_setM] at hn
            by_cases h1 : n = e.b
            · rw [if_pos h1] at hn; cases hn
            · rw [if_neg h1] at hn
              by_cases h2 : n = e.a
              · rw [if_pos h2] at hn; cases hn
              · rw [if_neg h2] at hn; simp [Tp.upd, h1, h2, hnil n hn]
          · intro z; rw [hsmN, take_succ_get he]; congr 2; simp only [List.mem_append, List.mem_singleton, eq_iff_iff]; constructor
            · rintro (h | ⟨e', h4, h5⟩)
              · exact ⟨e, .inr rfl, hok, h.symm⟩
              · exact ⟨e', .inl h4, h5⟩
            · rintro ⟨e', h4 | rfl, h5, h6⟩
              · exact .inr ⟨e', h4, h5, h6⟩
              · exact .inl h6.symm
          · refine Ent.trans (Ent.pick [1, 2, 4, 5] rfl rfl) (Ent.trans (Ent.own0 ?_ ?_) (Ent.giveS (adj' := Tp.upd (Tp.upd adj e.a (adj e.a ++ [e.b])) e.b (adj e.b ++ [e.a])) (nodup_setM hnd) ?_))
            · simp [Tp.upd, hba]
            · simp [Tp.upd, cellsOf_app, cellsOf_one]
            · intro n hn; simp [Tp.upd, hn]
        · refine HL.bslice elemI rfl rfl rfl rfl rfl (by decide) (by decide) ?_
          intro v1
          refine HL.backA [3] rfl rfl ?_
          refine HA.one 6 (by kernel_rfl) rfl ?_
          refine HL.lookV 4 rfl keyI rfl rfl rfl rfl rfl rfl ?_
          refine HL.backA [3] rfl rfl ?_
          refine HA.one 10 (by kernel_rfl) rfl ?_
          refine HL.appR 1 rfl elemI (Rd.own 0 rfl) rfl rfl rfl rfl (allOne_spec rfl) (by omega) (by omega) ?_
          intro v2
          refine HL.backA [3] rfl rfl ?_
          refine HA.one 11 (by kernel_rfl) rfl ?_
          refine HL.updM 4 rfl keyI rfl rfl rfl rfl rfl ?_
          refine HL.backA [3] rfl rfl ?_
          refine HA.done (by kernel_rfl) ?_
          repeat' (first | (refine HL.isOp ?_; first | refine HL.ev rfl rfl ?_ | refine HL.evc rfl rfl (by first | omega | simp | (simp; omega)) ?_ | (refine HL.isLoad ?_; first | refine HL.L 0 rfl rfl rfl rfl ?_ | refine HL.L 1 rfl rfl rfl rfl ?_ | refine HL.L 2 rfl rfl rfl rfl ?_ | refine HL.L 3 rfl rfl rfl rfl ?_) | (refine HL.isStore ?_; first | refine HL.S 0 rfl rfl rfl rfl rfl ?_ | refine HL.S 1 rfl rfl rfl rfl rfl ?_ | refine HL.S 2 rfl rfl rfl rfl rfl ?_ | refine HL.S 3 rfl rfl rfl rfl rfl ?_) | refine HL.build rfl rfl ?_ | refine HL.field rfl rfl ?_ | (refine HL.box rfl rfl ?_; intro bk) | (refine HL.alloc rfl rfl ?_; intro bk) | refine HL.skip rfl rfl ?_ | refine HL.skip0 rfl ?_ | apply HL.andB rfl rfl rfl rfl rfl rfl rfl rfl | apply HL.orB rfl rfl rfl rfl rfl rfl rfl rfl) | refine HL.nil ?_ | refine HR.ctl rfl ?_ | refine HR.region ?_ | refine HR.condT rfl ?_ | refine HR.condF rfl ?_ | exact HL.blkEnd rfl rfl Ent.refl | (refine fun (hb : (_ : Bool) = _) => ?_; try simp at hb))
          refine ih (k + 1) (setM e.b v2 (setM e.a v m)) (Tp.upd (Tp.upd adj e.a (adj e.a ++ [e.b])) e.b (adj e.b ++ [e.a])) (setM (Tp.link e) (.bool true) sm) _ _ ⟨hlt, nodup_setM (nodup_setM hnd), by rw [take_succ_get he]; exact hadd, ?_, ?_⟩ (by omega) ⟨rfl, rfl, rfl, rfl, rfl, trivial⟩ ?_
          · intro n hn
            rw [getM_setM, getM_setM] at hn
            by_cases h1 : n = e.b
            · rw [if_pos h1] at hn; cases hn
            · rw [if_neg h1] at hn
              by_cases h2 : n = e.a
              · rw [if_pos h2] at hn; cases hn
              · rw [if_neg h2] at hn; simp [Tp.upd, h1, h2, hnil n hn]
          · intro z; rw [hsmN, take_succ_get he]; congr 2; simp only [List.mem_append, List.mem_singleton, eq_iff_iff]; constructor
            · rintro (h | ⟨e', h4, h5⟩)
              · exact ⟨e, .inr rfl, hok, h.symm⟩
              · exact ⟨e', .inl h4, h5⟩
            · rintro ⟨e', h4 | rfl, h5, h6⟩
              · exact .inr ⟨e', h4, h5, h6⟩
              · exact .inl h6.symm
          · refine Ent.trans (Ent.pick [1, 2, 4, 5] rfl rfl) (Ent.trans (Ent.own0 ?_ ?_) (Ent.giveS (adj' := Tp.upd (Tp.upd adj e.a (adj e.a ++ [e.b])) e.b (adj e.b ++ [e.a])) (nodup_setM hnd) ?_))
            · simp [Tp.upd, hba]
            · simp [Tp.upd, cellsOf_app, cellsOf_one]
            · intro n hn; simp [Tp.upd, hn]
      · refine HR.ent (H' := [ownC ((getM e.a m).getD (.slice none 0 0)) 3 1 (adj e.a).length (cellsOf iC (adj e.a)), slicesC 3 (delM e.a m) adj, blkC bk [.int .i64 e.a, .int .i64 e.b] 49, mapC encI b m, mapC encE bs (setM (Tp.link e) (.bool true) sm)]) (Ent.trans (Ent.pick [1, 0, 2, 3] rfl rfl) (Ent.takeS hnd (hnil _) rfl)) ?_
        refine HR.regionA [2] rfl rfl hmix ?_
        first | refine HA.ev 0 (by kernel_rfl) rfl rfl rfl ?_ | refine HA.evc 0 (by kernel_rfl) rfl rfl rfl (by first | omega | simp | (simp; omega)) ?_ | refine HA.loadB 0 0 (by kernel_rfl) rfl rfl rfl rfl rfl rfl rfl ?_ | refine HA.loadB 0 1 (by kernel_rfl) rfl rfl rfl rfl rfl rfl rfl ?_ | refine HA.loadB 0 2 (by kernel_rfl) rfl rfl rfl rfl rfl rfl rfl ?_ | refine HA.loadB 0 3 (by kernel_rfl) rfl rfl rfl rfl rfl rfl rfl ?_ | refine HA.loadR 0 0 (by kernel_rfl) rfl rfl rfl rfl rfl rfl rfl rfl ?_ | refine HA.loadR 0 1 (by kernel_rfl) rfl rfl rfl rfl rfl rfl rfl rfl ?_ | refine HA.loadR 0 2 (by kernel_rfl) rfl rfl rfl rfl rfl rfl rfl rfl ?_ | refine HA.loadR 0 3 (by kernel_rfl) rfl rfl rfl rfl rfl rfl rfl rfl ?_ | refine HA.build 0 (by kernel_rfl) rfl rfl rfl ?_
        first | refine HA.ev 1 (by kernel_rfl) rfl rfl rfl ?_ | refine HA.evc 1 (by kernel_rfl) rfl rfl rfl (by first | omega | simp | (simp; omega)) ?_ | refine HA.loadB 1 0 (by kernel_rfl) rfl rfl rfl rfl rfl rfl rfl ?_ | refine HA.loadB 1 1 (by kernel_rfl) rfl rfl rfl rfl rfl rfl rfl ?_ | refine HA.loadB 1 2 (by kernel_rfl) rfl rfl rfl rfl rfl rfl rfl ?_ | refine HA.loadB 1 3 (by kernel_rfl) rfl rfl rfl rfl rfl rfl rfl ?_ | refine HA.loadR 1 0 (by kernel_rfl) rfl rfl rfl rfl rfl rfl rfl rfl ?_ | refine HA.loadR 1 1 (by kernel_rfl) rfl rfl rfl rfl rfl rfl rfl rfl ?_ | refine HA.loadR 1 2 (by kernel_rfl) rfl rfl rfl rfl rfl rfl rfl rfl ?_ | refine HA.loadR 1 3 (by kernel_rfl) rfl rfl rfl rfl rfl rfl rfl rfl ?_ | refine HA.build 1 (by kernel_rfl) rfl rfl rfl ?_
        first | refine HA.ev 2 (by kernel_rfl) rfl rfl rfl ?_ | refine HA.evc 2 (by kernel_rfl) rfl rfl rfl (by first | omega | simp | (simp; omega)) ?_ | refine HA.loadB 2 0 (by kernel_rfl) rfl rfl rfl rfl rfl rfl rfl ?_ | refine HA.loadB 2 1 (by kernel_rfl) rfl rfl rfl rfl rfl rfl rfl ?_ | refine HA.loadB 2 2 (by kernel_rfl) rfl rfl rfl rfl rfl rfl rfl ?_ | refine HA.loadB 2 3 (by kernel_rfl) rfl rfl rfl rfl rfl rfl rfl ?_ | refine HA.loadR 2 0 (by kernel_rfl) rfl rfl rfl rfl rfl rfl rfl rfl ?_ | refine HA.loadR 2 1 (by kernel_rfl) rfl rfl rfl rfl rfl rfl rfl rfl ?_ | refine HA.loadR 2 2 (by kernel_rfl) rfl rfl rfl rfl rfl rfl rfl rfl ?_ | refine HA.loadR 2 3 (by kernel_rfl) rfl rfl rfl rfl rfl rfl rfl rfl ?_ | refine HA.build 2 (by kernel_rfl) rfl rfl rfl ?_
        first | refine HA.ev 3 (by kernel_rfl) rfl rfl rfl ?_ | refine HA.evc 3 (by kernel_rfl) rfl rfl rfl (by first | omega | simp | (simp; omega)) ?_ | refine HA.loadB 3 0 (by kernel_rfl) rfl rfl rfl rfl rfl rfl rfl ?_ | refine HA.loadB 3 1 (by kernel_rfl) rfl rfl rfl rfl rfl rfl rfl ?_ | refine HA.loadB 3 2 (by kernel_rfl) rfl rfl rfl rfl rfl rfl rfl ?_ | refine HA.loadB 3 3 (by kernel_rfl) rfl rfl rfl rfl rfl rfl rfl ?_ | refine HA.loadR 3 0 (by kernel_rfl) rfl rfl rfl rfl rfl rfl rfl rfl ?_ | refine HA.loadR 3 1 (by kernel_rfl) rfl rfl rfl rfl rfl rfl rfl rfl ?_ | refine HA.loadR 3 2 (by kernel_rfl) rfl rfl rfl rfl rfl rfl rfl rfl ?_ | refine HA.loadR 3 3 (by kernel_rfl) rfl rfl rfl rfl rfl rfl rfl rfl ?_ | refine HA.build 3 (by kernel_rfl) rfl rfl rfl ?_
        first | refine HA.ev 4 (by kernel_rfl) rfl rfl rfl ?_ | refine HA.evc 4 (by kernel_rfl) rfl rfl rfl (by first | omega | simp | (simp; omega)) ?_ | refine HA.loadB 4 0 (by kernel_rfl) rfl rfl rfl rfl rfl rfl rfl ?_ | refine HA.loadB 4 1 (by kernel_rfl) rfl rfl rfl rfl rfl rfl rfl ?_ | refine HA.loadB 4 2 (by kernel_rfl) rfl rfl rfl rfl rfl rfl rfl ?_ | refine HA.loadB 4 3 (by kernel_rfl) rfl rfl rfl rfl rfl rfl rfl ?_ | refine HA.loadR 4 0 (by kernel_rfl) rfl rfl rfl rfl rfl rfl rfl rfl ?_ | refine HA.loadR 4 1 (by kernel_rfl) rfl rfl rfl rfl rfl rfl rfl rfl ?_ | refine HA.loadR 4 2 (by kernel_rfl) rfl rfl rfl rfl rfl rfl rfl rfl ?_ | refine HA.loadR 4 3 (by kernel_rfl) rfl rfl rfl rfl rfl rfl rfl rfl ?_ | refine HA.build 4 (by kernel_rfl) rfl rfl rfl ?_
        first | refine HA.ev 5 (by kernel_rfl) rfl rfl rfl ?_ | refine HA.evc 5 (by kernel_rfl) rfl rfl rfl (by first | omega | simp | (simp; omega)) ?_ | refine HA.loadB 5 0 (by kernel_rfl) rfl rfl rfl rfl rfl rfl rfl ?_ | refine HA.loadB 5 1 (by kernel_rfl) rfl rfl rfl rfl rfl rfl rfl ?_ | refine HA.loadB 5 2 (by kernel_rfl) rfl rfl rfl rfl rfl rfl rfl ?_ | refine HA.loadB 5 3 (by kernel_rfl) rfl rfl rfl rfl rfl rfl rfl ?_ | refine HA.loadR 5 0 (by kernel_rfl) rfl rfl rfl rfl rfl rfl rfl rfl ?_ | refine HA.loadR 5 1 (by kernel_rfl) rfl rfl rfl rfl rfl rfl rfl rfl ?_ | refine HA.loadR 5 2 (by kernel_rfl) rfl rfl rfl rfl rfl rfl rfl rfl ?_ | refine HA.loadR 5 3 (by kernel_rfl) rfl rfl rfl rfl rfl rfl rfl rfl ?_ | refine HA.build 5 (by kernel_rfl) rfl rfl rfl ?_
        first | refine HA.ev 7 (by kernel_rfl) rfl rfl rfl ?_ | refine HA.evc 7 (by kernel_rfl) rfl rfl rfl (by first | omega | simp | (simp; omega)) ?_ | refine HA.loadB 7 0 (by kernel_rfl) rfl rfl rfl rfl rfl rfl rfl ?_ | refine HA.loadB 7 1 (by kernel_rfl) rfl rfl rfl rfl rfl rfl rfl ?_ | refine HA.loadB 7 2 (by kernel_rfl) rfl rfl rfl rfl rfl rfl rfl ?_ | refine HA.loadB 7 3 (by kernel_rfl) rfl rfl rfl rfl rfl rfl rfl ?_ | refine HA.loadR 7 0 (by kernel_rfl) rfl rfl rfl rfl rfl rfl rfl rfl ?_ | refine HA.loadR 7 1 (by kernel_rfl) rfl rfl rfl rfl rfl rfl rfl rfl ?_ | refine HA.loadR 7 2 (by kernel_rfl) rfl rfl rfl rfl rfl rfl rfl rfl ?_ | refine HA.loadR 7 3 (by kernel_rfl) rfl rfl rfl rfl rfl rfl rfl rfl ?_ | refine HA.build 7 (by kernel_rfl) rfl rfl rfl ?_
        first | refine HA.ev 8 (by kernel_rfl) rfl rfl rfl ?_ | refine HA.evc 8 (by kernel_rfl) rfl rfl rfl (by first | omega | simp | (simp; omega)) ?_ | refine HA.loadB 8 0 (by kernel_rfl) rfl rfl rfl rfl rfl rfl rfl ?_ | refine HA.loadB 8 1 (by kernel_rfl) rfl rfl rfl rfl rfl rfl rfl ?_ | refine HA.loadB 8 2 (by kernel_rfl) rfl rfl rfl rfl rfl rfl rfl ?_ | refine HA.loadB 8 3 (by kernel_rfl) rfl rfl rfl rfl rfl rfl rfl ?_ | refine HA.loadR 8 0 (by kernel_rfl) rfl rfl rfl rfl rfl rfl rfl rfl ?_ | refine HA.loadR 8 1 (by kernel_rfl) rfl rfl rfl rfl rfl rfl rfl rfl ?_ | refine HA.loadR 8 2 (by kernel_rfl) rfl rfl rfl rfl rfl rfl rfl rfl ?_ | refine HA.loadR 8 3 (by kernel_rfl) rfl rfl rfl rfl rfl rfl rfl rfl ?_ | refine HA.build 8 (by kernel_rfl) rfl rfl rfl ?_
        refine HA.two 6 9 (by kernel_rfl) rfl rfl ?_ ?_
        · refine HL.lookV 3 rfl keyI rfl rfl rfl rfl rfl rfl ?_
          refine HL.backA [2] rfl rfl ?_
          refine HA.one 9 (by kernel_rfl) rfl ?_
          refine HL.bslice elemI rfl rfl rfl rfl rfl (by decide) (by decide) ?_
          intro v1
          refine HL.backA [3] rfl rfl ?_
          refine HA.one 10 (by kernel_rfl) rfl ?_
          refine HL.appR 1 rfl elemI (Rd.own 0 rfl) rfl rfl rfl rfl (allOne_spec rfl) (by omega) (by omega) ?_
          intro v2
          refine HL.backA [3] rfl rfl ?_
          refine HA.one 11 (by kernel_rfl) rfl ?_
          refine HL.updM 4 rfl keyI rfl rfl rfl rfl rfl ?_
          refine HL.backA [3] rfl rfl ?_
          refine HA.done (by kernel_rfl) ?_
          refine hj v2 _ _ trivial ⟨rfl, rfl, rfl, rfl, rfl, rfl, trivial⟩ (Ent.trans (Ent.pick [1, 2, 3, 4, 5] rfl rfl) (Ent.trans (Ent.own0 ?_ ?_) (Ent.giveS (adj' := Tp.upd adj e.a (adj e.a ++ [e.b])) hnd ?_)))
          · simp [Tp.upd]
          · simp [Tp.upd, cellsOf_app, cellsOf_one]
          · intro n hn; simp [Tp.upd, hn]
        · refine HL.bslice elemI rfl rfl rfl rfl rfl (by decide) (by decide) ?_
          intro v1
          refine HL.backA [3] rfl rfl ?_
          refine HA.one 6 (by kernel_rfl) rfl ?_
          refine HL.lookV 4 rfl keyI rfl rfl rfl rfl rfl rfl ?_
          refine HL.backA [3] rfl rfl ?_
          refine HA.one 10 (by kernel_rfl) rfl ?_
          refine HL.appR 1 rfl elemI (Rd.own 0 rfl) rfl rfl rfl rfl (allOne_spec rfl) (by omega) (by omega) ?_
          intro v2
          refine HL.backA [3] rfl rfl ?_
          refine HA.one 11 (by kernel_rfl) rfl ?_
          refine HL.updM 4 rfl keyI rfl rfl rfl rfl rfl ?_
          refine HL.backA [3] rfl rfl ?_
          refine HA.done (by kernel_rfl) ?_
          refine hj v2 _ _ trivial ⟨rfl, rfl, rfl, rfl, rfl, rfl, trivial⟩ (Ent.trans (Ent.pick [1, 2, 3, 4, 5] rfl rfl) (Ent.trans (Ent.own0 ?_ ?_) (Ent.giveS (adj' := Tp.upd adj e.a (adj e.a ++ [e.b])) hnd ?_)))
          · simp [Tp.upd]
          · simp [Tp.upd, cellsOf_app, cellsOf_one]
          · intro n hn; simp [Tp.upd, hn]
    · repeat' (first | (refine HL.isOp ?_; first | refine HL.ev rfl rfl ?_ | refine HL.evc rfl rfl (by first | omega | simp | (simp; omega)) ?_ | (refine HL.isLoad ?_; first | refine HL.L 0 rfl rfl rfl rfl ?_ | refine HL.L 1 rfl rfl rfl rfl ?_ | refine HL.L 2 rfl rfl rfl rfl ?_ | refine HL.L 3 rfl rfl rfl rfl ?_) | (refine HL.isStore ?_; first | refine HL.S 0 rfl rfl rfl rfl rfl ?_ | refine HL.S 1 rfl rfl rfl rfl rfl ?_ | refine HL.S 2 rfl rfl rfl rfl rfl ?_ | refine HL.S 3 rfl rfl rfl rfl rfl ?_) | refine HL.build rfl rfl ?_ | refine HL.field rfl rfl ?_ | (refine HL.box rfl rfl ?_; intro bk) | (refine HL.alloc rfl rfl ?_; intro bk) | refine HL.skip rfl rfl ?_ | refine HL.skip0 rfl ?_ | apply HL.andB rfl rfl rfl rfl rfl rfl rfl rfl | apply HL.orB rfl rfl rfl rfl rfl rfl rfl rfl) | refine HL.nil ?_ | refine HR.ctl rfl ?_ | refine HR.region ?_ | refine HR.condT rfl ?_ | refine HR.condF rfl ?_ | exact HL.blkEnd rfl rfl Ent.refl | (refine fun (hb : (_ : Bool) = _) => ?_; try simp at hb))
      have hst : Tp.okE e = false ∨ ∃ e' ∈ l.take k, Tp.okE e' = true ∧ Tp.link e' = Tp.link e := by
        rcases Bool.and_eq_false_iff.1 h3 with h | h
        · exact .inl h
        · right; simpa using h
      refine ih (k + 1) m adj sm _ _ ⟨hlt, hnd, by rw [take_succ_get he]; exact hadj.skip hst, hnil, ?_⟩ (by omega) ⟨rfl, rfl, rfl, rfl, rfl, trivial⟩ (Ent.pick [1, 2, 3] rfl rfl)
      intro z
      rw [hsm, take_succ_get he]
      congr 2
      simp only [List.mem_append, List.mem_singleton, eq_iff_iff]
      constructor
      · rintro ⟨e', h4, h5⟩; exact ⟨e', .inl h4, h5⟩
      · rintro ⟨e', h4 | rfl, h5, h6⟩
        · exact ⟨e', h4, h5, h6⟩
        · rcases hst with h | ⟨e2, g1, g2, g3⟩
          · rw [h] at h5; cases h5
          · exact ⟨e2, g1, g2, by rw [g3, h6]⟩
  · have hke : k = l.length := by have := of_decide_eq_false h2; omega
    subst hke
    rw [List.take_length] at hadj
    repeat' (first | (refine HL.isOp ?_; first | refine HL.ev rfl rfl ?_ | refine HL.evc rfl rfl (by first | omega | simp | (simp; omega)) ?_ | refine HL.rangeM 1 rfl rfl rfl rfl ?_ | (refine HL.isLoad ?_; first | refine HL.L 0 rfl rfl rfl rfl ?_ | refine HL.L 1 rfl rfl rfl rfl ?_ | refine HL.L 2 rfl rfl rfl rfl ?_ | refine HL.L 3 rfl rfl rfl rfl ?_) | (refine HL.isStore ?_; first | refine HL.S 0 rfl rfl rfl rfl rfl ?_ | refine HL.S 1 rfl rfl rfl rfl rfl ?_ | refine HL.S 2 rfl rfl rfl rfl rfl ?_ | refine HL.S 3 rfl rfl rfl rfl rfl ?_) | refine HL.build rfl rfl ?_ | refine HL.field rfl rfl ?_ | (refine HL.box rfl rfl ?_; intro bk) | (refine HL.alloc rfl rfl ?_; intro bk) | refine HL.skip rfl rfl ?_ | refine HL.skip0 rfl ?_ | apply HL.andB rfl rfl rfl rfl rfl rfl rfl rfl | apply HL.orB rfl rfl rfl rfl rfl rfl rfl rfl) | refine HL.nil ?_ | refine HR.ctl rfl ?_ | refine HR.region ?_ | refine HR.condT rfl ?_ | refine HR.condF rfl ?_ | exact HL.blkEnd rfl rfl Ent.refl | (refine fun (hb : (_ : Bool) = _) => ?_; try simp at hb))
    intro r
    repeat' (first | (refine HL.isOp ?_; first | refine HL.ev rfl rfl ?_ | refine HL.evc rfl rfl (by first | omega | simp | (simp; omega)) ?_ | (refine HL.isLoad ?_; first | refine HL.L 0 rfl rfl rfl rfl ?_ | refine HL.L 1 rfl rfl rfl rfl ?_ | refine HL.L 2 rfl rfl rfl rfl ?_ | refine HL.L 3 rfl rfl rfl rfl ?_) | (refine HL.isStore ?_; first | refine HL.S 0 rfl rfl rfl rfl rfl ?_ | refine HL.S 1 rfl rfl rfl rfl rfl ?_ | refine HL.S 2 rfl rfl rfl rfl rfl ?_ | refine HL.S 3 rfl rfl rfl rfl rfl ?_) | refine HL.build rfl rfl ?_ | refine HL.field rfl rfl ?_ | (refine HL.box rfl rfl ?_; intro bk) | (refine HL.alloc rfl rfl ?_; intro bk) | refine HL.skip rfl rfl ?_ | refine HL.skip0 rfl ?_ | apply HL.andB rfl rfl rfl rfl rfl rfl rfl rfl | apply HL.orB rfl rfl rfl rfl rfl rfl rfl rfl) | refine HL.nil ?_ | refine HR.ctl rfl ?_ | refine HR.region ?_ | refine HR.condT rfl ?_ | refine HR.condF rfl ?_ | exact HL.blkEnd rfl rfl Ent.refl | (refine fun (hb : (_ : Bool) = _) => ?_; try simp at hb))
    have hsame : ∀ n, (if n ∈ ([] : List Int) then Tp.nbrs l n else adj n) = adj n := fun n => by simp
    refine HR.loop (ι := List Int) (fun seen => seen.Nodup ∧ seen.Subset (m.map (·.1))) (fun seen => [(3, .map (some b)), (53, .pointer (some ⟨r, 0, none⟩))]) (fun seen => [slicesC 3 m (fun n => if n ∈ seen then Tp.nbrs l n else adj n), iterC encI r b m seen]) (fun seen => m.length - seen.length) [] ⟨List.nodup_nil, by intro x hx; cases hx⟩ ⟨rfl, rfl, trivial⟩ (Ent.trans (Ent.pick [0, 1] rfl rfl) (Ent.asS fun n => (hsame n).symm)) ?_
    rintro seen ⟨hsn, hss⟩ ih2
    repeat' (first | (refine HL.isOp ?_; first | refine HL.ev rfl rfl ?_ | refine HL.evc rfl rfl (by first | omega | simp | (simp; omega)) ?_ | (refine HL.isLoad ?_; first | refine HL.L 0 rfl rfl rfl rfl ?_ | refine HL.L 1 rfl rfl rfl rfl ?_ | refine HL.L 2 rfl rfl rfl rfl ?_ | refine HL.L 3 rfl rfl rfl rfl ?_) | (refine HL.isStore ?_; first | refine HL.S 0 rfl rfl rfl rfl rfl ?_ | refine HL.S 1 rfl rfl rfl rfl rfl ?_ | refine HL.S 2 rfl rfl rfl rfl rfl ?_ | refine HL.S 3 rfl rfl rfl rfl rfl ?_) | refine HL.build rfl rfl ?_ | refine HL.field rfl rfl ?_ | (refine HL.box rfl rfl ?_; intro bk) | (refine HL.alloc rfl rfl ?_; intro bk) | refine HL.skip rfl rfl ?_ | refine HL.skip0 rfl ?_ | apply HL.andB rfl rfl rfl rfl rfl rfl rfl rfl | apply HL.orB rfl rfl rfl rfl rfl rfl rfl rfl) | refine HL.nil ?_ | refine HR.ctl rfl ?_ | refine HR.region ?_ | refine HR.condT rfl ?_ | refine HR.condF rfl ?_ | exact HL.blkEnd rfl rfl Ent.refl | (refine fun (hb : (_ : Bool) = _) => ?_; try simp at hb))
    refine HL.nextM 1 rfl (fun a b h => by simpa using h) rfl rfl (fun hend => ?_) (fun a u hau hns => ?_)
    · repeat' (first | (refine HL.isOp ?_; first | refine HL.ev rfl rfl ?_ | refine HL.evc rfl rfl (by first | omega | simp | (simp; omega)) ?_ | (refine HL.isLoad ?_; first | refine HL.L 0 rfl rfl rfl rfl ?_ | refine HL.L 1 rfl rfl rfl rfl ?_ | refine HL.L 2 rfl rfl rfl rfl ?_ | refine HL.L 3 rfl rfl rfl rfl ?_) | (refine HL.isStore ?_; first | refine HL.S 0 rfl rfl rfl rfl rfl ?_ | refine HL.S 1 rfl rfl rfl rfl rfl ?_ | refine HL.S 2 rfl rfl rfl rfl rfl ?_ | refine HL.S 3 rfl rfl rfl rfl rfl ?_) | refine HL.build rfl rfl ?_ | refine HL.field rfl rfl ?_ | (refine HL.box rfl rfl ?_; intro bk) | (refine HL.alloc rfl rfl ?_; intro bk) | refine HL.skip rfl rfl ?_ | refine HL.skip0 rfl ?_ | apply HL.andB rfl rfl rfl rfl rfl rfl rfl rfl | apply HL.orB rfl rfl rfl rfl rfl rfl rfl rfl) | refine HL.nil ?_ | refine HR.ctl rfl ?_ | refine HR.region ?_ | refine HR.condT rfl ?_ | refine HR.condF rfl ?_ | exact HL.blkEnd rfl rfl Ent.refl | (refine fun (hb : (_ : Bool) = _) => ?_; try simp at hb))
      refine HR.iterEnd 1 rfl ?_
      have hfin : ∀ n, (if n ∈ seen then Tp.nbrs l n else adj n) = Tp.nbrs l n := by
        intro n
        by_cases hn : n ∈ seen
        · rw [if_pos hn]
        · rw [if_neg hn]
          have h0 : adj n = [] := by
            refine hnil n (getM_none.2 fun hm => ?_)
            obtain ⟨p, hp, rfl⟩ := List.mem_map.1 hm
            exact hn (hend p hp)
          rw [h0, ← hadj.sorted n, h0, sortZ_nil]
      refine HR.ent (Ent.asS hfin) ?_
      refine HR.ret Try.func39 rfl [_] (fun _ _ => ⟨rfl, trivial⟩) ?_
      refine fun w' hw => ⟨(b, m), rfl, fun n hn => ?_, hw⟩
      rw [← hadj.sorted n, hnil n hn, sortZ_nil]
    · have hg := getM_of_mem hnd hau
      have hla := hadj.len a
      repeat' (first | (refine HL.isOp ?_; first | refine HL.ev rfl rfl ?_ | refine HL.evc rfl rfl (by first | omega | simp | (simp; omega)) ?_ | refine HL.entryM 1 rfl (fun a b h => by simpa using h) hau rfl rfl ?_ | (refine HL.isLoad ?_; first | refine HL.L 0 rfl rfl rfl rfl ?_ | refine HL.L 1 rfl rfl rfl rfl ?_ | refine HL.L 2 rfl rfl rfl rfl ?_ | refine HL.L 3 rfl rfl rfl rfl ?_) | (refine HL.isStore ?_; first | refine HL.S 0 rfl rfl rfl rfl rfl ?_ | refine HL.S 1 rfl rfl rfl rfl rfl ?_ | refine HL.S 2 rfl rfl rfl rfl rfl ?_ | refine HL.S 3 rfl rfl rfl rfl rfl ?_) | refine HL.build rfl rfl ?_ | refine HL.field rfl rfl ?_ | (refine HL.box rfl rfl ?_; intro bk) | (refine HL.alloc rfl rfl ?_; intro bk) | refine HL.skip rfl rfl ?_ | refine HL.skip0 rfl ?_ | apply HL.andB rfl rfl rfl rfl rfl rfl rfl rfl | apply HL.orB rfl rfl rfl rfl rfl rfl rfl rfl) | refine HL.nil ?_ | refine HR.ctl rfl ?_ | refine HR.region ?_ | refine HR.condT rfl ?_ | refine HR.condF rfl ?_ | exact HL.blkEnd rfl rfl Ent.refl | (refine fun (hb : (_ : Bool) = _) => ?_; try simp at hb))
      refine HL.ent (Ent.takeS (v := u) hnd (fun h => by rw [hg] at h; cases h) (by simp [hg])) ?_
      rw [if_neg hns]
      refine HL.callW (r := fun _ : Unit => .tuple #[]) (Q := fun _ => True) (G := fun _ => [ownC u 3 1 (adj a).length (cellsOf iC (sortZ (adj a)))]) fn41 rfl rfl rfl (fun w hw => sortI_any u _ _ w (by have := hw.nth (i := 0) rfl; unfold ownC at this; exact this) (by omega)) ?_
      intro _ _
      repeat' (first | (refine HL.isOp ?_; first | refine HL.ev rfl rfl ?_ | refine HL.evc rfl rfl (by first | omega | simp | (simp; omega)) ?_ | (refine HL.isLoad ?_; first | refine HL.L 0 rfl rfl rfl rfl ?_ | refine HL.L 1 rfl rfl rfl rfl ?_ | refine HL.L 2 rfl rfl rfl rfl ?_ | refine HL.L 3 rfl rfl rfl rfl ?_) | (refine HL.isStore ?_; first | refine HL.S 0 rfl rfl rfl rfl rfl ?_ | refine HL.S 1 rfl rfl rfl rfl rfl ?_ | refine HL.S 2 rfl rfl rfl rfl rfl ?_ | refine HL.S 3 rfl rfl rfl rfl rfl ?_) | refine HL.build rfl rfl ?_ | refine HL.field rfl rfl ?_ | (refine HL.box rfl rfl ?_; intro bk) | (refine HL.alloc rfl rfl ?_; intro bk) | refine HL.skip rfl rfl ?_ | refine HL.skip0 rfl ?_ | apply HL.andB rfl rfl rfl rfl rfl rfl rfl rfl | apply HL.orB rfl rfl rfl rfl rfl rfl rfl rfl) | refine HL.nil ?_ | refine HR.ctl rfl ?_ | refine HR.region ?_ | refine HR.condT rfl ?_ | refine HR.condF rfl ?_ | exact HL.blkEnd rfl rfl Ent.refl | (refine fun (hb : (_ : Bool) = _) => ?_; try simp at hb))
      have hlen : (Tp.nbrs l a).length = (adj a).length := by rw [← hadj.sorted a, sortZ_len]
      have hin : (a :: seen).Nodup ∧ (a :: seen).Subset (m.map (·.1)) := ⟨List.nodup_cons.2 ⟨hns, hsn⟩, fun x hx => by rcases List.mem_cons.1 hx with rfl | hx; exact List.mem_map.2 ⟨_, hau, rfl⟩; exact hss hx⟩
      have hlt : (a :: seen).length ≤ m.length := by
        have := List.Nodup.length_le_of_subset hin.1 hin.2
        simpa using this
      refine ih2 (a :: seen) _ _ hin (by simp at hlt ⊢; omega) ⟨rfl, rfl, trivial⟩ (Ent.trans (Ent.own0 (n' := (if a ∈ a :: seen then Tp.nbrs l a else adj a).length) (xs' := cellsOf iC (if a ∈ a :: seen then Tp.nbrs l a else adj a)) ?_ ?_) ?_)
      · simp [hlen]
      · simp [hadj.sorted a]
      · have := Ent.giveS (B := base w) (H := [iterC encI r b m (a :: seen)]) (e := 3) (v := u) (a := a) (adj := fun n => if n ∈ seen then Tp.nbrs l n else adj n) (adj' := fun n => if n ∈ a :: seen then Tp.nbrs l n else adj n) hnd (fun n hn => by simp [hn])
        rw [setM_same hg] at this
        exact this
end Go.Proofs.Ytiepojpebndgoaa
