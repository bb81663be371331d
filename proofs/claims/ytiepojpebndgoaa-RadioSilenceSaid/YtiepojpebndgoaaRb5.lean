/- A part of the proof: contracts of the program's functions. Conditions: none. -/
import Derived.Test.YtiepojpebndgoaaRb4
import Derived.Test.YtiepojpebndgoaaGxDraw
namespace Go.Proofs.Ytiepojpebndgoaa
open Go.GX Go.RowKit
attribute [local irreducible] Calls Run RunL RunQ RunD HR HL HD blkC ownC mapC Rd slicesC iterC RdM
set_option linter.unusedVariables false
set_option linter.unusedSectionVars false
set_option linter.unusedSimpArgs false
set_option maxRecDepth 100000

open Ra
theorem compactI_any (v : Value) (n : Nat) (zs : List Int) (w : World) (hv : Vw w v 3 1 n (cellsOf iC zs)) (hn : n ≤ 1000000) :
    Calls Try.prog 42 #[v] w fun e w' => ∃ x : Value, e = .returned x ∧ True ∧ Sat ⟨w, feet [ownC v 3 1 n (cellsOf iC zs)]⟩ [ownC x 3 1 (Lib.compact zs).length (cellsOf iC (Lib.compact zs))] w' := by
  have hl : zs.length = n := by have := hv.1; rw [cellsOf_len iC_len] at this; omega
  have stay : n = 0 → (∃ p cap, v = .slice p 0 cap) → Calls Try.prog 42 #[v] w fun e w' => ∃ x : Value, e = .returned x ∧ True ∧ Sat ⟨w, feet [ownC v 3 1 n (cellsOf iC zs)]⟩ [ownC x 3 1 (Lib.compact zs).length (cellsOf iC (Lib.compact zs))] w' := by
    intro h0 hp
    obtain ⟨p, cap, rfl⟩ := hp
    have hz : zs = [] := List.eq_nil_of_length_eq_zero (by omega)
    subst hz
    subst h0
    refine (Try.slices_Compact_int_empty p cap w).mono ?_
    rintro e w' ⟨rfl, rfl⟩
    exact ⟨_, rfl, trivial, Sat.sameOwn hv⟩
  rcases hv.2 with ⟨rfl, h0⟩ | ⟨g, off, cap, cur, rfl, _, hcap, _⟩
  · exact stay h0 ⟨none, 0, rfl⟩
  · by_cases h0 : n = 0
    · exact stay h0 ⟨_, cap, by rw [h0]⟩
    have hv' : Vw w (.slice (some ⟨g, off, none⟩) n cap) 3 1 n (zs.map (Value.int .i64)) := by rw [← cellsOf_one1]; exact hv
    obtain ⟨h1', h2, h3⟩ := hv'.holds
    have hcl : (Lib.compact zs).length ≤ n := by rw [← hl]; exact Lib.compact_length_le zs
    have := Try.slices_Compact_int g off cap zs w h3 (by omega) (by omega)
    rw [hl] at this
    refine this.mono ?_
    rintro e w' ⟨rfl, q, rfl⟩
    exact ⟨_, rfl, trivial, Sat.cutOwn (Sat.putOwn0 (enc := Value.int .i64) (q := q) (zs := zs) (ys := Lib.compact zs ++ List.replicate (n - (Lib.compact zs).length) 0) hv (by simp; omega)) hcl (by simp)⟩

theorem jam_any (a : Air) (l : List Int) (ve vo vn vl : Value) (w : World) (hv : OkA w a ve vo vn) (hl : Sl w vl (cellsOf iC l) l.length) (hll : l.length ≤ 40) :
    Calls Try.prog 23 #[airV ve vo vn, vl] w fun e w' => ∃ x : Value × Value × Value, e = .returned (airV x.1 x.2.1 x.2.2) ∧ True ∧ Sat (base w) [ownC x.1 49 2 (san a).e.length (cellsOf edC (san a).e), ownC x.2.1 3 1 (san a).o.length (cellsOf iC (san a).o), ownC x.2.2 3 1 ((jamAll (san a) l).take 24).length (cellsOf iC ((jamAll (san a) l).take 24))] w' := by
  obtain ⟨ve', vo', vn', hs, hval⟩ := valid_ex hv
  generalize san a = A at hs ⊢
  obtain ⟨e1, e2, rfl, _⟩ := hs.e.2
  obtain ⟨o1, o2, rfl, _⟩ := hs.o.2
  obtain ⟨n1, n2, rfl, _⟩ := hs.n.2
  obtain ⟨l1, l2, rfl, _⟩ := hl.2
  have le := hs.le
  have lo := hs.lo
  have ln := hs.ln
  have hjl : (A.n ++ l).length ≤ 80 := by rw [List.length_append]; omega
  refine calls_hr Try.func23 rfl (Nat.le_of_ble_eq_true rfl) ?_
  refine HR.sub (σ' := [(0, airV ve vo vn), (1, .slice l1 l.length l2)]) ⟨rfl, rfl, trivial⟩ ?_
  repeat' (first | (refine HL.isOp ?_; first | refine HL.ev rfl rfl ?_ | refine HL.evc rfl rfl (by first | omega | simp | (simp; omega)) ?_ | refine HL.callB fn34 rfl rfl (fun w hw => hval w (hv.at hw)) ?_ | refine HL.bslice elemL rfl rfl rfl rfl rfl (by decide) (by decide) ?_ | (refine HL.isLoad ?_; first | refine HL.L 0 rfl rfl rfl rfl ?_ | refine HL.L 1 rfl rfl rfl rfl ?_ | refine HL.L 2 rfl rfl rfl rfl ?_ | refine HL.L 3 rfl rfl rfl rfl ?_ | refine HL.L 4 rfl rfl rfl rfl ?_ | refine HL.L 5 rfl rfl rfl rfl ?_) | (refine HL.isStore ?_; first | refine HL.S 0 rfl rfl rfl rfl rfl ?_ | refine HL.S 1 rfl rfl rfl rfl rfl ?_ | refine HL.S 2 rfl rfl rfl rfl rfl ?_ | refine HL.S 3 rfl rfl rfl rfl rfl ?_ | refine HL.S 4 rfl rfl rfl rfl rfl ?_ | refine HL.S 5 rfl rfl rfl rfl rfl ?_) | refine HL.build rfl rfl ?_ | refine HL.field rfl rfl ?_ | (refine HL.box rfl rfl ?_; intro bk) | (refine HL.alloc rfl rfl ?_; intro bk) | refine HL.skip rfl rfl ?_ | refine HL.skip0 rfl ?_) | refine HL.nil ?_ | refine HR.ctl rfl ?_ | refine HR.region ?_ | refine HR.condT rfl ?_ | refine HR.condF rfl ?_)
  intro v1
  refine HL.callO fn31 rfl rfl (fun w hw => joined2 ((Rd.own 0 rfl).at hw) ((Rd.arg hs.n).at hw) ((Rd.arg hl).at hw) hs.ln hll) ?_
  intro v2
  repeat' (first | (refine HL.isOp ?_; first | refine HL.ev rfl rfl ?_ | refine HL.evc rfl rfl (by first | omega | simp | (simp; omega)) ?_ | refine HL.lenR (Rd.own 0 rfl) rfl rfl rfl ?_ | (refine HL.isLoad ?_; first | refine HL.L 0 rfl rfl rfl rfl ?_ | refine HL.L 1 rfl rfl rfl rfl ?_ | refine HL.L 2 rfl rfl rfl rfl ?_ | refine HL.L 3 rfl rfl rfl rfl ?_ | refine HL.L 4 rfl rfl rfl rfl ?_ | refine HL.L 5 rfl rfl rfl rfl ?_) | (refine HL.isStore ?_; first | refine HL.S 0 rfl rfl rfl rfl rfl ?_ | refine HL.S 1 rfl rfl rfl rfl rfl ?_ | refine HL.S 2 rfl rfl rfl rfl rfl ?_ | refine HL.S 3 rfl rfl rfl rfl rfl ?_ | refine HL.S 4 rfl rfl rfl rfl rfl ?_ | refine HL.S 5 rfl rfl rfl rfl rfl ?_) | refine HL.build rfl rfl ?_ | refine HL.field rfl rfl ?_ | (refine HL.box rfl rfl ?_; intro bk) | (refine HL.alloc rfl rfl ?_; intro bk) | refine HL.skip rfl rfl ?_ | refine HL.skip0 rfl ?_) | refine HL.nil ?_ | refine HR.ctl rfl ?_ | refine HR.region ?_ | refine HR.condT rfl ?_ | refine HR.condF rfl ?_)
  rename_i bA
  refine HR.nilC 3 1 ?_
  refine HR.loop2 (α := Nat) (β := Value) (fun k v => k ≤ (A.n ++ l).length) (fun k v => [(2, .pointer (some ⟨bA, 0, none⟩)), (4, .pointer (some ⟨bk, 0, none⟩)), (5, v), (14, v2), (15, .int .i64 ((A.n ++ l).length : Int)), (16, .int .i64 (k : Int))])
    (fun k v => [ownC v 3 1 (((A.n ++ l).take k).filter Tp.okN).length (cellsOf iC (((A.n ++ l).take k).filter Tp.okN)), ownC v2 3 1 (A.n ++ l).length (cellsOf iC (A.n ++ l)), blkC bk [.slice none 0 0, .slice none 0 0, .slice none 0 0] 25, blkC bA [.slice e1 A.e.length e2, .slice o1 A.o.length o2, .slice n1 A.n.length n2] 25])
    (fun k v => (A.n ++ l).length - k) 0 (.slice none 0 0) (Nat.zero_le _) ⟨rfl, rfl, rfl, rfl, rfl, rfl, trivial⟩ (Ent.pick [0, 1, 3, 4] rfl rfl) ?_
  intro k v hk ih
  repeat' (first | (refine HL.isOp ?_; first | refine HL.ev rfl rfl ?_ | refine HL.evc rfl rfl (by first | omega | simp | (simp; omega)) ?_ | (refine HL.isLoad ?_; first | refine HL.L 0 rfl rfl rfl rfl ?_ | refine HL.L 1 rfl rfl rfl rfl ?_ | refine HL.L 2 rfl rfl rfl rfl ?_ | refine HL.L 3 rfl rfl rfl rfl ?_ | refine HL.L 4 rfl rfl rfl rfl ?_ | refine HL.L 5 rfl rfl rfl rfl ?_) | (refine HL.isStore ?_; first | refine HL.S 0 rfl rfl rfl rfl rfl ?_ | refine HL.S 1 rfl rfl rfl rfl rfl ?_ | refine HL.S 2 rfl rfl rfl rfl rfl ?_ | refine HL.S 3 rfl rfl rfl rfl rfl ?_ | refine HL.S 4 rfl rfl rfl rfl rfl ?_ | refine HL.S 5 rfl rfl rfl rfl rfl ?_) | refine HL.build rfl rfl ?_ | refine HL.field rfl rfl ?_ | (refine HL.box rfl rfl ?_; intro bk) | (refine HL.alloc rfl rfl ?_; intro bk) | refine HL.skip rfl rfl ?_ | refine HL.skip0 rfl ?_ | apply HL.andB rfl rfl rfl rfl rfl rfl rfl rfl | apply HL.orB rfl rfl rfl rfl rfl rfl rfl rfl) | refine HL.nil ?_ | refine HR.ctl rfl ?_ | refine HR.region ?_ | refine HR.condT rfl ?_ | refine HR.condF rfl ?_ | exact HL.blkEnd rfl rfl Ent.refl | (refine fun (hb : (_ : Bool) = _) => ?_; try simp at hb))
  refine HR.cond rfl (fun h2 => ?_) (fun h2 => ?_)
  · have hlt : k < (A.n ++ l).length := by have := of_decide_eq_true h2; omega
    obtain ⟨x, hx⟩ := getSome hlt
    have hfl : (((A.n ++ l).take k).filter Tp.okN).length ≤ k := Nat.le_trans (List.length_filter_le _ _) (by simp only [List.length_take]; omega)
    repeat' (first | (refine HL.isOp ?_; first | refine HL.ev rfl rfl ?_ | refine HL.evc rfl rfl (by first | omega | simp | (simp; omega)) ?_ | refine HL.idxR (Rd.own 1 rfl) elemI k rfl rfl rfl rfl hlt ?_ | refine HL.loadI (Rd.own 1 rfl) rfl rfl rfl rfl (cellsOf_get1 hx) ?_ | (refine HL.isLoad ?_; first | refine HL.L 0 rfl rfl rfl rfl ?_ | refine HL.L 1 rfl rfl rfl rfl ?_ | refine HL.L 2 rfl rfl rfl rfl ?_ | refine HL.L 3 rfl rfl rfl rfl ?_ | refine HL.L 4 rfl rfl rfl rfl ?_ | refine HL.L 5 rfl rfl rfl rfl ?_) | (refine HL.isStore ?_; first | refine HL.S 0 rfl rfl rfl rfl rfl ?_ | refine HL.S 1 rfl rfl rfl rfl rfl ?_ | refine HL.S 2 rfl rfl rfl rfl rfl ?_ | refine HL.S 3 rfl rfl rfl rfl rfl ?_ | refine HL.S 4 rfl rfl rfl rfl rfl ?_ | refine HL.S 5 rfl rfl rfl rfl rfl ?_) | refine HL.build rfl rfl ?_ | refine HL.field rfl rfl ?_ | (refine HL.box rfl rfl ?_; intro bk) | (refine HL.alloc rfl rfl ?_; intro bk) | refine HL.skip rfl rfl ?_ | refine HL.skip0 rfl ?_ | apply HL.andB rfl rfl rfl rfl rfl rfl rfl rfl | apply HL.orB rfl rfl rfl rfl rfl rfl rfl rfl) | refine HL.nil ?_ | refine HR.ctl rfl ?_ | refine HR.region ?_ | refine HR.condT rfl ?_ | refine HR.condF rfl ?_ | exact HL.blkEnd rfl rfl Ent.refl | (refine fun (hb : (_ : Bool) = _) => ?_; try simp at hb))
    refine HR.cond rfl (fun h3 => ?_) (fun h3 => ?_)
    · have h3 : Tp.okN x = true := h3
      repeat' (first | (refine HL.isOp ?_; first | refine HL.ev rfl rfl ?_ | refine HL.evc rfl rfl (by first | omega | simp | (simp; omega)) ?_ | refine HL.bslice elemI rfl rfl rfl rfl rfl (by decide) (by decide) ?_ | (refine HL.isLoad ?_; first | refine HL.L 0 rfl rfl rfl rfl ?_ | refine HL.L 1 rfl rfl rfl rfl ?_ | refine HL.L 2 rfl rfl rfl rfl ?_ | refine HL.L 3 rfl rfl rfl rfl ?_ | refine HL.L 4 rfl rfl rfl rfl ?_ | refine HL.L 5 rfl rfl rfl rfl ?_) | (refine HL.isStore ?_; first | refine HL.S 0 rfl rfl rfl rfl rfl ?_ | refine HL.S 1 rfl rfl rfl rfl rfl ?_ | refine HL.S 2 rfl rfl rfl rfl rfl ?_ | refine HL.S 3 rfl rfl rfl rfl rfl ?_ | refine HL.S 4 rfl rfl rfl rfl rfl ?_ | refine HL.S 5 rfl rfl rfl rfl rfl ?_) | refine HL.build rfl rfl ?_ | refine HL.field rfl rfl ?_ | (refine HL.box rfl rfl ?_; intro bk) | (refine HL.alloc rfl rfl ?_; intro bk) | refine HL.skip rfl rfl ?_ | refine HL.skip0 rfl ?_ | apply HL.andB rfl rfl rfl rfl rfl rfl rfl rfl | apply HL.orB rfl rfl rfl rfl rfl rfl rfl rfl) | refine HL.nil ?_ | refine HR.ctl rfl ?_ | refine HR.region ?_ | refine HR.condT rfl ?_ | refine HR.condF rfl ?_ | exact HL.blkEnd rfl rfl Ent.refl | (refine fun (hb : (_ : Bool) = _) => ?_; try simp at hb))
      intro v4
      repeat' (first | (refine HL.isOp ?_; first | refine HL.ev rfl rfl ?_ | refine HL.evc rfl rfl (by first | omega | simp | (simp; omega)) ?_ | refine HL.appR 1 rfl elemI (Rd.own 0 rfl) rfl rfl rfl rfl (allOne_spec rfl) (by omega) (by omega) ?_ | (refine HL.isLoad ?_; first | refine HL.L 0 rfl rfl rfl rfl ?_ | refine HL.L 1 rfl rfl rfl rfl ?_ | refine HL.L 2 rfl rfl rfl rfl ?_ | refine HL.L 3 rfl rfl rfl rfl ?_ | refine HL.L 4 rfl rfl rfl rfl ?_ | refine HL.L 5 rfl rfl rfl rfl ?_) | (refine HL.isStore ?_; first | refine HL.S 0 rfl rfl rfl rfl rfl ?_ | refine HL.S 1 rfl rfl rfl rfl rfl ?_ | refine HL.S 2 rfl rfl rfl rfl rfl ?_ | refine HL.S 3 rfl rfl rfl rfl rfl ?_ | refine HL.S 4 rfl rfl rfl rfl rfl ?_ | refine HL.S 5 rfl rfl rfl rfl rfl ?_) | refine HL.build rfl rfl ?_ | refine HL.field rfl rfl ?_ | (refine HL.box rfl rfl ?_; intro bk) | (refine HL.alloc rfl rfl ?_; intro bk) | refine HL.skip rfl rfl ?_ | refine HL.skip0 rfl ?_ | apply HL.andB rfl rfl rfl rfl rfl rfl rfl rfl | apply HL.orB rfl rfl rfl rfl rfl rfl rfl rfl) | refine HL.nil ?_ | refine HR.ctl rfl ?_ | refine HR.region ?_ | refine HR.condT rfl ?_ | refine HR.condF rfl ?_ | exact HL.blkEnd rfl rfl Ent.refl | (refine fun (hb : (_ : Bool) = _) => ?_; try simp at hb))
      intro v5
      repeat' (first | (refine HL.isOp ?_; first | refine HL.ev rfl rfl ?_ | refine HL.evc rfl rfl (by first | omega | simp | (simp; omega)) ?_ | (refine HL.isLoad ?_; first | refine HL.L 0 rfl rfl rfl rfl ?_ | refine HL.L 1 rfl rfl rfl rfl ?_ | refine HL.L 2 rfl rfl rfl rfl ?_ | refine HL.L 3 rfl rfl rfl rfl ?_ | refine HL.L 4 rfl rfl rfl rfl ?_ | refine HL.L 5 rfl rfl rfl rfl ?_) | (refine HL.isStore ?_; first | refine HL.S 0 rfl rfl rfl rfl rfl ?_ | refine HL.S 1 rfl rfl rfl rfl rfl ?_ | refine HL.S 2 rfl rfl rfl rfl rfl ?_ | refine HL.S 3 rfl rfl rfl rfl rfl ?_ | refine HL.S 4 rfl rfl rfl rfl rfl ?_ | refine HL.S 5 rfl rfl rfl rfl rfl ?_) | refine HL.build rfl rfl ?_ | refine HL.field rfl rfl ?_ | (refine HL.box rfl rfl ?_; intro bk) | (refine HL.alloc rfl rfl ?_; intro bk) | refine HL.skip rfl rfl ?_ | refine HL.skip0 rfl ?_ | apply HL.andB rfl rfl rfl rfl rfl rfl rfl rfl | apply HL.orB rfl rfl rfl rfl rfl rfl rfl rfl) | refine HL.nil ?_ | refine HR.ctl rfl ?_ | refine HR.region ?_ | refine HR.condT rfl ?_ | refine HR.condF rfl ?_ | exact HL.blkEnd rfl rfl Ent.refl | (refine fun (hb : (_ : Bool) = _) => ?_; try simp at hb))
      refine ih (k + 1) v5 _ _ hlt (by omega) ⟨rfl, rfl, rfl, rfl, rfl, rfl, trivial⟩ (Ent.trans (Ent.pick [1, 2, 3, 4] rfl rfl) (Ent.own0 ?_ ?_))
      · rw [filter_take hx, if_pos h3]; simp
      · rw [filter_take hx, if_pos h3, cellsOf_app, cellsOf_one]
    · have h3 : Tp.okN x = false := h3
      repeat' (first | (refine HL.isOp ?_; first | refine HL.ev rfl rfl ?_ | refine HL.evc rfl rfl (by first | omega | simp | (simp; omega)) ?_ | (refine HL.isLoad ?_; first | refine HL.L 0 rfl rfl rfl rfl ?_ | refine HL.L 1 rfl rfl rfl rfl ?_ | refine HL.L 2 rfl rfl rfl rfl ?_ | refine HL.L 3 rfl rfl rfl rfl ?_ | refine HL.L 4 rfl rfl rfl rfl ?_ | refine HL.L 5 rfl rfl rfl rfl ?_) | (refine HL.isStore ?_; first | refine HL.S 0 rfl rfl rfl rfl rfl ?_ | refine HL.S 1 rfl rfl rfl rfl rfl ?_ | refine HL.S 2 rfl rfl rfl rfl rfl ?_ | refine HL.S 3 rfl rfl rfl rfl rfl ?_ | refine HL.S 4 rfl rfl rfl rfl rfl ?_ | refine HL.S 5 rfl rfl rfl rfl rfl ?_) | refine HL.build rfl rfl ?_ | refine HL.field rfl rfl ?_ | (refine HL.box rfl rfl ?_; intro bk) | (refine HL.alloc rfl rfl ?_; intro bk) | refine HL.skip rfl rfl ?_ | refine HL.skip0 rfl ?_ | apply HL.andB rfl rfl rfl rfl rfl rfl rfl rfl | apply HL.orB rfl rfl rfl rfl rfl rfl rfl rfl) | refine HL.nil ?_ | refine HR.ctl rfl ?_ | refine HR.region ?_ | refine HR.condT rfl ?_ | refine HR.condF rfl ?_ | exact HL.blkEnd rfl rfl Ent.refl | (refine fun (hb : (_ : Bool) = _) => ?_; try simp at hb))
      refine ih (k + 1) v _ _ hlt (by omega) ⟨rfl, rfl, rfl, rfl, rfl, rfl, trivial⟩ (Ent.own0 ?_ ?_)
      · rw [filter_take hx, h3]; simp
      · rw [filter_take hx, h3]; simp
  have hke : k = (A.n ++ l).length := by have := of_decide_eq_false h2; omega
  subst hke
  rw [List.take_length]
  have hfl : ((A.n ++ l).filter Tp.okN).length ≤ 80 := Nat.le_trans (List.length_filter_le _ _) hjl
  generalize hG : (A.n ++ l).filter Tp.okN = G at hfl ⊢
  have hjd : Lib.compact (sortZ G) = jamAll A l := by rw [← hG]; exact jam_dif A l
  have hsl : (sortZ G).length = G.length := sortZ_len G
  repeat' (first | (refine HL.isOp ?_; first | refine HL.ev rfl rfl ?_ | refine HL.evc rfl rfl (by first | omega | simp | (simp; omega)) ?_ | (refine HL.isLoad ?_; first | refine HL.L 0 rfl rfl rfl rfl ?_ | refine HL.L 1 rfl rfl rfl rfl ?_ | refine HL.L 2 rfl rfl rfl rfl ?_ | refine HL.L 3 rfl rfl rfl rfl ?_ | refine HL.L 4 rfl rfl rfl rfl ?_ | refine HL.L 5 rfl rfl rfl rfl ?_) | (refine HL.isStore ?_; first | refine HL.S 0 rfl rfl rfl rfl rfl ?_ | refine HL.S 1 rfl rfl rfl rfl rfl ?_ | refine HL.S 2 rfl rfl rfl rfl rfl ?_ | refine HL.S 3 rfl rfl rfl rfl rfl ?_ | refine HL.S 4 rfl rfl rfl rfl rfl ?_ | refine HL.S 5 rfl rfl rfl rfl rfl ?_) | refine HL.build rfl rfl ?_ | refine HL.field rfl rfl ?_ | (refine HL.box rfl rfl ?_; intro bk) | (refine HL.alloc rfl rfl ?_; intro bk) | refine HL.skip rfl rfl ?_ | refine HL.skip0 rfl ?_ | apply HL.andB rfl rfl rfl rfl rfl rfl rfl rfl | apply HL.orB rfl rfl rfl rfl rfl rfl rfl rfl) | refine HL.nil ?_ | refine HR.ctl rfl ?_ | refine HR.region ?_ | refine HR.condT rfl ?_ | refine HR.condF rfl ?_ | exact HL.blkEnd rfl rfl Ent.refl | (refine fun (hb : (_ : Bool) = _) => ?_; try simp at hb))
  refine HL.callW (r := fun _ : Unit => .tuple #[]) (Q := fun _ => True) (G0 := [ownC v 3 1 G.length (cellsOf iC G)]) (G := fun _ => [ownC v 3 1 G.length (cellsOf iC (sortZ G))]) fn41 rfl rfl rfl (fun w hw => sortI_any v _ _ w (hw.vw (i := 0) rfl) (by omega)) ?_
  intro _ _
  repeat' (first | (refine HL.isOp ?_; first | refine HL.ev rfl rfl ?_ | refine HL.evc rfl rfl (by first | omega | simp | (simp; omega)) ?_ | (refine HL.isLoad ?_; first | refine HL.L 0 rfl rfl rfl rfl ?_ | refine HL.L 1 rfl rfl rfl rfl ?_ | refine HL.L 2 rfl rfl rfl rfl ?_ | refine HL.L 3 rfl rfl rfl rfl ?_ | refine HL.L 4 rfl rfl rfl rfl ?_ | refine HL.L 5 rfl rfl rfl rfl ?_) | (refine HL.isStore ?_; first | refine HL.S 0 rfl rfl rfl rfl rfl ?_ | refine HL.S 1 rfl rfl rfl rfl rfl ?_ | refine HL.S 2 rfl rfl rfl rfl rfl ?_ | refine HL.S 3 rfl rfl rfl rfl rfl ?_ | refine HL.S 4 rfl rfl rfl rfl rfl ?_ | refine HL.S 5 rfl rfl rfl rfl rfl ?_) | refine HL.build rfl rfl ?_ | refine HL.field rfl rfl ?_ | (refine HL.box rfl rfl ?_; intro bk) | (refine HL.alloc rfl rfl ?_; intro bk) | refine HL.skip rfl rfl ?_ | refine HL.skip0 rfl ?_ | apply HL.andB rfl rfl rfl rfl rfl rfl rfl rfl | apply HL.orB rfl rfl rfl rfl rfl rfl rfl rfl) | refine HL.nil ?_ | refine HR.ctl rfl ?_ | refine HR.region ?_ | refine HR.condT rfl ?_ | refine HR.condF rfl ?_ | exact HL.blkEnd rfl rfl Ent.refl | (refine fun (hb : (_ : Bool) = _) => ?_; try simp at hb))
  refine HL.callW (r := fun x : Value => x) (Q := fun _ => True) (G0 := [ownC v 3 1 G.length (cellsOf iC (sortZ G))]) (G := fun x => [ownC x 3 1 (Lib.compact (sortZ G)).length (cellsOf iC (Lib.compact (sortZ G)))]) fn42 rfl rfl rfl (fun w hw => compactI_any v _ _ w (hw.vw (i := 0) rfl) (by omega)) ?_
  intro v6 _
  rw [hjd]
  repeat' (first | (refine HL.isOp ?_; first | refine HL.ev rfl rfl ?_ | refine HL.evc rfl rfl (by first | omega | simp | (simp; omega)) ?_ | refine HL.lenR (Rd.own 0 rfl) rfl rfl rfl ?_ | (refine HL.isLoad ?_; first | refine HL.L 0 rfl rfl rfl rfl ?_ | refine HL.L 1 rfl rfl rfl rfl ?_ | refine HL.L 2 rfl rfl rfl rfl ?_ | refine HL.L 3 rfl rfl rfl rfl ?_ | refine HL.L 4 rfl rfl rfl rfl ?_ | refine HL.L 5 rfl rfl rfl rfl ?_) | (refine HL.isStore ?_; first | refine HL.S 0 rfl rfl rfl rfl rfl ?_ | refine HL.S 1 rfl rfl rfl rfl rfl ?_ | refine HL.S 2 rfl rfl rfl rfl rfl ?_ | refine HL.S 3 rfl rfl rfl rfl rfl ?_ | refine HL.S 4 rfl rfl rfl rfl rfl ?_ | refine HL.S 5 rfl rfl rfl rfl rfl ?_) | refine HL.build rfl rfl ?_ | refine HL.field rfl rfl ?_ | (refine HL.box rfl rfl ?_; intro bk) | (refine HL.alloc rfl rfl ?_; intro bk) | refine HL.skip rfl rfl ?_ | refine HL.skip0 rfl ?_ | apply HL.andB rfl rfl rfl rfl rfl rfl rfl rfl | apply HL.orB rfl rfl rfl rfl rfl rfl rfl rfl) | refine HL.nil ?_ | refine HR.ctl rfl ?_ | refine HR.region ?_ | refine HR.condT rfl ?_ | refine HR.condF rfl ?_ | exact HL.blkEnd rfl rfl Ent.refl | (refine fun (hb : (_ : Bool) = _) => ?_; try simp at hb))
  have hjt : ((jamAll A l).take 24).length ≤ 24 := jam_len A l
  refine HR.join (ι := Value) (fun _ => True) (fun v => [(2, .pointer (some ⟨bA, 0, none⟩)), (4, .pointer (some ⟨bk, 0, none⟩)), (5, v)]) (fun v => [ownC v 3 1 ((jamAll A l).take 24).length (cellsOf iC ((jamAll A l).take 24)), blkC bk [.slice none 0 0, .slice none 0 0, .slice none 0 0] 25, blkC bA [.slice e1 A.e.length e2, .slice o1 A.o.length o2, .slice n1 A.n.length n2] 25]) ?_ (fun hj => ?_)
  · intro v7 _
    repeat' (first | (refine HL.isOp ?_; first | refine HL.ev rfl rfl ?_ | refine HL.evc rfl rfl (by first | omega | simp | (simp; omega)) ?_ | (refine HL.isLoad ?_; first | refine HL.L 0 rfl rfl rfl rfl ?_ | refine HL.L 1 rfl rfl rfl rfl ?_ | refine HL.L 2 rfl rfl rfl rfl ?_ | refine HL.L 3 rfl rfl rfl rfl ?_ | refine HL.L 4 rfl rfl rfl rfl ?_ | refine HL.L 5 rfl rfl rfl rfl ?_) | (refine HL.isStore ?_; first | refine HL.S 0 rfl rfl rfl rfl rfl ?_ | refine HL.S 1 rfl rfl rfl rfl rfl ?_ | refine HL.S 2 rfl rfl rfl rfl rfl ?_ | refine HL.S 3 rfl rfl rfl rfl rfl ?_ | refine HL.S 4 rfl rfl rfl rfl rfl ?_ | refine HL.S 5 rfl rfl rfl rfl rfl ?_) | refine HL.build rfl rfl ?_ | refine HL.field rfl rfl ?_ | (refine HL.box rfl rfl ?_; intro bk) | (refine HL.alloc rfl rfl ?_; intro bk) | refine HL.skip rfl rfl ?_ | refine HL.skip0 rfl ?_) | refine HL.nil ?_ | refine HR.ctl rfl ?_ | refine HR.region ?_ | refine HR.condT rfl ?_ | refine HR.condF rfl ?_)
    refine HR.regionA [2] rfl rfl hmix ?_
    first | refine HA.ev 0 (by kernel_rfl) rfl rfl rfl ?_ | refine HA.evc 0 (by kernel_rfl) rfl rfl rfl (by first | omega | simp | (simp; omega)) ?_ | refine HA.loadB 0 0 (by kernel_rfl) rfl rfl rfl rfl rfl rfl rfl ?_ | refine HA.loadB 0 1 (by kernel_rfl) rfl rfl rfl rfl rfl rfl rfl ?_ | refine HA.loadB 0 2 (by kernel_rfl) rfl rfl rfl rfl rfl rfl rfl ?_ | refine HA.loadB 0 3 (by kernel_rfl) rfl rfl rfl rfl rfl rfl rfl ?_ | refine HA.loadB 0 4 (by kernel_rfl) rfl rfl rfl rfl rfl rfl rfl ?_ | refine HA.loadB 0 5 (by kernel_rfl) rfl rfl rfl rfl rfl rfl rfl ?_ | refine HA.loadR 0 0 (by kernel_rfl) rfl rfl rfl rfl rfl rfl rfl rfl ?_ | refine HA.loadR 0 1 (by kernel_rfl) rfl rfl rfl rfl rfl rfl rfl rfl ?_ | refine HA.loadR 0 2 (by kernel_rfl) rfl rfl rfl rfl rfl rfl rfl rfl ?_ | refine HA.loadR 0 3 (by kernel_rfl) rfl rfl rfl rfl rfl rfl rfl rfl ?_ | refine HA.loadR 0 4 (by kernel_rfl) rfl rfl rfl rfl rfl rfl rfl rfl ?_ | refine HA.loadR 0 5 (by kernel_rfl) rfl rfl rfl rfl rfl rfl rfl rfl ?_ | refine HA.build 0 (by kernel_rfl) rfl rfl rfl ?_
    first | refine HA.ev 1 (by kernel_rfl) rfl rfl rfl ?_ | refine HA.evc 1 (by kernel_rfl) rfl rfl rfl (by first | omega | simp | (simp; omega)) ?_ | refine HA.loadB 1 0 (by kernel_rfl) rfl rfl rfl rfl rfl rfl rfl ?_ | refine HA.loadB 1 1 (by kernel_rfl) rfl rfl rfl rfl rfl rfl rfl ?_ | refine HA.loadB 1 2 (by kernel_rfl) rfl rfl rfl rfl rfl rfl rfl ?_ | refine HA.loadB 1 3 (by kernel_rfl) rfl rfl rfl rfl rfl rfl rfl ?_ | refine HA.loadB 1 4 (by kernel_rfl) rfl rfl rfl rfl rfl rfl rfl ?_ | refine HA.loadB 1 5 (by kernel_rfl) rfl rfl rfl rfl rfl rfl rfl ?_ | refine HA.loadR 1 0 (by kernel_rfl) rfl rfl rfl rfl rfl rfl rfl rfl ?_ | refine HA.loadR 1 1 (by kernel_rfl) rfl rfl rfl rfl rfl rfl rfl rfl ?_ | refine HA.loadR 1 2 (by kernel_rfl) rfl rfl rfl rfl rfl rfl rfl rfl ?_ | refine HA.loadR 1 3 (by kernel_rfl) rfl rfl rfl rfl rfl rfl rfl rfl ?_ | refine HA.loadR 1 4 (by kernel_rfl) rfl rfl rfl rfl rfl rfl rfl rfl ?_ | refine HA.loadR 1 5 (by kernel_rfl) rfl rfl rfl rfl rfl rfl rfl rfl ?_ | refine HA.build 1 (by kernel_rfl) rfl rfl rfl ?_
    first | refine HA.ev 3 (by kernel_rfl) rfl rfl rfl ?_ | refine HA.evc 3 (by kernel_rfl) rfl rfl rfl (by first | omega | simp | (simp; omega)) ?_ | refine HA.loadB 3 0 (by kernel_rfl) rfl rfl rfl rfl rfl rfl rfl ?_ | refine HA.loadB 3 1 (by kernel_rfl) rfl rfl rfl rfl rfl rfl rfl ?_ | refine HA.loadB 3 2 (by kernel_rfl) rfl rfl rfl rfl rfl rfl rfl ?_ | refine HA.loadB 3 3 (by kernel_rfl) rfl rfl rfl rfl rfl rfl rfl ?_ | refine HA.loadB 3 4 (by kernel_rfl) rfl rfl rfl rfl rfl rfl rfl ?_ | refine HA.loadB 3 5 (by kernel_rfl) rfl rfl rfl rfl rfl rfl rfl ?_ | refine HA.loadR 3 0 (by kernel_rfl) rfl rfl rfl rfl rfl rfl rfl rfl ?_ | refine HA.loadR 3 1 (by kernel_rfl) rfl rfl rfl rfl rfl rfl rfl rfl ?_ | refine HA.loadR 3 2 (by kernel_rfl) rfl rfl rfl rfl rfl rfl rfl rfl ?_ | refine HA.loadR 3 3 (by kernel_rfl) rfl rfl rfl rfl rfl rfl rfl rfl ?_ | refine HA.loadR 3 4 (by kernel_rfl) rfl rfl rfl rfl rfl rfl rfl rfl ?_ | refine HA.loadR 3 5 (by kernel_rfl) rfl rfl rfl rfl rfl rfl rfl rfl ?_ | refine HA.build 3 (by kernel_rfl) rfl rfl rfl ?_
    first | refine HA.ev 4 (by kernel_rfl) rfl rfl rfl ?_ | refine HA.evc 4 (by kernel_rfl) rfl rfl rfl (by first | omega | simp | (simp; omega)) ?_ | refine HA.loadB 4 0 (by kernel_rfl) rfl rfl rfl rfl rfl rfl rfl ?_ | refine HA.loadB 4 1 (by kernel_rfl) rfl rfl rfl rfl rfl rfl rfl ?_ | refine HA.loadB 4 2 (by kernel_rfl) rfl rfl rfl rfl rfl rfl rfl ?_ | refine HA.loadB 4 3 (by kernel_rfl) rfl rfl rfl rfl rfl rfl rfl ?_ | refine HA.loadB 4 4 (by kernel_rfl) rfl rfl rfl rfl rfl rfl rfl ?_ | refine HA.loadB 4 5 (by kernel_rfl) rfl rfl rfl rfl rfl rfl rfl ?_ | refine HA.loadR 4 0 (by kernel_rfl) rfl rfl rfl rfl rfl rfl rfl rfl ?_ | refine HA.loadR 4 1 (by kernel_rfl) rfl rfl rfl rfl rfl rfl rfl rfl ?_ | refine HA.loadR 4 2 (by kernel_rfl) rfl rfl rfl rfl rfl rfl rfl rfl ?_ | refine HA.loadR 4 3 (by kernel_rfl) rfl rfl rfl rfl rfl rfl rfl rfl ?_ | refine HA.loadR 4 4 (by kernel_rfl) rfl rfl rfl rfl rfl rfl rfl rfl ?_ | refine HA.loadR 4 5 (by kernel_rfl) rfl rfl rfl rfl rfl rfl rfl rfl ?_ | refine HA.build 4 (by kernel_rfl) rfl rfl rfl ?_
    first | refine HA.ev 7 (by kernel_rfl) rfl rfl rfl ?_ | refine HA.evc 7 (by kernel_rfl) rfl rfl rfl (by first | omega | simp | (simp; omega)) ?_ | refine HA.loadB 7 0 (by kernel_rfl) rfl rfl rfl rfl rfl rfl rfl ?_ | refine HA.loadB 7 1 (by kernel_rfl) rfl rfl rfl rfl rfl rfl rfl ?_ | refine HA.loadB 7 2 (by kernel_rfl) rfl rfl rfl rfl rfl rfl rfl ?_ | refine HA.loadB 7 3 (by kernel_rfl) rfl rfl rfl rfl rfl rfl rfl ?_ | refine HA.loadB 7 4 (by kernel_rfl) rfl rfl rfl rfl rfl rfl rfl ?_ | refine HA.loadB 7 5 (by kernel_rfl) rfl rfl rfl rfl rfl rfl rfl ?_ | refine HA.loadR 7 0 (by kernel_rfl) rfl rfl rfl rfl rfl rfl rfl rfl ?_ | refine HA.loadR 7 1 (by kernel_rfl) rfl rfl rfl rfl rfl rfl rfl rfl ?_ | refine HA.loadR 7 2 (by kernel_rfl) rfl rfl rfl rfl rfl rfl rfl rfl ?_ | refine HA.loadR 7 3 (by kernel_rfl) rfl rfl rfl rfl rfl rfl rfl rfl ?_ | refine HA.loadR 7 4 (by kernel_rfl) rfl rfl rfl rfl rfl rfl rfl rfl ?_ | refine HA.loadR 7 5 (by kernel_rfl) rfl rfl rfl rfl rfl rfl rfl rfl ?_ | refine HA.build 7 (by kernel_rfl) rfl rfl rfl ?_
    refine HA.two 2 5 (by kernel_rfl) rfl rfl ?_ ?_
    · refine HL.callO fn43 rfl rfl (fun w hw => cloneE_any A.e _ w ((Rd.arg hs.e).at hw) (by omega)) ?_
      intro v8
      refine HL.backA [3] rfl rfl ?_
      refine HA.one 5 (by kernel_rfl) rfl ?_
      refine HL.bslice elemL rfl rfl rfl rfl rfl (by decide) (by decide) ?_
      intro v9
      refine HL.backA [4] rfl rfl ?_
      refine HA.one 6 (by kernel_rfl) rfl ?_
      refine HL.callO fn31 rfl rfl (fun w hw => joined1 ((Rd.own 0 rfl).at hw) ((Rd.arg hs.o).at hw) hs.lo) ?_
      intro v10
      refine HL.shape 0 rfl ?_
      rintro a3 c3 rfl
      refine HL.shape 2 rfl ?_
      rintro a1 c1 rfl
      refine HL.shape 3 rfl ?_
      rintro a5 c5 rfl
      refine HL.backA [5] rfl rfl ?_
      first | refine HA.ev 8 (by kernel_rfl) rfl rfl rfl ?_ | refine HA.evc 8 (by kernel_rfl) rfl rfl rfl (by first | omega | simp | (simp; omega)) ?_ | refine HA.loadB 8 0 (by kernel_rfl) rfl rfl rfl rfl rfl rfl rfl ?_ | refine HA.loadB 8 1 (by kernel_rfl) rfl rfl rfl rfl rfl rfl rfl ?_ | refine HA.loadB 8 2 (by kernel_rfl) rfl rfl rfl rfl rfl rfl rfl ?_ | refine HA.loadB 8 3 (by kernel_rfl) rfl rfl rfl rfl rfl rfl rfl ?_ | refine HA.loadB 8 4 (by kernel_rfl) rfl rfl rfl rfl rfl rfl rfl ?_ | refine HA.loadB 8 5 (by kernel_rfl) rfl rfl rfl rfl rfl rfl rfl ?_ | refine HA.loadR 8 0 (by kernel_rfl) rfl rfl rfl rfl rfl rfl rfl rfl ?_ | refine HA.loadR 8 1 (by kernel_rfl) rfl rfl rfl rfl rfl rfl rfl rfl ?_ | refine HA.loadR 8 2 (by kernel_rfl) rfl rfl rfl rfl rfl rfl rfl rfl ?_ | refine HA.loadR 8 3 (by kernel_rfl) rfl rfl rfl rfl rfl rfl rfl rfl ?_ | refine HA.loadR 8 4 (by kernel_rfl) rfl rfl rfl rfl rfl rfl rfl rfl ?_ | refine HA.loadR 8 5 (by kernel_rfl) rfl rfl rfl rfl rfl rfl rfl rfl ?_ | refine HA.build 8 (by kernel_rfl) rfl rfl rfl ?_
      refine HA.one 9 (by kernel_rfl) rfl ?_
      refine HL.S 4 rfl rfl rfl rfl rfl ?_
      refine HL.backA [5] rfl rfl ?_
      refine HA.done (by kernel_rfl) ?_
      repeat' (first | (refine HL.isOp ?_; first | refine HL.ev rfl rfl ?_ | refine HL.evc rfl rfl (by first | omega | simp | (simp; omega)) ?_ | (refine HL.isLoad ?_; first | refine HL.L 0 rfl rfl rfl rfl ?_ | refine HL.L 1 rfl rfl rfl rfl ?_ | refine HL.L 2 rfl rfl rfl rfl ?_ | refine HL.L 3 rfl rfl rfl rfl ?_ | refine HL.L 4 rfl rfl rfl rfl ?_ | refine HL.L 5 rfl rfl rfl rfl ?_) | (refine HL.isStore ?_; first | refine HL.S 0 rfl rfl rfl rfl rfl ?_ | refine HL.S 1 rfl rfl rfl rfl rfl ?_ | refine HL.S 2 rfl rfl rfl rfl rfl ?_ | refine HL.S 3 rfl rfl rfl rfl rfl ?_ | refine HL.S 4 rfl rfl rfl rfl rfl ?_ | refine HL.S 5 rfl rfl rfl rfl rfl ?_) | refine HL.build rfl rfl ?_ | refine HL.field rfl rfl ?_ | (refine HL.box rfl rfl ?_; intro bk) | (refine HL.alloc rfl rfl ?_; intro bk) | refine HL.skip rfl rfl ?_ | refine HL.skip0 rfl ?_) | refine HL.nil ?_ | refine HR.ctl rfl ?_ | refine HR.region ?_ | refine HR.condT rfl ?_ | refine HR.condF rfl ?_)
      refine HR.ret Try.func23 rfl [_] (fun w hw => ⟨⟨_, rfl, loadVarR hw 4 rfl rfl rfl rfl rfl⟩, trivial⟩) ?_
      exact fun w' hw => ⟨(_, _, _), rfl, trivial, hw.pick [2, 0, 3] rfl rfl⟩
    · refine HL.bslice elemL rfl rfl rfl rfl rfl (by decide) (by decide) ?_
      intro v9
      refine HL.backA [3] rfl rfl ?_
      refine HA.one 2 (by kernel_rfl) rfl ?_
      refine HL.callO fn43 rfl rfl (fun w hw => cloneE_any A.e _ w ((Rd.arg hs.e).at hw) (by omega)) ?_
      intro v8
      refine HL.backA [4] rfl rfl ?_
      refine HA.one 6 (by kernel_rfl) rfl ?_
      refine HL.callO fn31 rfl rfl (fun w hw => joined1 ((Rd.own 1 rfl).at hw) ((Rd.arg hs.o).at hw) hs.lo) ?_
      intro v10
      refine HL.shape 0 rfl ?_
      rintro a3 c3 rfl
      refine HL.shape 1 rfl ?_
      rintro a1 c1 rfl
      refine HL.shape 3 rfl ?_
      rintro a5 c5 rfl
      refine HL.backA [5] rfl rfl ?_
      first | refine HA.ev 8 (by kernel_rfl) rfl rfl rfl ?_ | refine HA.evc 8 (by kernel_rfl) rfl rfl rfl (by first | omega | simp | (simp; omega)) ?_ | refine HA.loadB 8 0 (by kernel_rfl) rfl rfl rfl rfl rfl rfl rfl ?_ | refine HA.loadB 8 1 (by kernel_rfl) rfl rfl rfl rfl rfl rfl rfl ?_ | refine HA.loadB 8 2 (by kernel_rfl) rfl rfl rfl rfl rfl rfl rfl ?_ | refine HA.loadB 8 3 (by kernel_rfl) rfl rfl rfl rfl rfl rfl rfl ?_ | refine HA.loadB 8 4 (by kernel_rfl) rfl rfl rfl rfl rfl rfl rfl ?_ | refine HA.loadB 8 5 (by kernel_rfl) rfl rfl rfl rfl rfl rfl rfl ?_ | refine HA.loadR 8 0 (by kernel_rfl) rfl rfl rfl rfl rfl rfl rfl rfl ?_ | refine HA.loadR 8 1 (by kernel_rfl) rfl rfl rfl rfl rfl rfl rfl rfl ?_ | refine HA.loadR 8 2 (by kernel_rfl) rfl rfl rfl rfl rfl rfl rfl rfl ?_ | refine HA.loadR 8 3 (by kernel_rfl) rfl rfl rfl rfl rfl rfl rfl rfl ?_ | refine HA.loadR 8 4 (by kernel_rfl) rfl rfl rfl rfl rfl rfl rfl rfl ?_ | refine HA.loadR 8 5 (by kernel_rfl) rfl rfl rfl rfl rfl rfl rfl rfl ?_ | refine HA.build 8 (by kernel_rfl) rfl rfl rfl ?_
      refine HA.one 9 (by kernel_rfl) rfl ?_
      refine HL.S 4 rfl rfl rfl rfl rfl ?_
      refine HL.backA [5] rfl rfl ?_
      refine HA.done (by kernel_rfl) ?_
      repeat' (first | (refine HL.isOp ?_; first | refine HL.ev rfl rfl ?_ | refine HL.evc rfl rfl (by first | omega | simp | (simp; omega)) ?_ | (refine HL.isLoad ?_; first | refine HL.L 0 rfl rfl rfl rfl ?_ | refine HL.L 1 rfl rfl rfl rfl ?_ | refine HL.L 2 rfl rfl rfl rfl ?_ | refine HL.L 3 rfl rfl rfl rfl ?_ | refine HL.L 4 rfl rfl rfl rfl ?_ | refine HL.L 5 rfl rfl rfl rfl ?_) | (refine HL.isStore ?_; first | refine HL.S 0 rfl rfl rfl rfl rfl ?_ | refine HL.S 1 rfl rfl rfl rfl rfl ?_ | refine HL.S 2 rfl rfl rfl rfl rfl ?_ | refine HL.S 3 rfl rfl rfl rfl rfl ?_ | refine HL.S 4 rfl rfl rfl rfl rfl ?_ | refine HL.S 5 rfl rfl rfl rfl rfl ?_) | refine HL.build rfl rfl ?_ | refine HL.field rfl rfl ?_ | (refine HL.box rfl rfl ?_; intro bk) | (refine HL.alloc rfl rfl ?_; intro bk) | refine HL.skip rfl rfl ?_ | refine HL.skip0 rfl ?_) | refine HL.nil ?_ | refine HR.ctl rfl ?_ | refine HR.region ?_ | refine HR.condT rfl ?_ | refine HR.condF rfl ?_)
      refine HR.ret Try.func23 rfl [_] (fun w hw => ⟨⟨_, rfl, loadVarR hw 4 rfl rfl rfl rfl rfl⟩, trivial⟩) ?_
      exact fun w' hw => ⟨(_, _, _), rfl, trivial, hw.pick [1, 0, 3] rfl rfl⟩
  · refine HR.cond rfl (fun h3 => ?_) (fun h3 => ?_)
    · have h3 : 24 ≤ (jamAll A l).length := by have := of_decide_eq_true h3; omega
      have ht : ((jamAll A l).take 24).length = 24 := by simp; omega
      refine HR.region ?_
      repeat' (first | (refine HL.isOp ?_; first | refine HL.ev rfl rfl ?_ | refine HL.evc rfl rfl (by first | omega | simp | (simp; omega)) ?_ | refine HL.subO 0 24 0 rfl rfl rfl rfl rfl (.inl ⟨rfl, rfl⟩) (.inr ⟨_, _, rfl, rfl⟩) (Nat.zero_le _) h3 ?_ | (refine HL.isLoad ?_; first | refine HL.L 0 rfl rfl rfl rfl ?_ | refine HL.L 1 rfl rfl rfl rfl ?_ | refine HL.L 2 rfl rfl rfl rfl ?_ | refine HL.L 3 rfl rfl rfl rfl ?_ | refine HL.L 4 rfl rfl rfl rfl ?_ | refine HL.L 5 rfl rfl rfl rfl ?_) | (refine HL.isStore ?_; first | refine HL.S 0 rfl rfl rfl rfl rfl ?_ | refine HL.S 1 rfl rfl rfl rfl rfl ?_ | refine HL.S 2 rfl rfl rfl rfl rfl ?_ | refine HL.S 3 rfl rfl rfl rfl rfl ?_ | refine HL.S 4 rfl rfl rfl rfl rfl ?_ | refine HL.S 5 rfl rfl rfl rfl rfl ?_) | refine HL.build rfl rfl ?_ | refine HL.field rfl rfl ?_ | (refine HL.box rfl rfl ?_; intro bk) | (refine HL.alloc rfl rfl ?_; intro bk) | refine HL.skip rfl rfl ?_ | refine HL.skip0 rfl ?_) | refine HL.nil ?_)
      refine hj _ _ _ trivial ⟨rfl, rfl, rfl, trivial⟩ (Ent.trans (Ent.pick [0, 2, 3] rfl rfl) (Ent.own0 ?_ ?_))
      · rw [ht]
      · rw [cellsOf_drop iC_len, cellsOf_take iC_len, List.drop_zero]
    · have h3 : (jamAll A l).length ≤ 24 := by have := of_decide_eq_false h3; omega
      have ht : (jamAll A l).take 24 = jamAll A l := List.take_of_length_le h3
      refine HR.skip ?_
      refine hj v6 _ _ trivial ⟨rfl, rfl, rfl, trivial⟩ ?_
      rw [ht]
      exact Ent.pick [0, 2, 3] rfl rfl
end Go.Proofs.Ytiepojpebndgoaa
