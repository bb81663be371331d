/- A part of the proof: contracts of the program's functions. Conditions: none. -/
import Derived.Test.YtiepojpebndgoaaRb5
import Derived.Test.YtiepojpebndgoaaGxDraw
namespace Go.Proofs.Ytiepojpebndgoaa
open Go.GX Go.RowKit
attribute [local irreducible] Calls Run RunL RunQ RunD HR HL HD blkC ownC mapC Rd slicesC iterC RdM
set_option linter.unusedVariables false
set_option linter.unusedSectionVars false
set_option linter.unusedSimpArgs false
set_option maxRecDepth 100000

open Ra
theorem sameAir_any (a b : Air) (va vb vc wa wb wc : Value) (w : World) (h1 : OkA w a va vb vc) (h2 : OkA w b wa wb wc) :
    Calls Try.prog 22 #[airV va vb vc, airV wa wb wc] w fun e w' => e = .returned (.bool (decide (a.e = b.e) && decide (a.o = b.o) && decide (a.n = b.n))) ∧ Below w.heap.size w w' := by
  have e1 := h1.le
  have o1 := h1.lo
  have n1 := h1.ln
  refine calls_hr Try.func22 rfl (Nat.le_of_ble_eq_true rfl) ?_
  refine HR.sub (σ' := [(0, airV va vb vc), (1, airV wa wb wc)]) ⟨rfl, rfl, trivial⟩ ?_
  repeat' (first | (refine HL.isOp ?_; first | refine HL.ev rfl rfl ?_ | refine HL.evc rfl rfl (by first | omega | simp | (simp; omega)) ?_ | refine HL.callB fn27 rfl rfl (fun w hw => sameEdges_any a.e b.e va wa w ((Rd.arg h1.e).at hw) ((Rd.arg h2.e).at hw) (by omega)) ?_ | refine HL.callB fn16 rfl rfl (fun w hw => sameNodes_any a.o b.o vb wb w ((Rd.arg h1.o).at hw) ((Rd.arg h2.o).at hw) (by omega)) ?_ | refine HL.callB fn16 rfl rfl (fun w hw => sameNodes_any a.n b.n vc wc w ((Rd.arg h1.n).at hw) ((Rd.arg h2.n).at hw) (by omega)) ?_ | (refine HL.isLoad ?_; first | refine HL.L 0 rfl rfl rfl rfl ?_ | refine HL.L 1 rfl rfl rfl rfl ?_ | refine HL.L 2 rfl rfl rfl rfl ?_ | refine HL.L 3 rfl rfl rfl rfl ?_ | refine HL.L 4 rfl rfl rfl rfl ?_ | refine HL.L 5 rfl rfl rfl rfl ?_) | (refine HL.isStore ?_; first | refine HL.S 0 rfl rfl rfl rfl rfl ?_ | refine HL.S 1 rfl rfl rfl rfl rfl ?_ | refine HL.S 2 rfl rfl rfl rfl rfl ?_ | refine HL.S 3 rfl rfl rfl rfl rfl ?_ | refine HL.S 4 rfl rfl rfl rfl rfl ?_ | refine HL.S 5 rfl rfl rfl rfl rfl ?_) | refine HL.build rfl rfl ?_ | refine HL.field rfl rfl ?_ | (refine HL.box rfl rfl ?_; intro bk) | (refine HL.alloc rfl rfl ?_; intro bk) | refine HL.skip rfl rfl ?_ | refine HL.skip0 rfl ?_ | apply HL.andB rfl rfl rfl rfl rfl rfl rfl rfl | apply HL.orB rfl rfl rfl rfl rfl rfl rfl rfl) | refine HL.nil ?_ | refine HR.ctl rfl ?_ | refine HR.region ?_ | refine HR.condT rfl ?_ | refine HR.condF rfl ?_ | exact HL.blkEnd rfl rfl Ent.refl | (refine fun (hb : (_ : Bool) = _) => ?_; try simp at hb))
  refine HR.ret Try.func22 rfl [_] (fun _ _ => ⟨rfl, trivial⟩) ?_
  exact fun w' hw => ⟨rfl, hw.belowB⟩

theorem rjam_ex {a : Air} {l : List Int} {ve vo vn : Value} {w0 : World} (hv : OkA w0 a ve vo vn) : ∃ ve' vo' vn', OkA w0 (san a) ve' vo' vn' ∧ ∀ w vl, OkA w a ve vo vn → OkA w (san a) ve' vo' vn' → Sl w vl (cellsOf iC l) l.length → l.length ≤ 40 →
    Calls Try.prog 24 #[airV ve vo vn, vl] w fun e w' => ∃ x : Value, e = .returned (airV ve' vo' x) ∧ True ∧ Sat (base w) [ownC x 3 1 ((jamAll (san a) l).take 24).length (cellsOf iC ((jamAll (san a) l).take 24))] w' := by
  obtain ⟨ve', vo', vn', hs0, hval⟩ := sane_ex hv
  refine ⟨ve', vo', vn', hs0, fun w vl hv hs hl hll => ?_⟩
  clear hs0
  generalize san a = A at hs ⊢
  obtain ⟨e1, e2, rfl, _⟩ := hs.e.2
  obtain ⟨o1, o2, rfl, _⟩ := hs.o.2
  obtain ⟨n1, n2, rfl, _⟩ := hs.n.2
  have ln := hs.ln
  refine calls_hr Try.func24 rfl (Nat.le_of_ble_eq_true rfl) ?_
  refine HR.sub (σ' := [(0, airV ve vo vn), (1, vl)]) ⟨rfl, rfl, trivial⟩ ?_
  repeat' (first | (refine HL.isOp ?_; first | refine HL.ev rfl rfl ?_ | refine HL.evc rfl rfl (by first | omega | simp | (simp; omega)) ?_ | refine HL.callB fn36 rfl rfl (fun w hw => hval w (hv.at hw)) ?_ | (refine HL.isLoad ?_; first | refine HL.L 0 rfl rfl rfl rfl ?_ | refine HL.L 1 rfl rfl rfl rfl ?_ | refine HL.L 2 rfl rfl rfl rfl ?_ | refine HL.L 3 rfl rfl rfl rfl ?_ | refine HL.L 4 rfl rfl rfl rfl ?_ | refine HL.L 5 rfl rfl rfl rfl ?_) | (refine HL.isStore ?_; first | refine HL.S 0 rfl rfl rfl rfl rfl ?_ | refine HL.S 1 rfl rfl rfl rfl rfl ?_ | refine HL.S 2 rfl rfl rfl rfl rfl ?_ | refine HL.S 3 rfl rfl rfl rfl rfl ?_ | refine HL.S 4 rfl rfl rfl rfl rfl ?_ | refine HL.S 5 rfl rfl rfl rfl rfl ?_) | refine HL.build rfl rfl ?_ | refine HL.field rfl rfl ?_ | (refine HL.box rfl rfl ?_; intro bk) | (refine HL.alloc rfl rfl ?_; intro bk) | refine HL.skip rfl rfl ?_ | refine HL.skip0 rfl ?_) | refine HL.nil ?_ | refine HR.ctl rfl ?_ | refine HR.region ?_ | refine HR.condT rfl ?_ | refine HR.condF rfl ?_)
  rename_i bA
  refine HR.nilC 3 1 ?_
  refine HR.loop2 (α := Nat) (β := Value) (fun k v => k ≤ 251) (fun k v => [(1, vl), (2, .pointer (some ⟨bA, 0, none⟩)), (4, .pointer (some ⟨bk, 0, none⟩)), (5, v), (6, .int .i64 (k : Int))])
    (fun k v => [ownC v 3 1 ((Tp.upto (fun n => decide (n ∈ A.n) || decide (n ∈ l)) k).take 24).length (cellsOf iC ((Tp.upto (fun n => decide (n ∈ A.n) || decide (n ∈ l)) k).take 24)), blkC bk [.slice none 0 0, .slice none 0 0, .slice none 0 0] 25, blkC bA [.slice e1 A.e.length e2, .slice o1 A.o.length o2, .slice n1 A.n.length n2] 25])
    (fun k v => 251 - k) 0 (.slice none 0 0) (Nat.zero_le _) ⟨rfl, rfl, rfl, rfl, rfl, trivial⟩ (Ent.pick [0, 1, 2] rfl rfl) ?_
  intro k v hk ih
  generalize hP : (fun n => decide (n ∈ A.n) || decide (n ∈ l)) = P at ih ⊢
  have hul : ((Tp.upto P k).take 24).length = min 24 (Tp.upto P k).length := List.length_take
  repeat' (first | (refine HL.isOp ?_; first | refine HL.ev rfl rfl ?_ | refine HL.evc rfl rfl (by first | omega | simp | (simp; omega)) ?_ | (refine HL.isLoad ?_; first | refine HL.L 0 rfl rfl rfl rfl ?_ | refine HL.L 1 rfl rfl rfl rfl ?_ | refine HL.L 2 rfl rfl rfl rfl ?_ | refine HL.L 3 rfl rfl rfl rfl ?_ | refine HL.L 4 rfl rfl rfl rfl ?_ | refine HL.L 5 rfl rfl rfl rfl ?_) | (refine HL.isStore ?_; first | refine HL.S 0 rfl rfl rfl rfl rfl ?_ | refine HL.S 1 rfl rfl rfl rfl rfl ?_ | refine HL.S 2 rfl rfl rfl rfl rfl ?_ | refine HL.S 3 rfl rfl rfl rfl rfl ?_ | refine HL.S 4 rfl rfl rfl rfl rfl ?_ | refine HL.S 5 rfl rfl rfl rfl rfl ?_) | refine HL.build rfl rfl ?_ | refine HL.field rfl rfl ?_ | (refine HL.box rfl rfl ?_; intro bk) | (refine HL.alloc rfl rfl ?_; intro bk) | refine HL.skip rfl rfl ?_ | refine HL.skip0 rfl ?_ | apply HL.andB rfl rfl rfl rfl rfl rfl rfl rfl | apply HL.orB rfl rfl rfl rfl rfl rfl rfl rfl) | refine HL.nil ?_ | refine HR.ctl rfl ?_ | refine HR.region ?_ | refine HR.condT rfl ?_ | refine HR.condF rfl ?_ | exact HL.blkEnd rfl rfl Ent.refl | (refine fun (hb : (_ : Bool) = _) => ?_; try simp at hb))
  refine HR.cond rfl (fun h2 => ?_) (fun h2 => ?_)
  · have hlt : k < 251 := by have := of_decide_eq_true h2; omega
    have hPk : (decide ((k : Int) ∈ A.n) || decide ((k : Int) ∈ l)) = P (k : Int) := by rw [← hP]
    repeat' (first | (refine HL.isOp ?_; first | refine HL.ev rfl rfl ?_ | refine HL.evc rfl rfl (by first | omega | simp | (simp; omega)) ?_ | refine HL.lenR (Rd.own 0 rfl) rfl rfl rfl ?_ | refine HL.callB fn21 rfl rfl (fun w hw => among_any A.n k _ w ((Rd.arg hs.n).at hw) (by omega)) ?_ | refine HL.callB fn21 rfl rfl (fun w hw => among_any l k _ w ((Rd.arg hl).at hw) (by omega)) ?_ | (refine HL.isLoad ?_; first | refine HL.L 0 rfl rfl rfl rfl ?_ | refine HL.L 1 rfl rfl rfl rfl ?_ | refine HL.L 2 rfl rfl rfl rfl ?_ | refine HL.L 3 rfl rfl rfl rfl ?_ | refine HL.L 4 rfl rfl rfl rfl ?_ | refine HL.L 5 rfl rfl rfl rfl ?_) | (refine HL.isStore ?_; first | refine HL.S 0 rfl rfl rfl rfl rfl ?_ | refine HL.S 1 rfl rfl rfl rfl rfl ?_ | refine HL.S 2 rfl rfl rfl rfl rfl ?_ | refine HL.S 3 rfl rfl rfl rfl rfl ?_ | refine HL.S 4 rfl rfl rfl rfl rfl ?_ | refine HL.S 5 rfl rfl rfl rfl rfl ?_) | refine HL.build rfl rfl ?_ | refine HL.field rfl rfl ?_ | (refine HL.box rfl rfl ?_; intro bk) | (refine HL.alloc rfl rfl ?_; intro bk) | refine HL.skip rfl rfl ?_ | refine HL.skip0 rfl ?_ | apply HL.andB rfl rfl rfl rfl rfl rfl rfl rfl | apply HL.orB rfl rfl rfl rfl rfl rfl rfl rfl) | refine HL.nil ?_ | refine HR.ctl rfl ?_ | refine HR.region ?_ | refine HR.condT rfl ?_ | refine HR.condF rfl ?_ | exact HL.blkEnd rfl rfl Ent.refl | (refine fun (hb : (_ : Bool) = _) => ?_; try simp at hb))
    refine HR.cond rfl (fun h3 => ?_) (fun h3 => ?_)
    · have h3 : (decide ((((Tp.upto P k).take 24).length : Int) < 24) && (decide ((k : Int) ∈ A.n) || decide ((k : Int) ∈ l))) = true := h3
      rw [hPk] at h3
      simp only [Bool.and_eq_true, decide_eq_true_eq] at h3
      have hu : (Tp.upto P k).length < 24 := by omega
      repeat' (first | (refine HL.isOp ?_; first | refine HL.ev rfl rfl ?_ | refine HL.evc rfl rfl (by first | omega | simp | (simp; omega)) ?_ | refine HL.bslice elemI rfl rfl rfl rfl rfl (by decide) (by decide) ?_ | (refine HL.isLoad ?_; first | refine HL.L 0 rfl rfl rfl rfl ?_ | refine HL.L 1 rfl rfl rfl rfl ?_ | refine HL.L 2 rfl rfl rfl rfl ?_ | refine HL.L 3 rfl rfl rfl rfl ?_ | refine HL.L 4 rfl rfl rfl rfl ?_ | refine HL.L 5 rfl rfl rfl rfl ?_) | (refine HL.isStore ?_; first | refine HL.S 0 rfl rfl rfl rfl rfl ?_ | refine HL.S 1 rfl rfl rfl rfl rfl ?_ | refine HL.S 2 rfl rfl rfl rfl rfl ?_ | refine HL.S 3 rfl rfl rfl rfl rfl ?_ | refine HL.S 4 rfl rfl rfl rfl rfl ?_ | refine HL.S 5 rfl rfl rfl rfl rfl ?_) | refine HL.build rfl rfl ?_ | refine HL.field rfl rfl ?_ | (refine HL.box rfl rfl ?_; intro bk) | (refine HL.alloc rfl rfl ?_; intro bk) | refine HL.skip rfl rfl ?_ | refine HL.skip0 rfl ?_ | apply HL.andB rfl rfl rfl rfl rfl rfl rfl rfl | apply HL.orB rfl rfl rfl rfl rfl rfl rfl rfl) | refine HL.nil ?_ | refine HR.ctl rfl ?_ | refine HR.region ?_ | refine HR.condT rfl ?_ | refine HR.condF rfl ?_ | exact HL.blkEnd rfl rfl Ent.refl | (refine fun (hb : (_ : Bool) = _) => ?_; try simp at hb))
      intro v4
      repeat' (first | (refine HL.isOp ?_; first | refine HL.ev rfl rfl ?_ | refine HL.evc rfl rfl (by first | omega | simp | (simp; omega)) ?_ | refine HL.appR 1 rfl elemI (Rd.own 0 rfl) rfl rfl rfl rfl (allOne_spec rfl) (by omega) (by omega) ?_ | (refine HL.isLoad ?_; first | refine HL.L 0 rfl rfl rfl rfl ?_ | refine HL.L 1 rfl rfl rfl rfl ?_ | refine HL.L 2 rfl rfl rfl rfl ?_ | refine HL.L 3 rfl rfl rfl rfl ?_ | refine HL.L 4 rfl rfl rfl rfl ?_ | refine HL.L 5 rfl rfl rfl rfl ?_) | (refine HL.isStore ?_; first | refine HL.S 0 rfl rfl rfl rfl rfl ?_ | refine HL.S 1 rfl rfl rfl rfl rfl ?_ | refine HL.S 2 rfl rfl rfl rfl rfl ?_ | refine HL.S 3 rfl rfl rfl rfl rfl ?_ | refine HL.S 4 rfl rfl rfl rfl rfl ?_ | refine HL.S 5 rfl rfl rfl rfl rfl ?_) | refine HL.build rfl rfl ?_ | refine HL.field rfl rfl ?_ | (refine HL.box rfl rfl ?_; intro bk) | (refine HL.alloc rfl rfl ?_; intro bk) | refine HL.skip rfl rfl ?_ | refine HL.skip0 rfl ?_ | apply HL.andB rfl rfl rfl rfl rfl rfl rfl rfl | apply HL.orB rfl rfl rfl rfl rfl rfl rfl rfl) | refine HL.nil ?_ | refine HR.ctl rfl ?_ | refine HR.region ?_ | refine HR.condT rfl ?_ | refine HR.condF rfl ?_ | exact HL.blkEnd rfl rfl Ent.refl | (refine fun (hb : (_ : Bool) = _) => ?_; try simp at hb))
      intro v5
      repeat' (first | (refine HL.isOp ?_; first | refine HL.ev rfl rfl ?_ | refine HL.evc rfl rfl (by first | omega | simp | (simp; omega)) ?_ | (refine HL.isLoad ?_; first | refine HL.L 0 rfl rfl rfl rfl ?_ | refine HL.L 1 rfl rfl rfl rfl ?_ | refine HL.L 2 rfl rfl rfl rfl ?_ | refine HL.L 3 rfl rfl rfl rfl ?_ | refine HL.L 4 rfl rfl rfl rfl ?_ | refine HL.L 5 rfl rfl rfl rfl ?_) | (refine HL.isStore ?_; first | refine HL.S 0 rfl rfl rfl rfl rfl ?_ | refine HL.S 1 rfl rfl rfl rfl rfl ?_ | refine HL.S 2 rfl rfl rfl rfl rfl ?_ | refine HL.S 3 rfl rfl rfl rfl rfl ?_ | refine HL.S 4 rfl rfl rfl rfl rfl ?_ | refine HL.S 5 rfl rfl rfl rfl rfl ?_) | refine HL.build rfl rfl ?_ | refine HL.field rfl rfl ?_ | (refine HL.box rfl rfl ?_; intro bk) | (refine HL.alloc rfl rfl ?_; intro bk) | refine HL.skip rfl rfl ?_ | refine HL.skip0 rfl ?_ | apply HL.andB rfl rfl rfl rfl rfl rfl rfl rfl | apply HL.orB rfl rfl rfl rfl rfl rfl rfl rfl) | refine HL.nil ?_ | refine HR.ctl rfl ?_ | refine HR.region ?_ | refine HR.condT rfl ?_ | refine HR.condF rfl ?_ | exact HL.blkEnd rfl rfl Ent.refl | (refine fun (hb : (_ : Bool) = _) => ?_; try simp at hb))
      refine ih (k + 1) v5 _ _ hlt (by omega) ⟨rfl, rfl, rfl, rfl, rfl, trivial⟩ (Ent.trans (Ent.pick [1, 2, 3] rfl rfl) (Ent.own0 ?_ ?_))
      · rw [Tp.upto_succ, if_pos h3.2, List.take_of_length_le (by omega), List.take_of_length_le (by simp; omega)]; simp
      · rw [Tp.upto_succ, if_pos h3.2, List.take_of_length_le (by omega), List.take_of_length_le (by simp; omega), cellsOf_app, cellsOf_one]
    · have h3 : (decide ((((Tp.upto P k).take 24).length : Int) < 24) && (decide ((k : Int) ∈ A.n) || decide ((k : Int) ∈ l))) = false := h3
      rw [hPk] at h3
      have he : (Tp.upto P (k + 1)).take 24 = (Tp.upto P k).take 24 := by
        rw [Tp.upto_succ]
        rcases Bool.and_eq_false_iff.1 h3 with h | h
        · have := of_decide_eq_false h
          rw [List.take_append_of_le_length (by omega)]
        · rw [h]; simp
      repeat' (first | (refine HL.isOp ?_; first | refine HL.ev rfl rfl ?_ | refine HL.evc rfl rfl (by first | omega | simp | (simp; omega)) ?_ | (refine HL.isLoad ?_; first | refine HL.L 0 rfl rfl rfl rfl ?_ | refine HL.L 1 rfl rfl rfl rfl ?_ | refine HL.L 2 rfl rfl rfl rfl ?_ | refine HL.L 3 rfl rfl rfl rfl ?_ | refine HL.L 4 rfl rfl rfl rfl ?_ | refine HL.L 5 rfl rfl rfl rfl ?_) | (refine HL.isStore ?_; first | refine HL.S 0 rfl rfl rfl rfl rfl ?_ | refine HL.S 1 rfl rfl rfl rfl rfl ?_ | refine HL.S 2 rfl rfl rfl rfl rfl ?_ | refine HL.S 3 rfl rfl rfl rfl rfl ?_ | refine HL.S 4 rfl rfl rfl rfl rfl ?_ | refine HL.S 5 rfl rfl rfl rfl rfl ?_) | refine HL.build rfl rfl ?_ | refine HL.field rfl rfl ?_ | (refine HL.box rfl rfl ?_; intro bk) | (refine HL.alloc rfl rfl ?_; intro bk) | refine HL.skip rfl rfl ?_ | refine HL.skip0 rfl ?_ | apply HL.andB rfl rfl rfl rfl rfl rfl rfl rfl | apply HL.orB rfl rfl rfl rfl rfl rfl rfl rfl) | refine HL.nil ?_ | refine HR.ctl rfl ?_ | refine HR.region ?_ | refine HR.condT rfl ?_ | refine HR.condF rfl ?_ | exact HL.blkEnd rfl rfl Ent.refl | (refine fun (hb : (_ : Bool) = _) => ?_; try simp at hb))
      refine ih (k + 1) v _ _ hlt (by omega) ⟨rfl, rfl, rfl, rfl, rfl, trivial⟩ ?_
      rw [he]; exact Ent.refl
  · have hke : k = 251 := by have := of_decide_eq_false h2; omega
    subst hke
    have hj : (Tp.upto P 251).take 24 = (jamAll A l).take 24 := by rw [← hP]; rfl
    rw [hj]
    refine HR.know (Q := ∃ a c, v = .slice a ((jamAll A l).take 24).length c) (fun w hw => (Sat.vw hw (i := 0) rfl).shape) ?_
    rintro ⟨a5, c5, rfl⟩
    repeat' (first | (refine HL.isOp ?_; first | refine HL.ev rfl rfl ?_ | refine HL.evc rfl rfl (by first | omega | simp | (simp; omega)) ?_ | (refine HL.isLoad ?_; first | refine HL.L 0 rfl rfl rfl rfl ?_ | refine HL.L 1 rfl rfl rfl rfl ?_ | refine HL.L 2 rfl rfl rfl rfl ?_ | refine HL.L 3 rfl rfl rfl rfl ?_ | refine HL.L 4 rfl rfl rfl rfl ?_ | refine HL.L 5 rfl rfl rfl rfl ?_) | (refine HL.isStore ?_; first | refine HL.S 0 rfl rfl rfl rfl rfl ?_ | refine HL.S 1 rfl rfl rfl rfl rfl ?_ | refine HL.S 2 rfl rfl rfl rfl rfl ?_ | refine HL.S 3 rfl rfl rfl rfl rfl ?_ | refine HL.S 4 rfl rfl rfl rfl rfl ?_ | refine HL.S 5 rfl rfl rfl rfl rfl ?_) | refine HL.build rfl rfl ?_ | refine HL.field rfl rfl ?_ | (refine HL.box rfl rfl ?_; intro bk) | (refine HL.alloc rfl rfl ?_; intro bk) | refine HL.skip rfl rfl ?_ | refine HL.skip0 rfl ?_ | apply HL.andB rfl rfl rfl rfl rfl rfl rfl rfl | apply HL.orB rfl rfl rfl rfl rfl rfl rfl rfl) | refine HL.nil ?_ | refine HR.ctl rfl ?_ | refine HR.region ?_ | refine HR.condT rfl ?_ | refine HR.condF rfl ?_ | exact HL.blkEnd rfl rfl Ent.refl | (refine fun (hb : (_ : Bool) = _) => ?_; try simp at hb))
    refine HR.ret Try.func24 rfl [_] (fun w hw => ⟨⟨_, rfl, loadVarR hw 1 rfl rfl rfl rfl rfl⟩, trivial⟩) ?_
    exact fun w' hw => ⟨_, rfl, trivial, hw.pick [0] rfl rfl⟩
end Go.Proofs.Ytiepojpebndgoaa
