/- The library's contracts in the words of rows, met by a view. Conditions: none. -/
import Derived.Test.YtiepojpebndgoaaGxAny
import Derived.Lib.OwnBridge
import Derived.Sort.Grow
namespace Go.GX
open Go.RowKit
set_option linter.unusedVariables false
set_option linter.unusedSectionVars false
set_option linter.unusedSimpArgs false
section
variable {α : Type} [Inhabited α]
theorem Vw.holds {enc : α → Value} {w : World} {e n g off cap : Nat} {zs : List α} (h : Vw w (.slice (some ⟨g, off, none⟩) n cap) e 1 n (zs.map enc)) : g < w.heap.size ∧ zs.length = n ∧ Sort.Holds enc w g off zs.toArray := by
  have hl : zs.length = n := by simpa using h.1
  rcases h.2 with ⟨e0, _⟩ | ⟨g', off', cap', cur, e0, hg, hn, hm, hs, ht⟩
  · cases e0
  · injection e0 with e1 _ e3
    injection e1 with e1
    injection e1 with e1 e2
    subst e1; subst e2; subst e3
    refine ⟨(Array.getElem?_eq_some_iff.1 hg).1, hl, fun j hj => ?_⟩
    have hj' : j < n := by simpa [hl] using hj
    refine ⟨?_, by simp [World.frozen?, hg]⟩
    have e1 : ((cur.toList.drop off).take (n * 1))[j]? = (zs.map enc)[j]? := by rw [ht]
    rw [List.getElem?_take, if_pos (by omega), List.getElem?_drop, Array.getElem?_toList, List.getElem?_map, List.getElem?_eq_getElem (by omega)] at e1
    simp only [World.cell?, hg]
    simp only [Option.isSome_none, Bool.false_eq_true, if_false]
    rw [e1]
    simp [getElem!_pos, show j < zs.length by omega]
theorem Vw.putRow {enc : α → Value} {w : World} {e n g off cap q : Nat} {os : Array Obj} {zs ys : List α} (h : Vw w (.slice (some ⟨g, off, none⟩) n cap) e 1 n (zs.map enc)) (hy : ys.length = n) :
    Vw (Sort.grow (Sort.putRow enc (Sort.ahead w q) g off ys.toArray) os) (.slice (some ⟨g, off, none⟩) n cap) e 1 n (ys.map enc) ∧ w.grownBy (Sort.grow (Sort.putRow enc (Sort.ahead w q) g off ys.toArray) os) (some g) := by
  rcases h.2 with ⟨e0, _⟩ | ⟨g', off', cap', cur, e0, hg, hn, hm, hs, ht⟩
  · cases e0
  · injection e0 with e1 _ e3
    injection e1 with e1
    injection e1 with e1 e2
    subst e1; subst e2; subst e3
    have hlt := (Array.getElem?_eq_some_iff.1 hg).1
    have hblk : ∀ k, k < w.heap.size → (Sort.grow (Sort.putRow enc (Sort.ahead w q) g off ys.toArray) os).heap[k]? = (Sort.putRow enc (Sort.ahead w q) g off ys.toArray).heap[k]? := by
      intro k hk
      have : k < (Sort.putRow enc (Sort.ahead w q) g off ys.toArray).heap.size := by simpa [Sort.putRow, Sort.mapBlock, Sort.ahead] using hk
      simp [Sort.grow, Array.getElem?_append_left this]
    refine ⟨⟨by simp; omega, .inr ⟨g, off, cap, Sort.putCells enc off ys.toArray cur, rfl, ?_, hn, hm, by simpa [Sort.putCells] using hs, ?_⟩⟩, ?_⟩
    · rw [hblk g hlt]
      simp [Sort.putRow, Sort.mapBlock, Sort.ahead, Array.getElem?_modify, hg, Sort.onCells]
    · apply List.ext_getElem?
      intro j
      rw [List.getElem?_take, List.getElem?_map, List.getElem?_drop, Array.getElem?_toList]
      by_cases hj : j < n
      · have hjc : off + j < cur.size := by omega
        simp only [Nat.mul_one, if_pos hj, Sort.putCells, Array.getElem?_mapIdx, Array.getElem?_eq_getElem hjc, Option.map_some]
        rw [if_pos (by simp; omega), List.getElem?_eq_getElem (by omega)]
        simp [getElem!_pos, show j < ys.length by omega, show off + j - off = j by omega]
      · simp [hj, List.getElem?_eq_none (show ys.length ≤ j by omega)]
    · refine ⟨rfl, rfl, rfl, ?_, fun k hk hne => ?_⟩
      · simp [Sort.grow, Sort.putRow, Sort.mapBlock, Sort.ahead]
      · rw [hblk k hk]
        have : g ≠ k := fun e => hne (by rw [e])
        simp [Sort.putRow, Sort.mapBlock, Sort.ahead, Array.getElem?_modify, this]
end

theorem Sat.sameOwn {w : World} {v : Value} {e sz n : Nat} {xs : List Value} (hv : Vw w v e sz n xs) : Sat ⟨w, feet [ownC v e sz n xs]⟩ [ownC v e sz n xs] w :=
  Sat.ofGrown (r := none) (grownBy_refl _ _) (fun k hk => by cases hk) hv (fun k hk => .inl hk)
theorem Sat.putOwn {α : Type} [Inhabited α] {enc : α → Value} {w : World} {e n g off cap q : Nat} {os : Array Obj} {zs ys : List α} (h : Vw w (.slice (some ⟨g, off, none⟩) n cap) e 1 n (cellsOf (fun x => [enc x]) zs)) (hy : ys.length = n) :
    Sat ⟨w, feet [ownC (.slice (some ⟨g, off, none⟩) n cap) e 1 n (cellsOf (fun x => [enc x]) zs)]⟩ [ownC (.slice (some ⟨g, off, none⟩) n cap) e 1 n (cellsOf (fun x => [enc x]) ys)] (Sort.grow (Sort.putRow enc (Sort.ahead w q) g off ys.toArray) os) := by
  obtain ⟨k1, k2⟩ := Vw.putRow (q := q) (os := os) (enc := enc) (zs := zs) (ys := ys) (by rw [← cellsOf_one1]; exact h) hy
  refine Sat.ofGrown (r := some g) k2 (fun k hk => by cases hk; rfl) ?_ (fun k hk => .inl hk)
  show Vw _ _ _ _ _ _
  rw [cellsOf_one1]
  exact k1
/-! ### The slices in a map -/
/-- The slices of a map's entries, each in a block of its own. -/
def slicesC (e : TypeId) (m : List (Int × Value)) (adj : Int → List Int) : Chunk where
  foot := fun k => ∃ p ∈ m, p.2.ownBlock = some k
  p := fun w => (∀ p ∈ m, Vw w p.2 e 1 (adj p.1).length (cellsOf iC (adj p.1))) ∧ ∀ p ∈ m, ∀ q ∈ m, p.1 ≠ q.1 → ∀ k, p.2.ownBlock = some k → q.2.ownBlock ≠ some k
  loc := fun w w' h hp => ⟨fun p hp' => (ownC p.2 e 1 (adj p.1).length (cellsOf iC (adj p.1))).loc w w' (fun k hk => h k ⟨p, hp', hk⟩) (hp.1 p hp'), hp.2⟩
  lt := fun w hp k ⟨p, hp', hk⟩ => (ownC p.2 e 1 (adj p.1).length (cellsOf iC (adj p.1))).lt w (hp.1 p hp') k hk

theorem getM_mem {K : Type} [DecidableEq K] {k : K} {v : Value} : ∀ {m : List (K × Value)}, getM k m = some v → (k, v) ∈ m
  | [], h => by cases h
  | (a, u) :: m, h => by
    unfold getM at h
    split at h
    · rename_i e; cases h; subst e; exact List.mem_cons_self ..
    · exact List.mem_cons_of_mem _ (getM_mem h)
theorem getM_none {K : Type} [DecidableEq K] {k : K} : ∀ {m : List (K × Value)}, getM k m = none ↔ k ∉ m.map (·.1)
  | [] => by simp [getM]
  | (a, u) :: m => by
    unfold getM
    split
    · rename_i e; subst e; simp
    · rename_i e; rw [getM_none]; simp [e]
theorem getM_of_mem {K : Type} [DecidableEq K] {k : K} {v : Value} : ∀ {m : List (K × Value)}, NodupM m → (k, v) ∈ m → getM k m = some v
  | [], _, h => by cases h
  | (a, u) :: m, hn, h => by
    have hn' : a ∉ m.map (·.1) ∧ (m.map (·.1)).Nodup := by simpa [NodupM] using hn
    unfold getM
    rcases List.mem_cons.1 h with h2 | h2
    · cases h2; rw [if_pos rfl]
    · have hne : ¬ k = a := fun e => hn'.1 (List.mem_map.2 ⟨(k, v), h2, e⟩)
      rw [if_neg hne]
      exact getM_of_mem hn'.2 h2
theorem mem_delM {K : Type} [DecidableEq K] {k : K} {m : List (K × Value)} (hn : NodupM m) {p : K × Value} : p ∈ delM k m ↔ p ∈ m ∧ p.1 ≠ k := by
  have h1 := getM_delM (k := p.1) (k' := k) hn
  constructor
  · intro hp
    have hp' := delM_sub.subset hp
    refine ⟨hp', fun e => ?_⟩
    rw [if_pos e, getM_none] at h1
    exact h1 (List.mem_map.2 ⟨p, hp, rfl⟩)
  · rintro ⟨hp, hne⟩
    rw [if_neg hne, getM_of_mem hn (show (p.1, p.2) ∈ m from hp)] at h1
    exact getM_mem h1
theorem mem_setM' {K : Type} [DecidableEq K] {k : K} {v : Value} {m : List (K × Value)} (hn : NodupM m) {p : K × Value} : p ∈ setM k v m ↔ p = (k, v) ∨ (p ∈ m ∧ p.1 ≠ k) := by
  have h1 := getM_setM p.1 k v m
  have hns := nodup_setM (k := k) (v := v) hn
  constructor
  · intro hp
    rw [getM_of_mem hns (show (p.1, p.2) ∈ setM k v m from hp)] at h1
    by_cases e : p.1 = k
    · rw [if_pos e] at h1; left; cases h1; obtain ⟨a, b⟩ := p; simp_all
    · rw [if_neg e] at h1; exact .inr ⟨getM_mem h1.symm, e⟩
  · rintro (rfl | ⟨hp, hne⟩)
    · rw [if_pos rfl] at h1; exact getM_mem h1
    · rw [if_neg hne, getM_of_mem hn (show (p.1, p.2) ∈ m from hp)] at h1
      exact getM_mem h1

theorem setM_same {K : Type} [DecidableEq K] {k : K} {v : Value} : ∀ {m : List (K × Value)}, getM k m = some v → setM k v m = m
  | [], h => by cases h
  | (a, u) :: m, h => by
    unfold getM at h
    unfold setM
    split at h
    · rename_i e; cases h; rw [if_pos e]
    · rename_i e; rw [if_neg e, setM_same h]
section
variable {B : Base} {H : List Chunk} {e : TypeId} {m : List (Int × Value)} {adj adj' : Int → List Int} {a : Int} {v : Value}
theorem Ent.emptyS : Ent B H (slicesC e [] adj :: H) := fun w hw => hw.push (Below.refl _ _) ⟨(fun p hp => by cases hp), (fun p hp => by cases hp)⟩ (fun k hk => by obtain ⟨p, hp, _⟩ := hk; cases hp)
theorem Ent.asS (h : ∀ n, adj n = adj' n) : Ent B (slicesC e m adj :: H) (slicesC e m adj' :: H) := by rw [funext h]; exact Ent.refl
/-- One of the slices is taken out (a nil one where there is none). -/
theorem Ent.takeS (hn : NodupM m) (h0 : getM a m = none → adj a = []) (hv : (getM a m).getD (.slice none 0 0) = v) : Ent B (slicesC e m adj :: H) (ownC v e 1 (adj a).length (cellsOf iC (adj a)) :: slicesC e (delM a m) adj :: H) := by
  intro w hw
  have hp := hw.all.1
  have hX := hw.all.2.1
  have hapart := hw.all.2.2.1
  have hrest := hw.all.2.2.2
  have own : (ownC v e 1 (adj a).length (cellsOf iC (adj a))).p w ∧ ∀ k, v.ownBlock = some k → ∃ p ∈ m, p.2.ownBlock = some k ∧ p.1 = a := by
    cases hg : getM a m with
    | none =>
      rw [hg] at hv
      subst hv
      rw [h0 hg]
      exact ⟨⟨rfl, .inl ⟨rfl, rfl⟩⟩, fun k hk => by cases hk⟩
    | some u =>
      rw [hg] at hv
      have hv' : u = v := hv
      subst hv'
      have hm := getM_mem hg
      exact ⟨hp.1 _ hm, fun k hk => ⟨_, hm, hk, rfl⟩⟩
  refine ⟨hw.os, hw.tape, hw.output, hw.size, hw.block, own.1, fun k hk => ?_, fun d hd k hk => ?_, ⟨fun p hp' => hp.1 p (delM_sub.subset hp'), fun p hp' q hq' => hp.2 p (delM_sub.subset hp') q (delM_sub.subset hq')⟩, fun k hk => ?_, fun d hd k hk => ?_, hrest⟩
  · obtain ⟨p, h1, h2, _⟩ := own.2 k hk
    exact hX k ⟨p, h1, h2⟩
  · obtain ⟨p, h1, h2, h3⟩ := own.2 k hk
    rcases List.mem_cons.1 hd with rfl | hd
    · rintro ⟨q, hq, hk'⟩
      obtain ⟨hq1, hq2⟩ := (mem_delM hn).1 hq
      exact hp.2 p h1 q hq1 (fun e => hq2 (by rw [← e, h3])) k h2 hk'
    · exact hapart d hd k ⟨p, h1, h2⟩
  · obtain ⟨p, h1, h2⟩ := hk
    exact hX k ⟨p, delM_sub.subset h1, h2⟩
  · obtain ⟨p, h1, h2⟩ := hk
    exact hapart d hd k ⟨p, delM_sub.subset h1, h2⟩
/-- .. and laid back. -/
theorem Ent.giveS (hn : NodupM m) (hother : ∀ k, k ≠ a → adj' k = adj k) : Ent B (ownC v e 1 (adj' a).length (cellsOf iC (adj' a)) :: slicesC e (delM a m) adj :: H) (slicesC e (setM a v m) adj' :: H) := by
  intro w hw
  obtain ⟨hv, hvX, hvA, hp, hpX, hpA, hrest⟩ := hw.all
  have cases_ : ∀ p ∈ setM a v m, p = (a, v) ∨ (p ∈ delM a m ∧ p.1 ≠ a) := fun p hp' => by
    rcases (mem_setM' hn).1 hp' with h | ⟨h1, h2⟩
    · exact .inl h
    · exact .inr ⟨(mem_delM hn).2 ⟨h1, h2⟩, h2⟩
  refine ⟨hw.os, hw.tape, hw.output, hw.size, hw.block, ⟨fun p hp' => ?_, fun p hp' q hq' hne k hk hk' => ?_⟩, fun k hk => ?_, fun d hd k hk => ?_, hrest⟩
  · rcases cases_ p hp' with rfl | ⟨h1, h2⟩
    · exact hv
    · rw [hother _ h2]; exact hp.1 p h1
  · rcases cases_ p hp' with rfl | ⟨h1, h2⟩
    · rcases cases_ q hq' with rfl | ⟨h3, h4⟩
      · exact hne rfl
      · exact hvA _ (List.mem_cons_self ..) k hk ⟨q, h3, hk'⟩
    · rcases cases_ q hq' with rfl | ⟨h3, h4⟩
      · exact hvA _ (List.mem_cons_self ..) k hk' ⟨p, h1, hk⟩
      · exact hp.2 p h1 q h3 hne k hk hk'
  · obtain ⟨p, hp', hk⟩ := hk
    rcases cases_ p hp' with rfl | ⟨h1, h2⟩
    · exact hvX k hk
    · exact hpX k ⟨p, h1, hk⟩
  · obtain ⟨p, hp', hk⟩ := hk
    rcases cases_ p hp' with rfl | ⟨h1, h2⟩
    · exact hvA d (List.mem_cons_of_mem _ hd) k hk
    · exact hpA d hd k ⟨p, h1, hk⟩
end
end Go.GX
