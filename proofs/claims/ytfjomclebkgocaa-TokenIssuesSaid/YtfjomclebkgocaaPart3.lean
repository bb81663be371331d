/- Slices as views of a block: reading, appending, cutting. Conditions: as each says. -/
import Derived.Laws.MakeOwn
import Derived.Laws.Tables
import Derived.Laws.StructEq
import Derived.Laws.IdiomRangeMap
import Derived.Lib.OwnBridge
import Derived.Sort.Grow
import Derived.Test.YtfjomclebkgocaaPart2
namespace Go.GX
open Go.RowKit
set_option linter.unusedVariables false
set_option linter.unusedSectionVars false
set_option linter.unusedSimpArgs false

/-- A slice that can be read, with its capacity in order. -/
def Sl (w : World) (v : Value) (cs : List Value) (n : Nat) : Prop := IsSl w v cs n ∧ ∃ a c, v = .slice a n c ∧ n ≤ c

/-- A slice into a block that may be written. -/
def Vw (w : World) (v : Value) (e sz n : Nat) (xs : List Value) : Prop :=
  xs.length = n * sz ∧ ((v = .slice none 0 0 ∧ n = 0) ∨ ∃ g off cap cur, v = .slice (some ⟨g, off, none⟩) n cap ∧ w.heap[g]? = some (.cells cur e (0, 0)) ∧ n ≤ cap ∧ cap ≤ maxLen ∧ off + cap * sz ≤ cur.size ∧ (cur.toList.drop off).take (n * sz) = xs)

theorem Vw.of_own {w : World} {B e sz n : Nat} {v : Value} {xs : List Value} (h : w.ownsRow B e sz v n xs) : Vw w v e sz n xs := by
  refine ⟨h.1, ?_⟩
  rcases h.2 with h' | ⟨g, cap, cur, hv, h1, h2, h3, h4, h5, h6⟩
  · exact .inl h'
  · exact .inr ⟨g, 0, cap, cur, hv, h2, h3, h4, by omega, by simpa using h6⟩

theorem Vw.sl {w : World} {e sz n : Nat} {v : Value} {xs : List Value} (h : Vw w v e sz n xs) : Sl w v xs n := by
  rcases h with ⟨hl, ⟨rfl, rfl⟩ | ⟨g, off, cap, cur, rfl, h2, h3, h4, h5, h6⟩⟩
  · have : xs = [] := List.eq_nil_of_length_eq_zero (by simpa using hl)
    subst this
    exact ⟨IsSl.nil w, none, 0, rfl, Nat.le_refl _⟩
  · refine ⟨.inr ⟨g, off, cap, rfl, fun j u hu => ?_⟩, _, cap, rfl, h3⟩
    rw [cell_of_row w g (off + j) cur e (0, 0) h2]
    rw [← h6, List.getElem?_take] at hu
    split at hu
    · simpa using hu
    · cases hu

def ownC (v : Value) (e sz n : Nat) (xs : List Value) : Chunk where
  foot := fun k => v.ownBlock = some k
  p := fun w => Vw w v e sz n xs
  loc := fun w w' h hp => by
    refine ⟨hp.1, ?_⟩
    rcases hp.2 with h' | ⟨g, off, cap, cur, rfl, h1, h2⟩
    · exact .inl h'
    · exact .inr ⟨g, off, cap, cur, rfl, by rw [h g rfl]; exact h1, h2⟩
  lt := fun w hp k hk => by
    rcases hp.2 with ⟨rfl, _⟩ | ⟨g, off, cap, cur, rfl, h1, h2⟩
    · cases hk
    · cases hk; exact (Array.getElem?_eq_some_iff.1 h1).1

theorem OwnS.sat {w w' : World} {e sz n : Nat} {v : Value} {xs : List Value} (h : OwnS w w' e sz v n xs) : Sat (base w) [ownC v e sz n xs] w' :=
  (Sat.start w).push h.below (Vw.of_own h.own) (ownsRow_ge h.own)

theorem Sl.ext {w w' : World} {v : Value} {cs : List Value} {n : Nat} (h : Sl w v cs n) (hb : Below w.heap.size w w') : Sl w' v cs n := ⟨h.1.ext hb, h.2⟩
theorem Sl.nil (w : World) : Sl w (.slice none 0 0) [] 0 := ⟨IsSl.nil w, none, 0, rfl, Nat.le_refl _⟩

section
variable {P : Program} {N : Nat} {σ : Store} {w w' : World} {ops l : List Oper} {K : Act → World → Prop} {d : Nat} {ty : TypeId} {pos : String} {af : Array Edge} {gd : Option (Nat × Bool)} {v u : Value} {cs : List Value} {n : Nat} {t e : TypeId} {sz bytes : Nat}

theorem run_append_roomV (t ty e : TypeId) (i : TypeInfo) (ht : P.underlying t = some (.slice e)) (hi : P.info? e = some i)
    (g off sLen sCap : Nat) (cur : Array Value) (hg : w.heap[g]? = some (.cells cur e (0, 0)))
    (a : Addr) (m c : Nat) (news : List Value) (hl : news.length = m * i.size) (hnews : ∀ j u, news[j]? = some u → w.cell? (a.add j) = some u) (h1 : ∀ u ∈ news, u.oneCell' = true)
    (hroom : sLen + m ≤ sCap) (hfit : off + sLen * i.size + news.length ≤ cur.size) :
    (Builtin.append_ #[t, t] ty #[.slice (some ⟨g, off, none⟩) sLen sCap, .slice (some a) m c]).run P w =
      .ok (.slice (some ⟨g, off, none⟩) (sLen + m) sCap) (w.setRow g (cur.toList.take (off + sLen * i.size) ++ news ++ cur.toList.drop (off + sLen * i.size + news.length)).toArray) := by
  have hf := run_firstCells_some (P := P) w i.size m a m c news hl hnews
  have hst := run_storeCells_at P g (off + sLen * i.size) e news 0 cur w hg (by simpa using hfit) h1
  simp only [Nat.add_zero] at hst
  have hadd : (⟨g, off, none⟩ : Addr).add (sLen * i.size) = ⟨g, off + sLen * i.size, none⟩ := by unfold Addr.add; split <;> simp_all
  simp [Builtin.append_, run_underlying ht, sizeOf, typeInfo, hi, Builtin.lenOf, hroom, hf, hadd, hst]

theorem run_append_vw (hE : Elem P t e sz bytes) {xs : List Value} (hown : Vw w v e sz n xs) {v2 : Value} {m : Nat} {news : List Value} (hv2 : IsSl w v2 news m) (hl : news.length = m * sz) (h1 : ∀ u ∈ news, u.oneCell' = true)
    (hb : (n + m) * bytes ≤ 140737488355328) (h63 : n + m ≤ 9223372036854775807) :
    ∃ v' w', (Builtin.append_ #[t, t] ty #[v, v2]).run P w = .ok v' w' ∧ Vw w' v' e sz (n + m) (xs ++ news) ∧ w.grownBy w' v.ownBlock ∧ (∀ k, v'.ownBlock = some k → v.ownBlock = some k ∨ w.heap.size ≤ k) := by
  obtain ⟨i, z, g1, g2, g3, g4, g5⟩ := hE.info
  have same : ∀ {n0 : Nat}, Vw w v e sz n0 xs → m = 0 → news = [] → Vw w v e sz (n0 + m) (xs ++ news) := by
    intro n0 h hm hn; subst hm; subst hn; simpa using h
  rcases hv2 with ⟨hv2, rfl, rfl⟩ | ⟨b, off2, cap2, rfl, hc⟩
  · refine ⟨v, w, ?_, same hown rfl rfl, grownBy_refl _ _, fun k hk => .inl hk⟩
    rcases hown.2 with ⟨rfl, rfl⟩ | ⟨g, off, cap, cur, rfl, _, hnc, _⟩
    · rcases hv2 with rfl | ⟨a, c, rfl⟩
      · simp [Builtin.append_, run_underlying hE.slice, sizeOf, typeInfo, g1, Builtin.lenOf, Builtin.firstCells]
      · simp [Builtin.append_, run_underlying hE.slice, sizeOf, typeInfo, g1, Builtin.lenOf, Builtin.firstCells, loadCells, loadCellsFrom]
    · rcases hv2 with rfl | ⟨a, c, rfl⟩
      · simp [Builtin.append_, run_underlying hE.slice, sizeOf, typeInfo, g1, Builtin.lenOf, Builtin.firstCells, hnc, storeCells]
      · simp [Builtin.append_, run_underlying hE.slice, sizeOf, typeInfo, g1, Builtin.lenOf, Builtin.firstCells, loadCells, loadCellsFrom, hnc, storeCells]
  · have hadd : ∀ j, (⟨b, off2, none⟩ : Addr).add j = ⟨b, off2 + j, none⟩ := fun j => by unfold Addr.add; split <;> simp_all
    have hnews : ∀ j u, news[j]? = some u → w.cell? ((⟨b, off2, none⟩ : Addr).add j) = some u := fun j u hu => by rw [hadd]; exact hc j u hu
    subst g3
    subst g4
    have hlen : (xs ++ news).length = (n + m) * i.size := by rw [List.length_append, hown.1, hl, Nat.add_mul]
    have grown : ∀ (old : Nat), old < n + m → ∀ (row : Option Nat),
        Vw (w.drew.alloc (.cells (xs.toArray ++ news.toArray ++ Builtin.zeroCells z.cells (grownCap w (n + m) old e - (n + m))) e))
          (.slice (some ⟨w.heap.size, 0, none⟩) (n + m) (grownCap w (n + m) old e)) e i.size (n + m) (xs ++ news) ∧
        w.grownBy (w.drew.alloc (.cells (xs.toArray ++ news.toArray ++ Builtin.zeroCells z.cells (grownCap w (n + m) old e - (n + m))) e)) row := by
      intro old ho row
      have hge := grownCap_ge w (n + m) old e
      have hcm : grownCap w (n + m) old e ≤ maxLen := grownCap_le_maxLen w (n + m) old e (by unfold maxLen; omega)
      refine ⟨⟨hlen, .inr ⟨w.heap.size, 0, _, _, rfl, heap_alloc_new w.drew _, hge, hcm, ?_, ?_⟩⟩, ⟨rfl, rfl, rfl, by simp, fun k hk _ => heap_alloc_old w.drew _ hk⟩⟩
      · simp only [Array.size_append, List.size_toArray, size_zeroCells, g5, hown.1, hl, ← Nat.add_mul]
        have : n + m + (grownCap w (n + m) old e - (n + m)) = grownCap w (n + m) old e := by omega
        rw [this]; omega
      · simp only [Array.toList_append, List.append_assoc, List.drop_zero]
        rw [← List.append_assoc, ← hlen]
        exact List.take_left
    rcases hown.2 with ⟨rfl, rfl⟩ | ⟨g, off, cap, cur, rfl, hg, hnc, hcm, hcs, htake⟩
    · have hx : xs = [] := List.eq_nil_of_length_eq_zero (by simpa using hown.1)
      subst hx
      by_cases hm : m = 0
      · subst hm
        have hn : news = [] := List.eq_nil_of_length_eq_zero (by simpa using hl)
        subst hn
        refine ⟨.slice none 0 0, w, ?_, ⟨by simp, .inl ⟨rfl, rfl⟩⟩, grownBy_refl _ _, fun k hk => by cases hk⟩
        simp [Builtin.append_, run_underlying hE.slice, sizeOf, typeInfo, g1, Builtin.lenOf, Builtin.firstCells, loadCells, loadCellsFrom]
      · have hr := run_append_nil (P := P) w t ty e i z hE.slice g1 g2 ⟨b, off2, none⟩ m cap2 news hl hnews (by omega) (by omega) (by have hb := hb; simp only [Nat.zero_add] at hb; omega)
        have hgr := grown 0 (by omega) (Value.ownBlock (.slice none 0 0))
        simp only [Nat.zero_add, List.nil_append, Array.empty_append] at hgr ⊢
        exact ⟨_, _, hr, hgr.1, hgr.2, fun k hk => by cases hk; exact .inr (Nat.le_refl _)⟩
    · by_cases hroom : n + m ≤ cap
      · have hmul : (n + m) * i.size ≤ cap * i.size := Nat.mul_le_mul_right _ hroom
        have hfit : off + n * i.size + news.length ≤ cur.size := by rw [hl]; rw [Nat.add_mul] at hmul; omega
        have hr := run_append_roomV (w := w) (P := P) t ty e i hE.slice g1 g off n cap cur hg ⟨b, off2, none⟩ m cap2 news hl hnews h1 hroom hfit
        refine ⟨_, _, hr, ⟨hlen, .inr ⟨g, off, cap, _, rfl, setRow_heap w g cur _ e _ hg, hroom, hcm, ?_, ?_⟩⟩, ⟨rfl, rfl, rfl, by simp, fun k _ hk => setRow_other w g k _ (fun e => hk (by simp [Value.ownBlock, e]))⟩, fun k hk => by cases hk; exact .inl rfl⟩
        · simp only [List.size_toArray, List.length_append, List.length_take, List.length_drop, Array.length_toList]
          omega
        · have hlen2 : off ≤ cur.toList.length := by rw [Array.length_toList]; omega
          have e1 : cur.toList.take (off + n * i.size) = cur.toList.take off ++ xs := by rw [← htake, List.take_add]
          simp only [e1, List.append_assoc]
          rw [List.drop_append_of_le_length (by simp; omega), List.drop_eq_nil_of_le (by simp; omega), List.nil_append, ← List.append_assoc, ← hlen]
          exact List.take_left
      · have holds : ∀ j u, xs[j]? = some u → w.cell? ((⟨g, off, none⟩ : Addr).add j) = some u := by
          intro j u hu
          have ha : (⟨g, off, none⟩ : Addr).add j = ⟨g, off + j, none⟩ := by unfold Addr.add; split <;> simp_all
          rw [ha, cell_of_row w g (off + j) cur e (0, 0) hg]
          rw [← htake, List.getElem?_take] at hu
          split at hu
          · simpa using hu
          · cases hu
        have hr := run_append_grow (P := P) w t ty e i z hE.slice g1 g2 ⟨g, off, none⟩ n cap xs hown.1 holds ⟨b, off2, none⟩ m cap2 news hl hnews (by omega) (by omega) (growslice_fits (by omega) hb)
        have hgr := grown cap (by omega) (Value.ownBlock (.slice (some ⟨g, off, none⟩) n cap))
        exact ⟨_, _, hr, hgr.1, hgr.2, fun k hk => by cases hk; exact .inr (Nat.le_refl _)⟩

/-! ### Cutting -/
def subV (sz : Nat) (v : Value) (l h : Nat) : Value :=
  match v with
  | .slice a _ cap => .slice (if cap = l then a else a.map (·.add (l * sz))) (h - l) (cap - l)
  | v => v

theorem run_subV {b : TypeId} {l h : Nat} {lo hi : Option Value} (hT : P.underlying t = some (.slice e)) (hS : (P.info? e).map (·.size) = some sz) (hv : Sl w v cs n)
    (hlo : (lo = none ∧ l = 0) ∨ ∃ k, lo = some (.int k (l : Int))) (hhi : (hi = none ∧ h = n) ∨ ∃ k, hi = some (.int k (h : Int))) (h1 : l ≤ h) (h2 : h ≤ n) (w1 : World) :
    (Instr.sliceAt t v lo hi none).run P w1 = .ok (subV sz v l h) w1 := by
  obtain ⟨_, a, c, rfl, hc⟩ := hv
  obtain ⟨ti, g1, g2⟩ : ∃ ti, P.info? e = some ti ∧ ti.size = sz := by
    cases h : P.info? e with
    | none => rw [h] at hS; cases hS
    | some ti => rw [h] at hS; exact ⟨ti, rfl, by simpa using hS⟩
  have hl' : (l : Int) ≤ (h : Int) := by omega
  have hlc : h ≤ c := by omega
  have e0 : (sizeOf e).run P w1 = .ok sz w1 := by simp [sizeOf, typeInfo, g1, g2]
  rcases hlo with ⟨rfl, rfl⟩ | ⟨k1, rfl⟩ <;> rcases hhi with ⟨rfl, rfl⟩ | ⟨k2, rfl⟩ <;>
    simp [Instr.sliceAt, Instr.slice, Instr.sliceBounds, Instr.sliceBound, asIntOf, underlying, hT, e0, subV, h1, hlc]

theorem subV_block (sz : Nat) (v : Value) (l h : Nat) : (subV sz v l h).ownBlock = v.ownBlock := by
  unfold subV
  cases v with
  | slice a n c =>
    simp only [Value.ownBlock]
    split
    · rename_i heq
      cases a with
      | none => simp at heq
      | some a =>
        simp only [Value.slice.injEq, Option.map_some] at heq
        split at heq
        · have := heq.1; simp at this; subst this; rfl
        · have := heq.1; simp at this; subst this; simp [Addr.add]; split <;> rfl
    · rename_i heq
      cases a with
      | none => rfl
      | some a =>
        exfalso
        refine heq (if c = l then a else a.add (l * sz)) (h - l) (c - l) ?_
        simp only [Option.map_some]
        split <;> rfl
  | _ => rfl

theorem Sl.sub {xs : List Value} {l h : Nat} (hv : Sl w v xs n) (hl : xs.length = n * sz) (h1 : l ≤ h) (h2 : h ≤ n) : Sl w (subV sz v l h) ((xs.drop (l * sz)).take ((h - l) * sz)) (h - l) := by
  obtain ⟨hi, a, c, rfl, hc⟩ := hv
  refine ⟨?_, _, c - l, rfl, by omega⟩
  by_cases h0 : h - l = 0
  · rw [h0]
    simp only [Nat.zero_mul, List.take_zero]
    unfold subV
    rw [h0]
    by_cases hcl : c = l
    · subst hcl
      simp only [if_true, Nat.sub_self]
      cases a with
      | none => exact .inl ⟨.inl rfl, rfl, rfl⟩
      | some a => exact .inl ⟨.inr ⟨a, 0, rfl⟩, rfl, rfl⟩
    · simp only [hcl, if_false]
      cases a with
      | none =>
        rcases hi with ⟨h | ⟨a, c', h⟩, _, _⟩ | ⟨b, off, cap, h, _⟩
        · simp at h; omega
        · simp at h
        · simp at h
      | some a => exact .inl ⟨.inr ⟨_, _, rfl⟩, rfl, rfl⟩
  · rcases hi with ⟨_, hn, _⟩ | ⟨b, off, cap, h, hcell⟩
    · omega
    · simp only [Value.slice.injEq] at h
      obtain ⟨rfl, _, rfl⟩ := h
      have hne : ¬ c = l := by omega
      have ha : (⟨b, off, none⟩ : Addr).add (l * sz) = ⟨b, off + l * sz, none⟩ := by unfold Addr.add; split <;> simp_all
      refine .inr ⟨b, off + l * sz, c - l, by simp [subV, hne, ha], fun j u hu => ?_⟩
      rw [List.getElem?_take] at hu
      split at hu
      · rw [List.getElem?_drop] at hu
        have := hcell _ _ hu
        rwa [← Nat.add_assoc] at this
      · cases hu

theorem Vw.sub {xs : List Value} {l h : Nat} (hv : Vw w v e sz n xs) (h1 : l ≤ h) (h2 : h ≤ n) : Vw w (subV sz v l h) e sz (h - l) ((xs.drop (l * sz)).take ((h - l) * sz)) := by
  obtain ⟨hl, hv⟩ := hv
  have hlen : ((xs.drop (l * sz)).take ((h - l) * sz)).length = (h - l) * sz := by
    have e1 : l * sz ≤ n * sz := Nat.mul_le_mul_right _ (by omega)
    have e2 : (h - l) * sz ≤ (n - l) * sz := Nat.mul_le_mul_right _ (by omega)
    rw [Nat.sub_mul n l sz] at e2
    rw [List.length_take, List.length_drop, hl]
    omega
  refine ⟨hlen, ?_⟩
  rcases hv with ⟨rfl, rfl⟩ | ⟨g, off, cap, cur, rfl, hg, hnc, hcm, hcs, htake⟩
  · have : l = 0 := by omega
    have : h = 0 := by omega
    subst l; subst h
    exact .inl ⟨by simp [subV], rfl⟩
  · have ha : (⟨g, off, none⟩ : Addr).add (l * sz) = ⟨g, off + l * sz, none⟩ := by unfold Addr.add; split <;> simp_all
    by_cases hcl : cap = l
    · subst hcl
      have h0 : h - cap = 0 := by omega
      refine .inr ⟨g, off, 0, cur, by simp [subV, h0], hg, by omega, by omega, by omega, by simp [h0]⟩
    · refine .inr ⟨g, off + l * sz, cap - l, cur, by simp [subV, hcl, ha], hg, by omega, by omega, ?_, ?_⟩
      · have e1 : l * sz ≤ cap * sz := Nat.mul_le_mul_right _ (by omega)
        rw [Nat.sub_mul]; omega
      · rw [← htake, List.drop_take, List.take_take, List.drop_drop]
        congr 1
        rw [Nat.min_eq_left]
        have e2 : (h - l) * sz ≤ (n - l) * sz := Nat.mul_le_mul_right _ (by omega)
        rw [Nat.sub_mul n l sz] at e2
        exact e2
end
end Go.GX

/- Operations over the symbolic heap: reading and writing cells, structs, slices. Conditions: as each says. -/
namespace Go.GX
open Go.RowKit
set_option linter.unusedVariables false
set_option linter.unusedSectionVars false
set_option linter.unusedSimpArgs false

/-- Cells o .. o + m - 1. -/
def takeL : Nat → List Value → Option (List Value)
  | 0, _ => some []
  | n + 1, c :: cs => match takeL n cs with
    | some l => some (c :: l)
    | none => none
  | _ + 1, [] => none
def rngV : List Value → Nat → Nat → Option (List Value)
  | cs, 0, m => takeL m cs
  | _ :: cs, o + 1, m => rngV cs o m
  | [], _ + 1, _ => none

theorem takeL_eq : ∀ {m : Nat} {cs us : List Value}, takeL m cs = some us → us = cs.take m ∧ us.length = m
  | 0, cs, us, h => by simp [takeL] at h; subst h; simp
  | n + 1, [], us, h => by simp [takeL] at h
  | n + 1, c :: cs, us, h => by
    unfold takeL at h
    split at h
    · rename_i l hl; cases h
      obtain ⟨h1, h2⟩ := takeL_eq hl
      exact ⟨by simp [h1], by simp [h2]⟩
    · cases h
theorem rngV_eq : ∀ {o m : Nat} {cs us : List Value}, rngV cs o m = some us → us = (cs.drop o).take m ∧ us.length = m
  | 0, m, cs, us, h => by unfold rngV at h; simpa using takeL_eq h
  | o + 1, m, c :: cs, us, h => by unfold rngV at h; simpa using rngV_eq h
  | o + 1, m, [], us, h => by simp [rngV] at h
theorem rngV_get {o m : Nat} {cs us : List Value} (h : rngV cs o m = some us) : ∀ (j : Nat) u, us[j]? = some u → cs[o + j]? = some u := by
  obtain ⟨h1, h2⟩ := rngV_eq h
  intro j u hu
  have hj : j < m := by
    have := (List.getElem?_eq_some_iff.1 hu).1; omega
  rw [h1, List.getElem?_take_of_lt hj, List.getElem?_drop] at hu
  exact hu

def overW : List Value → List Value → List Value
  | [], cs => cs
  | u :: us, _ :: cs => u :: overW us cs
  | _ :: _, [] => []
def putR : List Value → Nat → List Value → List Value
  | cs, 0, us => overW us cs
  | c :: cs, o + 1, us => c :: putR cs o us
  | [], _ + 1, _ => []
def lenV : List Value → Nat
  | [] => 0
  | _ :: r => lenV r + 1
theorem lenV_eq : ∀ (l : List Value), lenV l = l.length
  | [] => rfl
  | _ :: r => by simp [lenV, lenV_eq r]
theorem overW_eq : ∀ {us cs : List Value}, us.length ≤ cs.length → overW us cs = us ++ cs.drop us.length
  | [], cs, _ => by simp [overW]
  | u :: us, [], h => by simp at h
  | u :: us, c :: cs, h => by simp [overW, overW_eq (us := us) (cs := cs) (by simpa using h)]
theorem putR_eq : ∀ {o : Nat} {us cs : List Value}, o + us.length ≤ cs.length → putR cs o us = cs.take o ++ us ++ cs.drop (o + us.length)
  | 0, us, cs, h => by unfold putR; rw [overW_eq (by omega)]; simp
  | o + 1, us, [], h => by simp at h
  | o + 1, us, c :: cs, h => by
    unfold putR
    rw [putR_eq (by simp at h; omega)]
    simp only [List.take_succ_cons, List.cons_append, List.append_assoc]
    rw [show o + 1 + us.length = (o + us.length) + 1 by omega, List.drop_succ_cons]
theorem putR_length {o : Nat} {us cs : List Value} (h : o + us.length ≤ cs.length) : (putR cs o us).length = cs.length := by
  rw [putR_eq h]; simp; omega

def allOne : List Value → Bool
  | [] => true
  | .agg _ :: _ => false
  | .tuple _ :: _ => false
  | _ :: r => allOne r
theorem allOne_spec : ∀ {us : List Value}, allOne us = true → ∀ u ∈ us, u.oneCell' = true
  | [], _, u, hu => by cases hu
  | v :: r, h, u, hu => by
    rcases List.mem_cons.1 hu with rfl | hu
    · cases u <;> first | rfl | (simp [allOne] at h)
    · refine allOne_spec (us := r) ?_ u hu
      cases v <;> first | exact h | (simp [allOne] at h)

section
variable {P : Program} {f : FuncId} {N : Nat} {k : List Item} {σ : Store} {B : Base} {H H' : List Chunk} {R : Ending → World → Prop} {ops l : List Oper} {o : Oper} {K : Act → World → Prop} {KQ : Act → Prop}
  {d : Nat} {op : Op} {ty : TypeId} {pos : String} {af : Array Edge} {gd : Option (Nat × Bool)} {v u : Value} {w : World} {d' : Option Tmp}

/-! ### Reading -/
theorem hx_loadB {t : TypeId} {td : TypeDesc} {x : Operand} {b j : Nat} {T : TypeId} {cs : List Value} (i : Nat) (hi : nthC H i = some (blkC b cs T)) (hT : P.underlying t = some td) (hp : plainT td = true)
    (hx : lookO σ x = some (.pointer (some ⟨b, j, none⟩))) (hu : nthV cs j = some u) : ∀ w, Sat B H w → (execOp (evO σ) ⟨d', .load t x, ty, pos, af, gd⟩).run P w = .ok (.value u) w := by
  intro w hw
  have hB : Blk w b cs T := hw.nth hi
  exact ex_load1 hT hp (evO_of_lookO hx) (by rw [hB.cell, ← nthV_eq]; exact hu)

theorem hx_loadR {t : TypeId} {td : TypeDesc} {x : Operand} {b o m : Nat} {T : TypeId} {cs us : List Value} (i : Nat) (hi : nthC H i = some (blkC b cs T)) (hT : P.underlying t = some td) (hr : td.isRow = true) (hm : (P.info? t).map (·.size) = some m)
    (hx : lookO σ x = some (.pointer (some ⟨b, o, none⟩))) (hu : rngV cs o m = some us) : ∀ w, Sat B H w → (execOp (evO σ) ⟨d', .load t x, ty, pos, af, gd⟩).run P w = .ok (.value (.agg ⟨us⟩)) w := by
  intro w hw
  have hB : Blk w b cs T := hw.nth hi
  exact ex_loadS (cs := us) (fun j u hj => by rw [hB.cell]; exact rngV_get hu j u hj) hT hr (by rw [(rngV_eq hu).2]; exact hm) hx

/-- A slice that the heap lets be read. -/
def Rd (B : Base) (H : List Chunk) (v : Value) (cs : List Value) (n : Nat) : Prop := ∀ w, Sat B H w → Sl w v cs n
theorem Rd.arg {w0 : World} {cs : List Value} {n : Nat} (hv : Sl w0 v cs n) : Rd (base w0) H v cs n := fun w hw => hv.ext hw.belowB
theorem Rd.old {cs : List Value} {n : Nat} (hv : Sl B.w v cs n) (hX : ∀ k, v.ownBlock = some k → ¬ B.X k) : Rd B H v cs n := by
  intro w hw
  refine ⟨?_, hv.2⟩
  rcases hv.1 with h | ⟨b, off, cap, rfl, hc⟩
  · exact .inl h
  · refine .inr ⟨b, off, cap, rfl, fun j u hu => ?_⟩
    have h1 := hc j u hu
    have hlt := World.block_lt_of_cell? B.w ⟨b, off + j, none⟩ h1
    have := hw.block b hlt (hX b rfl)
    simp only [World.cell?] at h1 ⊢
    rw [this]; exact h1
theorem Rd.own {e sz n : Nat} {xs : List Value} (i : Nat) (hi : nthC H i = some (ownC v e sz n xs)) : Rd B H v xs n := fun w hw => (show Vw w v e sz n xs from hw.nth hi).sl
theorem Rd.nil : Rd B H (.slice none 0 0) [] 0 := fun w _ => Sl.nil w
theorem Rd.sub {sz n l h : Nat} {xs : List Value} (hv : Rd B H v xs n) (hl : xs.length = n * sz) (h1 : l ≤ h) (h2 : h ≤ n) : Rd B H (subV sz v l h) ((xs.drop (l * sz)).take ((h - l) * sz)) (h - l) := fun w hw => (hv w hw).sub hl h1 h2
theorem Rd.at {n : Nat} {xs : List Value} (hv : Rd B H v xs n) (hw : Sat B H w) : Sl w v xs n := hv w hw
theorem Rd.is {n : Nat} {xs : List Value} (hv : Rd B H v xs n) (hw : Sat B H w) : IsSl w v xs n := (hv w hw).1

theorem hx_len {t e : TypeId} {x : Operand} {n : Nat} {cs : List Value} (hv : Rd B H v cs n) (hT : P.underlying t = some (.slice e)) (hx : lookO σ x = some v) :
    ∀ w, Sat B H w → (execOp (evO σ) ⟨d', .call ⟨.builtin .len, #[x], #[t]⟩, ty, pos, af, gd⟩).run P w = .ok (.value (.int .i64 (n : Int))) w := fun w hw => ex_lenI (hv.is hw) hT hx w
theorem hx_idx {t e sz bytes : TypeId} {x i : Operand} {n : Nat} {cs : List Value} {kk : IntKind} {m : Int} (hv : Rd B H v cs n) (hE : Elem P t e sz bytes) (j : Nat) (hx : lookO σ x = some v) (hi : lookO σ i = some (.int kk m)) (hj : m = (j : Int)) (hlt : j < n) :
    ∀ w, Sat B H w → (execOp (evO σ) ⟨d', .indexAddr t x i, ty, pos, af, gd⟩).run P w = .ok (.value (elemPtr v (j * sz))) w := fun w hw => ex_idxI (hv.is hw) hE hx hi j hj hlt w
/-- An element of one cell. -/
theorem hx_loadI {t : TypeId} {td : TypeDesc} {x : Operand} {n j : Nat} {cs : List Value} (hv : Rd B H v cs n) (hT : P.underlying t = some td) (hp : plainT td = true) (hx : lookO σ x = some (elemPtr v j)) (hu : cs[j]? = some u) :
    ∀ w, Sat B H w → (execOp (evO σ) ⟨d', .load t x, ty, pos, af, gd⟩).run P w = .ok (.value u) w := by
  intro w hw
  obtain ⟨p, h1, h2, _⟩ := (hv.is hw).cell hu
  rw [h1] at hx
  exact ex_load1 hT hp (evO_of_lookO hx) h2
/-- An element of more cells. -/
theorem hx_loadE {t : TypeId} {td : TypeDesc} {x : Operand} {n j : Nat} {cs us : List Value} (hv : Rd B H v cs n) (hT : P.underlying t = some td) (hr : td.isRow = true) (hm : (P.info? t).map (·.size) = some us.length) (hne : us ≠ []) (hx : lookO σ x = some (elemPtr v j)) (hu : ∀ (i : Nat) u, us[i]? = some u → cs[j + i]? = some u) :
    ∀ w, Sat B H w → (execOp (evO σ) ⟨d', .load t x, ty, pos, af, gd⟩).run P w = .ok (.value (.agg ⟨us⟩)) w := by
  intro w hw
  obtain ⟨b, o, e1, e2⟩ := (hv.is hw).range (m := 0) hne hu
  rw [e1] at hx
  exact ex_loadS e2 hT hr hm hx
/-- The place of a field of an element. -/
theorem hx_fieldE {s : TypeId} {x : Operand} {fl : List Field} {fi j n : Nat} {fd : Field} {ti : TypeInfo} {cs : List Value} (hv : Rd B H v cs n) (hj : j < cs.length) (hT : P.underlying s = some (.struct ⟨fl⟩)) (hf : nthF fl fi = some fd) (hti : P.info? fd.type = some ti) (hz : Nat.ble 1 ti.size = true) (hx : lookO σ x = some (elemPtr v j)) :
    ∀ w, Sat B H w → (execOp (evO σ) ⟨some d, .fieldAddr s x fi, ty, pos, af, gd⟩).run P w = .ok (.value (elemPtr v (j + fd.offset))) w := by
  intro w hw
  rcases (hv.is hw) with ⟨_, _, rfl⟩ | ⟨b, off, cap, rfl, _⟩
  · simp at hj
  · have hx' : lookO σ x = some (.pointer (some ⟨b, off + j, none⟩)) := hx
    have hz' : ti.size ≠ 0 := by have := Nat.le_of_ble_eq_true hz; omega
    have hc : evC P σ (.fieldAddr s x fi) = some (.pointer (some ⟨b, plusO (off + j) fd.offset, none⟩), 0 < 1) := by
      simp only [evC, hT, hx', hf, hti]
      split
      · rename_i h0; exact absurd h0 hz'
      · rfl
    have := evC_run (P := P) (w := w) (d := some d) (ty := ty) (pos := pos) (af := af) (gd := gd) hc (by decide)
    rw [this, plusO_eq]
    simp [elemPtr, Nat.add_assoc]

theorem hx_sub {t e sz : TypeId} {x : Operand} {lo hi : Option Operand} {n l h : Nat} {cs : List Value} (hv : Rd B H v cs n) (hT : P.underlying t = some (.slice e)) (hS : (P.info? e).map (·.size) = some sz) (hx : lookO σ x = some v)
    (hlo : (lo = none ∧ l = 0) ∨ ∃ y k, lo = some y ∧ lookO σ y = some (.int k (l : Int))) (hhi : (hi = none ∧ h = n) ∨ ∃ y k, hi = some y ∧ lookO σ y = some (.int k (h : Int))) (h1 : l ≤ h) (h2 : h ≤ n) :
    ∀ w, Sat B H w → (execOp (evO σ) ⟨d', .slice t x lo hi none, ty, pos, af, gd⟩).run P w = .ok (.value (subV sz v l h)) w := by
  intro w hw
  have := run_subV (P := P) (v := v) (lo := lo.map (evO σ)) (hi := hi.map (evO σ)) (b := 0) hT hS (hv w hw) (by
    rcases hlo with ⟨rfl, h⟩ | ⟨y, k, rfl, h⟩
    · exact .inl ⟨rfl, h⟩
    · exact .inr ⟨k, by simp [evO_of_lookO h]⟩) (by
    rcases hhi with ⟨rfl, h⟩ | ⟨y, k, rfl, h⟩
    · exact .inl ⟨rfl, h⟩
    · exact .inr ⟨k, by simp [evO_of_lookO h]⟩) h1 h2 w
  simp [execOp, evO_of_lookO hx, this]

theorem HL.lenR {t e : TypeId} {x : Operand} {n : Nat} {cs : List Value} (hv : Rd B H v cs n) (hs : stat N ops ⟨some d, .call ⟨.builtin .len, #[x], #[t]⟩, ty, pos, af, gd⟩ σ = true) (hT : P.underlying t = some (.slice e)) (hx : lookO σ x = some v)
    (h : HL P N ops l ((d, .int .i64 (n : Int)) :: σ) B H K) : HL P N ops (⟨some d, .call ⟨.builtin .len, #[x], #[t]⟩, ty, pos, af, gd⟩ :: l) σ B H K := HL.rd hs (hx_len hv hT hx) h
theorem HQ.lenR {t e : TypeId} {x : Operand} {n : Nat} {cs : List Value} (hv : Rd B H v cs n) (hs : stat N ops ⟨some d, .call ⟨.builtin .len, #[x], #[t]⟩, ty, pos, af, gd⟩ σ = true) (hT : P.underlying t = some (.slice e)) (hx : lookO σ x = some v)
    (h : HQ P N ops l ((d, .int .i64 (n : Int)) :: σ) B H KQ) : HQ P N ops (⟨some d, .call ⟨.builtin .len, #[x], #[t]⟩, ty, pos, af, gd⟩ :: l) σ B H KQ := RunQ.op hs (hx_len hv hT hx) h
theorem HL.idxR {t e sz bytes : TypeId} {x i : Operand} {n : Nat} {cs : List Value} {kk : IntKind} {m : Int} (hv : Rd B H v cs n) (hE : Elem P t e sz bytes) (j : Nat) (hs : stat N ops ⟨some d, .indexAddr t x i, ty, pos, af, gd⟩ σ = true) (hx : lookO σ x = some v) (hi : lookO σ i = some (.int kk m)) (hj : m = (j : Int)) (hlt : j < n)
    (h : HL P N ops l ((d, elemPtr v (j * sz)) :: σ) B H K) : HL P N ops (⟨some d, .indexAddr t x i, ty, pos, af, gd⟩ :: l) σ B H K := HL.rd hs (hx_idx hv hE j hx hi hj hlt) h
theorem HQ.idxR {t e sz bytes : TypeId} {x i : Operand} {n : Nat} {cs : List Value} {kk : IntKind} {m : Int} (hv : Rd B H v cs n) (hE : Elem P t e sz bytes) (j : Nat) (hs : stat N ops ⟨some d, .indexAddr t x i, ty, pos, af, gd⟩ σ = true) (hx : lookO σ x = some v) (hi : lookO σ i = some (.int kk m)) (hj : m = (j : Int)) (hlt : j < n)
    (h : HQ P N ops l ((d, elemPtr v (j * sz)) :: σ) B H KQ) : HQ P N ops (⟨some d, .indexAddr t x i, ty, pos, af, gd⟩ :: l) σ B H KQ := RunQ.op hs (hx_idx hv hE j hx hi hj hlt) h
theorem HL.loadI {t : TypeId} {td : TypeDesc} {x : Operand} {n j : Nat} {cs : List Value} (hv : Rd B H v cs n) (hs : stat N ops ⟨some d, .load t x, ty, pos, af, gd⟩ σ = true) (hT : P.underlying t = some td) (hp : plainT td = true) (hx : lookO σ x = some (elemPtr v j)) (hu : cs[j]? = some u)
    (h : HL P N ops l ((d, u) :: σ) B H K) : HL P N ops (⟨some d, .load t x, ty, pos, af, gd⟩ :: l) σ B H K := HL.rd hs (hx_loadI hv hT hp hx hu) h
theorem HQ.loadI {t : TypeId} {td : TypeDesc} {x : Operand} {n j : Nat} {cs : List Value} (hv : Rd B H v cs n) (hs : stat N ops ⟨some d, .load t x, ty, pos, af, gd⟩ σ = true) (hT : P.underlying t = some td) (hp : plainT td = true) (hx : lookO σ x = some (elemPtr v j)) (hu : cs[j]? = some u)
    (h : HQ P N ops l ((d, u) :: σ) B H KQ) : HQ P N ops (⟨some d, .load t x, ty, pos, af, gd⟩ :: l) σ B H KQ := RunQ.op hs (hx_loadI hv hT hp hx hu) h
theorem HL.loadE {t : TypeId} {td : TypeDesc} {x : Operand} {n j : Nat} {cs us : List Value} (hv : Rd B H v cs n) (hs : stat N ops ⟨some d, .load t x, ty, pos, af, gd⟩ σ = true) (hT : P.underlying t = some td) (hr : td.isRow = true) (hm : (P.info? t).map (·.size) = some us.length) (hne : us ≠ []) (hx : lookO σ x = some (elemPtr v j)) (hu : ∀ (i : Nat) u, us[i]? = some u → cs[j + i]? = some u)
    (h : HL P N ops l ((d, .agg ⟨us⟩) :: σ) B H K) : HL P N ops (⟨some d, .load t x, ty, pos, af, gd⟩ :: l) σ B H K := HL.rd hs (hx_loadE hv hT hr hm hne hx hu) h
theorem HQ.loadE {t : TypeId} {td : TypeDesc} {x : Operand} {n j : Nat} {cs us : List Value} (hv : Rd B H v cs n) (hs : stat N ops ⟨some d, .load t x, ty, pos, af, gd⟩ σ = true) (hT : P.underlying t = some td) (hr : td.isRow = true) (hm : (P.info? t).map (·.size) = some us.length) (hne : us ≠ []) (hx : lookO σ x = some (elemPtr v j)) (hu : ∀ (i : Nat) u, us[i]? = some u → cs[j + i]? = some u)
    (h : HQ P N ops l ((d, .agg ⟨us⟩) :: σ) B H KQ) : HQ P N ops (⟨some d, .load t x, ty, pos, af, gd⟩ :: l) σ B H KQ := RunQ.op hs (hx_loadE hv hT hr hm hne hx hu) h
theorem HL.fieldE {s : TypeId} {x : Operand} {fl : List Field} {fi j n : Nat} {fd : Field} {ti : TypeInfo} {cs : List Value} (hv : Rd B H v cs n) (hj : j < cs.length) (hs : stat N ops ⟨some d, .fieldAddr s x fi, ty, pos, af, gd⟩ σ = true) (hT : P.underlying s = some (.struct ⟨fl⟩)) (hf : nthF fl fi = some fd) (hti : P.info? fd.type = some ti) (hz : Nat.ble 1 ti.size = true) (hx : lookO σ x = some (elemPtr v j))
    (h : HL P N ops l ((d, elemPtr v (j + fd.offset)) :: σ) B H K) : HL P N ops (⟨some d, .fieldAddr s x fi, ty, pos, af, gd⟩ :: l) σ B H K := HL.rd hs (hx_fieldE hv hj hT hf hti hz hx) h
theorem HQ.fieldE {s : TypeId} {x : Operand} {fl : List Field} {fi j n : Nat} {fd : Field} {ti : TypeInfo} {cs : List Value} (hv : Rd B H v cs n) (hj : j < cs.length) (hs : stat N ops ⟨some d, .fieldAddr s x fi, ty, pos, af, gd⟩ σ = true) (hT : P.underlying s = some (.struct ⟨fl⟩)) (hf : nthF fl fi = some fd) (hti : P.info? fd.type = some ti) (hz : Nat.ble 1 ti.size = true) (hx : lookO σ x = some (elemPtr v j))
    (h : HQ P N ops l ((d, elemPtr v (j + fd.offset)) :: σ) B H KQ) : HQ P N ops (⟨some d, .fieldAddr s x fi, ty, pos, af, gd⟩ :: l) σ B H KQ := RunQ.op hs (hx_fieldE hv hj hT hf hti hz hx) h
theorem HL.loadB {t : TypeId} {td : TypeDesc} {x : Operand} {b j : Nat} {T : TypeId} {cs : List Value} (i : Nat) (hx : lookO σ x = some (.pointer (some ⟨b, j, none⟩))) (hi : nthC H i = some (blkC b cs T)) (hs : stat N ops ⟨some d, .load t x, ty, pos, af, gd⟩ σ = true) (hT : P.underlying t = some td) (hp : plainT td = true) (hu : nthV cs j = some u)
    (h : HL P N ops l ((d, u) :: σ) B H K) : HL P N ops (⟨some d, .load t x, ty, pos, af, gd⟩ :: l) σ B H K := HL.rd hs (hx_loadB i hi hT hp hx hu) h
theorem HQ.loadB {t : TypeId} {td : TypeDesc} {x : Operand} {b j : Nat} {T : TypeId} {cs : List Value} (i : Nat) (hx : lookO σ x = some (.pointer (some ⟨b, j, none⟩))) (hi : nthC H i = some (blkC b cs T)) (hs : stat N ops ⟨some d, .load t x, ty, pos, af, gd⟩ σ = true) (hT : P.underlying t = some td) (hp : plainT td = true) (hu : nthV cs j = some u)
    (h : HQ P N ops l ((d, u) :: σ) B H KQ) : HQ P N ops (⟨some d, .load t x, ty, pos, af, gd⟩ :: l) σ B H KQ := RunQ.op hs (hx_loadB i hi hT hp hx hu) h
theorem HL.loadR {t : TypeId} {td : TypeDesc} {x : Operand} {b o m : Nat} {T : TypeId} {cs us : List Value} (i : Nat) (hx : lookO σ x = some (.pointer (some ⟨b, o, none⟩))) (hi : nthC H i = some (blkC b cs T)) (hs : stat N ops ⟨some d, .load t x, ty, pos, af, gd⟩ σ = true) (hT : P.underlying t = some td) (hr : td.isRow = true) (hm : (P.info? t).map (·.size) = some m) (hu : rngV cs o m = some us)
    (h : HL P N ops l ((d, .agg ⟨us⟩) :: σ) B H K) : HL P N ops (⟨some d, .load t x, ty, pos, af, gd⟩ :: l) σ B H K := HL.rd hs (hx_loadR i hi hT hr hm hx hu) h
theorem HQ.loadR {t : TypeId} {td : TypeDesc} {x : Operand} {b o m : Nat} {T : TypeId} {cs us : List Value} (i : Nat) (hx : lookO σ x = some (.pointer (some ⟨b, o, none⟩))) (hi : nthC H i = some (blkC b cs T)) (hs : stat N ops ⟨some d, .load t x, ty, pos, af, gd⟩ σ = true) (hT : P.underlying t = some td) (hr : td.isRow = true) (hm : (P.info? t).map (·.size) = some m) (hu : rngV cs o m = some us)
    (h : HQ P N ops l ((d, .agg ⟨us⟩) :: σ) B H KQ) : HQ P N ops (⟨some d, .load t x, ty, pos, af, gd⟩ :: l) σ B H KQ := RunQ.op hs (hx_loadR i hi hT hr hm hx hu) h
theorem HL.subR {t e sz : TypeId} {x : Operand} {lo hi : Option Operand} {n : Nat} (a b : Nat) {cs : List Value} (hv : Rd B H v cs n) (hs : stat N ops ⟨some d, .slice t x lo hi none, ty, pos, af, gd⟩ σ = true) (hT : P.underlying t = some (.slice e)) (hS : (P.info? e).map (·.size) = some sz) (hx : lookO σ x = some v)
    (hlo : (lo = none ∧ a = 0) ∨ ∃ y k, lo = some y ∧ lookO σ y = some (.int k (a : Int))) (hhi : (hi = none ∧ b = n) ∨ ∃ y k, hi = some y ∧ lookO σ y = some (.int k (b : Int))) (h1 : a ≤ b) (h2 : b ≤ n)
    (h : HL P N ops l ((d, subV sz v a b) :: σ) B H K) : HL P N ops (⟨some d, .slice t x lo hi none, ty, pos, af, gd⟩ :: l) σ B H K := HL.rd hs (hx_sub hv hT hS hx hlo hhi h1 h2) h

/-! ### What kind of operation stands ahead -/
theorem HL.isOp (h : HL P N ops (o :: l) σ B H K) : HL P N ops (o :: l) σ B H K := h
theorem HL.isLoad {t : TypeId} {x : Operand} (h : HL P N ops (⟨some d, .load t x, ty, pos, af, gd⟩ :: l) σ B H K) : HL P N ops (⟨some d, .load t x, ty, pos, af, gd⟩ :: l) σ B H K := h
theorem HL.isStore {t : TypeId} {x y : Operand} (h : HL P N ops (⟨none, .store t x y, ty, pos, af, gd⟩ :: l) σ B H K) : HL P N ops (⟨none, .store t x y, ty, pos, af, gd⟩ :: l) σ B H K := h
theorem HL.isCall {g : Operand} {as : Array Operand} {ts : Array TypeId} (h : HL P N ops (⟨some d, .call ⟨.value g, as, ts⟩, ty, pos, af, gd⟩ :: l) σ B H K) : HL P N ops (⟨some d, .call ⟨.value g, as, ts⟩, ty, pos, af, gd⟩ :: l) σ B H K := h
theorem HQ.isOp (h : HQ P N ops (o :: l) σ B H KQ) : HQ P N ops (o :: l) σ B H KQ := h
theorem HQ.isLoad {t : TypeId} {x : Operand} (h : HQ P N ops (⟨some d, .load t x, ty, pos, af, gd⟩ :: l) σ B H KQ) : HQ P N ops (⟨some d, .load t x, ty, pos, af, gd⟩ :: l) σ B H KQ := h
/-! ### New variables -/
theorem HL.box {x : Operand} {T : TypeId} (hs : stat N ops ⟨some d, .box T x, ty, pos, af, gd⟩ σ = true) (hx : lookO σ x = some u)
    (h : ∀ b, HL P N ops l ((d, .pointer (some ⟨b, 0, none⟩)) :: σ) B (blkC b (cellsL u) T :: H) K) : HL P N ops (⟨some d, .box T x, ty, pos, af, gd⟩ :: l) σ B H K :=
  fun w hw => RunL.box hs hx fun w' h1 h2 _ => h w.heap.size w' (hw.push h2 h1 fun k hk => Nat.le_of_eq hk.symm)
theorem HL.alloc {T : TypeId} (hs : stat N ops ⟨some d, .alloc T, ty, pos, af, gd⟩ σ = true) (hz : (P.info? T).bind (·.zero) = some u)
    (h : ∀ b, HL P N ops l ((d, .pointer (some ⟨b, 0, none⟩)) :: σ) B (blkC b (cellsL u) T :: H) K) : HL P N ops (⟨some d, .alloc T, ty, pos, af, gd⟩ :: l) σ B H K :=
  fun w hw => RunL.alloc hs hz fun w' h1 h2 _ => h w.heap.size w' (hw.push h2 h1 fun k hk => Nat.le_of_eq hk.symm)

/-! ### Writing a block -/
theorem run_storeR {t : TypeId} {b o : Nat} {T : TypeId} {cs us : List Value} {y : Value} (hB : Blk w b cs T) (hm : (P.info? t).map (·.size) = some us.length) (hy : cellsL y = us) (hone : allOne us = true) (hfit : o + us.length ≤ cs.length) :
    (storeVar t ⟨b, o, none⟩ y).run P w = .ok () (w.setRow b (putR cs o us).toArray) := by
  have e1 : (sizeOf t).run P w = .ok us.length w := by
    cases h : P.info? t with
    | none => rw [h] at hm; cases hm
    | some ti => rw [h] at hm; simp at hm; simp [sizeOf, typeInfo, h, hm]
  have hst := run_storeCells_at P b o T us 0 cs.toArray w hB (by simpa using hfit) (allOne_spec hone)
  have hc : y.cells = us.toArray := by rw [cellsL_eq, hy]
  simp only [Nat.add_zero] at hst
  have e2 : (cs.toArray.toList.take o ++ us ++ cs.toArray.toList.drop (o + us.length)).toArray = (putR cs o us).toArray := by rw [putR_eq hfit]
  rw [e2] at hst
  unfold storeVar
  rw [Sem.run_bind, e1]
  simp only [Result.andThen_ok, hc]
  simp [hst]

theorem HL.storeR {t : TypeId} {x y : Operand} {b o : Nat} {T : TypeId} {cs us : List Value} (i : Nat) (hx : lookO σ x = some (.pointer (some ⟨b, o, none⟩))) (hi : nthC H i = some (blkC b cs T)) (hs : stat N ops ⟨none, .store t x y, ty, pos, af, gd⟩ σ = true)
    (hy : lookO σ y = some u) (hus : cellsL u = us) (hm : (P.info? t).map (·.size) = some (lenV us)) (hone : allOne us = true) (hfit : Nat.ble (o + lenV us) (lenV cs) = true)
    (h : HL P N ops l σ B (setC H i (blkC b (putR cs o us) T)) K) : HL P N ops (⟨none, .store t x y, ty, pos, af, gd⟩ :: l) σ B H K := by
  rw [lenV_eq] at hm
  have hfit' := Nat.le_of_ble_eq_true hfit
  rw [lenV_eq, lenV_eq] at hfit'
  refine HL.opU hs (fun w hw => ?_) h
  have hB : Blk w b cs T := hw.nth hi
  have hr := run_storeR (P := P) (t := t) (o := o) hB hm hus hone hfit'
  have hB2 := hB
  unfold Blk at hB2
  refine ⟨w.setRow b (putR cs o us).toArray, ?_, ?_⟩
  · simp [execOp, evO_of_lookO hx, evO_of_lookO hy, Instr.storeAt, Instr.sureAddr, hr]
  · refine hw.upd hi rfl rfl rfl (by simp [World.setRow]) (fun k hk hne => ?_) ?_ (fun k hk => .inl hk)
    · exact setRow_other w b k _ (fun e => hne e)
    · show Blk _ b _ T
      unfold Blk; simp [World.setRow, hB2, Array.getElem?_modify]

/-! ### Own slices -/
theorem HL.appR {t e sz bytes : TypeId} {s x : Operand} {v2 : Value} {n m : Nat} {xs news : List Value} (i : Nat) (hi : nthC H i = some (ownC v e sz n xs)) (hE : Elem P t e sz bytes) (hv2 : Rd B H v2 news m)
    (hs : stat N ops ⟨some d, .call ⟨.builtin .append, #[s, x], #[t, t]⟩, ty, pos, af, gd⟩ σ = true) (hx : lookO σ s = some v) (hy : lookO σ x = some v2) (hl : news.length = m * sz) (h1 : ∀ u ∈ news, u.oneCell' = true)
    (hb : (n + m) * bytes ≤ 140737488355328) (h63 : n + m ≤ 9223372036854775807)
    (h : ∀ v', HL P N ops l ((d, v') :: σ) B (setC H i (ownC v' e sz (n + m) (xs ++ news))) K) : HL P N ops (⟨some d, .call ⟨.builtin .append, #[s, x], #[t, t]⟩, ty, pos, af, gd⟩ :: l) σ B H K := by
  refine HL.opX (fun v => v) (fun v' => setC H i (ownC v' e sz (n + m) (xs ++ news))) (fun _ => True) hs (fun w hw => ?_) (fun v' _ => h v')
  obtain ⟨v', w', hr, h2, h3, h4⟩ := run_append_vw (P := P) (ty := ty) hE (show Vw w v e sz n xs from hw.nth hi) (hv2.is hw) hl h1 hb h63
  refine ⟨v', w', ?_, trivial, hw.updG hi h3 (fun k hk => hk) h2 h4⟩
  simp [execOp, resolve, evO_of_lookO hx, evO_of_lookO hy, invoke, builtin, hr]

theorem HL.bslice {t e sz bytes : TypeId} {ps : List (Nat × Operand)} {xs : List Operand} {vs : List Value} {m : Nat} {cs : List Value} (hE : Elem P t e sz bytes) (hs : stat N ops ⟨some d, .buildSlice t m ps.toArray, ty, pos, af, gd⟩ σ = true) (hps : partsX 0 ps = some xs) (hvs : vals σ xs = some vs) (hcs : flatC sz vs = some cs) (hm : vs.length = m) (hsm : m * sz ≤ 16777216) (hm0 : 0 < m)
    (h : ∀ v', HL P N ops l ((d, v') :: σ) B (ownC v' e sz m cs :: H) K) : HL P N ops (⟨some d, .buildSlice t m ps.toArray, ty, pos, af, gd⟩ :: l) σ B H K :=
  fun w hw => RunL.bslice hE hs hps hvs hcs hm hsm hm0 fun w' v' h1 h2 h3 => h v' w' (hw.push h3 (Vw.of_own h1) (ownsRow_ge h1))

/-- A nil slice begins a chunk. -/
theorem Sat.nilC (h : Sat B H w) (e sz : Nat) : Sat B (ownC (.slice none 0 0) e sz 0 [] :: H) w :=
  h.push (Below.refl _ _) ⟨by simp, .inl ⟨rfl, rfl⟩⟩ (fun k hk => by cases hk)
theorem HL.nilC (e sz : Nat) (h : HL P N ops l σ B (ownC (.slice none 0 0) e sz 0 [] :: H) K) : HL P N ops l σ B H K := fun w hw => h w (hw.nilC e sz)
theorem HR.nilC (e sz : Nat) (h : HR P f N k σ B (ownC (.slice none 0 0) e sz 0 [] :: H) R) : HR P f N k σ B H R := fun w hw => h w (hw.nilC e sz)
theorem HL.subO {t e sz : TypeId} {x : Operand} {lo hi : Option Operand} {n : Nat} (a b : Nat) {cs : List Value} (i : Nat) (hi' : nthC H i = some (ownC v e sz n cs)) (hs : stat N ops ⟨some d, .slice t x lo hi none, ty, pos, af, gd⟩ σ = true) (hT : P.underlying t = some (.slice e)) (hS : (P.info? e).map (·.size) = some sz) (hx : lookO σ x = some v)
    (hlo : (lo = none ∧ a = 0) ∨ ∃ y k, lo = some y ∧ lookO σ y = some (.int k (a : Int))) (hhi : (hi = none ∧ b = n) ∨ ∃ y k, hi = some y ∧ lookO σ y = some (.int k (b : Int))) (h1 : a ≤ b) (h2 : b ≤ n)
    (h : HL P N ops l ((d, subV sz v a b) :: σ) B (setC H i (ownC (subV sz v a b) e sz (b - a) ((cs.drop (a * sz)).take ((b - a) * sz)))) K) : HL P N ops (⟨some d, .slice t x lo hi none, ty, pos, af, gd⟩ :: l) σ B H K := by
  refine HL.rd hs (hx_sub (Rd.own i hi') hT hS hx hlo hhi h1 h2) fun w hw => h w (hw.as i hi' (fun hv => Vw.sub hv h1 h2) (fun k hk => ?_))
  have hk' : (subV sz v a b).ownBlock = some k := hk
  rw [subV_block] at hk'
  exact hk'

theorem flat_rep (zl : List Value) (hz : 0 < zl.length) : ∀ (n j : Nat), j < n * zl.length → ((List.replicate n zl).flatten)[j]? = zl[j % zl.length]?
  | 0, j, h => by simp at h
  | n + 1, j, h => by
    rw [List.replicate_succ, List.flatten_cons]
    by_cases hj : j < zl.length
    · rw [List.getElem?_append_left hj, Nat.mod_eq_of_lt hj]
    · rw [List.getElem?_append_right (by omega), flat_rep zl hz n (j - zl.length) (by rw [Nat.add_mul, Nat.one_mul] at h; omega)]
      rw [Nat.mod_eq_sub_mod (a := j) (by omega)]
theorem flat_rep_length (zl : List Value) : ∀ n, ((List.replicate n zl).flatten).length = n * zl.length
  | 0 => by simp
  | n + 1 => by rw [List.replicate_succ, List.flatten_cons, List.length_append, flat_rep_length zl n, Nat.add_mul]; omega

theorem HL.makeS {t e sz bytes : TypeId} {nn cc : Operand} {z : Value} {k1 k2 : IntKind} {a c : Int} (n cap : Nat) (hE : Elem P t e sz bytes) (hz : (P.info? e).bind (·.zero) = some z) (hs : stat N ops ⟨some d, .makeSlice t nn cc, ty, pos, af, gd⟩ σ = true)
    (hn : lookO σ nn = some (.int k1 a)) (hc : lookO σ cc = some (.int k2 c)) (ha : a = (n : Int)) (hac : c = (cap : Int)) (hnc : n ≤ cap) (hcb : bytes * cap ≤ 281474976710656) (hcm : cap ≤ 9223372036854775807)
    (h : ∀ v', HL P N ops l ((d, v') :: σ) B (ownC v' e sz n ((List.replicate n (cellsL z)).flatten) :: H) K) : HL P N ops (⟨some d, .makeSlice t nn cc, ty, pos, af, gd⟩ :: l) σ B H K := by
  subst ha
  subst hac
  obtain ⟨i, z', g1, g2, g3, g4, g5⟩ := hE.info
  have hzz : z' = z := by rw [g1] at hz; simpa [g2] using hz
  subst hzz
  have hpos := hE.pos
  have hzl : (cellsL z').length = sz := by
    have := g5; rw [cellsL_eq] at this; simpa using this
  refine HL.opX (fun v => v) (fun v' => ownC v' e sz n ((List.replicate n (cellsL z')).flatten) :: H) (fun _ => True) hs (fun w hw => ?_) (fun v' _ => h v')
  have hr := run_make (P := P) w t e i z' hE.slice g1 g2 k1 k2 (n : Int) (cap : Int) (by omega) (by omega) (by rw [g4, ← Int.natCast_mul]; exact Int.ofNat_le.2 hcb) (Int.ofNat_le.2 hcm)
  simp only [Int.toNat_natCast] at hr
  refine ⟨.slice (some ⟨w.heap.size, 0, none⟩) n cap, w.alloc (.cells (madeCells z'.cells (cap * i.size)) e), ?_, trivial, hw.push ((Below.refl _ _).alloc (Nat.le_refl _) _) ⟨?_, .inr ⟨w.heap.size, 0, cap, _, rfl, heap_alloc_new w _, hnc, by unfold maxLen; omega, ?_, ?_⟩⟩ (fun k hk => by cases hk; exact Nat.le_refl _)⟩
  · simp [execOp, evO_of_lookO hn, evO_of_lookO hc, hr]
  · rw [flat_rep_length, hzl]
  · rw [size_madeCells, g3]; omega
  · apply List.ext_getElem?
    intro j
    rw [List.drop_zero, List.getElem?_take]
    split
    · rename_i hj
      rw [flat_rep _ (by omega) n j (by rw [hzl]; exact hj)]
      have hlt : j < cap * i.size := by rw [g3]; exact Nat.lt_of_lt_of_le hj (Nat.mul_le_mul_right _ hnc)
      have hmod : j % sz < sz := Nat.mod_lt _ hpos
      rw [Array.getElem?_toList]
      simp only [madeCells, Array.getElem?_map, Array.getElem?_range, hlt, if_true, Option.map_some, hzl, g5]
      rw [getElem!_pos z'.cells (j % sz) (by rw [g5]; exact hmod)]
      rw [List.getElem?_eq_getElem (by rw [hzl]; exact hmod)]
      congr 1
      simp only [cellsL_eq, List.getElem_toArray]
    · rw [List.getElem?_eq_none (by rw [flat_rep_length, hzl]; omega)]
end
end Go.GX

/- Struct values: built, taken apart, compared. Conditions: as each says. -/
namespace Go.GX
open Go.RowKit
set_option linter.unusedVariables false
set_option linter.unusedSectionVars false
set_option linter.unusedSimpArgs false

/-- The places of the fields, or of an array's elements. -/
def placesS (P : Program) : List Field → Option (List (Nat × Nat))
  | [] => some []
  | f :: fs => match P.info? f.type with
    | some ti => match placesS P fs with
      | some r => some ((f.offset, ti.size) :: r)
      | none => none
    | none => none
theorem placesS_eq (P : Program) : ∀ {fs : List Field} {pl : List (Nat × Nat)}, placesS P fs = some pl → fs.mapM (fun f => (P.info? f.type).map fun i => (f.offset, i.size)) = some pl
  | [], pl, h => by simp [placesS] at h; subst h; simp
  | f :: fs, pl, h => by
    unfold placesS at h
    split at h
    · rename_i ti hti
      split at h
      · rename_i r hr; cases h
        simp only [List.mapM_cons, hti, placesS_eq P hr]; rfl
      · cases h
    · cases h
def nthP : List (Nat × Nat) → Nat → Option (Nat × Nat)
  | [], _ => none
  | p :: _, 0 => some p
  | _ :: r, n + 1 => nthP r n
theorem nthP_eq : ∀ (l : List (Nat × Nat)) (n : Nat), nthP l n = l[n]?
  | [], n => by simp [nthP]
  | p :: r, 0 => by simp [nthP]
  | p :: r, n + 1 => by simp [nthP, nthP_eq r n]

def fillG (place : Nat → Option (Nat × Nat)) (σ : Store) : List Value → List (Nat × Operand) → Option (List Value)
  | cs, [] => some cs
  | cs, (i, x) :: r => match place i, lookO σ x with
    | some (off, sz), some v => match Nat.beq (lenV (cellsL v)) sz, Nat.ble (off + lenV (cellsL v)) (lenV cs) with
      | true, true => fillG place σ (putR cs off (cellsL v)) r
      | _, _ => none
    | _, _ => none

theorem putR_get {o : Nat} {us cs : List Value} (h : o + us.length ≤ cs.length) (i : Nat) : (putR cs o us)[i]? = if i < o then cs[i]? else if i < o + us.length then us[i - o]? else cs[i]? := by
  rw [putR_eq h, List.append_assoc]
  by_cases h1 : i < o
  · rw [if_pos h1, List.getElem?_append_left (by simp; omega), List.getElem?_take_of_lt h1]
  · rw [if_neg h1, List.getElem?_append_right (by simp; omega)]
    have hl : (List.take o cs).length = o := by simp; omega
    rw [hl]
    by_cases h2 : i < o + us.length
    · rw [if_pos h2, List.getElem?_append_left (by omega)]
    · rw [if_neg h2, List.getElem?_append_right (by omega), List.getElem?_drop]
      congr 1
      omega

theorem foldl_put : ∀ (us : List Value) (j off : Nat) (cs : List Value), off + j + us.length ≤ cs.length →
    (us.zipIdx j).foldl (fun (a : Array Value) (x : Value × Nat) => a.setIfInBounds (off + x.2) x.1) cs.toArray = (putR cs (off + j) us).toArray := by
  intro us
  induction us with
  | nil => intro j off cs h; rw [putR_eq (by simpa using h)]; simp
  | cons u us ih =>
    intro j off cs h
    have h0 := h
    simp only [List.length_cons] at h
    simp only [List.zipIdx_cons, List.foldl_cons]
    have e : cs.toArray.setIfInBounds (off + j) u = (cs.set (off + j) u).toArray := by simp
    rw [e, ih (j + 1) off _ (by simp; omega)]
    congr 1
    apply List.ext_getElem?
    intro i
    rw [putR_get (by simp; omega), putR_get h0]
    simp only [List.length_cons]
    by_cases h1 : i < off + j
    · rw [if_pos (by omega), if_pos h1, List.getElem?_set_ne (by omega)]
    · by_cases h2 : i = off + j
      · subst h2
        rw [if_pos (by omega), if_neg h1, if_pos (by omega), List.getElem?_set_self (by omega)]
        simp
      · rw [if_neg (by omega), if_neg h1]
        by_cases h3 : i < off + (j + 1) + us.length
        · rw [if_pos h3, if_pos (by omega), show i - (off + j) = (i - (off + (j + 1))) + 1 by omega, List.getElem?_cons_succ]
        · rw [if_neg h3, if_neg (by omega), List.getElem?_set_ne (by omega)]

theorem fillG_eq {place : Nat → Option (Nat × Nat)} {σ : Store} : ∀ {ps : List (Nat × Operand)} {cs us : List Value}, fillG place σ cs ps = some us → Instr.fill place cs.toArray (ps.map fun (i, x) => (i, evO σ x)) = some us.toArray
  | [], cs, us, h => by simp [fillG] at h; subst h; simp [Instr.fill]
  | (i, x) :: r, cs, us, h => by
    unfold fillG at h
    split at h
    · rename_i off sz v hp hv
      split at h
      · rename_i h1 h2
        have h1' := Nat.eq_of_beq_eq_true h1
        have h2' := Nat.le_of_ble_eq_true h2
        rw [lenV_eq] at h1'
        rw [lenV_eq, lenV_eq] at h2'
        simp only [List.map_cons, Instr.fill, hp, evO_of_lookO hv]
        have hc : v.cells = (cellsL v).toArray := cellsL_eq v
        have hsz : v.cells.size = sz := by rw [hc]; simpa using h1'
        have hnot : ¬ (v.cells.size ≠ sz ∨ off + v.cells.size > cs.toArray.size) := by
          rw [hsz]; simp; omega
        rw [if_neg (by simpa using hnot)]
        have e1 : (v.cells.zipIdx.foldl (fun cs (x : Value × Nat) => match x with | (c, j) => cs.setIfInBounds (off + j) c) cs.toArray) = (putR cs off (cellsL v)).toArray := by
          have := foldl_put (cellsL v) 0 off cs (by simpa using h2')
          rw [Nat.add_zero] at this
          rw [← this, hc, ← Array.foldl_toList]
          congr 1
          simp
        rw [e1]
        exact fillG_eq h
      · cases h
    · cases h

/-- A struct's or an array's literal. -/
def buildE (P : Program) (σ : Store) (t : TypeId) (ps : List (Nat × Operand)) : Option (List Value) :=
  match P.info? t, P.underlying t with
  | some it, some (.struct ⟨fl⟩) => match it.zero, placesS P fl with
    | some z, some pl => fillG (nthP pl) σ (cellsL z) ps
    | _, _ => none
  | some it, some (.array _ e) => match it.zero, P.info? e with
    | some z, some ie => fillG (fun i => some (placeAt 0 i ie.size, ie.size)) σ (cellsL z) ps
    | _, _ => none
  | _, _ => none

theorem buildE_run {P : Program} {σ : Store} {t : TypeId} {ps : List (Nat × Operand)} {us : List Value} (h : buildE P σ t ps = some us) (w : World) :
    (Instr.build t ((ps.map fun (i, x) => (i, evO σ x)).toArray)).run P w = .ok (.agg us.toArray) w := by
  refine run_build w t _ _ ?_
  unfold buildE at h
  unfold Program.built
  split at h
  · rename_i it fl hit hu
    rw [hit, hu]
    split at h
    · rename_i z pl hz hpl
      simp only [hz, placesS_eq P hpl]
      have h' := fillG_eq h
      rw [← cellsL_eq] at h'
      rw [← h']
      simp only []
      congr 1
      funext i
      simp [nthP_eq]
    · cases h
  · rename_i it n e hit hu
    rw [hit, hu]
    split at h
    · rename_i z ie hz hie
      simp only [hz, hie]
      have h' := fillG_eq h
      rw [← cellsL_eq] at h'
      rw [← h']
      simp only []
      congr 1
      funext i
      simp [placeAt_eq]
    · cases h
  · cases h

section
variable {P : Program} {f : FuncId} {N : Nat} {k : List Item} {σ : Store} {B : Base} {H H' : List Chunk} {R : Ending → World → Prop} {ops l : List Oper} {o : Oper} {K : Act → World → Prop} {KQ : Act → Prop} {C : World → Prop}
  {d : Nat} {op : Op} {ty : TypeId} {pos : String} {af : Array Edge} {gd : Option (Nat × Bool)} {v u : Value} {w : World} {d' : Option Tmp}

theorem hx_build {t : TypeId} {ps : List (Nat × Operand)} {us : List Value} (h : buildE P σ t ps = some us) (w : World) : (execOp (evO σ) ⟨d', .build t ps.toArray, ty, pos, af, gd⟩).run P w = .ok (.value (.agg ⟨us⟩)) w := by
  have := buildE_run h w
  unfold execOp
  simp only [Sem.run_bind]
  have e : (ps.toArray.map fun (i, x) => (i, evO σ x)) = ((ps.map fun (i, x) => (i, evO σ x)).toArray) := by simp
  rw [e, this]
  rfl
theorem HL.build {t : TypeId} {ps : List (Nat × Operand)} {us : List Value} (hs : stat N ops ⟨some d, .build t ps.toArray, ty, pos, af, gd⟩ σ = true) (hb : buildE P σ t ps = some us)
    (h : HL P N ops l ((d, .agg ⟨us⟩) :: σ) B H K) : HL P N ops (⟨some d, .build t ps.toArray, ty, pos, af, gd⟩ :: l) σ B H K := HL.rd hs (fun w _ => hx_build hb w) h
theorem RunQ.build {t : TypeId} {ps : List (Nat × Operand)} {us : List Value} (hs : stat N ops ⟨some d, .build t ps.toArray, ty, pos, af, gd⟩ σ = true) (hb : buildE P σ t ps = some us)
    (h : RunQ P N C ops l ((d, .agg ⟨us⟩) :: σ) KQ) : RunQ P N C ops (⟨some d, .build t ps.toArray, ty, pos, af, gd⟩ :: l) σ KQ := RunQ.op hs (fun w _ => hx_build hb w) h

/-- A part of an aggregate. -/
def partE (P : Program) (t : TypeId) (cs : List Value) (off : Nat) : Option Value :=
  match P.underlying t with
  | some td => match plainT td with
    | true => nthV cs off
    | false => match P.info? t with
      | some ti => match rngV cs off ti.size with
        | some us => some (.agg ⟨us⟩)
        | none => none
      | none => none
  | none => none

theorem partE_run {t : TypeId} {cs : List Value} {off : Nat} (h : partE P t cs off = some v) (w : World) : (part t ⟨cs⟩ off).run P w = .ok v w := by
  unfold partE at h
  split at h
  · rename_i td hu
    split at h
    · rename_i hp
      have e1 : (isAgg t).run P w = .ok false w := by
        simp [isAgg, underlying, hu]
        cases td <;> simp_all [plainT]
      rw [nthV_eq] at h
      have : (⟨cs⟩ : Array Value)[off]? = some v := by simpa using h
      simp [part, e1, this]
    · rename_i hp
      split at h
      · rename_i ti hti
        split at h
        · rename_i us hus
          cases h
          have e1 : (isAgg t).run P w = .ok true w := by
            simp [isAgg, underlying, hu]
            cases td <;> simp_all [plainT]
          obtain ⟨g1, g2⟩ := rngV_eq hus
          subst g1
          have e2 : (sizeOf t).run P w = .ok ti.size w := by simp [sizeOf, typeInfo, hti]
          simp [part, e1, e2]
        · cases h
      · cases h
  · cases h

/-- A field of a struct value. -/
def fldV (P : Program) (σ : Store) (t : TypeId) (x : Operand) (i : Nat) : Option Value :=
  match P.underlying t, lookO σ x with
  | some (.struct ⟨fl⟩), some (.agg ⟨cs⟩) => match nthF fl i with
    | some fd => partE P fd.type cs fd.offset
    | none => none
  | _, _ => none
theorem hx_field {t : TypeId} {x : Operand} {i : Nat} (h : fldV P σ t x i = some v) (w : World) : (execOp (evO σ) ⟨d', .field t x i, ty, pos, af, gd⟩).run P w = .ok (.value v) w := by
  unfold fldV at h
  split at h
  · rename_i fl cs hu hx
    split at h
    · rename_i fd hf
      have hp := partE_run h w
      rw [nthF_eq] at hf
      have hf' : (⟨fl⟩ : Array Field)[i]? = some fd := by simpa using hf
      simp [execOp, Instr.field, evO_of_lookO hx, underlying, hu, asAgg, hf', hp]
    · cases h
  · cases h
theorem HL.field {t : TypeId} {x : Operand} {i : Nat} (hs : stat N ops ⟨some d, .field t x i, ty, pos, af, gd⟩ σ = true) (hb : fldV P σ t x i = some v)
    (h : HL P N ops l ((d, v) :: σ) B H K) : HL P N ops (⟨some d, .field t x i, ty, pos, af, gd⟩ :: l) σ B H K := HL.rd hs (fun w _ => hx_field hb w) h
theorem RunQ.field {t : TypeId} {x : Operand} {i : Nat} (hs : stat N ops ⟨some d, .field t x i, ty, pos, af, gd⟩ σ = true) (hb : fldV P σ t x i = some v)
    (h : RunQ P N C ops l ((d, v) :: σ) KQ) : RunQ P N C ops (⟨some d, .field t x i, ty, pos, af, gd⟩ :: l) σ KQ := RunQ.op hs (fun w _ => hx_field hb w) h

/-! ### Equality of structs whose fields are plain -/
def eqCell (P : Program) (t : TypeId) (x y : Value) : Option Bool :=
  match P.underlying t, x, y with
  | some (.int _), .int k a, .int k' b => match sameK k k' with
    | true => some (a == b)
    | false => none
  | some .string, .string ⟨⟨a⟩⟩, .string ⟨⟨b⟩⟩ => some (a == b)
  | some .bool, .bool a, .bool b => some (a == b)
  | _, _, _ => none
def eqFieldsE (P : Program) (xs ys : List Value) : List Field → Option Bool
  | [] => some true
  | f :: fs => match f.name == "_", nthV xs f.offset, nthV ys f.offset with
    | false, some x, some y => match eqCell P f.type x y, eqFieldsE P xs ys fs with
      | some b, some r => some (b && r)
      | _, _ => none
    | _, _, _ => none
theorem eqCell_run {t : TypeId} {x y : Value} {b : Bool} (h : eqCell P t x y = some b) (n : Nat) (w : World) : (Op.equalIn (n + 1) t x y).run P w = .ok b w ∧ ∀ td, P.underlying t = some td → plainT td = true := by
  unfold eqCell at h
  split at h
  · rename_i k0 k a k' b' hu
    split at h
    · rename_i hk
      have := sameK_eq hk; subst this; cases h
      exact ⟨run_equalIn_int w n t _ k0 _ _ hu, fun td htd => by rw [hu] at htd; cases htd; rfl⟩
    · cases h
  · rename_i a b' hu; cases h
    refine ⟨?_, fun td htd => by rw [hu] at htd; cases htd; rfl⟩
    have : (Op.equalIn (n + 1) t (.string ⟨⟨a⟩⟩) (.string ⟨⟨b'⟩⟩)).run P w = .ok ((⟨⟨a⟩⟩ : ByteArray) == ⟨⟨b'⟩⟩) w := by simp [Op.equalIn, run_underlying hu]
    rw [this]
    congr 1
    show ((⟨a⟩ : Array UInt8) == ⟨b'⟩) = _
    simp
  · rename_i a b' hu; cases h
    exact ⟨run_equalIn_bool' w n t a b' hu, fun td htd => by rw [hu] at htd; cases htd; rfl⟩
  · cases h
theorem eqFieldsE_run {xs ys : List Value} (n : Nat) (w : World) : ∀ {fs : List Field} {b : Bool}, eqFieldsE P xs ys fs = some b → (Op.eqFields (n + 1) ⟨xs⟩ ⟨ys⟩ fs).run P w = .ok b w
  | [], b, h => by simp [eqFieldsE] at h; subst h; simp [Op.eqFields]
  | f :: fs, b, h => by
    unfold eqFieldsE at h
    split at h
    · rename_i x y hn hx hy
      split at h
      · rename_i b' r hb hr
        cases h
        obtain ⟨h1, h2⟩ := eqCell_run hb n w
        cases hu : P.underlying f.type with
        | none => simp [eqCell, hu] at hb
        | some td =>
          have hp := h2 td hu
          have p1 : (part f.type ⟨xs⟩ f.offset).run P w = .ok x w := partE_run (by simp [partE, hu, hp, hx]) w
          have p2 : (part f.type ⟨ys⟩ f.offset).run P w = .ok y w := partE_run (by simp [partE, hu, hp, hy]) w
          have hn' : f.name ≠ "_" := by simpa using hn
          have ih := eqFieldsE_run n w hr
          simp only [Op.eqFields, hn', ne_eq, not_false_eq_true, if_true, Sem.run_bind, p1, p2, Result.andThen_ok, h1]
          cases b' <;> simp [ih]
      · cases h
    · cases h

def eqStruct (P : Program) (t : TypeId) (xs ys : List Value) : Option Bool :=
  match P.underlying t with
  | some (.struct ⟨fl⟩) => eqFieldsE P xs ys fl
  | _ => none
theorem eqStruct_run {t : TypeId} {xs ys : List Value} {b : Bool} (hp : P.stoodInHeld t = false) (h : eqStruct P t xs ys = some b) (w : World) : (Op.equal t (.agg ⟨xs⟩) (.agg ⟨ys⟩)).run P w = .ok b w := by
  unfold eqStruct at h
  split at h
  · rename_i fl hu
    have hf : P.fieldsOf t = ⟨fl⟩ := by unfold Program.fieldsOf; rw [hu]
    have := run_equalIn_struct (P := P) w 9999 t ⟨xs⟩ ⟨ys⟩ (by rw [hf, hu]) hp
    unfold Op.equal
    show (Op.equalIn (9999 + 1) t (.agg ⟨xs⟩) (.agg ⟨ys⟩)).run P w = _
    rw [this, hf]
    exact eqFieldsE_run 9998 w h
  · cases h

/-- '==' and '!=' of structs. -/
theorem hx_eqS {t t' : TypeId} {x y : Operand} {xs ys : List Value} {b : Bool} (hp : P.stoodInHeld t = false) (hm : P.eqGuardType P.depth t = false) (hx : lookO σ x = some (.agg ⟨xs⟩)) (hy : lookO σ y = some (.agg ⟨ys⟩)) (h : eqStruct P t xs ys = some b) (w : World) :
    (execOp (evO σ) ⟨d', .binOp .eql t x y t', ty, pos, af, gd⟩).run P w = .ok (.value (.bool b)) w := by
  have h1 := eqStruct_run hp h w
  have h2 := run_eqGuard_agg (P := P) w .eql t x y ⟨xs⟩ ⟨ys⟩ hm
  simp [execOp, evO_of_lookO hx, evO_of_lookO hy, h2, binOp, h1]
theorem hx_neS {t t' : TypeId} {x y : Operand} {xs ys : List Value} {b : Bool} (hp : P.stoodInHeld t = false) (hm : P.eqGuardType P.depth t = false) (hx : lookO σ x = some (.agg ⟨xs⟩)) (hy : lookO σ y = some (.agg ⟨ys⟩)) (h : eqStruct P t xs ys = some b) (w : World) :
    (execOp (evO σ) ⟨d', .binOp .neq t x y t', ty, pos, af, gd⟩).run P w = .ok (.value (.bool (!b))) w := by
  have h1 := eqStruct_run hp h w
  have h2 := run_eqGuard_agg (P := P) w .neq t x y ⟨xs⟩ ⟨ys⟩ hm
  simp [execOp, evO_of_lookO hx, evO_of_lookO hy, h2, binOp, h1]
theorem HL.eqS {t t' : TypeId} {x y : Operand} {xs ys : List Value} {b : Bool} (hs : stat N ops ⟨some d, .binOp .eql t x y t', ty, pos, af, gd⟩ σ = true) (hp : P.stoodInHeld t = false) (hm : P.eqGuardType P.depth t = false) (hx : lookO σ x = some (.agg ⟨xs⟩)) (hy : lookO σ y = some (.agg ⟨ys⟩)) (hb : eqStruct P t xs ys = some b)
    (h : HL P N ops l ((d, .bool b) :: σ) B H K) : HL P N ops (⟨some d, .binOp .eql t x y t', ty, pos, af, gd⟩ :: l) σ B H K := HL.rd hs (fun w _ => hx_eqS hp hm hx hy hb w) h
theorem HL.neS {t t' : TypeId} {x y : Operand} {xs ys : List Value} {b : Bool} (hs : stat N ops ⟨some d, .binOp .neq t x y t', ty, pos, af, gd⟩ σ = true) (hp : P.stoodInHeld t = false) (hm : P.eqGuardType P.depth t = false) (hx : lookO σ x = some (.agg ⟨xs⟩)) (hy : lookO σ y = some (.agg ⟨ys⟩)) (hb : eqStruct P t xs ys = some b)
    (h : HL P N ops l ((d, .bool (!b)) :: σ) B H K) : HL P N ops (⟨some d, .binOp .neq t x y t', ty, pos, af, gd⟩ :: l) σ B H K := HL.rd hs (fun w _ => hx_neS hp hm hx hy hb w) h
theorem RunQ.eqS {t t' : TypeId} {x y : Operand} {xs ys : List Value} {b : Bool} (hs : stat N ops ⟨some d, .binOp .eql t x y t', ty, pos, af, gd⟩ σ = true) (hp : P.stoodInHeld t = false) (hm : P.eqGuardType P.depth t = false) (hx : lookO σ x = some (.agg ⟨xs⟩)) (hy : lookO σ y = some (.agg ⟨ys⟩)) (hb : eqStruct P t xs ys = some b)
    (h : RunQ P N C ops l ((d, .bool b) :: σ) KQ) : RunQ P N C ops (⟨some d, .binOp .eql t x y t', ty, pos, af, gd⟩ :: l) σ KQ := RunQ.op hs (fun w _ => hx_eqS hp hm hx hy hb w) h
theorem RunQ.neS {t t' : TypeId} {x y : Operand} {xs ys : List Value} {b : Bool} (hs : stat N ops ⟨some d, .binOp .neq t x y t', ty, pos, af, gd⟩ σ = true) (hp : P.stoodInHeld t = false) (hm : P.eqGuardType P.depth t = false) (hx : lookO σ x = some (.agg ⟨xs⟩)) (hy : lookO σ y = some (.agg ⟨ys⟩)) (hb : eqStruct P t xs ys = some b)
    (h : RunQ P N C ops l ((d, .bool (!b)) :: σ) KQ) : RunQ P N C ops (⟨some d, .binOp .neq t x y t', ty, pos, af, gd⟩ :: l) σ KQ := RunQ.op hs (fun w _ => hx_neS hp hm hx hy hb w) h

/-! ### Result variables that lie in a block -/
theorem loadVarR {t : TypeId} {td : TypeDesc} {b o m : Nat} {T : TypeId} {cs us : List Value} (hw : Sat B H w) (i : Nat) (hi : nthC H i = some (blkC b cs T)) (hT : P.underlying t = some td) (hr : td.isRow = true) (hm : (P.info? t).map (·.size) = some m) (hu : rngV cs o m = some us) : (loadVar t ⟨b, o, none⟩).run P w = .ok (.agg ⟨us⟩) w := by
  have hB : Blk w b cs T := hw.nth hi
  have h1 := hx_loadR (P := P) (σ := [(0, .pointer (some ⟨b, o, none⟩))]) (x := .tmp 0) (d' := none) (ty := 0) (pos := "") (af := #[]) (gd := none) i hi hT hr hm rfl hu w hw
  simp [execOp, evO, look, Instr.loadAt, Instr.sureAddr] at h1
  cases h2 : (loadVar t ⟨b, o, none⟩).run P w with
  | ok v' w' => simp [h2] at h1; rw [h1.1, h1.2]
  | halt x w' => simp [h2] at h1
theorem loadVarB {t : TypeId} {td : TypeDesc} {b j : Nat} {T : TypeId} {cs : List Value} (hw : Sat B H w) (i : Nat) (hi : nthC H i = some (blkC b cs T)) (hT : P.underlying t = some td) (hp : plainT td = true) (hu : nthV cs j = some u) : (loadVar t ⟨b, j, none⟩).run P w = .ok u w := by
  have hB : Blk w b cs T := hw.nth hi
  exact run_loadVar1 hT hp (by rw [hB.cell, ← nthV_eq]; exact hu)

/-! ### The same in drawn regions -/
variable {F : List Chunk} {i : Nat} {p : List (Nat × Bool)}
theorem HD.loadB {t : TypeId} {td : TypeDesc} {x : Operand} {b j : Nat} {T : TypeId} {cs : List Value} (c : Nat) (hx : lookO σ x = some (.pointer (some ⟨b, j, none⟩))) (hi : nthC F c = some (blkC b cs T)) (ho : ops[i]? = some ⟨some d, .load t x, ty, pos, af, gd⟩) (hs : stat N ops ⟨some d, .load t x, ty, pos, af, gd⟩ σ = true) (hT : P.underlying t = some td) (hp : plainT td = true) (hu : nthV cs j = some u)
    (h : HD P N ops p ((d, u) :: σ) B H F K) : HD P N ops ((i, true) :: p) σ B H F K := HD.rd ho hs (hx_loadB c hi hT hp hx hu) h
theorem HD.loadR {t : TypeId} {td : TypeDesc} {x : Operand} {b o m : Nat} {T : TypeId} {cs us : List Value} (c : Nat) (hx : lookO σ x = some (.pointer (some ⟨b, o, none⟩))) (hi : nthC F c = some (blkC b cs T)) (ho : ops[i]? = some ⟨some d, .load t x, ty, pos, af, gd⟩) (hs : stat N ops ⟨some d, .load t x, ty, pos, af, gd⟩ σ = true) (hT : P.underlying t = some td) (hr : td.isRow = true) (hm : (P.info? t).map (·.size) = some m) (hu : rngV cs o m = some us)
    (h : HD P N ops p ((d, .agg ⟨us⟩) :: σ) B H F K) : HD P N ops ((i, true) :: p) σ B H F K := HD.rd ho hs (hx_loadR c hi hT hr hm hx hu) h
theorem HD.build {t : TypeId} {ps : List (Nat × Operand)} {us : List Value} (ho : ops[i]? = some ⟨some d, .build t ps.toArray, ty, pos, af, gd⟩) (hs : stat N ops ⟨some d, .build t ps.toArray, ty, pos, af, gd⟩ σ = true) (hb : buildE P σ t ps = some us)
    (h : HD P N ops p ((d, .agg ⟨us⟩) :: σ) B H F K) : HD P N ops ((i, true) :: p) σ B H F K := HD.rd ho hs (fun w _ => hx_build hb w) h
end
end Go.GX

/- Maps over the symbolic heap. Conditions: as each says. -/
namespace Go.GX
open Go.RowKit
set_option linter.unusedVariables false
set_option linter.unusedSectionVars false
set_option linter.unusedSimpArgs false

section
variable {K : Type} [DecidableEq K] {P : Program} {kt : TypeId} {enc : K → Value}
/-- Keys whose equality the machine asks for field by field. -/
theorem key_struct {fl : List Field} (ht : P.underlying kt = some (.struct ⟨fl⟩)) (heq : ∀ (a b : K) (w : World), (Op.equal kt (enc a) (enc b)).run P w = .ok (decide (a = b)) w)
    (hc : ∀ (e : Bool) (k : K) (w : World), (Instr.checkKey e 10000 kt (enc k)).run P w = .ok () w) (hs : ∀ (k : K) (w : World), (Instr.keyThatStays (enc k) (enc k)).run P w = .ok (enc k) w) (hi : ∀ a b : K, enc a = enc b → a = b) : KeyK P kt enc := by
  refine ⟨fun k m es w h => ?_, hc, hs, hi⟩
  have ask : ∀ (m : List (K × Value)) (es : List MapEntry) (i : Nat), es.map (fun e => (e.key, e.val)) = m.map (fun p => (enc p.1, p.2)) → (Instr.findAsking kt (enc k) es i).run P w = .ok (fndL k m i) w := by
    intro m
    induction m with
    | nil => intro es i h; have : es = [] := by simpa using h
             subst this; rfl
    | cons p m ih =>
      intro es i h
      obtain ⟨a, v⟩ := p
      cases es with
      | nil => simp at h
      | cons e es =>
        simp only [List.map_cons, List.cons.injEq, Prod.mk.injEq] at h
        obtain ⟨⟨h1, h2⟩, h3⟩ := h
        unfold Instr.findAsking fndL
        rw [Sem.run_bind, h1, heq]
        by_cases e : k = a
        · subst e; simp [h2]
        · simp [e, ih es (i + 1) h3]
  unfold Instr.findKey
  rw [Sem.run_bind, run_underlying ht]
  simp only [Result.andThen_ok]
  have fn : Instr.findNow (.struct ⟨fl⟩) (enc k) es 0 = none ∨ (es = [] ∧ Instr.findNow (.struct ⟨fl⟩) (enc k) es 0 = some none) := by
    cases es with
    | nil => exact .inr ⟨rfl, rfl⟩
    | cons e es => left; unfold Instr.findNow Instr.sameNow; rfl
  rcases fn with fn | ⟨he, fn⟩
  · rw [fn]; exact ask m es 0 h
  · rw [fn]
    subst he
    have : m = [] := by
      have h' := h.symm
      simpa using h'
    subst this
    rfl

/-- A struct of plain fields is a key. -/
def plainKeyFs (P : Program) (cs : List Value) : List Field → Bool
  | [] => true
  | f :: fs => match P.underlying f.type, nthV cs f.offset with
    | some (.int _), some _ | some .string, some _ | some .bool, some _ => plainKeyFs P cs fs
    | _, _ => false
theorem checkKey_struct {fl : List Field} {cs : List Value} (ht : P.underlying kt = some (.struct ⟨fl⟩)) (h : plainKeyFs P cs fl = true) (e : Bool) (n : Nat) (w : World) : (Instr.checkKey e (n + 2) kt (.agg ⟨cs⟩)).run P w = .ok () w := by
  unfold Instr.checkKey
  rw [Sem.run_bind, run_underlying ht]
  simp only [Result.andThen_ok]
  rw [← Array.forIn_toList]
  clear ht
  induction fl with
  | nil => simp
  | cons f fs ih =>
    unfold plainKeyFs at h
    have go : ∀ td v, P.underlying f.type = some td → plainT td = true → nthV cs f.offset = some v → (∀ x, td ≠ .interface x) → plainKeyFs P cs fs = true → (do
        for f in (f :: fs) do
          if f.name ≠ "_" then Instr.checkKey e (n + 1) f.type (← part f.type ⟨cs⟩ f.offset)
        : Sem Unit).run P w = .ok () w := by
      intro td v h1 h2 h3 h4 h5
      have hp : (part f.type ⟨cs⟩ f.offset).run P w = .ok v w := partE_run (by simp [partE, h1, h2, h3]) w
      have hc : (Instr.checkKey e (n + 1) f.type v).run P w = .ok () w := by
        unfold Instr.checkKey
        rw [Sem.run_bind, run_underlying h1]
        simp only [Result.andThen_ok]
        cases td <;> first | (simp; done) | (exact absurd rfl (h4 _)) | (simp [plainT] at h2)
      have ih' := ih h5
      simp only [List.forIn_cons]
      by_cases hn : f.name ≠ "_"
      · simp only [hn, ne_eq, not_false_eq_true, if_true, Sem.run_bind, hp, Result.andThen_ok, hc, Sem.run_pure]
        simp at ih'
        simp [ih']
      · simp only [hn, if_false, Sem.run_bind, Sem.run_pure, Result.andThen_ok]
        simp at ih'
        simp [ih']
    split at h
    · rename_i h1 h3; exact go _ _ h1 rfl h3 (by nofun) h
    · rename_i h1 h3; exact go _ _ h1 rfl h3 (by nofun) h
    · rename_i h1 h3; exact go _ _ h1 rfl h3 (by nofun) h
    · cases h
theorem stays_plain {cs : List Value} (h : ∀ v ∈ cs, Instr.sameBits 9999 v v = true) (w : World) : (Instr.keyThatStays (.agg ⟨cs⟩) (.agg ⟨cs⟩)).run P w = .ok (.agg ⟨cs⟩) w := by
  have : Instr.sameBits 10000 (.agg ⟨cs⟩) (.agg ⟨cs⟩) = true := by
    show ((_ == _) && ((cs.zip cs).all fun (x, y) => Instr.sameBits 9999 x y)) = true
    simp only [beq_self_eq_true, Bool.true_and, List.all_eq_true]
    intro p hp
    have : p.1 = p.2 ∧ p.1 ∈ cs := by
      clear h
      induction cs with
      | nil => simp at hp
      | cons c cs ih =>
        simp only [List.zip_cons_cons, List.mem_cons] at hp
        rcases hp with rfl | hp
        · exact ⟨rfl, List.mem_cons_self ..⟩
        · exact ⟨(ih hp).1, List.mem_cons_of_mem _ (ih hp).2⟩
    rw [← this.1]
    exact h _ this.2
  unfold Instr.keyThatStays
  rw [if_pos this]
  rfl
theorem getM_setM (k k' : K) (v : Value) : ∀ (m : List (K × Value)), getM k (setM k' v m) = if k = k' then some v else getM k m
  | [] => by simp [setM, getM]
  | (a, u) :: m => by
    unfold setM
    by_cases h1 : k' = a
    · subst h1
      simp only [if_true, getM]
      split
      · rfl
      · rfl
    · rw [if_neg h1]
      simp only [getM, getM_setM k k' v m]
      by_cases h2 : k = a
      · subst h2; rw [if_pos rfl, if_neg (fun e => h1 e.symm), if_pos rfl]
      · simp [h2]
/-- No key twice. -/
def NodupM (m : List (K × Value)) : Prop := (m.map (·.1)).Nodup
theorem getM_delM {k k' : K} : ∀ {m : List (K × Value)}, NodupM m → getM k (delM k' m) = if k = k' then none else getM k m
  | [], _ => by simp [delM, getM]
  | (a, u) :: m, hn => by
    have hn' : a ∉ m.map (·.1) ∧ (m.map (·.1)).Nodup := by simpa [NodupM] using hn
    unfold delM
    by_cases h1 : k' = a
    · subst h1
      simp only [if_true, getM]
      by_cases h2 : k = k'
      · subst h2
        rw [if_pos rfl]
        have : ∀ {m : List (K × Value)}, k ∉ m.map (·.1) → getM k m = none := by
          intro m
          induction m with
          | nil => intro _; rfl
          | cons p m ih => intro hk; obtain ⟨a, u⟩ := p; simp only [List.map_cons, List.mem_cons, not_or] at hk; unfold getM; rw [if_neg hk.1]; exact ih hk.2
        exact this hn'.1
      · rw [if_neg h2, if_neg h2]
    · rw [if_neg h1]
      simp only [getM, getM_delM (m := m) hn'.2]
      by_cases h2 : k = a
      · subst h2; rw [if_pos rfl, if_neg (fun e => h1 e.symm), if_pos rfl]
      · simp [h2]
theorem mem_setM {k : K} {v : Value} : ∀ {m : List (K × Value)} {a : K}, a ∈ (setM k v m).map (·.1) ↔ a = k ∨ a ∈ m.map (·.1)
  | [], a => by simp [setM]
  | (b, u) :: m, a => by
    unfold setM
    split
    · rename_i h; subst h; simp
    · simp only [List.map_cons, List.mem_cons, mem_setM (m := m)]
      constructor
      · rintro (h | h | h)
        · exact .inr (.inl h)
        · exact .inl h
        · exact .inr (.inr h)
      · rintro (h | h | h)
        · exact .inr (.inl h)
        · exact .inl h
        · exact .inr (.inr h)
theorem nodup_setM {k : K} {v : Value} : ∀ {m : List (K × Value)}, NodupM m → NodupM (setM k v m)
  | [], _ => by simp [setM, NodupM]
  | (b, u) :: m, hn => by
    have hn' : b ∉ m.map (·.1) ∧ (m.map (·.1)).Nodup := by simpa [NodupM] using hn
    unfold setM
    split
    · rename_i h; simpa [NodupM] using hn
    · rename_i h
      have := nodup_setM (k := k) (v := v) (m := m) hn'.2
      simp only [NodupM, List.map_cons, List.nodup_cons, mem_setM]
      exact ⟨fun h' => by rcases h' with h' | h'; exact h h'.symm; exact hn'.1 h', this⟩
theorem delM_sub {k : K} : ∀ {m : List (K × Value)}, (delM k m).Sublist m
  | [] => List.Sublist.slnil
  | (b, u) :: m => by
    unfold delM
    split
    · exact List.sublist_cons_self _ _
    · exact List.Sublist.cons_cons _ (delM_sub (m := m))
theorem nodup_delM {k : K} {m : List (K × Value)} (hn : NodupM m) : NodupM (delM k m) := List.Sublist.nodup (delM_sub.map _) hn
theorem delM_none {k : K} : ∀ {m : List (K × Value)}, fndL k m 0 = none → delM k m = m
  | [], _ => rfl
  | (a, u) :: m, h => by
    unfold fndL at h
    split at h
    · cases h
    · rename_i hk
      rw [fndL_shift] at h
      have h' : fndL k m 0 = none := by cases hx : fndL k m 0 with
        | none => rfl
        | some p => rw [hx] at h; cases h
      unfold delM
      rw [if_neg hk, delM_none h']
theorem delM_some {k : K} : ∀ {m : List (K × Value)} {i : Nat} {u : Value}, fndL k m 0 = some (i, u) → delM k m = m.eraseIdx i ∧ i < m.length
  | [], i, u, h => by cases h
  | (a, w) :: m, i, u, h => by
    unfold fndL at h
    split at h
    · rename_i hk
      cases h
      subst hk
      exact ⟨by unfold delM; rw [if_pos rfl]; rfl, by simp⟩
    · rename_i hk
      rw [fndL_shift] at h
      cases hx : fndL k m 0 with
      | none => rw [hx] at h; cases h
      | some p =>
        rw [hx] at h
        obtain ⟨j, u'⟩ := p
        simp only [Option.map_some, Option.some.injEq, Prod.mk.injEq] at h
        obtain ⟨rfl, rfl⟩ := h
        obtain ⟨h1, h2⟩ := delM_some hx
        refine ⟨?_, by simp; omega⟩
        unfold delM
        rw [if_neg hk, h1]; rfl

theorem eraseMap {α β : Type} (f : α → β) : ∀ (l : List α) (i : Nat), (l.eraseIdx i).map f = (l.map f).eraseIdx i
  | [], _ => rfl
  | _ :: _, 0 => rfl
  | a :: l, i + 1 => by simp [eraseMap f l i]
theorem MapAt.nodup {w : World} {b : Nat} {m : List (K × Value)} (h : MapAt enc w b m) : NodupM m := by
  obtain ⟨es, clock, h1, h2, h3⟩ := h
  have h4 := h3.2.2
  have : (es.toList.map (·.key)) = m.map (fun p => enc p.1) := by
    have := congrArg (List.map Prod.fst) h2
    simpa [List.map_map, Function.comp_def] using this
  rw [this] at h4
  have h5 : ((m.map (·.1)).map enc).Nodup := by simpa [List.map_map, Function.comp_def] using h4
  exact (List.pairwise_map.1 h5).imp fun h e => h (by rw [e])

theorem run_deleteM {w : World} {t et ty : TypeId} {b : Nat} {m : List (K × Value)} (hK : KeyK P kt enc) (hm : P.underlying t = some (.map kt et)) (h : MapAt enc w b m) (k : K) :
    ∃ w', (Builtin.delete_ #[t, kt] ty #[.map (some b), enc k]).run P w = .ok (.tuple #[]) w' ∧ MapAt enc w' b (delM k m) ∧ w.grownBy w' (some b) ∧ w'.heap.size = w.heap.size := by
  obtain ⟨es, clock, h1, h2, h3⟩ := h
  have hf := hK.find k m es.toList w h2
  have grown : ∀ o, w.grownBy { w with heap := w.heap.setIfInBounds b o } (some b) := fun o => ⟨rfl, rfl, rfl, by simp, fun r hr hne => (MapKept.heap_set h1).2 r (fun e => hne (by rw [e]))⟩
  cases hx : fndL k m 0 with
  | none =>
    rw [hx] at hf
    refine ⟨{ w with heap := w.heap.setIfInBounds b (.map es clock) }, ?_, ⟨_, _, (MapKept.heap_set h1).1, ?_, h3⟩, grown _, by simp⟩
    · simp [Builtin.delete_, run_underlying hm, MapKept.run_getObj_map h1, hK.check, hf, MapKept.run_setObj_map _ h1, Result.andThen]
    · rw [delM_none hx]; exact h2
  | some p =>
    obtain ⟨i, u⟩ := p
    rw [hx] at hf
    obtain ⟨g1, g2⟩ := delM_some hx
    have hl : es.size = m.length := by
      have := congrArg List.length h2
      simpa using this
    refine ⟨{ w with heap := w.heap.setIfInBounds b (.map (es.eraseIdxIfInBounds i) clock) }, ?_, ⟨_, _, (MapKept.heap_set h1).1, ?_, ?_⟩, grown _, by simp⟩
    · simp [Builtin.delete_, run_underlying hm, MapKept.run_getObj_map h1, hK.check, hf, MapKept.run_setObj_map _ h1, Result.andThen]
    · have e : (es.eraseIdxIfInBounds i).toList = es.toList.eraseIdx i := by
        unfold Array.eraseIdxIfInBounds
        split
        · simp
        · rename_i h; rw [List.eraseIdx_of_length_le (by simpa using h)]
      rw [e, g1, eraseMap, h2, eraseMap]
    · have e : (es.eraseIdxIfInBounds i).toList = es.toList.eraseIdx i := by
        unfold Array.eraseIdxIfInBounds
        split
        · simp
        · rename_i h; rw [List.eraseIdx_of_length_le (by simpa using h)]
      have hsub : (es.eraseIdxIfInBounds i).toList.Sublist es.toList := by rw [e]; exact List.eraseIdx_sublist _ _
      obtain ⟨s1, s2, s3⟩ := h3
      exact ⟨fun x hx => s1 x (hsub.subset hx), (hsub.map _).nodup s2, (hsub.map _).nodup s3⟩

theorem run_lenM {w : World} {t et ty : TypeId} {b : Nat} {m : List (K × Value)} (hm : P.underlying t = some (.map kt et)) (h : MapAt enc w b m) :
    (Builtin.len_ #[t] ty #[.map (some b)]).run P w = .ok (.int .i64 (m.length : Int)) w := by
  obtain ⟨es, clock, h1, h2, h3⟩ := h
  have hl : es.size = m.length := by
    have := congrArg List.length h2
    simpa using this
  simp [Builtin.len_, run_underlying hm, MapKept.run_getObj_map h1, hl, goInt]

variable {f : FuncId} {N : Nat} {k : List Item} {σ : Store} {B : Base} {H H' : List Chunk} {R : Ending → World → Prop} {ops l : List Oper} {o : Oper} {KK : Act → World → Prop} {KQ : Act → Prop} {C : World → Prop}
  {d : Nat} {op : Op} {ty : TypeId} {pos : String} {af : Array Edge} {gd : Option (Nat × Bool)} {v u : Value} {w : World} {d' : Option Tmp} {t et : TypeId} {b : Nat} {m : List (K × Value)} {z : Value}
theorem zero_run {et : TypeId} {z : Value} (hz : (P.info? et).bind (·.zero) = some z) (w : World) : (zeroValue et).run P w = .ok z w := by
  cases hi : P.info? et with
  | none => rw [hi] at hz; cases hz
  | some ti => rw [hi] at hz; simp at hz; simp [zeroValue, typeInfo, hi, hz]
theorem Ent.own0 {v : Value} {e sz n n' : Nat} {xs xs' : List Value} (hn : n = n') (hx : xs = xs') : Ent B (ownC v e sz n xs :: H) (ownC v e sz n' xs' :: H) := by subst hn; subst hx; exact Ent.refl
theorem HL.makeM (enc : K → Value) (hs : stat N ops ⟨some d, .makeMap t none, ty, pos, af, gd⟩ σ = true)
    (h : ∀ b, HL P N ops l ((d, .map (some b)) :: σ) B (mapC enc b [] :: H) KK) : HL P N ops (⟨some d, .makeMap t none, ty, pos, af, gd⟩ :: l) σ B H KK :=
  fun w hw => RunL.makeM enc hs fun w' h1 h2 => h w.heap.size w' (hw.push h2 h1 fun k hk => Nat.le_of_eq hk.symm)
theorem hx_lookM {x y : Operand} {k : K} (i : Nat) (hi : nthC H i = some (mapC enc b m)) (hK : KeyK P kt enc) (hm : P.underlying t = some (.map kt et)) (hz : ∀ w, (zeroValue et).run P w = .ok z w)
    (hx : lookO σ x = some (.map (some b))) (hy : lookO σ y = some (enc k)) : ∀ w, Sat B H w → (execOp (evO σ) ⟨d', .lookup t x y false, ty, pos, af, gd⟩).run P w = .ok (.value ((getM k m).getD z)) w := by
  intro w hw
  have hM : MapAt enc w b m := hw.nth hi
  simp [execOp, evO_of_lookO hx, evO_of_lookO hy, run_lookupM hK hm hz hM k false]
theorem hx_lookOkM {x y : Operand} {k : K} (i : Nat) (hi : nthC H i = some (mapC enc b m)) (hK : KeyK P kt enc) (hm : P.underlying t = some (.map kt et)) (hz : ∀ w, (zeroValue et).run P w = .ok z w)
    (hx : lookO σ x = some (.map (some b))) (hy : lookO σ y = some (enc k)) : ∀ w, Sat B H w → (execOp (evO σ) ⟨d', .lookup t x y true, ty, pos, af, gd⟩).run P w = .ok (.value (.tuple ⟨[(getM k m).getD z, .bool (getM k m).isSome]⟩)) w := by
  intro w hw
  have hM : MapAt enc w b m := hw.nth hi
  simp [execOp, evO_of_lookO hx, evO_of_lookO hy, run_lookupM hK hm hz hM k true]
theorem HL.lookM {x y : Operand} {k : K} (i : Nat) (hi : nthC H i = some (mapC enc b m)) (hK : KeyK P kt enc) (hs : stat N ops ⟨some d, .lookup t x y false, ty, pos, af, gd⟩ σ = true) (hm : P.underlying t = some (.map kt et)) (hz : ∀ w, (zeroValue et).run P w = .ok z w)
    (hx : lookO σ x = some (.map (some b))) (hy : lookO σ y = some (enc k)) (h : HL P N ops l ((d, (getM k m).getD z) :: σ) B H KK) : HL P N ops (⟨some d, .lookup t x y false, ty, pos, af, gd⟩ :: l) σ B H KK := HL.rd hs (hx_lookM i hi hK hm hz hx hy) h
theorem HQ.lookM {x y : Operand} {k : K} (i : Nat) (hi : nthC H i = some (mapC enc b m)) (hK : KeyK P kt enc) (hs : stat N ops ⟨some d, .lookup t x y false, ty, pos, af, gd⟩ σ = true) (hm : P.underlying t = some (.map kt et)) (hz : ∀ w, (zeroValue et).run P w = .ok z w)
    (hx : lookO σ x = some (.map (some b))) (hy : lookO σ y = some (enc k)) (h : HQ P N ops l ((d, (getM k m).getD z) :: σ) B H KQ) : HQ P N ops (⟨some d, .lookup t x y false, ty, pos, af, gd⟩ :: l) σ B H KQ := RunQ.op hs (hx_lookM i hi hK hm hz hx hy) h
theorem HL.lookOkM {x y : Operand} {k : K} (i : Nat) (hi : nthC H i = some (mapC enc b m)) (hK : KeyK P kt enc) (hs : stat N ops ⟨some d, .lookup t x y true, ty, pos, af, gd⟩ σ = true) (hm : P.underlying t = some (.map kt et)) (hz : ∀ w, (zeroValue et).run P w = .ok z w)
    (hx : lookO σ x = some (.map (some b))) (hy : lookO σ y = some (enc k)) (h : HL P N ops l ((d, .tuple ⟨[(getM k m).getD z, .bool (getM k m).isSome]⟩) :: σ) B H KK) : HL P N ops (⟨some d, .lookup t x y true, ty, pos, af, gd⟩ :: l) σ B H KK := HL.rd hs (hx_lookOkM i hi hK hm hz hx hy) h
theorem HL.lookV {x y : Operand} {k : K} (i : Nat) (hi : nthC H i = some (mapC enc b m)) (hK : KeyK P kt enc) (hs : stat N ops ⟨some d, .lookup t x y false, ty, pos, af, gd⟩ σ = true) (hm : P.underlying t = some (.map kt et)) (hz : (P.info? et).bind (·.zero) = some z)
    (hx : lookO σ x = some (.map (some b))) (hy : lookO σ y = some (enc k)) (hv : (getM k m).getD z = v) (h : HL P N ops l ((d, v) :: σ) B H KK) : HL P N ops (⟨some d, .lookup t x y false, ty, pos, af, gd⟩ :: l) σ B H KK := HL.rd hs (fun w hw => by rw [← hv]; exact hx_lookM i hi hK hm (zero_run hz) hx hy w hw) h
theorem HQ.lookV {x y : Operand} {k : K} (i : Nat) (hi : nthC H i = some (mapC enc b m)) (hK : KeyK P kt enc) (hs : stat N ops ⟨some d, .lookup t x y false, ty, pos, af, gd⟩ σ = true) (hm : P.underlying t = some (.map kt et)) (hz : (P.info? et).bind (·.zero) = some z)
    (hx : lookO σ x = some (.map (some b))) (hy : lookO σ y = some (enc k)) (hv : (getM k m).getD z = v) (h : HQ P N ops l ((d, v) :: σ) B H KQ) : HQ P N ops (⟨some d, .lookup t x y false, ty, pos, af, gd⟩ :: l) σ B H KQ := RunQ.op hs (fun w hw => by rw [← hv]; exact hx_lookM i hi hK hm (zero_run hz) hx hy w hw) h
theorem HL.lookOkV {x y : Operand} {k : K} {ok : Bool} (i : Nat) (hi : nthC H i = some (mapC enc b m)) (hK : KeyK P kt enc) (hs : stat N ops ⟨some d, .lookup t x y true, ty, pos, af, gd⟩ σ = true) (hm : P.underlying t = some (.map kt et)) (hz : (P.info? et).bind (·.zero) = some z)
    (hx : lookO σ x = some (.map (some b))) (hy : lookO σ y = some (enc k)) (hv : (getM k m).getD z = v) (ho : (getM k m).isSome = ok) (h : HL P N ops l ((d, .tuple ⟨[v, .bool ok]⟩) :: σ) B H KK) : HL P N ops (⟨some d, .lookup t x y true, ty, pos, af, gd⟩ :: l) σ B H KK := HL.rd hs (fun w hw => by rw [← hv, ← ho]; exact hx_lookOkM i hi hK hm (zero_run hz) hx hy w hw) h
theorem Sat.nodupM {i : Nat} (hw : Sat B H w) (hi : nthC H i = some (mapC enc b m)) : NodupM m := MapAt.nodup (show MapAt enc w b m from hw.nth hi)
/-- A map that the heap lets be read. -/
def RdM (B : Base) (H : List Chunk) (enc : K → Value) (b : Nat) (m : List (K × Value)) : Prop := ∀ w, Sat B H w → MapAt enc w b m
theorem RdM.own (i : Nat) (hi : nthC H i = some (mapC enc b m)) : RdM B H enc b m := fun w hw => hw.nth hi
theorem RdM.arg {w0 : World} (hM : MapAt enc w0 b m) : RdM (base w0) H enc b m := fun w hw => hM.below hw.belowB
theorem RdM.at (h : RdM B H enc b m) (hw : Sat B H w) : MapAt enc w b m := h w hw
theorem HL.lookR {x y : Operand} {k : K} (hM : RdM B H enc b m) (hK : KeyK P kt enc) (hs : stat N ops ⟨some d, .lookup t x y false, ty, pos, af, gd⟩ σ = true) (hm : P.underlying t = some (.map kt et)) (hz : (P.info? et).bind (·.zero) = some z)
    (hx : lookO σ x = some (.map (some b))) (hy : lookO σ y = some (enc k)) (hv : (getM k m).getD z = v) (h : HL P N ops l ((d, v) :: σ) B H KK) : HL P N ops (⟨some d, .lookup t x y false, ty, pos, af, gd⟩ :: l) σ B H KK :=
  HL.rd hs (fun w hw => by have := run_lookupM hK hm (zero_run hz) (hM w hw) k false; simp [execOp, evO_of_lookO hx, evO_of_lookO hy, this, hv]) h
theorem HQ.lookR {x y : Operand} {k : K} (hM : RdM B H enc b m) (hK : KeyK P kt enc) (hs : stat N ops ⟨some d, .lookup t x y false, ty, pos, af, gd⟩ σ = true) (hm : P.underlying t = some (.map kt et)) (hz : (P.info? et).bind (·.zero) = some z)
    (hx : lookO σ x = some (.map (some b))) (hy : lookO σ y = some (enc k)) (hv : (getM k m).getD z = v) (h : HQ P N ops l ((d, v) :: σ) B H KQ) : HQ P N ops (⟨some d, .lookup t x y false, ty, pos, af, gd⟩ :: l) σ B H KQ :=
  RunQ.op hs (fun w hw => by have := run_lookupM hK hm (zero_run hz) (hM w hw) k false; simp [execOp, evO_of_lookO hx, evO_of_lookO hy, this, hv]) h
theorem HL.lookOkR {x y : Operand} {k : K} {ok : Bool} (hM : RdM B H enc b m) (hK : KeyK P kt enc) (hs : stat N ops ⟨some d, .lookup t x y true, ty, pos, af, gd⟩ σ = true) (hm : P.underlying t = some (.map kt et)) (hz : (P.info? et).bind (·.zero) = some z)
    (hx : lookO σ x = some (.map (some b))) (hy : lookO σ y = some (enc k)) (hv : (getM k m).getD z = v) (ho : (getM k m).isSome = ok) (h : HL P N ops l ((d, .tuple ⟨[v, .bool ok]⟩) :: σ) B H KK) : HL P N ops (⟨some d, .lookup t x y true, ty, pos, af, gd⟩ :: l) σ B H KK :=
  HL.rd hs (fun w hw => by have := run_lookupM hK hm (zero_run hz) (hM w hw) k true; simp [execOp, evO_of_lookO hx, evO_of_lookO hy, this, hv, ho]) h
theorem HL.lenMR {x : Operand} (hM : RdM B H enc b m) (hs : stat N ops ⟨some d, .call ⟨.builtin .len, #[x], #[t]⟩, ty, pos, af, gd⟩ σ = true) (hm : P.underlying t = some (.map kt et)) (hx : lookO σ x = some (.map (some b)))
    (h : HL P N ops l ((d, .int .i64 (m.length : Int)) :: σ) B H KK) : HL P N ops (⟨some d, .call ⟨.builtin .len, #[x], #[t]⟩, ty, pos, af, gd⟩ :: l) σ B H KK := by
  refine HL.rd hs (fun w hw => ?_) h
  simp [execOp, resolve, evO_of_lookO hx, invoke, builtin, run_lenM hm (hM w hw)]
theorem HL.updM {x y u : Operand} {k : K} {v : Value} (i : Nat) (hi : nthC H i = some (mapC enc b m)) (hK : KeyK P kt enc) (hs : stat N ops ⟨none, .mapUpdate t x y u, ty, pos, af, gd⟩ σ = true) (hm : P.underlying t = some (.map kt et))
    (hx : lookO σ x = some (.map (some b))) (hy : lookO σ y = some (enc k)) (hu : lookO σ u = some v)
    (h : HL P N ops l σ B (setC H i (mapC enc b (setM k v m))) KK) : HL P N ops (⟨none, .mapUpdate t x y u, ty, pos, af, gd⟩ :: l) σ B H KK := by
  refine HL.opU hs (fun w hw => ?_) h
  have hM : MapAt enc w b m := hw.nth hi
  obtain ⟨w', h1, h2, h3, h4⟩ := run_updateM hK hm hM k v
  exact ⟨w', by simp [execOp, evO_of_lookO hx, evO_of_lookO hy, evO_of_lookO hu, h1], hw.updG hi h3 (fun k hk => by cases hk; rfl) h2 (fun k hk => .inl hk)⟩
theorem HL.delM {x y : Operand} {k : K} (i : Nat) (hi : nthC H i = some (mapC enc b m)) (hK : KeyK P kt enc) (hs : stat N ops ⟨none, .call ⟨.builtin .delete, #[x, y], #[t, kt]⟩, ty, pos, af, gd⟩ σ = true) (hm : P.underlying t = some (.map kt et))
    (hx : lookO σ x = some (.map (some b))) (hy : lookO σ y = some (enc k))
    (h : HL P N ops l σ B (setC H i (mapC enc b (GX.delM k m))) KK) : HL P N ops (⟨none, .call ⟨.builtin .delete, #[x, y], #[t, kt]⟩, ty, pos, af, gd⟩ :: l) σ B H KK := by
  refine HL.op0 (fun _ : Unit => .tuple #[]) (fun _ => setC H i (mapC enc b (GX.delM k m))) (fun _ => True) hs (fun w hw => ?_) (fun _ _ => h)
  have hM : MapAt enc w b m := hw.nth hi
  obtain ⟨w', h1, h2, h3, h4⟩ := run_deleteM (ty := ty) hK hm hM k
  refine ⟨(), w', ?_, trivial, hw.updG hi h3 (fun k hk => by cases hk; rfl) h2 (fun k hk => .inl hk)⟩
  simp [execOp, resolve, evO_of_lookO hx, evO_of_lookO hy, invoke, builtin, h1]
theorem HL.delMd {x y : Operand} {k : K} (i : Nat) (hi : nthC H i = some (mapC enc b m)) (hK : KeyK P kt enc) (hs : stat N ops ⟨some d, .call ⟨.builtin .delete, #[x, y], #[t, kt]⟩, ty, pos, af, gd⟩ σ = true) (hm : P.underlying t = some (.map kt et))
    (hx : lookO σ x = some (.map (some b))) (hy : lookO σ y = some (enc k))
    (h : HL P N ops l ((d, .tuple #[]) :: σ) B (setC H i (mapC enc b (GX.delM k m))) KK) : HL P N ops (⟨some d, .call ⟨.builtin .delete, #[x, y], #[t, kt]⟩, ty, pos, af, gd⟩ :: l) σ B H KK := by
  refine HL.opX (fun _ : Unit => .tuple #[]) (fun _ => setC H i (mapC enc b (GX.delM k m))) (fun _ => True) hs (fun w hw => ?_) (fun _ _ => h)
  have hM : MapAt enc w b m := hw.nth hi
  obtain ⟨w', h1, h2, h3, h4⟩ := run_deleteM (ty := ty) hK hm hM k
  refine ⟨(), w', ?_, trivial, hw.updG hi h3 (fun k hk => by cases hk; rfl) h2 (fun k hk => .inl hk)⟩
  simp [execOp, resolve, evO_of_lookO hx, evO_of_lookO hy, invoke, builtin, h1]
theorem HL.lenM {x : Operand} (i : Nat) (hi : nthC H i = some (mapC enc b m)) (hs : stat N ops ⟨some d, .call ⟨.builtin .len, #[x], #[t]⟩, ty, pos, af, gd⟩ σ = true) (hm : P.underlying t = some (.map kt et)) (hx : lookO σ x = some (.map (some b)))
    (h : HL P N ops l ((d, .int .i64 (m.length : Int)) :: σ) B H KK) : HL P N ops (⟨some d, .call ⟨.builtin .len, #[x], #[t]⟩, ty, pos, af, gd⟩ :: l) σ B H KK := by
  refine HL.rd hs (fun w hw => ?_) h
  have hM : MapAt enc w b m := hw.nth hi
  simp [execOp, resolve, evO_of_lookO hx, invoke, builtin, run_lenM hm hM]

end
end Go.GX

/- Lists of elements as cells. Conditions: none. -/
namespace Go.GX
open Go.RowKit
set_option linter.unusedVariables false
set_option linter.unusedSectionVars false
set_option linter.unusedSimpArgs false
section
variable {α : Type} {E : α → List Value} {sz : Nat}
def cellsOf (E : α → List Value) (l : List α) : List Value := (l.map E).flatten
theorem cellsOf_nil : cellsOf E [] = [] := rfl
theorem cellsOf_app (l l' : List α) : cellsOf E (l ++ l') = cellsOf E l ++ cellsOf E l' := by simp [cellsOf]
theorem cellsOf_one (a : α) : cellsOf E [a] = E a := by simp [cellsOf]
theorem cellsOf_len (hE : ∀ a, (E a).length = sz) : ∀ (l : List α), (cellsOf E l).length = l.length * sz
  | [] => by simp [cellsOf]
  | a :: l => by
    have := cellsOf_len hE l
    unfold cellsOf at this ⊢
    rw [List.map_cons, List.flatten_cons, List.length_append, this, hE, List.length_cons, Nat.add_mul]; omega
theorem cellsOf_drop (hE : ∀ a, (E a).length = sz) : ∀ (j : Nat) (l : List α), (cellsOf E l).drop (j * sz) = cellsOf E (l.drop j)
  | 0, l => by simp
  | j + 1, [] => by simp [cellsOf]
  | j + 1, a :: l => by
    have := cellsOf_drop hE j l
    unfold cellsOf at this ⊢
    rw [List.map_cons, List.flatten_cons, List.drop_append, hE, List.drop_eq_nil_of_le (by rw [hE, Nat.add_mul]; omega), List.nil_append, show (j + 1) * sz - sz = j * sz by rw [Nat.add_mul]; omega, this]
    rfl
theorem cellsOf_take (hE : ∀ a, (E a).length = sz) : ∀ (j : Nat) (l : List α), (cellsOf E l).take (j * sz) = cellsOf E (l.take j)
  | 0, l => by simp [cellsOf]
  | j + 1, [] => by simp [cellsOf]
  | j + 1, a :: l => by
    have := cellsOf_take hE j l
    unfold cellsOf at this ⊢
    rw [List.map_cons, List.flatten_cons, List.take_append, hE, List.take_of_length_le (by rw [hE, Nat.add_mul]; omega), show (j + 1) * sz - sz = j * sz by rw [Nat.add_mul]; omega, this]
    rfl
theorem cellsOf_get (hE : ∀ a, (E a).length = sz) {l : List α} {j : Nat} {a : α} (ha : l[j]? = some a) : ∀ (i : Nat) u, (E a)[i]? = some u → (cellsOf E l)[j * sz + i]? = some u := by
  intro i u hu
  obtain ⟨hj, he⟩ := List.getElem?_eq_some_iff.1 ha
  rw [← List.getElem?_drop, cellsOf_drop hE, List.drop_eq_getElem_cons hj, he]
  show ((a :: l.drop (j + 1)).map E).flatten[i]? = _
  rw [List.map_cons, List.flatten_cons, List.getElem?_append_left (List.getElem?_eq_some_iff.1 hu).1]
  exact hu
theorem cellsOf_get1 {f : α → Value} {l : List α} {j : Nat} {a : α} (ha : l[j]? = some a) : (cellsOf (fun x => [f x]) l)[j * 1]? = some (f a) := by
  have := cellsOf_get (E := fun x => [f x]) (sz := 1) (fun _ => rfl) ha 0 (f a) rfl
  simpa using this
theorem cellsOf_one1 (f : α → Value) (l : List α) : cellsOf (fun x => [f x]) l = l.map f := by
  induction l with
  | nil => rfl
  | cons a l ih => unfold cellsOf at ih ⊢; simp [ih]
theorem getSome {l : List α} {j : Nat} (h : j < l.length) : ∃ a, l[j]? = some a := ⟨l[j], List.getElem?_eq_getElem h⟩
theorem take_succ_get {l : List α} {j : Nat} {a : α} (ha : l[j]? = some a) : l.take (j + 1) = l.take j ++ [a] := by
  obtain ⟨hj, he⟩ := List.getElem?_eq_some_iff.1 ha
  rw [← he, List.take_succ_eq_append_getElem hj]
theorem drop_get {l : List α} {j : Nat} {a : α} (ha : l[j]? = some a) : l.drop j = a :: l.drop (j + 1) := by
  obtain ⟨hj, he⟩ := List.getElem?_eq_some_iff.1 ha
  rw [← he]; exact List.drop_eq_getElem_cons hj
theorem find_at {p : α → Bool} {l : List α} {j : Nat} {a : α} (ha : l[j]? = some a) (hno : ∀ x ∈ l.take j, p x = false) (hp : p a = true) : l.find? p = some a := by
  obtain ⟨hj, he⟩ := List.getElem?_eq_some_iff.1 ha
  have e : l = l.take j ++ a :: l.drop (j + 1) := by rw [← drop_get ha, List.take_append_drop]
  rw [e, List.find?_append, List.find?_eq_none.2 (fun x hx => by simp [hno x hx])]
  simp [hp]
theorem one_allcells {E : α → List Value} (h1 : ∀ a, allOne (E a) = true) (l : List α) : ∀ u ∈ cellsOf E l, u.oneCell' = true := by
  intro u hu
  unfold cellsOf at hu
  obtain ⟨c, hc, hu⟩ := List.mem_flatten.1 hu
  obtain ⟨a, _, rfl⟩ := List.mem_map.1 hc
  exact allOne_spec (h1 a) u hu
end
abbrev iC (n : Int) : List Value := [.int .i64 n]
theorem iC_len (n : Int) : (iC n).length = 1 := rfl
section
variable {P : Program} {N : Nat} {σ : Store} {B : Base} {H : List Chunk} {ops l : List Oper} {K : Act → World → Prop} {d : Nat} {ty : TypeId} {pos : String} {af : Array Edge} {gd : Option (Nat × Bool)}
theorem HR.skip {f : FuncId} {k : List Item} {R : Ending → World → Prop} (h : HR P f N k σ B H R) : HR P f N (.code .skip :: k) σ B H R := fun w hw => Run.skip (h w hw)
/-- What is known now becomes the ground. -/
theorem HR.rebase {f : FuncId} {k : List Item} {R : Ending → World → Prop} (h : ∀ w, Sat B H w → HR P f N k σ (base w) [] R) : HR P f N k σ B H R := fun w hw => h w hw w (Sat.start w)
theorem HL.rebase (h : ∀ w, Sat B H w → HL P N ops l σ (base w) [] K) : HL P N ops l σ B H K := fun w hw => h w hw w (Sat.start w)
theorem HL.setHd {t : Nat} {v v' : Value} (e : v = v') (h : HL P N ops l ((t, v') :: σ) B H K) : HL P N ops l ((t, v) :: σ) B H K := by subst e; exact h
/-- An own slice is handed back. -/
theorem HL.callO {g : FuncId} {args : List Operand} {a1 : List Value} {tys : Array TypeId} {e sz n : Nat} {xs : List Value} (hg : IsFn P g)
    (hs : stat N ops ⟨some d, .call ⟨.value (.func g), args.toArray, tys⟩, ty, pos, af, gd⟩ σ = true) (ha : vals σ args = some a1)
    (hc : ∀ w, Sat B H w → Calls P g a1.toArray w fun e' w' => ∃ v, e' = .returned v ∧ Sat (base w) [ownC v e sz n xs] w')
    (h : ∀ v, HL P N ops l ((d, v) :: σ) B (ownC v e sz n xs :: H) K) : HL P N ops (⟨some d, .call ⟨.value (.func g), args.toArray, tys⟩, ty, pos, af, gd⟩ :: l) σ B H K :=
  HL.callX (r := fun v => v) (Q := fun _ => True) (G := fun v => [ownC v e sz n xs]) hg hs ha (fun w hw => (hc w hw).mono fun e' w' ⟨v, h1, h2⟩ => ⟨v, h1, trivial, h2⟩) (fun v _ => h v)

/-- A store into an element of one's own slice: cells j .. of it. -/
theorem HL.storeEs {v u : Value} {t e sz n j : Nat} {x y : Operand} {xs us : List Value} (i : Nat) (hi : nthC H i = some (ownC v e sz n xs)) (hs : stat N ops ⟨none, .store t x y, ty, pos, af, gd⟩ σ = true)
    (hx : lookO σ x = some (elemPtr v j)) (hy : lookO σ y = some u) (hus : cellsL u = us) (hm : (P.info? t).map (·.size) = some us.length) (hone : allOne us = true) (hfit : j + us.length ≤ xs.length) (hne : us ≠ [])
    (h : HL P N ops l σ B (setC H i (ownC v e sz n (xs.take j ++ us ++ xs.drop (j + us.length)))) K) : HL P N ops (⟨none, .store t x y, ty, pos, af, gd⟩ :: l) σ B H K := by
  refine HL.opU hs (fun w hw => ?_) h
  have hv : Vw w v e sz n xs := hw.nth hi
  have hpos : 0 < us.length := List.length_pos_iff.2 hne
  obtain ⟨hl, hv⟩ := hv
  rcases hv with ⟨rfl, rfl⟩ | ⟨g, off, cap, cur, rfl, hg, hnc, hcm, hcs, htake⟩
  · have : xs.length = 0 := by rw [hl]; omega
    omega
  · have hx' : lookO σ x = some (.pointer (some ⟨g, off + j, none⟩)) := hx
    have hsz : n * sz ≤ cap * sz := Nat.mul_le_mul_right _ hnc
    have hfit2 : off + j + us.length ≤ cur.size := by omega
    have e1 : (sizeOf t).run P w = .ok us.length w := by
      cases h : P.info? t with
      | none => rw [h] at hm; cases hm
      | some ti => rw [h] at hm; simp at hm; simp [sizeOf, typeInfo, h, hm]
    have hst := run_storeCells_at P g (off + j) e us 0 cur w hg (by simpa using hfit2) (allOne_spec hone)
    simp only [Nat.add_zero] at hst
    have hc : u.cells = us.toArray := by rw [cellsL_eq, hus]
    have hr : (storeVar t ⟨g, off + j, none⟩ u).run P w = .ok () (w.setRow g (cur.toList.take (off + j) ++ us ++ cur.toList.drop (off + j + us.length)).toArray) := by
      unfold storeVar
      rw [Sem.run_bind, e1]
      simp only [Result.andThen_ok, hc]
      simp [hst]
    refine ⟨w.setRow g (cur.toList.take (off + j) ++ us ++ cur.toList.drop (off + j + us.length)).toArray, ?_, hw.upd hi rfl rfl rfl (by simp) (fun k hk hne => setRow_other w g k _ (fun e => hne (by rw [e]; rfl))) ⟨?_, .inr ⟨g, off, cap, _, rfl, setRow_heap w g cur _ e _ hg, hnc, hcm, ?_, ?_⟩⟩ (fun k hk => .inl hk)⟩
    · simp [execOp, evO_of_lookO hx', evO_of_lookO hy, Instr.storeAt, Instr.sureAddr, hr]
    · simp; omega
    · simp; omega
    · have hcl : cur.toList.length = cur.size := Array.length_toList
      rw [← htake]
      have e2 : cur.toList.take (off + j) = cur.toList.take off ++ (cur.toList.drop off).take j := by rw [List.take_add]
      rw [e2]
      simp only [List.append_assoc]
      rw [List.drop_append_of_le_length (by simp; omega), List.drop_eq_nil_of_le (by simp; omega), List.nil_append]
      rw [List.take_take, Nat.min_eq_left (by omega)]
      have hl3 : ((cur.toList.drop off).take j).length = j := by simp; omega
      rw [List.take_append, List.take_of_length_le (by omega), hl3]
      congr 1
      rw [List.take_append, List.take_of_length_le (by omega)]
      congr 1
      rw [List.drop_take, List.drop_drop, show n * sz - (j + us.length) = n * sz - j - us.length by omega]
      congr 2
      omega
theorem HL.storeE {v u : Value} {t e sz n j : Nat} {x y : Operand} {xs : List Value} (i : Nat) (hi : nthC H i = some (ownC v e sz n xs)) (hs : stat N ops ⟨none, .store t x y, ty, pos, af, gd⟩ σ = true)
    (hx : lookO σ x = some (elemPtr v j)) (hy : lookO σ y = some u) (hus : cellsL u = [u]) (hm : (P.info? t).map (·.size) = some 1) (hone : allOne [u] = true) (hj : j < xs.length)
    (h : HL P N ops l σ B (setC H i (ownC v e sz n (xs.set j u))) K) : HL P N ops (⟨none, .store t x y, ty, pos, af, gd⟩ :: l) σ B H K := by
  refine HL.storeEs i hi hs hx hy hus hm hone (by simp; omega) (by simp) ?_
  have : xs.take j ++ [u] ++ xs.drop (j + [u].length) = xs.set j u := by
    rw [List.set_eq_take_append_cons_drop, if_pos hj]; simp
  rw [this]; exact h
end
theorem cells1_set {α : Type} {f : α → Value} (l : List α) (j : Nat) (a : α) : (cellsOf (fun x => [f x]) l).set (j * 1) (f a) = cellsOf (fun x => [f x]) (l.set j a) := by
  rw [cellsOf_one1, cellsOf_one1, Nat.mul_one, List.map_set]
end Go.GX

/- Regions that draw their order, where more than one operation that writes may come up: both ways. Conditions: none. -/
namespace Go.GX
open Go.RowKit
set_option linter.unusedVariables false
set_option linter.unusedSectionVars false
set_option linter.unusedSimpArgs false
section
variable {P : Program} {f : FuncId} {N : Nat} {k : List Item} {σ : Store} {B : Base} {H H' F : List Chunk} {R : Ending → World → Prop} {ops l : List Oper} {o : Oper} {K : Act → World → Prop}
  {d : Nat} {op : Op} {ty : TypeId} {pos : String} {af : Array Edge} {gd : Option (Nat × Bool)} {v u : Value} {n : Nat} {L : Array Bool}

def AK (P : Program) (B : Base) (F : List Chunk) (ops : List Oper) (n : Nat) (L : Array Bool) (K : Act → World → Prop) : Act → World → Prop := fun a w => Sat B F w ∧ wpAnyH P .any ops.toArray (QN K) (fun w => Sat B F w) n L a w
def HA (P : Program) (N : Nat) (ops : List Oper) (n : Nat) (L : Array Bool) (σ : Store) (B : Base) (H F : List Chunk) (K : Act → World → Prop) : Prop := ∀ w, Sat B H w → Sat B F w → ∀ a, Agr N σ a → wpAnyH P .any ops.toArray (QN K) (fun w => Sat B F w) n L a w

theorem HR.regionA (is : List Nat) (hF : pickC H is = some F) (hd : distinctN is = true) {id : Nat} (hm : P.follows .mixedOrders = true) (h : HA P N ops ops.toArray.size (Array.replicate ops.toArray.size false) σ B H F (CRun P f k R)) : HR P f N (.code (.region id ops.toArray true) :: k) σ B H R := by
  intro w hw a ha
  have hb : Below w.heap.size w { w with drawn := w.drawn + 1 } := ⟨rfl, rfl, rfl, Nat.le_refl _, fun _ _ => rfl⟩
  exact CRun.of_wp (wp_region_held (S := fun w => Sat B F w) hm (h _ (hw.grow hb) ((hw.grow hb).pick is hF hd) a ha))

theorem HA.rd (i : Nat) (hf : ((Region.noSelect ops.toArray && Region.free .any ops.toArray L i) && (Region.ready .any ops.toArray L).contains i) = true) (ho : ops[i]? = some ⟨some d, op, ty, pos, af, gd⟩) (hs : stat N ops ⟨some d, op, ty, pos, af, gd⟩ σ = true)
    (hr : ∀ w, Sat B F w → (execOp (evO σ) ⟨some d, op, ty, pos, af, gd⟩).run P w = .ok (.value v) w) (h : HA P N ops n (L.setIfInBounds i true) ((d, v) :: σ) B H F K) : HA P N ops (n + 1) L σ B H F K := by
  intro w hw hF a ha
  obtain ⟨h1, h2, h3, h4⟩ := stat_spec hs
  simp only [Bool.and_eq_true] at hf
  refine wpAnyH_take (oi := ⟨some d, op, ty, pos, af, gd⟩) (v := v) (by simpa using ho) hf.1.1 hf.1.2 hf.2 (fun c a w h => absurd h.1 (by nofun)) (.inl ⟨wantedS_wanted ha h4, fun w hw => ?_⟩) hF (h w hw hF _ (ha.put (some d) v h3))
  rw [evalAt ha _ h1 h2]
  exact hr w hw
theorem HA.ev (i : Nat) (hf : ((Region.noSelect ops.toArray && Region.free .any ops.toArray L i) && (Region.ready .any ops.toArray L).contains i) = true) (ho : ops[i]? = some ⟨some d, op, ty, pos, af, gd⟩) (hs : stat N ops ⟨some d, op, ty, pos, af, gd⟩ σ = true) (he : evOp P σ op = some v)
    (h : HA P N ops n (L.setIfInBounds i true) ((d, v) :: σ) B H F K) : HA P N ops (n + 1) L σ B H F K := HA.rd i hf ho hs (fun w _ => evOp_run he) h
theorem HA.evc {c : Prop} (i : Nat) (hf : ((Region.noSelect ops.toArray && Region.free .any ops.toArray L i) && (Region.ready .any ops.toArray L).contains i) = true) (ho : ops[i]? = some ⟨some d, op, ty, pos, af, gd⟩) (hs : stat N ops ⟨some d, op, ty, pos, af, gd⟩ σ = true) (he : evC P σ op = some (v, c)) (hc : c)
    (h : HA P N ops n (L.setIfInBounds i true) ((d, v) :: σ) B H F K) : HA P N ops (n + 1) L σ B H F K := HA.rd i hf ho hs (fun w _ => evC_run he hc) h
theorem HA.loadB {t : TypeId} {td : TypeDesc} {x : Operand} {b j : Nat} {T : TypeId} {cs : List Value} (i c : Nat) (hf : ((Region.noSelect ops.toArray && Region.free .any ops.toArray L i) && (Region.ready .any ops.toArray L).contains i) = true) (ho : ops[i]? = some ⟨some d, .load t x, ty, pos, af, gd⟩) (hx : lookO σ x = some (.pointer (some ⟨b, j, none⟩))) (hi : nthC F c = some (blkC b cs T)) (hs : stat N ops ⟨some d, .load t x, ty, pos, af, gd⟩ σ = true)
    (hT : P.underlying t = some td) (hp : plainT td = true) (hu : nthV cs j = some u)
    (h : HA P N ops n (L.setIfInBounds i true) ((d, u) :: σ) B H F K) : HA P N ops (n + 1) L σ B H F K := HA.rd i hf ho hs (hx_loadB c hi hT hp hx hu) h
theorem HA.loadR {t : TypeId} {td : TypeDesc} {x : Operand} {b o m : Nat} {T : TypeId} {cs us : List Value} (i c : Nat) (hf : ((Region.noSelect ops.toArray && Region.free .any ops.toArray L i) && (Region.ready .any ops.toArray L).contains i) = true) (ho : ops[i]? = some ⟨some d, .load t x, ty, pos, af, gd⟩) (hx : lookO σ x = some (.pointer (some ⟨b, o, none⟩))) (hi : nthC F c = some (blkC b cs T)) (hs : stat N ops ⟨some d, .load t x, ty, pos, af, gd⟩ σ = true)
    (hT : P.underlying t = some td) (hr : td.isRow = true) (hm : (P.info? t).map (·.size) = some m) (hu : rngV cs o m = some us)
    (h : HA P N ops n (L.setIfInBounds i true) ((d, .agg ⟨us⟩) :: σ) B H F K) : HA P N ops (n + 1) L σ B H F K := HA.rd i hf ho hs (hx_loadR c hi hT hr hm hx hu) h
theorem HA.build {t : TypeId} {ps : List (Nat × Operand)} {us : List Value} (i : Nat) (hf : ((Region.noSelect ops.toArray && Region.free .any ops.toArray L i) && (Region.ready .any ops.toArray L).contains i) = true) (ho : ops[i]? = some ⟨some d, .build t ps.toArray, ty, pos, af, gd⟩) (hs : stat N ops ⟨some d, .build t ps.toArray, ty, pos, af, gd⟩ σ = true) (hb : buildE P σ t ps = some us)
    (h : HA P N ops n (L.setIfInBounds i true) ((d, .agg ⟨us⟩) :: σ) B H F K) : HA P N ops (n + 1) L σ B H F K := HA.rd i hf ho hs (fun w _ => hx_build hb w) h
/-- An operation that has its turn. -/
theorem HA.opI (i : Nat) (ho : ops[i]? = some o) (h : HL P N ops [o] σ B H (AK P B F ops n (L.setIfInBounds i true) K)) : ∀ w, Sat B H w → ∀ a, Agr N σ a → wpOp P ops.toArray (QN K) i (fun a' w' => Sat B F w' ∧ wpAnyH P .any ops.toArray (QN K) (fun w => Sat B F w) n (L.setIfInBounds i true) a' w') a w := by
  intro w hw a ha
  have h := h w hw a ha
  simp only [wpOp, show ops.toArray[i]? = some o by simpa using ho]
  unfold wpList at h
  split
  · rename_i hw'
    rw [if_pos hw'] at h
    rcases h with h | h
    · left
      have h2 : o.wp P a w (fun a' w' => (QN (AK P B F ops n (L.setIfInBounds i true) K)) .normal a' w') (QN (AK P B F ops n (L.setIfInBounds i true) K)) := h
      exact Oper.wp_mono (fun a' w' h' => h'.2) (wp_QN h2)
    · exact (QN_noOut (K := AK P B F ops n (L.setIfInBounds i true) K) h.2).elim
  · rename_i hw'
    rw [if_neg hw'] at h
    exact h.2
theorem HA.one (i : Nat) (hr : decide (Region.ready .any ops.toArray L = [i]) = true) (ho : ops[i]? = some o) (h : HL P N ops [o] σ B H (AK P B F ops n (L.setIfInBounds i true) K)) : HA P N ops (n + 1) L σ B H F K := by
  intro w hw hF a ha
  refine wpAnyH_all (of_decide_eq_true hr) (by simp) fun j hj => ?_
  have : j = i := by simpa using hj
  subst this
  exact HA.opI j ho h w hw a ha
theorem HA.two {o2 : Oper} (i j : Nat) (hr : decide (Region.ready .any ops.toArray L = [i, j]) = true) (ho : ops[i]? = some o) (ho2 : ops[j]? = some o2) (h : HL P N ops [o] σ B H (AK P B F ops n (L.setIfInBounds i true) K)) (h2 : HL P N ops [o2] σ B H (AK P B F ops n (L.setIfInBounds j true) K)) : HA P N ops (n + 1) L σ B H F K := by
  intro w hw hF a ha
  refine wpAnyH_all (of_decide_eq_true hr) (by simp) fun q hq => ?_
  simp only [List.mem_cons, List.not_mem_nil, or_false] at hq
  rcases hq with rfl | rfl
  · exact HA.opI q ho h w hw a ha
  · exact HA.opI q ho2 h2 w hw a ha
theorem HL.backA (is : List Nat) (hF : pickC H is = some F) (hd : distinctN is = true) (h : HA P N ops n L σ B H F K) : HL P N ops [] σ B H (AK P B F ops n L K) := fun w hw a ha => wpList_nil ⟨rfl, hw.pick is hF hd, h w hw (hw.pick is hF hd) a ha⟩
theorem HA.done (hr : (Region.ready .any ops.toArray L).isEmpty = true) (h : HR P f N k σ B H R) : HA P N ops n L σ B H F (CRun P f k R) := fun w hw _ a ha => wpAnyH_done (by simpa using hr) ⟨rfl, h w hw a ha⟩ n
end
end Go.GX

/- The library's contracts in the words of rows, met by a view. Conditions: none. -/
namespace Go.GX
open Go.RowKit
set_option linter.unusedVariables false
set_option linter.unusedSectionVars false
set_option linter.unusedSimpArgs false
section
variable {α : Type} [Inhabited α]
theorem Vw.holds {enc : α → Value} {w : World} {e n g off cap : Nat} {zs : List α} (h : Vw w (.slice (some ⟨g, off, none⟩) n cap) e 1 n (zs.map enc)) : g < w.heap.size ∧ zs.length = n ∧ Sort.Holds enc w g off zs.toArray := by
  have hl : zs.length = n := by simpa using h.1
  rcases h.2 with ⟨e0, _⟩ | ⟨g', off', cap', cur, e0, hg, hn, hm, hs, ht⟩
  · cases e0
  · injection e0 with e1 _ e3
    injection e1 with e1
    injection e1 with e1 e2
    subst e1; subst e2; subst e3
    refine ⟨(Array.getElem?_eq_some_iff.1 hg).1, hl, fun j hj => ?_⟩
    have hj' : j < n := by simpa [hl] using hj
    refine ⟨?_, by simp [World.frozen?, hg]⟩
    have e1 : ((cur.toList.drop off).take (n * 1))[j]? = (zs.map enc)[j]? := by rw [ht]
    rw [List.getElem?_take, if_pos (by omega), List.getElem?_drop, Array.getElem?_toList, List.getElem?_map, List.getElem?_eq_getElem (by omega)] at e1
    simp only [World.cell?, hg]
    simp only [Option.isSome_none, Bool.false_eq_true, if_false]
    rw [e1]
    simp [getElem!_pos, show j < zs.length by omega]
theorem Vw.putRow {enc : α → Value} {w : World} {e n g off cap q : Nat} {os : Array Obj} {zs ys : List α} (h : Vw w (.slice (some ⟨g, off, none⟩) n cap) e 1 n (zs.map enc)) (hy : ys.length = n) :
    Vw (Sort.grow (Sort.putRow enc (Sort.ahead w q) g off ys.toArray) os) (.slice (some ⟨g, off, none⟩) n cap) e 1 n (ys.map enc) ∧ w.grownBy (Sort.grow (Sort.putRow enc (Sort.ahead w q) g off ys.toArray) os) (some g) := by
  rcases h.2 with ⟨e0, _⟩ | ⟨g', off', cap', cur, e0, hg, hn, hm, hs, ht⟩
  · cases e0
  · injection e0 with e1 _ e3
    injection e1 with e1
    injection e1 with e1 e2
    subst e1; subst e2; subst e3
    have hlt := (Array.getElem?_eq_some_iff.1 hg).1
    have hblk : ∀ k, k < w.heap.size → (Sort.grow (Sort.putRow enc (Sort.ahead w q) g off ys.toArray) os).heap[k]? = (Sort.putRow enc (Sort.ahead w q) g off ys.toArray).heap[k]? := by
      intro k hk
      have : k < (Sort.putRow enc (Sort.ahead w q) g off ys.toArray).heap.size := by simpa [Sort.putRow, Sort.mapBlock, Sort.ahead] using hk
      simp [Sort.grow, Array.getElem?_append_left this]
    refine ⟨⟨by simp; omega, .inr ⟨g, off, cap, Sort.putCells enc off ys.toArray cur, rfl, ?_, hn, hm, by simpa [Sort.putCells] using hs, ?_⟩⟩, ?_⟩
    · rw [hblk g hlt]
      simp [Sort.putRow, Sort.mapBlock, Sort.ahead, Array.getElem?_modify, hg, Sort.onCells]
    · apply List.ext_getElem?
      intro j
      rw [List.getElem?_take, List.getElem?_map, List.getElem?_drop, Array.getElem?_toList]
      by_cases hj : j < n
      · have hjc : off + j < cur.size := by omega
        simp only [Nat.mul_one, if_pos hj, Sort.putCells, Array.getElem?_mapIdx, Array.getElem?_eq_getElem hjc, Option.map_some]
        rw [if_pos (by simp; omega), List.getElem?_eq_getElem (by omega)]
        simp [getElem!_pos, show j < ys.length by omega, show off + j - off = j by omega]
      · simp [hj, List.getElem?_eq_none (show ys.length ≤ j by omega)]
    · refine ⟨rfl, rfl, rfl, ?_, fun k hk hne => ?_⟩
      · simp [Sort.grow, Sort.putRow, Sort.mapBlock, Sort.ahead]
      · rw [hblk k hk]
        have : g ≠ k := fun e => hne (by rw [e])
        simp [Sort.putRow, Sort.mapBlock, Sort.ahead, Array.getElem?_modify, this]
end

theorem Sat.sameOwn {w : World} {v : Value} {e sz n : Nat} {xs : List Value} (hv : Vw w v e sz n xs) : Sat ⟨w, feet [ownC v e sz n xs]⟩ [ownC v e sz n xs] w :=
  Sat.ofGrown (r := none) (grownBy_refl _ _) (fun k hk => by cases hk) hv (fun k hk => .inl hk)
theorem Sat.putOwn {α : Type} [Inhabited α] {enc : α → Value} {w : World} {e n g off cap q : Nat} {os : Array Obj} {zs ys : List α} (h : Vw w (.slice (some ⟨g, off, none⟩) n cap) e 1 n (cellsOf (fun x => [enc x]) zs)) (hy : ys.length = n) :
    Sat ⟨w, feet [ownC (.slice (some ⟨g, off, none⟩) n cap) e 1 n (cellsOf (fun x => [enc x]) zs)]⟩ [ownC (.slice (some ⟨g, off, none⟩) n cap) e 1 n (cellsOf (fun x => [enc x]) ys)] (Sort.grow (Sort.putRow enc (Sort.ahead w q) g off ys.toArray) os) := by
  obtain ⟨k1, k2⟩ := Vw.putRow (q := q) (os := os) (enc := enc) (zs := zs) (ys := ys) (by rw [← cellsOf_one1]; exact h) hy
  refine Sat.ofGrown (r := some g) k2 (fun k hk => by cases hk; rfl) ?_ (fun k hk => .inl hk)
  show Vw _ _ _ _ _ _
  rw [cellsOf_one1]
  exact k1
/-! ### The slices in a map -/
/-- The slices of a map's entries, each in a block of its own. -/
def slicesC (e : TypeId) (m : List (Int × Value)) (adj : Int → List Int) : Chunk where
  foot := fun k => ∃ p ∈ m, p.2.ownBlock = some k
  p := fun w => (∀ p ∈ m, Vw w p.2 e 1 (adj p.1).length (cellsOf iC (adj p.1))) ∧ ∀ p ∈ m, ∀ q ∈ m, p.1 ≠ q.1 → ∀ k, p.2.ownBlock = some k → q.2.ownBlock ≠ some k
  loc := fun w w' h hp => ⟨fun p hp' => (ownC p.2 e 1 (adj p.1).length (cellsOf iC (adj p.1))).loc w w' (fun k hk => h k ⟨p, hp', hk⟩) (hp.1 p hp'), hp.2⟩
  lt := fun w hp k ⟨p, hp', hk⟩ => (ownC p.2 e 1 (adj p.1).length (cellsOf iC (adj p.1))).lt w (hp.1 p hp') k hk

theorem getM_mem {K : Type} [DecidableEq K] {k : K} {v : Value} : ∀ {m : List (K × Value)}, getM k m = some v → (k, v) ∈ m
  | [], h => by cases h
  | (a, u) :: m, h => by
    unfold getM at h
    split at h
    · rename_i e; cases h; subst e; exact List.mem_cons_self ..
    · exact List.mem_cons_of_mem _ (getM_mem h)
theorem getM_none {K : Type} [DecidableEq K] {k : K} : ∀ {m : List (K × Value)}, getM k m = none ↔ k ∉ m.map (·.1)
  | [] => by simp [getM]
  | (a, u) :: m => by
    unfold getM
    split
    · rename_i e; subst e; simp
    · rename_i e; rw [getM_none]; simp [e]
theorem getM_of_mem {K : Type} [DecidableEq K] {k : K} {v : Value} : ∀ {m : List (K × Value)}, NodupM m → (k, v) ∈ m → getM k m = some v
  | [], _, h => by cases h
  | (a, u) :: m, hn, h => by
    have hn' : a ∉ m.map (·.1) ∧ (m.map (·.1)).Nodup := by simpa [NodupM] using hn
    unfold getM
    rcases List.mem_cons.1 h with h2 | h2
    · cases h2; rw [if_pos rfl]
    · have hne : ¬ k = a := fun e => hn'.1 (List.mem_map.2 ⟨(k, v), h2, e⟩)
      rw [if_neg hne]
      exact getM_of_mem hn'.2 h2
theorem mem_delM {K : Type} [DecidableEq K] {k : K} {m : List (K × Value)} (hn : NodupM m) {p : K × Value} : p ∈ delM k m ↔ p ∈ m ∧ p.1 ≠ k := by
  have h1 := getM_delM (k := p.1) (k' := k) hn
  constructor
  · intro hp
    have hp' := delM_sub.subset hp
    refine ⟨hp', fun e => ?_⟩
    rw [if_pos e, getM_none] at h1
    exact h1 (List.mem_map.2 ⟨p, hp, rfl⟩)
  · rintro ⟨hp, hne⟩
    rw [if_neg hne, getM_of_mem hn (show (p.1, p.2) ∈ m from hp)] at h1
    exact getM_mem h1
theorem mem_setM' {K : Type} [DecidableEq K] {k : K} {v : Value} {m : List (K × Value)} (hn : NodupM m) {p : K × Value} : p ∈ setM k v m ↔ p = (k, v) ∨ (p ∈ m ∧ p.1 ≠ k) := by
  have h1 := getM_setM p.1 k v m
  have hns := nodup_setM (k := k) (v := v) hn
  constructor
  · intro hp
    rw [getM_of_mem hns (show (p.1, p.2) ∈ setM k v m from hp)] at h1
    by_cases e : p.1 = k
    · rw [if_pos e] at h1; left; cases h1; obtain ⟨a, b⟩ := p; simp_all
    · rw [if_neg e] at h1; exact .inr ⟨getM_mem h1.symm, e⟩
  · rintro (rfl | ⟨hp, hne⟩)
    · rw [if_pos rfl] at h1; exact getM_mem h1
    · rw [if_neg hne, getM_of_mem hn (show (p.1, p.2) ∈ m from hp)] at h1
      exact getM_mem h1

theorem setM_same {K : Type} [DecidableEq K] {k : K} {v : Value} : ∀ {m : List (K × Value)}, getM k m = some v → setM k v m = m
  | [], h => by cases h
  | (a, u) :: m, h => by
    unfold getM at h
    unfold setM
    split at h
    · rename_i e; cases h; rw [if_pos e]
    · rename_i e; rw [if_neg e, setM_same h]
section
variable {B : Base} {H : List Chunk} {e : TypeId} {m : List (Int × Value)} {adj adj' : Int → List Int} {a : Int} {v : Value}
theorem Ent.emptyS : Ent B H (slicesC e [] adj :: H) := fun w hw => hw.push (Below.refl _ _) ⟨(fun p hp => by cases hp), (fun p hp => by cases hp)⟩ (fun k hk => by obtain ⟨p, hp, _⟩ := hk; cases hp)
theorem Ent.asS (h : ∀ n, adj n = adj' n) : Ent B (slicesC e m adj :: H) (slicesC e m adj' :: H) := by rw [funext h]; exact Ent.refl
/-- One of the slices is taken out (a nil one where there is none). -/
theorem Ent.takeS (hn : NodupM m) (h0 : getM a m = none → adj a = []) (hv : (getM a m).getD (.slice none 0 0) = v) : Ent B (slicesC e m adj :: H) (ownC v e 1 (adj a).length (cellsOf iC (adj a)) :: slicesC e (delM a m) adj :: H) := by
  intro w hw
  have hp := hw.all.1
  have hX := hw.all.2.1
  have hapart := hw.all.2.2.1
  have hrest := hw.all.2.2.2
  have own : (ownC v e 1 (adj a).length (cellsOf iC (adj a))).p w ∧ ∀ k, v.ownBlock = some k → ∃ p ∈ m, p.2.ownBlock = some k ∧ p.1 = a := by
    cases hg : getM a m with
    | none =>
      rw [hg] at hv
      subst hv
      rw [h0 hg]
      exact ⟨⟨rfl, .inl ⟨rfl, rfl⟩⟩, fun k hk => by cases hk⟩
    | some u =>
      rw [hg] at hv
      have hv' : u = v := hv
      subst hv'
      have hm := getM_mem hg
      exact ⟨hp.1 _ hm, fun k hk => ⟨_, hm, hk, rfl⟩⟩
  refine ⟨hw.os, hw.tape, hw.output, hw.size, hw.block, own.1, fun k hk => ?_, fun d hd k hk => ?_, ⟨fun p hp' => hp.1 p (delM_sub.subset hp'), fun p hp' q hq' => hp.2 p (delM_sub.subset hp') q (delM_sub.subset hq')⟩, fun k hk => ?_, fun d hd k hk => ?_, hrest⟩
  · obtain ⟨p, h1, h2, _⟩ := own.2 k hk
    exact hX k ⟨p, h1, h2⟩
  · obtain ⟨p, h1, h2, h3⟩ := own.2 k hk
    rcases List.mem_cons.1 hd with rfl | hd
    · rintro ⟨q, hq, hk'⟩
      obtain ⟨hq1, hq2⟩ := (mem_delM hn).1 hq
      exact hp.2 p h1 q hq1 (fun e => hq2 (by rw [← e, h3])) k h2 hk'
    · exact hapart d hd k ⟨p, h1, h2⟩
  · obtain ⟨p, h1, h2⟩ := hk
    exact hX k ⟨p, delM_sub.subset h1, h2⟩
  · obtain ⟨p, h1, h2⟩ := hk
    exact hapart d hd k ⟨p, delM_sub.subset h1, h2⟩
/-- .. and laid back. -/
theorem Ent.giveS (hn : NodupM m) (hother : ∀ k, k ≠ a → adj' k = adj k) : Ent B (ownC v e 1 (adj' a).length (cellsOf iC (adj' a)) :: slicesC e (delM a m) adj :: H) (slicesC e (setM a v m) adj' :: H) := by
  intro w hw
  obtain ⟨hv, hvX, hvA, hp, hpX, hpA, hrest⟩ := hw.all
  have cases_ : ∀ p ∈ setM a v m, p = (a, v) ∨ (p ∈ delM a m ∧ p.1 ≠ a) := fun p hp' => by
    rcases (mem_setM' hn).1 hp' with h | ⟨h1, h2⟩
    · exact .inl h
    · exact .inr ⟨(mem_delM hn).2 ⟨h1, h2⟩, h2⟩
  refine ⟨hw.os, hw.tape, hw.output, hw.size, hw.block, ⟨fun p hp' => ?_, fun p hp' q hq' hne k hk hk' => ?_⟩, fun k hk => ?_, fun d hd k hk => ?_, hrest⟩
  · rcases cases_ p hp' with rfl | ⟨h1, h2⟩
    · exact hv
    · rw [hother _ h2]; exact hp.1 p h1
  · rcases cases_ p hp' with rfl | ⟨h1, h2⟩
    · rcases cases_ q hq' with rfl | ⟨h3, h4⟩
      · exact hne rfl
      · exact hvA _ (List.mem_cons_self ..) k hk ⟨q, h3, hk'⟩
    · rcases cases_ q hq' with rfl | ⟨h3, h4⟩
      · exact hvA _ (List.mem_cons_self ..) k hk' ⟨p, h1, hk⟩
      · exact hp.2 p h1 q h3 hne k hk hk'
  · obtain ⟨p, hp', hk⟩ := hk
    rcases cases_ p hp' with rfl | ⟨h1, h2⟩
    · exact hvX k hk
    · exact hpX k ⟨p, h1, hk⟩
  · obtain ⟨p, hp', hk⟩ := hk
    rcases cases_ p hp' with rfl | ⟨h1, h2⟩
    · exact hvA d (List.mem_cons_of_mem _ hd) k hk
    · exact hpA d hd k ⟨p, h1, hk⟩
end
end Go.GX
