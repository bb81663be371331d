/- Sorted numbers; distances exist. Conditions: none. -/
import Derived.Test.YtiepojpebndgoaaTpBfs
namespace Go.GX
set_option linter.unusedVariables false
set_option linter.unusedSectionVars false
set_option linter.unusedSimpArgs false
def sortZ (l : List Int) : List Int := l.mergeSort fun x y => decide (x ≤ y)
theorem sortZ_perm (l : List Int) : (sortZ l).Perm l := List.mergeSort_perm _ _
theorem sortZ_sorted (l : List Int) : (sortZ l).Pairwise (· ≤ ·) := by
  have := List.pairwise_mergeSort (le := fun x y : Int => decide (x ≤ y)) (by intro a b c h1 h2; simp at *; omega) (by intro a b; simp; omega) l
  exact this.imp fun h => by simpa using h
theorem sortZ_len (l : List Int) : (sortZ l).length = l.length := (sortZ_perm l).length_eq
def dvO (o : Option Nat) : Option Value := o.map fun k : Nat => Value.int .i64 (k : Int)
theorem sortZ_nil : sortZ [] = [] := by simp [sortZ]
namespace Tp
theorem Adj.sorted {l : List Ed} {adj : Int → List Int} (h : Adj l adj) (n : Int) : sortZ (adj n) = nbrs l n :=
  sort_unique (sortZ_perm _) (sortZ_sorted _) (h.nodup n) (nbrs_sorted l n) fun x => by rw [h.mem, mem_nbrs]
theorem Rnd.more {l : List Ed} {src : Int} {D : Int → Option Nat} {s : Nat} (h : Rnd l src D s) (hb : ∀ n k, D n = some k → k ≤ s) : ∃ D', Rnd l src D' (s + 1) ∧ ∀ n k, D' n = some k → k ≤ s + 1 := by
  classical
  let D' : Int → Option Nat := fun n => if D n ≠ none then D n else if ∃ m, linked l m n = true ∧ D m = some s then some (s + 1) else none
  have keep : ∀ {n k}, D n = some k → D' n = some k := by
    intro n k hn
    show (if D n ≠ none then D n else _) = _
    rw [if_pos (by rw [hn]; nofun)]; exact hn
  have inv : ∀ {n k}, D' n = some k → D n = some k ∨ (k = s + 1 ∧ ∃ m, linked l m n = true ∧ D m = some s) := by
    intro n k hn
    have hn : (if D n ≠ none then D n else if ∃ m, linked l m n = true ∧ D m = some s then some (s + 1) else none) = some k := hn
    split at hn
    · exact .inl hn
    · split at hn
      · rename_i hx; cases hn; exact .inr ⟨rfl, hx⟩
      · cases hn
  refine ⟨D', ⟨fun n => ?_, fun n k hn => ?_, fun n k hn => ?_, fun m n k hl hm hk => ?_⟩, fun n k hn => ?_⟩
  · rw [← h.zero]
    constructor
    · intro hn; rcases inv hn with hn | ⟨e, _⟩
      · exact hn
      · omega
    · exact keep
  · rcases inv hn with hn | ⟨_, m, hl, _⟩
    · exact h.node n k hn
    · exact (linked_ok hl).2.1
  · rcases inv hn with hn | ⟨e, m, hl, hm⟩
    · obtain ⟨m, h1, h2⟩ := h.pre n k hn; exact ⟨m, h1, keep h2⟩
    · have : k = s := by omega
      subst this; exact ⟨m, hl, keep hm⟩
  · rcases inv hm with hm2 | ⟨e, _⟩
    · by_cases e : k < s
      · obtain ⟨j, h1, h2⟩ := h.done m n k hl hm2 e; exact ⟨j, h1, keep h2⟩
      · have : k = s := by omega
        subst this
        by_cases hn : D n ≠ none
        · cases hn' : D n with
          | none => exact absurd hn' hn
          | some j => have := hb n j hn'; exact ⟨j, by omega, keep hn'⟩
        · refine ⟨k + 1, Nat.le_refl _, ?_⟩
          show (if D n ≠ none then D n else if ∃ m, linked l m n = true ∧ D m = some k then some (k + 1) else none) = _
          rw [if_neg hn, if_pos ⟨m, hl, hm2⟩]
    · omega
  · rcases inv hn with hn | ⟨e, _⟩
    · have := hb n k hn; omega
    · omega
theorem dist_exists (l : List Ed) (src : Int) : ∃ D, IsDist l src D := by
  cases hok : okN src with
  | false => exact ⟨_, IsDist.none hok⟩
  | true =>
    have : ∀ s, ∃ D, Rnd l src D s ∧ ∀ n k, D n = some k → k ≤ s := by
      intro s
      induction s with
      | zero => exact ⟨_, Rnd.start hok, fun n k h => by simp only [updD] at h; split at h <;> cases h; omega⟩
      | succ s ih => obtain ⟨D, h1, h2⟩ := ih; exact h1.more h2
    obtain ⟨D, h1, _⟩ := this 251
    exact ⟨D, h1.final hok⟩
/-- The numbers below k that meet p. -/
def upto (p : Int → Bool) (k : Nat) : List Int := ((List.range k).map Int.ofNat).filter p
theorem upto_succ (p : Int → Bool) (k : Nat) : upto p (k + 1) = upto p k ++ if p (k : Int) = true then [(k : Int)] else [] := by
  unfold upto
  rw [List.range_succ, List.map_append, List.filter_append]
  congr 1
  simp only [List.map_cons, List.map_nil, List.filter_cons, List.filter_nil]
  rfl
theorem upto_len (p : Int → Bool) (k : Nat) : (upto p k).length ≤ k := by
  have := List.length_filter_le p ((List.range k).map Int.ofNat)
  simpa [upto] using this
/-- The nodes with a distance. -/
def reachN (D : Int → Option Nat) (k : Nat) : List Int := ((List.range k).map Int.ofNat).filter fun n => (D n).isSome
def reachD (D : Int → Option Nat) : List Int := reachN D 251
theorem reachN_succ (D : Int → Option Nat) (k : Nat) : reachN D (k + 1) = reachN D k ++ if (D k).isSome = true then [(k : Int)] else [] := by
  unfold reachN
  rw [List.range_succ, List.map_append, List.filter_append]
  congr 1
  simp only [List.map_cons, List.map_nil, List.filter_cons, List.filter_nil]
  rfl
theorem reachN_len (D : Int → Option Nat) (k : Nat) : (reachN D k).length ≤ k := by
  have := List.length_filter_le (fun n => (D n).isSome) ((List.range k).map Int.ofNat)
  simpa [reachN] using this
theorem mem_reachD {D : Int → Option Nat} {n : Int} : n ∈ reachD D ↔ okN n = true ∧ (D n).isSome = true := by
  have : n ∈ reachD D ↔ n ∈ nodes ∧ (D n).isSome = true := by unfold reachD reachN nodes; rw [List.mem_filter]
  rw [this, mem_nodes]
theorem reachD_sorted (D : Int → Option Nat) : (reachD D).Pairwise (· < ·) := nodes_sorted.sublist List.filter_sublist
def dz (o : Option Nat) : Nat := o.getD 0
theorem dist_is (l : List Ed) (src : Int) : IsDist l src (dist l src) := by
  obtain ⟨D, h⟩ := dist_exists l src
  rw [h.eq]; exact h
end Tp
end Go.GX
