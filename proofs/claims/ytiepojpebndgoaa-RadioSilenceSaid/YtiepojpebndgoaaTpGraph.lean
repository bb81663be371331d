/- The graph of a list of edges: neighbors, distances. Conditions: none. -/
import Derived.Test.YtiepojpebndgoaaTpSpec
namespace Go.GX.Tp
open Go.GX
set_option linter.unusedVariables false
set_option linter.unusedSectionVars false
set_option linter.unusedSimpArgs false
def nodes : List Int := (List.range 251).map Int.ofNat
theorem mem_nodes {n : Int} : n ∈ nodes ↔ okN n = true := by
  simp only [nodes, List.mem_map, List.mem_range, okN, Bool.and_eq_true, decide_eq_true_eq]
  constructor
  · rintro ⟨k, hk, rfl⟩
    exact ⟨Int.natCast_nonneg k, by have : (k : Int) ≤ 250 := by omega
                                    exact this⟩
  · rintro ⟨h1, h2⟩
    exact ⟨n.toNat, by omega, by simp; omega⟩
theorem nodes_sorted : nodes.Pairwise (· < ·) := by
  unfold nodes
  rw [List.pairwise_map]
  exact List.pairwise_lt_range.imp fun h => by simpa using h
def linked (l : List Ed) (a b : Int) : Bool := l.any fun e => okE e && same e ⟨a, b⟩
theorem linked_iff {l : List Ed} {a b : Int} : linked l a b = true ↔ ∃ e ∈ l, okE e = true ∧ (e = ⟨a, b⟩ ∨ e = ⟨b, a⟩) := by
  simp only [linked, List.any_eq_true, Bool.and_eq_true, same, Bool.or_eq_true, beq_iff_eq, and_true]
  constructor
  · rintro ⟨⟨x, y⟩, he, hok, h⟩
    refine ⟨⟨x, y⟩, he, hok, ?_⟩
    rcases h with ⟨h1, h2⟩ | ⟨h1, h2⟩
    · left; simp_all
    · right; simp_all
  · rintro ⟨⟨x, y⟩, he, hok, h⟩
    refine ⟨⟨x, y⟩, he, hok, ?_⟩
    rcases h with h | h
    · left; simp_all
    · right; simp_all
theorem linked_symm {l : List Ed} {a b : Int} : linked l a b = linked l b a := by
  rw [Bool.eq_iff_iff, linked_iff, linked_iff]
  constructor <;> (rintro ⟨e, h1, h2, h3⟩; exact ⟨e, h1, h2, h3.symm⟩)
theorem linked_ok {l : List Ed} {a b : Int} (h : linked l a b = true) : okN a = true ∧ okN b = true ∧ a ≠ b := by
  obtain ⟨e, _, hok, h⟩ := linked_iff.1 h
  simp only [okE, Bool.and_eq_true, bne_iff_ne, ne_eq] at hok
  rcases h with rfl | rfl
  · exact ⟨hok.1.1, hok.1.2, hok.2⟩
  · exact ⟨hok.1.2, hok.1.1, fun e => hok.2 e.symm⟩
def nbrs (l : List Ed) (n : Int) : List Int := nodes.filter (linked l n)
theorem mem_nbrs {l : List Ed} {n k : Int} : k ∈ nbrs l n ↔ linked l n k = true := by
  simp only [nbrs, List.mem_filter, mem_nodes]
  exact ⟨fun h => h.2, fun h => ⟨(linked_ok h).2.1, h⟩⟩
theorem nbrs_sorted (l : List Ed) (n : Int) : (nbrs l n).Pairwise (· < ·) := nodes_sorted.sublist List.filter_sublist
theorem nbrs_len (l : List Ed) (n : Int) : (nbrs l n).length ≤ 251 := by
  have := List.length_filter_le (linked l n) nodes
  have h2 : nodes.length = 251 := by simp [nodes]
  unfold nbrs; omega
/-- Two strictly ascending lists with the same members are one. -/
theorem sorted_ext : ∀ {a b : List Int}, a.Pairwise (· < ·) → b.Pairwise (· < ·) → (∀ x, x ∈ a ↔ x ∈ b) → a = b
  | [], [], _, _, _ => rfl
  | [], y :: b, _, _, h => by have := (h y).2 (List.mem_cons_self ..); cases this
  | x :: a, [], _, _, h => by have := (h x).1 (List.mem_cons_self ..); cases this
  | x :: a, y :: b, ha, hb, h => by
    obtain ⟨ha1, ha2⟩ := List.pairwise_cons.1 ha
    obtain ⟨hb1, hb2⟩ := List.pairwise_cons.1 hb
    have hxy : x = y := by
      rcases List.mem_cons.1 ((h x).1 (List.mem_cons_self ..)) with e | e
      · exact e
      · rcases List.mem_cons.1 ((h y).2 (List.mem_cons_self ..)) with e' | e'
        · exact e'.symm
        · have := hb1 x e; have := ha1 y e'; omega
    subst hxy
    congr 1
    refine sorted_ext ha2 hb2 fun z => ?_
    constructor
    · intro hz
      rcases List.mem_cons.1 ((h z).1 (List.mem_cons_of_mem _ hz)) with e | e
      · subst e; have := ha1 z hz; omega
      · exact e
    · intro hz
      rcases List.mem_cons.1 ((h z).2 (List.mem_cons_of_mem _ hz)) with e | e
      · subst e; have := hb1 z hz; omega
      · exact e
/-- What an ordered list of different numbers is. -/
theorem sort_unique {a : List Int} {s : List Int} (hp : s.Perm a) (hs : s.Pairwise (· ≤ ·)) (hn : a.Nodup) {b : List Int} (hb : b.Pairwise (· < ·)) (hm : ∀ x, x ∈ a ↔ x ∈ b) : s = b := by
  refine sorted_ext ?_ hb fun x => by rw [hp.mem_iff, hm]
  have hn' : s.Nodup := hp.nodup_iff.2 hn
  exact (hs.and hn').imp fun ⟨h1, h2⟩ => by omega

/-! ### Building the graph -/
/-- After the edges l: who stands in the list of n. -/
structure Adj (l : List Ed) (adj : Int → List Int) : Prop where
  nodup : ∀ n, (adj n).Nodup
  mem : ∀ n x, x ∈ adj n ↔ linked l n x = true
theorem Adj.nil : Adj [] fun _ => [] := ⟨fun _ => List.nodup_nil, fun n x => by simp [linked]⟩
theorem linked_snoc {l : List Ed} {e : Ed} {a b : Int} : linked (l ++ [e]) a b = (linked l a b || (okE e && same e ⟨a, b⟩)) := by simp [linked]
theorem link_in {l : List Ed} {a b : Int} (hab : a ≠ b) (h1 : okN a = true) (h2 : okN b = true) : linked l a b = true ↔ ∃ e ∈ l, okE e = true ∧ link e = link ⟨a, b⟩ := by
  rw [linked_iff]
  have : ∀ e : Ed, (e = ⟨a, b⟩ ∨ e = ⟨b, a⟩) ↔ link e = link ⟨a, b⟩ := by
    intro e
    have := same_link e ⟨a, b⟩
    have h3 : (same e ⟨a, b⟩ = true) ↔ (e = ⟨a, b⟩ ∨ e = ⟨b, a⟩) := by
      obtain ⟨x, y⟩ := e
      simp [same]
    rw [← h3, this, decide_eq_true_eq]
  exact ⟨fun ⟨e, h1, h2, h3⟩ => ⟨e, h1, h2, (this e).1 h3⟩, fun ⟨e, h1, h2, h3⟩ => ⟨e, h1, h2, (this e).2 h3⟩⟩
def upd (adj : Int → List Int) (n : Int) (xs : List Int) : Int → List Int := fun k => if k = n then xs else adj k
theorem Adj.skip {l : List Ed} {adj : Int → List Int} {e : Ed} (h : Adj l adj) (hs : okE e = false ∨ ∃ e' ∈ l, okE e' = true ∧ link e' = link e) : Adj (l ++ [e]) adj := by
  refine ⟨h.nodup, fun n x => ?_⟩
  rw [h.mem, linked_snoc]
  rcases hs with hs | ⟨e', h1, h2, h3⟩
  · simp [hs]
  · constructor
    · intro h; simp [h]
    · intro hh
      rcases Bool.or_eq_true_iff.1 hh with hh | hh
      · exact hh
      · obtain ⟨hok, hsm⟩ := Bool.and_eq_true_iff.1 hh
        rw [same_link, decide_eq_true_eq] at hsm
        simp only [linked, List.any_eq_true, Bool.and_eq_true]
        exact ⟨e', h1, h2, by rw [same_link, h3, hsm]; simp⟩
theorem Adj.add {l : List Ed} {adj : Int → List Int} {e : Ed} (h : Adj l adj) (hok : okE e = true) (hs : ∀ e' ∈ l, okE e' = true → link e' ≠ link e) : Adj (l ++ [e]) (upd (upd adj e.a (adj e.a ++ [e.b])) e.b (adj e.b ++ [e.a])) := by
  obtain ⟨a, b⟩ := e
  have hok' := hok
  simp only [okE, Bool.and_eq_true, bne_iff_ne, ne_eq] at hok'
  obtain ⟨⟨ha, hb⟩, hab⟩ := hok'
  have hn : linked l a b = false := by
    rw [← Bool.not_eq_true]
    intro hl
    obtain ⟨e', h1, h2, h3⟩ := (link_in hab ha hb).1 hl
    exact hs e' h1 h2 h3
  have hn2 : linked l b a = false := by rw [linked_symm]; exact hn
  have nb : b ∉ adj a := fun hm => by rw [h.mem, hn] at hm; cases hm
  have na : a ∉ adj b := fun hm => by rw [h.mem, hn2] at hm; cases hm
  have nd : ∀ (n x : Int), x ∉ adj n → (adj n ++ [x]).Nodup := fun n x hx => List.nodup_append.2 ⟨h.nodup n, by simp, fun y hy z hz => by simp at hz; subst hz; exact fun e => hx (e ▸ hy)⟩
  refine ⟨fun n => ?_, fun n x => ?_⟩
  · simp only [upd]
    split
    · exact nd _ _ na
    · split
      · exact nd _ _ nb
      · exact h.nodup n
  · rw [linked_snoc, hok]
    simp only [upd, same, Bool.true_and]
    by_cases h1 : n = b
    · subst h1
      have : ¬ n = a := fun e => hab e.symm
      rw [if_pos rfl, List.mem_append, h.mem]
      simp only [List.mem_singleton, Bool.or_eq_true, Bool.and_eq_true, beq_iff_eq, and_true]
      grind
    · rw [if_neg h1]
      by_cases h2 : n = a
      · subst h2
        rw [if_pos rfl, List.mem_append, h.mem]
        simp only [List.mem_singleton, Bool.or_eq_true, Bool.and_eq_true, beq_iff_eq, and_true]
        grind
      · rw [if_neg h2, h.mem]
        simp only [Bool.or_eq_true, Bool.and_eq_true, beq_iff_eq, and_true]
        grind
theorem Adj.len {l : List Ed} {adj : Int → List Int} (h : Adj l adj) (n : Int) : (adj n).length ≤ 251 := by
  have h1 : (adj n).Subset nodes := fun x hx => mem_nodes.2 (linked_ok ((h.mem n x).1 hx)).2.1
  have := List.Nodup.length_le_of_subset (h.nodup n) h1
  simpa [nodes] using this
end Go.GX.Tp
