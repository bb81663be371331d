/- The plain law of a tariff's different prices. Conditions: none. -/
import Derived.Test.YtiepojpebndgoaaTfSpec
import Derived.Lib.SlicesCompact
namespace Tf
open Go.GX
set_option linter.unusedVariables false
set_option linter.unusedSimpArgs false
abbrev srt (b : List Int) : List Int := b.mergeSort fun x y => decide (x ≤ y)
abbrev dif (b : List Int) : List Int := Go.Lib.compact (srt b)
def bands (t : Tr) : List Int := if check t = 0 then dif t.b else []
theorem bands_ok {t : Tr} (h : check t = 0) : bands t = dif t.b := by simp [bands, h]
theorem bands_no {t : Tr} (h : ¬ check t = 0) : bands t = [] := by simp [bands, h]
theorem srt_sorted (b : List Int) : (srt b).Pairwise fun x y => x ≤ y := by
  have := List.pairwise_mergeSort (le := fun x y : Int => decide (x ≤ y)) (fun a b c h1 h2 => by simp only [decide_eq_true_eq] at *; omega) (fun a b => by simp only [Bool.or_eq_true, decide_eq_true_eq]; omega) b
  exact this.imp fun h => by simpa using h
theorem upTo_spec {zs : List Int} (hs : zs.Pairwise fun x y => x ≤ y) : ∀ m, m ≤ zs.length → (Go.Lib.compactUpTo zs.toArray m).Pairwise (fun x y => x < y) ∧ ∀ x, x ∈ Go.Lib.compactUpTo zs.toArray m ↔ x ∈ zs.take m
  | 0, _ => by simp [Go.Lib.compactUpTo]
  | m + 1, hm => by
    obtain ⟨h1, h2⟩ := upTo_spec hs m (by omega)
    obtain ⟨a, ha⟩ := getSome (show m < zs.length by omega)
    have hma : zs.toArray[m]! = a := by
      obtain ⟨hl, he⟩ := List.getElem?_eq_some_iff.1 ha
      rw [getElem!_pos zs.toArray m (by simpa using hl)]; simpa using he
    rw [Go.Lib.compactUpTo_succ, take_succ_get ha, hma]
    by_cases hk : Go.Lib.keeps zs.toArray m = true
    · rw [if_pos hk]
      refine ⟨List.pairwise_append.2 ⟨h1, List.pairwise_singleton _ _, fun x hx y hy => ?_⟩, fun x => by simp [h2 x]⟩
      rw [List.mem_singleton] at hy
      subst hy
      have hx := (h2 x).1 hx
      obtain ⟨j, hj⟩ := List.getElem?_of_mem hx
      have hjm : j < m := by have := (List.getElem?_eq_some_iff.1 hj).1; simp at this; omega
      rw [List.getElem?_take_of_lt hjm] at hj
      have hm0 : m ≠ 0 := by omega
      obtain ⟨c, hc⟩ := getSome (show m - 1 < zs.length by omega)
      have hmc : zs.toArray[m - 1]! = c := by
        obtain ⟨hl, he⟩ := List.getElem?_eq_some_iff.1 hc
        rw [getElem!_pos zs.toArray (m - 1) (by simpa using hl)]; simpa using he
      have hne : y ≠ c := by
        have := hk; simp only [Go.Lib.keeps, hma, hmc, decide_eq_true_eq] at this
        rcases this with h | h
        · exact absurd h hm0
        · exact h
      obtain ⟨l1, e1⟩ := List.getElem?_eq_some_iff.1 hj
      obtain ⟨l2, e2⟩ := List.getElem?_eq_some_iff.1 hc
      obtain ⟨l3, e3⟩ := List.getElem?_eq_some_iff.1 ha
      have hcy : c ≤ y := by
        have := List.pairwise_iff_getElem.1 hs (m - 1) m l2 l3 (by omega)
        omega
      have hxc : x ≤ c := by
        by_cases hjm' : j = m - 1
        · subst hjm'; rw [hj] at hc; cases hc; omega
        · have := List.pairwise_iff_getElem.1 hs j (m - 1) l1 l2 (by omega)
          omega
      omega
    · rw [if_neg hk, List.append_nil]
      refine ⟨h1, fun x => ?_⟩
      rw [h2 x]
      simp only [List.mem_append, List.mem_singleton]
      refine ⟨.inl, fun h => h.elim id fun h => ?_⟩
      subst h
      simp only [Go.Lib.keeps, hma, decide_eq_true_eq, not_or, ne_eq, Decidable.not_not] at hk
      obtain ⟨hm0, hk⟩ := hk
      obtain ⟨c, hc⟩ := getSome (show m - 1 < zs.length by omega)
      have hmc : zs.toArray[m - 1]! = c := by
        obtain ⟨hl, he⟩ := List.getElem?_eq_some_iff.1 hc
        rw [getElem!_pos zs.toArray (m - 1) (by simpa using hl)]; simpa using he
      rw [hk, hmc]
      exact List.mem_of_getElem? (show (zs.take m)[m - 1]? = some c by rw [List.getElem?_take_of_lt (by omega)]; exact hc)
theorem dif_asc (b : List Int) : (dif b).Pairwise fun x y => x < y := (upTo_spec (srt_sorted b) (srt b).length (Nat.le_refl _)).1
theorem dif_mem (b : List Int) (x : Int) : x ∈ dif b ↔ x ∈ b := by
  have := (upTo_spec (srt_sorted b) (srt b).length (Nat.le_refl _)).2 x
  rw [List.take_length] at this
  exact this.trans List.mem_mergeSort
theorem dif_len (b : List Int) : (dif b).length ≤ b.length := by
  have : (dif b).length ≤ (srt b).length := by
    unfold dif Go.Lib.compact Go.Lib.compactUpTo
    rw [List.length_map]
    exact Nat.le_trans (List.length_filter_le _ _) (by simp)
  rw [List.length_mergeSort] at this; exact this

/-! ### The next price above the last one -/
def nxtF (last nx x : Int) : Int := if (decide (x > last) && (decide (nx < 0) || decide (x < nx))) = true then x else nx
def nxt (last : Int) (l : List Int) : Int := l.foldl (nxtF last) (-1)
theorem nxt_nil (last : Int) : nxt last [] = -1 := rfl
theorem nxt_snoc {last : Int} {l : List Int} {k : Nat} {a : Int} (ha : l[k]? = some a) : nxt last (l.take (k + 1)) = nxtF last (nxt last (l.take k)) a := by
  unfold nxt; rw [take_succ_get ha, List.foldl_append]; rfl
theorem nxt_spec {last : Int} {l : List Int} (hp : ∀ x ∈ l, 0 ≤ x) : ∀ k, k ≤ l.length → (nxt last (l.take k) = -1 ∧ ∀ x ∈ l.take k, x ≤ last) ∨ (0 ≤ nxt last (l.take k) ∧ nxt last (l.take k) ∈ l ∧ last < nxt last (l.take k) ∧ ∀ x ∈ l.take k, last < x → nxt last (l.take k) ≤ x)
  | 0, _ => .inl ⟨by simp [nxt], by simp⟩
  | k + 1, hk => by
    obtain ⟨a, ha⟩ := getSome (show k < l.length by omega)
    have hma := List.mem_of_getElem? ha
    have h0 := hp a hma
    rw [nxt_snoc ha, take_succ_get ha]
    have ih := nxt_spec (last := last) hp k (by omega)
    unfold nxtF
    split
    · rename_i h
      simp only [Bool.and_eq_true, Bool.or_eq_true, decide_eq_true_eq] at h
      refine .inr ⟨h0, hma, by omega, fun x hx hl => ?_⟩
      rcases List.mem_append.1 hx with hx | hx
      · rcases ih with ⟨_, ih⟩ | ⟨i1, _, _, ih⟩
        · have := ih x hx; omega
        · have := ih x hx hl; omega
      · simp at hx; omega
    · rename_i h
      simp only [Bool.and_eq_true, Bool.or_eq_true, decide_eq_true_eq] at h
      rcases ih with ⟨i0, ih⟩ | ⟨i1, i2, i3, ih⟩
      · refine .inl ⟨i0, fun x hx => ?_⟩
        rcases List.mem_append.1 hx with hx | hx
        · exact ih x hx
        · simp at hx; omega
      · refine .inr ⟨i1, i2, i3, fun x hx hl => ?_⟩
        rcases List.mem_append.1 hx with hx | hx
        · exact ih x hx hl
        · simp at hx; omega
def lst (D : List Int) (i : Nat) : Int := if i = 0 then -1 else (D.take i).getLastD (-1)
/-- The last of the first i: all before are no greater. -/
theorem lst_spec {D : List Int} (hs : D.Pairwise fun x y => x < y) {i : Nat} (hp : ∀ x ∈ D, 0 ≤ x) : (∀ x ∈ D.take i, x ≤ lst D i) ∧ (∀ a, D[i]? = some a → lst D i < a) := by
  unfold lst
  by_cases hi : i = 0
  · subst hi; rw [if_pos rfl]
    exact ⟨fun x hx => by simp at hx, fun a ha => by have := hp a (List.mem_of_getElem? ha); omega⟩
  · rw [if_neg hi]
    rcases hD : D with _ | ⟨d, D'⟩
    · simp
    · rw [← hD]
      have hne : D.take i ≠ [] := by rw [hD]; simp [hi]
      have hgl : (D.take i).getLastD (-1) = (D.take i).getLast hne := by
        rw [List.getLastD_eq_getLast?, List.getLast?_eq_some_getLast hne]; rfl
      rw [hgl]
      have hst : (D.take i).Pairwise fun x y => x < y := hs.sublist (List.take_sublist _ _)
      constructor
      · intro x hx
        obtain ⟨j, hj, rfl⟩ := List.getElem_of_mem hx
        rw [List.getLast_eq_getElem]
        by_cases hjl : j = (D.take i).length - 1
        · subst hjl; omega
        · have := List.pairwise_iff_getElem.1 hst j ((D.take i).length - 1) hj (by omega) (by omega)
          omega
      · intro a ha
        have hm : (D.take i).getLast hne ∈ D.take i := List.getLast_mem hne
        have hsp : D = D.take i ++ a :: D.drop (i + 1) := by rw [← drop_get ha, List.take_append_drop]
        rw [hsp] at hs
        exact (List.pairwise_append.1 hs).2.2 _ hm a (List.mem_cons_self ..)
theorem lst_succ {D : List Int} {i : Nat} {a : Int} (ha : D[i]? = some a) : lst D (i + 1) = a := by
  unfold lst; rw [if_neg (by omega), take_succ_get ha]; simp
theorem lst_past {D : List Int} {i : Nat} (hi : D.length ≤ i) (h0 : D ≠ []) : lst D (i + 1) = lst D i := by
  have : 0 < D.length := List.length_pos_iff.2 h0
  unfold lst; rw [if_neg (by omega), if_neg (by omega), List.take_of_length_le hi, List.take_of_length_le (by omega)]
/-- The i-th different price. -/
theorem nxt_at {b : List Int} (hp : ∀ x ∈ b, 0 ≤ x) (i : Nat) : nxt (lst (dif b) i) b = ((dif b)[i]?).getD (-1) := by
  have hpD : ∀ x ∈ dif b, 0 ≤ x := fun x hx => hp x ((dif_mem b x).1 hx)
  obtain ⟨l1, l2⟩ := lst_spec (dif_asc b) (i := i) hpD
  have hn := nxt_spec (last := lst (dif b) i) hp b.length (Nat.le_refl _)
  rw [List.take_length] at hn
  generalize nxt (lst (dif b) i) b = N at hn ⊢
  generalize lst (dif b) i = L at hn l1 l2
  cases ha : (dif b)[i]? with
  | none =>
    rcases hn with ⟨h, _⟩ | ⟨h1, h2, h3, h4⟩
    · exact h
    · exfalso
      have hm := (dif_mem b _).2 h2
      rw [← List.take_of_length_le (List.getElem?_eq_none_iff.1 ha)] at hm
      have := l1 _ hm
      omega
  | some a =>
    have hab : a ∈ b := (dif_mem b a).1 (List.mem_of_getElem? ha)
    have hla := l2 a ha
    rcases hn with ⟨h, h2⟩ | ⟨h1, h2, h3, h4⟩
    · have := h2 a hab; omega
    · have h5 := h4 a hab hla
      have h6 : a ≤ N := by
        have hm := (dif_mem b _).2 h2
        have hsp : dif b = (dif b).take i ++ a :: (dif b).drop (i + 1) := by rw [← drop_get ha, List.take_append_drop]
        rw [hsp] at hm
        rcases List.mem_append.1 hm with hm | hm
        · have := l1 _ hm; omega
        · rcases List.mem_cons.1 hm with hm | hm
          · omega
          · have hs := dif_asc b
            rw [hsp] at hs
            have := (List.pairwise_cons.1 (List.pairwise_append.1 hs).2.1).1 _ hm
            omega
      show _ = a
      omega
theorem dif_first {b : List Int} {d : Int} (h : (dif b)[0]? = some d) : d ∈ b ∧ ∀ x ∈ b, d ≤ x := by
  refine ⟨(dif_mem b d).1 (List.mem_of_getElem? h), fun x hx => ?_⟩
  have hx := (dif_mem b x).2 hx
  have hs := dif_asc b
  rcases hD : dif b with _ | ⟨e, r⟩
  · rw [hD] at hx; cases hx
  · rw [hD] at h hx hs
    cases h
    rcases List.mem_cons.1 hx with h | h
    · omega
    · have := (List.pairwise_cons.1 hs).1 x h; omega
theorem dif_ne {b : List Int} (h : 1 ≤ b.length) : 1 ≤ (dif b).length := by
  obtain ⟨a, ha⟩ := getSome (show 0 < b.length by omega)
  have := (dif_mem b a).2 (List.mem_of_getElem? ha)
  exact List.length_pos_iff.2 (fun e => by rw [e] at this; cases this)
theorem asc_ext : ∀ {l m : List Int}, l.Pairwise (fun x y => x < y) → m.Pairwise (fun x y => x < y) → (∀ x, x ∈ l ↔ x ∈ m) → l = m
  | [], [], _, _, _ => rfl
  | [], b :: m, _, _, h => by have := (h b).2 (List.mem_cons_self ..); cases this
  | a :: l, [], _, _, h => by have := (h a).1 (List.mem_cons_self ..); cases this
  | a :: l, b :: m, hl, hm, h => by
    obtain ⟨l1, l2⟩ := List.pairwise_cons.1 hl
    obtain ⟨m1, m2⟩ := List.pairwise_cons.1 hm
    have hab : a = b := by
      rcases List.mem_cons.1 ((h a).1 (List.mem_cons_self ..)) with e | e
      · exact e
      · rcases List.mem_cons.1 ((h b).2 (List.mem_cons_self ..)) with e2 | e2
        · exact e2.symm
        · have := m1 a e; have := l1 b e2; omega
    subst hab
    congr 1
    refine asc_ext l2 m2 fun x => ⟨fun hx => ?_, fun hx => ?_⟩
    · rcases List.mem_cons.1 ((h x).1 (List.mem_cons_of_mem _ hx)) with e | e
      · have := l1 x hx; omega
      · exact e
    · rcases List.mem_cons.1 ((h x).2 (List.mem_cons_of_mem _ hx)) with e | e
      · have := m1 x hx; omega
      · exact e
theorem aw_dif : dif [30, 10, 20] = [10, 20, 30] := by
  refine asc_ext (dif_asc _) (by decide) fun x => ?_
  rw [dif_mem]
  simp only [List.mem_cons, List.not_mem_nil, or_false]
  omega
end Tf
