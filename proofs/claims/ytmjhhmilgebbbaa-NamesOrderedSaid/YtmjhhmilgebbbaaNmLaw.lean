/- Layer 4: what the laws say of quoted forms, in plain words. Conditions: none. -/
import Derived.Test.YtmjhhmilgebbbaaNmUnq
set_option linter.unusedVariables false
namespace Nm
theorem unq_cases (q : List UInt8) : unq q = ([], 3) ∨ unq q = ([], 4) ∨ ∃ t, q = quote t ∧ t.length ≤ 60 ∧ unq q = (t, 0) := by
  unfold unq
  cases hd : dq q with
  | none => exact .inr (.inl rfl)
  | some p =>
    obtain ⟨t, r⟩ := p
    cases r with
    | nil =>
      simp only
      split
      · exact .inl rfl
      · have := dq_spec.1 hd
        exact .inr (.inr ⟨t, by simpa using this, by omega, rfl⟩)
    | cons a r => exact .inr (.inl rfl)
theorem unq_quote (s : List UInt8) : unq (quote s) = if s.length > 60 then ([], 3) else (s, 0) := by
  have : dq (quote s) = some (s, []) := dq_spec.2 (by simp)
  unfold unq; rw [this]
theorem quoteB_ge (c : UInt8) : 1 ≤ (quoteB c).length := by
  unfold quoteB
  repeat' split
  all_goals simp
theorem quote_ge (s : List UInt8) : s.length + 2 ≤ (quote s).length := by
  have : s.length ≤ (s.flatMap quoteB).length := by
    induction s with
    | nil => simp
    | cons c s ih => have := quoteB_ge c; simp only [List.flatMap_cons, List.length_append, List.length_cons]; omega
  simp only [quote, List.cons_append, List.length_cons, List.length_append, List.length_nil]; omega
theorem quote_first (s : List UInt8) : (quote s).getD 0 0 = 34 := rfl
theorem quote_last (s : List UInt8) : (quote s).getD ((quote s).length - 1) 0 = 34 := by
  have e : quote s = (34 :: s.flatMap quoteB) ++ [34] := rfl
  rw [e]
  generalize 34 :: s.flatMap quoteB = x
  simp
theorem hexd_print : ∀ k, k < 16 → 32 ≤ (hexd k).toNat ∧ (hexd k).toNat ≤ 126 := by decide
theorem quoteB_print (c : UInt8) : ∀ b ∈ quoteB c, 32 ≤ b.toNat ∧ b.toNat ≤ 126 := by
  have h256 := c.toNat_lt
  intro b hb
  unfold quoteB at hb
  split at hb
  · rename_i h
    simp only [List.mem_cons, List.not_mem_nil, or_false] at hb
    rcases hb with rfl | rfl
    · decide
    · rcases Bool.or_eq_true_iff.1 h with h | h <;> simp only [beq_iff_eq] at h <;> omega
  · split at hb
    · have e1 := hexd_print (c.toNat / 16 % 16) (by omega)
      have e2 := hexd_print (c.toNat % 16) (by omega)
      rw [hexd_mod] at e1 e2
      simp only [List.mem_cons, List.not_mem_nil, or_false] at hb
      rcases hb with rfl | rfl | rfl | rfl
      · decide
      · decide
      · exact e1
      · exact e2
    · rename_i h
      simp only [Bool.not_eq_true, Bool.or_eq_false_iff] at h
      simp only [List.mem_cons, List.not_mem_nil, or_false] at hb
      subst hb
      have := of_decide_eq_false h.1; have := of_decide_eq_false h.2
      omega
theorem quote_print (s : List UInt8) (j : Nat) (h : j < (quote s).length) : 32 ≤ ((quote s).getD j 0).toNat ∧ ((quote s).getD j 0).toNat ≤ 126 := by
  rw [getD_at h]
  have hm := List.getElem_mem h
  have : ∀ b ∈ quote s, 32 ≤ b.toNat ∧ b.toNat ≤ 126 := by
    intro b hb
    simp only [quote, List.cons_append, List.mem_cons, List.mem_append, List.not_mem_nil, or_false, List.mem_flatMap] at hb
    rcases hb with rfl | ⟨c, _, hc⟩ | rfl
    · decide
    · exact quoteB_print c b hc
    · decide
  exact this _ hm
/-- Quoted forms with blanks between them. -/
def joinQ : List (List UInt8) → List UInt8
  | [] => []
  | [s] => quote s
  | s :: l => quote s ++ 32 :: joinQ l
theorem partS_quote (s r : List UInt8) : partS (quote s ++ r) = some (quote s).length := by
  unfold partS
  rw [if_pos (show (quote s ++ r).getD 0 0 = 34 from rfl), quotedR_some rfl, if_neg (by simp [quote])]
theorem Fg_join : ∀ (l : List (List UInt8)), l ≠ [] → Fg (joinQ l) = some (l.map quote)
  | [], h => absurd rfl h
  | [s], _ => by
    have := partS_quote s []
    rw [List.append_nil] at this
    show Fg (quote s) = _
    rw [Fg_some this, if_pos rfl]; rfl
  | s :: t :: l, _ => by
    have ih := Fg_join (t :: l) (by simp)
    show Fg (quote s ++ 32 :: joinQ (t :: l)) = _
    rw [Fg_some (partS_quote s _), if_neg (by simp), if_pos (by simp), List.drop_append]
    simp only [List.drop_eq_nil_of_le (show (quote s).length ≤ (quote s).length + 1 by omega), List.nil_append, show (quote s).length + 1 - (quote s).length = 1 by omega, List.drop_succ_cons, List.drop_zero]
    rw [ih]; simp
theorem fieldsR_join (l : List (List UInt8)) : fieldsR (joinQ l) = (l.map quote, 0) := by
  cases l with
  | nil => rfl
  | cons s l =>
    have hne : joinQ (s :: l) ≠ [] := by cases l <;> simp [joinQ, quote]
    exact fieldsR_some (by rw [fields_eq hne]; exact Fg_join _ (by simp))
theorem joinQ_snoc (l : List (List UInt8)) (s : List UInt8) : joinQ (l ++ [s]) = (if l.length = 0 then joinQ l else joinQ l ++ [32]) ++ quote s := by
  induction l with
  | nil => rfl
  | cons t l ih =>
    cases l with
    | nil => simp [joinQ]
    | cons u l =>
      have e : joinQ (t :: ((u :: l) ++ [s])) = quote t ++ 32 :: joinQ ((u :: l) ++ [s]) := rfl
      rw [List.cons_append, e, ih]
      simp [joinQ]
theorem joinQ_len (l : List (List UInt8)) (h : ∀ s ∈ l, s.length ≤ 100) : (joinQ l).length ≤ 403 * l.length := by
  induction l with
  | nil => simp [joinQ]
  | cons s l ih =>
    have h1 := quote_len s
    have h2 := h s (by simp)
    have h3 := ih (fun x hx => h x (by simp [hx]))
    cases l with
    | nil => simp only [joinQ, List.length_cons, List.length_nil]; omega
    | cons u l => 
      have e : joinQ (s :: u :: l) = quote s ++ 32 :: joinQ (u :: l) := rfl
      rw [e]; simp only [List.length_append, List.length_cons] at *; omega
end Nm
