/- Layer 4: decoding quoted forms: the byte that a text's first form stands for, and the text of a quoted form; each form has one text. Conditions: none. -/
import Derived.Test.YtmjhhmilgebbbaaNmSpec
namespace Nm
/-- A small hexadecimal digit's value. -/
def hx (c : UInt8) : Option Nat :=
  if 48 ≤ c.toNat ∧ c.toNat ≤ 57 then some (c.toNat - 48) else if 97 ≤ c.toNat ∧ c.toNat ≤ 102 then some (c.toNat - 87) else none
/-- The byte that a form could stand for. -/
def cand (s : List UInt8) : Option UInt8 :=
  match s with
  | [] => none
  | a :: r => if a = 92 then
      match r with
      | [] => none
      | b :: r => if b = 34 ∨ b = 92 then some b else
        match r with
        | x :: y :: _ => match hx x, hx y with
          | some p, some q => some (UInt8.ofNat (16 * p + q))
          | _, _ => none
        | _ => none
    else some a
/-- The byte whose form the text begins with. -/
def dec1 (s : List UInt8) : Option UInt8 :=
  match cand s with
  | some c => if (quoteB c).isPrefixOf s then some c else none
  | none => none
set_option maxRecDepth 100000 in
theorem hexd_hx : ∀ n, n < 256 → hx (hexd (n / 16)) = some (n / 16) ∧ hx (hexd n) = some (n % 16) := by decide
theorem cand_quote (c : UInt8) (r : List UInt8) : cand (quoteB c ++ r) = some c := by
  have h256 := c.toNat_lt
  unfold quoteB
  split
  · rename_i h
    have : c = 34 ∨ c = 92 := by
      simp at h
      rcases h with h | h
      · left; apply UInt8.toNat_inj.1; simpa using by omega
      · right; apply UInt8.toNat_inj.1; simpa using by omega
    simp [cand, this]
  · split
    · obtain ⟨h1, h2⟩ := hexd_hx c.toNat (by omega)
      simp [cand, h1, h2]
      apply UInt8.toNat_inj.1
      simp
      omega
    · rename_i h _
      have : c ≠ 92 := by intro e; subst e; simp at h
      simp [cand, this]
theorem dec1_quote (c : UInt8) (r : List UInt8) : dec1 (quoteB c ++ r) = some c := by
  unfold dec1
  rw [cand_quote]
  simp
theorem dec1_prefix {s : List UInt8} {c : UInt8} (h : dec1 s = some c) : ∃ r, s = quoteB c ++ r := by
  unfold dec1 at h
  split at h
  · split at h
    · rename_i hp
      cases h
      obtain ⟨r, hr⟩ := List.isPrefixOf_iff_prefix.1 hp
      exact ⟨r, hr.symm⟩
    · cases h
  · cases h
theorem dec1_none {s : List UInt8} (h : dec1 s = none) (c : UInt8) (r : List UInt8) : s ≠ quoteB c ++ r := by
  intro e; rw [e, dec1_quote] at h; cases h
theorem quoteB_pos (c : UInt8) : 1 ≤ (quoteB c).length := by unfold quoteB; split <;> (try split) <;> simp
theorem quoteB_head (c : UInt8) (r : List UInt8) : ∃ a t, quoteB c ++ r = a :: t ∧ a ≠ 34 := by
  unfold quoteB
  split
  · exact ⟨92, _, rfl, by decide⟩
  · split
    · exact ⟨92, _, rfl, by decide⟩
    · rename_i h _
      exact ⟨c, _, rfl, by intro e; subst e; simp at h⟩
/-- The text up to the closing quote, and what stands behind. -/
def body : Nat → List UInt8 → Option (List UInt8 × List UInt8)
  | 0, _ => none
  | f + 1, s => match s with
    | [] => none
    | a :: r => if a = 34 then some ([], r) else
      match dec1 (a :: r) with
      | none => none
      | some c => match body f ((a :: r).drop (quoteB c).length) with
        | some (t, r') => some (c :: t, r')
        | none => none
theorem body_spec : ∀ {f : Nat} {s t r : List UInt8}, body f s = some (t, r) → s = t.flatMap quoteB ++ 34 :: r
  | 0, s, t, r, h => by simp [body] at h
  | f + 1, s, t, r, h => by
    unfold body at h
    split at h
    · cases h
    · rename_i a r0
      split at h
      · rename_i ha; cases h; simp [ha]
      · split at h
        · cases h
        · rename_i c hc
          split at h
          · rename_i t' r' hb
            cases h
            obtain ⟨q, hq⟩ := dec1_prefix hc
            rw [hq] at hb ⊢
            rw [List.drop_left] at hb
            rw [body_spec hb]
            simp
          · cases h
theorem body_quote : ∀ (t r : List UInt8) (f : Nat), t.length < f → body f (t.flatMap quoteB ++ 34 :: r) = some (t, r)
  | [], r, f + 1, _ => by simp [body]
  | c :: t, r, f + 1, h => by
    obtain ⟨a, q, hq, ha⟩ := quoteB_head c (t.flatMap quoteB ++ 34 :: r)
    have hd := dec1_quote c (t.flatMap quoteB ++ 34 :: r)
    have e : (c :: t).flatMap quoteB ++ 34 :: r = a :: q := by rw [← hq]; simp
    rw [e]
    unfold body
    simp only [ha, if_false]
    rw [← hq, hd]
    simp only [List.drop_left]
    rw [body_quote t r f (by simpa using h)]
  | _, _, 0, h => by omega
/-- The text whose quoted form the list begins with, and what stands behind that form. -/
def dq (s : List UInt8) : Option (List UInt8 × List UInt8) :=
  match s with
  | [] => none
  | a :: r => if a = 34 then body (r.length + 1) r else none
theorem flat_len_ge (t : List UInt8) : t.length ≤ (t.flatMap quoteB).length := by
  induction t with
  | nil => simp
  | cons c t ih => simp only [List.flatMap_cons, List.length_append, List.length_cons]; have := quoteB_pos c; omega
theorem dq_spec {s t r : List UInt8} : dq s = some (t, r) ↔ s = quote t ++ r := by
  constructor
  · intro h
    unfold dq at h
    split at h
    · cases h
    · split at h
      · rename_i ha
        have := body_spec h
        rw [this, ha]; simp [quote]
      · cases h
  · intro h
    rw [h]
    have e : quote t ++ r = 34 :: (t.flatMap quoteB ++ 34 :: r) := by simp [quote]
    rw [e]
    simp only [dq, if_true]
    refine body_quote t r _ ?_
    have := flat_len_ge t
    simp only [List.length_append, List.length_cons]; omega
theorem quote_inj {t t' r r' : List UInt8} (h : quote t ++ r = quote t' ++ r') : t = t' ∧ r = r' := by
  have h1 := (dq_spec (t := t) (r := r)).2 rfl
  rw [h] at h1
  have h2 := (dq_spec (t := t') (r := r')).2 rfl
  rw [h2] at h1
  cases h1; exact ⟨rfl, rfl⟩
/-- What 'next' returns. -/
def nextR (s : List UInt8) : UInt8 × Nat :=
  match dec1 s with
  | some c => (c, (quoteB c).length)
  | none => (0, 0)
theorem nextR_none {s : List UInt8} (h : ∀ c r, s ≠ quoteB c ++ r) : nextR s = (0, 0) := by
  unfold nextR
  cases hd : dec1 s with
  | none => rfl
  | some c => obtain ⟨r, hr⟩ := dec1_prefix hd; exact absurd hr (h c r)
theorem nextR_some {s : List UInt8} {c : UInt8} (r : List UInt8) (h : s = quoteB c ++ r) : nextR s = (c, (quoteB c).length) := by
  unfold nextR; rw [h, dec1_quote]
theorem quoteB_shape (c : UInt8) : (quoteB c = [92, c] ∧ (c = 34 ∨ c = 92)) ∨ (quoteB c = [92, 120, hexd (c.toNat / 16), hexd c.toNat]) ∨ (quoteB c = [c] ∧ c ≠ 92 ∧ c ≠ 34) := by
  unfold quoteB
  split
  · rename_i h
    left; refine ⟨rfl, ?_⟩
    simp at h
    rcases h with h | h
    · left; apply UInt8.toNat_inj.1; simpa using by omega
    · right; apply UInt8.toNat_inj.1; simpa using by omega
  · rename_i h
    have h1 : c ≠ 92 := by intro e; subst e; simp at h
    have h2 : c ≠ 34 := by intro e; subst e; simp at h
    split
    · exact .inr (.inl rfl)
    · exact .inr (.inr ⟨rfl, h1, h2⟩)
end Nm
