/- Layer 4: the string of a quoted form, the parts of a line. Conditions: none. -/
import Derived.Test.YtmjhhmilgebbbaaNmNext
import Derived.Lib.Bytealg
set_option linter.unusedVariables false
namespace Nm
/-- What 'Unquote' returns. -/
def unq (s : List UInt8) : List UInt8 × Nat :=
  match dq s with
  | some (t, []) => if t.length > 60 then ([], 3) else (t, 0)
  | _ => ([], 4)
theorem unq_bad {s : List UInt8} (h : (((quotedR s).2 : Int) == 0 || ((quotedR s).2 : Int) != (s.length : Int)) = true) : unq s = ([], 4) := by
  cases hd : dq s with
  | none => unfold unq; rw [hd]
  | some p =>
    obtain ⟨t, r⟩ := p
    have e := dq_spec.1 hd
    rw [quotedR_some e] at h
    cases r with
    | nil =>
      exfalso
      rw [e] at h; simp [quote] at h; omega
    | cons c r => unfold unq; rw [hd]
theorem unq_good {s : List UInt8} (h : (((quotedR s).2 : Int) == 0 || ((quotedR s).2 : Int) != (s.length : Int)) = false) : unq s = if (quotedR s).1.length > 60 then ([], 3) else ((quotedR s).1, 0) := by
  cases hd : dq s with
  | none => rw [quotedR_none hd] at h; simp at h
  | some p =>
    obtain ⟨t, r⟩ := p
    have e := dq_spec.1 hd
    rw [quotedR_some e] at h ⊢
    have hr : r = [] := by
      have := congrArg List.length e
      simp at this h
      exact List.eq_nil_of_length_eq_zero (by omega)
    subst hr
    unfold unq; rw [hd]
theorem runq_bad {s : List UInt8} (h : (decide ((rquotedR s 0).2 < 0) || (rquotedR s 0).2 != (s.length : Int)) = true) : unq s = ([], 4) := by
  cases hd : dq s with
  | none => unfold unq; rw [hd]
  | some p =>
    obtain ⟨t, r⟩ := p
    have e := dq_spec.1 hd
    rw [rq_some (p := 0) (s := s) (t := t) (r := r) e] at h
    cases r with
    | nil => exfalso; rw [e] at h; simp at h; omega
    | cons c r => unfold unq; rw [hd]
theorem runq_good {s : List UInt8} (h : (decide ((rquotedR s 0).2 < 0) || (rquotedR s 0).2 != (s.length : Int)) = false) : unq s = if (rquotedR s 0).1.length > 60 then ([], 3) else ((rquotedR s 0).1, 0) := by
  cases hd : dq s with
  | none => rw [rq_none (p := 0) (s := s) hd] at h; simp at h
  | some p =>
    obtain ⟨t, r⟩ := p
    have e := dq_spec.1 hd
    rw [rq_some (p := 0) (s := s) (t := t) (r := r) e] at h ⊢
    have hr : r = [] := by
      have := congrArg List.length e
      simp at this h
      exact List.eq_nil_of_length_eq_zero (by omega)
    subst hr
    unfold unq; rw [hd]
/-- The length of the part that a text begins with. -/
def partS (x : List UInt8) : Option Nat :=
  if x.getD 0 0 = 34 then (if (quotedR x).2 = 0 then none else some (quotedR x).2)
  else if (x.takeWhile (· != 32)).length = 0 || (x.takeWhile (· != 32)).any (fun c => decide (c.toNat < 32)) then none else some (x.takeWhile (· != 32)).length
def partV : Option Nat → Int
  | some n => (n : Int)
  | none => -1
theorem getD_at {x : List UInt8} {k : Nat} (h : k < x.length) : x.getD k 0 = x[k] := by rw [List.getD_eq_getElem?_getD, List.getElem?_eq_getElem h]; rfl
theorem tw_take {x : List UInt8} : ∀ {k : Nat}, k ≤ x.length → (∀ j, j < k → x.getD j 0 ≠ 32) → (k = x.length ∨ x.getD k 0 = 32) → x.takeWhile (· != 32) = x.take k := by
  induction x with
  | nil => intro k h _ _; simp
  | cons a x ih =>
    intro k hk hne hs
    cases k with
    | zero =>
      rcases hs with h | h
      · simp at h
      · have : a = 32 := h
        simp [this]
    | succ k =>
      have ha : a ≠ 32 := hne 0 (by omega)
      have hs' : k = x.length ∨ x.getD k 0 = 32 := by
        rcases hs with h | h
        · left; simpa using h
        · right; simpa using h
      rw [List.takeWhile_cons_of_pos (by simpa using ha), List.take_succ_cons, ih (k := k) (by simpa using hk) (fun j hj => by have := hne (j + 1) (by omega); simpa using this) hs']
theorem any_take {x : List UInt8} {k : Nat} (hk : k ≤ x.length) (hg : ∀ j, j < k → 32 ≤ (x.getD j 0).toNat) : (x.take k).any (fun c => decide (c.toNat < 32)) = false := by
  rw [List.any_eq_false]
  intro c hc
  obtain ⟨j, hj, rfl⟩ := List.mem_iff_getElem.1 hc
  have hj' : j < k := by simp at hj; omega
  have := hg j hj'
  rw [getD_at (by omega)] at this
  simp; omega
theorem partS_stop {x : List UInt8} {k : Nat} (hq : x.getD 0 0 ≠ 34) (hk : k ≤ x.length) (hne : ∀ j, j < k → x.getD j 0 ≠ 32) (hg : ∀ j, j < k → 32 ≤ (x.getD j 0).toNat) (hs : k = x.length ∨ x.getD k 0 = 32) :
    partS x = if k = 0 then none else some k := by
  unfold partS
  rw [if_neg hq, tw_take hk hne hs, any_take hk hg]
  have : (x.take k).length = k := by simp; omega
  rw [this]
  by_cases h0 : k = 0 <;> simp [h0]
theorem tw_get {x : List UInt8} : ∀ {k : Nat}, k < x.length → (∀ j, j ≤ k → x.getD j 0 ≠ 32) → x.getD k 0 ∈ x.takeWhile (· != 32) := by
  induction x with
  | nil => intro k h _; simp at h
  | cons a x ih =>
    intro k hk hne
    have ha : a ≠ 32 := hne 0 (by omega)
    rw [List.takeWhile_cons_of_pos (by simpa using ha)]
    cases k with
    | zero => simp
    | succ k =>
      have := ih (k := k) (by simpa using hk) (fun j hj => by have := hne (j + 1) (by omega); simpa using this)
      exact List.mem_cons_of_mem _ (by simpa using this)
theorem partS_bad {x : List UInt8} {k : Nat} (hq : x.getD 0 0 ≠ 34) (hk : k < x.length) (hne : ∀ j, j ≤ k → x.getD j 0 ≠ 32) (hb : (x.getD k 0).toNat < 32) : partS x = none := by
  unfold partS
  rw [if_neg hq]
  have : (x.takeWhile (· != 32)).any (fun c => decide (c.toNat < 32)) = true := List.any_eq_true.2 ⟨_, tw_get hk hne, by simpa using hb⟩
  rw [this]; simp
theorem partS_le {x : List UInt8} {n : Nat} (h : partS x = some n) : 0 < n ∧ n ≤ x.length := by
  unfold partS at h
  split at h
  · split at h
    · cases h
    · cases h
      cases hd : dq x with
      | none => rw [quotedR_none hd] at *; omega
      | some p =>
        obtain ⟨t, r⟩ := p
        have e := dq_spec.1 hd
        rw [quotedR_some e] at *
        have := congrArg List.length e
        simp at this
        constructor
        · simp [quote]
        · simp; omega
  · split at h
    · cases h
    · rename_i h2
      cases h
      have h3 := (List.takeWhile_sublist (p := (· != 32)) (l := x)).length_le
      simp at h2
      constructor
      · have := h2.1
        cases x with
        | nil => simp at this
        | cons a x => simp only [List.takeWhile_cons]; split <;> simp_all
      · exact h3
/-- The parts of a text, as long as there are some. -/
def fieldsG : Nat → List UInt8 → Option (List (List UInt8))
  | 0, _ => none
  | f + 1, x => match partS x with
    | none => none
    | some n => if n = x.length then some [x] else if x.getD n 0 = 32 then (fieldsG f (x.drop (n + 1))).map (x.take n :: ·) else none
/-- What 'Fields' returns. -/
def fields (x : List UInt8) : Option (List (List UInt8)) := if x = [] then some [] else fieldsG x.length x
theorem fieldsG_more {x : List UInt8} {f g : Nat} (hf : x.length ≤ f) (hg : x.length ≤ g) (hx : x ≠ []) : fieldsG f x = fieldsG g x := by
  induction f generalizing g x with
  | zero => exact absurd (List.eq_nil_of_length_eq_zero (by omega)) hx
  | succ f ih =>
    cases g with
    | zero => exact absurd (List.eq_nil_of_length_eq_zero (by omega)) hx
    | succ g =>
      unfold fieldsG
      cases hp : partS x with
      | none => rfl
      | some n =>
        simp only
        split
        · rfl
        · split
          · by_cases he : x.drop (n + 1) = []
            · rw [he]
              have hnil : ∀ f, fieldsG f [] = none := by
                intro f; cases f with
                | zero => rfl
                | succ f => rfl
              rw [hnil, hnil]
            · have := List.length_drop (i := n + 1) (l := x)
              rw [ih (x := x.drop (n + 1)) (g := g) (by omega) (by omega) he]
          · rfl
theorem ib_none {s : List UInt8} {c : UInt8} (h : Go.Lib.indexByte s c < 0) : ∀ j, j < s.length → s.getD j 0 ≠ c := by
  induction s with
  | nil => intro j hj; simp at hj
  | cons b l ih =>
    have hge := Go.Lib.indexByte_ge l c
    unfold Go.Lib.indexByte at h
    split at h
    · omega
    · rename_i hb
      split at h
      · rename_i h2
        intro j hj
        cases j with
        | zero => simpa using hb
        | succ j => have := ih (by simp at h2; omega) j (by simpa using hj); simpa using this
      · rename_i h2
        simp at h2; omega
theorem ib_some {s : List UInt8} {c : UInt8} {k : Nat} (h : Go.Lib.indexByte s c = (k : Int)) : k < s.length ∧ s.getD k 0 = c ∧ ∀ j, j < k → s.getD j 0 ≠ c := by
  induction s generalizing k with
  | nil => unfold Go.Lib.indexByte at h; omega
  | cons b l ih =>
    have hge := Go.Lib.indexByte_ge l c
    unfold Go.Lib.indexByte at h
    split at h
    · rename_i hb
      have : k = 0 := by omega
      subst this
      exact ⟨by simp, by simpa using hb, fun j hj => by omega⟩
    · rename_i hb
      split at h
      · omega
      · rename_i h2
        simp at h2
        obtain ⟨k', rfl⟩ : ∃ k', k = k' + 1 := ⟨k - 1, by omega⟩
        obtain ⟨g1, g2, g3⟩ := ih (k := k') (by omega)
        refine ⟨by simpa using g1, by simpa using g2, fun j hj => ?_⟩
        cases j with
        | zero => simpa using hb
        | succ j => have := g3 j (by omega); simpa using this
end Nm
namespace Nm
/-- What the reference's 'part' returns. -/
def rpartV (p : Nat) : Option Nat → Int
  | some n => ((p + n : Nat) : Int)
  | none => -1
theorem partS_nil : partS [] = none := by decide
theorem rpart_q {s : List UInt8} {p : Nat} (h : (s.drop p).getD 0 0 = 34) : rpartV p (partS (s.drop p)) = (rquotedR s p).2 := by
  unfold partS; rw [if_pos h]
  cases hd : dq (s.drop p) with
  | none => rw [quotedR_none hd, rq_none hd]; rfl
  | some x =>
    obtain ⟨t, r⟩ := x
    have e := dq_spec.1 hd
    rw [quotedR_some e, rq_some e, if_neg (by simp [quote])]; rfl
end Nm
namespace Nm
def Fg (x : List UInt8) : Option (List (List UInt8)) := fieldsG x.length x
theorem Fg_nil : Fg [] = none := rfl
theorem fieldsG_succ (f : Nat) (x : List UInt8) : fieldsG (f + 1) x = match partS x with
    | none => none
    | some n => if n = x.length then some [x] else if x.getD n 0 = 32 then (fieldsG f (x.drop (n + 1))).map (x.take n :: ·) else none := rfl
theorem Fg_none {x : List UInt8} (h : partS x = none) : Fg x = none := by
  cases x with
  | nil => rfl
  | cons a x => unfold Fg; rw [List.length_cons]; unfold fieldsG; rw [h]
theorem Fg_some {x : List UInt8} {k : Nat} (h : partS x = some k) : Fg x = if k = x.length then some [x] else if x.getD k 0 = 32 then (Fg (x.drop (k + 1))).map (x.take k :: ·) else none := by
  cases x with
  | nil => rw [partS_nil] at h; cases h
  | cons a x =>
    unfold Fg; rw [List.length_cons, fieldsG_succ, h]; simp only [List.length_cons]
    split
    · rfl
    · split
      · congr 1
        by_cases he : (a :: x).drop (k + 1) = []
        · rw [he]
          cases x with
          | nil => rfl
          | cons b x => rfl
        · have := List.length_drop (i := k + 1) (l := a :: x)
          rw [List.length_cons] at this
          exact fieldsG_more (x := (a :: x).drop (k + 1)) (f := x.length) (g := ((a :: x).drop (k + 1)).length) (by omega) (Nat.le_refl _) he
      · rfl
theorem fields_eq {x : List UInt8} (h : x ≠ []) : fields x = Fg x := by unfold fields; rw [if_neg h]; rfl
/-- What 'Fields' returns: the list and the error. -/
def fieldsR (x : List UInt8) : List (List UInt8) × Nat := match fields x with
  | some l => (l, 0)
  | none => ([], 4)
theorem fieldsR_some {x : List UInt8} {l : List (List UInt8)} (h : fields x = some l) : fieldsR x = (l, 0) := by unfold fieldsR; rw [h]
theorem fieldsR_none {x : List UInt8} (h : fields x = none) : fieldsR x = ([], 4) := by unfold fieldsR; rw [h]
end Nm
namespace Nm
theorem fieldsG_len {f : Nat} : ∀ {x : List UInt8} {l : List (List UInt8)}, fieldsG f x = some l → l.length ≤ f := by
  induction f with
  | zero => intro x l h; cases h
  | succ f ih =>
    intro x l h
    rw [fieldsG_succ] at h
    split at h
    · cases h
    · split at h
      · cases h; simp
      · split at h
        · simp only [Option.map_eq_some_iff] at h
          obtain ⟨l', h1, rfl⟩ := h
          have := ih h1
          simp; omega
        · cases h
theorem fieldsR_len (x : List UInt8) : (fieldsR x).1.length ≤ x.length := by
  unfold fieldsR
  cases h : fields x with
  | none => simp
  | some l =>
    unfold fields at h
    split at h
    · cases h; simp
    · exact fieldsG_len h
end Nm
