/- Layer 4: the cases of 'next', each against the form that a text begins with. Conditions: none. -/
import Derived.Test.YtmjhhmilgebbbaaNmDec
import Derived.Lib.Bytealg
set_option linter.unusedVariables false
namespace Nm
open Go
set_option linter.unusedVariables false
theorem u8_eq {a : UInt8} {n : Nat} (h : (a.toNat : Int) = (n : Int)) (hn : n < 256) : a = UInt8.ofNat n := by
  apply UInt8.toNat_inj.1; simp; omega
set_option maxRecDepth 100000 in
theorem indexB_tab : ∀ n, n < 256 → Lib.indexByte hexdigs (UInt8.ofNat n) = match hx (UInt8.ofNat n) with
  | some p => (p : Int)
  | none => -1 := by decide +kernel
theorem indexB (c : UInt8) : Lib.indexByte hexdigs c = match hx c with
  | some p => (p : Int)
  | none => -1 := by
  have := indexB_tab c.toNat (c.toNat_lt)
  simpa using this
theorem hx_lt {c : UInt8} {p : Nat} (h : hx c = some p) : p < 16 := by
  unfold hx at h; split at h
  · cases h; omega
  · split at h
    · cases h; omega
    · cases h
theorem hex_some {c : UInt8} (h : decide (Lib.indexByte hexdigs c < 0) = false) : ∃ p, hx c = some p ∧ p < 16 ∧ Lib.indexByte hexdigs c = (p : Int) := by
  rw [indexB] at h ⊢
  cases hc : hx c with
  | none => rw [hc] at h; simp at h
  | some p => exact ⟨p, rfl, hx_lt hc, by simp⟩
theorem hex_none {c : UInt8} (h : decide (Lib.indexByte hexdigs c < 0) = true) : hx c = none := by
  rw [indexB] at h
  cases hc : hx c with
  | none => rfl
  | some p => rw [hc] at h; simp at h; omega
theorem next1 {s : List UInt8} (h : (s == [] || ((s.getD 0 0).toNat : Int) == 34) = true) : nextR s = (0, 0) := by
  apply nextR_none
  intro c r e
  obtain ⟨a, t, h1, h2⟩ := quoteB_head c r
  rw [← e] at h1
  subst h1
  simp at h
  exact h2 (UInt8.toNat_inj.1 (by simpa using by omega))
theorem next2 {s : List UInt8} (h0 : (s == [] || ((s.getD 0 0).toNat : Int) == 34) = false) (h : (((s.getD 0 0).toNat : Int) != 92) = true) (hq : (!(quoteB (s.getD 0 0) == s.take 1)) = true) : nextR s = (0, 0) := by
  cases s with
  | nil => simp at h0
  | cons a t =>
    simp at h0 h hq
    apply nextR_none
    intro c r e
    rcases quoteB_shape c with ⟨hs, _⟩ | hs | ⟨hs, _, _⟩
    · rw [hs] at e; simp at e; rw [e.1] at h; simp at h
    · rw [hs] at e; simp at e; rw [e.1] at h; simp at h
    · rw [hs] at e; simp at e; rw [e.1] at hq; exact hq hs
theorem next3 {s : List UInt8} (h0 : (s == [] || ((s.getD 0 0).toNat : Int) == 34) = false) (hq : (!(quoteB (s.getD 0 0) == s.take 1)) = false) : nextR s = (s.getD 0 0, 1) := by
  cases s with
  | nil => simp at h0
  | cons a t =>
    simp at hq
    have := nextR_some (s := a :: t) (c := a) t (by rw [hq]; rfl)
    rw [this, hq]; simp
theorem s0_92 {s : List UInt8} (h0 : (s == [] || ((s.getD 0 0).toNat : Int) == 34) = false) (h : (((s.getD 0 0).toNat : Int) != 92) = false) : ∃ t, s = 92 :: t := by
  cases s with
  | nil => simp at h0
  | cons a t =>
    simp at h
    have e := u8_eq (a := a) (n := 92) (by omega) (by decide)
    exact ⟨t, by rw [e]; rfl⟩
theorem next4 {t : List UInt8} (h : (decide (((92 :: t).length : Int) ≥ 2) && (((((92 : UInt8) :: t).getD 1 0).toNat : Int) == 34 || ((((92 : UInt8) :: t).getD 1 0).toNat : Int) == 92)) = true) : nextR (92 :: t) = (((92 : UInt8) :: t).getD 1 0, 2) := by
  cases t with
  | nil => simp at h
  | cons b t =>
    simp at h
    have hb : b = 34 ∨ b = 92 := by
      rcases h.2 with h | h
      · left; exact u8_eq (n := 34) (by omega) (by decide)
      · right; exact u8_eq (n := 92) (by omega) (by decide)
    have hq : quoteB b = [92, b] := by rcases hb with rfl | rfl <;> rfl
    have := nextR_some (s := 92 :: b :: t) (c := b) t (by rw [hq]; rfl)
    rw [this, hq]; simp
theorem next5 {t : List UInt8} (h4 : (decide (((92 :: t).length : Int) ≥ 2) && (((((92 : UInt8) :: t).getD 1 0).toNat : Int) == 34 || ((((92 : UInt8) :: t).getD 1 0).toNat : Int) == 92)) = false)
    (h : (((decide (((92 :: t).length : Int) < 4) || ((((92 : UInt8) :: t).getD 1 0).toNat : Int) != 120) || decide (Lib.indexByte hexdigs (((92 : UInt8) :: t).getD 2 0) < 0)) || decide (Lib.indexByte hexdigs (((92 : UInt8) :: t).getD 3 0) < 0)) = true) : nextR (92 :: t) = (0, 0) := by
  apply nextR_none
  intro c r e
  rcases quoteB_shape c with ⟨hs, hc⟩ | hs | ⟨hs, hc, _⟩
  · rw [hs] at e; simp at e; rw [e] at h4
    rcases hc with rfl | rfl <;> simp at h4 <;> omega
  · rw [hs] at e; simp at e; rw [e] at h
    have h256 := c.toNat_lt
    obtain ⟨g1, g2⟩ := hexd_hx c.toNat (by omega)
    simp only [indexB] at h
    simp [g1, g2, -Int.natCast_ediv, -Int.natCast_emod] at h
    rcases h with (h | h) | h
    · omega
    · exact Int.not_lt.2 (Int.natCast_nonneg _) h
    · exact Int.not_lt.2 (Int.natCast_nonneg _) h
  · rw [hs] at e; simp at e; exact hc e.1.symm
theorem next6 {t : List UInt8} {p q : Nat}
    (h : (((decide (((92 :: t).length : Int) < 4) || ((((92 : UInt8) :: t).getD 1 0).toNat : Int) != 120) || decide (Lib.indexByte hexdigs (((92 : UInt8) :: t).getD 2 0) < 0)) || decide (Lib.indexByte hexdigs (((92 : UInt8) :: t).getD 3 0) < 0)) = false)
    (hp : hx (((92 : UInt8) :: t).getD 2 0) = some p) (hq : hx (((92 : UInt8) :: t).getD 3 0) = some q) :
    (quoteB (UInt8.ofNat (16 * p + q)) == ((92 : UInt8) :: t).take 4) = true → nextR (92 :: t) = (UInt8.ofNat (16 * p + q), 4) := by
  intro hk
  have hk' := eq_of_beq hk
  have hl : 4 ≤ (92 :: t).length := by simp at h ⊢; omega
  have := nextR_some (s := 92 :: t) (c := UInt8.ofNat (16 * p + q)) ((92 :: t).drop 4) (by rw [hk', List.take_append_drop])
  rw [this, hk']; simp at hl ⊢; omega
theorem next7 {t : List UInt8} {p q : Nat} (h4 : (decide (((92 :: t).length : Int) ≥ 2) && (((((92 : UInt8) :: t).getD 1 0).toNat : Int) == 34 || ((((92 : UInt8) :: t).getD 1 0).toNat : Int) == 92)) = false)
    (hp : hx (((92 : UInt8) :: t).getD 2 0) = some p) (hq : hx (((92 : UInt8) :: t).getD 3 0) = some q)
    (hk : (quoteB (UInt8.ofNat (16 * p + q)) == ((92 : UInt8) :: t).take 4) = false) : nextR (92 :: t) = (0, 0) := by
  apply nextR_none
  intro c r e
  rcases quoteB_shape c with ⟨hs, hc⟩ | hs | ⟨hs, hc, _⟩
  · rw [hs] at e; simp at e; rw [e] at h4
    rcases hc with rfl | rfl <;> simp at h4 <;> omega
  · have h256 := c.toNat_lt
    obtain ⟨g1, g2⟩ := hexd_hx c.toNat (by omega)
    have e' := e
    rw [hs] at e'; simp at e'; rw [e'] at hp hq hk
    simp [g1, g2] at hp hq
    have : UInt8.ofNat (16 * p + q) = c := by apply UInt8.toNat_inj.1; simp; omega
    rw [this, hs] at hk
    simp at hk
  · rw [hs] at e; simp at e; exact hc e.1.symm
end Nm
namespace Nm
theorem cancel : ∀ {acc t x r : List UInt8}, acc.flatMap quoteB ++ x = t.flatMap quoteB ++ 34 :: r → ∃ t', t = acc ++ t' ∧ x = t'.flatMap quoteB ++ 34 :: r
  | [], t, x, r, h => ⟨t, rfl, by simpa using h⟩
  | c :: a, [], x, r, h => by
    obtain ⟨b, q, h1, h2⟩ := quoteB_head c (a.flatMap quoteB ++ x)
    have e : (c :: a).flatMap quoteB ++ x = b :: q := by rw [← h1]; simp
    rw [e] at h; simp at h; exact absurd h.1 h2
  | c :: a, d :: t, x, r, h => by
    have h1 := dec1_quote c (a.flatMap quoteB ++ x)
    have h2 := dec1_quote d (t.flatMap quoteB ++ 34 :: r)
    have e1 : (c :: a).flatMap quoteB ++ x = quoteB c ++ (a.flatMap quoteB ++ x) := by simp
    have e2 : (d :: t).flatMap quoteB ++ 34 :: r = quoteB d ++ (t.flatMap quoteB ++ 34 :: r) := by simp
    rw [e1, e2] at h
    rw [h, h2] at h1
    cases h1
    obtain ⟨t', h3, h4⟩ := cancel (List.append_cancel_left h)
    exact ⟨t', by rw [h3]; rfl, h4⟩
theorem dq_none_of {s acc x : List UInt8} (hs : s = 34 :: (acc.flatMap quoteB ++ x)) (h : ∀ (t' r : List UInt8), x ≠ t'.flatMap quoteB ++ 34 :: r) : dq s = none := by
  cases hd : dq s with
  | none => rfl
  | some p =>
    obtain ⟨t, r⟩ := p
    have := dq_spec.1 hd
    rw [hs] at this
    have e : quote t ++ r = 34 :: (t.flatMap quoteB ++ 34 :: r) := by simp [quote]
    rw [e] at this
    obtain ⟨t', _, h2⟩ := cancel (List.cons.inj this).2
    exact absurd h2 (h t' r)
theorem nextR_n0 {x : List UInt8} (h : (nextR x).2 = 0) : dec1 x = none := by
  unfold nextR at h
  cases hd : dec1 x with
  | none => rfl
  | some c => rw [hd] at h; have := quoteB_pos c; simp at h; rw [h] at this; simp at this
theorem nextR_n1 {x : List UInt8} (h : (nextR x).2 ≠ 0) : ∃ r, x = quoteB (nextR x).1 ++ r ∧ (nextR x).2 = (quoteB (nextR x).1).length := by
  unfold nextR at h ⊢
  cases hd : dec1 x with
  | none => rw [hd] at h; exact absurd rfl h
  | some c => obtain ⟨r, hr⟩ := dec1_prefix hd; exact ⟨r, hr, rfl⟩
/-- What 'quoted' returns. -/
def quotedR (s : List UInt8) : List UInt8 × Nat :=
  match dq s with
  | some (t, _) => (t, (quote t).length)
  | none => ([], 0)
theorem quotedR_none {s : List UInt8} (h : dq s = none) : quotedR s = ([], 0) := by unfold quotedR; rw [h]
theorem quotedR_some {s t r : List UInt8} (h : s = quote t ++ r) : quotedR s = (t, (quote t).length) := by unfold quotedR; rw [dq_spec.2 h]
theorem qd0 {s : List UInt8} (h : (s == [] || ((s.getD 0 0).toNat : Int) != 34) = true) : quotedR s = ([], 0) := by
  apply quotedR_none
  cases s with
  | nil => rfl
  | cons a r =>
    simp at h
    have : a ≠ 34 := by intro e; subst e; simp at h
    simp [dq, this]
theorem qd1 {s : List UInt8} (h : (s == [] || ((s.getD 0 0).toNat : Int) != 34) = false) : s = 34 :: (([] : List UInt8).flatMap quoteB ++ s.drop 1) := by
  cases s with
  | nil => simp at h
  | cons a r =>
    simp at h
    have := u8_eq (a := a) (n := 34) (by omega) (by decide)
    simp [this]
theorem qdEnd {s acc : List UInt8} {k : Nat} (hs : s = 34 :: (acc.flatMap quoteB ++ s.drop k)) (h : s.length ≤ k) : quotedR s = ([], 0) := by
  apply quotedR_none
  have e : s.drop k = [] := List.drop_eq_nil_of_le h
  rw [e] at hs
  refine dq_none_of hs fun t' r h => ?_
  have := congrArg List.length h
  simp at this
theorem qdStop {s acc : List UInt8} {k : Nat} (hs : s = 34 :: (acc.flatMap quoteB ++ s.drop k)) (hk : k < s.length) (h : (s.getD k 0).toNat ≠ 34) (hn : (nextR (s.drop k)).2 = 0) : quotedR s = ([], 0) := by
  apply quotedR_none
  refine dq_none_of hs fun t' r e => ?_
  cases t' with
  | nil =>
    have : s.getD k 0 = 34 := by
      have h1 : (s.drop k).getD 0 0 = s.getD k 0 := by simp
      rw [← h1, e]; rfl
    rw [this] at h; exact h rfl
  | cons c t' =>
    have h1 := dec1_quote c (t'.flatMap quoteB ++ 34 :: r)
    have e2 : (c :: t').flatMap quoteB ++ 34 :: r = quoteB c ++ (t'.flatMap quoteB ++ 34 :: r) := by simp
    rw [e, e2] at hn
    rw [nextR_n0 hn] at h1; cases h1
theorem qdGo {s acc : List UInt8} {k : Nat} (hs : s = 34 :: (acc.flatMap quoteB ++ s.drop k)) (hn : (nextR (s.drop k)).2 ≠ 0) :
    s = 34 :: ((acc ++ [(nextR (s.drop k)).1]).flatMap quoteB ++ s.drop (k + (nextR (s.drop k)).2)) := by
  obtain ⟨r, h1, h2⟩ := nextR_n1 hn
  have e : s.drop (k + (nextR (s.drop k)).2) = r := by
    rw [← List.drop_drop]
    conv => lhs; rw [h2]
    conv => lhs; arg 2; rw [h1]
    simp
  rw [e]
  simp only [List.flatMap_append, List.flatMap_cons, List.flatMap_nil, List.append_nil, List.append_assoc]
  rw [← h1]; exact hs
theorem nextR_le (x : List UInt8) : (nextR x).2 ≤ x.length := by
  by_cases h : (nextR x).2 = 0
  · omega
  · obtain ⟨r, h1, h2⟩ := nextR_n1 h
    have := congrArg List.length h1
    simp at this
    omega
theorem qdDone {s acc : List UInt8} {k : Nat} (hs : s = 34 :: (acc.flatMap quoteB ++ s.drop k)) (hk : k < s.length) (h : (s.getD k 0).toNat = 34) (hkl : k = (acc.flatMap quoteB).length + 1) : quotedR s = (acc, k + 1) := by
  have e : s.drop k = 34 :: s.drop (k + 1) := by
    rw [List.drop_eq_getElem_cons hk]
    have : s.getD k 0 = s[k] := by rw [List.getD_eq_getElem?_getD, List.getElem?_eq_getElem hk]; rfl
    rw [← this, UInt8.toNat_inj.1 (show (s.getD k 0).toNat = (34 : UInt8).toNat from h)]
  rw [e] at hs
  have := quotedR_some (s := s) (t := acc) (r := s.drop (k + 1)) (hs.trans (by simp [quote]))
  rw [this]; simp only [quote, List.cons_append, List.length_cons, List.length_append, List.length_nil]; rw [hkl]
end Nm
namespace Nm
/-- What the reference's 'quoted' returns: the text, and the index behind its form, or -1. -/
def rquotedR (s : List UInt8) (at' : Nat) : List UInt8 × Int :=
  match dq (s.drop at') with
  | some (t, _) => (t, ((at' + (quote t).length : Nat) : Int))
  | none => ([], -1)
theorem rq_none {s : List UInt8} {p : Nat} (h : dq (s.drop p) = none) : rquotedR s p = ([], -1) := by unfold rquotedR; rw [h]
theorem rq_some {s t r : List UInt8} {p : Nat} (h : s.drop p = quote t ++ r) : rquotedR s p = (t, ((p + (quote t).length : Nat) : Int)) := by unfold rquotedR; rw [dq_spec.2 h]
/-- What the reference's loop has come to: whatever text stands there begins with what has been read. -/
def RInv (x : List UInt8) (acc : List UInt8) (y : List UInt8) : Prop := ∀ t r, x = quote t ++ r → ∃ t', t = acc ++ t' ∧ y = t'.flatMap quoteB ++ 34 :: r
theorem RInv.none {x acc y : List UInt8} (h : RInv x acc y) (hy : ∀ (t' r : List UInt8), y ≠ t'.flatMap quoteB ++ 34 :: r) : dq x = none := by
  cases hd : dq x with
  | none => rfl
  | some p =>
    obtain ⟨t, r⟩ := p
    obtain ⟨t', _, h2⟩ := h t r (dq_spec.1 hd)
    exact absurd h2 (hy t' r)
theorem RInv.start {x : List UInt8} : RInv x [] (x.drop 1) := by
  intro t r h
  refine ⟨t, rfl, ?_⟩
  rw [h]; simp [quote]
/-- One form read: it is the form of c. -/
theorem RInv.step {x acc y y' : List UInt8} {c : UInt8} (h : RInv x acc y) (hc : ∀ d r, y = quoteB d ++ r → d = c ∧ r = y') (h34 : y.getD 0 0 ≠ 34) : RInv x (acc ++ [c]) y' := by
  intro t r hx
  obtain ⟨t', h1, h2⟩ := h t r hx
  cases t' with
  | nil => rw [h2] at h34; exact absurd rfl h34
  | cons d t'' =>
    obtain ⟨e1, e2⟩ := hc d (t''.flatMap quoteB ++ 34 :: r) (by rw [h2]; simp)
    subst e1
    exact ⟨t'', by rw [h1]; simp, e2.symm⟩
theorem rstep1 {y : List UInt8} {a : UInt8} {q : List UInt8} (hy : y = a :: q) (ha : a ≠ 92) : ∀ d r, y = quoteB d ++ r → d = a ∧ r = q := by
  intro d r e
  rw [hy] at e
  rcases quoteB_shape d with ⟨hs, _⟩ | hs | ⟨hs, _, _⟩ <;> rw [hs] at e <;> simp at e
  · exact absurd e.1 ha
  · exact absurd e.1 ha
  · exact ⟨e.1.symm, e.2.symm⟩
theorem rstep2 {y : List UInt8} {b : UInt8} {q : List UInt8} (hy : y = 92 :: b :: q) (hb : b = 34 ∨ b = 92) : ∀ d r, y = quoteB d ++ r → d = b ∧ r = q := by
  intro d r e
  rw [hy] at e
  rcases quoteB_shape d with ⟨hs, _⟩ | hs | ⟨hs, h92, _⟩ <;> rw [hs] at e <;> simp at e
  · exact ⟨e.1.symm, e.2.symm⟩
  · rcases hb with hb | hb <;> rw [e.1] at hb <;> cases hb
  · exact absurd e.1.symm h92
theorem rstep3 {y : List UInt8} {a b : UInt8} {q : List UInt8} {m n : Nat} (hy : y = 92 :: 120 :: a :: b :: q) (ha : hx a = some m) (hb : hx b = some n) : ∀ d r, y = quoteB d ++ r → d = UInt8.ofNat (16 * m + n) ∧ r = q := by
  intro d r e
  rw [hy] at e
  rcases quoteB_shape d with ⟨hs, hd⟩ | hs | ⟨hs, h92, _⟩ <;> rw [hs] at e <;> simp at e
  · rcases hd with rfl | rfl <;> simp at e
  · have h256 := d.toNat_lt
    obtain ⟨g1, g2⟩ := hexd_hx d.toNat (by omega)
    rw [e.1] at ha; rw [e.2.1] at hb
    rw [g1] at ha; rw [g2] at hb
    simp at ha hb
    exact ⟨by apply UInt8.toNat_inj.1; simp; omega, e.2.2.symm⟩
  · exact absurd e.1.symm h92
theorem rstop {y : List UInt8} (h0 : y.getD 0 0 ≠ 34) (h1 : y.getD 0 0 = 92) (h2 : ∀ b q, y = 92 :: b :: q → b ≠ 34 ∧ b ≠ 92) (h3 : ∀ a b q, y = 92 :: 120 :: a :: b :: q → hx a = none ∨ hx b = none) :
    ∀ (t' r : List UInt8), y ≠ t'.flatMap quoteB ++ 34 :: r := by
  intro t' r e
  cases t' with
  | nil => rw [e] at h0; exact h0 rfl
  | cons c t' =>
    have e2 : y = quoteB c ++ (t'.flatMap quoteB ++ 34 :: r) := by rw [e]; simp
    rcases quoteB_shape c with ⟨hs, hc⟩ | hs | ⟨hs, h92, _⟩ <;> rw [hs] at e2
    · have := h2 c _ e2
      rcases hc with rfl | rfl
      · exact this.1 rfl
      · exact this.2 rfl
    · have h256 := c.toNat_lt
      obtain ⟨g1, g2⟩ := hexd_hx c.toNat (by omega)
      rcases h3 _ _ _ e2 with h | h
      · rw [g1] at h; cases h
      · rw [g2] at h; cases h
    · rw [e2] at h1; exact h92 h1
theorem quoteB_ne34 {c : UInt8} {r q : List UInt8} (h : quoteB c ++ r = 34 :: q) : False := by
  rcases quoteB_shape c with ⟨hs, _⟩ | hs | ⟨hs, _, h34⟩ <;> rw [hs] at h <;> simp at h
  exact h34 h.1
theorem rend {x acc y q : List UInt8} (h : RInv x acc y) (hy : y = 34 :: q) (t r : List UInt8) (e : x = quote t ++ r) : t = acc ∧ r = q := by
  obtain ⟨t', h1, h2⟩ := h t r e
  cases t' with
  | nil =>
    rw [hy] at h2; simp at h2
    exact ⟨by rw [h1]; simp, h2.symm⟩
  | cons c t' =>
    rw [hy] at h2
    exact (quoteB_ne34 (c := c) (r := t'.flatMap quoteB ++ 34 :: r) (q := q) (by rw [h2]; simp)).elim
theorem rfin_nil {x acc : List UInt8} (h : RInv x acc []) : dq x = none := h.none fun t' r e => by simp at e
theorem rfin_none {x acc q : List UInt8} {m : Nat} (h : RInv x acc (34 :: q)) (hm : x.length = m + q.length) (hne : quote acc ≠ x.take m) : dq x = none := by
  cases hd : dq x with
  | none => rfl
  | some p =>
    obtain ⟨t, r⟩ := p
    have e := dq_spec.1 hd
    obtain ⟨rfl, rfl⟩ := rend h rfl t r e
    refine absurd ?_ hne
    have : (quote t).length = m := by rw [e] at hm; simp at hm; omega
    rw [e, ← this]; simp
theorem hexv_eq (c : UInt8) : hexv (c.toNat : Int) = match hx c with
  | some p => (p : Int)
  | none => -1 := by
  have h256 := c.toNat_lt
  unfold hexv hx
  by_cases h1 : 48 ≤ c.toNat ∧ c.toNat ≤ 57
  · have e1 : (decide ((c.toNat : Int) ≥ 48) && decide ((c.toNat : Int) ≤ 57)) = true := by simp; omega
    rw [if_pos e1, if_pos h1]; simp only; omega
  · have e1 : ¬ (decide ((c.toNat : Int) ≥ 48) && decide ((c.toNat : Int) ≤ 57)) = true := by simp; omega
    rw [if_neg e1, if_neg h1]
    by_cases h2 : 97 ≤ c.toNat ∧ c.toNat ≤ 102
    · have e2 : (decide ((c.toNat : Int) ≥ 97) && decide ((c.toNat : Int) ≤ 102)) = true := by simp; omega
      rw [if_pos e2, if_pos h2]; simp only; omega
    · have e2 : ¬ (decide ((c.toNat : Int) ≥ 97) && decide ((c.toNat : Int) ≤ 102)) = true := by simp; omega
      rw [if_neg e2, if_neg h2]
theorem hexv_some {c : UInt8} (h : decide (hexv (c.toNat : Int) ≥ 0) = true) : ∃ p, hx c = some p ∧ p < 16 ∧ hexv (c.toNat : Int) = (p : Int) := by
  rw [hexv_eq] at h ⊢
  cases hc : hx c with
  | none => rw [hc] at h; simp at h
  | some p => exact ⟨p, rfl, hx_lt hc, by simp⟩
theorem hexv_none {c : UInt8} (h : decide (hexv (c.toNat : Int) ≥ 0) = false) : hx c = none := by
  rw [hexv_eq] at h
  cases hc : hx c with
  | none => rfl
  | some p => rw [hc] at h; simp at h
end Nm
