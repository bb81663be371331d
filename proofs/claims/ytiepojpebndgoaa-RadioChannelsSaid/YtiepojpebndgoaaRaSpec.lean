/- The plain law of the medium: what the functions compute. Conditions: none. -/
import Derived.Test.YtiepojpebndgoaaTpGraph
import Derived.Test.YtiepojpebndgoaaTfBands
namespace Ra
open Go.GX Tp
set_option linter.unusedVariables false
set_option linter.unusedSimpArgs false
structure Air where
  e : List Ed
  o : List Int
  n : List Int
structure Fr where
  kd : Int
  fr : Int
  dst : Int
  so : Int
  ta : Int
  sq : Int
  hp : Int
  ur : Bool
  da : List UInt8
def check (a : Air) : Int := if Tp.check a.e ≠ 0 then Tp.check a.e else if (a.o ++ a.n).all okN = false then 2 else if a.o.length > 24 ∨ a.n.length > 24 then 3 else 0
theorem check_e {a : Air} (h : ¬ Tp.check a.e = 0) : check a = Tp.check a.e := by simp [check, h]
theorem check_2 {a : Air} (h : Tp.check a.e = 0) (h2 : (a.o ++ a.n).all okN = false) : check a = 2 := by unfold check; rw [if_neg (by simp [h]), if_pos h2]
theorem check_3 {a : Air} (h : Tp.check a.e = 0) (h2 : (a.o ++ a.n).all okN = true) (h3 : a.o.length > 24 ∨ a.n.length > 24) : check a = 3 := by unfold check; rw [if_neg (by simp [h]), if_neg (by rw [h2]; decide), if_pos h3]
theorem check_0 {a : Air} (h : Tp.check a.e = 0) (h2 : (a.o ++ a.n).all okN = true) (h3 : ¬ (a.o.length > 24 ∨ a.n.length > 24)) : check a = 0 := by unfold check; rw [if_neg (by simp [h]), if_neg (by rw [h2]; decide), if_neg h3]
structure Ok (a : Air) : Prop where
  e : Tp.check a.e = 0
  o : ∀ x ∈ a.o, okN x = true
  n : ∀ x ∈ a.n, okN x = true
  lo : a.o.length ≤ 24
  ln : a.n.length ≤ 24
theorem ok_of {a : Air} (h : check a = 0) : Ok a := by
  unfold check at h
  split at h
  · rename_i h1; exact absurd h h1
  · rename_i h1
    split at h
    · omega
    · rename_i h2
      split at h
      · omega
      · rename_i h3
        have h2 : (a.o ++ a.n).all okN = true := by simpa using h2
        rw [List.all_eq_true] at h2
        exact ⟨by simpa using h1, fun x hx => h2 x (List.mem_append_left _ hx), fun x hx => h2 x (List.mem_append_right _ hx), by omega, by omega⟩
theorem of_ok {a : Air} (h : Ok a) : check a = 0 := check_0 h.e (List.all_eq_true.2 fun x hx => (List.mem_append.1 hx).elim (h.o x) (h.n x)) (by have := h.lo; have := h.ln; omega)
def san (a : Air) : Air := if check a = 0 then a else ⟨[], [], []⟩
theorem san_ok {a : Air} (h : check a = 0) : san a = a := by simp [san, h]
theorem san_no {a : Air} (h : ¬ check a = 0) : san a = ⟨[], [], []⟩ := by simp [san, h]
theorem all_take {α : Type} {f : α → Bool} {l : List α} {k : Nat} {x : α} (hx : l[k]? = some x) : (l.take (k + 1)).all f = ((l.take k).all f && f x) := by
  rw [take_succ_get hx]; simp
theorem all_at {α : Type} {f : α → Bool} {l : List α} {k : Nat} {x : α} (hx : l[k]? = some x) (hf : f x = false) : l.all f = false := by
  rw [← Bool.not_eq_true, List.all_eq_true]; intro h; rw [h x (List.mem_of_getElem? hx)] at hf; cases hf

/-! ### Who receives -/
def hears (a : Air) (n : Int) : Bool := !decide (n ∈ a.o) && !decide (n ∈ a.n)
def takes (a : Air) (dst n : Int) : Bool := hears a n && ((dst == 255) || (dst == n))
def heard (a : Air) (f : Fr) : List Int := (nbrs a.e f.fr).filter (takes a f.dst)
def recv (a : Air) (f : Fr) : List Int := if f.fr ∈ a.o then [] else heard a f
def acked (a : Air) (f : Fr) : Bool := !decide (f.fr ∈ a.o) && ((f.dst == 255) || (decide (0 < (heard a f).length) && !decide (f.fr ∈ a.n)))
theorem heard_len (a : Air) (f : Fr) : (heard a f).length ≤ 251 := Nat.le_trans (List.length_filter_le _ _) (nbrs_len _ _)
theorem recv_len (a : Air) (f : Fr) : (recv a f).length ≤ 251 := by
  unfold recv; split
  · simp
  · exact heard_len a f
theorem heard_sorted (a : Air) (f : Fr) : (heard a f).Pairwise (· < ·) := (nbrs_sorted _ _).sublist List.filter_sublist
theorem recv_sorted (a : Air) (f : Fr) : (recv a f).Pairwise (· < ·) := by
  unfold recv; split
  · exact List.Pairwise.nil
  · exact heard_sorted a f
/-- To one node: at most one receives. -/
theorem heard_one {a : Air} {f : Fr} (h : ¬ f.dst = 255) : ((heard a f).length == 1) = decide (0 < (heard a f).length) := by
  have hs := heard_sorted a f
  have hm : ∀ x ∈ heard a f, x = f.dst := fun x hx => by
    have := (List.mem_filter.1 hx).2
    simp only [takes, Bool.and_eq_true, Bool.or_eq_true, beq_iff_eq, h, false_or] at this
    exact this.2.symm
  match hh : heard a f with
  | [] => rfl
  | [x] => rfl
  | x :: y :: r =>
    rw [hh] at hs hm
    have h1 := hm x (List.mem_cons_self ..)
    have h2 := hm y (List.mem_cons_of_mem _ (List.mem_cons_self ..))
    have := (List.pairwise_cons.1 hs).1 y (List.mem_cons_self ..)
    omega
theorem filter_take {α : Type} {f : α → Bool} {l : List α} {k : Nat} {x : α} (hx : l[k]? = some x) : (l.take (k + 1)).filter f = (l.take k).filter f ++ if f x = true then [x] else [] := by
  rw [take_succ_get hx, List.filter_append]; simp only [List.filter_cons, List.filter_nil]
theorem linked_without {l : List Ed} {o : List Int} {a b : Int} : linked (without l o) a b = (linked l a b && !decide (a ∈ o) && !decide (b ∈ o)) := by
  rw [Bool.eq_iff_iff]
  simp only [Bool.and_eq_true, Bool.not_eq_true', decide_eq_false_iff_not, linked_iff]
  constructor
  · rintro ⟨e, he, hok, h⟩
    obtain ⟨h1, h2⟩ := List.mem_filter.1 he
    simp only [stays, Bool.and_eq_true, Bool.not_eq_true', decide_eq_false_iff_not] at h2
    rcases h with rfl | rfl
    · exact ⟨⟨⟨_, h1, hok, .inl rfl⟩, h2.1.2⟩, h2.2⟩
    · exact ⟨⟨⟨_, h1, hok, .inr rfl⟩, h2.2⟩, h2.1.2⟩
  · rintro ⟨⟨⟨e, he, hok, h⟩, ha⟩, hb⟩
    refine ⟨e, List.mem_filter.2 ⟨he, ?_⟩, hok, h⟩
    simp only [stays, Bool.and_eq_true, Bool.not_eq_true', decide_eq_false_iff_not]
    rcases h with rfl | rfl
    · exact ⟨⟨hok, ha⟩, hb⟩
    · exact ⟨⟨hok, hb⟩, ha⟩
theorem mem_recv {a : Air} {f : Fr} {n : Int} : n ∈ recv a f ↔ f.fr ∉ a.o ∧ linked a.e f.fr n = true ∧ n ∉ a.o ∧ n ∉ a.n ∧ (f.dst = 255 ∨ f.dst = n) := by
  unfold recv
  split
  · rename_i h; simp [h]
  · rename_i h
    simp only [heard, List.mem_filter, mem_nbrs, takes, hears, Bool.and_eq_true, Bool.or_eq_true, Bool.not_eq_true', decide_eq_false_iff_not, beq_iff_eq]
    constructor
    · rintro ⟨h1, ⟨h2, h3⟩, h4⟩; exact ⟨h, h1, h2, h3, h4⟩
    · rintro ⟨_, h1, h2, h3, h4⟩; exact ⟨h1, ⟨h2, h3⟩, h4⟩

/-! ### Interference -/
def jamAll (a : Air) (l : List Int) : List Int := nodes.filter fun n => decide (n ∈ a.n) || decide (n ∈ l)
def jam (a : Air) (l : List Int) : Air := ⟨a.e, a.o, (jamAll a l).take 24⟩
def clear (a : Air) : Air := ⟨a.e, a.o, []⟩
def up (a : Air) : List Ed := without a.e a.o
theorem jam_dif (a : Air) (l : List Int) : Tf.dif ((a.n ++ l).filter okN) = jamAll a l := by
  refine sorted_ext (Tf.dif_asc _) (nodes_sorted.sublist List.filter_sublist) fun x => ?_
  rw [Tf.dif_mem, jamAll, List.mem_filter, List.mem_filter, mem_nodes]
  simp only [List.mem_append, Bool.or_eq_true, decide_eq_true_eq]
  exact and_comm
theorem jam_len (a : Air) (l : List Int) : ((jamAll a l).take 24).length ≤ 24 := by simp; omega
theorem mem_jam {a : Air} {l : List Int} {x : Int} : x ∈ jamAll a l ↔ okN x = true ∧ (x ∈ a.n ∨ x ∈ l) := by
  simp [jamAll, List.mem_filter, mem_nodes]
theorem jam_few {a : Air} {l : List Int} (h : ((jamAll a l).take 24).length < 24) : (jamAll a l).take 24 = jamAll a l := by
  rw [List.take_of_length_le]; simp at h; omega
theorem jam_ok {a : Air} (h : Ok a) (l : List Int) : Ok (jam a l) :=
  ⟨h.e, h.o, fun x hx => (mem_jam.1 (List.take_subset _ _ hx)).1, h.lo, jam_len a l⟩
theorem clear_ok {a : Air} (h : Ok a) : Ok (clear a) := ⟨h.e, h.o, (fun x hx => absurd (show x ∈ ([] : List Int) from hx) (by simp)), h.lo, Nat.zero_le _⟩
theorem clear_all {a : Air} {f : Fr} (hf : f.dst = 255) (h : f.fr ∉ a.o) : recv (clear a) f = nbrs (up a) f.fr := by
  refine sorted_ext (recv_sorted _ _) (nbrs_sorted _ _) fun x => ?_
  rw [mem_recv, mem_nbrs, up, linked_without]
  simp [clear, hf, h]
theorem clear_off {a : Air} {f : Fr} (h : f.fr ∈ a.o) : recv (clear a) f = [] := by unfold recv; exact if_pos h

/-! ### The quietest channel -/
def least (l : List Int) : Nat → Int
  | 0 => -1
  | k + 1 => if least l k < 0 ∨ l.getD k 0 < l.getD (least l k).toNat 0 then (k : Int) else least l k
def chan (l : List Int) (now lim : Int) : Int := if 0 ≤ now ∧ now < l.length ∧ l.getD now.toNat 0 ≤ lim then now else least l l.length
theorem least_lt (l : List Int) : ∀ k, (k = 0 ∧ least l k = -1) ∨ (0 ≤ least l k ∧ least l k < k)
  | 0 => .inl ⟨rfl, rfl⟩
  | k + 1 => by
    have := least_lt l k
    unfold least
    split
    · exact .inr ⟨by omega, by omega⟩
    · rename_i h
      rcases this with ⟨_, h2⟩ | ⟨h1, h2⟩
      · exact absurd (.inl (by omega)) h
      · exact .inr ⟨h1, by omega⟩
theorem least_min (l : List Int) : ∀ k j, j < k → l.getD (least l k).toNat 0 ≤ l.getD j 0
  | 0, j, h => by omega
  | k + 1, j, h => by
    unfold least
    split
    · rename_i hc
      simp only [Int.toNat_natCast]
      by_cases hj : j = k
      · subst hj; omega
      · rcases hc with hc | hc
        · rcases least_lt l k with ⟨h0, _⟩ | ⟨h1, _⟩ <;> omega
        · have := least_min l k j (by omega); omega
    · rename_i hc
      by_cases hj : j = k
      · subst hj; omega
      · exact least_min l k j (by omega)
end Ra
