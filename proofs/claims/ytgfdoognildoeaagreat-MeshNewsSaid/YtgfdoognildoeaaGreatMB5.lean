/- A part of the proof: contracts of the program's functions. Conditions: none. -/
import Derived.Carry
import Derived.Deep.MidRow
import Derived.Deep.Quiet
import Derived.Laws.IdiomRangeMap
import Derived.Laws.MakeOwn
import Derived.Laws.StructEq
import Derived.Laws.Tables
import Derived.Lib.AppendStr
import Derived.Lib.AppendZerosOnto
import Derived.Lib.OthersKept
import Derived.Lib.Overlaps
import Derived.Lib.OwnBridge
import Derived.Lib.SlicesCompact
import Derived.MapKept
import Derived.Orders
import Derived.OrdersHeld
import Derived.Sort.Grow
import Derived.StillTail
import Derived.Test.YtgfdoognildoeaaGreatProg
import Derived.WalkKit
import Derived.WalkLawsBesides
import Derived.WalkSpells
import Derived.Test.YtgfdoognildoeaaGreatMB1
import Derived.Test.YtgfdoognildoeaaGreatMB2
import Derived.Test.YtgfdoognildoeaaGreatMB3
import Derived.Test.YtgfdoognildoeaaGreatMB4
set_option linter.unusedVariables false
set_option linter.unusedSectionVars false
set_option linter.unusedSimpArgs false
set_option maxRecDepth 100000
set_option maxHeartbeats 4000000
namespace Nd
open Go.GX Tp
section
variable {α : Type} {key : α → Int}
theorem Asc.pos {l : List α} (h : Asc key l) {n : Int} {x : α} (hf : l.find? (fun x => key x == n) = some x) : l[(l.takeWhile (fun x => decide (key x < n))).length]? = some x ∧ key x = n ∧ (l.takeWhile (fun x => decide (key x < n))).length < l.length := by
 obtain ⟨A, C, s⟩ := h.split n
 rcases s.hi with ⟨h1, _⟩ | ⟨y, D, rfl, hy, h2, _⟩
 ·rw [h1] at hf; cases hf
 ·rw [h2] at hf
  cases hf
  rw [s.tw]
  refine ⟨?_, hy, ?_⟩
  ·rw [s.eq]; exact get_mid I
  ·rw [s.eq]; simp
theorem Asc.pos_none {l : List α} (h : Asc key l) {n : Int} (hf : l.find? (fun x => key x == n) = none) : ∀ x, l[(l.takeWhile (fun x => decide (key x < n))).length]? = some x → ¬ key x = n := by
 intro x hx hk
 have := List.find?_eq_none.1 hf x (List.mem_of_getElem? hx)
 simp [hk] at this
theorem tw_le (l : List α) (p : α → Bool) : (l.takeWhile p).length ≤ l.length := (List.takeWhile_prefix p).length_le
theorem find_first {p : α → Bool} {l : List α} {i : Nat} {x : α} (hx : l[i]? = some x) (hp : p x = true) (hno : ∀ j a, j < i → l[j]? = some a → p a = false) : l.find? p = some x := by
 refine find_at hx (fun a ha => ?_) hp
 obtain ⟨j, hj⟩ := List.getElem?_of_mem ha
 rw [List.getElem?_take] at hj
 split at hj
 ·exact hno j a (by assumption) hj
 ·cases hj
theorem Asc.pos_is {l : List α} (h : Asc key l) {n : Int} {i : Nat} {x : α} (hx : l[i]? = some x) (hk : key x = n) : (l.takeWhile (fun x => decide (key x < n))).length = i ∧ l.find? (fun x => key x == n) = some x := by
 have hi : i < l.length := (List.getElem?_eq_some_iff.1 hx).1
 refine ⟨tw_len (by omega) (fun k a hk' ha => ?_) (fun a ha => by rw [hx] at ha; cases ha; omega), find_first hx (by simp [hk]) fun j a hj ha => ?_⟩
 ·have := h.lt hk' ha hx; omega
 ·have := h.lt hj ha hx
  simp; omega
end
theorem lpos_le (l : List Li) (n : Int) : lpos l n ≤ l.length := tw_le _ _
theorem rpos_le (l : List Ro) (n : Int) : rpos l n ≤ l.length := tw_le _ _
theorem lseen_is {l : List Li} {n : Int} {ok : Bool} {x : Li} (hr : ¬ (n < 0 ∨ n > 250)) (hx : (lval l)[lpos (lval l) n]? = some x) (hn : x.nd = n) : lseen l n ok = (lval l).set (lpos (lval l) n) (lupd x ok) := by
 have := ((lval_asc l).pos_is hx hn).2
 unfold lseen lat
 rw [if_neg hr, this]
theorem lat_no {l : List Li} {n : Int} (h : ∀ x, (lval l)[lpos (lval l) n]? = some x → ¬ x.nd = n) : lat (lval l) n = none := by
 cases hf : lat (lval l) n with
 | none => rfl
 | some x => exact absurd ((lval_asc l).pos hf).2.1 (h x ((lval_asc l).pos hf).1)
theorem lseen_full {l : List Li} {n : Int} {ok : Bool} (hr : ¬ (n < 0 ∨ n > 250)) (h : lat (lval l) n = none) (h2 : (lval l).length = 24) : lseen l n ok = lval l := by
 unfold lseen; rw [if_neg hr, h]; simp [h2]
theorem lseen_new {l : List Li} {n : Int} {ok : Bool} (hr : ¬ (n < 0 ∨ n > 250)) (h : lat (lval l) n = none) (h2 : ¬ (lval l).length = 24) : lseen l n ok = (lval l).take (lpos (lval l) n) ++ lupd ⟨n, 0, 0⟩ ok :: (lval l).drop (lpos (lval l) n) := by
 unfold lseen; rw [if_neg hr, h]; simp [h2]
theorem lseen_out {l : List Li} {n : Int} {ok : Bool} (hr : n < 0 ∨ n > 250) : lseen l n ok = lval l := by unfold lseen; rw [if_pos hr]
theorem lforget_is {l : List Li} {n : Int} {x : Li} (hx : (lval l)[lpos (lval l) n]? = some x) (hn : x.nd = n) : lforget l n = (lval l).eraseIdx (lpos (lval l) n) := by
 obtain ⟨A, C, s⟩ := (lval_asc l).split n
 have hl : lpos (lval l) n = A.length := by unfold lpos; rw [s.tw]
 have hA : A.filter (fun x => !(x.nd == n)) = A := List.filter_eq_self.2 fun a ha => by have := s.lo a ha; simp; omega
 rcases s.hi with ⟨h3, h4⟩ | ⟨y, D, rfl, hy, h3, h4⟩
 ·have := ((lval_asc l).pos_is hx hn).2
  rw [h3] at this; cases this
 ·have hC : (y :: D).filter (fun x => !(x.nd == n)) = D := by
   rw [List.filter_cons_of_neg (by simp [hy])]
   exact List.filter_eq_self.2 fun a ha => by have := h4 a ha; simp; omega
  unfold lforget
  rw [hl, s.eq, List.filter_append, hA, hC]
  simp [List.eraseIdx_append_of_length_le]
theorem lforget_no {l : List Li} {n : Int} (h : lat (lval l) n = none) : lforget l n = lval l :=
 List.filter_eq_self.2 fun a ha => by
  have := List.find?_eq_none.1 h a ha
  simpa using this
theorem lrange_lt {x : Li} (h : lrange x = false) : 0 ≤ x.nd ∧ x.nd ≤ 250 ∧ 0 ≤ x.ct ∧ x.ct ≤ 16 ∧ 0 ≤ x.bi ∧ x.bi < 65536 := by
 simp only [lrange, Bool.or_eq_false_iff, decide_eq_false_iff_not] at h
 obtain ⟨⟨⟨⟨⟨h1, h2⟩, h3⟩, h4⟩, h5⟩, h6⟩ := h
 refine ⟨by omega, by omega, by omega, by omega, by omega, ?_⟩
 have h7 : (2 : Int) ^ x.ct.toNat ≤ 2 ^ 16 := by
  have : (2 : Nat) ^ x.ct.toNat ≤ 2 ^ 16 := Nat.pow_le_pow_right (by decide) (by omega)
  exact_mod_cast this
 have h8 : (2 : Int) ^ 16 = 65536 := by decide
 omega
theorem radd_dest (fr cost : Int) (a : Ro) : (radd fr cost a).dest = a.dest := by unfold radd; split <;> rfl
theorem rlearn_asc {t : List Ro} {fr : Int} {r : Ro} (h : Asc (·.dest) t) : Asc (·.dest) (rlearn t fr r) := by
 unfold rlearn
 split
 ·rename_i o ho
  have hm : Asc (·.dest) (t.set (rpos t r.dest) r) := by
   obtain ⟨A, C, s⟩ := h.split r.dest
   rcases s.hi with ⟨h1, _⟩ | ⟨y, D, rfl, hy, h2, h3⟩
   ·exact absurd ho (by unfold rat; rw [h1]; simp)
   ·have hl : rpos t r.dest = A.length := by unfold rpos; rw [s.tw]
    rw [hl, s.eq, set_mid rfl]
    have h' := h
    rw [s.eq] at h'
    obtain ⟨p1, p2, p3⟩ := List.pairwise_append.1 h'
    exact Asc.ins (n := r.dest) (List.pairwise_append.2 ⟨p1, (List.pairwise_cons.1 p2).2, fun a ha b hb => p3 a ha b (List.mem_cons_of_mem _ hb)⟩) s.lo h3 I
  cases (if fin r = true then better r o else (o.nx == fr) && decide (o.sq < r.sq)) <;> simp [h, hm]
 ·rename_i ho
  split
  ·obtain ⟨A, C, s⟩ := h.split r.dest
   rcases s.hi with ⟨h1, h2⟩ | ⟨y, D, rfl, hy, h2, h3⟩
   ·have hl : rpos t r.dest = A.length := by unfold rpos; rw [s.tw]
    have h' := h
    rw [s.eq] at h'
    rw [hl, s.eq]
    simp only [List.take_left, List.drop_left]
    exact Asc.ins h' s.lo h2 I
   ·exact absurd ho (by unfold rat; rw [h2]; simp)
  ·exact h
theorem rlearn_len {t : List Ro} {fr : Int} {r : Ro} (h : t.length ≤ 24) : (rlearn t fr r).length ≤ 24 := by
 unfold rlearn
 split
 ·cases (if fin r = true then better r _ else _) <;> simp <;> omega
 ·split
  ·have := rpos_le t r.dest; simp; omega
  ·exact h
theorem rstep_asc {t : List Ro} {self fr cost : Int} {a : Ro} (h : Asc (·.dest) t) : Asc (·.dest) (rstep self fr cost t a) := by
 unfold rstep; split
 ·exact h
 ·exact rlearn_asc h
theorem rstep_len {t : List Ro} {self fr cost : Int} {a : Ro} (h : t.length ≤ 24) : (rstep self fr cost t a).length ≤ 24 := by
 unfold rstep; split
 ·exact h
 ·exact rlearn_len h
theorem steps_asc {self fr cost : Int} : ∀ {adv t : List Ro}, Asc (·.dest) t → t.length ≤ 24 → Asc (·.dest) (adv.foldl (rstep self fr cost) t) ∧ (adv.foldl (rstep self fr cost) t).length ≤ 24
 | [], t, h, hl => ⟨h, hl⟩
 | a :: adv, t, h, hl => steps_asc (adv := adv) (rstep_asc h) (rstep_len hl)
theorem fold_take {α β : Type} (f : β → α → β) (b : β) {l : List α} {k : Nat} {x : α} (hx : l[k]? = some x) : (l.take (k + 1)).foldl f b = f ((l.take k).foldl f b) x := by
 rw [take_succ_get hx, List.foldl_append]; rfl
theorem renc_len (t : List Ro) : ((t.map renc1).flatten).length = 4 * t.length := by
 induction t with
 | nil => rfl
 | cons x t ih => simp only [List.map_cons, List.flatten_cons, List.length_append, ih, List.length_cons]; simp [renc1]; omega
theorem renc_step (t : List Ro) (x : Ro) : renc (t ++ [x]) = if usable x = true ∧ (renc t).length < 96 then renc t ++ renc1 x else renc t := by
 have h1 : (renc t).length = 4 * min 24 (t.filter usable).length := by unfold renc; rw [renc_len, List.length_take]
 unfold renc at h1 ⊢
 rw [List.filter_append]
 by_cases hu : usable x = true
 ·rw [List.filter_cons_of_pos hu, List.filter_nil]
  split
  ·rename_i h2
   rw [List.take_of_length_le (by simp; omega), List.take_of_length_le (by omega)]
   simp
  ·rename_i h2
   have h3 : 24 ≤ (t.filter usable).length := by
    have : ¬ (4 * min 24 (t.filter usable).length < 96) := fun h => h2 ⟨hu, by rw [h1]; exact h⟩
    omega
   rw [List.take_append_of_le_length h3]
 ·rw [List.filter_cons_of_neg hu, List.filter_nil, List.append_nil, if_neg (fun h => hu h.1)]
theorem rdecs_len (s : By) : ∀ n, (rdecs s n).length = n
 | 0 => rfl
 | n + 1 => by simp [rdecs, rdecs_len s n]
theorem rdecs_get (s : By) : ∀ {n k : Nat}, k < n → (rdecs s n)[k]? = some (rdec1 (s.drop (4 * k)))
 | 0, k, h => by omega
 | n + 1, k, h => by
  unfold rdecs
  by_cases hk : k < n
  ·rw [List.getElem?_append_left (by rw [rdecs_len]; exact hk)]; exact rdecs_get s hk
  ·have : k = n := by omega
   subst this
   rw [List.getElem?_append_right (by rw [rdecs_len]; omega), rdecs_len]; simp
theorem btake_exp (l : List Ma) (to now life : Int) : btake l to now life = match (bexp l now life).findIdx? (fun m => m.f.dst == to) with
  | some i => (((bexp l now life).getD i ⟨fr0, 0⟩).f, (bexp l now life).eraseIdx i, true)
  | none => (fr0, bexp l now life, false) := by
 unfold btake bexp
 generalize l.take 16 = L
 have key : ∀ (L pre : List Ma), (∀ m ∈ pre, (m.f.dst == to) = false) → L.foldl (bstep to now life) (fr0, pre, false) =
   match (L.filter fun m => !bold now life m).findIdx? (fun m => m.f.dst == to) with
   | some i => (((L.filter fun m => !bold now life m).getD i ⟨fr0, 0⟩).f, pre ++ (L.filter fun m => !bold now life m).eraseIdx i, true)
   | none => (fr0, pre ++ (L.filter fun m => !bold now life m), false) := by
  have keyT : ∀ (L : List Ma) (f : Fr) (pre : List Ma), L.foldl (bstep to now life) (f, pre, true) = (f, pre ++ L.filter (fun m => !bold now life m), true) := by
   intro L
   induction L with
   | nil => intro f pre; simp
   | cons m L ih =>
    intro f pre
    rw [List.foldl_cons]
    by_cases hb : bold now life m = true
    ·rw [show bstep to now life (f, pre, true) m = (f, pre, true) from by simp [bstep, hb], ih, List.filter_cons_of_neg (by simp [hb])]
    ·rw [show bstep to now life (f, pre, true) m = (f, pre ++ [m], true) from by simp [bstep, hb], ih, List.filter_cons_of_pos (by simp [hb])]
     simp
  intro L
  induction L with
  | nil => intro pre _; simp
  | cons m L ih =>
   intro pre hpre
   rw [List.foldl_cons]
   by_cases hb : bold now life m = true
   ·rw [show bstep to now life (fr0, pre, false) m = (fr0, pre, false) from by simp [bstep, hb], ih pre hpre, List.filter_cons_of_neg (by simp [hb])]
   ·rw [List.filter_cons_of_pos (by simp [hb])]
    by_cases ht : (m.f.dst == to) = true
    ·rw [show bstep to now life (fr0, pre, false) m = (m.f, pre, true) from by simp only [bstep, hb, ht]; rfl, keyT]
     rw [List.findIdx?_cons, if_pos ht]
     simp
    ·have ht' : (m.f.dst == to) = false := by simpa using ht
     rw [show bstep to now life (fr0, pre, false) m = (fr0, pre ++ [m], false) from by simp only [bstep, hb, ht']; rfl, ih (pre ++ [m]) (fun x hx => by
      rcases List.mem_append.1 hx with hx | hx
      ·exact hpre x hx
      ·rw [List.mem_singleton] at hx; subst hx; exact ht')]
     rw [List.findIdx?_cons, if_neg ht]
     cases (L.filter fun m => !bold now life m).findIdx? (fun m => m.f.dst == to) with
     | none => simp
     | some i => simp
 simpa using key L [] (fun m hm => by cases hm)
theorem bexp_len (l : List Ma) (now life : Int) : (bexp l now life).length ≤ 16 := Nat.le_trans (List.length_filter_le _ _) (by simp; omega)
theorem btake_len (l : List Ma) (to now life : Int) : (btake l to now life).2.1.length ≤ 16 ∧ ((btake l to now life).2.2 = true → (btake l to now life).2.1.length < l.length) := by
 have hb := bexp_len l now life
 have hb2 : (bexp l now life).length ≤ l.length := Nat.le_trans (List.length_filter_le _ _) (by simp; omega)
 rw [btake_exp]
 split
 ·rename_i i hi
  have hlt : i < (bexp l now life).length := (List.findIdx?_eq_some_iff_getElem.1 hi).1
  have hel : ((bexp l now life).eraseIdx i).length = (bexp l now life).length - 1 := List.length_eraseIdx_of_lt hlt
  exact ⟨by simp only [hel]; omega, fun _ => by simp only [hel]; omega⟩
 ·exact ⟨hb, fun h => by cases h⟩
end Nd
namespace Nd
open Go.GX Tp
theorem pnum_le (l : List Bool) : pnum l ≤ l.length := List.countP_le_length
theorem pnum_step {l : List Bool} {k : Nat} {b : Bool} (hb : l[k]? = some b) : pnum (l.take (k + 1)) = pnum (l.take k) + (if b then 1 else 0) := by
 rw [take_succ_get hb, pnum, List.countP_append]
 cases b <;> rfl
theorem all_of_pnum {l : List Bool} (h : l.all id = true) : pnum l = l.length := by
 rw [List.all_eq_true] at h
 exact List.countP_eq_length.2 h
theorem pvalid_head {p : Pt} (h : pvalid p = true) : phead p = false := by
 simp only [pvalid, Bool.and_eq_true, Bool.not_eq_true'] at h
 exact h.1.1.1
structure Head (p : Pt) : Prop where
 id0 : 0 ≤ p.id
 id1 : p.id ≤ 255
 ct0 : 2 ≤ p.ct
 ct1 : p.ct ≤ 16
 si0 : 0 ≤ p.si
 si1 : p.si ≤ maxTick
 hv : (p.hv.length : Int) = p.ct
 da : (p.da.length : Int) = p.ct
theorem phead_is {p : Pt} (h : phead p = false) : Head p := by
 simp only [phead, Bool.or_eq_false_iff, decide_eq_false_iff_not, Bool.not_eq_false', beq_iff_eq] at h
 obtain ⟨⟨⟨⟨⟨⟨⟨h1, h2⟩, h3⟩, h4⟩, h5⟩, h6⟩, h7⟩, h8⟩ := h
 exact ⟨by omega, by omega, by omega, by omega, by omega, by omega, h7, h8⟩
theorem pvalid_all {p : Pt} (h : pvalid p = true) : p.hv.all id = false := by
 rw [← Bool.not_eq_true]
 intro h2
 have hh := phead_is (pvalid_head h)
 have := all_of_pnum h2
 simp only [pvalid, Bool.and_eq_true, decide_eq_true_eq] at h
 have := hh.hv
 omega
theorem last_len {α : Type} (n : Nat) (l : List α) : (last n l).length ≤ n := by unfold last; simp; omega
theorem last_mem {α : Type} {n : Nat} {l : List α} {a : α} (h : a ∈ last n l) : a ∈ l := List.mem_of_mem_drop h
theorem psteps_valid : ∀ {l out : List Pt}, (∀ p ∈ out, pvalid p = true) → ∀ p ∈ l.foldl pstep out, pvalid p = true
 | [], out, h, p, hp => h p hp
 | x :: l, out, h, p, hp => by
  refine psteps_valid (l := l) (out := pstep out x) (fun q hq => ?_) p hp
  unfold pstep at hq
  split at hq
  ·rename_i hc
   simp only [Bool.and_eq_true] at hc
   rcases List.mem_append.1 hq with hq | hq
   ·exact h q hq
   ·rw [List.mem_singleton] at hq; subst hq; exact hc.1
  ·exact h q hq
theorem porder_valid {l : List Pt} : ∀ p ∈ porder l, pvalid p = true := fun p hp => psteps_valid (fun p hp => by cases hp) p (last_mem hp)
theorem porder_len (l : List Pt) : (porder l).length ≤ 8 := last_len 8 _
theorem psteps_len : ∀ (l out : List Pt), (l.foldl pstep out).length ≤ out.length + l.length
 | [], out => by simp
 | x :: l, out => by
  have := psteps_len l (pstep out x)
  have h2 : (pstep out x).length ≤ out.length + 1 := by unfold pstep; split <;> simp
  simp only [List.foldl_cons, List.length_cons]; omega
theorem pfind_lt {l : List Pt} {s i : Int} {a : Nat} (h : pfind l s i = some a) : a < l.length := (List.findIdx?_eq_some_iff_getElem.1 h).1
def Fresh (l : List Pt) : Prop := ∀ p ∈ l, Head p ∧ p.hv.all id = false
theorem porder_fresh (l : List Pt) : Fresh (porder l) := fun p hp => ⟨phead_is (pvalid_head (porder_valid p hp)), pvalid_all (porder_valid p hp)⟩
theorem Fresh.erase {l : List Pt} (h : Fresh l) (i : Nat) : Fresh (l.eraseIdx i) := fun p hp => h p (List.mem_of_mem_eraseIdx hp)
theorem pdrop_fresh {l : List Pt} (h : Fresh l) (s id c : Int) : Fresh (pdrop l s id c).1 := by
 unfold pdrop
 split
 ·split
  ·exact h
  ·exact h.erase _
 ·exact h
theorem pdrop_len {l : List Pt} (h : l.length ≤ 8) (s id c : Int) : (pdrop l s id c).1.length ≤ 8 := by
 unfold pdrop
 split
 ·split
  ·exact h
  ·exact Nat.le_trans (List.length_eraseIdx_le _ _) h
 ·exact h
theorem pdrop_at {l : List Pt} {s id c : Int} {a : Nat} (h : (pdrop l s id c).2 = some a) : (pdrop l s id c).1 = l ∧ a < l.length ∧ (l.getD a pz).ct = c := by
 unfold pdrop at h ⊢
 split at h
 ·rename_i b hb
  split at h
  ·rename_i hc
   cases h
   rw [if_pos hc]
   exact ⟨rfl, pfind_lt hb, hc⟩
  ·cases h
 ·cases h
theorem pbegin_head {s id c now : Int} (h1 : 0 ≤ id) (h2 : id ≤ 255) (h3 : 2 ≤ c) (h4 : c ≤ 16) : Head (pbegin s id c now) := by
 refine ⟨h1, h2, h3, h4, ?_, ?_, ?_, ?_⟩ <;> simp only [pbegin, tick, clamp, maxTick, List.length_replicate] <;> omega
theorem pbegin_all {s i c now : Int} (h3 : 2 ≤ c) : (pbegin s i c now).hv.all id = false := by
 obtain ⟨k, hk⟩ : ∃ k, c.toNat = k + 1 := ⟨c.toNat - 1, by omega⟩
 simp [pbegin, hk, List.replicate_succ]
theorem proom_len {l : List Pt} (h : l.length ≤ 8) : (proom l).length ≤ 7 := by
 unfold proom
 split
 ·rw [List.length_eraseIdx_of_lt (by omega)]; omega
 ·omega
theorem pnew_spec {l : List Pt} {s id c now : Int} (hf : Fresh l) (hl : l.length ≤ 8) (h1 : 0 ≤ id) (h2 : id ≤ 255) (h3 : 2 ≤ c) (h4 : c ≤ 16) :
  Fresh (pnew (pdrop l s id c) s id c now).1 ∧ (pnew (pdrop l s id c) s id c now).1.length ≤ 8 ∧ (pnew (pdrop l s id c) s id c now).2 < (pnew (pdrop l s id c) s id c now).1.length ∧ ((pnew (pdrop l s id c) s id c now).1.getD (pnew (pdrop l s id c) s id c now).2 pz).ct = c := by
 have hd := pdrop_fresh hf s id c
 have hdl := pdrop_len hl s id c
 cases h : (pdrop l s id c).2 with
 | some a =>
  obtain ⟨e1, e2, e3⟩ := pdrop_at h
  unfold pnew
  rw [h]
  simp only
  rw [e1]
  exact ⟨hf, hl, e2, e3⟩
 | none =>
  unfold pnew
  rw [h]
  simp only
  have hr := proom_len hdl
  refine ⟨fun p hp => ?_, by simp; omega, by simp, ?_⟩
  ·rcases List.mem_append.1 hp with hp | hp
   ·unfold proom at hp
    split at hp
    ·exact hd.erase 0 p hp
    ·exact hd p hp
   ·rw [List.mem_singleton] at hp
    subst hp
    exact ⟨pbegin_head h1 h2 h3 h4, pbegin_all h3⟩
  ·rw [List.getD_eq_getElem?_getD, List.getElem?_append_right (Nat.le_refl _)]
   simp [pbegin]
theorem pmark_hv {p : Pt} {i : Nat} {d : By} (h : p.hv.getD i false = true) : pmark p i d = p := by unfold pmark; rw [if_pos h]
theorem pchk_spec {x : By} (h : pchk x = 0) : 3 ≤ x.length ∧ 1 ≤ b8 x 2 ∧ b8 x 2 ≤ 16 ∧ 0 ≤ b8 x 1 ∧ b8 x 1 < b8 x 2 ∧ fits (b8 x 1) (b8 x 2) ((x.length : Int) - 3) = true ∧ 0 ≤ b8 x 0 ∧ b8 x 0 ≤ 255 := by
 unfold pchk at h
 split at h
 ·cases h
 ·rename_i h1
  split at h
  ·cases h
  ·rename_i h2
   have hb : ∀ i, 0 ≤ b8 x i ∧ b8 x i ≤ 255 := fun i => by unfold b8; have := (x.getD i 0).toNat_lt; omega
   have h3 : fits (b8 x 1) (b8 x 2) ((x.length : Int) - 3) = true := by
    cases hf : fits (b8 x 1) (b8 x 2) ((x.length : Int) - 3) with
    | true => rfl
    | false => exact absurd (.inr (.inr (.inr hf))) h2
   exact ⟨by omega, by omega, by omega, (hb 1).1, by omega, h3, (hb 0).1, (hb 0).2⟩
theorem child_asc {l : List Int} (h : Asc id l) (c : Int) : Asc id (child l c) ∧ ∀ x, x ∈ child l c ↔ x = c ∨ x ∈ l := by
 unfold child
 split
 ·rename_i hc
  exact ⟨h, fun x => ⟨.inr, fun hx => hx.elim (fun e => e ▸ hc) _root_.id⟩⟩
 ·rename_i hc
  obtain ⟨A, C, s⟩ := h.split c
  have e1 : l.takeWhile (fun x => decide (x < c)) = A := s.tw
  have e2 : l.dropWhile (fun x => decide (x < c)) = C := s.dw
  rw [e1, e2]
  have h' := h
  rw [s.eq] at h'
  rcases s.hi with ⟨_, h2⟩ | ⟨y, D, rfl, hy, _, _⟩
  ·refine ⟨Asc.ins h' s.lo h2 rfl, fun x => ?_⟩
   rw [s.eq]
   simp only [List.mem_append, List.mem_cons]
   constructor
   ·rintro (h | h | h)
    ·exact .inr (.inl h)
    ·exact .inl h
    ·exact .inr (.inr h)
   ·rintro (h | h | h)
    ·exact .inr (.inl h)
    ·exact .inl h
    ·exact .inr (.inr h)
  ·exact absurd (by rw [s.eq]; simp; right; left; exact hy.symm) hc
theorem childs_asc : ∀ {l acc : List Int}, Asc id acc → Asc id (l.foldl child acc) ∧ ∀ x, x ∈ l.foldl child acc ↔ x ∈ l ∨ x ∈ acc
 | [], acc, h => ⟨h, fun x => by simp⟩
 | c :: l, acc, h => by
  obtain ⟨h1, h2⟩ := child_asc h c
  obtain ⟨h3, h4⟩ := childs_asc (l := l) h1
  refine ⟨h3, fun x => ?_⟩
  rw [List.foldl_cons, h4, h2]
  simp only [List.mem_cons]
  constructor
  ·rintro (h | h | h)
   ·exact .inl (.inr h)
   ·exact .inl (.inl h)
   ·exact .inr h
  ·rintro ((h | h) | h)
   ·exact .inr (.inl h)
   ·exact .inl h
   ·exact .inr (.inr h)
theorem asc_ext : ∀ {l m : List Int}, Asc id l → Asc id m → (∀ x, x ∈ l ↔ x ∈ m) → l = m
 | [], [], _, _, _ => rfl
 | [], b :: m, _, _, h => by have := (h b).2 (List.mem_cons_self ..); cases this
 | a :: l, [], _, _, h => by have := (h a).1 (List.mem_cons_self ..); cases this
 | a :: l, b :: m, h1, h2, h => by
  obtain ⟨p1, p2⟩ := List.pairwise_cons.1 h1
  obtain ⟨q1, q2⟩ := List.pairwise_cons.1 h2
  have hab : a = b := by
   rcases List.mem_cons.1 ((h a).1 (List.mem_cons_self ..)) with e | e
   ·exact e
   ·rcases List.mem_cons.1 ((h b).2 (List.mem_cons_self ..)) with e2 | e2
    ·exact e2.symm
    ·have := q1 a e; have := p1 b e2; simp only [_root_.id] at *; omega
  subst hab
  congr 1
  refine asc_ext p2 q2 fun x => ?_
  constructor
  ·intro hx
   rcases List.mem_cons.1 ((h x).1 (List.mem_cons_of_mem _ hx)) with e | e
   ·have := p1 x hx; simp only [_root_.id] at *; omega
   ·exact e
  ·intro hx
   rcases List.mem_cons.1 ((h x).2 (List.mem_cons_of_mem _ hx)) with e | e
   ·have := q1 x hx; simp only [_root_.id] at *; omega
   ·exact e
theorem kids_asc (a : Int) (l : List Int) : Asc id (kids a l) ∧ ∀ x, x ∈ kids a l ↔ x ∈ l ∧ okN x = true ∧ x ≠ a := by
 obtain ⟨h1, h2⟩ := childs_asc (l := l.filter fun c => okN c && !(c == a)) (acc := []) List.Pairwise.nil
 refine ⟨h1, fun x => ?_⟩
 show x ∈ (l.filter fun c => okN c && !(c == a)).foldl child [] ↔ _
 rw [h2]
 simp [List.mem_filter]
theorem Asc.nodup {l : List Int} (h : Asc id l) : l.Nodup := h.imp fun {a b} hab => by simp only [_root_.id] at hab; omega
theorem asc_bound {l : List Int} (h : Asc id l) (hb : ∀ x ∈ l, okN x = true) : l.length ≤ 251 := by
 have key : ∀ (l : List Int) (lo : Int), Asc id l → (∀ x ∈ l, lo ≤ x ∧ x ≤ 250) → (l.length : Int) ≤ max 0 (251 - lo) := by
  intro l
  induction l with
  | nil => intro lo _ _; simp; omega
  | cons a l ih =>
   intro lo h hb
   obtain ⟨p1, p2⟩ := List.pairwise_cons.1 h
   have h1 := hb a (List.mem_cons_self ..)
   have := ih (a + 1) p2 fun x hx => by have := p1 x hx; have := hb x (List.mem_cons_of_mem _ hx); simp only [_root_.id] at *; omega
   simp only [List.length_cons]; omega
 have := key l 0 h fun x hx => by have := hb x hx; simp only [okN, Bool.and_eq_true, decide_eq_true_eq] at this; omega
 omega
theorem qput_len {α : Type} {dr ur : α → Bool} {q : List α} {x : α} : (qput dr ur q x).1.length ≤ 16 := by
 have h16 : (q.take 16).length ≤ 16 := by simp; omega
 have hins : ∀ (l : List α), (ins ur l x).length = l.length + 1 := fun l => by
  have := congrArg List.length (List.takeWhile_append_dropWhile (p := ur) (l := l))
  simp only [List.length_append] at this
  simp only [ins, List.length_append, List.length_cons]; omega
 unfold qput
 split
 ·split
  ·exact h16
  ·simp only [List.length_append, List.length_singleton]; omega
 ·split
  ·rename_i h
   split
   ·exact h16
   ·rename_i i hi
    obtain ⟨a, ha, _⟩ := lastIdx_some hi
    have hlt := (List.getElem?_eq_some_iff.1 ha).1
    rw [hins, List.length_eraseIdx_of_lt hlt]; omega
  ·rw [hins]; omega
end Nd
namespace Nd
open Go Go.GX
abbrev frC (f : Fr) : List Value := [.int .i64 f.kd, .int .i64 f.fr, .int .i64 f.dst, .int .i64 f.so, .int .i64 f.ta, .int .i64 f.sq, .int .i64 f.hp, .bool f.ur, str f.da]
abbrev roC (r : Ro) : List Value := [.int .i64 r.dest, .int .i64 r.sq, .int .i64 r.cost, .int .i64 r.nx]
abbrev liC (x : Li) : List Value := [.int .i64 x.nd, .int .i64 x.bi, .int .i64 x.ct]
abbrev snC (s : Sn) : List Value := [.int .i64 s.f.kd, .int .i64 s.f.fr, .int .i64 s.f.dst, .int .i64 s.f.so, .int .i64 s.f.ta, .int .i64 s.f.sq, .int .i64 s.f.hp, .bool s.f.ur, str s.f.da, .int .i64 s.tr, .int .i64 s.wt]
abbrev maC (m : Ma) : List Value := [.int .i64 m.f.kd, .int .i64 m.f.fr, .int .i64 m.f.dst, .int .i64 m.f.so, .int .i64 m.f.ta, .int .i64 m.f.sq, .int .i64 m.f.hp, .bool m.f.ur, str m.f.da, .int .i64 m.si]
abbrev prC (p : Pr) : List Value := [.int .i64 p.so, .int .i64 p.sq]
abbrev deC (d : De) : List Value := [.int .i64 d.so, str d.te]
abbrev bC (b : Bool) : List Value := [.bool b]
abbrev sC (s : By) : List Value := [str s]
structure PtV where
 vh : Value
 vd : Value
 pt : Pt
abbrev ptC (p : PtV) : List Value := [.int .i64 p.pt.so, .int .i64 p.pt.id, .int .i64 p.pt.ct, .int .i64 p.pt.si, p.vh, p.vd]
theorem roC_len (a : Ro) : (roC a).length = 4 := rfl
theorem liC_len (a : Li) : (liC a).length = 3 := rfl
theorem snC_len (a : Sn) : (snC a).length = 11 := rfl
theorem maC_len (a : Ma) : (maC a).length = 10 := rfl
theorem prC_len (a : Pr) : (prC a).length = 2 := rfl
theorem deC_len (a : De) : (deC a).length = 2 := rfl
theorem bC_len (a : Bool) : (bC a).length = 1 := rfl
theorem sC_len (a : By) : (sC a).length = 1 := rfl
theorem ptC_len (a : PtV) : (ptC a).length = 6 := rfl
theorem roC_one (a : Ro) : allOne (roC a) = true := rfl
theorem liC_one (a : Li) : allOne (liC a) = true := rfl
theorem snC_one (a : Sn) : allOne (snC a) = true := rfl
theorem maC_one (a : Ma) : allOne (maC a) = true := rfl
theorem prC_one (a : Pr) : allOne (prC a) = true := rfl
theorem deC_one (a : De) : allOne (deC a) = true := rfl
theorem bC_one (a : Bool) : allOne (bC a) = true := rfl
theorem sC_one (a : By) : allOne (sC a) = true := rfl
section
variable {α : Type} {E : α → List Value} {sz : Nat}
theorem cells_get (hE : ∀ a, (E a).length = sz) {l : List α} {j : Nat} {a : α} (ha : l[j]? = some a) {i : Nat} {u : Value} (hu : (E a)[i]? = some u) : (cellsOf E l)[j * sz + i]? = some u := cellsOf_get hE ha i u hu
theorem cells_set (hE : ∀ a, (E a).length = sz) {l : List α} {j : Nat} {a b : α} (ha : l[j]? = some a) {i : Nat} {us : List Value} (hb : (E a).take i ++ us ++ (E a).drop (i + us.length) = E b) (hi : i + us.length ≤ sz) :
  (cellsOf E l).take (j * sz + i) ++ us ++ (cellsOf E l).drop (j * sz + i + us.length) = cellsOf E (l.set j b) := by
 obtain ⟨hj, rfl⟩ := List.getElem?_eq_some_iff.1 ha
 have e : l = l.take j ++ l[j] :: l.drop (j + 1) := by rw [List.getElem_cons_drop, List.take_append_drop]
 have hl : (l.take j).length = j := by simp; omega
 have e2 : l.set j b = l.take j ++ b :: l.drop (j + 1) := by
  conv => lhs; rw [e]
  exact Nd.set_mid hl
 have hc : cellsOf E l = cellsOf E (l.take j) ++ (E l[j] ++ cellsOf E (l.drop (j + 1))) := by
  conv => lhs; rw [e]
  rw [cellsOf_app]; rfl
 have hcl : (cellsOf E (l.take j)).length = j * sz := by rw [cellsOf_len hE, hl]
 rw [hc, e2, cellsOf_app]
 have h1 : (cellsOf E (l.take j) ++ (E l[j] ++ cellsOf E (l.drop (j + 1)))).take (j * sz + i) = cellsOf E (l.take j) ++ (E l[j]).take i := by
  rw [List.take_append, List.take_of_length_le (by omega), hcl, Nat.add_sub_cancel_left, List.take_append_of_le_length (by rw [hE]; omega)]
 have h2 : (cellsOf E (l.take j) ++ (E l[j] ++ cellsOf E (l.drop (j + 1)))).drop (j * sz + i + us.length) = (E l[j]).drop (i + us.length) ++ cellsOf E (l.drop (j + 1)) := by
  rw [List.drop_append, List.drop_eq_nil_of_le (by omega), hcl, List.nil_append, show j * sz + i + us.length - j * sz = i + us.length by omega, List.drop_append_of_le_length (by rw [hE]; exact hi)]
 rw [h1, h2]
 have : cellsOf E (b :: l.drop (j + 1)) = E b ++ cellsOf E (l.drop (j + 1)) := rfl
 rw [this, ← hb]
 simp [List.append_assoc]
theorem cells_set1 (hE : ∀ a, (E a).length = sz) {l : List α} {j : Nat} {a b : α} (ha : l[j]? = some a) {i : Nat} {u : Value} (hb : (E a).set i u = E b) (hi : i < sz) : (cellsOf E l).set (j * sz + i) u = cellsOf E (l.set j b) := by
 have hjl : j * sz + i < (cellsOf E l).length := by
  have hj := (List.getElem?_eq_some_iff.1 ha).1
  rw [cellsOf_len hE]
  have : (j + 1) * sz ≤ l.length * sz := Nat.mul_le_mul_right _ hj
  rw [Nat.add_mul] at this; omega
 have key := cells_set hE ha (i := i) (us := [u]) (b := b) (by
  rw [← hb, List.set_eq_take_append_cons_drop, if_pos (by rw [hE]; exact hi)]; simp) (by simp; omega)
 rw [← key, List.set_eq_take_append_cons_drop, if_pos hjl]; simp
end
end Nd
namespace Go.GX
structure Hold (R : Prop) : Prop where
 h : R
theorem zh {R G : Prop} (k : R) (t : Hold R → G := by (intro k; (first | (refine HL.isOp ?_; first | refine HL.ev I I ?_ | refine HL.evc I I (by first | omega | (simp; done) | (simp; omega)) ?_ | (refine HL.isLoad ?_; first | refine HL.L 0 I I I I ?_ | refine HL.L 1 I I I I ?_ | refine HL.L 2 I I I I ?_ | refine HL.L 3 I I I I ?_ | refine HL.L 4 I I I I ?_ | refine HL.L 5 I I I I ?_ | refine HL.L 6 I I I I ?_) | (refine HL.isStore ?_; first | refine HL.S 0 I I I I I ?_ | refine HL.S 1 I I I I I ?_ | refine HL.S 2 I I I I I ?_ | refine HL.S 3 I I I I I ?_ | refine HL.S 4 I I I I I ?_ | refine HL.S 5 I I I I I ?_ | refine HL.S 6 I I I I I ?_) | refine HL.build I I ?_ | refine HL.field I I ?_ | (refine HL.box I I ?_; exact k.1) | (refine HL.alloc I I ?_; exact k.1) | refine HL.skip I I ?_ | refine HL.skip0 I ?_) | refine HL.nil ?_ | refine HR.ctl I ?_ | refine HR.region ?_ | refine HR.condT I ?_ | refine HR.condF I ?_ | fail); (repeat' (first | (refine HL.isOp ?_; first | refine HL.ev I I ?_ | refine HL.evc I I (by first | omega | (simp; done) | (simp; omega)) ?_ | (refine HL.isLoad ?_; first | refine HL.L 0 I I I I ?_ | refine HL.L 1 I I I I ?_ | refine HL.L 2 I I I I ?_ | refine HL.L 3 I I I I ?_ | refine HL.L 4 I I I I ?_ | refine HL.L 5 I I I I ?_ | refine HL.L 6 I I I I ?_) | (refine HL.isStore ?_; first | refine HL.S 0 I I I I I ?_ | refine HL.S 1 I I I I I ?_ | refine HL.S 2 I I I I I ?_ | refine HL.S 3 I I I I I ?_ | refine HL.S 4 I I I I I ?_ | refine HL.S 5 I I I I I ?_ | refine HL.S 6 I I I I I ?_) | refine HL.build I I ?_ | refine HL.field I I ?_ | (refine HL.box I I ?_; exact k.1) | (refine HL.alloc I I ?_; exact k.1) | refine HL.skip I I ?_ | refine HL.skip0 I ?_) | refine HL.nil ?_ | refine HR.ctl I ?_ | refine HR.region ?_ | refine HR.condT I ?_ | refine HR.condF I ?_ | exact k.1)))) : G := t ⟨k⟩
theorem zn {R G : Prop} (k : R) (t : Hold R → G := by (intro k; (first | (refine HL.isOp ?_; first | refine HL.ev I I ?_ | refine HL.evc I I (by first | omega | (simp; done) | (simp; omega)) ?_ | (refine HL.isLoad ?_; first | refine HL.L 0 I I I I ?_ | refine HL.L 1 I I I I ?_ | refine HL.L 2 I I I I ?_ | refine HL.L 3 I I I I ?_ | refine HL.L 4 I I I I ?_ | refine HL.L 5 I I I I ?_ | refine HL.L 6 I I I I ?_) | (refine HL.isStore ?_; first | refine HL.S 0 I I I I I ?_ | refine HL.S 1 I I I I I ?_ | refine HL.S 2 I I I I I ?_ | refine HL.S 3 I I I I I ?_ | refine HL.S 4 I I I I I ?_ | refine HL.S 5 I I I I I ?_ | refine HL.S 6 I I I I I ?_) | refine HL.build I I ?_ | refine HL.field I I ?_ | (refine HL.box I I ?_; exact k.1) | (refine HL.alloc I I ?_; exact k.1) | refine HL.skip I I ?_ | refine HL.skip0 I ?_) | refine HL.nil ?_ | fail); (repeat' (first | (refine HL.isOp ?_; first | refine HL.ev I I ?_ | refine HL.evc I I (by first | omega | (simp; done) | (simp; omega)) ?_ | (refine HL.isLoad ?_; first | refine HL.L 0 I I I I ?_ | refine HL.L 1 I I I I ?_ | refine HL.L 2 I I I I ?_ | refine HL.L 3 I I I I ?_ | refine HL.L 4 I I I I ?_ | refine HL.L 5 I I I I ?_ | refine HL.L 6 I I I I ?_) | (refine HL.isStore ?_; first | refine HL.S 0 I I I I I ?_ | refine HL.S 1 I I I I I ?_ | refine HL.S 2 I I I I I ?_ | refine HL.S 3 I I I I I ?_ | refine HL.S 4 I I I I I ?_ | refine HL.S 5 I I I I I ?_ | refine HL.S 6 I I I I I ?_) | refine HL.build I I ?_ | refine HL.field I I ?_ | (refine HL.box I I ?_; exact k.1) | (refine HL.alloc I I ?_; exact k.1) | refine HL.skip I I ?_ | refine HL.skip0 I ?_) | refine HL.nil ?_ | exact k.1)))) : G := t ⟨k⟩
theorem zq {R G : Prop} (k : R) (t : Hold R → G := by (intro k; (first | (refine HQ.isOp ?_; first | refine RunQ.ev I I ?_ | refine RunQ.evc I I (by first | omega | (simp; done) | (simp; omega)) ?_ | (refine HQ.isLoad ?_; first | refine HQ.L 0 I I I I ?_ | refine HQ.L 1 I I I I ?_ | refine HQ.L 2 I I I I ?_ | refine HQ.L 3 I I I I ?_ | refine HQ.L 4 I I I I ?_ | refine HQ.L 5 I I I I ?_ | refine HQ.L 6 I I I I ?_) | refine RunQ.build I I ?_ | refine RunQ.field I I ?_ | refine RunQ.skip I I ?_) | refine HQ.nil ?_ | fail); (repeat' (first | (refine HQ.isOp ?_; first | refine RunQ.ev I I ?_ | refine RunQ.evc I I (by first | omega | (simp; done) | (simp; omega)) ?_ | (refine HQ.isLoad ?_; first | refine HQ.L 0 I I I I ?_ | refine HQ.L 1 I I I I ?_ | refine HQ.L 2 I I I I ?_ | refine HQ.L 3 I I I I ?_ | refine HQ.L 4 I I I I ?_ | refine HQ.L 5 I I I I ?_ | refine HQ.L 6 I I I I ?_) | refine RunQ.build I I ?_ | refine RunQ.field I I ?_ | refine RunQ.skip I I ?_) | refine HQ.nil ?_ | exact k.1)))) : G := t ⟨k⟩
theorem zd {R G : Prop} (k : R) (t : Hold R → G := by (intro k; (first | refine HD.ev I I I ?_ | refine HD.evc I I I (by first | omega | (simp; done) | (simp; omega)) ?_ | refine HD.L 0 I I I I I ?_ | refine HD.L 1 I I I I I ?_ | refine HD.L 2 I I I I I ?_ | refine HD.L 3 I I I I I ?_ | refine HD.L 4 I I I I I ?_ | refine HD.L 5 I I I I I ?_ | refine HD.L 6 I I I I I ?_ | refine HD.build I I I ?_ | refine HD.skip I I I ?_ | refine HD.skipO I I I ?_ | fail); (repeat' (first | refine HD.ev I I I ?_ | refine HD.evc I I I (by first | omega | (simp; done) | (simp; omega)) ?_ | refine HD.L 0 I I I I I ?_ | refine HD.L 1 I I I I I ?_ | refine HD.L 2 I I I I I ?_ | refine HD.L 3 I I I I I ?_ | refine HD.L 4 I I I I I ?_ | refine HD.L 5 I I I I I ?_ | refine HD.L 6 I I I I I ?_ | refine HD.build I I I ?_ | refine HD.skip I I I ?_ | refine HD.skipO I I I ?_ | exact k.1)))) : G := t ⟨k⟩
end Go.GX
namespace Go.GX
structure Hold2 (e : Bool) (R S : Prop) : Prop where
 a : R
 b : S
structure HoldJ (j : Nat) (R : Prop) : Prop where
 h : R
section
variable {P : Program} {N : Nat} {ops : List Oper} {l : List Oper} {o : Oper} {σ : Store} {B : Base} {H : List Chunk} {K : Act → World → Prop} {C : World → Prop} {KQ : Act → Prop} {tj te n dp : Nat} {b e : Bool} {rest : List Oper} {ty : TypeId} {pos : String} {af : Array Edge} {gd : Option (Nat × Bool)}
theorem zandL
  (hg : gslot ops o = some (tj, true)) (hl : look σ tj = some (.bool b)) (hn : cutPick tj (o :: l) = some n)
  (hd : (o :: l).drop n = ⟨some dp, .pick (.tmp tj) (.tmp te) (.const (.bool false)), ty, pos, af, gd⟩ :: rest)
  (hgd : wantedS ops gd σ = some true) (hte : look σ te = none) (hok : blkOk N ops tj true n σ (o :: l) = true) (hdp : dstOk N (some dp) = true)
  (k : Hold2 e (b = true → HL P N ops ((o :: l).take n) ((tj, .bool true) :: σ) B H (fun a' w' => Sat B H w' ∧ Agr N ((te, .bool e) :: (tj, .bool true) :: σ) a')) (HL P N ops rest ((dp, .bool (b && e)) :: σ) B H K)) : HL P N ops (o :: l) σ B H K :=
 HL.andB hg hl hn hd hgd hte hok hdp k.a k.b
theorem zorL
  (hg : gslot ops o = some (tj, false)) (hl : look σ tj = some (.bool b)) (hn : cutPick tj (o :: l) = some n)
  (hd : (o :: l).drop n = ⟨some dp, .pick (.tmp tj) (.const (.bool true)) (.tmp te), ty, pos, af, gd⟩ :: rest)
  (hgd : wantedS ops gd σ = some true) (hte : look σ te = none) (hok : blkOk N ops tj false n σ (o :: l) = true) (hdp : dstOk N (some dp) = true)
  (k : Hold2 e (b = false → HL P N ops ((o :: l).take n) ((tj, .bool false) :: σ) B H (fun a' w' => Sat B H w' ∧ Agr N ((te, .bool e) :: (tj, .bool false) :: σ) a')) (HL P N ops rest ((dp, .bool (b || e)) :: σ) B H K)) : HL P N ops (o :: l) σ B H K :=
 HL.orB hg hl hn hd hgd hte hok hdp k.a k.b
theorem zandQ
  (hg : gslot ops o = some (tj, true)) (hl : look σ tj = some (.bool b)) (hn : cutPick tj (o :: l) = some n)
  (hd : (o :: l).drop n = ⟨some dp, .pick (.tmp tj) (.tmp te) (.const (.bool false)), ty, pos, af, gd⟩ :: rest)
  (hgd : wantedS ops gd σ = some true) (hte : look σ te = none) (hok : blkOk N ops tj true n σ (o :: l) = true) (hdp : dstOk N (some dp) = true)
  (k : Hold2 e (b = true → RunQ P N C ops ((o :: l).take n) ((tj, .bool true) :: σ) (fun a' => Agr N ((te, .bool e) :: (tj, .bool true) :: σ) a')) (RunQ P N C ops rest ((dp, .bool (b && e)) :: σ) KQ)) : RunQ P N C ops (o :: l) σ KQ :=
 RunQ.andB hg hl hn hd hgd hte hok hdp k.a k.b
theorem zorQ
  (hg : gslot ops o = some (tj, false)) (hl : look σ tj = some (.bool b)) (hn : cutPick tj (o :: l) = some n)
  (hd : (o :: l).drop n = ⟨some dp, .pick (.tmp tj) (.const (.bool true)) (.tmp te), ty, pos, af, gd⟩ :: rest)
  (hgd : wantedS ops gd σ = some true) (hte : look σ te = none) (hok : blkOk N ops tj false n σ (o :: l) = true) (hdp : dstOk N (some dp) = true)
  (k : Hold2 e (b = false → RunQ P N C ops ((o :: l).take n) ((tj, .bool false) :: σ) (fun a' => Agr N ((te, .bool e) :: (tj, .bool false) :: σ) a')) (RunQ P N C ops rest ((dp, .bool (b || e)) :: σ) KQ)) : RunQ P N C ops (o :: l) σ KQ :=
 RunQ.orB hg hl hn hd hgd hte hok hdp k.a k.b
theorem zb {e : Bool} {R S G : Prop} (k : R) (l : S) (t : Hold2 e R S → G := by (intro k; first | exact zandL I I I I I I I I k | exact zorL I I I I I I I I k | exact zandQ I I I I I I I I k | exact zorQ I I I I I I I I k)) : G := t ⟨k, l⟩
theorem zc {G : Prop} (t : True → G := by (intro _; first | exact HL.blkEnd I I Ent.refl | exact RunQ.blkEnd I I)) : G := t trivial
theorem zi {b c : Bool} {Q : Prop} (h : b = c → Q) : b = c → Q := h
end
section
variable {P : Program} {N d n i : Nat} {ops : List Oper} {L : Array Bool} {σ : Store} {B : Base} {H F : List Chunk} {K : Act → World → Prop} {ty : TypeId} {pos : String} {af : Array Edge} {gd : Option (Nat × Bool)} {op : Op} {v u : Value}
theorem zaE (hf : ((Region.noSelect ops.toArray && Region.free .any ops.toArray L i) && (Region.ready .any ops.toArray L).contains i) = true) (ho : ops[i]? = some ⟨some d, op, ty, pos, af, gd⟩) (hs : stat N ops ⟨some d, op, ty, pos, af, gd⟩ σ = true) (he : evOp P σ op = some v)
  (k : HoldJ i (HA P N ops n (L.setIfInBounds i true) ((d, v) :: σ) B H F K)) : HA P N ops (n + 1) L σ B H F K := HA.ev i hf ho hs he k.h
theorem zaC {c : Prop} (hf : ((Region.noSelect ops.toArray && Region.free .any ops.toArray L i) && (Region.ready .any ops.toArray L).contains i) = true) (ho : ops[i]? = some ⟨some d, op, ty, pos, af, gd⟩) (hs : stat N ops ⟨some d, op, ty, pos, af, gd⟩ σ = true) (he : evC P σ op = some (v, c)) (hc : c)
  (k : HoldJ i (HA P N ops n (L.setIfInBounds i true) ((d, v) :: σ) B H F K)) : HA P N ops (n + 1) L σ B H F K := HA.evc i hf ho hs he hc k.h
theorem zaB {t : TypeId} {td : TypeDesc} {x : Operand} {b j : Nat} {T : TypeId} {cs : List Value} (c : Nat) (hf : ((Region.noSelect ops.toArray && Region.free .any ops.toArray L i) && (Region.ready .any ops.toArray L).contains i) = true) (ho : ops[i]? = some ⟨some d, .load t x, ty, pos, af, gd⟩) (hx : lookO σ x = some (.pointer (some ⟨b, j, none⟩))) (hi : nthC F c = some (blkC b cs T)) (hs : stat N ops ⟨some d, .load t x, ty, pos, af, gd⟩ σ = true) (hT : P.underlying t = some td) (hp : plainT td = true) (hu : nthV cs j = some u)
  (k : HoldJ i (HA P N ops n (L.setIfInBounds i true) ((d, u) :: σ) B H F K)) : HA P N ops (n + 1) L σ B H F K := HA.loadB i c hf ho hx hi hs hT hp hu k.h
theorem zaR {t : TypeId} {td : TypeDesc} {x : Operand} {b o m : Nat} {T : TypeId} {cs us : List Value} (c : Nat) (hf : ((Region.noSelect ops.toArray && Region.free .any ops.toArray L i) && (Region.ready .any ops.toArray L).contains i) = true) (ho : ops[i]? = some ⟨some d, .load t x, ty, pos, af, gd⟩) (hx : lookO σ x = some (.pointer (some ⟨b, o, none⟩))) (hi : nthC F c = some (blkC b cs T)) (hs : stat N ops ⟨some d, .load t x, ty, pos, af, gd⟩ σ = true) (hT : P.underlying t = some td) (hr : td.isRow = true) (hm : (P.info? t).map (·.size) = some m) (hu : rngV cs o m = some us)
  (k : HoldJ i (HA P N ops n (L.setIfInBounds i true) ((d, .agg ⟨us⟩) :: σ) B H F K)) : HA P N ops (n + 1) L σ B H F K := HA.loadR i c hf ho hx hi hs hT hr hm hu k.h
theorem zaU {t : TypeId} {ps : List (Nat × Operand)} {us : List Value} (hf : ((Region.noSelect ops.toArray && Region.free .any ops.toArray L i) && (Region.ready .any ops.toArray L).contains i) = true) (ho : ops[i]? = some ⟨some d, .build t ps.toArray, ty, pos, af, gd⟩) (hs : stat N ops ⟨some d, .build t ps.toArray, ty, pos, af, gd⟩ σ = true) (hb : buildE P σ t ps = some us)
  (k : HoldJ i (HA P N ops n (L.setIfInBounds i true) ((d, .agg ⟨us⟩) :: σ) B H F K)) : HA P N ops (n + 1) L σ B H F K := HA.build i hf ho hs hb k.h
theorem za {R G : Prop} (j : Nat) (k : R) (t : HoldJ j R → G := by (intro k; first | exact zaE (by kernel_rfl) I I I k | exact zaC (by kernel_rfl) I I I (by first | omega | (simp; done) | (simp; omega)) k | exact zaB 0 (by kernel_rfl) I I I I I I I k | exact zaB 1 (by kernel_rfl) I I I I I I I k | exact zaB 2 (by kernel_rfl) I I I I I I I k | exact zaB 3 (by kernel_rfl) I I I I I I I k | exact zaB 4 (by kernel_rfl) I I I I I I I k | exact zaB 5 (by kernel_rfl) I I I I I I I k | exact zaB 6 (by kernel_rfl) I I I I I I I k | exact zaR 0 (by kernel_rfl) I I I I I I I I k | exact zaR 1 (by kernel_rfl) I I I I I I I I k | exact zaR 2 (by kernel_rfl) I I I I I I I I k | exact zaR 3 (by kernel_rfl) I I I I I I I I k | exact zaR 4 (by kernel_rfl) I I I I I I I I k | exact zaR 5 (by kernel_rfl) I I I I I I I I k | exact zaR 6 (by kernel_rfl) I I I I I I I I k | exact zaU (by kernel_rfl) I I I k)) : G := t ⟨k⟩
end
end Go.GX
namespace Go.Proofs.YtgfdoognildoeaaGreat
open Go.GX Go.RowKit
attribute [local irreducible] Calls Run RunL RunQ RunD HR HL HD blkC ownC mapC Rd slicesC iterC
open Nd
theorem fn61 : IsFn Tryz.prog 61 := ⟨⟨_, _, Tryz.func61, rfl, by decide⟩⟩
theorem fn131 : IsFn Tryz.prog 131 := ⟨⟨_, _, Tryz.func131, rfl, by decide⟩⟩
theorem fn133 : IsFn Tryz.prog 133 := ⟨⟨_, _, Tryz.func133, rfl, by decide⟩⟩
theorem fn134 : IsFn Tryz.prog 134 := ⟨⟨_, _, Tryz.func134, rfl, by decide⟩⟩
theorem fn137 : IsFn Tryz.prog 137 := ⟨⟨_, _, Tryz.func137, rfl, by decide⟩⟩
theorem fn59 : IsFn Tryz.prog 59 := ⟨⟨_, _, Tryz.func59, rfl, by decide⟩⟩
theorem fn138 : IsFn Tryz.prog 138 := ⟨⟨_, _, Tryz.func138, rfl, by decide⟩⟩
theorem fn139 : IsFn Tryz.prog 139 := ⟨⟨_, _, Tryz.func139, rfl, by decide⟩⟩
theorem hmix : Tryz.prog.follows .mixedOrders = true := by kernel_rfl
theorem elemI : Elem Tryz.prog 22 3 1 8 := ⟨rfl, ⟨_, _, rfl, rfl, rfl, rfl, rfl⟩, by decide⟩
theorem elemRo : Elem Tryz.prog 55 94 4 32 := ⟨rfl, ⟨_, _, rfl, rfl, rfl, rfl, rfl⟩, by decide⟩
theorem elemLi : Elem Tryz.prog 56 162 3 24 := ⟨rfl, ⟨_, _, rfl, rfl, rfl, rfl, rfl⟩, by decide⟩
theorem elemSn : Elem Tryz.prog 57 131 11 96 := ⟨rfl, ⟨_, _, rfl, rfl, rfl, rfl, rfl⟩, by decide⟩
theorem elemMa : Elem Tryz.prog 58 166 10 88 := ⟨rfl, ⟨_, _, rfl, rfl, rfl, rfl, rfl⟩, by decide⟩
theorem elemPr : Elem Tryz.prog 59 171 2 16 := ⟨rfl, ⟨_, _, rfl, rfl, rfl, rfl, rfl⟩, by decide⟩
theorem elemDe : Elem Tryz.prog 46 65 2 24 := ⟨rfl, ⟨_, _, rfl, rfl, rfl, rfl, rfl⟩, by decide⟩
theorem elemB : Elem Tryz.prog 81 4 1 1 := ⟨rfl, ⟨_, _, rfl, rfl, rfl, rfl, rfl⟩, by decide⟩
theorem elemS : Elem Tryz.prog 152 9 1 16 := ⟨rfl, ⟨_, _, rfl, rfl, rfl, rfl, rfl⟩, by decide⟩
theorem elemPt : Elem Tryz.prog 60 173 6 80 := ⟨rfl, ⟨_, _, rfl, rfl, rfl, rfl, rfl⟩, by decide⟩
theorem cloneRo_any (l : List Ro) (v : Value) (w : World) (hv : Sl w v (cellsOf roC l) l.length) (hl : l.length ≤ 1000) :
  Calls Tryz.prog 61 #[v] w fun e w' => ∃ v', e = .returned v' ∧ Sat (base w) [ownC v' 94 4 l.length (cellsOf roC l)] w' := by
 obtain ⟨a, c, rfl, _⟩ := hv.2
 refine calls_hr Tryz.func61 I (Nat.le_of_ble_eq_true I) ?_
 refine HR.sub (σ' := [(0, .slice a l.length c)]) ⟨I, trivial⟩ ?_
 repeat' (first | refine zh ?_ | refine HL.eqNil I I I I ?_ | apply zb ?_ ?_ | exact zc | (refine zi fun hb => ?_; try simp at hb) | intro (bk : Nat))
 refine HR.cond I (fun h => ?_) (fun h => ?_)
 ·have ha : a = none := by simpa using h
  have hz : l = [] := by
   subst ha
   rcases hv.1 with ⟨_, h0, _⟩ | ⟨b, off, cap, he, _⟩
   ·exact List.eq_nil_of_length_eq_zero h0
   ·cases he
  subst hz
  repeat' (first | refine zh ?_ | apply zb ?_ ?_ | exact zc | (refine zi fun hb => ?_; try simp at hb) | intro (bk : Nat))
  refine HR.nilC 94 4 ?_
  refine HR.ret Tryz.func61 I [_] (fun _ _ => ⟨I, trivial⟩) ?_
  exact fun w' hw => ⟨.slice none 0 0, rfl, hw⟩
 ·repeat' (first | refine zh ?_ | refine HL.bslice0 elemRo I ?_ | apply zb ?_ ?_ | exact zc | (refine zi fun hb => ?_; try simp at hb) | intro (bk : Nat))
  intro v1
  repeat' (first | refine zh ?_ | refine HL.appR 0 I elemRo (Rd.arg hv) I I I (cellsOf_len roC_len _) (one_allcells roC_one _) (by omega) (by omega) ?_ | apply zb ?_ ?_ | exact zc | (refine zi fun hb => ?_; try simp at hb) | intro (bk : Nat))
  intro v2
  repeat' (first | refine zh ?_ | apply zb ?_ ?_ | exact zc | (refine zi fun hb => ?_; try simp at hb) | intro (bk : Nat))
  refine HR.ret Tryz.func61 I [_] (fun _ _ => ⟨I, trivial⟩) ?_
  exact fun w' hw => ⟨v2, rfl, Ent.own0 (Nat.zero_add _) (List.nil_append _) w' hw⟩
theorem cloneLi_any (l : List Li) (v : Value) (w : World) (hv : Sl w v (cellsOf liC l) l.length) (hl : l.length ≤ 1000) :
  Calls Tryz.prog 131 #[v] w fun e w' => ∃ v', e = .returned v' ∧ Sat (base w) [ownC v' 162 3 l.length (cellsOf liC l)] w' := by
 obtain ⟨a, c, rfl, _⟩ := hv.2
 refine calls_hr Tryz.func131 I (Nat.le_of_ble_eq_true I) ?_
 refine HR.sub (σ' := [(0, .slice a l.length c)]) ⟨I, trivial⟩ ?_
 repeat' (first | refine zh ?_ | refine HL.eqNil I I I I ?_ | apply zb ?_ ?_ | exact zc | (refine zi fun hb => ?_; try simp at hb) | intro (bk : Nat))
 refine HR.cond I (fun h => ?_) (fun h => ?_)
 ·have ha : a = none := by simpa using h
  have hz : l = [] := by
   subst ha
   rcases hv.1 with ⟨_, h0, _⟩ | ⟨b, off, cap, he, _⟩
   ·exact List.eq_nil_of_length_eq_zero h0
   ·cases he
  subst hz
  repeat' (first | refine zh ?_ | apply zb ?_ ?_ | exact zc | (refine zi fun hb => ?_; try simp at hb) | intro (bk : Nat))
  refine HR.nilC 162 3 ?_
  refine HR.ret Tryz.func131 I [_] (fun _ _ => ⟨I, trivial⟩) ?_
  exact fun w' hw => ⟨.slice none 0 0, rfl, hw⟩
 ·repeat' (first | refine zh ?_ | refine HL.bslice0 elemLi I ?_ | apply zb ?_ ?_ | exact zc | (refine zi fun hb => ?_; try simp at hb) | intro (bk : Nat))
  intro v1
  repeat' (first | refine zh ?_ | refine HL.appR 0 I elemLi (Rd.arg hv) I I I (cellsOf_len liC_len _) (one_allcells liC_one _) (by omega) (by omega) ?_ | apply zb ?_ ?_ | exact zc | (refine zi fun hb => ?_; try simp at hb) | intro (bk : Nat))
  intro v2
  repeat' (first | refine zh ?_ | apply zb ?_ ?_ | exact zc | (refine zi fun hb => ?_; try simp at hb) | intro (bk : Nat))
  refine HR.ret Tryz.func131 I [_] (fun _ _ => ⟨I, trivial⟩) ?_
  exact fun w' hw => ⟨v2, rfl, Ent.own0 (Nat.zero_add _) (List.nil_append _) w' hw⟩
theorem cloneSn_any (l : List Sn) (v : Value) (w : World) (hv : Sl w v (cellsOf snC l) l.length) (hl : l.length ≤ 1000) :
  Calls Tryz.prog 133 #[v] w fun e w' => ∃ v', e = .returned v' ∧ Sat (base w) [ownC v' 131 11 l.length (cellsOf snC l)] w' := by
 obtain ⟨a, c, rfl, _⟩ := hv.2
 refine calls_hr Tryz.func133 I (Nat.le_of_ble_eq_true I) ?_
 refine HR.sub (σ' := [(0, .slice a l.length c)]) ⟨I, trivial⟩ ?_
 repeat' (first | refine zh ?_ | refine HL.eqNil I I I I ?_ | apply zb ?_ ?_ | exact zc | (refine zi fun hb => ?_; try simp at hb) | intro (bk : Nat))
 refine HR.cond I (fun h => ?_) (fun h => ?_)
 ·have ha : a = none := by simpa using h
  have hz : l = [] := by
   subst ha
   rcases hv.1 with ⟨_, h0, _⟩ | ⟨b, off, cap, he, _⟩
   ·exact List.eq_nil_of_length_eq_zero h0
   ·cases he
  subst hz
  repeat' (first | refine zh ?_ | apply zb ?_ ?_ | exact zc | (refine zi fun hb => ?_; try simp at hb) | intro (bk : Nat))
  refine HR.nilC 131 11 ?_
  refine HR.ret Tryz.func133 I [_] (fun _ _ => ⟨I, trivial⟩) ?_
  exact fun w' hw => ⟨.slice none 0 0, rfl, hw⟩
 ·repeat' (first | refine zh ?_ | refine HL.bslice0 elemSn I ?_ | apply zb ?_ ?_ | exact zc | (refine zi fun hb => ?_; try simp at hb) | intro (bk : Nat))
  intro v1
  repeat' (first | refine zh ?_ | refine HL.appR 0 I elemSn (Rd.arg hv) I I I (cellsOf_len snC_len _) (one_allcells snC_one _) (by omega) (by omega) ?_ | apply zb ?_ ?_ | exact zc | (refine zi fun hb => ?_; try simp at hb) | intro (bk : Nat))
  intro v2
  repeat' (first | refine zh ?_ | apply zb ?_ ?_ | exact zc | (refine zi fun hb => ?_; try simp at hb) | intro (bk : Nat))
  refine HR.ret Tryz.func133 I [_] (fun _ _ => ⟨I, trivial⟩) ?_
  exact fun w' hw => ⟨v2, rfl, Ent.own0 (Nat.zero_add _) (List.nil_append _) w' hw⟩
theorem cloneMa_any (l : List Ma) (v : Value) (w : World) (hv : Sl w v (cellsOf maC l) l.length) (hl : l.length ≤ 1000) :
  Calls Tryz.prog 134 #[v] w fun e w' => ∃ v', e = .returned v' ∧ Sat (base w) [ownC v' 166 10 l.length (cellsOf maC l)] w' := by
 obtain ⟨a, c, rfl, _⟩ := hv.2
 refine calls_hr Tryz.func134 I (Nat.le_of_ble_eq_true I) ?_
 refine HR.sub (σ' := [(0, .slice a l.length c)]) ⟨I, trivial⟩ ?_
 repeat' (first | refine zh ?_ | refine HL.eqNil I I I I ?_ | apply zb ?_ ?_ | exact zc | (refine zi fun hb => ?_; try simp at hb) | intro (bk : Nat))
 refine HR.cond I (fun h => ?_) (fun h => ?_)
 ·have ha : a = none := by simpa using h
  have hz : l = [] := by
   subst ha
   rcases hv.1 with ⟨_, h0, _⟩ | ⟨b, off, cap, he, _⟩
   ·exact List.eq_nil_of_length_eq_zero h0
   ·cases he
  subst hz
  repeat' (first | refine zh ?_ | apply zb ?_ ?_ | exact zc | (refine zi fun hb => ?_; try simp at hb) | intro (bk : Nat))
  refine HR.nilC 166 10 ?_
  refine HR.ret Tryz.func134 I [_] (fun _ _ => ⟨I, trivial⟩) ?_
  exact fun w' hw => ⟨.slice none 0 0, rfl, hw⟩
 ·repeat' (first | refine zh ?_ | refine HL.bslice0 elemMa I ?_ | apply zb ?_ ?_ | exact zc | (refine zi fun hb => ?_; try simp at hb) | intro (bk : Nat))
  intro v1
  repeat' (first | refine zh ?_ | refine HL.appR 0 I elemMa (Rd.arg hv) I I I (cellsOf_len maC_len _) (one_allcells maC_one _) (by omega) (by omega) ?_ | apply zb ?_ ?_ | exact zc | (refine zi fun hb => ?_; try simp at hb) | intro (bk : Nat))
  intro v2
  repeat' (first | refine zh ?_ | apply zb ?_ ?_ | exact zc | (refine zi fun hb => ?_; try simp at hb) | intro (bk : Nat))
  refine HR.ret Tryz.func134 I [_] (fun _ _ => ⟨I, trivial⟩) ?_
  exact fun w' hw => ⟨v2, rfl, Ent.own0 (Nat.zero_add _) (List.nil_append _) w' hw⟩
theorem clonePr_any (l : List Pr) (v : Value) (w : World) (hv : Sl w v (cellsOf prC l) l.length) (hl : l.length ≤ 1000) :
  Calls Tryz.prog 137 #[v] w fun e w' => ∃ v', e = .returned v' ∧ Sat (base w) [ownC v' 171 2 l.length (cellsOf prC l)] w' := by
 obtain ⟨a, c, rfl, _⟩ := hv.2
 refine calls_hr Tryz.func137 I (Nat.le_of_ble_eq_true I) ?_
 refine HR.sub (σ' := [(0, .slice a l.length c)]) ⟨I, trivial⟩ ?_
 repeat' (first | refine zh ?_ | refine HL.eqNil I I I I ?_ | apply zb ?_ ?_ | exact zc | (refine zi fun hb => ?_; try simp at hb) | intro (bk : Nat))
 refine HR.cond I (fun h => ?_) (fun h => ?_)
 ·have ha : a = none := by simpa using h
  have hz : l = [] := by
   subst ha
   rcases hv.1 with ⟨_, h0, _⟩ | ⟨b, off, cap, he, _⟩
   ·exact List.eq_nil_of_length_eq_zero h0
   ·cases he
  subst hz
  repeat' (first | refine zh ?_ | apply zb ?_ ?_ | exact zc | (refine zi fun hb => ?_; try simp at hb) | intro (bk : Nat))
  refine HR.nilC 171 2 ?_
  refine HR.ret Tryz.func137 I [_] (fun _ _ => ⟨I, trivial⟩) ?_
  exact fun w' hw => ⟨.slice none 0 0, rfl, hw⟩
 ·repeat' (first | refine zh ?_ | refine HL.bslice0 elemPr I ?_ | apply zb ?_ ?_ | exact zc | (refine zi fun hb => ?_; try simp at hb) | intro (bk : Nat))
  intro v1
  repeat' (first | refine zh ?_ | refine HL.appR 0 I elemPr (Rd.arg hv) I I I (cellsOf_len prC_len _) (one_allcells prC_one _) (by omega) (by omega) ?_ | apply zb ?_ ?_ | exact zc | (refine zi fun hb => ?_; try simp at hb) | intro (bk : Nat))
  intro v2
  repeat' (first | refine zh ?_ | apply zb ?_ ?_ | exact zc | (refine zi fun hb => ?_; try simp at hb) | intro (bk : Nat))
  refine HR.ret Tryz.func137 I [_] (fun _ _ => ⟨I, trivial⟩) ?_
  exact fun w' hw => ⟨v2, rfl, Ent.own0 (Nat.zero_add _) (List.nil_append _) w' hw⟩
theorem cloneDe_any (l : List De) (v : Value) (w : World) (hv : Sl w v (cellsOf deC l) l.length) (hl : l.length ≤ 1000) :
  Calls Tryz.prog 59 #[v] w fun e w' => ∃ v', e = .returned v' ∧ Sat (base w) [ownC v' 65 2 l.length (cellsOf deC l)] w' := by
 obtain ⟨a, c, rfl, _⟩ := hv.2
 refine calls_hr Tryz.func59 I (Nat.le_of_ble_eq_true I) ?_
 refine HR.sub (σ' := [(0, .slice a l.length c)]) ⟨I, trivial⟩ ?_
 repeat' (first | refine zh ?_ | refine HL.eqNil I I I I ?_ | apply zb ?_ ?_ | exact zc | (refine zi fun hb => ?_; try simp at hb) | intro (bk : Nat))
 refine HR.cond I (fun h => ?_) (fun h => ?_)
 ·have ha : a = none := by simpa using h
  have hz : l = [] := by
   subst ha
   rcases hv.1 with ⟨_, h0, _⟩ | ⟨b, off, cap, he, _⟩
   ·exact List.eq_nil_of_length_eq_zero h0
   ·cases he
  subst hz
  repeat' (first | refine zh ?_ | apply zb ?_ ?_ | exact zc | (refine zi fun hb => ?_; try simp at hb) | intro (bk : Nat))
  refine HR.nilC 65 2 ?_
  refine HR.ret Tryz.func59 I [_] (fun _ _ => ⟨I, trivial⟩) ?_
  exact fun w' hw => ⟨.slice none 0 0, rfl, hw⟩
 ·repeat' (first | refine zh ?_ | refine HL.bslice0 elemDe I ?_ | apply zb ?_ ?_ | exact zc | (refine zi fun hb => ?_; try simp at hb) | intro (bk : Nat))
  intro v1
  repeat' (first | refine zh ?_ | refine HL.appR 0 I elemDe (Rd.arg hv) I I I (cellsOf_len deC_len _) (one_allcells deC_one _) (by omega) (by omega) ?_ | apply zb ?_ ?_ | exact zc | (refine zi fun hb => ?_; try simp at hb) | intro (bk : Nat))
  intro v2
  repeat' (first | refine zh ?_ | apply zb ?_ ?_ | exact zc | (refine zi fun hb => ?_; try simp at hb) | intro (bk : Nat))
  refine HR.ret Tryz.func59 I [_] (fun _ _ => ⟨I, trivial⟩) ?_
  exact fun w' hw => ⟨v2, rfl, Ent.own0 (Nat.zero_add _) (List.nil_append _) w' hw⟩
theorem cloneB_any (l : List Bool) (v : Value) (w : World) (hv : Sl w v (cellsOf bC l) l.length) (hl : l.length ≤ 140737488355328) :
  Calls Tryz.prog 138 #[v] w fun e w' => ∃ v', e = .returned v' ∧ Sat (base w) [ownC v' 4 1 l.length (cellsOf bC l)] w' := by
 obtain ⟨a, c, rfl, _⟩ := hv.2
 refine calls_hr Tryz.func138 I (Nat.le_of_ble_eq_true I) ?_
 refine HR.sub (σ' := [(0, .slice a l.length c)]) ⟨I, trivial⟩ ?_
 repeat' (first | refine zh ?_ | refine HL.eqNil I I I I ?_ | apply zb ?_ ?_ | exact zc | (refine zi fun hb => ?_; try simp at hb) | intro (bk : Nat))
 refine HR.cond I (fun h => ?_) (fun h => ?_)
 ·have ha : a = none := by simpa using h
  have hz : l = [] := by
   subst ha
   rcases hv.1 with ⟨_, h0, _⟩ | ⟨b, off, cap, he, _⟩
   ·exact List.eq_nil_of_length_eq_zero h0
   ·cases he
  subst hz
  repeat' (first | refine zh ?_ | apply zb ?_ ?_ | exact zc | (refine zi fun hb => ?_; try simp at hb) | intro (bk : Nat))
  refine HR.nilC 4 1 ?_
  refine HR.ret Tryz.func138 I [_] (fun _ _ => ⟨I, trivial⟩) ?_
  exact fun w' hw => ⟨.slice none 0 0, rfl, hw⟩
 ·repeat' (first | refine zh ?_ | refine HL.bslice0 elemB I ?_ | apply zb ?_ ?_ | exact zc | (refine zi fun hb => ?_; try simp at hb) | intro (bk : Nat))
  intro v1
  repeat' (first | refine zh ?_ | refine HL.appR 0 I elemB (Rd.arg hv) I I I (cellsOf_len bC_len _) (one_allcells bC_one _) (by omega) (by omega) ?_ | apply zb ?_ ?_ | exact zc | (refine zi fun hb => ?_; try simp at hb) | intro (bk : Nat))
  intro v2
  repeat' (first | refine zh ?_ | apply zb ?_ ?_ | exact zc | (refine zi fun hb => ?_; try simp at hb) | intro (bk : Nat))
  refine HR.ret Tryz.func138 I [_] (fun _ _ => ⟨I, trivial⟩) ?_
  exact fun w' hw => ⟨v2, rfl, Ent.own0 (Nat.zero_add _) (List.nil_append _) w' hw⟩
theorem cloneS_any (l : List By) (v : Value) (w : World) (hv : Sl w v (cellsOf sC l) l.length) (hl : l.length ≤ 8796093022208) :
  Calls Tryz.prog 139 #[v] w fun e w' => ∃ v', e = .returned v' ∧ Sat (base w) [ownC v' 9 1 l.length (cellsOf sC l)] w' := by
 obtain ⟨a, c, rfl, _⟩ := hv.2
 refine calls_hr Tryz.func139 I (Nat.le_of_ble_eq_true I) ?_
 refine HR.sub (σ' := [(0, .slice a l.length c)]) ⟨I, trivial⟩ ?_
 repeat' (first | refine zh ?_ | refine HL.eqNil I I I I ?_ | apply zb ?_ ?_ | exact zc | (refine zi fun hb => ?_; try simp at hb) | intro (bk : Nat))
 refine HR.cond I (fun h => ?_) (fun h => ?_)
 ·have ha : a = none := by simpa using h
  have hz : l = [] := by
   subst ha
   rcases hv.1 with ⟨_, h0, _⟩ | ⟨b, off, cap, he, _⟩
   ·exact List.eq_nil_of_length_eq_zero h0
   ·cases he
  subst hz
  repeat' (first | refine zh ?_ | apply zb ?_ ?_ | exact zc | (refine zi fun hb => ?_; try simp at hb) | intro (bk : Nat))
  refine HR.nilC 9 1 ?_
  refine HR.ret Tryz.func139 I [_] (fun _ _ => ⟨I, trivial⟩) ?_
  exact fun w' hw => ⟨.slice none 0 0, rfl, hw⟩
 ·repeat' (first | refine zh ?_ | refine HL.bslice0 elemS I ?_ | apply zb ?_ ?_ | exact zc | (refine zi fun hb => ?_; try simp at hb) | intro (bk : Nat))
  intro v1
  repeat' (first | refine zh ?_ | refine HL.appR 0 I elemS (Rd.arg hv) I I I (cellsOf_len sC_len _) (one_allcells sC_one _) (by omega) (by omega) ?_ | apply zb ?_ ?_ | exact zc | (refine zi fun hb => ?_; try simp at hb) | intro (bk : Nat))
  intro v2
  repeat' (first | refine zh ?_ | apply zb ?_ ?_ | exact zc | (refine zi fun hb => ?_; try simp at hb) | intro (bk : Nat))
  refine HR.ret Tryz.func139 I [_] (fun _ _ => ⟨I, trivial⟩) ?_
  exact fun w' hw => ⟨v2, rfl, Ent.own0 (Nat.zero_add _) (List.nil_append _) w' hw⟩
end Go.Proofs.YtgfdoognildoeaaGreat
namespace Go.Proofs.YtgfdoognildoeaaGreat
open Go.GX Go.RowKit
attribute [local irreducible] Calls Run RunL RunQ RunD HR HL HD blkC ownC mapC Rd slicesC iterC
open Nd
theorem fn214 : IsFn Tryz.prog 214 := ⟨⟨_, _, Tryz.func214, rfl, by decide⟩⟩
theorem fn215 : IsFn Tryz.prog 215 := ⟨⟨_, _, Tryz.func215, rfl, by decide⟩⟩
theorem fn162 : IsFn Tryz.prog 162 := ⟨⟨_, _, Tryz.func162, rfl, by decide⟩⟩
theorem fn125 : IsFn Tryz.prog 125 := ⟨⟨_, _, Tryz.func125, rfl, by decide⟩⟩
theorem fn115 : IsFn Tryz.prog 115 := ⟨⟨_, _, Tryz.func115, rfl, by decide⟩⟩
theorem fn198 : IsFn Tryz.prog 198 := ⟨⟨_, _, Tryz.func198, rfl, by decide⟩⟩
theorem fn123 : IsFn Tryz.prog 123 := ⟨⟨_, _, Tryz.func123, rfl, by decide⟩⟩
theorem fn140 : IsFn Tryz.prog 140 := ⟨⟨_, _, Tryz.func140, rfl, by decide⟩⟩
theorem fn69 : IsFn Tryz.prog 69 := ⟨⟨_, _, Tryz.func69, rfl, by decide⟩⟩
theorem fn127 : IsFn Tryz.prog 127 := ⟨⟨_, _, Tryz.func127, rfl, by decide⟩⟩
theorem fn183 : IsFn Tryz.prog 183 := ⟨⟨_, _, Tryz.func183, rfl, by decide⟩⟩
theorem fn195 : IsFn Tryz.prog 195 := ⟨⟨_, _, Tryz.func195, rfl, by decide⟩⟩
theorem fn143 : IsFn Tryz.prog 143 := ⟨⟨_, _, Tryz.func143, rfl, by decide⟩⟩
theorem fn299 : IsFn Tryz.prog 299 := ⟨⟨_, _, Tryz.func299, rfl, by decide⟩⟩
theorem fn91 : IsFn Tryz.prog 91 := ⟨⟨_, _, Tryz.func91, rfl, by decide⟩⟩
theorem fn120 : IsFn Tryz.prog 120 := ⟨⟨_, _, Tryz.func120, rfl, by decide⟩⟩
theorem fn141 : IsFn Tryz.prog 141 := ⟨⟨_, _, Tryz.func141, rfl, by decide⟩⟩
theorem fn129 : IsFn Tryz.prog 129 := ⟨⟨_, _, Tryz.func129, rfl, by decide⟩⟩
theorem fn208 : IsFn Tryz.prog 208 := ⟨⟨_, _, Tryz.func208, rfl, by decide⟩⟩
theorem fn259 : IsFn Tryz.prog 259 := ⟨⟨_, _, Tryz.func259, rfl, by decide⟩⟩
theorem fn301 : IsFn Tryz.prog 301 := ⟨⟨_, _, Tryz.func301, rfl, by decide⟩⟩
theorem fn272 : IsFn Tryz.prog 272 := ⟨⟨_, _, Tryz.func272, rfl, by decide⟩⟩
theorem fnode_any (n : Int) (w : World) : Calls Tryz.prog 214 #[.int .i64 n] w fun e w' => e = .returned (.bool (Tp.okN n)) ∧ Below w.heap.size w w' := by
 refine calls_hr Tryz.func214 I (Nat.le_of_ble_eq_true I) ?_
 refine HR.sub (σ' := [(0, .int .i64 n)]) ⟨I, trivial⟩ ?_
 repeat' (first | refine zh ?_ | apply zb ?_ ?_ | exact zc | (refine zi fun hb => ?_; try simp at hb) | intro (bk : Nat))
 refine HR.ret Tryz.func214 I [_] (fun _ _ => ⟨I, trivial⟩) ?_
 exact fun w' hw => ⟨rfl, hw.belowB⟩
theorem rtnode_any (n : Int) (w : World) : Calls Tryz.prog 125 #[.int .i64 n] w fun e w' => e = .returned (.bool (Tp.okN n)) ∧ Below w.heap.size w w' := by
 refine calls_hr Tryz.func125 I (Nat.le_of_ble_eq_true I) ?_
 refine HR.sub (σ' := [(0, .int .i64 n)]) ⟨I, trivial⟩ ?_
 repeat' (first | refine zh ?_ | apply zb ?_ ?_ | exact zc | (refine zi fun hb => ?_; try simp at hb) | intro (bk : Nat))
 refine HR.ret Tryz.func125 I [_] (fun _ _ => ⟨I, trivial⟩) ?_
 exact fun w' hw => ⟨rfl, hw.belowB⟩
theorem inside_any (n : Int) (w : World) : Calls Tryz.prog 91 #[.int .i64 n] w fun e w' => e = .returned (.bool (Tp.okN n)) ∧ Below w.heap.size w w' := by
 refine calls_hr Tryz.func91 I (Nat.le_of_ble_eq_true I) ?_
 refine HR.sub (σ' := [(0, .int .i64 n)]) ⟨I, trivial⟩ ?_
 repeat' (first | refine zh ?_ | apply zb ?_ ?_ | exact zc | (refine zi fun hb => ?_; try simp at hb) | intro (bk : Nat))
 refine HR.ret Tryz.func91 I [_] (fun _ _ => ⟨I, trivial⟩) ?_
 exact fun w' hw => ⟨rfl, hw.belowB⟩
theorem address_any (n : Int) (w : World) : Calls Tryz.prog 120 #[.int .i64 n] w fun e w' => e = .returned (.bool (Tp.okN n)) ∧ Below w.heap.size w w' := by
 refine calls_hr Tryz.func120 I (Nat.le_of_ble_eq_true I) ?_
 refine HR.sub (σ' := [(0, .int .i64 n)]) ⟨I, trivial⟩ ?_
 repeat' (first | refine zh ?_ | apply zb ?_ ?_ | exact zc | (refine zi fun hb => ?_; try simp at hb) | intro (bk : Nat))
 refine HR.ret Tryz.func120 I [_] (fun _ _ => ⟨I, trivial⟩) ?_
 exact fun w' hw => ⟨rfl, hw.belowB⟩
theorem target_any (n : Int) (w : World) : Calls Tryz.prog 215 #[.int .i64 n] w fun e w' => e = .returned (.bool (okT n)) ∧ Below w.heap.size w w' := by
 refine calls_hr Tryz.func215 I (Nat.le_of_ble_eq_true I) ?_
 refine HR.sub (σ' := [(0, .int .i64 n)]) ⟨I, trivial⟩ ?_
 repeat' (first | refine zh ?_ | refine HL.callB fn214 I I (fun w _ => fnode_any n w) ?_ | apply zb ?_ ?_ | exact zc | (refine zi fun hb => ?_; try simp at hb) | intro (bk : Nat))
 refine HR.ret Tryz.func215 I [_] (fun _ _ => ⟨I, trivial⟩) ?_
 exact fun w' hw => ⟨rfl, hw.belowB⟩
theorem rfin_any (r : Ro) (w : World) : Calls Tryz.prog 115 #[.agg ⟨roC r⟩] w fun e w' => e = .returned (.bool (fin r)) ∧ Below w.heap.size w w' := by
 refine calls_hr Tryz.func115 I (Nat.le_of_ble_eq_true I) ?_
 refine HR.sub (σ' := [(0, .agg ⟨roC r⟩)]) ⟨I, trivial⟩ ?_
 repeat' (first | refine zh ?_ | apply zb ?_ ?_ | exact zc | (refine zi fun hb => ?_; try simp at hb) | intro (bk : Nat))
 refine HR.ret Tryz.func115 I [_] (fun _ _ => ⟨I, trivial⟩) ?_
 exact fun w' hw => ⟨rfl, hw.belowB⟩
theorem rrfin_any (r : Ro) (w : World) : Calls Tryz.prog 195 #[.agg ⟨roC r⟩] w fun e w' => e = .returned (.bool (fin r)) ∧ Below w.heap.size w w' := by
 refine calls_hr Tryz.func195 I (Nat.le_of_ble_eq_true I) ?_
 refine HR.sub (σ' := [(0, .agg ⟨roC r⟩)]) ⟨I, trivial⟩ ?_
 repeat' (first | refine zh ?_ | apply zb ?_ ?_ | exact zc | (refine zi fun hb => ?_; try simp at hb) | intro (bk : Nat))
 refine HR.ret Tryz.func195 I [_] (fun _ _ => ⟨I, trivial⟩) ?_
 exact fun w' hw => ⟨rfl, hw.belowB⟩
theorem usable_any (r : Ro) (w : World) : Calls Tryz.prog 198 #[.agg ⟨roC r⟩] w fun e w' => e = .returned (.bool (usable r)) ∧ Below w.heap.size w w' := by
 refine calls_hr Tryz.func198 I (Nat.le_of_ble_eq_true I) ?_
 refine HR.sub (σ' := [(0, .agg ⟨roC r⟩)]) ⟨I, trivial⟩ ?_
 repeat' (first | refine zh ?_ | refine HL.callB fn125 I I (fun w _ => rtnode_any _ w) ?_ | apply zb ?_ ?_ | exact zc | (refine zi fun hb => ?_; try simp at hb) | intro (bk : Nat))
 refine HR.cond I (fun h => ?_) (fun h => ?_)
 ·have h : ((!Tp.okN r.dest || decide (r.sq < 0)) || decide (r.sq > 65535)) = true := h
  repeat' (first | refine zh ?_ | apply zb ?_ ?_ | exact zc | (refine zi fun hb => ?_; try simp at hb) | intro (bk : Nat))
  refine HR.ret Tryz.func198 I [_] (fun _ _ => ⟨I, trivial⟩) ?_
  refine fun w' hw => ⟨?_, hw.belowB⟩
  have : usable r = false := by unfold usable; revert h; cases Tp.okN r.dest <;> cases decide (r.sq < 0) <;> cases decide (r.sq > 65535) <;> simp
  rw [this]; rfl
 ·have h : ((!Tp.okN r.dest || decide (r.sq < 0)) || decide (r.sq > 65535)) = false := h
  have h' := h
  simp only [Bool.or_eq_false_iff, Bool.not_eq_false', decide_eq_false_iff_not] at h'
  have h0 : 0 ≤ r.sq := by omega
  repeat' (first | refine zh ?_ | refine HL.callB fn115 I I (fun w _ => rfin_any r w) ?_ | apply zb ?_ ?_ | exact zc | (refine zi fun hb => ?_; try simp at hb) | intro (bk : Nat))
  refine HR.ret Tryz.func198 I [_] (fun _ _ => ⟨I, trivial⟩) ?_
  refine fun w' hw => ⟨?_, hw.belowB⟩
  have : usable r = ((fin r && (r.sq % 2 == 0)) || (r.cost == 255)) := by
   unfold usable
   have e1 : decide (r.sq < 0) = false := decide_eq_false h'.1.2
   have e2 : decide (r.sq > 65535) = false := decide_eq_false h'.2
   rw [h'.1.1, e1, e2]; rfl
  rw [this]; rfl
theorem rlim_any (n : Int) (w : World) : Calls Tryz.prog 123 #[.int .i64 n] w fun e w' => e = .returned (.int .i64 (lim n)) ∧ Below w.heap.size w w' := by
 refine calls_hr Tryz.func123 I (Nat.le_of_ble_eq_true I) ?_
 refine HR.sub (σ' := [(0, .int .i64 n)]) ⟨I, trivial⟩ ?_
 repeat' (first | refine zh ?_ | apply zb ?_ ?_ | exact zc | (refine zi fun hb => ?_; try simp at hb) | intro (bk : Nat))
 refine HR.ret Tryz.func123 I [_] (fun _ _ => ⟨I, trivial⟩) ?_
 refine fun w' hw => ⟨?_, hw.belowB⟩
 simp only [resV]
 congr 2
 unfold lim clamp
 split <;> split <;> omega
theorem rown_any (n s : Int) (w : World) : Calls Tryz.prog 140 #[.int .i64 n, .int .i64 s] w fun e w' => e = .returned (.agg ⟨roC ⟨n, s, 0, n⟩⟩) ∧ Below w.heap.size w w' := by
 refine calls_hr Tryz.func140 I (Nat.le_of_ble_eq_true I) ?_
 refine HR.sub (σ' := [(0, .int .i64 n), (1, .int .i64 s)]) ⟨I, I, trivial⟩ ?_
 repeat' (first | refine zh ?_ | apply zb ?_ ?_ | exact zc | (refine zi fun hb => ?_; try simp at hb) | intro (bk : Nat))
 refine HR.ret Tryz.func140 I [_] (fun w hw => ⟨⟨_, rfl, loadVarR hw 0 I I I I rfl⟩, trivial⟩) ?_
 exact fun w' hw => ⟨rfl, hw.belowB⟩
theorem rnew_any (n : Int) (w : World) : Calls Tryz.prog 69 #[.int .i64 n] w fun e w' => ∃ v, e = .returned v ∧ Sat (base w) [ownC v 94 4 (rnew n).length (cellsOf roC (rnew n))] w' := by
 refine calls_hr Tryz.func69 I (Nat.le_of_ble_eq_true I) ?_
 refine HR.sub (σ' := [(0, .int .i64 n)]) ⟨I, trivial⟩ ?_
 repeat' (first | refine zh ?_ | refine HL.callB fn123 I I (fun w _ => rlim_any n w) ?_ | refine HL.callB fn140 I I (fun w _ => rown_any (lim n) 0 w) ?_ | refine HL.bslice elemRo I I I I I (by decide) (by decide) ?_ | apply zb ?_ ?_ | exact zc | (refine zi fun hb => ?_; try simp at hb) | intro (bk : Nat))
 intro v
 repeat' (first | refine zh ?_ | apply zb ?_ ?_ | exact zc | (refine zi fun hb => ?_; try simp at hb) | intro (bk : Nat))
 refine HR.ret Tryz.func69 I [_] (fun _ _ => ⟨I, trivial⟩) ?_
 exact fun w' hw => ⟨v, rfl, hw⟩
theorem rrlim_any (n : Int) (w : World) : Calls Tryz.prog 127 #[.int .i64 n] w fun e w' => e = .returned (.int .i64 (lim n)) ∧ Below w.heap.size w w' := by
 refine calls_hr Tryz.func127 I (Nat.le_of_ble_eq_true I) ?_
 refine HR.sub (σ' := [(0, .int .i64 n)]) ⟨I, trivial⟩ ?_
 repeat' (first | refine zh ?_ | apply zb ?_ ?_ | exact zc | (refine zi fun hb => ?_; try simp at hb) | intro (bk : Nat))
 refine HR.cond I (fun h => ?_) (fun h => ?_)
 ·have h : n < 0 := of_decide_eq_true h
  repeat' (first | refine zh ?_ | apply zb ?_ ?_ | exact zc | (refine zi fun hb => ?_; try simp at hb) | intro (bk : Nat))
  refine HR.ret Tryz.func127 I [_] (fun _ _ => ⟨I, trivial⟩) ?_
  exact fun w' hw => ⟨by rw [show lim n = 0 by unfold lim clamp; omega]; rfl, hw.belowB⟩
 have h : ¬ n < 0 := of_decide_eq_false h
 repeat' (first | refine zh ?_ | apply zb ?_ ?_ | exact zc | (refine zi fun hb => ?_; try simp at hb) | intro (bk : Nat))
 refine HR.cond I (fun h1 => ?_) (fun h1 => ?_)
 ·have h1 : n > 250 := of_decide_eq_true h1
  repeat' (first | refine zh ?_ | apply zb ?_ ?_ | exact zc | (refine zi fun hb => ?_; try simp at hb) | intro (bk : Nat))
  refine HR.ret Tryz.func127 I [_] (fun _ _ => ⟨I, trivial⟩) ?_
  exact fun w' hw => ⟨by rw [show lim n = 250 by unfold lim clamp; omega]; rfl, hw.belowB⟩
 ·have h1 : ¬ n > 250 := of_decide_eq_false h1
  repeat' (first | refine zh ?_ | apply zb ?_ ?_ | exact zc | (refine zi fun hb => ?_; try simp at hb) | intro (bk : Nat))
  refine HR.ret Tryz.func127 I [_] (fun _ _ => ⟨I, trivial⟩) ?_
  exact fun w' hw => ⟨by rw [show lim n = n by unfold lim clamp; omega]; rfl, hw.belowB⟩
theorem rrusable_any (r : Ro) (w : World) : Calls Tryz.prog 183 #[.agg ⟨roC r⟩] w fun e w' => e = .returned (.bool (usable r)) ∧ Below w.heap.size w w' := by
 refine calls_hr Tryz.func183 I (Nat.le_of_ble_eq_true I) ?_
 refine HR.sub (σ' := [(0, .agg ⟨roC r⟩)]) ⟨I, trivial⟩ ?_
 repeat' (first | refine zh ?_ | apply zb ?_ ?_ | exact zc | (refine zi fun hb => ?_; try simp at hb) | intro (bk : Nat))
 refine HR.cond I (fun h => ?_) (fun h => ?_)
 ·have h : (((decide (r.dest < 0) || decide (r.dest > 250)) || decide (r.sq < 0)) || decide (r.sq > 65535)) = true := h
  repeat' (first | refine zh ?_ | apply zb ?_ ?_ | exact zc | (refine zi fun hb => ?_; try simp at hb) | intro (bk : Nat))
  refine HR.ret Tryz.func183 I [_] (fun _ _ => ⟨I, trivial⟩) ?_
  refine fun w' hw => ⟨?_, hw.belowB⟩
  have : usable r = false := by
   rw [← Bool.not_eq_true]
   simp only [usable, Tp.okN, Bool.and_eq_true, Bool.or_eq_true, Bool.not_eq_true', Bool.or_eq_false_iff, decide_eq_true_eq, decide_eq_false_iff_not] at h ⊢
   omega
  rw [this]; rfl
 ·have h : (((decide (r.dest < 0) || decide (r.dest > 250)) || decide (r.sq < 0)) || decide (r.sq > 65535)) = false := h
  have h' := h
  simp only [Bool.or_eq_false_iff, decide_eq_false_iff_not] at h'
  have h0 : 0 ≤ r.sq := by omega
  repeat' (first | refine zh ?_ | refine HL.callB fn195 I I (fun w _ => rrfin_any r w) ?_ | apply zb ?_ ?_ | exact zc | (refine zi fun hb => ?_; try simp at hb) | intro (bk : Nat))
  refine HR.ret Tryz.func183 I [_] (fun _ _ => ⟨I, trivial⟩) ?_
  refine fun w' hw => ⟨?_, hw.belowB⟩
  have : usable r = ((fin r && (r.sq % 2 == 0)) || (r.cost == 255)) := by
   unfold usable Tp.okN
   have e1 : decide (r.sq < 0) = false := decide_eq_false (by omega)
   have e2 : decide (r.sq > 65535) = false := decide_eq_false (by omega)
   have e3 : decide (r.dest ≥ 0) = true := decide_eq_true (by omega)
   have e4 : decide (r.dest ≤ 250) = true := decide_eq_true (by omega)
   rw [e1, e2, e3, e4]; rfl
  rw [this]; rfl
theorem rrnew_any (n : Int) (w : World) : Calls Tryz.prog 143 #[.int .i64 n] w fun e w' => ∃ v, e = .returned v ∧ Sat (base w) [ownC v 94 4 (rnew n).length (cellsOf roC (rnew n))] w' := by
 refine calls_hr Tryz.func143 I (Nat.le_of_ble_eq_true I) ?_
 refine HR.sub (σ' := [(0, .int .i64 n)]) ⟨I, trivial⟩ ?_
 repeat' (first | refine zh ?_ | refine HL.callB fn127 I I (fun w _ => rrlim_any n w) ?_ | refine HL.bslice elemRo I I I I I (by decide) (by decide) ?_ | apply zb ?_ ?_ | exact zc | (refine zi fun hb => ?_; try simp at hb) | intro (bk : Nat))
 intro v
 repeat' (first | refine zh ?_ | apply zb ?_ ?_ | exact zc | (refine zi fun hb => ?_; try simp at hb) | intro (bk : Nat))
 refine HR.ret Tryz.func143 I [_] (fun _ _ => ⟨I, trivial⟩) ?_
 exact fun w' hw => ⟨v, rfl, hw⟩
theorem rbetter_any (a b : Ro) (w : World) : Calls Tryz.prog 299 #[.agg ⟨roC a⟩, .agg ⟨roC b⟩] w fun e w' => e = .returned (.bool (better a b)) ∧ Below w.heap.size w w' := by
 refine calls_hr Tryz.func299 I (Nat.le_of_ble_eq_true I) ?_
 refine HR.sub (σ' := [(0, .agg ⟨roC a⟩), (1, .agg ⟨roC b⟩)]) ⟨I, I, trivial⟩ ?_
 repeat' (first | refine zh ?_ | apply zb ?_ ?_ | exact zc | (refine zi fun hb => ?_; try simp at hb) | intro (bk : Nat))
 refine HR.ret Tryz.func299 I [_] (fun _ _ => ⟨I, trivial⟩) ?_
 exact fun w' hw => ⟨rfl, hw.belowB⟩
theorem nlim_any (n lo hi : Int) (w : World) : Calls Tryz.prog 129 #[.int .i64 n, .int .i64 lo, .int .i64 hi] w fun e w' => e = .returned (.int .i64 (clamp n lo hi)) ∧ Below w.heap.size w w' := by
 refine calls_hr Tryz.func129 I (Nat.le_of_ble_eq_true I) ?_
 refine HR.sub (σ' := [(0, .int .i64 n), (1, .int .i64 lo), (2, .int .i64 hi)]) ⟨I, I, I, trivial⟩ ?_
 repeat' (first | refine zh ?_ | apply zb ?_ ?_ | exact zc | (refine zi fun hb => ?_; try simp at hb) | intro (bk : Nat))
 refine HR.ret Tryz.func129 I [_] (fun _ _ => ⟨I, trivial⟩) ?_
 refine fun w' hw => ⟨?_, hw.belowB⟩
 simp only [resV]
 congr 2
 unfold clamp
 split <;> split <;> omega
theorem rclamp_any (n lo hi : Int) (hlh : lo ≤ hi) (w : World) : Calls Tryz.prog 141 #[.int .i64 n, .int .i64 lo, .int .i64 hi] w fun e w' => e = .returned (.int .i64 (clamp n lo hi)) ∧ Below w.heap.size w w' := by
 refine calls_hr Tryz.func141 I (Nat.le_of_ble_eq_true I) ?_
 refine HR.sub (σ' := [(0, .int .i64 n), (1, .int .i64 lo), (2, .int .i64 hi)]) ⟨I, I, I, trivial⟩ ?_
 repeat' (first | refine zh ?_ | apply zb ?_ ?_ | exact zc | (refine zi fun hb => ?_; try simp at hb) | intro (bk : Nat))
 refine HR.cond I (fun h => ?_) (fun h => ?_)
 ·have h : (decide (hi < lo) || decide (n > hi)) = true := h
  simp only [Bool.or_eq_true, decide_eq_true_eq] at h
  repeat' (first | refine zh ?_ | apply zb ?_ ?_ | exact zc | (refine zi fun hb => ?_; try simp at hb) | intro (bk : Nat))
  refine HR.ret Tryz.func141 I [_] (fun _ _ => ⟨I, trivial⟩) ?_
  exact fun w' hw => ⟨by rw [show clamp n lo hi = hi by unfold clamp; omega]; rfl, hw.belowB⟩
 have h : (decide (hi < lo) || decide (n > hi)) = false := h
 simp only [Bool.or_eq_false_iff, decide_eq_false_iff_not] at h
 repeat' (first | refine zh ?_ | apply zb ?_ ?_ | exact zc | (refine zi fun hb => ?_; try simp at hb) | intro (bk : Nat))
 refine HR.cond I (fun h1 => ?_) (fun h1 => ?_)
 ·have h1 : n < lo := of_decide_eq_true h1
  repeat' (first | refine zh ?_ | apply zb ?_ ?_ | exact zc | (refine zi fun hb => ?_; try simp at hb) | intro (bk : Nat))
  refine HR.ret Tryz.func141 I [_] (fun _ _ => ⟨I, trivial⟩) ?_
  exact fun w' hw => ⟨by rw [show clamp n lo hi = lo by unfold clamp; omega]; rfl, hw.belowB⟩
 ·have h1 : ¬ n < lo := of_decide_eq_false h1
  repeat' (first | refine zh ?_ | apply zb ?_ ?_ | exact zc | (refine zi fun hb => ?_; try simp at hb) | intro (bk : Nat))
  refine HR.ret Tryz.func141 I [_] (fun _ _ => ⟨I, trivial⟩) ?_
  exact fun w' hw => ⟨by rw [show clamp n lo hi = n by unfold clamp; omega]; rfl, hw.belowB⟩
theorem flim_any (n : Int) (w : World) : Calls Tryz.prog 208 #[.int .i64 n] w fun e w' => e = .returned (.int .i64 (tick n)) ∧ Below w.heap.size w w' := by
 refine calls_hr Tryz.func208 I (Nat.le_of_ble_eq_true I) ?_
 refine HR.sub (σ' := [(0, .int .i64 n)]) ⟨I, trivial⟩ ?_
 repeat' (first | refine zh ?_ | apply zb ?_ ?_ | exact zc | (refine zi fun hb => ?_; try simp at hb) | intro (bk : Nat))
 refine HR.ret Tryz.func208 I [_] (fun _ _ => ⟨I, trivial⟩) ?_
 refine fun w' hw => ⟨?_, hw.belowB⟩
 simp only [resV]
 congr 2
 unfold tick clamp maxTick
 split <;> split <;> omega
theorem mtk_any (n : Int) (w : World) : Calls Tryz.prog 259 #[.int .i64 n] w fun e w' => e = .returned (.int .i64 (tick n)) ∧ Below w.heap.size w w' := by
 refine calls_hr Tryz.func259 I (Nat.le_of_ble_eq_true I) ?_
 refine HR.sub (σ' := [(0, .int .i64 n)]) ⟨I, trivial⟩ ?_
 repeat' (first | refine zh ?_ | apply zb ?_ ?_ | exact zc | (refine zi fun hb => ?_; try simp at hb) | intro (bk : Nat))
 refine HR.ret Tryz.func259 I [_] (fun _ _ => ⟨I, trivial⟩) ?_
 refine fun w' hw => ⟨?_, hw.belowB⟩
 simp only [resV]
 congr 2
 unfold tick clamp maxTick
 split <;> split <;> omega
end Go.Proofs.YtgfdoognildoeaaGreat
