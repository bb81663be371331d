/- A part of the proof: contracts of the program's functions. Conditions: none. -/
import Derived.Carry
import Derived.Deep.MidRow
import Derived.Deep.Quiet
import Derived.Laws.IdiomRangeMap
import Derived.Laws.MakeOwn
import Derived.Laws.StructEq
import Derived.Laws.Tables
import Derived.Lib.AppendStr
import Derived.Lib.AppendZerosOnto
import Derived.Lib.OthersKept
import Derived.Lib.Overlaps
import Derived.Lib.OwnBridge
import Derived.Lib.SlicesCompact
import Derived.MapKept
import Derived.Orders
import Derived.OrdersHeld
import Derived.Scope
import Derived.Sort.Grow
import Derived.StillTail
import Derived.Test.YtgdgclmkpoaagaaGreatProg
import Derived.Test.YtgdgclmkpoaagaaGreatShelf
import Derived.WalkKit
import Derived.WalkLawsBesides
import Derived.WalkSpells
import Derived.Test.YtgdgclmkpoaagaaGreatGB1
import Derived.Test.YtgdgclmkpoaagaaGreatGB2
import Derived.Test.YtgdgclmkpoaagaaGreatGB3
import Derived.Test.YtgdgclmkpoaagaaGreatGB4
import Derived.Test.YtgdgclmkpoaagaaGreatGB5
import Derived.Test.YtgdgclmkpoaagaaGreatGB6
import Derived.Test.YtgdgclmkpoaagaaGreatGB7
import Derived.Test.YtgdgclmkpoaagaaGreatGB8
import Derived.Test.YtgdgclmkpoaagaaGreatGNodeHears1
set_option linter.unusedVariables false
set_option linter.unusedSectionVars false
set_option linter.unusedSimpArgs false
set_option maxRecDepth 100000
set_option maxHeartbeats 4000000
namespace Go.Proofs.YtgdgclmkpoaagaaGreat
open Go.GX Go.RowKit
attribute [local irreducible] Calls Run RunL RunQ RunD HR HL HD blkC ownC Rd
open Nd
theorem fn168 : IsFn Tryz.prog 168 := ⟨⟨_, _, Tryz.func168, rfl, by decide⟩⟩
theorem fn190 : IsFn Tryz.prog 190 := ⟨⟨_, _, Tryz.func190, rfl, by decide⟩⟩
theorem fn97 : IsFn Tryz.prog 97 := ⟨⟨_, _, Tryz.func97, rfl, by decide⟩⟩
theorem fn137 : IsFn Tryz.prog 137 := ⟨⟨_, _, Tryz.func137, rfl, by decide⟩⟩
theorem r13first_any (l : List Ma) (v : Value) (w : World) (hv : Sl w v (cellsOf maC l) l.length) (hl : l.length ≤ 1000) :
  Calls Tryz.prog 168 #[v] w fun e w' => ∃ v', e = .returned v' ∧ Sat (base w) [ownC v' 73 10 (l.take 16).length (cellsOf maC (l.take 16))] w' := by
 refine calls_hr Tryz.func168 I (Nat.le_of_ble_eq_true I) ?_
 refine HR.sub (σ' := [(0, v)]) ⟨I, trivial⟩ ?_
 repeat' (first | refine zh ?_ | intro (bk : Nat))
 refine HR.nilC 73 10 ?_
 refine HR.loop2 (α := Nat) (β := Value) (fun k o => k ≤ l.length ∧ k ≤ 16) (fun k o => [(0, v), (3, o), (4, .int .i64 (k : Int))]) (fun k o => [ownC o 73 10 (l.take k).length (cellsOf maC (l.take k))]) (fun k _ => l.length - k) 0 (.slice none 0 0) ⟨Nat.zero_le _, by omega⟩ ⟨I, I, I, trivial⟩ Ent.refl ?_
 rintro k o ⟨hk, hk16⟩ ih
 have htl : (l.take k).length = k := by simp; omega
 repeat' (first | refine zh ?_ | refine HL.lenR (Rd.arg hv) I I I ?_ | apply zb ?_ ?_ | exact zc | (refine zi fun hb => ?_; try simp at hb) | intro (bk : Nat))
 refine HR.cond I (fun h2 => ?_) (fun h2 => ?_)
 ·have h2 : (decide ((k : Int) < l.length) && decide ((k : Int) < 16)) = true := h2
  simp only [Bool.and_eq_true, decide_eq_true_eq] at h2
  have hlt : k < l.length := by omega
  obtain ⟨x, hx⟩ := getSome hlt
  repeat' (first | refine zh ?_ | refine HL.idxR (Rd.arg hv) elemMa k I I I I hlt ?_ | refine HL.loadE (Rd.arg hv) I I I I (by simp) I (cellsOf_get maC_len hx) ?_ | refine HL.bslice elemMa I I I I I (by decide) (by decide) ?_ | intro (bk : Nat))
  intro va
  repeat' (first | refine zh ?_ | refine HL.appR 1 I elemMa (Rd.own 0 I) I I I I (allOne_spec I) (by omega) (by omega) ?_ | intro (bk : Nat))
  intro o2
  repeat' (first | refine zh ?_ | intro (bk : Nat))
  refine ih (k + 1) o2 _ _ ⟨hlt, by omega⟩ (by omega) ⟨I, I, I, trivial⟩ (Ent.trans (Ent.pick [1] I I) (Ent.own0 ?_ ?_))
  ·rw [take_succ_get hx]; simp
  ·rw [take_succ_get hx, cellsOf_app]; rfl
 ·have h2 : (decide ((k : Int) < l.length) && decide ((k : Int) < 16)) = false := h2
  have e : l.take k = l.take 16 := by
   by_cases h3 : k < l.length
   ·rw [decide_eq_true (show (k : Int) < l.length by omega), Bool.true_and, decide_eq_false_iff_not] at h2
    rw [show k = 16 by omega]
   ·rw [List.take_of_length_le (by omega), List.take_of_length_le (by omega)]
  rw [e]
  repeat' (first | refine zh ?_ | intro (bk : Nat))
  refine HR.ret Tryz.func168 I [_] (fun _ _ => ⟨I, trivial⟩) ?_
  exact fun w' hw => ⟨o, rfl, hw⟩
theorem r13without_any (l : List Ma) (i : Nat) (v : Value) (w : World) (hv : Sl w v (cellsOf maC l) l.length) (hl : l.length ≤ 1000) (hi : i < l.length) :
  Calls Tryz.prog 190 #[v, .int .i64 (i : Int)] w fun e w' => ∃ v', e = .returned v' ∧ Sat (base w) [ownC v' 73 10 (l.eraseIdx i).length (cellsOf maC (l.eraseIdx i))] w' := by
 have hstep : ∀ {k : Nat} {x : Ma}, l[k]? = some x → (l.take (k + 1)).eraseIdx i = if k = i then (l.take k).eraseIdx i else (l.take k).eraseIdx i ++ [x] := by
  intro k x hx
  have hkl := (List.getElem?_eq_some_iff.1 hx).1
  have htl : (l.take k).length = k := by simp; omega
  rw [take_succ_get hx]
  split
  ·rename_i h
   subst h
   rw [List.eraseIdx_append_of_length_le (by omega), htl, Nat.sub_self, List.eraseIdx_of_length_le (l := l.take k) (by omega)]; simp
  ·rename_i h
   by_cases h3 : i < k
   ·rw [List.eraseIdx_append_of_lt_length (by omega)]
   ·rw [List.eraseIdx_append_of_length_le (by omega), htl, List.eraseIdx_of_length_le (l := [x]) (by simp; omega), List.eraseIdx_of_length_le (l := l.take k) (by omega)]
 refine calls_hr Tryz.func190 I (Nat.le_of_ble_eq_true I) ?_
 refine HR.sub (σ' := [(0, v), (1, .int .i64 (i : Int))]) ⟨I, I, trivial⟩ ?_
 repeat' (first | refine zh ?_ | intro (bk : Nat))
 refine HR.nilC 73 10 ?_
 refine HR.loop2 (α := Nat) (β := Value) (fun k o => k ≤ l.length) (fun k o => [(0, v), (1, .int .i64 (i : Int)), (5, o), (6, .int .i64 (k : Int))]) (fun k o => [ownC o 73 10 ((l.take k).eraseIdx i).length (cellsOf maC ((l.take k).eraseIdx i))]) (fun k _ => l.length - k) 0 (.slice none 0 0) (Nat.zero_le _) ⟨I, I, I, I, trivial⟩ (by rw [List.take_zero, List.eraseIdx_nil]; exact Ent.refl) ?_
 rintro k o hk ih
 have htl : ((l.take k).eraseIdx i).length ≤ k := Nat.le_trans (List.length_eraseIdx_le _ _) (by simp; omega)
 repeat' (first | refine zh ?_ | refine HL.lenR (Rd.arg hv) I I I ?_ | intro (bk : Nat))
 refine HR.cond I (fun h2 => ?_) (fun h2 => ?_)
 ·have hlt : k < l.length := by have := of_decide_eq_true h2; omega
  obtain ⟨x, hx⟩ := getSome hlt
  have hst := hstep hx
  repeat' (first | refine zh ?_ | intro (bk : Nat))
  refine HR.cond I (fun h3 => ?_) (fun h3 => ?_)
  ·have h3 : ¬ k = i := by have h3 : ((k : Int) != (i : Int)) = true := h3; simp at h3; omega
   rw [if_neg h3] at hst
   repeat' (first | refine zh ?_ | refine HL.idxR (Rd.arg hv) elemMa k I I I I hlt ?_ | refine HL.loadE (Rd.arg hv) I I I I (by simp) I (cellsOf_get maC_len hx) ?_ | refine HL.bslice elemMa I I I I I (by decide) (by decide) ?_ | intro (bk : Nat))
   intro va
   repeat' (first | refine zh ?_ | refine HL.appR 1 I elemMa (Rd.own 0 I) I I I I (allOne_spec I) (by omega) (by omega) ?_ | intro (bk : Nat))
   intro o2
   repeat' (first | refine zh ?_ | intro (bk : Nat))
   refine ih (k + 1) o2 _ _ hlt (by omega) ⟨I, I, I, I, trivial⟩ (Ent.trans (Ent.pick [1] I I) (Ent.own0 ?_ ?_))
   ·rw [hst]; simp
   ·rw [hst, cellsOf_app]; rfl
  ·have h3 : k = i := by have h3 : ((k : Int) != (i : Int)) = false := h3; simp at h3; omega
   rw [if_pos h3] at hst
   repeat' (first | refine zh ?_ | intro (bk : Nat))
   exact ih (k + 1) o _ _ hlt (by omega) ⟨I, I, I, I, trivial⟩ (Ent.own0 (by rw [hst]) (by rw [hst]))
 ·have hke : k = l.length := by have := of_decide_eq_false h2; omega
  subst hke
  rw [List.take_length]
  repeat' (first | refine zh ?_ | intro (bk : Nat))
  refine HR.ret Tryz.func190 I [_] (fun _ _ => ⟨I, trivial⟩) ?_
  exact fun w' hw => ⟨o, rfl, hw⟩
section
variable {α : Type}
def lidx (p : α → Bool) (l : List α) : Int := match lastIdx p l with
 | some i => (i : Int)
 | none => -1
theorem lidx_nil (p : α → Bool) (l : List α) : lidx p (l.take 0) = -1 := by rw [List.take_zero]; rfl
theorem lidx_step {p : α → Bool} {l : List α} {k : Nat} {x : α} (hx : l[k]? = some x) : lidx p (l.take (k + 1)) = if p x = true then (k : Int) else lidx p (l.take k) := by
 have hk := (List.getElem?_eq_some_iff.1 hx).1
 have hg : ∀ j, j < k + 1 → (l.take (k + 1))[j]? = l[j]? := fun j hj => by rw [List.getElem?_take_of_lt hj]
 have hg' : ∀ j b, (l.take (k + 1))[j]? = some b → j < k + 1 ∧ l[j]? = some b := fun j b h => by
  rw [List.getElem?_take] at h
  split at h
  ·exact ⟨by assumption, h⟩
  ·cases h
 split
 ·rename_i hp
  unfold lidx
  rw [lastIdx_is (i := k) (a := x) (by rw [hg k (by omega)]; exact hx) hp (fun j b hj hb => by have := (hg' j b hb).1; omega)]
 ·rename_i hp
  have hp : p x = false := by simpa using hp
  unfold lidx
  cases h : lastIdx p (l.take k) with
  | none =>
   have := lastIdx_none h
   rw [lastIdx_isNone]
   intro a ha
   rw [take_succ_get hx] at ha
   rcases List.mem_append.1 ha with ha | ha
   ·exact this a ha
   ·rw [List.mem_singleton] at ha; subst ha; exact hp
  | some i =>
   obtain ⟨a, h1, h2, h3⟩ := lastIdx_some h
   have hik : i < k := by have := (List.getElem?_eq_some_iff.1 h1).1; simp at this; omega
   rw [List.getElem?_take_of_lt hik] at h1
   rw [lastIdx_is (i := i) (a := a) (by rw [hg i (by omega)]; exact h1) h2]
   intro j b hj hb
   obtain ⟨g1, g2⟩ := hg' j b hb
   by_cases e : j = k
   ·subst e; rw [hx] at g2; cases g2; exact hp
   ·exact h3 j b hj (by rw [List.getElem?_take_of_lt (by omega)]; exact g2)
theorem lidx_lt (p : α → Bool) (l : List α) : -1 ≤ lidx p l ∧ lidx p l < (l.length : Int) := by
 unfold lidx
 cases h : lastIdx p l with
 | none => simp; omega
 | some i =>
  obtain ⟨a, h1, _⟩ := lastIdx_some h
  have := (List.getElem?_eq_some_iff.1 h1).1
  simp; omega
theorem qput_full {dr ur : α → Bool} {q : List α} {x : α} (h : (q.take 16).length = 16) (h2 : ur x = false ∨ lidx dr (q.take 16) < 0) : qput dr ur q x = (q.take 16, false) := by
 unfold qput
 cases hu : ur x
 ·rw [if_pos rfl, if_pos h]
 ·rw [if_neg (show ¬ true = false by decide), if_pos h]
  rcases h2 with h2 | h2
  ·rw [hu] at h2; cases h2
  ·unfold lidx at h2
   cases hl : lastIdx dr (q.take 16) with
   | none => rfl
   | some i => rw [hl] at h2; simp only at h2; omega
def room (dr : α → Bool) (T : List α) : List α := if T.length = 16 then T.eraseIdx (lidx dr T).toNat else T
theorem qput_go {dr ur : α → Bool} {q : List α} {x : α} (h : ¬ ((q.take 16).length = 16 ∧ (ur x = false ∨ lidx dr (q.take 16) < 0))) : qput dr ur q x = (if ur x = false then room dr (q.take 16) ++ [x] else ins ur (room dr (q.take 16)) x, true) := by
 unfold qput room
 cases hu : ur x
 ·rw [hu] at h
  rw [if_pos rfl, if_pos rfl, if_neg (fun e => h ⟨e, .inl rfl⟩), if_neg (fun e => h ⟨e, .inl rfl⟩)]
 ·rw [if_neg (show ¬ true = false by decide), if_neg (show ¬ true = false by decide)]
  by_cases hl : (q.take 16).length = 16
  ·rw [if_pos hl, if_pos hl]
   have h2 : ¬ lidx dr (q.take 16) < 0 := fun e => h ⟨hl, .inr e⟩
   unfold lidx at h2 ⊢
   cases hi : lastIdx dr (q.take 16) with
   | none => rw [hi] at h2; exact absurd (by decide) h2
   | some i => simp
  ·rw [if_neg hl, if_neg hl]
theorem room_len {dr : α → Bool} {T : List α} (h : T.length ≤ 16) (h2 : ¬ (T.length = 16 ∧ lidx dr T < 0)) : (room dr T).length ≤ 15 := by
 unfold room
 split
 ·rename_i h3
  have := lidx_lt dr T
  rw [List.length_eraseIdx_of_lt (by omega)]; omega
 ·omega
end
theorem r16put_any (l : List Sn) (f : Fr) (v : Value) (w : World) (hv : Sl w v (cellsOf snC l) l.length) (hl : l.length ≤ 1000) :
  Calls Tryz.prog 118 #[v, .agg ⟨frC f⟩] w fun e w' => ∃ v', e = .returned (.tuple ⟨[v', .bool (mput l f).2]⟩) ∧ True ∧ Sat (base w) [ownC v' 48 11 (mput l f).1.length (cellsOf snC (mput l f).1)] w' := by
 have h16 : (l.take 16).length ≤ 16 := by simp; omega
 have hcl : ∀ T : List Sn, (cellsOf snC T).length = T.length * 11 := cellsOf_len snC_len
 have hspec : (mput l f) = qput sdr sur l ⟨f, 0, 0⟩ := rfl
 rw [hspec]
 have hux : sur ⟨f, 0, 0⟩ = f.ur := rfl
 obtain ⟨x, hx⟩ : ∃ x : Sn, x = ⟨f, 0, 0⟩ := ⟨_, rfl⟩
 rw [← hx] at hux ⊢
 refine calls_hr Tryz.func118 I (Nat.le_of_ble_eq_true I) ?_
 refine HR.sub (σ' := [(0, v), (1, .agg ⟨frC f⟩)]) ⟨I, I, trivial⟩ ?_
 repeat' (first | refine zh ?_ | refine HL.callO fn155 I I (fun w hw => r16first_any l v w ((Rd.arg hv).at hw) hl) ?_ | intro (bk : Nat))
 intro v1
 obtain ⟨T, hT⟩ : ∃ T, T = l.take 16 := ⟨_, rfl⟩
 have hfull := qput_full (dr := sdr) (ur := sur) (q := l) (x := x)
 have hgo := qput_go (dr := sdr) (ur := sur) (q := l) (x := x)
 rw [← hT] at h16 hfull hgo ⊢
 repeat' (first | refine zh ?_ | intro (bk : Nat))
 refine HR.loop (ι := Nat) (fun k => k ≤ T.length) (fun k => [(0, v), (3, .pointer (some ⟨bk, 0, none⟩)), (6, v1), (7, .int .i64 (lidx sdr (T.take k))), (8, .int .i64 (k : Int))]) (fun _ => [ownC v1 48 11 T.length (cellsOf snC T), blkC bk (frC f) 42]) (fun k => T.length - k) 0 (Nat.zero_le _) ⟨rfl, rfl, rfl, by rw [lidx_nil]; rfl, rfl, trivial⟩ (Ent.pick [0, 1] I I) ?_
 intro k hk ih
 repeat' (first | refine zh ?_ | refine HL.lenR (Rd.own 0 I) I I I ?_ | intro (bk : Nat))
 refine HR.cond I (fun h2 => ?_) (fun h2 => ?_)
 ·have hlt : k < T.length := by have := of_decide_eq_true h2; omega
  obtain ⟨y, hy⟩ := getSome hlt
  have hst := lidx_step (p := sdr) hy
  have hln : (T.take k).length ≤ 16 := by simp; omega
  have hlx := lidx_lt sdr (T.take k)
  repeat' (first | refine zh ?_ | refine HL.idxR (Rd.own 0 I) elemSn k I I I I hlt ?_ | refine HL.fieldN 0 (Rd.own 0 I) (by rw [hcl]; omega) I I I I I I I ?_ | refine HL.fieldN 7 (Rd.own 0 I) (by rw [hcl]; omega) I I I I I I I ?_ | refine HL.fieldN 9 (Rd.own 0 I) (by rw [hcl]; omega) I I I I I I I ?_ | refine HL.loadI (Rd.own 0 I) I I I I (cells_get snC_len hy (i := 7) I) ?_ | refine HL.loadI (Rd.own 0 I) I I I I (cells_get snC_len hy (i := 9) I) ?_ | apply zb ?_ ?_ | exact zc | (refine zi fun hb => ?_; try simp at hb) | intro (bk : Nat))
  refine HR.cond I (fun h3 => ?_) (fun h3 => ?_)
  ·have h3 : sdr y = true := h3
   rw [if_pos h3] at hst
   repeat' (first | refine zh ?_ | intro (bk : Nat))
   exact ih (k + 1) _ _ hlt (by omega) ⟨rfl, rfl, rfl, by rw [hst]; rfl, rfl, trivial⟩ Ent.refl
  ·have h3 : sdr y = false := h3
   rw [if_neg (by rw [h3]; decide)] at hst
   repeat' (first | refine zh ?_ | intro (bk : Nat))
   exact ih (k + 1) _ _ hlt (by omega) ⟨rfl, rfl, rfl, by rw [hst]; rfl, rfl, trivial⟩ Ent.refl
 have hke : k = T.length := by have := of_decide_eq_false h2; omega
 subst hke
 rw [List.take_length]
 have hlx := lidx_lt sdr T
 obtain ⟨M, hM⟩ : ∃ M, M = lidx sdr T := ⟨_, rfl⟩
 rw [← hM] at hlx hfull ⊢
 repeat' (first | refine zh ?_ | refine HL.lenR (Rd.own 0 I) I I I ?_ | apply zb ?_ ?_ | exact zc | (refine zi fun hb => ?_; try simp at hb) | intro (bk : Nat))
 refine HR.cond I (fun h3 => ?_) (fun h3 => ?_)
 ·have h3 : (((T.length : Int) == 16) && (!f.ur || decide (M < 0))) = true := h3
  simp only [Bool.and_eq_true, Bool.or_eq_true, Bool.not_eq_true', decide_eq_true_eq, beq_iff_eq] at h3
  rw [hfull (by omega) (by rw [hux]; exact h3.2)]
  repeat' (first | refine zh ?_ | intro (bk : Nat))
  refine HR.ret Tryz.func118 I [_, _] (fun _ _ => ⟨I, I, trivial⟩) ?_
  exact fun w' hw => ⟨v1, rfl, trivial, hw.pick [0] I rfl⟩
 have h3 : (((T.length : Int) == 16) && (!f.ur || decide (M < 0))) = false := h3
 have h3 : ¬ (T.length = 16 ∧ (f.ur = false ∨ M < 0)) := by
  rintro ⟨e1, e2⟩
  rw [show ((T.length : Int) == 16) = true by simp; omega, Bool.true_and, Bool.or_eq_false_iff] at h3
  rcases e2 with e2 | e2
  ·rw [e2] at h3; exact absurd h3.1 (by decide)
  ·have := of_decide_eq_false h3.2; omega
 have hR := room_len (dr := sdr) h16 (by rw [← hM]; exact fun e => h3 ⟨e.1, .inr e.2⟩)
 rw [hgo (by rw [hux, ← hM]; exact h3), hux]
 have hroom : room sdr T = if T.length = 16 then T.eraseIdx M.toNat else T := by rw [hM]; rfl
 obtain ⟨L, hL⟩ : ∃ L, L = room sdr T := ⟨_, rfl⟩
 rw [← hL] at hR hroom ⊢
 repeat' (first | refine zh ?_ | refine HL.lenR (Rd.own 0 I) I I I ?_ | intro (bk : Nat))
 refine HR.join (ι := Value) (fun _ => True) (fun u => [(3, .pointer (some ⟨bk, 0, none⟩)), (6, u)]) (fun u => [ownC u 48 11 L.length (cellsOf snC L), blkC bk (frC f) 42]) (fun u _ => ?_) (fun hj => ?_)
 ·repeat' (first | refine zh ?_ | refine HL.lenR (Rd.own 0 I) I I I ?_ | intro (bk : Nat))
  refine HR.joinI (ι := Nat) (fun a => a ≤ L.length ∧ (if f.ur = false then L ++ [x] else ins sur L x) = L.take a ++ x :: L.drop a) (fun a => [(3, .pointer (some ⟨bk, 0, none⟩)), (6, u), (9, .int .i64 (a : Int))]) (fun _ => [ownC u 48 11 L.length (cellsOf snC L), blkC bk (frC f) 42]) (fun a => ?_) (fun hj2 => ?_)
  ·rintro ⟨ha, e⟩
   rw [e]
   have hcat : cellsOf snC (L.take a ++ x :: L.drop a) = (([] ++ cellsOf snC (L.take a)) ++ snC x) ++ cellsOf snC (L.drop a) := by rw [cellsOf_app, List.nil_append, List.append_assoc]; rfl
   have hR1 := Rd.pre (B := base w) (H := [ownC u 48 11 L.length (cellsOf snC L), blkC bk (frC f) 42]) snC_len (l := L) (Rd.own 0 I) ha
   repeat' (first | refine zh ?_ | refine HL.bslice0 elemSn I ?_ | intro (bk : Nat))
   intro va
   have hR1 := Rd.pre (B := base w) (H := [ownC va 48 11 0 [], ownC u 48 11 L.length (cellsOf snC L), blkC bk (frC f) 42]) snC_len (l := L) (Rd.own 1 I) ha
   repeat' (first | refine zh ?_ | refine HL.subI (sz := 11) 0 a (Rd.own 1 I) I I I I (.inl ⟨rfl, rfl⟩) (.inr ⟨_, _, _, rfl, rfl, rfl⟩) (Nat.zero_le _) ha ?_ | refine HL.appR 0 I elemSn hR1 I I I (hcl _) (one_allcells snC_one _) (by simp; omega) (by simp; omega) ?_ | intro (bk : Nat))
   intro vo
   repeat' (first | refine zh ?_ | intro (bk : Nat))
   refine HL.bslice elemSn I I I I I (by decide) (by decide) ?_
   intro va2
   refine HL.ent (H' := [ownC va2 48 11 1 (snC x), ownC vo 48 11 (0 + (L.take a).length) ([] ++ cellsOf snC (L.take a)), ownC u 48 11 L.length (cellsOf snC L), blkC bk (frC f) 42]) (Ent.own0 I (by rw [hx]; rfl)) ?_
   refine HL.appR (news := snC x) 1 I elemSn (Rd.own 0 I) I I I I (allOne_spec I) (by simp; omega) (by simp; omega) ?_
   intro vo2
   have hR2 := Rd.suf (B := base w) (H := [ownC va2 48 11 1 (snC x), ownC vo2 48 11 (0 + (L.take a).length + 1) (([] ++ cellsOf snC (L.take a)) ++ snC x), ownC u 48 11 L.length (cellsOf snC L), blkC bk (frC f) 42]) snC_len (l := L) (Rd.own 2 I) ha
   repeat' (first | refine zh ?_ | refine HL.subI (sz := 11) a L.length (Rd.own 2 I) I I I I (.inr ⟨_, _, _, rfl, rfl, rfl⟩) (.inl ⟨rfl, rfl⟩) ha (Nat.le_refl _) ?_ | refine HL.appR 1 I elemSn hR2 I I I (hcl _) (one_allcells snC_one _) (by simp; omega) (by simp; omega) ?_ | intro (bk : Nat))
   intro v5
   repeat' (first | refine zh ?_ | intro (bk : Nat))
   refine HR.ret Tryz.func118 I [_, _] (fun _ _ => ⟨I, I, trivial⟩) ?_
   refine fun w' hw => ⟨v5, rfl, trivial, Ent.own0 ?_ ?_ w' (hw.pick [1] I rfl)⟩
   ·simp; omega
   ·exact hcat.symm
  ·refine HR.loop2 (α := Nat) (β := Nat) (fun b a => b ≤ L.length ∧ b ≤ a ∧ a ≤ L.length ∧ (f.ur = false → a = L.length) ∧ (f.ur = true → (∀ j y, b ≤ j → j < a → L[j]? = some y → sur y = true) ∧ ∀ y, L[a]? = some y → sur y = false)) (fun b a => [(3, .pointer (some ⟨bk, 0, none⟩)), (6, u), (9, .int .i64 (a : Int)), (10, .int .i64 ((b : Int) - 1))]) (fun _ _ => [ownC u 48 11 L.length (cellsOf snC L), blkC bk (frC f) 42]) (fun b _ => b) L.length L.length ⟨Nat.le_refl _, Nat.le_refl _, Nat.le_refl _, fun _ => rfl, fun _ => ⟨fun j y h1 h2 => by omega, fun y hy => by have := (List.getElem?_eq_some_iff.1 hy).1; omega⟩⟩ ⟨I, I, I, I, trivial⟩ Ent.refl ?_
   rintro b a ⟨hb, hba, ha, hf0, hf1⟩ ih
   repeat' (first | refine zh ?_ | apply zb ?_ ?_ | exact zc | (refine zi fun hb => ?_; try simp at hb) | intro (bk : Nat))
   refine HR.cond I (fun h4 => ?_) (fun h4 => ?_)
   ·have h4 : (decide ((b : Int) - 1 ≥ 0) && f.ur) = true := h4
    simp only [Bool.and_eq_true, decide_eq_true_eq] at h4
    obtain ⟨m, rfl⟩ : ∃ m, b = m + 1 := ⟨b - 1, by omega⟩
    have hml : m < L.length := by omega
    obtain ⟨y, hy⟩ := getSome hml
    obtain ⟨g1, g2⟩ := hf1 h4.2
    repeat' (first | refine zh ?_ | refine HL.idxR (Rd.own 0 I) elemSn m I I I (by omega) hml ?_ | refine HL.fieldN 0 (Rd.own 0 I) (by rw [hcl]; omega) I I I I I I I ?_ | refine HL.fieldN 7 (Rd.own 0 I) (by rw [hcl]; omega) I I I I I I I ?_ | refine HL.loadI (Rd.own 0 I) I I I I (cells_get snC_len hy (i := 7) I) ?_ | intro (bk : Nat))
    refine HR.cond I (fun h5 => ?_) (fun h5 => ?_)
    ·have h5 : y.f.ur = false := by have h5 : (!y.f.ur) = true := h5; simpa using h5
     repeat' (first | refine zh ?_ | intro (bk : Nat))
     refine ih m m _ _ ⟨by omega, Nat.le_refl _, by omega, fun e => (by rw [h4.2] at e; cases e), fun _ => ⟨fun j y h1 h2 => by omega, fun y' hy' => by rw [hy] at hy'; cases hy'; exact h5⟩⟩ (by omega) ⟨rfl, rfl, by show some (Value.int IntKind.i64 _) = some (Value.int IntKind.i64 _); congr 2; omega, by show some (Value.int IntKind.i64 _) = some (Value.int IntKind.i64 _); congr 2; omega, trivial⟩ Ent.refl
    ·have h5 : y.f.ur = true := by have h5 : (!y.f.ur) = false := h5; simpa using h5
     repeat' (first | refine zh ?_ | intro (bk : Nat))
     refine ih m a _ _ ⟨by omega, by omega, ha, hf0, fun _ => ⟨fun j y' h1 h2 hy' => ?_, g2⟩⟩ (by omega) ⟨rfl, rfl, rfl, by show some (Value.int IntKind.i64 _) = some (Value.int IntKind.i64 _); congr 2; omega, trivial⟩ Ent.refl
     by_cases e : j = m
     ·subst e; rw [hy] at hy'; cases hy'; exact h5
     ·exact g1 j y' (by omega) h2 hy'
   ·have h4 : (decide ((b : Int) - 1 ≥ 0) && f.ur) = false := h4
    have e : (if f.ur = false then L ++ [x] else ins sur L x) = L.take a ++ x :: L.drop a := by
     cases hu : f.ur
     ·rw [if_pos rfl, hf0 hu, List.take_length, List.drop_length]
     ·rw [if_neg (by decide)]
      rw [hu, Bool.and_true] at h4
      have h4 := of_decide_eq_false h4
      obtain ⟨g1, g2⟩ := hf1 hu
      exact ins_at ha (fun j y hj hy => g1 j y (by omega) hj hy) g2
    refine HR.exit I ?_
    exact hj2 a _ _ ⟨ha, e⟩ ⟨I, I, I, trivial⟩ Ent.refl
 ·refine HR.cond I (fun h4 => ?_) (fun h4 => ?_)
  ·have h4 : T.length = 16 := by have h4 : ((T.length : Int) == 16) = true := h4; simp at h4; omega
   have hM0 : ¬ M < 0 := fun e => h3 ⟨h4, .inr e⟩
   obtain ⟨m, rfl⟩ : ∃ m : Nat, M = m := ⟨M.toNat, by omega⟩
   rw [if_pos h4, Int.toNat_natCast] at hroom
   refine HR.region ?_
   repeat' (first | refine zn ?_ | apply zb ?_ ?_ | exact zc | (refine zi fun hb => ?_; try simp at hb) | intro (bk : Nat))
   refine HL.callO fn156 I I (fun w hw => r16without_any T m v1 w ((Rd.own 0 rfl).at hw) (by omega) (by omega)) ?_
   intro u
   repeat' (first | refine zn ?_ | apply zb ?_ ?_ | exact zc | (refine zi fun hb => ?_; try simp at hb) | intro (bk : Nat))
   rw [← hroom]
   exact hj u _ _ trivial ⟨I, I, trivial⟩ (Ent.pick [0, 2] I I)
  ·have h4 : ¬ T.length = 16 := by intro e; have h4 : ((T.length : Int) == 16) = false := h4; rw [e] at h4; cases h4
   rw [if_neg h4] at hroom
   subst hroom
   refine HR.skip ?_
   exact hj v1 _ _ trivial ⟨I, I, trivial⟩ (Ent.pick [0, 1] I I)
end Go.Proofs.YtgdgclmkpoaagaaGreat
namespace Go.Proofs.YtgdgclmkpoaagaaGreat
open Go.GX Go.RowKit
attribute [local irreducible] Calls Run RunL RunQ RunD HR HL HD blkC ownC Rd
open Nd
theorem bold_le (now life : Int) (m : Ma) : (!bold now life m) = decide (tick now - tick m.si ≤ tick life) := by
 unfold bold
 by_cases h : tick now - tick m.si > tick life
 ·rw [decide_eq_true h, decide_eq_false (by omega)]; rfl
 ·rw [decide_eq_false h, decide_eq_true (by omega)]; rfl
theorem r13exp_any (l : List Ma) (now life : Int) (v : Value) (w : World) (hv : Sl w v (cellsOf maC l) l.length) (hl : l.length ≤ 1000) :
  Calls Tryz.prog 97 #[v, .int .i64 now, .int .i64 life] w fun e w' => ∃ v', e = .returned v' ∧ Sat (base w) [ownC v' 73 10 (bexp l now life).length (cellsOf maC (bexp l now life))] w' := by
 have h16 : (l.take 16).length ≤ 16 := by simp; omega
 have hcl : ∀ T : List Ma, (cellsOf maC T).length = T.length * 10 := cellsOf_len maC_len
 unfold bexp
 refine calls_hr Tryz.func97 I (Nat.le_of_ble_eq_true I) ?_
 refine HR.sub (σ' := [(0, v), (1, .int .i64 now), (2, .int .i64 life)]) ⟨I, I, I, trivial⟩ ?_
 repeat' (first | refine zh ?_ | intro (bk : Nat))
 refine HL.callO fn168 I I (fun w hw => r13first_any l v w ((Rd.arg hv).at hw) hl) ?_
 intro v1
 obtain ⟨T, hT⟩ : ∃ T, T = l.take 16 := ⟨_, rfl⟩
 rw [← hT] at h16 ⊢
 repeat' (first | refine zh ?_ | intro (bk : Nat))
 refine HR.nilC 73 10 ?_
 refine HR.loop2 (α := Nat) (β := Value) (fun k o => k ≤ T.length) (fun k o => [(1, .int .i64 now), (2, .int .i64 life), (7, v1), (8, o), (9, .int .i64 (k : Int))]) (fun k o => [ownC o 73 10 ((T.take k).filter fun m => !bold now life m).length (cellsOf maC ((T.take k).filter fun m => !bold now life m)), ownC v1 73 10 T.length (cellsOf maC T)]) (fun k _ => T.length - k) 0 (.slice none 0 0) (Nat.zero_le _) ⟨I, I, I, I, I, trivial⟩ (Ent.pick [0, 1] I I) ?_
 rintro k o hk ih
 have hfl : ((T.take k).filter fun m => !bold now life m).length ≤ 16 := Nat.le_trans (List.length_filter_le _ _) (by simp; omega)
 repeat' (first | refine zh ?_ | refine HL.lenR (Rd.own 1 I) I I I ?_ | intro (bk : Nat))
 refine HR.cond I (fun h2 => ?_) (fun h2 => ?_)
 ·have hlt : k < T.length := by have := of_decide_eq_true h2; omega
  obtain ⟨x, hx⟩ := getSome hlt
  have hft := filt_take (fun m => !bold now life m) hx
  have t1 := tick_rng now
  have t2 := tick_rng x.si
  have t3 := tick_rng life
  repeat' (first | refine zh ?_ | intro (bk : Nat))
  refine HR.regionD [(0, true), (2, true), (3, true), (4, true), (5, true), (6, true), (9, true), (1, false), (7, false), (8, true), (10, false), (11, true)] [1] I I hmix (by kernel_rfl) ?_
  repeat' (first | refine zd ?_ | refine HD.callB [1] I I fn169 I I I (fun w _ => r13lim_any _ w) ?_ | refine HD.idxR (Rd.own 0 I) elemMa k I I I I I hlt ?_ | refine HD.fieldN 9 (Rd.own 0 I) (by rw [hcl]; omega) I I I I I I I I ?_ | refine HD.loadI (Rd.own 0 I) I I I I I (cells_get maC_len hx (i := 9) I) ?_)
  refine HD.nil ?_
  refine HR.cond I (fun h3 => ?_) (fun h3 => ?_)
  ·have h3 : (!bold now life x) = true := by rw [bold_le]; exact h3
   rw [if_pos h3] at hft
   repeat' (first | refine zh ?_ | refine HL.idxR (Rd.own 1 I) elemMa k I I I I hlt ?_ | refine HL.loadE (Rd.own 1 I) I I I I (by simp) I (cellsOf_get maC_len hx) ?_ | refine HL.bslice elemMa I I I I I (by decide) (by decide) ?_ | intro (bk : Nat))
   intro va
   repeat' (first | refine zh ?_ | refine HL.appR 1 I elemMa (Rd.own 0 I) I I I I (allOne_spec I) (by omega) (by omega) ?_ | intro (bk : Nat))
   intro o2
   repeat' (first | refine zh ?_ | intro (bk : Nat))
   refine ih (k + 1) o2 _ _ hlt (by omega) ⟨I, I, I, I, I, trivial⟩ (Ent.trans (Ent.pick [1, 2] I I) (Ent.own0 ?_ ?_))
   ·rw [hft]; simp
   ·rw [hft, cellsOf_app]; rfl
  ·have h3 : (!bold now life x) = false := by rw [bold_le]; exact h3
   rw [if_neg (by rw [h3]; decide)] at hft
   repeat' (first | refine zh ?_ | intro (bk : Nat))
   refine ih (k + 1) o _ _ hlt (by omega) ⟨I, I, I, I, I, trivial⟩ (Ent.own0 ?_ ?_)
   ·rw [hft]
   ·rw [hft]
 ·have hke : k = T.length := by have := of_decide_eq_false h2; omega
  subst hke
  rw [List.take_length]
  repeat' (first | refine zh ?_ | intro (bk : Nat))
  refine HR.ret Tryz.func97 I [_] (fun _ _ => ⟨I, trivial⟩) ?_
  exact fun w' hw => ⟨o, rfl, hw.pick [0] I rfl⟩
theorem r13take_any (l : List Ma) (to now life : Int) (v : Value) (w : World) (hv : Sl w v (cellsOf maC l) l.length) (hl : l.length ≤ 1000) :
  Calls Tryz.prog 137 #[v, .int .i64 to, .int .i64 now, .int .i64 life] w fun e w' => ∃ v', e = .returned (.tuple ⟨[.agg ⟨frC (btake l to now life).1⟩, v', .bool (btake l to now life).2.2]⟩) ∧ True ∧ Sat (base w) [ownC v' 73 10 (btake l to now life).2.1.length (cellsOf maC (btake l to now life).2.1)] w' := by
 have hcl : ∀ T : List Ma, (cellsOf maC T).length = T.length * 10 := cellsOf_len maC_len
 have hE := btake_exp l to now life
 have h16 := bexp_len l now life
 refine calls_hr Tryz.func137 I (Nat.le_of_ble_eq_true I) ?_
 refine HR.sub (σ' := [(0, v), (1, .int .i64 to), (2, .int .i64 now), (3, .int .i64 life)]) ⟨I, I, I, I, trivial⟩ ?_
 repeat' (first | refine zh ?_ | intro (bk : Nat))
 refine HL.callO fn97 I I (fun w hw => r13exp_any l now life v w ((Rd.arg hv).at hw) hl) ?_
 intro v1
 obtain ⟨T, hT⟩ : ∃ T, T = bexp l now life := ⟨_, rfl⟩
 rw [← hT] at h16 hE ⊢
 repeat' (first | refine zh ?_ | intro (bk : Nat))
 refine HR.loop (ι := Nat) (fun k => k ≤ T.length ∧ ∀ j y, j < k → T[j]? = some y → (y.f.dst == to) = false) (fun k => [(1, .int .i64 to), (8, .pointer (some ⟨bk, 0, none⟩)), (11, v1), (12, .int .i64 (k : Int))]) (fun _ => [ownC v1 73 10 T.length (cellsOf maC T), blkC bk (frC fr0) 42]) (fun k => T.length - k) 0 ⟨Nat.zero_le _, fun j y hj => absurd hj (Nat.not_lt_zero _)⟩ ⟨I, I, I, I, trivial⟩ (Ent.pick [0, 1] I I) ?_
 rintro k ⟨hk, hno⟩ ih
 repeat' (first | refine zh ?_ | refine HL.lenR (Rd.own 0 I) I I I ?_ | intro (bk : Nat))
 refine HR.cond I (fun h2 => ?_) (fun h2 => ?_)
 ·have hlt : k < T.length := by have := of_decide_eq_true h2; omega
  obtain ⟨x, hx⟩ := getSome hlt
  repeat' (first | refine zh ?_ | refine HL.idxR (Rd.own 0 I) elemMa k I I I I hlt ?_ | refine HL.fieldN 0 (Rd.own 0 I) (by rw [hcl]; omega) I I I I I I I ?_ | refine HL.fieldN 2 (Rd.own 0 I) (by rw [hcl]; omega) I I I I I I I ?_ | refine HL.loadI (Rd.own 0 I) I I I I (cells_get maC_len hx (i := 2) I) ?_ | intro (bk : Nat))
  refine HR.cond I (fun h3 => ?_) (fun h3 => ?_)
  ·have h3 : (x.f.dst == to) = true := h3
   have hf : T.findIdx? (fun m => m.f.dst == to) = some k := by
    rcases fidx_cases (fun m : Ma => m.f.dst == to) T with ⟨_, _, h⟩ | ⟨i, b, _, e, hb, hpb, hi⟩
    ·have := h x (List.mem_of_getElem? hx); rw [this] at h3; cases h3
    ·rw [e]
     rcases Nat.lt_trichotomy i k with h | h | h
     ·rw [hno i b h hb] at hpb; cases hpb
     ·rw [h]
     ·have := hi k x h hx; rw [this] at h3; cases h3
   rw [hf] at hE
   have hE : btake l to now life = (x.f, T.eraseIdx k, true) := by rw [hE]; simp [List.getD_eq_getElem?_getD, hx]
   rw [hE]
   repeat' (first | refine zh ?_ | intro (bk : Nat))
   refine HR.regionD [(0, true), (1, true), (2, true), (3, true), (4, true), (5, true), (6, true), (7, false), (8, false), (9, true), (10, true)] [0] I I hmix (by kernel_rfl) ?_
   repeat' (first | refine HD.ev I I I ?_ | refine HD.evc I I I (by first | omega | (simp; done) | (simp; omega)) ?_ | refine HD.idxR (Rd.own 0 I) elemMa k I I I I I hlt ?_ | refine HD.fieldN 0 (Rd.own 0 I) (by rw [hcl]; omega) I I I I I I I I ?_ | refine HD.loadE (us := frC x.f) (Rd.own 0 I) I I I I I (by simp) I (ma_fr hx) ?_ | refine HD.L 0 I I I I I ?_ | refine HD.L 1 I I I I I ?_ | refine HD.L 2 I I I I I ?_ | refine HD.L 3 I I I I I ?_ | refine HD.build I I I ?_ | refine HD.field I I I ?_ | refine HD.skip I I I ?_ | refine HD.skipO I I I ?_ | (refine HD.one I ?_; first | refine HL.ev I I ?_ | (refine HL.callO fn190 I I (fun w hw => r13without_any T k v1 w ((Rd.own 0 rfl).at hw) (by omega) hlt) ?_; intro r) | (refine HL.isLoad ?_; first | refine HL.L 0 I I I I ?_ | refine HL.L 1 I I I I ?_ | refine HL.L 2 I I I I ?_ | refine HL.L 3 I I I I ?_) | (refine HL.isStore ?_; first | refine HL.S 0 I I I I I ?_ | refine HL.S 1 I I I I I ?_ | refine HL.S 2 I I I I I ?_ | refine HL.S 3 I I I I I ?_) | (refine HL.alloc I I ?_; intro bk)) | refine HL.back [1] rfl rfl ?_ | refine HD.nil ?_)
   repeat' (first | refine zh ?_ | intro (bk : Nat))
   refine HR.ret Tryz.func137 I [_, _, _] (fun w hw => ⟨⟨_, rfl, loadVarR hw 2 I I I I rfl⟩, rfl, rfl, trivial⟩) ?_
   exact fun w' hw => ⟨r, rfl, trivial, hw.pick [0] I rfl⟩
  ·have h3 : (x.f.dst == to) = false := h3
   repeat' (first | refine zh ?_ | intro (bk : Nat))
   refine ih (k + 1) _ _ ⟨hlt, fun j y hj hy => ?_⟩ (by omega) ⟨I, I, I, I, trivial⟩ Ent.refl
   by_cases e : j = k
   ·subst e; rw [hx] at hy; cases hy; exact h3
   ·exact hno j y (by omega) hy
 ·have hke : k = T.length := by have := of_decide_eq_false h2; omega
  subst hke
  have hf : T.findIdx? (fun m => m.f.dst == to) = none := by
   rcases fidx_cases (fun m : Ma => m.f.dst == to) T with ⟨_, h, _⟩ | ⟨i, b, _, e, hb, hpb, hi⟩
   ·exact h
   ·rw [hno i b (List.getElem?_eq_some_iff.1 hb).1 hb] at hpb; cases hpb
  rw [hf] at hE
  have hE : btake l to now life = (fr0, T, false) := hE
  rw [hE]
  repeat' (first | refine zh ?_ | intro (bk : Nat))
  refine HR.ret Tryz.func137 I [_, _, _] (fun w hw => ⟨⟨_, rfl, loadVarR hw 1 I I I I rfl⟩, rfl, rfl, trivial⟩) ?_
  exact fun w' hw => ⟨v1, rfl, trivial, hw.pick [0] I rfl⟩
end Go.Proofs.YtgdgclmkpoaagaaGreat
namespace Go.Proofs.YtgdgclmkpoaagaaGreat
open Go.GX Go.RowKit
attribute [local irreducible] Calls Run RunL RunQ RunD HR HL HD blkC ownC Rd
open Nd
theorem drop_take_succ {α : Type} {l : List α} {k d : Nat} {x : α} (hx : l[k]? = some x) : (l.take (k + 1)).drop d = if d ≤ k then (l.take k).drop d ++ [x] else (l.take k).drop d := by
 have hk := (List.getElem?_eq_some_iff.1 hx).1
 rw [take_succ_get hx]
 split
 ·rw [List.drop_append_of_le_length (by simp; omega)]
 ·rw [List.drop_eq_nil_of_le (by simp; omega), List.drop_eq_nil_of_le (by simp; omega)]
theorem r16fresh_any (l : List Pr) (p : Pr) (v : Value) (w : World) (hv : Sl w v (cellsOf prC l) l.length) (hl : l.length ≤ 1000) :
  Calls Tryz.prog 138 #[v, .agg ⟨prC p⟩] w fun e w' => ∃ v', e = .returned (.tuple ⟨[v', .bool (mfresh l p).2]⟩) ∧ True ∧ Sat (base w) [ownC v' 135 2 (mfresh l p).1.length (cellsOf prC (mfresh l p).1)] w' := by
 have hll := lastl l
 refine calls_hr Tryz.func138 I (Nat.le_of_ble_eq_true I) ?_
 refine HR.sub (σ' := [(0, v), (1, .agg ⟨prC p⟩)]) ⟨I, I, trivial⟩ ?_
 repeat' (first | refine zh ?_ | intro (bk : Nat))
 refine HR.nilC 135 2 ?_
 obtain ⟨d, hd⟩ : ∃ d, d = l.length - 32 := ⟨_, rfl⟩
 refine HR.loop2 (α := Nat) (β := Value) (fun k o => k ≤ l.length) (fun k o => [(0, v), (3, .pointer (some ⟨bk, 0, none⟩)), (6, o), (7, .bool (decide (p ∉ (l.take k).drop d))), (8, .int .i64 (k : Int))]) (fun k o => [ownC o 135 2 ((l.take k).drop d).length (cellsOf prC ((l.take k).drop d)), blkC bk (prC p) 135]) (fun k _ => l.length - k) 0 (.slice none 0 0) (Nat.zero_le _) ⟨rfl, rfl, rfl, by simp; rfl, rfl, trivial⟩ (by rw [List.take_zero, List.drop_nil]; exact Ent.pick [0, 1] I I) ?_
 rintro k o hk ih
 have htl : ((l.take k).drop d).length ≤ 32 := by simp; omega
 repeat' (first | refine zh ?_ | refine HL.lenR (Rd.arg hv) I I I ?_ | intro (bk : Nat))
 refine HR.cond I (fun h2 => ?_) (fun h2 => ?_)
 ·have hlt : k < l.length := by have := of_decide_eq_true h2; omega
  obtain ⟨x, hx⟩ := getSome hlt
  have hst := drop_take_succ (d := d) hx
  repeat' (first | refine zh ?_ | refine HL.lenR (Rd.arg hv) I I I ?_ | intro (bk : Nat))
  refine HR.cond I (fun h3 => ?_) (fun h3 => ?_)
  ·have h3 : d ≤ k := by have h3 : (k : Int) ≥ (l.length : Int) - 32 := of_decide_eq_true h3; omega
   rw [if_pos h3] at hst
   repeat' (first | refine zh ?_ | refine HL.idxR (Rd.arg hv) elemPr k I I I I hlt ?_ | refine HL.loadE (Rd.arg hv) I I I I (by simp) I (cellsOf_get prC_len hx) ?_ | refine HL.bslice elemPr I I I I I (by decide) (by decide) ?_ | intro (bk : Nat))
   intro va
   repeat' (first | refine zh ?_ | intro (bk : Nat))
   refine HL.appR 1 I elemPr (Rd.own 0 I) I I I I (allOne_spec I) (by omega) (by omega) ?_
   intro o2
   repeat' (first | refine zh ?_ | intro (bk : Nat))
   refine HR.regionQ hmix (by kernel_rfl) ?_
   repeat' (first | refine zq ?_ | refine HQ.idxR (Rd.arg hv) elemPr k I I I I hlt ?_ | refine HQ.loadE (Rd.arg hv) I I I I (by simp) I (cellsOf_get prC_len hx) ?_ | refine RunQ.neS I (by kernel_rfl) (by kernel_rfl) I I I ?_ | apply zb ?_ ?_ | exact zc | (refine zi fun hb => ?_; try simp at hb))
   repeat' (first | refine zh ?_ | intro (bk : Nat))
   refine ih (k + 1) o2 _ _ hlt (by omega) ⟨rfl, rfl, rfl, ?_, rfl, trivial⟩ (Ent.trans (Ent.pick [1, 2] I I) (Ent.own0 ?_ ?_))
   ·show some (Value.bool _) = some (Value.bool _)
    congr 2
    rw [hst, Bool.eq_iff_iff]
    obtain ⟨x1, x2⟩ := x
    obtain ⟨p1, p2⟩ := p
    simp
    intro _
    rw [eq_comm (a := x1), eq_comm (a := x2)]
   ·rw [hst]; simp
   ·rw [hst, cellsOf_app]; rfl
  ·have h3 : ¬ d ≤ k := by have h3 : ¬ (k : Int) ≥ (l.length : Int) - 32 := of_decide_eq_false h3; omega
   rw [if_neg h3] at hst
   repeat' (first | refine zh ?_ | intro (bk : Nat))
   refine ih (k + 1) o _ _ hlt (by omega) ⟨rfl, rfl, rfl, by rw [hst]; rfl, rfl, trivial⟩ (Ent.own0 (by rw [hst]) (by rw [hst]))
 ·have hke : k = l.length := by have := of_decide_eq_false h2; omega
  subst hke
  have hlast : (l.take l.length).drop d = last 32 l := by rw [List.take_length, hd]; rfl
  have hspec : mfresh l p = if p ∈ last 32 l then (last 32 l, false) else (last 32 (last 32 l ++ [p]), true) := rfl
  rw [hspec, hlast]
  obtain ⟨T, hT⟩ : ∃ T, T = last 32 l := ⟨_, rfl⟩
  rw [← hT] at hll ⊢
  repeat' (first | refine zh ?_ | intro (bk : Nat))
  refine HR.cond I (fun h4 => ?_) (fun h4 => ?_)
  ·have h4 : p ∈ T := by have h4 : (!decide (p ∉ T)) = true := h4; simpa using h4
   rw [if_pos h4]
   repeat' (first | refine zh ?_ | intro (bk : Nat))
   refine HR.ret Tryz.func138 I [_, _] (fun _ _ => ⟨I, I, trivial⟩) ?_
   exact fun w' hw => ⟨o, rfl, trivial, hw.pick [0] I rfl⟩
  have h4 : ¬ p ∈ T := by have h4 : (!decide (p ∉ T)) = false := h4; simpa using h4
  rw [if_neg h4]
  repeat' (first | refine zh ?_ | refine HL.lenR (Rd.own 0 I) I I I ?_ | intro (bk : Nat))
  refine HR.join (ι := Value × List Pr) (fun i => i.2.length ≤ 31 ∧ last 32 (T ++ [p]) = i.2 ++ [p]) (fun i => [(3, .pointer (some ⟨bk, 0, none⟩)), (6, i.1)]) (fun i => [ownC i.1 135 2 i.2.length (cellsOf prC i.2), blkC bk (prC p) 135]) (fun i => ?_) (fun hj => ?_)
  ·obtain ⟨u, L⟩ := i
   rintro ⟨hL, e⟩
   have hL : L.length ≤ 31 := hL
   have e : last 32 (T ++ [p]) = L ++ [p] := e
   rw [e]
   repeat' (first | refine zh ?_ | refine HL.bslice elemPr I I I I I (by decide) (by decide) ?_ | intro (bk : Nat))
   intro va
   repeat' (first | refine zh ?_ | intro (bk : Nat))
   refine HL.appR 1 I elemPr (Rd.own 0 I) I I I I (allOne_spec I) (by omega) (by omega) ?_
   intro v2
   repeat' (first | refine zh ?_ | intro (bk : Nat))
   refine HR.ret Tryz.func138 I [_, _] (fun _ _ => ⟨I, I, trivial⟩) ?_
   refine fun w' hw => ⟨v2, rfl, trivial, Ent.own0 (by simp) ?_ w' (hw.pick [1] I rfl)⟩
   rw [cellsOf_app]; rfl
  ·refine HR.cond I (fun h5 => ?_) (fun h5 => ?_)
   ·have h5 : T.length = 32 := by have h5 : ((T.length : Int) == 32) = true := h5; simp at h5; omega
    refine HR.region ?_
    repeat' (first | refine zn ?_ | refine HL.subO (sz := 2) 1 T.length 0 I I I I I (.inr ⟨_, _, rfl, rfl⟩) (.inl ⟨rfl, rfl⟩) (by omega) (Nat.le_refl _) ?_ | apply zb ?_ ?_ | exact zc | (refine zi fun hb => ?_; try simp at hb) | intro (bk : Nat))
    refine hj (_, T.drop 1) _ _ ⟨by show (T.drop 1).length ≤ 31; simp; omega, ?_⟩ ⟨I, I, trivial⟩ (Ent.own0 (by simp) ?_)
    ·show last 32 (T ++ [p]) = T.drop 1 ++ [p]
     unfold last
     rw [show (T ++ [p]).length - 32 = 1 by simp; omega, List.drop_append_of_le_length (by omega)]
    ·have hd1 := cellsOf_drop prC_len 1 T
     rw [hd1, List.take_of_length_le (by rw [cellsOf_len prC_len, List.length_drop]; exact Nat.le_refl _)]
   ·have h5 : T.length ≤ 31 := by
     have h5 : ((T.length : Int) == 32) = false := h5
     have : (T.length : Int) ≠ 32 := by simpa using h5
     omega
    refine HR.skip ?_
    refine hj (o, T) _ _ ⟨h5, ?_⟩ ⟨I, I, trivial⟩ Ent.refl
    show last 32 (T ++ [p]) = T ++ [p]
    unfold last
    rw [show (T ++ [p]).length - 32 = 0 by simp; omega]; rfl
end Go.Proofs.YtgdgclmkpoaagaaGreat
namespace Nd
open Go.GX Tp
theorem Ord.setTable {n : Nd} (h : Ord n) {t : List Ro} (ht : Tab n.addr t) : Ord { n with table := t } := { h with table := ht }
theorem Ord.setLinks {n : Nd} (h : Ord n) {t : List Li} (ht : lchk t = 0) : Ord { n with links := t } := { h with links := ht }
theorem Ord.deliver {n : Nd} (h : Ord n) (d : De) : Ord (deliver n d) := by
 unfold Nd.deliver
 split
 ·exact h.lose
 ·exact { h with inbox := by show (n.inbox ++ [d]).length ≤ 256; simp; omega }
theorem deliver_table (n : Nd) (d : De) : (deliver n d).table = n.table ∧ (deliver n d).addr = n.addr := by
 unfold deliver; split <;> exact ⟨rfl, rfl⟩
theorem Good.refl {n : Nd} (h : Ord n) : Good n n := ⟨h, rfl, Kept.refl _⟩
theorem Good.trans {a b c : Nd} (h : Good a b) (h' : Good b c) : Good a c := ⟨h'.ord, h'.addr.trans h.addr, h.kept.trans h'.kept⟩
theorem Good.of_eq {n m : Nd} (h : Ord m) (h1 : m.table = n.table) (h2 : m.addr = n.addr) : Good n m := ⟨h, h2, by rw [h1]; exact Kept.refl _⟩
theorem Good.lose {n m : Nd} (h : Good n m) : Good n (lose m) := ⟨h.ord.lose, h.addr, h.kept⟩
theorem Good.queue {n m : Nd} (h : Good n m) (f : Fr) : Good n (queue m f).1 := h.trans (.of_eq (h.ord.queue f) (queue_table m f).1 (queue_table m f).2)
theorem Good.deliver {n m : Nd} (h : Good n m) (d : De) : Good n (deliver m d) := h.trans (.of_eq (h.ord.deliver d) (deliver_table m d).1 (deliver_table m d).2)
theorem advertised_good {n m : Nd} {f : Fr} (h : Good n m) (hf : okN f.fr = true) (hne : f.fr ≠ m.addr) : Good n (advertised m f) := by
 unfold advertised
 simp only
 have k1 : ∀ a : Nd, Good n a → a.addr = m.addr → Good n (if a.poll > 0 ∧ a.parent = 255 ∧ (rhop (rdec f.da).1 0).2 = true then { a with parent := f.fr } else a) := by
  intro a h2 e2
  split
  ·exact ⟨{ h2.ord with parent := .inr ⟨hf, fun e => hne (e.trans e2)⟩ }, h2.addr, h2.kept⟩
  ·exact h2
 have k2 : ∀ a : Nd, Good n a → a.addr = m.addr → Good n { a with table := rupd a.table a.addr f.fr (lcost a.links f.fr) (rdec f.da).1 } := by
  intro a h1 e1
  obtain ⟨g1, g2⟩ := rupd_tab (fr := f.fr) (cost := lcost a.links f.fr) (adv := (rdec f.da).1) h1.ord.table
  exact ⟨h1.ord.setTable g1, h1.addr, h1.kept.trans g2⟩
 have h1 : Good n { m with links := lseen m.links f.fr true } := ⟨h.ord.setLinks (lseen_ok _ _ _), h.addr, h.kept⟩
 split
 ·exact h1
 ·exact k1 _ (k2 _ h1 I) I
theorem drain_good {n : Nd} {fr now : Int} : ∀ (k : Nat) {m : Nd}, Good n m → Good n (drain fr now k m)
 | 0, _, h => h
 | k + 1, m, h => by
  unfold drain
  simp only
  have hb := (btake_len m.boxes fr now 120).1
  split
  ·exact drain_good k (Good.queue (m := { m with boxes := (btake m.boxes fr now 120).2.1 }) ⟨h.ord.setBoxes hb, h.addr, h.kept⟩ _)
  ·exact ⟨h.ord.setBoxes hb, h.addr, h.kept⟩
theorem polled_good {n m : Nd} {f : Fr} {now : Int} (h : Good n m) (hf : okN f.fr = true) (hne : f.fr ≠ m.addr) : Good n (polled m f now) := by
 unfold polled
 refine drain_good _ ?_
 obtain ⟨g1, g2⟩ := rupd_tab (fr := f.fr) (cost := 10) (adv := [⟨f.fr, f.sq, 0, 0⟩]) h.ord.table
 obtain ⟨c1, c2⟩ := child_asc h.ord.kids f.fr
 refine ⟨{ h.ord with table := g1, kids := c1, kid := fun x hx => ?_ }, h.addr, h.kept.trans g2⟩
 rcases (c2 x).1 hx with rfl | hx
 ·exact ⟨hf, hne⟩
 ·exact h.ord.kid x hx
theorem received_good {n m : Nd} {f : Fr} {now : Int} (h : Good n m) : Good n (received m f now) := by
 unfold received
 simp only
 have h1 : Good n { m with seen := (mfresh m.seen ⟨f.so, f.sq⟩).1 } := ⟨{ h.ord with seen := mfresh_len _ _ }, h.addr, h.kept⟩
 have hp : ∀ q, Good n { m with seen := (mfresh m.seen ⟨f.so, f.sq⟩).1, parts := q } := fun q => ⟨h1.ord.setParts q, h1.addr, h1.kept⟩
 split
 ·exact h1
 ·split
  ·split
   ·exact h1
   ·split
    ·exact (hp _).deliver _
    ·exact hp _
  ·split
   ·exact h1.lose
   ·exact h1.queue _
theorem hear_good (n : Nd) (now : Int) (f : Fr) : Good (order n) (hear n now f) := by
 have ho := Good.refl (order_ord n)
 unfold hear
 simp only
 split
 ·exact ho
 ·rename_i h1
  have hc : fchk f = 0 := by
   rcases Int.lt_trichotomy (fchk f) 0 with h | h | h
   ·exact absurd (Or.inl (by omega)) h1
   ·exact h
   ·exact absurd (Or.inl (by omega)) h1
  have hf := (fchk_fr hc).1
  have hne : f.fr ≠ (order n).addr := fun e => h1 (.inr (.inl e))
  split
  ·exact advertised_good ho hf hne
  ·split
   ·exact polled_good ho hf hne
   ·split
    ·exact received_good ho
    ·exact ho
end Nd
namespace Go.Proofs.YtgdgclmkpoaagaaGreat
open Go.GX Go.RowKit
attribute [local irreducible] Calls Run RunL RunQ RunD HR HL HD blkC ownC Rd
open Nd
theorem fn236 : IsFn Tryz.prog 236 := ⟨⟨_, _, Tryz.func236, rfl, by decide⟩⟩
theorem fn191 : IsFn Tryz.prog 191 := ⟨⟨_, _, Tryz.func191, rfl, by decide⟩⟩
theorem rsize_any (i c n : Int) (w : World) (hc : -1000000 ≤ c ∧ c ≤ 1000000) (hi : i < c) : Calls Tryz.prog 236 #[.int .i64 i, .int .i64 c, .int .i64 n] w fun e w' => e = .returned (.bool (fits i c n)) ∧ Below w.heap.size w w' := by
 unfold Nd.fits
 refine calls_hr Tryz.func236 I (Nat.le_of_ble_eq_true I) ?_
 refine HR.sub (σ' := [(0, .int .i64 i), (1, .int .i64 c), (2, .int .i64 n)]) ⟨I, I, I, trivial⟩ ?_
 repeat' (first | refine zh ?_ | intro (bk : Nat))
 refine HR.cond I (fun h => ?_) (fun h => ?_)
 ·have h : i < c - 1 := of_decide_eq_true h
  rw [if_pos (by omega)]
  repeat' (first | refine zh ?_ | intro (bk : Nat))
  refine HR.ret Tryz.func236 I [_] (fun _ _ => ⟨I, trivial⟩) ?_
  exact fun w' hw => ⟨rfl, hw.belowB⟩
 have h : ¬ i < c - 1 := of_decide_eq_false h
 rw [if_neg (by omega)]
 repeat' (first | refine zh ?_ | intro (bk : Nat))
 refine HR.cond I (fun h => ?_) (fun h => ?_)
 ·have h : c = 1 := eq_of_beq h
  rw [if_pos h]
  repeat' (first | refine zh ?_ | intro (bk : Nat))
  refine HR.ret Tryz.func236 I [_] (fun _ _ => ⟨I, trivial⟩) ?_
  exact fun w' hw => ⟨rfl, hw.belowB⟩
 have h : ¬ c = 1 := by have h : (c == 1) = false := h; simpa using h
 rw [if_neg h]
 repeat' (first | refine zh ?_ | intro (bk : Nat))
 refine HR.cond I (fun h => ?_) (fun h => ?_)
 ·have h : c = 16 := eq_of_beq h
  rw [if_pos h]
  repeat' (first | refine zh ?_ | apply zb ?_ ?_ | exact zc | (refine zi fun hb => ?_; try simp at hb) | intro (bk : Nat))
  refine HR.ret Tryz.func236 I [_] (fun _ _ => ⟨I, trivial⟩) ?_
  exact fun w' hw => ⟨rfl, hw.belowB⟩
 have h : ¬ c = 16 := by have h : (c == 16) = false := h; simpa using h
 rw [if_neg h]
 repeat' (first | refine zh ?_ | apply zb ?_ ?_ | exact zc | (refine zi fun hb => ?_; try simp at hb) | intro (bk : Nat))
 refine HR.ret Tryz.func236 I [_] (fun _ _ => ⟨I, trivial⟩) ?_
 exact fun w' hw => ⟨rfl, hw.belowB⟩
theorem r15check_any (s : By) (w : World) (hs : s.length ≤ 9223372036854775807) : Calls Tryz.prog 191 #[str s] w fun e w' => e = .returned (.int .i64 (pchk s)) ∧ Below w.heap.size w w' := by
 refine calls_hr Tryz.func191 I (Nat.le_of_ble_eq_true I) ?_
 refine HR.sub (σ' := [(0, str s)]) ⟨I, trivial⟩ ?_
 repeat' (first | refine zh ?_ | intro (bk : Nat))
 refine HR.cond I (fun h => ?_) (fun h => ?_)
 ·have h : s.length < 3 := by have := of_decide_eq_true h; omega
  rw [show pchk s = 5 from if_pos h]
  repeat' (first | refine zh ?_ | intro (bk : Nat))
  refine HR.ret Tryz.func191 I [_] (fun _ _ => ⟨I, trivial⟩) ?_
  exact fun w' hw => ⟨rfl, hw.belowB⟩
 have h : ¬ s.length < 3 := by have := of_decide_eq_false h; omega
 have b1 := (s.getD 1 0).toNat_lt
 have b2 := (s.getD 2 0).toNat_lt
 obtain ⟨x1, h1⟩ : ∃ x1 : Int, x1 = b8 s 1 := ⟨_, rfl⟩
 obtain ⟨x2, h2⟩ : ∃ x2 : Int, x2 = b8 s 2 := ⟨_, rfl⟩
 rw [pchk_is h h1 h2]
 repeat' (first | refine zh ?_ | intro (bk : Nat))
 refine HR.regionQ hmix (by kernel_rfl) ?_
 repeat' (first | refine zq ?_ | fail)
 refine HR.setV 3 (v' := .int .i64 x1) I (by rw [h1]; rfl) ?_
 refine HR.setV 4 (v' := .int .i64 x2) I (by rw [h2]; rfl) ?_
 have b1 : 0 ≤ x1 ∧ x1 ≤ 255 := by rw [h1]; unfold b8; omega
 have b2 : 0 ≤ x2 ∧ x2 ≤ 255 := by rw [h2]; unfold b8; omega
 repeat' (first | refine zh ?_ | refine HL.callB fn236 I I (fun w _ => rsize_any _ _ _ w (by omega) (by omega)) ?_ | apply zb ?_ ?_ | exact zc | (refine zi fun hb => ?_; try simp at hb) | intro (bk : Nat))
 refine HR.cond I (fun h2 => ?_) (fun h2 => ?_)
 ·rw [if_pos h2]
  repeat' (first | refine zh ?_ | intro (bk : Nat))
  refine HR.ret Tryz.func191 I [_] (fun _ _ => ⟨I, trivial⟩) ?_
  exact fun w' hw => ⟨rfl, hw.belowB⟩
 ·have h2 : (((decide (x2 < 1) || decide (x2 > 16)) || decide (x1 ≥ x2)) || !fits x1 x2 ((s.length : Int) - 3)) = false := h2
  rw [if_neg (by rw [h2]; decide)]
  repeat' (first | refine zh ?_ | intro (bk : Nat))
  refine HR.ret Tryz.func191 I [_] (fun _ _ => ⟨I, trivial⟩) ?_
  exact fun w' hw => ⟨rfl, hw.belowB⟩
end Go.Proofs.YtgdgclmkpoaagaaGreat
namespace Go.Proofs.YtgdgclmkpoaagaaGreat
open Go.GX Go.RowKit
attribute [local irreducible] Calls Run RunL RunQ RunD HR HL HD blkC ownC Rd
open Nd
theorem fn209 : IsFn Tryz.prog 209 := ⟨⟨_, _, Tryz.func209, rfl, by decide⟩⟩
theorem fn192 : IsFn Tryz.prog 192 := ⟨⟨_, _, Tryz.func192, rfl, by decide⟩⟩
theorem fn210 : IsFn Tryz.prog 210 := ⟨⟨_, _, Tryz.func210, rfl, by decide⟩⟩
theorem fn170 : IsFn Tryz.prog 170 := ⟨⟨_, _, Tryz.func170, rfl, by decide⟩⟩
theorem fn193 : IsFn Tryz.prog 193 := ⟨⟨_, _, Tryz.func193, rfl, by decide⟩⟩
theorem fn194 : IsFn Tryz.prog 194 := ⟨⟨_, _, Tryz.func194, rfl, by decide⟩⟩
theorem r15valid_any (p : PtV) (w : World) (hr : RdPt w p) (hs : SmPt p.pt) : Calls Tryz.prog 209 #[.agg ⟨ptC p⟩] w fun e w' => e = .returned (.bool (pvalid p.pt)) ∧ Below w.heap.size w w' := by
 obtain ⟨vh, vd, q⟩ := p
 obtain ⟨hh, hd⟩ := hr
 obtain ⟨s1, s2, s3⟩ := hs
 have hh : Sl w vh (cellsOf bC q.hv) q.hv.length := hh
 have hd : Sl w vd (cellsOf sC q.da) q.da.length := hd
 refine calls_hr Tryz.func209 I (Nat.le_of_ble_eq_true I) ?_
 refine HR.sub (σ' := [(0, .agg ⟨ptC ⟨vh, vd, q⟩⟩)]) ⟨I, trivial⟩ ?_
 repeat' (first | refine zh ?_ | refine HL.lenR (Rd.arg hh) I I I ?_ | refine HL.lenR (Rd.arg hd) I I I ?_ | apply zb ?_ ?_ | exact zc | (refine zi fun hb => ?_; try simp at hb) | intro (bk : Nat))
 refine HR.cond I (fun h => ?_) (fun h => ?_)
 ·have h : phead q = true := h
  rw [pvalid_hd h]
  repeat' (first | refine zh ?_ | intro (bk : Nat))
  refine HR.ret Tryz.func209 I [_] (fun _ _ => ⟨I, trivial⟩) ?_
  exact fun w' hw => ⟨rfl, hw.belowB⟩
 have h : phead q = false := h
 have H := phead_is h
 have e1 := H.hv
 have e2 := H.da
 have c0 := H.ct0
 have c1 := H.ct1
 repeat' (first | refine zh ?_ | refine HL.lenR (Rd.arg hh) I I I ?_ | intro (bk : Nat))
 refine HR.loop (ι := Nat) (fun k => k ≤ q.hv.length ∧ (List.range k).all (pone q) = true) (fun k => [(1, .pointer (some ⟨bk, 0, none⟩)), (3, .int .i64 ((pnum (q.hv.take k) : Nat) : Int)), (51, .int .i64 (q.hv.length : Int)), (52, .int .i64 (k : Int))]) (fun _ => [blkC bk (ptC ⟨vh, vd, q⟩) 76]) (fun k => q.hv.length - k) 0 ⟨Nat.zero_le _, rfl⟩ ⟨I, I, I, I, trivial⟩ Ent.refl ?_
 rintro k ⟨hk, hall⟩ ih
 have hpl := pnum_le (q.hv.take k)
 have htl : (q.hv.take k).length ≤ k := by simp; omega
 repeat' (first | refine zh ?_ | intro (bk : Nat))
 refine HR.cond I (fun h2 => ?_) (fun h2 => ?_)
 ·have hlt : k < q.hv.length := by have := of_decide_eq_true h2; omega
  obtain ⟨b, hb⟩ := getSome hlt
  obtain ⟨d, hdk⟩ := getSome (show k < q.da.length by omega)
  have hpo : pone q k = if b then fits k q.ct (d.length : Int) else decide (d = []) := by
   unfold pone
   rw [List.getD_eq_getElem?_getD, List.getD_eq_getElem?_getD, hb, hdk]; rfl
  have hps := pnum_step hb
  have hdl := s3 d (List.mem_of_getElem? hdk)
  repeat' (first | refine zh ?_ | refine HL.idxR (Rd.arg hh) elemB k I I I I hlt ?_ | refine HL.loadI (Rd.arg hh) I I I I (cellsOf_get1 hb) ?_ | intro (bk : Nat))
  refine HR.cond I (fun h4 => ?_) (fun h4 => ?_)
  ·have h4 : b = true := h4
   rw [h4, if_pos rfl] at hps hpo
   repeat' (first | refine zh ?_ | intro (bk : Nat))
   refine HR.regionD [(0, true), (1, true), (2, true), (3, true), (4, true), (5, true), (6, true), (7, true), (8, true), (9, false), (10, true)] [0] I I hmix (by kernel_rfl) ?_
   repeat' (first | refine zd ?_ | refine HD.callB [0] I I fn236 I I I (fun w _ => rsize_any k q.ct d.length w (by omega) (by omega)) ?_ | refine HD.idxR (Rd.arg hd) elemS k I I I I I (by omega) ?_ | refine HD.loadI (Rd.arg hd) I I I I I (cellsOf_get1 hdk) ?_)
   refine HD.nil ?_
   refine HR.cond I (fun h3 => ?_) (fun h3 => ?_)
   ·have h3 : pone q k = false := by rw [hpo]; have h3 : (!fits k q.ct (d.length : Int)) = true := h3; simpa using h3
    rw [pvalid_no hlt h3]
    repeat' (first | refine zh ?_ | intro (bk : Nat))
    refine HR.ret Tryz.func209 I [_] (fun _ _ => ⟨I, trivial⟩) ?_
    exact fun w' hw => ⟨rfl, hw.belowB⟩
   ·have h3 : pone q k = true := by rw [hpo]; have h3 : (!fits k q.ct (d.length : Int)) = false := h3; simpa using h3
    repeat' (first | refine zh ?_ | intro (bk : Nat))
    exact ih (k + 1) _ _ ⟨hlt, all_range_step hall h3⟩ (by omega) ⟨rfl, by rw [hps]; rfl, rfl, rfl, trivial⟩ Ent.refl
  ·have h4 : b = false := h4
   rw [h4, if_neg (by decide)] at hps hpo
   repeat' (first | refine zh ?_ | refine HL.idxR (Rd.arg hd) elemS k I I I I (by omega) ?_ | refine HL.loadI (Rd.arg hd) I I I I (cellsOf_get1 hdk) ?_ | intro (bk : Nat))
   refine HR.cond I (fun h3 => ?_) (fun h3 => ?_)
   ·have h3 : pone q k = false := by rw [hpo]; have h3 : (d != ([] : By)) = true := h3; simpa using h3
    rw [pvalid_no hlt h3]
    repeat' (first | refine zh ?_ | intro (bk : Nat))
    refine HR.ret Tryz.func209 I [_] (fun _ _ => ⟨I, trivial⟩) ?_
    exact fun w' hw => ⟨rfl, hw.belowB⟩
   ·have h3 : pone q k = true := by rw [hpo]; have h3 : (d != ([] : By)) = false := h3; simpa using h3
    repeat' (first | refine zh ?_ | intro (bk : Nat))
    exact ih (k + 1) _ _ ⟨hlt, all_range_step hall h3⟩ (by omega) ⟨rfl, by rw [hps]; rfl, rfl, rfl, trivial⟩ Ent.refl
 ·have hke : k = q.hv.length := by have := of_decide_eq_false h2; omega
  subst hke
  rw [List.take_length]
  have hpv : pvalid q = (decide (((pnum q.hv : Nat) : Int) > 0) && decide (((pnum q.hv : Nat) : Int) < q.ct)) := by
   unfold pvalid
   rw [h, hall]
   simp
  rw [hpv]
  repeat' (first | refine zh ?_ | apply zb ?_ ?_ | exact zc | (refine zi fun hb => ?_; try simp at hb) | intro (bk : Nat))
  refine HR.ret Tryz.func209 I [_] (fun _ _ => ⟨I, trivial⟩) ?_
  exact fun w' hw => ⟨rfl, hw.belowB⟩
theorem r15find_any (L : List PtV) (s id : Int) (v : Value) (w : World) (hv : Sl w v (cellsOf ptC L) L.length) (hl : L.length ≤ 1000000) :
  Calls Tryz.prog 192 #[v, .int .i64 s, .int .i64 id] w fun e w' => e = .returned (.int .i64 (pfi (pts L) s id)) ∧ Below w.heap.size w w' := by
 have hcl : ∀ T : List PtV, (cellsOf ptC T).length = T.length * 6 := cellsOf_len ptC_len
 refine calls_hr Tryz.func192 I (Nat.le_of_ble_eq_true I) ?_
 refine HR.sub (σ' := [(0, v), (1, .int .i64 s), (2, .int .i64 id)]) ⟨I, I, I, trivial⟩ ?_
 repeat' (first | refine zh ?_ | refine HL.lenR (Rd.arg hv) I I I ?_ | intro (bk : Nat))
 refine HR.loop (ι := Nat) (fun k => k ≤ L.length ∧ ∀ j b, j < k → (pts L)[j]? = some b → pis s id b = false) (fun k => [(0, v), (1, .int .i64 s), (2, .int .i64 id), (9, .int .i64 (L.length : Int)), (10, .int .i64 (k : Int))]) (fun _ => []) (fun k => L.length - k) 0 ⟨Nat.zero_le _, fun j b hj => absurd hj (Nat.not_lt_zero _)⟩ ⟨I, I, I, I, I, trivial⟩ Ent.refl ?_
 rintro k ⟨hk, hno⟩ ih
 repeat' (first | refine zh ?_ | intro (bk : Nat))
 refine HR.cond I (fun h2 => ?_) (fun h2 => ?_)
 ·have hlt : k < L.length := by have := of_decide_eq_true h2; omega
  obtain ⟨x, hx⟩ := getSome hlt
  repeat' (first | refine zh ?_ | refine HL.idxR (Rd.arg hv) elemPt k I I I I hlt ?_ | refine HL.fieldN 0 (Rd.arg hv) (by rw [hcl]; omega) I I I I I I I ?_ | refine HL.fieldN 1 (Rd.arg hv) (by rw [hcl]; omega) I I I I I I I ?_ | refine HL.loadI (Rd.arg hv) I I I I (cells_get ptC_len hx (i := 0) I) ?_ | refine HL.loadI (Rd.arg hv) I I I I (cells_get ptC_len hx (i := 1) I) ?_ | apply zb ?_ ?_ | exact zc | (refine zi fun hb => ?_; try simp at hb) | intro (bk : Nat))
  refine HR.cond I (fun h3 => ?_) (fun h3 => ?_)
  ·have h3 : pis s id x.pt = true := h3
   repeat' (first | refine zh ?_ | intro (bk : Nat))
   refine HR.ret Tryz.func192 I [_] (fun _ _ => ⟨I, trivial⟩) ?_
   have e : pfi (pts L) s id = k := fidx_at (pts_get hx) h3 hno
   rw [e]
   exact fun w' hw => ⟨rfl, hw.belowB⟩
  ·have h3 : pis s id x.pt = false := h3
   repeat' (first | refine zh ?_ | intro (bk : Nat))
   refine ih (k + 1) _ _ ⟨hlt, fun j b hj hb => ?_⟩ (by omega) ⟨I, I, I, I, I, trivial⟩ Ent.refl
   by_cases e : j = k
   ·subst e; rw [pts_get hx] at hb; cases hb; exact h3
   ·exact hno j b (by omega) hb
 ·have hke : k = L.length := by have := of_decide_eq_false h2; omega
  subst hke
  have e : pfi (pts L) s id = -1 := fidx_none (fun j b hj hb => hno j b (by rw [pts_len] at hj; exact hj) hb)
  rw [e]
  repeat' (first | refine zh ?_ | intro (bk : Nat))
  refine HR.ret Tryz.func192 I [_] (fun _ _ => ⟨I, trivial⟩) ?_
  exact fun w' hw => ⟨rfl, hw.belowB⟩
theorem r15copy_any (p : PtV) (w : World) (hr : RdPt w p) (h2 : p.pt.hv.length ≤ 1000) (h3 : p.pt.da.length ≤ 1000) :
  Calls Tryz.prog 210 #[.agg ⟨ptC p⟩] w fun e w' => ∃ x : Value × Value, e = .returned (.agg ⟨ptC ⟨x.1, x.2, p.pt⟩⟩) ∧ ShPt ⟨x.1, x.2, p.pt⟩ ∧ Sat (base w) [ptH ⟨x.1, x.2, p.pt⟩, ptD ⟨x.1, x.2, p.pt⟩] w' := by
 obtain ⟨vh, vd, q⟩ := p
 obtain ⟨hh, hd⟩ := hr
 have hh : Sl w vh (cellsOf bC q.hv) q.hv.length := hh
 have hd : Sl w vd (cellsOf sC q.da) q.da.length := hd
 have h2 : q.hv.length ≤ 1000 := h2
 have h3 : q.da.length ≤ 1000 := h3
 obtain ⟨ah, ch, evh, _⟩ := hh.2
 obtain ⟨ad, cd, evd, _⟩ := hd.2
 subst evh
 subst evd
 refine calls_hr Tryz.func210 I (Nat.le_of_ble_eq_true I) ?_
 refine HR.sub (σ' := [(0, .agg ⟨ptC ⟨.slice ah q.hv.length ch, .slice ad q.da.length cd, q⟩⟩)]) ⟨I, trivial⟩ ?_
 refine HR.ctl I ?_
 refine HR.region ?_
 refine HL.box I I ?_
 intro b1
 refine HL.alloc I I ?_
 intro b2
 repeat' (first | refine zh ?_ | intro (bk : Nat))
 refine HL.bslice0 elemB I ?_
 intro va
 repeat' (first | refine zh ?_ | intro (bk : Nat))
 refine HL.appR 0 I elemB (Rd.arg hh) I I I (cellsOf_len bC_len _) (one_allcells bC_one _) (by omega) (by omega) ?_
 intro v1
 refine HL.shape 0 I fun a1 c1 hv1 => ?_
 subst hv1
 repeat' (first | refine zh ?_ | intro (bk : Nat))
 refine HL.bslice0 elemS I ?_
 intro vb
 repeat' (first | refine zh ?_ | intro (bk : Nat))
 refine HL.appR 0 I elemS (Rd.arg hd) I I I (cellsOf_len sC_len _) (one_allcells sC_one _) (by omega) (by omega) ?_
 intro v2
 refine HL.shape 0 I fun a2 c2 hv2 => ?_
 subst hv2
 repeat' (first | refine zh ?_ | intro (bk : Nat))
 refine HR.ret Tryz.func210 I [_] (fun w hw => ⟨⟨_, rfl, loadVarR hw 2 I I I I rfl⟩, trivial⟩) ?_
 refine fun w' hw => ⟨(.slice a1 (0 + q.hv.length) c1, .slice a2 (0 + q.da.length) c2), rfl, ⟨⟨_, _, _, rfl⟩, ⟨_, _, _, rfl⟩⟩, ?_⟩
 have w1 := hw.pick [1, 0] I I
 refine Ent.of_eq ?_ w' w1
 show [ownC _ 4 1 (0 + q.hv.length) ([] ++ cellsOf bC q.hv), ownC _ 9 1 (0 + q.da.length) ([] ++ cellsOf sC q.da)] = [ownC _ 4 1 q.hv.length (cellsOf bC q.hv), ownC _ 9 1 q.da.length (cellsOf sC q.da)]
 rw [List.nil_append, List.nil_append]
 congr 2
 ·exact Nat.zero_add _
 ·rw [Nat.zero_add]
theorem r15whole_any (p : PtV) (w : World) (hh : Sl w p.vh (cellsOf bC p.pt.hv) p.pt.hv.length) (hl : p.pt.hv.length ≤ 1000) :
  Calls Tryz.prog 194 #[.agg ⟨ptC p⟩] w fun e w' => e = .returned (.bool (p.pt.hv.all id)) ∧ Below w.heap.size w w' := by
 obtain ⟨vh, vd, q⟩ := p
 have hh : Sl w vh (cellsOf bC q.hv) q.hv.length := hh
 have hl : q.hv.length ≤ 1000 := hl
 refine calls_hr Tryz.func194 I (Nat.le_of_ble_eq_true I) ?_
 refine HR.sub (σ' := [(0, .agg ⟨ptC ⟨vh, vd, q⟩⟩)]) ⟨I, trivial⟩ ?_
 repeat' (first | refine zh ?_ | refine HL.lenR (Rd.arg hh) I I I ?_ | intro (bk : Nat))
 refine HR.loop (ι := Nat) (fun k => k ≤ q.hv.length ∧ (q.hv.take k).all id = true) (fun k => [(1, .pointer (some ⟨bk, 0, none⟩)), (6, .int .i64 (q.hv.length : Int)), (7, .int .i64 (k : Int))]) (fun _ => [blkC bk (ptC ⟨vh, vd, q⟩) 76]) (fun k => q.hv.length - k) 0 ⟨Nat.zero_le _, by rw [List.take_zero]; rfl⟩ ⟨I, I, I, trivial⟩ Ent.refl ?_
 rintro k ⟨hk, hall⟩ ih
 repeat' (first | refine zh ?_ | intro (bk : Nat))
 refine HR.cond I (fun h6 => ?_) (fun h6 => ?_)
 ·have hlt : k < q.hv.length := by have := of_decide_eq_true h6; omega
  obtain ⟨b6, hb6⟩ := getSome hlt
  repeat' (first | refine zh ?_ | refine HL.idxR (Rd.arg hh) elemB k I I I I hlt ?_ | refine HL.loadI (Rd.arg hh) I I I I (cellsOf_get1 hb6) ?_ | intro (bk : Nat))
  refine HR.cond I (fun h7 => ?_) (fun h7 => ?_)
  ·have h7 : b6 = false := by have h7 : (!b6) = true := h7; simpa using h7
   have hna : q.hv.all id = false := by
    rw [← Bool.not_eq_true]
    intro hh
    have := List.all_eq_true.1 hh b6 (List.mem_of_getElem? hb6)
    rw [h7] at this; cases this
   have hna : (PtV.mk vh vd q).pt.hv.all id = false := hna
   rw [hna]
   repeat' (first | refine zh ?_ | intro (bk : Nat))
   refine HR.ret Tryz.func194 I [_] (fun _ _ => ⟨I, trivial⟩) ?_
   exact fun w' hw => ⟨rfl, hw.belowB⟩
  ·have h7 : b6 = true := by have h7 : (!b6) = false := h7; simpa using h7
   repeat' (first | refine zh ?_ | intro (bk : Nat))
   refine ih (k + 1) _ _ ⟨hlt, ?_⟩ (by omega) ⟨I, I, I, trivial⟩ Ent.refl
   rw [take_succ_get hb6, List.all_append, hall, h7]; rfl
 ·have hke : k = q.hv.length := by have := of_decide_eq_false h6; omega
  subst hke
  rw [List.take_length] at hall
  have hall : (PtV.mk vh vd q).pt.hv.all id = true := hall
  rw [hall]
  repeat' (first | refine zh ?_ | intro (bk : Nat))
  refine HR.ret Tryz.func194 I [_] (fun _ _ => ⟨I, trivial⟩) ?_
  exact fun w' hw => ⟨rfl, hw.belowB⟩
end Go.Proofs.YtgdgclmkpoaagaaGreat
namespace Go.Proofs.YtgdgclmkpoaagaaGreat
open Go.GX Go.RowKit
attribute [local irreducible] Calls Run RunL RunQ RunD HR HL HD blkC ownC Rd
open Nd
theorem r15remove_any (L : List PtV) (i : Nat) (v : Value) (w : World) (hv : Sl w v (cellsOf ptC L) L.length) (hsh : ∀ p ∈ L, ShPt p) (hi : i < L.length) (hl : L.length ≤ 1000) :
  Calls Tryz.prog 193 #[v, .int .i64 (i : Int)] w fun e w' => ∃ v', e = .returned v' ∧ Sat (base w) [ownC v' 76 6 (L.eraseIdx i).length (cellsOf ptC (L.eraseIdx i))] w' := by
 have hstep : ∀ {k : Nat} {x : PtV}, L[k]? = some x → (L.take (k + 1)).eraseIdx i = if k = i then (L.take k).eraseIdx i else (L.take k).eraseIdx i ++ [x] := by
  intro k x hx
  have hkl := (List.getElem?_eq_some_iff.1 hx).1
  have htl : (L.take k).length = k := by simp; omega
  rw [take_succ_get hx]
  split
  ·rename_i h
   subst h
   rw [List.eraseIdx_append_of_length_le (by omega), htl, Nat.sub_self, List.eraseIdx_of_length_le (l := L.take k) (by omega)]; simp
  ·rename_i h
   by_cases h3 : i < k
   ·rw [List.eraseIdx_append_of_lt_length (by omega)]
   ·rw [List.eraseIdx_append_of_length_le (by omega), htl, List.eraseIdx_of_length_le (l := [x]) (by simp; omega), List.eraseIdx_of_length_le (l := L.take k) (by omega)]
 refine calls_hr Tryz.func193 I (Nat.le_of_ble_eq_true I) ?_
 refine HR.sub (σ' := [(0, v), (1, .int .i64 (i : Int))]) ⟨I, I, trivial⟩ ?_
 repeat' (first | refine zh ?_ | intro (bk : Nat))
 refine HL.lenR (Rd.arg hv) I I I ?_
 repeat' (first | refine zh ?_ | intro (bk : Nat))
 refine HR.nilC 76 6 ?_
 refine HR.loop2 (α := Nat) (β := Value) (fun k o => k ≤ L.length) (fun k o => [(0, v), (1, .int .i64 (i : Int)), (5, o), (8, .int .i64 (L.length : Int)), (9, .int .i64 (k : Int))]) (fun k o => [ownC o 76 6 ((L.take k).eraseIdx i).length (cellsOf ptC ((L.take k).eraseIdx i))]) (fun k _ => L.length - k) 0 (.slice none 0 0) (Nat.zero_le _) ⟨I, I, I, I, I, trivial⟩ (by rw [List.take_zero, List.eraseIdx_nil]; exact Ent.refl) ?_
 rintro k o hk ih
 have htl : ((L.take k).eraseIdx i).length ≤ k := Nat.le_trans (List.length_eraseIdx_le _ _) (by simp; omega)
 repeat' (first | refine zh ?_ | intro (bk : Nat))
 refine HR.cond I (fun h2 => ?_) (fun h2 => ?_)
 ·have hlt : k < L.length := by have := of_decide_eq_true h2; omega
  obtain ⟨x, hx⟩ := getSome hlt
  have hst := hstep hx
  have hxs := (hsh x (List.mem_of_getElem? hx)).one
  repeat' (first | refine zh ?_ | intro (bk : Nat))
  refine HR.cond I (fun h3 => ?_) (fun h3 => ?_)
  ·have h3 : ¬ k = i := by have h3 : ((k : Int) != (i : Int)) = true := h3; simp at h3; omega
   rw [if_neg h3] at hst
   repeat' (first | refine zh ?_ | refine HL.idxR (Rd.arg hv) elemPt k I I I I hlt ?_ | refine HL.loadE (Rd.arg hv) I I I I (by simp) I (cellsOf_get ptC_len hx) ?_ | refine HL.bslice elemPt I I I I I (by decide) (by decide) ?_ | intro (bk : Nat))
   intro va
   repeat' (first | refine zh ?_ | intro (bk : Nat))
   refine HL.appR (news := ptC x) 1 I elemPt (Rd.own 0 I) I I I I (allOne_spec hxs) (by omega) (by omega) ?_
   intro o2
   repeat' (first | refine zh ?_ | intro (bk : Nat))
   refine ih (k + 1) o2 _ _ hlt (by omega) ⟨I, I, I, I, I, trivial⟩ (Ent.trans (Ent.pick [1] I I) (Ent.own0 ?_ ?_))
   ·rw [hst]; simp
   ·rw [hst, cellsOf_app]; rfl
  ·have h3 : k = i := by have h3 : ((k : Int) != (i : Int)) = false := h3; simp at h3; omega
   rw [if_pos h3] at hst
   repeat' (first | refine zh ?_ | intro (bk : Nat))
   exact ih (k + 1) o _ _ hlt (by omega) ⟨I, I, I, I, I, trivial⟩ (Ent.own0 (by rw [hst]) (by rw [hst]))
 ·have hke : k = L.length := by have := of_decide_eq_false h2; omega
  subst hke
  rw [List.take_length]
  repeat' (first | refine zh ?_ | intro (bk : Nat))
  refine HR.ret Tryz.func193 I [_] (fun _ _ => ⟨I, trivial⟩) ?_
  exact fun w' hw => ⟨o, rfl, hw⟩
theorem r15order_any (l : List PtV) (v : Value) (w : World) (hv : RdPts w v l) (hs : ∀ p ∈ l, SmPt p.pt) (hl : l.length ≤ 1000) :
  Calls Tryz.prog 170 #[v] w fun e w' => ∃ x : Value × List PtV, e = .returned x.1 ∧ GdPts x (porder (pts l)) ∧ Sat (base w) (ptsC x) w' := by
 have hcl : ∀ T : List PtV, (cellsOf ptC T).length = T.length * 6 := cellsOf_len ptC_len
 refine calls_hr Tryz.func170 I (Nat.le_of_ble_eq_true I) ?_
 refine HR.sub (σ' := [(0, v)]) ⟨I, trivial⟩ ?_
 repeat' (first | refine zh ?_ | intro (bk : Nat))
 refine HL.lenR (Rd.arg hv.s) I I I ?_
 repeat' (first | refine zh ?_ | intro (bk : Nat))
 refine HR.nilC 76 6 ?_
 refine HR.ent (H' := [ownC (.slice none 0 0) 76 6 0 [], groupC []]) (Ent.trans Ent.gnil (Ent.pick [1, 0] I I)) ?_
 refine HR.loop3 (α := Nat) (β := Value) (γ := List PtV) (fun k o L => k ≤ l.length ∧ pts L = ((pts l).take k).foldl pstep [] ∧ ∀ p ∈ L, ShPt p) (fun k o L => [(0, v), (3, o), (6, .int .i64 (l.length : Int)), (7, .int .i64 (k : Int))]) (fun k o L => ptsC (o, L)) (fun k _ _ => l.length - k) 0 (.slice none 0 0) [] ⟨Nat.zero_le _, rfl, fun p hp => by cases hp⟩ ⟨I, I, I, I, trivial⟩ Ent.refl ?_
 rintro k o L ⟨hk, hL, hsh⟩ ih
 have hLl : L.length ≤ k := by have := porders_len (pts l) k; rw [← hL, pts_len] at this; exact this
 repeat' (first | refine zh ?_ | intro (bk : Nat))
 refine HR.cond I (fun h2 => ?_) (fun h2 => ?_)
 ·have hlt : k < l.length := by have := of_decide_eq_true h2; omega
  obtain ⟨x, hx⟩ := getSome hlt
  have hxm := List.mem_of_getElem? hx
  have hrx := hv.r x hxm
  have hsx := hs x hxm
  have hst : ((pts l).take (k + 1)).foldl pstep [] = pstep (((pts l).take k).foldl pstep []) x.pt := fold_take _ _ (pts_get hx)
  rw [← hL] at hst
  have hn := pfi_none (l := pts L) (s := x.pt.so) (i := x.pt.id)
  repeat' (first | refine zh ?_ | intro (bk : Nat))
  refine HR.join (ι := Unit) (fun _ => True) (fun _ => [(0, v), (3, o), (4, .int .i64 (k : Int)), (6, .int .i64 (l.length : Int)), (7, .int .i64 (k : Int)), (29, .bool (pvalid x.pt && decide (pfi (pts L) x.pt.so x.pt.id < 0)))]) (fun _ => ptsC (o, L)) (fun _ _ => ?_) (fun hj => ?_)
  ·refine HR.cond I (fun h3 => ?_) (fun h3 => ?_)
   ·have h3 : (pvalid x.pt && decide (pfi (pts L) x.pt.so x.pt.id < 0)) = true := h3
    have hp : pstep (pts L) x.pt = pts L ++ [x.pt] := by unfold pstep; rw [hn, if_pos h3]
    rw [hp] at hst
    have hpv : pvalid x.pt = true := by simp only [Bool.and_eq_true] at h3; exact h3.1
    have H := phead_is (pvalid_head hpv)
    have i1 := H.hv
    have i2 := H.da
    have i3 := H.ct0
    have i4 := H.ct1
    repeat' (first | refine zh ?_ | refine HL.idxR (Rd.arg hv.s) elemPt k I I I I hlt ?_ | refine HL.loadE (Rd.arg hv.s) I I I I (by simp) I (cellsOf_get ptC_len hx) ?_ | intro (bk : Nat))
    refine HL.callX (r := fun y : Value × Value => .agg ⟨ptC ⟨y.1, y.2, x.pt⟩⟩) (Q := fun y => ShPt ⟨y.1, y.2, x.pt⟩) (G := fun y => [ptH ⟨y.1, y.2, x.pt⟩, ptD ⟨y.1, y.2, x.pt⟩]) fn210 I I (fun w1 hw1 => r15copy_any x w1 (hrx.ext hw1.belowB) (by omega) (by omega)) ?_
    rintro ⟨y1, y2⟩ hy
    have hy1 := hy.one
    obtain ⟨P, hP⟩ : ∃ P : PtV, P = ⟨y1, y2, x.pt⟩ := ⟨_, rfl⟩
    refine HL.bslice elemPt I I I I I (by decide) (by decide) ?_
    intro va
    repeat' (first | refine zh ?_ | intro (bk : Nat))
    refine HL.appR (news := ptC ⟨y1, y2, x.pt⟩) 3 I elemPt (Rd.own 0 I) I I I I (allOne_spec hy1) (by show (L.length + 1) * 80 ≤ _; omega) (by show L.length + 1 ≤ _; omega) ?_
    intro o3
    repeat' (first | refine zh ?_ | intro (bk : Nat))
    refine ih (k + 1) o3 (L ++ [P]) _ _ ⟨hlt, ?_, ?_⟩ (by omega) ⟨I, I, I, I, trivial⟩ ?_
    ·rw [pts_app, hst, hP]; rfl
    ·intro p hp
     rcases List.mem_append.1 hp with hp | hp
     ·exact hsh p hp
     ·rw [List.mem_singleton] at hp
      rw [hp, hP]
      exact hy
    ·refine Ent.trans (Ent.pick (H' := [ptH P, ptD P, groupC (ptG L), ownC o3 76 6 (L ++ [P]).length (cellsOf ptC (L ++ [P]))]) [1, 2, 4, 3] ?_ I) (Ent.trans (Ent.group (G := [ptH P, ptD P])) (Ent.trans Ent.gjoin ?_))
     ·rw [cellsOf_app, hP]; simp; rfl
     ·show Ent _ _ [_, groupC (ptG (L ++ [P]))]
      rw [ptG_app, ptG_one]
      exact Ent.pick [1, 0] I I
   ·have h3 : (pvalid x.pt && decide (pfi (pts L) x.pt.so x.pt.id < 0)) = false := h3
    have hp : pstep (pts L) x.pt = pts L := by unfold pstep; rw [hn, h3]; rfl
    rw [hp] at hst
    repeat' (first | refine zh ?_ | intro (bk : Nat))
    exact ih (k + 1) o L _ _ ⟨hlt, hst.symm, hsh⟩ (by omega) ⟨I, I, I, I, trivial⟩ (Ent.pick [0, 1] I I)
  ·refine HR.regionD [(0, true), (1, true), (2, true), (3, true), (4, false), (5, true), (6, true), (7, true), (8, true), (9, true), (10, true), (11, true), (12, true), (13, true), (14, true), (15, true), (16, true), (17, false), (18, true), (19, true)] [0, 1] I I hmix (by kernel_rfl) ?_
   have hval := fun (w1 : World) (hw1 : Sat (base w) (ptsC (o, L)) w1) => r15valid_any x w1 (hrx.ext hw1.belowB) hsx
   cases hpv : pvalid x.pt with
   | true =>
    rw [hpv] at hval hj
    repeat' (first | refine zd ?_ | refine HD.callB [0, 1] I I fn209 I I I (fun w1 hw1 => hval w1 hw1) ?_ | refine HD.callB [0, 1] I I fn192 I I I (fun w1 hw1 => r15find_any L x.pt.so x.pt.id o w1 ((Rd.own 0 rfl).at hw1) (by omega)) ?_ | refine HD.idxR (Rd.arg hv.s) elemPt k I I I I I hlt ?_ | refine HD.loadE (Rd.arg hv.s) I I I I I (by simp) I (cellsOf_get ptC_len hx) ?_ | refine HD.fieldN 0 (Rd.arg hv.s) (by rw [hcl]; omega) I I I I I I I I ?_ | refine HD.fieldN 1 (Rd.arg hv.s) (by rw [hcl]; omega) I I I I I I I I ?_ | refine HD.loadI (Rd.arg hv.s) I I I I I (cells_get ptC_len hx (i := 0) I) ?_ | refine HD.loadI (Rd.arg hv.s) I I I I I (cells_get ptC_len hx (i := 1) I) ?_)
    refine HD.nil ?_
    exact hj () _ _ trivial ⟨I, I, I, I, I, I, trivial⟩ Ent.refl
   | false =>
    rw [hpv] at hval hj
    repeat' (first | refine zd ?_ | refine HD.callB [0, 1] I I fn209 I I I (fun w1 hw1 => hval w1 hw1) ?_ | refine HD.idxR (Rd.arg hv.s) elemPt k I I I I I hlt ?_ | refine HD.loadE (Rd.arg hv.s) I I I I I (by simp) I (cellsOf_get ptC_len hx) ?_)
    refine HD.nil ?_
    exact hj () _ _ trivial ⟨I, I, I, I, I, I, trivial⟩ Ent.refl
 ·have hke : k = l.length := by have := of_decide_eq_false h2; omega
  subst hke
  have hpo : porder (pts l) = (pts L).drop (L.length - 8) := by
   unfold porder last
   rw [hL, List.take_of_length_le (by rw [pts_len]; exact Nat.le_refl _), ← pts_len L, hL, List.take_of_length_le (by rw [pts_len]; exact Nat.le_refl _)]
  repeat' (first | refine zh ?_ | refine HL.lenR (Rd.own 0 I) I I I ?_ | intro (bk : Nat))
  refine HR.cond I (fun h3 => ?_) (fun h3 => ?_)
  ·have h3 : (L.length : Int) > 8 := of_decide_eq_true h3
   repeat' (first | refine zh ?_ | refine HL.lenR (Rd.own 0 I) I I I ?_ | intro (bk : Nat))
   refine HL.setV 45 (v' := .int .i64 ((L.length - 8 : Nat) : Int)) I (by show Value.int _ ((L.length : Int) - 8) = _; congr 1; omega) ?_
   repeat' (first | refine zh ?_ | refine HL.subO (sz := 6) (L.length - 8) L.length 0 I I I I I (.inr ⟨_, _, rfl, rfl⟩) (.inl ⟨rfl, rfl⟩) (Nat.sub_le _ _) (Nat.le_refl _) ?_ | intro (bk : Nat))
   refine HR.ret Tryz.func170 I [_] (fun _ _ => ⟨I, trivial⟩) ?_
   refine fun w' hw => ⟨(_, L.drop (L.length - 8)), rfl, ⟨?_, fun p hp => hsh p (List.mem_of_mem_drop hp)⟩, ?_⟩
   ·rw [hpo]; unfold pts; rw [List.map_drop]
   ·have hw2 := hw.pick [1, 0] I I
    have hw3 := (Ent.gdrop _ (ptG_cut L (L.length - 8))) w' hw2
    have hw4 := hw3.pick [1, 0] I I
    refine Ent.own0 (by simp) ?_ w' hw4
    rw [cellsOf_drop ptC_len, List.take_of_length_le (by rw [cellsOf_len ptC_len, List.length_drop]; exact Nat.le_refl _)]
  ·have h3 : ¬ (L.length : Int) > 8 := of_decide_eq_false h3
   rw [show L.length - 8 = 0 by omega, List.drop_zero] at hpo
   repeat' (first | refine zh ?_ | intro (bk : Nat))
   refine HR.ret Tryz.func170 I [_] (fun _ _ => ⟨I, trivial⟩) ?_
   exact fun w' hw => ⟨(o, L), rfl, ⟨hpo.symm, hsh⟩, hw.pick [0, 1] I rfl⟩
end Go.Proofs.YtgdgclmkpoaagaaGreat
