/- A part of the proof: contracts of the program's functions. Conditions: none. -/
import Derived.Carry
import Derived.Deep.MidRow
import Derived.Deep.Quiet
import Derived.Laws.IdiomRangeMap
import Derived.Laws.MakeOwn
import Derived.Laws.StructEq
import Derived.Laws.Tables
import Derived.Lib.AppendStr
import Derived.Lib.AppendZerosOnto
import Derived.Lib.OthersKept
import Derived.Lib.Overlaps
import Derived.Lib.OwnBridge
import Derived.Lib.SlicesCompact
import Derived.MapKept
import Derived.Orders
import Derived.OrdersHeld
import Derived.Scope
import Derived.Sort.Grow
import Derived.StillTail
import Derived.Test.YtgdgclmkpoaagaaGreatProg
import Derived.Test.YtgdgclmkpoaagaaGreatShelf
import Derived.WalkKit
import Derived.WalkLawsBesides
import Derived.WalkSpells
import Derived.Test.YtgdgclmkpoaagaaGreatGB1
import Derived.Test.YtgdgclmkpoaagaaGreatGB2
import Derived.Test.YtgdgclmkpoaagaaGreatGB3
import Derived.Test.YtgdgclmkpoaagaaGreatGB4
import Derived.Test.YtgdgclmkpoaagaaGreatGB5
import Derived.Test.YtgdgclmkpoaagaaGreatGB6
import Derived.Test.YtgdgclmkpoaagaaGreatGB7
import Derived.Test.YtgdgclmkpoaagaaGreatGB8
import Derived.Test.YtgdgclmkpoaagaaGreatGNodeTicks1
set_option linter.unusedVariables false
set_option linter.unusedSectionVars false
set_option linter.unusedSimpArgs false
set_option maxRecDepth 100000
set_option maxHeartbeats 4000000
namespace Go.Proofs.YtgdgclmkpoaagaaGreat
open Go.GX Go.RowKit
attribute [local irreducible] Calls Run RunL RunQ RunD HR HL HD blkC ownC Rd
open Nd
theorem fn168 : IsFn Tryz.prog 168 := ⟨⟨_, _, Tryz.func168, rfl, by decide⟩⟩
theorem fn190 : IsFn Tryz.prog 190 := ⟨⟨_, _, Tryz.func190, rfl, by decide⟩⟩
theorem fn160 : IsFn Tryz.prog 160 := ⟨⟨_, _, Tryz.func160, rfl, by decide⟩⟩
theorem fn97 : IsFn Tryz.prog 97 := ⟨⟨_, _, Tryz.func97, rfl, by decide⟩⟩
theorem r13first_any (l : List Ma) (v : Value) (w : World) (hv : Sl w v (cellsOf maC l) l.length) (hl : l.length ≤ 1000) :
  Calls Tryz.prog 168 #[v] w fun e w' => ∃ v', e = .returned v' ∧ Sat (base w) [ownC v' 73 10 (l.take 16).length (cellsOf maC (l.take 16))] w' := by
 refine calls_hr Tryz.func168 I (Nat.le_of_ble_eq_true I) ?_
 refine HR.sub (σ' := [(0, v)]) ⟨I, trivial⟩ ?_
 repeat' (first | refine zh ?_ | intro (bk : Nat))
 refine HR.nilC 73 10 ?_
 refine HR.loop2 (α := Nat) (β := Value) (fun k o => k ≤ l.length ∧ k ≤ 16) (fun k o => [(0, v), (3, o), (4, .int .i64 (k : Int))]) (fun k o => [ownC o 73 10 (l.take k).length (cellsOf maC (l.take k))]) (fun k _ => l.length - k) 0 (.slice none 0 0) ⟨Nat.zero_le _, by omega⟩ ⟨I, I, I, trivial⟩ Ent.refl ?_
 rintro k o ⟨hk, hk16⟩ ih
 have htl : (l.take k).length = k := by simp; omega
 repeat' (first | refine zh ?_ | refine HL.lenR (Rd.arg hv) I I I ?_ | apply zb ?_ ?_ | exact zc | (refine zi fun hb => ?_; try simp at hb) | intro (bk : Nat))
 refine HR.cond I (fun h2 => ?_) (fun h2 => ?_)
 ·have h2 : (decide ((k : Int) < l.length) && decide ((k : Int) < 16)) = true := h2
  simp only [Bool.and_eq_true, decide_eq_true_eq] at h2
  have hlt : k < l.length := by omega
  obtain ⟨x, hx⟩ := getSome hlt
  repeat' (first | refine zh ?_ | refine HL.idxR (Rd.arg hv) elemMa k I I I I hlt ?_ | refine HL.loadE (Rd.arg hv) I I I I (by simp) I (cellsOf_get maC_len hx) ?_ | refine HL.bslice elemMa I I I I I (by decide) (by decide) ?_ | intro (bk : Nat))
  intro va
  repeat' (first | refine zh ?_ | refine HL.appR 1 I elemMa (Rd.own 0 I) I I I I (allOne_spec I) (by omega) (by omega) ?_ | intro (bk : Nat))
  intro o2
  repeat' (first | refine zh ?_ | intro (bk : Nat))
  refine ih (k + 1) o2 _ _ ⟨hlt, by omega⟩ (by omega) ⟨I, I, I, trivial⟩ (Ent.trans (Ent.pick [1] I I) (Ent.own0 ?_ ?_))
  ·rw [take_succ_get hx]; simp
  ·rw [take_succ_get hx, cellsOf_app]; rfl
 ·have h2 : (decide ((k : Int) < l.length) && decide ((k : Int) < 16)) = false := h2
  have e : l.take k = l.take 16 := by
   by_cases h3 : k < l.length
   ·rw [decide_eq_true (show (k : Int) < l.length by omega), Bool.true_and, decide_eq_false_iff_not] at h2
    rw [show k = 16 by omega]
   ·rw [List.take_of_length_le (by omega), List.take_of_length_le (by omega)]
  rw [e]
  repeat' (first | refine zh ?_ | intro (bk : Nat))
  refine HR.ret Tryz.func168 I [_] (fun _ _ => ⟨I, trivial⟩) ?_
  exact fun w' hw => ⟨o, rfl, hw⟩
theorem r13without_any (l : List Ma) (i : Nat) (v : Value) (w : World) (hv : Sl w v (cellsOf maC l) l.length) (hl : l.length ≤ 1000) (hi : i < l.length) :
  Calls Tryz.prog 190 #[v, .int .i64 (i : Int)] w fun e w' => ∃ v', e = .returned v' ∧ Sat (base w) [ownC v' 73 10 (l.eraseIdx i).length (cellsOf maC (l.eraseIdx i))] w' := by
 have hstep : ∀ {k : Nat} {x : Ma}, l[k]? = some x → (l.take (k + 1)).eraseIdx i = if k = i then (l.take k).eraseIdx i else (l.take k).eraseIdx i ++ [x] := by
  intro k x hx
  have hkl := (List.getElem?_eq_some_iff.1 hx).1
  have htl : (l.take k).length = k := by simp; omega
  rw [take_succ_get hx]
  split
  ·rename_i h
   subst h
   rw [List.eraseIdx_append_of_length_le (by omega), htl, Nat.sub_self, List.eraseIdx_of_length_le (l := l.take k) (by omega)]; simp
  ·rename_i h
   by_cases h3 : i < k
   ·rw [List.eraseIdx_append_of_lt_length (by omega)]
   ·rw [List.eraseIdx_append_of_length_le (by omega), htl, List.eraseIdx_of_length_le (l := [x]) (by simp; omega), List.eraseIdx_of_length_le (l := l.take k) (by omega)]
 refine calls_hr Tryz.func190 I (Nat.le_of_ble_eq_true I) ?_
 refine HR.sub (σ' := [(0, v), (1, .int .i64 (i : Int))]) ⟨I, I, trivial⟩ ?_
 repeat' (first | refine zh ?_ | intro (bk : Nat))
 refine HR.nilC 73 10 ?_
 refine HR.loop2 (α := Nat) (β := Value) (fun k o => k ≤ l.length) (fun k o => [(0, v), (1, .int .i64 (i : Int)), (5, o), (6, .int .i64 (k : Int))]) (fun k o => [ownC o 73 10 ((l.take k).eraseIdx i).length (cellsOf maC ((l.take k).eraseIdx i))]) (fun k _ => l.length - k) 0 (.slice none 0 0) (Nat.zero_le _) ⟨I, I, I, I, trivial⟩ (by rw [List.take_zero, List.eraseIdx_nil]; exact Ent.refl) ?_
 rintro k o hk ih
 have htl : ((l.take k).eraseIdx i).length ≤ k := Nat.le_trans (List.length_eraseIdx_le _ _) (by simp; omega)
 repeat' (first | refine zh ?_ | refine HL.lenR (Rd.arg hv) I I I ?_ | intro (bk : Nat))
 refine HR.cond I (fun h2 => ?_) (fun h2 => ?_)
 ·have hlt : k < l.length := by have := of_decide_eq_true h2; omega
  obtain ⟨x, hx⟩ := getSome hlt
  have hst := hstep hx
  repeat' (first | refine zh ?_ | intro (bk : Nat))
  refine HR.cond I (fun h3 => ?_) (fun h3 => ?_)
  ·have h3 : ¬ k = i := by have h3 : ((k : Int) != (i : Int)) = true := h3; simp at h3; omega
   rw [if_neg h3] at hst
   repeat' (first | refine zh ?_ | refine HL.idxR (Rd.arg hv) elemMa k I I I I hlt ?_ | refine HL.loadE (Rd.arg hv) I I I I (by simp) I (cellsOf_get maC_len hx) ?_ | refine HL.bslice elemMa I I I I I (by decide) (by decide) ?_ | intro (bk : Nat))
   intro va
   repeat' (first | refine zh ?_ | refine HL.appR 1 I elemMa (Rd.own 0 I) I I I I (allOne_spec I) (by omega) (by omega) ?_ | intro (bk : Nat))
   intro o2
   repeat' (first | refine zh ?_ | intro (bk : Nat))
   refine ih (k + 1) o2 _ _ hlt (by omega) ⟨I, I, I, I, trivial⟩ (Ent.trans (Ent.pick [1] I I) (Ent.own0 ?_ ?_))
   ·rw [hst]; simp
   ·rw [hst, cellsOf_app]; rfl
  ·have h3 : k = i := by have h3 : ((k : Int) != (i : Int)) = false := h3; simp at h3; omega
   rw [if_pos h3] at hst
   repeat' (first | refine zh ?_ | intro (bk : Nat))
   exact ih (k + 1) o _ _ hlt (by omega) ⟨I, I, I, I, trivial⟩ (Ent.own0 (by rw [hst]) (by rw [hst]))
 ·have hke : k = l.length := by have := of_decide_eq_false h2; omega
  subst hke
  rw [List.take_length]
  repeat' (first | refine zh ?_ | intro (bk : Nat))
  refine HR.ret Tryz.func190 I [_] (fun _ _ => ⟨I, trivial⟩) ?_
  exact fun w' hw => ⟨o, rfl, hw⟩
section
variable {α : Type}
def lidx (p : α → Bool) (l : List α) : Int := match lastIdx p l with
 | some i => (i : Int)
 | none => -1
theorem lidx_nil (p : α → Bool) (l : List α) : lidx p (l.take 0) = -1 := by rw [List.take_zero]; rfl
theorem lidx_step {p : α → Bool} {l : List α} {k : Nat} {x : α} (hx : l[k]? = some x) : lidx p (l.take (k + 1)) = if p x = true then (k : Int) else lidx p (l.take k) := by
 have hk := (List.getElem?_eq_some_iff.1 hx).1
 have hg : ∀ j, j < k + 1 → (l.take (k + 1))[j]? = l[j]? := fun j hj => by rw [List.getElem?_take_of_lt hj]
 have hg' : ∀ j b, (l.take (k + 1))[j]? = some b → j < k + 1 ∧ l[j]? = some b := fun j b h => by
  rw [List.getElem?_take] at h
  split at h
  ·exact ⟨by assumption, h⟩
  ·cases h
 split
 ·rename_i hp
  unfold lidx
  rw [lastIdx_is (i := k) (a := x) (by rw [hg k (by omega)]; exact hx) hp (fun j b hj hb => by have := (hg' j b hb).1; omega)]
 ·rename_i hp
  have hp : p x = false := by simpa using hp
  unfold lidx
  cases h : lastIdx p (l.take k) with
  | none =>
   have := lastIdx_none h
   rw [lastIdx_isNone]
   intro a ha
   rw [take_succ_get hx] at ha
   rcases List.mem_append.1 ha with ha | ha
   ·exact this a ha
   ·rw [List.mem_singleton] at ha; subst ha; exact hp
  | some i =>
   obtain ⟨a, h1, h2, h3⟩ := lastIdx_some h
   have hik : i < k := by have := (List.getElem?_eq_some_iff.1 h1).1; simp at this; omega
   rw [List.getElem?_take_of_lt hik] at h1
   rw [lastIdx_is (i := i) (a := a) (by rw [hg i (by omega)]; exact h1) h2]
   intro j b hj hb
   obtain ⟨g1, g2⟩ := hg' j b hb
   by_cases e : j = k
   ·subst e; rw [hx] at g2; cases g2; exact hp
   ·exact h3 j b hj (by rw [List.getElem?_take_of_lt (by omega)]; exact g2)
theorem lidx_lt (p : α → Bool) (l : List α) : -1 ≤ lidx p l ∧ lidx p l < (l.length : Int) := by
 unfold lidx
 cases h : lastIdx p l with
 | none => simp; omega
 | some i =>
  obtain ⟨a, h1, _⟩ := lastIdx_some h
  have := (List.getElem?_eq_some_iff.1 h1).1
  simp; omega
theorem qput_full {dr ur : α → Bool} {q : List α} {x : α} (h : (q.take 16).length = 16) (h2 : ur x = false ∨ lidx dr (q.take 16) < 0) : qput dr ur q x = (q.take 16, false) := by
 unfold qput
 cases hu : ur x
 ·rw [if_pos rfl, if_pos h]
 ·rw [if_neg (show ¬ true = false by decide), if_pos h]
  rcases h2 with h2 | h2
  ·rw [hu] at h2; cases h2
  ·unfold lidx at h2
   cases hl : lastIdx dr (q.take 16) with
   | none => rfl
   | some i => rw [hl] at h2; simp only at h2; omega
def room (dr : α → Bool) (T : List α) : List α := if T.length = 16 then T.eraseIdx (lidx dr T).toNat else T
theorem qput_go {dr ur : α → Bool} {q : List α} {x : α} (h : ¬ ((q.take 16).length = 16 ∧ (ur x = false ∨ lidx dr (q.take 16) < 0))) : qput dr ur q x = (if ur x = false then room dr (q.take 16) ++ [x] else ins ur (room dr (q.take 16)) x, true) := by
 unfold qput room
 cases hu : ur x
 ·rw [hu] at h
  rw [if_pos rfl, if_pos rfl, if_neg (fun e => h ⟨e, .inl rfl⟩), if_neg (fun e => h ⟨e, .inl rfl⟩)]
 ·rw [if_neg (show ¬ true = false by decide), if_neg (show ¬ true = false by decide)]
  by_cases hl : (q.take 16).length = 16
  ·rw [if_pos hl, if_pos hl]
   have h2 : ¬ lidx dr (q.take 16) < 0 := fun e => h ⟨hl, .inr e⟩
   unfold lidx at h2 ⊢
   cases hi : lastIdx dr (q.take 16) with
   | none => rw [hi] at h2; exact absurd (by decide) h2
   | some i => simp
  ·rw [if_neg hl, if_neg hl]
theorem room_len {dr : α → Bool} {T : List α} (h : T.length ≤ 16) (h2 : ¬ (T.length = 16 ∧ lidx dr T < 0)) : (room dr T).length ≤ 15 := by
 unfold room
 split
 ·rename_i h3
  have := lidx_lt dr T
  rw [List.length_eraseIdx_of_lt (by omega)]; omega
 ·omega
end
theorem r16put_any (l : List Sn) (f : Fr) (v : Value) (w : World) (hv : Sl w v (cellsOf snC l) l.length) (hl : l.length ≤ 1000) :
  Calls Tryz.prog 118 #[v, .agg ⟨frC f⟩] w fun e w' => ∃ v', e = .returned (.tuple ⟨[v', .bool (mput l f).2]⟩) ∧ True ∧ Sat (base w) [ownC v' 48 11 (mput l f).1.length (cellsOf snC (mput l f).1)] w' := by
 have h16 : (l.take 16).length ≤ 16 := by simp; omega
 have hcl : ∀ T : List Sn, (cellsOf snC T).length = T.length * 11 := cellsOf_len snC_len
 have hspec : (mput l f) = qput sdr sur l ⟨f, 0, 0⟩ := rfl
 rw [hspec]
 have hux : sur ⟨f, 0, 0⟩ = f.ur := rfl
 obtain ⟨x, hx⟩ : ∃ x : Sn, x = ⟨f, 0, 0⟩ := ⟨_, rfl⟩
 rw [← hx] at hux ⊢
 refine calls_hr Tryz.func118 I (Nat.le_of_ble_eq_true I) ?_
 refine HR.sub (σ' := [(0, v), (1, .agg ⟨frC f⟩)]) ⟨I, I, trivial⟩ ?_
 repeat' (first | refine zh ?_ | refine HL.callO fn155 I I (fun w hw => r16first_any l v w ((Rd.arg hv).at hw) hl) ?_ | intro (bk : Nat))
 intro v1
 obtain ⟨T, hT⟩ : ∃ T, T = l.take 16 := ⟨_, rfl⟩
 have hfull := qput_full (dr := sdr) (ur := sur) (q := l) (x := x)
 have hgo := qput_go (dr := sdr) (ur := sur) (q := l) (x := x)
 rw [← hT] at h16 hfull hgo ⊢
 repeat' (first | refine zh ?_ | intro (bk : Nat))
 refine HR.loop (ι := Nat) (fun k => k ≤ T.length) (fun k => [(0, v), (3, .pointer (some ⟨bk, 0, none⟩)), (6, v1), (7, .int .i64 (lidx sdr (T.take k))), (8, .int .i64 (k : Int))]) (fun _ => [ownC v1 48 11 T.length (cellsOf snC T), blkC bk (frC f) 42]) (fun k => T.length - k) 0 (Nat.zero_le _) ⟨rfl, rfl, rfl, by rw [lidx_nil]; rfl, rfl, trivial⟩ (Ent.pick [0, 1] I I) ?_
 intro k hk ih
 repeat' (first | refine zh ?_ | refine HL.lenR (Rd.own 0 I) I I I ?_ | intro (bk : Nat))
 refine HR.cond I (fun h2 => ?_) (fun h2 => ?_)
 ·have hlt : k < T.length := by have := of_decide_eq_true h2; omega
  obtain ⟨y, hy⟩ := getSome hlt
  have hst := lidx_step (p := sdr) hy
  have hln : (T.take k).length ≤ 16 := by simp; omega
  have hlx := lidx_lt sdr (T.take k)
  repeat' (first | refine zh ?_ | refine HL.idxR (Rd.own 0 I) elemSn k I I I I hlt ?_ | refine HL.fieldN 0 (Rd.own 0 I) (by rw [hcl]; omega) I I I I I I I ?_ | refine HL.fieldN 7 (Rd.own 0 I) (by rw [hcl]; omega) I I I I I I I ?_ | refine HL.fieldN 9 (Rd.own 0 I) (by rw [hcl]; omega) I I I I I I I ?_ | refine HL.loadI (Rd.own 0 I) I I I I (cells_get snC_len hy (i := 7) I) ?_ | refine HL.loadI (Rd.own 0 I) I I I I (cells_get snC_len hy (i := 9) I) ?_ | apply zb ?_ ?_ | exact zc | (refine zi fun hb => ?_; try simp at hb) | intro (bk : Nat))
  refine HR.cond I (fun h3 => ?_) (fun h3 => ?_)
  ·have h3 : sdr y = true := h3
   rw [if_pos h3] at hst
   repeat' (first | refine zh ?_ | intro (bk : Nat))
   exact ih (k + 1) _ _ hlt (by omega) ⟨rfl, rfl, rfl, by rw [hst]; rfl, rfl, trivial⟩ Ent.refl
  ·have h3 : sdr y = false := h3
   rw [if_neg (by rw [h3]; decide)] at hst
   repeat' (first | refine zh ?_ | intro (bk : Nat))
   exact ih (k + 1) _ _ hlt (by omega) ⟨rfl, rfl, rfl, by rw [hst]; rfl, rfl, trivial⟩ Ent.refl
 have hke : k = T.length := by have := of_decide_eq_false h2; omega
 subst hke
 rw [List.take_length]
 have hlx := lidx_lt sdr T
 obtain ⟨M, hM⟩ : ∃ M, M = lidx sdr T := ⟨_, rfl⟩
 rw [← hM] at hlx hfull ⊢
 repeat' (first | refine zh ?_ | refine HL.lenR (Rd.own 0 I) I I I ?_ | apply zb ?_ ?_ | exact zc | (refine zi fun hb => ?_; try simp at hb) | intro (bk : Nat))
 refine HR.cond I (fun h3 => ?_) (fun h3 => ?_)
 ·have h3 : (((T.length : Int) == 16) && (!f.ur || decide (M < 0))) = true := h3
  simp only [Bool.and_eq_true, Bool.or_eq_true, Bool.not_eq_true', decide_eq_true_eq, beq_iff_eq] at h3
  rw [hfull (by omega) (by rw [hux]; exact h3.2)]
  repeat' (first | refine zh ?_ | intro (bk : Nat))
  refine HR.ret Tryz.func118 I [_, _] (fun _ _ => ⟨I, I, trivial⟩) ?_
  exact fun w' hw => ⟨v1, rfl, trivial, hw.pick [0] I rfl⟩
 have h3 : (((T.length : Int) == 16) && (!f.ur || decide (M < 0))) = false := h3
 have h3 : ¬ (T.length = 16 ∧ (f.ur = false ∨ M < 0)) := by
  rintro ⟨e1, e2⟩
  rw [show ((T.length : Int) == 16) = true by simp; omega, Bool.true_and, Bool.or_eq_false_iff] at h3
  rcases e2 with e2 | e2
  ·rw [e2] at h3; exact absurd h3.1 (by decide)
  ·have := of_decide_eq_false h3.2; omega
 have hR := room_len (dr := sdr) h16 (by rw [← hM]; exact fun e => h3 ⟨e.1, .inr e.2⟩)
 rw [hgo (by rw [hux, ← hM]; exact h3), hux]
 have hroom : room sdr T = if T.length = 16 then T.eraseIdx M.toNat else T := by rw [hM]; rfl
 obtain ⟨L, hL⟩ : ∃ L, L = room sdr T := ⟨_, rfl⟩
 rw [← hL] at hR hroom ⊢
 repeat' (first | refine zh ?_ | refine HL.lenR (Rd.own 0 I) I I I ?_ | intro (bk : Nat))
 refine HR.join (ι := Value) (fun _ => True) (fun u => [(3, .pointer (some ⟨bk, 0, none⟩)), (6, u)]) (fun u => [ownC u 48 11 L.length (cellsOf snC L), blkC bk (frC f) 42]) (fun u _ => ?_) (fun hj => ?_)
 ·repeat' (first | refine zh ?_ | refine HL.lenR (Rd.own 0 I) I I I ?_ | intro (bk : Nat))
  refine HR.joinI (ι := Nat) (fun a => a ≤ L.length ∧ (if f.ur = false then L ++ [x] else ins sur L x) = L.take a ++ x :: L.drop a) (fun a => [(3, .pointer (some ⟨bk, 0, none⟩)), (6, u), (9, .int .i64 (a : Int))]) (fun _ => [ownC u 48 11 L.length (cellsOf snC L), blkC bk (frC f) 42]) (fun a => ?_) (fun hj2 => ?_)
  ·rintro ⟨ha, e⟩
   rw [e]
   have hcat : cellsOf snC (L.take a ++ x :: L.drop a) = (([] ++ cellsOf snC (L.take a)) ++ snC x) ++ cellsOf snC (L.drop a) := by rw [cellsOf_app, List.nil_append, List.append_assoc]; rfl
   have hR1 := Rd.pre (B := base w) (H := [ownC u 48 11 L.length (cellsOf snC L), blkC bk (frC f) 42]) snC_len (l := L) (Rd.own 0 I) ha
   repeat' (first | refine zh ?_ | refine HL.bslice0 elemSn I ?_ | intro (bk : Nat))
   intro va
   have hR1 := Rd.pre (B := base w) (H := [ownC va 48 11 0 [], ownC u 48 11 L.length (cellsOf snC L), blkC bk (frC f) 42]) snC_len (l := L) (Rd.own 1 I) ha
   repeat' (first | refine zh ?_ | refine HL.subI (sz := 11) 0 a (Rd.own 1 I) I I I I (.inl ⟨rfl, rfl⟩) (.inr ⟨_, _, _, rfl, rfl, rfl⟩) (Nat.zero_le _) ha ?_ | refine HL.appR 0 I elemSn hR1 I I I (hcl _) (one_allcells snC_one _) (by simp; omega) (by simp; omega) ?_ | intro (bk : Nat))
   intro vo
   repeat' (first | refine zh ?_ | intro (bk : Nat))
   refine HL.bslice elemSn I I I I I (by decide) (by decide) ?_
   intro va2
   refine HL.ent (H' := [ownC va2 48 11 1 (snC x), ownC vo 48 11 (0 + (L.take a).length) ([] ++ cellsOf snC (L.take a)), ownC u 48 11 L.length (cellsOf snC L), blkC bk (frC f) 42]) (Ent.own0 I (by rw [hx]; rfl)) ?_
   refine HL.appR (news := snC x) 1 I elemSn (Rd.own 0 I) I I I I (allOne_spec I) (by simp; omega) (by simp; omega) ?_
   intro vo2
   have hR2 := Rd.suf (B := base w) (H := [ownC va2 48 11 1 (snC x), ownC vo2 48 11 (0 + (L.take a).length + 1) (([] ++ cellsOf snC (L.take a)) ++ snC x), ownC u 48 11 L.length (cellsOf snC L), blkC bk (frC f) 42]) snC_len (l := L) (Rd.own 2 I) ha
   repeat' (first | refine zh ?_ | refine HL.subI (sz := 11) a L.length (Rd.own 2 I) I I I I (.inr ⟨_, _, _, rfl, rfl, rfl⟩) (.inl ⟨rfl, rfl⟩) ha (Nat.le_refl _) ?_ | refine HL.appR 1 I elemSn hR2 I I I (hcl _) (one_allcells snC_one _) (by simp; omega) (by simp; omega) ?_ | intro (bk : Nat))
   intro v5
   repeat' (first | refine zh ?_ | intro (bk : Nat))
   refine HR.ret Tryz.func118 I [_, _] (fun _ _ => ⟨I, I, trivial⟩) ?_
   refine fun w' hw => ⟨v5, rfl, trivial, Ent.own0 ?_ ?_ w' (hw.pick [1] I rfl)⟩
   ·simp; omega
   ·exact hcat.symm
  ·refine HR.loop2 (α := Nat) (β := Nat) (fun b a => b ≤ L.length ∧ b ≤ a ∧ a ≤ L.length ∧ (f.ur = false → a = L.length) ∧ (f.ur = true → (∀ j y, b ≤ j → j < a → L[j]? = some y → sur y = true) ∧ ∀ y, L[a]? = some y → sur y = false)) (fun b a => [(3, .pointer (some ⟨bk, 0, none⟩)), (6, u), (9, .int .i64 (a : Int)), (10, .int .i64 ((b : Int) - 1))]) (fun _ _ => [ownC u 48 11 L.length (cellsOf snC L), blkC bk (frC f) 42]) (fun b _ => b) L.length L.length ⟨Nat.le_refl _, Nat.le_refl _, Nat.le_refl _, fun _ => rfl, fun _ => ⟨fun j y h1 h2 => by omega, fun y hy => by have := (List.getElem?_eq_some_iff.1 hy).1; omega⟩⟩ ⟨I, I, I, I, trivial⟩ Ent.refl ?_
   rintro b a ⟨hb, hba, ha, hf0, hf1⟩ ih
   repeat' (first | refine zh ?_ | apply zb ?_ ?_ | exact zc | (refine zi fun hb => ?_; try simp at hb) | intro (bk : Nat))
   refine HR.cond I (fun h4 => ?_) (fun h4 => ?_)
   ·have h4 : (decide ((b : Int) - 1 ≥ 0) && f.ur) = true := h4
    simp only [Bool.and_eq_true, decide_eq_true_eq] at h4
    obtain ⟨m, rfl⟩ : ∃ m, b = m + 1 := ⟨b - 1, by omega⟩
    have hml : m < L.length := by omega
    obtain ⟨y, hy⟩ := getSome hml
    obtain ⟨g1, g2⟩ := hf1 h4.2
    repeat' (first | refine zh ?_ | refine HL.idxR (Rd.own 0 I) elemSn m I I I (by omega) hml ?_ | refine HL.fieldN 0 (Rd.own 0 I) (by rw [hcl]; omega) I I I I I I I ?_ | refine HL.fieldN 7 (Rd.own 0 I) (by rw [hcl]; omega) I I I I I I I ?_ | refine HL.loadI (Rd.own 0 I) I I I I (cells_get snC_len hy (i := 7) I) ?_ | intro (bk : Nat))
    refine HR.cond I (fun h5 => ?_) (fun h5 => ?_)
    ·have h5 : y.f.ur = false := by have h5 : (!y.f.ur) = true := h5; simpa using h5
     repeat' (first | refine zh ?_ | intro (bk : Nat))
     refine ih m m _ _ ⟨by omega, Nat.le_refl _, by omega, fun e => (by rw [h4.2] at e; cases e), fun _ => ⟨fun j y h1 h2 => by omega, fun y' hy' => by rw [hy] at hy'; cases hy'; exact h5⟩⟩ (by omega) ⟨rfl, rfl, by show some (Value.int IntKind.i64 _) = some (Value.int IntKind.i64 _); congr 2; omega, by show some (Value.int IntKind.i64 _) = some (Value.int IntKind.i64 _); congr 2; omega, trivial⟩ Ent.refl
    ·have h5 : y.f.ur = true := by have h5 : (!y.f.ur) = false := h5; simpa using h5
     repeat' (first | refine zh ?_ | intro (bk : Nat))
     refine ih m a _ _ ⟨by omega, by omega, ha, hf0, fun _ => ⟨fun j y' h1 h2 hy' => ?_, g2⟩⟩ (by omega) ⟨rfl, rfl, rfl, by show some (Value.int IntKind.i64 _) = some (Value.int IntKind.i64 _); congr 2; omega, trivial⟩ Ent.refl
     by_cases e : j = m
     ·subst e; rw [hy] at hy'; cases hy'; exact h5
     ·exact g1 j y' (by omega) h2 hy'
   ·have h4 : (decide ((b : Int) - 1 ≥ 0) && f.ur) = false := h4
    have e : (if f.ur = false then L ++ [x] else ins sur L x) = L.take a ++ x :: L.drop a := by
     cases hu : f.ur
     ·rw [if_pos rfl, hf0 hu, List.take_length, List.drop_length]
     ·rw [if_neg (by decide)]
      rw [hu, Bool.and_true] at h4
      have h4 := of_decide_eq_false h4
      obtain ⟨g1, g2⟩ := hf1 hu
      exact ins_at ha (fun j y hj hy => g1 j y (by omega) hj hy) g2
    refine HR.exit I ?_
    exact hj2 a _ _ ⟨ha, e⟩ ⟨I, I, I, trivial⟩ Ent.refl
 ·refine HR.cond I (fun h4 => ?_) (fun h4 => ?_)
  ·have h4 : T.length = 16 := by have h4 : ((T.length : Int) == 16) = true := h4; simp at h4; omega
   have hM0 : ¬ M < 0 := fun e => h3 ⟨h4, .inr e⟩
   obtain ⟨m, rfl⟩ : ∃ m : Nat, M = m := ⟨M.toNat, by omega⟩
   rw [if_pos h4, Int.toNat_natCast] at hroom
   refine HR.region ?_
   repeat' (first | refine zn ?_ | apply zb ?_ ?_ | exact zc | (refine zi fun hb => ?_; try simp at hb) | intro (bk : Nat))
   refine HL.callO fn156 I I (fun w hw => r16without_any T m v1 w ((Rd.own 0 rfl).at hw) (by omega) (by omega)) ?_
   intro u
   repeat' (first | refine zn ?_ | apply zb ?_ ?_ | exact zc | (refine zi fun hb => ?_; try simp at hb) | intro (bk : Nat))
   rw [← hroom]
   exact hj u _ _ trivial ⟨I, I, trivial⟩ (Ent.pick [0, 2] I I)
  ·have h4 : ¬ T.length = 16 := by intro e; have h4 : ((T.length : Int) == 16) = false := h4; rw [e] at h4; cases h4
   rw [if_neg h4] at hroom
   subst hroom
   refine HR.skip ?_
   exact hj v1 _ _ trivial ⟨I, I, trivial⟩ (Ent.pick [0, 1] I I)
theorem r13put_any (l : List Ma) (f : Fr) (now : Int) (v : Value) (w : World) (hv : Sl w v (cellsOf maC l) l.length) (hl : l.length ≤ 1000) :
  Calls Tryz.prog 160 #[v, .agg ⟨frC f⟩, .int .i64 now] w fun e w' => ∃ v', e = .returned (.tuple ⟨[v', .bool (bput l f now).2]⟩) ∧ True ∧ Sat (base w) [ownC v' 73 10 (bput l f now).1.length (cellsOf maC (bput l f now).1)] w' := by
 have h16 : (l.take 16).length ≤ 16 := by simp; omega
 have hcl : ∀ T : List Ma, (cellsOf maC T).length = T.length * 10 := cellsOf_len maC_len
 have hspec : (bput l f now) = qput bdr bur l ⟨f, tick now⟩ := rfl
 rw [hspec]
 have hux : bur ⟨f, tick now⟩ = f.ur := rfl
 obtain ⟨x, hx⟩ : ∃ x : Ma, x = ⟨f, tick now⟩ := ⟨_, rfl⟩
 rw [← hx] at hux ⊢
 refine calls_hr Tryz.func160 I (Nat.le_of_ble_eq_true I) ?_
 refine HR.sub (σ' := [(0, v), (1, .agg ⟨frC f⟩), (2, .int .i64 now)]) ⟨I, I, I, trivial⟩ ?_
 repeat' (first | refine zh ?_ | refine HL.callO fn168 I I (fun w hw => r13first_any l v w ((Rd.arg hv).at hw) hl) ?_ | intro (bk : Nat))
 intro v1
 obtain ⟨T, hT⟩ : ∃ T, T = l.take 16 := ⟨_, rfl⟩
 have hfull := qput_full (dr := bdr) (ur := bur) (q := l) (x := x)
 have hgo := qput_go (dr := bdr) (ur := bur) (q := l) (x := x)
 rw [← hT] at h16 hfull hgo ⊢
 repeat' (first | refine zh ?_ | intro (bk : Nat))
 refine HR.loop (ι := Nat) (fun k => k ≤ T.length) (fun k => [(0, v), (2, .int .i64 now), (4, .pointer (some ⟨bk, 0, none⟩)), (8, v1), (9, .int .i64 (lidx bdr (T.take k))), (10, .int .i64 (k : Int))]) (fun _ => [ownC v1 73 10 T.length (cellsOf maC T), blkC bk (frC f) 42]) (fun k => T.length - k) 0 (Nat.zero_le _) ⟨rfl, rfl, rfl, rfl, by rw [lidx_nil]; rfl, rfl, trivial⟩ (Ent.pick [0, 1] I I) ?_
 intro k hk ih
 repeat' (first | refine zh ?_ | refine HL.lenR (Rd.own 0 I) I I I ?_ | intro (bk : Nat))
 refine HR.cond I (fun h2 => ?_) (fun h2 => ?_)
 ·have hlt : k < T.length := by have := of_decide_eq_true h2; omega
  obtain ⟨y, hy⟩ := getSome hlt
  have hst := lidx_step (p := bdr) hy
  have hln : (T.take k).length ≤ 16 := by simp; omega
  have hlx := lidx_lt bdr (T.take k)
  repeat' (first | refine zh ?_ | refine HL.idxR (Rd.own 0 I) elemMa k I I I I hlt ?_ | refine HL.fieldN 0 (Rd.own 0 I) (by rw [hcl]; omega) I I I I I I I ?_ | refine HL.fieldN 7 (Rd.own 0 I) (by rw [hcl]; omega) I I I I I I I ?_ | refine HL.loadI (Rd.own 0 I) I I I I (cells_get maC_len hy (i := 7) I) ?_ | apply zb ?_ ?_ | exact zc | (refine zi fun hb => ?_; try simp at hb) | intro (bk : Nat))
  refine HR.cond I (fun h3 => ?_) (fun h3 => ?_)
  ·have h3 : bdr y = true := h3
   rw [if_pos h3] at hst
   repeat' (first | refine zh ?_ | intro (bk : Nat))
   exact ih (k + 1) _ _ hlt (by omega) ⟨rfl, rfl, rfl, rfl, by rw [hst]; rfl, rfl, trivial⟩ Ent.refl
  ·have h3 : bdr y = false := h3
   rw [if_neg (by rw [h3]; decide)] at hst
   repeat' (first | refine zh ?_ | intro (bk : Nat))
   exact ih (k + 1) _ _ hlt (by omega) ⟨rfl, rfl, rfl, rfl, by rw [hst]; rfl, rfl, trivial⟩ Ent.refl
 have hke : k = T.length := by have := of_decide_eq_false h2; omega
 subst hke
 rw [List.take_length]
 have hlx := lidx_lt bdr T
 obtain ⟨M, hM⟩ : ∃ M, M = lidx bdr T := ⟨_, rfl⟩
 rw [← hM] at hlx hfull ⊢
 repeat' (first | refine zh ?_ | refine HL.lenR (Rd.own 0 I) I I I ?_ | apply zb ?_ ?_ | exact zc | (refine zi fun hb => ?_; try simp at hb) | intro (bk : Nat))
 refine HR.cond I (fun h3 => ?_) (fun h3 => ?_)
 ·have h3 : (((T.length : Int) == 16) && (!f.ur || decide (M < 0))) = true := h3
  simp only [Bool.and_eq_true, Bool.or_eq_true, Bool.not_eq_true', decide_eq_true_eq, beq_iff_eq] at h3
  rw [hfull (by omega) (by rw [hux]; exact h3.2)]
  repeat' (first | refine zh ?_ | intro (bk : Nat))
  refine HR.ret Tryz.func160 I [_, _] (fun _ _ => ⟨I, I, trivial⟩) ?_
  exact fun w' hw => ⟨v1, rfl, trivial, hw.pick [0] I rfl⟩
 have h3 : (((T.length : Int) == 16) && (!f.ur || decide (M < 0))) = false := h3
 have h3 : ¬ (T.length = 16 ∧ (f.ur = false ∨ M < 0)) := by
  rintro ⟨e1, e2⟩
  rw [show ((T.length : Int) == 16) = true by simp; omega, Bool.true_and, Bool.or_eq_false_iff] at h3
  rcases e2 with e2 | e2
  ·rw [e2] at h3; exact absurd h3.1 (by decide)
  ·have := of_decide_eq_false h3.2; omega
 have hR := room_len (dr := bdr) h16 (by rw [← hM]; exact fun e => h3 ⟨e.1, .inr e.2⟩)
 rw [hgo (by rw [hux, ← hM]; exact h3), hux]
 have hroom : room bdr T = if T.length = 16 then T.eraseIdx M.toNat else T := by rw [hM]; rfl
 obtain ⟨L, hL⟩ : ∃ L, L = room bdr T := ⟨_, rfl⟩
 rw [← hL] at hR hroom ⊢
 repeat' (first | refine zh ?_ | refine HL.lenR (Rd.own 0 I) I I I ?_ | intro (bk : Nat))
 refine HR.join (ι := Value) (fun _ => True) (fun u => [(2, .int .i64 now), (4, .pointer (some ⟨bk, 0, none⟩)), (8, u)]) (fun u => [ownC u 73 10 L.length (cellsOf maC L), blkC bk (frC f) 42]) (fun u _ => ?_) (fun hj => ?_)
 ·repeat' (first | refine zh ?_ | refine HL.lenR (Rd.own 0 I) I I I ?_ | intro (bk : Nat))
  refine HR.joinI (ι := Nat) (fun a => a ≤ L.length ∧ (if f.ur = false then L ++ [x] else ins bur L x) = L.take a ++ x :: L.drop a) (fun a => [(2, .int .i64 now), (4, .pointer (some ⟨bk, 0, none⟩)), (8, u), (11, .int .i64 (a : Int))]) (fun _ => [ownC u 73 10 L.length (cellsOf maC L), blkC bk (frC f) 42]) (fun a => ?_) (fun hj2 => ?_)
  ·rintro ⟨ha, e⟩
   rw [e]
   have hcat : cellsOf maC (L.take a ++ x :: L.drop a) = (([] ++ cellsOf maC (L.take a)) ++ maC x) ++ cellsOf maC (L.drop a) := by rw [cellsOf_app, List.nil_append, List.append_assoc]; rfl
   have hR1 := Rd.pre (B := base w) (H := [ownC u 73 10 L.length (cellsOf maC L), blkC bk (frC f) 42]) maC_len (l := L) (Rd.own 0 I) ha
   repeat' (first | refine zh ?_ | refine HL.bslice0 elemMa I ?_ | intro (bk : Nat))
   intro va
   have hR1 := Rd.pre (B := base w) (H := [ownC va 73 10 0 [], ownC u 73 10 L.length (cellsOf maC L), blkC bk (frC f) 42]) maC_len (l := L) (Rd.own 1 I) ha
   repeat' (first | refine zh ?_ | refine HL.subI (sz := 10) 0 a (Rd.own 1 I) I I I I (.inl ⟨rfl, rfl⟩) (.inr ⟨_, _, _, rfl, rfl, rfl⟩) (Nat.zero_le _) ha ?_ | refine HL.appR 0 I elemMa hR1 I I I (hcl _) (one_allcells maC_one _) (by simp; omega) (by simp; omega) ?_ | intro (bk : Nat))
   intro vo
   subst hx
   repeat' (first | refine zh ?_ | intro (bk : Nat))
   refine HR.regionD [(0, true), (1, true), (2, true), (3, false), (4, true), (5, false), (6, false), (7, true)] [2] I I hmix (by kernel_rfl) ?_
   repeat' (first | refine HD.ev I I I ?_ | refine HD.evc I I I (by first | omega | (simp; done) | (simp; omega)) ?_ | refine HD.L 0 I I I I I ?_ | refine HD.L 1 I I I I I ?_ | refine HD.L 2 I I I I I ?_ | refine HD.L 3 I I I I I ?_ | refine HD.build I I I ?_ | refine HD.field I I I ?_ | refine HD.skip I I I ?_ | refine HD.skipO I I I ?_ | (refine HD.one I ?_; first | refine HL.ev I I ?_ | refine HL.callB fn169 I I (fun w _ => r13lim_any now w) ?_ | (refine HL.bslice elemMa I I I I I (by decide) (by decide) ?_; intro va2) | (refine HL.appR (news := maC ⟨f, tick now⟩) 1 I elemMa (Rd.own 0 I) I I I I (allOne_spec I) (by simp; omega) (by simp; omega) ?_; intro vo2) | (refine HL.isLoad ?_; first | refine HL.L 0 I I I I ?_ | refine HL.L 1 I I I I ?_ | refine HL.L 2 I I I I ?_ | refine HL.L 3 I I I I ?_) | (refine HL.isStore ?_; first | refine HL.S 0 I I I I I ?_ | refine HL.S 1 I I I I I ?_ | refine HL.S 2 I I I I I ?_ | refine HL.S 3 I I I I I ?_) | (refine HL.alloc I I ?_; intro bk)) | refine HL.back [2] rfl rfl ?_ | refine HL.back [3] rfl rfl ?_ | refine HD.nil ?_)
   have hR2 := Rd.suf (B := base w) (H := [ownC va2 73 10 1 (maC ⟨f, tick now⟩), ownC vo2 73 10 (0 + (L.take a).length + 1) (([] ++ cellsOf maC (L.take a)) ++ maC ⟨f, tick now⟩), ownC u 73 10 L.length (cellsOf maC L), blkC bk (frC f) 42]) maC_len (l := L) (Rd.own 2 I) ha
   repeat' (first | refine zh ?_ | refine HL.subI (sz := 10) a L.length (Rd.own 2 I) I I I I (.inr ⟨_, _, _, rfl, rfl, rfl⟩) (.inl ⟨rfl, rfl⟩) ha (Nat.le_refl _) ?_ | refine HL.appR 1 I elemMa hR2 I I I (hcl _) (one_allcells maC_one _) (by simp; omega) (by simp; omega) ?_ | intro (bk : Nat))
   intro v5
   repeat' (first | refine zh ?_ | intro (bk : Nat))
   refine HR.ret Tryz.func160 I [_, _] (fun _ _ => ⟨I, I, trivial⟩) ?_
   refine fun w' hw => ⟨v5, rfl, trivial, Ent.own0 ?_ ?_ w' (hw.pick [1] I rfl)⟩
   ·simp; omega
   ·exact hcat.symm
  ·refine HR.loop2 (α := Nat) (β := Nat) (fun b a => b ≤ L.length ∧ b ≤ a ∧ a ≤ L.length ∧ (f.ur = false → a = L.length) ∧ (f.ur = true → (∀ j y, b ≤ j → j < a → L[j]? = some y → bur y = true) ∧ ∀ y, L[a]? = some y → bur y = false)) (fun b a => [(2, .int .i64 now), (4, .pointer (some ⟨bk, 0, none⟩)), (8, u), (11, .int .i64 (a : Int)), (12, .int .i64 ((b : Int) - 1))]) (fun _ _ => [ownC u 73 10 L.length (cellsOf maC L), blkC bk (frC f) 42]) (fun b _ => b) L.length L.length ⟨Nat.le_refl _, Nat.le_refl _, Nat.le_refl _, fun _ => rfl, fun _ => ⟨fun j y h1 h2 => by omega, fun y hy => by have := (List.getElem?_eq_some_iff.1 hy).1; omega⟩⟩ ⟨I, I, I, I, I, trivial⟩ Ent.refl ?_
   rintro b a ⟨hb, hba, ha, hf0, hf1⟩ ih
   repeat' (first | refine zh ?_ | apply zb ?_ ?_ | exact zc | (refine zi fun hb => ?_; try simp at hb) | intro (bk : Nat))
   refine HR.cond I (fun h4 => ?_) (fun h4 => ?_)
   ·have h4 : (decide ((b : Int) - 1 ≥ 0) && f.ur) = true := h4
    simp only [Bool.and_eq_true, decide_eq_true_eq] at h4
    obtain ⟨m, rfl⟩ : ∃ m, b = m + 1 := ⟨b - 1, by omega⟩
    have hml : m < L.length := by omega
    obtain ⟨y, hy⟩ := getSome hml
    obtain ⟨g1, g2⟩ := hf1 h4.2
    repeat' (first | refine zh ?_ | refine HL.idxR (Rd.own 0 I) elemMa m I I I (by omega) hml ?_ | refine HL.fieldN 0 (Rd.own 0 I) (by rw [hcl]; omega) I I I I I I I ?_ | refine HL.fieldN 7 (Rd.own 0 I) (by rw [hcl]; omega) I I I I I I I ?_ | refine HL.loadI (Rd.own 0 I) I I I I (cells_get maC_len hy (i := 7) I) ?_ | intro (bk : Nat))
    refine HR.cond I (fun h5 => ?_) (fun h5 => ?_)
    ·have h5 : y.f.ur = false := by have h5 : (!y.f.ur) = true := h5; simpa using h5
     repeat' (first | refine zh ?_ | intro (bk : Nat))
     refine ih m m _ _ ⟨by omega, Nat.le_refl _, by omega, fun e => (by rw [h4.2] at e; cases e), fun _ => ⟨fun j y h1 h2 => by omega, fun y' hy' => by rw [hy] at hy'; cases hy'; exact h5⟩⟩ (by omega) ⟨rfl, rfl, rfl, by show some (Value.int IntKind.i64 _) = some (Value.int IntKind.i64 _); congr 2; omega, by show some (Value.int IntKind.i64 _) = some (Value.int IntKind.i64 _); congr 2; omega, trivial⟩ Ent.refl
    ·have h5 : y.f.ur = true := by have h5 : (!y.f.ur) = false := h5; simpa using h5
     repeat' (first | refine zh ?_ | intro (bk : Nat))
     refine ih m a _ _ ⟨by omega, by omega, ha, hf0, fun _ => ⟨fun j y' h1 h2 hy' => ?_, g2⟩⟩ (by omega) ⟨rfl, rfl, rfl, rfl, by show some (Value.int IntKind.i64 _) = some (Value.int IntKind.i64 _); congr 2; omega, trivial⟩ Ent.refl
     by_cases e : j = m
     ·subst e; rw [hy] at hy'; cases hy'; exact h5
     ·exact g1 j y' (by omega) h2 hy'
   ·have h4 : (decide ((b : Int) - 1 ≥ 0) && f.ur) = false := h4
    have e : (if f.ur = false then L ++ [x] else ins bur L x) = L.take a ++ x :: L.drop a := by
     cases hu : f.ur
     ·rw [if_pos rfl, hf0 hu, List.take_length, List.drop_length]
     ·rw [if_neg (by decide)]
      rw [hu, Bool.and_true] at h4
      have h4 := of_decide_eq_false h4
      obtain ⟨g1, g2⟩ := hf1 hu
      exact ins_at ha (fun j y hj hy => g1 j y (by omega) hj hy) g2
    refine HR.exit I ?_
    exact hj2 a _ _ ⟨ha, e⟩ ⟨I, I, I, I, trivial⟩ Ent.refl
 ·refine HR.cond I (fun h4 => ?_) (fun h4 => ?_)
  ·have h4 : T.length = 16 := by have h4 : ((T.length : Int) == 16) = true := h4; simp at h4; omega
   have hM0 : ¬ M < 0 := fun e => h3 ⟨h4, .inr e⟩
   obtain ⟨m, rfl⟩ : ∃ m : Nat, M = m := ⟨M.toNat, by omega⟩
   rw [if_pos h4, Int.toNat_natCast] at hroom
   refine HR.region ?_
   repeat' (first | refine zn ?_ | apply zb ?_ ?_ | exact zc | (refine zi fun hb => ?_; try simp at hb) | intro (bk : Nat))
   refine HL.callO fn190 I I (fun w hw => r13without_any T m v1 w ((Rd.own 0 rfl).at hw) (by omega) (by omega)) ?_
   intro u
   repeat' (first | refine zn ?_ | apply zb ?_ ?_ | exact zc | (refine zi fun hb => ?_; try simp at hb) | intro (bk : Nat))
   rw [← hroom]
   exact hj u _ _ trivial ⟨I, I, I, trivial⟩ (Ent.pick [0, 2] I I)
  ·have h4 : ¬ T.length = 16 := by intro e; have h4 : ((T.length : Int) == 16) = false := h4; rw [e] at h4; cases h4
   rw [if_neg h4] at hroom
   subst hroom
   refine HR.skip ?_
   exact hj v1 _ _ trivial ⟨I, I, I, trivial⟩ (Ent.pick [0, 1] I I)
end Go.Proofs.YtgdgclmkpoaagaaGreat
namespace Go.Proofs.YtgdgclmkpoaagaaGreat
open Go.GX Go.RowKit
attribute [local irreducible] Calls Run RunL RunQ RunD HR HL HD blkC ownC Rd
open Nd
theorem bold_le (now life : Int) (m : Ma) : (!bold now life m) = decide (tick now - tick m.si ≤ tick life) := by
 unfold bold
 by_cases h : tick now - tick m.si > tick life
 ·rw [decide_eq_true h, decide_eq_false (by omega)]; rfl
 ·rw [decide_eq_false h, decide_eq_true (by omega)]; rfl
theorem r13exp_any (l : List Ma) (now life : Int) (v : Value) (w : World) (hv : Sl w v (cellsOf maC l) l.length) (hl : l.length ≤ 1000) :
  Calls Tryz.prog 97 #[v, .int .i64 now, .int .i64 life] w fun e w' => ∃ v', e = .returned v' ∧ Sat (base w) [ownC v' 73 10 (bexp l now life).length (cellsOf maC (bexp l now life))] w' := by
 have h16 : (l.take 16).length ≤ 16 := by simp; omega
 have hcl : ∀ T : List Ma, (cellsOf maC T).length = T.length * 10 := cellsOf_len maC_len
 unfold bexp
 refine calls_hr Tryz.func97 I (Nat.le_of_ble_eq_true I) ?_
 refine HR.sub (σ' := [(0, v), (1, .int .i64 now), (2, .int .i64 life)]) ⟨I, I, I, trivial⟩ ?_
 repeat' (first | refine zh ?_ | intro (bk : Nat))
 refine HL.callO fn168 I I (fun w hw => r13first_any l v w ((Rd.arg hv).at hw) hl) ?_
 intro v1
 obtain ⟨T, hT⟩ : ∃ T, T = l.take 16 := ⟨_, rfl⟩
 rw [← hT] at h16 ⊢
 repeat' (first | refine zh ?_ | intro (bk : Nat))
 refine HR.nilC 73 10 ?_
 refine HR.loop2 (α := Nat) (β := Value) (fun k o => k ≤ T.length) (fun k o => [(1, .int .i64 now), (2, .int .i64 life), (7, v1), (8, o), (9, .int .i64 (k : Int))]) (fun k o => [ownC o 73 10 ((T.take k).filter fun m => !bold now life m).length (cellsOf maC ((T.take k).filter fun m => !bold now life m)), ownC v1 73 10 T.length (cellsOf maC T)]) (fun k _ => T.length - k) 0 (.slice none 0 0) (Nat.zero_le _) ⟨I, I, I, I, I, trivial⟩ (Ent.pick [0, 1] I I) ?_
 rintro k o hk ih
 have hfl : ((T.take k).filter fun m => !bold now life m).length ≤ 16 := Nat.le_trans (List.length_filter_le _ _) (by simp; omega)
 repeat' (first | refine zh ?_ | refine HL.lenR (Rd.own 1 I) I I I ?_ | intro (bk : Nat))
 refine HR.cond I (fun h2 => ?_) (fun h2 => ?_)
 ·have hlt : k < T.length := by have := of_decide_eq_true h2; omega
  obtain ⟨x, hx⟩ := getSome hlt
  have hft := filt_take (fun m => !bold now life m) hx
  have t1 := tick_rng now
  have t2 := tick_rng x.si
  have t3 := tick_rng life
  repeat' (first | refine zh ?_ | intro (bk : Nat))
  refine HR.regionD [(0, true), (2, true), (3, true), (4, true), (5, true), (6, true), (9, true), (1, false), (7, false), (8, true), (10, false), (11, true)] [1] I I hmix (by kernel_rfl) ?_
  repeat' (first | refine zd ?_ | refine HD.callB [1] I I fn169 I I I (fun w _ => r13lim_any _ w) ?_ | refine HD.idxR (Rd.own 0 I) elemMa k I I I I I hlt ?_ | refine HD.fieldN 9 (Rd.own 0 I) (by rw [hcl]; omega) I I I I I I I I ?_ | refine HD.loadI (Rd.own 0 I) I I I I I (cells_get maC_len hx (i := 9) I) ?_)
  refine HD.nil ?_
  refine HR.cond I (fun h3 => ?_) (fun h3 => ?_)
  ·have h3 : (!bold now life x) = true := by rw [bold_le]; exact h3
   rw [if_pos h3] at hft
   repeat' (first | refine zh ?_ | refine HL.idxR (Rd.own 1 I) elemMa k I I I I hlt ?_ | refine HL.loadE (Rd.own 1 I) I I I I (by simp) I (cellsOf_get maC_len hx) ?_ | refine HL.bslice elemMa I I I I I (by decide) (by decide) ?_ | intro (bk : Nat))
   intro va
   repeat' (first | refine zh ?_ | refine HL.appR 1 I elemMa (Rd.own 0 I) I I I I (allOne_spec I) (by omega) (by omega) ?_ | intro (bk : Nat))
   intro o2
   repeat' (first | refine zh ?_ | intro (bk : Nat))
   refine ih (k + 1) o2 _ _ hlt (by omega) ⟨I, I, I, I, I, trivial⟩ (Ent.trans (Ent.pick [1, 2] I I) (Ent.own0 ?_ ?_))
   ·rw [hft]; simp
   ·rw [hft, cellsOf_app]; rfl
  ·have h3 : (!bold now life x) = false := by rw [bold_le]; exact h3
   rw [if_neg (by rw [h3]; decide)] at hft
   repeat' (first | refine zh ?_ | intro (bk : Nat))
   refine ih (k + 1) o _ _ hlt (by omega) ⟨I, I, I, I, I, trivial⟩ (Ent.own0 ?_ ?_)
   ·rw [hft]
   ·rw [hft]
 ·have hke : k = T.length := by have := of_decide_eq_false h2; omega
  subst hke
  rw [List.take_length]
  repeat' (first | refine zh ?_ | intro (bk : Nat))
  refine HR.ret Tryz.func97 I [_] (fun _ _ => ⟨I, trivial⟩) ?_
  exact fun w' hw => ⟨o, rfl, hw.pick [0] I rfl⟩
end Go.Proofs.YtgdgclmkpoaagaaGreat
namespace Nd
open Go.GX Tp
theorem rbump_tab {t : List Ro} {self : Int} (h : Tab self t) : Tab self (rbump t self) ∧ Kept t (rbump t self) := by
 unfold rbump
 rw [h.tab, lim_of h.ok]
 split
 ·rename_i r hr
  obtain ⟨h1, h2⟩ := rat_pos h.asc hr
  have hm := List.mem_of_getElem? h1
  split
  ·rename_i hlt
   have hk : Kept t (t.set (rpos t self) ⟨r.dest, r.sq + 2, r.cost, r.nx⟩) := by
    intro x hx
    obtain ⟨j, hj⟩ := List.getElem?_of_mem hx
    by_cases hji : j = rpos t self
    ·subst hji; rw [h1] at hj; cases hj
     exact ⟨_, List.mem_of_getElem? (List.getElem?_set_self (List.getElem?_eq_some_iff.1 h1).1), .inr ⟨rfl, .inl (by show r.sq + 2 > r.sq; omega)⟩⟩
    ·exact ⟨x, List.mem_of_getElem? (i := j) (by rw [List.getElem?_set_ne (Ne.symm hji)]; exact hj), .inl rfl⟩
   refine ⟨⟨by rw [List.length_set]; exact h.len, h.ok, fun x hx => ?_, asc_set h.asc h1 rfl, own_kept h.own hk, fun x hx => ?_⟩, hk⟩
   ·rcases List.mem_or_eq_of_mem_set hx with hx | rfl
    ·exact h.rng x hx
    ·have hg := h.rng r hm
     have hf := h.form r hm
     unfold rform at hf
     rw [if_pos h2] at hf
     simp only [Bool.not_eq_false', Bool.and_eq_true, beq_iff_eq] at hf
     have hs := h.ok
     rw [okN_iff] at hs
     unfold rrange usable fin at hg ⊢
     rw [hf.1, hf.2, h2] at hg ⊢
     simp only [h.ok] at hg ⊢
     simp at hg ⊢
     omega
   ·rcases List.mem_or_eq_of_mem_set hx with hx | rfl
    ·exact h.form x hx
    ·have hf := h.form r hm
     unfold rform at hf ⊢
     exact hf
  ·exact ⟨h, Kept.refl t⟩
 ·exact ⟨h, Kept.refl t⟩
theorem Ord.setTable {n : Nd} (h : Ord n) {t : List Ro} (ht : Tab n.addr t) : Ord { n with table := t } := { h with table := ht }
theorem box_table (n : Nd) (f : Fr) (now : Int) : (box n f now).table = n.table ∧ (box n f now).addr = n.addr := by
 unfold box; simp only; split <;> exact ⟨rfl, rfl⟩
theorem Good.refl {n : Nd} (h : Ord n) : Good n n := ⟨h, rfl, Kept.refl _⟩
theorem Good.trans {a b c : Nd} (h : Good a b) (h' : Good b c) : Good a c := ⟨h'.ord, h'.addr.trans h.addr, h.kept.trans h'.kept⟩
theorem Good.of_eq {n m : Nd} (h : Ord m) (h1 : m.table = n.table) (h2 : m.addr = n.addr) : Good n m := ⟨h, h2, by rw [h1]; exact Kept.refl _⟩
theorem Good.lose {n m : Nd} (h : Good n m) : Good n (lose m) := ⟨h.ord.lose, h.addr, h.kept⟩
theorem Good.queue {n m : Nd} (h : Good n m) (f : Fr) : Good n (queue m f).1 := h.trans (.of_eq (h.ord.queue f) (queue_table m f).1 (queue_table m f).2)
theorem Good.box {n m : Nd} (h : Good n m) (f : Fr) (now : Int) : Good n (box m f now) := h.trans (.of_eq (h.ord.box f now) (box_table m f now).1 (box_table m f now).2)
theorem Good.out {n m : Nd} (h : Good n m) {q : List Sn} (hq : q.length ≤ 16) : Good n { m with out := q } := ⟨h.ord.setOut hq, h.addr, h.kept⟩
theorem boxes_good {n : Nd} (now : Int) : ∀ (l : List Fr) {m : Nd}, Good n m → Good n (l.foldl (fun n f => box n f now) m)
 | [], _, h => h
 | f :: l, _, h => boxes_good now l (h.box f now)
theorem bumped_good {n m : Nd} (h : Good n m) : Good n (bumped m) := by
 obtain ⟨g1, g2⟩ := rbump_tab h.ord.table
 exact ⟨h.ord.setTable g1, h.addr, h.kept.trans g2⟩
theorem beacon_good {n m : Nd} (h : Good n m) : Good n (beacon m) := by
 unfold beacon; split
 ·exact (bumped_good h).queue _
 ·exact bumped_good h
theorem poll_good {n m : Nd} (h : Good n m) : Good n (poll m) := by
 unfold poll; split
 ·exact (bumped_good h).queue _
 ·exact bumped_good h
theorem asleep_good {n m : Nd} (h : Good n m) (now : Int) : Good n (asleep m now) := by
 unfold asleep
 exact boxes_good now _ (h.out (Nat.le_trans (List.length_filter_le _ _) h.ord.out))
theorem mtick_len (q : List Sn) : (mtick q).length ≤ 16 := by unfold mtick; simp; omega
theorem tick_good (n : Nd) (now : Int) : Good (order n) (tickN n now) := by
 have ho := order_ord n
 have h1 : Good (order n) (asleep { order n with out := mtick (order n).out, boxes := bexp (order n).boxes (tick now) 120, parts := pexp (order n).parts (tick now) 120 } (tick now)) :=
  asleep_good (n := order n) ⟨((ho.setOut (mtick_len (order n).out)).setBoxes (bexp_len (order n).boxes (tick now) 120)).setParts (pexp (order n).parts (tick now) 120), rfl, Kept.refl (order n).table⟩ (tick now)
 unfold tickN
 simp only
 generalize asleep { order n with out := mtick (order n).out, boxes := bexp (order n).boxes (tick now) 120, parts := pexp (order n).parts (tick now) 120 } (tick now) = a at h1 ⊢
 have h2 : Good (order n) (if a.poll = 0 ∧ tick now % 8 = a.addr % 8 then beacon a else a) := by
  split
  ·exact beacon_good h1
  ·exact h1
 generalize (if a.poll = 0 ∧ tick now % 8 = a.addr % 8 then beacon a else a) = b at h2 ⊢
 split
 ·exact poll_good h2
 ·exact h2
theorem talks_good {n : Nd} {now : Int} : ∀ (k : Nat) {m : Nd} {i : Nat}, Good n m → Good n (talks now k m i).1
 | 0, m, i, h => h
 | k + 1, m, i, h => by
  unfold talks
  split
  ·exact h
  ·split
   ·exact talks_good k h
   ·split
    ·exact h
    ·split
     ·exact talks_good k ((h.out (Nat.le_trans (List.length_eraseIdx_le _ _) h.ord.out)).box _ _)
     ·split
      ·exact h
      ·split
       ·exact talks_good k (h.out (mres_len _ _ _)).lose
       ·exact talks_good k (h.out (mres_len _ _ _))
theorem talk_good (n : Nd) (now : Int) : Good (order n) (talk n now).1 := talks_good _ (Good.refl (order_ord n))
end Nd
namespace Go.Proofs.YtgdgclmkpoaagaaGreat
open Go.GX Go.RowKit
attribute [local irreducible] Calls Run RunL RunQ RunD HR HL HD blkC ownC Rd
open Nd
theorem fn236 : IsFn Tryz.prog 236 := ⟨⟨_, _, Tryz.func236, rfl, by decide⟩⟩
theorem rsize_any (i c n : Int) (w : World) (hc : -1000000 ≤ c ∧ c ≤ 1000000) (hi : i < c) : Calls Tryz.prog 236 #[.int .i64 i, .int .i64 c, .int .i64 n] w fun e w' => e = .returned (.bool (fits i c n)) ∧ Below w.heap.size w w' := by
 unfold Nd.fits
 refine calls_hr Tryz.func236 I (Nat.le_of_ble_eq_true I) ?_
 refine HR.sub (σ' := [(0, .int .i64 i), (1, .int .i64 c), (2, .int .i64 n)]) ⟨I, I, I, trivial⟩ ?_
 repeat' (first | refine zh ?_ | intro (bk : Nat))
 refine HR.cond I (fun h => ?_) (fun h => ?_)
 ·have h : i < c - 1 := of_decide_eq_true h
  rw [if_pos (by omega)]
  repeat' (first | refine zh ?_ | intro (bk : Nat))
  refine HR.ret Tryz.func236 I [_] (fun _ _ => ⟨I, trivial⟩) ?_
  exact fun w' hw => ⟨rfl, hw.belowB⟩
 have h : ¬ i < c - 1 := of_decide_eq_false h
 rw [if_neg (by omega)]
 repeat' (first | refine zh ?_ | intro (bk : Nat))
 refine HR.cond I (fun h => ?_) (fun h => ?_)
 ·have h : c = 1 := eq_of_beq h
  rw [if_pos h]
  repeat' (first | refine zh ?_ | intro (bk : Nat))
  refine HR.ret Tryz.func236 I [_] (fun _ _ => ⟨I, trivial⟩) ?_
  exact fun w' hw => ⟨rfl, hw.belowB⟩
 have h : ¬ c = 1 := by have h : (c == 1) = false := h; simpa using h
 rw [if_neg h]
 repeat' (first | refine zh ?_ | intro (bk : Nat))
 refine HR.cond I (fun h => ?_) (fun h => ?_)
 ·have h : c = 16 := eq_of_beq h
  rw [if_pos h]
  repeat' (first | refine zh ?_ | apply zb ?_ ?_ | exact zc | (refine zi fun hb => ?_; try simp at hb) | intro (bk : Nat))
  refine HR.ret Tryz.func236 I [_] (fun _ _ => ⟨I, trivial⟩) ?_
  exact fun w' hw => ⟨rfl, hw.belowB⟩
 have h : ¬ c = 16 := by have h : (c == 16) = false := h; simpa using h
 rw [if_neg h]
 repeat' (first | refine zh ?_ | apply zb ?_ ?_ | exact zc | (refine zi fun hb => ?_; try simp at hb) | intro (bk : Nat))
 refine HR.ret Tryz.func236 I [_] (fun _ _ => ⟨I, trivial⟩) ?_
 exact fun w' hw => ⟨rfl, hw.belowB⟩
end Go.Proofs.YtgdgclmkpoaagaaGreat
namespace Go.Proofs.YtgdgclmkpoaagaaGreat
open Go.GX Go.RowKit
attribute [local irreducible] Calls Run RunL RunQ RunD HR HL HD blkC ownC Rd
open Nd
theorem fn92 : IsFn Tryz.prog 92 := ⟨⟨_, _, Tryz.func92, rfl, by decide⟩⟩
end Go.Proofs.YtgdgclmkpoaagaaGreat
namespace Go.Proofs.YtgdgclmkpoaagaaGreat
open Go.GX Go.RowKit
attribute [local irreducible] Calls Run RunL RunQ RunD HR HL HD blkC ownC Rd
open Nd
theorem ptG_filter (p : PtV → Bool) (L : List PtV) : (ptG L).Perm (ptG (L.filter p) ++ ptG (L.filter fun x => !p x)) := by
 rw [← ptG_app]
 unfold ptG
 exact (List.filter_append_perm p L).symm.flatMap_right _
end Go.Proofs.YtgdgclmkpoaagaaGreat
namespace Go.Proofs.YtgdgclmkpoaagaaGreat
open Go.GX Go.RowKit
attribute [local irreducible] Calls Run RunL RunQ RunD HR HL HD blkC ownC Rd
open Nd
theorem fexp_any (l : List PtV) (now life : Int) (v : Value) (w : World) (hv : RdPts w v l) (hs : ∀ p ∈ l, SmPt p.pt) (hl : l.length ≤ 1000) :
  Calls Tryz.prog 92 #[v, .int .i64 now, .int .i64 life] w fun e w' => ∃ x : Value × List PtV, e = .returned x.1 ∧ GdPts x (pexp (pts l) now life) ∧ Sat (base w) (ptsC x) w' := by
 have t1 := tick_rng now
 have t3 := tick_rng life
 refine calls_hr Tryz.func92 I (Nat.le_of_ble_eq_true I) ?_
 refine HR.sub (σ' := [(0, v), (1, .int .i64 now), (2, .int .i64 life)]) ⟨I, I, I, trivial⟩ ?_
 repeat' (first | refine zh ?_ | intro (bk : Nat))
 refine HL.callX (r := fun x : Value × List PtV => x.1) (Q := fun x => GdPts x (porder (pts l))) (G := fun x => ptsC x) fn163 I I (fun w1 hw1 => forder_any l v w1 (hv.ext hw1.belowB) hs hl) ?_
 rintro ⟨v1, L⟩ ⟨hL, hsh⟩
 have hL : pts L = porder (pts l) := hL
 have hsh : ∀ p ∈ L, ShPt p := hsh
 have hLl : L.length ≤ 8 := by have := porder_len (pts l); rw [← hL, pts_len] at this; exact this
 have hpv : ∀ p ∈ L, Head p.pt := fun p hp => phead_is (pvalid_head (porder_valid p.pt (by rw [← hL]; exact List.mem_map_of_mem hp)))
 repeat' (first | refine zh ?_ | refine HL.lenR (Rd.own 0 I) I I I ?_ | intro (bk : Nat))
 refine HR.nilC 76 6 ?_
 obtain ⟨p, hp⟩ : ∃ p : PtV → Bool, p = fun x => decide (tick now - x.pt.si ≤ tick life) := ⟨_, rfl⟩
 refine HR.loop2 (α := Nat) (β := Value) (fun k o => k ≤ L.length) (fun k o => [(1, .int .i64 now), (2, .int .i64 life), (7, o), (11, v1), (12, .int .i64 (L.length : Int)), (13, .int .i64 (k : Int))]) (fun k o => [ownC o 76 6 ((L.take k).filter p).length (cellsOf ptC ((L.take k).filter p)), ownC v1 76 6 L.length (cellsOf ptC L), groupC (ptG L)]) (fun k _ => L.length - k) 0 (.slice none 0 0) (Nat.zero_le _) ⟨I, I, I, I, I, I, trivial⟩ (Ent.pick [0, 1, 2] I I) ?_
 rintro k o hk ih
 have hfl : ((L.take k).filter p).length ≤ 8 := Nat.le_trans (List.length_filter_le _ _) (by simp; omega)
 repeat' (first | refine zh ?_ | intro (bk : Nat))
 refine HR.cond I (fun h2 => ?_) (fun h2 => ?_)
 ·have hlt : k < L.length := by have := of_decide_eq_true h2; omega
  obtain ⟨x, hx⟩ := getSome hlt
  have hxm := List.mem_of_getElem? hx
  have hft := filt_take p hx
  have H := hpv x hxm
  obtain ⟨a, n, c, a', n', c', ex⟩ := (hsh x hxm).lit
  obtain ⟨q, hq⟩ : ∃ q, q = x.pt := ⟨_, rfl⟩
  rw [← hq] at ex H
  subst ex
  have s0 := H.si0
  have s1 : q.si ≤ 1099511627776 := H.si1
  repeat' (first | refine zh ?_ | refine HL.idxR (Rd.own 1 I) elemPt k I I I I hlt ?_ | refine HL.loadE (Rd.own 1 I) I I I I (by simp) I (cellsOf_get ptC_len hx) ?_ | intro (bk : Nat))
  refine HR.regionD [(0, true), (2, true), (3, true), (5, true), (1, false), (4, true), (6, false), (7, true)] [0] I I hmix (by kernel_rfl) ?_
  repeat' (first | refine zd ?_ | refine HD.callB [0] I I fn164 I I I (fun w _ => flim_any _ w) ?_)
  refine HD.nil ?_
  refine HR.cond I (fun h3 => ?_) (fun h3 => ?_)
  ·have h3 : p ⟨.slice a n c, .slice a' n' c', q⟩ = true := by rw [hp]; exact h3
   rw [if_pos h3] at hft
   repeat' (first | refine zh ?_ | refine HL.bslice elemPt I I I I I (by decide) (by decide) ?_ | intro (bk : Nat))
   intro va
   repeat' (first | refine zh ?_ | intro (bk : Nat))
   refine HL.appR 2 I elemPt (Rd.own 0 I) I I I I (allOne_spec I) (by omega) (by omega) ?_
   intro o2
   repeat' (first | refine zh ?_ | intro (bk : Nat))
   refine ih (k + 1) o2 _ _ hlt (by omega) ⟨I, I, I, I, I, I, trivial⟩ (Ent.trans (Ent.pick [2, 3, 4] I I) (Ent.own0 ?_ ?_))
   ·rw [hft]; simp
   ·rw [hft, cellsOf_app]; rfl
  ·have h3 : p ⟨.slice a n c, .slice a' n' c', q⟩ = false := by rw [hp]; exact h3
   rw [if_neg (by rw [h3]; decide)] at hft
   repeat' (first | refine zh ?_ | intro (bk : Nat))
   refine ih (k + 1) o _ _ hlt (by omega) ⟨I, I, I, I, I, I, trivial⟩ (Ent.trans (Ent.pick [1, 2, 3] I I) (Ent.own0 ?_ ?_))
   ·rw [hft]
   ·rw [hft]
 ·have hke : k = L.length := by have := of_decide_eq_false h2; omega
  subst hke
  rw [List.take_length]
  repeat' (first | refine zh ?_ | intro (bk : Nat))
  refine HR.ret Tryz.func92 I [_] (fun _ _ => ⟨I, trivial⟩) ?_
  refine fun w' hw => ⟨(o, L.filter p), rfl, ⟨?_, fun y hy => hsh y (List.mem_filter.1 hy).1⟩, ?_⟩
  ·unfold pexp
   rw [← hL, hp]
   unfold pts
   rw [List.filter_map]; rfl
  ·have hw2 := hw.pick [2, 0] I I
   have hw3 := (Ent.gdrop _ (ptG_filter p L)) w' hw2
   exact hw3.pick [1, 0] I I
end Go.Proofs.YtgdgclmkpoaagaaGreat
namespace Go.Proofs.YtgdgclmkpoaagaaGreat
open Go.GX Go.RowKit
attribute [local irreducible] Calls Run RunL RunQ RunD HR HL HD blkC ownC Rd
open Nd
theorem fn209 : IsFn Tryz.prog 209 := ⟨⟨_, _, Tryz.func209, rfl, by decide⟩⟩
theorem fn192 : IsFn Tryz.prog 192 := ⟨⟨_, _, Tryz.func192, rfl, by decide⟩⟩
theorem fn210 : IsFn Tryz.prog 210 := ⟨⟨_, _, Tryz.func210, rfl, by decide⟩⟩
theorem fn170 : IsFn Tryz.prog 170 := ⟨⟨_, _, Tryz.func170, rfl, by decide⟩⟩
theorem fn98 : IsFn Tryz.prog 98 := ⟨⟨_, _, Tryz.func98, rfl, by decide⟩⟩
theorem r15valid_any (p : PtV) (w : World) (hr : RdPt w p) (hs : SmPt p.pt) : Calls Tryz.prog 209 #[.agg ⟨ptC p⟩] w fun e w' => e = .returned (.bool (pvalid p.pt)) ∧ Below w.heap.size w w' := by
 obtain ⟨vh, vd, q⟩ := p
 obtain ⟨hh, hd⟩ := hr
 obtain ⟨s1, s2, s3⟩ := hs
 have hh : Sl w vh (cellsOf bC q.hv) q.hv.length := hh
 have hd : Sl w vd (cellsOf sC q.da) q.da.length := hd
 refine calls_hr Tryz.func209 I (Nat.le_of_ble_eq_true I) ?_
 refine HR.sub (σ' := [(0, .agg ⟨ptC ⟨vh, vd, q⟩⟩)]) ⟨I, trivial⟩ ?_
 repeat' (first | refine zh ?_ | refine HL.lenR (Rd.arg hh) I I I ?_ | refine HL.lenR (Rd.arg hd) I I I ?_ | apply zb ?_ ?_ | exact zc | (refine zi fun hb => ?_; try simp at hb) | intro (bk : Nat))
 refine HR.cond I (fun h => ?_) (fun h => ?_)
 ·have h : phead q = true := h
  rw [pvalid_hd h]
  repeat' (first | refine zh ?_ | intro (bk : Nat))
  refine HR.ret Tryz.func209 I [_] (fun _ _ => ⟨I, trivial⟩) ?_
  exact fun w' hw => ⟨rfl, hw.belowB⟩
 have h : phead q = false := h
 have H := phead_is h
 have e1 := H.hv
 have e2 := H.da
 have c0 := H.ct0
 have c1 := H.ct1
 repeat' (first | refine zh ?_ | refine HL.lenR (Rd.arg hh) I I I ?_ | intro (bk : Nat))
 refine HR.loop (ι := Nat) (fun k => k ≤ q.hv.length ∧ (List.range k).all (pone q) = true) (fun k => [(1, .pointer (some ⟨bk, 0, none⟩)), (3, .int .i64 ((pnum (q.hv.take k) : Nat) : Int)), (51, .int .i64 (q.hv.length : Int)), (52, .int .i64 (k : Int))]) (fun _ => [blkC bk (ptC ⟨vh, vd, q⟩) 76]) (fun k => q.hv.length - k) 0 ⟨Nat.zero_le _, rfl⟩ ⟨I, I, I, I, trivial⟩ Ent.refl ?_
 rintro k ⟨hk, hall⟩ ih
 have hpl := pnum_le (q.hv.take k)
 have htl : (q.hv.take k).length ≤ k := by simp; omega
 repeat' (first | refine zh ?_ | intro (bk : Nat))
 refine HR.cond I (fun h2 => ?_) (fun h2 => ?_)
 ·have hlt : k < q.hv.length := by have := of_decide_eq_true h2; omega
  obtain ⟨b, hb⟩ := getSome hlt
  obtain ⟨d, hdk⟩ := getSome (show k < q.da.length by omega)
  have hpo : pone q k = if b then fits k q.ct (d.length : Int) else decide (d = []) := by
   unfold pone
   rw [List.getD_eq_getElem?_getD, List.getD_eq_getElem?_getD, hb, hdk]; rfl
  have hps := pnum_step hb
  have hdl := s3 d (List.mem_of_getElem? hdk)
  repeat' (first | refine zh ?_ | refine HL.idxR (Rd.arg hh) elemB k I I I I hlt ?_ | refine HL.loadI (Rd.arg hh) I I I I (cellsOf_get1 hb) ?_ | intro (bk : Nat))
  refine HR.cond I (fun h4 => ?_) (fun h4 => ?_)
  ·have h4 : b = true := h4
   rw [h4, if_pos rfl] at hps hpo
   repeat' (first | refine zh ?_ | intro (bk : Nat))
   refine HR.regionD [(0, true), (1, true), (2, true), (3, true), (4, true), (5, true), (6, true), (7, true), (8, true), (9, false), (10, true)] [0] I I hmix (by kernel_rfl) ?_
   repeat' (first | refine zd ?_ | refine HD.callB [0] I I fn236 I I I (fun w _ => rsize_any k q.ct d.length w (by omega) (by omega)) ?_ | refine HD.idxR (Rd.arg hd) elemS k I I I I I (by omega) ?_ | refine HD.loadI (Rd.arg hd) I I I I I (cellsOf_get1 hdk) ?_)
   refine HD.nil ?_
   refine HR.cond I (fun h3 => ?_) (fun h3 => ?_)
   ·have h3 : pone q k = false := by rw [hpo]; have h3 : (!fits k q.ct (d.length : Int)) = true := h3; simpa using h3
    rw [pvalid_no hlt h3]
    repeat' (first | refine zh ?_ | intro (bk : Nat))
    refine HR.ret Tryz.func209 I [_] (fun _ _ => ⟨I, trivial⟩) ?_
    exact fun w' hw => ⟨rfl, hw.belowB⟩
   ·have h3 : pone q k = true := by rw [hpo]; have h3 : (!fits k q.ct (d.length : Int)) = false := h3; simpa using h3
    repeat' (first | refine zh ?_ | intro (bk : Nat))
    exact ih (k + 1) _ _ ⟨hlt, all_range_step hall h3⟩ (by omega) ⟨rfl, by rw [hps]; rfl, rfl, rfl, trivial⟩ Ent.refl
  ·have h4 : b = false := h4
   rw [h4, if_neg (by decide)] at hps hpo
   repeat' (first | refine zh ?_ | refine HL.idxR (Rd.arg hd) elemS k I I I I (by omega) ?_ | refine HL.loadI (Rd.arg hd) I I I I (cellsOf_get1 hdk) ?_ | intro (bk : Nat))
   refine HR.cond I (fun h3 => ?_) (fun h3 => ?_)
   ·have h3 : pone q k = false := by rw [hpo]; have h3 : (d != ([] : By)) = true := h3; simpa using h3
    rw [pvalid_no hlt h3]
    repeat' (first | refine zh ?_ | intro (bk : Nat))
    refine HR.ret Tryz.func209 I [_] (fun _ _ => ⟨I, trivial⟩) ?_
    exact fun w' hw => ⟨rfl, hw.belowB⟩
   ·have h3 : pone q k = true := by rw [hpo]; have h3 : (d != ([] : By)) = false := h3; simpa using h3
    repeat' (first | refine zh ?_ | intro (bk : Nat))
    exact ih (k + 1) _ _ ⟨hlt, all_range_step hall h3⟩ (by omega) ⟨rfl, by rw [hps]; rfl, rfl, rfl, trivial⟩ Ent.refl
 ·have hke : k = q.hv.length := by have := of_decide_eq_false h2; omega
  subst hke
  rw [List.take_length]
  have hpv : pvalid q = (decide (((pnum q.hv : Nat) : Int) > 0) && decide (((pnum q.hv : Nat) : Int) < q.ct)) := by
   unfold pvalid
   rw [h, hall]
   simp
  rw [hpv]
  repeat' (first | refine zh ?_ | apply zb ?_ ?_ | exact zc | (refine zi fun hb => ?_; try simp at hb) | intro (bk : Nat))
  refine HR.ret Tryz.func209 I [_] (fun _ _ => ⟨I, trivial⟩) ?_
  exact fun w' hw => ⟨rfl, hw.belowB⟩
theorem r15find_any (L : List PtV) (s id : Int) (v : Value) (w : World) (hv : Sl w v (cellsOf ptC L) L.length) (hl : L.length ≤ 1000000) :
  Calls Tryz.prog 192 #[v, .int .i64 s, .int .i64 id] w fun e w' => e = .returned (.int .i64 (pfi (pts L) s id)) ∧ Below w.heap.size w w' := by
 have hcl : ∀ T : List PtV, (cellsOf ptC T).length = T.length * 6 := cellsOf_len ptC_len
 refine calls_hr Tryz.func192 I (Nat.le_of_ble_eq_true I) ?_
 refine HR.sub (σ' := [(0, v), (1, .int .i64 s), (2, .int .i64 id)]) ⟨I, I, I, trivial⟩ ?_
 repeat' (first | refine zh ?_ | refine HL.lenR (Rd.arg hv) I I I ?_ | intro (bk : Nat))
 refine HR.loop (ι := Nat) (fun k => k ≤ L.length ∧ ∀ j b, j < k → (pts L)[j]? = some b → pis s id b = false) (fun k => [(0, v), (1, .int .i64 s), (2, .int .i64 id), (9, .int .i64 (L.length : Int)), (10, .int .i64 (k : Int))]) (fun _ => []) (fun k => L.length - k) 0 ⟨Nat.zero_le _, fun j b hj => absurd hj (Nat.not_lt_zero _)⟩ ⟨I, I, I, I, I, trivial⟩ Ent.refl ?_
 rintro k ⟨hk, hno⟩ ih
 repeat' (first | refine zh ?_ | intro (bk : Nat))
 refine HR.cond I (fun h2 => ?_) (fun h2 => ?_)
 ·have hlt : k < L.length := by have := of_decide_eq_true h2; omega
  obtain ⟨x, hx⟩ := getSome hlt
  repeat' (first | refine zh ?_ | refine HL.idxR (Rd.arg hv) elemPt k I I I I hlt ?_ | refine HL.fieldN 0 (Rd.arg hv) (by rw [hcl]; omega) I I I I I I I ?_ | refine HL.fieldN 1 (Rd.arg hv) (by rw [hcl]; omega) I I I I I I I ?_ | refine HL.loadI (Rd.arg hv) I I I I (cells_get ptC_len hx (i := 0) I) ?_ | refine HL.loadI (Rd.arg hv) I I I I (cells_get ptC_len hx (i := 1) I) ?_ | apply zb ?_ ?_ | exact zc | (refine zi fun hb => ?_; try simp at hb) | intro (bk : Nat))
  refine HR.cond I (fun h3 => ?_) (fun h3 => ?_)
  ·have h3 : pis s id x.pt = true := h3
   repeat' (first | refine zh ?_ | intro (bk : Nat))
   refine HR.ret Tryz.func192 I [_] (fun _ _ => ⟨I, trivial⟩) ?_
   have e : pfi (pts L) s id = k := fidx_at (pts_get hx) h3 hno
   rw [e]
   exact fun w' hw => ⟨rfl, hw.belowB⟩
  ·have h3 : pis s id x.pt = false := h3
   repeat' (first | refine zh ?_ | intro (bk : Nat))
   refine ih (k + 1) _ _ ⟨hlt, fun j b hj hb => ?_⟩ (by omega) ⟨I, I, I, I, I, trivial⟩ Ent.refl
   by_cases e : j = k
   ·subst e; rw [pts_get hx] at hb; cases hb; exact h3
   ·exact hno j b (by omega) hb
 ·have hke : k = L.length := by have := of_decide_eq_false h2; omega
  subst hke
  have e : pfi (pts L) s id = -1 := fidx_none (fun j b hj hb => hno j b (by rw [pts_len] at hj; exact hj) hb)
  rw [e]
  repeat' (first | refine zh ?_ | intro (bk : Nat))
  refine HR.ret Tryz.func192 I [_] (fun _ _ => ⟨I, trivial⟩) ?_
  exact fun w' hw => ⟨rfl, hw.belowB⟩
theorem r15copy_any (p : PtV) (w : World) (hr : RdPt w p) (h2 : p.pt.hv.length ≤ 1000) (h3 : p.pt.da.length ≤ 1000) :
  Calls Tryz.prog 210 #[.agg ⟨ptC p⟩] w fun e w' => ∃ x : Value × Value, e = .returned (.agg ⟨ptC ⟨x.1, x.2, p.pt⟩⟩) ∧ ShPt ⟨x.1, x.2, p.pt⟩ ∧ Sat (base w) [ptH ⟨x.1, x.2, p.pt⟩, ptD ⟨x.1, x.2, p.pt⟩] w' := by
 obtain ⟨vh, vd, q⟩ := p
 obtain ⟨hh, hd⟩ := hr
 have hh : Sl w vh (cellsOf bC q.hv) q.hv.length := hh
 have hd : Sl w vd (cellsOf sC q.da) q.da.length := hd
 have h2 : q.hv.length ≤ 1000 := h2
 have h3 : q.da.length ≤ 1000 := h3
 obtain ⟨ah, ch, evh, _⟩ := hh.2
 obtain ⟨ad, cd, evd, _⟩ := hd.2
 subst evh
 subst evd
 refine calls_hr Tryz.func210 I (Nat.le_of_ble_eq_true I) ?_
 refine HR.sub (σ' := [(0, .agg ⟨ptC ⟨.slice ah q.hv.length ch, .slice ad q.da.length cd, q⟩⟩)]) ⟨I, trivial⟩ ?_
 refine HR.ctl I ?_
 refine HR.region ?_
 refine HL.box I I ?_
 intro b1
 refine HL.alloc I I ?_
 intro b2
 repeat' (first | refine zh ?_ | intro (bk : Nat))
 refine HL.bslice0 elemB I ?_
 intro va
 repeat' (first | refine zh ?_ | intro (bk : Nat))
 refine HL.appR 0 I elemB (Rd.arg hh) I I I (cellsOf_len bC_len _) (one_allcells bC_one _) (by omega) (by omega) ?_
 intro v1
 refine HL.shape 0 I fun a1 c1 hv1 => ?_
 subst hv1
 repeat' (first | refine zh ?_ | intro (bk : Nat))
 refine HL.bslice0 elemS I ?_
 intro vb
 repeat' (first | refine zh ?_ | intro (bk : Nat))
 refine HL.appR 0 I elemS (Rd.arg hd) I I I (cellsOf_len sC_len _) (one_allcells sC_one _) (by omega) (by omega) ?_
 intro v2
 refine HL.shape 0 I fun a2 c2 hv2 => ?_
 subst hv2
 repeat' (first | refine zh ?_ | intro (bk : Nat))
 refine HR.ret Tryz.func210 I [_] (fun w hw => ⟨⟨_, rfl, loadVarR hw 2 I I I I rfl⟩, trivial⟩) ?_
 refine fun w' hw => ⟨(.slice a1 (0 + q.hv.length) c1, .slice a2 (0 + q.da.length) c2), rfl, ⟨⟨_, _, _, rfl⟩, ⟨_, _, _, rfl⟩⟩, ?_⟩
 have w1 := hw.pick [1, 0] I I
 refine Ent.of_eq ?_ w' w1
 show [ownC _ 4 1 (0 + q.hv.length) ([] ++ cellsOf bC q.hv), ownC _ 9 1 (0 + q.da.length) ([] ++ cellsOf sC q.da)] = [ownC _ 4 1 q.hv.length (cellsOf bC q.hv), ownC _ 9 1 q.da.length (cellsOf sC q.da)]
 rw [List.nil_append, List.nil_append]
 congr 2
 ·exact Nat.zero_add _
 ·rw [Nat.zero_add]
end Go.Proofs.YtgdgclmkpoaagaaGreat
namespace Go.Proofs.YtgdgclmkpoaagaaGreat
open Go.GX Go.RowKit
attribute [local irreducible] Calls Run RunL RunQ RunD HR HL HD blkC ownC Rd
open Nd
theorem r15order_any (l : List PtV) (v : Value) (w : World) (hv : RdPts w v l) (hs : ∀ p ∈ l, SmPt p.pt) (hl : l.length ≤ 1000) :
  Calls Tryz.prog 170 #[v] w fun e w' => ∃ x : Value × List PtV, e = .returned x.1 ∧ GdPts x (porder (pts l)) ∧ Sat (base w) (ptsC x) w' := by
 have hcl : ∀ T : List PtV, (cellsOf ptC T).length = T.length * 6 := cellsOf_len ptC_len
 refine calls_hr Tryz.func170 I (Nat.le_of_ble_eq_true I) ?_
 refine HR.sub (σ' := [(0, v)]) ⟨I, trivial⟩ ?_
 repeat' (first | refine zh ?_ | intro (bk : Nat))
 refine HL.lenR (Rd.arg hv.s) I I I ?_
 repeat' (first | refine zh ?_ | intro (bk : Nat))
 refine HR.nilC 76 6 ?_
 refine HR.ent (H' := [ownC (.slice none 0 0) 76 6 0 [], groupC []]) (Ent.trans Ent.gnil (Ent.pick [1, 0] I I)) ?_
 refine HR.loop3 (α := Nat) (β := Value) (γ := List PtV) (fun k o L => k ≤ l.length ∧ pts L = ((pts l).take k).foldl pstep [] ∧ ∀ p ∈ L, ShPt p) (fun k o L => [(0, v), (3, o), (6, .int .i64 (l.length : Int)), (7, .int .i64 (k : Int))]) (fun k o L => ptsC (o, L)) (fun k _ _ => l.length - k) 0 (.slice none 0 0) [] ⟨Nat.zero_le _, rfl, fun p hp => by cases hp⟩ ⟨I, I, I, I, trivial⟩ Ent.refl ?_
 rintro k o L ⟨hk, hL, hsh⟩ ih
 have hLl : L.length ≤ k := by have := porders_len (pts l) k; rw [← hL, pts_len] at this; exact this
 repeat' (first | refine zh ?_ | intro (bk : Nat))
 refine HR.cond I (fun h2 => ?_) (fun h2 => ?_)
 ·have hlt : k < l.length := by have := of_decide_eq_true h2; omega
  obtain ⟨x, hx⟩ := getSome hlt
  have hxm := List.mem_of_getElem? hx
  have hrx := hv.r x hxm
  have hsx := hs x hxm
  have hst : ((pts l).take (k + 1)).foldl pstep [] = pstep (((pts l).take k).foldl pstep []) x.pt := fold_take _ _ (pts_get hx)
  rw [← hL] at hst
  have hn := pfi_none (l := pts L) (s := x.pt.so) (i := x.pt.id)
  repeat' (first | refine zh ?_ | intro (bk : Nat))
  refine HR.join (ι := Unit) (fun _ => True) (fun _ => [(0, v), (3, o), (4, .int .i64 (k : Int)), (6, .int .i64 (l.length : Int)), (7, .int .i64 (k : Int)), (29, .bool (pvalid x.pt && decide (pfi (pts L) x.pt.so x.pt.id < 0)))]) (fun _ => ptsC (o, L)) (fun _ _ => ?_) (fun hj => ?_)
  ·refine HR.cond I (fun h3 => ?_) (fun h3 => ?_)
   ·have h3 : (pvalid x.pt && decide (pfi (pts L) x.pt.so x.pt.id < 0)) = true := h3
    have hp : pstep (pts L) x.pt = pts L ++ [x.pt] := by unfold pstep; rw [hn, if_pos h3]
    rw [hp] at hst
    have hpv : pvalid x.pt = true := by simp only [Bool.and_eq_true] at h3; exact h3.1
    have H := phead_is (pvalid_head hpv)
    have i1 := H.hv
    have i2 := H.da
    have i3 := H.ct0
    have i4 := H.ct1
    repeat' (first | refine zh ?_ | refine HL.idxR (Rd.arg hv.s) elemPt k I I I I hlt ?_ | refine HL.loadE (Rd.arg hv.s) I I I I (by simp) I (cellsOf_get ptC_len hx) ?_ | intro (bk : Nat))
    refine HL.callX (r := fun y : Value × Value => .agg ⟨ptC ⟨y.1, y.2, x.pt⟩⟩) (Q := fun y => ShPt ⟨y.1, y.2, x.pt⟩) (G := fun y => [ptH ⟨y.1, y.2, x.pt⟩, ptD ⟨y.1, y.2, x.pt⟩]) fn210 I I (fun w1 hw1 => r15copy_any x w1 (hrx.ext hw1.belowB) (by omega) (by omega)) ?_
    rintro ⟨y1, y2⟩ hy
    have hy1 := hy.one
    obtain ⟨P, hP⟩ : ∃ P : PtV, P = ⟨y1, y2, x.pt⟩ := ⟨_, rfl⟩
    refine HL.bslice elemPt I I I I I (by decide) (by decide) ?_
    intro va
    repeat' (first | refine zh ?_ | intro (bk : Nat))
    refine HL.appR (news := ptC ⟨y1, y2, x.pt⟩) 3 I elemPt (Rd.own 0 I) I I I I (allOne_spec hy1) (by show (L.length + 1) * 80 ≤ _; omega) (by show L.length + 1 ≤ _; omega) ?_
    intro o3
    repeat' (first | refine zh ?_ | intro (bk : Nat))
    refine ih (k + 1) o3 (L ++ [P]) _ _ ⟨hlt, ?_, ?_⟩ (by omega) ⟨I, I, I, I, trivial⟩ ?_
    ·rw [pts_app, hst, hP]; rfl
    ·intro p hp
     rcases List.mem_append.1 hp with hp | hp
     ·exact hsh p hp
     ·rw [List.mem_singleton] at hp
      rw [hp, hP]
      exact hy
    ·refine Ent.trans (Ent.pick (H' := [ptH P, ptD P, groupC (ptG L), ownC o3 76 6 (L ++ [P]).length (cellsOf ptC (L ++ [P]))]) [1, 2, 4, 3] ?_ I) (Ent.trans (Ent.group (G := [ptH P, ptD P])) (Ent.trans Ent.gjoin ?_))
     ·rw [cellsOf_app, hP]; simp; rfl
     ·show Ent _ _ [_, groupC (ptG (L ++ [P]))]
      rw [ptG_app, ptG_one]
      exact Ent.pick [1, 0] I I
   ·have h3 : (pvalid x.pt && decide (pfi (pts L) x.pt.so x.pt.id < 0)) = false := h3
    have hp : pstep (pts L) x.pt = pts L := by unfold pstep; rw [hn, h3]; rfl
    rw [hp] at hst
    repeat' (first | refine zh ?_ | intro (bk : Nat))
    exact ih (k + 1) o L _ _ ⟨hlt, hst.symm, hsh⟩ (by omega) ⟨I, I, I, I, trivial⟩ (Ent.pick [0, 1] I I)
  ·refine HR.regionD [(0, true), (1, true), (2, true), (3, true), (4, false), (5, true), (6, true), (7, true), (8, true), (9, true), (10, true), (11, true), (12, true), (13, true), (14, true), (15, true), (16, true), (17, false), (18, true), (19, true)] [0, 1] I I hmix (by kernel_rfl) ?_
   have hval := fun (w1 : World) (hw1 : Sat (base w) (ptsC (o, L)) w1) => r15valid_any x w1 (hrx.ext hw1.belowB) hsx
   cases hpv : pvalid x.pt with
   | true =>
    rw [hpv] at hval hj
    repeat' (first | refine zd ?_ | refine HD.callB [0, 1] I I fn209 I I I (fun w1 hw1 => hval w1 hw1) ?_ | refine HD.callB [0, 1] I I fn192 I I I (fun w1 hw1 => r15find_any L x.pt.so x.pt.id o w1 ((Rd.own 0 rfl).at hw1) (by omega)) ?_ | refine HD.idxR (Rd.arg hv.s) elemPt k I I I I I hlt ?_ | refine HD.loadE (Rd.arg hv.s) I I I I I (by simp) I (cellsOf_get ptC_len hx) ?_ | refine HD.fieldN 0 (Rd.arg hv.s) (by rw [hcl]; omega) I I I I I I I I ?_ | refine HD.fieldN 1 (Rd.arg hv.s) (by rw [hcl]; omega) I I I I I I I I ?_ | refine HD.loadI (Rd.arg hv.s) I I I I I (cells_get ptC_len hx (i := 0) I) ?_ | refine HD.loadI (Rd.arg hv.s) I I I I I (cells_get ptC_len hx (i := 1) I) ?_)
    refine HD.nil ?_
    exact hj () _ _ trivial ⟨I, I, I, I, I, I, trivial⟩ Ent.refl
   | false =>
    rw [hpv] at hval hj
    repeat' (first | refine zd ?_ | refine HD.callB [0, 1] I I fn209 I I I (fun w1 hw1 => hval w1 hw1) ?_ | refine HD.idxR (Rd.arg hv.s) elemPt k I I I I I hlt ?_ | refine HD.loadE (Rd.arg hv.s) I I I I I (by simp) I (cellsOf_get ptC_len hx) ?_)
    refine HD.nil ?_
    exact hj () _ _ trivial ⟨I, I, I, I, I, I, trivial⟩ Ent.refl
 ·have hke : k = l.length := by have := of_decide_eq_false h2; omega
  subst hke
  have hpo : porder (pts l) = (pts L).drop (L.length - 8) := by
   unfold porder last
   rw [hL, List.take_of_length_le (by rw [pts_len]; exact Nat.le_refl _), ← pts_len L, hL, List.take_of_length_le (by rw [pts_len]; exact Nat.le_refl _)]
  repeat' (first | refine zh ?_ | refine HL.lenR (Rd.own 0 I) I I I ?_ | intro (bk : Nat))
  refine HR.cond I (fun h3 => ?_) (fun h3 => ?_)
  ·have h3 : (L.length : Int) > 8 := of_decide_eq_true h3
   repeat' (first | refine zh ?_ | refine HL.lenR (Rd.own 0 I) I I I ?_ | intro (bk : Nat))
   refine HL.setV 45 (v' := .int .i64 ((L.length - 8 : Nat) : Int)) I (by show Value.int _ ((L.length : Int) - 8) = _; congr 1; omega) ?_
   repeat' (first | refine zh ?_ | refine HL.subO (sz := 6) (L.length - 8) L.length 0 I I I I I (.inr ⟨_, _, rfl, rfl⟩) (.inl ⟨rfl, rfl⟩) (Nat.sub_le _ _) (Nat.le_refl _) ?_ | intro (bk : Nat))
   refine HR.ret Tryz.func170 I [_] (fun _ _ => ⟨I, trivial⟩) ?_
   refine fun w' hw => ⟨(_, L.drop (L.length - 8)), rfl, ⟨?_, fun p hp => hsh p (List.mem_of_mem_drop hp)⟩, ?_⟩
   ·rw [hpo]; unfold pts; rw [List.map_drop]
   ·have hw2 := hw.pick [1, 0] I I
    have hw3 := (Ent.gdrop _ (ptG_cut L (L.length - 8))) w' hw2
    have hw4 := hw3.pick [1, 0] I I
    refine Ent.own0 (by simp) ?_ w' hw4
    rw [cellsOf_drop ptC_len, List.take_of_length_le (by rw [cellsOf_len ptC_len, List.length_drop]; exact Nat.le_refl _)]
  ·have h3 : ¬ (L.length : Int) > 8 := of_decide_eq_false h3
   rw [show L.length - 8 = 0 by omega, List.drop_zero] at hpo
   repeat' (first | refine zh ?_ | intro (bk : Nat))
   refine HR.ret Tryz.func170 I [_] (fun _ _ => ⟨I, trivial⟩) ?_
   exact fun w' hw => ⟨(o, L), rfl, ⟨hpo.symm, hsh⟩, hw.pick [0, 1] I rfl⟩
theorem r15exp_any (l : List PtV) (now life : Int) (v : Value) (w : World) (hv : RdPts w v l) (hs : ∀ p ∈ l, SmPt p.pt) (hl : l.length ≤ 1000) :
  Calls Tryz.prog 98 #[v, .int .i64 now, .int .i64 life] w fun e w' => ∃ x : Value × List PtV, e = .returned x.1 ∧ GdPts x (pexp (pts l) now life) ∧ Sat (base w) (ptsC x) w' := by
 have t1 := tick_rng now
 have t3 := tick_rng life
 have hcl : ∀ T : List PtV, (cellsOf ptC T).length = T.length * 6 := cellsOf_len ptC_len
 refine calls_hr Tryz.func98 I (Nat.le_of_ble_eq_true I) ?_
 refine HR.sub (σ' := [(0, v), (1, .int .i64 now), (2, .int .i64 life)]) ⟨I, I, I, trivial⟩ ?_
 repeat' (first | refine zh ?_ | intro (bk : Nat))
 refine HL.callX (r := fun x : Value × List PtV => x.1) (Q := fun x => GdPts x (porder (pts l))) (G := fun x => ptsC x) fn170 I I (fun w1 hw1 => r15order_any l v w1 (hv.ext hw1.belowB) hs hl) ?_
 rintro ⟨v1, L⟩ ⟨hL, hsh⟩
 have hL : pts L = porder (pts l) := hL
 have hsh : ∀ p ∈ L, ShPt p := hsh
 have hLl : L.length ≤ 8 := by have := porder_len (pts l); rw [← hL, pts_len] at this; exact this
 have hpv : ∀ p ∈ L, Head p.pt := fun p hp => phead_is (pvalid_head (porder_valid p.pt (by rw [← hL]; exact List.mem_map_of_mem hp)))
 repeat' (first | refine zh ?_ | intro (bk : Nat))
 refine HL.lenR (Rd.own 0 I) I I I ?_
 repeat' (first | refine zh ?_ | intro (bk : Nat))
 refine HR.nilC 76 6 ?_
 obtain ⟨p, hp⟩ : ∃ p : PtV → Bool, p = fun x => decide (tick now - x.pt.si ≤ tick life) := ⟨_, rfl⟩
 refine HR.loop2 (α := Nat) (β := Value) (fun k o => k ≤ L.length) (fun k o => [(1, .int .i64 now), (2, .int .i64 life), (7, o), (8, v1), (13, .int .i64 (L.length : Int)), (14, .int .i64 (k : Int))]) (fun k o => [ownC o 76 6 ((L.take k).filter p).length (cellsOf ptC ((L.take k).filter p)), ownC v1 76 6 L.length (cellsOf ptC L), groupC (ptG L)]) (fun k _ => L.length - k) 0 (.slice none 0 0) (Nat.zero_le _) ⟨I, I, I, I, I, I, trivial⟩ (Ent.pick [0, 1, 2] I I) ?_
 rintro k o hk ih
 have hfl : ((L.take k).filter p).length ≤ 8 := Nat.le_trans (List.length_filter_le _ _) (by simp; omega)
 repeat' (first | refine zh ?_ | intro (bk : Nat))
 refine HR.cond I (fun h2 => ?_) (fun h2 => ?_)
 ·have hlt : k < L.length := by have := of_decide_eq_true h2; omega
  obtain ⟨x, hx⟩ := getSome hlt
  have hxm := List.mem_of_getElem? hx
  have hft := filt_take p hx
  have H := hpv x hxm
  have hxs := (hsh x hxm).one
  have s0 := H.si0
  have s1 : x.pt.si ≤ 1099511627776 := H.si1
  repeat' (first | refine zh ?_ | intro (bk : Nat))
  refine HR.regionD [(0, true), (2, true), (3, true), (4, true), (5, true), (6, true), (8, true), (1, false), (7, true), (9, false), (10, true)] [1] I I hmix (by kernel_rfl) ?_
  repeat' (first | refine zd ?_ | refine HD.callB [1] I I fn171 I I I (fun w _ => r15tick_any _ w) ?_ | refine HD.idxR (Rd.own 0 I) elemPt k I I I I I hlt ?_ | refine HD.fieldN 3 (Rd.own 0 I) (by rw [hcl]; omega) I I I I I I I I ?_ | refine HD.loadI (Rd.own 0 I) I I I I I (cells_get ptC_len hx (i := 3) I) ?_)
  refine HD.nil ?_
  refine HR.cond I (fun h3 => ?_) (fun h3 => ?_)
  ·have h3 : p x = true := by rw [hp]; exact h3
   rw [if_pos h3] at hft
   repeat' (first | refine zh ?_ | refine HL.idxR (Rd.own 1 I) elemPt k I I I I hlt ?_ | refine HL.loadE (Rd.own 1 I) I I I I (by simp) I (cellsOf_get ptC_len hx) ?_ | refine HL.bslice elemPt I I I I I (by decide) (by decide) ?_ | intro (bk : Nat))
   intro va
   repeat' (first | refine zh ?_ | intro (bk : Nat))
   refine HL.appR (news := ptC x) 1 I elemPt (Rd.own 0 I) I I I I (allOne_spec hxs) (by omega) (by omega) ?_
   intro o2
   repeat' (first | refine zh ?_ | intro (bk : Nat))
   refine ih (k + 1) o2 _ _ hlt (by omega) ⟨I, I, I, I, I, I, trivial⟩ (Ent.trans (Ent.pick [1, 2, 3] I I) (Ent.own0 ?_ ?_))
   ·rw [hft]; simp
   ·rw [hft, cellsOf_app]; rfl
  ·have h3 : p x = false := by rw [hp]; exact h3
   rw [if_neg (by rw [h3]; decide)] at hft
   repeat' (first | refine zh ?_ | intro (bk : Nat))
   refine ih (k + 1) o _ _ hlt (by omega) ⟨I, I, I, I, I, I, trivial⟩ (Ent.own0 ?_ ?_)
   ·rw [hft]
   ·rw [hft]
 ·have hke : k = L.length := by have := of_decide_eq_false h2; omega
  subst hke
  rw [List.take_length]
  repeat' (first | refine zh ?_ | intro (bk : Nat))
  refine HR.ret Tryz.func98 I [_] (fun _ _ => ⟨I, trivial⟩) ?_
  refine fun w' hw => ⟨(o, L.filter p), rfl, ⟨?_, fun y hy => hsh y (List.mem_filter.1 hy).1⟩, ?_⟩
  ·unfold pexp
   rw [← hL, hp]
   unfold pts
   rw [List.filter_map]; rfl
  ·have hw2 := hw.pick [2, 0] I I
   have hw3 := (Ent.gdrop _ (ptG_filter p L)) w' hw2
   exact hw3.pick [1, 0] I I
end Go.Proofs.YtgdgclmkpoaagaaGreat
namespace Go.Proofs.YtgdgclmkpoaagaaGreat
open Go.GX Go.RowKit
attribute [local irreducible] Calls Run RunL RunQ RunD HR HL HD blkC ownC Rd
open Nd
theorem fn167 : IsFn Tryz.prog 167 := ⟨⟨_, _, Tryz.func167, rfl, by decide⟩⟩
theorem fn166 : IsFn Tryz.prog 166 := ⟨⟨_, _, Tryz.func166, rfl, by decide⟩⟩
theorem fn208 : IsFn Tryz.prog 208 := ⟨⟨_, _, Tryz.func208, rfl, by decide⟩⟩
theorem snumber_any (b : Nat) (V : NV) (n : Nd) (now : Int) (B : Base) (w : World) (hw : Sat B (stH b V n now) w) (hl : n.table.length ≤ 1000) :
  Calls Tryz.prog 167 #[ptr b] w fun e w' => ∃ _x : Unit, e = .returned (.int .i64 (number n)) ∧ True ∧ Sat ⟨w, feet (stH b V n now)⟩ (stH b V n now) w' := by
 refine calls_hrW (stH b V n now) (hw) Tryz.func167 I (Nat.le_of_ble_eq_true I) ?_
 refine HR.sub (σ' := [(0, ptr b)]) ⟨I, trivial⟩ ?_
 repeat' (first | refine zh ?_ | intro (bk : Nat))
 refine HR.loop (ι := Nat) (fun k => k ≤ n.table.length ∧ ∀ j a, j < k → n.table[j]? = some a → (a.dest == n.addr) = false) (fun k => [(0, ptr b), (9, sv V.ta n.table.length), (10, .int .i64 (n.table.length : Int)), (11, .int .i64 (k : Int))]) (fun _ => stH b V n now) (fun k => n.table.length - k) 0 ⟨Nat.zero_le _, fun j a hj => by omega⟩ ⟨I, I, I, I, trivial⟩ Ent.refl ?_
 rintro k ⟨hk, hg⟩ ih
 repeat' (first | refine zh ?_ | intro (bk : Nat))
 refine HR.cond I (fun h2 => ?_) (fun h2 => ?_)
 ·have hlt : k < n.table.length := by have := of_decide_eq_true h2; omega
  obtain ⟨x, hx⟩ := getSome hlt
  repeat' (first | refine zh ?_ | refine HL.idxR (Rd.own 1 I) elemRo k I I I I hlt ?_ | refine HL.loadE (Rd.own 1 I) I I I I (by simp) I (cellsOf_get roC_len hx) ?_ | intro (bk : Nat))
  refine HR.regionQ hmix (by kernel_rfl) ?_
  repeat' (first | refine zq ?_ | apply zb ?_ ?_ | exact zc | (refine zi fun hb => ?_; try simp at hb))
  refine HR.cond I (fun h3 => ?_) (fun h3 => ?_)
  ·have h3 : (x.dest == n.addr) = true := h3
   have hf : rat n.table n.addr = some x := find_first hx h3 hg
   repeat' (first | refine zh ?_ | intro (bk : Nat))
   refine HR.ret Tryz.func167 I [_] (fun _ _ => ⟨I, trivial⟩) ?_
   exact fun w' hw => ⟨(), by rw [number, hf]; rfl, trivial, hw.pick [1, 2, 3, 4, 5, 6, 7, 8, 9, 10] I rfl⟩
  ·have h3 : (x.dest == n.addr) = false := h3
   repeat' (first | refine zh ?_ | intro (bk : Nat))
   refine ih (k + 1) _ _ ⟨hlt, fun j a hj ha => ?_⟩ (by omega) ⟨I, I, I, I, trivial⟩ (Ent.pick [1, 2, 3, 4, 5, 6, 7, 8, 9, 10] I I)
   by_cases hjk : j = k
   ·subst hjk; rw [hx] at ha; cases ha; exact h3
   ·exact hg j a (by omega) ha
 ·have hke : k = n.table.length := by have := of_decide_eq_false h2; omega
  subst hke
  have hf : rat n.table n.addr = none := List.find?_eq_none.2 fun a ha => by
   obtain ⟨j, hj⟩ := List.getElem?_of_mem ha
   have := hg j a (List.getElem?_eq_some_iff.1 hj).1 hj
   simp [this]
  repeat' (first | refine zh ?_ | intro (bk : Nat))
  refine HR.ret Tryz.func167 I [_] (fun _ _ => ⟨I, trivial⟩) ?_
  exact fun w' hw => ⟨(), by rw [number, hf]; rfl, trivial, hw⟩
theorem swaits1_any (bt : Nat) (k : Int) (x : Sn) (w : World) (hb : Sl w (.slice (some ⟨bt, 0, none⟩) 1 1) [.int .i64 k] 1) : Calls Tryz.prog 208 #[.agg ⟨snC x⟩, .pointer (some ⟨bt, 0, none⟩)] w fun e w' => e = .returned (.bool (x.f.kd == k)) ∧ Below w.heap.size w w' := by
 refine calls_hr Tryz.func208 I (Nat.le_of_ble_eq_true I) ?_
 refine HR.sub (σ' := [(0, .agg ⟨snC x⟩), (1, .pointer (some ⟨bt, 0, none⟩))]) ⟨I, I, trivial⟩ ?_
 repeat' (first | refine zh ?_ | refine HL.loadI (j := 0) (Rd.arg hb) I I I I I ?_ | intro (bk : Nat))
 refine HR.ret Tryz.func208 I [_] (fun _ _ => ⟨I, trivial⟩) ?_
 exact fun w' hw => ⟨rfl, hw.belowB⟩
theorem swaits_any (b : Nat) (V : NV) (n : Nd) (now k : Int) (B : Base) (w : World) (hw : Sat B (stH b V n now) w) (hl : n.out.length ≤ 1000) :
  Calls Tryz.prog 166 #[ptr b, .int .i64 k] w fun e w' => ∃ _x : Unit, e = .returned (.bool (waits n k)) ∧ True ∧ Sat ⟨w, feet (stH b V n now)⟩ (stH b V n now) w' := by
 refine calls_hrW (stH b V n now) (hw) Tryz.func166 I (Nat.le_of_ble_eq_true I) ?_
 refine HR.sub (σ' := [(0, ptr b), (1, .int .i64 k)]) ⟨I, I, trivial⟩ ?_
 repeat' (first | refine zh ?_ | refine HL.mkF (g := 208) (caps := [_]) I I ?_ | refine HL.callB fn207 I I (fun w1 hw1 => contFSn_any n.out (fun x => x.f.kd == k) 208 [.pointer (some ⟨bk, 0, none⟩)] (sv V.ou n.out.length) w1 fn208 (fun a ha w2 hb => swaits1_any bk k a w2 (((Rd.blk (n := 1) 0 rfl).at hw1).ext hb)) ((Rd.own 4 rfl).at hw1) (by omega)) ?_ | intro (bk : Nat))
 refine HR.ret Tryz.func166 I [_] (fun _ _ => ⟨I, trivial⟩) ?_
 exact fun w' hw => ⟨(), rfl, trivial, hw.pick [1, 2, 3, 4, 5, 6, 7, 8, 9, 10] I rfl⟩
end Go.Proofs.YtgdgclmkpoaagaaGreat
namespace Go.Proofs.YtgdgclmkpoaagaaGreat
open Go.GX Go.RowKit
attribute [local irreducible] Calls Run RunL RunQ RunD HR HL HD blkC ownC Rd
open Nd
theorem fn94 : IsFn Tryz.prog 94 := ⟨⟨_, _, Tryz.func94, rfl, by decide⟩⟩
theorem fn95 : IsFn Tryz.prog 95 := ⟨⟨_, _, Tryz.func95, rfl, by decide⟩⟩
theorem bumped_ord {n : Nd} (h : Ord n) : Ord (bumped n) := (bumped_good (Good.refl h)).ord
theorem sbeacon_any (b : Nat) (V : NV) (n : Nd) (now : Int) (B : Base) (w : World) (hw : Sat B (stH b V n now) w) (ho : Ord n) :
  Calls Tryz.prog 94 #[ptr b] w fun e w' => ∃ x : SV × SV, e = .returned (.tuple ⟨[]⟩) ∧ True ∧ Sat ⟨w, feet (stH b V n now)⟩ (stH b { V with ta := x.1, ou := x.2 } (beacon n) now) w' := by
 have h24 := tlen ho
 have hm := bumped_ord ho
 have hm24 := tlen hm
 have hm16 := hm.out
 refine calls_hrW (stH b V n now) (hw) Tryz.func94 I (Nat.le_of_ble_eq_true I) ?_
 refine HR.sub (σ' := [(0, ptr b)]) ⟨I, trivial⟩ ?_
 repeat' (first | refine zh ?_ | intro (bk : Nat))
 refine HR.regionY [(0, true), (1, true), (2, true), (3, true), (4, true), (5, true), (6, true), (7, true), (8, true), (9, true), (10, true), (11, false), (12, true), (13, true), (14, true)] 15 [0] I I hmix (by kernel_rfl) ?_
 repeat' (first | refine zd ?_ | fail)
 refine HD.one I ?_
 refine HL.callO fn165 I I (fun w1 hw1 => rbump_any n.table n.addr _ w1 ((Rd.own 1 rfl).at hw1) (by omega)) ?_
 intro v1
 refine HL.shape 0 I fun a c hv => ?_
 subst hv
 refine HL.back [1] I I ?_
 repeat' (first | refine zd ?_ | fail)
 refine HD.last I ?_
 repeat' (first | refine zn ?_ | intro (bk : Nat))
 obtain ⟨V1, hV1⟩ : ∃ V1 : NV, V1 = { V with ta := (a, c) } := ⟨_, rfl⟩
 obtain ⟨m, hmm⟩ : ∃ m : Nd, m = bumped n := ⟨_, rfl⟩
 refine HR.ent (H' := stH b { V with ta := (a, c) } (bumped n) now) (Ent.pick [1, 0, 3, 4, 5, 6, 7, 8, 9, 10] I I) ?_
 have hbe : beacon n = if waits (bumped n) 1 = false ∧ (bumped n).out.length < 16 then (queue (bumped n) (beaconF (bumped n))).1 else bumped n := rfl
 have hVe : ∀ x : SV, ({ V with ta := (a, c), ou := x } : NV) = { V1 with ou := x } := by intro x; rw [hV1]
 rw [hbe]
 rw [← hmm] at hm hm24 hm16 ⊢
 rw [← hV1]
 repeat' (first | refine zh ?_ | intro (bk : Nat))
 refine HL.callW (r := fun _ : Unit => .bool (waits m 1)) (Q := fun _ => True) (G0 := stH b V1 m now) (H0 := []) (G := fun _ => stH b V1 m now) fn166 I I I (fun w1 hw1 => swaits_any b V1 m now 1 _ w1 hw1 (by omega)) ?_
 intro _ _
 repeat' (first | refine zh ?_ | apply zb ?_ ?_ | exact zc | (refine zi fun hb => ?_; try simp at hb) | intro (bk : Nat))
 refine HR.cond I (fun h => ?_) (fun h => ?_)
 ·have h : (!waits m 1 && decide ((m.out.length : Int) < 16)) = true := h
  have h2 : waits m 1 = false ∧ (m.out.length : Int) < 16 := by simpa using h
  rw [if_pos ⟨h2.1, by omega⟩]
  repeat' (first | refine zh ?_ | intro (bk : Nat))
  refine HR.regionY [(0, true), (1, true), (2, true), (3, true), (4, true), (5, true), (6, true), (7, true), (8, true), (9, true), (10, true), (11, true), (13, true), (14, true), (15, true), (16, true), (17, true), (12, false), (18, false), (19, true)] 20 [0] I I hmix (by kernel_rfl) ?_
  repeat' (first | refine zd ?_ | fail)
  refine HD.one I ?_
  refine HL.callW (r := fun _ : Unit => .int .i64 (number m)) (Q := fun _ => True) (G0 := stH b V1 m now) (H0 := []) (G := fun _ => stH b V1 m now) fn167 I I I (fun w1 hw1 => snumber_any b V1 m now _ w1 hw1 (by omega)) ?_
  intro _ _
  refine HL.back [0] I I ?_
  refine HD.one I ?_
  refine HL.callB fn38 I I (fun w1 hw1 => renc_any m.table _ w1 ((Rd.own 1 rfl).at hw1) (by omega)) ?_
  refine HL.back [0] I I ?_
  repeat' (first | refine zd ?_ | fail)
  refine HD.last I ?_
  refine HL.callW (r := fun _ : SV => .bool (queue m (beaconF m)).2) (Q := fun _ => True) (G0 := stH b V1 m now) (H0 := []) (G := fun x => stH b { V1 with ou := x } (queue m (beaconF m)).1 now) fn44 I I I (fun w1 hw1 => squeue_any b V1 m now (beaconF m) _ w1 hw1 hm) ?_
  intro x _
  repeat' (first | refine zh ?_ | intro (bk : Nat))
  refine HR.fin Tryz.func94 I [] (fun _ _ => trivial) ?_
  exact fun w' hw => ⟨((a, c), x), rfl, trivial, by rw [hVe]; exact hw⟩
 ·have h : (!waits m 1 && decide ((m.out.length : Int) < 16)) = false := h
  have h2 : ¬ (waits m 1 = false ∧ (m.out.length : Int) < 16) := by simpa using h
  rw [if_neg fun e => h2 ⟨e.1, by omega⟩]
  repeat' (first | refine zh ?_ | intro (bk : Nat))
  refine HR.fin Tryz.func94 I [] (fun _ _ => trivial) ?_
  exact fun w' hw => ⟨((a, c), V.ou), rfl, trivial, by rw [hVe, hV1]; rw [hV1] at hw; exact hw⟩
theorem spoll_any (b : Nat) (V : NV) (n : Nd) (now : Int) (B : Base) (w : World) (hw : Sat B (stH b V n now) w) (ho : Ord n) :
  Calls Tryz.prog 95 #[ptr b] w fun e w' => ∃ x : SV × SV, e = .returned (.tuple ⟨[]⟩) ∧ True ∧ Sat ⟨w, feet (stH b V n now)⟩ (stH b { V with ta := x.1, ou := x.2 } (poll n) now) w' := by
 have h24 := tlen ho
 have hm := bumped_ord ho
 have hm24 := tlen hm
 have hm16 := hm.out
 refine calls_hrW (stH b V n now) (hw) Tryz.func95 I (Nat.le_of_ble_eq_true I) ?_
 refine HR.sub (σ' := [(0, ptr b)]) ⟨I, trivial⟩ ?_
 repeat' (first | refine zh ?_ | intro (bk : Nat))
 refine HR.regionY [(0, true), (1, true), (2, true), (3, true), (4, true), (5, true), (6, true), (7, true), (8, true), (9, true), (10, true), (11, false), (12, true), (13, true), (14, true)] 15 [0] I I hmix (by kernel_rfl) ?_
 repeat' (first | refine zd ?_ | fail)
 refine HD.one I ?_
 refine HL.callO fn165 I I (fun w1 hw1 => rbump_any n.table n.addr _ w1 ((Rd.own 1 rfl).at hw1) (by omega)) ?_
 intro v1
 refine HL.shape 0 I fun a c hv => ?_
 subst hv
 refine HL.back [1] I I ?_
 repeat' (first | refine zd ?_ | fail)
 refine HD.last I ?_
 repeat' (first | refine zn ?_ | intro (bk : Nat))
 obtain ⟨V1, hV1⟩ : ∃ V1 : NV, V1 = { V with ta := (a, c) } := ⟨_, rfl⟩
 obtain ⟨m, hmm⟩ : ∃ m : Nd, m = bumped n := ⟨_, rfl⟩
 refine HR.ent (H' := stH b { V with ta := (a, c) } (bumped n) now) (Ent.pick [1, 0, 3, 4, 5, 6, 7, 8, 9, 10] I I) ?_
 have hbe : poll n = if waits (bumped n) 3 = false then (queue (bumped n) (pollF (bumped n))).1 else bumped n := rfl
 have hVe : ∀ x : SV, ({ V with ta := (a, c), ou := x } : NV) = { V1 with ou := x } := by intro x; rw [hV1]
 rw [hbe]
 rw [← hmm] at hm hm24 hm16 ⊢
 rw [← hV1]
 repeat' (first | refine zh ?_ | intro (bk : Nat))
 refine HL.callW (r := fun _ : Unit => .bool (waits m 3)) (Q := fun _ => True) (G0 := stH b V1 m now) (H0 := []) (G := fun _ => stH b V1 m now) fn166 I I I (fun w1 hw1 => swaits_any b V1 m now 3 _ w1 hw1 (by omega)) ?_
 intro _ _
 repeat' (first | refine zh ?_ | intro (bk : Nat))
 refine HR.cond I (fun h => ?_) (fun h => ?_)
 ·have h2 : waits m 3 = false := by simpa using h
  rw [if_pos h2]
  repeat' (first | refine zh ?_ | intro (bk : Nat))
  refine HR.regionY [(0, true), (1, true), (2, true), (3, true), (4, true), (5, true), (6, true), (7, true), (8, true), (9, true), (10, true), (11, true), (12, true), (13, true), (14, true), (15, true), (16, true), (17, true), (18, true), (19, true), (20, true), (21, true), (22, false), (23, true)] 24 [0] I I hmix (by kernel_rfl) ?_
  repeat' (first | refine zd ?_ | fail)
  refine HD.one I ?_
  refine HL.callW (r := fun _ : Unit => .int .i64 (number m)) (Q := fun _ => True) (G0 := stH b V1 m now) (H0 := []) (G := fun _ => stH b V1 m now) fn167 I I I (fun w1 hw1 => snumber_any b V1 m now _ w1 hw1 (by omega)) ?_
  intro _ _
  refine HL.back [0] I I ?_
  repeat' (first | refine zd ?_ | fail)
  refine HD.last I ?_
  refine HL.callW (r := fun _ : SV => .bool (queue m (pollF m)).2) (Q := fun _ => True) (G0 := stH b V1 m now) (H0 := []) (G := fun x => stH b { V1 with ou := x } (queue m (pollF m)).1 now) fn44 I I I (fun w1 hw1 => squeue_any b V1 m now (pollF m) _ w1 hw1 hm) ?_
  intro x _
  repeat' (first | refine zh ?_ | intro (bk : Nat))
  refine HR.fin Tryz.func95 I [] (fun _ _ => trivial) ?_
  exact fun w' hw => ⟨((a, c), x), rfl, trivial, by rw [hVe]; exact hw⟩
 ·have h2 : ¬ waits m 3 = false := by simpa using h
  rw [if_neg h2]
  repeat' (first | refine zh ?_ | intro (bk : Nat))
  refine HR.fin Tryz.func95 I [] (fun _ _ => trivial) ?_
  exact fun w' hw => ⟨((a, c), V.ou), rfl, trivial, by rw [hVe, hV1]; rw [hV1] at hw; exact hw⟩
end Go.Proofs.YtgdgclmkpoaagaaGreat
namespace Go.Proofs.YtgdgclmkpoaagaaGreat
open Go.GX Go.RowKit
attribute [local irreducible] Calls Run RunL RunQ RunD HR HL HD blkC ownC Rd
open Nd
theorem fn93 : IsFn Tryz.prog 93 := ⟨⟨_, _, Tryz.func93, rfl, by decide⟩⟩
theorem elemFr : Elem Tryz.prog 163 42 9 80 := ⟨rfl, ⟨_, _, rfl, rfl, rfl, rfl, rfl⟩, by decide⟩
theorem frC_len (a : Fr) : (frC a).length = 9 := rfl
theorem asl_step {l : List Sn} {k : Nat} {x : Sn} (hx : l[k]? = some x) :
  ((l.take (k + 1)).filter stale).map (·.f) = (if stale x = true then ((l.take k).filter stale).map (·.f) ++ [x.f] else ((l.take k).filter stale).map (·.f)) ∧ ((l.take (k + 1)).filter fun x => !stale x) = if stale x = true then (l.take k).filter (fun x => !stale x) else (l.take k).filter (fun x => !stale x) ++ [x] := by
 obtain ⟨hk, rfl⟩ := List.getElem?_eq_some_iff.1 hx
 rw [List.take_succ_eq_append_getElem hk, List.filter_append, List.filter_append]
 by_cases h : stale l[k] = true
 ·simp [h]
 ·simp [h]
theorem foldl_take {α β : Type} {g : β → α → β} {z : β} {l : List α} {k : Nat} {x : α} (hx : l[k]? = some x) : (l.take (k + 1)).foldl g z = g ((l.take k).foldl g z) x := by
 obtain ⟨hk, rfl⟩ := List.getElem?_eq_some_iff.1 hx
 rw [List.take_succ_eq_append_getElem hk, List.foldl_append]
 rfl
theorem sasleep_any (b : Nat) (V : NV) (n : Nd) (now : Int) (B : Base) (w : World) (hw : Sat B (stH b V n now) w) (ho : Ord n) :
  Calls Tryz.prog 93 #[ptr b] w fun e w' => ∃ x : SV × SV, e = .returned (.tuple ⟨[]⟩) ∧ True ∧ Sat ⟨w, feet (stH b V n now)⟩ (stH b { V with ou := x.1, bo := x.2 } (asleep n now) now) w' := by
 have h16 := ho.out
 obtain ⟨bk2, hbk2⟩ : ∃ g : Nat → List Fr, g = fun k => ((n.out.take k).filter stale).map (·.f) := ⟨_, rfl⟩
 obtain ⟨rs, hrs⟩ : ∃ g : Nat → List Sn, g = fun k => (n.out.take k).filter fun x => !stale x := ⟨_, rfl⟩
 have hbl : ∀ k, (bk2 k).length ≤ 16 := fun k => by
  rw [hbk2]; show ((((n.out.take k).filter stale).map (·.f))).length ≤ 16
  rw [List.length_map]
  exact Nat.le_trans (List.length_filter_le _ _) (by rw [List.length_take]; omega)
 have hrl : ∀ k, (rs k).length ≤ 16 := fun k => by
  rw [hrs]; exact Nat.le_trans (List.length_filter_le _ _) (by rw [List.length_take]; omega)
 refine calls_hrW (stH b V n now) (hw) Tryz.func93 I (Nat.le_of_ble_eq_true I) ?_
 refine HR.sub (σ' := [(0, ptr b)]) ⟨I, trivial⟩ ?_
 repeat' (first | refine zh ?_ | intro (bk : Nat))
 refine HR.nilC 42 9 ?_
 refine HR.nilC 48 11 ?_
 refine HR.loop (ι := Nat × Value × Value) (fun x => x.1 ≤ n.out.length) (fun x => [(0, ptr b), (2, x.2.1), (3, x.2.2), (12, sv V.ou n.out.length), (13, .int .i64 (n.out.length : Int)), (14, .int .i64 (x.1 : Int))]) (fun x => ownC x.2.1 48 11 (rs x.1).length (cellsOf snC (rs x.1)) :: ownC x.2.2 42 9 (bk2 x.1).length (cellsOf frC (bk2 x.1)) :: stH b V n now) (fun x => n.out.length - x.1) (0, .slice none 0 0, .slice none 0 0) (Nat.zero_le _) ⟨I, I, I, I, I, I, trivial⟩ (by rw [hbk2, hrs]; exact Ent.refl) ?_
 rintro ⟨k, u, v⟩ hk ih
 have hk : k ≤ n.out.length := hk
 repeat' (first | refine zh ?_ | intro (bk : Nat))
 refine HR.cond I (fun h2 => ?_) (fun h2 => ?_)
 ·have hlt : k < n.out.length := by have := of_decide_eq_true h2; omega
  obtain ⟨x, hx⟩ := getSome hlt
  have hb1 : (bk2 (k, u, v).fst).length ≤ 16 := hbl k
  have hr1 : (rs (k, u, v).fst).length ≤ 16 := hrl k
  obtain ⟨e1, e2⟩ := asl_step hx
  have e1 : bk2 (k + 1) = if stale x = true then bk2 k ++ [x.f] else bk2 k := by rw [hbk2]; exact e1
  have e2 : rs (k + 1) = if stale x = true then rs k else rs k ++ [x] := by rw [hrs]; exact e2
  repeat' (first | refine zh ?_ | refine HL.idxR (Rd.own 5 I) elemSn k I I I I hlt ?_ | refine HL.loadE (Rd.own 5 I) I I I I (by simp) I (cellsOf_get snC_len hx) ?_ | apply zb ?_ ?_ | exact zc | (refine zi fun hb => ?_; try simp at hb) | intro (bk : Nat))
  refine HR.cond I (fun h3 => ?_) (fun h3 => ?_)
  ·have h3 : stale x = true := h3
   rw [if_pos h3] at e1 e2
   repeat' (first | refine zh ?_ | intro (bk : Nat))
   refine HL.bslice elemFr I I I I I (by decide) (by decide) ?_
   intro va
   refine HL.appR 3 I elemFr (Rd.own 0 I) I I I I (allOne_spec I) (by omega) (by omega) ?_
   intro v2
   repeat' (first | refine zh ?_ | intro (bk : Nat))
   refine ih (k + 1, u, v2) _ _ hlt (by show n.out.length - (k + 1) < n.out.length - k; omega) ⟨I, I, I, I, I, I, trivial⟩ ?_
   show Ent _ _ (ownC u 48 11 (rs (k + 1)).length (cellsOf snC (rs (k + 1))) :: ownC v2 42 9 (bk2 (k + 1)).length (cellsOf frC (bk2 (k + 1))) :: stH b V n now)
   rw [e1, e2, List.length_append, cellsOf_app]
   exact Ent.pick [2, 3, 4, 5, 6, 7, 8, 9, 10, 11, 12, 13] I I
  ·have h3 : stale x = false := h3
   rw [if_neg (by rw [h3]; decide)] at e1 e2
   repeat' (first | refine zh ?_ | intro (bk : Nat))
   refine HL.bslice elemSn I I I I I (by decide) (by decide) ?_
   intro va
   refine HL.appR 2 I elemSn (Rd.own 0 I) I I I I (allOne_spec I) (by omega) (by omega) ?_
   intro v2
   repeat' (first | refine zh ?_ | intro (bk : Nat))
   refine ih (k + 1, v2, v) _ _ hlt (by show n.out.length - (k + 1) < n.out.length - k; omega) ⟨I, I, I, I, I, I, trivial⟩ ?_
   show Ent _ _ (ownC v2 48 11 (rs (k + 1)).length (cellsOf snC (rs (k + 1))) :: ownC v 42 9 (bk2 (k + 1)).length (cellsOf frC (bk2 (k + 1))) :: stH b V n now)
   rw [e1, e2, List.length_append, cellsOf_app]
   exact Ent.pick [2, 3, 4, 5, 6, 7, 8, 9, 10, 11, 12, 13] I I
 ·have hke : k = n.out.length := by have := of_decide_eq_false h2; omega
  subst hke
  have hL := hbl n.out.length
  have hR := hrl n.out.length
  obtain ⟨bl, hbe⟩ : ∃ bl, bl = bk2 n.out.length := ⟨_, rfl⟩
  obtain ⟨rl, hre⟩ : ∃ rl, rl = rs n.out.length := ⟨_, rfl⟩
  have hsp : asleep n now = bl.foldl (fun n f => box n f now) { n with out := rl } := by
   rw [hbe, hre, hbk2, hrs]; show _ = ((((n.out.take n.out.length).filter stale).map (·.f))).foldl _ { n with out := (n.out.take n.out.length).filter fun x => !stale x }
   rw [List.take_length]; rfl
  rw [hsp]
  refine HR.ent (H' := ownC u 48 11 rl.length (cellsOf snC rl) :: ownC v 42 9 bl.length (cellsOf frC bl) :: stH b V n now) (Ent.of_eq (by rw [hbe, hre])) ?_
  rw [← hbe] at hL
  rw [← hre] at hR
  repeat' (first | refine zh ?_ | intro (bk : Nat))
  refine HL.shape 0 I fun a c hv => ?_
  subst hv
  repeat' (first | refine zh ?_ | refine HL.lenR (Rd.own 1 I) I I I ?_ | intro (bk : Nat))
  have hm := ho.setOut hR
  obtain ⟨m, hmm⟩ : ∃ m : Nd, m = { n with out := rl } := ⟨_, rfl⟩
  refine HR.ent (H' := ownC v 42 9 bl.length (cellsOf frC bl) :: stH b { V with ou := (a, c) } { n with out := rl } now) (Ent.pick [1, 2, 3, 4, 0, 6, 7, 8, 9, 10, 11] I I) ?_
  rw [← hmm] at hm ⊢
  have hgo : ∀ k, Ord ((bl.take k).foldl (fun n f => box n f now) m) := fun k => (boxes_good now _ (Good.refl hm)).ord
  refine HR.loop (ι := Nat × SV) (fun x => x.1 ≤ bl.length) (fun x => [(0, ptr b), (48, v), (49, .int .i64 (bl.length : Int)), (50, .int .i64 (x.1 : Int))]) (fun x => ownC v 42 9 bl.length (cellsOf frC bl) :: stH b { V with ou := (a, c), bo := x.2 } ((bl.take x.1).foldl (fun n f => box n f now) m) now) (fun x => bl.length - x.1) (0, V.bo) (Nat.zero_le _) ⟨I, I, I, I, trivial⟩ Ent.refl ?_
  rintro ⟨k, y⟩ hk ih
  have hk : k ≤ bl.length := hk
  repeat' (first | refine zh ?_ | intro (bk : Nat))
  refine HR.cond I (fun h2 => ?_) (fun h2 => ?_)
  ·have hlt : k < bl.length := by have := of_decide_eq_true h2; omega
   obtain ⟨x, hx⟩ := getSome hlt
   repeat' (first | refine zh ?_ | refine HL.idxR (Rd.own 0 I) elemFr k I I I I hlt ?_ | refine HL.loadE (Rd.own 0 I) I I I I (by simp) I (cellsOf_get frC_len hx) ?_ | intro (bk : Nat))
   refine HL.ent (H' := stH b { V with ou := (a, c), bo := y } ((bl.take k).foldl (fun n f => box n f now) m) now ++ [ownC v 42 9 bl.length (cellsOf frC bl)]) (Ent.pick [2, 3, 4, 5, 6, 7, 8, 9, 10, 11, 1] I I) ?_
   refine HL.callW (r := fun _ : SV => .tuple ⟨[]⟩) (Q := fun _ => True) (G0 := stH b { V with ou := (a, c), bo := y } ((bl.take k).foldl (fun n f => box n f now) m) now) (H0 := [ownC v 42 9 bl.length (cellsOf frC bl)]) (G := fun z => stH b { V with ou := (a, c), bo := z } (box ((bl.take k).foldl (fun n f => box n f now) m) x now) now) fn72 I I I (fun w1 hw1 => sbox_any b { V with ou := (a, c), bo := y } _ now x _ w1 (hw1.pick [0, 1, 2, 3, 4, 5, 6, 7, 8, 9] I I) (hgo k)) ?_
   intro z _
   repeat' (first | refine zh ?_ | intro (bk : Nat))
   refine ih (k + 1, z) _ _ hlt (by show bl.length - (k + 1) < bl.length - k; omega) ⟨I, I, I, I, trivial⟩ ?_
   show Ent _ _ (ownC v 42 9 bl.length (cellsOf frC bl) :: stH b { V with ou := (a, c), bo := z } ((bl.take (k + 1)).foldl (fun n f => box n f now) m) now)
   rw [foldl_take hx]
   exact Ent.pick [10, 0, 1, 2, 3, 4, 5, 6, 7, 8, 9] I I
  ·have hke : k = bl.length := by have := of_decide_eq_false h2; omega
   subst hke
   repeat' (first | refine zh ?_ | intro (bk : Nat))
   refine HR.fin Tryz.func93 I [] (fun _ _ => trivial) ?_
   refine fun w' hw => ⟨((a, c), y), rfl, trivial, ?_⟩
   have w1 : Sat _ (ownC v 42 9 bl.length (cellsOf frC bl) :: stH b { V with ou := (a, c), bo := y } ((bl.take bl.length).foldl (fun n f => box n f now) m) now) w' := hw
   rw [List.take_length] at w1
   exact w1.pick [1, 2, 3, 4, 5, 6, 7, 8, 9, 10] I I
end Go.Proofs.YtgdgclmkpoaagaaGreat
